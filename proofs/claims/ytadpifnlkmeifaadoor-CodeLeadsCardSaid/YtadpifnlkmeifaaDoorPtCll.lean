/- Texts that are merged: PtL, PtO, PtW, PtV, PtX. -/
import Derived.Test.YtadpifnlkmeifaaDoorPtBll
import Derived.Test.YtadpifnlkmeifaaDoorPx1
/- Unlike fine trees have unlike texts. -/
namespace Go.Proofs.YtadpifnlkmeifaaDoor.Pm
open Go Go.RowKit Go.Proofs.YtadpifnlkmeifaaDoor.Pl
open Go.Proofs.YtadpifnlkmeifaaDoor.Q (rngE rngA txtE txtA sameE sameA formT wordL moreL sepA)
set_option linter.unusedVariables false
set_option linter.unusedSimpArgs false
def isP (c : UInt8) : Bool := c == 40 || (c == 41 || c == 44)
def Stop (r : List UInt8) : Prop := r = [] ∨ ∃ c t, r = c :: t ∧ isP c = true
theorem kinds_of (k : Int) (w : List UInt8) (m a : Int) (h : formT k = some (w, m, a)) : k = 1 ∨ k = 2 ∨ k = 3 ∨ k = 4 ∨ k = 5 ∨ k = 6 ∨ k = 7 ∨ k = 8 ∨ k = 9 ∨ k = 10 ∨ k = 11 ∨ k = 12 := by
  rcases Q.form_kinds k with ho | ho
  · rw [Q.formT_out k ho] at h
    exact absurd h (by simp)
  · exact ho
theorem int_inj (n n' : Int) (h0 : 0 ≤ n) (h1 : n ≤ 1000000000000) (h0' : 0 ≤ n') (h1' : n' ≤ 1000000000000) (h : intL n = intL n') : n = n' := by
  unfold intL at h
  rw [if_neg (by omega), if_neg (by omega)] at h
  have := digs_inj (n := n.toNat) (m := n'.toNat) (by omega) (by omega) h
  omega
end Go.Proofs.YtadpifnlkmeifaaDoor.Pm

/- The statement TreeOnce, in the pure machine. -/
namespace Go.Proofs.YtadpifnlkmeifaaDoor.Pm
open Go Go.RowKit Go.Proofs.YtadpifnlkmeifaaDoor.Pl
open Go.Proofs.YtadpifnlkmeifaaDoor.Q (rngE rngA txtE txtA sameE sameA formT wordL moreL sepA)
set_option linter.unusedVariables false
set_option maxHeartbeats 1000000
end Go.Proofs.YtadpifnlkmeifaaDoor.Pm

/- Wild, in the pure machine: all but what writes into a row. -/
namespace Go.Proofs.YtadpifnlkmeifaaDoor.Pm
open Go Go.RowKit Go.Proofs.YtadpifnlkmeifaaDoor.Pl
open Go.Proofs.YtadpifnlkmeifaaDoor.Q (rngE rngA txtE txtA sameE sameA formT wordL moreL sepA)
set_option linter.unusedVariables false
set_option maxHeartbeats 1000000
theorem wkR {k n : Int} {nm : ByteArray} {l : List Ex} {xs : List (List CV)} (h : xs = l.map cellsE) : Wk (.agg [.int .i64 k, .int .i64 n, .str nm, .row xs]) (pE ⟨k, n, nm, l⟩) := wkE2 k n nm l h
end Go.Proofs.YtadpifnlkmeifaaDoor.Pm

/- Wild: the one way that writes into a row, walked by hand. -/
namespace Go.Proofs.YtadpifnlkmeifaaDoor.Pm
open Go Go.RowKit Go.Proofs.YtadpifnlkmeifaaDoor.Pl Go.Proofs.YtadpifnlkmeifaaDoorW.PrintWords Go.Proofs.YtadpifnlkmeifaaDoorW.PrintLast Go.Proofs.YtadpifnlkmeifaaDoorW.PrintMore
open Go.Proofs.YtadpifnlkmeifaaDoor.Q (rngE rngA txtE txtA sameE sameA formT wordL moreL sepA)
set_option linter.unusedVariables false
set_option linter.unusedSimpArgs false
set_option maxHeartbeats 1000000
set_option maxRecDepth 100000
structure Only (g : Nat) (w w' : World) : Prop where
  os : w'.os = w.os
  tape : w'.tape = w.tape
  output : w'.output = w.output
  size : w'.heap.size = w.heap.size
  block : ∀ k, k ≠ g → w'.heap[k]? = w.heap[k]?
theorem Only.set (g j : Nat) (w : World) (u : Value) : Only g w (w.setCell ⟨g, j, none⟩ u) := by
  have h := (Below.refl 0 w).setCell (p := ⟨g, j, none⟩) (Nat.zero_le _) u
  refine ⟨h.os, h.tape, h.output, ?_, fun k hk => Below.heap_setCell _ _ _ _ hk⟩
  simp
theorem Only.trans {g : Nat} {w w' w'' : World} (h : Only g w w') (k : Only g w' w'') : Only g w w'' := ⟨k.os.trans h.os, k.tape.trans h.tape, k.output.trans h.output, k.size.trans h.size, fun i hi => (k.block i hi).trans (h.block i hi)⟩
theorem Only.below {g B : Nat} {w w' : World} (h : Only g w w') (hg : B ≤ g) : Below B w w' := ⟨h.os, h.tape, h.output, Nat.le_of_eq h.size.symm, fun k hk => h.block k (by omega)⟩
section
variable {P : Program} {ops : Array Oper} {rest : List Oper} {o : Oper} {a : Act} {Q : Exit → Act → World → Prop}
end
end Go.Proofs.YtadpifnlkmeifaaDoor.Pm

/- The statement TreeTells, in the pure machine. -/
namespace Go.Proofs.YtadpifnlkmeifaaDoor.Pm
open Go Go.RowKit Go.Proofs.YtadpifnlkmeifaaDoor.Pl
open Go.Proofs.YtadpifnlkmeifaaDoor.Q (rngE rngA txtE txtA sameE sameA formT wordL moreL sepA)
set_option linter.unusedVariables false
set_option maxHeartbeats 1000000
/-- what may be asked of a tree -/
structure Tame (x : Ex) : Prop where
  rng : rngE x = true
  size : size x ≤ 1000000
end Go.Proofs.YtadpifnlkmeifaaDoor.Pm
