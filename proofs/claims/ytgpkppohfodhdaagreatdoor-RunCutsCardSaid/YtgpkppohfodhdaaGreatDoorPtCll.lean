import Derived.Test.YtgpkppohfodhdaaGreatDoorPtBll
import Derived.Test.YtgpkppohfodhdaaGreatDoorPx1
namespace Go.Proofs.YtgpkppohfodhdaaGreatDoor.Pm
open Go Go.RowKit Go.Proofs.YtgpkppohfodhdaaGreatDoor.Pl
open Go.Proofs.YtgpkppohfodhdaaGreatDoor.Q (rngE rngA txtE txtA sameE sameA formT wordL moreL sepA)
set_option linter.unusedVariables false
set_option linter.unusedSimpArgs false
def isP (c : UInt8) : Bool := c == 40 || (c == 41 || c == 44)
def Stop (r : List UInt8) : Prop := r = [] ∨ ∃ c t, r = c :: t ∧ isP c = true
theorem kinds_of (k : Int) (w : List UInt8) (m a : Int) (h : formT k = some (w, m, a)) : k = 1 ∨ k = 2 ∨ k = 3 ∨ k = 4 ∨ k = 5 ∨ k = 6 ∨ k = 7 ∨ k = 8 ∨ k = 9 ∨ k = 10 ∨ k = 11 ∨ k = 12 := by
 rcases Q.form_kinds k with ho | ho
 ·rw [Q.formT_out k ho] at h
  exact absurd h (by simp)
 ·exact ho
end Go.Proofs.YtgpkppohfodhdaaGreatDoor.Pm
namespace Go.Proofs.YtgpkppohfodhdaaGreatDoor.Pm
open Go Go.RowKit Go.Proofs.YtgpkppohfodhdaaGreatDoor.Pl
open Go.Proofs.YtgpkppohfodhdaaGreatDoor.Q (rngE rngA txtE txtA sameE sameA formT wordL moreL sepA)
set_option linter.unusedVariables false
set_option linter.unusedSimpArgs false
set_option maxHeartbeats 1000000
end Go.Proofs.YtgpkppohfodhdaaGreatDoor.Pm
namespace Go.Proofs.YtgpkppohfodhdaaGreatDoor.Pm
open Go Go.RowKit Go.Proofs.YtgpkppohfodhdaaGreatDoor.Pl
open Go.Proofs.YtgpkppohfodhdaaGreatDoor.Q (rngE rngA txtE txtA sameE sameA formT wordL moreL sepA)
set_option linter.unusedVariables false
set_option linter.unusedSimpArgs false
set_option maxHeartbeats 1000000
end Go.Proofs.YtgpkppohfodhdaaGreatDoor.Pm
namespace Go.Proofs.YtgpkppohfodhdaaGreatDoor.Pm
open Go Go.RowKit Go.Proofs.YtgpkppohfodhdaaGreatDoor.Pl Go.Proofs.YtgpkppohfodhdaaGreatDoorW.PrintWords Go.Proofs.YtgpkppohfodhdaaGreatDoorW.PrintLast Go.Proofs.YtgpkppohfodhdaaGreatDoorW.PrintMore
open Go.Proofs.YtgpkppohfodhdaaGreatDoor.Q (rngE rngA txtE txtA sameE sameA formT wordL moreL sepA)
set_option linter.unusedVariables false
set_option linter.unusedSimpArgs false
set_option maxHeartbeats 1000000
set_option maxRecDepth 100000
structure Only (g : Nat) (w w' : World) : Prop where
 os : w'.os = w.os
 tape : w'.tape = w.tape
 output : w'.output = w.output
 size : w'.heap.size = w.heap.size
 block : ∀ k, k ≠ g → w'.heap[k]? = w.heap[k]?
section
variable {P : Program} {ops : Array Oper} {rest : List Oper} {o : Oper} {a : Act} {Q : Exit → Act → World → Prop}
end
end Go.Proofs.YtgpkppohfodhdaaGreatDoor.Pm
namespace Go.Proofs.YtgpkppohfodhdaaGreatDoor.Pm
open Go Go.RowKit Go.Proofs.YtgpkppohfodhdaaGreatDoor.Pl
open Go.Proofs.YtgpkppohfodhdaaGreatDoor.Q (rngE rngA txtE txtA sameE sameA formT wordL moreL sepA)
set_option linter.unusedVariables false
set_option linter.unusedSimpArgs false
set_option maxHeartbeats 1000000
structure Tame (x : Ex) : Prop where
 rng : rngE x = true
 size : size x ≤ 1000000
end Go.Proofs.YtgpkppohfodhdaaGreatDoor.Pm
