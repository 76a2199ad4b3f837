import Derived.Test.YtgpkppohfodhdaaGreatDoorExtF
import Derived.Test.YtgpkppohfodhdaaGreatDoorBuilderT
import Derived.Test.YtgpkppohfodhdaaGreatDoorPx1
import Derived.Test.YtgpkppohfodhdaaGreatDoorDecT
import Derived.WalkSmall
namespace Go.Proofs.YtgpkppohfodhdaaGreatDoor.Q
open Go.RowKit Go.Proofs.YtgpkppohfodhdaaGreatDoorW.PrintWords Go.Proofs.YtgpkppohfodhdaaGreatDoorW.PrintLast Go.Proofs.YtgpkppohfodhdaaGreatDoorW.PrintMore
open Go.Proofs.YtgpkppohfodhdaaGreatDoor.BuilderT (KeepT)
set_option linter.unusedVariables false
set_option linter.unusedSimpArgs false
attribute [local go_sem] max2_int min2_int max_two min_two max_three min_three max_four min_four
abbrev IsB (B b : Nat) (acc : List UInt8) (w : World) : Prop := Lib.IsBuilder 133 5 B b (Lib.byteCells acc) w
structure Wr (B b : Nat) (acc : List UInt8) (w w' : World) : Prop where
  bld : IsB B b acc w'
  bel : Below B w w'
  siz : w.heap.size ≤ w'.heap.size
  keep : KeepT w w'
theorem at_below {T e : TypeId} {B b : Nat} {p : Value} {bs : List Value} {w w' : World} (h : Lib.BuilderAt T e B b p bs w) (hb : Below w.heap.size w w') : Lib.BuilderAt T e B b p bs w' := by
  obtain ⟨hB, v, hk, ho, hn⟩ := h
  refine ⟨hB, v, (hb.block b (blk_lt hk)).trans hk, ?_, hn⟩
  obtain ⟨h1, h2⟩ := ho
  refine ⟨h1, ?_⟩
  rcases h2 with h2 | ⟨g, cap, cur, hv, hg, hh, r⟩
  · exact .inl h2
  · exact .inr ⟨g, cap, cur, hv, hg, (hb.block g (blk_lt hh)).trans hh, r⟩
theorem at_far {T e : TypeId} {B b : Nat} {p : Value} {bs : List Value} {w : World} {g : Nat} {cs : Array Value} {t : TypeId} (h : Lib.BuilderAt T e B b p bs w) (hg : w.heap[g]? = some (.cells cs t (0, 0))) (h1 : t ≠ T) (h2 : t ≠ e) (i : Nat) (u : Value) : Lib.BuilderAt T e B b p bs (w.setCell ⟨g, i, none⟩ u) := by
  obtain ⟨hB, v, hk, ho, hn⟩ := h
  have hne : ∀ {k : Nat} {cs' : Array Value} {t' : TypeId}, w.heap[k]? = some (.cells cs' t' (0, 0)) → t ≠ t' → k ≠ g := by
    rintro k cs' t' hk' ht rfl
    rw [hg] at hk'
    injection hk' with hk'
    injection hk' with _ h3
    exact ht h3
  refine ⟨hB, v, (Below.heap_setCell w ⟨g, i, none⟩ u b (hne hk h1)).trans hk, ?_, hn⟩
  obtain ⟨q1, q2⟩ := ho
  refine ⟨q1, ?_⟩
  rcases q2 with q2 | ⟨k, cap, cur, hv, hb, hh, r⟩
  · exact .inl q2
  · exact .inr ⟨k, cap, cur, hv, hb, (Below.heap_setCell w ⟨g, i, none⟩ u k (hne hh h2)).trans hh, r⟩
section
variable {B b : Nat} {acc acc2 : List UInt8} {w w1 w2 : World}
theorem IsB.below (h : IsB B b acc w) (hb : Below w.heap.size w w1) : IsB B b acc w1 := h.elim (fun h => .inl (at_below h hb)) (fun h => .inr (at_below h hb))
theorem IsB.far {g : Nat} {cs : Array Value} {t : TypeId} (h : IsB B b acc w) (hg : w.heap[g]? = some (.cells cs t (0, 0))) (h1 : t ≠ 133) (h2 : t ≠ 5) (i : Nat) (u : Value) : IsB B b acc (w.setCell ⟨g, i, none⟩ u) := h.elim (fun h => .inl (at_far h hg h1 h2 i u)) (fun h => .inr (at_far h hg h1 h2 i u))
theorem Wr.refl (h : IsB B b acc w) : Wr B b acc w w := ⟨h, Below.refl _ _, Nat.le_refl _, KeepT.refl _⟩
theorem Wr.below (h : Wr B b acc w w1) (hB : B ≤ w.heap.size) (hb : Below w1.heap.size w1 w2) : Wr B b acc w w2 :=
  ⟨h.bld.below hb, h.bel.trans ⟨hb.os, hb.tape, hb.output, hb.size, fun i hi => hb.block i (Nat.lt_of_lt_of_le hi (Nat.le_trans hB h.siz))⟩, Nat.le_trans h.siz hb.size, h.keep.trans (KeepT.below hb)⟩
theorem Wr.then (h : Wr B b acc w w1) (k : Wr B b acc2 w1 w2) : Wr B b acc2 w w2 := ⟨k.bld, h.bel.trans k.bel, Nat.le_trans h.siz k.siz, h.keep.trans k.keep⟩
theorem Wr.alloc (h : Wr B b acc w w1) (hB : B ≤ w.heap.size) (o : Obj) : Wr B b acc w (w1.alloc o) := h.below hB (below_alloc (Below.refl _ _) _)
theorem Wr.drewN (h : Wr B b acc w w1) (n : Nat) : Wr B b acc w (w1.drewN n) := ⟨h.bld, ⟨h.bel.os, h.bel.tape, h.bel.output, h.bel.size, h.bel.block⟩, h.siz, h.keep⟩
theorem Wr.set {g : Nat} {cs : Array Value} {t : TypeId} (h : Wr B b acc w w1) (hB : B ≤ w.heap.size) (hg : w1.heap[g]? = some (.cells cs t (0, 0))) (hw : w.heap.size ≤ g) (h1 : t ≠ 133) (h2 : t ≠ 5) (i : Nat) (u : Value) : Wr B b acc w (w1.setCell ⟨g, i, none⟩ u) :=
  ⟨h.bld.far hg h1 h2 i u, h.bel.setCell (p := ⟨g, i, none⟩) (Nat.le_trans hB hw) _, by simpa [World.setCell] using h.siz, h.keep.setNew hw i u⟩
end
theorem strCells_B (s : ByteArray) : Lib.strCells s = Lib.byteCells s.data.toList := rfl
theorem WriteString_calls (B b : Nat) (acc : List UInt8) (s : ByteArray) (w : World) (h : IsB B b acc w) (hB : B ≤ w.heap.size) (hl : acc.length + s.size ≤ 140737488355328) :
    Calls Tryz.prog 130 #[.pointer (some ⟨b, 0, none⟩), .string s] w fun e w' => e = .returned (.tuple #[.int .i64 s.size, .nilIface]) ∧ Wr B b (acc ++ s.data.toList) w w' := by
  refine (BuilderT.WriteString B b _ s w h (by simpa [Lib.byteCells_length] using hl) hB).mono ?_
  rintro e w' ⟨rfl, h1, h2, h3⟩
  refine ⟨rfl, .inr ?_, h2, h2.size, h3⟩
  rw [strCells_B] at h1
  have : Lib.byteCells (acc ++ s.data.toList) = Lib.byteCells acc ++ Lib.byteCells s.data.toList := by simp [Lib.byteCells]
  rw [this]
  exact h1
end Go.Proofs.YtgpkppohfodhdaaGreatDoor.Q
