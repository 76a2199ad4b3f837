/- hagglerlaw07.Strategy: an expression out of at most a hundred raw numbers. -/
import Derived.Test.YtjnbhdbpajnlgaaDoorQx2
namespace Go.Proofs.YtjnbhdbpajnlgaaDoor.Q
open Go.RowKit Go.Proofs.YtjnbhdbpajnlgaaDoorW.PrintWords Go.Proofs.YtjnbhdbpajnlgaaDoorW.PrintLast Go.Proofs.YtjnbhdbpajnlgaaDoorW.PrintMore
set_option linter.unusedVariables false
set_option linter.unusedSimpArgs false
attribute [local go_sem] max2_int min2_int max_two min_two max_three min_three max_four min_four

def hagglerlaw07_Strategy.f (k : Nat) (l0 : List Int) : Option (Int × Int × ByteArray × (List (S26))) := (hagglerlaw07_source_expr.f k (l0.take 100) 5 false).bind fun t => some (t.1, t.2.1, t.2.2.1, t.2.2.2.1)
theorem hagglerlaw07_Strategy.mono : ∀ a0 k, LeO (hagglerlaw07_Strategy.f k a0) (hagglerlaw07_Strategy.f (k + 1) a0) := by
  intro a0 k
  unfold hagglerlaw07_Strategy.f
  exact LeO.bind (hagglerlaw07_source_expr.mono _ _ _ _) (fun _ => LeO.refl _)
theorem N_put4 {d : Kd S26} {W : World} {base g : Nat} {v : Value} {xs : List S26} (h : Kd.N d 26 W base (fun k => base ≤ k) v xs) (hg : g < base) (u0 u1 u2 u3 : Value) :
    Kd.N d 26 ((((W.setCell ⟨g, 0, none⟩ u0).setCell ⟨g, 1, none⟩ u1).setCell ⟨g, 2, none⟩ u2).setCell ⟨g, 3, none⟩ u3) base (fun k => base ≤ k) v xs := by
  refine Kd.N_step h (fun k hk _ => ?_)
  have hne : k ≠ g := by omega
  rw [Below.heap_setCell _ _ _ _ hne, Below.heap_setCell _ _ _ _ hne, Below.heap_setCell _ _ _ _ hne, Below.heap_setCell _ _ _ _ hne]
theorem below4' {B g : Nat} {w w1 : World} (h : Below B w w1) (hg : B ≤ g) (u0 u1 u2 u3 : Value) : Below B w ((((w1.setCell ⟨g, 0, none⟩ u0).setCell ⟨g, 1, none⟩ u1).setCell ⟨g, 2, none⟩ u2).setCell ⟨g, 3, none⟩ u3) := below4 h hg u0 u1 u2 u3
theorem blk4' {w1 : World} {g : Nat} {t : TypeId} {a0 a1 a2 a3 : Value} (hg : w1.heap[g]? = some (.cells #[a0, a1, a2, a3] t (0, 0))) (u0 u1 u2 u3 : Value) :
    ((((w1.setCell ⟨g, 0, none⟩ u0).setCell ⟨g, 1, none⟩ u1).setCell ⟨g, 2, none⟩ u2).setCell ⟨g, 3, none⟩ u3).heap[g]? = some (.cells #[u0, u1, u2, u3] t (0, 0)) := blk4 hg u0 u1 u2 u3
set_option maxHeartbeats 1000000 in
set_option maxRecDepth 100000 in
theorem hagglerlaw07_Strategy.calls (k : Nat) (A0 : Option Addr) (c0 : Nat) (l0 : List Int) (r1 : Int) (r2 : Int) (r3 : ByteArray) (r4 : List (S26)) (w : World) (hr0 : Kd.C (Kd.int .i64) w A0 l0.length l0) (hc0 : l0.length ≤ c0) (h : hagglerlaw07_Strategy.f k l0 = some (r1, r2, r3, r4)) :
    Calls Tryd.prog 15 #[.slice A0 l0.length c0] w fun e w' => ∃ v3_ : Value, e = .returned (.agg #[.int .i64 r1, .int .i64 r2, .string r3, v3_]) ∧ Kd.N k26 26 w' w.heap.size (fun k_ => (w.heap.size ≤ k_)) v3_ r4 ∧ Below w.heap.size w w' := by
  obtain ⟨⟨q1, q2, q3, q4, q5⟩, hq, h⟩ := Option.bind_eq_some_iff.mp h
  simp only [Option.some.injEq, Prod.mk.injEq] at h
  obtain ⟨rfl, rfl, rfl, rfl⟩ := h
  have HQ := Aside0.mk hq
  have HB := Aside0.mk (Below.refl w.heap.size w)
  by_cases hl : (l0.length : Int) > 100
  · have c1 : decide ((l0.length : Int) > 100) = true := decide_eq_true hl
    have c2 : decide (100 < (l0.length : Int)) = true := decide_eq_true hl
    have hh : (100 : Int) ≤ (c0 : Int) := by omega
    have hh2 : 100 ≤ c0 := by omega
    have hnn : (l0.take 100).length = 100 := by rw [List.length_take]; omega
    have HN := Aside0.mk hnn.symm
    have HR := Aside0.mk (show Kd.C (Kd.int .i64) w A0 100 (l0.take 100) by have := Kd.C_take hr0 (m := 100) (by omega); rwa [hnn] at this)
    have HC : Aside0 (100 ≤ c0) := ⟨hh2⟩
    clear hq hr0 hnn
    go_enter Tryd.func15, Tryd.ntmps15
    go_wp2_with (first
      | ((with_reducible refine gate_dst (N := 2) rfl ?_); refine box_event ?hg (N := 2) ?hd (cs := #[.int .i64 0, .int .i64 0, .string (⟨#[]⟩ : ByteArray), .slice none 0 0]) (t := 26) ?hr ?_; (case hd => rfl); (case hg => rfl); (case hr => first | (go_simp; done) | (go_simp; rfl)); intro gc hg w1 hbox hb; have BC := Aside0.mk hbox; have GC := Aside0.mk (show w.heap.size ≤ gc by rw [hg]; exact Nat.le_refl _); have HB1 := Aside0.mk hb; clear hb hbox hg)
      | ((with_reducible refine gate_dst (N := 11) rfl ?_); refine box_event ?hg (N := 11) ?hd (cs := #[.slice A0 100 c0]) (t := 56) ?hr ?_; (case hd => rfl); (case hg => rfl); (case hr => first | (go_simp; done) | (go_simp; rfl)); intro gs hg w2 hbox hb; have GS := Aside0.mk (show w.heap.size ≤ gs by rw [hg]; exact HB1.out.size); have HNE : Aside0 (gc ≠ gs) := ⟨by rw [hg]; exact Nat.ne_of_lt (blk_lt BC.out)⟩; have BC2 := Aside0.mk (blk_below BC.out hb); have HB2 := Aside0.mk (below_step HB1.out hb); have IS := Aside0.mk (show IsS56 w w2 gs (l0.take 100) from ⟨A0, 100, c0, hbox, GS.out, HN.out, HC.out, HR.out⟩); have LT := Aside0.mk (blk_lt BC2.out); clear hb hbox hg)
      | (go_at_call 41; go_loud (refine (hagglerlaw07_source_expr.calls k gs (l0.take 100) 5 false _ _ _ _ _ w _ IS.out HB2.out HQ.out).mono ?_; rintro e w3 ⟨v3, rfl, hN, hI, hb, hk⟩; have N3 := Aside0.mk (Kd.N_step hN (fun _ _ _ => rfl)); have HB3 := Aside0.mk hb; have BC3 := Aside0.mk (KeepBut.blk hk (g' := gc) BC2.out HNE.out (by simp)); clear hN hI hb hk; have hcz0 : w3.cell? ⟨gc, 0, none⟩ = some (.int .i64 0) := (blk_cell BC3.out 0).trans rfl; have hcz1 : w3.cell? ⟨gc, 1, none⟩ = some (.int .i64 0) := (blk_cell BC3.out 1).trans rfl; have hcz2 : w3.cell? ⟨gc, 2, none⟩ = some (.string (⟨#[]⟩ : ByteArray)) := (blk_cell BC3.out 2).trans rfl; have hcz3 : w3.cell? ⟨gc, 3, none⟩ = some (.slice none 0 0) := (blk_cell BC3.out 3).trans rfl; have hfz0 := blk_frozen BC3.out 0; have hfz1 := blk_frozen BC3.out 1; have hfz2 := blk_frozen BC3.out 2; have hfz3 := blk_frozen BC3.out 3; obtain ⟨A4, c4, e4⟩ := Kd.N_slice N3.out; subst e4)))
    refine bodyPost_ret (results_cell_row rfl _ _ gc 26 #[.int .i64 q1, .int .i64 q2, .string q3, .slice A4 q4.length c4] (0, 0) _ rfl (blk4' BC3.out _ _ _ _) Tryd.underlying26 rfl (by kernel_rfl)) rfl ?_
    exact ⟨_, rfl, Kd.N_lower (Kd.N_mono (N_put4 N3.out LT.out _ _ _ _) (fun k_ hk_ => Nat.le_trans HB2.out.size hk_)) HB2.out.size, below4' HB3.out GC.out _ _ _ _⟩
  · have c1 : decide ((l0.length : Int) > 100) = false := decide_eq_false hl
    have c2 : decide (100 < (l0.length : Int)) = false := decide_eq_false hl
    have hnn : l0.take 100 = l0 := List.take_of_length_le (by omega)
    have HN : Aside0 (l0.length = (l0.take 100).length) := ⟨by rw [hnn]⟩
    have HR : Aside0 (Kd.C (Kd.int .i64) w A0 l0.length (l0.take 100)) := ⟨by rw [hnn]; exact hr0⟩
    have HC := Aside0.mk hc0
    clear hq hr0 hnn hl
    go_enter Tryd.func15, Tryd.ntmps15
    go_wp2_with (first
      | ((with_reducible refine gate_dst (N := 2) rfl ?_); refine box_event ?hg (N := 2) ?hd (cs := #[.int .i64 0, .int .i64 0, .string (⟨#[]⟩ : ByteArray), .slice none 0 0]) (t := 26) ?hr ?_; (case hd => rfl); (case hg => rfl); (case hr => first | (go_simp; done) | (go_simp; rfl)); intro gc hg w1 hbox hb; have BC := Aside0.mk hbox; have GC := Aside0.mk (show w.heap.size ≤ gc by rw [hg]; exact Nat.le_refl _); have HB1 := Aside0.mk hb; clear hb hbox hg)
      | ((with_reducible refine gate_dst (N := 11) rfl ?_); refine box_event ?hg (N := 11) ?hd (cs := #[.slice A0 l0.length c0]) (t := 56) ?hr ?_; (case hd => rfl); (case hg => rfl); (case hr => first | (go_simp; done) | (go_simp; rfl)); intro gs hg w2 hbox hb; have GS := Aside0.mk (show w.heap.size ≤ gs by rw [hg]; exact HB1.out.size); have HNE : Aside0 (gc ≠ gs) := ⟨by rw [hg]; exact Nat.ne_of_lt (blk_lt BC.out)⟩; have BC2 := Aside0.mk (blk_below BC.out hb); have HB2 := Aside0.mk (below_step HB1.out hb); have IS := Aside0.mk (show IsS56 w w2 gs (l0.take 100) from ⟨A0, l0.length, c0, hbox, GS.out, HN.out, HC.out, HR.out⟩); have LT := Aside0.mk (blk_lt BC2.out); clear hb hbox hg)
      | (go_at_call 41; go_loud (refine (hagglerlaw07_source_expr.calls k gs (l0.take 100) 5 false _ _ _ _ _ w _ IS.out HB2.out HQ.out).mono ?_; rintro e w3 ⟨v3, rfl, hN, hI, hb, hk⟩; have N3 := Aside0.mk (Kd.N_step hN (fun _ _ _ => rfl)); have HB3 := Aside0.mk hb; have BC3 := Aside0.mk (KeepBut.blk hk (g' := gc) BC2.out HNE.out (by simp)); clear hN hI hb hk; have hcz0 : w3.cell? ⟨gc, 0, none⟩ = some (.int .i64 0) := (blk_cell BC3.out 0).trans rfl; have hcz1 : w3.cell? ⟨gc, 1, none⟩ = some (.int .i64 0) := (blk_cell BC3.out 1).trans rfl; have hcz2 : w3.cell? ⟨gc, 2, none⟩ = some (.string (⟨#[]⟩ : ByteArray)) := (blk_cell BC3.out 2).trans rfl; have hcz3 : w3.cell? ⟨gc, 3, none⟩ = some (.slice none 0 0) := (blk_cell BC3.out 3).trans rfl; have hfz0 := blk_frozen BC3.out 0; have hfz1 := blk_frozen BC3.out 1; have hfz2 := blk_frozen BC3.out 2; have hfz3 := blk_frozen BC3.out 3; obtain ⟨A4, c4, e4⟩ := Kd.N_slice N3.out; subst e4)))
    refine bodyPost_ret (results_cell_row rfl _ _ gc 26 #[.int .i64 q1, .int .i64 q2, .string q3, .slice A4 q4.length c4] (0, 0) _ rfl (blk4' BC3.out _ _ _ _) Tryd.underlying26 rfl (by kernel_rfl)) rfl ?_
    exact ⟨_, rfl, Kd.N_lower (Kd.N_mono (N_put4 N3.out LT.out _ _ _ _) (fun k_ hk_ => Nat.le_trans HB2.out.size hk_)) HB2.out.size, below4' HB3.out GC.out _ _ _ _⟩
end Go.Proofs.YtjnbhdbpajnlgaaDoor.Q
