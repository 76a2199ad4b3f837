-- Printed by wip/pr/sprint.py (a session's program over the kit's print). Not trusted: Lean checks it.
import Derived.Test.YtglbgfjmfccemaaDoorQx0
import Derived.Test.YtglbgfjmfccemaaDoorExt
import Derived.Test.YtglbgfjmfccemaaDoorQx1
import Derived.Test.YtglbgfjmfccemaaDoorQx2
namespace Go.Proofs.YtglbgfjmfccemaaDoor.Q
open Go.RowKit Go.Proofs.YtglbgfjmfccemaaDoorW.PrintWords Go.Proofs.YtglbgfjmfccemaaDoorW.PrintLast Go.Proofs.YtglbgfjmfccemaaDoorW.PrintMore
attribute [local go_sem] max2_int min2_int max_two min_two max_three min_three max_four min_four   -- for this text's walks alone
set_option linter.unusedVariables false
set_option linter.unusedSimpArgs false

/-! ### hagglerlaw02_DecShape: function 6 -/
mutual
def hagglerlaw02_DecShape.j0 : Nat → Bool → Int → ByteArray → Int → Bool → Option (Bool)
  | 0, _, _, _, _, _ => none
  | k + 1, x3, x4, x5, x6, x36 => if x36 = true then (some false) else ((dec_Text.f (wrap64 (100 * x4))).bind fun t205 => (if x4 < 0 then (hagglerlaw02_DecShape.j1 k x3 x4 x5 x6 t205 1) else (hagglerlaw02_DecShape.j1 k x3 x4 x5 x6 t205 0)))
def hagglerlaw02_DecShape.j1 : Nat → Bool → Int → ByteArray → Int → ByteArray → Int → Option (Bool)
  | 0, _, _, _, _, _, _ => none
  | k + 1, x3, x4, x5, x6, x7, x8 => hagglerlaw02_DecShape.l0 k x3 x4 x5 x6 x7 x8 0
def hagglerlaw02_DecShape.j3 : Nat → Bool → Int → ByteArray → Int → ByteArray → Int → Int → Option (Bool)
  | 0, _, _, _, _, _, _, _ => none
  | k + 1, x3, x4, x5, x6, x7, x8, x9 => hagglerlaw02_DecShape.l1 k x3 x4 x5 x6 x7 x8 (⟨#[]⟩ : ByteArray) x9
def hagglerlaw02_DecShape.l1 : Nat → Bool → Int → ByteArray → Int → ByteArray → Int → ByteArray → Int → Option (Bool)
  | 0, _, _, _, _, _, _, _, _ => none
  | k + 1, x3, x4, x5, x6, x7, x8, x10, x11 => if x11 < x6 then (if 0 ≤ x11 then (if x11 < (x5.size : Int) then (if (bt x5 x11) = 46 then (hagglerlaw02_DecShape.l1 k x3 x4 x5 x6 x7 x8 x10 (wrap64 (x11 + 1))) else (if x11 ≤ (wrap64 (x11 + 1)) then (if (wrap64 (x11 + 1)) ≤ (x5.size : Int) then (if x10.size + (x5.extract (x11 : Int).toNat ((wrap64 (x11 + 1)) : Int).toNat).size ≤ 9223372036854775807 then (hagglerlaw02_DecShape.l1 k x3 x4 x5 x6 x7 x8 (x10 ++ (x5.extract (x11 : Int).toNat ((wrap64 (x11 + 1)) : Int).toNat)) (wrap64 (x11 + 1))) else (none)) else (none)) else (none))) else (none)) else (none)) else (if x4 = 0 then (if x3 = true then (if 0 ≤ x8 then (if x8 ≤ (x7.size : Int) then (if 1 + 3 ≤ 9223372036854775807 then (some ((x7.extract (x8 : Int).toNat x7.size).toList == ((⟨#[48]⟩ : ByteArray) ++ (⟨#[46, 48, 48]⟩ : ByteArray)).toList)) else (none)) else (none)) else (none)) else (some false)) else (if x3 = true then (if 0 ≤ x8 then (if x8 ≤ (x7.size : Int) then (if x10.size + 3 ≤ 9223372036854775807 then (some ((x7.extract (x8 : Int).toNat x7.size).toList == (x10 ++ (⟨#[46, 48, 48]⟩ : ByteArray)).toList)) else (none)) else (none)) else (none)) else (some false)))
def hagglerlaw02_DecShape.l0 : Nat → Bool → Int → ByteArray → Int → ByteArray → Int → Int → Option (Bool)
  | 0, _, _, _, _, _, _, _ => none
  | k + 1, x3, x4, x5, x6, x7, x8, x9 => if x4 = 0 then (hagglerlaw02_DecShape.j3 k x3 x4 x5 x6 x7 x8 x9) else (if x9 < x6 then (if 0 ≤ x9 then (if x9 < (x5.size : Int) then (if (bt x5 x9) = 48 then (hagglerlaw02_DecShape.l0 k x3 x4 x5 x6 x7 x8 (wrap64 (x9 + 1))) else (if (bt x5 x9) = 46 then (hagglerlaw02_DecShape.l0 k x3 x4 x5 x6 x7 x8 (wrap64 (x9 + 1))) else (if (bt x5 x9) = 45 then (hagglerlaw02_DecShape.l0 k x3 x4 x5 x6 x7 x8 (wrap64 (x9 + 1))) else (hagglerlaw02_DecShape.j3 k x3 x4 x5 x6 x7 x8 x9)))) else (none)) else (none)) else (hagglerlaw02_DecShape.j3 k x3 x4 x5 x6 x7 x8 x9))
end
def hagglerlaw02_DecShape.f (k : Nat) (a0 : Int) : Option (Bool) := (hagglerlaw02_awake.f k).bind fun t202 => ((hagglerlaw02_pick.f a0 20000000001).bind fun t203 => ((dec_Text.f (wrap64 (t203 - 10000000000))).bind fun t204 => (if (t204.size : Int) < 4 then (hagglerlaw02_DecShape.j0 k t202 (wrap64 (t203 - 10000000000)) t204 (t204.size : Int) true) else (if 0 ≤ (wrap64 ((t204.size : Int) - 3)) then (if (wrap64 ((t204.size : Int) - 3)) < (t204.size : Int) then (if (bt t204 (wrap64 ((t204.size : Int) - 3))) = 46 then (if 0 < (t204.size : Int) then (hagglerlaw02_DecShape.j0 k t202 (wrap64 (t203 - 10000000000)) t204 (t204.size : Int) (((bt t204 0) == 45) != (decide ((wrap64 (t203 - 10000000000)) < 0)))) else (none)) else (hagglerlaw02_DecShape.j0 k t202 (wrap64 (t203 - 10000000000)) t204 (t204.size : Int) true)) else (none)) else (none)))))
theorem hagglerlaw02_DecShape.mono_l : ∀ k, (∀ y0 y1 y2 y3 y4, LeO (hagglerlaw02_DecShape.j0 k y0 y1 y2 y3 y4) (hagglerlaw02_DecShape.j0 (k + 1) y0 y1 y2 y3 y4)) ∧ (∀ y0 y1 y2 y3 y4 y5, LeO (hagglerlaw02_DecShape.j1 k y0 y1 y2 y3 y4 y5) (hagglerlaw02_DecShape.j1 (k + 1) y0 y1 y2 y3 y4 y5)) ∧ (∀ y0 y1 y2 y3 y4 y5 y6, LeO (hagglerlaw02_DecShape.j3 k y0 y1 y2 y3 y4 y5 y6) (hagglerlaw02_DecShape.j3 (k + 1) y0 y1 y2 y3 y4 y5 y6)) ∧ (∀ y0 y1 y2 y3 y4 y5 y6 y7, LeO (hagglerlaw02_DecShape.l1 k y0 y1 y2 y3 y4 y5 y6 y7) (hagglerlaw02_DecShape.l1 (k + 1) y0 y1 y2 y3 y4 y5 y6 y7)) ∧ (∀ y0 y1 y2 y3 y4 y5 y6, LeO (hagglerlaw02_DecShape.l0 k y0 y1 y2 y3 y4 y5 y6) (hagglerlaw02_DecShape.l0 (k + 1) y0 y1 y2 y3 y4 y5 y6))
  | 0 => ⟨fun _ _ _ _ _ r h => by simp [hagglerlaw02_DecShape.j0] at h, fun _ _ _ _ _ _ r h => by simp [hagglerlaw02_DecShape.j1] at h, fun _ _ _ _ _ _ _ r h => by simp [hagglerlaw02_DecShape.j3] at h, fun _ _ _ _ _ _ _ _ r h => by simp [hagglerlaw02_DecShape.l1] at h, fun _ _ _ _ _ _ _ r h => by simp [hagglerlaw02_DecShape.l0] at h⟩
  | k + 1 => by
    obtain ⟨ih0, ih1, ih2, ih3, ih4⟩ := hagglerlaw02_DecShape.mono_l k
    refine ⟨?_, ?_, ?_, ?_, ?_⟩
    · intro y0 y1 y2 y3 y4
      unfold hagglerlaw02_DecShape.j0
      repeat' first
      | (with_reducible exact ih0 _ _ _ _ _)
      | (with_reducible exact ih1 _ _ _ _ _ _)
      | (with_reducible exact ih2 _ _ _ _ _ _ _)
      | (with_reducible exact ih3 _ _ _ _ _ _ _ _)
      | (with_reducible exact ih4 _ _ _ _ _ _ _)
      | (with_reducible exact hagglerlaw02_awake.mono _)
      | (with_reducible exact LeO.refl _)
      | (with_reducible exact LeO.none _)
      | (with_reducible refine LeO.ite ?_ ?_)
      | (with_reducible refine LeO.bind ?_ (fun _ => ?_))
      | exact ih0 _ _ _ _ _
      | exact ih1 _ _ _ _ _ _
      | exact ih2 _ _ _ _ _ _ _
      | exact ih3 _ _ _ _ _ _ _ _
      | exact ih4 _ _ _ _ _ _ _
      | exact hagglerlaw02_awake.mono _
      | exact LeO.none _
      | refine LeO.ite ?_ ?_
      | refine LeO.bind ?_ (fun _ => ?_)
    · intro y0 y1 y2 y3 y4 y5
      unfold hagglerlaw02_DecShape.j1
      repeat' first
      | (with_reducible exact ih0 _ _ _ _ _)
      | (with_reducible exact ih1 _ _ _ _ _ _)
      | (with_reducible exact ih2 _ _ _ _ _ _ _)
      | (with_reducible exact ih3 _ _ _ _ _ _ _ _)
      | (with_reducible exact ih4 _ _ _ _ _ _ _)
      | (with_reducible exact hagglerlaw02_awake.mono _)
      | (with_reducible exact LeO.refl _)
      | (with_reducible exact LeO.none _)
      | (with_reducible refine LeO.ite ?_ ?_)
      | (with_reducible refine LeO.bind ?_ (fun _ => ?_))
      | exact ih0 _ _ _ _ _
      | exact ih1 _ _ _ _ _ _
      | exact ih2 _ _ _ _ _ _ _
      | exact ih3 _ _ _ _ _ _ _ _
      | exact ih4 _ _ _ _ _ _ _
      | exact hagglerlaw02_awake.mono _
      | exact LeO.none _
      | refine LeO.ite ?_ ?_
      | refine LeO.bind ?_ (fun _ => ?_)
    · intro y0 y1 y2 y3 y4 y5 y6
      unfold hagglerlaw02_DecShape.j3
      repeat' first
      | (with_reducible exact ih0 _ _ _ _ _)
      | (with_reducible exact ih1 _ _ _ _ _ _)
      | (with_reducible exact ih2 _ _ _ _ _ _ _)
      | (with_reducible exact ih3 _ _ _ _ _ _ _ _)
      | (with_reducible exact ih4 _ _ _ _ _ _ _)
      | (with_reducible exact hagglerlaw02_awake.mono _)
      | (with_reducible exact LeO.refl _)
      | (with_reducible exact LeO.none _)
      | (with_reducible refine LeO.ite ?_ ?_)
      | (with_reducible refine LeO.bind ?_ (fun _ => ?_))
      | exact ih0 _ _ _ _ _
      | exact ih1 _ _ _ _ _ _
      | exact ih2 _ _ _ _ _ _ _
      | exact ih3 _ _ _ _ _ _ _ _
      | exact ih4 _ _ _ _ _ _ _
      | exact hagglerlaw02_awake.mono _
      | exact LeO.none _
      | refine LeO.ite ?_ ?_
      | refine LeO.bind ?_ (fun _ => ?_)
    · intro y0 y1 y2 y3 y4 y5 y6 y7
      unfold hagglerlaw02_DecShape.l1
      repeat' first
      | (with_reducible exact ih0 _ _ _ _ _)
      | (with_reducible exact ih1 _ _ _ _ _ _)
      | (with_reducible exact ih2 _ _ _ _ _ _ _)
      | (with_reducible exact ih3 _ _ _ _ _ _ _ _)
      | (with_reducible exact ih4 _ _ _ _ _ _ _)
      | (with_reducible exact hagglerlaw02_awake.mono _)
      | (with_reducible exact LeO.refl _)
      | (with_reducible exact LeO.none _)
      | (with_reducible refine LeO.ite ?_ ?_)
      | (with_reducible refine LeO.bind ?_ (fun _ => ?_))
      | exact ih0 _ _ _ _ _
      | exact ih1 _ _ _ _ _ _
      | exact ih2 _ _ _ _ _ _ _
      | exact ih3 _ _ _ _ _ _ _ _
      | exact ih4 _ _ _ _ _ _ _
      | exact hagglerlaw02_awake.mono _
      | exact LeO.none _
      | refine LeO.ite ?_ ?_
      | refine LeO.bind ?_ (fun _ => ?_)
    · intro y0 y1 y2 y3 y4 y5 y6
      unfold hagglerlaw02_DecShape.l0
      repeat' first
      | (with_reducible exact ih0 _ _ _ _ _)
      | (with_reducible exact ih1 _ _ _ _ _ _)
      | (with_reducible exact ih2 _ _ _ _ _ _ _)
      | (with_reducible exact ih3 _ _ _ _ _ _ _ _)
      | (with_reducible exact ih4 _ _ _ _ _ _ _)
      | (with_reducible exact hagglerlaw02_awake.mono _)
      | (with_reducible exact LeO.refl _)
      | (with_reducible exact LeO.none _)
      | (with_reducible refine LeO.ite ?_ ?_)
      | (with_reducible refine LeO.bind ?_ (fun _ => ?_))
      | exact ih0 _ _ _ _ _
      | exact ih1 _ _ _ _ _ _
      | exact ih2 _ _ _ _ _ _ _
      | exact ih3 _ _ _ _ _ _ _ _
      | exact ih4 _ _ _ _ _ _ _
      | exact hagglerlaw02_awake.mono _
      | exact LeO.none _
      | refine LeO.ite ?_ ?_
      | refine LeO.bind ?_ (fun _ => ?_)
theorem hagglerlaw02_DecShape.mono : ∀ a0 k, LeO (hagglerlaw02_DecShape.f k a0) (hagglerlaw02_DecShape.f (k + 1) a0) := by
  intro a0 k
  obtain ⟨ih0, ih1, ih2, ih3, ih4⟩ := hagglerlaw02_DecShape.mono_l k
  unfold hagglerlaw02_DecShape.f
  repeat' first
      | (with_reducible exact ih0 _ _ _ _ _)
      | (with_reducible exact ih1 _ _ _ _ _ _)
      | (with_reducible exact ih2 _ _ _ _ _ _ _)
      | (with_reducible exact ih3 _ _ _ _ _ _ _ _)
      | (with_reducible exact ih4 _ _ _ _ _ _ _)
      | (with_reducible exact hagglerlaw02_awake.mono _)
      | (with_reducible exact LeO.refl _)
      | (with_reducible exact LeO.none _)
      | (with_reducible refine LeO.ite ?_ ?_)
      | (with_reducible refine LeO.bind ?_ (fun _ => ?_))
      | exact ih0 _ _ _ _ _
      | exact ih1 _ _ _ _ _ _
      | exact ih2 _ _ _ _ _ _ _
      | exact ih3 _ _ _ _ _ _ _ _
      | exact ih4 _ _ _ _ _ _ _
      | exact hagglerlaw02_awake.mono _
      | exact LeO.none _
      | refine LeO.ite ?_ ?_
      | refine LeO.bind ?_ (fun _ => ?_)
set_option maxHeartbeats 8000000 in
set_option maxRecDepth 100000 in
theorem hagglerlaw02_DecShape.calls (k : Nat) (a0 : Int) (r : Bool) (w : World) (hLd : LaidW w) (h : hagglerlaw02_DecShape.f k a0 = some r) :
    Calls Tryd.prog 6 #[.int .i64 a0] w fun e w' => e = .returned (.bool r) ∧ Below w.heap.size w w' := by
  have HLd := Aside0.mk hLd
  clear hLd
  have HB := Aside0.mk (Below.refl w.heap.size w)
  have H : ((hagglerlaw02_awake.f k).bind fun t202 => ((hagglerlaw02_pick.f a0 20000000001).bind fun t203 => ((dec_Text.f (wrap64 (t203 - 10000000000))).bind fun t204 => (if (t204.size : Int) < 4 then (hagglerlaw02_DecShape.j0 k t202 (wrap64 (t203 - 10000000000)) t204 (t204.size : Int) true) else (if 0 ≤ (wrap64 ((t204.size : Int) - 3)) then (if (wrap64 ((t204.size : Int) - 3)) < (t204.size : Int) then (if (bt t204 (wrap64 ((t204.size : Int) - 3))) = 46 then (if 0 < (t204.size : Int) then (hagglerlaw02_DecShape.j0 k t202 (wrap64 (t203 - 10000000000)) t204 (t204.size : Int) (((bt t204 0) == 45) != (decide ((wrap64 (t203 - 10000000000)) < 0)))) else (none)) else (hagglerlaw02_DecShape.j0 k t202 (wrap64 (t203 - 10000000000)) t204 (t204.size : Int) true)) else (none)) else (none)))))) = some r := h
  clear h
  replace H := Option.bind_eq_some_iff.mp H
  obtain ⟨t202, A20, H⟩ := H
  replace H : ((hagglerlaw02_pick.f a0 20000000001).bind fun t203 => ((dec_Text.f (wrap64 (t203 - 10000000000))).bind fun t204 => (if (t204.size : Int) < 4 then (hagglerlaw02_DecShape.j0 k t202 (wrap64 (t203 - 10000000000)) t204 (t204.size : Int) true) else (if 0 ≤ (wrap64 ((t204.size : Int) - 3)) then (if (wrap64 ((t204.size : Int) - 3)) < (t204.size : Int) then (if (bt t204 (wrap64 ((t204.size : Int) - 3))) = 46 then (if 0 < (t204.size : Int) then (hagglerlaw02_DecShape.j0 k t202 (wrap64 (t203 - 10000000000)) t204 (t204.size : Int) (((bt t204 0) == 45) != (decide ((wrap64 (t203 - 10000000000)) < 0)))) else (none)) else (hagglerlaw02_DecShape.j0 k t202 (wrap64 (t203 - 10000000000)) t204 (t204.size : Int) true)) else (none)) else (none))))) = some r := H
  have A2 := Aside0.mk A20
  clear A20
  replace H := Option.bind_eq_some_iff.mp H
  obtain ⟨t203, A30, H⟩ := H
  replace H : ((dec_Text.f (wrap64 (t203 - 10000000000))).bind fun t204 => (if (t204.size : Int) < 4 then (hagglerlaw02_DecShape.j0 k t202 (wrap64 (t203 - 10000000000)) t204 (t204.size : Int) true) else (if 0 ≤ (wrap64 ((t204.size : Int) - 3)) then (if (wrap64 ((t204.size : Int) - 3)) < (t204.size : Int) then (if (bt t204 (wrap64 ((t204.size : Int) - 3))) = 46 then (if 0 < (t204.size : Int) then (hagglerlaw02_DecShape.j0 k t202 (wrap64 (t203 - 10000000000)) t204 (t204.size : Int) (((bt t204 0) == 45) != (decide ((wrap64 (t203 - 10000000000)) < 0)))) else (none)) else (hagglerlaw02_DecShape.j0 k t202 (wrap64 (t203 - 10000000000)) t204 (t204.size : Int) true)) else (none)) else (none)))) = some r := H
  have A3 := Aside0.mk A30
  clear A30
  replace H := Option.bind_eq_some_iff.mp H
  obtain ⟨t204, A40, H⟩ := H
  replace H : (if (t204.size : Int) < 4 then (hagglerlaw02_DecShape.j0 k t202 (wrap64 (t203 - 10000000000)) t204 (t204.size : Int) true) else (if 0 ≤ (wrap64 ((t204.size : Int) - 3)) then (if (wrap64 ((t204.size : Int) - 3)) < (t204.size : Int) then (if (bt t204 (wrap64 ((t204.size : Int) - 3))) = 46 then (if 0 < (t204.size : Int) then (hagglerlaw02_DecShape.j0 k t202 (wrap64 (t203 - 10000000000)) t204 (t204.size : Int) (((bt t204 0) == 45) != (decide ((wrap64 (t203 - 10000000000)) < 0)))) else (none)) else (hagglerlaw02_DecShape.j0 k t202 (wrap64 (t203 - 10000000000)) t204 (t204.size : Int) true)) else (none)) else (none))) = some r := H
  have A4 := Aside0.mk A40
  clear A40
  have HC5 := Aside0.mk H
  clear H
  go_enter Tryd.func6, Tryd.ntmps6
  go_upto_region 5 with (first | ((with_reducible refine gate_callee (f := 9) rfl ?_); refine goesL_ (some 12) rfl rfl Tryd.func9 (by kernel_rfl) rfl #[] rfl (by (try simp only [List.map_toArray, List.map_cons, List.map_nil]); first | done | rfl | (simp only [List.length_drop, List.length_take]; rfl)) ?_; (with_reducible refine (hagglerlaw02_awake.calls k  t202 _ ?side1 A2.out).mono ?_); (case side1 => exact LaidW.below HLd.out (by repeat (first | (with_reducible first | exact HB.out | apply below_alloc | apply pw_below_drewN | apply below_drew1) | exact HB.out))); rintro e w6 ⟨rfl, hb⟩; refine ⟨_, rfl, ?_⟩; have n0_ := Aside0.mk (below_step (by repeat (first | (with_reducible first | exact HB.out | apply below_alloc | apply pw_below_drewN | apply below_drew1) | exact HB.out)) hb); clear HB; have HB := n0_; clear n0_; (try clear hb); (try clear hb2); (try clear hk); (try clear hi)) | ((with_reducible refine gate_callee (f := 11) rfl ?_); refine goesL_ (some 14) rfl rfl Tryd.func11 (by kernel_rfl) rfl #[.int .i64 a0, .int .i64 20000000001] rfl (by (try simp only [List.map_toArray, List.map_cons, List.map_nil]); first | done | rfl | (simp only [List.length_drop, List.length_take]; rfl)) ?_; (with_reducible refine (hagglerlaw02_pick.calls a0 20000000001 t203 _ A3.out).mono ?_); rintro e w' ⟨rfl, ⟨nd, rfl⟩⟩; refine ⟨_, rfl, ?_⟩) | ((with_reducible refine gate_callee (f := 12) rfl ?_); refine goesL_ (some 17) rfl rfl Tryd.func12 (by kernel_rfl) rfl #[.int .i64 (wrap64 (t203 - 10000000000))] rfl (by (try simp only [List.map_toArray, List.map_cons, List.map_nil]); first | done | rfl | (simp only [List.length_drop, List.length_take]; rfl)) ?_; (with_reducible refine (dec_Text.calls (wrap64 (t203 - 10000000000)) t204 _ ?side1 A4.out).mono ?_); (case side1 => exact LaidW.below HLd.out (by repeat (first | (with_reducible first | exact HB.out | apply below_alloc | apply pw_below_drewN | apply below_drew1) | exact HB.out))); rintro e w7 ⟨rfl, hb⟩; refine ⟨_, rfl, ?_⟩; have n0_ := Aside0.mk (below_step (by repeat (first | (with_reducible first | exact HB.out | apply below_alloc | apply pw_below_drewN | apply below_drew1) | exact HB.out)) hb); clear HB; have HB := n0_; clear n0_; (try clear hb); (try clear hb2); (try clear hk); (try clear hi)))
  (try simp only [Act.put, List.setIfInBounds_toArray, List.set_cons_zero, List.set_cons_succ])
  go_cut [36] (fun v36 wc => ∃ (kq : Nat) (x36_4 : Bool), v36 = .bool x36_4 ∧ Aside0 (hagglerlaw02_DecShape.j0 kq t202 (wrap64 (t203 - 10000000000)) t204 (t204.size : Int) x36_4 = some r) ∧ Aside0 (kq ≤ k) ∧ Aside0 (Below w.heap.size w wc))
  case first =>
    have H := HC5.out
    clear HC5
    by_cases c8 : (t204.size : Int) < 4
    · rw [if_pos c8] at H
      have c8b0 : decide ((t204.size : Int) < 4) = true := decide_eq_true c8
      have c8b1 : decide (t204.size < 4) = true := decide_eq_true (by omega)
      clear c8
      (first | rw [c8b0] | (simp only [i64_w, i32_w]; rw [c8b0]) | skip)
      have H' := Aside0.mk H
      clear H
      go_wp2
      go_meet
      case rel => exact ⟨_, (true), (by first | rfl | (simp; done) | (simp [*]; done)), H', ⟨by first | omega | exact Nat.le_refl _⟩, ⟨by repeat (first | (with_reducible first | exact HB.out | apply below_alloc | apply pw_below_drewN | apply below_drew1) | exact HB.out)⟩⟩
    · rw [if_neg c8] at H
      have c8b0 : decide ((t204.size : Int) < 4) = false := decide_eq_false c8
      have c8b1 : decide (t204.size < 4) = false := decide_eq_false (by omega)
      clear c8
      (first | rw [c8b0] | (simp only [i64_w, i32_w]; rw [c8b0]) | skip)
      obtain ⟨ji9, hji9⟩ : ∃ j_ : Int, (wrap64 ((t204.size : Int) - 3)) = j_ := ⟨_, rfl⟩
      replace H : (if 0 ≤ (ji9) then (if (ji9) < (t204.size : Int) then (if (bt t204 (ji9)) = 46 then (if 0 < (t204.size : Int) then (hagglerlaw02_DecShape.j0 k t202 (wrap64 (t203 - 10000000000)) t204 (t204.size : Int) (((bt t204 0) == 45) != (decide ((wrap64 (t203 - 10000000000)) < 0)))) else (none)) else (hagglerlaw02_DecShape.j0 k t202 (wrap64 (t203 - 10000000000)) t204 (t204.size : Int) true)) else (none)) else (none)) = some r := by first | (rw [hji9] at H; exact H) | (simp only [hji9] at H ⊢; exact H)
      have hji9w : (IntKind.i64.wrap ((t204.size : Int) - 3)) = ji9 := (i64_w _).trans hji9
      by_cases c10 : 0 ≤ (ji9)
      · rw [if_pos c10] at H
        have c10b0 : decide (0 ≤ (ji9)) = true := decide_eq_true c10
        clear c10
        by_cases c11 : (ji9) < (t204.size : Int)
        · rw [if_pos c11] at H
          have c11b0 : decide ((ji9) < (t204.size : Int)) = true := decide_eq_true c11
          clear c11
          by_cases c13 : (bt t204 (ji9)) = 46
          · rw [if_pos c13] at H
            have c13b0 : ((bt t204 (ji9)) == 46) = true := beq_iff_eq.mpr c13
            have c13b1 : ((bt t204 (ji9)) != 46) = false := bne_eq_false_iff_eq.mpr c13
            clear c13
            by_cases c14 : 0 < (t204.size : Int)
            · rw [if_pos c14] at H
              have c14b0 : decide (0 < (t204.size : Int)) = true := decide_eq_true c14
              have c14b1 : decide (0 < t204.size) = true := decide_eq_true (by omega)
              clear c14
              have H' := Aside0.mk H
              clear H
              have p12 : 0 ≤ ((ji9) : Int) := of_decide_eq_true (by first | (with_reducible assumption) | assumption)
              have q12 : (ji9) < (t204.size : Int) := of_decide_eq_true (by first | (with_reducible assumption) | assumption)
              have hx12 := bt_at t204 (ji9)
              replace p12 := eq_true p12
              replace q12 := eq_true q12
              have p15 : 0 ≤ (0 : Int) := (by omega)
              have q15 : 0 < t204.size := (by have : (0 : Int) < (t204.size : Int) := of_decide_eq_true (by first | (with_reducible assumption) | assumption); omega)
              have hx15 : ∀ h : 0 < t204.size, ((t204[0]'h).toNat : Int) = bt t204 0 := bt_at t204 0
              clear p15
              have qi15 : (0 < (t204.size : Int)) = True := eq_true (of_decide_eq_true (by first | (with_reducible assumption) | assumption))
              replace q15 := eq_true q15
              go_wp2
              go_meet
              case rel => exact ⟨_, ((((bt t204 0) == 45) != (decide ((wrap64 (t203 - 10000000000)) < 0)))), (by first | rfl | (simp; done) | (simp [*]; done)), H', ⟨by first | omega | exact Nat.le_refl _⟩, ⟨by repeat (first | (with_reducible first | exact HB.out | apply below_alloc | apply pw_below_drewN | apply below_drew1) | exact HB.out)⟩⟩
            · rw [if_neg c14] at H
              exact absurd H (by simp)
          · rw [if_neg c13] at H
            have c13b0 : ((bt t204 (ji9)) == 46) = false := beq_eq_false_iff_ne.mpr c13
            have c13b1 : ((bt t204 (ji9)) != 46) = true := bne_iff_ne.mpr c13
            have H' := Aside0.mk H
            clear H
            have p12 : 0 ≤ ((ji9) : Int) := of_decide_eq_true (by first | (with_reducible assumption) | assumption)
            have q12 : (ji9) < (t204.size : Int) := of_decide_eq_true (by first | (with_reducible assumption) | assumption)
            have hx12 := bt_at t204 (ji9)
            replace p12 := eq_true p12
            replace q12 := eq_true q12
            go_wp2
            go_meet
            case rel => exact ⟨_, (true), (by first | rfl | (simp; done) | (simp [*]; done)), H', ⟨by first | omega | exact Nat.le_refl _⟩, ⟨by repeat (first | (with_reducible first | exact HB.out | apply below_alloc | apply pw_below_drewN | apply below_drew1) | exact HB.out)⟩⟩
        · rw [if_neg c11] at H
          exact absurd H (by simp)
      · rw [if_neg c10] at H
        exact absurd H (by simp)
  case rest =>
    clear HC5
    try clear c1
    try clear p1
    try clear q1
    try clear hx1
    try clear qi1
    try clear p2
    try clear c6
    try clear p6
    try clear c8
    try clear c8b0
    try clear c8b1
    try clear c9
    try clear c10
    try clear c10b0
    try clear c11
    try clear c11b0
    try clear c12
    try clear p12
    try clear q12
    try clear hx12
    try clear c13
    try clear c13b0
    try clear c13b1
    try clear c14
    try clear c14b0
    try clear c14b1
    try clear p15
    try clear q15
    try clear hx15
    try clear qi15
    try clear p12
    try clear p15
    try clear q12
    try clear q15
    obtain ⟨kq, x36_4, rfl, HA, HJ4, HB⟩ := hcut
    cases kq with
    | zero => exact absurd HA.out (by simp [hagglerlaw02_DecShape.j0])
    | succ kj4 =>
      have H := HA.out
      clear HA
      simp only [hagglerlaw02_DecShape.j0] at H
      by_cases c16 : x36_4 = true
      · subst c16
        have H1 : (some false) = some r := by rw [if_pos rfl] at H; exact H
        clear H
        have H := H1
        clear H1
        obtain rfl := Option.some.inj H
        go_wp2
        go_ret
        exact ⟨by first | rfl | (simp [errW_none, errW_some] <;> rfl) | (simp [*, errW_none, errW_some] <;> rfl), by repeat (first | (with_reducible first | exact HB.out | apply below_alloc | apply pw_below_drewN | apply below_drew1) | exact HB.out)⟩
      · replace c16 := Bool.eq_false_iff.mpr c16
        subst c16
        have H1 : ((dec_Text.f (wrap64 (100 * (wrap64 (t203 - 10000000000))))).bind fun t205 => (if (wrap64 (t203 - 10000000000)) < 0 then (hagglerlaw02_DecShape.j1 kj4 t202 (wrap64 (t203 - 10000000000)) t204 (t204.size : Int) t205 1) else (hagglerlaw02_DecShape.j1 kj4 t202 (wrap64 (t203 - 10000000000)) t204 (t204.size : Int) t205 0))) = some r := by rw [if_neg (show ¬ (false = true) by decide)] at H; exact H
        clear H
        have H := H1
        clear H1
        replace H := Option.bind_eq_some_iff.mp H
        obtain ⟨t205, A170, H⟩ := H
        replace H : (if (wrap64 (t203 - 10000000000)) < 0 then (hagglerlaw02_DecShape.j1 kj4 t202 (wrap64 (t203 - 10000000000)) t204 (t204.size : Int) t205 1) else (hagglerlaw02_DecShape.j1 kj4 t202 (wrap64 (t203 - 10000000000)) t204 (t204.size : Int) t205 0)) = some r := H
        have A17 := Aside0.mk A170
        clear A170
        have HC18 := Aside0.mk H
        clear H
        go_upto_if 41 with (first | ((with_reducible refine gate_callee (f := 12) rfl ?_); refine goesL_ (some 39) rfl rfl Tryd.func12 (by kernel_rfl) rfl #[.int .i64 (wrap64 (100 * (wrap64 (t203 - 10000000000))))] rfl (by (try simp only [List.map_toArray, List.map_cons, List.map_nil]); first | done | rfl | (simp only [List.length_drop, List.length_take]; rfl)) ?_; (with_reducible refine (dec_Text.calls (wrap64 (100 * (wrap64 (t203 - 10000000000)))) t205 _ ?side1 A17.out).mono ?_); (case side1 => exact LaidW.below HLd.out (by repeat (first | (with_reducible first | exact HB.out | apply below_alloc | apply pw_below_drewN | apply below_drew1) | exact HB.out))); rintro e w19 ⟨rfl, hb⟩; refine ⟨_, rfl, ?_⟩; have n0_ := Aside0.mk (below_step (by repeat (first | (with_reducible first | exact HB.out | apply below_alloc | apply pw_below_drewN | apply below_drew1) | exact HB.out)) hb); clear HB; have HB := n0_; clear n0_; (try clear hb); (try clear hb2); (try clear hk); (try clear hi)))
        (try simp only [Act.put, List.setIfInBounds_toArray, List.set_cons_zero, List.set_cons_succ])
        go_cut [8] (fun v8 wc => ∃ (kq : Nat) (x8_17 : Int), v8 = .int .i64 x8_17 ∧ Aside0 (hagglerlaw02_DecShape.j1 kq t202 (wrap64 (t203 - 10000000000)) t204 (t204.size : Int) t205 x8_17 = some r) ∧ Aside0 (kq ≤ kj4) ∧ Aside0 (Below w.heap.size w wc))
        case first =>
          have H := HC18.out
          clear HC18
          by_cases c20 : (wrap64 (t203 - 10000000000)) < 0
          · rw [if_pos c20] at H
            have c20b0 : decide ((wrap64 (t203 - 10000000000)) < 0) = true := decide_eq_true c20
            clear c20
            (first | rw [c20b0] | (simp only [i64_w, i32_w]; rw [c20b0]) | skip)
            have H' := Aside0.mk H
            clear H
            go_wp2
            go_meet
            case rel => exact ⟨_, (1), (by first | rfl | (simp; done) | (simp [*]; done)), H', ⟨by have := HJ4.out; first | omega | exact Nat.le_refl _⟩, ⟨by repeat (first | (with_reducible first | exact HB.out | apply below_alloc | apply pw_below_drewN | apply below_drew1) | exact HB.out)⟩⟩
          · rw [if_neg c20] at H
            have c20b0 : decide ((wrap64 (t203 - 10000000000)) < 0) = false := decide_eq_false c20
            clear c20
            (first | rw [c20b0] | (simp only [i64_w, i32_w]; rw [c20b0]) | skip)
            have H' := Aside0.mk H
            clear H
            go_wp2
            go_meet
            case rel => exact ⟨_, (0), (by first | rfl | (simp; done) | (simp [*]; done)), H', ⟨by have := HJ4.out; first | omega | exact Nat.le_refl _⟩, ⟨by repeat (first | (with_reducible first | exact HB.out | apply below_alloc | apply pw_below_drewN | apply below_drew1) | exact HB.out)⟩⟩
        case rest =>
          clear HC18
          try clear c1
          try clear p1
          try clear q1
          try clear hx1
          try clear qi1
          try clear c2
          try clear p2
          try clear c6
          try clear p6
          try clear c8
          try clear c8b0
          try clear c8b1
          try clear c9
          try clear c10
          try clear c10b0
          try clear c11
          try clear c11b0
          try clear c12
          try clear p12
          try clear q12
          try clear hx12
          try clear c13
          try clear c13b0
          try clear c13b1
          try clear c14
          try clear c14b0
          try clear c14b1
          try clear p15
          try clear q15
          try clear hx15
          try clear qi15
          try clear c16
          try clear c20
          try clear c20b0
          try clear p1
          try clear p12
          try clear p15
          try clear p2
          try clear p6
          try clear q1
          try clear q12
          try clear q15
          obtain ⟨kq, x8_17, rfl, HA, HJ17, HB⟩ := hcut
          cases kq with
          | zero => exact absurd HA.out (by simp [hagglerlaw02_DecShape.j1])
          | succ kj17 =>
            have H := HA.out
            clear HA
            simp only [hagglerlaw02_DecShape.j1] at H
            have HC21 := Aside0.mk H
            clear H
            go_upto_block 0 with (fail)
            go_cut [9] (fun v9 wc => ∃ (kq : Nat) (x9_20 : Int), v9 = .int .i64 x9_20 ∧ Aside0 (hagglerlaw02_DecShape.j3 kq t202 (wrap64 (t203 - 10000000000)) t204 (t204.size : Int) t205 x8_17 x9_20 = some r) ∧ Aside0 (kq ≤ kj17) ∧ Aside0 (Below w.heap.size w wc))
            case first =>
              have H := HC21.out
              clear HC21
              have H' := Aside0.mk H
              clear H
              go_wp2
              go_loopg [9] kj17 (fun kq v9 w' => ∃ (x9_3 : Int), v9 = .int .i64 x9_3 ∧ Aside0 (hagglerlaw02_DecShape.l0 kq t202 (wrap64 (t203 - 10000000000)) t204 (t204.size : Int) t205 x8_17 x9_3 = some r) ∧ Aside0 (kq ≤ kj17) ∧ Aside0 (Below w.heap.size w w'))
              case atStart => exact ⟨(0), (by first | rfl | (simp; done) | (simp [*]; done)), H', ⟨Nat.le_refl _⟩, ⟨by repeat (first | (with_reducible first | exact HB.out | apply below_alloc | apply pw_below_drewN | apply below_drew1) | exact HB.out)⟩⟩
              case round =>
                clear H'
                try clear c1
                try clear p1
                try clear q1
                try clear hx1
                try clear qi1
                try clear c2
                try clear p2
                try clear c6
                try clear p6
                try clear c8
                try clear c8b0
                try clear c8b1
                try clear c9
                try clear c10
                try clear c10b0
                try clear c11
                try clear c11b0
                try clear c12
                try clear p12
                try clear q12
                try clear hx12
                try clear c13
                try clear c13b0
                try clear c13b1
                try clear c14
                try clear c14b0
                try clear c14b1
                try clear p15
                try clear q15
                try clear hx15
                try clear qi15
                try clear c16
                try clear c20
                try clear c20b0
                try clear p1
                try clear p12
                try clear p15
                try clear p2
                try clear p6
                try clear q1
                try clear q12
                try clear q15
                obtain ⟨x9_3, rfl, HA, HK3, HB⟩ := hrel
                cases gk with
                | zero => exact absurd HA.out (by simp [hagglerlaw02_DecShape.l0])
                | succ k3 =>
                  have H := HA.out
                  clear HA
                  simp only [hagglerlaw02_DecShape.l0] at H
                  by_cases c22 : (wrap64 (t203 - 10000000000)) = 0
                  · rw [if_pos c22] at H
                    have c22b0 : ((wrap64 (t203 - 10000000000)) == 0) = true := beq_iff_eq.mpr c22
                    have c22b1 : ((wrap64 (t203 - 10000000000)) != 0) = false := bne_eq_false_iff_eq.mpr c22
                    clear c22
                    (first | rw [c22b0] | (simp only [i64_w, i32_w]; rw [c22b0]) | skip)
                    have H' := Aside0.mk H
                    clear H
                    go_wp2
                    go_meet
                    case rel => exact ⟨_, (x9_3), (by first | rfl | (simp; done) | (simp [*]; done)), H', ⟨by have := HJ4.out; have := HJ17.out; have := HK3.out; first | omega | exact Nat.le_refl _⟩, ⟨by repeat (first | (with_reducible first | exact HB.out | apply below_alloc | apply pw_below_drewN | apply below_drew1) | exact HB.out)⟩⟩
                  · rw [if_neg c22] at H
                    have c22b0 : ((wrap64 (t203 - 10000000000)) == 0) = false := beq_eq_false_iff_ne.mpr c22
                    have c22b1 : ((wrap64 (t203 - 10000000000)) != 0) = true := bne_iff_ne.mpr c22
                    (first | rw [c22b0] | (simp only [i64_w, i32_w]; rw [c22b0]) | skip)
                    by_cases c23 : x9_3 < (t204.size : Int)
                    · rw [if_pos c23] at H
                      have c23b0 : decide (x9_3 < (t204.size : Int)) = true := decide_eq_true c23
                      clear c23
                      by_cases c24 : 0 ≤ x9_3
                      · rw [if_pos c24] at H
                        have c24b0 : decide (0 ≤ x9_3) = true := decide_eq_true c24
                        clear c24
                        by_cases c25 : x9_3 < (t204.size : Int)
                        · rw [if_pos c25] at H
                          have c25b0 : decide (x9_3 < (t204.size : Int)) = true := decide_eq_true c25
                          clear c25
                          by_cases c27 : (bt t204 x9_3) = 48
                          · rw [if_pos c27] at H
                            have c27b0 : ((bt t204 x9_3) == 48) = true := beq_iff_eq.mpr c27
                            have c27b1 : ((bt t204 x9_3) != 48) = false := bne_eq_false_iff_eq.mpr c27
                            clear c27
                            have H' := Aside0.mk H
                            clear H
                            have p26 : 0 ≤ (x9_3 : Int) := of_decide_eq_true (by first | (with_reducible assumption) | assumption)
                            have q26 : x9_3 < (t204.size : Int) := of_decide_eq_true (by first | (with_reducible assumption) | assumption)
                            have hx26 := bt_at t204 x9_3
                            replace p26 := eq_true p26
                            replace q26 := eq_true q26
                            go_wp2
                            go_roundg k3
                            case measure => have := HJ4.out; have := HJ17.out; have := HK3.out; omega
                            case rel => exact ⟨(wrap64 (x9_3 + 1)), (by first | rfl | (simp; done) | (simp [*]; done)), H', ⟨by have := HJ4.out; have := HJ17.out; have := HK3.out; omega⟩, ⟨by repeat (first | (with_reducible first | exact HB.out | apply below_alloc | apply pw_below_drewN | apply below_drew1) | exact HB.out)⟩⟩
                          · rw [if_neg c27] at H
                            have c27b0 : ((bt t204 x9_3) == 48) = false := beq_eq_false_iff_ne.mpr c27
                            have c27b1 : ((bt t204 x9_3) != 48) = true := bne_iff_ne.mpr c27
                            by_cases c29 : (bt t204 x9_3) = 46
                            · rw [if_pos c29] at H
                              have c29b0 : ((bt t204 x9_3) == 46) = true := beq_iff_eq.mpr c29
                              have c29b1 : ((bt t204 x9_3) != 46) = false := bne_eq_false_iff_eq.mpr c29
                              clear c29
                              have H' := Aside0.mk H
                              clear H
                              have p26 : 0 ≤ (x9_3 : Int) := of_decide_eq_true (by first | (with_reducible assumption) | assumption)
                              have q26 : x9_3 < (t204.size : Int) := of_decide_eq_true (by first | (with_reducible assumption) | assumption)
                              have hx26 := bt_at t204 x9_3
                              replace p26 := eq_true p26
                              replace q26 := eq_true q26
                              have p28 : 0 ≤ (x9_3 : Int) := of_decide_eq_true (by first | (with_reducible assumption) | assumption)
                              have q28 : x9_3 < (t204.size : Int) := of_decide_eq_true (by first | (with_reducible assumption) | assumption)
                              have hx28 := bt_at t204 x9_3
                              replace p28 := eq_true p28
                              replace q28 := eq_true q28
                              go_wp2
                              go_roundg k3
                              case measure => have := HJ4.out; have := HJ17.out; have := HK3.out; omega
                              case rel => exact ⟨(wrap64 (x9_3 + 1)), (by first | rfl | (simp; done) | (simp [*]; done)), H', ⟨by have := HJ4.out; have := HJ17.out; have := HK3.out; omega⟩, ⟨by repeat (first | (with_reducible first | exact HB.out | apply below_alloc | apply pw_below_drewN | apply below_drew1) | exact HB.out)⟩⟩
                            · rw [if_neg c29] at H
                              have c29b0 : ((bt t204 x9_3) == 46) = false := beq_eq_false_iff_ne.mpr c29
                              have c29b1 : ((bt t204 x9_3) != 46) = true := bne_iff_ne.mpr c29
                              by_cases c31 : (bt t204 x9_3) = 45
                              · rw [if_pos c31] at H
                                have c31b0 : ((bt t204 x9_3) == 45) = true := beq_iff_eq.mpr c31
                                have c31b1 : ((bt t204 x9_3) != 45) = false := bne_eq_false_iff_eq.mpr c31
                                clear c31
                                have H' := Aside0.mk H
                                clear H
                                have p26 : 0 ≤ (x9_3 : Int) := of_decide_eq_true (by first | (with_reducible assumption) | assumption)
                                have q26 : x9_3 < (t204.size : Int) := of_decide_eq_true (by first | (with_reducible assumption) | assumption)
                                have hx26 := bt_at t204 x9_3
                                replace p26 := eq_true p26
                                replace q26 := eq_true q26
                                have p28 : 0 ≤ (x9_3 : Int) := of_decide_eq_true (by first | (with_reducible assumption) | assumption)
                                have q28 : x9_3 < (t204.size : Int) := of_decide_eq_true (by first | (with_reducible assumption) | assumption)
                                have hx28 := bt_at t204 x9_3
                                replace p28 := eq_true p28
                                replace q28 := eq_true q28
                                have p30 : 0 ≤ (x9_3 : Int) := of_decide_eq_true (by first | (with_reducible assumption) | assumption)
                                have q30 : x9_3 < (t204.size : Int) := of_decide_eq_true (by first | (with_reducible assumption) | assumption)
                                have hx30 := bt_at t204 x9_3
                                replace p30 := eq_true p30
                                replace q30 := eq_true q30
                                go_wp2
                                go_roundg k3
                                case measure => have := HJ4.out; have := HJ17.out; have := HK3.out; omega
                                case rel => exact ⟨(wrap64 (x9_3 + 1)), (by first | rfl | (simp; done) | (simp [*]; done)), H', ⟨by have := HJ4.out; have := HJ17.out; have := HK3.out; omega⟩, ⟨by repeat (first | (with_reducible first | exact HB.out | apply below_alloc | apply pw_below_drewN | apply below_drew1) | exact HB.out)⟩⟩
                              · rw [if_neg c31] at H
                                have c31b0 : ((bt t204 x9_3) == 45) = false := beq_eq_false_iff_ne.mpr c31
                                have c31b1 : ((bt t204 x9_3) != 45) = true := bne_iff_ne.mpr c31
                                have H' := Aside0.mk H
                                clear H
                                have p26 : 0 ≤ (x9_3 : Int) := of_decide_eq_true (by first | (with_reducible assumption) | assumption)
                                have q26 : x9_3 < (t204.size : Int) := of_decide_eq_true (by first | (with_reducible assumption) | assumption)
                                have hx26 := bt_at t204 x9_3
                                replace p26 := eq_true p26
                                replace q26 := eq_true q26
                                have p28 : 0 ≤ (x9_3 : Int) := of_decide_eq_true (by first | (with_reducible assumption) | assumption)
                                have q28 : x9_3 < (t204.size : Int) := of_decide_eq_true (by first | (with_reducible assumption) | assumption)
                                have hx28 := bt_at t204 x9_3
                                replace p28 := eq_true p28
                                replace q28 := eq_true q28
                                have p30 : 0 ≤ (x9_3 : Int) := of_decide_eq_true (by first | (with_reducible assumption) | assumption)
                                have q30 : x9_3 < (t204.size : Int) := of_decide_eq_true (by first | (with_reducible assumption) | assumption)
                                have hx30 := bt_at t204 x9_3
                                replace p30 := eq_true p30
                                replace q30 := eq_true q30
                                go_wp2
                                go_meet
                                case rel => exact ⟨_, (x9_3), (by first | rfl | (simp; done) | (simp [*]; done)), H', ⟨by have := HJ4.out; have := HJ17.out; have := HK3.out; first | omega | exact Nat.le_refl _⟩, ⟨by repeat (first | (with_reducible first | exact HB.out | apply below_alloc | apply pw_below_drewN | apply below_drew1) | exact HB.out)⟩⟩
                        · rw [if_neg c25] at H
                          exact absurd H (by simp)
                      · rw [if_neg c24] at H
                        exact absurd H (by simp)
                    · rw [if_neg c23] at H
                      have c23b0 : decide (x9_3 < (t204.size : Int)) = false := decide_eq_false c23
                      clear c23
                      have H' := Aside0.mk H
                      clear H
                      go_wp2
                      go_meet
                      case rel => exact ⟨_, (x9_3), (by first | rfl | (simp; done) | (simp [*]; done)), H', ⟨by have := HJ4.out; have := HJ17.out; have := HK3.out; first | omega | exact Nat.le_refl _⟩, ⟨by repeat (first | (with_reducible first | exact HB.out | apply below_alloc | apply pw_below_drewN | apply below_drew1) | exact HB.out)⟩⟩
            case rest =>
              clear HC21
              try clear c1
              try clear p1
              try clear q1
              try clear hx1
              try clear qi1
              try clear c2
              try clear p2
              try clear q2
              try clear hx2
              try clear c3
              try clear p3
              try clear q3
              try clear hx3
              try clear c6
              try clear p6
              try clear c8
              try clear c8b0
              try clear c8b1
              try clear c9
              try clear c10
              try clear c10b0
              try clear c11
              try clear c11b0
              try clear c12
              try clear p12
              try clear q12
              try clear hx12
              try clear c13
              try clear c13b0
              try clear c13b1
              try clear c14
              try clear c14b0
              try clear c14b1
              try clear p15
              try clear q15
              try clear hx15
              try clear qi15
              try clear c16
              try clear c20
              try clear c20b0
              try clear c22
              try clear c22b0
              try clear c22b1
              try clear c23
              try clear c23b0
              try clear c24
              try clear c24b0
              try clear c25
              try clear c25b0
              try clear p26
              try clear q26
              try clear hx26
              try clear c27
              try clear c27b0
              try clear c27b1
              try clear p28
              try clear q28
              try clear hx28
              try clear c29
              try clear c29b0
              try clear c29b1
              try clear p30
              try clear q30
              try clear hx30
              try clear c31
              try clear c31b0
              try clear c31b1
              try clear p1
              try clear p12
              try clear p15
              try clear p2
              try clear p26
              try clear p28
              try clear p30
              try clear p6
              try clear q1
              try clear q12
              try clear q15
              try clear q26
              try clear q28
              try clear q30
              obtain ⟨kq, x9_20, rfl, HA, HJ20, HB⟩ := hcut
              cases kq with
              | zero => exact absurd HA.out (by simp [hagglerlaw02_DecShape.j3])
              | succ kj20 =>
                have H := HA.out
                clear HA
                simp only [hagglerlaw02_DecShape.j3] at H
                have H' := Aside0.mk H
                clear H
                go_wp2
                go_loopg [10, 11] kj20 (fun kq v10 v11 w' => ∃ (x10_4 : ByteArray) (x11_4 : Int), v10 = .string x10_4 ∧ v11 = .int .i64 x11_4 ∧ Aside0 (hagglerlaw02_DecShape.l1 kq t202 (wrap64 (t203 - 10000000000)) t204 (t204.size : Int) t205 x8_17 x10_4 x11_4 = some r) ∧ Aside0 (kq ≤ kj20) ∧ Aside0 (Below w.heap.size w w'))
                case atStart => exact ⟨((⟨#[]⟩ : ByteArray)), (x9_20), (by first | rfl | (simp; done) | (simp [*]; done)), (by first | rfl | (simp; done) | (simp [*]; done)), H', ⟨Nat.le_refl _⟩, ⟨by repeat (first | (with_reducible first | exact HB.out | apply below_alloc | apply pw_below_drewN | apply below_drew1) | exact HB.out)⟩⟩
                case round =>
                  clear H'
                  try clear c1
                  try clear p1
                  try clear q1
                  try clear hx1
                  try clear qi1
                  try clear c2
                  try clear p2
                  try clear q2
                  try clear hx2
                  try clear c3
                  try clear p3
                  try clear q3
                  try clear hx3
                  try clear c6
                  try clear p6
                  try clear c8
                  try clear c8b0
                  try clear c8b1
                  try clear c9
                  try clear c10
                  try clear c10b0
                  try clear c11
                  try clear c11b0
                  try clear c12
                  try clear p12
                  try clear q12
                  try clear hx12
                  try clear c13
                  try clear c13b0
                  try clear c13b1
                  try clear c14
                  try clear c14b0
                  try clear c14b1
                  try clear p15
                  try clear q15
                  try clear hx15
                  try clear qi15
                  try clear c16
                  try clear c20
                  try clear c20b0
                  try clear c22
                  try clear c22b0
                  try clear c22b1
                  try clear c23
                  try clear c23b0
                  try clear c24
                  try clear c24b0
                  try clear c25
                  try clear c25b0
                  try clear p26
                  try clear q26
                  try clear hx26
                  try clear c27
                  try clear c27b0
                  try clear c27b1
                  try clear p28
                  try clear q28
                  try clear hx28
                  try clear c29
                  try clear c29b0
                  try clear c29b1
                  try clear p30
                  try clear q30
                  try clear hx30
                  try clear c31
                  try clear c31b0
                  try clear c31b1
                  try clear p1
                  try clear p12
                  try clear p15
                  try clear p2
                  try clear p26
                  try clear p28
                  try clear p3
                  try clear p30
                  try clear p6
                  try clear q1
                  try clear q12
                  try clear q15
                  try clear q2
                  try clear q26
                  try clear q28
                  try clear q3
                  try clear q30
                  obtain ⟨x10_4, x11_4, rfl, rfl, HA, HK4, HB⟩ := hrel
                  cases gk with
                  | zero => exact absurd HA.out (by simp [hagglerlaw02_DecShape.l1])
                  | succ k4 =>
                    have H := HA.out
                    clear HA
                    simp only [hagglerlaw02_DecShape.l1] at H
                    by_cases c32 : x11_4 < (t204.size : Int)
                    · rw [if_pos c32] at H
                      have c32b0 : decide (x11_4 < (t204.size : Int)) = true := decide_eq_true c32
                      clear c32
                      by_cases c33 : 0 ≤ x11_4
                      · rw [if_pos c33] at H
                        have c33b0 : decide (0 ≤ x11_4) = true := decide_eq_true c33
                        clear c33
                        by_cases c34 : x11_4 < (t204.size : Int)
                        · rw [if_pos c34] at H
                          have c34b0 : decide (x11_4 < (t204.size : Int)) = true := decide_eq_true c34
                          clear c34
                          by_cases c36 : (bt t204 x11_4) = 46
                          · rw [if_pos c36] at H
                            have c36b0 : ((bt t204 x11_4) == 46) = true := beq_iff_eq.mpr c36
                            have c36b1 : ((bt t204 x11_4) != 46) = false := bne_eq_false_iff_eq.mpr c36
                            clear c36
                            have H' := Aside0.mk H
                            clear H
                            have p35 : 0 ≤ (x11_4 : Int) := of_decide_eq_true (by first | (with_reducible assumption) | assumption)
                            have q35 : x11_4 < (t204.size : Int) := of_decide_eq_true (by first | (with_reducible assumption) | assumption)
                            have hx35 := bt_at t204 x11_4
                            replace p35 := eq_true p35
                            replace q35 := eq_true q35
                            go_wp2
                            go_roundg k4
                            case measure => have := HJ4.out; have := HJ17.out; have := HJ20.out; have := HK4.out; omega
                            case rel => exact ⟨(x10_4), (wrap64 (x11_4 + 1)), (by first | rfl | (simp; done) | (simp [*]; done)), (by first | rfl | (simp; done) | (simp [*]; done)), H', ⟨by have := HJ4.out; have := HJ17.out; have := HJ20.out; have := HK4.out; omega⟩, ⟨by repeat (first | (with_reducible first | exact HB.out | apply below_alloc | apply pw_below_drewN | apply below_drew1) | exact HB.out)⟩⟩
                          · rw [if_neg c36] at H
                            have c36b0 : ((bt t204 x11_4) == 46) = false := beq_eq_false_iff_ne.mpr c36
                            have c36b1 : ((bt t204 x11_4) != 46) = true := bne_iff_ne.mpr c36
                            have c37b0 := eq_true (of_decide_eq_true (by first | (with_reducible assumption) | assumption) : 0 ≤ x11_4)
                            by_cases c38 : x11_4 ≤ (wrap64 (x11_4 + 1))
                            · rw [if_pos c38] at H
                              have c38b0 := eq_true c38
                              have c38b1 : decide (x11_4 ≤ (wrap64 (x11_4 + 1))) = true := decide_eq_true c38
                              by_cases c39 : (wrap64 (x11_4 + 1)) ≤ (t204.size : Int)
                              · rw [if_pos c39] at H
                                have c39b0 := eq_true c39
                                have c39b1 : decide ((wrap64 (x11_4 + 1)) ≤ (t204.size : Int)) = true := decide_eq_true c39
                                by_cases c40 : x10_4.size + (t204.extract (x11_4 : Int).toNat ((wrap64 (x11_4 + 1)) : Int).toNat).size ≤ 9223372036854775807
                                · rw [if_pos c40] at H
                                  have c40b0 := eq_true c40
                                  have c40b1 : decide (x10_4.size + (t204.extract (x11_4 : Int).toNat ((wrap64 (x11_4 + 1)) : Int).toNat).size ≤ 9223372036854775807) = true := decide_eq_true c40
                                  try (have c40b4 : (9223372036854775807 < x10_4.size + (((wrap64 (x11_4 + 1)) : Int).toNat - (x11_4 : Int).toNat)) = False := by apply eq_false; apply Nat.not_lt.2; have h_ := c40; simp only [ByteArray.size_append, ByteArray.size_extract, Nat.zero_add, Nat.add_zero] at h_; (try have g0_ := of_eq_true c37b0); (try have g1_ := of_eq_true c38b0); (try have g2_ := of_eq_true c39b0); (try have g3_ := of_eq_true c40b0); omega)
                                  try (have c40b3 := Nat.not_lt.2 c40; simp only [ByteArray.size_append, ByteArray.size_extract, Nat.min_self, Nat.zero_add, Nat.add_zero] at c40b3; replace c40b3 := eq_false c40b3)
                                  try have c40b2 : (9223372036854775807 < x10_4.size + (t204.extract (x11_4 : Int).toNat ((wrap64 (x11_4 + 1)) : Int).toNat).size) = False := eq_false (Nat.not_lt.2 c40)
                                  have H' := Aside0.mk H
                                  clear H
                                  have p35 : 0 ≤ (x11_4 : Int) := of_decide_eq_true (by first | (with_reducible assumption) | assumption)
                                  have q35 : x11_4 < (t204.size : Int) := of_decide_eq_true (by first | (with_reducible assumption) | assumption)
                                  have hx35 := bt_at t204 x11_4
                                  replace p35 := eq_true p35
                                  replace q35 := eq_true q35
                                  go_wp2
                                  go_roundg k4
                                  case measure => have := HJ4.out; have := HJ17.out; have := HJ20.out; have := HK4.out; omega
                                  case rel => exact ⟨(x10_4 ++ (t204.extract (x11_4 : Int).toNat ((wrap64 (x11_4 + 1)) : Int).toNat)), (wrap64 (x11_4 + 1)), (by first | rfl | (simp; done) | (simp [*]; done)), (by first | rfl | (simp; done) | (simp [*]; done)), H', ⟨by have := HJ4.out; have := HJ17.out; have := HJ20.out; have := HK4.out; omega⟩, ⟨by repeat (first | (with_reducible first | exact HB.out | apply below_alloc | apply pw_below_drewN | apply below_drew1) | exact HB.out)⟩⟩
                                · rw [if_neg c40] at H
                                  exact absurd H (by simp)
                              · rw [if_neg c39] at H
                                exact absurd H (by simp)
                            · rw [if_neg c38] at H
                              exact absurd H (by simp)
                        · rw [if_neg c34] at H
                          exact absurd H (by simp)
                      · rw [if_neg c33] at H
                        exact absurd H (by simp)
                    · rw [if_neg c32] at H
                      have c32b0 : decide (x11_4 < (t204.size : Int)) = false := decide_eq_false c32
                      clear c32
                      by_cases c41 : (wrap64 (t203 - 10000000000)) = 0
                      · rw [if_pos c41] at H
                        have c41b0 : ((wrap64 (t203 - 10000000000)) == 0) = true := beq_iff_eq.mpr c41
                        have c41b1 : ((wrap64 (t203 - 10000000000)) != 0) = false := bne_eq_false_iff_eq.mpr c41
                        clear c41
                        by_cases c42 : t202 = true
                        · subst c42
                          have H1 : (if 0 ≤ x8_17 then (if x8_17 ≤ (t205.size : Int) then (if 1 + 3 ≤ 9223372036854775807 then (some ((t205.extract (x8_17 : Int).toNat t205.size).toList == ((⟨#[48]⟩ : ByteArray) ++ (⟨#[46, 48, 48]⟩ : ByteArray)).toList)) else (none)) else (none)) else (none)) = some r := by rw [if_pos rfl] at H; exact H
                          clear H
                          have H := H1
                          clear H1
                          by_cases c43 : 0 ≤ x8_17
                          · rw [if_pos c43] at H
                            have c43b0 := eq_true c43
                            have c43b1 : decide (0 ≤ x8_17) = true := decide_eq_true c43
                            clear c43
                            by_cases c44 : x8_17 ≤ (t205.size : Int)
                            · rw [if_pos c44] at H
                              have c44b0 := eq_true c44
                              have c44b1 : decide (x8_17 ≤ (t205.size : Int)) = true := decide_eq_true c44
                              clear c44
                              by_cases c45 : 1 + 3 ≤ 9223372036854775807
                              · rw [if_pos c45] at H
                                have c45b0 := eq_true c45
                                have c45b1 : decide (1 + 3 ≤ 9223372036854775807) = true := decide_eq_true c45
                                try (have c45b3 := Nat.not_lt.2 c45; simp only [ByteArray.size_append, ByteArray.size_extract, Nat.min_self, Nat.zero_add, Nat.add_zero] at c45b3; replace c45b3 := eq_false c45b3)
                                try have c45b2 : (9223372036854775807 < 1 + 3) = False := eq_false (Nat.not_lt.2 c45)
                                obtain rfl := Option.some.inj H
                                go_wp2
                                go_ret
                                exact ⟨by first | rfl | (simp [errW_none, errW_some] <;> rfl) | (simp [*, errW_none, errW_some] <;> rfl), by repeat (first | (with_reducible first | exact HB.out | apply below_alloc | apply pw_below_drewN | apply below_drew1) | exact HB.out)⟩
                              · rw [if_neg c45] at H
                                exact absurd H (by simp)
                            · rw [if_neg c44] at H
                              exact absurd H (by simp)
                          · rw [if_neg c43] at H
                            exact absurd H (by simp)
                        · replace c42 := Bool.eq_false_iff.mpr c42
                          subst c42
                          have H1 : (some false) = some r := by rw [if_neg (show ¬ (false = true) by decide)] at H; exact H
                          clear H
                          have H := H1
                          clear H1
                          obtain rfl := Option.some.inj H
                          go_wp2
                          go_ret
                          exact ⟨by first | rfl | (simp [errW_none, errW_some] <;> rfl) | (simp [*, errW_none, errW_some] <;> rfl), by repeat (first | (with_reducible first | exact HB.out | apply below_alloc | apply pw_below_drewN | apply below_drew1) | exact HB.out)⟩
                      · rw [if_neg c41] at H
                        have c41b0 : ((wrap64 (t203 - 10000000000)) == 0) = false := beq_eq_false_iff_ne.mpr c41
                        have c41b1 : ((wrap64 (t203 - 10000000000)) != 0) = true := bne_iff_ne.mpr c41
                        by_cases c46 : t202 = true
                        · subst c46
                          have H1 : (if 0 ≤ x8_17 then (if x8_17 ≤ (t205.size : Int) then (if x10_4.size + 3 ≤ 9223372036854775807 then (some ((t205.extract (x8_17 : Int).toNat t205.size).toList == (x10_4 ++ (⟨#[46, 48, 48]⟩ : ByteArray)).toList)) else (none)) else (none)) else (none)) = some r := by rw [if_pos rfl] at H; exact H
                          clear H
                          have H := H1
                          clear H1
                          by_cases c47 : 0 ≤ x8_17
                          · rw [if_pos c47] at H
                            have c47b0 := eq_true c47
                            have c47b1 : decide (0 ≤ x8_17) = true := decide_eq_true c47
                            clear c47
                            by_cases c48 : x8_17 ≤ (t205.size : Int)
                            · rw [if_pos c48] at H
                              have c48b0 := eq_true c48
                              have c48b1 : decide (x8_17 ≤ (t205.size : Int)) = true := decide_eq_true c48
                              clear c48
                              by_cases c49 : x10_4.size + 3 ≤ 9223372036854775807
                              · rw [if_pos c49] at H
                                have c49b0 := eq_true c49
                                have c49b1 : decide (x10_4.size + 3 ≤ 9223372036854775807) = true := decide_eq_true c49
                                try (have c49b3 := Nat.not_lt.2 c49; simp only [ByteArray.size_append, ByteArray.size_extract, Nat.min_self, Nat.zero_add, Nat.add_zero] at c49b3; replace c49b3 := eq_false c49b3)
                                try have c49b2 : (9223372036854775807 < x10_4.size + 3) = False := eq_false (Nat.not_lt.2 c49)
                                obtain rfl := Option.some.inj H
                                go_wp2
                                go_ret
                                exact ⟨by first | rfl | (simp [errW_none, errW_some] <;> rfl) | (simp [*, errW_none, errW_some] <;> rfl), by repeat (first | (with_reducible first | exact HB.out | apply below_alloc | apply pw_below_drewN | apply below_drew1) | exact HB.out)⟩
                              · rw [if_neg c49] at H
                                exact absurd H (by simp)
                            · rw [if_neg c48] at H
                              exact absurd H (by simp)
                          · rw [if_neg c47] at H
                            exact absurd H (by simp)
                        · replace c46 := Bool.eq_false_iff.mpr c46
                          subst c46
                          have H1 : (some false) = some r := by rw [if_neg (show ¬ (false = true) by decide)] at H; exact H
                          clear H
                          have H := H1
                          clear H1
                          obtain rfl := Option.some.inj H
                          go_wp2
                          go_ret
                          exact ⟨by first | rfl | (simp [errW_none, errW_some] <;> rfl) | (simp [*, errW_none, errW_some] <;> rfl), by repeat (first | (with_reducible first | exact HB.out | apply below_alloc | apply pw_below_drewN | apply below_drew1) | exact HB.out)⟩

/-- THE ONE PURE STATEMENT of hagglerlaw02_DecShape: yours. -/
def hagglerlaw02_DecShape.Pure : Prop := ∀ (a0 : Int), (Lit.int .i64 a0).wf = true → ∃ k, hagglerlaw02_DecShape.f k a0 = some true
theorem hagglerlaw02_DecShape.walk (P : hagglerlaw02_DecShape.Pure) (a0 : Int) (w : World) (w0 : (Lit.int .i64 a0).wf = true) (hLd : LaidW w) :
    Calls Tryd.prog 6 #[.int .i64 a0] w fun e w' => e = .returned (.bool true) ∧ Below w.heap.size w w' := by
  obtain ⟨k, h⟩ := P a0 w0
  refine (hagglerlaw02_DecShape.calls k a0 true w hLd h).mono ?_
  rintro e w' ⟨rfl, hd⟩
  exact ⟨rfl, hd⟩

end Go.Proofs.YtglbgfjmfccemaaDoor.Q
