-- Printed by wip/pr/sprint.py (a session's program over the kit's print). Not trusted: Lean checks it.
import Derived.Test.YtglbgfjmfccemaaDoorQx0
import Derived.Test.YtglbgfjmfccemaaDoorExt
import Derived.Test.YtglbgfjmfccemaaDoorQx1
import Derived.Test.YtglbgfjmfccemaaDoorQx2
import Derived.Test.YtglbgfjmfccemaaDoorQx3
namespace Go.Proofs.YtglbgfjmfccemaaDoor.Q
open Go.RowKit Go.Proofs.YtglbgfjmfccemaaDoorW.PrintWords Go.Proofs.YtglbgfjmfccemaaDoorW.PrintLast Go.Proofs.YtglbgfjmfccemaaDoorW.PrintMore
attribute [local go_sem] max2_int min2_int max_two min_two max_three min_three max_four min_four   -- for this text's walks alone
set_option linter.unusedVariables false
set_option linter.unusedSimpArgs false

/-! ### hagglerlaw02_DecTells: function 3 -/
mutual
def hagglerlaw02_DecTells.l0 : Nat → ByteArray → Int → Int → ByteArray → Bool → List Int → Int → Int → Option (Bool)
  | 0, _, _, _, _, _, _, _, _ => none
  | k + 1, x1, x2, x3, x4, x11, x31, x32, x33 => if x33 < x32 then (if 0 ≤ x33 then (if x33 < (x31.length : Int) then ((dec_Text.f (rd x31 x33)).bind fun t150 => ((hagglerref02_Text.f k (rd x31 x33)).bind fun t151 => (if t150.toList = t151.toList then ((dec_Number.f (rd x31 x33)).bind fun t152 => ((hagglerref02_Number.f k (rd x31 x33)).bind fun t153 => (hagglerlaw02_DecTells.j1 k x1 x2 x3 x4 x11 (rd x31 x33) x31 x32 x33 (t152.toList != t153.toList)))) else (hagglerlaw02_DecTells.j1 k x1 x2 x3 x4 x11 (rd x31 x33) x31 x32 x33 true)))) else (none)) else (none)) else (some x11)
def hagglerlaw02_DecTells.j1 : Nat → ByteArray → Int → Int → ByteArray → Bool → Int → List Int → Int → Int → Bool → Option (Bool)
  | 0, _, _, _, _, _, _, _, _, _, _ => none
  | k + 1, x1, x2, x3, x4, x11, x14, x31, x32, x33, x48 => if x48 = true then (some false) else ((hagglerref02_Text.f k x14).bind fun t154 => ((hagglerlaw02_pick.f x3 (wrap64 ((t154.size : Int) + 1))).bind fun t155 => (if 0 ≤ t155 then (if t155 ≤ (t154.size : Int) then (if (t154.extract 0 (t155 : Int).toNat).size + x4.size ≤ 9223372036854775807 then (if 0 ≤ (mn (wrap64 (t155 + (x4.size : Int))) (t154.size : Int)) then (if (mn (wrap64 (t155 + (x4.size : Int))) (t154.size : Int)) ≤ (t154.size : Int) then (if ((t154.extract 0 (t155 : Int).toNat) ++ x4).size + (t154.extract ((mn (wrap64 (t155 + (x4.size : Int))) (t154.size : Int)) : Int).toNat t154.size).size ≤ 9223372036854775807 then (if ((t154.extract 0 (t155 : Int).toNat) ++ x4).size + (t154.extract (t155 : Int).toNat t154.size).size ≤ 9223372036854775807 then ((hagglerref02_Number.f k x14).bind fun t156 => (if t156.size + x4.size ≤ 9223372036854775807 then ((some (([x1, t154, ((t154.extract 0 (t155 : Int).toNat) ++ x4) ++ (t154.extract ((mn (wrap64 (t155 + (x4.size : Int))) (t154.size : Int)) : Int).toNat t154.size), ((t154.extract 0 (t155 : Int).toNat) ++ x4) ++ (t154.extract (t155 : Int).toNat t154.size), t156 ++ x4] : List ByteArray) : List ByteArray)).bind fun y157 => (hagglerlaw02_DecTells.l1 k x1 x2 x3 x4 x11 x31 x32 x33 y157 (y157.length : Int) 0)) else (none))) else (none)) else (none)) else (none)) else (none)) else (none)) else (none)) else (none))))
def hagglerlaw02_DecTells.l1 : Nat → ByteArray → Int → Int → ByteArray → Bool → List Int → Int → Int → List ByteArray → Int → Int → Option (Bool)
  | 0, _, _, _, _, _, _, _, _, _, _, _ => none
  | k + 1, x1, x2, x3, x4, x11, x31, x32, x33, x86, x87, x88 => if x88 < x87 then (if 0 ≤ x88 then (if x88 < (x86.length : Int) then ((dec_Parse.f k (rdOf ByteArray.empty x86 x88)).bind fun bt161 => ((hagglerref02_Parse.f k (rdOf ByteArray.empty x86 x88)).bind fun bt163 => (if bt161.1 = bt163.1 then (if bt161.2 = bt163.2 then ((dec_Count.f (rdOf ByteArray.empty x86 x88) x2).bind fun t165 => ((hagglerref02_Count.f k (rdOf ByteArray.empty x86 x88) x2).bind fun t166 => (if t165 = t166 then ((hagglerlaw02_pick.f x2 2000).bind fun t167 => ((dec_Count.f (rdOf ByteArray.empty x86 x88) t167).bind fun t168 => ((hagglerlaw02_pick.f x2 2000).bind fun t169 => ((hagglerref02_Count.f k (rdOf ByteArray.empty x86 x88) t169).bind fun t170 => (if t168 = t170 then (hagglerlaw02_DecTells.l1 k x1 x2 x3 x4 x11 x31 x32 x33 x86 x87 (wrap64 (x88 + 1))) else (some false)))))) else (some false)))) else (some false)) else (some false)))) else (none)) else (none)) else (hagglerlaw02_DecTells.l0 k x1 x2 x3 x4 x11 x31 x32 (wrap64 (x33 + 1)))
end
def hagglerlaw02_DecTells.f (k : Nat) (a0 : Int) (a1 : ByteArray) (a2 : Int) (a3 : Int) (a4 : ByteArray) : Option (Bool) := (hagglerlaw02_awake.f k).bind fun t143 => ((hagglerlaw01_Amount.f a0).bind fun t144 => ((hagglerlaw02_pick.f a0 20000).bind fun t145 => ((some (([a0, t144, wrap64 (t145 - 10000)] : List Int) : List Int)).bind fun y146 => (hagglerlaw02_DecTells.l0 k a1 a2 a3 a4 t143 y146 (y146.length : Int) 0))))
theorem hagglerlaw02_DecTells.mono_l : ∀ k, (∀ y0 y1 y2 y3 y4 y5 y6 y7, LeO (hagglerlaw02_DecTells.l0 k y0 y1 y2 y3 y4 y5 y6 y7) (hagglerlaw02_DecTells.l0 (k + 1) y0 y1 y2 y3 y4 y5 y6 y7)) ∧ (∀ y0 y1 y2 y3 y4 y5 y6 y7 y8 y9, LeO (hagglerlaw02_DecTells.j1 k y0 y1 y2 y3 y4 y5 y6 y7 y8 y9) (hagglerlaw02_DecTells.j1 (k + 1) y0 y1 y2 y3 y4 y5 y6 y7 y8 y9)) ∧ (∀ y0 y1 y2 y3 y4 y5 y6 y7 y8 y9 y10, LeO (hagglerlaw02_DecTells.l1 k y0 y1 y2 y3 y4 y5 y6 y7 y8 y9 y10) (hagglerlaw02_DecTells.l1 (k + 1) y0 y1 y2 y3 y4 y5 y6 y7 y8 y9 y10))
  | 0 => ⟨fun _ _ _ _ _ _ _ _ r h => by simp [hagglerlaw02_DecTells.l0] at h, fun _ _ _ _ _ _ _ _ _ _ r h => by simp [hagglerlaw02_DecTells.j1] at h, fun _ _ _ _ _ _ _ _ _ _ _ r h => by simp [hagglerlaw02_DecTells.l1] at h⟩
  | k + 1 => by
    obtain ⟨ih0, ih1, ih2⟩ := hagglerlaw02_DecTells.mono_l k
    refine ⟨?_, ?_, ?_⟩
    · intro y0 y1 y2 y3 y4 y5 y6 y7
      unfold hagglerlaw02_DecTells.l0
      repeat' first
      | (with_reducible exact ih0 _ _ _ _ _ _ _ _)
      | (with_reducible exact ih1 _ _ _ _ _ _ _ _ _ _)
      | (with_reducible exact ih2 _ _ _ _ _ _ _ _ _ _ _)
      | (with_reducible exact dec_Parse.mono _ _)
      | (with_reducible exact hagglerlaw02_awake.mono _)
      | (with_reducible exact hagglerref02_Count.mono _ _ _)
      | (with_reducible exact hagglerref02_Number.mono _ _)
      | (with_reducible exact hagglerref02_Parse.mono _ _)
      | (with_reducible exact hagglerref02_Text.mono _ _)
      | (with_reducible exact LeO.refl _)
      | (with_reducible exact LeO.none _)
      | (with_reducible refine LeO.ite ?_ ?_)
      | (with_reducible refine LeO.bind ?_ (fun _ => ?_))
      | exact ih0 _ _ _ _ _ _ _ _
      | exact ih1 _ _ _ _ _ _ _ _ _ _
      | exact ih2 _ _ _ _ _ _ _ _ _ _ _
      | exact dec_Parse.mono _ _
      | exact hagglerlaw02_awake.mono _
      | exact hagglerref02_Count.mono _ _ _
      | exact hagglerref02_Number.mono _ _
      | exact hagglerref02_Parse.mono _ _
      | exact hagglerref02_Text.mono _ _
      | exact LeO.none _
      | refine LeO.ite ?_ ?_
      | refine LeO.bind ?_ (fun _ => ?_)
    · intro y0 y1 y2 y3 y4 y5 y6 y7 y8 y9
      unfold hagglerlaw02_DecTells.j1
      repeat' first
      | (with_reducible exact ih0 _ _ _ _ _ _ _ _)
      | (with_reducible exact ih1 _ _ _ _ _ _ _ _ _ _)
      | (with_reducible exact ih2 _ _ _ _ _ _ _ _ _ _ _)
      | (with_reducible exact dec_Parse.mono _ _)
      | (with_reducible exact hagglerlaw02_awake.mono _)
      | (with_reducible exact hagglerref02_Count.mono _ _ _)
      | (with_reducible exact hagglerref02_Number.mono _ _)
      | (with_reducible exact hagglerref02_Parse.mono _ _)
      | (with_reducible exact hagglerref02_Text.mono _ _)
      | (with_reducible exact LeO.refl _)
      | (with_reducible exact LeO.none _)
      | (with_reducible refine LeO.ite ?_ ?_)
      | (with_reducible refine LeO.bind ?_ (fun _ => ?_))
      | exact ih0 _ _ _ _ _ _ _ _
      | exact ih1 _ _ _ _ _ _ _ _ _ _
      | exact ih2 _ _ _ _ _ _ _ _ _ _ _
      | exact dec_Parse.mono _ _
      | exact hagglerlaw02_awake.mono _
      | exact hagglerref02_Count.mono _ _ _
      | exact hagglerref02_Number.mono _ _
      | exact hagglerref02_Parse.mono _ _
      | exact hagglerref02_Text.mono _ _
      | exact LeO.none _
      | refine LeO.ite ?_ ?_
      | refine LeO.bind ?_ (fun _ => ?_)
    · intro y0 y1 y2 y3 y4 y5 y6 y7 y8 y9 y10
      unfold hagglerlaw02_DecTells.l1
      repeat' first
      | (with_reducible exact ih0 _ _ _ _ _ _ _ _)
      | (with_reducible exact ih1 _ _ _ _ _ _ _ _ _ _)
      | (with_reducible exact ih2 _ _ _ _ _ _ _ _ _ _ _)
      | (with_reducible exact dec_Parse.mono _ _)
      | (with_reducible exact hagglerlaw02_awake.mono _)
      | (with_reducible exact hagglerref02_Count.mono _ _ _)
      | (with_reducible exact hagglerref02_Number.mono _ _)
      | (with_reducible exact hagglerref02_Parse.mono _ _)
      | (with_reducible exact hagglerref02_Text.mono _ _)
      | (with_reducible exact LeO.refl _)
      | (with_reducible exact LeO.none _)
      | (with_reducible refine LeO.ite ?_ ?_)
      | (with_reducible refine LeO.bind ?_ (fun _ => ?_))
      | exact ih0 _ _ _ _ _ _ _ _
      | exact ih1 _ _ _ _ _ _ _ _ _ _
      | exact ih2 _ _ _ _ _ _ _ _ _ _ _
      | exact dec_Parse.mono _ _
      | exact hagglerlaw02_awake.mono _
      | exact hagglerref02_Count.mono _ _ _
      | exact hagglerref02_Number.mono _ _
      | exact hagglerref02_Parse.mono _ _
      | exact hagglerref02_Text.mono _ _
      | exact LeO.none _
      | refine LeO.ite ?_ ?_
      | refine LeO.bind ?_ (fun _ => ?_)
theorem hagglerlaw02_DecTells.mono : ∀ a0 a1 a2 a3 a4 k, LeO (hagglerlaw02_DecTells.f k a0 a1 a2 a3 a4) (hagglerlaw02_DecTells.f (k + 1) a0 a1 a2 a3 a4) := by
  intro a0 a1 a2 a3 a4 k
  obtain ⟨ih0, ih1, ih2⟩ := hagglerlaw02_DecTells.mono_l k
  unfold hagglerlaw02_DecTells.f
  repeat' first
      | (with_reducible exact ih0 _ _ _ _ _ _ _ _)
      | (with_reducible exact ih1 _ _ _ _ _ _ _ _ _ _)
      | (with_reducible exact ih2 _ _ _ _ _ _ _ _ _ _ _)
      | (with_reducible exact dec_Parse.mono _ _)
      | (with_reducible exact hagglerlaw02_awake.mono _)
      | (with_reducible exact hagglerref02_Count.mono _ _ _)
      | (with_reducible exact hagglerref02_Number.mono _ _)
      | (with_reducible exact hagglerref02_Parse.mono _ _)
      | (with_reducible exact hagglerref02_Text.mono _ _)
      | (with_reducible exact LeO.refl _)
      | (with_reducible exact LeO.none _)
      | (with_reducible refine LeO.ite ?_ ?_)
      | (with_reducible refine LeO.bind ?_ (fun _ => ?_))
      | exact ih0 _ _ _ _ _ _ _ _
      | exact ih1 _ _ _ _ _ _ _ _ _ _
      | exact ih2 _ _ _ _ _ _ _ _ _ _ _
      | exact dec_Parse.mono _ _
      | exact hagglerlaw02_awake.mono _
      | exact hagglerref02_Count.mono _ _ _
      | exact hagglerref02_Number.mono _ _
      | exact hagglerref02_Parse.mono _ _
      | exact hagglerref02_Text.mono _ _
      | exact LeO.none _
      | refine LeO.ite ?_ ?_
      | refine LeO.bind ?_ (fun _ => ?_)
def hagglerlaw02_DecTells.T10 : Bool × List (List Nat × List Nat) := (true, [([], []), ([], []), ([], []), ([], []), ([2, 3], [2, 3]), ([], []), ([4, 5], [4, 5]), ([], []), ([], []), ([], []), ([9], [9]), ([8, 10], [8, 10]), ([], []), ([12], [12]), ([11, 13], [11, 13]), ([7, 14], [7, 14]), ([6, 15], [6, 15]), ([], []), ([], []), ([17, 18], [17, 18]), ([], []), ([19, 20], [19, 20]), ([], []), ([], []), ([22, 23], [22, 23]), ([21, 24], [21, 24]), ([], []), ([26], [26]), ([], []), ([27, 28], [27, 28]), ([0, 1, 16, 25, 29], [0, 1, 16, 25, 29]), ([30], [30]), ([], [])])
def hagglerlaw02_DecTells.B10 : List Nat := [0, 0, 0, 0, 12, 0, 60, 0, 0, 0, 512, 1792, 0, 4096, 16128, 32640, 65532, 0, 0, 393216, 0, 1966080, 0, 0, 12582912, 33423360, 0, 67108864, 0, 469762048, 1073741823, 2147483647, 0]
theorem hagglerlaw02_DecTells.tab10 : rtab .any (opsOf Tryd.f3 10) = hagglerlaw02_DecTells.T10 := by kernel_rfl
theorem hagglerlaw02_DecTells.bits10 : waitsOk hagglerlaw02_DecTells.T10.2 hagglerlaw02_DecTells.B10 = true := by kernel_rfl
set_option maxHeartbeats 8000000 in
set_option maxRecDepth 100000 in
theorem hagglerlaw02_DecTells.calls (k : Nat) (a0 : Int) (a1 : ByteArray) (a2 : Int) (a3 : Int) (a4 : ByteArray) (r : Bool) (w : World) (hLd : LaidW w) (h : hagglerlaw02_DecTells.f k a0 a1 a2 a3 a4 = some r) :
    Calls Tryd.prog 3 #[.int .i64 a0, .string a1, .int .i64 a2, .int .i64 a3, .string a4] w fun e w' => e = .returned (.bool r) ∧ Below w.heap.size w w' := by
  have HLd := Aside0.mk hLd
  clear hLd
  have HB := Aside0.mk (Below.refl w.heap.size w)
  have H : ((hagglerlaw02_awake.f k).bind fun t143 => ((hagglerlaw01_Amount.f a0).bind fun t144 => ((hagglerlaw02_pick.f a0 20000).bind fun t145 => ((some (([a0, t144, wrap64 (t145 - 10000)] : List Int) : List Int)).bind fun y146 => (hagglerlaw02_DecTells.l0 k a1 a2 a3 a4 t143 y146 (y146.length : Int) 0))))) = some r := h
  clear h
  replace H := Option.bind_eq_some_iff.mp H
  obtain ⟨t143, A60, H⟩ := H
  replace H : ((hagglerlaw01_Amount.f a0).bind fun t144 => ((hagglerlaw02_pick.f a0 20000).bind fun t145 => ((some (([a0, t144, wrap64 (t145 - 10000)] : List Int) : List Int)).bind fun y146 => (hagglerlaw02_DecTells.l0 k a1 a2 a3 a4 t143 y146 (y146.length : Int) 0)))) = some r := H
  have A6 := Aside0.mk A60
  clear A60
  replace H := Option.bind_eq_some_iff.mp H
  obtain ⟨t144, A70, H⟩ := H
  replace H : ((hagglerlaw02_pick.f a0 20000).bind fun t145 => ((some (([a0, t144, wrap64 (t145 - 10000)] : List Int) : List Int)).bind fun y146 => (hagglerlaw02_DecTells.l0 k a1 a2 a3 a4 t143 y146 (y146.length : Int) 0))) = some r := H
  have A7 := Aside0.mk A70
  clear A70
  replace H := Option.bind_eq_some_iff.mp H
  obtain ⟨t145, A80, H⟩ := H
  replace H : ((some (([a0, t144, wrap64 (t145 - 10000)] : List Int) : List Int)).bind fun y146 => (hagglerlaw02_DecTells.l0 k a1 a2 a3 a4 t143 y146 (y146.length : Int) 0)) = some r := H
  have A8 := Aside0.mk A80
  clear A80
  obtain ⟨y146, hy146⟩ : ∃ y_ : List Int, y_ = (([a0, t144, wrap64 (t145 - 10000)] : List Int)) := ⟨_, rfl⟩
  replace H : (hagglerlaw02_DecTells.l0 k a1 a2 a3 a4 t143 y146 (y146.length : Int) 0) = some r := by first | (rw [hy146]; with_reducible exact H) | (have H2_ := (Option.bind_some _ _).symm.trans H; rw [hy146]; with_reducible exact H2_) | (have H2_ := (Option.bind_some _ _).symm.trans H; with_reducible exact H2_) | with_reducible exact H | (rw [hy146]; exact H) | exact H
  have Ny146 := Aside0.mk hy146
  clear hy146
  have H' := Aside0.mk H
  clear H
  go_enter Tryd.func3, Tryd.ntmps3
  go_wp2_with (first | ((with_reducible refine gate_callee (f := 9) rfl ?_); refine goesL_ (some 23) rfl rfl Tryd.func9 (by kernel_rfl) rfl #[] rfl (by (try simp only [List.map_toArray, List.map_cons, List.map_nil]); first | done | rfl | (simp only [List.length_drop, List.length_take]; rfl)) ?_; (with_reducible refine (hagglerlaw02_awake.calls k  t143 _ ?side1 A6.out).mono ?_); (case side1 => exact LaidW.below HLd.out (by repeat (first | (with_reducible first | exact HB.out | apply below_alloc | apply pw_below_drewN | apply below_drew1) | exact HB.out))); rintro e w9 ⟨rfl, hb⟩; refine ⟨_, rfl, ?_⟩; have n0_ := Aside0.mk (below_step (by repeat (first | (with_reducible first | exact HB.out | apply below_alloc | apply pw_below_drewN | apply below_drew1) | exact HB.out)) hb); clear HB; have HB := n0_; clear n0_; (try clear hb); (try clear hb2); (try clear hk); (try clear hi)) | ((with_reducible refine gate_callee (f := 10) rfl ?_); refine goesL_ (some 25) rfl rfl Tryd.func10 (by kernel_rfl) rfl #[.int .i64 a0] rfl (by (try simp only [List.map_toArray, List.map_cons, List.map_nil]); first | done | rfl | (simp only [List.length_drop, List.length_take]; rfl)) ?_; (with_reducible refine (hagglerlaw01_Amount.calls a0 t144 _ A7.out).mono ?_); rintro e w' ⟨rfl, ⟨nd, rfl⟩⟩; refine ⟨_, rfl, ?_⟩) | ((with_reducible refine gate_callee (f := 11) rfl ?_); refine goesL_ (some 29) rfl rfl Tryd.func11 (by kernel_rfl) rfl #[.int .i64 a0, .int .i64 20000] rfl (by (try simp only [List.map_toArray, List.map_cons, List.map_nil]); first | done | rfl | (simp only [List.length_drop, List.length_take]; rfl)) ?_; (with_reducible refine (hagglerlaw02_pick.calls a0 20000 t145 _ A8.out).mono ?_); rintro e w' ⟨rfl, ⟨nd, rfl⟩⟩; refine ⟨_, rfl, ?_⟩) | ((with_reducible refine gate_dst (N := 31) rfl ?_); refine Kd.R_lit (Kd.int .i64) _ 3 ?hg (N := 31) ?hd (xs := ([a0, t144, wrap64 (t145 - 10000)] : List Int)) (inner := [.int .i64 a0, .int .i64 t144, .int .i64 (wrap64 (t145 - 10000))]) (ok := fun _ => True) (okp := fun _ => True) ?hr ?hp (fun _ hk => hk) trivial (Below.refl _ _) (Nat.le_refl _) (by simp) ?_; (case hd => rfl); (case hg => rfl); (case hr => first | (go_simp; done) | (go_simp; rfl)); (case hp => exact (Reps.one (show Kd.M (Kd.int .i64) _ _ _ a0 [.int .i64 a0] from rfl) (Reps.one (show Kd.M (Kd.int .i64) _ _ _ t144 [.int .i64 t144] from rfl) (Reps.one (show Kd.M (Kd.int .i64) _ _ _ (wrap64 (t145 - 10000)) [.int .i64 (wrap64 (t145 - 10000))] from rfl) (Reps.none _ _))))); intro v147 w10 ho11 hb hg_ hnew_; clear hg_ hnew_; (first | rw [← Ny146.out] at ho11 | (simp only [Int.reduceToNat] at ho11; rw [← Ny146.out] at ho11)); have n0_ := Aside0.mk (Kd.R_lower ho11 (below_size (by repeat (first | (with_reducible first | exact HB.out | apply below_alloc | apply pw_below_drewN | apply below_drew1) | exact HB.out)))); have n1_ := Aside0.mk (below_step (by repeat (first | (with_reducible first | exact HB.out | apply below_alloc | apply pw_below_drewN | apply below_drew1) | exact HB.out)) hb); clear HB; have HO148 := n0_; have HB := n1_; clear n0_ n1_; clear hb ho11; obtain ⟨Ao12, co12, eo12⟩ := Kd.R_slice HO148.out; subst eo12))
  go_loopg [33] k (fun kq v33 w' => ∃ (x33_1 : Int), v33 = .int .i64 x33_1 ∧ Aside0 (hagglerlaw02_DecTells.l0 kq a1 a2 a3 a4 t143 y146 (y146.length : Int) x33_1 = some r) ∧ Aside0 (kq ≤ k) ∧ Aside0 (Kd.R (Kd.int .i64) 3 w' w.heap.size (fun _ => True) (.slice Ao12 y146.length co12) y146) ∧ Aside0 (Below w.heap.size w w'))
  case atStart => exact ⟨(0), (by first | rfl | (simp; done) | (simp [*]; done)), H', ⟨Nat.le_refl _⟩, ⟨by (with_reducible repeat (first | apply Kd.R_alloc | apply Kd.R_drewN | apply Kd.R_drew)); exact HO148.out⟩, ⟨by repeat (first | (with_reducible first | exact HB.out | apply below_alloc | apply pw_below_drewN | apply below_drew1) | exact HB.out)⟩⟩
  case round =>
    clear H'
    try clear c1
    try clear p2
    try clear c3
    try clear p6
    try clear c9
    try clear c10
    try clear c11
    obtain ⟨x33_1, rfl, HA, HK1, HO_31, HB⟩ := hrel
    cases gk with
    | zero => exact absurd HA.out (by simp [hagglerlaw02_DecTells.l0])
    | succ k1 =>
      have H := HA.out
      clear HA
      simp only [hagglerlaw02_DecTells.l0] at H
      by_cases c13 : x33_1 < (y146.length : Int)
      · rw [if_pos c13] at H
        have c13b0 : decide (x33_1 < (y146.length : Int)) = true := decide_eq_true c13
        clear c13
        by_cases c14 : 0 ≤ x33_1
        · rw [if_pos c14] at H
          have c14b0 : decide (0 ≤ x33_1) = true := decide_eq_true c14
          clear c14
          by_cases c15 : x33_1 < (y146.length : Int)
          · rw [if_pos c15] at H
            have c15b0 : decide (x33_1 < (y146.length : Int)) = true := decide_eq_true c15
            clear c15
            have HC16 := Aside0.mk H
            clear H
            have p149 : 0 ≤ (x33_1 : Int) := of_decide_eq_true (by first | (with_reducible assumption) | assumption)
            have q149 : x33_1 < (y146.length : Int) := of_decide_eq_true (by first | (with_reducible assumption) | assumption)
            obtain ⟨ad149, e149, hx149_0⟩ := Kd.at_int (Kd.R_reads' HO_31.out).2.2 x33_1 p149 q149
            cases e149
            replace p149 := eq_true p149
            replace q149 := eq_true q149
            go_upto_region 6 with (fail)
            go_cut [48] (fun v48 wc => ∃ (kq : Nat) (x48_15 : Bool), v48 = .bool x48_15 ∧ Aside0 (hagglerlaw02_DecTells.j1 kq a1 a2 a3 a4 t143 (rd y146 x33_1) y146 (y146.length : Int) x33_1 x48_15 = some r) ∧ Aside0 (kq ≤ k1) ∧ Aside0 (Kd.R (Kd.int .i64) 3 wc w.heap.size (fun _ => True) (.slice (some ad149) y146.length co12) y146) ∧ Aside0 (Below w.heap.size w wc))
            case first =>
              have H := HC16.out
              clear HC16
              replace H := Option.bind_eq_some_iff.mp H
              obtain ⟨t150, A170, H⟩ := H
              replace H : ((hagglerref02_Text.f k1 (rd y146 x33_1)).bind fun t151 => (if t150.toList = t151.toList then ((dec_Number.f (rd y146 x33_1)).bind fun t152 => ((hagglerref02_Number.f k1 (rd y146 x33_1)).bind fun t153 => (hagglerlaw02_DecTells.j1 k1 a1 a2 a3 a4 t143 (rd y146 x33_1) y146 (y146.length : Int) x33_1 (t152.toList != t153.toList)))) else (hagglerlaw02_DecTells.j1 k1 a1 a2 a3 a4 t143 (rd y146 x33_1) y146 (y146.length : Int) x33_1 true))) = some r := H
              have A17 := Aside0.mk A170
              clear A170
              replace H := Option.bind_eq_some_iff.mp H
              obtain ⟨t151, A180, H⟩ := H
              replace H : (if t150.toList = t151.toList then ((dec_Number.f (rd y146 x33_1)).bind fun t152 => ((hagglerref02_Number.f k1 (rd y146 x33_1)).bind fun t153 => (hagglerlaw02_DecTells.j1 k1 a1 a2 a3 a4 t143 (rd y146 x33_1) y146 (y146.length : Int) x33_1 (t152.toList != t153.toList)))) else (hagglerlaw02_DecTells.j1 k1 a1 a2 a3 a4 t143 (rd y146 x33_1) y146 (y146.length : Int) x33_1 true)) = some r := H
              have A18 := Aside0.mk A180
              clear A180
              by_cases c19 : t150.toList = t151.toList
              · rw [if_pos c19] at H
                have c19b0 : (t150.toList == t151.toList) = true := beq_iff_eq.mpr c19
                have c19b1 : (t150.toList != t151.toList) = false := bne_eq_false_iff_eq.mpr c19
                clear c19
                (first | rw [c19b0] | (simp only [i64_w, i32_w]; rw [c19b0]) | skip)
                replace H := Option.bind_eq_some_iff.mp H
                obtain ⟨t152, A200, H⟩ := H
                replace H : ((hagglerref02_Number.f k1 (rd y146 x33_1)).bind fun t153 => (hagglerlaw02_DecTells.j1 k1 a1 a2 a3 a4 t143 (rd y146 x33_1) y146 (y146.length : Int) x33_1 (t152.toList != t153.toList))) = some r := H
                have A20 := Aside0.mk A200
                clear A200
                replace H := Option.bind_eq_some_iff.mp H
                obtain ⟨t153, A210, H⟩ := H
                replace H : (hagglerlaw02_DecTells.j1 k1 a1 a2 a3 a4 t143 (rd y146 x33_1) y146 (y146.length : Int) x33_1 (t152.toList != t153.toList)) = some r := H
                have A21 := Aside0.mk A210
                clear A210
                have H' := Aside0.mk H
                clear H
                go_wp2_with (first | ((with_reducible refine gate_callee (f := 12) rfl ?_); refine goesL_ (some 38) rfl rfl Tryd.func12 (by kernel_rfl) rfl #[.int .i64 (rd y146 x33_1)] rfl (by (try simp only [List.map_toArray, List.map_cons, List.map_nil]); first | done | rfl | (simp only [List.length_drop, List.length_take]; rfl)) ?_; (with_reducible refine (dec_Text.calls (rd y146 x33_1) t150 _ ?side1 A17.out).mono ?_); (case side1 => exact LaidW.below HLd.out (by repeat (first | (with_reducible first | exact HB.out | apply below_alloc | apply pw_below_drewN | apply below_drew1) | exact HB.out))); rintro e w22 ⟨rfl, hb⟩; refine ⟨_, rfl, ?_⟩; have n0_ := Aside0.mk (Kd.R_below (by (with_reducible repeat (first | apply Kd.R_alloc | apply Kd.R_drewN | apply Kd.R_drew)); exact HO_31.out) hb); have n1_ := Aside0.mk (below_step (by repeat (first | (with_reducible first | exact HB.out | apply below_alloc | apply pw_below_drewN | apply below_drew1) | exact HB.out)) hb); clear HO_31; clear HB; have HO_31 := n0_; have HB := n1_; clear n0_ n1_; (try clear hb); (try clear hb2); (try clear hk); (try clear hi)) | ((with_reducible refine gate_callee (f := 13) rfl ?_); refine goesL_ (some 40) rfl rfl Tryd.func13 (by kernel_rfl) rfl #[.int .i64 (rd y146 x33_1)] rfl (by (try simp only [List.map_toArray, List.map_cons, List.map_nil]); first | done | rfl | (simp only [List.length_drop, List.length_take]; rfl)) ?_; (with_reducible refine (hagglerref02_Text.calls k1 (rd y146 x33_1) t151 _ A18.out).mono ?_); rintro e w23 ⟨rfl, hb⟩; refine ⟨_, rfl, ?_⟩; have n0_ := Aside0.mk (Kd.R_below (by (with_reducible repeat (first | apply Kd.R_alloc | apply Kd.R_drewN | apply Kd.R_drew)); exact HO_31.out) hb); have n1_ := Aside0.mk (below_step (by repeat (first | (with_reducible first | exact HB.out | apply below_alloc | apply pw_below_drewN | apply below_drew1) | exact HB.out)) hb); clear HO_31; clear HB; have HO_31 := n0_; have HB := n1_; clear n0_ n1_; (try clear hb); (try clear hb2); (try clear hk); (try clear hi)) | (go_at_call 14; (with_reducible refine (dec_Number.calls (rd y146 x33_1) t152 _ ?side1 A20.out).mono ?_); (case side1 => exact LaidW.below HLd.out (by repeat (first | (with_reducible first | exact HB.out | apply below_alloc | apply pw_below_drewN | apply below_drew1) | exact HB.out))); rintro e w24 ⟨rfl, hb⟩; have n0_ := Aside0.mk (Kd.R_below (by (with_reducible repeat (first | apply Kd.R_alloc | apply Kd.R_drewN | apply Kd.R_drew)); exact HO_31.out) hb); have n1_ := Aside0.mk (below_step (by repeat (first | (with_reducible first | exact HB.out | apply below_alloc | apply pw_below_drewN | apply below_drew1) | exact HB.out)) hb); clear HO_31; clear HB; have HO_31 := n0_; have HB := n1_; clear n0_ n1_; (try clear hb); (try clear hb2); (try clear hk); (try clear hi); (try clear A20)) | (go_at_call 15; (with_reducible refine (hagglerref02_Number.calls k1 (rd y146 x33_1) t153 _ A21.out).mono ?_); rintro e w25 ⟨rfl, hb⟩; have n0_ := Aside0.mk (Kd.R_below (by (with_reducible repeat (first | apply Kd.R_alloc | apply Kd.R_drewN | apply Kd.R_drew)); exact HO_31.out) hb); have n1_ := Aside0.mk (below_step (by repeat (first | (with_reducible first | exact HB.out | apply below_alloc | apply pw_below_drewN | apply below_drew1) | exact HB.out)) hb); clear HO_31; clear HB; have HO_31 := n0_; have HB := n1_; clear n0_ n1_; (try clear hb); (try clear hb2); (try clear hk); (try clear hi); (try clear A21)))
                go_meet
                case rel => exact ⟨_, ((t152.toList != t153.toList)), (by first | rfl | (simp; done) | (simp [*]; done)), H', ⟨by have := HK1.out; first | omega | exact Nat.le_refl _⟩, ⟨by (with_reducible repeat (first | apply Kd.R_alloc | apply Kd.R_drewN | apply Kd.R_drew)); exact HO_31.out⟩, ⟨by repeat (first | (with_reducible first | exact HB.out | apply below_alloc | apply pw_below_drewN | apply below_drew1) | exact HB.out)⟩⟩
              · rw [if_neg c19] at H
                have c19b0 : (t150.toList == t151.toList) = false := beq_eq_false_iff_ne.mpr c19
                have c19b1 : (t150.toList != t151.toList) = true := bne_iff_ne.mpr c19
                (first | rw [c19b0] | (simp only [i64_w, i32_w]; rw [c19b0]) | skip)
                have H' := Aside0.mk H
                clear H
                go_wp2_with (first | ((with_reducible refine gate_callee (f := 12) rfl ?_); refine goesL_ (some 38) rfl rfl Tryd.func12 (by kernel_rfl) rfl #[.int .i64 (rd y146 x33_1)] rfl (by (try simp only [List.map_toArray, List.map_cons, List.map_nil]); first | done | rfl | (simp only [List.length_drop, List.length_take]; rfl)) ?_; (with_reducible refine (dec_Text.calls (rd y146 x33_1) t150 _ ?side1 A17.out).mono ?_); (case side1 => exact LaidW.below HLd.out (by repeat (first | (with_reducible first | exact HB.out | apply below_alloc | apply pw_below_drewN | apply below_drew1) | exact HB.out))); rintro e w26 ⟨rfl, hb⟩; refine ⟨_, rfl, ?_⟩; have n0_ := Aside0.mk (Kd.R_below (by (with_reducible repeat (first | apply Kd.R_alloc | apply Kd.R_drewN | apply Kd.R_drew)); exact HO_31.out) hb); have n1_ := Aside0.mk (below_step (by repeat (first | (with_reducible first | exact HB.out | apply below_alloc | apply pw_below_drewN | apply below_drew1) | exact HB.out)) hb); clear HO_31; clear HB; have HO_31 := n0_; have HB := n1_; clear n0_ n1_; (try clear hb); (try clear hb2); (try clear hk); (try clear hi)) | ((with_reducible refine gate_callee (f := 13) rfl ?_); refine goesL_ (some 40) rfl rfl Tryd.func13 (by kernel_rfl) rfl #[.int .i64 (rd y146 x33_1)] rfl (by (try simp only [List.map_toArray, List.map_cons, List.map_nil]); first | done | rfl | (simp only [List.length_drop, List.length_take]; rfl)) ?_; (with_reducible refine (hagglerref02_Text.calls k1 (rd y146 x33_1) t151 _ A18.out).mono ?_); rintro e w27 ⟨rfl, hb⟩; refine ⟨_, rfl, ?_⟩; have n0_ := Aside0.mk (Kd.R_below (by (with_reducible repeat (first | apply Kd.R_alloc | apply Kd.R_drewN | apply Kd.R_drew)); exact HO_31.out) hb); have n1_ := Aside0.mk (below_step (by repeat (first | (with_reducible first | exact HB.out | apply below_alloc | apply pw_below_drewN | apply below_drew1) | exact HB.out)) hb); clear HO_31; clear HB; have HO_31 := n0_; have HB := n1_; clear n0_ n1_; (try clear hb); (try clear hb2); (try clear hk); (try clear hi)))
                go_meet
                case rel => exact ⟨_, (true), (by first | rfl | (simp; done) | (simp [*]; done)), H', ⟨by have := HK1.out; first | omega | exact Nat.le_refl _⟩, ⟨by (with_reducible repeat (first | apply Kd.R_alloc | apply Kd.R_drewN | apply Kd.R_drew)); exact HO_31.out⟩, ⟨by repeat (first | (with_reducible first | exact HB.out | apply below_alloc | apply pw_below_drewN | apply below_drew1) | exact HB.out)⟩⟩
            case rest =>
              clear HC16
              try clear c1
              try clear p1
              try clear q1
              try clear hx1
              try clear p2
              try clear c3
              try clear p6
              try clear c9
              try clear c10
              try clear c11
              try clear c12
              try clear c13
              try clear c13b0
              try clear c14
              try clear c14b0
              try clear p14
              try clear q14
              try clear hx14
              try clear c15
              try clear c15b0
              try clear c19
              try clear c19b0
              try clear c19b1
              try clear hx149_0
              try clear p149
              try clear p2
              try clear p6
              try clear q149
              obtain ⟨kq, x48_15, rfl, HA, HJ15, HO_31, HB⟩ := hcut
              cases kq with
              | zero => exact absurd HA.out (by simp [hagglerlaw02_DecTells.j1])
              | succ kj15 =>
                have H := HA.out
                clear HA
                simp only [hagglerlaw02_DecTells.j1] at H
                by_cases c28 : x48_15 = true
                · subst c28
                  have H1 : (some false) = some r := by rw [if_pos rfl] at H; exact H
                  clear H
                  have H := H1
                  clear H1
                  obtain rfl := Option.some.inj H
                  go_wp2
                  go_ret
                  exact ⟨by first | rfl | (simp [errW_none, errW_some] <;> rfl) | (simp [*, errW_none, errW_some] <;> rfl), by repeat (first | (with_reducible first | exact HB.out | apply below_alloc | apply pw_below_drewN | apply below_drew1) | exact HB.out)⟩
                · replace c28 := Bool.eq_false_iff.mpr c28
                  subst c28
                  have H1 : ((hagglerref02_Text.f kj15 (rd y146 x33_1)).bind fun t154 => ((hagglerlaw02_pick.f a3 (wrap64 ((t154.size : Int) + 1))).bind fun t155 => (if 0 ≤ t155 then (if t155 ≤ (t154.size : Int) then (if (t154.extract 0 (t155 : Int).toNat).size + a4.size ≤ 9223372036854775807 then (if 0 ≤ (mn (wrap64 (t155 + (a4.size : Int))) (t154.size : Int)) then (if (mn (wrap64 (t155 + (a4.size : Int))) (t154.size : Int)) ≤ (t154.size : Int) then (if ((t154.extract 0 (t155 : Int).toNat) ++ a4).size + (t154.extract ((mn (wrap64 (t155 + (a4.size : Int))) (t154.size : Int)) : Int).toNat t154.size).size ≤ 9223372036854775807 then (if ((t154.extract 0 (t155 : Int).toNat) ++ a4).size + (t154.extract (t155 : Int).toNat t154.size).size ≤ 9223372036854775807 then ((hagglerref02_Number.f kj15 (rd y146 x33_1)).bind fun t156 => (if t156.size + a4.size ≤ 9223372036854775807 then ((some (([a1, t154, ((t154.extract 0 (t155 : Int).toNat) ++ a4) ++ (t154.extract ((mn (wrap64 (t155 + (a4.size : Int))) (t154.size : Int)) : Int).toNat t154.size), ((t154.extract 0 (t155 : Int).toNat) ++ a4) ++ (t154.extract (t155 : Int).toNat t154.size), t156 ++ a4] : List ByteArray) : List ByteArray)).bind fun y157 => (hagglerlaw02_DecTells.l1 kj15 a1 a2 a3 a4 t143 y146 (y146.length : Int) x33_1 y157 (y157.length : Int) 0)) else (none))) else (none)) else (none)) else (none)) else (none)) else (none)) else (none)) else (none)))) = some r := by rw [if_neg (show ¬ (false = true) by decide)] at H; exact H
                  clear H
                  have H := H1
                  clear H1
                  replace H := Option.bind_eq_some_iff.mp H
                  obtain ⟨t154, A290, H⟩ := H
                  replace H : ((hagglerlaw02_pick.f a3 (wrap64 ((t154.size : Int) + 1))).bind fun t155 => (if 0 ≤ t155 then (if t155 ≤ (t154.size : Int) then (if (t154.extract 0 (t155 : Int).toNat).size + a4.size ≤ 9223372036854775807 then (if 0 ≤ (mn (wrap64 (t155 + (a4.size : Int))) (t154.size : Int)) then (if (mn (wrap64 (t155 + (a4.size : Int))) (t154.size : Int)) ≤ (t154.size : Int) then (if ((t154.extract 0 (t155 : Int).toNat) ++ a4).size + (t154.extract ((mn (wrap64 (t155 + (a4.size : Int))) (t154.size : Int)) : Int).toNat t154.size).size ≤ 9223372036854775807 then (if ((t154.extract 0 (t155 : Int).toNat) ++ a4).size + (t154.extract (t155 : Int).toNat t154.size).size ≤ 9223372036854775807 then ((hagglerref02_Number.f kj15 (rd y146 x33_1)).bind fun t156 => (if t156.size + a4.size ≤ 9223372036854775807 then ((some (([a1, t154, ((t154.extract 0 (t155 : Int).toNat) ++ a4) ++ (t154.extract ((mn (wrap64 (t155 + (a4.size : Int))) (t154.size : Int)) : Int).toNat t154.size), ((t154.extract 0 (t155 : Int).toNat) ++ a4) ++ (t154.extract (t155 : Int).toNat t154.size), t156 ++ a4] : List ByteArray) : List ByteArray)).bind fun y157 => (hagglerlaw02_DecTells.l1 kj15 a1 a2 a3 a4 t143 y146 (y146.length : Int) x33_1 y157 (y157.length : Int) 0)) else (none))) else (none)) else (none)) else (none)) else (none)) else (none)) else (none)) else (none))) = some r := H
                  have A29 := Aside0.mk A290
                  clear A290
                  replace H := Option.bind_eq_some_iff.mp H
                  obtain ⟨t155, A300, H⟩ := H
                  replace H : (if 0 ≤ t155 then (if t155 ≤ (t154.size : Int) then (if (t154.extract 0 (t155 : Int).toNat).size + a4.size ≤ 9223372036854775807 then (if 0 ≤ (mn (wrap64 (t155 + (a4.size : Int))) (t154.size : Int)) then (if (mn (wrap64 (t155 + (a4.size : Int))) (t154.size : Int)) ≤ (t154.size : Int) then (if ((t154.extract 0 (t155 : Int).toNat) ++ a4).size + (t154.extract ((mn (wrap64 (t155 + (a4.size : Int))) (t154.size : Int)) : Int).toNat t154.size).size ≤ 9223372036854775807 then (if ((t154.extract 0 (t155 : Int).toNat) ++ a4).size + (t154.extract (t155 : Int).toNat t154.size).size ≤ 9223372036854775807 then ((hagglerref02_Number.f kj15 (rd y146 x33_1)).bind fun t156 => (if t156.size + a4.size ≤ 9223372036854775807 then ((some (([a1, t154, ((t154.extract 0 (t155 : Int).toNat) ++ a4) ++ (t154.extract ((mn (wrap64 (t155 + (a4.size : Int))) (t154.size : Int)) : Int).toNat t154.size), ((t154.extract 0 (t155 : Int).toNat) ++ a4) ++ (t154.extract (t155 : Int).toNat t154.size), t156 ++ a4] : List ByteArray) : List ByteArray)).bind fun y157 => (hagglerlaw02_DecTells.l1 kj15 a1 a2 a3 a4 t143 y146 (y146.length : Int) x33_1 y157 (y157.length : Int) 0)) else (none))) else (none)) else (none)) else (none)) else (none)) else (none)) else (none)) else (none)) = some r := H
                  have A30 := Aside0.mk A300
                  clear A300
                  by_cases c31 : 0 ≤ t155
                  · rw [if_pos c31] at H
                    have c31b0 := eq_true c31
                    have c31b1 : decide (0 ≤ t155) = true := decide_eq_true c31
                    clear c31
                    by_cases c32 : t155 ≤ (t154.size : Int)
                    · rw [if_pos c32] at H
                      have c32b0 := eq_true c32
                      have c32b1 : decide (t155 ≤ (t154.size : Int)) = true := decide_eq_true c32
                      clear c32
                      by_cases c33 : (t154.extract 0 (t155 : Int).toNat).size + a4.size ≤ 9223372036854775807
                      · rw [if_pos c33] at H
                        have c33b0 := eq_true c33
                        have c33b1 : decide ((t154.extract 0 (t155 : Int).toNat).size + a4.size ≤ 9223372036854775807) = true := decide_eq_true c33
                        try (have c33b4 : (9223372036854775807 < (t155 : Int).toNat + a4.size) = False := by apply eq_false; apply Nat.not_lt.2; have h_ := c33; simp only [ByteArray.size_append, ByteArray.size_extract, Nat.zero_add, Nat.add_zero] at h_; (try have g0_ := of_eq_true c31b0); (try have g1_ := of_eq_true c32b0); (try have g2_ := of_eq_true c33b0); omega)
                        try (have c33b3 := Nat.not_lt.2 c33; simp only [ByteArray.size_append, ByteArray.size_extract, Nat.min_self, Nat.zero_add, Nat.add_zero] at c33b3; replace c33b3 := eq_false c33b3)
                        try have c33b2 : (9223372036854775807 < (t154.extract 0 (t155 : Int).toNat).size + a4.size) = False := eq_false (Nat.not_lt.2 c33)
                        obtain ⟨ji34, hji34⟩ : ∃ j_ : Int, (mn (wrap64 (t155 + (a4.size : Int))) (t154.size : Int)) = j_ := ⟨_, rfl⟩
                        replace H : (if 0 ≤ (ji34) then (if (ji34) ≤ (t154.size : Int) then (if ((t154.extract 0 (t155 : Int).toNat) ++ a4).size + (t154.extract ((ji34) : Int).toNat t154.size).size ≤ 9223372036854775807 then (if ((t154.extract 0 (t155 : Int).toNat) ++ a4).size + (t154.extract (t155 : Int).toNat t154.size).size ≤ 9223372036854775807 then ((hagglerref02_Number.f kj15 (rd y146 x33_1)).bind fun t156 => (if t156.size + a4.size ≤ 9223372036854775807 then ((some (([a1, t154, ((t154.extract 0 (t155 : Int).toNat) ++ a4) ++ (t154.extract ((ji34) : Int).toNat t154.size), ((t154.extract 0 (t155 : Int).toNat) ++ a4) ++ (t154.extract (t155 : Int).toNat t154.size), t156 ++ a4] : List ByteArray) : List ByteArray)).bind fun y157 => (hagglerlaw02_DecTells.l1 kj15 a1 a2 a3 a4 t143 y146 (y146.length : Int) x33_1 y157 (y157.length : Int) 0)) else (none))) else (none)) else (none)) else (none)) else (none)) = some r := by first | (rw [hji34] at H; exact H) | (simp only [hji34] at H ⊢; exact H)
                        (try rw [hji34] at A29)
                        (try rw [hji34] at A30)
                        have hji34_ : (if (t154.size : Int) < (wrap64 (t155 + (a4.size : Int))) then (t154.size : Int) else (wrap64 (t155 + (a4.size : Int)))) = ji34 := hji34
                        by_cases c35 : 0 ≤ (ji34)
                        · rw [if_pos c35] at H
                          have c35b0 := eq_true c35
                          have c35b1 : decide (0 ≤ (ji34)) = true := decide_eq_true c35
                          clear c35
                          by_cases c36 : (ji34) ≤ (t154.size : Int)
                          · rw [if_pos c36] at H
                            have c36b0 := eq_true c36
                            have c36b1 : decide ((ji34) ≤ (t154.size : Int)) = true := decide_eq_true c36
                            clear c36
                            by_cases c37 : ((t154.extract 0 (t155 : Int).toNat) ++ a4).size + (t154.extract ((ji34) : Int).toNat t154.size).size ≤ 9223372036854775807
                            · rw [if_pos c37] at H
                              have c37b0 := eq_true c37
                              have c37b1 : decide (((t154.extract 0 (t155 : Int).toNat) ++ a4).size + (t154.extract ((ji34) : Int).toNat t154.size).size ≤ 9223372036854775807) = true := decide_eq_true c37
                              try (have c37b4 : (9223372036854775807 < (t155 : Int).toNat + a4.size + (t154.size - ((ji34) : Int).toNat)) = False := by apply eq_false; apply Nat.not_lt.2; have h_ := c37; simp only [ByteArray.size_append, ByteArray.size_extract, Nat.zero_add, Nat.add_zero] at h_; (try have g0_ := of_eq_true c31b0); (try have g1_ := of_eq_true c32b0); (try have g2_ := of_eq_true c33b0); (try have g3_ := of_eq_true c35b0); (try have g4_ := of_eq_true c36b0); (try have g5_ := of_eq_true c37b0); omega)
                              try (have c37b3 := Nat.not_lt.2 c37; simp only [ByteArray.size_append, ByteArray.size_extract, Nat.min_self, Nat.zero_add, Nat.add_zero] at c37b3; replace c37b3 := eq_false c37b3)
                              try have c37b2 : (9223372036854775807 < ((t154.extract 0 (t155 : Int).toNat) ++ a4).size + (t154.extract ((ji34) : Int).toNat t154.size).size) = False := eq_false (Nat.not_lt.2 c37)
                              have c38b0 := eq_true (of_decide_eq_true (by first | (with_reducible assumption) | assumption) : 0 ≤ t155)
                              have c39b0 := eq_true (of_decide_eq_true (by first | (with_reducible assumption) | assumption) : t155 ≤ (t154.size : Int))
                              have c40b0 := eq_true (of_decide_eq_true (by first | (with_reducible assumption) | assumption) : 0 ≤ t155)
                              have c41b0 := eq_true (of_decide_eq_true (by first | (with_reducible assumption) | assumption) : t155 ≤ (t154.size : Int))
                              by_cases c42 : ((t154.extract 0 (t155 : Int).toNat) ++ a4).size + (t154.extract (t155 : Int).toNat t154.size).size ≤ 9223372036854775807
                              · rw [if_pos c42] at H
                                have c42b0 := eq_true c42
                                have c42b1 : decide (((t154.extract 0 (t155 : Int).toNat) ++ a4).size + (t154.extract (t155 : Int).toNat t154.size).size ≤ 9223372036854775807) = true := decide_eq_true c42
                                try (have c42b4 : (9223372036854775807 < (t155 : Int).toNat + a4.size + (t154.size - (t155 : Int).toNat)) = False := by apply eq_false; apply Nat.not_lt.2; have h_ := c42; simp only [ByteArray.size_append, ByteArray.size_extract, Nat.zero_add, Nat.add_zero] at h_; (try have g0_ := of_eq_true c31b0); (try have g1_ := of_eq_true c32b0); (try have g2_ := of_eq_true c33b0); (try have g3_ := of_eq_true c35b0); (try have g4_ := of_eq_true c36b0); (try have g5_ := of_eq_true c37b0); (try have g6_ := of_eq_true c38b0); (try have g7_ := of_eq_true c39b0); (try have g8_ := of_eq_true c40b0); (try have g9_ := of_eq_true c41b0); (try have g10_ := of_eq_true c42b0); omega)
                                try (have c42b3 := Nat.not_lt.2 c42; simp only [ByteArray.size_append, ByteArray.size_extract, Nat.min_self, Nat.zero_add, Nat.add_zero] at c42b3; replace c42b3 := eq_false c42b3)
                                try have c42b2 : (9223372036854775807 < ((t154.extract 0 (t155 : Int).toNat) ++ a4).size + (t154.extract (t155 : Int).toNat t154.size).size) = False := eq_false (Nat.not_lt.2 c42)
                                replace H := Option.bind_eq_some_iff.mp H
                                obtain ⟨t156, A430, H⟩ := H
                                replace H : (if t156.size + a4.size ≤ 9223372036854775807 then ((some (([a1, t154, ((t154.extract 0 (t155 : Int).toNat) ++ a4) ++ (t154.extract ((ji34) : Int).toNat t154.size), ((t154.extract 0 (t155 : Int).toNat) ++ a4) ++ (t154.extract (t155 : Int).toNat t154.size), t156 ++ a4] : List ByteArray) : List ByteArray)).bind fun y157 => (hagglerlaw02_DecTells.l1 kj15 a1 a2 a3 a4 t143 y146 (y146.length : Int) x33_1 y157 (y157.length : Int) 0)) else (none)) = some r := H
                                have A43 := Aside0.mk A430
                                clear A430
                                by_cases c44 : t156.size + a4.size ≤ 9223372036854775807
                                · rw [if_pos c44] at H
                                  have c44b0 := eq_true c44
                                  have c44b1 : decide (t156.size + a4.size ≤ 9223372036854775807) = true := decide_eq_true c44
                                  try (have c44b3 := Nat.not_lt.2 c44; simp only [ByteArray.size_append, ByteArray.size_extract, Nat.min_self, Nat.zero_add, Nat.add_zero] at c44b3; replace c44b3 := eq_false c44b3)
                                  try have c44b2 : (9223372036854775807 < t156.size + a4.size) = False := eq_false (Nat.not_lt.2 c44)
                                  obtain ⟨y157, hy157⟩ : ∃ y_ : List ByteArray, y_ = (([a1, t154, ((t154.extract 0 (t155 : Int).toNat) ++ a4) ++ (t154.extract ((ji34) : Int).toNat t154.size), ((t154.extract 0 (t155 : Int).toNat) ++ a4) ++ (t154.extract (t155 : Int).toNat t154.size), t156 ++ a4] : List ByteArray)) := ⟨_, rfl⟩
                                  replace H : (hagglerlaw02_DecTells.l1 kj15 a1 a2 a3 a4 t143 y146 (y146.length : Int) x33_1 y157 (y157.length : Int) 0) = some r := by first | (rw [hy157]; with_reducible exact H) | (have H2_ := (Option.bind_some _ _).symm.trans H; rw [hy157]; with_reducible exact H2_) | (have H2_ := (Option.bind_some _ _).symm.trans H; with_reducible exact H2_) | with_reducible exact H | (rw [hy157]; exact H) | exact H
                                  have Ny157 := Aside0.mk hy157
                                  clear hy157
                                  have H' := Aside0.mk H
                                  clear H
                                  try go_wp2_with (first | ((with_reducible refine gate_callee (f := 13) rfl ?_); refine goesL_ (some 50) rfl rfl Tryd.func13 (by kernel_rfl) rfl #[.int .i64 (rd y146 x33_1)] rfl (by (try simp only [List.map_toArray, List.map_cons, List.map_nil]); first | done | rfl | (simp only [List.length_drop, List.length_take]; rfl)) ?_; (with_reducible refine (hagglerref02_Text.calls kj15 (rd y146 x33_1) t154 _ A29.out).mono ?_); rintro e w45 ⟨rfl, hb⟩; refine ⟨_, rfl, ?_⟩; have n0_ := Aside0.mk (Kd.R_below (by (with_reducible repeat (first | apply Kd.R_alloc | apply Kd.R_drewN | apply Kd.R_drew)); exact HO_31.out) hb); have n1_ := Aside0.mk (below_step (by repeat (first | (with_reducible first | exact HB.out | apply below_alloc | apply pw_below_drewN | apply below_drew1) | exact HB.out)) hb); clear HO_31; clear HB; have HO_31 := n0_; have HB := n1_; clear n0_ n1_; (try clear hb); (try clear hb2); (try clear hk); (try clear hi)) | ((with_reducible refine gate_callee (f := 11) rfl ?_); refine goesL_ (some 55) rfl rfl Tryd.func11 (by kernel_rfl) rfl #[.int .i64 a3, .int .i64 (wrap64 ((t154.size : Int) + 1))] rfl (by (try simp only [List.map_toArray, List.map_cons, List.map_nil]); first | done | rfl | (simp only [List.length_drop, List.length_take]; rfl)) ?_; (with_reducible refine (hagglerlaw02_pick.calls a3 (wrap64 ((t154.size : Int) + 1)) t155 _ A30.out).mono ?_); rintro e w' ⟨rfl, ⟨nd, rfl⟩⟩; refine ⟨_, rfl, ?_⟩))
                                  (try (rw [drewN_self w45]; generalize hq_ : World.drewN w45 _ = w45; have n0_ : Aside0 (Kd.R (Kd.int .i64) 3 w45 w.heap.size (fun _ => True) (.slice (some ad149) y146.length co12) y146) := ⟨by rw [← hq_]; exact (by (with_reducible repeat (first | apply Kd.R_alloc | apply Kd.R_drewN | apply Kd.R_drew)); exact HO_31.out)⟩; have n1_ : Aside0 (Below w.heap.size w w45) := ⟨by rw [← hq_]; exact (by repeat (first | (with_reducible first | exact HB.out | apply below_alloc | apply pw_below_drewN | apply below_drew1) | exact HB.out))⟩; clear HO_31 HB hq_; have HO_31 := n0_; have HB := n1_; clear n0_ n1_))
                                  have n0_ := Aside0.mk (Kd.R_drew HO_31.out)
                                  have n1_ := Aside0.mk (below_drew1 HB.out)
                                  clear HO_31
                                  clear HB
                                  have HO_31 := n0_
                                  have HB := n1_
                                  clear n0_ n1_
                                  refine start_ (n := 33) (S := fun w' => True) (ds := []) #[false, false, false, false, false, false, false, false, false, false, false, false, false, false, false, false, false, false, false, false, false, false, false, false, false, false, false, false, false, false, false, false, false] (by kernel_rfl) rfl rfl trivial (fun hHeld => ?_); refine with_tabW hagglerlaw02_DecTells.tab10 hagglerlaw02_DecTells.bits10 (fun HT_ HW_ => ?_)
                                  generalize w45.drew = w46 at HO_31 HB hHeld ⊢
                                  refine pure_ (i := 0) (N := some 56) (v := ?_) (a' := ?_) #[true, false, false, false, false, false, false, false, false, false, false, false, false, false, false, false, false, false, false, false, false, false, false, false, false, false, false, false, false, false, false, false, false] rfl rfl (any_of HT_.out (by kernel_rfl)) (fun _ _ _ h => h) (Or.inl ⟨by rfl, ?_⟩) ?_ ?_
                                  rotate_left
                                  · intro w'
                                    go_simp
                                    with_reducible rfl
                                  rotate_left
                                  · simp only [Act.put, List.setIfInBounds_toArray, List.set_cons_zero, List.set_cons_succ, i64_w, i32_w]
                                    rfl
                                  refine pure_ (i := 1) (N := some 57) (v := ?_) (a' := ?_) #[true, true, false, false, false, false, false, false, false, false, false, false, false, false, false, false, false, false, false, false, false, false, false, false, false, false, false, false, false, false, false, false, false] rfl rfl (any_of HT_.out (by kernel_rfl)) (fun _ _ _ h => h) (Or.inl ⟨by rfl, ?_⟩) ?_ ?_
                                  rotate_left
                                  · intro w'
                                    go_simp
                                    with_reducible rfl
                                  rotate_left
                                  · simp only [Act.put, List.setIfInBounds_toArray, List.set_cons_zero, List.set_cons_succ, i64_w, i32_w]
                                    rfl
                                  refine pure_ (i := 2) (N := some 58) (v := ?_) (a' := ?_) #[true, true, true, false, false, false, false, false, false, false, false, false, false, false, false, false, false, false, false, false, false, false, false, false, false, false, false, false, false, false, false, false, false] rfl rfl (any_of HT_.out (by kernel_rfl)) (fun _ _ _ h => h) (Or.inl ⟨by rfl, ?_⟩) ?_ ?_
                                  rotate_left
                                  · intro w'
                                    go_simp
                                    with_reducible rfl
                                  rotate_left
                                  · simp only [Act.put, List.setIfInBounds_toArray, List.set_cons_zero, List.set_cons_succ, i64_w, i32_w]
                                    rfl
                                  refine pure_ (i := 3) (N := some 59) (v := ?_) (a' := ?_) #[true, true, true, true, false, false, false, false, false, false, false, false, false, false, false, false, false, false, false, false, false, false, false, false, false, false, false, false, false, false, false, false, false] rfl rfl (any_of HT_.out (by kernel_rfl)) (fun _ _ _ h => h) (Or.inl ⟨by rfl, ?_⟩) ?_ ?_
                                  rotate_left
                                  · intro w'
                                    go_simp
                                    with_reducible rfl
                                  rotate_left
                                  · simp only [Act.put, List.setIfInBounds_toArray, List.set_cons_zero, List.set_cons_succ, i64_w, i32_w]
                                    rfl
                                  refine pure_ (i := 4) (N := some 60) (v := ?_) (a' := ?_) #[true, true, true, true, true, false, false, false, false, false, false, false, false, false, false, false, false, false, false, false, false, false, false, false, false, false, false, false, false, false, false, false, false] rfl rfl (any_of HT_.out (by kernel_rfl)) (fun _ _ _ h => h) (Or.inl ⟨by rfl, ?_⟩) ?_ ?_
                                  rotate_left
                                  · intro w'
                                    go_simp
                                    with_reducible rfl
                                  rotate_left
                                  · simp only [Act.put, List.setIfInBounds_toArray, List.set_cons_zero, List.set_cons_succ, i64_w, i32_w]
                                    rfl
                                  refine pure_ (i := 5) (N := some 61) (v := ?_) (a' := ?_) #[true, true, true, true, true, true, false, false, false, false, false, false, false, false, false, false, false, false, false, false, false, false, false, false, false, false, false, false, false, false, false, false, false] rfl rfl (any_of HT_.out (by kernel_rfl)) (fun _ _ _ h => h) (Or.inl ⟨by rfl, ?_⟩) ?_ ?_
                                  rotate_left
                                  · intro w'
                                    go_simp
                                    with_reducible rfl
                                  rotate_left
                                  · simp only [Act.put, List.setIfInBounds_toArray, List.set_cons_zero, List.set_cons_succ, i64_w, i32_w]
                                    rfl
                                  refine pure_ (i := 6) (N := some 62) (v := ?_) (a' := ?_) #[true, true, true, true, true, true, true, false, false, false, false, false, false, false, false, false, false, false, false, false, false, false, false, false, false, false, false, false, false, false, false, false, false] rfl rfl (any_of HT_.out (by kernel_rfl)) (fun _ _ _ h => h) (Or.inl ⟨by rfl, ?_⟩) ?_ ?_
                                  rotate_left
                                  · intro w'
                                    go_simp
                                    with_reducible rfl
                                  rotate_left
                                  · simp only [Act.put, List.setIfInBounds_toArray, List.set_cons_zero, List.set_cons_succ, i64_w, i32_w]
                                    rfl
                                  refine pure_ (i := 7) (N := some 63) (v := ?_) (a' := ?_) #[true, true, true, true, true, true, true, true, false, false, false, false, false, false, false, false, false, false, false, false, false, false, false, false, false, false, false, false, false, false, false, false, false] rfl rfl (any_of HT_.out (by kernel_rfl)) (fun _ _ _ h => h) (Or.inl ⟨by rfl, ?_⟩) ?_ ?_
                                  rotate_left
                                  · intro w'
                                    go_simp
                                    with_reducible rfl
                                  rotate_left
                                  · simp only [Act.put, List.setIfInBounds_toArray, List.set_cons_zero, List.set_cons_succ, i64_w, i32_w]
                                    rfl
                                  refine pure_ (i := 8) (N := some 64) (v := ?_) (a' := ?_) #[true, true, true, true, true, true, true, true, true, false, false, false, false, false, false, false, false, false, false, false, false, false, false, false, false, false, false, false, false, false, false, false, false] rfl rfl (any_of HT_.out (by kernel_rfl)) (fun _ _ _ h => h) (Or.inl ⟨by rfl, ?_⟩) ?_ ?_
                                  rotate_left
                                  · intro w'
                                    go_simp
                                    with_reducible rfl
                                  rotate_left
                                  · simp only [Act.put, List.setIfInBounds_toArray, List.set_cons_zero, List.set_cons_succ, i64_w, i32_w]
                                    rfl
                                  refine pure_ (i := 9) (N := some 65) (v := ?_) (a' := ?_) #[true, true, true, true, true, true, true, true, true, true, false, false, false, false, false, false, false, false, false, false, false, false, false, false, false, false, false, false, false, false, false, false, false] rfl rfl (any_of HT_.out (by kernel_rfl)) (fun _ _ _ h => h) (Or.inl ⟨by rfl, ?_⟩) ?_ ?_
                                  rotate_left
                                  · intro w'
                                    go_simp
                                    with_reducible rfl
                                  rotate_left
                                  · simp only [Act.put, List.setIfInBounds_toArray, List.set_cons_zero, List.set_cons_succ, i64_w, i32_w]
                                    rfl
                                  refine pure_ (i := 10) (N := some 66) (v := ?_) (a' := ?_) #[true, true, true, true, true, true, true, true, true, true, true, false, false, false, false, false, false, false, false, false, false, false, false, false, false, false, false, false, false, false, false, false, false] rfl rfl (any_of HT_.out (by kernel_rfl)) (fun _ _ _ h => h) (Or.inl ⟨by rfl, ?_⟩) ?_ ?_
                                  rotate_left
                                  · intro w'
                                    go_simp
                                    with_reducible rfl
                                  rotate_left
                                  · simp only [Act.put, List.setIfInBounds_toArray, List.set_cons_zero, List.set_cons_succ, i64_w, i32_w]
                                    rfl
                                  refine pure_ (i := 11) (N := some 67) (v := ?_) (a' := ?_) #[true, true, true, true, true, true, true, true, true, true, true, true, false, false, false, false, false, false, false, false, false, false, false, false, false, false, false, false, false, false, false, false, false] rfl rfl (any_of HT_.out (by kernel_rfl)) (fun _ _ _ h => h) (Or.inl ⟨by rfl, ?_⟩) ?_ ?_
                                  rotate_left
                                  · intro w'
                                    go_simp
                                    with_reducible rfl
                                  rotate_left
                                  · simp only [Act.put, List.setIfInBounds_toArray, List.set_cons_zero, List.set_cons_succ, i64_w, i32_w]
                                    rfl
                                  refine pure_ (i := 12) (N := some 68) (v := ?_) (a' := ?_) #[true, true, true, true, true, true, true, true, true, true, true, true, true, false, false, false, false, false, false, false, false, false, false, false, false, false, false, false, false, false, false, false, false] rfl rfl (any_of HT_.out (by kernel_rfl)) (fun _ _ _ h => h) (Or.inl ⟨by rfl, ?_⟩) ?_ ?_
                                  rotate_left
                                  · intro w'
                                    go_simp
                                    with_reducible rfl
                                  rotate_left
                                  · simp only [Act.put, List.setIfInBounds_toArray, List.set_cons_zero, List.set_cons_succ, i64_w, i32_w]
                                    rfl
                                  refine pure_ (i := 13) (N := some 69) (v := ?_) (a' := ?_) #[true, true, true, true, true, true, true, true, true, true, true, true, true, true, false, false, false, false, false, false, false, false, false, false, false, false, false, false, false, false, false, false, false] rfl rfl (any_of HT_.out (by kernel_rfl)) (fun _ _ _ h => h) (Or.inl ⟨by rfl, ?_⟩) ?_ ?_
                                  rotate_left
                                  · intro w'
                                    go_simp
                                    with_reducible rfl
                                  rotate_left
                                  · simp only [Act.put, List.setIfInBounds_toArray, List.set_cons_zero, List.set_cons_succ, i64_w, i32_w]
                                    rfl
                                  refine pure_ (i := 14) (N := some 70) (v := ?_) (a' := ?_) #[true, true, true, true, true, true, true, true, true, true, true, true, true, true, true, false, false, false, false, false, false, false, false, false, false, false, false, false, false, false, false, false, false] rfl rfl (any_of HT_.out (by kernel_rfl)) (fun _ _ _ h => h) (Or.inl ⟨by rfl, ?_⟩) ?_ ?_
                                  rotate_left
                                  · intro w'
                                    go_simp
                                    with_reducible rfl
                                  rotate_left
                                  · simp only [Act.put, List.setIfInBounds_toArray, List.set_cons_zero, List.set_cons_succ, i64_w, i32_w]
                                    rfl
                                  refine pure_ (i := 15) (N := some 71) (v := ?_) (a' := ?_) #[true, true, true, true, true, true, true, true, true, true, true, true, true, true, true, true, false, false, false, false, false, false, false, false, false, false, false, false, false, false, false, false, false] rfl rfl (any_of HT_.out (by kernel_rfl)) (fun _ _ _ h => h) (Or.inl ⟨by rfl, ?_⟩) ?_ ?_
                                  rotate_left
                                  · intro w'
                                    go_simp
                                    with_reducible rfl
                                  rotate_left
                                  · simp only [Act.put, List.setIfInBounds_toArray, List.set_cons_zero, List.set_cons_succ, i64_w, i32_w]
                                    rfl
                                  refine pure_ (i := 16) (N := some 72) (v := ?_) (a' := ?_) #[true, true, true, true, true, true, true, true, true, true, true, true, true, true, true, true, true, false, false, false, false, false, false, false, false, false, false, false, false, false, false, false, false] rfl rfl (any_of HT_.out (by kernel_rfl)) (fun _ _ _ h => h) (Or.inl ⟨by rfl, ?_⟩) ?_ ?_
                                  rotate_left
                                  · intro w'
                                    go_simp
                                    with_reducible rfl
                                  rotate_left
                                  · simp only [Act.put, List.setIfInBounds_toArray, List.set_cons_zero, List.set_cons_succ, i64_w, i32_w]
                                    rfl
                                  refine pure_ (i := 17) (N := some 73) (v := ?_) (a' := ?_) #[true, true, true, true, true, true, true, true, true, true, true, true, true, true, true, true, true, true, false, false, false, false, false, false, false, false, false, false, false, false, false, false, false] rfl rfl (any_of HT_.out (by kernel_rfl)) (fun _ _ _ h => h) (Or.inl ⟨by rfl, ?_⟩) ?_ ?_
                                  rotate_left
                                  · intro w'
                                    go_simp
                                    with_reducible rfl
                                  rotate_left
                                  · simp only [Act.put, List.setIfInBounds_toArray, List.set_cons_zero, List.set_cons_succ, i64_w, i32_w]
                                    rfl
                                  refine pure_ (i := 18) (N := some 74) (v := ?_) (a' := ?_) #[true, true, true, true, true, true, true, true, true, true, true, true, true, true, true, true, true, true, true, false, false, false, false, false, false, false, false, false, false, false, false, false, false] rfl rfl (any_of HT_.out (by kernel_rfl)) (fun _ _ _ h => h) (Or.inl ⟨by rfl, ?_⟩) ?_ ?_
                                  rotate_left
                                  · intro w'
                                    go_simp
                                    with_reducible rfl
                                  rotate_left
                                  · simp only [Act.put, List.setIfInBounds_toArray, List.set_cons_zero, List.set_cons_succ, i64_w, i32_w]
                                    rfl
                                  refine pure_ (i := 19) (N := some 75) (v := ?_) (a' := ?_) #[true, true, true, true, true, true, true, true, true, true, true, true, true, true, true, true, true, true, true, true, false, false, false, false, false, false, false, false, false, false, false, false, false] rfl rfl (any_of HT_.out (by kernel_rfl)) (fun _ _ _ h => h) (Or.inl ⟨by rfl, ?_⟩) ?_ ?_
                                  rotate_left
                                  · intro w'
                                    go_simp
                                    with_reducible rfl
                                  rotate_left
                                  · simp only [Act.put, List.setIfInBounds_toArray, List.set_cons_zero, List.set_cons_succ, i64_w, i32_w]
                                    rfl
                                  refine pure_ (i := 20) (N := some 76) (v := ?_) (a' := ?_) #[true, true, true, true, true, true, true, true, true, true, true, true, true, true, true, true, true, true, true, true, true, false, false, false, false, false, false, false, false, false, false, false, false] rfl rfl (any_of HT_.out (by kernel_rfl)) (fun _ _ _ h => h) (Or.inl ⟨by rfl, ?_⟩) ?_ ?_
                                  rotate_left
                                  · intro w'
                                    go_simp
                                    with_reducible rfl
                                  rotate_left
                                  · simp only [Act.put, List.setIfInBounds_toArray, List.set_cons_zero, List.set_cons_succ, i64_w, i32_w]
                                    rfl
                                  refine pure_ (i := 21) (N := some 77) (v := ?_) (a' := ?_) #[true, true, true, true, true, true, true, true, true, true, true, true, true, true, true, true, true, true, true, true, true, true, false, false, false, false, false, false, false, false, false, false, false] rfl rfl (any_of HT_.out (by kernel_rfl)) (fun _ _ _ h => h) (Or.inl ⟨by rfl, ?_⟩) ?_ ?_
                                  rotate_left
                                  · intro w'
                                    go_simp
                                    with_reducible rfl
                                  rotate_left
                                  · simp only [Act.put, List.setIfInBounds_toArray, List.set_cons_zero, List.set_cons_succ, i64_w, i32_w]
                                    rfl
                                  refine pure_ (i := 22) (N := some 78) (v := ?_) (a' := ?_) #[true, true, true, true, true, true, true, true, true, true, true, true, true, true, true, true, true, true, true, true, true, true, true, false, false, false, false, false, false, false, false, false, false] rfl rfl (any_of HT_.out (by kernel_rfl)) (fun _ _ _ h => h) (Or.inl ⟨by rfl, ?_⟩) ?_ ?_
                                  rotate_left
                                  · intro w'
                                    go_simp
                                    with_reducible rfl
                                  rotate_left
                                  · simp only [Act.put, List.setIfInBounds_toArray, List.set_cons_zero, List.set_cons_succ, i64_w, i32_w]
                                    rfl
                                  refine pure_ (i := 23) (N := some 79) (v := ?_) (a' := ?_) #[true, true, true, true, true, true, true, true, true, true, true, true, true, true, true, true, true, true, true, true, true, true, true, true, false, false, false, false, false, false, false, false, false] rfl rfl (any_of HT_.out (by kernel_rfl)) (fun _ _ _ h => h) (Or.inl ⟨by rfl, ?_⟩) ?_ ?_
                                  rotate_left
                                  · intro w'
                                    go_simp
                                    with_reducible rfl
                                  rotate_left
                                  · simp only [Act.put, List.setIfInBounds_toArray, List.set_cons_zero, List.set_cons_succ, i64_w, i32_w]
                                    rfl
                                  refine pure_ (i := 24) (N := some 80) (v := ?_) (a' := ?_) #[true, true, true, true, true, true, true, true, true, true, true, true, true, true, true, true, true, true, true, true, true, true, true, true, true, false, false, false, false, false, false, false, false] rfl rfl (any_of HT_.out (by kernel_rfl)) (fun _ _ _ h => h) (Or.inl ⟨by rfl, ?_⟩) ?_ ?_
                                  rotate_left
                                  · intro w'
                                    go_simp
                                    with_reducible rfl
                                  rotate_left
                                  · simp only [Act.put, List.setIfInBounds_toArray, List.set_cons_zero, List.set_cons_succ, i64_w, i32_w]
                                    rfl
                                  refine pure_ (i := 25) (N := some 81) (v := ?_) (a' := ?_) #[true, true, true, true, true, true, true, true, true, true, true, true, true, true, true, true, true, true, true, true, true, true, true, true, true, true, false, false, false, false, false, false, false] rfl rfl (any_of HT_.out (by kernel_rfl)) (fun _ _ _ h => h) (Or.inl ⟨by rfl, ?_⟩) ?_ ?_
                                  rotate_left
                                  · intro w'
                                    go_simp
                                    with_reducible rfl
                                  rotate_left
                                  · simp only [Act.put, List.setIfInBounds_toArray, List.set_cons_zero, List.set_cons_succ, i64_w, i32_w]
                                    rfl
                                  refine pure_ (i := 26) (N := some 82) (v := ?_) (a' := ?_) #[true, true, true, true, true, true, true, true, true, true, true, true, true, true, true, true, true, true, true, true, true, true, true, true, true, true, true, false, false, false, false, false, false] rfl rfl (any_of HT_.out (by kernel_rfl)) (fun _ _ _ h => h) (Or.inl ⟨by rfl, ?_⟩) ?_ ?_
                                  rotate_left
                                  · intro w'
                                    go_simp
                                    with_reducible rfl
                                  rotate_left
                                  · simp only [Act.put, List.setIfInBounds_toArray, List.set_cons_zero, List.set_cons_succ, i64_w, i32_w]
                                    rfl
                                  refine pure_ (i := 28) (N := some 84) (v := ?_) (a' := ?_) #[true, true, true, true, true, true, true, true, true, true, true, true, true, true, true, true, true, true, true, true, true, true, true, true, true, true, true, false, true, false, false, false, false] rfl rfl (any_of HT_.out (by kernel_rfl)) (fun _ _ _ h => h) (Or.inl ⟨by rfl, ?_⟩) ?_ ?_
                                  rotate_left
                                  · intro w'
                                    go_simp
                                    with_reducible rfl
                                  rotate_left
                                  · simp only [Act.put, List.setIfInBounds_toArray, List.set_cons_zero, List.set_cons_succ, i64_w, i32_w]
                                    rfl
                                  refine pure_ (i := 32) (N := some 88) (v := ?_) (a' := ?_) #[true, true, true, true, true, true, true, true, true, true, true, true, true, true, true, true, true, true, true, true, true, true, true, true, true, true, true, false, true, false, false, false, true] rfl rfl (any_of HT_.out (by kernel_rfl)) (fun _ _ _ h => h) (Or.inl ⟨by rfl, ?_⟩) ?_ ?_
                                  rotate_left
                                  · intro w'
                                    go_simp
                                    with_reducible rfl
                                  rotate_left
                                  · simp only [Act.put, List.setIfInBounds_toArray, List.set_cons_zero, List.set_cons_succ, i64_w, i32_w]
                                    rfl
                                  refine one_ (i := 27) (N := some 83) #[true, true, true, true, true, true, true, true, true, true, true, true, true, true, true, true, true, true, true, true, true, true, true, true, true, true, true, true, true, false, false, false, true] rfl rfl (one_of HT_.out (by kernel_rfl)) (by decide) (fun K hK => ?_)
                                  refine goes_ Tryd.func15 (by kernel_rfl) rfl #[.int .i64 (rd y146 x33_1)] (by rfl) rfl rfl (by (try simp only [List.map_toArray, List.map_cons, List.map_nil]); first | done | rfl | (simp only [List.length_drop, List.length_take]; rfl)) ?_
                                  with_reducible refine (hagglerref02_Number.calls kj15 (rd y146 x33_1) t156 _ A43.out).mono ?_
                                  rintro e w47 ⟨rfl, hb⟩
                                  refine ⟨_, rfl, ?_⟩
                                  have n0_ := Aside0.mk (Kd.R_below (by (with_reducible repeat (first | apply Kd.R_alloc | apply Kd.R_drewN | apply Kd.R_drew)); exact HO_31.out) hb)
                                  have n1_ := Aside0.mk (below_step (by repeat (first | (with_reducible first | exact HB.out | apply below_alloc | apply pw_below_drewN | apply below_drew1) | exact HB.out)) hb)
                                  clear HO_31
                                  clear HB
                                  have HO_31 := n0_
                                  have HB := n1_
                                  clear n0_ n1_
                                  (try clear hb)
                                  (try clear hb2)
                                  (try clear hk)
                                  (try clear hi)
                                  refine hK.out _ _ trivial (fun hHeld => ?_)
                                  clear hK K
                                  refine norm_ (a' := ?_) ?_ ?_
                                  rotate_left
                                  · show Act.put _ (some 83) _ = _
                                    simp only [Act.put, List.setIfInBounds_toArray, List.set_cons_zero, List.set_cons_succ, i64_w, i32_w]
                                    rfl
                                  refine pure_ (i := 29) (N := some 85) (v := ?_) (a' := ?_) #[true, true, true, true, true, true, true, true, true, true, true, true, true, true, true, true, true, true, true, true, true, true, true, true, true, true, true, true, true, true, false, false, true] rfl rfl (any_of HT_.out (by kernel_rfl)) (fun _ _ _ h => h) (Or.inl ⟨by rfl, ?_⟩) ?_ ?_
                                  rotate_left
                                  · intro w'
                                    go_simp
                                    with_reducible rfl
                                  rotate_left
                                  · simp only [Act.put, List.setIfInBounds_toArray, List.set_cons_zero, List.set_cons_succ, i64_w, i32_w]
                                    rfl
                                  refine one_ (i := 30) (N := some 86) #[true, true, true, true, true, true, true, true, true, true, true, true, true, true, true, true, true, true, true, true, true, true, true, true, true, true, true, true, true, true, true, false, true] rfl rfl (one_of HT_.out (by kernel_rfl)) (by decide) (fun K hK => ?_)
                                  refine Kd.R_lit_step Kd.string _ 9 ?hg (N := 86) ?hd (xs := ([a1, t154, ((t154.extract 0 (t155 : Int).toNat) ++ a4) ++ (t154.extract ((ji34) : Int).toNat t154.size), ((t154.extract 0 (t155 : Int).toNat) ++ a4) ++ (t154.extract (t155 : Int).toNat t154.size), t156 ++ a4] : List ByteArray)) (inner := [.string a1, .string t154, .string (((t154.extract 0 (t155 : Int).toNat) ++ a4) ++ (t154.extract ((ji34) : Int).toNat t154.size)), .string (((t154.extract 0 (t155 : Int).toNat) ++ a4) ++ (t154.extract (t155 : Int).toNat t154.size)), .string (t156 ++ a4)]) (ok := fun _ => True) (okp := fun _ => True) ?hr ?hp (fun _ hk => hk) trivial (Below.refl _ _) (Nat.le_refl _) (by simp) ?_; (case hd => rfl); (case hg => rfl); (case hr => first | (go_simp; done) | (go_simp; rfl)); (case hp => exact (Reps.one (show Kd.M Kd.string _ _ _ a1 [.string a1] from rfl) (Reps.one (show Kd.M Kd.string _ _ _ t154 [.string t154] from rfl) (Reps.one (show Kd.M Kd.string _ _ _ (((t154.extract 0 (t155 : Int).toNat) ++ a4) ++ (t154.extract ((ji34) : Int).toNat t154.size)) [.string (((t154.extract 0 (t155 : Int).toNat) ++ a4) ++ (t154.extract ((ji34) : Int).toNat t154.size))] from rfl) (Reps.one (show Kd.M Kd.string _ _ _ (((t154.extract 0 (t155 : Int).toNat) ++ a4) ++ (t154.extract (t155 : Int).toNat t154.size)) [.string (((t154.extract 0 (t155 : Int).toNat) ++ a4) ++ (t154.extract (t155 : Int).toNat t154.size))] from rfl) (Reps.one (show Kd.M Kd.string _ _ _ (t156 ++ a4) [.string (t156 ++ a4)] from rfl) (Reps.none _ _)))))))
                                  intro v158 w48 ho49 hb hg_ hnew_
                                  clear hg_ hnew_
                                  (first | rw [← Ny157.out] at ho49 | (simp only [Int.reduceToNat] at ho49; rw [← Ny157.out] at ho49))
                                  have n0_ := Aside0.mk (Kd.R_below (by (with_reducible repeat (first | apply Kd.R_alloc | apply Kd.R_drewN | apply Kd.R_drew)); exact HO_31.out) hb)
                                  have n1_ := Aside0.mk (Kd.R_lower ho49 (below_size (by repeat (first | (with_reducible first | exact HB.out | apply below_alloc | apply pw_below_drewN | apply below_drew1) | exact HB.out))))
                                  have n2_ := Aside0.mk (below_step (by repeat (first | (with_reducible first | exact HB.out | apply below_alloc | apply pw_below_drewN | apply below_drew1) | exact HB.out)) hb)
                                  clear HO_31
                                  clear HB
                                  have HO_31 := n0_
                                  have HO159 := n1_
                                  have HB := n2_
                                  clear n0_ n1_ n2_
                                  clear hb ho49
                                  obtain ⟨Ao50, co50, eo50⟩ := Kd.R_slice HO159.out
                                  (first | subst eo50 | (injection eo50 with f1_ f2_ f3_; have f4_ := f1_.symm; have f5_ := f3_.symm; clear f1_ f2_ f3_; subst f4_; subst f5_))
                                  refine hK.out _ _ trivial (fun hHeld => ?_)
                                  clear hK K
                                  refine norm_ (a' := ?_) ?_ ?_
                                  rotate_left
                                  · show Act.put _ (some 86) _ = _
                                    simp only [Act.put, List.setIfInBounds_toArray, List.set_cons_zero, List.set_cons_succ, i64_w, i32_w]
                                    rfl
                                  refine pure_ (i := 31) (N := some 87) (v := ?_) (a' := ?_) #[true, true, true, true, true, true, true, true, true, true, true, true, true, true, true, true, true, true, true, true, true, true, true, true, true, true, true, true, true, true, true, true, true] rfl rfl (any_of HT_.out (by kernel_rfl)) (fun _ _ _ h => h) (Or.inl ⟨by rfl, ?_⟩) ?_ ?_
                                  rotate_left
                                  · intro w'
                                    go_simp
                                    with_reducible rfl
                                  rotate_left
                                  · simp only [Act.put, List.setIfInBounds_toArray, List.set_cons_zero, List.set_cons_succ, i64_w, i32_w]
                                    rfl
                                  refine done_ (done_of HT_.out (by kernel_rfl)) ?_
                                  try go_wp2
                                  go_loopg [88] kj15 (fun kq v88 w' => ∃ (x88_3 : Int), v88 = .int .i64 x88_3 ∧ Aside0 (hagglerlaw02_DecTells.l1 kq a1 a2 a3 a4 t143 y146 (y146.length : Int) x33_1 y157 (y157.length : Int) x88_3 = some r) ∧ Aside0 (kq ≤ kj15) ∧ Aside0 (Kd.R (Kd.int .i64) 3 w' w.heap.size (fun _ => True) (.slice (some ad149) y146.length co12) y146) ∧ Aside0 (Kd.R Kd.string 9 w' w.heap.size (fun _ => True) (.slice Ao50 y157.length co50) y157) ∧ Aside0 (Below w.heap.size w w'))
                                  case atStart => exact ⟨(0), (by first | rfl | (simp; done) | (simp [*]; done)), H', ⟨Nat.le_refl _⟩, ⟨by (with_reducible repeat (first | apply Kd.R_alloc | apply Kd.R_drewN | apply Kd.R_drew)); exact HO_31.out⟩, ⟨by (with_reducible repeat (first | apply Kd.R_alloc | apply Kd.R_drewN | apply Kd.R_drew)); exact HO159.out⟩, ⟨by repeat (first | (with_reducible first | exact HB.out | apply below_alloc | apply pw_below_drewN | apply below_drew1) | exact HB.out)⟩⟩
                                  case round =>
                                    clear H'
                                    try clear c1
                                    try clear p1
                                    try clear q1
                                    try clear hx1
                                    try clear c2
                                    try clear p2
                                    try clear c3
                                    try clear c4
                                    try clear p6
                                    try clear c9
                                    try clear c10
                                    try clear c11
                                    try clear c12
                                    try clear c13
                                    try clear c13b0
                                    try clear c14
                                    try clear c14b0
                                    try clear p14
                                    try clear q14
                                    try clear hx14
                                    try clear c15
                                    try clear c15b0
                                    try clear c19
                                    try clear c19b0
                                    try clear c19b1
                                    try clear c28
                                    try clear c31
                                    try clear c31b0
                                    try clear c31b1
                                    try clear c32
                                    try clear c32b0
                                    try clear c32b1
                                    try clear c33
                                    try clear c33b0
                                    try clear c33b1
                                    try clear c33b2
                                    try clear c35
                                    try clear c35b0
                                    try clear c35b1
                                    try clear c36
                                    try clear c36b0
                                    try clear c36b1
                                    try clear c37
                                    try clear c37b0
                                    try clear c37b1
                                    try clear c37b2
                                    try clear c38
                                    try clear c38b0
                                    try clear c39
                                    try clear c39b0
                                    try clear c40
                                    try clear c40b0
                                    try clear c41
                                    try clear c41b0
                                    try clear c42
                                    try clear c42b0
                                    try clear c42b1
                                    try clear c42b2
                                    try clear c44
                                    try clear c44b0
                                    try clear c44b1
                                    try clear c44b2
                                    try clear hx149_0
                                    try clear p1
                                    try clear p14
                                    try clear p149
                                    try clear p2
                                    try clear p6
                                    try clear q1
                                    try clear q14
                                    try clear q149
                                    obtain ⟨x88_3, rfl, HA, HK3, HO_31, HO_86, HB⟩ := hrel
                                    cases gk with
                                    | zero => exact absurd HA.out (by simp [hagglerlaw02_DecTells.l1])
                                    | succ k3 =>
                                      have H := HA.out
                                      clear HA
                                      simp only [hagglerlaw02_DecTells.l1] at H
                                      by_cases c51 : x88_3 < (y157.length : Int)
                                      · rw [if_pos c51] at H
                                        have c51b0 : decide (x88_3 < (y157.length : Int)) = true := decide_eq_true c51
                                        clear c51
                                        by_cases c52 : 0 ≤ x88_3
                                        · rw [if_pos c52] at H
                                          have c52b0 : decide (0 ≤ x88_3) = true := decide_eq_true c52
                                          clear c52
                                          by_cases c53 : x88_3 < (y157.length : Int)
                                          · rw [if_pos c53] at H
                                            have c53b0 : decide (x88_3 < (y157.length : Int)) = true := decide_eq_true c53
                                            clear c53
                                            replace H := Option.bind_eq_some_iff.mp H
                                            obtain ⟨⟨t161, t162⟩, A540, H⟩ := H
                                            replace H : ((hagglerref02_Parse.f k3 (rdOf ByteArray.empty y157 x88_3)).bind fun bt163 => (if t161 = bt163.1 then (if t162 = bt163.2 then ((dec_Count.f (rdOf ByteArray.empty y157 x88_3) a2).bind fun t165 => ((hagglerref02_Count.f k3 (rdOf ByteArray.empty y157 x88_3) a2).bind fun t166 => (if t165 = t166 then ((hagglerlaw02_pick.f a2 2000).bind fun t167 => ((dec_Count.f (rdOf ByteArray.empty y157 x88_3) t167).bind fun t168 => ((hagglerlaw02_pick.f a2 2000).bind fun t169 => ((hagglerref02_Count.f k3 (rdOf ByteArray.empty y157 x88_3) t169).bind fun t170 => (if t168 = t170 then (hagglerlaw02_DecTells.l1 k3 a1 a2 a3 a4 t143 y146 (y146.length : Int) x33_1 y157 (y157.length : Int) (wrap64 (x88_3 + 1))) else (some false)))))) else (some false)))) else (some false)) else (some false))) = some r := H
                                            have A54 := Aside0.mk A540
                                            clear A540
                                            replace H := Option.bind_eq_some_iff.mp H
                                            obtain ⟨⟨t163, t164⟩, A550, H⟩ := H
                                            replace H : (if t161 = t163 then (if t162 = t164 then ((dec_Count.f (rdOf ByteArray.empty y157 x88_3) a2).bind fun t165 => ((hagglerref02_Count.f k3 (rdOf ByteArray.empty y157 x88_3) a2).bind fun t166 => (if t165 = t166 then ((hagglerlaw02_pick.f a2 2000).bind fun t167 => ((dec_Count.f (rdOf ByteArray.empty y157 x88_3) t167).bind fun t168 => ((hagglerlaw02_pick.f a2 2000).bind fun t169 => ((hagglerref02_Count.f k3 (rdOf ByteArray.empty y157 x88_3) t169).bind fun t170 => (if t168 = t170 then (hagglerlaw02_DecTells.l1 k3 a1 a2 a3 a4 t143 y146 (y146.length : Int) x33_1 y157 (y157.length : Int) (wrap64 (x88_3 + 1))) else (some false)))))) else (some false)))) else (some false)) else (some false)) = some r := H
                                            have A55 := Aside0.mk A550
                                            clear A550
                                            by_cases c56 : t161 = t163
                                            · rw [if_pos c56] at H
                                              have c56b0 : (t161 == t163) = true := beq_iff_eq.mpr c56
                                              have c56b1 : (t161 != t163) = false := bne_eq_false_iff_eq.mpr c56
                                              clear c56
                                              by_cases c57 : t162 = t164
                                              · rw [if_pos c57] at H
                                                have c57b0 : (t162 == t164) = true := beq_iff_eq.mpr c57
                                                have c57b1 : (t162 != t164) = false := bne_eq_false_iff_eq.mpr c57
                                                clear c57
                                                replace H := Option.bind_eq_some_iff.mp H
                                                obtain ⟨t165, A580, H⟩ := H
                                                replace H : ((hagglerref02_Count.f k3 (rdOf ByteArray.empty y157 x88_3) a2).bind fun t166 => (if t165 = t166 then ((hagglerlaw02_pick.f a2 2000).bind fun t167 => ((dec_Count.f (rdOf ByteArray.empty y157 x88_3) t167).bind fun t168 => ((hagglerlaw02_pick.f a2 2000).bind fun t169 => ((hagglerref02_Count.f k3 (rdOf ByteArray.empty y157 x88_3) t169).bind fun t170 => (if t168 = t170 then (hagglerlaw02_DecTells.l1 k3 a1 a2 a3 a4 t143 y146 (y146.length : Int) x33_1 y157 (y157.length : Int) (wrap64 (x88_3 + 1))) else (some false)))))) else (some false))) = some r := H
                                                have A58 := Aside0.mk A580
                                                clear A580
                                                replace H := Option.bind_eq_some_iff.mp H
                                                obtain ⟨t166, A590, H⟩ := H
                                                replace H : (if t165 = t166 then ((hagglerlaw02_pick.f a2 2000).bind fun t167 => ((dec_Count.f (rdOf ByteArray.empty y157 x88_3) t167).bind fun t168 => ((hagglerlaw02_pick.f a2 2000).bind fun t169 => ((hagglerref02_Count.f k3 (rdOf ByteArray.empty y157 x88_3) t169).bind fun t170 => (if t168 = t170 then (hagglerlaw02_DecTells.l1 k3 a1 a2 a3 a4 t143 y146 (y146.length : Int) x33_1 y157 (y157.length : Int) (wrap64 (x88_3 + 1))) else (some false)))))) else (some false)) = some r := H
                                                have A59 := Aside0.mk A590
                                                clear A590
                                                by_cases c60 : t165 = t166
                                                · rw [if_pos c60] at H
                                                  have c60b0 : (t165 == t166) = true := beq_iff_eq.mpr c60
                                                  have c60b1 : (t165 != t166) = false := bne_eq_false_iff_eq.mpr c60
                                                  clear c60
                                                  replace H := Option.bind_eq_some_iff.mp H
                                                  obtain ⟨t167, A610, H⟩ := H
                                                  replace H : ((dec_Count.f (rdOf ByteArray.empty y157 x88_3) t167).bind fun t168 => ((hagglerlaw02_pick.f a2 2000).bind fun t169 => ((hagglerref02_Count.f k3 (rdOf ByteArray.empty y157 x88_3) t169).bind fun t170 => (if t168 = t170 then (hagglerlaw02_DecTells.l1 k3 a1 a2 a3 a4 t143 y146 (y146.length : Int) x33_1 y157 (y157.length : Int) (wrap64 (x88_3 + 1))) else (some false))))) = some r := H
                                                  have A61 := Aside0.mk A610
                                                  clear A610
                                                  replace H := Option.bind_eq_some_iff.mp H
                                                  obtain ⟨t168, A620, H⟩ := H
                                                  replace H : ((hagglerlaw02_pick.f a2 2000).bind fun t169 => ((hagglerref02_Count.f k3 (rdOf ByteArray.empty y157 x88_3) t169).bind fun t170 => (if t168 = t170 then (hagglerlaw02_DecTells.l1 k3 a1 a2 a3 a4 t143 y146 (y146.length : Int) x33_1 y157 (y157.length : Int) (wrap64 (x88_3 + 1))) else (some false)))) = some r := H
                                                  have A62 := Aside0.mk A620
                                                  clear A620
                                                  replace H := Option.bind_eq_some_iff.mp H
                                                  obtain ⟨t169, A630, H⟩ := H
                                                  replace H : ((hagglerref02_Count.f k3 (rdOf ByteArray.empty y157 x88_3) t169).bind fun t170 => (if t168 = t170 then (hagglerlaw02_DecTells.l1 k3 a1 a2 a3 a4 t143 y146 (y146.length : Int) x33_1 y157 (y157.length : Int) (wrap64 (x88_3 + 1))) else (some false))) = some r := H
                                                  have A63 := Aside0.mk A630
                                                  clear A630
                                                  replace H := Option.bind_eq_some_iff.mp H
                                                  obtain ⟨t170, A640, H⟩ := H
                                                  replace H : (if t168 = t170 then (hagglerlaw02_DecTells.l1 k3 a1 a2 a3 a4 t143 y146 (y146.length : Int) x33_1 y157 (y157.length : Int) (wrap64 (x88_3 + 1))) else (some false)) = some r := H
                                                  have A64 := Aside0.mk A640
                                                  clear A640
                                                  by_cases c65 : t168 = t170
                                                  · rw [if_pos c65] at H
                                                    have c65b0 : (t168 == t170) = true := beq_iff_eq.mpr c65
                                                    have c65b1 : (t168 != t170) = false := bne_eq_false_iff_eq.mpr c65
                                                    clear c65
                                                    have H' := Aside0.mk H
                                                    clear H
                                                    have p160 : 0 ≤ (x88_3 : Int) := of_decide_eq_true (by first | (with_reducible assumption) | assumption)
                                                    have q160 : x88_3 < (y157.length : Int) := of_decide_eq_true (by first | (with_reducible assumption) | assumption)
                                                    obtain ⟨ad160, e160, hx160_0⟩ := Kd.at_string (Kd.R_reads' HO_86.out).2.2 x88_3 p160 q160
                                                    cases e160
                                                    replace p160 := eq_true p160
                                                    replace q160 := eq_true q160
                                                    go_wp2_with (first | ((with_reducible refine gate_callee (f := 16) rfl ?_); refine goesL_ (some 94) rfl rfl Tryd.func16 (by kernel_rfl) rfl #[.string (rdOf ByteArray.empty y157 x88_3)] rfl (by (try simp only [List.map_toArray, List.map_cons, List.map_nil]); first | done | rfl | (simp only [List.length_drop, List.length_take]; rfl)) ?_; (with_reducible refine (dec_Parse.calls k3 (rdOf ByteArray.empty y157 x88_3) t161 t162 _ ?side1 A54.out).mono ?_); (case side1 => exact LaidW.below HLd.out (by repeat (first | (with_reducible first | exact HB.out | apply below_alloc | apply pw_below_drewN | apply below_drew1) | exact HB.out))); rintro e w66 ⟨rfl, hb⟩; refine ⟨_, rfl, ?_⟩; have n0_ := Aside0.mk (Kd.R_below (by (with_reducible repeat (first | apply Kd.R_alloc | apply Kd.R_drewN | apply Kd.R_drew)); exact HO_31.out) hb); have n1_ := Aside0.mk (Kd.R_below (by (with_reducible repeat (first | apply Kd.R_alloc | apply Kd.R_drewN | apply Kd.R_drew)); exact HO_86.out) hb); have n2_ := Aside0.mk (below_step (by repeat (first | (with_reducible first | exact HB.out | apply below_alloc | apply pw_below_drewN | apply below_drew1) | exact HB.out)) hb); clear HO_31; clear HO_86; clear HB; have HO_31 := n0_; have HO_86 := n1_; have HB := n2_; clear n0_ n1_ n2_; (try clear hb); (try clear hb2); (try clear hk); (try clear hi)) | ((with_reducible refine gate_callee (f := 17) rfl ?_); refine goesL_ (some 99) rfl rfl Tryd.func17 (by kernel_rfl) rfl #[.string (rdOf ByteArray.empty y157 x88_3)] rfl (by (try simp only [List.map_toArray, List.map_cons, List.map_nil]); first | done | rfl | (simp only [List.length_drop, List.length_take]; rfl)) ?_; (with_reducible refine (hagglerref02_Parse.calls k3 (rdOf ByteArray.empty y157 x88_3) t163 t164 _ A55.out).mono ?_); rintro e w67 ⟨rfl, hb⟩; refine ⟨_, rfl, ?_⟩; have n0_ := Aside0.mk (Kd.R_below (by (with_reducible repeat (first | apply Kd.R_alloc | apply Kd.R_drewN | apply Kd.R_drew)); exact HO_31.out) hb); have n1_ := Aside0.mk (Kd.R_below (by (with_reducible repeat (first | apply Kd.R_alloc | apply Kd.R_drewN | apply Kd.R_drew)); exact HO_86.out) hb); have n2_ := Aside0.mk (below_step (by repeat (first | (with_reducible first | exact HB.out | apply below_alloc | apply pw_below_drewN | apply below_drew1) | exact HB.out)) hb); clear HO_31; clear HO_86; clear HB; have HO_31 := n0_; have HO_86 := n1_; have HB := n2_; clear n0_ n1_ n2_; (try clear hb); (try clear hb2); (try clear hk); (try clear hi)) | (go_at_call 18; (with_reducible refine (dec_Count.calls (rdOf ByteArray.empty y157 x88_3) a2 t165 _ ?side1 A58.out).mono ?_); (case side1 => exact LaidW.below HLd.out (by repeat (first | (with_reducible first | exact HB.out | apply below_alloc | apply pw_below_drewN | apply below_drew1) | exact HB.out))); rintro e w68 ⟨rfl, hb⟩; have n0_ := Aside0.mk (Kd.R_below (by (with_reducible repeat (first | apply Kd.R_alloc | apply Kd.R_drewN | apply Kd.R_drew)); exact HO_31.out) hb); have n1_ := Aside0.mk (Kd.R_below (by (with_reducible repeat (first | apply Kd.R_alloc | apply Kd.R_drewN | apply Kd.R_drew)); exact HO_86.out) hb); have n2_ := Aside0.mk (below_step (by repeat (first | (with_reducible first | exact HB.out | apply below_alloc | apply pw_below_drewN | apply below_drew1) | exact HB.out)) hb); clear HO_31; clear HO_86; clear HB; have HO_31 := n0_; have HO_86 := n1_; have HB := n2_; clear n0_ n1_ n2_; (try clear hb); (try clear hb2); (try clear hk); (try clear hi); (try clear A58)) | (go_at_call 19; (with_reducible refine (hagglerref02_Count.calls k3 (rdOf ByteArray.empty y157 x88_3) a2 t166 _ A59.out).mono ?_); rintro e w' ⟨rfl, ⟨nd, rfl⟩⟩; (try clear A59)) | (go_at_call 11; (with_reducible refine (hagglerlaw02_pick.calls a2 2000 t167 _ A61.out).mono ?_); rintro e w' ⟨rfl, ⟨nd, rfl⟩⟩; (try clear A61)) | (go_at_call 18; (with_reducible refine (dec_Count.calls (rdOf ByteArray.empty y157 x88_3) t167 t168 _ ?side1 A62.out).mono ?_); (case side1 => exact LaidW.below HLd.out (by repeat (first | (with_reducible first | exact HB.out | apply below_alloc | apply pw_below_drewN | apply below_drew1) | exact HB.out))); rintro e w69 ⟨rfl, hb⟩; have n0_ := Aside0.mk (Kd.R_below (by (with_reducible repeat (first | apply Kd.R_alloc | apply Kd.R_drewN | apply Kd.R_drew)); exact HO_31.out) hb); have n1_ := Aside0.mk (Kd.R_below (by (with_reducible repeat (first | apply Kd.R_alloc | apply Kd.R_drewN | apply Kd.R_drew)); exact HO_86.out) hb); have n2_ := Aside0.mk (below_step (by repeat (first | (with_reducible first | exact HB.out | apply below_alloc | apply pw_below_drewN | apply below_drew1) | exact HB.out)) hb); clear HO_31; clear HO_86; clear HB; have HO_31 := n0_; have HO_86 := n1_; have HB := n2_; clear n0_ n1_ n2_; (try clear hb); (try clear hb2); (try clear hk); (try clear hi); (try clear A62)) | (go_at_call 11; (with_reducible refine (hagglerlaw02_pick.calls a2 2000 t169 _ A63.out).mono ?_); rintro e w' ⟨rfl, ⟨nd, rfl⟩⟩; (try clear A63)) | (go_at_call 19; (with_reducible refine (hagglerref02_Count.calls k3 (rdOf ByteArray.empty y157 x88_3) t169 t170 _ A64.out).mono ?_); rintro e w' ⟨rfl, ⟨nd, rfl⟩⟩; (try clear A64)))
                                                    go_roundg k3
                                                    case measure => have := HK1.out; have := HJ15.out; have := HK3.out; omega
                                                    case rel => exact ⟨(wrap64 (x88_3 + 1)), (by first | rfl | (simp; done) | (simp [*]; done)), H', ⟨by have := HK1.out; have := HJ15.out; have := HK3.out; omega⟩, ⟨by (with_reducible repeat (first | apply Kd.R_alloc | apply Kd.R_drewN | apply Kd.R_drew)); exact HO_31.out⟩, ⟨by (with_reducible repeat (first | apply Kd.R_alloc | apply Kd.R_drewN | apply Kd.R_drew)); exact HO_86.out⟩, ⟨by repeat (first | (with_reducible first | exact HB.out | apply below_alloc | apply pw_below_drewN | apply below_drew1) | exact HB.out)⟩⟩
                                                  · rw [if_neg c65] at H
                                                    have c65b0 : (t168 == t170) = false := beq_eq_false_iff_ne.mpr c65
                                                    have c65b1 : (t168 != t170) = true := bne_iff_ne.mpr c65
                                                    obtain rfl := Option.some.inj H
                                                    have p160 : 0 ≤ (x88_3 : Int) := of_decide_eq_true (by first | (with_reducible assumption) | assumption)
                                                    have q160 : x88_3 < (y157.length : Int) := of_decide_eq_true (by first | (with_reducible assumption) | assumption)
                                                    obtain ⟨ad160, e160, hx160_0⟩ := Kd.at_string (Kd.R_reads' HO_86.out).2.2 x88_3 p160 q160
                                                    cases e160
                                                    replace p160 := eq_true p160
                                                    replace q160 := eq_true q160
                                                    go_wp2_with (first | ((with_reducible refine gate_callee (f := 16) rfl ?_); refine goesL_ (some 94) rfl rfl Tryd.func16 (by kernel_rfl) rfl #[.string (rdOf ByteArray.empty y157 x88_3)] rfl (by (try simp only [List.map_toArray, List.map_cons, List.map_nil]); first | done | rfl | (simp only [List.length_drop, List.length_take]; rfl)) ?_; (with_reducible refine (dec_Parse.calls k3 (rdOf ByteArray.empty y157 x88_3) t161 t162 _ ?side1 A54.out).mono ?_); (case side1 => exact LaidW.below HLd.out (by repeat (first | (with_reducible first | exact HB.out | apply below_alloc | apply pw_below_drewN | apply below_drew1) | exact HB.out))); rintro e w70 ⟨rfl, hb⟩; refine ⟨_, rfl, ?_⟩; have n0_ := Aside0.mk (Kd.R_below (by (with_reducible repeat (first | apply Kd.R_alloc | apply Kd.R_drewN | apply Kd.R_drew)); exact HO_31.out) hb); have n1_ := Aside0.mk (Kd.R_below (by (with_reducible repeat (first | apply Kd.R_alloc | apply Kd.R_drewN | apply Kd.R_drew)); exact HO_86.out) hb); have n2_ := Aside0.mk (below_step (by repeat (first | (with_reducible first | exact HB.out | apply below_alloc | apply pw_below_drewN | apply below_drew1) | exact HB.out)) hb); clear HO_31; clear HO_86; clear HB; have HO_31 := n0_; have HO_86 := n1_; have HB := n2_; clear n0_ n1_ n2_; (try clear hb); (try clear hb2); (try clear hk); (try clear hi)) | ((with_reducible refine gate_callee (f := 17) rfl ?_); refine goesL_ (some 99) rfl rfl Tryd.func17 (by kernel_rfl) rfl #[.string (rdOf ByteArray.empty y157 x88_3)] rfl (by (try simp only [List.map_toArray, List.map_cons, List.map_nil]); first | done | rfl | (simp only [List.length_drop, List.length_take]; rfl)) ?_; (with_reducible refine (hagglerref02_Parse.calls k3 (rdOf ByteArray.empty y157 x88_3) t163 t164 _ A55.out).mono ?_); rintro e w71 ⟨rfl, hb⟩; refine ⟨_, rfl, ?_⟩; have n0_ := Aside0.mk (Kd.R_below (by (with_reducible repeat (first | apply Kd.R_alloc | apply Kd.R_drewN | apply Kd.R_drew)); exact HO_31.out) hb); have n1_ := Aside0.mk (Kd.R_below (by (with_reducible repeat (first | apply Kd.R_alloc | apply Kd.R_drewN | apply Kd.R_drew)); exact HO_86.out) hb); have n2_ := Aside0.mk (below_step (by repeat (first | (with_reducible first | exact HB.out | apply below_alloc | apply pw_below_drewN | apply below_drew1) | exact HB.out)) hb); clear HO_31; clear HO_86; clear HB; have HO_31 := n0_; have HO_86 := n1_; have HB := n2_; clear n0_ n1_ n2_; (try clear hb); (try clear hb2); (try clear hk); (try clear hi)) | (go_at_call 18; (with_reducible refine (dec_Count.calls (rdOf ByteArray.empty y157 x88_3) a2 t165 _ ?side1 A58.out).mono ?_); (case side1 => exact LaidW.below HLd.out (by repeat (first | (with_reducible first | exact HB.out | apply below_alloc | apply pw_below_drewN | apply below_drew1) | exact HB.out))); rintro e w72 ⟨rfl, hb⟩; have n0_ := Aside0.mk (Kd.R_below (by (with_reducible repeat (first | apply Kd.R_alloc | apply Kd.R_drewN | apply Kd.R_drew)); exact HO_31.out) hb); have n1_ := Aside0.mk (Kd.R_below (by (with_reducible repeat (first | apply Kd.R_alloc | apply Kd.R_drewN | apply Kd.R_drew)); exact HO_86.out) hb); have n2_ := Aside0.mk (below_step (by repeat (first | (with_reducible first | exact HB.out | apply below_alloc | apply pw_below_drewN | apply below_drew1) | exact HB.out)) hb); clear HO_31; clear HO_86; clear HB; have HO_31 := n0_; have HO_86 := n1_; have HB := n2_; clear n0_ n1_ n2_; (try clear hb); (try clear hb2); (try clear hk); (try clear hi); (try clear A58)) | (go_at_call 19; (with_reducible refine (hagglerref02_Count.calls k3 (rdOf ByteArray.empty y157 x88_3) a2 t166 _ A59.out).mono ?_); rintro e w' ⟨rfl, ⟨nd, rfl⟩⟩; (try clear A59)) | (go_at_call 11; (with_reducible refine (hagglerlaw02_pick.calls a2 2000 t167 _ A61.out).mono ?_); rintro e w' ⟨rfl, ⟨nd, rfl⟩⟩; (try clear A61)) | (go_at_call 18; (with_reducible refine (dec_Count.calls (rdOf ByteArray.empty y157 x88_3) t167 t168 _ ?side1 A62.out).mono ?_); (case side1 => exact LaidW.below HLd.out (by repeat (first | (with_reducible first | exact HB.out | apply below_alloc | apply pw_below_drewN | apply below_drew1) | exact HB.out))); rintro e w73 ⟨rfl, hb⟩; have n0_ := Aside0.mk (Kd.R_below (by (with_reducible repeat (first | apply Kd.R_alloc | apply Kd.R_drewN | apply Kd.R_drew)); exact HO_31.out) hb); have n1_ := Aside0.mk (Kd.R_below (by (with_reducible repeat (first | apply Kd.R_alloc | apply Kd.R_drewN | apply Kd.R_drew)); exact HO_86.out) hb); have n2_ := Aside0.mk (below_step (by repeat (first | (with_reducible first | exact HB.out | apply below_alloc | apply pw_below_drewN | apply below_drew1) | exact HB.out)) hb); clear HO_31; clear HO_86; clear HB; have HO_31 := n0_; have HO_86 := n1_; have HB := n2_; clear n0_ n1_ n2_; (try clear hb); (try clear hb2); (try clear hk); (try clear hi); (try clear A62)) | (go_at_call 11; (with_reducible refine (hagglerlaw02_pick.calls a2 2000 t169 _ A63.out).mono ?_); rintro e w' ⟨rfl, ⟨nd, rfl⟩⟩; (try clear A63)) | (go_at_call 19; (with_reducible refine (hagglerref02_Count.calls k3 (rdOf ByteArray.empty y157 x88_3) t169 t170 _ A64.out).mono ?_); rintro e w' ⟨rfl, ⟨nd, rfl⟩⟩; (try clear A64)))
                                                    go_ret
                                                    exact ⟨by first | rfl | (simp [errW_none, errW_some] <;> rfl) | (simp only [← hji34]; first | rfl | (simp [errW_none, errW_some] <;> rfl)) | (simp [*, errW_none, errW_some] <;> rfl), by repeat (first | (with_reducible first | exact HB.out | apply below_alloc | apply pw_below_drewN | apply below_drew1) | exact HB.out)⟩
                                                · rw [if_neg c60] at H
                                                  have c60b0 : (t165 == t166) = false := beq_eq_false_iff_ne.mpr c60
                                                  have c60b1 : (t165 != t166) = true := bne_iff_ne.mpr c60
                                                  obtain rfl := Option.some.inj H
                                                  have p160 : 0 ≤ (x88_3 : Int) := of_decide_eq_true (by first | (with_reducible assumption) | assumption)
                                                  have q160 : x88_3 < (y157.length : Int) := of_decide_eq_true (by first | (with_reducible assumption) | assumption)
                                                  obtain ⟨ad160, e160, hx160_0⟩ := Kd.at_string (Kd.R_reads' HO_86.out).2.2 x88_3 p160 q160
                                                  cases e160
                                                  replace p160 := eq_true p160
                                                  replace q160 := eq_true q160
                                                  go_wp2_with (first | ((with_reducible refine gate_callee (f := 16) rfl ?_); refine goesL_ (some 94) rfl rfl Tryd.func16 (by kernel_rfl) rfl #[.string (rdOf ByteArray.empty y157 x88_3)] rfl (by (try simp only [List.map_toArray, List.map_cons, List.map_nil]); first | done | rfl | (simp only [List.length_drop, List.length_take]; rfl)) ?_; (with_reducible refine (dec_Parse.calls k3 (rdOf ByteArray.empty y157 x88_3) t161 t162 _ ?side1 A54.out).mono ?_); (case side1 => exact LaidW.below HLd.out (by repeat (first | (with_reducible first | exact HB.out | apply below_alloc | apply pw_below_drewN | apply below_drew1) | exact HB.out))); rintro e w74 ⟨rfl, hb⟩; refine ⟨_, rfl, ?_⟩; have n0_ := Aside0.mk (Kd.R_below (by (with_reducible repeat (first | apply Kd.R_alloc | apply Kd.R_drewN | apply Kd.R_drew)); exact HO_31.out) hb); have n1_ := Aside0.mk (Kd.R_below (by (with_reducible repeat (first | apply Kd.R_alloc | apply Kd.R_drewN | apply Kd.R_drew)); exact HO_86.out) hb); have n2_ := Aside0.mk (below_step (by repeat (first | (with_reducible first | exact HB.out | apply below_alloc | apply pw_below_drewN | apply below_drew1) | exact HB.out)) hb); clear HO_31; clear HO_86; clear HB; have HO_31 := n0_; have HO_86 := n1_; have HB := n2_; clear n0_ n1_ n2_; (try clear hb); (try clear hb2); (try clear hk); (try clear hi)) | ((with_reducible refine gate_callee (f := 17) rfl ?_); refine goesL_ (some 99) rfl rfl Tryd.func17 (by kernel_rfl) rfl #[.string (rdOf ByteArray.empty y157 x88_3)] rfl (by (try simp only [List.map_toArray, List.map_cons, List.map_nil]); first | done | rfl | (simp only [List.length_drop, List.length_take]; rfl)) ?_; (with_reducible refine (hagglerref02_Parse.calls k3 (rdOf ByteArray.empty y157 x88_3) t163 t164 _ A55.out).mono ?_); rintro e w75 ⟨rfl, hb⟩; refine ⟨_, rfl, ?_⟩; have n0_ := Aside0.mk (Kd.R_below (by (with_reducible repeat (first | apply Kd.R_alloc | apply Kd.R_drewN | apply Kd.R_drew)); exact HO_31.out) hb); have n1_ := Aside0.mk (Kd.R_below (by (with_reducible repeat (first | apply Kd.R_alloc | apply Kd.R_drewN | apply Kd.R_drew)); exact HO_86.out) hb); have n2_ := Aside0.mk (below_step (by repeat (first | (with_reducible first | exact HB.out | apply below_alloc | apply pw_below_drewN | apply below_drew1) | exact HB.out)) hb); clear HO_31; clear HO_86; clear HB; have HO_31 := n0_; have HO_86 := n1_; have HB := n2_; clear n0_ n1_ n2_; (try clear hb); (try clear hb2); (try clear hk); (try clear hi)) | (go_at_call 18; (with_reducible refine (dec_Count.calls (rdOf ByteArray.empty y157 x88_3) a2 t165 _ ?side1 A58.out).mono ?_); (case side1 => exact LaidW.below HLd.out (by repeat (first | (with_reducible first | exact HB.out | apply below_alloc | apply pw_below_drewN | apply below_drew1) | exact HB.out))); rintro e w76 ⟨rfl, hb⟩; have n0_ := Aside0.mk (Kd.R_below (by (with_reducible repeat (first | apply Kd.R_alloc | apply Kd.R_drewN | apply Kd.R_drew)); exact HO_31.out) hb); have n1_ := Aside0.mk (Kd.R_below (by (with_reducible repeat (first | apply Kd.R_alloc | apply Kd.R_drewN | apply Kd.R_drew)); exact HO_86.out) hb); have n2_ := Aside0.mk (below_step (by repeat (first | (with_reducible first | exact HB.out | apply below_alloc | apply pw_below_drewN | apply below_drew1) | exact HB.out)) hb); clear HO_31; clear HO_86; clear HB; have HO_31 := n0_; have HO_86 := n1_; have HB := n2_; clear n0_ n1_ n2_; (try clear hb); (try clear hb2); (try clear hk); (try clear hi); (try clear A58)) | (go_at_call 19; (with_reducible refine (hagglerref02_Count.calls k3 (rdOf ByteArray.empty y157 x88_3) a2 t166 _ A59.out).mono ?_); rintro e w' ⟨rfl, ⟨nd, rfl⟩⟩; (try clear A59)))
                                                  go_ret
                                                  exact ⟨by first | rfl | (simp [errW_none, errW_some] <;> rfl) | (simp only [← hji34]; first | rfl | (simp [errW_none, errW_some] <;> rfl)) | (simp [*, errW_none, errW_some] <;> rfl), by repeat (first | (with_reducible first | exact HB.out | apply below_alloc | apply pw_below_drewN | apply below_drew1) | exact HB.out)⟩
                                              · rw [if_neg c57] at H
                                                have c57b0 : (t162 == t164) = false := beq_eq_false_iff_ne.mpr c57
                                                have c57b1 : (t162 != t164) = true := bne_iff_ne.mpr c57
                                                obtain rfl := Option.some.inj H
                                                have p160 : 0 ≤ (x88_3 : Int) := of_decide_eq_true (by first | (with_reducible assumption) | assumption)
                                                have q160 : x88_3 < (y157.length : Int) := of_decide_eq_true (by first | (with_reducible assumption) | assumption)
                                                obtain ⟨ad160, e160, hx160_0⟩ := Kd.at_string (Kd.R_reads' HO_86.out).2.2 x88_3 p160 q160
                                                cases e160
                                                replace p160 := eq_true p160
                                                replace q160 := eq_true q160
                                                go_wp2_with (first | ((with_reducible refine gate_callee (f := 16) rfl ?_); refine goesL_ (some 94) rfl rfl Tryd.func16 (by kernel_rfl) rfl #[.string (rdOf ByteArray.empty y157 x88_3)] rfl (by (try simp only [List.map_toArray, List.map_cons, List.map_nil]); first | done | rfl | (simp only [List.length_drop, List.length_take]; rfl)) ?_; (with_reducible refine (dec_Parse.calls k3 (rdOf ByteArray.empty y157 x88_3) t161 t162 _ ?side1 A54.out).mono ?_); (case side1 => exact LaidW.below HLd.out (by repeat (first | (with_reducible first | exact HB.out | apply below_alloc | apply pw_below_drewN | apply below_drew1) | exact HB.out))); rintro e w77 ⟨rfl, hb⟩; refine ⟨_, rfl, ?_⟩; have n0_ := Aside0.mk (Kd.R_below (by (with_reducible repeat (first | apply Kd.R_alloc | apply Kd.R_drewN | apply Kd.R_drew)); exact HO_31.out) hb); have n1_ := Aside0.mk (Kd.R_below (by (with_reducible repeat (first | apply Kd.R_alloc | apply Kd.R_drewN | apply Kd.R_drew)); exact HO_86.out) hb); have n2_ := Aside0.mk (below_step (by repeat (first | (with_reducible first | exact HB.out | apply below_alloc | apply pw_below_drewN | apply below_drew1) | exact HB.out)) hb); clear HO_31; clear HO_86; clear HB; have HO_31 := n0_; have HO_86 := n1_; have HB := n2_; clear n0_ n1_ n2_; (try clear hb); (try clear hb2); (try clear hk); (try clear hi)) | ((with_reducible refine gate_callee (f := 17) rfl ?_); refine goesL_ (some 99) rfl rfl Tryd.func17 (by kernel_rfl) rfl #[.string (rdOf ByteArray.empty y157 x88_3)] rfl (by (try simp only [List.map_toArray, List.map_cons, List.map_nil]); first | done | rfl | (simp only [List.length_drop, List.length_take]; rfl)) ?_; (with_reducible refine (hagglerref02_Parse.calls k3 (rdOf ByteArray.empty y157 x88_3) t163 t164 _ A55.out).mono ?_); rintro e w78 ⟨rfl, hb⟩; refine ⟨_, rfl, ?_⟩; have n0_ := Aside0.mk (Kd.R_below (by (with_reducible repeat (first | apply Kd.R_alloc | apply Kd.R_drewN | apply Kd.R_drew)); exact HO_31.out) hb); have n1_ := Aside0.mk (Kd.R_below (by (with_reducible repeat (first | apply Kd.R_alloc | apply Kd.R_drewN | apply Kd.R_drew)); exact HO_86.out) hb); have n2_ := Aside0.mk (below_step (by repeat (first | (with_reducible first | exact HB.out | apply below_alloc | apply pw_below_drewN | apply below_drew1) | exact HB.out)) hb); clear HO_31; clear HO_86; clear HB; have HO_31 := n0_; have HO_86 := n1_; have HB := n2_; clear n0_ n1_ n2_; (try clear hb); (try clear hb2); (try clear hk); (try clear hi)))
                                                go_ret
                                                exact ⟨by first | rfl | (simp [errW_none, errW_some] <;> rfl) | (simp only [← hji34]; first | rfl | (simp [errW_none, errW_some] <;> rfl)) | (simp [*, errW_none, errW_some] <;> rfl), by repeat (first | (with_reducible first | exact HB.out | apply below_alloc | apply pw_below_drewN | apply below_drew1) | exact HB.out)⟩
                                            · rw [if_neg c56] at H
                                              have c56b0 : (t161 == t163) = false := beq_eq_false_iff_ne.mpr c56
                                              have c56b1 : (t161 != t163) = true := bne_iff_ne.mpr c56
                                              obtain rfl := Option.some.inj H
                                              have p160 : 0 ≤ (x88_3 : Int) := of_decide_eq_true (by first | (with_reducible assumption) | assumption)
                                              have q160 : x88_3 < (y157.length : Int) := of_decide_eq_true (by first | (with_reducible assumption) | assumption)
                                              obtain ⟨ad160, e160, hx160_0⟩ := Kd.at_string (Kd.R_reads' HO_86.out).2.2 x88_3 p160 q160
                                              cases e160
                                              replace p160 := eq_true p160
                                              replace q160 := eq_true q160
                                              go_wp2_with (first | ((with_reducible refine gate_callee (f := 16) rfl ?_); refine goesL_ (some 94) rfl rfl Tryd.func16 (by kernel_rfl) rfl #[.string (rdOf ByteArray.empty y157 x88_3)] rfl (by (try simp only [List.map_toArray, List.map_cons, List.map_nil]); first | done | rfl | (simp only [List.length_drop, List.length_take]; rfl)) ?_; (with_reducible refine (dec_Parse.calls k3 (rdOf ByteArray.empty y157 x88_3) t161 t162 _ ?side1 A54.out).mono ?_); (case side1 => exact LaidW.below HLd.out (by repeat (first | (with_reducible first | exact HB.out | apply below_alloc | apply pw_below_drewN | apply below_drew1) | exact HB.out))); rintro e w79 ⟨rfl, hb⟩; refine ⟨_, rfl, ?_⟩; have n0_ := Aside0.mk (Kd.R_below (by (with_reducible repeat (first | apply Kd.R_alloc | apply Kd.R_drewN | apply Kd.R_drew)); exact HO_31.out) hb); have n1_ := Aside0.mk (Kd.R_below (by (with_reducible repeat (first | apply Kd.R_alloc | apply Kd.R_drewN | apply Kd.R_drew)); exact HO_86.out) hb); have n2_ := Aside0.mk (below_step (by repeat (first | (with_reducible first | exact HB.out | apply below_alloc | apply pw_below_drewN | apply below_drew1) | exact HB.out)) hb); clear HO_31; clear HO_86; clear HB; have HO_31 := n0_; have HO_86 := n1_; have HB := n2_; clear n0_ n1_ n2_; (try clear hb); (try clear hb2); (try clear hk); (try clear hi)) | ((with_reducible refine gate_callee (f := 17) rfl ?_); refine goesL_ (some 99) rfl rfl Tryd.func17 (by kernel_rfl) rfl #[.string (rdOf ByteArray.empty y157 x88_3)] rfl (by (try simp only [List.map_toArray, List.map_cons, List.map_nil]); first | done | rfl | (simp only [List.length_drop, List.length_take]; rfl)) ?_; (with_reducible refine (hagglerref02_Parse.calls k3 (rdOf ByteArray.empty y157 x88_3) t163 t164 _ A55.out).mono ?_); rintro e w80 ⟨rfl, hb⟩; refine ⟨_, rfl, ?_⟩; have n0_ := Aside0.mk (Kd.R_below (by (with_reducible repeat (first | apply Kd.R_alloc | apply Kd.R_drewN | apply Kd.R_drew)); exact HO_31.out) hb); have n1_ := Aside0.mk (Kd.R_below (by (with_reducible repeat (first | apply Kd.R_alloc | apply Kd.R_drewN | apply Kd.R_drew)); exact HO_86.out) hb); have n2_ := Aside0.mk (below_step (by repeat (first | (with_reducible first | exact HB.out | apply below_alloc | apply pw_below_drewN | apply below_drew1) | exact HB.out)) hb); clear HO_31; clear HO_86; clear HB; have HO_31 := n0_; have HO_86 := n1_; have HB := n2_; clear n0_ n1_ n2_; (try clear hb); (try clear hb2); (try clear hk); (try clear hi)))
                                              go_ret
                                              exact ⟨by first | rfl | (simp [errW_none, errW_some] <;> rfl) | (simp only [← hji34]; first | rfl | (simp [errW_none, errW_some] <;> rfl)) | (simp [*, errW_none, errW_some] <;> rfl), by repeat (first | (with_reducible first | exact HB.out | apply below_alloc | apply pw_below_drewN | apply below_drew1) | exact HB.out)⟩
                                          · rw [if_neg c53] at H
                                            exact absurd H (by simp)
                                        · rw [if_neg c52] at H
                                          exact absurd H (by simp)
                                      · rw [if_neg c51] at H
                                        have c51b0 : decide (x88_3 < (y157.length : Int)) = false := decide_eq_false c51
                                        clear c51
                                        have H' := Aside0.mk H
                                        clear H
                                        go_wp2
                                        go_roundg k3
                                        case measure => have := HK1.out; have := HJ15.out; have := HK3.out; omega
                                        case rel => exact ⟨(wrap64 (x33_1 + 1)), (by first | rfl | (simp; done) | (simp [*]; done)), H', ⟨by have := HK1.out; have := HJ15.out; have := HK3.out; omega⟩, ⟨by (with_reducible repeat (first | apply Kd.R_alloc | apply Kd.R_drewN | apply Kd.R_drew)); exact HO_31.out⟩, ⟨by repeat (first | (with_reducible first | exact HB.out | apply below_alloc | apply pw_below_drewN | apply below_drew1) | exact HB.out)⟩⟩
                                · rw [if_neg c44] at H
                                  exact absurd H (by simp)
                              · rw [if_neg c42] at H
                                exact absurd H (by simp)
                            · rw [if_neg c37] at H
                              exact absurd H (by simp)
                          · rw [if_neg c36] at H
                            exact absurd H (by simp)
                        · rw [if_neg c35] at H
                          exact absurd H (by simp)
                      · rw [if_neg c33] at H
                        exact absurd H (by simp)
                    · rw [if_neg c32] at H
                      exact absurd H (by simp)
                  · rw [if_neg c31] at H
                    exact absurd H (by simp)
          · rw [if_neg c15] at H
            exact absurd H (by simp)
        · rw [if_neg c14] at H
          exact absurd H (by simp)
      · rw [if_neg c13] at H
        have c13b0 : decide (x33_1 < (y146.length : Int)) = false := decide_eq_false c13
        clear c13
        obtain rfl := Option.some.inj H
        go_wp2
        go_ret
        exact ⟨by first | rfl | (simp [errW_none, errW_some] <;> rfl) | (simp [*, errW_none, errW_some] <;> rfl), by repeat (first | (with_reducible first | exact HB.out | apply below_alloc | apply pw_below_drewN | apply below_drew1) | exact HB.out)⟩

/-- THE ONE PURE STATEMENT of hagglerlaw02_DecTells: yours. -/
def hagglerlaw02_DecTells.Pure : Prop := ∀ (a0 : Int) (a1 : ByteArray) (a2 : Int) (a3 : Int) (a4 : ByteArray), (Lit.int .i64 a0).wf = true → a1.size ≤ 140737488351232 → (Lit.int .i64 a2).wf = true → (Lit.int .i64 a3).wf = true → a4.size ≤ 140737488351232 → ∃ k, hagglerlaw02_DecTells.f k a0 a1 a2 a3 a4 = some true
theorem hagglerlaw02_DecTells.walk (P : hagglerlaw02_DecTells.Pure) (a0 : Int) (a1 : ByteArray) (a2 : Int) (a3 : Int) (a4 : ByteArray) (w : World) (w0 : (Lit.int .i64 a0).wf = true) (w1 : a1.size ≤ 140737488351232) (w2 : (Lit.int .i64 a2).wf = true) (w3 : (Lit.int .i64 a3).wf = true) (w4 : a4.size ≤ 140737488351232) (hLd : LaidW w) :
    Calls Tryd.prog 3 #[.int .i64 a0, .string a1, .int .i64 a2, .int .i64 a3, .string a4] w fun e w' => e = .returned (.bool true) ∧ Below w.heap.size w w' := by
  obtain ⟨k, h⟩ := P a0 a1 a2 a3 a4 w0 w1 w2 w3 w4
  refine (hagglerlaw02_DecTells.calls k a0 a1 a2 a3 a4 true w hLd h).mono ?_
  rintro e w' ⟨rfl, hd⟩
  exact ⟨rfl, hd⟩

end Go.Proofs.YtglbgfjmfccemaaDoor.Q
