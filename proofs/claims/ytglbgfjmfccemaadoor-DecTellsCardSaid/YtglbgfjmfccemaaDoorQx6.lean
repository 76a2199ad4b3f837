-- Printed by wip/pr/sprint.py (a session's program over the kit's print). Not trusted: Lean checks it.
import Derived.Test.YtglbgfjmfccemaaDoorQx0
import Derived.Test.YtglbgfjmfccemaaDoorExt
import Derived.Test.YtglbgfjmfccemaaDoorQx1
import Derived.Test.YtglbgfjmfccemaaDoorQx2
namespace Go.Proofs.YtglbgfjmfccemaaDoor.Q
open Go.RowKit Go.Proofs.YtglbgfjmfccemaaDoorW.PrintWords Go.Proofs.YtglbgfjmfccemaaDoorW.PrintLast Go.Proofs.YtglbgfjmfccemaaDoorW.PrintMore
attribute [local go_sem] max2_int min2_int max_two min_two max_three min_three max_four min_four   -- for this text's walks alone
set_option linter.unusedVariables false
set_option linter.unusedSimpArgs false

/-! ### hagglerlaw02_DecForth: function 5 -/
mutual
def hagglerlaw02_DecForth.l0 : Nat → Bool → List ByteArray → Int → Int → Option (Bool)
  | 0, _, _, _, _ => none
  | k + 1, x9, x51, x52, x53 => if x53 < x52 then (if 0 ≤ x53 then (if x53 < (x51.length : Int) then ((dec_Parse.f k (rdOf ByteArray.empty x51 x53)).bind fun bt197 => (if bt197.2 = 0 then ((dec_Text.f bt197.1).bind fun t199 => (if t199.toList = (rdOf ByteArray.empty x51 x53).toList then (hagglerlaw02_DecForth.j1 k x9 (rdOf ByteArray.empty x51 x53) x51 x52 x53 false) else (hagglerlaw02_DecForth.j1 k x9 (rdOf ByteArray.empty x51 x53) x51 x52 x53 true))) else (if bt197.1 = 0 then (hagglerlaw02_DecForth.j1 k x9 (rdOf ByteArray.empty x51 x53) x51 x52 x53 (bt197.2 != 20)) else (hagglerlaw02_DecForth.j1 k x9 (rdOf ByteArray.empty x51 x53) x51 x52 x53 true)))) else (none)) else (none)) else (some x9)
def hagglerlaw02_DecForth.j1 : Nat → Bool → ByteArray → List ByteArray → Int → Int → Bool → Option (Bool)
  | 0, _, _, _, _, _, _ => none
  | k + 1, x9, x13, x51, x52, x53, x81 => if x81 = true then (some false) else ((dec_Count.f x13 1000000000000).bind fun t200 => (if t200 ≥ 0 then ((dec_Number.f t200).bind fun t201 => (if t201.toList = x13.toList then (hagglerlaw02_DecForth.l0 k x9 x51 x52 (wrap64 (x53 + 1))) else (some false))) else (hagglerlaw02_DecForth.l0 k x9 x51 x52 (wrap64 (x53 + 1)))))
end
def hagglerlaw02_DecForth.f (k : Nat) (a0 : ByteArray) (a1 : Int) (a2 : Int) (a3 : ByteArray) : Option (Bool) := (hagglerlaw02_awake.f k).bind fun t189 => ((hagglerlaw01_Amount.f a1).bind fun t190 => ((dec_Text.f t190).bind fun t191 => ((hagglerlaw02_pick.f a2 (wrap64 ((t191.size : Int) + 1))).bind fun t192 => (if 0 ≤ t192 then (if t192 ≤ (t191.size : Int) then (if (t191.extract 0 (t192 : Int).toNat).size + a3.size ≤ 9223372036854775807 then (if 0 ≤ (mn (wrap64 (t192 + (a3.size : Int))) (t191.size : Int)) then (if (mn (wrap64 (t192 + (a3.size : Int))) (t191.size : Int)) ≤ (t191.size : Int) then (if ((t191.extract 0 (t192 : Int).toNat) ++ a3).size + (t191.extract ((mn (wrap64 (t192 + (a3.size : Int))) (t191.size : Int)) : Int).toNat t191.size).size ≤ 9223372036854775807 then (if ((t191.extract 0 (t192 : Int).toNat) ++ a3).size + (t191.extract (t192 : Int).toNat t191.size).size ≤ 9223372036854775807 then ((some (([a0, ((t191.extract 0 (t192 : Int).toNat) ++ a3) ++ (t191.extract ((mn (wrap64 (t192 + (a3.size : Int))) (t191.size : Int)) : Int).toNat t191.size), ((t191.extract 0 (t192 : Int).toNat) ++ a3) ++ (t191.extract (t192 : Int).toNat t191.size)] : List ByteArray) : List ByteArray)).bind fun y193 => (hagglerlaw02_DecForth.l0 k t189 y193 (y193.length : Int) 0)) else (none)) else (none)) else (none)) else (none)) else (none)) else (none)) else (none)))))
theorem hagglerlaw02_DecForth.mono_l : ∀ k, (∀ y0 y1 y2 y3, LeO (hagglerlaw02_DecForth.l0 k y0 y1 y2 y3) (hagglerlaw02_DecForth.l0 (k + 1) y0 y1 y2 y3)) ∧ (∀ y0 y1 y2 y3 y4 y5, LeO (hagglerlaw02_DecForth.j1 k y0 y1 y2 y3 y4 y5) (hagglerlaw02_DecForth.j1 (k + 1) y0 y1 y2 y3 y4 y5))
  | 0 => ⟨fun _ _ _ _ r h => by simp [hagglerlaw02_DecForth.l0] at h, fun _ _ _ _ _ _ r h => by simp [hagglerlaw02_DecForth.j1] at h⟩
  | k + 1 => by
    obtain ⟨ih0, ih1⟩ := hagglerlaw02_DecForth.mono_l k
    refine ⟨?_, ?_⟩
    · intro y0 y1 y2 y3
      unfold hagglerlaw02_DecForth.l0
      repeat' first
      | (with_reducible exact ih0 _ _ _ _)
      | (with_reducible exact ih1 _ _ _ _ _ _)
      | (with_reducible exact dec_Parse.mono _ _)
      | (with_reducible exact hagglerlaw02_awake.mono _)
      | (with_reducible exact LeO.refl _)
      | (with_reducible exact LeO.none _)
      | (with_reducible refine LeO.ite ?_ ?_)
      | (with_reducible refine LeO.bind ?_ (fun _ => ?_))
      | exact ih0 _ _ _ _
      | exact ih1 _ _ _ _ _ _
      | exact dec_Parse.mono _ _
      | exact hagglerlaw02_awake.mono _
      | exact LeO.none _
      | refine LeO.ite ?_ ?_
      | refine LeO.bind ?_ (fun _ => ?_)
    · intro y0 y1 y2 y3 y4 y5
      unfold hagglerlaw02_DecForth.j1
      repeat' first
      | (with_reducible exact ih0 _ _ _ _)
      | (with_reducible exact ih1 _ _ _ _ _ _)
      | (with_reducible exact dec_Parse.mono _ _)
      | (with_reducible exact hagglerlaw02_awake.mono _)
      | (with_reducible exact LeO.refl _)
      | (with_reducible exact LeO.none _)
      | (with_reducible refine LeO.ite ?_ ?_)
      | (with_reducible refine LeO.bind ?_ (fun _ => ?_))
      | exact ih0 _ _ _ _
      | exact ih1 _ _ _ _ _ _
      | exact dec_Parse.mono _ _
      | exact hagglerlaw02_awake.mono _
      | exact LeO.none _
      | refine LeO.ite ?_ ?_
      | refine LeO.bind ?_ (fun _ => ?_)
theorem hagglerlaw02_DecForth.mono : ∀ a0 a1 a2 a3 k, LeO (hagglerlaw02_DecForth.f k a0 a1 a2 a3) (hagglerlaw02_DecForth.f (k + 1) a0 a1 a2 a3) := by
  intro a0 a1 a2 a3 k
  obtain ⟨ih0, ih1⟩ := hagglerlaw02_DecForth.mono_l k
  unfold hagglerlaw02_DecForth.f
  repeat' first
      | (with_reducible exact ih0 _ _ _ _)
      | (with_reducible exact ih1 _ _ _ _ _ _)
      | (with_reducible exact dec_Parse.mono _ _)
      | (with_reducible exact hagglerlaw02_awake.mono _)
      | (with_reducible exact LeO.refl _)
      | (with_reducible exact LeO.none _)
      | (with_reducible refine LeO.ite ?_ ?_)
      | (with_reducible refine LeO.bind ?_ (fun _ => ?_))
      | exact ih0 _ _ _ _
      | exact ih1 _ _ _ _ _ _
      | exact dec_Parse.mono _ _
      | exact hagglerlaw02_awake.mono _
      | exact LeO.none _
      | refine LeO.ite ?_ ?_
      | refine LeO.bind ?_ (fun _ => ?_)
def hagglerlaw02_DecForth.T4 : Bool × List (List Nat × List Nat) := (true, [([], []), ([], []), ([], []), ([1, 2], [1, 2]), ([], []), ([3, 4], [3, 4]), ([], []), ([], []), ([], []), ([8], [8]), ([7, 9], [7, 9]), ([], []), ([11], [11]), ([10, 12], [10, 12]), ([6, 13], [6, 13]), ([5, 14], [5, 14]), ([], []), ([], []), ([16, 17], [16, 17]), ([], []), ([18, 19], [18, 19]), ([], []), ([], []), ([21, 22], [21, 22]), ([20, 23], [20, 23]), ([0, 15, 24], [0, 15, 24]), ([25], [25]), ([], [])])
def hagglerlaw02_DecForth.B4 : List Nat := [0, 0, 0, 6, 0, 30, 0, 0, 0, 256, 896, 0, 2048, 8064, 16320, 32766, 0, 0, 196608, 0, 983040, 0, 0, 6291456, 16711680, 33554431, 67108863, 0]
theorem hagglerlaw02_DecForth.tab4 : rtab .any (opsOf Tryd.f5 4) = hagglerlaw02_DecForth.T4 := by kernel_rfl
theorem hagglerlaw02_DecForth.bits4 : waitsOk hagglerlaw02_DecForth.T4.2 hagglerlaw02_DecForth.B4 = true := by kernel_rfl
set_option maxHeartbeats 8000000 in
set_option maxRecDepth 100000 in
theorem hagglerlaw02_DecForth.calls (k : Nat) (a0 : ByteArray) (a1 : Int) (a2 : Int) (a3 : ByteArray) (r : Bool) (w : World) (hLd : LaidW w) (h : hagglerlaw02_DecForth.f k a0 a1 a2 a3 = some r) :
    Calls Tryd.prog 5 #[.string a0, .int .i64 a1, .int .i64 a2, .string a3] w fun e w' => e = .returned (.bool r) ∧ Below w.heap.size w w' := by
  have HLd := Aside0.mk hLd
  clear hLd
  have HB := Aside0.mk (Below.refl w.heap.size w)
  have H : ((hagglerlaw02_awake.f k).bind fun t189 => ((hagglerlaw01_Amount.f a1).bind fun t190 => ((dec_Text.f t190).bind fun t191 => ((hagglerlaw02_pick.f a2 (wrap64 ((t191.size : Int) + 1))).bind fun t192 => (if 0 ≤ t192 then (if t192 ≤ (t191.size : Int) then (if (t191.extract 0 (t192 : Int).toNat).size + a3.size ≤ 9223372036854775807 then (if 0 ≤ (mn (wrap64 (t192 + (a3.size : Int))) (t191.size : Int)) then (if (mn (wrap64 (t192 + (a3.size : Int))) (t191.size : Int)) ≤ (t191.size : Int) then (if ((t191.extract 0 (t192 : Int).toNat) ++ a3).size + (t191.extract ((mn (wrap64 (t192 + (a3.size : Int))) (t191.size : Int)) : Int).toNat t191.size).size ≤ 9223372036854775807 then (if ((t191.extract 0 (t192 : Int).toNat) ++ a3).size + (t191.extract (t192 : Int).toNat t191.size).size ≤ 9223372036854775807 then ((some (([a0, ((t191.extract 0 (t192 : Int).toNat) ++ a3) ++ (t191.extract ((mn (wrap64 (t192 + (a3.size : Int))) (t191.size : Int)) : Int).toNat t191.size), ((t191.extract 0 (t192 : Int).toNat) ++ a3) ++ (t191.extract (t192 : Int).toNat t191.size)] : List ByteArray) : List ByteArray)).bind fun y193 => (hagglerlaw02_DecForth.l0 k t189 y193 (y193.length : Int) 0)) else (none)) else (none)) else (none)) else (none)) else (none)) else (none)) else (none)))))) = some r := h
  clear h
  replace H := Option.bind_eq_some_iff.mp H
  obtain ⟨t189, A50, H⟩ := H
  replace H : ((hagglerlaw01_Amount.f a1).bind fun t190 => ((dec_Text.f t190).bind fun t191 => ((hagglerlaw02_pick.f a2 (wrap64 ((t191.size : Int) + 1))).bind fun t192 => (if 0 ≤ t192 then (if t192 ≤ (t191.size : Int) then (if (t191.extract 0 (t192 : Int).toNat).size + a3.size ≤ 9223372036854775807 then (if 0 ≤ (mn (wrap64 (t192 + (a3.size : Int))) (t191.size : Int)) then (if (mn (wrap64 (t192 + (a3.size : Int))) (t191.size : Int)) ≤ (t191.size : Int) then (if ((t191.extract 0 (t192 : Int).toNat) ++ a3).size + (t191.extract ((mn (wrap64 (t192 + (a3.size : Int))) (t191.size : Int)) : Int).toNat t191.size).size ≤ 9223372036854775807 then (if ((t191.extract 0 (t192 : Int).toNat) ++ a3).size + (t191.extract (t192 : Int).toNat t191.size).size ≤ 9223372036854775807 then ((some (([a0, ((t191.extract 0 (t192 : Int).toNat) ++ a3) ++ (t191.extract ((mn (wrap64 (t192 + (a3.size : Int))) (t191.size : Int)) : Int).toNat t191.size), ((t191.extract 0 (t192 : Int).toNat) ++ a3) ++ (t191.extract (t192 : Int).toNat t191.size)] : List ByteArray) : List ByteArray)).bind fun y193 => (hagglerlaw02_DecForth.l0 k t189 y193 (y193.length : Int) 0)) else (none)) else (none)) else (none)) else (none)) else (none)) else (none)) else (none))))) = some r := H
  have A5 := Aside0.mk A50
  clear A50
  replace H := Option.bind_eq_some_iff.mp H
  obtain ⟨t190, A60, H⟩ := H
  replace H : ((dec_Text.f t190).bind fun t191 => ((hagglerlaw02_pick.f a2 (wrap64 ((t191.size : Int) + 1))).bind fun t192 => (if 0 ≤ t192 then (if t192 ≤ (t191.size : Int) then (if (t191.extract 0 (t192 : Int).toNat).size + a3.size ≤ 9223372036854775807 then (if 0 ≤ (mn (wrap64 (t192 + (a3.size : Int))) (t191.size : Int)) then (if (mn (wrap64 (t192 + (a3.size : Int))) (t191.size : Int)) ≤ (t191.size : Int) then (if ((t191.extract 0 (t192 : Int).toNat) ++ a3).size + (t191.extract ((mn (wrap64 (t192 + (a3.size : Int))) (t191.size : Int)) : Int).toNat t191.size).size ≤ 9223372036854775807 then (if ((t191.extract 0 (t192 : Int).toNat) ++ a3).size + (t191.extract (t192 : Int).toNat t191.size).size ≤ 9223372036854775807 then ((some (([a0, ((t191.extract 0 (t192 : Int).toNat) ++ a3) ++ (t191.extract ((mn (wrap64 (t192 + (a3.size : Int))) (t191.size : Int)) : Int).toNat t191.size), ((t191.extract 0 (t192 : Int).toNat) ++ a3) ++ (t191.extract (t192 : Int).toNat t191.size)] : List ByteArray) : List ByteArray)).bind fun y193 => (hagglerlaw02_DecForth.l0 k t189 y193 (y193.length : Int) 0)) else (none)) else (none)) else (none)) else (none)) else (none)) else (none)) else (none)))) = some r := H
  have A6 := Aside0.mk A60
  clear A60
  replace H := Option.bind_eq_some_iff.mp H
  obtain ⟨t191, A70, H⟩ := H
  replace H : ((hagglerlaw02_pick.f a2 (wrap64 ((t191.size : Int) + 1))).bind fun t192 => (if 0 ≤ t192 then (if t192 ≤ (t191.size : Int) then (if (t191.extract 0 (t192 : Int).toNat).size + a3.size ≤ 9223372036854775807 then (if 0 ≤ (mn (wrap64 (t192 + (a3.size : Int))) (t191.size : Int)) then (if (mn (wrap64 (t192 + (a3.size : Int))) (t191.size : Int)) ≤ (t191.size : Int) then (if ((t191.extract 0 (t192 : Int).toNat) ++ a3).size + (t191.extract ((mn (wrap64 (t192 + (a3.size : Int))) (t191.size : Int)) : Int).toNat t191.size).size ≤ 9223372036854775807 then (if ((t191.extract 0 (t192 : Int).toNat) ++ a3).size + (t191.extract (t192 : Int).toNat t191.size).size ≤ 9223372036854775807 then ((some (([a0, ((t191.extract 0 (t192 : Int).toNat) ++ a3) ++ (t191.extract ((mn (wrap64 (t192 + (a3.size : Int))) (t191.size : Int)) : Int).toNat t191.size), ((t191.extract 0 (t192 : Int).toNat) ++ a3) ++ (t191.extract (t192 : Int).toNat t191.size)] : List ByteArray) : List ByteArray)).bind fun y193 => (hagglerlaw02_DecForth.l0 k t189 y193 (y193.length : Int) 0)) else (none)) else (none)) else (none)) else (none)) else (none)) else (none)) else (none))) = some r := H
  have A7 := Aside0.mk A70
  clear A70
  replace H := Option.bind_eq_some_iff.mp H
  obtain ⟨t192, A80, H⟩ := H
  replace H : (if 0 ≤ t192 then (if t192 ≤ (t191.size : Int) then (if (t191.extract 0 (t192 : Int).toNat).size + a3.size ≤ 9223372036854775807 then (if 0 ≤ (mn (wrap64 (t192 + (a3.size : Int))) (t191.size : Int)) then (if (mn (wrap64 (t192 + (a3.size : Int))) (t191.size : Int)) ≤ (t191.size : Int) then (if ((t191.extract 0 (t192 : Int).toNat) ++ a3).size + (t191.extract ((mn (wrap64 (t192 + (a3.size : Int))) (t191.size : Int)) : Int).toNat t191.size).size ≤ 9223372036854775807 then (if ((t191.extract 0 (t192 : Int).toNat) ++ a3).size + (t191.extract (t192 : Int).toNat t191.size).size ≤ 9223372036854775807 then ((some (([a0, ((t191.extract 0 (t192 : Int).toNat) ++ a3) ++ (t191.extract ((mn (wrap64 (t192 + (a3.size : Int))) (t191.size : Int)) : Int).toNat t191.size), ((t191.extract 0 (t192 : Int).toNat) ++ a3) ++ (t191.extract (t192 : Int).toNat t191.size)] : List ByteArray) : List ByteArray)).bind fun y193 => (hagglerlaw02_DecForth.l0 k t189 y193 (y193.length : Int) 0)) else (none)) else (none)) else (none)) else (none)) else (none)) else (none)) else (none)) = some r := H
  have A8 := Aside0.mk A80
  clear A80
  by_cases c9 : 0 ≤ t192
  · rw [if_pos c9] at H
    have c9b0 := eq_true c9
    have c9b1 : decide (0 ≤ t192) = true := decide_eq_true c9
    clear c9
    by_cases c10 : t192 ≤ (t191.size : Int)
    · rw [if_pos c10] at H
      have c10b0 := eq_true c10
      have c10b1 : decide (t192 ≤ (t191.size : Int)) = true := decide_eq_true c10
      clear c10
      by_cases c11 : (t191.extract 0 (t192 : Int).toNat).size + a3.size ≤ 9223372036854775807
      · rw [if_pos c11] at H
        have c11b0 := eq_true c11
        have c11b1 : decide ((t191.extract 0 (t192 : Int).toNat).size + a3.size ≤ 9223372036854775807) = true := decide_eq_true c11
        try (have c11b4 : (9223372036854775807 < (t192 : Int).toNat + a3.size) = False := by apply eq_false; apply Nat.not_lt.2; have h_ := c11; simp only [ByteArray.size_append, ByteArray.size_extract, Nat.zero_add, Nat.add_zero] at h_; (try have g0_ := of_eq_true c9b0); (try have g1_ := of_eq_true c10b0); (try have g2_ := of_eq_true c11b0); omega)
        try (have c11b3 := Nat.not_lt.2 c11; simp only [ByteArray.size_append, ByteArray.size_extract, Nat.min_self, Nat.zero_add, Nat.add_zero] at c11b3; replace c11b3 := eq_false c11b3)
        try have c11b2 : (9223372036854775807 < (t191.extract 0 (t192 : Int).toNat).size + a3.size) = False := eq_false (Nat.not_lt.2 c11)
        obtain ⟨ji12, hji12⟩ : ∃ j_ : Int, (mn (wrap64 (t192 + (a3.size : Int))) (t191.size : Int)) = j_ := ⟨_, rfl⟩
        replace H : (if 0 ≤ (ji12) then (if (ji12) ≤ (t191.size : Int) then (if ((t191.extract 0 (t192 : Int).toNat) ++ a3).size + (t191.extract ((ji12) : Int).toNat t191.size).size ≤ 9223372036854775807 then (if ((t191.extract 0 (t192 : Int).toNat) ++ a3).size + (t191.extract (t192 : Int).toNat t191.size).size ≤ 9223372036854775807 then ((some (([a0, ((t191.extract 0 (t192 : Int).toNat) ++ a3) ++ (t191.extract ((ji12) : Int).toNat t191.size), ((t191.extract 0 (t192 : Int).toNat) ++ a3) ++ (t191.extract (t192 : Int).toNat t191.size)] : List ByteArray) : List ByteArray)).bind fun y193 => (hagglerlaw02_DecForth.l0 k t189 y193 (y193.length : Int) 0)) else (none)) else (none)) else (none)) else (none)) = some r := by first | (rw [hji12] at H; exact H) | (simp only [hji12] at H ⊢; exact H)
        (try rw [hji12] at A5)
        (try rw [hji12] at A6)
        (try rw [hji12] at A7)
        (try rw [hji12] at A8)
        have hji12_ : (if (t191.size : Int) < (wrap64 (t192 + (a3.size : Int))) then (t191.size : Int) else (wrap64 (t192 + (a3.size : Int)))) = ji12 := hji12
        by_cases c13 : 0 ≤ (ji12)
        · rw [if_pos c13] at H
          have c13b0 := eq_true c13
          have c13b1 : decide (0 ≤ (ji12)) = true := decide_eq_true c13
          clear c13
          by_cases c14 : (ji12) ≤ (t191.size : Int)
          · rw [if_pos c14] at H
            have c14b0 := eq_true c14
            have c14b1 : decide ((ji12) ≤ (t191.size : Int)) = true := decide_eq_true c14
            clear c14
            by_cases c15 : ((t191.extract 0 (t192 : Int).toNat) ++ a3).size + (t191.extract ((ji12) : Int).toNat t191.size).size ≤ 9223372036854775807
            · rw [if_pos c15] at H
              have c15b0 := eq_true c15
              have c15b1 : decide (((t191.extract 0 (t192 : Int).toNat) ++ a3).size + (t191.extract ((ji12) : Int).toNat t191.size).size ≤ 9223372036854775807) = true := decide_eq_true c15
              try (have c15b4 : (9223372036854775807 < (t192 : Int).toNat + a3.size + (t191.size - ((ji12) : Int).toNat)) = False := by apply eq_false; apply Nat.not_lt.2; have h_ := c15; simp only [ByteArray.size_append, ByteArray.size_extract, Nat.zero_add, Nat.add_zero] at h_; (try have g0_ := of_eq_true c9b0); (try have g1_ := of_eq_true c10b0); (try have g2_ := of_eq_true c11b0); (try have g3_ := of_eq_true c13b0); (try have g4_ := of_eq_true c14b0); (try have g5_ := of_eq_true c15b0); omega)
              try (have c15b3 := Nat.not_lt.2 c15; simp only [ByteArray.size_append, ByteArray.size_extract, Nat.min_self, Nat.zero_add, Nat.add_zero] at c15b3; replace c15b3 := eq_false c15b3)
              try have c15b2 : (9223372036854775807 < ((t191.extract 0 (t192 : Int).toNat) ++ a3).size + (t191.extract ((ji12) : Int).toNat t191.size).size) = False := eq_false (Nat.not_lt.2 c15)
              have c16b0 := eq_true (of_decide_eq_true (by first | (with_reducible assumption) | assumption) : 0 ≤ t192)
              have c17b0 := eq_true (of_decide_eq_true (by first | (with_reducible assumption) | assumption) : t192 ≤ (t191.size : Int))
              have c18b0 := eq_true (of_decide_eq_true (by first | (with_reducible assumption) | assumption) : 0 ≤ t192)
              have c19b0 := eq_true (of_decide_eq_true (by first | (with_reducible assumption) | assumption) : t192 ≤ (t191.size : Int))
              by_cases c20 : ((t191.extract 0 (t192 : Int).toNat) ++ a3).size + (t191.extract (t192 : Int).toNat t191.size).size ≤ 9223372036854775807
              · rw [if_pos c20] at H
                have c20b0 := eq_true c20
                have c20b1 : decide (((t191.extract 0 (t192 : Int).toNat) ++ a3).size + (t191.extract (t192 : Int).toNat t191.size).size ≤ 9223372036854775807) = true := decide_eq_true c20
                try (have c20b4 : (9223372036854775807 < (t192 : Int).toNat + a3.size + (t191.size - (t192 : Int).toNat)) = False := by apply eq_false; apply Nat.not_lt.2; have h_ := c20; simp only [ByteArray.size_append, ByteArray.size_extract, Nat.zero_add, Nat.add_zero] at h_; (try have g0_ := of_eq_true c9b0); (try have g1_ := of_eq_true c10b0); (try have g2_ := of_eq_true c11b0); (try have g3_ := of_eq_true c13b0); (try have g4_ := of_eq_true c14b0); (try have g5_ := of_eq_true c15b0); (try have g6_ := of_eq_true c16b0); (try have g7_ := of_eq_true c17b0); (try have g8_ := of_eq_true c18b0); (try have g9_ := of_eq_true c19b0); (try have g10_ := of_eq_true c20b0); omega)
                try (have c20b3 := Nat.not_lt.2 c20; simp only [ByteArray.size_append, ByteArray.size_extract, Nat.min_self, Nat.zero_add, Nat.add_zero] at c20b3; replace c20b3 := eq_false c20b3)
                try have c20b2 : (9223372036854775807 < ((t191.extract 0 (t192 : Int).toNat) ++ a3).size + (t191.extract (t192 : Int).toNat t191.size).size) = False := eq_false (Nat.not_lt.2 c20)
                obtain ⟨y193, hy193⟩ : ∃ y_ : List ByteArray, y_ = (([a0, ((t191.extract 0 (t192 : Int).toNat) ++ a3) ++ (t191.extract ((ji12) : Int).toNat t191.size), ((t191.extract 0 (t192 : Int).toNat) ++ a3) ++ (t191.extract (t192 : Int).toNat t191.size)] : List ByteArray)) := ⟨_, rfl⟩
                replace H : (hagglerlaw02_DecForth.l0 k t189 y193 (y193.length : Int) 0) = some r := by first | (rw [hy193]; with_reducible exact H) | (have H2_ := (Option.bind_some _ _).symm.trans H; rw [hy193]; with_reducible exact H2_) | (have H2_ := (Option.bind_some _ _).symm.trans H; with_reducible exact H2_) | with_reducible exact H | (rw [hy193]; exact H) | exact H
                have Ny193 := Aside0.mk hy193
                clear hy193
                have H' := Aside0.mk H
                clear H
                go_enter Tryd.func5, Tryd.ntmps5
                try go_wp2_with (first | ((with_reducible refine gate_callee (f := 9) rfl ?_); refine goesL_ (some 17) rfl rfl Tryd.func9 (by kernel_rfl) rfl #[] rfl (by (try simp only [List.map_toArray, List.map_cons, List.map_nil]); first | done | rfl | (simp only [List.length_drop, List.length_take]; rfl)) ?_; (with_reducible refine (hagglerlaw02_awake.calls k  t189 _ ?side1 A5.out).mono ?_); (case side1 => exact LaidW.below HLd.out (by repeat (first | (with_reducible first | exact HB.out | apply below_alloc | apply pw_below_drewN | apply below_drew1) | exact HB.out))); rintro e w21 ⟨rfl, hb⟩; refine ⟨_, rfl, ?_⟩; have n0_ := Aside0.mk (below_step (by repeat (first | (with_reducible first | exact HB.out | apply below_alloc | apply pw_below_drewN | apply below_drew1) | exact HB.out)) hb); clear HB; have HB := n0_; clear n0_; (try clear hb); (try clear hb2); (try clear hk); (try clear hi)) | ((with_reducible refine gate_callee (f := 10) rfl ?_); refine goesL_ (some 19) rfl rfl Tryd.func10 (by kernel_rfl) rfl #[.int .i64 a1] rfl (by (try simp only [List.map_toArray, List.map_cons, List.map_nil]); first | done | rfl | (simp only [List.length_drop, List.length_take]; rfl)) ?_; (with_reducible refine (hagglerlaw01_Amount.calls a1 t190 _ A6.out).mono ?_); rintro e w' ⟨rfl, ⟨nd, rfl⟩⟩; refine ⟨_, rfl, ?_⟩) | ((with_reducible refine gate_callee (f := 12) rfl ?_); refine goesL_ (some 20) rfl rfl Tryd.func12 (by kernel_rfl) rfl #[.int .i64 t190] rfl (by (try simp only [List.map_toArray, List.map_cons, List.map_nil]); first | done | rfl | (simp only [List.length_drop, List.length_take]; rfl)) ?_; (with_reducible refine (dec_Text.calls t190 t191 _ ?side1 A7.out).mono ?_); (case side1 => exact LaidW.below HLd.out (by repeat (first | (with_reducible first | exact HB.out | apply below_alloc | apply pw_below_drewN | apply below_drew1) | exact HB.out))); rintro e w22 ⟨rfl, hb⟩; refine ⟨_, rfl, ?_⟩; have n0_ := Aside0.mk (below_step (by repeat (first | (with_reducible first | exact HB.out | apply below_alloc | apply pw_below_drewN | apply below_drew1) | exact HB.out)) hb); clear HB; have HB := n0_; clear n0_; (try clear hb); (try clear hb2); (try clear hk); (try clear hi)) | ((with_reducible refine gate_callee (f := 11) rfl ?_); refine goesL_ (some 25) rfl rfl Tryd.func11 (by kernel_rfl) rfl #[.int .i64 a2, .int .i64 (wrap64 ((t191.size : Int) + 1))] rfl (by (try simp only [List.map_toArray, List.map_cons, List.map_nil]); first | done | rfl | (simp only [List.length_drop, List.length_take]; rfl)) ?_; (with_reducible refine (hagglerlaw02_pick.calls a2 (wrap64 ((t191.size : Int) + 1)) t192 _ A8.out).mono ?_); rintro e w' ⟨rfl, ⟨nd, rfl⟩⟩; refine ⟨_, rfl, ?_⟩))
                (try (rw [drewN_self w22]; generalize hq_ : World.drewN w22 _ = w22; have n0_ : Aside0 (Below w.heap.size w w22) := ⟨by rw [← hq_]; exact (by repeat (first | (with_reducible first | exact HB.out | apply below_alloc | apply pw_below_drewN | apply below_drew1) | exact HB.out))⟩; clear HB hq_; have HB := n0_; clear n0_))
                have n0_ := Aside0.mk (below_drew1 HB.out)
                clear HB
                have HB := n0_
                clear n0_
                refine start_ (n := 28) (S := fun w' => True) (ds := []) #[false, false, false, false, false, false, false, false, false, false, false, false, false, false, false, false, false, false, false, false, false, false, false, false, false, false, false, false] (by kernel_rfl) rfl rfl trivial (fun hHeld => ?_); refine with_tabW hagglerlaw02_DecForth.tab4 hagglerlaw02_DecForth.bits4 (fun HT_ HW_ => ?_)
                generalize w22.drew = w23 at HB hHeld ⊢
                refine pure_ (i := 0) (N := some 26) (v := ?_) (a' := ?_) #[true, false, false, false, false, false, false, false, false, false, false, false, false, false, false, false, false, false, false, false, false, false, false, false, false, false, false, false] rfl rfl (any_of HT_.out (by kernel_rfl)) (fun _ _ _ h => h) (Or.inl ⟨by rfl, ?_⟩) ?_ ?_
                rotate_left
                · intro w'
                  go_simp
                  with_reducible rfl
                rotate_left
                · simp only [Act.put, List.setIfInBounds_toArray, List.set_cons_zero, List.set_cons_succ, i64_w, i32_w]
                  rfl
                refine pure_ (i := 1) (N := some 27) (v := ?_) (a' := ?_) #[true, true, false, false, false, false, false, false, false, false, false, false, false, false, false, false, false, false, false, false, false, false, false, false, false, false, false, false] rfl rfl (any_of HT_.out (by kernel_rfl)) (fun _ _ _ h => h) (Or.inl ⟨by rfl, ?_⟩) ?_ ?_
                rotate_left
                · intro w'
                  go_simp
                  with_reducible rfl
                rotate_left
                · simp only [Act.put, List.setIfInBounds_toArray, List.set_cons_zero, List.set_cons_succ, i64_w, i32_w]
                  rfl
                refine pure_ (i := 2) (N := some 28) (v := ?_) (a' := ?_) #[true, true, true, false, false, false, false, false, false, false, false, false, false, false, false, false, false, false, false, false, false, false, false, false, false, false, false, false] rfl rfl (any_of HT_.out (by kernel_rfl)) (fun _ _ _ h => h) (Or.inl ⟨by rfl, ?_⟩) ?_ ?_
                rotate_left
                · intro w'
                  go_simp
                  with_reducible rfl
                rotate_left
                · simp only [Act.put, List.setIfInBounds_toArray, List.set_cons_zero, List.set_cons_succ, i64_w, i32_w]
                  rfl
                refine pure_ (i := 3) (N := some 29) (v := ?_) (a' := ?_) #[true, true, true, true, false, false, false, false, false, false, false, false, false, false, false, false, false, false, false, false, false, false, false, false, false, false, false, false] rfl rfl (any_of HT_.out (by kernel_rfl)) (fun _ _ _ h => h) (Or.inl ⟨by rfl, ?_⟩) ?_ ?_
                rotate_left
                · intro w'
                  go_simp
                  with_reducible rfl
                rotate_left
                · simp only [Act.put, List.setIfInBounds_toArray, List.set_cons_zero, List.set_cons_succ, i64_w, i32_w]
                  rfl
                refine pure_ (i := 4) (N := some 30) (v := ?_) (a' := ?_) #[true, true, true, true, true, false, false, false, false, false, false, false, false, false, false, false, false, false, false, false, false, false, false, false, false, false, false, false] rfl rfl (any_of HT_.out (by kernel_rfl)) (fun _ _ _ h => h) (Or.inl ⟨by rfl, ?_⟩) ?_ ?_
                rotate_left
                · intro w'
                  go_simp
                  with_reducible rfl
                rotate_left
                · simp only [Act.put, List.setIfInBounds_toArray, List.set_cons_zero, List.set_cons_succ, i64_w, i32_w]
                  rfl
                refine pure_ (i := 5) (N := some 31) (v := ?_) (a' := ?_) #[true, true, true, true, true, true, false, false, false, false, false, false, false, false, false, false, false, false, false, false, false, false, false, false, false, false, false, false] rfl rfl (any_of HT_.out (by kernel_rfl)) (fun _ _ _ h => h) (Or.inl ⟨by rfl, ?_⟩) ?_ ?_
                rotate_left
                · intro w'
                  go_simp
                  with_reducible rfl
                rotate_left
                · simp only [Act.put, List.setIfInBounds_toArray, List.set_cons_zero, List.set_cons_succ, i64_w, i32_w]
                  rfl
                refine pure_ (i := 6) (N := some 32) (v := ?_) (a' := ?_) #[true, true, true, true, true, true, true, false, false, false, false, false, false, false, false, false, false, false, false, false, false, false, false, false, false, false, false, false] rfl rfl (any_of HT_.out (by kernel_rfl)) (fun _ _ _ h => h) (Or.inl ⟨by rfl, ?_⟩) ?_ ?_
                rotate_left
                · intro w'
                  go_simp
                  with_reducible rfl
                rotate_left
                · simp only [Act.put, List.setIfInBounds_toArray, List.set_cons_zero, List.set_cons_succ, i64_w, i32_w]
                  rfl
                refine pure_ (i := 7) (N := some 33) (v := ?_) (a' := ?_) #[true, true, true, true, true, true, true, true, false, false, false, false, false, false, false, false, false, false, false, false, false, false, false, false, false, false, false, false] rfl rfl (any_of HT_.out (by kernel_rfl)) (fun _ _ _ h => h) (Or.inl ⟨by rfl, ?_⟩) ?_ ?_
                rotate_left
                · intro w'
                  go_simp
                  with_reducible rfl
                rotate_left
                · simp only [Act.put, List.setIfInBounds_toArray, List.set_cons_zero, List.set_cons_succ, i64_w, i32_w]
                  rfl
                refine pure_ (i := 8) (N := some 34) (v := ?_) (a' := ?_) #[true, true, true, true, true, true, true, true, true, false, false, false, false, false, false, false, false, false, false, false, false, false, false, false, false, false, false, false] rfl rfl (any_of HT_.out (by kernel_rfl)) (fun _ _ _ h => h) (Or.inl ⟨by rfl, ?_⟩) ?_ ?_
                rotate_left
                · intro w'
                  go_simp
                  with_reducible rfl
                rotate_left
                · simp only [Act.put, List.setIfInBounds_toArray, List.set_cons_zero, List.set_cons_succ, i64_w, i32_w]
                  rfl
                refine pure_ (i := 9) (N := some 35) (v := ?_) (a' := ?_) #[true, true, true, true, true, true, true, true, true, true, false, false, false, false, false, false, false, false, false, false, false, false, false, false, false, false, false, false] rfl rfl (any_of HT_.out (by kernel_rfl)) (fun _ _ _ h => h) (Or.inl ⟨by rfl, ?_⟩) ?_ ?_
                rotate_left
                · intro w'
                  go_simp
                  with_reducible rfl
                rotate_left
                · simp only [Act.put, List.setIfInBounds_toArray, List.set_cons_zero, List.set_cons_succ, i64_w, i32_w]
                  rfl
                refine pure_ (i := 10) (N := some 36) (v := ?_) (a' := ?_) #[true, true, true, true, true, true, true, true, true, true, true, false, false, false, false, false, false, false, false, false, false, false, false, false, false, false, false, false] rfl rfl (any_of HT_.out (by kernel_rfl)) (fun _ _ _ h => h) (Or.inl ⟨by rfl, ?_⟩) ?_ ?_
                rotate_left
                · intro w'
                  go_simp
                  with_reducible rfl
                rotate_left
                · simp only [Act.put, List.setIfInBounds_toArray, List.set_cons_zero, List.set_cons_succ, i64_w, i32_w]
                  rfl
                refine pure_ (i := 11) (N := some 37) (v := ?_) (a' := ?_) #[true, true, true, true, true, true, true, true, true, true, true, true, false, false, false, false, false, false, false, false, false, false, false, false, false, false, false, false] rfl rfl (any_of HT_.out (by kernel_rfl)) (fun _ _ _ h => h) (Or.inl ⟨by rfl, ?_⟩) ?_ ?_
                rotate_left
                · intro w'
                  go_simp
                  with_reducible rfl
                rotate_left
                · simp only [Act.put, List.setIfInBounds_toArray, List.set_cons_zero, List.set_cons_succ, i64_w, i32_w]
                  rfl
                refine pure_ (i := 12) (N := some 38) (v := ?_) (a' := ?_) #[true, true, true, true, true, true, true, true, true, true, true, true, true, false, false, false, false, false, false, false, false, false, false, false, false, false, false, false] rfl rfl (any_of HT_.out (by kernel_rfl)) (fun _ _ _ h => h) (Or.inl ⟨by rfl, ?_⟩) ?_ ?_
                rotate_left
                · intro w'
                  go_simp
                  with_reducible rfl
                rotate_left
                · simp only [Act.put, List.setIfInBounds_toArray, List.set_cons_zero, List.set_cons_succ, i64_w, i32_w]
                  rfl
                refine pure_ (i := 13) (N := some 39) (v := ?_) (a' := ?_) #[true, true, true, true, true, true, true, true, true, true, true, true, true, true, false, false, false, false, false, false, false, false, false, false, false, false, false, false] rfl rfl (any_of HT_.out (by kernel_rfl)) (fun _ _ _ h => h) (Or.inl ⟨by rfl, ?_⟩) ?_ ?_
                rotate_left
                · intro w'
                  go_simp
                  with_reducible rfl
                rotate_left
                · simp only [Act.put, List.setIfInBounds_toArray, List.set_cons_zero, List.set_cons_succ, i64_w, i32_w]
                  rfl
                refine pure_ (i := 14) (N := some 40) (v := ?_) (a' := ?_) #[true, true, true, true, true, true, true, true, true, true, true, true, true, true, true, false, false, false, false, false, false, false, false, false, false, false, false, false] rfl rfl (any_of HT_.out (by kernel_rfl)) (fun _ _ _ h => h) (Or.inl ⟨by rfl, ?_⟩) ?_ ?_
                rotate_left
                · intro w'
                  go_simp
                  with_reducible rfl
                rotate_left
                · simp only [Act.put, List.setIfInBounds_toArray, List.set_cons_zero, List.set_cons_succ, i64_w, i32_w]
                  rfl
                refine pure_ (i := 15) (N := some 41) (v := ?_) (a' := ?_) #[true, true, true, true, true, true, true, true, true, true, true, true, true, true, true, true, false, false, false, false, false, false, false, false, false, false, false, false] rfl rfl (any_of HT_.out (by kernel_rfl)) (fun _ _ _ h => h) (Or.inl ⟨by rfl, ?_⟩) ?_ ?_
                rotate_left
                · intro w'
                  go_simp
                  with_reducible rfl
                rotate_left
                · simp only [Act.put, List.setIfInBounds_toArray, List.set_cons_zero, List.set_cons_succ, i64_w, i32_w]
                  rfl
                refine pure_ (i := 16) (N := some 42) (v := ?_) (a' := ?_) #[true, true, true, true, true, true, true, true, true, true, true, true, true, true, true, true, true, false, false, false, false, false, false, false, false, false, false, false] rfl rfl (any_of HT_.out (by kernel_rfl)) (fun _ _ _ h => h) (Or.inl ⟨by rfl, ?_⟩) ?_ ?_
                rotate_left
                · intro w'
                  go_simp
                  with_reducible rfl
                rotate_left
                · simp only [Act.put, List.setIfInBounds_toArray, List.set_cons_zero, List.set_cons_succ, i64_w, i32_w]
                  rfl
                refine pure_ (i := 17) (N := some 43) (v := ?_) (a' := ?_) #[true, true, true, true, true, true, true, true, true, true, true, true, true, true, true, true, true, true, false, false, false, false, false, false, false, false, false, false] rfl rfl (any_of HT_.out (by kernel_rfl)) (fun _ _ _ h => h) (Or.inl ⟨by rfl, ?_⟩) ?_ ?_
                rotate_left
                · intro w'
                  go_simp
                  with_reducible rfl
                rotate_left
                · simp only [Act.put, List.setIfInBounds_toArray, List.set_cons_zero, List.set_cons_succ, i64_w, i32_w]
                  rfl
                refine pure_ (i := 18) (N := some 44) (v := ?_) (a' := ?_) #[true, true, true, true, true, true, true, true, true, true, true, true, true, true, true, true, true, true, true, false, false, false, false, false, false, false, false, false] rfl rfl (any_of HT_.out (by kernel_rfl)) (fun _ _ _ h => h) (Or.inl ⟨by rfl, ?_⟩) ?_ ?_
                rotate_left
                · intro w'
                  go_simp
                  with_reducible rfl
                rotate_left
                · simp only [Act.put, List.setIfInBounds_toArray, List.set_cons_zero, List.set_cons_succ, i64_w, i32_w]
                  rfl
                refine pure_ (i := 19) (N := some 45) (v := ?_) (a' := ?_) #[true, true, true, true, true, true, true, true, true, true, true, true, true, true, true, true, true, true, true, true, false, false, false, false, false, false, false, false] rfl rfl (any_of HT_.out (by kernel_rfl)) (fun _ _ _ h => h) (Or.inl ⟨by rfl, ?_⟩) ?_ ?_
                rotate_left
                · intro w'
                  go_simp
                  with_reducible rfl
                rotate_left
                · simp only [Act.put, List.setIfInBounds_toArray, List.set_cons_zero, List.set_cons_succ, i64_w, i32_w]
                  rfl
                refine pure_ (i := 20) (N := some 46) (v := ?_) (a' := ?_) #[true, true, true, true, true, true, true, true, true, true, true, true, true, true, true, true, true, true, true, true, true, false, false, false, false, false, false, false] rfl rfl (any_of HT_.out (by kernel_rfl)) (fun _ _ _ h => h) (Or.inl ⟨by rfl, ?_⟩) ?_ ?_
                rotate_left
                · intro w'
                  go_simp
                  with_reducible rfl
                rotate_left
                · simp only [Act.put, List.setIfInBounds_toArray, List.set_cons_zero, List.set_cons_succ, i64_w, i32_w]
                  rfl
                refine pure_ (i := 21) (N := some 47) (v := ?_) (a' := ?_) #[true, true, true, true, true, true, true, true, true, true, true, true, true, true, true, true, true, true, true, true, true, true, false, false, false, false, false, false] rfl rfl (any_of HT_.out (by kernel_rfl)) (fun _ _ _ h => h) (Or.inl ⟨by rfl, ?_⟩) ?_ ?_
                rotate_left
                · intro w'
                  go_simp
                  with_reducible rfl
                rotate_left
                · simp only [Act.put, List.setIfInBounds_toArray, List.set_cons_zero, List.set_cons_succ, i64_w, i32_w]
                  rfl
                refine pure_ (i := 22) (N := some 48) (v := ?_) (a' := ?_) #[true, true, true, true, true, true, true, true, true, true, true, true, true, true, true, true, true, true, true, true, true, true, true, false, false, false, false, false] rfl rfl (any_of HT_.out (by kernel_rfl)) (fun _ _ _ h => h) (Or.inl ⟨by rfl, ?_⟩) ?_ ?_
                rotate_left
                · intro w'
                  go_simp
                  with_reducible rfl
                rotate_left
                · simp only [Act.put, List.setIfInBounds_toArray, List.set_cons_zero, List.set_cons_succ, i64_w, i32_w]
                  rfl
                refine pure_ (i := 23) (N := some 49) (v := ?_) (a' := ?_) #[true, true, true, true, true, true, true, true, true, true, true, true, true, true, true, true, true, true, true, true, true, true, true, true, false, false, false, false] rfl rfl (any_of HT_.out (by kernel_rfl)) (fun _ _ _ h => h) (Or.inl ⟨by rfl, ?_⟩) ?_ ?_
                rotate_left
                · intro w'
                  go_simp
                  with_reducible rfl
                rotate_left
                · simp only [Act.put, List.setIfInBounds_toArray, List.set_cons_zero, List.set_cons_succ, i64_w, i32_w]
                  rfl
                refine pure_ (i := 24) (N := some 50) (v := ?_) (a' := ?_) #[true, true, true, true, true, true, true, true, true, true, true, true, true, true, true, true, true, true, true, true, true, true, true, true, true, false, false, false] rfl rfl (any_of HT_.out (by kernel_rfl)) (fun _ _ _ h => h) (Or.inl ⟨by rfl, ?_⟩) ?_ ?_
                rotate_left
                · intro w'
                  go_simp
                  with_reducible rfl
                rotate_left
                · simp only [Act.put, List.setIfInBounds_toArray, List.set_cons_zero, List.set_cons_succ, i64_w, i32_w]
                  rfl
                refine pure_ (i := 27) (N := some 53) (v := ?_) (a' := ?_) #[true, true, true, true, true, true, true, true, true, true, true, true, true, true, true, true, true, true, true, true, true, true, true, true, true, false, false, true] rfl rfl (any_of HT_.out (by kernel_rfl)) (fun _ _ _ h => h) (Or.inl ⟨by rfl, ?_⟩) ?_ ?_
                rotate_left
                · intro w'
                  go_simp
                  with_reducible rfl
                rotate_left
                · simp only [Act.put, List.setIfInBounds_toArray, List.set_cons_zero, List.set_cons_succ, i64_w, i32_w]
                  rfl
                refine one_ (i := 25) (N := some 51) #[true, true, true, true, true, true, true, true, true, true, true, true, true, true, true, true, true, true, true, true, true, true, true, true, true, true, false, true] rfl rfl (one_of HT_.out (by kernel_rfl)) (by decide) (fun K hK => ?_)
                refine Kd.R_lit_step Kd.string _ 9 ?hg (N := 51) ?hd (xs := ([a0, ((t191.extract 0 (t192 : Int).toNat) ++ a3) ++ (t191.extract ((ji12) : Int).toNat t191.size), ((t191.extract 0 (t192 : Int).toNat) ++ a3) ++ (t191.extract (t192 : Int).toNat t191.size)] : List ByteArray)) (inner := [.string a0, .string (((t191.extract 0 (t192 : Int).toNat) ++ a3) ++ (t191.extract ((ji12) : Int).toNat t191.size)), .string (((t191.extract 0 (t192 : Int).toNat) ++ a3) ++ (t191.extract (t192 : Int).toNat t191.size))]) (ok := fun _ => True) (okp := fun _ => True) ?hr ?hp (fun _ hk => hk) trivial (Below.refl _ _) (Nat.le_refl _) (by simp) ?_; (case hd => rfl); (case hg => rfl); (case hr => first | (go_simp; done) | (go_simp; rfl)); (case hp => exact (Reps.one (show Kd.M Kd.string _ _ _ a0 [.string a0] from rfl) (Reps.one (show Kd.M Kd.string _ _ _ (((t191.extract 0 (t192 : Int).toNat) ++ a3) ++ (t191.extract ((ji12) : Int).toNat t191.size)) [.string (((t191.extract 0 (t192 : Int).toNat) ++ a3) ++ (t191.extract ((ji12) : Int).toNat t191.size))] from rfl) (Reps.one (show Kd.M Kd.string _ _ _ (((t191.extract 0 (t192 : Int).toNat) ++ a3) ++ (t191.extract (t192 : Int).toNat t191.size)) [.string (((t191.extract 0 (t192 : Int).toNat) ++ a3) ++ (t191.extract (t192 : Int).toNat t191.size))] from rfl) (Reps.none _ _)))))
                intro v194 w24 ho25 hb hg_ hnew_
                clear hg_ hnew_
                (first | rw [← Ny193.out] at ho25 | (simp only [Int.reduceToNat] at ho25; rw [← Ny193.out] at ho25))
                have n0_ := Aside0.mk (Kd.R_lower ho25 (below_size (by repeat (first | (with_reducible first | exact HB.out | apply below_alloc | apply pw_below_drewN | apply below_drew1) | exact HB.out))))
                have n1_ := Aside0.mk (below_step (by repeat (first | (with_reducible first | exact HB.out | apply below_alloc | apply pw_below_drewN | apply below_drew1) | exact HB.out)) hb)
                clear HB
                have HO195 := n0_
                have HB := n1_
                clear n0_ n1_
                clear hb ho25
                obtain ⟨Ao26, co26, eo26⟩ := Kd.R_slice HO195.out
                (first | subst eo26 | (injection eo26 with f1_ f2_ f3_; have f4_ := f1_.symm; have f5_ := f3_.symm; clear f1_ f2_ f3_; subst f4_; subst f5_))
                refine hK.out _ _ trivial (fun hHeld => ?_)
                clear hK K
                refine norm_ (a' := ?_) ?_ ?_
                rotate_left
                · show Act.put _ (some 51) _ = _
                  simp only [Act.put, List.setIfInBounds_toArray, List.set_cons_zero, List.set_cons_succ, i64_w, i32_w]
                  rfl
                refine pure_ (i := 26) (N := some 52) (v := ?_) (a' := ?_) #[true, true, true, true, true, true, true, true, true, true, true, true, true, true, true, true, true, true, true, true, true, true, true, true, true, true, true, true] rfl rfl (any_of HT_.out (by kernel_rfl)) (fun _ _ _ h => h) (Or.inl ⟨by rfl, ?_⟩) ?_ ?_
                rotate_left
                · intro w'
                  go_simp
                  with_reducible rfl
                rotate_left
                · simp only [Act.put, List.setIfInBounds_toArray, List.set_cons_zero, List.set_cons_succ, i64_w, i32_w]
                  rfl
                refine done_ (done_of HT_.out (by kernel_rfl)) ?_
                try go_wp2
                go_loopg [53] k (fun kq v53 w' => ∃ (x53_1 : Int), v53 = .int .i64 x53_1 ∧ Aside0 (hagglerlaw02_DecForth.l0 kq t189 y193 (y193.length : Int) x53_1 = some r) ∧ Aside0 (kq ≤ k) ∧ Aside0 (Kd.R Kd.string 9 w' w.heap.size (fun _ => True) (.slice Ao26 y193.length co26) y193) ∧ Aside0 (Below w.heap.size w w'))
                case atStart => exact ⟨(0), (by first | rfl | (simp; done) | (simp [*]; done)), H', ⟨Nat.le_refl _⟩, ⟨by (with_reducible repeat (first | apply Kd.R_alloc | apply Kd.R_drewN | apply Kd.R_drew)); exact HO195.out⟩, ⟨by repeat (first | (with_reducible first | exact HB.out | apply below_alloc | apply pw_below_drewN | apply below_drew1) | exact HB.out)⟩⟩
                case round =>
                  clear H'
                  try clear c1
                  try clear c2
                  try clear p2
                  try clear c5
                  try clear p6
                  try clear c9
                  try clear c9b0
                  try clear c9b1
                  try clear c10
                  try clear c10b0
                  try clear c10b1
                  try clear c11
                  try clear c11b0
                  try clear c11b1
                  try clear c11b2
                  try clear c12
                  try clear c13
                  try clear c13b0
                  try clear c13b1
                  try clear c14
                  try clear c14b0
                  try clear c14b1
                  try clear c15
                  try clear c15b0
                  try clear c15b1
                  try clear c15b2
                  try clear c16
                  try clear c16b0
                  try clear c17
                  try clear c17b0
                  try clear c18
                  try clear c18b0
                  try clear c19
                  try clear c19b0
                  try clear c20
                  try clear c20b0
                  try clear c20b1
                  try clear c20b2
                  obtain ⟨x53_1, rfl, HA, HK1, HO_51, HB⟩ := hrel
                  cases gk with
                  | zero => exact absurd HA.out (by simp [hagglerlaw02_DecForth.l0])
                  | succ k1 =>
                    have H := HA.out
                    clear HA
                    simp only [hagglerlaw02_DecForth.l0] at H
                    by_cases c27 : x53_1 < (y193.length : Int)
                    · rw [if_pos c27] at H
                      have c27b0 : decide (x53_1 < (y193.length : Int)) = true := decide_eq_true c27
                      clear c27
                      by_cases c28 : 0 ≤ x53_1
                      · rw [if_pos c28] at H
                        have c28b0 : decide (0 ≤ x53_1) = true := decide_eq_true c28
                        clear c28
                        by_cases c29 : x53_1 < (y193.length : Int)
                        · rw [if_pos c29] at H
                          have c29b0 : decide (x53_1 < (y193.length : Int)) = true := decide_eq_true c29
                          clear c29
                          replace H := Option.bind_eq_some_iff.mp H
                          obtain ⟨⟨t197, t198⟩, A300, H⟩ := H
                          replace H : (if t198 = 0 then ((dec_Text.f t197).bind fun t199 => (if t199.toList = (rdOf ByteArray.empty y193 x53_1).toList then (hagglerlaw02_DecForth.j1 k1 t189 (rdOf ByteArray.empty y193 x53_1) y193 (y193.length : Int) x53_1 false) else (hagglerlaw02_DecForth.j1 k1 t189 (rdOf ByteArray.empty y193 x53_1) y193 (y193.length : Int) x53_1 true))) else (if t197 = 0 then (hagglerlaw02_DecForth.j1 k1 t189 (rdOf ByteArray.empty y193 x53_1) y193 (y193.length : Int) x53_1 (t198 != 20)) else (hagglerlaw02_DecForth.j1 k1 t189 (rdOf ByteArray.empty y193 x53_1) y193 (y193.length : Int) x53_1 true))) = some r := H
                          have A30 := Aside0.mk A300
                          clear A300
                          have HC31 := Aside0.mk H
                          clear H
                          have p196 : 0 ≤ (x53_1 : Int) := of_decide_eq_true (by first | (with_reducible assumption) | assumption)
                          have q196 : x53_1 < (y193.length : Int) := of_decide_eq_true (by first | (with_reducible assumption) | assumption)
                          obtain ⟨ad196, e196, hx196_0⟩ := Kd.at_string (Kd.R_reads' HO_51.out).2.2 x53_1 p196 q196
                          cases e196
                          replace p196 := eq_true p196
                          replace q196 := eq_true q196
                          go_upto_region 8 with (first | ((with_reducible refine gate_callee (f := 16) rfl ?_); refine goesL_ (some 59) rfl rfl Tryd.func16 (by kernel_rfl) rfl #[.string (rdOf ByteArray.empty y193 x53_1)] rfl (by (try simp only [List.map_toArray, List.map_cons, List.map_nil]); first | done | rfl | (simp only [List.length_drop, List.length_take]; rfl)) ?_; (with_reducible refine (dec_Parse.calls k1 (rdOf ByteArray.empty y193 x53_1) t197 t198 _ ?side1 A30.out).mono ?_); (case side1 => exact LaidW.below HLd.out (by repeat (first | (with_reducible first | exact HB.out | apply below_alloc | apply pw_below_drewN | apply below_drew1) | exact HB.out))); rintro e w32 ⟨rfl, hb⟩; refine ⟨_, rfl, ?_⟩; have n0_ := Aside0.mk (Kd.R_below (by (with_reducible repeat (first | apply Kd.R_alloc | apply Kd.R_drewN | apply Kd.R_drew)); exact HO_51.out) hb); have n1_ := Aside0.mk (below_step (by repeat (first | (with_reducible first | exact HB.out | apply below_alloc | apply pw_below_drewN | apply below_drew1) | exact HB.out)) hb); clear HO_51; clear HB; have HO_51 := n0_; have HB := n1_; clear n0_ n1_; (try clear hb); (try clear hb2); (try clear hk); (try clear hi)))
                          (try simp only [Act.put, List.setIfInBounds_toArray, List.set_cons_zero, List.set_cons_succ])
                          go_cut [81] (fun v81 wc => ∃ (kq : Nat) (x81_30 : Bool), v81 = .bool x81_30 ∧ Aside0 (hagglerlaw02_DecForth.j1 kq t189 (rdOf ByteArray.empty y193 x53_1) y193 (y193.length : Int) x53_1 x81_30 = some r) ∧ Aside0 (kq ≤ k1) ∧ Aside0 (Kd.R Kd.string 9 wc w.heap.size (fun _ => True) (.slice (some ad196) y193.length co26) y193) ∧ Aside0 (Below w.heap.size w wc))
                          case first =>
                            have H := HC31.out
                            clear HC31
                            by_cases c33 : t198 = 0
                            · rw [if_pos c33] at H
                              have c33b0 : (t198 == 0) = true := beq_iff_eq.mpr c33
                              have c33b1 : (t198 != 0) = false := bne_eq_false_iff_eq.mpr c33
                              clear c33
                              (first | rw [c33b0] | (simp only [i64_w, i32_w]; rw [c33b0]) | skip)
                              replace H := Option.bind_eq_some_iff.mp H
                              obtain ⟨t199, A340, H⟩ := H
                              replace H : (if t199.toList = (rdOf ByteArray.empty y193 x53_1).toList then (hagglerlaw02_DecForth.j1 k1 t189 (rdOf ByteArray.empty y193 x53_1) y193 (y193.length : Int) x53_1 false) else (hagglerlaw02_DecForth.j1 k1 t189 (rdOf ByteArray.empty y193 x53_1) y193 (y193.length : Int) x53_1 true)) = some r := H
                              have A34 := Aside0.mk A340
                              clear A340
                              by_cases c35 : t199.toList = (rdOf ByteArray.empty y193 x53_1).toList
                              · rw [if_pos c35] at H
                                have c35b0 : (t199.toList == (rdOf ByteArray.empty y193 x53_1).toList) = true := beq_iff_eq.mpr c35
                                have c35b1 : (t199.toList != (rdOf ByteArray.empty y193 x53_1).toList) = false := bne_eq_false_iff_eq.mpr c35
                                clear c35
                                have H' := Aside0.mk H
                                clear H
                                go_wp2_with (first | (go_at_call 12; (with_reducible refine (dec_Text.calls t197 t199 _ ?side1 A34.out).mono ?_); (case side1 => exact LaidW.below HLd.out (by repeat (first | (with_reducible first | exact HB.out | apply below_alloc | apply pw_below_drewN | apply below_drew1) | exact HB.out))); rintro e w36 ⟨rfl, hb⟩; have n0_ := Aside0.mk (Kd.R_below (by (with_reducible repeat (first | apply Kd.R_alloc | apply Kd.R_drewN | apply Kd.R_drew)); exact HO_51.out) hb); have n1_ := Aside0.mk (below_step (by repeat (first | (with_reducible first | exact HB.out | apply below_alloc | apply pw_below_drewN | apply below_drew1) | exact HB.out)) hb); clear HO_51; clear HB; have HO_51 := n0_; have HB := n1_; clear n0_ n1_; (try clear hb); (try clear hb2); (try clear hk); (try clear hi); (try clear A34)))
                                go_meet
                                case rel => exact ⟨_, (false), (by first | rfl | (simp; done) | (simp [*]; done)), H', ⟨by have := HK1.out; first | omega | exact Nat.le_refl _⟩, ⟨by (with_reducible repeat (first | apply Kd.R_alloc | apply Kd.R_drewN | apply Kd.R_drew)); exact HO_51.out⟩, ⟨by repeat (first | (with_reducible first | exact HB.out | apply below_alloc | apply pw_below_drewN | apply below_drew1) | exact HB.out)⟩⟩
                              · rw [if_neg c35] at H
                                have c35b0 : (t199.toList == (rdOf ByteArray.empty y193 x53_1).toList) = false := beq_eq_false_iff_ne.mpr c35
                                have c35b1 : (t199.toList != (rdOf ByteArray.empty y193 x53_1).toList) = true := bne_iff_ne.mpr c35
                                have H' := Aside0.mk H
                                clear H
                                go_wp2_with (first | (go_at_call 12; (with_reducible refine (dec_Text.calls t197 t199 _ ?side1 A34.out).mono ?_); (case side1 => exact LaidW.below HLd.out (by repeat (first | (with_reducible first | exact HB.out | apply below_alloc | apply pw_below_drewN | apply below_drew1) | exact HB.out))); rintro e w37 ⟨rfl, hb⟩; have n0_ := Aside0.mk (Kd.R_below (by (with_reducible repeat (first | apply Kd.R_alloc | apply Kd.R_drewN | apply Kd.R_drew)); exact HO_51.out) hb); have n1_ := Aside0.mk (below_step (by repeat (first | (with_reducible first | exact HB.out | apply below_alloc | apply pw_below_drewN | apply below_drew1) | exact HB.out)) hb); clear HO_51; clear HB; have HO_51 := n0_; have HB := n1_; clear n0_ n1_; (try clear hb); (try clear hb2); (try clear hk); (try clear hi); (try clear A34)))
                                go_meet
                                case rel => exact ⟨_, (true), (by first | rfl | (simp; done) | (simp [*]; done)), H', ⟨by have := HK1.out; first | omega | exact Nat.le_refl _⟩, ⟨by (with_reducible repeat (first | apply Kd.R_alloc | apply Kd.R_drewN | apply Kd.R_drew)); exact HO_51.out⟩, ⟨by repeat (first | (with_reducible first | exact HB.out | apply below_alloc | apply pw_below_drewN | apply below_drew1) | exact HB.out)⟩⟩
                            · rw [if_neg c33] at H
                              have c33b0 : (t198 == 0) = false := beq_eq_false_iff_ne.mpr c33
                              have c33b1 : (t198 != 0) = true := bne_iff_ne.mpr c33
                              (first | rw [c33b0] | (simp only [i64_w, i32_w]; rw [c33b0]) | skip)
                              by_cases c38 : t197 = 0
                              · rw [if_pos c38] at H
                                have c38b0 : (t197 == 0) = true := beq_iff_eq.mpr c38
                                have c38b1 : (t197 != 0) = false := bne_eq_false_iff_eq.mpr c38
                                clear c38
                                have H' := Aside0.mk H
                                clear H
                                go_wp2
                                go_meet
                                case rel => exact ⟨_, ((t198 != 20)), (by first | rfl | (simp; done) | (simp [*]; done)), H', ⟨by have := HK1.out; first | omega | exact Nat.le_refl _⟩, ⟨by (with_reducible repeat (first | apply Kd.R_alloc | apply Kd.R_drewN | apply Kd.R_drew)); exact HO_51.out⟩, ⟨by repeat (first | (with_reducible first | exact HB.out | apply below_alloc | apply pw_below_drewN | apply below_drew1) | exact HB.out)⟩⟩
                              · rw [if_neg c38] at H
                                have c38b0 : (t197 == 0) = false := beq_eq_false_iff_ne.mpr c38
                                have c38b1 : (t197 != 0) = true := bne_iff_ne.mpr c38
                                have H' := Aside0.mk H
                                clear H
                                go_wp2
                                go_meet
                                case rel => exact ⟨_, (true), (by first | rfl | (simp; done) | (simp [*]; done)), H', ⟨by have := HK1.out; first | omega | exact Nat.le_refl _⟩, ⟨by (with_reducible repeat (first | apply Kd.R_alloc | apply Kd.R_drewN | apply Kd.R_drew)); exact HO_51.out⟩, ⟨by repeat (first | (with_reducible first | exact HB.out | apply below_alloc | apply pw_below_drewN | apply below_drew1) | exact HB.out)⟩⟩
                          case rest =>
                            clear HC31
                            try clear c1
                            try clear p1
                            try clear q1
                            try clear hx1
                            try clear c2
                            try clear p2
                            try clear c3
                            try clear c5
                            try clear p6
                            try clear c9
                            try clear c9b0
                            try clear c9b1
                            try clear c10
                            try clear c10b0
                            try clear c10b1
                            try clear c11
                            try clear c11b0
                            try clear c11b1
                            try clear c11b2
                            try clear c12
                            try clear c13
                            try clear c13b0
                            try clear c13b1
                            try clear c14
                            try clear c14b0
                            try clear c14b1
                            try clear c15
                            try clear c15b0
                            try clear c15b1
                            try clear c15b2
                            try clear c16
                            try clear c16b0
                            try clear c17
                            try clear c17b0
                            try clear c18
                            try clear c18b0
                            try clear c19
                            try clear c19b0
                            try clear p19
                            try clear q19
                            try clear hx19
                            try clear c20
                            try clear c20b0
                            try clear c20b1
                            try clear c20b2
                            try clear c27
                            try clear c27b0
                            try clear c28
                            try clear c28b0
                            try clear c29
                            try clear c29b0
                            try clear c33
                            try clear c33b0
                            try clear c33b1
                            try clear c35
                            try clear c35b0
                            try clear c35b1
                            try clear c38
                            try clear c38b0
                            try clear c38b1
                            try clear hx196_0
                            try clear p196
                            try clear p2
                            try clear p6
                            try clear q196
                            obtain ⟨kq, x81_30, rfl, HA, HJ30, HO_51, HB⟩ := hcut
                            cases kq with
                            | zero => exact absurd HA.out (by simp [hagglerlaw02_DecForth.j1])
                            | succ kj30 =>
                              have H := HA.out
                              clear HA
                              simp only [hagglerlaw02_DecForth.j1] at H
                              by_cases c39 : x81_30 = true
                              · subst c39
                                have H1 : (some false) = some r := by rw [if_pos rfl] at H; exact H
                                clear H
                                have H := H1
                                clear H1
                                obtain rfl := Option.some.inj H
                                go_wp2
                                go_ret
                                exact ⟨by first | rfl | (simp [errW_none, errW_some] <;> rfl) | (simp only [← hji12]; first | rfl | (simp [errW_none, errW_some] <;> rfl)) | (simp [*, errW_none, errW_some] <;> rfl), by repeat (first | (with_reducible first | exact HB.out | apply below_alloc | apply pw_below_drewN | apply below_drew1) | exact HB.out)⟩
                              · replace c39 := Bool.eq_false_iff.mpr c39
                                subst c39
                                have H1 : ((dec_Count.f (rdOf ByteArray.empty y193 x53_1) 1000000000000).bind fun t200 => (if t200 ≥ 0 then ((dec_Number.f t200).bind fun t201 => (if t201.toList = (rdOf ByteArray.empty y193 x53_1).toList then (hagglerlaw02_DecForth.l0 kj30 t189 y193 (y193.length : Int) (wrap64 (x53_1 + 1))) else (some false))) else (hagglerlaw02_DecForth.l0 kj30 t189 y193 (y193.length : Int) (wrap64 (x53_1 + 1))))) = some r := by rw [if_neg (show ¬ (false = true) by decide)] at H; exact H
                                clear H
                                have H := H1
                                clear H1
                                replace H := Option.bind_eq_some_iff.mp H
                                obtain ⟨t200, A400, H⟩ := H
                                replace H : (if t200 ≥ 0 then ((dec_Number.f t200).bind fun t201 => (if t201.toList = (rdOf ByteArray.empty y193 x53_1).toList then (hagglerlaw02_DecForth.l0 kj30 t189 y193 (y193.length : Int) (wrap64 (x53_1 + 1))) else (some false))) else (hagglerlaw02_DecForth.l0 kj30 t189 y193 (y193.length : Int) (wrap64 (x53_1 + 1)))) = some r := H
                                have A40 := Aside0.mk A400
                                clear A400
                                by_cases c41 : t200 ≥ 0
                                · rw [if_pos c41] at H
                                  have c41b0 : decide (0 ≤ t200) = true := decide_eq_true c41
                                  clear c41
                                  replace H := Option.bind_eq_some_iff.mp H
                                  obtain ⟨t201, A420, H⟩ := H
                                  replace H : (if t201.toList = (rdOf ByteArray.empty y193 x53_1).toList then (hagglerlaw02_DecForth.l0 kj30 t189 y193 (y193.length : Int) (wrap64 (x53_1 + 1))) else (some false)) = some r := H
                                  have A42 := Aside0.mk A420
                                  clear A420
                                  by_cases c43 : t201.toList = (rdOf ByteArray.empty y193 x53_1).toList
                                  · rw [if_pos c43] at H
                                    have c43b0 : (t201.toList == (rdOf ByteArray.empty y193 x53_1).toList) = true := beq_iff_eq.mpr c43
                                    have c43b1 : (t201.toList != (rdOf ByteArray.empty y193 x53_1).toList) = false := bne_eq_false_iff_eq.mpr c43
                                    clear c43
                                    have H' := Aside0.mk H
                                    clear H
                                    go_wp2_with (first | ((with_reducible refine gate_callee (f := 18) rfl ?_); refine goesL_ (some 83) rfl rfl Tryd.func18 (by kernel_rfl) rfl #[.string (rdOf ByteArray.empty y193 x53_1), .int .i64 1000000000000] rfl (by (try simp only [List.map_toArray, List.map_cons, List.map_nil]); first | done | rfl | (simp only [List.length_drop, List.length_take]; rfl)) ?_; (with_reducible refine (dec_Count.calls (rdOf ByteArray.empty y193 x53_1) 1000000000000 t200 _ ?side1 A40.out).mono ?_); (case side1 => exact LaidW.below HLd.out (by repeat (first | (with_reducible first | exact HB.out | apply below_alloc | apply pw_below_drewN | apply below_drew1) | exact HB.out))); rintro e w44 ⟨rfl, hb⟩; refine ⟨_, rfl, ?_⟩; have n0_ := Aside0.mk (Kd.R_below (by (with_reducible repeat (first | apply Kd.R_alloc | apply Kd.R_drewN | apply Kd.R_drew)); exact HO_51.out) hb); have n1_ := Aside0.mk (below_step (by repeat (first | (with_reducible first | exact HB.out | apply below_alloc | apply pw_below_drewN | apply below_drew1) | exact HB.out)) hb); clear HO_51; clear HB; have HO_51 := n0_; have HB := n1_; clear n0_ n1_; (try clear hb); (try clear hb2); (try clear hk); (try clear hi)) | (go_at_call 14; (with_reducible refine (dec_Number.calls t200 t201 _ ?side1 A42.out).mono ?_); (case side1 => exact LaidW.below HLd.out (by repeat (first | (with_reducible first | exact HB.out | apply below_alloc | apply pw_below_drewN | apply below_drew1) | exact HB.out))); rintro e w45 ⟨rfl, hb⟩; have n0_ := Aside0.mk (Kd.R_below (by (with_reducible repeat (first | apply Kd.R_alloc | apply Kd.R_drewN | apply Kd.R_drew)); exact HO_51.out) hb); have n1_ := Aside0.mk (below_step (by repeat (first | (with_reducible first | exact HB.out | apply below_alloc | apply pw_below_drewN | apply below_drew1) | exact HB.out)) hb); clear HO_51; clear HB; have HO_51 := n0_; have HB := n1_; clear n0_ n1_; (try clear hb); (try clear hb2); (try clear hk); (try clear hi); (try clear A42)))
                                    go_roundg kj30
                                    case measure => have := HK1.out; have := HJ30.out; omega
                                    case rel => exact ⟨(wrap64 (x53_1 + 1)), (by first | rfl | (simp; done) | (simp [*]; done)), H', ⟨by have := HK1.out; have := HJ30.out; omega⟩, ⟨by (with_reducible repeat (first | apply Kd.R_alloc | apply Kd.R_drewN | apply Kd.R_drew)); exact HO_51.out⟩, ⟨by repeat (first | (with_reducible first | exact HB.out | apply below_alloc | apply pw_below_drewN | apply below_drew1) | exact HB.out)⟩⟩
                                  · rw [if_neg c43] at H
                                    have c43b0 : (t201.toList == (rdOf ByteArray.empty y193 x53_1).toList) = false := beq_eq_false_iff_ne.mpr c43
                                    have c43b1 : (t201.toList != (rdOf ByteArray.empty y193 x53_1).toList) = true := bne_iff_ne.mpr c43
                                    obtain rfl := Option.some.inj H
                                    go_wp2_with (first | ((with_reducible refine gate_callee (f := 18) rfl ?_); refine goesL_ (some 83) rfl rfl Tryd.func18 (by kernel_rfl) rfl #[.string (rdOf ByteArray.empty y193 x53_1), .int .i64 1000000000000] rfl (by (try simp only [List.map_toArray, List.map_cons, List.map_nil]); first | done | rfl | (simp only [List.length_drop, List.length_take]; rfl)) ?_; (with_reducible refine (dec_Count.calls (rdOf ByteArray.empty y193 x53_1) 1000000000000 t200 _ ?side1 A40.out).mono ?_); (case side1 => exact LaidW.below HLd.out (by repeat (first | (with_reducible first | exact HB.out | apply below_alloc | apply pw_below_drewN | apply below_drew1) | exact HB.out))); rintro e w46 ⟨rfl, hb⟩; refine ⟨_, rfl, ?_⟩; have n0_ := Aside0.mk (Kd.R_below (by (with_reducible repeat (first | apply Kd.R_alloc | apply Kd.R_drewN | apply Kd.R_drew)); exact HO_51.out) hb); have n1_ := Aside0.mk (below_step (by repeat (first | (with_reducible first | exact HB.out | apply below_alloc | apply pw_below_drewN | apply below_drew1) | exact HB.out)) hb); clear HO_51; clear HB; have HO_51 := n0_; have HB := n1_; clear n0_ n1_; (try clear hb); (try clear hb2); (try clear hk); (try clear hi)) | (go_at_call 14; (with_reducible refine (dec_Number.calls t200 t201 _ ?side1 A42.out).mono ?_); (case side1 => exact LaidW.below HLd.out (by repeat (first | (with_reducible first | exact HB.out | apply below_alloc | apply pw_below_drewN | apply below_drew1) | exact HB.out))); rintro e w47 ⟨rfl, hb⟩; have n0_ := Aside0.mk (Kd.R_below (by (with_reducible repeat (first | apply Kd.R_alloc | apply Kd.R_drewN | apply Kd.R_drew)); exact HO_51.out) hb); have n1_ := Aside0.mk (below_step (by repeat (first | (with_reducible first | exact HB.out | apply below_alloc | apply pw_below_drewN | apply below_drew1) | exact HB.out)) hb); clear HO_51; clear HB; have HO_51 := n0_; have HB := n1_; clear n0_ n1_; (try clear hb); (try clear hb2); (try clear hk); (try clear hi); (try clear A42)))
                                    go_ret
                                    exact ⟨by first | rfl | (simp [errW_none, errW_some] <;> rfl) | (simp only [← hji12]; first | rfl | (simp [errW_none, errW_some] <;> rfl)) | (simp [*, errW_none, errW_some] <;> rfl), by repeat (first | (with_reducible first | exact HB.out | apply below_alloc | apply pw_below_drewN | apply below_drew1) | exact HB.out)⟩
                                · rw [if_neg c41] at H
                                  have c41b0 : decide (0 ≤ t200) = false := decide_eq_false c41
                                  clear c41
                                  have H' := Aside0.mk H
                                  clear H
                                  go_wp2_with (first | ((with_reducible refine gate_callee (f := 18) rfl ?_); refine goesL_ (some 83) rfl rfl Tryd.func18 (by kernel_rfl) rfl #[.string (rdOf ByteArray.empty y193 x53_1), .int .i64 1000000000000] rfl (by (try simp only [List.map_toArray, List.map_cons, List.map_nil]); first | done | rfl | (simp only [List.length_drop, List.length_take]; rfl)) ?_; (with_reducible refine (dec_Count.calls (rdOf ByteArray.empty y193 x53_1) 1000000000000 t200 _ ?side1 A40.out).mono ?_); (case side1 => exact LaidW.below HLd.out (by repeat (first | (with_reducible first | exact HB.out | apply below_alloc | apply pw_below_drewN | apply below_drew1) | exact HB.out))); rintro e w48 ⟨rfl, hb⟩; refine ⟨_, rfl, ?_⟩; have n0_ := Aside0.mk (Kd.R_below (by (with_reducible repeat (first | apply Kd.R_alloc | apply Kd.R_drewN | apply Kd.R_drew)); exact HO_51.out) hb); have n1_ := Aside0.mk (below_step (by repeat (first | (with_reducible first | exact HB.out | apply below_alloc | apply pw_below_drewN | apply below_drew1) | exact HB.out)) hb); clear HO_51; clear HB; have HO_51 := n0_; have HB := n1_; clear n0_ n1_; (try clear hb); (try clear hb2); (try clear hk); (try clear hi)))
                                  go_roundg kj30
                                  case measure => have := HK1.out; have := HJ30.out; omega
                                  case rel => exact ⟨(wrap64 (x53_1 + 1)), (by first | rfl | (simp; done) | (simp [*]; done)), H', ⟨by have := HK1.out; have := HJ30.out; omega⟩, ⟨by (with_reducible repeat (first | apply Kd.R_alloc | apply Kd.R_drewN | apply Kd.R_drew)); exact HO_51.out⟩, ⟨by repeat (first | (with_reducible first | exact HB.out | apply below_alloc | apply pw_below_drewN | apply below_drew1) | exact HB.out)⟩⟩
                        · rw [if_neg c29] at H
                          exact absurd H (by simp)
                      · rw [if_neg c28] at H
                        exact absurd H (by simp)
                    · rw [if_neg c27] at H
                      have c27b0 : decide (x53_1 < (y193.length : Int)) = false := decide_eq_false c27
                      clear c27
                      obtain rfl := Option.some.inj H
                      go_wp2
                      go_ret
                      exact ⟨by first | rfl | (simp [errW_none, errW_some] <;> rfl) | (simp only [← hji12]; first | rfl | (simp [errW_none, errW_some] <;> rfl)) | (simp [*, errW_none, errW_some] <;> rfl), by repeat (first | (with_reducible first | exact HB.out | apply below_alloc | apply pw_below_drewN | apply below_drew1) | exact HB.out)⟩
              · rw [if_neg c20] at H
                exact absurd H (by simp)
            · rw [if_neg c15] at H
              exact absurd H (by simp)
          · rw [if_neg c14] at H
            exact absurd H (by simp)
        · rw [if_neg c13] at H
          exact absurd H (by simp)
      · rw [if_neg c11] at H
        exact absurd H (by simp)
    · rw [if_neg c10] at H
      exact absurd H (by simp)
  · rw [if_neg c9] at H
    exact absurd H (by simp)

/-- THE ONE PURE STATEMENT of hagglerlaw02_DecForth: yours. -/
def hagglerlaw02_DecForth.Pure : Prop := ∀ (a0 : ByteArray) (a1 : Int) (a2 : Int) (a3 : ByteArray), a0.size ≤ 140737488351232 → (Lit.int .i64 a1).wf = true → (Lit.int .i64 a2).wf = true → a3.size ≤ 140737488351232 → ∃ k, hagglerlaw02_DecForth.f k a0 a1 a2 a3 = some true
theorem hagglerlaw02_DecForth.walk (P : hagglerlaw02_DecForth.Pure) (a0 : ByteArray) (a1 : Int) (a2 : Int) (a3 : ByteArray) (w : World) (w0 : a0.size ≤ 140737488351232) (w1 : (Lit.int .i64 a1).wf = true) (w2 : (Lit.int .i64 a2).wf = true) (w3 : a3.size ≤ 140737488351232) (hLd : LaidW w) :
    Calls Tryd.prog 5 #[.string a0, .int .i64 a1, .int .i64 a2, .string a3] w fun e w' => e = .returned (.bool true) ∧ Below w.heap.size w w' := by
  obtain ⟨k, h⟩ := P a0 a1 a2 a3 w0 w1 w2 w3
  refine (hagglerlaw02_DecForth.calls k a0 a1 a2 a3 true w hLd h).mono ?_
  rintro e w' ⟨rfl, hd⟩
  exact ⟨rfl, hd⟩

end Go.Proofs.YtglbgfjmfccemaaDoor.Q
