import Derived.Test.YtgpkppohfodhdaaGreatDoorPx0
import Derived.Test.YtgpkppohfodhdaaGreatDoorExtA
namespace Go.Proofs.YtgpkppohfodhdaaGreatDoor.P
open Go.RowKit Go.Proofs.YtgpkppohfodhdaaGreatDoorW.PrintWords Go.Proofs.YtgpkppohfodhdaaGreatDoorW.PrintLast Go.Proofs.YtgpkppohfodhdaaGreatDoorW.PrintMore
attribute [local go_sem] max2_int min2_int max_two min_two max_three min_three max_four min_four   -- for this text's walks alone
set_option linter.unusedVariables false
set_option linter.unusedSimpArgs false
def money_within_int.f (a0 : Int) (a1 : Int) (a2 : Int) : Option (Bool) := if a0 ≥ a1 then (some (decide (a0 ≤ a2))) else (some false)
set_option maxHeartbeats 8000000 in
set_option maxRecDepth 100000 in
theorem money_within_int.calls (a0 : Int) (a1 : Int) (a2 : Int) (r : Bool) (w : World) (h : money_within_int.f a0 a1 a2 = some r) :
    Calls Tryz.prog 109 #[.int .i64 a0, .int .i64 a1, .int .i64 a2] w fun e w' => e = .returned (.bool r) ∧ Drawn0 w w' := by
  have H : (if a0 ≥ a1 then (some (decide (a0 ≤ a2))) else (some false)) = some r := h
  clear h
  by_cases c4 : a0 ≥ a1
  · rw [if_pos c4] at H
    have c4b0 : decide (a1 ≤ a0) = true := decide_eq_true c4
    clear c4
    obtain rfl := Option.some.inj H
    go_enter Tryz.func109, Tryz.ntmps109
    go_wp2
    go_ret
    exact ⟨by first | rfl | (simp; done) | (simp [*]; done), by repeat (first | exact Drawn0.refl _ | apply Drawn0.step)⟩
  · rw [if_neg c4] at H
    have c4b0 : decide (a1 ≤ a0) = false := decide_eq_false c4
    clear c4
    obtain rfl := Option.some.inj H
    go_enter Tryz.func109, Tryz.ntmps109
    go_wp2
    go_ret
    exact ⟨by first | rfl | (simp; done) | (simp [*]; done), by repeat (first | exact Drawn0.refl _ | apply Drawn0.step)⟩
def money_Right.f (a0 : Int) : Option (Bool) := (money_within_int.f a0 (-1000000000000) 1000000000000).bind fun t101 => (some t101)
set_option maxHeartbeats 8000000 in
set_option maxRecDepth 100000 in
theorem money_Right.calls (a0 : Int) (r : Bool) (w : World) (h : money_Right.f a0 = some r) :
    Calls Tryz.prog 108 #[.int .i64 a0] w fun e w' => e = .returned (.bool r) ∧ Drawn0 w w' := by
  have H : ((money_within_int.f a0 (-1000000000000) 1000000000000).bind fun t101 => (some t101)) = some r := h
  clear h
  replace H := Option.bind_eq_some_iff.mp H
  obtain ⟨t101, A20, H⟩ := H
  replace H : (some t101) = some r := H
  have A2 := Aside0.mk A20
  clear A20
  obtain rfl := Option.some.inj H
  go_enter Tryz.func108, Tryz.ntmps108
  go_wp2_with (first | ((with_reducible refine gate_callee (f := 109) rfl ?_); refine goesL_ (some 4) rfl rfl Tryz.func109 (by kernel_rfl) rfl #[.int .i64 a0, .int .i64 (-1000000000000), .int .i64 1000000000000] rfl (by (try simp only [List.map_toArray, List.map_cons, List.map_nil]); first | done | rfl | (simp only [List.length_drop, List.length_take]; rfl)) ?_; (with_reducible refine (money_within_int.calls a0 (-1000000000000) 1000000000000 t101 _ A2.out).mono ?_); rintro e w' ⟨rfl, ⟨nd, rfl⟩⟩; refine ⟨_, rfl, ?_⟩))
  go_ret
  exact ⟨by first | rfl | (simp; done) | (simp [*]; done), by repeat (first | exact Drawn0.refl _ | apply Drawn0.step)⟩
def dec_Text.f (a0 : Int) : Option (ByteArray) := (money_Right.f a0).bind fun t102 => (if t102 = true then (if a0 < 0 then ((strconv_Itoa.f (wrap64 (100 + (Int.tmod (wrap64 (-a0)) 100)))).bind fun t103 => ((strconv_Itoa.f (wrap64 (Int.tdiv (wrap64 (-a0)) 100))).bind fun t104 => (if 1 + t104.size ≤ 9223372036854775807 then (if ((⟨#[45]⟩ : ByteArray) ++ t104).size + 1 ≤ 9223372036854775807 then (if 1 ≤ (t103.size : Int) then (if (((⟨#[45]⟩ : ByteArray) ++ t104) ++ (⟨#[46]⟩ : ByteArray)).size + (t103.extract 1 t103.size).size ≤ 9223372036854775807 then (some ((((⟨#[45]⟩ : ByteArray) ++ t104) ++ (⟨#[46]⟩ : ByteArray)) ++ (t103.extract 1 t103.size))) else (none)) else (none)) else (none)) else (none)))) else ((strconv_Itoa.f (wrap64 (100 + (Int.tmod a0 100)))).bind fun t105 => ((strconv_Itoa.f (wrap64 (Int.tdiv a0 100))).bind fun t106 => (if 0 + t106.size ≤ 9223372036854775807 then (if ((⟨#[]⟩ : ByteArray) ++ t106).size + 1 ≤ 9223372036854775807 then (if 1 ≤ (t105.size : Int) then (if (((⟨#[]⟩ : ByteArray) ++ t106) ++ (⟨#[46]⟩ : ByteArray)).size + (t105.extract 1 t105.size).size ≤ 9223372036854775807 then (some ((((⟨#[]⟩ : ByteArray) ++ t106) ++ (⟨#[46]⟩ : ByteArray)) ++ (t105.extract 1 t105.size))) else (none)) else (none)) else (none)) else (none))))) else (some (⟨#[]⟩ : ByteArray)))
def dec_Text.T7 : Bool × List (List Nat × List Nat) := (true, [([], []), ([], []), ([1], [1]), ([2], [2]), ([0, 3], [0, 3]), ([4], [4]), ([], []), ([6], [6]), ([5, 7], [5, 7]), ([8, 3, 0, 1, 2, 3, 4, 5, 6, 7, 8], [8])])
def dec_Text.B7 : List Nat := [0, 0, 2, 6, 15, 31, 0, 64, 255, 511]
theorem dec_Text.tab7 : rtab .any (opsOf Tryz.f131 7) = dec_Text.T7 := by kernel_rfl
theorem dec_Text.bits7 : waitsOk dec_Text.T7.2 dec_Text.B7 = true := by kernel_rfl
set_option maxHeartbeats 8000000 in
set_option maxRecDepth 100000 in
theorem dec_Text.calls (a0 : Int) (r : ByteArray) (w : World) (hLd : LaidW w) (h : dec_Text.f a0 = some r) :
    Calls Tryz.prog 131 #[.int .i64 a0] w fun e w' => e = .returned (.string r) ∧ Below w.heap.size w w' := by
  have HLd := Aside0.mk hLd
  clear hLd
  have HB := Aside0.mk (Below.refl w.heap.size w)
  have H : ((money_Right.f a0).bind fun t102 => (if t102 = true then (if a0 < 0 then ((strconv_Itoa.f (wrap64 (100 + (Int.tmod (wrap64 (-a0)) 100)))).bind fun t103 => ((strconv_Itoa.f (wrap64 (Int.tdiv (wrap64 (-a0)) 100))).bind fun t104 => (if 1 + t104.size ≤ 9223372036854775807 then (if ((⟨#[45]⟩ : ByteArray) ++ t104).size + 1 ≤ 9223372036854775807 then (if 1 ≤ (t103.size : Int) then (if (((⟨#[45]⟩ : ByteArray) ++ t104) ++ (⟨#[46]⟩ : ByteArray)).size + (t103.extract 1 t103.size).size ≤ 9223372036854775807 then (some ((((⟨#[45]⟩ : ByteArray) ++ t104) ++ (⟨#[46]⟩ : ByteArray)) ++ (t103.extract 1 t103.size))) else (none)) else (none)) else (none)) else (none)))) else ((strconv_Itoa.f (wrap64 (100 + (Int.tmod a0 100)))).bind fun t105 => ((strconv_Itoa.f (wrap64 (Int.tdiv a0 100))).bind fun t106 => (if 0 + t106.size ≤ 9223372036854775807 then (if ((⟨#[]⟩ : ByteArray) ++ t106).size + 1 ≤ 9223372036854775807 then (if 1 ≤ (t105.size : Int) then (if (((⟨#[]⟩ : ByteArray) ++ t106) ++ (⟨#[46]⟩ : ByteArray)).size + (t105.extract 1 t105.size).size ≤ 9223372036854775807 then (some ((((⟨#[]⟩ : ByteArray) ++ t106) ++ (⟨#[46]⟩ : ByteArray)) ++ (t105.extract 1 t105.size))) else (none)) else (none)) else (none)) else (none))))) else (some (⟨#[]⟩ : ByteArray)))) = some r := h
  clear h
  replace H := Option.bind_eq_some_iff.mp H
  obtain ⟨t102, A20, H⟩ := H
  replace H : (if t102 = true then (if a0 < 0 then ((strconv_Itoa.f (wrap64 (100 + (Int.tmod (wrap64 (-a0)) 100)))).bind fun t103 => ((strconv_Itoa.f (wrap64 (Int.tdiv (wrap64 (-a0)) 100))).bind fun t104 => (if 1 + t104.size ≤ 9223372036854775807 then (if ((⟨#[45]⟩ : ByteArray) ++ t104).size + 1 ≤ 9223372036854775807 then (if 1 ≤ (t103.size : Int) then (if (((⟨#[45]⟩ : ByteArray) ++ t104) ++ (⟨#[46]⟩ : ByteArray)).size + (t103.extract 1 t103.size).size ≤ 9223372036854775807 then (some ((((⟨#[45]⟩ : ByteArray) ++ t104) ++ (⟨#[46]⟩ : ByteArray)) ++ (t103.extract 1 t103.size))) else (none)) else (none)) else (none)) else (none)))) else ((strconv_Itoa.f (wrap64 (100 + (Int.tmod a0 100)))).bind fun t105 => ((strconv_Itoa.f (wrap64 (Int.tdiv a0 100))).bind fun t106 => (if 0 + t106.size ≤ 9223372036854775807 then (if ((⟨#[]⟩ : ByteArray) ++ t106).size + 1 ≤ 9223372036854775807 then (if 1 ≤ (t105.size : Int) then (if (((⟨#[]⟩ : ByteArray) ++ t106) ++ (⟨#[46]⟩ : ByteArray)).size + (t105.extract 1 t105.size).size ≤ 9223372036854775807 then (some ((((⟨#[]⟩ : ByteArray) ++ t106) ++ (⟨#[46]⟩ : ByteArray)) ++ (t105.extract 1 t105.size))) else (none)) else (none)) else (none)) else (none))))) else (some (⟨#[]⟩ : ByteArray))) = some r := H
  have A2 := Aside0.mk A20
  clear A20
  by_cases c3 : t102 = true
  · subst c3
    have H1 : (if a0 < 0 then ((strconv_Itoa.f (wrap64 (100 + (Int.tmod (wrap64 (-a0)) 100)))).bind fun t103 => ((strconv_Itoa.f (wrap64 (Int.tdiv (wrap64 (-a0)) 100))).bind fun t104 => (if 1 + t104.size ≤ 9223372036854775807 then (if ((⟨#[45]⟩ : ByteArray) ++ t104).size + 1 ≤ 9223372036854775807 then (if 1 ≤ (t103.size : Int) then (if (((⟨#[45]⟩ : ByteArray) ++ t104) ++ (⟨#[46]⟩ : ByteArray)).size + (t103.extract 1 t103.size).size ≤ 9223372036854775807 then (some ((((⟨#[45]⟩ : ByteArray) ++ t104) ++ (⟨#[46]⟩ : ByteArray)) ++ (t103.extract 1 t103.size))) else (none)) else (none)) else (none)) else (none)))) else ((strconv_Itoa.f (wrap64 (100 + (Int.tmod a0 100)))).bind fun t105 => ((strconv_Itoa.f (wrap64 (Int.tdiv a0 100))).bind fun t106 => (if 0 + t106.size ≤ 9223372036854775807 then (if ((⟨#[]⟩ : ByteArray) ++ t106).size + 1 ≤ 9223372036854775807 then (if 1 ≤ (t105.size : Int) then (if (((⟨#[]⟩ : ByteArray) ++ t106) ++ (⟨#[46]⟩ : ByteArray)).size + (t105.extract 1 t105.size).size ≤ 9223372036854775807 then (some ((((⟨#[]⟩ : ByteArray) ++ t106) ++ (⟨#[46]⟩ : ByteArray)) ++ (t105.extract 1 t105.size))) else (none)) else (none)) else (none)) else (none))))) = some r := by rw [if_pos rfl] at H; exact H
    clear H
    have H := H1
    clear H1
    by_cases c4 : a0 < 0
    · rw [if_pos c4] at H
      have c4b0 : decide (a0 < 0) = true := decide_eq_true c4
      clear c4
      replace H := Option.bind_eq_some_iff.mp H
      obtain ⟨t103, A50, H⟩ := H
      replace H : ((strconv_Itoa.f (wrap64 (Int.tdiv (wrap64 (-a0)) 100))).bind fun t104 => (if 1 + t104.size ≤ 9223372036854775807 then (if ((⟨#[45]⟩ : ByteArray) ++ t104).size + 1 ≤ 9223372036854775807 then (if 1 ≤ (t103.size : Int) then (if (((⟨#[45]⟩ : ByteArray) ++ t104) ++ (⟨#[46]⟩ : ByteArray)).size + (t103.extract 1 t103.size).size ≤ 9223372036854775807 then (some ((((⟨#[45]⟩ : ByteArray) ++ t104) ++ (⟨#[46]⟩ : ByteArray)) ++ (t103.extract 1 t103.size))) else (none)) else (none)) else (none)) else (none))) = some r := H
      have A5 := Aside0.mk A50
      clear A50
      replace H := Option.bind_eq_some_iff.mp H
      obtain ⟨t104, A60, H⟩ := H
      replace H : (if 1 + t104.size ≤ 9223372036854775807 then (if ((⟨#[45]⟩ : ByteArray) ++ t104).size + 1 ≤ 9223372036854775807 then (if 1 ≤ (t103.size : Int) then (if (((⟨#[45]⟩ : ByteArray) ++ t104) ++ (⟨#[46]⟩ : ByteArray)).size + (t103.extract 1 t103.size).size ≤ 9223372036854775807 then (some ((((⟨#[45]⟩ : ByteArray) ++ t104) ++ (⟨#[46]⟩ : ByteArray)) ++ (t103.extract 1 t103.size))) else (none)) else (none)) else (none)) else (none)) = some r := H
      have A6 := Aside0.mk A60
      clear A60
      by_cases c7 : 1 + t104.size ≤ 9223372036854775807
      · rw [if_pos c7] at H
        have c7b0 := eq_true c7
        have c7b1 : decide (1 + t104.size ≤ 9223372036854775807) = true := decide_eq_true c7
        try (have c7b3 := Nat.not_lt.2 c7; simp only [ByteArray.size_append, ByteArray.size_extract, Nat.min_self, Nat.zero_add, Nat.add_zero] at c7b3; replace c7b3 := eq_false c7b3)
        try have c7b2 : (9223372036854775807 < 1 + t104.size) = False := eq_false (Nat.not_lt.2 c7)
        by_cases c8 : ((⟨#[45]⟩ : ByteArray) ++ t104).size + 1 ≤ 9223372036854775807
        · rw [if_pos c8] at H
          have c8b0 := eq_true c8
          have c8b1 : decide (((⟨#[45]⟩ : ByteArray) ++ t104).size + 1 ≤ 9223372036854775807) = true := decide_eq_true c8
          try (have c8b3 := Nat.not_lt.2 c8; simp only [ByteArray.size_append, ByteArray.size_extract, Nat.min_self, Nat.zero_add, Nat.add_zero, show (⟨#[45]⟩ : ByteArray).size = 1 from rfl] at c8b3; replace c8b3 := eq_false c8b3)
          try have c8b2 : (9223372036854775807 < ((⟨#[45]⟩ : ByteArray) ++ t104).size + 1) = False := eq_false (Nat.not_lt.2 c8)
          by_cases c9 : 1 ≤ (t103.size : Int)
          · rw [if_pos c9] at H
            have c9b0 := eq_true c9
            have c9b1 : decide (1 ≤ (t103.size : Int)) = true := decide_eq_true c9
            clear c9
            by_cases c10 : (((⟨#[45]⟩ : ByteArray) ++ t104) ++ (⟨#[46]⟩ : ByteArray)).size + (t103.extract 1 t103.size).size ≤ 9223372036854775807
            · rw [if_pos c10] at H
              have c10b0 := eq_true c10
              have c10b1 : decide ((((⟨#[45]⟩ : ByteArray) ++ t104) ++ (⟨#[46]⟩ : ByteArray)).size + (t103.extract 1 t103.size).size ≤ 9223372036854775807) = true := decide_eq_true c10
              try (have c10b4 : (9223372036854775807 < 1 + t104.size + 1 + (t103.size - 1)) = False := by apply eq_false; apply Nat.not_lt.2; have h_ := c10; simp only [ByteArray.size_append, ByteArray.size_extract, Nat.zero_add, Nat.add_zero, show (⟨#[45]⟩ : ByteArray).size = 1 from rfl, show (⟨#[46]⟩ : ByteArray).size = 1 from rfl] at h_; (try have g0_ := of_eq_true c7b0); (try have g1_ := of_eq_true c8b0); (try have g2_ := of_eq_true c9b0); (try have g3_ := of_eq_true c10b0); omega)
              try (have c10b3 := Nat.not_lt.2 c10; simp only [ByteArray.size_append, ByteArray.size_extract, Nat.min_self, Nat.zero_add, Nat.add_zero, show (⟨#[45]⟩ : ByteArray).size = 1 from rfl, show (⟨#[46]⟩ : ByteArray).size = 1 from rfl] at c10b3; replace c10b3 := eq_false c10b3)
              try have c10b2 : (9223372036854775807 < (((⟨#[45]⟩ : ByteArray) ++ t104) ++ (⟨#[46]⟩ : ByteArray)).size + (t103.extract 1 t103.size).size) = False := eq_false (Nat.not_lt.2 c10)
              obtain rfl := Option.some.inj H
              go_enter Tryz.func131, Tryz.ntmps131
              try go_wp2_with (first | ((with_reducible refine gate_callee (f := 108) rfl ?_); refine goesL_ (some 7) rfl rfl Tryz.func108 (by kernel_rfl) rfl #[.int .i64 a0] rfl (by (try simp only [List.map_toArray, List.map_cons, List.map_nil]); first | done | rfl | (simp only [List.length_drop, List.length_take]; rfl)) ?_; (with_reducible refine (money_Right.calls a0 true _ A2.out).mono ?_); rintro e w' ⟨rfl, ⟨nd, rfl⟩⟩; refine ⟨_, rfl, ?_⟩) | ((with_reducible refine gate_callee (f := 149) rfl ?_); refine goesL_ (some 17) rfl rfl Tryz.func149 (by kernel_rfl) rfl #[.int .i64 (wrap64 (100 + (Int.tmod (wrap64 (-a0)) 100)))] rfl (by (try simp only [List.map_toArray, List.map_cons, List.map_nil]); first | done | rfl | (simp only [List.length_drop, List.length_take]; rfl)) ?_; (with_reducible refine (strconv_Itoa.calls (wrap64 (100 + (Int.tmod (wrap64 (-a0)) 100))) t103 _ ?side1 A5.out).mono ?_); (case side1 => exact LaidW.below HLd.out (by repeat (first | (with_reducible first | exact HB.out | apply below_alloc | apply pw_below_drewN | apply below_drew1) | exact HB.out))); rintro e w11 ⟨rfl, hb⟩; refine ⟨_, rfl, ?_⟩; have n0_ := Aside0.mk (below_step (by repeat (first | (with_reducible first | exact HB.out | apply below_alloc | apply pw_below_drewN | apply below_drew1) | exact HB.out)) hb); clear HB; have HB := n0_; clear n0_; (try clear hb); (try clear hb2); (try clear hk); (try clear hi)))
              have n0_ := Aside0.mk (below_drew1 HB.out)
              clear HB
              have HB := n0_
              clear n0_
              refine start_ (n := 10) (S := fun w' => True) (ds := []) #[false, false, false, false, false, false, false, false, false, false] (by kernel_rfl) rfl rfl trivial (fun hHeld => ?_); refine with_tabW dec_Text.tab7 dec_Text.bits7 (fun HT_ HW_ => ?_)
              generalize w11.drew = w12 at HB hHeld ⊢
              refine pure_ (i := 0) (N := some 18) (v := ?_) (a' := ?_) #[true, false, false, false, false, false, false, false, false, false] rfl rfl (any_of HT_.out (by kernel_rfl)) (fun _ _ _ h => h) (Or.inl ⟨by rfl, ?_⟩) ?_ ?_
              rotate_left
              · intro w'
                go_simp
                with_reducible rfl
              rotate_left
              · simp only [Act.put, List.setIfInBounds_toArray, List.set_cons_zero, List.set_cons_succ, i64_w, i32_w]
                rfl
              refine pure_ (i := 1) (N := some 19) (v := ?_) (a' := ?_) #[true, true, false, false, false, false, false, false, false, false] rfl rfl (any_of HT_.out (by kernel_rfl)) (fun _ _ _ h => h) (Or.inl ⟨by rfl, ?_⟩) ?_ ?_
              rotate_left
              · intro w'
                go_simp
                with_reducible rfl
              rotate_left
              · simp only [Act.put, List.setIfInBounds_toArray, List.set_cons_zero, List.set_cons_succ, i64_w, i32_w]
                rfl
              refine pure_ (i := 2) (N := some 20) (v := ?_) (a' := ?_) #[true, true, true, false, false, false, false, false, false, false] rfl rfl (any_of HT_.out (by kernel_rfl)) (fun _ _ _ h => h) (Or.inl ⟨by rfl, ?_⟩) ?_ ?_
              rotate_left
              · intro w'
                go_simp
                with_reducible rfl
              rotate_left
              · simp only [Act.put, List.setIfInBounds_toArray, List.set_cons_zero, List.set_cons_succ, i64_w, i32_w]
                rfl
              refine pure_ (i := 6) (N := some 24) (v := ?_) (a' := ?_) #[true, true, true, false, false, false, true, false, false, false] rfl rfl (any_of HT_.out (by kernel_rfl)) (fun _ _ _ h => h) (Or.inl ⟨by rfl, ?_⟩) ?_ ?_
              rotate_left
              · intro w'
                go_simp
                with_reducible rfl
              rotate_left
              · simp only [Act.put, List.setIfInBounds_toArray, List.set_cons_zero, List.set_cons_succ, i64_w, i32_w]
                rfl
              refine pure_ (i := 7) (N := some 25) (v := ?_) (a' := ?_) #[true, true, true, false, false, false, true, true, false, false] rfl rfl (any_of HT_.out (by kernel_rfl)) (fun _ _ _ h => h) (Or.inl ⟨by rfl, ?_⟩) ?_ ?_
              rotate_left
              · intro w'
                go_simp
                with_reducible rfl
              rotate_left
              · simp only [Act.put, List.setIfInBounds_toArray, List.set_cons_zero, List.set_cons_succ, i64_w, i32_w]
                rfl
              refine one_ (i := 3) (N := some 21) #[true, true, true, true, false, false, true, true, false, false] rfl rfl (one_of HT_.out (by kernel_rfl)) (by decide) (fun K hK => ?_)
              refine goes_ Tryz.func149 (by kernel_rfl) rfl #[.int .i64 (wrap64 (Int.tdiv (wrap64 (-a0)) 100))] (by rfl) rfl rfl (by (try simp only [List.map_toArray, List.map_cons, List.map_nil]); first | done | rfl | (simp only [List.length_drop, List.length_take]; rfl)) ?_
              with_reducible refine (strconv_Itoa.calls (wrap64 (Int.tdiv (wrap64 (-a0)) 100)) t104 _ ?side1 A6.out).mono ?_
              (case side1 => exact LaidW.below HLd.out (by repeat (first | (with_reducible first | exact HB.out | apply below_alloc | apply pw_below_drewN | apply below_drew1) | exact HB.out)))
              rintro e w13 ⟨rfl, hb⟩
              refine ⟨_, rfl, ?_⟩
              have n0_ := Aside0.mk (below_step (by repeat (first | (with_reducible first | exact HB.out | apply below_alloc | apply pw_below_drewN | apply below_drew1) | exact HB.out)) hb)
              clear HB
              have HB := n0_
              clear n0_
              (try clear hb)
              (try clear hb2)
              (try clear hk)
              (try clear hi)
              refine hK.out _ _ trivial (fun hHeld => ?_)
              clear hK K
              refine norm_ (a' := ?_) ?_ ?_
              rotate_left
              · show Act.put _ (some 21) _ = _
                simp only [Act.put, List.setIfInBounds_toArray, List.set_cons_zero, List.set_cons_succ, i64_w, i32_w]
                rfl
              refine pure_ (i := 4) (N := some 22) (v := ?_) (a' := ?_) #[true, true, true, true, true, false, true, true, false, false] rfl rfl (any_of HT_.out (by kernel_rfl)) (fun _ _ _ h => h) (Or.inl ⟨by rfl, ?_⟩) ?_ ?_
              rotate_left
              · intro w'
                go_simp
                with_reducible rfl
              rotate_left
              · simp only [Act.put, List.setIfInBounds_toArray, List.set_cons_zero, List.set_cons_succ, i64_w, i32_w]
                rfl
              refine pure_ (i := 5) (N := some 23) (v := ?_) (a' := ?_) #[true, true, true, true, true, true, true, true, false, false] rfl rfl (any_of HT_.out (by kernel_rfl)) (fun _ _ _ h => h) (Or.inl ⟨by rfl, ?_⟩) ?_ ?_
              rotate_left
              · intro w'
                go_simp
                with_reducible rfl
              rotate_left
              · simp only [Act.put, List.setIfInBounds_toArray, List.set_cons_zero, List.set_cons_succ, i64_w, i32_w]
                rfl
              refine pure_ (i := 8) (N := some 26) (v := ?_) (a' := ?_) #[true, true, true, true, true, true, true, true, true, false] rfl rfl (any_of HT_.out (by kernel_rfl)) (fun _ _ _ h => h) (Or.inl ⟨by rfl, ?_⟩) ?_ ?_
              rotate_left
              · intro w'
                go_simp
                with_reducible rfl
              rotate_left
              · simp only [Act.put, List.setIfInBounds_toArray, List.set_cons_zero, List.set_cons_succ, i64_w, i32_w]
                rfl
              refine pure_ (i := 9) (N := some 2) (v := ?_) (a' := ?_) #[true, true, true, true, true, true, true, true, true, true] rfl rfl (any_of HT_.out (by kernel_rfl)) (fun _ _ _ h => h) (Or.inl ⟨by rfl, ?_⟩) ?_ ?_
              rotate_left
              · intro w'
                go_simp
                with_reducible rfl
              rotate_left
              · simp only [Act.put, List.setIfInBounds_toArray, List.set_cons_zero, List.set_cons_succ, i64_w, i32_w]
                rfl
              refine done_ (done_of HT_.out (by kernel_rfl)) ?_
              try go_wp2
              go_ret
              exact ⟨by first | rfl | (simp [errW_none, errW_some] <;> rfl) | (simp [*, errW_none, errW_some] <;> rfl), by repeat (first | (with_reducible first | exact HB.out | apply below_alloc | apply pw_below_drewN | apply below_drew1) | exact HB.out)⟩
            · rw [if_neg c10] at H
              exact absurd H (by simp)
          · rw [if_neg c9] at H
            exact absurd H (by simp)
        · rw [if_neg c8] at H
          exact absurd H (by simp)
      · rw [if_neg c7] at H
        exact absurd H (by simp)
    · rw [if_neg c4] at H
      have c4b0 : decide (a0 < 0) = false := decide_eq_false c4
      clear c4
      replace H := Option.bind_eq_some_iff.mp H
      obtain ⟨t105, A140, H⟩ := H
      replace H : ((strconv_Itoa.f (wrap64 (Int.tdiv a0 100))).bind fun t106 => (if 0 + t106.size ≤ 9223372036854775807 then (if ((⟨#[]⟩ : ByteArray) ++ t106).size + 1 ≤ 9223372036854775807 then (if 1 ≤ (t105.size : Int) then (if (((⟨#[]⟩ : ByteArray) ++ t106) ++ (⟨#[46]⟩ : ByteArray)).size + (t105.extract 1 t105.size).size ≤ 9223372036854775807 then (some ((((⟨#[]⟩ : ByteArray) ++ t106) ++ (⟨#[46]⟩ : ByteArray)) ++ (t105.extract 1 t105.size))) else (none)) else (none)) else (none)) else (none))) = some r := H
      have A14 := Aside0.mk A140
      clear A140
      replace H := Option.bind_eq_some_iff.mp H
      obtain ⟨t106, A150, H⟩ := H
      replace H : (if 0 + t106.size ≤ 9223372036854775807 then (if ((⟨#[]⟩ : ByteArray) ++ t106).size + 1 ≤ 9223372036854775807 then (if 1 ≤ (t105.size : Int) then (if (((⟨#[]⟩ : ByteArray) ++ t106) ++ (⟨#[46]⟩ : ByteArray)).size + (t105.extract 1 t105.size).size ≤ 9223372036854775807 then (some ((((⟨#[]⟩ : ByteArray) ++ t106) ++ (⟨#[46]⟩ : ByteArray)) ++ (t105.extract 1 t105.size))) else (none)) else (none)) else (none)) else (none)) = some r := H
      have A15 := Aside0.mk A150
      clear A150
      by_cases c16 : 0 + t106.size ≤ 9223372036854775807
      · rw [if_pos c16] at H
        have c16b0 := eq_true c16
        have c16b1 : decide (0 + t106.size ≤ 9223372036854775807) = true := decide_eq_true c16
        try (have c16b3 := Nat.not_lt.2 c16; simp only [ByteArray.size_append, ByteArray.size_extract, Nat.min_self, Nat.zero_add, Nat.add_zero] at c16b3; replace c16b3 := eq_false c16b3)
        try have c16b2 : (9223372036854775807 < 0 + t106.size) = False := eq_false (Nat.not_lt.2 c16)
        by_cases c17 : ((⟨#[]⟩ : ByteArray) ++ t106).size + 1 ≤ 9223372036854775807
        · rw [if_pos c17] at H
          have c17b0 := eq_true c17
          have c17b1 : decide (((⟨#[]⟩ : ByteArray) ++ t106).size + 1 ≤ 9223372036854775807) = true := decide_eq_true c17
          try (have c17b3 := Nat.not_lt.2 c17; simp only [ByteArray.size_append, ByteArray.size_extract, Nat.min_self, Nat.zero_add, Nat.add_zero, show (⟨#[]⟩ : ByteArray).size = 0 from rfl] at c17b3; replace c17b3 := eq_false c17b3)
          try have c17b2 : (9223372036854775807 < ((⟨#[]⟩ : ByteArray) ++ t106).size + 1) = False := eq_false (Nat.not_lt.2 c17)
          by_cases c18 : 1 ≤ (t105.size : Int)
          · rw [if_pos c18] at H
            have c18b0 := eq_true c18
            have c18b1 : decide (1 ≤ (t105.size : Int)) = true := decide_eq_true c18
            clear c18
            by_cases c19 : (((⟨#[]⟩ : ByteArray) ++ t106) ++ (⟨#[46]⟩ : ByteArray)).size + (t105.extract 1 t105.size).size ≤ 9223372036854775807
            · rw [if_pos c19] at H
              have c19b0 := eq_true c19
              have c19b1 : decide ((((⟨#[]⟩ : ByteArray) ++ t106) ++ (⟨#[46]⟩ : ByteArray)).size + (t105.extract 1 t105.size).size ≤ 9223372036854775807) = true := decide_eq_true c19
              try (have c19b4 : (9223372036854775807 < t106.size + 1 + (t105.size - 1)) = False := by apply eq_false; apply Nat.not_lt.2; have h_ := c19; simp only [ByteArray.size_append, ByteArray.size_extract, Nat.zero_add, Nat.add_zero, show (⟨#[46]⟩ : ByteArray).size = 1 from rfl, show (⟨#[]⟩ : ByteArray).size = 0 from rfl] at h_; (try have g0_ := of_eq_true c7b0); (try have g1_ := of_eq_true c8b0); (try have g2_ := of_eq_true c9b0); (try have g3_ := of_eq_true c10b0); (try have g4_ := of_eq_true c16b0); (try have g5_ := of_eq_true c17b0); (try have g6_ := of_eq_true c18b0); (try have g7_ := of_eq_true c19b0); omega)
              try (have c19b3 := Nat.not_lt.2 c19; simp only [ByteArray.size_append, ByteArray.size_extract, Nat.min_self, Nat.zero_add, Nat.add_zero, show (⟨#[46]⟩ : ByteArray).size = 1 from rfl, show (⟨#[]⟩ : ByteArray).size = 0 from rfl] at c19b3; replace c19b3 := eq_false c19b3)
              try have c19b2 : (9223372036854775807 < (((⟨#[]⟩ : ByteArray) ++ t106) ++ (⟨#[46]⟩ : ByteArray)).size + (t105.extract 1 t105.size).size) = False := eq_false (Nat.not_lt.2 c19)
              obtain rfl := Option.some.inj H
              go_enter Tryz.func131, Tryz.ntmps131
              try go_wp2_with (first | ((with_reducible refine gate_callee (f := 108) rfl ?_); refine goesL_ (some 7) rfl rfl Tryz.func108 (by kernel_rfl) rfl #[.int .i64 a0] rfl (by (try simp only [List.map_toArray, List.map_cons, List.map_nil]); first | done | rfl | (simp only [List.length_drop, List.length_take]; rfl)) ?_; (with_reducible refine (money_Right.calls a0 true _ A2.out).mono ?_); rintro e w' ⟨rfl, ⟨nd, rfl⟩⟩; refine ⟨_, rfl, ?_⟩) | ((with_reducible refine gate_callee (f := 149) rfl ?_); refine goesL_ (some 17) rfl rfl Tryz.func149 (by kernel_rfl) rfl #[.int .i64 (wrap64 (100 + (Int.tmod a0 100)))] rfl (by (try simp only [List.map_toArray, List.map_cons, List.map_nil]); first | done | rfl | (simp only [List.length_drop, List.length_take]; rfl)) ?_; (with_reducible refine (strconv_Itoa.calls (wrap64 (100 + (Int.tmod a0 100))) t105 _ ?side1 A14.out).mono ?_); (case side1 => exact LaidW.below HLd.out (by repeat (first | (with_reducible first | exact HB.out | apply below_alloc | apply pw_below_drewN | apply below_drew1) | exact HB.out))); rintro e w20 ⟨rfl, hb⟩; refine ⟨_, rfl, ?_⟩; have n0_ := Aside0.mk (below_step (by repeat (first | (with_reducible first | exact HB.out | apply below_alloc | apply pw_below_drewN | apply below_drew1) | exact HB.out)) hb); clear HB; have HB := n0_; clear n0_; (try clear hb); (try clear hb2); (try clear hk); (try clear hi)))
              have n0_ := Aside0.mk (below_drew1 HB.out)
              clear HB
              have HB := n0_
              clear n0_
              refine start_ (n := 10) (S := fun w' => True) (ds := []) #[false, false, false, false, false, false, false, false, false, false] (by kernel_rfl) rfl rfl trivial (fun hHeld => ?_); refine with_tabW dec_Text.tab7 dec_Text.bits7 (fun HT_ HW_ => ?_)
              generalize w20.drew = w21 at HB hHeld ⊢
              refine pure_ (i := 0) (N := some 18) (v := ?_) (a' := ?_) #[true, false, false, false, false, false, false, false, false, false] rfl rfl (any_of HT_.out (by kernel_rfl)) (fun _ _ _ h => h) (Or.inl ⟨by rfl, ?_⟩) ?_ ?_
              rotate_left
              · intro w'
                go_simp
                with_reducible rfl
              rotate_left
              · simp only [Act.put, List.setIfInBounds_toArray, List.set_cons_zero, List.set_cons_succ, i64_w, i32_w]
                rfl
              refine pure_ (i := 1) (N := some 19) (v := ?_) (a' := ?_) #[true, true, false, false, false, false, false, false, false, false] rfl rfl (any_of HT_.out (by kernel_rfl)) (fun _ _ _ h => h) (Or.inl ⟨by rfl, ?_⟩) ?_ ?_
              rotate_left
              · intro w'
                go_simp
                with_reducible rfl
              rotate_left
              · simp only [Act.put, List.setIfInBounds_toArray, List.set_cons_zero, List.set_cons_succ, i64_w, i32_w]
                rfl
              refine pure_ (i := 2) (N := some 20) (v := ?_) (a' := ?_) #[true, true, true, false, false, false, false, false, false, false] rfl rfl (any_of HT_.out (by kernel_rfl)) (fun _ _ _ h => h) (Or.inl ⟨by rfl, ?_⟩) ?_ ?_
              rotate_left
              · intro w'
                go_simp
                with_reducible rfl
              rotate_left
              · simp only [Act.put, List.setIfInBounds_toArray, List.set_cons_zero, List.set_cons_succ, i64_w, i32_w]
                rfl
              refine pure_ (i := 6) (N := some 24) (v := ?_) (a' := ?_) #[true, true, true, false, false, false, true, false, false, false] rfl rfl (any_of HT_.out (by kernel_rfl)) (fun _ _ _ h => h) (Or.inl ⟨by rfl, ?_⟩) ?_ ?_
              rotate_left
              · intro w'
                go_simp
                with_reducible rfl
              rotate_left
              · simp only [Act.put, List.setIfInBounds_toArray, List.set_cons_zero, List.set_cons_succ, i64_w, i32_w]
                rfl
              refine pure_ (i := 7) (N := some 25) (v := ?_) (a' := ?_) #[true, true, true, false, false, false, true, true, false, false] rfl rfl (any_of HT_.out (by kernel_rfl)) (fun _ _ _ h => h) (Or.inl ⟨by rfl, ?_⟩) ?_ ?_
              rotate_left
              · intro w'
                go_simp
                with_reducible rfl
              rotate_left
              · simp only [Act.put, List.setIfInBounds_toArray, List.set_cons_zero, List.set_cons_succ, i64_w, i32_w]
                rfl
              refine one_ (i := 3) (N := some 21) #[true, true, true, true, false, false, true, true, false, false] rfl rfl (one_of HT_.out (by kernel_rfl)) (by decide) (fun K hK => ?_)
              refine goes_ Tryz.func149 (by kernel_rfl) rfl #[.int .i64 (wrap64 (Int.tdiv a0 100))] (by rfl) rfl rfl (by (try simp only [List.map_toArray, List.map_cons, List.map_nil]); first | done | rfl | (simp only [List.length_drop, List.length_take]; rfl)) ?_
              with_reducible refine (strconv_Itoa.calls (wrap64 (Int.tdiv a0 100)) t106 _ ?side1 A15.out).mono ?_
              (case side1 => exact LaidW.below HLd.out (by repeat (first | (with_reducible first | exact HB.out | apply below_alloc | apply pw_below_drewN | apply below_drew1) | exact HB.out)))
              rintro e w22 ⟨rfl, hb⟩
              refine ⟨_, rfl, ?_⟩
              have n0_ := Aside0.mk (below_step (by repeat (first | (with_reducible first | exact HB.out | apply below_alloc | apply pw_below_drewN | apply below_drew1) | exact HB.out)) hb)
              clear HB
              have HB := n0_
              clear n0_
              (try clear hb)
              (try clear hb2)
              (try clear hk)
              (try clear hi)
              refine hK.out _ _ trivial (fun hHeld => ?_)
              clear hK K
              refine norm_ (a' := ?_) ?_ ?_
              rotate_left
              · show Act.put _ (some 21) _ = _
                simp only [Act.put, List.setIfInBounds_toArray, List.set_cons_zero, List.set_cons_succ, i64_w, i32_w]
                rfl
              refine pure_ (i := 4) (N := some 22) (v := ?_) (a' := ?_) #[true, true, true, true, true, false, true, true, false, false] rfl rfl (any_of HT_.out (by kernel_rfl)) (fun _ _ _ h => h) (Or.inl ⟨by rfl, ?_⟩) ?_ ?_
              rotate_left
              · intro w'
                go_simp
                with_reducible rfl
              rotate_left
              · simp only [Act.put, List.setIfInBounds_toArray, List.set_cons_zero, List.set_cons_succ, i64_w, i32_w]
                rfl
              refine pure_ (i := 5) (N := some 23) (v := ?_) (a' := ?_) #[true, true, true, true, true, true, true, true, false, false] rfl rfl (any_of HT_.out (by kernel_rfl)) (fun _ _ _ h => h) (Or.inl ⟨by rfl, ?_⟩) ?_ ?_
              rotate_left
              · intro w'
                go_simp
                with_reducible rfl
              rotate_left
              · simp only [Act.put, List.setIfInBounds_toArray, List.set_cons_zero, List.set_cons_succ, i64_w, i32_w]
                rfl
              refine pure_ (i := 8) (N := some 26) (v := ?_) (a' := ?_) #[true, true, true, true, true, true, true, true, true, false] rfl rfl (any_of HT_.out (by kernel_rfl)) (fun _ _ _ h => h) (Or.inl ⟨by rfl, ?_⟩) ?_ ?_
              rotate_left
              · intro w'
                go_simp
                with_reducible rfl
              rotate_left
              · simp only [Act.put, List.setIfInBounds_toArray, List.set_cons_zero, List.set_cons_succ, i64_w, i32_w]
                rfl
              refine pure_ (i := 9) (N := some 2) (v := ?_) (a' := ?_) #[true, true, true, true, true, true, true, true, true, true] rfl rfl (any_of HT_.out (by kernel_rfl)) (fun _ _ _ h => h) (Or.inl ⟨by rfl, ?_⟩) ?_ ?_
              rotate_left
              · intro w'
                go_simp
                with_reducible rfl
              rotate_left
              · simp only [Act.put, List.setIfInBounds_toArray, List.set_cons_zero, List.set_cons_succ, i64_w, i32_w]
                rfl
              refine done_ (done_of HT_.out (by kernel_rfl)) ?_
              try go_wp2
              go_ret
              exact ⟨by first | rfl | (simp [errW_none, errW_some] <;> rfl) | (simp [*, errW_none, errW_some] <;> rfl), by repeat (first | (with_reducible first | exact HB.out | apply below_alloc | apply pw_below_drewN | apply below_drew1) | exact HB.out)⟩
            · rw [if_neg c19] at H
              exact absurd H (by simp)
          · rw [if_neg c18] at H
            exact absurd H (by simp)
        · rw [if_neg c17] at H
          exact absurd H (by simp)
      · rw [if_neg c16] at H
        exact absurd H (by simp)
  · replace c3 := Bool.eq_false_iff.mpr c3
    subst c3
    have H1 : (some (⟨#[]⟩ : ByteArray)) = some r := by rw [if_neg (show ¬ (false = true) by decide)] at H; exact H
    clear H
    have H := H1
    clear H1
    obtain rfl := Option.some.inj H
    go_enter Tryz.func131, Tryz.ntmps131
    go_wp2_with (first | ((with_reducible refine gate_callee (f := 108) rfl ?_); refine goesL_ (some 7) rfl rfl Tryz.func108 (by kernel_rfl) rfl #[.int .i64 a0] rfl (by (try simp only [List.map_toArray, List.map_cons, List.map_nil]); first | done | rfl | (simp only [List.length_drop, List.length_take]; rfl)) ?_; (with_reducible refine (money_Right.calls a0 false _ A2.out).mono ?_); rintro e w' ⟨rfl, ⟨nd, rfl⟩⟩; refine ⟨_, rfl, ?_⟩))
    go_ret
    exact ⟨by first | rfl | (simp [errW_none, errW_some] <;> rfl) | (simp [*, errW_none, errW_some] <;> rfl), by repeat (first | (with_reducible first | exact HB.out | apply below_alloc | apply pw_below_drewN | apply below_drew1) | exact HB.out)⟩
def dec_Number.f (a0 : Int) : Option (ByteArray) := (strconv_Itoa.f a0).bind fun t107 => (some t107)
set_option maxHeartbeats 8000000 in
set_option maxRecDepth 100000 in
theorem dec_Number.calls (a0 : Int) (r : ByteArray) (w : World) (hLd : LaidW w) (h : dec_Number.f a0 = some r) :
    Calls Tryz.prog 133 #[.int .i64 a0] w fun e w' => e = .returned (.string r) ∧ Below w.heap.size w w' := by
  have HLd := Aside0.mk hLd
  clear hLd
  have HB := Aside0.mk (Below.refl w.heap.size w)
  have H : ((strconv_Itoa.f a0).bind fun t107 => (some t107)) = some r := h
  clear h
  replace H := Option.bind_eq_some_iff.mp H
  obtain ⟨t107, A20, H⟩ := H
  replace H : (some t107) = some r := H
  have A2 := Aside0.mk A20
  clear A20
  obtain rfl := Option.some.inj H
  go_enter Tryz.func133, Tryz.ntmps133
  go_wp2_with (first | ((with_reducible refine gate_callee (f := 149) rfl ?_); refine goesL_ (some 4) rfl rfl Tryz.func149 (by kernel_rfl) rfl #[.int .i64 a0] rfl (by (try simp only [List.map_toArray, List.map_cons, List.map_nil]); first | done | rfl | (simp only [List.length_drop, List.length_take]; rfl)) ?_; (with_reducible refine (strconv_Itoa.calls a0 t107 _ ?side1 A2.out).mono ?_); (case side1 => exact LaidW.below HLd.out (by repeat (first | (with_reducible first | exact HB.out | apply below_alloc | apply pw_below_drewN | apply below_drew1) | exact HB.out))); rintro e w3 ⟨rfl, hb⟩; refine ⟨_, rfl, ?_⟩; have n0_ := Aside0.mk (below_step (by repeat (first | (with_reducible first | exact HB.out | apply below_alloc | apply pw_below_drewN | apply below_drew1) | exact HB.out)) hb); clear HB; have HB := n0_; clear n0_; (try clear hb); (try clear hb2); (try clear hk); (try clear hi)))
  go_ret
  exact ⟨by first | rfl | (simp [errW_none, errW_some] <;> rfl) | (simp [*, errW_none, errW_some] <;> rfl), by repeat (first | (with_reducible first | exact HB.out | apply below_alloc | apply pw_below_drewN | apply below_drew1) | exact HB.out)⟩
def hagglerlaw07_pick.f (a0 : Int) (a1 : Int) : Option (Int) := if a0 < 0 then (if a1 = 0 then (none) else (some (Int.tmod (wrap64 (-(wrap64 (a0 + 1)))) a1))) else (if a1 = 0 then (none) else (some (Int.tmod a0 a1)))
set_option maxHeartbeats 8000000 in
set_option maxRecDepth 100000 in
theorem hagglerlaw07_pick.calls (a0 : Int) (a1 : Int) (r : Int) (w : World) (h : hagglerlaw07_pick.f a0 a1 = some r) :
    Calls Tryz.prog 93 #[.int .i64 a0, .int .i64 a1] w fun e w' => e = .returned (.int .i64 r) ∧ Drawn0 w w' := by
  have H : (if a0 < 0 then (if a1 = 0 then (none) else (some (Int.tmod (wrap64 (-(wrap64 (a0 + 1)))) a1))) else (if a1 = 0 then (none) else (some (Int.tmod a0 a1)))) = some r := h
  clear h
  by_cases c3 : a0 < 0
  · rw [if_pos c3] at H
    have c3b0 : decide (a0 < 0) = true := decide_eq_true c3
    clear c3
    by_cases c4 : a1 = 0
    · rw [if_pos c4] at H
      exact absurd H (by simp)
    · rw [if_neg c4] at H
      have c4b0 : (a1 == 0) = false := beq_eq_false_iff_ne.mpr c4
      have c4b1 : (a1 != 0) = true := bne_iff_ne.mpr c4
      obtain rfl := Option.some.inj H
      go_enter Tryz.func93, Tryz.ntmps93
      go_wp2
      go_ret
      exact ⟨by first | rfl | (simp; done) | (simp [*]; done), by repeat (first | exact Drawn0.refl _ | apply Drawn0.step)⟩
  · rw [if_neg c3] at H
    have c3b0 : decide (a0 < 0) = false := decide_eq_false c3
    clear c3
    by_cases c5 : a1 = 0
    · rw [if_pos c5] at H
      exact absurd H (by simp)
    · rw [if_neg c5] at H
      have c5b0 : (a1 == 0) = false := beq_eq_false_iff_ne.mpr c5
      have c5b1 : (a1 != 0) = true := bne_iff_ne.mpr c5
      obtain rfl := Option.some.inj H
      go_enter Tryz.func93, Tryz.ntmps93
      go_wp2
      go_ret
      exact ⟨by first | rfl | (simp; done) | (simp [*]; done), by repeat (first | exact Drawn0.refl _ | apply Drawn0.step)⟩
end Go.Proofs.YtgpkppohfodhdaaGreatDoor.P
