import Derived.Test.YtgpkppohfodhdaaGreatDoorPx1
import Derived.KernelRfl
set_option linter.unusedVariables false
set_option linter.unusedSimpArgs false
namespace Go.Proofs.YtgpkppohfodhdaaGreatDoor.DecT
open Go.RowKit Go.Proofs.YtgpkppohfodhdaaGreatDoor.P Go.Proofs.YtgpkppohfodhdaaGreatDoor.Pl Go.Proofs.YtgpkppohfodhdaaGreatDoorW.PrintWords Go.Proofs.YtgpkppohfodhdaaGreatDoorW.PrintMore
theorem w64 {x : Int} (h0 : -9223372036854775808 ≤ x) (h1 : x ≤ 9223372036854775807) : wrap64 x = x := by unfold wrap64; omega
theorem tmod_nn {a b : Int} (h : 0 ≤ a) : Int.tmod a b = a % b := Int.tmod_eq_emod_of_nonneg h
theorem tdiv_nn {a b : Int} (h : 0 ≤ a) : Int.tdiv a b = a / b := Int.tdiv_eq_ediv_of_nonneg h
theorem B_extract (l : List UInt8) (i j : Nat) : (B l).extract i j = B ((l.drop i).take (j - i)) := by
  apply ByteArray.ext
  rw [ByteArray.data_extract]
  simp [B]
theorem digs_len (n : Nat) : (digs n).length ≤ 20 := by
  have hp : ∀ (f k : Nat), (digF f k).length ≤ f := by
    intro f
    induction f with
    | zero => intro k; simp [digF]
    | succ f ih =>
      intro k
      rw [digF]
      split
      · simp
      · have := ih (k / 10); simp; omega
  exact hp 20 n
theorem digs_three (r : Nat) (h : r < 100) : digs (100 + r) = [49, dig (r / 10), dig r] := by
  rw [digs_rec _ (by omega), if_neg (by omega), digs_rec _ (by omega), if_neg (by omega), digs_one (by omega)]
  have e1 : dig ((100 + r) / 10 / 10) = 49 := by
    apply UInt8.toNat_inj.1
    rw [dig_toNat]
    simp
    omega
  have e2 : dig ((100 + r) / 10) = dig (r / 10) := by
    apply UInt8.toNat_inj.1
    rw [dig_toNat, dig_toNat]
    omega
  have e3 : dig (100 + r) = dig r := by
    apply UInt8.toNat_inj.1
    rw [dig_toNat, dig_toNat]
    omega
  rw [e1, e2, e3]
  rfl
theorem Itoa_nat (n : Nat) (h : n ≤ 9223372036854775807) : strconv_Itoa.f (n : Int) = some (B (digs n)) := by
  unfold strconv_Itoa.f intL
  rw [if_pos (by omega), if_neg (by omega), Int.toNat_natCast]
theorem Number_eq (n : Int) (h0 : -9223372036854775808 ≤ n) (h1 : n ≤ 9223372036854775807) : dec_Number.f n = some (B (intL n)) := by
  unfold dec_Number.f strconv_Itoa.f
  rw [if_pos ⟨h0, h1⟩]
  rfl
theorem Right_eq (a : Int) : money_Right.f a = some (decide (okA a)) := by
  unfold money_Right.f money_within_int.f okA
  by_cases h : a ≥ -1000000000000
  · rw [if_pos h]
    simp [h]
  · rw [if_neg h]
    simp [h]
theorem Text_eq (a : Int) : dec_Text.f a = some (B (textL a)) := by
  unfold dec_Text.f
  rw [Right_eq]
  simp only [Option.bind_some]
  by_cases h : okA a
  · rw [if_pos (decide_eq_true h), textL_ok h]
    obtain ⟨n, hn⟩ : ∃ n : Nat, n = a.natAbs := ⟨_, rfl⟩
    have hb : n ≤ 1000000000000 := by unfold okA at h; omega
    have e1 : wrap64 (100 + Int.tmod (n : Int) 100) = ((100 + n % 100 : Nat) : Int) := by
      rw [tmod_nn (by omega), w64 (by omega) (by omega)]
      omega
    have e2 : wrap64 (Int.tdiv (n : Int) 100) = ((n / 100 : Nat) : Int) := by
      rw [tdiv_nn (by omega), w64 (by omega) (by omega)]
      omega
    have l1 := digs_len (n / 100)
    have e3 : (B (digs (100 + n % 100))).extract 1 (B (digs (100 + n % 100))).size = B [dig (n / 10), dig n] := by
      rw [digs_three _ (by omega), B_extract, B_size]
      have e4 : dig (n % 100 / 10) = dig (n / 10) := by
        apply UInt8.toNat_inj.1
        rw [dig_toNat, dig_toNat]
        omega
      have e5 : dig (n % 100) = dig n := by
        apply UInt8.toNat_inj.1
        rw [dig_toNat, dig_toNat]
        omega
      rw [e4, e5]
      rfl
    have s1 : ((B (digs (100 + n % 100))).size : Int) = 3 := by rw [digs_three _ (by omega), B_size]; rfl
    rw [← hn]
    by_cases hneg : a < 0
    · have e0 : wrap64 (-a) = (n : Int) := by rw [w64 (by omega) (by omega)]; omega
      rw [if_pos hneg, if_pos hneg, e0, e1, e2, Itoa_nat _ (by omega), Itoa_nat _ (by omega)]
      simp only [Option.bind_some]
      rw [e3, s1]
      rw [show (⟨#[45]⟩ : ByteArray) = B [45] from rfl, show (⟨#[46]⟩ : ByteArray) = B [46] from rfl, B_append, B_append, B_append]
      rw [if_pos (by rw [B_size]; omega), if_pos (by rw [B_size]; simp; omega), if_pos (by omega), if_pos (by rw [B_size, B_size]; simp; omega)]
      simp
    · have e0 : a = (n : Int) := by omega
      rw [if_neg hneg, if_neg hneg, e0, e1, e2, Itoa_nat _ (by omega), Itoa_nat _ (by omega)]
      simp only [Option.bind_some]
      rw [e3, s1]
      rw [show (⟨#[]⟩ : ByteArray) = B [] from rfl, show (⟨#[46]⟩ : ByteArray) = B [46] from rfl, B_append, B_append, B_append]
      rw [if_pos (by rw [B_size]; omega), if_pos (by rw [B_size]; simp; omega), if_pos (by omega), if_pos (by rw [B_size, B_size]; simp; omega)]
      simp
  · rw [if_neg (by simpa using h), textL_no h]
    rfl
end Go.Proofs.YtgpkppohfodhdaaGreatDoor.DecT
