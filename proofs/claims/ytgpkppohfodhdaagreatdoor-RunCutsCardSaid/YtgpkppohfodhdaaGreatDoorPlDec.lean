import Derived.Lib.ItoaNum
import Derived.Lib.AtoiAll
import Derived.Lib.Strings
import Derived.Lib.IndexMore
set_option linter.unusedVariables false
set_option linter.unusedSimpArgs false
namespace Go.Proofs.YtgpkppohfodhdaaGreatDoor.Pl
open Go
def B (l : List UInt8) : ByteArray := ⟨l.toArray⟩
theorem B_toList' (s : ByteArray) : B s.data.toList = s := by simp [B]
theorem B_size (l : List UInt8) : (B l).size = l.length := by simp [B, ByteArray.size]
theorem B_append (l r : List UInt8) : B l ++ B r = B (l ++ r) := by
  apply ByteArray.ext
  simp [B]
def dig (n : Nat) : UInt8 := UInt8.ofNat (48 + n % 10)
theorem dig_toNat (n : Nat) : (dig n).toNat = 48 + n % 10 := by
  simp only [dig, UInt8.toNat_ofNat']
  omega
def digF : Nat → Nat → List UInt8
  | 0, _ => []
  | f + 1, n => if n < 10 then [dig n] else digF f (n / 10) ++ [dig n]
def digs (n : Nat) : List UInt8 := digF 20 n
theorem digF_eq : ∀ (f n : Nat), 1 ≤ f → n < 10 ^ f → digF f n = Lib.decDigits n
  | 0, n, h, _ => absurd h (by omega)
  | f + 1, n, _, hn => by
    rw [digF, Lib.decDigits]
    by_cases h : n < 10
    · rw [if_pos h, dif_pos h]
      simp only [dig]
      rw [Nat.mod_eq_of_lt h]
    · rw [if_neg h, dif_neg h, digF_eq f (n / 10) ?_ ?_]
      · rfl
      · rcases f with _ | f
        · simp at hn; omega
        · omega
      · rw [Nat.pow_succ] at hn
        omega
theorem digs_eq (n : Nat) (h : n < 10 ^ 20) : Lib.decDigits n = digs n := (digF_eq 20 n (by omega) h).symm
theorem digF_more : ∀ (f n : Nat), 1 ≤ f → n < 10 ^ f → digF (f + 1) n = digF f n := fun f n h hn => by
  rw [digF_eq f n h hn, digF_eq (f + 1) n (by omega) (by rw [Nat.pow_succ]; omega)]
theorem digs_rec (n : Nat) (h : n < 10 ^ 20) : digs n = if n < 10 then [dig n] else digs (n / 10) ++ [dig n] := by
  by_cases h1 : n < 10
  · rw [if_pos h1, digs, digF, if_pos h1]
  · rw [if_neg h1, digs, digF, if_neg h1, digs, digF_more 19 (n / 10) (by omega) (by omega)]
theorem digs_one {n : Nat} (h : n < 10) : digs n = [dig n] := by rw [digs, digF, if_pos h]
def intL (n : Int) : List UInt8 := if n < 0 then 45 :: digs n.natAbs else digs n.toNat
theorem intL_eq (n : Int) (h0 : -9223372036854775808 ≤ n) (h1 : n ≤ 9223372036854775807) : Lib.itoa n = intL n := by
  unfold Lib.itoa intL
  split
  · rw [digs_eq _ (by omega)]
  · rw [digs_eq _ (by omega)]
def textL (a : Int) : List UInt8 :=
  if -1000000000000 ≤ a ∧ a ≤ 1000000000000 then (if a < 0 then [45] else []) ++ digs (a.natAbs / 100) ++ [46, dig (a.natAbs / 10), dig a.natAbs] else []
def okA (a : Int) : Prop := -1000000000000 ≤ a ∧ a ≤ 1000000000000
instance (a : Int) : Decidable (okA a) := by unfold okA; exact inferInstance
theorem textL_ok {a : Int} (h : okA a) : textL a = (if a < 0 then [45] else []) ++ digs (a.natAbs / 100) ++ [46, dig (a.natAbs / 10), dig a.natAbs] := by
  unfold textL
  exact if_pos h
theorem textL_no {a : Int} (h : ¬ okA a) : textL a = [] := by
  unfold textL
  exact if_neg h
end Go.Proofs.YtgpkppohfodhdaaGreatDoor.Pl
