/- What dec.Text and dec.Number, printed, come to, in plain words: texts and numerals of PlDec. -/
import Derived.Test.YtmfdkhnfjbgbhaaDoorPx1
import Derived.KernelRfl
set_option linter.unusedVariables false
set_option linter.unusedSimpArgs false
namespace Go.Proofs.YtmfdkhnfjbgbhaaDoor.DecT
open Go.RowKit Go.Proofs.YtmfdkhnfjbgbhaaDoor.P Go.Proofs.YtmfdkhnfjbgbhaaDoor.Pl Go.Proofs.YtmfdkhnfjbgbhaaDoorW.PrintWords Go.Proofs.YtmfdkhnfjbgbhaaDoorW.PrintMore

theorem digs_len (n : Nat) : (digs n).length ≤ 20 := by
  have hp : ∀ (f k : Nat), (digF f k).length ≤ f := by
    intro f
    induction f with
    | zero => intro k; simp [digF]
    | succ f ih =>
      intro k
      rw [digF]
      split
      · simp
      · have := ih (k / 10); simp; omega
  exact hp 20 n
theorem digs_three (r : Nat) (h : r < 100) : digs (100 + r) = [49, dig (r / 10), dig r] := by
  rw [digs_rec _ (by omega), if_neg (by omega), digs_rec _ (by omega), if_neg (by omega), digs_one (by omega)]
  have e1 : dig ((100 + r) / 10 / 10) = 49 := by
    apply UInt8.toNat_inj.1
    rw [dig_toNat]
    simp
    omega
  have e2 : dig ((100 + r) / 10) = dig (r / 10) := by
    apply UInt8.toNat_inj.1
    rw [dig_toNat, dig_toNat]
    omega
  have e3 : dig (100 + r) = dig r := by
    apply UInt8.toNat_inj.1
    rw [dig_toNat, dig_toNat]
    omega
  rw [e1, e2, e3]
  rfl
end Go.Proofs.YtmfdkhnfjbgbhaaDoor.DecT
