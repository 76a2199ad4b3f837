/- The plain law behind DecOrder: of as long texts the lesser amount's stands ahead. -/
import Derived.Test.YtglbgfjmfccemaaDoorDecF
set_option linter.unusedVariables false
set_option linter.unusedSimpArgs false
namespace Go.Proofs.YtglbgfjmfccemaaDoor.Pure
open Go.RowKit Go.Proofs.YtglbgfjmfccemaaDoor.Q Go.Proofs.YtglbgfjmfccemaaDoor.Pl Go.Proofs.YtglbgfjmfccemaaDoor.DecF Go.Proofs.YtglbgfjmfccemaaDoorW.PrintWords Go.Proofs.YtglbgfjmfccemaaDoorW.PrintMore
namespace OrdL
theorem irrefl : ∀ s : List UInt8, Op.bytesLess s s = false
  | [] => rfl
  | c :: s => by simp [Op.bytesLess, irrefl s]
theorem prefix_ : ∀ (p s t : List UInt8), Op.bytesLess (p ++ s) (p ++ t) = Op.bytesLess s t
  | [], s, t => rfl
  | c :: p, s, t => by simp [Op.bytesLess, prefix_ p s t]
theorem head_ {a b : UInt8} (h : a.toNat < b.toNat) (s t : List UInt8) : Op.bytesLess (a :: s) (b :: t) = true := by
  have : a < b := UInt8.lt_iff_toNat_lt.2 h
  simp [Op.bytesLess, this]
theorem digs_less : ∀ (k n m : Nat) (r r' : List UInt8), m ≤ k → n < m → m < 10 ^ 20 →
    (digs n).length ≤ (digs m).length ∧ ((digs n).length = (digs m).length → Op.bytesLess (digs n ++ r) (digs m ++ r') = true) := by
  intro k
  induction k with
  | zero => intro n m r r' h1 h2 h3; omega
  | succ k ih =>
    intro n m r r' h1 h2 h3
    rw [digs_rec n (by omega), digs_rec m h3]
    by_cases hm : m < 10
    · rw [if_pos hm, if_pos (by omega)]
      exact ⟨by simp, fun _ => head_ (by rw [dig_toNat, dig_toNat]; omega) _ _⟩
    · rw [if_neg hm]
      have hp : 0 < (digs (m / 10)).length := List.length_pos_iff.2 (digs_ne _)
      by_cases hn : n < 10
      · rw [if_pos hn]
        exact ⟨by simp only [List.length_append, List.length_cons, List.length_nil]; omega, fun e => by simp only [List.length_append, List.length_cons, List.length_nil] at e; omega⟩
      · rw [if_neg hn]
        rcases Nat.lt_or_ge (n / 10) (m / 10) with h4 | h4
        · obtain ⟨i1, i2⟩ := ih (n / 10) (m / 10) (dig n :: r) (dig m :: r') (by omega) h4 (by omega)
          refine ⟨by simp; omega, fun e => ?_⟩
          have := i2 (by simpa using e)
          simpa using this
        · have e : n / 10 = m / 10 := by omega
          rw [e]
          refine ⟨by simp, fun _ => ?_⟩
          rw [List.append_assoc, List.append_assoc, prefix_]
          exact head_ (by rw [dig_toNat, dig_toNat]; omega) _ _
theorem nonneg {x : Int} (h : okA x) (h0 : 0 ≤ x) : textL x = digs (x.natAbs / 100) ++ [46, dig (x.natAbs / 10), dig x.natAbs] := by
  rw [textL_ok h, if_neg (by omega)]
  rfl
theorem text_less {x y : Int} (hx : okA x) (hy : okA y) (h0 : 0 ≤ x) (h : x < y) :
    (textL x).length ≤ (textL y).length ∧ ((textL x).length = (textL y).length → Op.bytesLess (textL x) (textL y) = true) := by
  rw [nonneg hx h0, nonneg hy (by omega)]
  obtain ⟨n, hn⟩ : ∃ n : Nat, n = x.natAbs := ⟨_, rfl⟩
  obtain ⟨m, hm⟩ : ∃ m : Nat, m = y.natAbs := ⟨_, rfl⟩
  rw [← hn, ← hm]
  have hnm : n < m := by omega
  have hb : m ≤ 1000000000000 := by unfold okA at hy; omega
  rcases Nat.lt_or_ge (n / 100) (m / 100) with h1 | h1
  · obtain ⟨i1, i2⟩ := digs_less (m / 100) (n / 100) (m / 100) [46, dig (n / 10), dig n] [46, dig (m / 10), dig m] (Nat.le_refl _) h1 (by omega)
    exact ⟨by simp; omega, fun e => i2 (by simpa using e)⟩
  · have e : n / 100 = m / 100 := by omega
    rw [e]
    refine ⟨by simp, fun _ => ?_⟩
    rw [prefix_]
    rcases Nat.lt_or_ge (n / 10) (m / 10) with h2 | h2
    · have := head_ (a := dig (n / 10)) (b := dig (m / 10)) (by rw [dig_toNat, dig_toNat]; omega) [dig n] [dig m]
      simpa [Op.bytesLess] using this
    · have e2 : n / 10 = m / 10 := by omega
      rw [e2]
      have := head_ (a := dig n) (b := dig m) (by rw [dig_toNat, dig_toNat]; omega) [] []
      simpa [Op.bytesLess] using this
end OrdL
open OrdL
theorem DecOrder : hagglerlaw02_DecOrder.Pure := by
  intro a0 a1 h0 h1
  refine ⟨1, ?_⟩
  obtain ⟨hp, hp0, hp1⟩ := pick_eq h0 (n := 1000000000001) (by omega)
  obtain ⟨hq, hq0, hq1⟩ := pick_eq h1 (n := 1000000000001) (by omega)
  unfold hagglerlaw02_DecOrder.f
  rw [awake_eq 0, hp, hq]
  simp only [Option.bind_some]
  obtain ⟨x, hx⟩ : ∃ x, x = pickL a0 1000000000001 := ⟨_, rfl⟩
  obtain ⟨y, hy⟩ : ∃ y, y = pickL a1 1000000000001 := ⟨_, rfl⟩
  rw [← hx] at hp0 hp1 ⊢
  rw [← hy] at hq0 hq1 ⊢
  have hox : okA x := by unfold okA; omega
  have hoy : okA y := by unfold okA; omega
  have h4 : ∀ z, okA z → 4 ≤ (textL z).length := by
    intro z hz
    rw [textL_ok hz]
    have := List.length_pos_iff.2 (digs_ne (z.natAbs / 100))
    split <;> simp <;> omega
  simp only [Text_eq, Option.bind_some, if_true, B_size, B_tl]
  have key : ∀ u v : Int, okA u → okA v → 0 ≤ u → u < v → ((textL u).length : Int) ≤ (textL v).length ∧ (¬ ((textL u).length : Int) < (textL v).length → Op.bytesLess (textL u) (textL v) = true) ∧ (textL u == textL v) = false := by
    intro u v hu hv hu0 huv
    obtain ⟨i1, i2⟩ := text_less hu hv hu0 huv
    refine ⟨by omega, fun h => i2 (by omega), beq_eq_false_iff_ne.2 fun e => ?_⟩
    have := textL_inj hu hv e
    omega
  rcases Int.lt_trichotomy x y with h | h | h
  · have e1 : mn x y = x := by unfold mn; rw [if_neg (by omega)]
    have e2 : mx x y = y := by unfold mx; rw [if_pos h]
    obtain ⟨k1, k2, k3⟩ := key x y hox hoy (by omega) h
    have hne : (x == y) = false := beq_eq_false_iff_ne.2 (by omega)
    have hne2 : (x != y) = true := bne_iff_ne.2 (by omega)
    have := h4 x hox
    rw [e1, e2, if_pos (by omega), if_pos k1, k3, hne, hne2]
    split
    · rfl
    · rw [k2 (by assumption)]
      rfl
  · subst h
    have e1 : mn x x = x := by unfold mn; split <;> rfl
    have e2 : mx x x = x := by unfold mx; split <;> rfl
    have := h4 x hox
    rw [e1, e2, if_pos (by omega), if_pos (by omega), if_neg (by omega), irrefl]
    simp
  · have e1 : mn x y = y := by unfold mn; rw [if_pos h]
    have e2 : mx x y = x := by unfold mx; rw [if_neg (by omega)]
    obtain ⟨k1, k2, k3⟩ := key y x hoy hox (by omega) h
    have hne : (x == y) = false := beq_eq_false_iff_ne.2 (by omega)
    have hne2 : (x != y) = true := bne_iff_ne.2 (by omega)
    have := h4 y hoy
    rw [e1, e2, if_pos (by omega), if_pos k1, k3, hne, hne2]
    split
    · rfl
    · rw [k2 (by assumption)]
      rfl
end Go.Proofs.YtglbgfjmfccemaaDoor.Pure
