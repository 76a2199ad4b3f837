/- The plain law behind DecForth: Text undoes Parse; no amount has two texts. -/
import Derived.Test.YtglbgfjmfccemaaDoorDecF
set_option linter.unusedVariables false
set_option linter.unusedSimpArgs false
namespace Go.Proofs.YtglbgfjmfccemaaDoor.Pure
open Go.RowKit Go.Proofs.YtglbgfjmfccemaaDoor.Q Go.Proofs.YtglbgfjmfccemaaDoor.Pl Go.Proofs.YtglbgfjmfccemaaDoor.DecF Go.Proofs.YtglbgfjmfccemaaDoorW.PrintWords Go.Proofs.YtglbgfjmfccemaaDoorW.PrintMore

theorem round (k : Nat) (ok : Bool) (ys : List ByteArray) (n i : Int) (hi : 0 ≤ i) (hn : i < n) (hl : n = ys.length) (hb : i < 1000) (hs : (rdOf ByteArray.empty ys i).size ≤ 281474976710656) :
    hagglerlaw02_DecForth.l0 (k + 3) ok ys n i = hagglerlaw02_DecForth.l0 (k + 1) ok ys n (i + 1) := by
  obtain ⟨y, hy⟩ := B_of (rdOf ByteArray.empty ys i)
  have hs' : y.length ≤ 281474976710656 := by rw [← B_size, ← hy]; exact hs
  have key : hagglerlaw02_DecForth.j1 (k + 2) ok (B y) ys n i false = hagglerlaw02_DecForth.l0 (k + 1) ok ys n (i + 1) := by
    rw [hagglerlaw02_DecForth.j1, if_neg (by simp), Count_eq _ _ (by rw [B_size]; exact hs') (by omega) (by omega), B_toList]
    simp only [Option.bind_some]
    rw [w64 (by omega) (by omega)]
    rcases countL_cases y 1000000000000 with e | ⟨m, e, hm, h1, h2⟩
    · rw [e, if_neg (by omega)]
    · rw [e, if_pos (by omega), Number_eq _ (by omega) (by omega)]
      simp only [Option.bind_some]
      have hi : intL m = y := by
        unfold intL
        rw [if_neg (by omega), Int.toNat_natCast, hm]
      rw [hi, if_pos rfl]
  rw [hagglerlaw02_DecForth.l0, if_pos hn, if_pos hi, if_pos (by omega), hy, Parse_eq _ hs']
  simp only [Option.bind_some]
  rcases parseL_cases y with e | ⟨a, ha, rfl, e⟩
  · rw [e]
    simp only []
    rw [if_neg (by omega)]
    simp only [if_true]
    exact key
  · rw [e]
    simp only [if_true]
    rw [Text_eq]
    simp only [Option.bind_some, if_true]
    exact key
theorem DecForth : hagglerlaw02_DecForth.Pure := by
  intro a0 a1 a2 a3 h0 h1 h2 h3
  refine ⟨7, ?_⟩
  obtain ⟨x, hx, hok⟩ := Amount_eq h1
  unfold hagglerlaw02_DecForth.f
  rw [awake_eq 6, hx]
  simp only [Option.bind_some]
  rw [Text_eq]
  simp only [Option.bind_some]
  have ht := text_size (x := x)
  obtain ⟨t, htt⟩ : ∃ t, t = textL x := ⟨_, rfl⟩
  obtain ⟨m, rfl⟩ := B_of a3
  rw [← htt] at ht ⊢
  rw [B_size] at h3
  simp only [B_size]
  rw [w64 (by omega) (by omega)]
  obtain ⟨hp, hp0, hp1⟩ := pick_eq h2 (n := (t.length : Int) + 1) (by omega)
  rw [hp]
  simp only [Option.bind_some]
  obtain ⟨c, hc⟩ : ∃ c, c = pickL a2 ((t.length : Int) + 1) := ⟨_, rfl⟩
  rw [← hc] at hp0 hp1 ⊢
  have hmn : 0 ≤ mn (wrap64 (c + (m.length : Int))) (t.length : Int) ∧ mn (wrap64 (c + (m.length : Int))) (t.length : Int) ≤ t.length := by
    rw [w64 (by omega) (by omega)]
    unfold mn
    split <;> omega
  obtain ⟨d, hd⟩ : ∃ d, d = mn (wrap64 (c + (m.length : Int))) (t.length : Int) := ⟨_, rfl⟩
  rw [← hd] at hmn ⊢
  simp only [B_extract, B_append, B_size]
  have l1 : ∀ i j : Nat, (List.take (j - i) (List.drop i t)).length ≤ t.length := by
    intro i j
    rw [List.length_take, List.length_drop]
    omega
  have l2 := l1 0 c.toNat
  have l3 := l1 d.toNat t.length
  have l4 := l1 c.toNat t.length
  rw [if_pos (by omega), if_pos (by omega), if_pos (by omega), if_pos (by omega), if_pos (by omega), if_pos (by rw [List.length_append]; omega), if_pos (by rw [List.length_append]; omega)]
  rw [round 4 _ _ _ 0 (by omega) (by simp) rfl (by omega) (by simp [rdOf]; omega)]
  rw [round 2 _ _ _ _ (by omega) (by simp) rfl (by omega) (by simp [rdOf, B_size]; omega)]
  rw [round 0 _ _ _ _ (by omega) (by simp) rfl (by omega) (by simp [rdOf, B_size]; omega)]
  rw [hagglerlaw02_DecForth.l0, if_neg (by simp)]
end Go.Proofs.YtglbgfjmfccemaaDoor.Pure
