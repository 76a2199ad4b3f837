/- The plain law behind DecBack: Parse undoes Text, Count undoes Number. -/
import Derived.Test.YtglbgfjmfccemaaDoorDecF
set_option linter.unusedVariables false
set_option linter.unusedSimpArgs false
namespace Go.Proofs.YtglbgfjmfccemaaDoor.Pure
open Go.RowKit Go.Proofs.YtglbgfjmfccemaaDoor.Q Go.Proofs.YtglbgfjmfccemaaDoor.Pl Go.Proofs.YtglbgfjmfccemaaDoor.DecF Go.Proofs.YtglbgfjmfccemaaDoorW.PrintWords Go.Proofs.YtglbgfjmfccemaaDoorW.PrintMore

theorem round (k : Nat) (a1 : Int) (ok : Bool) (xs : List Int) (n i : Int) (hi : 0 ≤ i) (hn : i < n) (hl : n = xs.length) (hx : okA (rd xs i)) (hb : i < 1000) :
    hagglerlaw02_DecBack.l0 (k + 2) a1 ok xs n i = hagglerlaw02_DecBack.l0 (k + 1) a1 ok xs n (i + 1) := by
  rw [hagglerlaw02_DecBack.l0, if_pos hn, if_pos hi, if_pos (by omega), Text_eq]
  simp only [Option.bind_some]
  rw [Parse_eq _ (by have := text_size (x := rd xs i); omega), parseL_text hx]
  simp only [Option.bind_some, if_true]
  rw [w64 (by omega) (by omega)]
theorem DecBack : hagglerlaw02_DecBack.Pure := by
  intro a0 a1 h0 h1
  refine ⟨4, ?_⟩
  obtain ⟨x, hx, hok⟩ := Amount_eq h0
  obtain ⟨hp, hp0, hp1⟩ := pick_eq h0 (n := 300) (by omega)
  obtain ⟨hq, hq0, hq1⟩ := pick_eq h1 (n := 1000000000001) (by omega)
  unfold hagglerlaw02_DecBack.f
  rw [awake_eq 3, hx, hp]
  simp only [Option.bind_some]
  have hok' := hok
  unfold okA at hok'
  rw [w64 (by omega) (by omega), w64 (by omega) (by omega)]
  rw [round 2 _ _ _ _ 0 (by omega) (by simp) rfl (by simpa [rd] using hok) (by omega)]
  rw [round 1 _ _ _ _ _ (by omega) (by simp) rfl (by simp [rd]; unfold okA; omega) (by omega)]
  rw [round 0 _ _ _ _ _ (by omega) (by simp) rfl (by simp [rd]; unfold okA; omega) (by omega)]
  rw [hagglerlaw02_DecBack.l0, if_neg (by simp), hq]
  obtain ⟨n, hn⟩ : ∃ n : Nat, (n : Int) = pickL a1 1000000000001 := ⟨(pickL a1 1000000000001).toNat, by omega⟩
  rw [← hn] at hq0 hq1 ⊢
  have hi : intL n = digs n := by
    unfold intL
    rw [if_neg (by omega), Int.toNat_natCast]
  have hl := digs_len n
  simp only [Option.bind_some, if_true]
  rw [Number_eq _ (by omega) (by omega), hi]
  simp only [Option.bind_some]
  rw [Count_eq _ _ (by rw [B_size]; omega) (by omega) (by omega), B_toList, countL_digs _ _ (by omega) (by omega)]
  simp only [Option.bind_some, if_true]
  rw [Count_eq _ _ (by rw [B_size]; omega) (by omega) (by omega), B_toList, countL_digs _ _ (by omega) (by omega)]
  simp only [Option.bind_some, if_true]
  rw [w64 (by omega) (by omega), Count_eq _ _ (by rw [B_size]; omega) (by omega) (by omega), B_toList, countL_big (.inl (by rw [val_digs _ (by omega)]; omega))]
  rfl
end Go.Proofs.YtglbgfjmfccemaaDoor.Pure
