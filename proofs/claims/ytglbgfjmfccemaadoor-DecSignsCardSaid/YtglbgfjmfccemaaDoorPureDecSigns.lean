/- The plain law behind DecSigns: an amount's text with a sign ahead is that of the other sign, but of 0. -/
import Derived.Test.YtglbgfjmfccemaaDoorDecF
set_option linter.unusedVariables false
set_option linter.unusedSimpArgs false
namespace Go.Proofs.YtglbgfjmfccemaaDoor.Pure
open Go.RowKit Go.Proofs.YtglbgfjmfccemaaDoor.Q Go.Proofs.YtglbgfjmfccemaaDoor.Pl Go.Proofs.YtglbgfjmfccemaaDoor.DecF Go.Proofs.YtglbgfjmfccemaaDoorW.PrintWords Go.Proofs.YtglbgfjmfccemaaDoorW.PrintMore

theorem DecSigns : hagglerlaw02_DecSigns.Pure := by
  intro a0 ha
  refine ⟨1, ?_⟩
  obtain ⟨hp, hp0, hp1⟩ := pick_eq ha (n := 1000000000000) (by omega)
  unfold hagglerlaw02_DecSigns.f
  rw [awake_eq 0, hp]
  simp only [Option.bind_some]
  obtain ⟨x, hx⟩ : ∃ x, x = 1 + pickL a0 1000000000000 := ⟨_, rfl⟩
  have hx1 : 1 ≤ x ∧ x ≤ 1000000000000 := by omega
  have hok : okA x := by unfold okA; omega
  have hokn : okA (-x) := by unfold okA; omega
  have hsz := text_size (x := x)
  have hsz0 := text_size (x := 0)
  rw [w64 (x := 1 + pickL a0 1000000000000) (by omega) (by omega), ← hx, w64 (x := -x) (by omega) (by omega)]
  simp only [Text_eq, Option.bind_some]
  rw [if_pos (by rw [B_size]; omega)]
  rw [show (⟨#[45]⟩ : ByteArray) = B [45] from rfl, show (⟨#[45, 45]⟩ : ByteArray) = B [45, 45] from rfl]
  simp only [B_append]
  rw [Parse_eq _ (by simp; omega) 0, Parse_eq _ (by simp; omega) 0, Parse_eq _ (by simp; omega) 0]
  simp only [Option.bind_some, B_size]
  rw [if_pos (by omega), if_pos (by omega)]
  have e1 : parseL (45 :: textL x) = (-x, 0) := by rw [← textL_neg hok hx1.1]; exact parseL_text hokn
  have e2 : parseL (45 :: 45 :: textL x) = (0, 20) := by
    refine parse_no fun b hb h => ?_
    obtain ⟨h1, h2⟩ := text_head45 hb h.symm
    have h3 : okA (-b) := by unfold okA at hb ⊢; omega
    have := (head_text h3).1 (by rw [← h2]; rfl)
    omega
  have e3 : parseL (45 :: textL 0) = (0, 20) := by
    refine parse_no fun b hb h => ?_
    obtain ⟨h1, h2⟩ := text_head45 hb h.symm
    have h3 : okA (-b) := by unfold okA at hb ⊢; omega
    have := textL_inj (by decide) h3 h2
    omega
  simp only [List.cons_append, List.nil_append, e1, e2, e3]
  simp only [if_true, B_tl, textL_neg hok hx1.1]
  rw [Number_eq _ (by omega) (by omega), Number_eq _ (by omega) (by omega)]
  simp only [Option.bind_some]
  have hn1 : intL (-x) = 45 :: digs x.toNat := by
    unfold intL
    rw [if_pos (by omega)]
    congr 2
    omega
  have hn2 : intL x = digs x.toNat := by
    unfold intL
    rw [if_neg (by omega)]
  have hl := digs_len x.toNat
  rw [hn1, hn2, B_append, B_tl, B_tl, B_size, if_pos (by omega)]
  simp
end Go.Proofs.YtglbgfjmfccemaaDoor.Pure
