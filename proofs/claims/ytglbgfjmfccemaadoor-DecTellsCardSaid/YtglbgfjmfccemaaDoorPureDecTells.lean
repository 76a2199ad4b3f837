/- The plain law behind DecTells: amounts and numbers are told, and read, as the document says. -/
import Derived.Test.YtglbgfjmfccemaaDoorRefDec
set_option linter.unusedVariables false
set_option linter.unusedSimpArgs false
namespace Go.Proofs.YtglbgfjmfccemaaDoor.Pure
open Go.RowKit Go.Proofs.YtglbgfjmfccemaaDoor.Q Go.Proofs.YtglbgfjmfccemaaDoor.Pl Go.Proofs.YtglbgfjmfccemaaDoor.DecF Go.Proofs.YtglbgfjmfccemaaDoorW.PrintWords Go.Proofs.YtglbgfjmfccemaaDoorW.PrintMore
namespace DT
theorem inner (k : Nat) (hk : 60 ≤ k) (s : ByteArray) (most at_ : Int) (more : ByteArray) (ok : Bool) (xs : List Int) (xn xi : Int) (ys : List ByteArray) (n i : Int) (hm : (Lit.int .i64 most).wf = true)
    (hi : 0 ≤ i) (hn : i < n) (hl : n = ys.length) (hb : i < 1000) (hs : (rdOf ByteArray.empty ys i).size ≤ 281474976710656) :
    hagglerlaw02_DecTells.l1 (k + 1) s most at_ more ok xs xn xi ys n i = hagglerlaw02_DecTells.l1 k s most at_ more ok xs xn xi ys n (i + 1) := by
  obtain ⟨y, hy⟩ := B_of (rdOf ByteArray.empty ys i)
  have hs' : y.length ≤ 281474976710656 := by rw [← B_size, ← hy]; exact hs
  obtain ⟨hp, hp0, hp1⟩ := pick_eq hm (n := 2000) (by omega)
  obtain ⟨hm0, hm1⟩ := wf64 hm
  have hi1 := Aside0.mk (show wrap64 (i + 1) = i + 1 from w64 (by omega) (by omega))
  have hil : i < (ys.length : Int) := by omega
  obtain ⟨k, rfl⟩ : ∃ j, k = j + 1 := ⟨k - 1, by omega⟩
  rw [hagglerlaw02_DecTells.l1, if_pos hn, if_pos hi, if_pos hil, hy, Parse_eq y hs' k, RefDec.Parse_eq' y hs' (k + 1) (by omega)]
  simp only [Option.bind_some, if_true]
  rw [Count_eq _ _ (by rw [B_size]; exact hs') hm0 hm1, RefDec.Count_eq' _ _ _ (by omega)]
  simp only [Option.bind_some, if_true]
  rw [hp]
  simp only [Option.bind_some]
  rw [Count_eq _ _ (by rw [B_size]; exact hs') (by omega) (by omega), RefDec.Count_eq' _ _ _ (by omega)]
  simp only [Option.bind_some, if_true]
  rw [hi1.out]
theorem outer (k : Nat) (hk : 80 ≤ k) (s : ByteArray) (most at_ : Int) (more : ByteArray) (ok : Bool) (xs : List Int) (n i : Int) (hm : (Lit.int .i64 most).wf = true) (ha : (Lit.int .i64 at_).wf = true) (hs : s.size ≤ 140737488351232) (hmo : more.size ≤ 140737488351232)
    (hi : 0 ≤ i) (hn : i < n) (hl : n = xs.length) (hb : i < 1000) (hx0 : -9223372036854775808 ≤ rd xs i) (hx1 : rd xs i ≤ 9223372036854775807) :
    hagglerlaw02_DecTells.l0 (k + 1) s most at_ more ok xs n i = hagglerlaw02_DecTells.l0 (k - 7) s most at_ more ok xs n (i + 1) := by
  have hi1 := Aside0.mk (show wrap64 (i + 1) = i + 1 from w64 (by omega) (by omega))
  have hil : i < (xs.length : Int) := by omega
  obtain ⟨k, rfl⟩ : ∃ j, k = j + 10 := ⟨k - 10, by omega⟩
  obtain ⟨x, hx⟩ : ∃ x, x = rd xs i := ⟨_, rfl⟩
  rw [← hx] at hx0 hx1
  rw [hagglerlaw02_DecTells.l0, if_pos hn, if_pos hi, if_pos hil, ← hx, Text_eq, RefDec.Text_eq' x _ (by omega)]
  simp only [Option.bind_some, if_true]
  rw [DecF.Number_eq x hx0 hx1, RefDec.Number_eq x hx0 hx1 _ (by omega)]
  simp only [Option.bind_some, bne_self_eq_false]
  rw [hagglerlaw02_DecTells.j1, if_neg (by simp), RefDec.Text_eq' x _ (by omega)]
  simp only [Option.bind_some]
  have ht := text_size (x := x)
  obtain ⟨t, htt⟩ : ∃ t, t = textL x := ⟨_, rfl⟩
  obtain ⟨m, rfl⟩ := B_of more
  rw [← htt] at ht ⊢
  rw [B_size] at hmo
  simp only [B_size]
  have hw1 := Aside0.mk (show wrap64 ((t.length : Int) + 1) = (t.length : Int) + 1 from w64 (by omega) (by omega))
  obtain ⟨hp, hp0, hp1⟩ := pick_eq ha (n := (t.length : Int) + 1) (by omega)
  rw [hw1.out, hp]
  simp only [Option.bind_some]
  obtain ⟨c, hc⟩ : ∃ c, c = pickL at_ ((t.length : Int) + 1) := ⟨_, rfl⟩
  rw [← hc] at hp0 hp1 ⊢
  clear hp hc
  have hmn : 0 ≤ mn (wrap64 (c + (m.length : Int))) (t.length : Int) ∧ mn (wrap64 (c + (m.length : Int))) (t.length : Int) ≤ t.length := by
    rw [w64 (by omega) (by omega)]
    unfold mn
    split <;> omega
  obtain ⟨d, hd⟩ : ∃ d, d = mn (wrap64 (c + (m.length : Int))) (t.length : Int) := ⟨_, rfl⟩
  rw [← hd] at hmn ⊢
  clear hd
  have hnl : (intL x).length ≤ 21 := by
    unfold intL
    have l1 := digs_len x.natAbs
    have l2 := digs_len x.toNat
    split
    · simp; omega
    · omega
  obtain ⟨nl, hnn⟩ : ∃ nl, nl = intL x := ⟨_, rfl⟩
  rw [RefDec.Number_eq x hx0 hx1 _ (by omega), ← hnn]
  rw [← hnn] at hnl
  simp only [B_extract, B_append, B_size, Option.bind_some]
  have l1 : ∀ i j : Nat, (List.take (j - i) (List.drop i t)).length ≤ t.length := by
    intro i j
    rw [List.length_take, List.length_drop]
    omega
  have l2 := l1 0 c.toNat
  have l3 := l1 d.toNat t.length
  have l4 := l1 c.toNat t.length
  have hct : c ≤ (t.length : Int) := by omega
  rw [if_pos hp0, if_pos hct, if_pos (by omega), if_pos hmn.1, if_pos hmn.2, if_pos (by rw [List.length_append]; omega), if_pos (by rw [List.length_append]; omega), if_pos (by omega)]
  obtain ⟨y2, hy2⟩ : ∃ y, y = B (List.take (c.toNat - 0) (List.drop 0 t) ++ m ++ List.take (t.length - d.toNat) (List.drop d.toNat t)) := ⟨_, rfl⟩
  obtain ⟨y3, hy3⟩ : ∃ y, y = B (List.take (c.toNat - 0) (List.drop 0 t) ++ m ++ List.take (t.length - c.toNat) (List.drop c.toNat t)) := ⟨_, rfl⟩
  obtain ⟨y4, hy4⟩ : ∃ y, y = B (nl ++ m) := ⟨_, rfl⟩
  have s2 : y2.size ≤ 281474976710656 := by rw [hy2, B_size, List.length_append, List.length_append]; omega
  have s3 : y3.size ≤ 281474976710656 := by rw [hy3, B_size, List.length_append, List.length_append]; omega
  have s4 : y4.size ≤ 281474976710656 := by rw [hy4, B_size, List.length_append]; omega
  have s1 : (B t).size ≤ 281474976710656 := by rw [B_size]; omega
  have s0 : s.size ≤ 281474976710656 := by omega
  rw [← hy2, ← hy3, ← hy4]
  clear hy2 hy3 hy4 l1 l2 l3 l4 hnn hnl
  have hK : ∀ j : Nat, j ≤ 10 → 60 ≤ k + j := fun j hj => by omega
  rw [inner (k + 8) (hK 8 (by omega)) _ _ _ _ _ _ _ _ _ _ 0 hm (by omega) (by simp) rfl (by omega) (by simpa [rdOf] using s0)]
  rw [inner (k + 7) (hK 7 (by omega)) _ _ _ _ _ _ _ _ _ _ _ hm (by omega) (by simp) rfl (by omega) (by simpa [rdOf] using s1)]
  rw [inner (k + 6) (hK 6 (by omega)) _ _ _ _ _ _ _ _ _ _ _ hm (by omega) (by simp) rfl (by omega) (by simpa [rdOf] using s2)]
  rw [inner (k + 5) (hK 5 (by omega)) _ _ _ _ _ _ _ _ _ _ _ hm (by omega) (by simp) rfl (by omega) (by simpa [rdOf] using s3)]
  rw [inner (k + 4) (hK 4 (by omega)) _ _ _ _ _ _ _ _ _ _ _ hm (by omega) (by simp) rfl (by omega) (by simpa [rdOf] using s4)]
  rw [hagglerlaw02_DecTells.l1, if_neg (by simp), hi1.out]
  rfl
end DT
open DT
theorem DecTells : hagglerlaw02_DecTells.Pure := by
  intro a0 a1 a2 a3 a4 h0 h1 h2 h3 h4
  refine ⟨201, ?_⟩
  obtain ⟨x, hx, hok⟩ := Amount_eq h0
  obtain ⟨hp, hp0, hp1⟩ := pick_eq h0 (n := 20000) (by omega)
  obtain ⟨b0, b1⟩ := wf64 h0
  unfold hagglerlaw02_DecTells.f
  rw [awake_eq 200, hx, hp]
  simp only [Option.bind_some]
  have hok' := hok
  unfold okA at hok'
  rw [w64 (by omega) (by omega)]
  rw [outer 200 (by omega) _ _ _ _ _ _ _ 0 h2 h3 h1 h4 (by omega) (by simp) rfl (by omega) (by simpa [rd] using b0) (by simpa [rd] using b1)]
  rw [outer 192 (by omega) _ _ _ _ _ _ _ _ h2 h3 h1 h4 (by omega) (by simp) rfl (by omega) (by simp [rd]; omega) (by simp [rd]; omega)]
  rw [outer 184 (by omega) _ _ _ _ _ _ _ _ h2 h3 h1 h4 (by omega) (by simp) rfl (by omega) (by simp [rd]; omega) (by simp [rd]; omega)]
  rw [show 184 - 7 = 176 + 1 from rfl, hagglerlaw02_DecTells.l0, if_neg (by simp)]
end Go.Proofs.YtglbgfjmfccemaaDoor.Pure
