/- Unlike expressions that may be have unlike texts. -/
import Derived.Test.YtjnbhdbpajnlgaaDoorTreeF
set_option linter.unusedVariables false
set_option linter.unusedSimpArgs false
namespace Go.Proofs.YtjnbhdbpajnlgaaDoor.TreeU
open Go.RowKit Go.Proofs.YtjnbhdbpajnlgaaDoor.Q Go.Proofs.YtjnbhdbpajnlgaaDoor.Pl Go.Proofs.YtjnbhdbpajnlgaaDoor.TreeF Go.Proofs.YtjnbhdbpajnlgaaDoorW.PrintWords Go.Proofs.YtjnbhdbpajnlgaaDoorW.PrintMore

def isP (c : UInt8) : Bool := c == 40 || (c == 41 || c == 44)
def Free (m : List UInt8) : Prop := ∀ c ∈ m, isP c = false
def Stop (r : List UInt8) : Prop := r = [] ∨ ∃ c t, r = c :: t ∧ isP c = true
theorem split_eq : ∀ (m m' r s : List UInt8), Free m → Free m' → Stop r → Stop s → m ++ r = m' ++ s → m = m' ∧ r = s
  | [], [], r, s, _, _, _, _, h => ⟨rfl, h⟩
  | [], c :: m', r, s, _, hm', hr, _, h => by
    rcases hr with rfl | ⟨d, t, rfl, hd⟩
    · simp at h
    · simp only [List.nil_append, List.cons_append, List.cons.injEq] at h
      rw [h.1, hm' c List.mem_cons_self] at hd
      exact absurd hd (by decide)
  | c :: m, [], r, s, hm, _, _, hs, h => by
    rcases hs with rfl | ⟨d, t, rfl, hd⟩
    · simp at h
    · simp only [List.nil_append, List.cons_append, List.cons.injEq] at h
      rw [← h.1, hm c List.mem_cons_self] at hd
      exact absurd hd (by decide)
  | c :: m, c' :: m', r, s, hm, hm', hr, hs, h => by
    simp only [List.cons_append, List.cons.injEq] at h
    obtain ⟨h1, h2⟩ := split_eq m m' r s (fun x hx => hm x (List.mem_cons_of_mem _ hx)) (fun x hx => hm' x (List.mem_cons_of_mem _ hx)) hr hs h.2
    exact ⟨by rw [h.1, h1], h2⟩
theorem dig_free (n : Nat) : isP (dig n) = false := by
  have h := dig_toNat n
  unfold isP
  have : (dig n) ≠ 40 ∧ (dig n) ≠ 41 ∧ (dig n) ≠ 44 := by
    refine ⟨?_, ?_, ?_⟩ <;> (intro he; rw [he] at h; simp at h; omega)
  simp [this.1, this.2.1, this.2.2]
theorem digs_free (n : Nat) : Free (digs n) := by
  have hp : ∀ (f k : Nat), Free (digF f k) := by
    intro f
    induction f with
    | zero => intro k c hc; simp [digF] at hc
    | succ f ih =>
      intro k c hc
      rw [digF] at hc
      split at hc
      · simp only [List.mem_cons, List.not_mem_nil, or_false] at hc
        rw [hc]; exact dig_free k
      · rw [List.mem_append] at hc
        rcases hc with hc | hc
        · exact ih _ c hc
        · simp only [List.mem_cons, List.not_mem_nil, or_false] at hc
          rw [hc]; exact dig_free k
  exact hp 20 n
theorem text_free (n : Int) (h0 : 0 ≤ n) (h1 : n ≤ 1000000000000) : Free (textL n) := by
  rw [textL_ok (by unfold okA; omega), if_neg (by omega)]
  intro c hc
  simp only [List.nil_append, List.mem_append, List.mem_cons, List.not_mem_nil, or_false] at hc
  rcases hc with hc | rfl | rfl | rfl
  · exact digs_free _ c hc
  · rfl
  · exact dig_free _
  · exact dig_free _
theorem int_free (n : Int) (h0 : 0 ≤ n) : Free (intL n) := by
  unfold intL
  rw [if_neg (by omega)]
  exact digs_free _
theorem setN_free : ∀ c ∈ setN, isP c = false := by decide
theorem name_free (s : ByteArray) (h : nameE s = true) : Free s.data.toList := by
  intro c hc
  unfold nameE at h
  split at h
  · exact absurd h (by simp)
  · rename_i d l hl
    simp only [Bool.and_eq_true, decide_eq_true_eq] at h
    rw [hl] at hc
    have hall := runE_all setN (d :: l) (by rw [h.2.2.1]; have := congrArg List.length hl; simpa using this) c hc
    exact setN_free c (idx_mem setN c (of_decide_eq_true hall))
theorem word_free (k : Int) : Free (wordL k) := by
  unfold wordL formT
  split <;> (intro c hc; revert c; decide)

def kindOf (l : List UInt8) : Int := if l = wordL 1 then 1 else if l = wordL 2 then 2 else if l = wordL 3 then 3 else if l = wordL 5 then 5 else if l = wordL 6 then 6 else if l = wordL 7 then 7 else if l = wordL 8 then 8 else if l = wordL 9 then 9 else if l = wordL 10 then 10 else if l = wordL 11 then 11 else if l = wordL 12 then 12 else 0
theorem kinds_of (k : Int) (w : List UInt8) (m a : Int) (h : formT k = some (w, m, a)) : k = 1 ∨ k = 2 ∨ k = 3 ∨ k = 4 ∨ k = 5 ∨ k = 6 ∨ k = 7 ∨ k = 8 ∨ k = 9 ∨ k = 10 ∨ k = 11 ∨ k = 12 := by
  rcases form_kinds k with ho | ho
  · rw [formT_out k ho] at h
    exact absurd h (by simp)
  · exact ho
theorem kindOf_word (k : Int) (w : List UInt8) (m a : Int) (h : formT k = some (w, m, a)) (h4 : k ≠ 4) : kindOf (wordL k) = k ∧ ∃ c t, wordL k = c :: t ∧ isD c = false := by
  rcases kinds_of k w m a h with rfl | rfl | rfl | rfl | rfl | rfl | rfl | rfl | rfl | rfl | rfl | rfl
  all_goals first
    | exact absurd rfl h4
    | exact ⟨by decide, _, _, rfl, by decide⟩
theorem text_head (n : Int) (h0 : 0 ≤ n) (h1 : n ≤ 1000000000000) : ∃ c t, textL n = c :: t ∧ isD c = true := by
  rw [textL_ok (by unfold okA; omega), if_neg (by omega), List.nil_append]
  rcases hd : digs (n.natAbs / 100) with _ | ⟨c, t⟩
  · exact absurd hd (digs_ne _)
  · refine ⟨c, t ++ _, rfl, ?_⟩
    have := digs_all' (n.natAbs / 100)
    rw [hd, List.all_cons, Bool.and_eq_true] at this
    exact this.1
def headE (k n : Int) : List UInt8 := if k = 4 then textL n else wordL k
theorem head_kind (k n k' n' : Int) (w w' : List UInt8) (m a m' a' : Int) (hF : formT k = some (w, m, a)) (hF' : formT k' = some (w', m', a')) (h0 : 0 ≤ n) (h1 : n ≤ 1000000000000) (h0' : 0 ≤ n') (h1' : n' ≤ 1000000000000) (h : headE k n = headE k' n') : k = k' := by
  unfold headE at h
  by_cases h4 : k = 4
  · by_cases h4' : k' = 4
    · rw [h4, h4']
    · rw [if_pos h4, if_neg h4'] at h
      obtain ⟨c, t, e, hc⟩ := text_head n h0 h1
      obtain ⟨_, c', t', e', hc'⟩ := kindOf_word k' w' m' a' hF' h4'
      rw [e, e'] at h
      injection h with h
      rw [h, hc'] at hc
      exact absurd hc (by decide)
  · by_cases h4' : k' = 4
    · rw [if_neg h4, if_pos h4'] at h
      obtain ⟨c, t, e, hc⟩ := text_head n' h0' h1'
      obtain ⟨_, c', t', e', hc'⟩ := kindOf_word k w m a hF h4
      rw [e, e'] at h
      injection h with h
      rw [← h, hc'] at hc
      exact absurd hc (by decide)
    · rw [if_neg h4, if_neg h4'] at h
      rw [← (kindOf_word k w m a hF h4).1, h, (kindOf_word k' w' m' a' hF' h4').1]
/-- what stands behind the head -/
def bodyE (k n : Int) (nm : ByteArray) (l : List S26) : List UInt8 := if k = 4 ∨ k = 1 ∨ k = 2 then [] else [40] ++ ((if k = 3 then [] else txtA true l) ++ (sepA (k == 3 || l.isEmpty) (moreL k n nm) ++ [41]))
theorem txt_split (k n : Int) (nm : ByteArray) (l : List S26) : txtE ⟨k, n, nm, l⟩ = headE k n ++ bodyE k n nm l := by
  rw [txtE]
  unfold headE bodyE
  by_cases h4 : k = 4
  · rw [if_pos h4, if_pos h4, if_pos (.inl h4), List.append_nil]
  · rw [if_neg h4, if_neg h4]
    by_cases h12 : k = 1 ∨ k = 2
    · rw [if_pos h12, if_pos (.inr h12), List.append_nil]
    · have hn : ¬ (k = 4 ∨ k = 1 ∨ k = 2) := by omega
      rw [if_neg h12, if_neg hn]
      simp only [List.append_assoc]
theorem head_free (k n : Int) (h0 : 0 ≤ n) (h1 : n ≤ 1000000000000) : Free (headE k n) := by
  unfold headE
  split
  · exact text_free n h0 h1
  · exact word_free k
theorem body_stop (k n : Int) (nm : ByteArray) (l : List S26) (r : List UInt8) (hr : Stop r) : Stop (bodyE k n nm l ++ r) := by
  unfold bodyE
  split
  · exact hr
  · exact .inr ⟨40, _, rfl, rfl⟩
theorem most0 (k : Int) (w : List UInt8) (m a : Int) (h : formT k = some (w, m, a)) (h4 : k ≠ 4) (h5 : k ≠ 5) (h6 : k ≠ 6) (h11 : k ≠ 11) : m = 0 := by
  rcases kinds_of k w m a h with rfl | rfl | rfl | rfl | rfl | rfl | rfl | rfl | rfl | rfl | rfl | rfl
  all_goals first
    | exact absurd rfl h4
    | exact absurd rfl h5
    | exact absurd rfl h6
    | exact absurd rfl h11
    | (simp only [formT, Option.some.injEq, Prod.mk.injEq] at h; exact h.2.1.symm)
theorem args0 (k : Int) (w : List UInt8) (m a : Int) (h : formT k = some (w, m, a)) (h4 : k = 4 ∨ k = 1 ∨ k = 2 ∨ k = 3) : a = 0 := by
  rcases h4 with rfl | rfl | rfl | rfl
  all_goals (simp only [formT, Option.some.injEq, Prod.mk.injEq] at h; exact h.2.2.symm)
theorem stop44 (r : List UInt8) : Stop (44 :: r) := .inr ⟨44, r, rfl, rfl⟩
theorem stop41 (r : List UInt8) : Stop (41 :: r) := .inr ⟨41, r, rfl, rfl⟩
theorem int_inj (n n' : Int) (h0 : 0 ≤ n) (h1 : n ≤ 1000000000000) (h0' : 0 ≤ n') (h1' : n' ≤ 1000000000000) (h : intL n = intL n') : n = n' := by
  unfold intL at h
  rw [if_neg (by omega), if_neg (by omega)] at h
  have := digs_inj (n := n.toNat) (m := n'.toNat) (by omega) (by omega) h
  omega
mutual
theorem text_inj : ∀ (x y : S26) (m : Int) (c c' : Bool) (r s : List UInt8), fineE m c x = true → fineE m c' y = true → Stop r → Stop s → txtE x ++ r = txtE y ++ s → sameE x y = true ∧ r = s
  | ⟨k, n, nm, l⟩, ⟨k', n', nm', l'⟩, mm, c, c', r, s, hx, hy, hr, hs, h => by
    obtain ⟨w, m, a, hF, h1, h2, h3, h4, h5, h6, h7, h8, h9⟩ := fine_open _ c k n nm l hx
    obtain ⟨w', m', a', hF', h1', h2', h3', h4', h5', h6', h7', h8', h9'⟩ := fine_open _ c' k' n' nm' l' hy
    rw [txt_split, txt_split, List.append_assoc, List.append_assoc] at h
    obtain ⟨e1, e2⟩ := split_eq _ _ _ _ (head_free k n h3 (by omega)) (head_free k' n' h3' (by omega)) (body_stop k n nm l r hr) (body_stop k' n' nm' l' s hs) h
    have ek := head_kind k n k' n' w w' m a m' a' hF hF' h3 (by omega) h3' (by omega) e1
    subst ek
    rw [hF] at hF'
    simp only [Option.some.injEq, Prod.mk.injEq] at hF'
    obtain ⟨rfl, rfl, rfl⟩ := hF'
    have hres : ∀ (e3 : n = n') (e4 : nm.toList = nm'.toList) (e5 : sameA l l' = true), sameE ⟨k, n, nm, l⟩ ⟨k, n', nm', l'⟩ = true := by
      intro e3 e4 e5
      rw [sameE, e3, e4, e5]
      simp
    have hnm : k ≠ 3 → nm.toList = nm'.toList := by
      intro h3k
      unfold namedE at h8 h8'
      rw [if_neg h3k, beq_iff_eq] at h8 h8'
      rw [h8, h8']
    have hll : l.length = l'.length := by omega
    have hl0 : a = 0 → sameA l l' = true := by
      intro ha
      have e : l = [] := List.length_eq_zero_iff.1 (by omega)
      have e' : l' = [] := List.length_eq_zero_iff.1 (by omega)
      rw [e, e']; rfl
    unfold bodyE at e2
    by_cases hk : k = 4 ∨ k = 1 ∨ k = 2
    · rw [if_pos hk, if_pos hk] at e2
      have ha := args0 k w m a hF (by omega)
      refine ⟨hres ?_ (hnm (by omega)) (hl0 ha), by simpa using e2⟩
      by_cases k4 : k = 4
      · unfold headE at e1
        rw [if_pos k4, if_pos k4] at e1
        exact textL_inj (by unfold okA; omega) (by unfold okA; omega) e1
      · have := most0 k w m a hF k4 (by omega) (by omega) (by omega)
        omega
    rw [if_neg hk, if_neg hk] at e2
    simp only [List.append_assoc, List.cons_append, List.nil_append, List.cons.injEq, true_and] at e2
    by_cases k3 : k = 3
    · rw [if_pos k3, if_pos k3] at e2
      have hm3 : moreL k n nm = [nm.data.toList] ∧ moreL k n' nm' = [nm'.data.toList] := by unfold moreL; rw [if_pos k3, if_pos k3]; exact ⟨rfl, rfl⟩
      rw [hm3.1, hm3.2, show (k == 3) = true from beq_iff_eq.2 k3, Bool.true_or, Bool.true_or] at e2
      simp only [sepA, if_true, List.nil_append, List.append_nil] at e2
      unfold namedE at h8 h8'
      rw [if_pos k3] at h8 h8'
      obtain ⟨q1, q2⟩ := split_eq _ _ _ _ (name_free nm h8) (name_free nm' h8') (stop41 _) (stop41 _) e2
      have hm0 := most0 k w m a hF (by omega) (by omega) (by omega) (by omega)
      refine ⟨hres (by omega) (by rw [Lib.toList_data, Lib.toList_data, q1]) (hl0 (args0 k w m a hF (by omega))), by simpa using q2⟩
    rw [if_neg k3, if_neg k3] at e2
    have hemp : l.isEmpty = l'.isEmpty := by
      cases l <;> cases l' <;> simp at hll ⊢
    rw [show (k == 3) = false from beq_eq_false_iff_ne.2 k3, Bool.false_or, Bool.false_or, ← hemp] at e2
    have hst : ∀ (n0 : Int) (nm0 : ByteArray) (q : List UInt8), l.isEmpty = false → Stop (sepA l.isEmpty (moreL k n0 nm0) ++ (41 :: q)) := by
      intro n0 nm0 q he
      rcases moreL k n0 nm0 with _ | ⟨x0, t0⟩
      · exact stop41 q
      · rw [sepA, he]
        exact stop44 _
    have hlist : sameA l l' = true ∧ sepA l.isEmpty (moreL k n nm) ++ (41 :: r) = sepA l.isEmpty (moreL k n' nm') ++ (41 :: s) := by
      rcases hle : l.isEmpty with _ | _
      · have := list_inj l l' (mm - 1) (k == 10) (k == 10) true hll h9 h9' _ _ (hst n nm r hle) (hst n' nm' s hle) e2
        rw [hle] at this
        exact this
      · have e : l = [] := List.isEmpty_iff.1 hle
        have e' : l' = [] := List.length_eq_zero_iff.1 (by rw [← hll, e]; rfl)
        subst e
        subst e'
        simp only [txtA, List.nil_append, List.isEmpty_nil] at e2
        exact ⟨rfl, e2⟩
    obtain ⟨hsame, e3⟩ := hlist
    by_cases k5 : k = 5
    · have hm5 : ∀ n0 nm0, moreL k n0 nm0 = [textL n0] := by intro n0 nm0; unfold moreL; rw [if_neg k3, if_pos k5]
      rw [hm5, hm5] at e3
      simp only [sepA, List.append_nil, List.append_assoc, List.append_cancel_left_eq] at e3
      obtain ⟨q1, q2⟩ := split_eq _ _ _ _ (text_free n h3 (by omega)) (text_free n' h3' (by omega)) (stop41 _) (stop41 _) e3
      exact ⟨hres (textL_inj (by unfold okA; omega) (by unfold okA; omega) q1) (hnm k3) hsame, by simpa using q2⟩
    by_cases k6 : k = 6 ∨ k = 11
    · have hm6 : ∀ n0 nm0, moreL k n0 nm0 = [intL n0] := by intro n0 nm0; unfold moreL; rw [if_neg k3, if_neg k5, if_pos k6]
      rw [hm6, hm6] at e3
      simp only [sepA, List.append_nil, List.append_assoc, List.append_cancel_left_eq] at e3
      obtain ⟨q1, q2⟩ := split_eq _ _ _ _ (int_free n h3) (int_free n' h3') (stop41 _) (stop41 _) e3
      exact ⟨hres (int_inj n n' h3 (by omega) h3' (by omega) q1) (hnm k3) hsame, by simpa using q2⟩
    · have hm7 : ∀ n0 nm0, moreL k n0 nm0 = [] := by intro n0 nm0; unfold moreL; rw [if_neg k3, if_neg k5, if_neg k6]
      rw [hm7, hm7] at e3
      simp only [sepA, List.nil_append, List.cons.injEq, true_and] at e3
      have hm0 := most0 k w m a hF (by omega) k5 (by omega) (by omega)
      exact ⟨hres (by omega) (hnm k3) hsame, e3⟩
theorem list_inj : ∀ (l l' : List S26) (m : Int) (c c' b : Bool), l.length = l'.length → fineA m c l = true → fineA m c' l' = true → ∀ (r s : List UInt8), Stop r → Stop s → txtA b l ++ r = txtA b l' ++ s → sameA l l' = true ∧ r = s
  | [], [], m, c, c', b, _, _, _, r, s, _, _, h => ⟨rfl, by simpa [txtA] using h⟩
  | [], y :: l', m, c, c', b, hl, _, _, r, s, _, _, h => by simp at hl
  | x :: l, [], m, c, c', b, hl, _, _, r, s, _, _, h => by simp at hl
  | x :: l, y :: l', m, c, c', b, hl, hx, hy, r, s, hr, hs, h => by
    rw [fineA, Bool.and_eq_true] at hx hy
    rw [txtA, txtA] at h
    simp only [List.append_assoc, List.append_cancel_left_eq] at h
    have hst : ∀ (q : List S26) (t : List UInt8), Stop t → Stop (txtA false q ++ t) := by
      intro q t ht
      cases q with
      | nil => simpa [txtA] using ht
      | cons z q => rw [txtA]; exact stop44 _
    obtain ⟨q1, q2⟩ := text_inj x y m c c' _ _ hx.1 hy.1 (hst l r hr) (hst l' s hs) h
    obtain ⟨q3, q4⟩ := list_inj l l' m false false false (by simpa using hl) hx.2 hy.2 r s hr hs q2
    exact ⟨by rw [sameA, q1, q3]; rfl, q4⟩
end
end Go.Proofs.YtjnbhdbpajnlgaaDoor.TreeU
