/- What the printed functions of the document's own layer 2 come to: the same texts and numerals. -/
import Derived.Test.YtglbgfjmfccemaaDoorDecF
set_option linter.unusedVariables false
set_option linter.unusedSimpArgs false
namespace Go.Proofs.YtglbgfjmfccemaaDoor.RefDec
open Go.RowKit Go.Proofs.YtglbgfjmfccemaaDoor.Q Go.Proofs.YtglbgfjmfccemaaDoor.Pl Go.Proofs.YtglbgfjmfccemaaDoor.DecF Go.Proofs.YtglbgfjmfccemaaDoorW.PrintWords Go.Proofs.YtglbgfjmfccemaaDoorW.PrintMore

theorem one_byte (n : Nat) : strOfNums [(wrap64 (48 + Int.tmod (n : Int) 10)) % 256] = B [dig n] := by
  rw [tmod_nn (by omega), w64 (by omega) (by omega)]
  have e : (48 + (n : Int) % 10) % 256 = ((48 + n % 10 : Nat) : Int) := by omega
  rw [e]
  rfl
theorem digF_len : ∀ (f k : Nat), (digF f k).length ≤ f
  | 0, k => by simp [digF]
  | f + 1, k => by
    rw [digF]
    split
    · simp
    · have := digF_len f (k / 10); simp; omega
theorem digits_F : ∀ (f n k : Nat), 1 ≤ f → f ≤ 20 → n < 10 ^ f → n ≤ 9223372036854775807 → f ≤ k → hagglerref02_digits.f k (n : Int) = some (B (digF f n))
  | 0, n, k, h, _, _, _, _ => absurd h (by omega)
  | f + 1, n, k, h1, h2, h3, hn, h4 => by
    obtain ⟨k, rfl⟩ : ∃ m, k = m + 1 := ⟨k - 1, by omega⟩
    rw [hagglerref02_digits.f, digF]
    simp only [Option.bind_some]
    rw [one_byte]
    by_cases h : n < 10
    · rw [if_neg (by omega), if_pos h]
    · rw [if_pos (by omega), if_neg h]
      have e : wrap64 (Int.tdiv (n : Int) 10) = ((n / 10 : Nat) : Int) := by
        rw [tdiv_nn (by omega), w64 (by omega) (by omega)]
        omega
      have hf : 1 ≤ f := by
        rcases f with _ | f
        · simp at h3; omega
        · omega
      rw [e, digits_F f (n / 10) k hf (by omega) (by rw [Nat.pow_succ] at h3; omega) (by omega) (by omega)]
      simp only [Option.bind_some]
      have := digF_len f (n / 10)
      rw [B_append, B_size, B_size, if_pos (by simp; omega)]
theorem digits_eq (n k : Nat) (hn : n ≤ 9223372036854775807) (hk : 20 ≤ k) : hagglerref02_digits.f k (n : Int) = some (B (digs n)) :=
  digits_F 20 n k (by omega) (by omega) (by omega) hn hk
theorem Number_eq (n : Int) (h0 : -9223372036854775808 ≤ n) (h1 : n ≤ 9223372036854775807) (k : Nat) (hk : 20 ≤ k) : hagglerref02_Number.f k n = some (B (intL n)) := by
  unfold hagglerref02_Number.f intL
  by_cases h : n ≥ 0
  · rw [if_pos h, if_neg (by omega)]
    obtain ⟨m, rfl⟩ := Int.eq_ofNat_of_zero_le h
    rw [digits_eq m k (by omega) hk, Int.toNat_natCast]
    rfl
  · rw [if_neg h, if_pos (show n < 0 from by omega)]
    obtain ⟨m, hm⟩ : ∃ m : Nat, m = n.natAbs := ⟨_, rfl⟩
    have hnm : n = -(m : Int) := by omega
    rw [← hm]
    by_cases hb : n < -1000000000000000000
    · rw [if_pos hb]
      have e1 : wrap64 (-(wrap64 (Int.tdiv n 10))) = ((m / 10 : Nat) : Int) := by
        rw [hnm, Int.neg_tdiv, tdiv_nn (by omega), w64 (x := -((m : Int) / 10)) (by omega) (by omega), w64 (by omega) (by omega)]
        omega
      have e2 : wrap64 (-(Int.tmod n 10)) = ((m % 10 : Nat) : Int) := by
        rw [hnm, Int.neg_tmod, tmod_nn (by omega), w64 (by omega) (by omega)]
        omega
      have l1 := digs_len (m / 10)
      have l2 := digs_len (m % 10)
      rw [e1, e2, digits_eq _ k (by omega) hk]
      simp only [Option.bind_some]
      rw [B_size, if_pos (by omega), digits_eq _ k (by omega) hk]
      simp only [Option.bind_some]
      rw [show (⟨#[45]⟩ : ByteArray) = B [45] from rfl, B_append, B_append, B_size, B_size, if_pos (by simp; omega)]
      have hdm : dig (m % 10) = dig m := by
        apply UInt8.toNat_inj.1
        rw [dig_toNat, dig_toNat]
        omega
      rw [digs_rec m (by omega), if_neg (by omega), digs_one (n := m % 10) (by omega), hdm]
      simp
    · rw [if_neg hb]
      have e1 : wrap64 (-n) = (m : Int) := by rw [w64 (by omega) (by omega)]; omega
      have l1 := digs_len m
      rw [e1, digits_eq m k (by omega) hk]
      simp only [Option.bind_some]
      rw [B_size, if_pos (by omega), show (⟨#[45]⟩ : ByteArray) = B [45] from rfl, B_append]
      rfl
theorem Text_nn (a : Int) (h : okA a) (h0 : 0 ≤ a) (k : Nat) (hk : 22 ≤ k) : hagglerref02_Text.f k a = some (B (textL a)) := by
  obtain ⟨k, rfl⟩ : ∃ m, k = m + 2 := ⟨k - 2, by omega⟩
  obtain ⟨n, hn⟩ : ∃ n : Nat, n = a.natAbs := ⟨_, rfl⟩
  have ha : a = (n : Int) := by omega
  have hb : n ≤ 1000000000000 := by unfold okA at h; omega
  rw [textL_ok h, ← hn, if_neg (by omega), hagglerref02_Text.f, if_neg (by omega), hagglerref02_Text.j0, if_neg (by simp; omega), if_neg (by omega)]
  have e1 : wrap64 (Int.tdiv a 100) = ((n / 100 : Nat) : Int) := by
    rw [ha, tdiv_nn (by omega), w64 (by omega) (by omega)]
    omega
  have e2 : Int.tmod (wrap64 (Int.tdiv a 10)) 10 = ((n / 10 % 10 : Nat) : Int) := by
    rw [ha, tdiv_nn (by omega), w64 (by omega) (by omega), tmod_nn (by omega)]
    omega
  have e3 : Int.tmod a 10 = ((n % 10 : Nat) : Int) := by
    rw [ha, tmod_nn (by omega)]
    omega
  have l1 := digs_len (n / 100)
  have d1 : digs (n / 10 % 10) = [dig (n / 10)] := by
    rw [digs_one (by omega)]
    congr 1
    apply UInt8.toNat_inj.1
    rw [dig_toNat, dig_toNat]
    omega
  have d0 : digs (n % 10) = [dig n] := by
    rw [digs_one (by omega)]
    congr 1
    apply UInt8.toNat_inj.1
    rw [dig_toNat, dig_toNat]
    omega
  rw [e1, e2, e3, digits_eq _ k (by omega) (by omega)]
  simp only [Option.bind_some]
  rw [B_size, if_pos (by omega), digits_eq _ k (by omega) (by omega)]
  simp only [Option.bind_some]
  rw [show (⟨#[46]⟩ : ByteArray) = B [46] from rfl, B_append, d1, B_size, B_size, if_pos (by simp; omega), digits_eq _ k (by omega) (by omega)]
  simp only [Option.bind_some]
  rw [d0, B_append, B_append, B_size, B_size, if_pos (by simp; omega)]
  simp
theorem Text_eq' (a : Int) (k : Nat) (hk : 24 ≤ k) : hagglerref02_Text.f k a = some (B (textL a)) := by
  by_cases h : okA a
  · by_cases h0 : 0 ≤ a
    · exact Text_nn a h h0 k (by omega)
    · obtain ⟨k, rfl⟩ : ∃ m, k = m + 2 := ⟨k - 2, by omega⟩
      have hb := h
      unfold okA at hb
      have hn : okA (-a) := by unfold okA; omega
      rw [hagglerref02_Text.f, if_neg (by omega), hagglerref02_Text.j0, if_neg (by simp; omega), if_pos (by omega), w64 (by omega) (by omega), Text_nn (-a) hn (by omega) k (by omega)]
      simp only [Option.bind_some]
      have := text_size (x := -a)
      have e := textL_neg hn (by omega)
      rw [Int.neg_neg] at e
      rw [B_size, if_pos (by omega), show (⟨#[45]⟩ : ByteArray) = B [45] from rfl, B_append, e]
      rfl
  · obtain ⟨k, rfl⟩ : ∃ m, k = m + 2 := ⟨k - 2, by omega⟩
    rw [textL_no h, hagglerref02_Text.f]
    by_cases h1 : a < -1000000000000
    · rw [if_pos h1, hagglerref02_Text.j0, if_pos rfl]
      rfl
    · rw [if_neg h1, hagglerref02_Text.j0, if_pos (by unfold okA at h; simp; omega)]
      rfl

/-! ### Count -/
theorem count_loop (l : List UInt8) (m : Int) (hl : l.length ≤ 13) : ∀ (d i k : Nat) (hd : l.length - i = d) (hi : i ≤ l.length) (hk : d + 1 ≤ k) (ha : (l.take i).all isD = true),
    hagglerref02_Count.l0 k (B l) m (val (l.take i) : Int) (i : Int) = some (if l.all isD = true then (if (val l : Int) > m then -1 else if (val l : Int) > 1000000000000 then -1 else (val l : Int)) else -1) := by
  intro d
  induction d with
  | zero =>
    intro i k hd hi hk ha
    obtain ⟨k, rfl⟩ : ∃ j, k = j + 1 := ⟨k - 1, by omega⟩
    rw [List.take_of_length_le (by omega)] at ha ⊢
    rw [hagglerref02_Count.l0, B_size, if_neg (by omega), if_pos ha]
    split
    · rfl
    · split <;> rfl
  | succ d ih =>
    intro i k hd hi hk ha
    obtain ⟨k, rfl⟩ : ∃ j, k = j + 1 := ⟨k - 1, by omega⟩
    have hlt : i < l.length := by omega
    have hb : bt (B l) (i : Int) = (l[i].toNat : Int) := by
      rw [bt_B, Int.toNat_natCast, List.getElem?_eq_getElem hlt]
      rfl
    have hts : l.take (i + 1) = l.take i ++ [l[i]] := List.take_succ_eq_append_getElem hlt
    have hv := pow_lt_of_val (l.take i) ha
    have hv2 : val (l.take i) < 10 ^ 13 := Nat.lt_of_lt_of_le hv (Nat.pow_le_pow_right (by omega) (by rw [List.length_take]; omega))
    have hbad : isD l[i] = false → l.all isD = false := by
      intro h
      rw [Bool.eq_false_iff]
      intro ht
      have := List.all_eq_true.1 ht l[i] (List.getElem_mem hlt)
      rw [h] at this
      exact absurd this (by simp)
    rw [hagglerref02_Count.l0, B_size, if_pos (by omega), if_pos (by omega), hb]
    by_cases h1 : (l[i].toNat : Int) < 48
    · rw [if_pos h1, hbad (decide_eq_false (by omega))]
      rfl
    · rw [if_neg h1]
      by_cases h2 : (l[i].toNat : Int) > 57
      · rw [if_pos h2, hbad (decide_eq_false (by omega))]
        rfl
      · rw [if_neg h2]
        have hd' : isD l[i] = true := decide_eq_true (by omega)
        have hn := ih (i + 1) k (by omega) (by omega) (by omega) (by rw [hts]; simp only [List.all_append, ha, List.all_cons, List.all_nil, hd', Bool.and_self])
        rw [hts, val_snoc] at hn
        have e : wrap64 (wrap64 (10 * (val (l.take i) : Int)) + (((l[i].toNat : Int) - 48) % 256)) = ((val (l.take i) * 10 + (l[i].toNat - 48) : Nat) : Int) := by
          rw [w64 (x := 10 * (val (l.take i) : Int)) (by omega) (by omega), w64 (by omega) (by omega)]
          omega
        rw [e, w64 (by omega) (by omega)]
        exact hn
theorem Count_eq' (s : ByteArray) (m : Int) (k : Nat) (hk : 20 ≤ k) : hagglerref02_Count.f k s m = some (countL s.data.toList m) := by
  obtain ⟨l, rfl⟩ := B_of s
  obtain ⟨k, rfl⟩ : ∃ j, k = j + 1 := ⟨k - 1, by omega⟩
  have loop : ∀ (hl : l.length ≤ 13) (hne : l ≠ []) (hh : l.length = 1 ∨ l.head? ≠ some 48), hagglerref02_Count.j0 (k + 1) (B l) m 0 false = some (countL l m) := by
    intro hl hne hh
    rw [hagglerref02_Count.j0, if_neg (by simp)]
    have h0 := count_loop l m hl l.length 0 k (by omega) (by omega) (by omega) (by simp)
    have hv0 : val (l.take 0) = 0 := by simp [val]
    rw [hv0] at h0
    refine Eq.trans h0 ?_
    congr 1
    by_cases ha : l.all isD = true
    · rw [if_pos ha]
      obtain ⟨c, r, hc⟩ := List.exists_cons_of_ne_nil hne
      have hd : digs (val l) = l := (digs_val (l.length - 1) l (by rw [hc]; simp) (by omega) ha (hh.imp (fun h => by omega) id)).1
      by_cases h1 : (val l : Int) > m
      · rw [if_pos h1, countL_big (.inl h1)]
      · rw [if_neg h1]
        by_cases h2 : (val l : Int) > 1000000000000
        · rw [if_pos h2, countL_big (.inr (by omega))]
        · rw [if_neg h2, countL_yes (by omega) (by omega) hd]
    · rw [if_neg ha, countL_no (by simp [allL, ha])]
  unfold hagglerref02_Count.f
  rw [B_toList, B_tl, B_size]
  by_cases hne : l = []
  · rw [if_pos hne, hagglerref02_Count.j0, if_pos rfl, hne, countL_nil]
  · rw [if_neg hne]
    by_cases h13 : (l.length : Int) > 13
    · rw [if_pos h13, hagglerref02_Count.j0, if_pos rfl]
      congr 1
      unfold countL
      rw [if_neg]
      rintro ⟨_, h, _⟩
      omega
    · rw [if_neg h13]
      by_cases h1 : (l.length : Int) > 1
      · rw [if_pos h1, if_pos (by omega), bt_B]
        obtain ⟨c, r, rfl⟩ := List.exists_cons_of_ne_nil hne
        simp only [show (0 : Int).toNat = 0 from rfl, List.getElem?_cons_zero, Option.getD_some]
        by_cases h48 : c = 48
        · subst h48
          rw [show (((UInt8.toNat 48 : Nat) : Int) == 48) = true from rfl, hagglerref02_Count.j0, if_pos rfl, countL_other]
          intro e
          have hb : val (48 :: r) < 10 ^ 20 ∨ ¬ val (48 :: r) < 10 ^ 20 := by omega
          rcases hb with hb | hb
          · rcases digs_head (val (48 :: r)) hb with h | h
            · rw [digs_one h] at e
              have := congrArg List.length e
              rw [List.length_singleton] at this
              omega
            · rw [e] at h
              exact h rfl
          · have hlen := congrArg List.length e
            have ha : (48 :: r).all isD = true := by rw [← e]; exact digs_all' _
            have := pow_lt_of_val _ ha
            have h3 : 10 ^ (48 :: r).length ≤ 10 ^ 13 := Nat.pow_le_pow_right (by omega) (by omega)
            omega
        · rw [show ((c.toNat : Int) == 48) = false from beq_eq_false_iff_ne.2 (fun e => h48 (by apply UInt8.toNat_inj.1; simp; omega))]
          exact loop (by omega) hne (.inr (by simp [h48]))
      · rw [if_neg h1]
        exact loop (by omega) hne (.inl (by have := List.length_pos_iff.2 hne; omega))

/-! ### Parse -/
theorem bt_get {l : List UInt8} {i : Nat} (h : i < l.length) : bt (B l) (i : Int) = (l[i].toNat : Int) := by
  rw [bt_B, Int.toNat_natCast, List.getElem?_eq_getElem h]
  rfl
/-- behind the sign: the text, and what stands behind it -/
theorem parse_body (l t : List UInt8) (neg : Bool) (hneg : neg = decide (l.head? = some 45)) (ht : t = if l.head? = some 45 then l.tail else l) (hs : t.length ≤ 281474976710656) (k : Nat) (hk : 40 ≤ k) :
    hagglerref02_Parse.j1 k (B l) (if neg = true then -1 else 1) (B t) = some (parseL l) := by
  obtain ⟨k, rfl⟩ : ∃ j, k = j + 5 := ⟨k - 5, by omega⟩
  have hbad : ∀ k', 1 ≤ k' → hagglerref02_Parse.j2 k' (B l) (if neg = true then -1 else 1) (B t) true = some (0, 20) := by
    intro k' h
    obtain ⟨j, rfl⟩ : ∃ j, k' = j + 1 := ⟨k' - 1, by omega⟩
    rw [hagglerref02_Parse.j2, if_pos rfl]
  rw [hagglerref02_Parse.j1, B_size]
  by_cases h4 : t.length < 4
  · rw [if_pos (by omega), hbad _ (by omega)]
    congr 1
    unfold parseL
    simp only [← ht]
    rcases t with _ | ⟨a, _ | ⟨b, _ | ⟨c, _ | ⟨d, t⟩⟩⟩⟩
    · rfl
    · rfl
    · rfl
    · simp [countL_nil]
    · simp at h4
      omega
  · rw [if_neg (by omega)]
    obtain ⟨w, p, c, d, rfl⟩ : ∃ w p c d, t = w ++ [p, c, d] := by
      refine ⟨t.take (t.length - 3), ?_⟩
      have hl : (t.drop (t.length - 3)).length = 3 := by rw [List.length_drop]; omega
      rcases hd : t.drop (t.length - 3) with _ | ⟨p, _ | ⟨c, _ | ⟨d, _ | ⟨e, r⟩⟩⟩⟩ <;> rw [hd] at hl <;> simp at hl
      exact ⟨p, c, d, by rw [← hd, List.take_append_drop]⟩
    have hlen : (w ++ [p, c, d]).length = w.length + 3 := by simp
    have hw : 1 ≤ w.length := by omega
    rw [hlen] at hs ⊢
    have e3 : wrap64 (((w.length + 3 : Nat) : Int) - 3) = (w.length : Int) := by rw [w64 (by omega) (by omega)]; omega
    have e2 : wrap64 (((w.length + 3 : Nat) : Int) - 2) = ((w.length + 1 : Nat) : Int) := by rw [w64 (by omega) (by omega)]; omega
    have q1 : ((w.length + 1 : Nat) : Int) < ((w.length + 3 : Nat) : Int) := by omega
    have q1' : (0 : Int) ≤ ((w.length + 1 : Nat) : Int) := by omega
    have q2 : ((w.length + 2 : Nat) : Int) < ((w.length + 3 : Nat) : Int) := by omega
    have q2' : (0 : Int) ≤ ((w.length + 2 : Nat) : Int) := by omega
    have q3 : wrap64 (((w.length + 2 : Nat) : Int) + 1) = ((w.length + 2 : Nat) : Int) + 1 := w64 (by omega) (by omega)
    have q4 : ¬ ((w.length + 2 : Nat) : Int) + 1 < ((w.length + 3 : Nat) : Int) := by omega
    have v2 : wrap64 (((w.length + 1 : Nat) : Int) + 1) = ((w.length + 2 : Nat) : Int) := by rw [w64 (by omega) (by omega)]; omega
    have q5 : (0 : Int) ≤ (w.length : Int) ∧ (w.length : Int) < ((w.length + 3 : Nat) : Int) ∧ (w.length : Int) ≤ ((w.length + 3 : Nat) : Int) := by omega
    have V1 : ∀ c : UInt8, isD c = true → wrap64 (wrap64 (10 * 0) + (((c.toNat : Int) - 48) % 256)) = (c.toNat : Int) - 48 := by
      intro c hc
      have hc' := of_decide_eq_true hc
      rw [w64 (x := 10 * 0) (by omega) (by omega), w64 (by omega) (by omega)]
      omega
    have V3 : ∀ c d : UInt8, isD c = true → isD d = true → wrap64 (wrap64 (10 * ((c.toNat : Int) - 48)) + (((d.toNat : Int) - 48) % 256)) = 10 * ((c.toNat : Int) - 48) + ((d.toNat : Int) - 48) := by
      intro c d hc hd
      have hc' := of_decide_eq_true hc
      have hd' := of_decide_eq_true hd
      rw [w64 (x := 10 * ((c.toNat : Int) - 48)) (by omega) (by omega), w64 (by omega) (by omega)]
      omega
    have g0 : (w ++ [p, c, d])[w.length]'(by simp) = p := by simp
    have g1 : (w ++ [p, c, d])[w.length + 1]'(by simp) = c := by simp
    have g2 : (w ++ [p, c, d])[w.length + 2]'(by simp) = d := by simp
    have b0 : bt (B (w ++ [p, c, d])) (w.length : Int) = (p.toNat : Int) := by rw [bt_get (by simp), g0]
    have b1 : bt (B (w ++ [p, c, d])) ((w.length + 1 : Nat) : Int) = (c.toNat : Int) := by rw [bt_get (by simp), g1]
    have b2 : bt (B (w ++ [p, c, d])) ((w.length + 2 : Nat) : Int) = (d.toNat : Int) := by rw [bt_get (by simp), g2]
    have hp : parseL l = if p = 46 ∧ isD c = true ∧ isD d = true ∧ 0 ≤ countL w 10000000000 then
        (if textL (if l.head? = some 45 then -(100 * countL w 10000000000 + 10 * ((c.toNat : Int) - 48) + ((d.toNat : Int) - 48)) else 100 * countL w 10000000000 + 10 * ((c.toNat : Int) - 48) + ((d.toNat : Int) - 48)) = l then ((if l.head? = some 45 then -(100 * countL w 10000000000 + 10 * ((c.toNat : Int) - 48) + ((d.toNat : Int) - 48)) else 100 * countL w 10000000000 + 10 * ((c.toNat : Int) - 48) + ((d.toNat : Int) - 48)), 0) else (0, 20)) else (0, 20) := by
      unfold parseL
      simp only [← ht, hlen, Nat.add_sub_cancel, List.drop_left, List.take_left]
    obtain ⟨N, hN⟩ : ∃ N, N = countL w 10000000000 := ⟨_, rfl⟩
    have hNle : N ≤ 10000000000 := by
      rw [hN]
      rcases countL_cases w 10000000000 with e | ⟨n, e, _, h3, _⟩ <;> omega
    rw [← hN] at hp
    rw [e3, if_pos q5.1, if_pos q5.2.1, b0, hp]
    by_cases h46 : p = 46
    · subst h46
      rw [show (((UInt8.toNat 46 : Nat) : Int) != 46) = false from rfl, hagglerref02_Parse.j2, if_neg (by simp), B_size, hlen, e3, if_pos q5.1, if_pos q5.2.2, e2]
      have hx : (B (w ++ [46, c, d])).extract 0 (w.length : Int).toNat = B w := by
        rw [B_extract, Int.toNat_natCast, List.drop_zero, Nat.sub_zero, List.take_left]
      rw [hx, Count_eq' _ _ _ (by omega), B_toList, ← hN]
      simp only [Option.bind_some]
      rw [hagglerref02_Parse.l0, B_size, hlen, if_pos q1, if_pos q1', b1]
      by_cases hc : isD c = true
      · have hc' := of_decide_eq_true hc
        rw [if_neg (by omega), if_neg (by omega)]
        have v1 := V1 c hc
        rw [v1, v2, hagglerref02_Parse.l0, B_size, hlen, if_pos q2, if_pos q2', b2]
        by_cases hd : isD d = true
        · have hd' := of_decide_eq_true hd
          rw [if_neg (by omega), if_neg (by omega)]
          have v3 := V3 c d hc hd
          rw [v3, q3, hagglerref02_Parse.l0, B_size, hlen, if_neg q4]
          by_cases hn : N < 0
          · rw [if_pos hn, if_neg (by rintro ⟨_, _, _, h⟩; exact absurd hn (Int.not_lt.2 h))]
          · have hcl := hNle
            obtain ⟨a, ha⟩ : ∃ a, a = (if l.head? = some 45 then -(100 * N + 10 * ((c.toNat : Int) - 48) + ((d.toNat : Int) - 48)) else 100 * N + 10 * ((c.toNat : Int) - 48) + ((d.toNat : Int) - 48)) := ⟨_, rfl⟩
            have hv : wrap64 ((if neg = true then -1 else 1) * wrap64 (wrap64 (100 * N) + (10 * ((c.toNat : Int) - 48) + ((d.toNat : Int) - 48)))) = a := by
              rw [w64 (x := 100 * N) (by omega) (by omega), w64 (x := 100 * N + (10 * ((c.toNat : Int) - 48) + ((d.toNat : Int) - 48))) (by omega) (by omega)]
              by_cases h45 : l.head? = some 45
              · rw [if_pos h45] at ha
                rw [hneg, decide_eq_true h45, if_pos rfl, w64 (by omega) (by omega)]
                omega
              · rw [if_neg h45] at ha
                rw [hneg, decide_eq_false h45, if_neg (by simp), w64 (by omega) (by omega)]
                omega
            rw [if_neg hn, hv, Text_eq' _ _ (by omega), if_pos ⟨trivial, hc, hd, Int.not_lt.1 hn⟩, ← ha]
            simp only [Option.bind_some, B_tl]
            split <;> rfl
        · have hd' := of_decide_eq_false (by simpa using hd : isD d = false)
          rw [if_neg (c := True ∧ isD c = true ∧ isD d = true ∧ 0 ≤ N) (by rintro ⟨_, _, h, _⟩; exact hd h)]
          by_cases h1 : (d.toNat : Int) < 48
          · rw [if_pos h1]
          · rw [if_neg h1, if_pos (by omega)]
      · have hc' := of_decide_eq_false (by simpa using hc : isD c = false)
        rw [if_neg (c := True ∧ isD c = true ∧ isD d = true ∧ 0 ≤ N) (by rintro ⟨_, h, _⟩; exact hc h)]
        by_cases h1 : (c.toNat : Int) < 48
        · rw [if_pos h1]
        · rw [if_neg h1, if_pos (by omega)]
    · have : ((p.toNat : Int) != 46) = true := bne_iff_ne.2 (fun e => h46 (by apply UInt8.toNat_inj.1; simp; omega))
      rw [this, hbad _ (by omega), if_neg (fun h => h46 h.1)]
theorem Parse_eq' (l : List UInt8) (hs : l.length ≤ 281474976710656) (k : Nat) (hk : 50 ≤ k) : hagglerref02_Parse.f k (B l) = some (parseL l) := by
  obtain ⟨k, rfl⟩ : ∃ j, k = j + 1 := ⟨k - 1, by omega⟩
  unfold hagglerref02_Parse.f
  rw [B_tl, B_size]
  by_cases hne : l = []
  · rw [if_pos hne, hagglerref02_Parse.j0, if_neg (by simp)]
    subst hne
    exact parse_body [] [] false rfl rfl (by simp) k (by omega)
  · have hp := List.length_pos_iff.2 hne
    rw [if_neg hne, if_pos (by omega), bt_B]
    obtain ⟨c, r, rfl⟩ := List.exists_cons_of_ne_nil hne
    simp only [show (0 : Int).toNat = 0 from rfl, List.getElem?_cons_zero, Option.getD_some]
    by_cases h45 : c = 45
    · subst h45
      rw [show (((UInt8.toNat 45 : Nat) : Int) == 45) = true from rfl, hagglerref02_Parse.j0, if_pos rfl, B_size, if_pos (by omega)]
      have hx : (B (45 :: r)).extract 1 (45 :: r).length = B r := by
        rw [B_extract]
        simp
      rw [hx]
      exact parse_body (45 :: r) r true rfl rfl (by simp at hs; omega) k (by omega)
    · rw [show ((c.toNat : Int) == 45) = false from beq_eq_false_iff_ne.2 (fun e => h45 (by apply UInt8.toNat_inj.1; simp; omega)), hagglerref02_Parse.j0, if_neg (by simp)]
      exact parse_body (c :: r) (c :: r) false (by simp [h45]) (by simp [h45]) hs k (by omega)
end Go.Proofs.YtglbgfjmfccemaaDoor.RefDec
