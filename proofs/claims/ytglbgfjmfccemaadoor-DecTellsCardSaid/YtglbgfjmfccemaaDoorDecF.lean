/- What the printed functions of layer 2 come to, in plain words: texts and numerals of PlDec. -/
import Derived.Test.YtglbgfjmfccemaaDoorQx
import Derived.KernelRfl
set_option linter.unusedVariables false
set_option linter.unusedSimpArgs false
namespace Go.Proofs.YtglbgfjmfccemaaDoor.DecF
open Go.RowKit Go.Proofs.YtglbgfjmfccemaaDoor.Q Go.Proofs.YtglbgfjmfccemaaDoor.Pl Go.Proofs.YtglbgfjmfccemaaDoorW.PrintWords Go.Proofs.YtglbgfjmfccemaaDoorW.PrintMore

theorem w64 {x : Int} (h0 : -9223372036854775808 ≤ x) (h1 : x ≤ 9223372036854775807) : wrap64 x = x := by unfold wrap64; omega
theorem tmod_nn {a b : Int} (h : 0 ≤ a) : Int.tmod a b = a % b := Int.tmod_eq_emod_of_nonneg h
theorem tdiv_nn {a b : Int} (h : 0 ≤ a) : Int.tdiv a b = a / b := Int.tdiv_eq_ediv_of_nonneg h
theorem B_extract (l : List UInt8) (i j : Nat) : (B l).extract i j = B ((l.drop i).take (j - i)) := by
  apply ByteArray.ext
  rw [ByteArray.data_extract]
  simp [B]
theorem bt_B (l : List UInt8) (i : Int) : bt (B l) i = ((l[i.toNat]?.getD 0).toNat : Int) := by
  unfold bt
  by_cases h : i.toNat < (B l).size
  · rw [dif_pos h]
    rw [B_size] at h
    simp [B, List.getElem?_eq_getElem h]
    rfl
  · rw [dif_neg h]
    rw [B_size] at h
    rw [List.getElem?_eq_none (by omega)]
    rfl
theorem B_tl (l : List UInt8) : (B l).toList = l := by rw [Lib.toList_data, B_toList]
theorem lit_B (l : List UInt8) : (⟨l.toArray⟩ : ByteArray) = B l := rfl
theorem digs_len (n : Nat) : (digs n).length ≤ 20 := by
  have hp : ∀ (f k : Nat), (digF f k).length ≤ f := by
    intro f
    induction f with
    | zero => intro k; simp [digF]
    | succ f ih =>
      intro k
      rw [digF]
      split
      · simp
      · have := ih (k / 10); simp; omega
  exact hp 20 n
theorem digs_three (r : Nat) (h : r < 100) : digs (100 + r) = [49, dig (r / 10), dig r] := by
  rw [digs_rec _ (by omega), if_neg (by omega), digs_rec _ (by omega), if_neg (by omega), digs_one (by omega)]
  have e1 : dig ((100 + r) / 10 / 10) = 49 := by
    apply UInt8.toNat_inj.1
    rw [dig_toNat]
    simp
    omega
  have e2 : dig ((100 + r) / 10) = dig (r / 10) := by
    apply UInt8.toNat_inj.1
    rw [dig_toNat, dig_toNat]
    omega
  have e3 : dig (100 + r) = dig r := by
    apply UInt8.toNat_inj.1
    rw [dig_toNat, dig_toNat]
    omega
  rw [e1, e2, e3]
  rfl
theorem Itoa_nat (n : Nat) (h : n ≤ 9223372036854775807) : strconv_Itoa.f (n : Int) = some (B (digs n)) := by
  unfold strconv_Itoa.f intL
  rw [if_pos (by omega), if_neg (by omega), Int.toNat_natCast]
theorem Number_eq (n : Int) (h0 : -9223372036854775808 ≤ n) (h1 : n ≤ 9223372036854775807) : dec_Number.f n = some (B (intL n)) := by
  unfold dec_Number.f strconv_Itoa.f
  rw [if_pos ⟨h0, h1⟩]
  rfl
theorem Right_eq (a : Int) : money_Right.f a = some (decide (okA a)) := by
  unfold money_Right.f money_within_int.f okA
  by_cases h : a ≥ -1000000000000
  · rw [if_pos h]
    simp [h]
  · rw [if_neg h]
    simp [h]
theorem Text_eq (a : Int) : dec_Text.f a = some (B (textL a)) := by
  unfold dec_Text.f
  rw [Right_eq]
  simp only [Option.bind_some]
  by_cases h : okA a
  · rw [if_pos (decide_eq_true h), textL_ok h]
    obtain ⟨n, hn⟩ : ∃ n : Nat, n = a.natAbs := ⟨_, rfl⟩
    have hb : n ≤ 1000000000000 := by unfold okA at h; omega
    have e1 : wrap64 (100 + Int.tmod (n : Int) 100) = ((100 + n % 100 : Nat) : Int) := by
      rw [tmod_nn (by omega), w64 (by omega) (by omega)]
      omega
    have e2 : wrap64 (Int.tdiv (n : Int) 100) = ((n / 100 : Nat) : Int) := by
      rw [tdiv_nn (by omega), w64 (by omega) (by omega)]
      omega
    have l1 := digs_len (n / 100)
    have e3 : (B (digs (100 + n % 100))).extract 1 (B (digs (100 + n % 100))).size = B [dig (n / 10), dig n] := by
      rw [digs_three _ (by omega), B_extract, B_size]
      have e4 : dig (n % 100 / 10) = dig (n / 10) := by
        apply UInt8.toNat_inj.1
        rw [dig_toNat, dig_toNat]
        omega
      have e5 : dig (n % 100) = dig n := by
        apply UInt8.toNat_inj.1
        rw [dig_toNat, dig_toNat]
        omega
      rw [e4, e5]
      rfl
    have s1 : ((B (digs (100 + n % 100))).size : Int) = 3 := by rw [digs_three _ (by omega), B_size]; rfl
    rw [← hn]
    by_cases hneg : a < 0
    · have e0 : wrap64 (-a) = (n : Int) := by rw [w64 (by omega) (by omega)]; omega
      rw [if_pos hneg, if_pos hneg, e0, e1, e2, Itoa_nat _ (by omega), Itoa_nat _ (by omega)]
      simp only [Option.bind_some]
      rw [e3, s1]
      rw [show (⟨#[45]⟩ : ByteArray) = B [45] from rfl, show (⟨#[46]⟩ : ByteArray) = B [46] from rfl, B_append, B_append, B_append]
      rw [if_pos (by rw [B_size]; omega), if_pos (by rw [B_size]; simp; omega), if_pos (by omega), if_pos (by rw [B_size, B_size]; simp; omega)]
      simp
    · have e0 : a = (n : Int) := by omega
      rw [if_neg hneg, if_neg hneg, e0, e1, e2, Itoa_nat _ (by omega), Itoa_nat _ (by omega)]
      simp only [Option.bind_some]
      rw [e3, s1]
      rw [show (⟨#[]⟩ : ByteArray) = B [] from rfl, show (⟨#[46]⟩ : ByteArray) = B [46] from rfl, B_append, B_append, B_append]
      rw [if_pos (by rw [B_size]; omega), if_pos (by rw [B_size]; simp; omega), if_pos (by omega), if_pos (by rw [B_size, B_size]; simp; omega)]
      simp
  · rw [if_neg (by simpa using h), textL_no h]
    rfl
theorem Count_eq (s : ByteArray) (m : Int) (hs : s.size ≤ 281474976710656) (h0 : -9223372036854775808 ≤ m) (h1 : m ≤ 9223372036854775807) : dec_Count.f s m = some (countL s.data.toList m) := by
  unfold dec_Count.f
  rw [if_pos ⟨hs, h0, h1⟩]
/-! ### Parse -/
theorem idxB_first : ∀ (w r : List UInt8), (46 : UInt8) ∉ w → Lib.indexByte (w ++ 46 :: r) 46 = (w.length : Int)
  | [], r, _ => by simp [Lib.indexByte]
  | c :: w, r, h => by
    simp only [List.mem_cons, not_or] at h
    have ih := idxB_first w r h.2
    have hc : (c == 46) = false := beq_eq_false_iff_ne.2 (Ne.symm h.1)
    simp only [List.cons_append, Lib.indexByte, hc, ih]
    simp
    try omega
theorem cut_first (w r : List UInt8) (h : (46 : UInt8) ∉ w) : Lib.cut (w ++ 46 :: r) [46] = (w, r, true) := by
  have e : Lib.index (w ++ 46 :: r) [46] = (w.length : Int) := by rw [Lib.index_one, idxB_first w r h]
  unfold Lib.cut
  simp only [e]
  rw [if_pos (by omega)]
  simp
theorem trim_eq (l : List UInt8) : Lib.trimPrefix l [45] = if l.head? = some 45 then l.tail else l := by
  unfold Lib.trimPrefix Lib.hasPrefix
  cases l with
  | nil => simp
  | cons c l =>
    by_cases h : c = 45
    · subst h; simp
    · have h' : ¬ (45 : UInt8) = c := fun e => h e.symm
      simp [h, h']
def goP (l : List UInt8) : Int × Int :=
  let c := Lib.cut (if l.head? = some 45 then l.tail else l) [46]
  let n := countL c.1 10000000000
  if n < 0 ∨ c.2.1.length ≠ 2 ∨ allL c.2.1 = false then (0, 20) else
  let m := n * 100 + ((c.2.1[0]?.getD 0).toNat - 48 : Int) * 10 + ((c.2.1[1]?.getD 0).toNat - 48 : Int)
  let a := if l.head? = some 45 then -m else m
  if textL a = l then (a, 0) else (0, 20)
theorem countL_nil (m : Int) : countL [] m = -1 := by simp [countL]
theorem two_cases (c : Prop) [Decidable c] (a : Int) {s : List UInt8} (hs : s ≠ []) : (if c then ((0, 20) : Int × Int) else if textL a = s then (a, 0) else (0, 20)) = (0, 20) ∨ ∃ b, okA b ∧ s = textL b := by
  by_cases h : c
  · exact .inl (if_pos h)
  · rw [if_neg h]
    exact step_cases _ hs
theorem goP_eq (l : List UInt8) : goP l = parseL l := by
  refine parseL_unique (f := goP) ?_ ?_ l
  · intro a ha
    unfold goP
    simp only [body_text ha]
    have h46 : (46 : UInt8) ∉ digs (a.natAbs / 100) := by
      intro hm
      have := List.all_eq_true.1 (digs_all' (a.natAbs / 100)) _ hm
      simp [isD] at this
    rw [cut_first _ _ h46]
    have hb : a.natAbs ≤ 1000000000000 := by unfold okA at ha; omega
    have hc := countL_digs (a.natAbs / 100) 10000000000 (by omega) (by omega)
    have hal : allL [dig (a.natAbs / 10), dig a.natAbs] = true := by simp [allL, dig_isD]
    simp only [hc, hal]
    rw [if_neg (by simp; omega)]
    simp only [List.getElem?_cons_zero, List.getElem?_cons_succ, Option.getD_some, dig_toNat]
    have hm : ((a.natAbs / 100 : Nat) : Int) * 100 + (((48 + a.natAbs / 10 % 10 : Nat) : Int) - 48) * 10 + (((48 + a.natAbs % 10 : Nat) : Int) - 48) = a.natAbs := by omega
    rw [hm]
    have ha' : (if (textL a).head? = some 45 then -(a.natAbs : Int) else (a.natAbs : Int)) = a := by
      by_cases hn : a < 0
      · rw [if_pos ((head_text ha).2 hn)]; omega
      · rw [if_neg (fun e => hn ((head_text ha).1 e))]; omega
    rw [ha', if_pos rfl]
  · intro s
    by_cases hs : s = []
    · subst hs
      left
      unfold goP
      simp [Lib.cut, Lib.index, countL_nil]
    · unfold goP
      exact two_cases _ _ hs
theorem mem_take_cut (t : List UInt8) (h : (Lib.cut t [46]).1 ≠ []) : t ≠ [] := by
  intro e
  subst e
  exact h (by simp [Lib.cut, Lib.index])
theorem cut_len1 (t : List UInt8) : (Lib.cut t [46]).1.length ≤ t.length ∧ (Lib.cut t [46]).2.1.length ≤ t.length := by
  unfold Lib.cut
  split
  · simp
    omega
  · simp
theorem Parse_eq (l : List UInt8) (hs : l.length ≤ 281474976710656) (k : Nat) : dec_Parse.f (k + 1) (B l) = some (parseL l) := by
  rw [← goP_eq]
  unfold dec_Parse.f strings_TrimPrefix.f
  simp only [Option.bind_some]
  rw [B_toList]
  try rw [show (⟨#[45]⟩ : ByteArray).data.toList = [45] from rfl]
  rw [trim_eq]
  obtain ⟨t, ht⟩ : ∃ t, t = if l.head? = some 45 then l.tail else l := ⟨_, rfl⟩
  have htl : t.length ≤ l.length := by
    rw [ht]
    split
    · simp
    · omega
  rw [← ht]
  unfold strings_Cut.f
  rw [if_pos ⟨rfl, by rw [B_size]; omega⟩]
  simp only [Option.bind_some]
  rw [B_toList]
  try rw [show (⟨#[46]⟩ : ByteArray).data.toList = [46] from rfl]
  obtain ⟨hc1, hc2⟩ := cut_len1 t
  have hm1 := mem_take_cut t
  rw [Count_eq _ _ (by rw [B_size]; omega) (by omega) (by omega), B_toList]
  simp only [Option.bind_some]
  unfold goP
  simp only [← ht]
  obtain ⟨w, hw⟩ : ∃ w, w = (Lib.cut t [46]).1 := ⟨_, rfl⟩
  obtain ⟨r, hr⟩ : ∃ r, r = (Lib.cut t [46]).2.1 := ⟨_, rfl⟩
  rw [← hw] at hm1 hc1 ⊢
  rw [← hr] at hc2 ⊢
  by_cases hn : countL w 10000000000 < 0
  · rw [if_pos hn, if_pos (.inl hn)]
    rfl
  · rw [if_neg hn]
    by_cases h2 : r.length = 2
    · rw [if_pos (by rw [B_size]; omega)]
      unfold dec_all.f
      simp only [Option.bind_some]
      rw [B_toList]
      by_cases hal : allL r = true
      · have hne : w ≠ [] := by
          intro e
          rw [e, countL_nil] at hn
          omega
        have hl0 : t ≠ [] := hm1 hne
        have hl : 0 < l.length := by
          have := List.length_pos_iff.2 hl0
          omega
        obtain ⟨c, d, rfl⟩ : ∃ c d, r = [c, d] := by
          rcases r with _ | ⟨c, _ | ⟨d, _ | ⟨e, r⟩⟩⟩ <;> simp at h2
          exact ⟨c, d, rfl⟩
        have hcd : isD c = true ∧ isD d = true := by simpa [allL] using hal
        have hc := of_decide_eq_true hcd.1
        have hd := of_decide_eq_true hcd.2
        rw [if_neg (by simp [hal]; omega)]
        have hcl : countL w 10000000000 ≤ 10000000000 := by
          rcases countL_cases w 10000000000 with e | ⟨n, e, _, h3, _⟩ <;> omega
        simp only [hal, Bool.not_true, dec_Parse.j0]
        rw [if_neg (by simp), if_pos (by rw [B_size]; simp), if_pos (by rw [B_size]; simp), if_pos (by rw [B_size]; omega)]
        simp only [bt_B]
        simp only [show (0 : Int).toNat = 0 from rfl, show (1 : Int).toNat = 1 from rfl, List.getElem?_cons_zero, List.getElem?_cons_succ, Option.getD_some]
        have e1 : (((c.toNat : Int) - 48) % 256) = (c.toNat : Int) - 48 := by omega
        have e2 : (((d.toNat : Int) - 48) % 256) = (d.toNat : Int) - 48 := by omega
        have e3 : wrap64 (wrap64 (wrap64 (countL w 10000000000 * 100) + ((c.toNat : Int) - 48) * 10) + ((d.toNat : Int) - 48)) = countL w 10000000000 * 100 + ((c.toNat : Int) - 48) * 10 + ((d.toNat : Int) - 48) := by
          rw [w64 (x := countL w 10000000000 * 100) (by omega) (by omega), w64 (x := countL w 10000000000 * 100 + ((c.toNat : Int) - 48) * 10) (by omega) (by omega), w64 (by omega) (by omega)]
        have e4 : wrap64 (-(countL w 10000000000 * 100 + ((c.toNat : Int) - 48) * 10 + ((d.toNat : Int) - 48))) = -(countL w 10000000000 * 100 + ((c.toNat : Int) - 48) * 10 + ((d.toNat : Int) - 48)) := w64 (by omega) (by omega)
        rw [e1, e2, e3, e4]
        have hh : (((l[0]?.getD 0).toNat : Int) = 45) ↔ l.head? = some 45 := by
          obtain ⟨x, l', rfl⟩ := List.exists_cons_of_ne_nil (List.ne_nil_of_length_pos hl)
          simp only [List.getElem?_cons_zero, Option.getD_some, List.head?_cons, Option.some.injEq]
          constructor
          · intro e; apply UInt8.toNat_inj.1; simp; omega
          · intro e; subst e; rfl
        by_cases h45 : l.head? = some 45
        · rw [if_pos (hh.2 h45), if_pos h45, Text_eq]
          simp only [Option.bind_some, B_tl]
          split <;> rfl
        · rw [if_neg (fun e => h45 (hh.1 e)), if_neg h45, Text_eq]
          simp only [Option.bind_some, B_tl]
          split <;> rfl
      · have hal : allL r = false := by simpa using hal
        rw [if_pos (.inr (.inr hal))]
        simp [hal, dec_Parse.j0]
    · rw [if_neg (by rw [B_size]; omega), if_pos (.inr (.inl h2))]
      rfl
/-! ### first calls; raw numbers -/
theorem awake1 : hagglerlaw02_awake.f 1 = some true := by kernel_rfl
theorem awake_eq (k : Nat) : hagglerlaw02_awake.f (k + 1) = some true := at_rounds (fun k => hagglerlaw02_awake.mono k) (by omega) awake1
def pickL (a n : Int) : Int := (if a < 0 then -(a + 1) else a) % n
theorem wf64 {a : Int} (h : (Lit.int .i64 a).wf = true) : -9223372036854775808 ≤ a ∧ a ≤ 9223372036854775807 := by
  simpa [Lit.wf, IntKind.min, IntKind.max, IntKind.signed, IntKind.bits] using h
theorem pick_eq {a n : Int} (ha : (Lit.int .i64 a).wf = true) (hn : 1 ≤ n) : hagglerlaw02_pick.f a n = some (pickL a n) ∧ 0 ≤ pickL a n ∧ pickL a n < n := by
  obtain ⟨h0, h1⟩ := wf64 ha
  have hr : 0 ≤ pickL a n ∧ pickL a n < n := ⟨Int.emod_nonneg _ (by omega), Int.emod_lt_of_pos _ (by omega)⟩
  refine ⟨?_, hr⟩
  unfold hagglerlaw02_pick.f pickL
  by_cases h : a < 0
  · rw [if_pos h, if_neg (by omega), if_pos h, w64 (x := a + 1) (by omega) (by omega), w64 (by omega) (by omega), tmod_nn (by omega)]
  · rw [if_neg h, if_neg (by omega), if_neg h, tmod_nn (by omega)]
theorem pick1_eq {a n : Int} (ha : (Lit.int .i64 a).wf = true) (hn : 1 ≤ n) : hagglerlaw01_pick.f a n = some (pickL a n) := by
  have := (pick_eq ha hn).1
  exact this
theorem Amount_eq {a : Int} (ha : (Lit.int .i64 a).wf = true) : ∃ x, hagglerlaw01_Amount.f a = some x ∧ okA x := by
  have hp := pick_eq ha (n := 2000000000001) (by omega)
  refine ⟨pickL a 2000000000001 - 1000000000000, ?_, ?_⟩
  · unfold hagglerlaw01_Amount.f
    rw [pick1_eq ha (by omega)]
    simp only [Option.bind_some]
    rw [w64 (by omega) (by omega)]
  · unfold okA
    omega
theorem textL_neg {x : Int} (h : okA x) (h1 : 1 ≤ x) : textL (-x) = 45 :: textL x := by
  rw [textL_ok h, textL_ok (by unfold okA at h ⊢; omega), if_pos (by omega), if_neg (by omega), Int.natAbs_neg]
  simp
theorem parse_no {s : List UInt8} (h : ∀ a, okA a → s ≠ textL a) : parseL s = (0, 20) := by
  rcases parseL_cases s with e | ⟨a, ha, e, _⟩
  · exact e
  · exact absurd e (h a ha)
theorem text_head45 {b : Int} (hb : okA b) {r : List UInt8} (h : textL b = 45 :: r) : b < 0 ∧ r = textL (-b) := by
  have hn : b < 0 := (head_text hb).1 (by rw [h]; rfl)
  refine ⟨hn, ?_⟩
  have := textL_neg (x := -b) (by unfold okA at hb ⊢; omega) (by omega)
  rw [Int.neg_neg, h] at this
  exact (List.cons.inj this).2
theorem text_size {x : Int} : (textL x).length ≤ 24 := by
  by_cases h : okA x
  · rw [textL_ok h]
    have := digs_len (x.natAbs / 100)
    split <;> simp <;> omega
  · rw [textL_no h]
    simp
end Go.Proofs.YtglbgfjmfccemaaDoor.DecF
