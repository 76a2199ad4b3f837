/- Plain laws on numerals and amounts (layer 2): what a numeral's text, an amount's text, and their reading are, as functions on lists of bytes. No program in sight. -/
import Derived.Lib.ItoaNum
import Derived.Lib.AtoiAll
import Derived.Lib.Strings
import Derived.Lib.IndexMore
set_option linter.unusedVariables false
set_option linter.unusedSimpArgs false
namespace Go.Proofs.YtkolnkjdcncmpaaGreatDoor.Pl
open Go

def B (l : List UInt8) : ByteArray := ⟨l.toArray⟩
theorem B_toList (l : List UInt8) : (B l).data.toList = l := by simp [B]
theorem B_toList' (s : ByteArray) : B s.data.toList = s := by simp [B]
theorem B_size (l : List UInt8) : (B l).size = l.length := by simp [B, ByteArray.size]
theorem B_append (l r : List UInt8) : B l ++ B r = B (l ++ r) := by
  apply ByteArray.ext
  simp [B]
def isD (c : UInt8) : Bool := decide (48 ≤ c.toNat ∧ c.toNat ≤ 57)
def dig (n : Nat) : UInt8 := UInt8.ofNat (48 + n % 10)
theorem dig_toNat (n : Nat) : (dig n).toNat = 48 + n % 10 := by
  simp only [dig, UInt8.toNat_ofNat']
  omega
theorem dig_isD (n : Nat) : isD (dig n) = true := by
  simp only [isD, dig_toNat]
  exact decide_eq_true (by omega)
theorem dig_of_isD {c : UInt8} (h : isD c = true) : dig (c.toNat - 48) = c := by
  have h := of_decide_eq_true h
  apply UInt8.toNat_inj.1
  rw [dig_toNat]
  omega
def digF : Nat → Nat → List UInt8
  | 0, _ => []
  | f + 1, n => if n < 10 then [dig n] else digF f (n / 10) ++ [dig n]
def digs (n : Nat) : List UInt8 := digF 20 n

theorem digF_eq : ∀ (f n : Nat), 1 ≤ f → n < 10 ^ f → digF f n = Lib.decDigits n
  | 0, n, h, _ => absurd h (by omega)
  | f + 1, n, _, hn => by
    rw [digF, Lib.decDigits]
    by_cases h : n < 10
    · rw [if_pos h, dif_pos h]
      simp only [dig]
      rw [Nat.mod_eq_of_lt h]
    · rw [if_neg h, dif_neg h, digF_eq f (n / 10) ?_ ?_]
      · rfl
      · rcases f with _ | f
        · simp at hn; omega
        · omega
      · rw [Nat.pow_succ] at hn
        omega
theorem digs_eq (n : Nat) (h : n < 10 ^ 20) : Lib.decDigits n = digs n := (digF_eq 20 n (by omega) h).symm
theorem digF_more : ∀ (f n : Nat), 1 ≤ f → n < 10 ^ f → digF (f + 1) n = digF f n := fun f n h hn => by
  rw [digF_eq f n h hn, digF_eq (f + 1) n (by omega) (by rw [Nat.pow_succ]; omega)]
/-- the recursion, with no fuel in sight -/
theorem digs_rec (n : Nat) (h : n < 10 ^ 20) : digs n = if n < 10 then [dig n] else digs (n / 10) ++ [dig n] := by
  by_cases h1 : n < 10
  · rw [if_pos h1, digs, digF, if_pos h1]
  · rw [if_neg h1, digs, digF, if_neg h1, digs, digF_more 19 (n / 10) (by omega) (by omega)]
theorem digs_one {n : Nat} (h : n < 10) : digs n = [dig n] := by rw [digs, digF, if_pos h]
theorem digs_all : ∀ (f n : Nat), (digF f n).all isD = true
  | 0, n => rfl
  | f + 1, n => by
    rw [digF]
    split
    · simp [dig_isD]
    · simp [dig_isD, List.all_append, digs_all f]
theorem digs_all' (n : Nat) : (digs n).all isD = true := digs_all 20 n
theorem digs_ne (n : Nat) : digs n ≠ [] := by
  rw [digs, digF]
  split <;> simp

def val (l : List UInt8) : Nat := l.foldl (fun a c => a * 10 + (c.toNat - 48)) 0
theorem val_snoc (l : List UInt8) (c : UInt8) : val (l ++ [c]) = val l * 10 + (c.toNat - 48) := by simp [val]
theorem val_digF : ∀ (f n : Nat), 1 ≤ f → n < 10 ^ f → val (digF f n) = n
  | 0, n, h, _ => absurd h (by omega)
  | f + 1, n, _, hn => by
    rw [digF]
    by_cases h : n < 10
    · rw [if_pos h]
      simp only [val, List.foldl, dig_toNat]
      omega
    · rw [if_neg h, val_snoc, val_digF f (n / 10) ?_ ?_, dig_toNat]
      · omega
      · rcases f with _ | f
        · simp at hn; omega
        · omega
      · rw [Nat.pow_succ] at hn
        omega
theorem val_digs (n : Nat) (h : n < 10 ^ 20) : val (digs n) = n := val_digF 20 n (by omega) h
theorem head_app {l r : List UInt8} (h : l ≠ []) : (l ++ r).head? = l.head? := by
  cases l with
  | nil => exact absurd rfl h
  | cons c l => rfl
/-- no nought ahead, but of 0 -/
theorem digs_head (n : Nat) (h : n < 10 ^ 20) : n < 10 ∨ (digs n).head? ≠ some 48 := by
  suffices H : ∀ k n : Nat, n ≤ k → n < 10 ^ 20 → 1 ≤ n → (digs n).head? ≠ some 48 by
    rcases Nat.lt_or_ge n 10 with h1 | h1
    · exact .inl h1
    · exact .inr (H n n (Nat.le_refl _) h (by omega))
  intro k
  induction k with
  | zero => intro n h1 h2 h3; omega
  | succ k ih =>
    intro n h1 h2 h3
    rw [digs_rec n h2]
    by_cases h4 : n < 10
    · rw [if_pos h4]
      intro e
      have e : dig n = 48 := by simpa using e
      have := congrArg UInt8.toNat e
      rw [dig_toNat] at this
      simp at this
      omega
    · rw [if_neg h4, head_app (digs_ne _)]
      exact ih (n / 10) (by omega) (by omega) (by omega)
theorem pow_lt_of_val : ∀ (l : List UInt8), l.all isD = true → val l < 10 ^ l.length := by
  intro l
  suffices H : ∀ (k : Nat) (l : List UInt8), l.length = k → l.all isD = true → val l < 10 ^ k from fun h => H _ l rfl h
  intro k
  induction k with
  | zero =>
    intro l hl _
    rw [List.length_eq_zero_iff.1 hl]
    simp [val]
  | succ k ih =>
    intro l hl ha
    obtain ⟨r, c, rfl⟩ : ∃ r c, l = r ++ [c] := by
      refine ⟨l.dropLast, l.getLast (by intro e; simp [e] at hl), (List.dropLast_concat_getLast _).symm⟩
    rw [val_snoc]
    simp only [List.all_append, List.all_cons, List.all_nil, Bool.and_true, Bool.and_eq_true] at ha
    have h1 := ih r (by simpa using hl) ha.1
    have h2 := of_decide_eq_true ha.2
    rw [Nat.pow_succ]
    omega
/-- a text of digits without a nought ahead is its number's -/
theorem digs_val : ∀ (k : Nat) (l : List UInt8), l.length = k + 1 → k < 20 → l.all isD = true → (k = 0 ∨ l.head? ≠ some 48) → digs (val l) = l ∧ (l.head? ≠ some 48 → 1 ≤ val l) := by
  intro k
  induction k with
  | zero =>
    intro l hl _ ha _
    obtain ⟨c, rfl⟩ : ∃ c, l = [c] := List.length_eq_one_iff.1 hl
    have hc : isD c = true := by simpa using ha
    have hc' := of_decide_eq_true hc
    have hv : val [c] = c.toNat - 48 := by simp [val]
    rw [hv]
    refine ⟨?_, fun hne => ?_⟩
    · rw [digs_one (by omega), dig_of_isD hc]
    · rcases Nat.eq_zero_or_pos (c.toNat - 48) with h0 | h0
      · exact absurd (by simp; apply UInt8.toNat_inj.1; simp; omega) hne
      · exact h0
  | succ k ih =>
    intro l hl hk ha hh
    obtain ⟨r, c, rfl⟩ : ∃ r c, l = r ++ [c] := by
      refine ⟨l.dropLast, l.getLast (by intro e; simp [e] at hl), (List.dropLast_concat_getLast _).symm⟩
    have hlr : r.length = k + 1 := by simpa using hl
    have hr0 : r ≠ [] := by intro e; simp [e] at hlr
    rw [head_app hr0] at hh ⊢
    have hh' : r.head? ≠ some 48 := by
      rcases hh with h | h
      · omega
      · exact h
    simp only [List.all_append, List.all_cons, List.all_nil, Bool.and_true, Bool.and_eq_true] at ha
    obtain ⟨h1, h2⟩ := ih r hlr (by omega) ha.1 (.inr hh')
    have h3 := h2 hh'
    have hc' := of_decide_eq_true ha.2
    have hp := pow_lt_of_val (r ++ [c]) (by simp [List.all_append, ha.1, ha.2])
    have hlen : (r ++ [c]).length ≤ 20 := by omega
    have hlt : val (r ++ [c]) < 10 ^ 20 := Nat.lt_of_lt_of_le hp (Nat.pow_le_pow_right (by omega) hlen)
    rw [digs_rec _ hlt, val_snoc] at *
    refine ⟨?_, fun _ => by omega⟩
    rw [if_neg (by omega), show (val r * 10 + (c.toNat - 48)) / 10 = val r from by omega, h1]
    congr 1
    have : dig (val r * 10 + (c.toNat - 48)) = dig (c.toNat - 48) := by
      apply UInt8.toNat_inj.1
      rw [dig_toNat, dig_toNat]
      omega
    rw [this, dig_of_isD ha.2]

/-! ### numbers -/
def intL (n : Int) : List UInt8 := if n < 0 then 45 :: digs n.natAbs else digs n.toNat
theorem intL_eq (n : Int) (h0 : -9223372036854775808 ≤ n) (h1 : n ≤ 9223372036854775807) : Lib.itoa n = intL n := by
  unfold Lib.itoa intL
  split
  · rw [digs_eq _ (by omega)]
  · rw [digs_eq _ (by omega)]

def countL (s : List UInt8) (most : Int) : Int :=
  if s ≠ [] ∧ s.length ≤ 13 ∧ s.all isD = true ∧ digs (val s) = s ∧ (val s : Int) ≤ most ∧ val s ≤ 1000000000000 then val s else -1

/-! ### amounts -/
def textL (a : Int) : List UInt8 :=
  if -1000000000000 ≤ a ∧ a ≤ 1000000000000 then (if a < 0 then [45] else []) ++ digs (a.natAbs / 100) ++ [46, dig (a.natAbs / 10), dig a.natAbs] else []

def parseL (s : List UInt8) : Int × Int :=
  let neg := s.head? = some 45
  let t := if neg then s.tail else s
  let whole := t.take (t.length - 3)
  match t.drop (t.length - 3) with
  | [p, c, d] =>
    if p = 46 ∧ isD c = true ∧ isD d = true ∧ 0 ≤ countL whole 10000000000 then
      let m := 100 * countL whole 10000000000 + 10 * ((c.toNat : Int) - 48) + ((d.toNat : Int) - 48)
      let a := if neg then -m else m
      if textL a = s then (a, 0) else (0, 20)
    else (0, 20)
  | _ => (0, 20)

/-- right: may be -/
def okA (a : Int) : Prop := -1000000000000 ≤ a ∧ a ≤ 1000000000000
instance (a : Int) : Decidable (okA a) := by unfold okA; exact inferInstance
theorem textL_ok {a : Int} (h : okA a) : textL a = (if a < 0 then [45] else []) ++ digs (a.natAbs / 100) ++ [46, dig (a.natAbs / 10), dig a.natAbs] := by
  unfold textL
  exact if_pos h
theorem textL_no {a : Int} (h : ¬ okA a) : textL a = [] := by
  unfold textL
  exact if_neg h
theorem textL_ne {a : Int} (h : okA a) : textL a ≠ [] := by
  rw [textL_ok h]
  simp
theorem countL_digs (n : Nat) (most : Int) (h1 : (n : Int) ≤ most) (h2 : n ≤ 1000000000000) : countL (digs n) most = n := by
  have hv := val_digs n (by omega)
  unfold countL
  rw [if_pos, hv]
  refine ⟨digs_ne n, ?_, digs_all' n, by rw [hv], by rw [hv]; exact h1, by rw [hv]; exact h2⟩
  have hp : ∀ (f k : Nat), (digF f k).length ≤ f := by
    intro f
    induction f with
    | zero => intro k; simp [digF]
    | succ f ih =>
      intro k
      rw [digF]
      split
      · simp
      · have := ih (k / 10); simp; omega
  have e : digs n = digF 13 n := by
    rw [digs, digF_eq 20 n (by omega) (by omega), digF_eq 13 n (by omega) (by omega)]
  rw [e]
  exact hp 13 n
theorem countL_cases (s : List UInt8) (most : Int) : countL s most = -1 ∨ ∃ n : Nat, countL s most = n ∧ s = digs n ∧ (n : Int) ≤ most ∧ n ≤ 1000000000000 := by
  unfold countL
  split
  · rename_i h
    exact .inr ⟨val s, rfl, h.2.2.2.1.symm, h.2.2.2.2.1, h.2.2.2.2.2⟩
  · exact .inl rfl
theorem digs_no45 (n : Nat) : (digs n).head? ≠ some 45 := by
  intro e
  have h := digs_all' n
  obtain ⟨c, r, hc⟩ : ∃ c r, digs n = c :: r := List.exists_cons_of_ne_nil (digs_ne n)
  rw [hc] at h e
  simp at e
  subst e
  simp [isD] at h
theorem head_text {a : Int} (h : okA a) : (textL a).head? = some 45 ↔ a < 0 := by
  rw [textL_ok h]
  by_cases hn : a < 0
  · simp [hn]
  · simp only [if_neg hn, List.nil_append]
    rw [head_app (digs_ne _)]
    exact ⟨fun e => absurd e (digs_no45 _), fun e => absurd e hn⟩
theorem body_text {a : Int} (h : okA a) : (if (textL a).head? = some 45 then (textL a).tail else textL a) = digs (a.natAbs / 100) ++ [46, dig (a.natAbs / 10), dig a.natAbs] := by
  by_cases hn : a < 0
  · rw [if_pos ((head_text h).2 hn), textL_ok h, if_pos hn]
    simp
  · rw [if_neg (fun e => hn ((head_text h).1 e)), textL_ok h, if_neg hn]
    simp
theorem parseL_text {a : Int} (h : okA a) : parseL (textL a) = (a, 0) := by
  unfold parseL
  simp only [body_text h]
  have hl : (digs (a.natAbs / 100) ++ [46, dig (a.natAbs / 10), dig a.natAbs]).length - 3 = (digs (a.natAbs / 100)).length := by simp
  rw [hl, List.drop_left, List.take_left]
  have h1 : a.natAbs ≤ 1000000000000 := by unfold okA at h; omega
  have hc := countL_digs (a.natAbs / 100) 10000000000 (by omega) (by omega)
  simp only [hc]
  rw [if_pos ⟨trivial, dig_isD _, dig_isD _, by omega⟩]
  simp only [dig_toNat]
  have ha : (if (textL a).head? = some 45 then -(100 * ((a.natAbs / 100 : Nat) : Int) + 10 * (((48 + a.natAbs / 10 % 10 : Nat) : Int) - 48) + (((48 + a.natAbs % 10 : Nat) : Int) - 48)) else 100 * ((a.natAbs / 100 : Nat) : Int) + 10 * (((48 + a.natAbs / 10 % 10 : Nat) : Int) - 48) + (((48 + a.natAbs % 10 : Nat) : Int) - 48)) = a := by
    have hm : 100 * ((a.natAbs / 100 : Nat) : Int) + 10 * (((48 + a.natAbs / 10 % 10 : Nat) : Int) - 48) + (((48 + a.natAbs % 10 : Nat) : Int) - 48) = a.natAbs := by omega
    rw [hm]
    by_cases hn : a < 0
    · rw [if_pos ((head_text h).2 hn)]; omega
    · rw [if_neg (fun e => hn ((head_text h).1 e))]; omega
  simp only [ha, if_true]
theorem step_cases (a : Int) {s : List UInt8} (hs : s ≠ []) : (if textL a = s then ((a, 0) : Int × Int) else (0, 20)) = (0, 20) ∨ ∃ b, okA b ∧ s = textL b := by
  by_cases h : textL a = s
  · by_cases hk : okA a
    · exact .inr ⟨a, hk, h.symm⟩
    · rw [textL_no hk] at h
      exact absurd h.symm hs
  · exact .inl (if_neg h)
theorem parseL_cases (s : List UInt8) : parseL s = (0, 20) ∨ ∃ a, okA a ∧ s = textL a ∧ parseL s = (a, 0) := by
  have H : parseL s = (0, 20) ∨ ∃ b, okA b ∧ s = textL b := by
    by_cases hs : s = []
    · subst hs
      left
      decide
    · unfold parseL
      simp only []
      split
      · rename_i p c d _
        by_cases hc : p = 46 ∧ isD c = true ∧ isD d = true ∧ 0 ≤ countL (List.take ((if s.head? = some 45 then s.tail else s).length - 3) (if s.head? = some 45 then s.tail else s)) 10000000000
        · rw [if_pos hc]
          exact step_cases _ hs
        · rw [if_neg hc]
          exact .inl rfl
      · exact .inl rfl
  rcases H with h | ⟨a, h1, h2⟩
  · exact .inl h
  · exact .inr ⟨a, h1, h2, by rw [h2]; exact parseL_text h1⟩
/-- WHATEVER reads all amounts' texts, and nothing else, reads as parseL does. -/
theorem parseL_unique {f : List UInt8 → Int × Int} (h1 : ∀ a, okA a → f (textL a) = (a, 0)) (h2 : ∀ s, f s = (0, 20) ∨ ∃ a, okA a ∧ s = textL a) (s : List UInt8) : f s = parseL s := by
  by_cases h : ∃ a, okA a ∧ s = textL a
  · obtain ⟨a, ha, rfl⟩ := h
    rw [h1 a ha, parseL_text ha]
  · rcases h2 s with e | e
    · rcases parseL_cases s with e' | ⟨a, ha, hs, _⟩
      · rw [e, e']
      · exact absurd ⟨a, ha, hs⟩ h
    · exact absurd e h
/-! ### strconv's reading of digits -/
def valFrom (acc : Nat) (l : List UInt8) : Nat := l.foldl (fun a c => a * 10 + (c.toNat - 48)) acc
theorem valFrom_ge : ∀ (l : List UInt8) (acc : Nat), acc ≤ valFrom acc l
  | [], acc => Nat.le_refl _
  | c :: l, acc => by
    have := valFrom_ge l (acc * 10 + (c.toNat - 48))
    simp only [valFrom, List.foldl] at this ⊢
    omega
theorem parseUint10_digits : ∀ (l : List UInt8) (acc : Nat), l.all isD = true → acc < 18446744073709551616 →
    (Lib.parseUint10 acc l = .ok (valFrom acc l) ∧ valFrom acc l < 18446744073709551616) ∨ (Lib.parseUint10 acc l = .range ∧ 18446744073709551616 ≤ valFrom acc l)
  | [], acc, _, h => .inl ⟨rfl, h⟩
  | c :: l, acc, ha, h => by
    simp only [List.all_cons, Bool.and_eq_true] at ha
    have hc := of_decide_eq_true ha.1
    have hv : valFrom acc (c :: l) = valFrom (acc * 10 + (c.toNat - 48)) l := rfl
    have hge := valFrom_ge l (acc * 10 + (c.toNat - 48))
    rw [hv]
    simp only [Lib.parseUint10]
    rw [if_pos hc]
    by_cases h1 : 1844674407370955162 ≤ acc
    · rw [if_pos h1]
      exact .inr ⟨rfl, by omega⟩
    · rw [if_neg h1]
      by_cases h2 : 18446744073709551616 ≤ acc * 10 + (c.toNat - 48)
      · rw [if_pos h2]
        exact .inr ⟨rfl, by omega⟩
      · rw [if_neg h2]
        exact parseUint10_digits l _ ha.2 (by omega)
theorem atoi_digits (l : List UInt8) (h1 : l ≠ []) (h2 : l.all isD = true) :
    (Lib.atoiAll l = .ok (val l) ∧ (val l : Int) ≤ 9223372036854775807) ∨ (Lib.atoiAll l = .range ∧ 9223372036854775808 ≤ val l) := by
  obtain ⟨c, r, rfl⟩ := List.exists_cons_of_ne_nil h1
  have hc : isD c = true := by
    simp only [List.all_cons, Bool.and_eq_true] at h2
    exact h2.1
  have hc' := of_decide_eq_true hc
  have hm : Lib.parseMag (c :: r) = Lib.parseUint10 0 (c :: r) := by simp [Lib.parseMag]
  have hv : valFrom 0 (c :: r) = val (c :: r) := rfl
  have h4 : ¬ (c.toNat = 43 ∨ c.toNat = 45) := by omega
  have h5 : ¬ c.toNat = 45 := by omega
  rcases parseUint10_digits (c :: r) 0 h2 (by omega) with ⟨h, hlt⟩ | ⟨h, hge⟩
  · rw [hv] at h hlt
    by_cases h6 : 9223372036854775808 ≤ val (c :: r)
    · right
      refine ⟨?_, h6⟩
      simp only [Lib.atoiAll, if_neg h4, hm, h]
      rw [if_pos ⟨h5, h6⟩]
    · left
      refine ⟨?_, by omega⟩
      simp only [Lib.atoiAll, if_neg h4, hm, h]
      rw [if_neg (fun e => h6 e.2), if_neg (fun e => h5 e.1), if_neg h5]
  · right
    rw [hv] at hge
    refine ⟨?_, by omega⟩
    simp only [Lib.atoiAll, if_neg h4, hm, h]
def allL (s : List UInt8) : Bool := decide (s ≠ []) && s.all isD
theorem countL_no {s : List UInt8} {most : Int} (h : allL s = false) : countL s most = -1 := by
  unfold countL
  rw [if_neg]
  rintro ⟨h1, h2, h3, _⟩
  simp [allL, h1, h3] at h
theorem countL_big {s : List UInt8} {most : Int} (h : most < val s ∨ 1000000000000 < val s) : countL s most = -1 := by
  unfold countL
  rw [if_neg]
  rintro ⟨h1, h2, h3, h4, h5, h6⟩
  omega
theorem countL_other {s : List UInt8} {most : Int} (h : digs (val s) ≠ s) : countL s most = -1 := by
  unfold countL
  rw [if_neg]
  rintro ⟨h1, h2, h3, h4, h5, h6⟩
  exact h h4
theorem countL_yes {s : List UInt8} {most : Int} (h1 : (val s : Int) ≤ most) (h2 : val s ≤ 1000000000000) (h : digs (val s) = s) : countL s most = val s := by
  rw [← h, val_digs _ (by omega)]
  exact countL_digs _ most h1 h2
end Go.Proofs.YtkolnkjdcncmpaaGreatDoor.Pl
