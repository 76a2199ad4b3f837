/- The plain law behind DecShape: a text ends with a point and two digits; a hundred times as much has two noughts more. -/
import Derived.Test.YtglbgfjmfccemaaDoorDecF
set_option linter.unusedVariables false
set_option linter.unusedSimpArgs false
namespace Go.Proofs.YtglbgfjmfccemaaDoor.Pure
open Go.RowKit Go.Proofs.YtglbgfjmfccemaaDoor.Q Go.Proofs.YtglbgfjmfccemaaDoor.Pl Go.Proofs.YtglbgfjmfccemaaDoor.DecF Go.Proofs.YtglbgfjmfccemaaDoorW.PrintWords Go.Proofs.YtglbgfjmfccemaaDoorW.PrintMore
namespace Sh
def skip (c : UInt8) : Bool := c == 48 || c == 46 || c == 45
def dots (l : List UInt8) : List UInt8 := l.filter (· != 46)
theorem dots_yes (r : List UInt8) : dots (46 :: r) = dots r := by simp [dots]
theorem dots_no {c : UInt8} (h : c ≠ 46) (r : List UInt8) : dots (c :: r) = c :: dots r := by simp [dots, h]
theorem drop_at {l : List UInt8} {i : Nat} (h : i < l.length) : l.drop i = l[i] :: l.drop (i + 1) := List.drop_eq_getElem_cons h
theorem bt_at' (l : List UInt8) (i : Nat) (h : i < l.length) : bt (B l) (i : Int) = (l[i].toNat : Int) := by
  rw [bt_B, Int.toNat_natCast, List.getElem?_eq_getElem h]
  rfl
theorem byte_48 {c : UInt8} : ((c.toNat : Int) = 48) ↔ c = 48 := by
  constructor
  · intro h
    apply UInt8.toNat_inj.1
    simp
    omega
  · rintro rfl
    rfl
theorem byte_46 {c : UInt8} : ((c.toNat : Int) = 46) ↔ c = 46 := by
  constructor
  · intro h
    apply UInt8.toNat_inj.1
    simp
    omega
  · rintro rfl
    rfl
theorem byte_45 {c : UInt8} : ((c.toNat : Int) = 45) ↔ c = 45 := by
  constructor
  · intro h
    apply UInt8.toNat_inj.1
    simp
    omega
  · rintro rfl
    rfl
/-- the last loop: what is wanted -/
theorem want (x : Int) (l t : List UInt8) (sg : Nat) (hl : l.length ≤ 100) (ht : t.length ≤ 100) (hsg : sg ≤ t.length) : ∀ (d i : Nat) (w : List UInt8), l.length - i = d → i ≤ l.length → w.length ≤ i →
    Ev (fun k => hagglerlaw02_DecShape.l1 k true x (B l) (l.length : Int) (B t) (sg : Int) (B w) (i : Int)) (t.drop sg == (if x = 0 then [48] else w ++ dots (l.drop i)) ++ [46, 48, 48]) := by
  intro d
  induction d with
  | zero =>
    intro i w hd hi hw
    refine Ev.step (f := fun k => some (t.drop sg == (if x = 0 then [48] else w ++ dots (l.drop i)) ++ [46, 48, 48])) (fun k => ?_) (Ev.now _)
    have he : l.drop i = [] := List.drop_eq_nil_of_le (by omega)
    have hx : (B t).extract (sg : Int).toNat (B t).size = B (t.drop sg) := by
      rw [B_extract, B_size, Int.toNat_natCast]
      congr 1
      rw [List.take_of_length_le]
      rw [List.length_drop]
      omega
    rw [hagglerlaw02_DecShape.l1, if_neg (by omega), hx, he]
    simp only [B_size]
    by_cases h0 : x = 0
    · rw [if_pos h0, if_pos trivial, if_pos (by omega), if_pos (by omega), if_pos (by omega), if_pos h0]
      rw [show (⟨#[48]⟩ : ByteArray) = B [48] from rfl, show (⟨#[46, 48, 48]⟩ : ByteArray) = B [46, 48, 48] from rfl, B_append, B_tl, B_tl]
    · rw [if_neg h0, if_pos trivial, if_pos (by omega), if_pos (by omega), if_pos (by omega), if_neg h0]
      rw [show (⟨#[46, 48, 48]⟩ : ByteArray) = B [46, 48, 48] from rfl, B_append, B_tl, B_tl]
      simp [dots]
  | succ d ih =>
    intro i w hd hi hw
    have hlt : i < l.length := by omega
    have hdr := drop_at hlt
    by_cases h46 : l[i] = 46
    · have := ih (i + 1) w (by omega) (by omega) (by omega)
      have he : dots (l.drop i) = dots (l.drop (i + 1)) := by rw [hdr, h46, dots_yes]
      rw [he]
      refine Ev.step (fun k => ?_) this
      rw [hagglerlaw02_DecShape.l1, if_pos (by omega), if_pos (by omega), if_pos (by rw [B_size]; omega), bt_at' l i hlt, if_pos (byte_46.2 h46), w64 (by omega) (by omega)]
      rfl
    · have := ih (i + 1) (w ++ [l[i]]) (by omega) (by omega) (by simp; omega)
      have he : w ++ dots (l.drop i) = (w ++ [l[i]]) ++ dots (l.drop (i + 1)) := by rw [hdr, dots_no h46, List.append_assoc]; rfl
      rw [he]
      refine Ev.step (fun k => ?_) this
      have hx : (B l).extract (i : Int).toNat ((i : Int) + 1).toNat = B [l[i]] := by
        rw [B_extract, Int.toNat_natCast, hdr, show ((i : Int) + 1).toNat - i = 1 from by omega]
        rfl
      rw [hagglerlaw02_DecShape.l1, if_pos (by omega), if_pos (by omega), if_pos (by rw [B_size]; omega), bt_at' l i hlt, if_neg (fun e => h46 (byte_46.1 e)), w64 (by omega) (by omega), if_pos (by omega), if_pos (by rw [B_size]; omega), hx, if_pos (by rw [B_size, B_size]; simp; omega), B_append]
      rfl
/-- the first loop: what stands ahead -/
theorem lead (x : Int) (hx : x ≠ 0) (l t : List UInt8) (sg : Nat) (hl : l.length ≤ 100) (r : Bool) : ∀ (d i : Nat), l.length - i = d → i ≤ l.length →
    (∀ j, i ≤ j → j ≤ l.length → l.drop j = (l.drop i).dropWhile skip → Ev (fun k => hagglerlaw02_DecShape.j3 k true x (B l) (l.length : Int) (B t) (sg : Int) (j : Int)) r) →
    Ev (fun k => hagglerlaw02_DecShape.l0 k true x (B l) (l.length : Int) (B t) (sg : Int) (i : Int)) r := by
  intro d
  induction d with
  | zero =>
    intro i hd hi h
    refine Ev.step (fun k => ?_) (h i (Nat.le_refl _) hi (by rw [List.drop_eq_nil_of_le (by omega)]; rfl))
    rw [hagglerlaw02_DecShape.l0, if_neg hx, if_neg (by omega)]
  | succ d ih =>
    intro i hd hi h
    have hlt : i < l.length := by omega
    have hdr := drop_at hlt
    by_cases hs : skip l[i] = true
    · have hn := ih (i + 1) (by omega) (by omega) (fun j h1 h2 h3 => h j (by omega) h2 (by rw [hdr, List.dropWhile_cons_of_pos hs]; exact h3))
      refine Ev.step (fun k => ?_) hn
      rw [hagglerlaw02_DecShape.l0, if_neg hx, if_pos (by omega), if_pos (by omega), if_pos (by rw [B_size]; omega), bt_at' l i hlt, w64 (by omega) (by omega)]
      simp only [skip, Bool.or_eq_true, beq_iff_eq] at hs
      by_cases h48 : l[i] = 48
      · rw [if_pos (byte_48.2 h48)]
        rfl
      · rw [if_neg (fun e => h48 (byte_48.1 e))]
        by_cases h46 : l[i] = 46
        · rw [if_pos (byte_46.2 h46)]
          rfl
        · rw [if_neg (fun e => h46 (byte_46.1 e))]
          have h45 : l[i] = 45 := by
            rcases hs with (h | h) | h
            · exact absurd h h48
            · exact absurd h h46
            · exact h
          rw [if_pos (byte_45.2 h45)]
          rfl
    · have hs' : skip l[i] = false := by simpa using hs
      refine Ev.step (fun k => ?_) (h i (Nat.le_refl _) hi (by rw [hdr, List.dropWhile_cons_of_neg (by simp [hs'])]))
      simp only [skip, Bool.or_eq_false_iff, beq_eq_false_iff_ne, ne_eq] at hs'
      rw [hagglerlaw02_DecShape.l0, if_neg hx, if_pos (by omega), if_pos (by omega), if_pos (by rw [B_size]; omega), bt_at' l i hlt]
      rw [if_neg (fun e => hs'.1.1 (byte_48.1 e)), if_neg (fun e => hs'.1.2 (byte_46.1 e)), if_neg (fun e => hs'.2 (byte_45.1 e))]
theorem dots_digits {l : List UInt8} (h : l.all isD = true) (r : List UInt8) : dots (l ++ r) = l ++ dots r := by
  unfold dots
  rw [List.filter_append, List.filter_eq_self.2]
  intro c hc
  have := of_decide_eq_true (List.all_eq_true.1 h c hc)
  simp only [bne_iff_ne]
  rintro rfl
  simp at this
theorem skip_dig (n : Nat) : skip (dig n) = decide (n % 10 = 0) := by
  have h := dig_toNat n
  rw [Bool.eq_iff_iff]
  simp only [skip, Bool.or_eq_true, beq_iff_eq, decide_eq_true_eq]
  constructor
  · rintro ((e | e) | e)
    all_goals
      rw [e] at h
      simp at h
      omega
  · intro e
    left; left
    apply UInt8.toNat_inj.1
    rw [h]
    simp
    omega
theorem digs_head' (n : Nat) (h : n < 10 ^ 20) (h1 : 1 ≤ n) : ∃ c r, digs n = c :: r ∧ skip c = false := by
  obtain ⟨c, r, hc⟩ := List.exists_cons_of_ne_nil (digs_ne n)
  refine ⟨c, r, hc, ?_⟩
  have hd : isD c = true := by
    have := digs_all' n
    rw [hc] at this
    simp only [List.all_cons, Bool.and_eq_true] at this
    exact this.1
  have hd' := of_decide_eq_true hd
  rcases digs_head n h with h2 | h2
  · rw [digs_one h2] at hc
    obtain ⟨rfl, _⟩ := List.cons.inj hc
    rw [skip_dig]
    exact decide_eq_false (by omega)
  · rw [hc] at h2
    have h48 : c ≠ 48 := fun e => h2 (by rw [e]; rfl)
    have h46 : c ≠ 46 := by
      rintro rfl
      simp at hd'
    have h45 : c ≠ 45 := by
      rintro rfl
      simp at hd'
    simp [skip, h48, h46, h45]
theorem body_digs (n : Nat) (h : n < 10 ^ 20) (h1 : 1 ≤ n) : dots ((digs (n / 100) ++ [46, dig (n / 10), dig n]).dropWhile skip) = digs n := by
  have hd2 : dots [dig (n / 10), dig n] = [dig (n / 10), dig n] := by
    have := dots_digits (l := [dig (n / 10), dig n]) (by simp [dig_isD]) []
    simpa [dots] using this
  have hd1 : dots [dig n] = [dig n] := by
    have := dots_digits (l := [dig n]) (by simp [dig_isD]) []
    simpa [dots] using this
  by_cases hb : 100 ≤ n
  · obtain ⟨c, r, hc, hs⟩ := digs_head' (n / 100) (by omega) (by omega)
    have e : (digs (n / 100) ++ [46, dig (n / 10), dig n]).dropWhile skip = digs (n / 100) ++ [46, dig (n / 10), dig n] := by
      rw [hc, List.cons_append, List.dropWhile_cons_of_neg (by simp [hs])]
    rw [e, dots_digits (digs_all' _), show dots [46, dig (n / 10), dig n] = dots [dig (n / 10), dig n] from by simp [dots], hd2]
    rw [digs_rec n h, if_neg (by omega), digs_rec (n / 10) (by omega), if_neg (by omega), show n / 10 / 10 = n / 100 from by omega]
    simp
  · rw [show n / 100 = 0 from by omega, show digs 0 = [48] from by decide]
    simp only [List.cons_append, List.nil_append]
    rw [List.dropWhile_cons_of_pos (by decide), List.dropWhile_cons_of_pos (by decide)]
    by_cases h10 : 10 ≤ n
    · rw [List.dropWhile_cons_of_neg (by rw [skip_dig]; simp; omega), hd2, digs_rec n h, if_neg (by omega), digs_one (by omega)]
      rfl
    · rw [List.dropWhile_cons_of_pos (by rw [skip_dig]; simp; omega), List.dropWhile_cons_of_neg (by rw [skip_dig]; simp; omega), hd1, digs_one (by omega)]
end Sh
open Sh
theorem DecShape : hagglerlaw02_DecShape.Pure := by
  intro a0 h0
  apply Ev.rounds
  obtain ⟨hp, hp0, hp1⟩ := pick_eq h0 (n := 20000000001) (by omega)
  obtain ⟨x, hx⟩ : ∃ x, x = pickL a0 20000000001 - 10000000000 := ⟨_, rfl⟩
  have hxo : okA x := by unfold okA; omega
  have hxo2 : okA (100 * x) := by unfold okA; omega
  obtain ⟨l, hl⟩ : ∃ l, l = textL x := ⟨_, rfl⟩
  obtain ⟨t, ht⟩ : ∃ t, t = textL (100 * x) := ⟨_, rfl⟩
  have hls : l.length ≤ 24 := by rw [hl]; exact text_size
  have hts : t.length ≤ 24 := by rw [ht]; exact text_size
  obtain ⟨n, hn⟩ : ∃ n : Nat, n = x.natAbs := ⟨_, rfl⟩
  have hl' : l = (if x < 0 then [45] else []) ++ (digs (n / 100) ++ [46, dig (n / 10), dig n]) := by rw [hl, textL_ok hxo, ← hn]; simp
  have ht' : t = (if x < 0 then [45] else []) ++ (digs n ++ [46, 48, 48]) := by
    rw [ht, textL_ok hxo2]
    have e : (100 * x).natAbs = 100 * n := by omega
    have d1 : dig (100 * n / 10) = 48 := by
      apply UInt8.toNat_inj.1
      rw [dig_toNat]
      simp
      omega
    have d0 : dig (100 * n) = 48 := by
      apply UInt8.toNat_inj.1
      rw [dig_toNat]
      simp
      omega
    rw [e, d1, d0, show 100 * n / 100 = n from by omega]
    by_cases hneg : x < 0
    · rw [if_pos hneg, if_pos (by omega)]; simp
    · rw [if_neg hneg, if_neg (by omega)]; simp
  have hp1' := List.length_pos_iff.2 (digs_ne (n / 100))
  have hp2' := List.length_pos_iff.2 (digs_ne n)
  have h4 : 4 ≤ l.length := by rw [hl']; split <;> simp <;> omega
  have h46 : l[l.length - 3]?.getD 0 = 46 := by
    have e : l = ((if x < 0 then [45] else []) ++ digs (n / 100)) ++ [46, dig (n / 10), dig n] := by rw [hl']; simp
    have e2 : l.length - 3 = ((if x < 0 then [45] else []) ++ digs (n / 100)).length := by
      have := congrArg List.length e
      simp only [List.length_append, List.length_cons, List.length_nil] at this ⊢
      omega
    rw [e2, e, List.getElem?_append_right (Nat.le_refl _), Nat.sub_self]
    rfl
  have hhd : (l[0]?.getD 0).toNat = 45 ↔ x < 0 := by
    have := head_text hxo
    rw [← hl] at this
    rw [← this]
    obtain ⟨c, r, rfl⟩ : ∃ c r, l = c :: r := List.exists_cons_of_ne_nil (by intro e; rw [e] at h4; simp at h4)
    simp only [List.getElem?_cons_zero, Option.getD_some, List.head?_cons, Option.some.injEq]
    constructor
    · intro e; apply UInt8.toNat_inj.1; rw [e]; rfl
    · intro e; subst e; rfl
  have final : ∀ sg : Nat, sg = (if x < 0 then 1 else 0) → Ev (fun k => hagglerlaw02_DecShape.j1 k true x (B l) (l.length : Int) (B t) (sg : Int)) true := by
    intro sg hsg
    have hd : t.drop sg = digs n ++ [46, 48, 48] := by
      rw [ht', hsg]
      by_cases hneg : x < 0
      · rw [if_pos hneg, if_pos hneg]; rfl
      · rw [if_neg hneg, if_neg hneg]; rfl
    have hsl : sg ≤ t.length := by
      rw [ht', hsg]
      split <;> simp
    refine Ev.step (fun k => ?_) (g := fun k => hagglerlaw02_DecShape.j1 k true x (B l) (l.length : Int) (B t) (sg : Int)) (f := fun k => hagglerlaw02_DecShape.l0 k true x (B l) (l.length : Int) (B t) (sg : Int) 0) ?_
    · rw [hagglerlaw02_DecShape.j1]
    by_cases hx0 : x = 0
    · refine Ev.step (f := fun k => hagglerlaw02_DecShape.j3 k true x (B l) (l.length : Int) (B t) (sg : Int) 0) (fun k => by rw [hagglerlaw02_DecShape.l0, if_pos hx0]) ?_
      have hw := want x l t sg (by omega) (by omega) hsl _ 0 [] rfl (by omega) (by simp)
      rw [if_pos hx0, hd] at hw
      have : n = 0 := by omega
      rw [this, show digs 0 = [48] from by decide] at hw
      exact Ev.step (fun k => by rw [hagglerlaw02_DecShape.j3]; rfl) hw
    · refine lead x hx0 l t sg (by omega) true _ 0 rfl (by omega) (fun j h1 h2 h3 => ?_)
      have hw := want x l t sg (by omega) (by omega) hsl _ j [] rfl h2 (by simp)
      rw [if_neg hx0, hd] at hw
      have hdr : dots (l.drop j) = digs n := by
        rw [h3, List.drop_zero, hl']
        have hn1 : 1 ≤ n := by omega
        have hnb : n < 10 ^ 20 := by omega
        by_cases hneg : x < 0
        · rw [if_pos hneg, List.cons_append, List.dropWhile_cons_of_pos (by decide), List.nil_append]
          exact body_digs n hnb hn1
        · rw [if_neg hneg, List.nil_append]
          exact body_digs n hnb hn1
      rw [hdr] at hw
      simp only [List.nil_append, BEq.rfl] at hw
      exact Ev.step (fun k => by rw [hagglerlaw02_DecShape.j3]; rfl) hw
  have j0_ : Ev (fun k => hagglerlaw02_DecShape.j0 k true x (B l) (l.length : Int) false) true := by
    by_cases hneg : x < 0
    · refine Ev.step (fun k => ?_) (final 1 (by rw [if_pos hneg]))
      rw [hagglerlaw02_DecShape.j0, if_neg (by simp), w64 (by omega) (by omega), Text_eq, ← ht]
      simp only [Option.bind_some]
      rw [if_pos hneg]
      rfl
    · refine Ev.step (fun k => ?_) (final 0 (by rw [if_neg hneg]))
      rw [hagglerlaw02_DecShape.j0, if_neg (by simp), w64 (by omega) (by omega), Text_eq, ← ht]
      simp only [Option.bind_some]
      rw [if_neg hneg]
      rfl
  obtain ⟨K, hK⟩ := j0_
  refine ⟨K + 1, fun k hk => ?_⟩
  obtain ⟨m, rfl⟩ : ∃ m, k = m + 1 := ⟨k - 1, by omega⟩
  show hagglerlaw02_DecShape.f (m + 1) a0 = some true
  unfold hagglerlaw02_DecShape.f
  rw [awake_eq m, hp]
  simp only [Option.bind_some]
  rw [w64 (by omega) (by omega), ← hx, Text_eq, ← hl]
  simp only [Option.bind_some, B_size]
  rw [if_neg (by omega), w64 (by omega) (by omega), if_pos (by omega), if_pos (by omega), bt_B, show ((l.length : Int) - 3).toNat = l.length - 3 from by omega, h46, if_pos (by decide), if_pos (by omega), bt_B]
  have e : (((((l[(0 : Int).toNat]?.getD 0).toNat : Int) == 45) != decide (x < 0)) : Bool) = false := by
    rw [show (0 : Int).toNat = 0 from rfl]
    by_cases hneg : x < 0
    · have := hhd.2 hneg
      rw [this, decide_eq_true hneg]
      rfl
    · have h : ¬ (l[0]?.getD 0).toNat = 45 := fun e => hneg (hhd.1 e)
      rw [decide_eq_false hneg, beq_eq_false_iff_ne.2 (by omega)]
      rfl
  rw [e]
  exact hK _ (by omega)
end Go.Proofs.YtglbgfjmfccemaaDoor.Pure
