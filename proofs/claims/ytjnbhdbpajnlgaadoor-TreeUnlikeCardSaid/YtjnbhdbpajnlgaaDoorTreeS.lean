/- Out of raw numbers there comes an expression, with rounds enough. -/
import Derived.Test.YtjnbhdbpajnlgaaDoorTreeF
import Derived.Test.YtjnbhdbpajnlgaaDoorExtS
set_option linter.unusedVariables false
set_option linter.unusedSimpArgs false
namespace Go.Proofs.YtjnbhdbpajnlgaaDoor.TreeS
open Go.RowKit Go.Proofs.YtjnbhdbpajnlgaaDoor.Q Go.Proofs.YtjnbhdbpajnlgaaDoor.Pl Go.Proofs.YtjnbhdbpajnlgaaDoor.TreeF Go.Proofs.YtjnbhdbpajnlgaaDoorW.PrintWords Go.Proofs.YtjnbhdbpajnlgaaDoorW.PrintMore

def Rng (s : List Int) : Prop := ∀ x ∈ s, -9223372036854775808 ≤ x ∧ x ≤ 9223372036854775807
theorem pick_total (c n : Int) (hc : -9223372036854775808 ≤ c ∧ c ≤ 9223372036854775807) (hn : 1 ≤ n) (hn2 : n ≤ 1000000) : ∃ v, P.hagglerlaw07_pick.f c n = some v ∧ 0 ≤ v ∧ v < n := by
  unfold P.hagglerlaw07_pick.f
  by_cases h : c < 0
  · rw [if_pos h, if_neg (by omega)]
    refine ⟨_, rfl, ?_⟩
    rw [w64 (x := c + 1) (by omega) (by omega), w64 (by omega) (by omega), Int.tmod_eq_emod_of_nonneg (by omega)]
    exact ⟨Int.emod_nonneg _ (by omega), Int.emod_lt_of_pos _ (by omega)⟩
  · rw [if_neg h, if_neg (by omega)]
    refine ⟨_, rfl, ?_⟩
    rw [Int.tmod_eq_emod_of_nonneg (by omega)]
    exact ⟨Int.emod_nonneg _ (by omega), Int.emod_lt_of_pos _ (by omega)⟩
theorem next_total (s : List Int) (n : Int) (hs : Rng s) (hn : 1 ≤ n) (hn2 : n ≤ 1000000) : ∃ v s', hagglerlaw07_source_next.f s n = some (v, s') ∧ 0 ≤ v ∧ v < n ∧ Rng s' := by
  rcases s with _ | ⟨c, r⟩
  · exact ⟨0, [], rfl, by omega, by omega, hs⟩
  · obtain ⟨v, hv, h0, h1⟩ := pick_total c n (hs c List.mem_cons_self) hn hn2
    exact ⟨v, r, by rw [hagglerlaw07_source_next.f, hv]; rfl, h0, h1, fun x hx => hs x (List.mem_cons_of_mem _ hx)⟩
def argsE (k : Int) : Nat := if k = 5 ∨ k = 6 then 1 else if k = 7 ∨ k = 8 ∨ k = 9 then 2 else if k = 10 then 3 else 0
theorem argsE_le (k : Int) : argsE k ≤ 3 := by
  unfold argsE
  split
  · omega
  · split
    · omega
    · split <;> omega
theorem args_eq (k : Int) (h0 : 1 ≤ k) (h1 : k ≤ 10) : Soon (fun r => hagglerref07_Args.f r k) (argsE k : Int) := by
  have h : k = 1 ∨ k = 2 ∨ k = 3 ∨ k = 4 ∨ k = 5 ∨ k = 6 ∨ k = 7 ∨ k = 8 ∨ k = 9 ∨ k = 10 := by omega
  refine ⟨3, fun r hr => ?_⟩
  obtain ⟨j, rfl⟩ : ∃ j, r = j + 3 := ⟨r - 3, by omega⟩
  rcases h with rfl | rfl | rfl | rfl | rfl | rfl | rfl | rfl | rfl | rfl
  all_goals rfl
theorem decimal_total : ∀ (m : Nat) (n : Int), 0 ≤ n → n < (m : Int) → m ≤ 1000000 → ∃ r, r.size ≤ m ∧ Soon (fun k => hagglerlaw06_decimal.f k n) r
  | 0, n, h0, h1, _ => by omega
  | m + 1, n, h0, h1, h2 => by
    have hbody : ∀ (k : Nat), hagglerlaw06_decimal.f (k + 1) n = (if n ≥ 10 then ((hagglerlaw06_decimal.f k (wrap64 (Int.tdiv n 10))).bind fun t104 => (if t104.size + (strOfNums [(wrap64 (48 + (Int.tmod n 10))) % 256]).size ≤ 9223372036854775807 then (some (t104 ++ (strOfNums [(wrap64 (48 + (Int.tmod n 10))) % 256]))) else (none))) else (some (strOfNums [(wrap64 (48 + (Int.tmod n 10))) % 256]))) := by
      intro k
      rw [hagglerlaw06_decimal.f]
      rfl
    have hy : (strOfNums [(wrap64 (48 + (Int.tmod n 10))) % 256]).size = 1 := rfl
    by_cases h10 : n ≥ 10
    · have hd : wrap64 (Int.tdiv n 10) = n / 10 := by
        rw [Int.tdiv_eq_ediv_of_nonneg h0, w64 (by omega) (by omega)]
      obtain ⟨r, hr, hev⟩ := decimal_total m (n / 10) (by omega) (by omega) (by omega)
      rw [hd] at hbody
      refine ⟨r ++ strOfNums [(wrap64 (48 + (Int.tmod n 10))) % 256], by rw [ByteArray.size_append, hy]; omega, ?_⟩
      generalize strOfNums [(wrap64 (48 + (Int.tmod n 10))) % 256] = y at hbody hy ⊢
      refine Soon.step (b := fun k => (hagglerlaw06_decimal.f k (n / 10)).bind fun t104 => (if t104.size + y.size ≤ 9223372036854775807 then (some (t104 ++ y)) else none)) (fun k => by rw [hbody, if_pos h10]) (Soon.bind hev (Soon.const (if_pos ?_)))
      have : m + 1 ≤ 1000000 := h2
      omega
    · refine ⟨strOfNums [(wrap64 (48 + (Int.tmod n 10))) % 256], by rw [hy]; omega, ?_⟩
      exact Soon.step (b := fun k => some _) (fun k => by rw [hbody, if_neg h10]) (Soon.pure _)
theorem seller_total (n : Int) (h0 : 0 ≤ n) (h1 : n < 60) : ∃ r, Soon (fun k => hagglerlaw06_Seller.f k n) r := by
  have hp : hagglerlaw06_pick.f n 60 = some n := by
    unfold hagglerlaw06_pick.f
    rw [if_neg (by omega), if_neg (by decide), Int.tmod_eq_emod_of_nonneg h0, Int.emod_eq_of_lt h0 h1]
  have hm0 : 0 ≤ Int.tmod n 6 := by rw [Int.tmod_eq_emod_of_nonneg h0]; omega
  have hm1 : Int.tmod n 6 < 6 := by rw [Int.tmod_eq_emod_of_nonneg h0]; omega
  have hd : wrap64 (Int.tdiv n 6) = n / 6 := by rw [Int.tdiv_eq_ediv_of_nonneg h0, w64 (by omega) (by omega)]
  obtain ⟨r, hr, hev⟩ := decimal_total 10 (n / 6) (by omega) (by omega) (by omega)
  obtain ⟨L, hL, hLs⟩ : ∃ L : List ByteArray, L = [(⟨#[97]⟩ : ByteArray), (⟨#[98, 111, 98]⟩ : ByteArray), (⟨#[108, 111, 119, 101, 115]⟩ : ByteArray), (⟨#[97, 99, 109, 101, 57]⟩ : ByteArray), (⟨#[120, 49]⟩ : ByteArray), (⟨#[101, 108, 115, 101, 101]⟩ : ByteArray)] ∧ L.length = 6 := ⟨_, rfl, rfl⟩
  have hsz : (rdOf ByteArray.empty L (Int.tmod n 6)).size ≤ 5 := by
    have h6 : Int.tmod n 6 = 0 ∨ Int.tmod n 6 = 1 ∨ Int.tmod n 6 = 2 ∨ Int.tmod n 6 = 3 ∨ Int.tmod n 6 = 4 ∨ Int.tmod n 6 = 5 := by omega
    rw [hL]
    rcases h6 with h | h | h | h | h | h <;> rw [h] <;> decide
  refine ⟨rdOf ByteArray.empty L (Int.tmod n 6) ++ r, ?_⟩
  refine Soon.congr (b := fun k => (hagglerlaw06_decimal.f k (n / 6)).bind fun t110 => (if (rdOf ByteArray.empty L (Int.tmod n 6)).size + t110.size ≤ 9223372036854775807 then (some ((rdOf ByteArray.empty L (Int.tmod n 6)) ++ t110)) else none)) (Soon.bind hev (Soon.const (if_pos ?_))) (fun k => ?_)
  · omega
  · unfold hagglerlaw06_Seller.f
    rw [hp]
    simp only [Option.bind_some]
    rw [← hL, if_pos hm0, if_pos (by rw [hLs]; exact hm1), hd]
abbrev EX := Int × Int × ByteArray × (List (S26)) × (List Int)
theorem expr_total : ∀ (d : Nat) (s : List Int) (c : Bool), Rng s → d ≤ 5 → ∃ r : EX, Soon (fun k => hagglerlaw07_source_expr.f k s (d : Int) c) r ∧ Rng r.2.2.2.2
  | d, s, true, hs, hd => by
    have j0t : ∀ s', Rng s' → ∃ r : EX, Soon (fun k => hagglerlaw07_source_expr.j0 k (d : Int) true s') r ∧ Rng r.2.2.2.2 := by
      intro s' hs'
      obtain ⟨v, s2, hv, _, _, h2⟩ := next_total s' 7 hs' (by omega) (by omega)
      refine ⟨(11, v, ⟨#[]⟩, [], s2), ?_, h2⟩
      refine Soon.step (b := fun k => some (11, v, ⟨#[]⟩, [], s2)) (fun k => ?_) (Soon.pure _)
      rw [hagglerlaw07_source_expr.j0, if_pos rfl, hv]
      rfl
    by_cases h2 : (d : Int) < 2
    · obtain ⟨r, h, hr⟩ := j0t s hs
      refine ⟨r, Soon.step (b := fun k => hagglerlaw07_source_expr.j0 k (d : Int) true s) (fun k => ?_) h, hr⟩
      rw [hagglerlaw07_source_expr.f, if_pos rfl, if_pos h2]
    · obtain ⟨v, s1, hv, _, _, hs1⟩ := next_total s 2 hs (by omega) (by omega)
      obtain ⟨d', rfl⟩ : ∃ d', d = d' + 1 := ⟨d - 1, by omega⟩
      rcases hb : (v == 0) with _ | _
      · obtain ⟨r1, e1, q1⟩ := expr_total d' s1 false hs1 (by omega)
        obtain ⟨r2, e2, q2⟩ := expr_total d' r1.2.2.2.2 false q1 (by omega)
        refine ⟨_, Soon.step (b := fun k => hagglerlaw07_source_expr.j0 k ((d' + 1 : Nat) : Int) false s1) (fun k => ?_) (Soon.step (b := fun k => (hagglerlaw07_source_expr.f k s1 (d' : Int) false).bind fun bt116 => ((hagglerlaw07_source_expr.f k bt116.2.2.2.2 (d' : Int) false).bind fun bt123 => (some (12, 0, (⟨#[]⟩ : ByteArray), (([(⟨bt116.1, bt116.2.1, bt116.2.2.1, bt116.2.2.2.1⟩ : S26), (⟨bt123.1, bt123.2.1, bt123.2.2.1, bt123.2.2.2.1⟩ : S26)] : List (S26))), bt123.2.2.2.2)))) (fun k => ?_) (Soon.bind e1 (Soon.bind e2 (Soon.pure _)))), q2⟩
        · rw [hagglerlaw07_source_expr.f, if_pos rfl, if_neg h2, hv]
          simp only [Option.bind_some]
          rw [hb]
        · rw [hagglerlaw07_source_expr.j0, if_neg (by decide), w64 (by omega) (by omega), show ((d' + 1 : Nat) : Int) - 1 = (d' : Int) by omega]
      · obtain ⟨r, h, hr⟩ := j0t s1 hs1
        refine ⟨r, Soon.step (b := fun k => hagglerlaw07_source_expr.j0 k ((d' + 1 : Nat) : Int) true s1) (fun k => ?_) h, hr⟩
        rw [hagglerlaw07_source_expr.f, if_pos rfl, if_neg h2, hv]
        simp only [Option.bind_some]
        rw [hb]
  | d, s, false, hs, hd => by
    obtain ⟨v, s1, hv, v0, v1, hs1⟩ := next_total s 10 hs (by omega) (by omega)
    -- what stands behind the loop
    have tail3 : ∀ (kd : Int) (s' : List Int) (n : Int) (nm : ByteArray) (l : List S26) (b : Bool), Rng s' → ∃ r : EX, Soon (fun k => hagglerlaw07_source_expr.j3 k kd b s' kd n nm l) r ∧ Rng r.2.2.2.2 := by
      intro kd s' n nm l b hs'
      rcases b with _ | _
      · by_cases h6 : kd = 6
        · obtain ⟨u, s2, hu, _, _, h2⟩ := next_total s' 12000 hs' (by omega) (by omega)
          refine ⟨(kd, u, nm, l, s2), Soon.step (b := fun k => some (kd, u, nm, l, s2)) (fun k => ?_) (Soon.pure _), h2⟩
          rw [hagglerlaw07_source_expr.j3, if_neg (by decide), if_pos h6, hu]
          rfl
        · refine ⟨(kd, n, nm, l, s'), Soon.step (b := fun k => some (kd, n, nm, l, s')) (fun k => ?_) (Soon.pure _), hs'⟩
          rw [hagglerlaw07_source_expr.j3, if_neg (by decide), if_neg h6]
      · obtain ⟨u, s2, hu, _, _, h2⟩ := next_total s' 3000 hs' (by omega) (by omega)
        refine ⟨(kd, u, nm, l, s2), Soon.step (b := fun k => some (kd, u, nm, l, s2)) (fun k => ?_) (Soon.pure _), h2⟩
        rw [hagglerlaw07_source_expr.j3, if_pos rfl, hu]
        rfl
    have loop : ∀ (kd : Int), 1 ≤ kd → kd ≤ 10 → (2 ≤ d ∨ argsE kd = 0) → ∀ (m i : Nat) (s' : List Int) (l : List S26), m + i = argsE kd → Rng s' → l.length ≤ i → ∃ r : EX, Soon (fun k => hagglerlaw07_source_expr.l0 k (d : Int) kd (i : Int) s' kd 0 ⟨#[]⟩ l) r ∧ Rng r.2.2.2.2 := by
      intro kd hk0 hk1 hd2 m
      have ha := argsE_le kd
      have hA := args_eq kd hk0 hk1
      induction m with
      | zero =>
        intro i s' l hi hs' hl
        have hlt : ¬ (i : Int) < (argsE kd : Int) := by omega
        by_cases h3 : kd = 3
        · obtain ⟨u, s2, hu, u0, u1, h2⟩ := next_total s' 60 hs' (by omega) (by omega)
          obtain ⟨nm, hnm⟩ := seller_total u u0 u1
          refine ⟨(kd, 0, nm, l, s2), Soon.step (fun k => hagglerlaw07_source_expr.l0.eq_2 ..) (Soon.bind hA ?_), h2⟩
          refine Soon.congr (Soon.bind (g := fun k nm' => some (kd, 0, nm', l, s2)) hnm (Soon.pure _)) (fun k => ?_)
          rw [if_neg hlt, if_pos h3, hu]
          rfl
        · by_cases h4 : kd = 4
          · obtain ⟨r, h, hr⟩ := tail3 kd s' 0 ⟨#[]⟩ l (kd == 4) hs'
            refine ⟨r, Soon.step (fun k => hagglerlaw07_source_expr.l0.eq_2 ..) (Soon.bind hA ?_), hr⟩
            refine Soon.congr h (fun k => ?_)
            rw [if_neg hlt, if_neg h3, if_pos h4]
          · obtain ⟨r, h, hr⟩ := tail3 kd s' 0 ⟨#[]⟩ l (kd == 5) hs'
            refine ⟨r, Soon.step (fun k => hagglerlaw07_source_expr.l0.eq_2 ..) (Soon.bind hA ?_), hr⟩
            refine Soon.congr h (fun k => ?_)
            rw [if_neg hlt, if_neg h3, if_neg h4]
      | succ m ih =>
        intro i s' l hi hs' hl
        have hlt : (i : Int) < (argsE kd : Int) := by omega
        have hd3 : 2 ≤ d := by rcases hd2 with h | h <;> omega
        have hw : wrap64 ((d : Int) - 1) = ((d - 1 : Nat) : Int) := by rw [w64 (by omega) (by omega)]; omega
        have hw2 : wrap64 ((i : Int) + 1) = ((i + 1 : Nat) : Int) := by rw [w64 (by omega) (by omega)]; omega
        by_cases h10 : kd = 10
        · obtain ⟨r1, e1, q1⟩ := expr_total (d - 1) s' ((i : Int) == 0) hs' (by omega)
          obtain ⟨r, h, hr⟩ := ih (i + 1) r1.2.2.2.2 (l ++ [(⟨r1.1, r1.2.1, r1.2.2.1, r1.2.2.2.1⟩ : S26)]) (by omega) q1 (by simp; omega)
          refine ⟨r, Soon.step (fun k => hagglerlaw07_source_expr.l0.eq_2 ..) (Soon.bind hA ?_), hr⟩
          refine Soon.congr (Soon.bind (g := fun k (bt137 : EX) => if l.length < 2513169434916 then (hagglerlaw07_source_expr.l0 k (d : Int) kd ((i + 1 : Nat) : Int) bt137.2.2.2.2 kd 0 ⟨#[]⟩ (l ++ [(⟨bt137.1, bt137.2.1, bt137.2.2.1, bt137.2.2.2.1⟩ : S26)])) else (none)) e1 (Soon.congr h (fun k => if_pos (by omega)))) (fun k => ?_)
          rw [if_pos hlt, if_pos h10, hw, hw2]
        · obtain ⟨r1, e1, q1⟩ := expr_total (d - 1) s' false hs' (by omega)
          obtain ⟨r, h, hr⟩ := ih (i + 1) r1.2.2.2.2 (l ++ [(⟨r1.1, r1.2.1, r1.2.2.1, r1.2.2.2.1⟩ : S26)]) (by omega) q1 (by simp; omega)
          refine ⟨r, Soon.step (fun k => hagglerlaw07_source_expr.l0.eq_2 ..) (Soon.bind hA ?_), hr⟩
          refine Soon.congr (Soon.bind (g := fun k (bt137 : EX) => if l.length < 2513169434916 then (hagglerlaw07_source_expr.l0 k (d : Int) kd ((i + 1 : Nat) : Int) bt137.2.2.2.2 kd 0 ⟨#[]⟩ (l ++ [(⟨bt137.1, bt137.2.1, bt137.2.2.1, bt137.2.2.2.1⟩ : S26)])) else (none)) e1 (Soon.congr h (fun k => if_pos (by omega)))) (fun k => ?_)
          rw [if_pos hlt, if_neg h10, hw, hw2]
    have j1t : ∀ (kd : Int), 1 ≤ kd → kd ≤ 10 → (2 ≤ d ∨ argsE kd = 0) → ∃ r : EX, Soon (fun k => hagglerlaw07_source_expr.j1 k (d : Int) kd s1) r ∧ Rng r.2.2.2.2 := by
      intro kd hk0 hk1 hd2
      obtain ⟨r, h, hr⟩ := loop kd hk0 hk1 hd2 (argsE kd) 0 s1 [] rfl hs1 (Nat.le_refl 0)
      exact ⟨r, Soon.step (fun k => hagglerlaw07_source_expr.j1.eq_2 ..) h, hr⟩
    by_cases h2 : (d : Int) < 2
    · have e : wrap64 (1 + Int.tmod (wrap64 (1 + v)) 4) = 1 + (1 + v) % 4 := by
        rw [w64 (x := 1 + v) (by omega) (by omega), Int.tmod_eq_emod_of_nonneg (by omega), w64 (by omega) (by omega)]
      obtain ⟨r, h, hr⟩ := j1t (1 + (1 + v) % 4) (by omega) (by omega) (.inr (by unfold argsE; rw [if_neg (by omega), if_neg (by omega), if_neg (by omega)]))
      refine ⟨r, Soon.step (b := fun k => hagglerlaw07_source_expr.j1 k (d : Int) (1 + (1 + v) % 4) s1) (fun k => ?_) h, hr⟩
      rw [hagglerlaw07_source_expr.f, if_neg (by decide), hv]
      simp only [Option.bind_some]
      rw [if_pos h2, e]
    · have e : wrap64 (1 + v) = 1 + v := w64 (by omega) (by omega)
      obtain ⟨r, h, hr⟩ := j1t (1 + v) (by omega) (by omega) (.inl (by omega))
      refine ⟨r, Soon.step (b := fun k => hagglerlaw07_source_expr.j1 k (d : Int) (1 + v) s1) (fun k => ?_) h, hr⟩
      rw [hagglerlaw07_source_expr.f, if_neg (by decide), hv]
      simp only [Option.bind_some]
      rw [if_neg h2, e]
termination_by d => d
/-- the expression that a raw text of numbers gives -/
theorem strategy_total (l : List Int) (hs : Rng l) : ∃ x : S26, Soon (fun k => hagglerlaw07_Strategy.f k l) (x.f0, x.f1, x.f2, x.f3) := by
  obtain ⟨r, h, _⟩ := expr_total 5 (l.take 100) false (fun x hx => hs x (List.mem_of_mem_take hx)) (Nat.le_refl 5)
  refine ⟨⟨r.1, r.2.1, r.2.2.1, r.2.2.2.1⟩, ?_⟩
  unfold hagglerlaw07_Strategy.f
  exact Soon.bind (g := fun k (t : EX) => some (t.1, t.2.1, t.2.2.1, t.2.2.2.1)) h (Soon.pure _)
end Go.Proofs.YtjnbhdbpajnlgaaDoor.TreeS
