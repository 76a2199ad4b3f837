/- Texts that are merged: PcK, PcL, RowC. -/
import Derived.Test.YtkolnkjdcncmpaaGreatDoorPcAll
import Derived.ChangeArms
/- The document's answers of layers 14 and 15 (Check, Within, Right, Ready, Decide, Same), in the pure machine. -/
namespace Go.Proofs.YtkolnkjdcncmpaaGreatDoor.Pc
open Go Go.RowKit Go.Proofs.YtkolnkjdcncmpaaGreatDoor.Pm Go.Proofs.YtkolnkjdcncmpaaGreatDoor.Pl
open Go.Proofs.YtkolnkjdcncmpaaGreatDoor.Pr (minV wkTup parseP rParse_ok parse_same parseP_size parseP_facts)
set_option linter.unusedVariables false
set_option maxHeartbeats 4000000
theorem rtick_ok (a : Int) : Ok E 59 [] [pI a] (pI (clampI a 0 1099511627776)) [] := by
  obtain ⟨v, hv⟩ : ∃ v, clampI a 0 1099511627776 = v := ⟨_, rfl⟩
  rw [hv]
  unfold clampI at hv
  by_cases h : a < 0
  · obtain rfl : v = 0 := by omega
    refine Ok.enter hE Tryz.func59 rfl (by decide +kernel) (by kernel_rfl) rfl rfl (Nat.le_of_ble_eq_true rfl) rfl ?_
    refine ⟨_, ltT h, ?_⟩
    exact Ret.mk _ rfl rfl rfl
  · by_cases h2 : a > 1099511627776
    · obtain rfl : v = 1099511627776 := by omega
      refine Ok.enter hE Tryz.func59 rfl (by decide +kernel) (by kernel_rfl) rfl rfl (Nat.le_of_ble_eq_true rfl) rfl ?_
      refine ⟨_, ltN h, ?_⟩
      refine ⟨_, gtT h2, ?_⟩
      exact Ret.mk _ rfl rfl rfl
    · obtain rfl : v = a := by omega
      refine Ok.enter hE Tryz.func59 rfl (by decide +kernel) (by kernel_rfl) rfl rfl (Nat.le_of_ble_eq_true rfl) rfl ?_
      refine ⟨_, ltN h, ?_⟩
      refine ⟨_, gtN h2, ?_⟩
      exact Ret.mk _ rfl rfl rfl
theorem rLater_ok (t b : Int) : Ok E 43 [] [pI t, pI b] (pI (laterI t b)) [] := by
  have h1 := rtick_ok t
  have h2 := rtick_ok b
  obtain ⟨a1, a2⟩ := clamp_rng (a := t) (l := 0) (h := 1099511627776) (by decide)
  obtain ⟨b1, b2⟩ := clamp_rng (a := b) (l := 0) (h := 1099511627776) (by decide)
  have h3 := rtick_ok (clampI t 0 1099511627776 + clampI b 0 1099511627776)
  rw [show clampI (clampI t 0 1099511627776 + clampI b 0 1099511627776) 0 1099511627776 = laterI t b by
    show max 0 (min (clampI t 0 1099511627776 + clampI b 0 1099511627776) 1099511627776) = min (clampI t 0 1099511627776 + clampI b 0 1099511627776) 1099511627776
    omega] at h3
  refine Ok.enter hE Tryz.func43 rfl (by decide +kernel) (by kernel_rfl) rfl rfl (Nat.le_of_ble_eq_true rfl) rfl ?_
  refine ⟨_, CallR.mk1 h1 rfl rfl, ?_⟩
  refine ⟨_, CallR.mk1 h2 rfl rfl, ?_⟩
  refine ⟨_, addV rfl (by omega) (by omega), ?_⟩
  refine ⟨_, CallR.mk1 h3 rfl rfl, ?_⟩
  exact Ret.mk _ rfl rfl rfl
theorem rLow_ok (c : Cfg) : Ok E 31 [] [pC c] (pI (lowF c)) [] := by
  refine Ok.enter hE Tryz.func31 rfl (by decide +kernel) (by kernel_rfl) rfl rfl (Nat.le_of_ble_eq_true rfl) rfl ?_
  refine ⟨_, maxV rfl, ?_⟩
  exact Ret.mk _ rfl rfl rfl
theorem rCheck_ok (c : Cfg) : Ok E 30 [] [pC c] (pI (errF c)) [] := by
  have hP := rParse_ok c.tx
  rw [parse_same] at hP
  have hR := rRight_ok (parseP c.tx).1 (parseP_facts c.tx).1 (by have := (parseP_size c.tx).1; omega)
  obtain ⟨v, hv⟩ : ∃ v, errF c = v := ⟨_, rfl⟩
  rw [hv]
  unfold errF at hv
  by_cases h0 : c.fl < 1
  · rw [if_neg (by rw [nums_no (by omega)]; decide)] at hv
    subst hv
    refine Ok.enter hE Tryz.func30 rfl (by decide +kernel) (by kernel_rfl) rfl rfl (Nat.le_of_ble_eq_true rfl) rfl ?_
    refine ⟨_, ltT h0, ?_⟩
    exact Ret.mk _ rfl rfl rfl
  · skip
    by_cases h1 : c.ce < c.fl
    · rw [if_neg (by rw [nums_no (by omega)]; decide)] at hv
      subst hv
      refine Ok.enter hE Tryz.func30 rfl (by decide +kernel) (by kernel_rfl) rfl rfl (Nat.le_of_ble_eq_true rfl) rfl ?_
      refine ⟨_, ltN h0, ?_⟩
      refine ⟨_, ltT h1, ?_⟩
      exact Ret.mk _ rfl rfl rfl
    · skip
      by_cases h2 : c.ce > 1000000000000
      · rw [if_neg (by rw [nums_no (by omega)]; decide)] at hv
        subst hv
        refine Ok.enter hE Tryz.func30 rfl (by decide +kernel) (by kernel_rfl) rfl rfl (Nat.le_of_ble_eq_true rfl) rfl ?_
        refine ⟨_, ltN h0, ?_⟩
        refine ⟨_, ltN h1, ?_⟩
        refine ⟨_, gtT h2, ?_⟩
        exact Ret.mk _ rfl rfl rfl
      · skip
        by_cases h3 : c.mp < 0
        · rw [if_neg (by rw [nums_no (by omega)]; decide)] at hv
          subst hv
          refine Ok.enter hE Tryz.func30 rfl (by decide +kernel) (by kernel_rfl) rfl rfl (Nat.le_of_ble_eq_true rfl) rfl ?_
          refine ⟨_, ltN h0, ?_⟩
          refine ⟨_, ltN h1, ?_⟩
          refine ⟨_, gtN h2, ?_⟩
          refine ⟨_, ltT h3, ?_⟩
          exact Ret.mk _ rfl rfl rfl
        · skip
          by_cases h4 : c.mp > c.ce
          · rw [if_neg (by rw [nums_no (by omega)]; decide)] at hv
            subst hv
            refine Ok.enter hE Tryz.func30 rfl (by decide +kernel) (by kernel_rfl) rfl rfl (Nat.le_of_ble_eq_true rfl) rfl ?_
            refine ⟨_, ltN h0, ?_⟩
            refine ⟨_, ltN h1, ?_⟩
            refine ⟨_, gtN h2, ?_⟩
            refine ⟨_, ltN h3, ?_⟩
            refine ⟨_, gtT h4, ?_⟩
            exact Ret.mk _ rfl rfl rfl
          · skip
            by_cases h5 : c.co < 0
            · rw [if_neg (by rw [nums_no (by omega)]; decide)] at hv
              subst hv
              refine Ok.enter hE Tryz.func30 rfl (by decide +kernel) (by kernel_rfl) rfl rfl (Nat.le_of_ble_eq_true rfl) rfl ?_
              refine ⟨_, ltN h0, ?_⟩
              refine ⟨_, ltN h1, ?_⟩
              refine ⟨_, gtN h2, ?_⟩
              refine ⟨_, ltN h3, ?_⟩
              refine ⟨_, gtN h4, ?_⟩
              refine ⟨_, ltT h5, ?_⟩
              exact Ret.mk _ rfl rfl rfl
            · skip
              by_cases h6 : c.co > 1048576
              · rw [if_neg (by rw [nums_no (by omega)]; decide)] at hv
                subst hv
                refine Ok.enter hE Tryz.func30 rfl (by decide +kernel) (by kernel_rfl) rfl rfl (Nat.le_of_ble_eq_true rfl) rfl ?_
                refine ⟨_, ltN h0, ?_⟩
                refine ⟨_, ltN h1, ?_⟩
                refine ⟨_, gtN h2, ?_⟩
                refine ⟨_, ltN h3, ?_⟩
                refine ⟨_, gtN h4, ?_⟩
                refine ⟨_, ltN h5, ?_⟩
                refine ⟨_, gtT h6, ?_⟩
                exact Ret.mk _ rfl rfl rfl
              · skip
                by_cases h7 : c.ba < 0
                · rw [if_neg (by rw [nums_no (by omega)]; decide)] at hv
                  subst hv
                  refine Ok.enter hE Tryz.func30 rfl (by decide +kernel) (by kernel_rfl) rfl rfl (Nat.le_of_ble_eq_true rfl) rfl ?_
                  refine ⟨_, ltN h0, ?_⟩
                  refine ⟨_, ltN h1, ?_⟩
                  refine ⟨_, gtN h2, ?_⟩
                  refine ⟨_, ltN h3, ?_⟩
                  refine ⟨_, gtN h4, ?_⟩
                  refine ⟨_, ltN h5, ?_⟩
                  refine ⟨_, gtN h6, ?_⟩
                  refine ⟨_, ltT h7, ?_⟩
                  exact Ret.mk _ rfl rfl rfl
                · skip
                  by_cases h8 : c.ba > 1000000000000
                  · rw [if_neg (by rw [nums_no (by omega)]; decide)] at hv
                    subst hv
                    refine Ok.enter hE Tryz.func30 rfl (by decide +kernel) (by kernel_rfl) rfl rfl (Nat.le_of_ble_eq_true rfl) rfl ?_
                    refine ⟨_, ltN h0, ?_⟩
                    refine ⟨_, ltN h1, ?_⟩
                    refine ⟨_, gtN h2, ?_⟩
                    refine ⟨_, ltN h3, ?_⟩
                    refine ⟨_, gtN h4, ?_⟩
                    refine ⟨_, ltN h5, ?_⟩
                    refine ⟨_, gtN h6, ?_⟩
                    refine ⟨_, ltN h7, ?_⟩
                    refine ⟨_, gtT h8, ?_⟩
                    exact Ret.mk _ rfl rfl rfl
                  · skip
                    rw [if_pos (nums_yes (by omega))] at hv
                    by_cases he : (parseP c.tx).2.1 = 0
                    · rw [if_pos he] at hv
                      rcases Bool.eq_false_or_eq_true (isRight (parseP c.tx).1) with hr | hr
                      · rw [hr] at hR
                        rw [if_pos hr] at hv
                        subst hv
                        refine Ok.enter hE Tryz.func30 rfl (by decide +kernel) (by kernel_rfl) rfl rfl (Nat.le_of_ble_eq_true rfl) rfl ?_
                        refine ⟨_, ltN h0, ?_⟩
                        refine ⟨_, ltN h1, ?_⟩
                        refine ⟨_, gtN h2, ?_⟩
                        refine ⟨_, ltN h3, ?_⟩
                        refine ⟨_, gtN h4, ?_⟩
                        refine ⟨_, ltN h5, ?_⟩
                        refine ⟨_, gtN h6, ?_⟩
                        refine ⟨_, ltN h7, ?_⟩
                        refine ⟨_, gtN h8, ?_⟩
                        refine ⟨_, CallR.mk1 hP rfl rfl, ?_⟩
                        refine ⟨_, neN he, ?_⟩
                        refine ⟨_, CallR.mk1 hR rfl rfl, ?_⟩
                        exact Ret.mk _ rfl rfl rfl
                      · rw [hr] at hR
                        rw [if_neg (by rw [hr]; decide)] at hv
                        subst hv
                        refine Ok.enter hE Tryz.func30 rfl (by decide +kernel) (by kernel_rfl) rfl rfl (Nat.le_of_ble_eq_true rfl) rfl ?_
                        refine ⟨_, ltN h0, ?_⟩
                        refine ⟨_, ltN h1, ?_⟩
                        refine ⟨_, gtN h2, ?_⟩
                        refine ⟨_, ltN h3, ?_⟩
                        refine ⟨_, gtN h4, ?_⟩
                        refine ⟨_, ltN h5, ?_⟩
                        refine ⟨_, gtN h6, ?_⟩
                        refine ⟨_, ltN h7, ?_⟩
                        refine ⟨_, gtN h8, ?_⟩
                        refine ⟨_, CallR.mk1 hP rfl rfl, ?_⟩
                        refine ⟨_, neN he, ?_⟩
                        refine ⟨_, CallR.mk1 hR rfl rfl, ?_⟩
                        exact Ret.mk _ rfl rfl rfl
                    · rw [if_neg he] at hv
                      subst hv
                      refine Ok.enter hE Tryz.func30 rfl (by decide +kernel) (by kernel_rfl) rfl rfl (Nat.le_of_ble_eq_true rfl) rfl ?_
                      refine ⟨_, ltN h0, ?_⟩
                      refine ⟨_, ltN h1, ?_⟩
                      refine ⟨_, gtN h2, ?_⟩
                      refine ⟨_, ltN h3, ?_⟩
                      refine ⟨_, gtN h4, ?_⟩
                      refine ⟨_, ltN h5, ?_⟩
                      refine ⟨_, gtN h6, ?_⟩
                      refine ⟨_, ltN h7, ?_⟩
                      refine ⟨_, gtN h8, ?_⟩
                      refine ⟨_, CallR.mk1 hP rfl rfl, ?_⟩
                      refine ⟨_, neT he, ?_⟩
                      exact Ret.mk _ rfl rfl rfl
theorem rWithin_ok (c : Cfg) (p : Int) : Ok E 32 [] [pC c, pI p] (pB (withinB c p)) [] := by
  have hC := rCheck_ok c
  have hL := rLow_ok c
  obtain ⟨v, hv⟩ : ∃ v, withinB c p = v := ⟨_, rfl⟩
  rw [hv]
  unfold withinB okC at hv
  by_cases he : errF c = 0
  · rw [decide_eq_true he, Bool.true_and] at hv
    by_cases h1 : lowF c ≤ p
    · rw [decide_eq_true h1, Bool.true_and] at hv
      refine Ok.enter hE Tryz.func32 rfl (by decide +kernel) (by kernel_rfl) rfl rfl (Nat.le_of_ble_eq_true rfl) rfl ?_
      refine ⟨_, CallR.mk1 hC rfl rfl, ?_⟩
      refine ⟨_, eqT he, ?_⟩
      refine ⟨_, CallR.mk1 hL rfl rfl, ?_⟩
      refine ⟨_, geT h1, ?_⟩
      refine ⟨_, leV hv, ?_⟩
      exact Ret.mk _ rfl rfl rfl
    · rw [decide_eq_false h1, Bool.false_and] at hv
      subst hv
      refine Ok.enter hE Tryz.func32 rfl (by decide +kernel) (by kernel_rfl) rfl rfl (Nat.le_of_ble_eq_true rfl) rfl ?_
      refine ⟨_, CallR.mk1 hC rfl rfl, ?_⟩
      refine ⟨_, eqT he, ?_⟩
      refine ⟨_, CallR.mk1 hL rfl rfl, ?_⟩
      refine ⟨_, geN h1, ?_⟩
      exact Ret.mk _ rfl rfl rfl
  · rw [decide_eq_false he, Bool.false_and] at hv
    subst hv
    refine Ok.enter hE Tryz.func32 rfl (by decide +kernel) (by kernel_rfl) rfl rfl (Nat.le_of_ble_eq_true rfl) rfl ?_
    refine ⟨_, CallR.mk1 hC rfl rfl, ?_⟩
    refine ⟨_, eqN he, ?_⟩
    exact Ret.mk _ rfl rfl rfl
theorem rRight15_ok (p : Pace) (hl : p.ring.length ≤ 9223372036854775807) : Ok E 18 [] [pP p] (pB (rightP p)) [] := by
  obtain ⟨v, hv⟩ : ∃ v, rightP p = v := ⟨_, rfl⟩
  rw [hv]
  have vF : ¬ rightP p = true → v = false := fun h => by rw [← hv]; exact Bool.eq_false_iff.2 h
  have vT : rightP p = true → v = true := fun h => by rw [← hv]; exact h
  have hel := encN_len p.ring
  by_cases h0 : p.last = 0
  · by_cases h1 : p.tick = 0
    · by_cases h2 : p.ring.length = 0
      · by_cases h3 : p.swing = 0
        · refine Ok.enter hE Tryz.func18 rfl (by decide +kernel) (by kernel_rfl) rfl rfl (Nat.le_of_ble_eq_true rfl) rfl ?_
          refine ⟨_, eqT h0, ?_⟩
          refine ⟨_, eqT h1, ?_⟩
          refine ⟨_, eqT (by rw [hel, h2]; rfl), ?_⟩
          refine ⟨_, eqT h3, ?_⟩
          exact Ret.mk _ rfl (pBe (vT ((right_iff0 h0).2 ⟨h1, h2, h3⟩))) rfl
        · refine Ok.enter hE Tryz.func18 rfl (by decide +kernel) (by kernel_rfl) rfl rfl (Nat.le_of_ble_eq_true rfl) rfl ?_
          refine ⟨_, eqT h0, ?_⟩
          refine ⟨_, eqT h1, ?_⟩
          refine ⟨_, eqT (by rw [hel, h2]; rfl), ?_⟩
          refine ⟨_, eqN h3, ?_⟩
          exact Ret.mk _ rfl (pBe (vF (fun h => h3 ((right_iff0 h0).1 h).2.2))) rfl
      · refine Ok.enter hE Tryz.func18 rfl (by decide +kernel) (by kernel_rfl) rfl rfl (Nat.le_of_ble_eq_true rfl) rfl ?_
        refine ⟨_, eqT h0, ?_⟩
        refine ⟨_, eqT h1, ?_⟩
        refine ⟨_, eqN (by rw [hel]; omega), ?_⟩
        exact Ret.mk _ rfl (pBe (vF (fun h => h2 ((right_iff0 h0).1 h).2.1))) rfl
    · refine Ok.enter hE Tryz.func18 rfl (by decide +kernel) (by kernel_rfl) rfl rfl (Nat.le_of_ble_eq_true rfl) rfl ?_
      refine ⟨_, eqT h0, ?_⟩
      refine ⟨_, eqN h1, ?_⟩
      exact Ret.mk _ rfl (pBe (vF (fun h => h1 ((right_iff0 h0).1 h).1))) rfl
  · obtain ⟨k, g1, g2, g3⟩ := odd_first p.ring
    have loopg : ∀ (Q : Prop), True := fun _ => trivial
    refine Ok.enter hE Tryz.func18 rfl (by decide +kernel) (by kernel_rfl) rfl rfl (Nat.le_of_ble_eq_true rfl) rfl ?_
    refine ⟨_, eqN h0, ?_⟩
    refine Loop.run (α := Nat) (fun i => i ≤ k) (fun i => [(1, .ptr 0 0), (3, pI i)]) (fun _ => [[pI p.last, pI p.tick, .c (.row (encN p.ring)), pI p.swing]]) (fun _ => []) (fun i => k - i) 0 (Nat.zero_le _) ⟨⟨rfl, rfl, trivial⟩, rfl, rfl⟩ ?_
    rintro i f hi
    have hi : i ≤ k := hi
    by_cases hlt : i < p.ring.length
    · obtain ⟨x, hx⟩ : ∃ x, p.ring[i]? = some x := ⟨_, List.getElem?_eq_getElem hlt⟩
      have hg := encN_get hx
      by_cases hik : i < k
      · have ho := g2 i hik x hx
        unfold oddP at ho
        rw [Bool.or_eq_false_iff] at ho
        have o1 := of_decide_eq_false ho.1
        have o2 := of_decide_eq_false ho.2
        refine ⟨_, ltT (by rw [hel]; omega), ?_⟩
        refine ⟨_, idxV (j := i) hg rfl rfl rfl rfl, ?_⟩
        refine ⟨_, ltN o1, ?_⟩
        refine ⟨_, idxV (j := i) hg rfl rfl rfl rfl, ?_⟩
        refine ⟨_, gtN o2, ?_⟩
        refine ⟨_, addV (z := ((i + 1 : Nat) : Int)) (by push_cast; rfl) (by omega) (by omega), ?_⟩
        exact ⟨i + 1, by show i + 1 ≤ k; omega, by show k - (i + 1) < k - i; omega, ⟨rfl, rfl, trivial⟩, rfl, rfl⟩
      · have e : i = k := by omega
        subst e
        rcases g3 with ⟨g3, _⟩ | ⟨_, g4, g5⟩
        · omega
        · have hno : ¬ rightP p = true := fun h => by have := ((right_iff h0).1 h).2.2.1; rw [g4] at this; cases this
          have ho := g5 x hx
          unfold oddP at ho
          rw [Bool.or_eq_true, decide_eq_true_eq, decide_eq_true_eq] at ho
          by_cases o1 : x < 1
          · refine ⟨_, ltT (by rw [hel]; omega), ?_⟩
            refine ⟨_, idxV (j := i) hg rfl rfl rfl rfl, ?_⟩
            refine ⟨_, ltT o1, ?_⟩
            exact Ret.mk _ rfl (pBe (vF hno)) rfl
          · refine ⟨_, ltT (by rw [hel]; omega), ?_⟩
            refine ⟨_, idxV (j := i) hg rfl rfl rfl rfl, ?_⟩
            refine ⟨_, ltN o1, ?_⟩
            refine ⟨_, idxV (j := i) hg rfl rfl rfl rfl, ?_⟩
            refine ⟨_, gtT (by omega), ?_⟩
            exact Ret.mk _ rfl (pBe (vF hno)) rfl
    · have h5 : oddB p.ring = false := by
        rcases g3 with ⟨_, g4⟩ | ⟨g3, _⟩
        · exact g4
        · omega
      refine ⟨_, ltN (by rw [hel]; omega), ?_⟩
      by_cases c0 : 0 ≤ p.tick
      rotate_left
      · refine ⟨_, geN (by omega), ?_⟩
        exact Ret.mk _ rfl (pBe (vF (fun h => c0 ((right_iff h0).1 h).1.1))) rfl
      refine ⟨_, geT (by omega), ?_⟩
      by_cases c1 : p.tick ≤ 1099511627776
      rotate_left
      · refine ⟨_, leN (by omega), ?_⟩
        exact Ret.mk _ rfl (pBe (vF (fun h => c1 ((right_iff h0).1 h).1.2))) rfl
      refine ⟨_, leT (by omega), ?_⟩
      by_cases c2 : 1 ≤ p.ring.length
      rotate_left
      · refine ⟨_, geN (by rw [hel]; omega), ?_⟩
        exact Ret.mk _ rfl (pBe (vF (fun h => c2 ((right_iff h0).1 h).2.2.2.1))) rfl
      refine ⟨_, geT (by rw [hel]; omega), ?_⟩
      by_cases c3 : p.ring.length ≤ 3
      rotate_left
      · refine ⟨_, leN (by rw [hel]; omega), ?_⟩
        exact Ret.mk _ rfl (pBe (vF (fun h => c3 ((right_iff h0).1 h).2.2.2.2.1))) rfl
      refine ⟨_, leT (by rw [hel]; omega), ?_⟩
      obtain ⟨x, hx⟩ : ∃ x, p.ring[p.ring.length - 1]? = some x := ⟨_, List.getElem?_eq_getElem (by omega)⟩
      have hg := encN_get hx
      refine ⟨_, subV (z := ((p.ring.length - 1 : Nat) : Int)) (by rw [hel]; omega) (by omega) (by omega), ?_⟩
      refine ⟨_, idxV (j := p.ring.length - 1) hg rfl rfl rfl rfl, ?_⟩
      by_cases e : x = p.last
      rotate_left
      · refine ⟨_, eqN e, ?_⟩
        exact Ret.mk _ rfl (pBe (vF (fun h => e (by have := ((right_iff h0).1 h).2.2.2.2.2; rw [hx] at this; injection this)))) rfl
      refine ⟨_, eqT e, ?_⟩
      by_cases c4 : 0 ≤ p.swing
      rotate_left
      · refine ⟨_, geN (by omega), ?_⟩
        exact Ret.mk _ rfl (pBe (vF (fun h => c4 ((right_iff h0).1 h).2.1.1))) rfl
      refine ⟨_, geT c4, ?_⟩
      by_cases c5 : p.swing ≤ 6
      rotate_left
      · refine ⟨_, leN (by omega), ?_⟩
        exact Ret.mk _ rfl (pBe (vF (fun h => c5 ((right_iff h0).1 h).2.1.2))) rfl
      refine ⟨_, leT c5, ?_⟩
      exact Ret.mk _ rfl (pBe (vT ((right_iff h0).2 ⟨⟨c0, c1⟩, ⟨c4, c5⟩, h5, c2, c3, by rw [hx, e]⟩))) rfl
theorem later_dbl (a : Int) (k : Nat) (h0 : 0 ≤ a) : laterI (min (a * 2 ^ k) 1099511627776) (min (a * 2 ^ k) 1099511627776) = min (a * 2 ^ (k + 1)) 1099511627776 := by
  have e : a * 2 ^ (k + 1) = a * 2 ^ k * 2 := by rw [Int.pow_succ, Int.mul_assoc]
  have h1 : (0 : Int) ≤ 2 ^ k := Int.pow_nonneg (by decide)
  have h2 : 0 ≤ a * 2 ^ k := Int.mul_nonneg h0 h1
  rw [e]
  obtain ⟨q, hq⟩ : ∃ q, a * 2 ^ k = q := ⟨_, rfl⟩
  rw [hq] at h2 ⊢
  unfold laterI clampI
  omega
theorem rReady_ok (c : Cfg) (p : Pace) : Ok E 20 [] [pC c, pP p] (pI (readyI c p)) [] := by
  obtain ⟨v, hv⟩ : ∃ v, readyI c p = v := ⟨_, rfl⟩
  rw [hv]
  unfold readyI at hv
  have h1 := rLater_ok c.co 0
  obtain ⟨a1, a2⟩ := clamp_rng (a := c.co) (l := 0) (h := 1099511627776) (by decide)
  obtain ⟨b, hb⟩ : ∃ b, clampI c.co 0 1099511627776 = b := ⟨_, rfl⟩
  have e1 : laterI c.co 0 = min (b * 2 ^ 0) 1099511627776 := by
    unfold laterI
    rw [hb] at a1 a2 ⊢
    show min (b + 0) _ = _
    omega
  rw [e1] at h1
  rw [hb] at hv a1 a2
  by_cases h0 : p.last = 0
  · rw [if_pos h0] at hv
    subst hv
    refine Ok.enter hE Tryz.func20 rfl (by decide +kernel) (by kernel_rfl) rfl rfl (Nat.le_of_ble_eq_true rfl) rfl ?_
    refine ⟨_, eqT h0, ?_⟩
    exact Ret.mk _ rfl rfl rfl
  · rw [if_neg h0] at hv
    obtain ⟨s1, s2⟩ := clamp_rng (a := p.swing) (l := 0) (h := 6) (by decide)
    obtain ⟨n, hn⟩ : ∃ n : Nat, (clampI p.swing 0 6).toNat = n := ⟨_, rfl⟩
    have hnn : n = (max 0 (min p.swing 6)).toNat := hn.symm
    rw [hn] at hv
    have hp0 : 0 ≤ b * 2 ^ n := Int.mul_nonneg a1 (Int.pow_nonneg (by decide))
    have h3 := rLater_ok p.tick (min (b * 2 ^ n) 1099511627776)
    rw [show laterI p.tick (min (b * 2 ^ n) 1099511627776) = v by
      rw [← hv]
      obtain ⟨q, hq⟩ : ∃ q, b * 2 ^ n = q := ⟨_, rfl⟩
      rw [hq] at hp0 ⊢
      unfold laterI clampI
      omega] at h3
    refine Ok.enter hE Tryz.func20 rfl (by decide +kernel) (by kernel_rfl) rfl rfl (Nat.le_of_ble_eq_true rfl) rfl ?_
    refine ⟨_, eqN h0, ?_⟩
    refine ⟨_, CallR.mk1 h1 rfl rfl, ?_⟩
    refine Loop.run (α := Nat) (fun i => i ≤ n) (fun i => [(3, .ptr 1 0), (5, pI (min (b * 2 ^ i) 1099511627776)), (6, pI i)]) (fun _ => [boxC c, boxP p]) (fun _ => []) (fun i => n - i) 0 (Nat.zero_le _) ⟨⟨rfl, rfl, rfl, trivial⟩, rfl, rfl⟩ ?_
    rintro i f hi
    have hi : i ≤ n := hi
    by_cases hin : i < n
    · have hL := rLater_ok (min (b * 2 ^ i) 1099511627776) (min (b * 2 ^ i) 1099511627776)
      rw [later_dbl b i a1] at hL
      refine ⟨_, ltT (by omega), ?_⟩
      refine ⟨_, ltT (by omega), ?_⟩
      refine ⟨_, CallR.mk1 hL rfl rfl, ?_⟩
      refine ⟨_, addV (z := ((i + 1 : Nat) : Int)) (by push_cast; rfl) (by omega) (by omega), ?_⟩
      exact ⟨i + 1, by show i + 1 ≤ n; omega, by show n - (i + 1) < n - i; omega, ⟨rfl, rfl, rfl, trivial⟩, rfl, rfl⟩
    · have e : i = n := by omega
      subst e
      by_cases hsw : (i : Int) < p.swing
      · refine ⟨_, ltT hsw, ?_⟩
        refine ⟨_, ltN (by omega), ?_⟩
        refine ⟨_, CallR.mk1 h3 rfl rfl, ?_⟩
        exact Ret.mk _ rfl rfl rfl
      · refine ⟨_, ltN hsw, ?_⟩
        refine ⟨_, CallR.mk1 h3 rfl rfl, ?_⟩
        exact Ret.mk _ rfl rfl rfl
theorem rSwings_ok (l : List Int) (t : Int) : Ok E 46 [] [.c (.row (encN l)), pI t] (pB (swingsB l t)) [] := by
  obtain ⟨v, hv⟩ : ∃ v, swingsB l t = v := ⟨_, rfl⟩
  rw [hv]
  unfold swingsB at hv
  have hel := encN_len l
  by_cases h : l.length = 3
  · match l, h with
    | [a, b, d], _ =>
      have hv : (decide (b = t) && decide (d = a)) = v := by
        rw [← hv, show (decide (d = a)) = decide (a = d) by rw [decide_eq_decide]; exact eq_comm]
        simp
      by_cases h1 : b = t
      · rw [decide_eq_true h1, Bool.true_and] at hv
        refine Ok.enter hE Tryz.func46 rfl (by decide +kernel) (by kernel_rfl) rfl rfl (Nat.le_of_ble_eq_true rfl) rfl ?_
        refine ⟨_, eqT rfl, ?_⟩
        refine ⟨_, idxV (j := 1) rfl rfl rfl rfl rfl, ?_⟩
        refine ⟨_, eqT h1, ?_⟩
        refine ⟨_, idxV (j := 2) rfl rfl rfl rfl rfl, ?_⟩
        refine ⟨_, idxV (j := 0) rfl rfl rfl rfl rfl, ?_⟩
        refine ⟨_, eqV (c := v) (by rw [← hv]; exact (Bool.beq_eq_decide_eq _ _)), ?_⟩
        exact Ret.mk _ rfl rfl rfl
      · rw [decide_eq_false h1, Bool.false_and] at hv
        subst hv
        refine Ok.enter hE Tryz.func46 rfl (by decide +kernel) (by kernel_rfl) rfl rfl (Nat.le_of_ble_eq_true rfl) rfl ?_
        refine ⟨_, eqT rfl, ?_⟩
        refine ⟨_, idxV (j := 1) rfl rfl rfl rfl rfl, ?_⟩
        refine ⟨_, eqN h1, ?_⟩
        exact Ret.mk _ rfl rfl rfl
  · rw [decide_eq_false h, Bool.false_and] at hv
    subst hv
    refine Ok.enter hE Tryz.func46 rfl (by decide +kernel) (by kernel_rfl) rfl rfl (Nat.le_of_ble_eq_true rfl) rfl ?_
    refine ⟨_, eqN (by rw [hel]; omega), ?_⟩
    exact Ret.mk _ rfl rfl rfl
theorem rSame_ok (p : Pace) (hl : p.ring.length ≤ 9223372036854775807) : Ok E 24 [] [pP p, pP p] (pB true) [] := by
  have hel := encN_len p.ring
  refine Ok.enter hE Tryz.func24 rfl (by decide +kernel) (by kernel_rfl) rfl rfl (Nat.le_of_ble_eq_true rfl) rfl ?_
  refine ⟨_, neN rfl, ?_⟩
  refine ⟨_, neN rfl, ?_⟩
  refine ⟨_, neN rfl, ?_⟩
  refine ⟨_, neN rfl, ?_⟩
  refine Loop.run (α := Nat) (fun i => i ≤ p.ring.length) (fun i => [(2, .ptr 0 0), (3, .ptr 1 0), (5, pI i)]) (fun _ => [boxP p, boxP p]) (fun _ => []) (fun i => p.ring.length - i) 0 (Nat.zero_le _) ⟨⟨rfl, rfl, rfl, trivial⟩, rfl, rfl⟩ ?_
  rintro i f hi
  have hi : i ≤ p.ring.length := hi
  by_cases hlt : i < p.ring.length
  · obtain ⟨x, hx⟩ : ∃ x, p.ring[i]? = some x := ⟨_, List.getElem?_eq_getElem hlt⟩
    have hg := encN_get hx
    refine ⟨_, ltT (by rw [hel]; omega), ?_⟩
    refine ⟨_, idxV (j := i) hg rfl rfl rfl rfl, ?_⟩
    refine ⟨_, idxV (j := i) hg rfl rfl rfl rfl, ?_⟩
    refine ⟨_, neN rfl, ?_⟩
    refine ⟨_, addV (z := ((i + 1 : Nat) : Int)) (by push_cast; rfl) (by omega) (by omega), ?_⟩
    exact ⟨i + 1, by show i + 1 ≤ p.ring.length; omega, by show p.ring.length - (i + 1) < p.ring.length - i; omega, ⟨rfl, rfl, rfl, trivial⟩, rfl, rfl⟩
  · refine ⟨_, ltN (by rw [hel]; omega), ?_⟩
    exact Ret.mk _ rfl rfl rfl
end Go.Proofs.YtkolnkjdcncmpaaGreatDoor.Pc

/- The document's Decide, and PaceTells, in the pure machine. -/
namespace Go.Proofs.YtkolnkjdcncmpaaGreatDoor.Pc
open Go Go.RowKit Go.Proofs.YtkolnkjdcncmpaaGreatDoor.Pm Go.Proofs.YtkolnkjdcncmpaaGreatDoor.Pl
open Go.Proofs.YtkolnkjdcncmpaaGreatDoor.Pr (minV wkTup)
set_option linter.unusedVariables false
set_option maxHeartbeats 8000000
theorem sliceOV {E : Env} {t e s b : Nat} {zz : List CV} {ei : TI} {p : PV} {xs : List (List CV)} {lo hi : Option PV} (l h : Nat) (h1 : E.T t = some ⟨.slice e, s, zz, b⟩) (h2 : E.T e = some ei) (hp : toRow p = some xs) (hlo : bndF 0 lo = some (l : Int)) (hhi : bndF xs.length hi = some (h : Int)) (hr : l ≤ h ∧ h ≤ xs.length) (hx : ∀ x ∈ xs, x.length = ei.size) :
    SliceR E t p lo hi (.c (.row ((xs.take h).drop l))) where
  h := by
    unfold sliceF
    rw [h1]
    dsimp only
    rw [h2, hp]
    simp only [hlo, hhi]
    rw [show decide ((0 : Int) ≤ l ∧ (l : Int) ≤ h ∧ (h : Int) ≤ xs.length) = true by simp; omega]
    dsimp only
    rw [decide_eq_true hx]
    simp
theorem addW {E : Env} {a b : Int} {ti : Nat} : BinR E ti .add (.c (.int .i64 a)) (.c (.int .i64 b)) (.c (.int .i64 (IntKind.i64.wrap (a + b)))) := binI rfl rfl
theorem rDecide_ok (c : Cfg) (p : Pace) (t now : Int) (hl : p.ring.length ≤ 9223372036854775807) : Ok E 23 [] [pC c, pP p, pI t, pI now] (.tup [pP (decideF c p t now).1, pB (decideF c p t now).2]) [] := by
  have hW := rWithin_ok c t
  have hR := rRight15_ok p hl
  have hY := rReady_ok c p
  have hW2 := rWithin_ok c p.last
  obtain ⟨v, hv⟩ : ∃ v, decideF c p t now = v := ⟨_, rfl⟩
  rw [hv]
  unfold decideF at hv
  rcases Bool.eq_false_or_eq_true (withinB c t) with w1 | w1
  rotate_left
  · rw [w1] at hW
    rw [if_pos (by unfold stopB; rw [w1]; simp)] at hv
    subst hv
    refine Ok.enter hE Tryz.func23 rfl (by decide +kernel) (by kernel_rfl) rfl rfl (Nat.le_of_ble_eq_true rfl) rfl ?_
    refine ⟨_, CallR.mk1 hW rfl rfl, ?_⟩
    refine ⟨_, CallR.mk1 hR rfl rfl, ?_⟩
    exact Ret.mk _ rfl rfl rfl
  rw [w1] at hW
  obtain ⟨G, g1, g2⟩ := within_good w1
  have glo := G.low
  have gcm := G.cm
  have gb := G.b0
  rcases Bool.eq_false_or_eq_true (rightP p) with r1 | r1
  rotate_left
  · rw [r1] at hR
    rw [if_pos (by unfold stopB; rw [r1]; simp)] at hv
    subst hv
    refine Ok.enter hE Tryz.func23 rfl (by decide +kernel) (by kernel_rfl) rfl rfl (Nat.le_of_ble_eq_true rfl) rfl ?_
    refine ⟨_, CallR.mk1 hW rfl rfl, ?_⟩
    refine ⟨_, CallR.mk1 hR rfl rfl, ?_⟩
    exact Ret.mk _ rfl rfl rfl
  rw [r1] at hR
  obtain ⟨e1, e2, e3, e4, e5⟩ := right_last r1
  by_cases n1 : now < 0
  · rw [if_pos (by unfold stopB; rw [decide_eq_true n1]; simp)] at hv
    subst hv
    refine Ok.enter hE Tryz.func23 rfl (by decide +kernel) (by kernel_rfl) rfl rfl (Nat.le_of_ble_eq_true rfl) rfl ?_
    refine ⟨_, CallR.mk1 hW rfl rfl, ?_⟩
    refine ⟨_, CallR.mk1 hR rfl rfl, ?_⟩
    refine ⟨_, ltT n1, ?_⟩
    exact Ret.mk _ rfl rfl rfl
  by_cases n2 : now > 1099511627776
  · rw [if_pos (by unfold stopB; rw [decide_eq_true (show 1099511627776 < now from n2)]; simp)] at hv
    subst hv
    refine Ok.enter hE Tryz.func23 rfl (by decide +kernel) (by kernel_rfl) rfl rfl (Nat.le_of_ble_eq_true rfl) rfl ?_
    refine ⟨_, CallR.mk1 hW rfl rfl, ?_⟩
    refine ⟨_, CallR.mk1 hR rfl rfl, ?_⟩
    refine ⟨_, ltN n1, ?_⟩
    refine ⟨_, gtT n2, ?_⟩
    exact Ret.mk _ rfl rfl rfl
  by_cases n3 : now < readyI c p
  · rw [if_pos (by unfold stopB; rw [decide_eq_true n3]; simp)] at hv
    subst hv
    refine Ok.enter hE Tryz.func23 rfl (by decide +kernel) (by kernel_rfl) rfl rfl (Nat.le_of_ble_eq_true rfl) rfl ?_
    refine ⟨_, CallR.mk1 hW rfl rfl, ?_⟩
    refine ⟨_, CallR.mk1 hR rfl rfl, ?_⟩
    refine ⟨_, ltN n1, ?_⟩
    refine ⟨_, gtN n2, ?_⟩
    refine ⟨_, CallR.mk1 hY rfl rfl, ?_⟩
    refine ⟨_, ltT n3, ?_⟩
    exact Ret.mk _ rfl rfl rfl
  obtain ⟨m, hm⟩ : ∃ m : Nat, p.ring.length - 2 = m := ⟨_, rfl⟩
  have hel := encN_len p.ring
  have hSw := rSwings_ok p.ring t
  have hA1 : AppR E [] 25 (.c .nil) (.c (.row (encN p.ring))) (.orow (encN p.ring) 0) [((encN p.ring).length, 3)] :=
    AppR.first rfl rfl (by decide) rfl rfl (encN_one _) (by rw [hel]; omega) (by rw [hel]; show _ * 8 ≤ _; omega)
  have hA2 : AppR E [((encN p.ring).length, 3)] 25 (.orow (encN p.ring) 0) (.c (.row [[.int .i64 t]])) (.orow (encN p.ring ++ [[.int .i64 t]]) 0) [((encN p.ring).length + 1, 3)] :=
    AppR.more rfl rfl (by decide) rfl rfl (encN_one _) (by simp) rfl (by rw [hel]; simp; omega) (by rw [hel]; show _ * 8 ≤ _; simp; omega)
  have e3' : encN p.ring ++ [[.int .i64 t]] = encN (p.ring ++ [t]) := by unfold encN; rw [List.map_append]; rfl
  have hS : SliceR E 25 (.orow (encN p.ring ++ [[.int .i64 t]]) 0) (some (pI (m : Nat))) none (.c (.row (encN (p.ring.drop (p.ring.length - 2) ++ [t])))) := by
    have h := sliceOV (E := E) (t := 25) (p := .orow (encN (p.ring ++ [t])) 0) (xs := encN (p.ring ++ [t])) (lo := some (pI (m : Nat))) (hi := none) m (p.ring ++ [t]).length rfl rfl rfl rfl (by rw [encN_len]; rfl) ⟨by simp; omega, by rw [encN_len]; exact Nat.le_refl _⟩ (encN_one _)
    rw [encN_cut, ← e3'] at h
    rw [hm, ← List.drop_append_of_le_length (by omega)]
    exact h
  by_cases hA : t - p.last ≤ c.ba ∧ p.last - t ≤ c.ba ∧ withinB c p.last = true
  · obtain ⟨a1, a2, a3⟩ := hA
    rw [a3] at hW2
    rw [if_pos (by unfold stopB nearB; rw [a3, decide_eq_true (show max (t - p.last) (p.last - t) ≤ c.ba by omega)]; simp)] at hv
    subst hv
    refine Ok.enter hE Tryz.func23 rfl (by decide +kernel) (by kernel_rfl) rfl rfl (Nat.le_of_ble_eq_true rfl) rfl ?_
    refine ⟨_, CallR.mk1 hW rfl rfl, ?_⟩
    refine ⟨_, CallR.mk1 hR rfl rfl, ?_⟩
    refine ⟨_, ltN n1, ?_⟩
    refine ⟨_, gtN n2, ?_⟩
    refine ⟨_, CallR.mk1 hY rfl rfl, ?_⟩
    refine ⟨_, ltN n3, ?_⟩
    refine ⟨_, subV rfl (by omega) (by omega), ?_⟩
    refine ⟨_, leT a1, ?_⟩
    refine ⟨_, subV rfl (by omega) (by omega), ?_⟩
    refine ⟨_, leT a2, ?_⟩
    refine ⟨_, CallR.mk1 hW2 rfl rfl, ?_⟩
    exact Ret.mk _ rfl rfl rfl
  have hne : t ≠ p.last := by
    intro e
    exact hA ⟨by omega, by omega, by rw [← e]; exact w1⟩
  have n4 : nearB c p t = false := by
    unfold nearB
    rw [decide_eq_false hne, Bool.false_or, Bool.and_eq_false_iff]
    by_cases b1 : max (t - p.last) (p.last - t) ≤ c.ba
    · exact .inr (Bool.eq_false_iff.2 fun h => hA ⟨by omega, by omega, h⟩)
    · exact .inl (decide_eq_false b1)
  rw [if_neg (by unfold stopB; rw [w1, r1, n4, decide_eq_false n1, decide_eq_false n3, decide_eq_false (show ¬ 1099511627776 < now from n2)]; decide)] at hv
  subst hv
  rcases Bool.eq_false_or_eq_true (swingsB p.ring t) with s1 | s1
  · rw [s1] at hSw
    by_cases b1 : t - p.last ≤ c.ba
    · by_cases b2 : p.last - t ≤ c.ba
      · have w2 : withinB c p.last = false := Bool.eq_false_iff.2 fun h => hA ⟨b1, b2, h⟩
        rw [w2] at hW2
        refine Ok.enter hE Tryz.func23 rfl (by decide +kernel) (by kernel_rfl) rfl rfl (Nat.le_of_ble_eq_true rfl) rfl ?_
        refine ⟨_, CallR.mk1 hW rfl rfl, ?_⟩
        refine ⟨_, CallR.mk1 hR rfl rfl, ?_⟩
        refine ⟨_, ltN n1, ?_⟩
        refine ⟨_, gtN n2, ?_⟩
        refine ⟨_, CallR.mk1 hY rfl rfl, ?_⟩
        refine ⟨_, ltN n3, ?_⟩
        refine ⟨_, subV rfl (by omega) (by omega), ?_⟩
        refine ⟨_, leT b1, ?_⟩
        refine ⟨_, subV rfl (by omega) (by omega), ?_⟩
        refine ⟨_, leT b2, ?_⟩
        refine ⟨_, CallR.mk1 hW2 rfl rfl, ?_⟩
        refine ⟨_, eqN hne, ?_⟩
        refine ⟨_, CallR.mk1 hSw rfl rfl, ?_⟩
        refine ⟨_, addV rfl (by omega) (by omega), ?_⟩
        refine ⟨_, minV rfl, ?_⟩
        refine ⟨_, _, hA1, ?_⟩
        refine ⟨_, ⟨_, rfl, rfl⟩, ?_⟩
        refine ⟨_, _, hA2, ?_⟩
        refine ⟨_, subV rfl (by simp; omega) (by simp; omega), ?_⟩
        refine ⟨pI (m : Nat), maxV (by simp; omega), ?_⟩
        refine ⟨_, hS, ?_⟩
        exact Ret.mk _ rfl (by show PV.tup [.agg [_, _, _, _], _] = PV.tup [.agg [_, _, _, .int .i64 (if _ then _ else _)], _]; rw [if_pos s1]; rfl) rfl
      · rcases Bool.eq_false_or_eq_true (withinB c p.last) with w2 | w2
        · rw [w2] at hW2
          refine Ok.enter hE Tryz.func23 rfl (by decide +kernel) (by kernel_rfl) rfl rfl (Nat.le_of_ble_eq_true rfl) rfl ?_
          refine ⟨_, CallR.mk1 hW rfl rfl, ?_⟩
          refine ⟨_, CallR.mk1 hR rfl rfl, ?_⟩
          refine ⟨_, ltN n1, ?_⟩
          refine ⟨_, gtN n2, ?_⟩
          refine ⟨_, CallR.mk1 hY rfl rfl, ?_⟩
          refine ⟨_, ltN n3, ?_⟩
          refine ⟨_, subV rfl (by omega) (by omega), ?_⟩
          refine ⟨_, leT b1, ?_⟩
          refine ⟨_, subV rfl (by omega) (by omega), ?_⟩
          refine ⟨_, leN b2, ?_⟩
          refine ⟨_, CallR.mk1 hW2 rfl rfl, ?_⟩
          refine ⟨_, eqN hne, ?_⟩
          refine ⟨_, CallR.mk1 hSw rfl rfl, ?_⟩
          refine ⟨_, addV rfl (by omega) (by omega), ?_⟩
          refine ⟨_, minV rfl, ?_⟩
          refine ⟨_, _, hA1, ?_⟩
          refine ⟨_, ⟨_, rfl, rfl⟩, ?_⟩
          refine ⟨_, _, hA2, ?_⟩
          refine ⟨_, subV rfl (by simp; omega) (by simp; omega), ?_⟩
          refine ⟨pI (m : Nat), maxV (by simp; omega), ?_⟩
          refine ⟨_, hS, ?_⟩
          exact Ret.mk _ rfl (by show PV.tup [.agg [_, _, _, _], _] = PV.tup [.agg [_, _, _, .int .i64 (if _ then _ else _)], _]; rw [if_pos s1]; rfl) rfl
        · rw [w2] at hW2
          refine Ok.enter hE Tryz.func23 rfl (by decide +kernel) (by kernel_rfl) rfl rfl (Nat.le_of_ble_eq_true rfl) rfl ?_
          refine ⟨_, CallR.mk1 hW rfl rfl, ?_⟩
          refine ⟨_, CallR.mk1 hR rfl rfl, ?_⟩
          refine ⟨_, ltN n1, ?_⟩
          refine ⟨_, gtN n2, ?_⟩
          refine ⟨_, CallR.mk1 hY rfl rfl, ?_⟩
          refine ⟨_, ltN n3, ?_⟩
          refine ⟨_, subV rfl (by omega) (by omega), ?_⟩
          refine ⟨_, leT b1, ?_⟩
          refine ⟨_, subV rfl (by omega) (by omega), ?_⟩
          refine ⟨_, leN b2, ?_⟩
          refine ⟨_, CallR.mk1 hW2 rfl rfl, ?_⟩
          refine ⟨_, eqN hne, ?_⟩
          refine ⟨_, CallR.mk1 hSw rfl rfl, ?_⟩
          refine ⟨_, addV rfl (by omega) (by omega), ?_⟩
          refine ⟨_, minV rfl, ?_⟩
          refine ⟨_, _, hA1, ?_⟩
          refine ⟨_, ⟨_, rfl, rfl⟩, ?_⟩
          refine ⟨_, _, hA2, ?_⟩
          refine ⟨_, subV rfl (by simp; omega) (by simp; omega), ?_⟩
          refine ⟨pI (m : Nat), maxV (by simp; omega), ?_⟩
          refine ⟨_, hS, ?_⟩
          exact Ret.mk _ rfl (by show PV.tup [.agg [_, _, _, _], _] = PV.tup [.agg [_, _, _, .int .i64 (if _ then _ else _)], _]; rw [if_pos s1]; rfl) rfl
    · rcases Bool.eq_false_or_eq_true (withinB c p.last) with w2 | w2
      · rw [w2] at hW2
        refine Ok.enter hE Tryz.func23 rfl (by decide +kernel) (by kernel_rfl) rfl rfl (Nat.le_of_ble_eq_true rfl) rfl ?_
        refine ⟨_, CallR.mk1 hW rfl rfl, ?_⟩
        refine ⟨_, CallR.mk1 hR rfl rfl, ?_⟩
        refine ⟨_, ltN n1, ?_⟩
        refine ⟨_, gtN n2, ?_⟩
        refine ⟨_, CallR.mk1 hY rfl rfl, ?_⟩
        refine ⟨_, ltN n3, ?_⟩
        refine ⟨_, subV rfl (by omega) (by omega), ?_⟩
        refine ⟨_, leN b1, ?_⟩
        refine ⟨_, CallR.mk1 hW2 rfl rfl, ?_⟩
        refine ⟨_, eqN hne, ?_⟩
        refine ⟨_, CallR.mk1 hSw rfl rfl, ?_⟩
        refine ⟨_, addV rfl (by omega) (by omega), ?_⟩
        refine ⟨_, minV rfl, ?_⟩
        refine ⟨_, _, hA1, ?_⟩
        refine ⟨_, ⟨_, rfl, rfl⟩, ?_⟩
        refine ⟨_, _, hA2, ?_⟩
        refine ⟨_, subV rfl (by simp; omega) (by simp; omega), ?_⟩
        refine ⟨pI (m : Nat), maxV (by simp; omega), ?_⟩
        refine ⟨_, hS, ?_⟩
        exact Ret.mk _ rfl (by show PV.tup [.agg [_, _, _, _], _] = PV.tup [.agg [_, _, _, .int .i64 (if _ then _ else _)], _]; rw [if_pos s1]; rfl) rfl
      · rw [w2] at hW2
        refine Ok.enter hE Tryz.func23 rfl (by decide +kernel) (by kernel_rfl) rfl rfl (Nat.le_of_ble_eq_true rfl) rfl ?_
        refine ⟨_, CallR.mk1 hW rfl rfl, ?_⟩
        refine ⟨_, CallR.mk1 hR rfl rfl, ?_⟩
        refine ⟨_, ltN n1, ?_⟩
        refine ⟨_, gtN n2, ?_⟩
        refine ⟨_, CallR.mk1 hY rfl rfl, ?_⟩
        refine ⟨_, ltN n3, ?_⟩
        refine ⟨_, subV rfl (by omega) (by omega), ?_⟩
        refine ⟨_, leN b1, ?_⟩
        refine ⟨_, CallR.mk1 hW2 rfl rfl, ?_⟩
        refine ⟨_, eqN hne, ?_⟩
        refine ⟨_, CallR.mk1 hSw rfl rfl, ?_⟩
        refine ⟨_, addV rfl (by omega) (by omega), ?_⟩
        refine ⟨_, minV rfl, ?_⟩
        refine ⟨_, _, hA1, ?_⟩
        refine ⟨_, ⟨_, rfl, rfl⟩, ?_⟩
        refine ⟨_, _, hA2, ?_⟩
        refine ⟨_, subV rfl (by simp; omega) (by simp; omega), ?_⟩
        refine ⟨pI (m : Nat), maxV (by simp; omega), ?_⟩
        refine ⟨_, hS, ?_⟩
        exact Ret.mk _ rfl (by show PV.tup [.agg [_, _, _, _], _] = PV.tup [.agg [_, _, _, .int .i64 (if _ then _ else _)], _]; rw [if_pos s1]; rfl) rfl
  · rw [s1] at hSw
    by_cases b1 : t - p.last ≤ c.ba
    · by_cases b2 : p.last - t ≤ c.ba
      · have w2 : withinB c p.last = false := Bool.eq_false_iff.2 fun h => hA ⟨b1, b2, h⟩
        rw [w2] at hW2
        refine Ok.enter hE Tryz.func23 rfl (by decide +kernel) (by kernel_rfl) rfl rfl (Nat.le_of_ble_eq_true rfl) rfl ?_
        refine ⟨_, CallR.mk1 hW rfl rfl, ?_⟩
        refine ⟨_, CallR.mk1 hR rfl rfl, ?_⟩
        refine ⟨_, ltN n1, ?_⟩
        refine ⟨_, gtN n2, ?_⟩
        refine ⟨_, CallR.mk1 hY rfl rfl, ?_⟩
        refine ⟨_, ltN n3, ?_⟩
        refine ⟨_, subV rfl (by omega) (by omega), ?_⟩
        refine ⟨_, leT b1, ?_⟩
        refine ⟨_, subV rfl (by omega) (by omega), ?_⟩
        refine ⟨_, leT b2, ?_⟩
        refine ⟨_, CallR.mk1 hW2 rfl rfl, ?_⟩
        refine ⟨_, eqN hne, ?_⟩
        refine ⟨_, CallR.mk1 hSw rfl rfl, ?_⟩
        refine ⟨_, _, hA1, ?_⟩
        refine ⟨_, ⟨_, rfl, rfl⟩, ?_⟩
        refine ⟨_, _, hA2, ?_⟩
        refine ⟨_, subV rfl (by simp; omega) (by simp; omega), ?_⟩
        refine ⟨pI (m : Nat), maxV (by simp; omega), ?_⟩
        refine ⟨_, hS, ?_⟩
        exact Ret.mk _ rfl (by show PV.tup [.agg [_, _, _, _], _] = PV.tup [.agg [_, _, _, .int .i64 (if _ then _ else _)], _]; rw [if_neg (by rw [s1]; decide)]; rfl) rfl
      · rcases Bool.eq_false_or_eq_true (withinB c p.last) with w2 | w2
        · rw [w2] at hW2
          refine Ok.enter hE Tryz.func23 rfl (by decide +kernel) (by kernel_rfl) rfl rfl (Nat.le_of_ble_eq_true rfl) rfl ?_
          refine ⟨_, CallR.mk1 hW rfl rfl, ?_⟩
          refine ⟨_, CallR.mk1 hR rfl rfl, ?_⟩
          refine ⟨_, ltN n1, ?_⟩
          refine ⟨_, gtN n2, ?_⟩
          refine ⟨_, CallR.mk1 hY rfl rfl, ?_⟩
          refine ⟨_, ltN n3, ?_⟩
          refine ⟨_, subV rfl (by omega) (by omega), ?_⟩
          refine ⟨_, leT b1, ?_⟩
          refine ⟨_, subV rfl (by omega) (by omega), ?_⟩
          refine ⟨_, leN b2, ?_⟩
          refine ⟨_, CallR.mk1 hW2 rfl rfl, ?_⟩
          refine ⟨_, eqN hne, ?_⟩
          refine ⟨_, CallR.mk1 hSw rfl rfl, ?_⟩
          refine ⟨_, _, hA1, ?_⟩
          refine ⟨_, ⟨_, rfl, rfl⟩, ?_⟩
          refine ⟨_, _, hA2, ?_⟩
          refine ⟨_, subV rfl (by simp; omega) (by simp; omega), ?_⟩
          refine ⟨pI (m : Nat), maxV (by simp; omega), ?_⟩
          refine ⟨_, hS, ?_⟩
          exact Ret.mk _ rfl (by show PV.tup [.agg [_, _, _, _], _] = PV.tup [.agg [_, _, _, .int .i64 (if _ then _ else _)], _]; rw [if_neg (by rw [s1]; decide)]; rfl) rfl
        · rw [w2] at hW2
          refine Ok.enter hE Tryz.func23 rfl (by decide +kernel) (by kernel_rfl) rfl rfl (Nat.le_of_ble_eq_true rfl) rfl ?_
          refine ⟨_, CallR.mk1 hW rfl rfl, ?_⟩
          refine ⟨_, CallR.mk1 hR rfl rfl, ?_⟩
          refine ⟨_, ltN n1, ?_⟩
          refine ⟨_, gtN n2, ?_⟩
          refine ⟨_, CallR.mk1 hY rfl rfl, ?_⟩
          refine ⟨_, ltN n3, ?_⟩
          refine ⟨_, subV rfl (by omega) (by omega), ?_⟩
          refine ⟨_, leT b1, ?_⟩
          refine ⟨_, subV rfl (by omega) (by omega), ?_⟩
          refine ⟨_, leN b2, ?_⟩
          refine ⟨_, CallR.mk1 hW2 rfl rfl, ?_⟩
          refine ⟨_, eqN hne, ?_⟩
          refine ⟨_, CallR.mk1 hSw rfl rfl, ?_⟩
          refine ⟨_, _, hA1, ?_⟩
          refine ⟨_, ⟨_, rfl, rfl⟩, ?_⟩
          refine ⟨_, _, hA2, ?_⟩
          refine ⟨_, subV rfl (by simp; omega) (by simp; omega), ?_⟩
          refine ⟨pI (m : Nat), maxV (by simp; omega), ?_⟩
          refine ⟨_, hS, ?_⟩
          exact Ret.mk _ rfl (by show PV.tup [.agg [_, _, _, _], _] = PV.tup [.agg [_, _, _, .int .i64 (if _ then _ else _)], _]; rw [if_neg (by rw [s1]; decide)]; rfl) rfl
    · rcases Bool.eq_false_or_eq_true (withinB c p.last) with w2 | w2
      · rw [w2] at hW2
        refine Ok.enter hE Tryz.func23 rfl (by decide +kernel) (by kernel_rfl) rfl rfl (Nat.le_of_ble_eq_true rfl) rfl ?_
        refine ⟨_, CallR.mk1 hW rfl rfl, ?_⟩
        refine ⟨_, CallR.mk1 hR rfl rfl, ?_⟩
        refine ⟨_, ltN n1, ?_⟩
        refine ⟨_, gtN n2, ?_⟩
        refine ⟨_, CallR.mk1 hY rfl rfl, ?_⟩
        refine ⟨_, ltN n3, ?_⟩
        refine ⟨_, subV rfl (by omega) (by omega), ?_⟩
        refine ⟨_, leN b1, ?_⟩
        refine ⟨_, CallR.mk1 hW2 rfl rfl, ?_⟩
        refine ⟨_, eqN hne, ?_⟩
        refine ⟨_, CallR.mk1 hSw rfl rfl, ?_⟩
        refine ⟨_, _, hA1, ?_⟩
        refine ⟨_, ⟨_, rfl, rfl⟩, ?_⟩
        refine ⟨_, _, hA2, ?_⟩
        refine ⟨_, subV rfl (by simp; omega) (by simp; omega), ?_⟩
        refine ⟨pI (m : Nat), maxV (by simp; omega), ?_⟩
        refine ⟨_, hS, ?_⟩
        exact Ret.mk _ rfl (by show PV.tup [.agg [_, _, _, _], _] = PV.tup [.agg [_, _, _, .int .i64 (if _ then _ else _)], _]; rw [if_neg (by rw [s1]; decide)]; rfl) rfl
      · rw [w2] at hW2
        refine Ok.enter hE Tryz.func23 rfl (by decide +kernel) (by kernel_rfl) rfl rfl (Nat.le_of_ble_eq_true rfl) rfl ?_
        refine ⟨_, CallR.mk1 hW rfl rfl, ?_⟩
        refine ⟨_, CallR.mk1 hR rfl rfl, ?_⟩
        refine ⟨_, ltN n1, ?_⟩
        refine ⟨_, gtN n2, ?_⟩
        refine ⟨_, CallR.mk1 hY rfl rfl, ?_⟩
        refine ⟨_, ltN n3, ?_⟩
        refine ⟨_, subV rfl (by omega) (by omega), ?_⟩
        refine ⟨_, leN b1, ?_⟩
        refine ⟨_, CallR.mk1 hW2 rfl rfl, ?_⟩
        refine ⟨_, eqN hne, ?_⟩
        refine ⟨_, CallR.mk1 hSw rfl rfl, ?_⟩
        refine ⟨_, _, hA1, ?_⟩
        refine ⟨_, ⟨_, rfl, rfl⟩, ?_⟩
        refine ⟨_, _, hA2, ?_⟩
        refine ⟨_, subV rfl (by simp; omega) (by simp; omega), ?_⟩
        refine ⟨pI (m : Nat), maxV (by simp; omega), ?_⟩
        refine ⟨_, hS, ?_⟩
        exact Ret.mk _ rfl (by show PV.tup [.agg [_, _, _, _], _] = PV.tup [.agg [_, _, _, .int .i64 (if _ then _ else _)], _]; rw [if_neg (by rw [s1]; decide)]; rfl) rfl
theorem dec_len (c : Cfg) (p : Pace) (t k : Int) : (decideF c p t k).1.ring.length ≤ p.ring.length + 1 := by
  unfold decideF
  split
  · exact Nat.le_succ _
  · show (p.ring.drop _ ++ [t]).length ≤ _
    simp
theorem PaceTells_ok (z : List Int) (hl : z.length = 6) (hi : ∀ n ∈ z, I64 n) (c2 : Cfg) (p : Pace) (hpl : p.ring.length ≤ 9223372036854775807) (tg : Int) (htg : I64 tg) (nw : Int) (hnw : I64 nw) : Ok E 3 [] [.agg (encI z), pC c2, pP p, pI tg, pI nw] (pB true) [] := by
  have hC := cfg_nil z hl hi
  obtain ⟨c1, hc⟩ : ∃ c, configF z [] = c := ⟨_, rfl⟩
  rw [hc] at hC
  have hel := encN_len p.ring
  have hR := Right_ok p (by omega)
  have hR2 := rRight15_ok p (by omega)
  have hK := pick15_ok tg 2000 htg (by decide)
  have hK2 := pick15_ok nw 1000 hnw (by decide)
  obtain ⟨z0, z1, z2, z3, z4, z5, rfl⟩ := arr6 hl
  refine Ok.enter hE Tryz.func3 rfl (by decide +kernel) (by kernel_rfl) rfl rfl (Nat.le_of_ble_eq_true rfl) rfl ?_
  refine ⟨_, CallR.mk1 awake_ok rfl rfl, ?_⟩
  refine ⟨_, CallR.mkW hC (.cons (Wk.refl _) (.cons wkNilN .nil)) rfl rfl, ?_⟩
  refine ⟨_, ⟨_, rfl, rfl⟩, ?_⟩
  refine Loop.cut (α := Nat) (fun j => j ≤ 2) (fun j => [(3, pI tg), (4, pI nw), (7, .ptr 2 0), (11, pB true), (27, .c (.row [cC c1, cC c2])), (28, pI 2), (29, pI j)]) (fun _ => [[pI z0, pI z1, pI z2, pI z3, pI z4, pI z5], boxC c2, boxP p]) (fun _ => []) (fun j => 2 - j) 0 3 (fun _ => rfl) (fun _ => rfl) (fun _ => rfl) (Nat.zero_le _) ⟨⟨rfl, rfl, rfl, rfl, rfl, rfl, rfl, trivial⟩, rfl, rfl⟩ ?_
  rintro j f hj
  have hj : j ≤ 2 := hj
  by_cases hjl : j < 2
  · obtain ⟨c, hg⟩ : ∃ c, ([cC c1, cC c2])[j]? = some (cC c) := by
      have : j = 0 ∨ j = 1 := by omega
      rcases this with rfl | rfl
      · exact ⟨c1, rfl⟩
      · exact ⟨c2, rfl⟩
    have hY := Ready_ok c p
    have hY2 := rReady_ok c p
    by_cases h9 : 9 < p.ring.length
    · refine ⟨_, ltT (by omega), ?_⟩
      refine ⟨_, idxV (j := j) hg rfl rfl rfl rfl, ?_⟩
      refine ⟨_, gtT (by rw [hel]; omega), ?_⟩
      refine ⟨_, gtT (by rw [hel]; omega), ?_⟩
      exact Ret.mk _ rfl rfl rfl
    · obtain ⟨q, hq⟩ : ∃ q : Pace, q = (if h : 0 < p.ring.length then ⟨p.ring[p.ring.length - 1], p.tick, p.ring, p.swing⟩ else p) := ⟨_, rfl⟩
      have hql : q.ring.length ≤ 9 := by
        rw [hq]; split <;> (try dsimp only) <;> omega
      have body : ∀ sl : Nat → PV, True := fun _ => trivial
      by_cases hz : 0 < p.ring.length
      · rw [dif_pos hz] at hq
        obtain ⟨x0, hx0⟩ : ∃ x, p.ring[p.ring.length - 1] = x := ⟨_, rfl⟩
        have hgx : (encN p.ring)[p.ring.length - 1]? = some [.int .i64 x0] := encN_get (by rw [List.getElem?_eq_getElem (by omega), hx0])
        rw [hx0] at hq
        refine ⟨_, ltT (by omega), ?_⟩
        refine ⟨_, idxV (j := j) hg rfl rfl rfl rfl, ?_⟩
        refine ⟨_, gtN (by rw [hel]; omega), ?_⟩
        refine ⟨_, CallR.mk1 hR rfl rfl, ?_⟩
        refine ⟨_, CallR.mk1 hR2 rfl rfl, ?_⟩
        refine ⟨_, Lx.neBN (beq_self_eq_true _), ?_⟩
        refine ⟨_, CallR.mk1 hY rfl rfl, ?_⟩
        refine ⟨_, CallR.mk1 hY2 rfl rfl, ?_⟩
        refine ⟨_, neN rfl, ?_⟩
        refine ⟨_, gtT (by rw [hel]; omega), ?_⟩
        refine ⟨_, subV (z := ((p.ring.length - 1 : Nat) : Int)) (by rw [hel]; omega) (by omega) (by omega), ?_⟩
        refine ⟨_, idxV (j := p.ring.length - 1) hgx rfl rfl rfl rfl, ?_⟩
        refine ⟨_, ⟨_, rfl, rfl⟩, ?_⟩
        refine Loop.cut (α := Nat) (fun k => k ≤ 2) (fun k => [(3, pI tg), (4, pI nw), (7, .ptr 2 0), (11, pB true), (13, .ptr 3 0), (27, .c (.row [cC c1, cC c2])), (28, pI 2), (29, pI j), (76, .c (.row [cP p, cP ⟨x0, p.tick, p.ring, p.swing⟩])), (77, pI 2), (78, pI k)]) (fun _ => [[pI z0, pI z1, pI z2, pI z3, pI z4, pI z5], boxC c2, boxP p, boxC c, boxP ⟨x0, p.tick, p.ring, p.swing⟩]) (fun _ => []) (fun k => 2 - k) 0 5 (fun _ => rfl) (fun _ => rfl) (fun _ => rfl) (Nat.zero_le _) ⟨⟨rfl, rfl, rfl, rfl, rfl, rfl, rfl, rfl, rfl, rfl, rfl, trivial⟩, rfl, rfl⟩ ?_
        rintro k f2 hk
        have hk : k ≤ 2 := hk
        by_cases hkl : k < 2
        · obtain ⟨x, hxl, hgk⟩ : ∃ x : Pace, x.ring.length ≤ 9 ∧ ([cP p, cP ⟨x0, p.tick, p.ring, p.swing⟩])[k]? = some (cP x) := by
            have : k = 0 ∨ k = 1 := by omega
            rcases this with rfl | rfl
            · exact ⟨p, by omega, rfl⟩
            · exact ⟨⟨x0, p.tick, p.ring, p.swing⟩, by rw [hq] at hql; exact hql, rfl⟩
          obtain ⟨w1, hw1⟩ : ∃ w, IntKind.i64.wrap (c.fl + pk tg 2000) = w := ⟨_, rfl⟩
          have hadd : BinR E 3 .add (.c (.int .i64 c.fl)) (.c (.int .i64 (pk tg 2000))) (.c (.int .i64 w1)) := by rw [← hw1]; exact addW
          refine ⟨_, ltT (by omega), ?_⟩
          refine ⟨_, idxV (j := k) hgk rfl rfl rfl rfl, ?_⟩
          refine ⟨_, CallR.mk1 hK rfl rfl, ?_⟩
          refine ⟨_, hadd, ?_⟩
          refine ⟨_, CallR.mk1 hK2 rfl rfl, ?_⟩
          refine ⟨_, ⟨_, rfl, rfl⟩, ?_⟩
          refine Loop.cut (α := Nat) (fun m => m ≤ 2) (fun m => [(3, pI tg), (4, pI nw), (7, .ptr 2 0), (11, pB true), (13, .ptr 3 0), (16, .ptr 5 0), (27, .c (.row [cC c1, cC c2])), (28, pI 2), (29, pI j), (76, .c (.row [cP p, cP ⟨x0, p.tick, p.ring, p.swing⟩])), (77, pI 2), (78, pI k), (93, .c (.row [[.int .i64 tg, .int .i64 nw], [.int .i64 w1, .int .i64 (pk nw 1000)]])), (94, pI 2), (95, pI m)]) (fun _ => [[pI z0, pI z1, pI z2, pI z3, pI z4, pI z5], boxC c2, boxP p, boxC c, boxP ⟨x0, p.tick, p.ring, p.swing⟩, boxP x]) (fun _ => []) (fun m => 2 - m) 0 6 (fun _ => rfl) (fun _ => rfl) (fun _ => rfl) (Nat.zero_le _) ⟨⟨rfl, rfl, rfl, rfl, rfl, rfl, rfl, rfl, rfl, rfl, rfl, rfl, rfl, rfl, rfl, trivial⟩, rfl, rfl⟩ ?_
          rintro m f3 hm
          have hm : m ≤ 2 := hm
          by_cases hml : m < 2
          · obtain ⟨a, b, hgm⟩ : ∃ a b : Int, ([[CV.int .i64 tg, .int .i64 nw], [.int .i64 w1, .int .i64 (pk nw 1000)]])[m]? = some [.int .i64 a, .int .i64 b] := by
              have : m = 0 ∨ m = 1 := by omega
              rcases this with rfl | rfl
              · exact ⟨_, _, rfl⟩
              · exact ⟨_, _, rfl⟩
            have hD := Decide_ok c x a b (by omega)
            have hD2 := rDecide_ok c x a b (by omega)
            have hdl := dec_len c x a b
            have hS := rSame_ok (decideF c x a b).1 (by omega)
            refine ⟨_, ltT (by omega), ?_⟩
            refine ⟨_, idxV (j := m) hgm rfl rfl rfl rfl, ?_⟩
            refine ⟨_, ⟨rfl⟩, ?_⟩
            refine ⟨_, ⟨rfl⟩, ?_⟩
            refine ⟨_, CallR.mk1 hD rfl rfl, ?_⟩
            refine ⟨_, ⟨rfl⟩, ?_⟩
            refine ⟨_, ⟨rfl⟩, ?_⟩
            refine ⟨_, CallR.mk1 hD2 rfl rfl, ?_⟩
            refine ⟨_, CallR.mk1 hS rfl rfl, ?_⟩
            refine ⟨_, Lx.neBN (beq_self_eq_true _), ?_⟩
            refine ⟨_, addV (z := ((m + 1 : Nat) : Int)) (by push_cast; rfl) (by omega) (by omega), ?_⟩
            exact ⟨m + 1, by show m + 1 ≤ 2; omega, by show 2 - (m + 1) < 2 - m; omega, ⟨rfl, rfl, rfl, rfl, rfl, rfl, rfl, rfl, rfl, rfl, rfl, rfl, rfl, rfl, rfl, trivial⟩, ⟨_, rfl⟩, rfl⟩
          · refine ⟨_, ltN (by omega), ?_⟩
            refine ⟨_, addV (z := ((k + 1 : Nat) : Int)) (by push_cast; rfl) (by omega) (by omega), ?_⟩
            exact ⟨k + 1, by show k + 1 ≤ 2; omega, by show 2 - (k + 1) < 2 - k; omega, ⟨rfl, rfl, rfl, rfl, rfl, rfl, rfl, rfl, rfl, rfl, rfl, trivial⟩, ⟨_, rfl⟩, rfl⟩
        · refine ⟨_, ltN (by omega), ?_⟩
          refine ⟨_, addV (z := ((j + 1 : Nat) : Int)) (by push_cast; rfl) (by omega) (by omega), ?_⟩
          exact ⟨j + 1, by show j + 1 ≤ 2; omega, by show 2 - (j + 1) < 2 - j; omega, ⟨rfl, rfl, rfl, rfl, rfl, rfl, rfl, trivial⟩, ⟨_, rfl⟩, rfl⟩
      · rw [dif_neg hz] at hq
        refine ⟨_, ltT (by omega), ?_⟩
        refine ⟨_, idxV (j := j) hg rfl rfl rfl rfl, ?_⟩
        refine ⟨_, gtN (by rw [hel]; omega), ?_⟩
        refine ⟨_, CallR.mk1 hR rfl rfl, ?_⟩
        refine ⟨_, CallR.mk1 hR2 rfl rfl, ?_⟩
        refine ⟨_, Lx.neBN (beq_self_eq_true _), ?_⟩
        refine ⟨_, CallR.mk1 hY rfl rfl, ?_⟩
        refine ⟨_, CallR.mk1 hY2 rfl rfl, ?_⟩
        refine ⟨_, neN rfl, ?_⟩
        refine ⟨_, gtN (by rw [hel]; omega), ?_⟩
        refine ⟨_, ⟨_, rfl, rfl⟩, ?_⟩
        refine Loop.cut (α := Nat) (fun k => k ≤ 2) (fun k => [(3, pI tg), (4, pI nw), (7, .ptr 2 0), (11, pB true), (13, .ptr 3 0), (27, .c (.row [cC c1, cC c2])), (28, pI 2), (29, pI j), (76, .c (.row [cP p, cP p])), (77, pI 2), (78, pI k)]) (fun _ => [[pI z0, pI z1, pI z2, pI z3, pI z4, pI z5], boxC c2, boxP p, boxC c, boxP p]) (fun _ => []) (fun k => 2 - k) 0 5 (fun _ => rfl) (fun _ => rfl) (fun _ => rfl) (Nat.zero_le _) ⟨⟨rfl, rfl, rfl, rfl, rfl, rfl, rfl, rfl, rfl, rfl, rfl, trivial⟩, rfl, rfl⟩ ?_
        rintro k f2 hk
        have hk : k ≤ 2 := hk
        by_cases hkl : k < 2
        · obtain ⟨x, hxl, hgk⟩ : ∃ x : Pace, x.ring.length ≤ 9 ∧ ([cP p, cP p])[k]? = some (cP x) := by
            have : k = 0 ∨ k = 1 := by omega
            rcases this with rfl | rfl
            · exact ⟨p, by omega, rfl⟩
            · exact ⟨p, by omega, rfl⟩
          obtain ⟨w1, hw1⟩ : ∃ w, IntKind.i64.wrap (c.fl + pk tg 2000) = w := ⟨_, rfl⟩
          have hadd : BinR E 3 .add (.c (.int .i64 c.fl)) (.c (.int .i64 (pk tg 2000))) (.c (.int .i64 w1)) := by rw [← hw1]; exact addW
          refine ⟨_, ltT (by omega), ?_⟩
          refine ⟨_, idxV (j := k) hgk rfl rfl rfl rfl, ?_⟩
          refine ⟨_, CallR.mk1 hK rfl rfl, ?_⟩
          refine ⟨_, hadd, ?_⟩
          refine ⟨_, CallR.mk1 hK2 rfl rfl, ?_⟩
          refine ⟨_, ⟨_, rfl, rfl⟩, ?_⟩
          refine Loop.cut (α := Nat) (fun m => m ≤ 2) (fun m => [(3, pI tg), (4, pI nw), (7, .ptr 2 0), (11, pB true), (13, .ptr 3 0), (16, .ptr 5 0), (27, .c (.row [cC c1, cC c2])), (28, pI 2), (29, pI j), (76, .c (.row [cP p, cP p])), (77, pI 2), (78, pI k), (93, .c (.row [[.int .i64 tg, .int .i64 nw], [.int .i64 w1, .int .i64 (pk nw 1000)]])), (94, pI 2), (95, pI m)]) (fun _ => [[pI z0, pI z1, pI z2, pI z3, pI z4, pI z5], boxC c2, boxP p, boxC c, boxP p, boxP x]) (fun _ => []) (fun m => 2 - m) 0 6 (fun _ => rfl) (fun _ => rfl) (fun _ => rfl) (Nat.zero_le _) ⟨⟨rfl, rfl, rfl, rfl, rfl, rfl, rfl, rfl, rfl, rfl, rfl, rfl, rfl, rfl, rfl, trivial⟩, rfl, rfl⟩ ?_
          rintro m f3 hm
          have hm : m ≤ 2 := hm
          by_cases hml : m < 2
          · obtain ⟨a, b, hgm⟩ : ∃ a b : Int, ([[CV.int .i64 tg, .int .i64 nw], [.int .i64 w1, .int .i64 (pk nw 1000)]])[m]? = some [.int .i64 a, .int .i64 b] := by
              have : m = 0 ∨ m = 1 := by omega
              rcases this with rfl | rfl
              · exact ⟨_, _, rfl⟩
              · exact ⟨_, _, rfl⟩
            have hD := Decide_ok c x a b (by omega)
            have hD2 := rDecide_ok c x a b (by omega)
            have hdl := dec_len c x a b
            have hS := rSame_ok (decideF c x a b).1 (by omega)
            refine ⟨_, ltT (by omega), ?_⟩
            refine ⟨_, idxV (j := m) hgm rfl rfl rfl rfl, ?_⟩
            refine ⟨_, ⟨rfl⟩, ?_⟩
            refine ⟨_, ⟨rfl⟩, ?_⟩
            refine ⟨_, CallR.mk1 hD rfl rfl, ?_⟩
            refine ⟨_, ⟨rfl⟩, ?_⟩
            refine ⟨_, ⟨rfl⟩, ?_⟩
            refine ⟨_, CallR.mk1 hD2 rfl rfl, ?_⟩
            refine ⟨_, CallR.mk1 hS rfl rfl, ?_⟩
            refine ⟨_, Lx.neBN (beq_self_eq_true _), ?_⟩
            refine ⟨_, addV (z := ((m + 1 : Nat) : Int)) (by push_cast; rfl) (by omega) (by omega), ?_⟩
            exact ⟨m + 1, by show m + 1 ≤ 2; omega, by show 2 - (m + 1) < 2 - m; omega, ⟨rfl, rfl, rfl, rfl, rfl, rfl, rfl, rfl, rfl, rfl, rfl, rfl, rfl, rfl, rfl, trivial⟩, ⟨_, rfl⟩, rfl⟩
          · refine ⟨_, ltN (by omega), ?_⟩
            refine ⟨_, addV (z := ((k + 1 : Nat) : Int)) (by push_cast; rfl) (by omega) (by omega), ?_⟩
            exact ⟨k + 1, by show k + 1 ≤ 2; omega, by show 2 - (k + 1) < 2 - k; omega, ⟨rfl, rfl, rfl, rfl, rfl, rfl, rfl, rfl, rfl, rfl, rfl, trivial⟩, ⟨_, rfl⟩, rfl⟩
        · refine ⟨_, ltN (by omega), ?_⟩
          refine ⟨_, addV (z := ((j + 1 : Nat) : Int)) (by push_cast; rfl) (by omega) (by omega), ?_⟩
          exact ⟨j + 1, by show j + 1 ≤ 2; omega, by show 2 - (j + 1) < 2 - j; omega, ⟨rfl, rfl, rfl, rfl, rfl, rfl, rfl, trivial⟩, ⟨_, rfl⟩, rfl⟩
  · refine ⟨_, ltN (by omega), ?_⟩
    exact Ret.mk _ rfl rfl rfl
end Go.Proofs.YtkolnkjdcncmpaaGreatDoor.Pc

/- A row's config and pace, as values of the pure machine. -/
namespace Go.Proofs.YtkolnkjdcncmpaaGreatDoor.Pc
open Go Go.RowKit Go.ChangeShapes Go.WideShapes Go.Proofs.YtkolnkjdcncmpaaGreatDoor.Pm
set_option linter.unusedVariables false
theorem list6 {α : Type} {l : List α} (h : l.length = 6) : ∃ a b c d e f, l = [a, b, c, d, e, f] := by
  match l, h with
  | [a, b, c, d, e, f], _ => exact ⟨a, b, c, d, e, f, rfl⟩
theorem list4 {α : Type} {l : List α} (h : l.length = 4) : ∃ a b c d, l = [a, b, c, d] := by
  match l, h with
  | [a, b, c, d], _ => exact ⟨a, b, c, d, rfl⟩
theorem c3_ : Tryz.prog.cellsOf 3 = 1 := by kernel_rfl
theorem c9_ : Tryz.prog.cellsOf 9 = 1 := by kernel_rfl
theorem c24_ : Tryz.prog.cellsOf 24 = 6 := by kernel_rfl
theorem c27_ : Tryz.prog.cellsOf 27 = 4 := by kernel_rfl
theorem c25_ : Tryz.prog.cellsOf 25 = 1 := by kernel_rfl
section
variable {H : Type} {enc : TypeId × Value → H} {w : World} {base : Nat} {spare : Nat → Bool} {held : Bool} {fuel : Nat} {x : DataW H × List MemPlace}
theorem one_int {n : Nat} {a : Value} {xs : List (DataW H × List MemPlace)} {i k : Nat} (hl : xs.length = k) (hi : i < k) (h : DataW.trod enc Tryz.prog w base spare held n 3 [a] = xs[i]?) : ∃ z : Int, a = .int .i64 z ∧ I64 z := by
  rw [List.getElem?_eq_getElem (by omega)] at h
  obtain ⟨z, hz, -, hw⟩ := DataW.trod_int Tryz.underlying3 h
  injection hz with hz
  exact ⟨z, hz, I64.of hw⟩
theorem open_config {cs : Array Value} (h : DataW.trod enc Tryz.prog w base spare held fuel 24 (Value.agg cs).cells.toList = some x) : ∃ c : Cfg, (Value.agg cs) = .agg #[.int .i64 c.fl, .int .i64 c.ce, .int .i64 c.mp, .int .i64 c.co, .int .i64 c.ba, .string c.tx] := by
  obtain ⟨l⟩ := cs
  replace h : DataW.trod enc Tryz.prog w base spare held fuel 24 l = some x := h
  obtain ⟨xs, n, -, -, hl, hlen, hat⟩ := DataW.trod_struct Tryz.underlying24 h
  rw [c24_] at hl
  replace hlen : xs.length = 6 := hlen
  obtain ⟨a0, a1, a2, a3, a4, a5, rfl⟩ := list6 hl
  have h0 : DataW.trod enc Tryz.prog w base spare held n 3 (([a0, a1, a2, a3, a4, a5].drop 0).take (Tryz.prog.cellsOf 3)) = xs[0]? := hat 0 _ rfl
  have h1 : DataW.trod enc Tryz.prog w base spare held n 3 (([a0, a1, a2, a3, a4, a5].drop 1).take (Tryz.prog.cellsOf 3)) = xs[1]? := hat 1 _ rfl
  have h2 : DataW.trod enc Tryz.prog w base spare held n 3 (([a0, a1, a2, a3, a4, a5].drop 2).take (Tryz.prog.cellsOf 3)) = xs[2]? := hat 2 _ rfl
  have h3 : DataW.trod enc Tryz.prog w base spare held n 3 (([a0, a1, a2, a3, a4, a5].drop 3).take (Tryz.prog.cellsOf 3)) = xs[3]? := hat 3 _ rfl
  have h4 : DataW.trod enc Tryz.prog w base spare held n 3 (([a0, a1, a2, a3, a4, a5].drop 4).take (Tryz.prog.cellsOf 3)) = xs[4]? := hat 4 _ rfl
  have h5 : DataW.trod enc Tryz.prog w base spare held n 9 (([a0, a1, a2, a3, a4, a5].drop 5).take (Tryz.prog.cellsOf 9)) = xs[5]? := hat 5 _ rfl
  rw [c3_] at h0 h1 h2 h3 h4
  rw [c9_] at h5
  obtain ⟨z0, rfl, -⟩ := one_int hlen (by decide) h0
  obtain ⟨z1, rfl, -⟩ := one_int hlen (by decide) h1
  obtain ⟨z2, rfl, -⟩ := one_int hlen (by decide) h2
  obtain ⟨z3, rfl, -⟩ := one_int hlen (by decide) h3
  obtain ⟨z4, rfl, -⟩ := one_int hlen (by decide) h4
  rw [List.getElem?_eq_getElem (by omega)] at h5
  obtain ⟨s, hs, -⟩ := DataW.trod_string Tryz.underlying9 h5
  replace hs : [a5] = [.string s] := hs
  injection hs with hs
  subst hs
  exact ⟨⟨z0, z1, z2, z3, z4, s⟩, rfl⟩
theorem open_pace {cs : Array Value} (h : DataW.trod enc Tryz.prog w base (fun _ => true) held fuel 27 (Value.agg cs).cells.toList = some x) : ∃ (la ti sw : Int) (a : Option Addr) (len cap : Nat) (zs : List Int), (Value.agg cs) = .agg #[.int .i64 la, .int .i64 ti, .slice a len cap, .int .i64 sw] ∧ IsRow .i64 w a len cap zs ∧ len ≤ maxLen := by
  obtain ⟨l⟩ := cs
  replace h : DataW.trod enc Tryz.prog w base (fun _ => true) held fuel 27 l = some x := h
  obtain ⟨xs, n, -, -, hl, hlen, hat⟩ := DataW.trod_struct Tryz.underlying27 h
  rw [c27_] at hl
  replace hlen : xs.length = 4 := hlen
  obtain ⟨a0, a1, a2, a3, rfl⟩ := list4 hl
  have h0 : DataW.trod enc Tryz.prog w base (fun _ => true) held n 3 (([a0, a1, a2, a3].drop 0).take (Tryz.prog.cellsOf 3)) = xs[0]? := hat 0 _ rfl
  have h1 : DataW.trod enc Tryz.prog w base (fun _ => true) held n 3 (([a0, a1, a2, a3].drop 1).take (Tryz.prog.cellsOf 3)) = xs[1]? := hat 1 _ rfl
  have h2 : DataW.trod enc Tryz.prog w base (fun _ => true) held n 25 (([a0, a1, a2, a3].drop 2).take (Tryz.prog.cellsOf 25)) = xs[2]? := hat 2 _ rfl
  have h3 : DataW.trod enc Tryz.prog w base (fun _ => true) held n 3 (([a0, a1, a2, a3].drop 3).take (Tryz.prog.cellsOf 3)) = xs[3]? := hat 3 _ rfl
  rw [c3_] at h0 h1 h3
  rw [c25_] at h2
  obtain ⟨z0, rfl, -⟩ := one_int hlen (by decide) h0
  obtain ⟨z1, rfl, -⟩ := one_int hlen (by decide) h1
  obtain ⟨z3, rfl, -⟩ := one_int hlen (by decide) h3
  rw [List.getElem?_eq_getElem (by omega)] at h2
  rcases open_ints Tryz.underlying25 Tryz.underlying3 c3_ h2 with ⟨hcs, _⟩ | ⟨y, len, cap, zs, hcs, _, hl', hm, hz, _, hcell, hwz⟩
  · replace hcs : [a2] = [.slice none 0 0] := hcs
    injection hcs with hcs
    subst hcs
    exact ⟨z0, z1, z3, none, 0, 0, [], rfl, .inl ⟨rfl, rfl, rfl, rfl⟩, Nat.zero_le _⟩
  · replace hcs : [a2] = [.slice (some y) len cap] := hcs
    injection hcs with hcs
    subst hcs
    exact ⟨z0, z1, z3, some y, len, cap, zs, rfl, .inr ⟨_, rfl, hl', hm, by simpa using hz, hcell, hwz⟩, Nat.le_trans hl' hm⟩
end
theorem rep_config {w : World} {ok : Nat → Nat → Prop} (c : Cfg) : Rep w ok [] [] (.agg #[.int .i64 c.fl, .int .i64 c.ce, .int .i64 c.mp, .int .i64 c.co, .int .i64 c.ba, .string c.tx]) (pC c) :=
  .agg _ _ (.cons (.int _ _) (.cons (.int _ _) (.cons (.int _ _) (.cons (.int _ _) (.cons (.int _ _) (.cons (.str _) .nil))))))
theorem rep_pace {w : World} {la ti sw : Int} {a : Option Addr} {len cap : Nat} {zs : List Int} (h : IsRow .i64 w a len cap zs) : Rep w (fun b _ => b < w.heap.size) [] [] (.agg #[.int .i64 la, .int .i64 ti, .slice a len cap, .int .i64 sw]) (pP ⟨la, ti, zs.take len, sw⟩) := by
  refine .agg _ _ (.cons (.int _ _) (.cons (.int _ _) (.cons ?_ (.cons (.int _ _) .nil))))
  have hr := h.rep
  exact hr.toC (c := .row (encN (zs.take len))) rfl
end Go.Proofs.YtkolnkjdcncmpaaGreatDoor.Pc
