/- Texts that are merged: VaS, VaW, RowD, VaTm, VaX. -/
import Derived.Test.YtlhplknmcdllfaaGreatDoorVaBll
import Derived.Test.YtlhplknmcdllfaaGreatDoorPmBll
import Derived.ChangeArms
import Derived.SizedLaws
import Derived.Test.YtlhplknmcdllfaaGreatDoorPtCll
/- Layer 9's laws: awake. -/
namespace Go.Proofs.YtlhplknmcdllfaaGreatDoor.Va
open Go Go.RowKit Go.Proofs.YtlhplknmcdllfaaGreatDoor.Pm Go.Proofs.YtlhplknmcdllfaaGreatDoor.Pl
set_option linter.unusedVariables false
set_option maxHeartbeats 4000000
set_option maxRecDepth 8000
def ab : List Of := [⟨⟨#[97]⟩, 700⟩, ⟨⟨#[98]⟩, 500⟩]
def moreE : Ex := ⟨11, 1, e0, []⟩
theorem aw_facts : tellA xE [] = .am 999 ∧ tellA xE ab = .am 499 ∧ tellA lowE [] = .no ∧ rightO [⟨⟨#[97]⟩, 0⟩] = false ∧ Q.rngE (ifE moreE) = true ∧ size (ifE moreE) = 4 ∧ size lowE = 1 := by decide +kernel
theorem aw_cond : tellC moreE ab = .is true := by
  unfold tellC
  rw [if_pos (by decide +kernel)]
  rfl
theorem awake_ok : Ok E 5 [] [] (pB true) [] := by
  obtain ⟨f1, f2, f3, f4, f5, f6, f7⟩ := aw_facts
  obtain ⟨x1, x2, x3, x4, x5⟩ := x_facts
  obtain ⟨s1, s2, s3⟩ := s_facts
  have h1 := Eval_ok xE [] x1 (by rw [x2]; decide) (by decide)
  have h2 := Eval_ok xE ab x1 (by rw [x2]; decide) (by decide)
  have h3 := Eval_ok lowE [] s3 (by rw [f7]; decide) (by decide)
  have h4 := Cond_ok moreE ab f5 (by rw [f6]; decide) (by decide)
  have h5 := vRight_ok [⟨⟨#[97]⟩, 0⟩] (by decide)
  rw [f1] at h1
  rw [f2] at h2
  rw [f3] at h3
  rw [aw_cond] at h4
  rw [f4] at h5
  have wx := Wk.aggW wk_xE
  have wl := Wk.aggW (wk_leaf 1 0 e0)
  have wm := Wk.aggW (wk_leaf 11 1 e0)
  refine Ok.enter hE Tryz.func5 rfl (by decide +kernel) (by kernel_rfl) rfl rfl (Nat.le_of_ble_eq_true rfl) rfl ?_
  refine ⟨_, ⟨_, rfl, rfl⟩, ?_⟩
  refine ⟨_, ⟨_, rfl, rfl⟩, ?_⟩
  refine ⟨_, CallR.mkW h1 (.cons wx (.cons Wk.nilRow .nil)) rfl rfl, ?_⟩
  refine ⟨_, ⟨_, rfl, rfl⟩, ?_⟩
  refine ⟨_, CallR.mkW h2 (.cons wx (.cons (Wk.refl _) .nil)) rfl rfl, ?_⟩
  refine ⟨_, CallR.mkW h3 (.cons wl (.cons Wk.nilRow .nil)) rfl rfl, ?_⟩
  refine ⟨_, ⟨_, rfl, rfl⟩, ?_⟩
  refine ⟨_, CallR.mkW h4 (.cons wm (.cons (Wk.refl _) .nil)) rfl rfl, ?_⟩
  refine ⟨_, eqT rfl, ?_⟩
  refine ⟨_, eqT rfl, ?_⟩
  refine ⟨_, eqT rfl, ?_⟩
  refine ⟨_, eqT rfl, ?_⟩
  refine ⟨_, eqT rfl, ?_⟩
  refine ⟨_, eqT rfl, ?_⟩
  refine ⟨_, ⟨_, rfl, rfl⟩, ?_⟩
  refine ⟨_, CallR.mkW h5 (.cons (Wk.refl _) .nil) rfl rfl, ?_⟩
  exact Ret.mk _ rfl rfl rfl
end Go.Proofs.YtlhplknmcdllfaaGreatDoor.Va

/- The document's Eval and Cond; the statement ValueRules. (Printed by wip/pr/mk_vaw.py.) -/
namespace Go.Proofs.YtlhplknmcdllfaaGreatDoor.Va
open Go Go.RowKit Go.Proofs.YtlhplknmcdllfaaGreatDoor.Pm Go.Proofs.YtlhplknmcdllfaaGreatDoor.Pl
set_option linter.unusedVariables false
set_option maxHeartbeats 4000000
set_option maxRecDepth 8000
theorem tell_is {x : Ex} {l : List Of} (hl : rightO l = true) (hx : isRight x = true) : tellA x l = evalE l x := by
  unfold tellA; rw [hl, hx]; rfl
theorem tell_l {x : Ex} {l : List Of} (hl : rightO l = false) : tellA x l = .er 1 := by
  unfold tellA; rw [hl]; rfl
theorem tell_x {x : Ex} {l : List Of} (hx : isRight x = false) : tellA x l = .er 1 := by
  unfold tellA; rw [hx, Bool.and_false]; rfl
theorem rEval9_ok (x : Ex) (l : List Of) (hr : Q.rngE x = true) (hs : size x ≤ 9223372036854775807) (hl : l.length ≤ 17592186043904) : Ok E 12 [] [pE x, .c (.row (rowO l))] (tupA (tellA x l)) [] := by
  have gL := rRight9_ok l hl
  have gR := rRight_ok x hr hs
  obtain ⟨k, n, nm, xs⟩ := x
  cases hL : rightO l with
  | false =>
    rw [hL] at gL
    rw [tell_l hL]
    refine Ok.enter hE Tryz.func12 rfl (by decide +kernel) (by kernel_rfl) rfl rfl (Nat.le_of_ble_eq_true rfl) rfl ?_
    refine ⟨_, CallR.mk1 gL rfl rfl, ?_⟩
    refine ⟨_, CallR.mk1 gR rfl rfl, ?_⟩
    exact Ret.mk _ rfl rfl rfl
  | true =>
    rw [hL] at gL
    cases hR : isRight ⟨k, n, nm, xs⟩ with
    | false =>
      rw [hR] at gR
      rw [tell_x hR]
      refine Ok.enter hE Tryz.func12 rfl (by decide +kernel) (by kernel_rfl) rfl rfl (Nat.le_of_ble_eq_true rfl) rfl ?_
      refine ⟨_, CallR.mk1 gL rfl rfl, ?_⟩
      refine ⟨_, CallR.mk1 gR rfl rfl, ?_⟩
      exact Ret.mk _ rfl rfl rfl
    | true =>
      rw [hR] at gR
      have hT := ((told_all hL 32).1 _ (right_fine hR)).ok
      rw [tell_is hL hR]
      obtain ⟨r, hr⟩ : ∃ r, evalE l ⟨k, n, nm, xs⟩ = r := ⟨_, rfl⟩
      rw [hr] at hT ⊢
      refine Ok.enter hE Tryz.func12 rfl (by decide +kernel) (by kernel_rfl) rfl rfl (Nat.le_of_ble_eq_true rfl) rfl ?_
      refine ⟨_, CallR.mk1 gL rfl rfl, ?_⟩
      refine ⟨_, CallR.mk1 gR rfl rfl, ?_⟩
      refine ⟨_, CallR.mk1 hT rfl rfl, ?_⟩
      exact Ret.mk _ rfl rfl rfl
theorem rCond9_ok (x : Ex) (l : List Of) (hr : Q.rngE (ifE x) = true) (hs : size (ifE x) ≤ 9223372036854775807) (hl : l.length ≤ 17592186043904) : Ok E 14 [] [pE x, .c (.row (rowO l))] (tupC (tellC x l)) [] := by
  have gL := rRight9_ok l hl
  have gR := rRight_ok (ifE x) hr hs
  unfold tellC
  obtain ⟨k, n, nm, xs⟩ := x
  have wx := Wk.aggW (wk_if ⟨k, n, nm, xs⟩)
  cases hL : rightO l with
  | false =>
    rw [hL] at gL
    refine Ok.enter hE Tryz.func14 rfl (by decide +kernel) (by kernel_rfl) rfl rfl (Nat.le_of_ble_eq_true rfl) rfl ?_
    refine ⟨_, CallR.mk1 gL rfl rfl, ?_⟩
    refine ⟨_, ⟨_, rfl, rfl⟩, ?_⟩
    refine ⟨_, CallR.mkW gR (.cons wx .nil) rfl rfl, ?_⟩
    exact Ret.mk _ rfl rfl rfl
  | true =>
    rw [hL] at gL
    cases hR : isRight (ifE ⟨k, n, nm, xs⟩) with
    | false =>
      rw [hR] at gR
      refine Ok.enter hE Tryz.func14 rfl (by decide +kernel) (by kernel_rfl) rfl rfl (Nat.le_of_ble_eq_true rfl) rfl ?_
      refine ⟨_, CallR.mk1 gL rfl rfl, ?_⟩
      refine ⟨_, ⟨_, rfl, rfl⟩, ?_⟩
      refine ⟨_, CallR.mkW gR (.cons wx .nil) rfl rfl, ?_⟩
      exact Ret.mk _ rfl rfl rfl
    | true =>
      rw [hR] at gR
      have hT := ((told_all hL 31).2 _ (if_fine hR)).ok
      obtain ⟨r, hr⟩ : ∃ r, condE l ⟨k, n, nm, xs⟩ = r := ⟨_, rfl⟩
      show Ok E _ [] _ (tupC (condE l ⟨k, n, nm, xs⟩)) []
      rw [hr] at hT ⊢
      refine Ok.enter hE Tryz.func14 rfl (by decide +kernel) (by kernel_rfl) rfl rfl (Nat.le_of_ble_eq_true rfl) rfl ?_
      refine ⟨_, CallR.mk1 gL rfl rfl, ?_⟩
      refine ⟨_, ⟨_, rfl, rfl⟩, ?_⟩
      refine ⟨_, CallR.mkW gR (.cons wx .nil) rfl rfl, ?_⟩
      refine ⟨_, CallR.mk1 hT rfl rfl, ?_⟩
      exact Ret.mk _ rfl rfl rfl
theorem both_err (f : Int → Int → Int) (e : Int) (r : Am) : bothF f (.er e) r = .er e := by cases r <;> rfl
theorem right_two {k : Int} (hk : k = 7 ∨ k = 8 ∨ k = 9) {x y : Ex} (h : isRight ⟨k, 0, e0, [x, y]⟩ = true) : isFine ((31 : Nat) : Int) false x = true ∧ isFine ((31 : Nat) : Int) false y = true ∧ isRight x = true ∧ isRight y = true := by
  have hp := part_of h
  obtain ⟨-, -, -, hq⟩ := fine_kind (right_fine h)
  have hf : isFine ((31 : Nat) : Int) false x = true ∧ isFine ((31 : Nat) : Int) false y = true := by
    rcases hq with ⟨-, h1, -⟩ | ⟨-, h1, -⟩ | ⟨-, h1, a, b, hxs, ha, hb⟩ | ⟨-, h1, -⟩ | ⟨hc, -⟩ | ⟨hc, -⟩
    · omega
    · omega
    · rw [List.cons.injEq, List.cons.injEq] at hxs
      rw [hxs.1, hxs.2.1]; exact ⟨ha, hb⟩
    · omega
    · cases hc
    · cases hc
  have one : ∀ y, isFine ((31 : Nat) : Int) false y = true → PartOK y → isRight y = true := by
    rintro ⟨a, b, c, d⟩ hy hpy
    rw [hpy.right]
    obtain ⟨w, m, q, -, -, hc, -⟩ := fine_open hy
    show (!isCond a) = true
    rw [hc]; rfl
  exact ⟨hf.1, hf.2, one x hf.1 (hp.part (y := x) (by show x ∈ [x, y]; simp)).1, one y hf.2 (hp.part (y := y) (by show y ∈ [x, y]; simp)).1⟩
def moreN (n : Int) : Ex := ⟨11, n, e0, []⟩
theorem more_right {n : Int} (h0 : 0 ≤ n) (h1 : n ≤ 1000) : isRight (ifE (moreN n)) = true := by
  have e : (formP 11).2.1 = 1000 := by decide +kernel
  have hf : isFine 31 true (moreN n) = true := by
    unfold moreN
    rw [isFine, decide_eq_true (show ¬ n < 0 by omega), decide_eq_true (show ¬ n > (formP 11).2.1 by rw [e]; omega)]
    decide +kernel
  have hfi : isFine 32 false (ifE (moreN n)) = true := by
    unfold ifE
    rw [isFine, fineL, show (32 : Int) - 1 = 31 from rfl, show decide ((10 : Int) = 10) = true from rfl, hf]
    show ((formP 10).2.2.2 && (decide (¬ (32 : Int) < 1) && ((isCond 10 == false) && (decide (¬ (0 : Int) < 0) && (decide (¬ (0 : Int) > (formP 10).2.1) && (decide ((3 : Int) = (formP 10).2.2.1) && (isNamed 10 e0 && (true && fineL 31 false [lowE, lowE])))))))) = true
    decide +kernel
  have := (fine_facts _ 32 false hfi).2.2.2.2
  have hs : size (ifE (moreN n)) = 4 := by show (1 : Int) + ((1 + 0) + ((1 + 0) + ((1 + 0) + 0))) = 4; rfl
  unfold isRight
  rw [hfi, hs, decide_eq_true (show (4 : Int) ≤ 2000 by decide), decide_eq_true (show (Q.txtE (ifE (moreN n))).length ≤ 2000 by omega)]
  rfl
/-- all that the walk asks for -/
structure Rules (z : List (List Int)) (one two : List Int) (x y : Ex) (l : List Of) (n N : Int) (r1 r2 : Am) (c : Bool) : Prop where
  hO : Ok E 8 [] [.c (.row (encA z))] (.c (.row (rowO l))) []
  hX : Ok E 9 [] [.c (.row (encN one))] (pE x) []
  hY : Ok E 9 [] [.c (.row (encN two))] (pE y) []
  hP : Ok E 15 [] [pI n, pI 9] (pI N) []
  hc : decide (N < (l.length : Int)) = c
  q1 : Ok E 16 [] [pE ⟨7, 0, e0, [x, y]⟩] (pB true) []
  q2 : Ok E 16 [] [pE ⟨8, 0, e0, [x, y]⟩] (pB true) []
  q3 : Ok E 16 [] [pE ⟨9, 0, e0, [x, x]⟩] (pB true) []
  q4 : Ok E 16 [] [pE ⟨10, 0, e0, [⟨11, N, e0, []⟩, x, y]⟩] (pB true) []
  v1 : Ok E 11 [] [pE x, .c (.row (rowO l))] (tupA r1) []
  v2 : Ok E 11 [] [pE y, .c (.row (rowO l))] (tupA r2) []
  v3 : Ok E 11 [] [pE ⟨7, 0, e0, [x, y]⟩, .c (.row (rowO l))] (tupA (bothF min r1 r2)) []
  v4 : Ok E 11 [] [pE ⟨8, 0, e0, [x, y]⟩, .c (.row (rowO l))] (tupA (bothF max r1 r2)) []
  v5 : Ok E 11 [] [pE ⟨9, 0, e0, [x, x]⟩, .c (.row (rowO l))] (tupA r1) []
  v6 : Ok E 11 [] [pE ⟨10, 0, e0, [⟨11, N, e0, []⟩, x, y]⟩, .c (.row (rowO l))] (tupA (if c then r1 else r2)) []
  v7 : Ok E 13 [] [pE ⟨11, N, e0, []⟩, .c (.row (rowO l))] (.tup [pB c, pI 0]) []
abbrev RulesO (z : List (List Int)) (one two : List Int) (n : Int) : Prop := Ok E 4 [] [.c (.row (encN one)), .c (.row (encN two)), .c (.row (encA z)), pI n] (pB true) []
section
variable {z : List (List Int)} {one two : List Int} {x y : Ex} {l : List Of} {n N : Int}
theorem rules_er1T {e : Int} {r : Am} (he : e ≠ 0) (h : Rules z one two x y l n N (.er e) r true) : RulesO z one two n := by
  obtain ⟨k1, a1, b1, xs1⟩ := x
  obtain ⟨k2, a2, b2, xs2⟩ := y
  obtain ⟨hO, hX, hY, hP, hc, q1, q2, q3, q4, v1, v2, v3, v4, v5, v6, v7⟩ := h
  have hel := rowO_len l
  have wx2 : ∀ k, Wk (.agg [.int .i64 k, .int .i64 0, .str e0, .row [cellsE ⟨k1, a1, b1, xs1⟩, cellsE ⟨k2, a2, b2, xs2⟩]]) (pE ⟨k, 0, e0, [⟨k1, a1, b1, xs1⟩, ⟨k2, a2, b2, xs2⟩]⟩) := fun k => Wk.aggW (wk_node k 0 e0 [⟨k1, a1, b1, xs1⟩, ⟨k2, a2, b2, xs2⟩] (WRows.refl _))
  have wxx : Wk (.agg [.int .i64 9, .int .i64 0, .str e0, .row [cellsE ⟨k1, a1, b1, xs1⟩, cellsE ⟨k1, a1, b1, xs1⟩]]) (pE ⟨9, 0, e0, [⟨k1, a1, b1, xs1⟩, ⟨k1, a1, b1, xs1⟩]⟩) := Wk.aggW (wk_node 9 0 e0 [⟨k1, a1, b1, xs1⟩, ⟨k1, a1, b1, xs1⟩] (WRows.refl _))
  have wc := Wk.aggW (wk_leaf 11 N e0)
  have wif : Wk (.agg [.int .i64 10, .int .i64 0, .str e0, .row [[.int .i64 11, .int .i64 N, .str e0, .nil], cellsE ⟨k1, a1, b1, xs1⟩, cellsE ⟨k2, a2, b2, xs2⟩]]) (pE ⟨10, 0, e0, [⟨11, N, e0, []⟩, ⟨k1, a1, b1, xs1⟩, ⟨k2, a2, b2, xs2⟩]⟩) := Wk.aggW (wk_node 10 0 e0 [⟨11, N, e0, []⟩, ⟨k1, a1, b1, xs1⟩, ⟨k2, a2, b2, xs2⟩] (.cons (wk_leaf _ _ _) (WRows.refl _)))
  rw [both_err] at v3 v4
  have hgt : BinR E 3 .gtr (.c (.int .i64 ((rowO l).length : Nat))) (pI N) (pB true) := gtV (by rw [← hc, hel])
  refine Ok.enter hE Tryz.func4 rfl (by decide +kernel) (by kernel_rfl) rfl rfl (Nat.le_of_ble_eq_true rfl) rfl ?_
  refine ⟨_, CallR.mk1 awake_ok rfl rfl, ?_⟩
  refine ⟨_, CallR.mk1 hX rfl rfl, ?_⟩
  refine ⟨_, CallR.mk1 hY rfl rfl, ?_⟩
  refine ⟨_, CallR.mk1 hO rfl rfl, ?_⟩
  refine ⟨_, ⟨_, rfl, rfl⟩, ?_⟩
  refine ⟨_, ⟨_, rfl, rfl⟩, ?_⟩
  refine ⟨_, ⟨_, rfl, rfl⟩, ?_⟩
  refine ⟨_, CallR.mk1 hP rfl rfl, ?_⟩
  refine ⟨_, ⟨_, rfl, rfl⟩, ?_⟩
  refine ⟨_, CallR.mkW q1 (.cons (wx2 7) .nil) rfl rfl, ?_⟩
  refine ⟨_, CallR.mkW q2 (.cons (wx2 8) .nil) rfl rfl, ?_⟩
  refine ⟨_, CallR.mkW q3 (.cons (wxx) .nil) rfl rfl, ?_⟩
  refine ⟨_, CallR.mkW q4 (.cons (wif) .nil) rfl rfl, ?_⟩
  refine ⟨_, CallR.mk1 v1 rfl rfl, ?_⟩
  refine ⟨_, CallR.mk1 v2 rfl rfl, ?_⟩
  refine ⟨_, CallR.mkW v3 (.cons (wx2 7) (.cons (Wk.refl _) .nil)) rfl rfl, ?_⟩
  refine ⟨_, CallR.mkW v4 (.cons (wx2 8) (.cons (Wk.refl _) .nil)) rfl rfl, ?_⟩
  refine ⟨_, CallR.mkW v5 (.cons (wxx) (.cons (Wk.refl _) .nil)) rfl rfl, ?_⟩
  refine ⟨_, CallR.mkW v6 (.cons (wif) (.cons (Wk.refl _) .nil)) rfl rfl, ?_⟩
  refine ⟨_, CallR.mkW v7 (.cons wc (.cons (Wk.refl _) .nil)) rfl rfl, ?_⟩
  refine ⟨_, neN rfl, ?_⟩
  refine ⟨_, CallR.mk1 hP rfl rfl, ?_⟩
  refine ⟨_, hgt, ?_⟩
  refine ⟨_, Lx.neBN (by first | rfl | simp), ?_⟩
  refine ⟨_, neN rfl, ?_⟩
  refine ⟨_, neN rfl, ?_⟩
  refine ⟨_, Lx.neBN (by first | rfl | simp), ?_⟩
  refine ⟨_, neN rfl, ?_⟩
  refine ⟨_, Lx.neBN (by first | rfl | simp), ?_⟩
  refine ⟨_, neN rfl, ?_⟩
  refine ⟨_, neT he, ?_⟩
  refine ⟨_, neT he, ?_⟩
  refine ⟨_, neT he, ?_⟩
  exact Ret.mk _ rfl rfl rfl
theorem rules_er2noT {e : Int} (he : e ≠ 0) (h : Rules z one two x y l n N .no (.er e) true) : RulesO z one two n := by
  obtain ⟨k1, a1, b1, xs1⟩ := x
  obtain ⟨k2, a2, b2, xs2⟩ := y
  obtain ⟨hO, hX, hY, hP, hc, q1, q2, q3, q4, v1, v2, v3, v4, v5, v6, v7⟩ := h
  have hel := rowO_len l
  have wx2 : ∀ k, Wk (.agg [.int .i64 k, .int .i64 0, .str e0, .row [cellsE ⟨k1, a1, b1, xs1⟩, cellsE ⟨k2, a2, b2, xs2⟩]]) (pE ⟨k, 0, e0, [⟨k1, a1, b1, xs1⟩, ⟨k2, a2, b2, xs2⟩]⟩) := fun k => Wk.aggW (wk_node k 0 e0 [⟨k1, a1, b1, xs1⟩, ⟨k2, a2, b2, xs2⟩] (WRows.refl _))
  have wxx : Wk (.agg [.int .i64 9, .int .i64 0, .str e0, .row [cellsE ⟨k1, a1, b1, xs1⟩, cellsE ⟨k1, a1, b1, xs1⟩]]) (pE ⟨9, 0, e0, [⟨k1, a1, b1, xs1⟩, ⟨k1, a1, b1, xs1⟩]⟩) := Wk.aggW (wk_node 9 0 e0 [⟨k1, a1, b1, xs1⟩, ⟨k1, a1, b1, xs1⟩] (WRows.refl _))
  have wc := Wk.aggW (wk_leaf 11 N e0)
  have wif : Wk (.agg [.int .i64 10, .int .i64 0, .str e0, .row [[.int .i64 11, .int .i64 N, .str e0, .nil], cellsE ⟨k1, a1, b1, xs1⟩, cellsE ⟨k2, a2, b2, xs2⟩]]) (pE ⟨10, 0, e0, [⟨11, N, e0, []⟩, ⟨k1, a1, b1, xs1⟩, ⟨k2, a2, b2, xs2⟩]⟩) := Wk.aggW (wk_node 10 0 e0 [⟨11, N, e0, []⟩, ⟨k1, a1, b1, xs1⟩, ⟨k2, a2, b2, xs2⟩] (.cons (wk_leaf _ _ _) (WRows.refl _)))
  have hgt : BinR E 3 .gtr (.c (.int .i64 ((rowO l).length : Nat))) (pI N) (pB true) := gtV (by rw [← hc, hel])
  refine Ok.enter hE Tryz.func4 rfl (by decide +kernel) (by kernel_rfl) rfl rfl (Nat.le_of_ble_eq_true rfl) rfl ?_
  refine ⟨_, CallR.mk1 awake_ok rfl rfl, ?_⟩
  refine ⟨_, CallR.mk1 hX rfl rfl, ?_⟩
  refine ⟨_, CallR.mk1 hY rfl rfl, ?_⟩
  refine ⟨_, CallR.mk1 hO rfl rfl, ?_⟩
  refine ⟨_, ⟨_, rfl, rfl⟩, ?_⟩
  refine ⟨_, ⟨_, rfl, rfl⟩, ?_⟩
  refine ⟨_, ⟨_, rfl, rfl⟩, ?_⟩
  refine ⟨_, CallR.mk1 hP rfl rfl, ?_⟩
  refine ⟨_, ⟨_, rfl, rfl⟩, ?_⟩
  refine ⟨_, CallR.mkW q1 (.cons (wx2 7) .nil) rfl rfl, ?_⟩
  refine ⟨_, CallR.mkW q2 (.cons (wx2 8) .nil) rfl rfl, ?_⟩
  refine ⟨_, CallR.mkW q3 (.cons (wxx) .nil) rfl rfl, ?_⟩
  refine ⟨_, CallR.mkW q4 (.cons (wif) .nil) rfl rfl, ?_⟩
  refine ⟨_, CallR.mk1 v1 rfl rfl, ?_⟩
  refine ⟨_, CallR.mk1 v2 rfl rfl, ?_⟩
  refine ⟨_, CallR.mkW v3 (.cons (wx2 7) (.cons (Wk.refl _) .nil)) rfl rfl, ?_⟩
  refine ⟨_, CallR.mkW v4 (.cons (wx2 8) (.cons (Wk.refl _) .nil)) rfl rfl, ?_⟩
  refine ⟨_, CallR.mkW v5 (.cons (wxx) (.cons (Wk.refl _) .nil)) rfl rfl, ?_⟩
  refine ⟨_, CallR.mkW v6 (.cons (wif) (.cons (Wk.refl _) .nil)) rfl rfl, ?_⟩
  refine ⟨_, CallR.mkW v7 (.cons wc (.cons (Wk.refl _) .nil)) rfl rfl, ?_⟩
  refine ⟨_, neN rfl, ?_⟩
  refine ⟨_, CallR.mk1 hP rfl rfl, ?_⟩
  refine ⟨_, hgt, ?_⟩
  refine ⟨_, Lx.neBN (by first | rfl | simp), ?_⟩
  refine ⟨_, neN rfl, ?_⟩
  refine ⟨_, neN rfl, ?_⟩
  refine ⟨_, Lx.neBN (by first | rfl | simp), ?_⟩
  refine ⟨_, neN rfl, ?_⟩
  refine ⟨_, Lx.neBN (by first | rfl | simp), ?_⟩
  refine ⟨_, neN rfl, ?_⟩
  refine ⟨_, neN rfl, ?_⟩
  refine ⟨_, neT he, ?_⟩
  refine ⟨_, neT he, ?_⟩
  refine ⟨_, neT he, ?_⟩
  exact Ret.mk _ rfl rfl rfl
theorem rules_er2amT {a : Int} {e : Int} (he : e ≠ 0) (h : Rules z one two x y l n N (.am a) (.er e) true) : RulesO z one two n := by
  obtain ⟨k1, a1, b1, xs1⟩ := x
  obtain ⟨k2, a2, b2, xs2⟩ := y
  obtain ⟨hO, hX, hY, hP, hc, q1, q2, q3, q4, v1, v2, v3, v4, v5, v6, v7⟩ := h
  have hel := rowO_len l
  have wx2 : ∀ k, Wk (.agg [.int .i64 k, .int .i64 0, .str e0, .row [cellsE ⟨k1, a1, b1, xs1⟩, cellsE ⟨k2, a2, b2, xs2⟩]]) (pE ⟨k, 0, e0, [⟨k1, a1, b1, xs1⟩, ⟨k2, a2, b2, xs2⟩]⟩) := fun k => Wk.aggW (wk_node k 0 e0 [⟨k1, a1, b1, xs1⟩, ⟨k2, a2, b2, xs2⟩] (WRows.refl _))
  have wxx : Wk (.agg [.int .i64 9, .int .i64 0, .str e0, .row [cellsE ⟨k1, a1, b1, xs1⟩, cellsE ⟨k1, a1, b1, xs1⟩]]) (pE ⟨9, 0, e0, [⟨k1, a1, b1, xs1⟩, ⟨k1, a1, b1, xs1⟩]⟩) := Wk.aggW (wk_node 9 0 e0 [⟨k1, a1, b1, xs1⟩, ⟨k1, a1, b1, xs1⟩] (WRows.refl _))
  have wc := Wk.aggW (wk_leaf 11 N e0)
  have wif : Wk (.agg [.int .i64 10, .int .i64 0, .str e0, .row [[.int .i64 11, .int .i64 N, .str e0, .nil], cellsE ⟨k1, a1, b1, xs1⟩, cellsE ⟨k2, a2, b2, xs2⟩]]) (pE ⟨10, 0, e0, [⟨11, N, e0, []⟩, ⟨k1, a1, b1, xs1⟩, ⟨k2, a2, b2, xs2⟩]⟩) := Wk.aggW (wk_node 10 0 e0 [⟨11, N, e0, []⟩, ⟨k1, a1, b1, xs1⟩, ⟨k2, a2, b2, xs2⟩] (.cons (wk_leaf _ _ _) (WRows.refl _)))
  have hgt : BinR E 3 .gtr (.c (.int .i64 ((rowO l).length : Nat))) (pI N) (pB true) := gtV (by rw [← hc, hel])
  refine Ok.enter hE Tryz.func4 rfl (by decide +kernel) (by kernel_rfl) rfl rfl (Nat.le_of_ble_eq_true rfl) rfl ?_
  refine ⟨_, CallR.mk1 awake_ok rfl rfl, ?_⟩
  refine ⟨_, CallR.mk1 hX rfl rfl, ?_⟩
  refine ⟨_, CallR.mk1 hY rfl rfl, ?_⟩
  refine ⟨_, CallR.mk1 hO rfl rfl, ?_⟩
  refine ⟨_, ⟨_, rfl, rfl⟩, ?_⟩
  refine ⟨_, ⟨_, rfl, rfl⟩, ?_⟩
  refine ⟨_, ⟨_, rfl, rfl⟩, ?_⟩
  refine ⟨_, CallR.mk1 hP rfl rfl, ?_⟩
  refine ⟨_, ⟨_, rfl, rfl⟩, ?_⟩
  refine ⟨_, CallR.mkW q1 (.cons (wx2 7) .nil) rfl rfl, ?_⟩
  refine ⟨_, CallR.mkW q2 (.cons (wx2 8) .nil) rfl rfl, ?_⟩
  refine ⟨_, CallR.mkW q3 (.cons (wxx) .nil) rfl rfl, ?_⟩
  refine ⟨_, CallR.mkW q4 (.cons (wif) .nil) rfl rfl, ?_⟩
  refine ⟨_, CallR.mk1 v1 rfl rfl, ?_⟩
  refine ⟨_, CallR.mk1 v2 rfl rfl, ?_⟩
  refine ⟨_, CallR.mkW v3 (.cons (wx2 7) (.cons (Wk.refl _) .nil)) rfl rfl, ?_⟩
  refine ⟨_, CallR.mkW v4 (.cons (wx2 8) (.cons (Wk.refl _) .nil)) rfl rfl, ?_⟩
  refine ⟨_, CallR.mkW v5 (.cons (wxx) (.cons (Wk.refl _) .nil)) rfl rfl, ?_⟩
  refine ⟨_, CallR.mkW v6 (.cons (wif) (.cons (Wk.refl _) .nil)) rfl rfl, ?_⟩
  refine ⟨_, CallR.mkW v7 (.cons wc (.cons (Wk.refl _) .nil)) rfl rfl, ?_⟩
  refine ⟨_, neN rfl, ?_⟩
  refine ⟨_, CallR.mk1 hP rfl rfl, ?_⟩
  refine ⟨_, hgt, ?_⟩
  refine ⟨_, Lx.neBN (by first | rfl | simp), ?_⟩
  refine ⟨_, neN rfl, ?_⟩
  refine ⟨_, neN rfl, ?_⟩
  refine ⟨_, Lx.neBN (by first | rfl | simp), ?_⟩
  refine ⟨_, neN rfl, ?_⟩
  refine ⟨_, Lx.neBN (by first | rfl | simp), ?_⟩
  refine ⟨_, neN rfl, ?_⟩
  refine ⟨_, neN rfl, ?_⟩
  refine ⟨_, neT he, ?_⟩
  refine ⟨_, neT he, ?_⟩
  refine ⟨_, neT he, ?_⟩
  exact Ret.mk _ rfl rfl rfl
theorem rules_nonoT (h : Rules z one two x y l n N .no .no true) : RulesO z one two n := by
  obtain ⟨k1, a1, b1, xs1⟩ := x
  obtain ⟨k2, a2, b2, xs2⟩ := y
  obtain ⟨hO, hX, hY, hP, hc, q1, q2, q3, q4, v1, v2, v3, v4, v5, v6, v7⟩ := h
  have hel := rowO_len l
  have wx2 : ∀ k, Wk (.agg [.int .i64 k, .int .i64 0, .str e0, .row [cellsE ⟨k1, a1, b1, xs1⟩, cellsE ⟨k2, a2, b2, xs2⟩]]) (pE ⟨k, 0, e0, [⟨k1, a1, b1, xs1⟩, ⟨k2, a2, b2, xs2⟩]⟩) := fun k => Wk.aggW (wk_node k 0 e0 [⟨k1, a1, b1, xs1⟩, ⟨k2, a2, b2, xs2⟩] (WRows.refl _))
  have wxx : Wk (.agg [.int .i64 9, .int .i64 0, .str e0, .row [cellsE ⟨k1, a1, b1, xs1⟩, cellsE ⟨k1, a1, b1, xs1⟩]]) (pE ⟨9, 0, e0, [⟨k1, a1, b1, xs1⟩, ⟨k1, a1, b1, xs1⟩]⟩) := Wk.aggW (wk_node 9 0 e0 [⟨k1, a1, b1, xs1⟩, ⟨k1, a1, b1, xs1⟩] (WRows.refl _))
  have wc := Wk.aggW (wk_leaf 11 N e0)
  have wif : Wk (.agg [.int .i64 10, .int .i64 0, .str e0, .row [[.int .i64 11, .int .i64 N, .str e0, .nil], cellsE ⟨k1, a1, b1, xs1⟩, cellsE ⟨k2, a2, b2, xs2⟩]]) (pE ⟨10, 0, e0, [⟨11, N, e0, []⟩, ⟨k1, a1, b1, xs1⟩, ⟨k2, a2, b2, xs2⟩]⟩) := Wk.aggW (wk_node 10 0 e0 [⟨11, N, e0, []⟩, ⟨k1, a1, b1, xs1⟩, ⟨k2, a2, b2, xs2⟩] (.cons (wk_leaf _ _ _) (WRows.refl _)))
  have hgt : BinR E 3 .gtr (.c (.int .i64 ((rowO l).length : Nat))) (pI N) (pB true) := gtV (by rw [← hc, hel])
  refine Ok.enter hE Tryz.func4 rfl (by decide +kernel) (by kernel_rfl) rfl rfl (Nat.le_of_ble_eq_true rfl) rfl ?_
  refine ⟨_, CallR.mk1 awake_ok rfl rfl, ?_⟩
  refine ⟨_, CallR.mk1 hX rfl rfl, ?_⟩
  refine ⟨_, CallR.mk1 hY rfl rfl, ?_⟩
  refine ⟨_, CallR.mk1 hO rfl rfl, ?_⟩
  refine ⟨_, ⟨_, rfl, rfl⟩, ?_⟩
  refine ⟨_, ⟨_, rfl, rfl⟩, ?_⟩
  refine ⟨_, ⟨_, rfl, rfl⟩, ?_⟩
  refine ⟨_, CallR.mk1 hP rfl rfl, ?_⟩
  refine ⟨_, ⟨_, rfl, rfl⟩, ?_⟩
  refine ⟨_, CallR.mkW q1 (.cons (wx2 7) .nil) rfl rfl, ?_⟩
  refine ⟨_, CallR.mkW q2 (.cons (wx2 8) .nil) rfl rfl, ?_⟩
  refine ⟨_, CallR.mkW q3 (.cons (wxx) .nil) rfl rfl, ?_⟩
  refine ⟨_, CallR.mkW q4 (.cons (wif) .nil) rfl rfl, ?_⟩
  refine ⟨_, CallR.mk1 v1 rfl rfl, ?_⟩
  refine ⟨_, CallR.mk1 v2 rfl rfl, ?_⟩
  refine ⟨_, CallR.mkW v3 (.cons (wx2 7) (.cons (Wk.refl _) .nil)) rfl rfl, ?_⟩
  refine ⟨_, CallR.mkW v4 (.cons (wx2 8) (.cons (Wk.refl _) .nil)) rfl rfl, ?_⟩
  refine ⟨_, CallR.mkW v5 (.cons (wxx) (.cons (Wk.refl _) .nil)) rfl rfl, ?_⟩
  refine ⟨_, CallR.mkW v6 (.cons (wif) (.cons (Wk.refl _) .nil)) rfl rfl, ?_⟩
  refine ⟨_, CallR.mkW v7 (.cons wc (.cons (Wk.refl _) .nil)) rfl rfl, ?_⟩
  refine ⟨_, neN rfl, ?_⟩
  refine ⟨_, CallR.mk1 hP rfl rfl, ?_⟩
  refine ⟨_, hgt, ?_⟩
  refine ⟨_, Lx.neBN (by first | rfl | simp), ?_⟩
  refine ⟨_, neN rfl, ?_⟩
  refine ⟨_, neN rfl, ?_⟩
  refine ⟨_, Lx.neBN (by first | rfl | simp), ?_⟩
  refine ⟨_, neN rfl, ?_⟩
  refine ⟨_, Lx.neBN (by first | rfl | simp), ?_⟩
  refine ⟨_, neN rfl, ?_⟩
  refine ⟨_, neN rfl, ?_⟩
  refine ⟨_, neN rfl, ?_⟩
  refine ⟨_, eqT rfl, ?_⟩
  refine ⟨_, eqT rfl, ?_⟩
  exact Ret.mk _ rfl rfl rfl
theorem rules_noamT {b : Int} (h : Rules z one two x y l n N .no (.am b) true) : RulesO z one two n := by
  obtain ⟨k1, a1, b1, xs1⟩ := x
  obtain ⟨k2, a2, b2, xs2⟩ := y
  obtain ⟨hO, hX, hY, hP, hc, q1, q2, q3, q4, v1, v2, v3, v4, v5, v6, v7⟩ := h
  have hel := rowO_len l
  have wx2 : ∀ k, Wk (.agg [.int .i64 k, .int .i64 0, .str e0, .row [cellsE ⟨k1, a1, b1, xs1⟩, cellsE ⟨k2, a2, b2, xs2⟩]]) (pE ⟨k, 0, e0, [⟨k1, a1, b1, xs1⟩, ⟨k2, a2, b2, xs2⟩]⟩) := fun k => Wk.aggW (wk_node k 0 e0 [⟨k1, a1, b1, xs1⟩, ⟨k2, a2, b2, xs2⟩] (WRows.refl _))
  have wxx : Wk (.agg [.int .i64 9, .int .i64 0, .str e0, .row [cellsE ⟨k1, a1, b1, xs1⟩, cellsE ⟨k1, a1, b1, xs1⟩]]) (pE ⟨9, 0, e0, [⟨k1, a1, b1, xs1⟩, ⟨k1, a1, b1, xs1⟩]⟩) := Wk.aggW (wk_node 9 0 e0 [⟨k1, a1, b1, xs1⟩, ⟨k1, a1, b1, xs1⟩] (WRows.refl _))
  have wc := Wk.aggW (wk_leaf 11 N e0)
  have wif : Wk (.agg [.int .i64 10, .int .i64 0, .str e0, .row [[.int .i64 11, .int .i64 N, .str e0, .nil], cellsE ⟨k1, a1, b1, xs1⟩, cellsE ⟨k2, a2, b2, xs2⟩]]) (pE ⟨10, 0, e0, [⟨11, N, e0, []⟩, ⟨k1, a1, b1, xs1⟩, ⟨k2, a2, b2, xs2⟩]⟩) := Wk.aggW (wk_node 10 0 e0 [⟨11, N, e0, []⟩, ⟨k1, a1, b1, xs1⟩, ⟨k2, a2, b2, xs2⟩] (.cons (wk_leaf _ _ _) (WRows.refl _)))
  have hgt : BinR E 3 .gtr (.c (.int .i64 ((rowO l).length : Nat))) (pI N) (pB true) := gtV (by rw [← hc, hel])
  refine Ok.enter hE Tryz.func4 rfl (by decide +kernel) (by kernel_rfl) rfl rfl (Nat.le_of_ble_eq_true rfl) rfl ?_
  refine ⟨_, CallR.mk1 awake_ok rfl rfl, ?_⟩
  refine ⟨_, CallR.mk1 hX rfl rfl, ?_⟩
  refine ⟨_, CallR.mk1 hY rfl rfl, ?_⟩
  refine ⟨_, CallR.mk1 hO rfl rfl, ?_⟩
  refine ⟨_, ⟨_, rfl, rfl⟩, ?_⟩
  refine ⟨_, ⟨_, rfl, rfl⟩, ?_⟩
  refine ⟨_, ⟨_, rfl, rfl⟩, ?_⟩
  refine ⟨_, CallR.mk1 hP rfl rfl, ?_⟩
  refine ⟨_, ⟨_, rfl, rfl⟩, ?_⟩
  refine ⟨_, CallR.mkW q1 (.cons (wx2 7) .nil) rfl rfl, ?_⟩
  refine ⟨_, CallR.mkW q2 (.cons (wx2 8) .nil) rfl rfl, ?_⟩
  refine ⟨_, CallR.mkW q3 (.cons (wxx) .nil) rfl rfl, ?_⟩
  refine ⟨_, CallR.mkW q4 (.cons (wif) .nil) rfl rfl, ?_⟩
  refine ⟨_, CallR.mk1 v1 rfl rfl, ?_⟩
  refine ⟨_, CallR.mk1 v2 rfl rfl, ?_⟩
  refine ⟨_, CallR.mkW v3 (.cons (wx2 7) (.cons (Wk.refl _) .nil)) rfl rfl, ?_⟩
  refine ⟨_, CallR.mkW v4 (.cons (wx2 8) (.cons (Wk.refl _) .nil)) rfl rfl, ?_⟩
  refine ⟨_, CallR.mkW v5 (.cons (wxx) (.cons (Wk.refl _) .nil)) rfl rfl, ?_⟩
  refine ⟨_, CallR.mkW v6 (.cons (wif) (.cons (Wk.refl _) .nil)) rfl rfl, ?_⟩
  refine ⟨_, CallR.mkW v7 (.cons wc (.cons (Wk.refl _) .nil)) rfl rfl, ?_⟩
  refine ⟨_, neN rfl, ?_⟩
  refine ⟨_, CallR.mk1 hP rfl rfl, ?_⟩
  refine ⟨_, hgt, ?_⟩
  refine ⟨_, Lx.neBN (by first | rfl | simp), ?_⟩
  refine ⟨_, neN rfl, ?_⟩
  refine ⟨_, neN rfl, ?_⟩
  refine ⟨_, Lx.neBN (by first | rfl | simp), ?_⟩
  refine ⟨_, neN rfl, ?_⟩
  refine ⟨_, Lx.neBN (by first | rfl | simp), ?_⟩
  refine ⟨_, neN rfl, ?_⟩
  refine ⟨_, neN rfl, ?_⟩
  refine ⟨_, neN rfl, ?_⟩
  refine ⟨_, eqT rfl, ?_⟩
  refine ⟨_, eqT rfl, ?_⟩
  exact Ret.mk _ rfl rfl rfl
theorem rules_amnoT {a : Int} (h : Rules z one two x y l n N (.am a) .no true) : RulesO z one two n := by
  obtain ⟨k1, a1, b1, xs1⟩ := x
  obtain ⟨k2, a2, b2, xs2⟩ := y
  obtain ⟨hO, hX, hY, hP, hc, q1, q2, q3, q4, v1, v2, v3, v4, v5, v6, v7⟩ := h
  have hel := rowO_len l
  have wx2 : ∀ k, Wk (.agg [.int .i64 k, .int .i64 0, .str e0, .row [cellsE ⟨k1, a1, b1, xs1⟩, cellsE ⟨k2, a2, b2, xs2⟩]]) (pE ⟨k, 0, e0, [⟨k1, a1, b1, xs1⟩, ⟨k2, a2, b2, xs2⟩]⟩) := fun k => Wk.aggW (wk_node k 0 e0 [⟨k1, a1, b1, xs1⟩, ⟨k2, a2, b2, xs2⟩] (WRows.refl _))
  have wxx : Wk (.agg [.int .i64 9, .int .i64 0, .str e0, .row [cellsE ⟨k1, a1, b1, xs1⟩, cellsE ⟨k1, a1, b1, xs1⟩]]) (pE ⟨9, 0, e0, [⟨k1, a1, b1, xs1⟩, ⟨k1, a1, b1, xs1⟩]⟩) := Wk.aggW (wk_node 9 0 e0 [⟨k1, a1, b1, xs1⟩, ⟨k1, a1, b1, xs1⟩] (WRows.refl _))
  have wc := Wk.aggW (wk_leaf 11 N e0)
  have wif : Wk (.agg [.int .i64 10, .int .i64 0, .str e0, .row [[.int .i64 11, .int .i64 N, .str e0, .nil], cellsE ⟨k1, a1, b1, xs1⟩, cellsE ⟨k2, a2, b2, xs2⟩]]) (pE ⟨10, 0, e0, [⟨11, N, e0, []⟩, ⟨k1, a1, b1, xs1⟩, ⟨k2, a2, b2, xs2⟩]⟩) := Wk.aggW (wk_node 10 0 e0 [⟨11, N, e0, []⟩, ⟨k1, a1, b1, xs1⟩, ⟨k2, a2, b2, xs2⟩] (.cons (wk_leaf _ _ _) (WRows.refl _)))
  have hgt : BinR E 3 .gtr (.c (.int .i64 ((rowO l).length : Nat))) (pI N) (pB true) := gtV (by rw [← hc, hel])
  refine Ok.enter hE Tryz.func4 rfl (by decide +kernel) (by kernel_rfl) rfl rfl (Nat.le_of_ble_eq_true rfl) rfl ?_
  refine ⟨_, CallR.mk1 awake_ok rfl rfl, ?_⟩
  refine ⟨_, CallR.mk1 hX rfl rfl, ?_⟩
  refine ⟨_, CallR.mk1 hY rfl rfl, ?_⟩
  refine ⟨_, CallR.mk1 hO rfl rfl, ?_⟩
  refine ⟨_, ⟨_, rfl, rfl⟩, ?_⟩
  refine ⟨_, ⟨_, rfl, rfl⟩, ?_⟩
  refine ⟨_, ⟨_, rfl, rfl⟩, ?_⟩
  refine ⟨_, CallR.mk1 hP rfl rfl, ?_⟩
  refine ⟨_, ⟨_, rfl, rfl⟩, ?_⟩
  refine ⟨_, CallR.mkW q1 (.cons (wx2 7) .nil) rfl rfl, ?_⟩
  refine ⟨_, CallR.mkW q2 (.cons (wx2 8) .nil) rfl rfl, ?_⟩
  refine ⟨_, CallR.mkW q3 (.cons (wxx) .nil) rfl rfl, ?_⟩
  refine ⟨_, CallR.mkW q4 (.cons (wif) .nil) rfl rfl, ?_⟩
  refine ⟨_, CallR.mk1 v1 rfl rfl, ?_⟩
  refine ⟨_, CallR.mk1 v2 rfl rfl, ?_⟩
  refine ⟨_, CallR.mkW v3 (.cons (wx2 7) (.cons (Wk.refl _) .nil)) rfl rfl, ?_⟩
  refine ⟨_, CallR.mkW v4 (.cons (wx2 8) (.cons (Wk.refl _) .nil)) rfl rfl, ?_⟩
  refine ⟨_, CallR.mkW v5 (.cons (wxx) (.cons (Wk.refl _) .nil)) rfl rfl, ?_⟩
  refine ⟨_, CallR.mkW v6 (.cons (wif) (.cons (Wk.refl _) .nil)) rfl rfl, ?_⟩
  refine ⟨_, CallR.mkW v7 (.cons wc (.cons (Wk.refl _) .nil)) rfl rfl, ?_⟩
  refine ⟨_, neN rfl, ?_⟩
  refine ⟨_, CallR.mk1 hP rfl rfl, ?_⟩
  refine ⟨_, hgt, ?_⟩
  refine ⟨_, Lx.neBN (by first | rfl | simp), ?_⟩
  refine ⟨_, neN rfl, ?_⟩
  refine ⟨_, neN rfl, ?_⟩
  refine ⟨_, Lx.neBN (by first | rfl | simp), ?_⟩
  refine ⟨_, neN rfl, ?_⟩
  refine ⟨_, Lx.neBN (by first | rfl | simp), ?_⟩
  refine ⟨_, neN rfl, ?_⟩
  refine ⟨_, neN rfl, ?_⟩
  refine ⟨_, neN rfl, ?_⟩
  refine ⟨_, eqT rfl, ?_⟩
  refine ⟨_, eqT rfl, ?_⟩
  exact Ret.mk _ rfl rfl rfl
theorem rules_abT {a b : Int} (a0 : -1000000000000 ≤ a) (a2 : a ≤ 1000000000000) (b0 : -1000000000000 ≤ b) (b2 : b ≤ 1000000000000) (hab : a ≤ b) (h : Rules z one two x y l n N (.am a) (.am b) true) : RulesO z one two n := by
  obtain ⟨k1, a1, b1, xs1⟩ := x
  obtain ⟨k2, a2, b2, xs2⟩ := y
  obtain ⟨hO, hX, hY, hP, hc, q1, q2, q3, q4, v1, v2, v3, v4, v5, v6, v7⟩ := h
  have hel := rowO_len l
  have wx2 : ∀ k, Wk (.agg [.int .i64 k, .int .i64 0, .str e0, .row [cellsE ⟨k1, a1, b1, xs1⟩, cellsE ⟨k2, a2, b2, xs2⟩]]) (pE ⟨k, 0, e0, [⟨k1, a1, b1, xs1⟩, ⟨k2, a2, b2, xs2⟩]⟩) := fun k => Wk.aggW (wk_node k 0 e0 [⟨k1, a1, b1, xs1⟩, ⟨k2, a2, b2, xs2⟩] (WRows.refl _))
  have wxx : Wk (.agg [.int .i64 9, .int .i64 0, .str e0, .row [cellsE ⟨k1, a1, b1, xs1⟩, cellsE ⟨k1, a1, b1, xs1⟩]]) (pE ⟨9, 0, e0, [⟨k1, a1, b1, xs1⟩, ⟨k1, a1, b1, xs1⟩]⟩) := Wk.aggW (wk_node 9 0 e0 [⟨k1, a1, b1, xs1⟩, ⟨k1, a1, b1, xs1⟩] (WRows.refl _))
  have wc := Wk.aggW (wk_leaf 11 N e0)
  have wif : Wk (.agg [.int .i64 10, .int .i64 0, .str e0, .row [[.int .i64 11, .int .i64 N, .str e0, .nil], cellsE ⟨k1, a1, b1, xs1⟩, cellsE ⟨k2, a2, b2, xs2⟩]]) (pE ⟨10, 0, e0, [⟨11, N, e0, []⟩, ⟨k1, a1, b1, xs1⟩, ⟨k2, a2, b2, xs2⟩]⟩) := Wk.aggW (wk_node 10 0 e0 [⟨11, N, e0, []⟩, ⟨k1, a1, b1, xs1⟩, ⟨k2, a2, b2, xs2⟩] (.cons (wk_leaf _ _ _) (WRows.refl _)))
  have hgt : BinR E 3 .gtr (.c (.int .i64 ((rowO l).length : Nat))) (pI N) (pB true) := gtV (by rw [← hc, hel])
  refine Ok.enter hE Tryz.func4 rfl (by decide +kernel) (by kernel_rfl) rfl rfl (Nat.le_of_ble_eq_true rfl) rfl ?_
  refine ⟨_, CallR.mk1 awake_ok rfl rfl, ?_⟩
  refine ⟨_, CallR.mk1 hX rfl rfl, ?_⟩
  refine ⟨_, CallR.mk1 hY rfl rfl, ?_⟩
  refine ⟨_, CallR.mk1 hO rfl rfl, ?_⟩
  refine ⟨_, ⟨_, rfl, rfl⟩, ?_⟩
  refine ⟨_, ⟨_, rfl, rfl⟩, ?_⟩
  refine ⟨_, ⟨_, rfl, rfl⟩, ?_⟩
  refine ⟨_, CallR.mk1 hP rfl rfl, ?_⟩
  refine ⟨_, ⟨_, rfl, rfl⟩, ?_⟩
  refine ⟨_, CallR.mkW q1 (.cons (wx2 7) .nil) rfl rfl, ?_⟩
  refine ⟨_, CallR.mkW q2 (.cons (wx2 8) .nil) rfl rfl, ?_⟩
  refine ⟨_, CallR.mkW q3 (.cons (wxx) .nil) rfl rfl, ?_⟩
  refine ⟨_, CallR.mkW q4 (.cons (wif) .nil) rfl rfl, ?_⟩
  refine ⟨_, CallR.mk1 v1 rfl rfl, ?_⟩
  refine ⟨_, CallR.mk1 v2 rfl rfl, ?_⟩
  refine ⟨_, CallR.mkW v3 (.cons (wx2 7) (.cons (Wk.refl _) .nil)) rfl rfl, ?_⟩
  refine ⟨_, CallR.mkW v4 (.cons (wx2 8) (.cons (Wk.refl _) .nil)) rfl rfl, ?_⟩
  refine ⟨_, CallR.mkW v5 (.cons (wxx) (.cons (Wk.refl _) .nil)) rfl rfl, ?_⟩
  refine ⟨_, CallR.mkW v6 (.cons (wif) (.cons (Wk.refl _) .nil)) rfl rfl, ?_⟩
  refine ⟨_, CallR.mkW v7 (.cons wc (.cons (Wk.refl _) .nil)) rfl rfl, ?_⟩
  refine ⟨_, neN rfl, ?_⟩
  refine ⟨_, CallR.mk1 hP rfl rfl, ?_⟩
  refine ⟨_, hgt, ?_⟩
  refine ⟨_, Lx.neBN (by first | rfl | simp), ?_⟩
  refine ⟨_, neN rfl, ?_⟩
  refine ⟨_, neN rfl, ?_⟩
  refine ⟨_, Lx.neBN (by first | rfl | simp), ?_⟩
  refine ⟨_, neN rfl, ?_⟩
  refine ⟨_, Lx.neBN (by first | rfl | simp), ?_⟩
  refine ⟨_, neN rfl, ?_⟩
  refine ⟨_, neN rfl, ?_⟩
  refine ⟨_, neN rfl, ?_⟩
  refine ⟨_, addV rfl (by dsimp only [amN, bothF]; omega) (by dsimp only [amN, bothF]; omega), ?_⟩
  refine ⟨_, addV rfl (by dsimp only [amN, bothF]; omega) (by dsimp only [amN, bothF]; omega), ?_⟩
  refine ⟨_, eqT (by dsimp only [amN, bothF]; omega), ?_⟩
  refine ⟨_, leT (by dsimp only [amN, bothF]; omega), ?_⟩
  refine ⟨_, eqT (by dsimp only [amN, bothF]; omega), ?_⟩
  exact Ret.mk _ rfl rfl rfl
theorem rules_baT {a b : Int} (a0 : -1000000000000 ≤ a) (a2 : a ≤ 1000000000000) (b0 : -1000000000000 ≤ b) (b2 : b ≤ 1000000000000) (hab : ¬ a ≤ b) (h : Rules z one two x y l n N (.am a) (.am b) true) : RulesO z one two n := by
  obtain ⟨k1, a1, b1, xs1⟩ := x
  obtain ⟨k2, a2, b2, xs2⟩ := y
  obtain ⟨hO, hX, hY, hP, hc, q1, q2, q3, q4, v1, v2, v3, v4, v5, v6, v7⟩ := h
  have hel := rowO_len l
  have wx2 : ∀ k, Wk (.agg [.int .i64 k, .int .i64 0, .str e0, .row [cellsE ⟨k1, a1, b1, xs1⟩, cellsE ⟨k2, a2, b2, xs2⟩]]) (pE ⟨k, 0, e0, [⟨k1, a1, b1, xs1⟩, ⟨k2, a2, b2, xs2⟩]⟩) := fun k => Wk.aggW (wk_node k 0 e0 [⟨k1, a1, b1, xs1⟩, ⟨k2, a2, b2, xs2⟩] (WRows.refl _))
  have wxx : Wk (.agg [.int .i64 9, .int .i64 0, .str e0, .row [cellsE ⟨k1, a1, b1, xs1⟩, cellsE ⟨k1, a1, b1, xs1⟩]]) (pE ⟨9, 0, e0, [⟨k1, a1, b1, xs1⟩, ⟨k1, a1, b1, xs1⟩]⟩) := Wk.aggW (wk_node 9 0 e0 [⟨k1, a1, b1, xs1⟩, ⟨k1, a1, b1, xs1⟩] (WRows.refl _))
  have wc := Wk.aggW (wk_leaf 11 N e0)
  have wif : Wk (.agg [.int .i64 10, .int .i64 0, .str e0, .row [[.int .i64 11, .int .i64 N, .str e0, .nil], cellsE ⟨k1, a1, b1, xs1⟩, cellsE ⟨k2, a2, b2, xs2⟩]]) (pE ⟨10, 0, e0, [⟨11, N, e0, []⟩, ⟨k1, a1, b1, xs1⟩, ⟨k2, a2, b2, xs2⟩]⟩) := Wk.aggW (wk_node 10 0 e0 [⟨11, N, e0, []⟩, ⟨k1, a1, b1, xs1⟩, ⟨k2, a2, b2, xs2⟩] (.cons (wk_leaf _ _ _) (WRows.refl _)))
  have hgt : BinR E 3 .gtr (.c (.int .i64 ((rowO l).length : Nat))) (pI N) (pB true) := gtV (by rw [← hc, hel])
  refine Ok.enter hE Tryz.func4 rfl (by decide +kernel) (by kernel_rfl) rfl rfl (Nat.le_of_ble_eq_true rfl) rfl ?_
  refine ⟨_, CallR.mk1 awake_ok rfl rfl, ?_⟩
  refine ⟨_, CallR.mk1 hX rfl rfl, ?_⟩
  refine ⟨_, CallR.mk1 hY rfl rfl, ?_⟩
  refine ⟨_, CallR.mk1 hO rfl rfl, ?_⟩
  refine ⟨_, ⟨_, rfl, rfl⟩, ?_⟩
  refine ⟨_, ⟨_, rfl, rfl⟩, ?_⟩
  refine ⟨_, ⟨_, rfl, rfl⟩, ?_⟩
  refine ⟨_, CallR.mk1 hP rfl rfl, ?_⟩
  refine ⟨_, ⟨_, rfl, rfl⟩, ?_⟩
  refine ⟨_, CallR.mkW q1 (.cons (wx2 7) .nil) rfl rfl, ?_⟩
  refine ⟨_, CallR.mkW q2 (.cons (wx2 8) .nil) rfl rfl, ?_⟩
  refine ⟨_, CallR.mkW q3 (.cons (wxx) .nil) rfl rfl, ?_⟩
  refine ⟨_, CallR.mkW q4 (.cons (wif) .nil) rfl rfl, ?_⟩
  refine ⟨_, CallR.mk1 v1 rfl rfl, ?_⟩
  refine ⟨_, CallR.mk1 v2 rfl rfl, ?_⟩
  refine ⟨_, CallR.mkW v3 (.cons (wx2 7) (.cons (Wk.refl _) .nil)) rfl rfl, ?_⟩
  refine ⟨_, CallR.mkW v4 (.cons (wx2 8) (.cons (Wk.refl _) .nil)) rfl rfl, ?_⟩
  refine ⟨_, CallR.mkW v5 (.cons (wxx) (.cons (Wk.refl _) .nil)) rfl rfl, ?_⟩
  refine ⟨_, CallR.mkW v6 (.cons (wif) (.cons (Wk.refl _) .nil)) rfl rfl, ?_⟩
  refine ⟨_, CallR.mkW v7 (.cons wc (.cons (Wk.refl _) .nil)) rfl rfl, ?_⟩
  refine ⟨_, neN rfl, ?_⟩
  refine ⟨_, CallR.mk1 hP rfl rfl, ?_⟩
  refine ⟨_, hgt, ?_⟩
  refine ⟨_, Lx.neBN (by first | rfl | simp), ?_⟩
  refine ⟨_, neN rfl, ?_⟩
  refine ⟨_, neN rfl, ?_⟩
  refine ⟨_, Lx.neBN (by first | rfl | simp), ?_⟩
  refine ⟨_, neN rfl, ?_⟩
  refine ⟨_, Lx.neBN (by first | rfl | simp), ?_⟩
  refine ⟨_, neN rfl, ?_⟩
  refine ⟨_, neN rfl, ?_⟩
  refine ⟨_, neN rfl, ?_⟩
  refine ⟨_, addV rfl (by dsimp only [amN, bothF]; omega) (by dsimp only [amN, bothF]; omega), ?_⟩
  refine ⟨_, addV rfl (by dsimp only [amN, bothF]; omega) (by dsimp only [amN, bothF]; omega), ?_⟩
  refine ⟨_, eqT (by dsimp only [amN, bothF]; omega), ?_⟩
  refine ⟨_, leT (by dsimp only [amN, bothF]; omega), ?_⟩
  refine ⟨_, eqN (by dsimp only [amN, bothF]; omega), ?_⟩
  refine ⟨_, eqT (by dsimp only [amN, bothF]; omega), ?_⟩
  exact Ret.mk _ rfl rfl rfl
theorem rules_er1F {e : Int} {r : Am} (he : e ≠ 0) (h : Rules z one two x y l n N (.er e) r false) : RulesO z one two n := by
  obtain ⟨k1, a1, b1, xs1⟩ := x
  obtain ⟨k2, a2, b2, xs2⟩ := y
  obtain ⟨hO, hX, hY, hP, hc, q1, q2, q3, q4, v1, v2, v3, v4, v5, v6, v7⟩ := h
  have hel := rowO_len l
  have wx2 : ∀ k, Wk (.agg [.int .i64 k, .int .i64 0, .str e0, .row [cellsE ⟨k1, a1, b1, xs1⟩, cellsE ⟨k2, a2, b2, xs2⟩]]) (pE ⟨k, 0, e0, [⟨k1, a1, b1, xs1⟩, ⟨k2, a2, b2, xs2⟩]⟩) := fun k => Wk.aggW (wk_node k 0 e0 [⟨k1, a1, b1, xs1⟩, ⟨k2, a2, b2, xs2⟩] (WRows.refl _))
  have wxx : Wk (.agg [.int .i64 9, .int .i64 0, .str e0, .row [cellsE ⟨k1, a1, b1, xs1⟩, cellsE ⟨k1, a1, b1, xs1⟩]]) (pE ⟨9, 0, e0, [⟨k1, a1, b1, xs1⟩, ⟨k1, a1, b1, xs1⟩]⟩) := Wk.aggW (wk_node 9 0 e0 [⟨k1, a1, b1, xs1⟩, ⟨k1, a1, b1, xs1⟩] (WRows.refl _))
  have wc := Wk.aggW (wk_leaf 11 N e0)
  have wif : Wk (.agg [.int .i64 10, .int .i64 0, .str e0, .row [[.int .i64 11, .int .i64 N, .str e0, .nil], cellsE ⟨k1, a1, b1, xs1⟩, cellsE ⟨k2, a2, b2, xs2⟩]]) (pE ⟨10, 0, e0, [⟨11, N, e0, []⟩, ⟨k1, a1, b1, xs1⟩, ⟨k2, a2, b2, xs2⟩]⟩) := Wk.aggW (wk_node 10 0 e0 [⟨11, N, e0, []⟩, ⟨k1, a1, b1, xs1⟩, ⟨k2, a2, b2, xs2⟩] (.cons (wk_leaf _ _ _) (WRows.refl _)))
  rw [both_err] at v3 v4
  have hgt : BinR E 3 .gtr (.c (.int .i64 ((rowO l).length : Nat))) (pI N) (pB false) := gtV (by rw [← hc, hel])
  refine Ok.enter hE Tryz.func4 rfl (by decide +kernel) (by kernel_rfl) rfl rfl (Nat.le_of_ble_eq_true rfl) rfl ?_
  refine ⟨_, CallR.mk1 awake_ok rfl rfl, ?_⟩
  refine ⟨_, CallR.mk1 hX rfl rfl, ?_⟩
  refine ⟨_, CallR.mk1 hY rfl rfl, ?_⟩
  refine ⟨_, CallR.mk1 hO rfl rfl, ?_⟩
  refine ⟨_, ⟨_, rfl, rfl⟩, ?_⟩
  refine ⟨_, ⟨_, rfl, rfl⟩, ?_⟩
  refine ⟨_, ⟨_, rfl, rfl⟩, ?_⟩
  refine ⟨_, CallR.mk1 hP rfl rfl, ?_⟩
  refine ⟨_, ⟨_, rfl, rfl⟩, ?_⟩
  refine ⟨_, CallR.mkW q1 (.cons (wx2 7) .nil) rfl rfl, ?_⟩
  refine ⟨_, CallR.mkW q2 (.cons (wx2 8) .nil) rfl rfl, ?_⟩
  refine ⟨_, CallR.mkW q3 (.cons (wxx) .nil) rfl rfl, ?_⟩
  refine ⟨_, CallR.mkW q4 (.cons (wif) .nil) rfl rfl, ?_⟩
  refine ⟨_, CallR.mk1 v1 rfl rfl, ?_⟩
  refine ⟨_, CallR.mk1 v2 rfl rfl, ?_⟩
  refine ⟨_, CallR.mkW v3 (.cons (wx2 7) (.cons (Wk.refl _) .nil)) rfl rfl, ?_⟩
  refine ⟨_, CallR.mkW v4 (.cons (wx2 8) (.cons (Wk.refl _) .nil)) rfl rfl, ?_⟩
  refine ⟨_, CallR.mkW v5 (.cons (wxx) (.cons (Wk.refl _) .nil)) rfl rfl, ?_⟩
  refine ⟨_, CallR.mkW v6 (.cons (wif) (.cons (Wk.refl _) .nil)) rfl rfl, ?_⟩
  refine ⟨_, CallR.mkW v7 (.cons wc (.cons (Wk.refl _) .nil)) rfl rfl, ?_⟩
  refine ⟨_, neN rfl, ?_⟩
  refine ⟨_, CallR.mk1 hP rfl rfl, ?_⟩
  refine ⟨_, hgt, ?_⟩
  refine ⟨_, Lx.neBN (by first | rfl | simp), ?_⟩
  refine ⟨_, neN rfl, ?_⟩
  refine ⟨_, neN rfl, ?_⟩
  refine ⟨_, Lx.neBN (by first | rfl | simp), ?_⟩
  refine ⟨_, neN rfl, ?_⟩
  refine ⟨_, Lx.neBN (by first | rfl | simp), ?_⟩
  refine ⟨_, neN rfl, ?_⟩
  refine ⟨_, neT he, ?_⟩
  refine ⟨_, neT he, ?_⟩
  refine ⟨_, neT he, ?_⟩
  exact Ret.mk _ rfl rfl rfl
theorem rules_er2noF {e : Int} (he : e ≠ 0) (h : Rules z one two x y l n N .no (.er e) false) : RulesO z one two n := by
  obtain ⟨k1, a1, b1, xs1⟩ := x
  obtain ⟨k2, a2, b2, xs2⟩ := y
  obtain ⟨hO, hX, hY, hP, hc, q1, q2, q3, q4, v1, v2, v3, v4, v5, v6, v7⟩ := h
  have hel := rowO_len l
  have wx2 : ∀ k, Wk (.agg [.int .i64 k, .int .i64 0, .str e0, .row [cellsE ⟨k1, a1, b1, xs1⟩, cellsE ⟨k2, a2, b2, xs2⟩]]) (pE ⟨k, 0, e0, [⟨k1, a1, b1, xs1⟩, ⟨k2, a2, b2, xs2⟩]⟩) := fun k => Wk.aggW (wk_node k 0 e0 [⟨k1, a1, b1, xs1⟩, ⟨k2, a2, b2, xs2⟩] (WRows.refl _))
  have wxx : Wk (.agg [.int .i64 9, .int .i64 0, .str e0, .row [cellsE ⟨k1, a1, b1, xs1⟩, cellsE ⟨k1, a1, b1, xs1⟩]]) (pE ⟨9, 0, e0, [⟨k1, a1, b1, xs1⟩, ⟨k1, a1, b1, xs1⟩]⟩) := Wk.aggW (wk_node 9 0 e0 [⟨k1, a1, b1, xs1⟩, ⟨k1, a1, b1, xs1⟩] (WRows.refl _))
  have wc := Wk.aggW (wk_leaf 11 N e0)
  have wif : Wk (.agg [.int .i64 10, .int .i64 0, .str e0, .row [[.int .i64 11, .int .i64 N, .str e0, .nil], cellsE ⟨k1, a1, b1, xs1⟩, cellsE ⟨k2, a2, b2, xs2⟩]]) (pE ⟨10, 0, e0, [⟨11, N, e0, []⟩, ⟨k1, a1, b1, xs1⟩, ⟨k2, a2, b2, xs2⟩]⟩) := Wk.aggW (wk_node 10 0 e0 [⟨11, N, e0, []⟩, ⟨k1, a1, b1, xs1⟩, ⟨k2, a2, b2, xs2⟩] (.cons (wk_leaf _ _ _) (WRows.refl _)))
  have hgt : BinR E 3 .gtr (.c (.int .i64 ((rowO l).length : Nat))) (pI N) (pB false) := gtV (by rw [← hc, hel])
  refine Ok.enter hE Tryz.func4 rfl (by decide +kernel) (by kernel_rfl) rfl rfl (Nat.le_of_ble_eq_true rfl) rfl ?_
  refine ⟨_, CallR.mk1 awake_ok rfl rfl, ?_⟩
  refine ⟨_, CallR.mk1 hX rfl rfl, ?_⟩
  refine ⟨_, CallR.mk1 hY rfl rfl, ?_⟩
  refine ⟨_, CallR.mk1 hO rfl rfl, ?_⟩
  refine ⟨_, ⟨_, rfl, rfl⟩, ?_⟩
  refine ⟨_, ⟨_, rfl, rfl⟩, ?_⟩
  refine ⟨_, ⟨_, rfl, rfl⟩, ?_⟩
  refine ⟨_, CallR.mk1 hP rfl rfl, ?_⟩
  refine ⟨_, ⟨_, rfl, rfl⟩, ?_⟩
  refine ⟨_, CallR.mkW q1 (.cons (wx2 7) .nil) rfl rfl, ?_⟩
  refine ⟨_, CallR.mkW q2 (.cons (wx2 8) .nil) rfl rfl, ?_⟩
  refine ⟨_, CallR.mkW q3 (.cons (wxx) .nil) rfl rfl, ?_⟩
  refine ⟨_, CallR.mkW q4 (.cons (wif) .nil) rfl rfl, ?_⟩
  refine ⟨_, CallR.mk1 v1 rfl rfl, ?_⟩
  refine ⟨_, CallR.mk1 v2 rfl rfl, ?_⟩
  refine ⟨_, CallR.mkW v3 (.cons (wx2 7) (.cons (Wk.refl _) .nil)) rfl rfl, ?_⟩
  refine ⟨_, CallR.mkW v4 (.cons (wx2 8) (.cons (Wk.refl _) .nil)) rfl rfl, ?_⟩
  refine ⟨_, CallR.mkW v5 (.cons (wxx) (.cons (Wk.refl _) .nil)) rfl rfl, ?_⟩
  refine ⟨_, CallR.mkW v6 (.cons (wif) (.cons (Wk.refl _) .nil)) rfl rfl, ?_⟩
  refine ⟨_, CallR.mkW v7 (.cons wc (.cons (Wk.refl _) .nil)) rfl rfl, ?_⟩
  refine ⟨_, neN rfl, ?_⟩
  refine ⟨_, CallR.mk1 hP rfl rfl, ?_⟩
  refine ⟨_, hgt, ?_⟩
  refine ⟨_, Lx.neBN (by first | rfl | simp), ?_⟩
  refine ⟨_, neN rfl, ?_⟩
  refine ⟨_, neN rfl, ?_⟩
  refine ⟨_, Lx.neBN (by first | rfl | simp), ?_⟩
  refine ⟨_, neN rfl, ?_⟩
  refine ⟨_, Lx.neBN (by first | rfl | simp), ?_⟩
  refine ⟨_, neN rfl, ?_⟩
  refine ⟨_, neN rfl, ?_⟩
  refine ⟨_, neT he, ?_⟩
  refine ⟨_, neT he, ?_⟩
  refine ⟨_, neT he, ?_⟩
  exact Ret.mk _ rfl rfl rfl
theorem rules_er2amF {a : Int} {e : Int} (he : e ≠ 0) (h : Rules z one two x y l n N (.am a) (.er e) false) : RulesO z one two n := by
  obtain ⟨k1, a1, b1, xs1⟩ := x
  obtain ⟨k2, a2, b2, xs2⟩ := y
  obtain ⟨hO, hX, hY, hP, hc, q1, q2, q3, q4, v1, v2, v3, v4, v5, v6, v7⟩ := h
  have hel := rowO_len l
  have wx2 : ∀ k, Wk (.agg [.int .i64 k, .int .i64 0, .str e0, .row [cellsE ⟨k1, a1, b1, xs1⟩, cellsE ⟨k2, a2, b2, xs2⟩]]) (pE ⟨k, 0, e0, [⟨k1, a1, b1, xs1⟩, ⟨k2, a2, b2, xs2⟩]⟩) := fun k => Wk.aggW (wk_node k 0 e0 [⟨k1, a1, b1, xs1⟩, ⟨k2, a2, b2, xs2⟩] (WRows.refl _))
  have wxx : Wk (.agg [.int .i64 9, .int .i64 0, .str e0, .row [cellsE ⟨k1, a1, b1, xs1⟩, cellsE ⟨k1, a1, b1, xs1⟩]]) (pE ⟨9, 0, e0, [⟨k1, a1, b1, xs1⟩, ⟨k1, a1, b1, xs1⟩]⟩) := Wk.aggW (wk_node 9 0 e0 [⟨k1, a1, b1, xs1⟩, ⟨k1, a1, b1, xs1⟩] (WRows.refl _))
  have wc := Wk.aggW (wk_leaf 11 N e0)
  have wif : Wk (.agg [.int .i64 10, .int .i64 0, .str e0, .row [[.int .i64 11, .int .i64 N, .str e0, .nil], cellsE ⟨k1, a1, b1, xs1⟩, cellsE ⟨k2, a2, b2, xs2⟩]]) (pE ⟨10, 0, e0, [⟨11, N, e0, []⟩, ⟨k1, a1, b1, xs1⟩, ⟨k2, a2, b2, xs2⟩]⟩) := Wk.aggW (wk_node 10 0 e0 [⟨11, N, e0, []⟩, ⟨k1, a1, b1, xs1⟩, ⟨k2, a2, b2, xs2⟩] (.cons (wk_leaf _ _ _) (WRows.refl _)))
  have hgt : BinR E 3 .gtr (.c (.int .i64 ((rowO l).length : Nat))) (pI N) (pB false) := gtV (by rw [← hc, hel])
  refine Ok.enter hE Tryz.func4 rfl (by decide +kernel) (by kernel_rfl) rfl rfl (Nat.le_of_ble_eq_true rfl) rfl ?_
  refine ⟨_, CallR.mk1 awake_ok rfl rfl, ?_⟩
  refine ⟨_, CallR.mk1 hX rfl rfl, ?_⟩
  refine ⟨_, CallR.mk1 hY rfl rfl, ?_⟩
  refine ⟨_, CallR.mk1 hO rfl rfl, ?_⟩
  refine ⟨_, ⟨_, rfl, rfl⟩, ?_⟩
  refine ⟨_, ⟨_, rfl, rfl⟩, ?_⟩
  refine ⟨_, ⟨_, rfl, rfl⟩, ?_⟩
  refine ⟨_, CallR.mk1 hP rfl rfl, ?_⟩
  refine ⟨_, ⟨_, rfl, rfl⟩, ?_⟩
  refine ⟨_, CallR.mkW q1 (.cons (wx2 7) .nil) rfl rfl, ?_⟩
  refine ⟨_, CallR.mkW q2 (.cons (wx2 8) .nil) rfl rfl, ?_⟩
  refine ⟨_, CallR.mkW q3 (.cons (wxx) .nil) rfl rfl, ?_⟩
  refine ⟨_, CallR.mkW q4 (.cons (wif) .nil) rfl rfl, ?_⟩
  refine ⟨_, CallR.mk1 v1 rfl rfl, ?_⟩
  refine ⟨_, CallR.mk1 v2 rfl rfl, ?_⟩
  refine ⟨_, CallR.mkW v3 (.cons (wx2 7) (.cons (Wk.refl _) .nil)) rfl rfl, ?_⟩
  refine ⟨_, CallR.mkW v4 (.cons (wx2 8) (.cons (Wk.refl _) .nil)) rfl rfl, ?_⟩
  refine ⟨_, CallR.mkW v5 (.cons (wxx) (.cons (Wk.refl _) .nil)) rfl rfl, ?_⟩
  refine ⟨_, CallR.mkW v6 (.cons (wif) (.cons (Wk.refl _) .nil)) rfl rfl, ?_⟩
  refine ⟨_, CallR.mkW v7 (.cons wc (.cons (Wk.refl _) .nil)) rfl rfl, ?_⟩
  refine ⟨_, neN rfl, ?_⟩
  refine ⟨_, CallR.mk1 hP rfl rfl, ?_⟩
  refine ⟨_, hgt, ?_⟩
  refine ⟨_, Lx.neBN (by first | rfl | simp), ?_⟩
  refine ⟨_, neN rfl, ?_⟩
  refine ⟨_, neN rfl, ?_⟩
  refine ⟨_, Lx.neBN (by first | rfl | simp), ?_⟩
  refine ⟨_, neN rfl, ?_⟩
  refine ⟨_, Lx.neBN (by first | rfl | simp), ?_⟩
  refine ⟨_, neN rfl, ?_⟩
  refine ⟨_, neN rfl, ?_⟩
  refine ⟨_, neT he, ?_⟩
  refine ⟨_, neT he, ?_⟩
  refine ⟨_, neT he, ?_⟩
  exact Ret.mk _ rfl rfl rfl
theorem rules_nonoF (h : Rules z one two x y l n N .no .no false) : RulesO z one two n := by
  obtain ⟨k1, a1, b1, xs1⟩ := x
  obtain ⟨k2, a2, b2, xs2⟩ := y
  obtain ⟨hO, hX, hY, hP, hc, q1, q2, q3, q4, v1, v2, v3, v4, v5, v6, v7⟩ := h
  have hel := rowO_len l
  have wx2 : ∀ k, Wk (.agg [.int .i64 k, .int .i64 0, .str e0, .row [cellsE ⟨k1, a1, b1, xs1⟩, cellsE ⟨k2, a2, b2, xs2⟩]]) (pE ⟨k, 0, e0, [⟨k1, a1, b1, xs1⟩, ⟨k2, a2, b2, xs2⟩]⟩) := fun k => Wk.aggW (wk_node k 0 e0 [⟨k1, a1, b1, xs1⟩, ⟨k2, a2, b2, xs2⟩] (WRows.refl _))
  have wxx : Wk (.agg [.int .i64 9, .int .i64 0, .str e0, .row [cellsE ⟨k1, a1, b1, xs1⟩, cellsE ⟨k1, a1, b1, xs1⟩]]) (pE ⟨9, 0, e0, [⟨k1, a1, b1, xs1⟩, ⟨k1, a1, b1, xs1⟩]⟩) := Wk.aggW (wk_node 9 0 e0 [⟨k1, a1, b1, xs1⟩, ⟨k1, a1, b1, xs1⟩] (WRows.refl _))
  have wc := Wk.aggW (wk_leaf 11 N e0)
  have wif : Wk (.agg [.int .i64 10, .int .i64 0, .str e0, .row [[.int .i64 11, .int .i64 N, .str e0, .nil], cellsE ⟨k1, a1, b1, xs1⟩, cellsE ⟨k2, a2, b2, xs2⟩]]) (pE ⟨10, 0, e0, [⟨11, N, e0, []⟩, ⟨k1, a1, b1, xs1⟩, ⟨k2, a2, b2, xs2⟩]⟩) := Wk.aggW (wk_node 10 0 e0 [⟨11, N, e0, []⟩, ⟨k1, a1, b1, xs1⟩, ⟨k2, a2, b2, xs2⟩] (.cons (wk_leaf _ _ _) (WRows.refl _)))
  have hgt : BinR E 3 .gtr (.c (.int .i64 ((rowO l).length : Nat))) (pI N) (pB false) := gtV (by rw [← hc, hel])
  refine Ok.enter hE Tryz.func4 rfl (by decide +kernel) (by kernel_rfl) rfl rfl (Nat.le_of_ble_eq_true rfl) rfl ?_
  refine ⟨_, CallR.mk1 awake_ok rfl rfl, ?_⟩
  refine ⟨_, CallR.mk1 hX rfl rfl, ?_⟩
  refine ⟨_, CallR.mk1 hY rfl rfl, ?_⟩
  refine ⟨_, CallR.mk1 hO rfl rfl, ?_⟩
  refine ⟨_, ⟨_, rfl, rfl⟩, ?_⟩
  refine ⟨_, ⟨_, rfl, rfl⟩, ?_⟩
  refine ⟨_, ⟨_, rfl, rfl⟩, ?_⟩
  refine ⟨_, CallR.mk1 hP rfl rfl, ?_⟩
  refine ⟨_, ⟨_, rfl, rfl⟩, ?_⟩
  refine ⟨_, CallR.mkW q1 (.cons (wx2 7) .nil) rfl rfl, ?_⟩
  refine ⟨_, CallR.mkW q2 (.cons (wx2 8) .nil) rfl rfl, ?_⟩
  refine ⟨_, CallR.mkW q3 (.cons (wxx) .nil) rfl rfl, ?_⟩
  refine ⟨_, CallR.mkW q4 (.cons (wif) .nil) rfl rfl, ?_⟩
  refine ⟨_, CallR.mk1 v1 rfl rfl, ?_⟩
  refine ⟨_, CallR.mk1 v2 rfl rfl, ?_⟩
  refine ⟨_, CallR.mkW v3 (.cons (wx2 7) (.cons (Wk.refl _) .nil)) rfl rfl, ?_⟩
  refine ⟨_, CallR.mkW v4 (.cons (wx2 8) (.cons (Wk.refl _) .nil)) rfl rfl, ?_⟩
  refine ⟨_, CallR.mkW v5 (.cons (wxx) (.cons (Wk.refl _) .nil)) rfl rfl, ?_⟩
  refine ⟨_, CallR.mkW v6 (.cons (wif) (.cons (Wk.refl _) .nil)) rfl rfl, ?_⟩
  refine ⟨_, CallR.mkW v7 (.cons wc (.cons (Wk.refl _) .nil)) rfl rfl, ?_⟩
  refine ⟨_, neN rfl, ?_⟩
  refine ⟨_, CallR.mk1 hP rfl rfl, ?_⟩
  refine ⟨_, hgt, ?_⟩
  refine ⟨_, Lx.neBN (by first | rfl | simp), ?_⟩
  refine ⟨_, neN rfl, ?_⟩
  refine ⟨_, neN rfl, ?_⟩
  refine ⟨_, Lx.neBN (by first | rfl | simp), ?_⟩
  refine ⟨_, neN rfl, ?_⟩
  refine ⟨_, Lx.neBN (by first | rfl | simp), ?_⟩
  refine ⟨_, neN rfl, ?_⟩
  refine ⟨_, neN rfl, ?_⟩
  refine ⟨_, neN rfl, ?_⟩
  refine ⟨_, eqT rfl, ?_⟩
  refine ⟨_, eqT rfl, ?_⟩
  exact Ret.mk _ rfl rfl rfl
theorem rules_noamF {b : Int} (h : Rules z one two x y l n N .no (.am b) false) : RulesO z one two n := by
  obtain ⟨k1, a1, b1, xs1⟩ := x
  obtain ⟨k2, a2, b2, xs2⟩ := y
  obtain ⟨hO, hX, hY, hP, hc, q1, q2, q3, q4, v1, v2, v3, v4, v5, v6, v7⟩ := h
  have hel := rowO_len l
  have wx2 : ∀ k, Wk (.agg [.int .i64 k, .int .i64 0, .str e0, .row [cellsE ⟨k1, a1, b1, xs1⟩, cellsE ⟨k2, a2, b2, xs2⟩]]) (pE ⟨k, 0, e0, [⟨k1, a1, b1, xs1⟩, ⟨k2, a2, b2, xs2⟩]⟩) := fun k => Wk.aggW (wk_node k 0 e0 [⟨k1, a1, b1, xs1⟩, ⟨k2, a2, b2, xs2⟩] (WRows.refl _))
  have wxx : Wk (.agg [.int .i64 9, .int .i64 0, .str e0, .row [cellsE ⟨k1, a1, b1, xs1⟩, cellsE ⟨k1, a1, b1, xs1⟩]]) (pE ⟨9, 0, e0, [⟨k1, a1, b1, xs1⟩, ⟨k1, a1, b1, xs1⟩]⟩) := Wk.aggW (wk_node 9 0 e0 [⟨k1, a1, b1, xs1⟩, ⟨k1, a1, b1, xs1⟩] (WRows.refl _))
  have wc := Wk.aggW (wk_leaf 11 N e0)
  have wif : Wk (.agg [.int .i64 10, .int .i64 0, .str e0, .row [[.int .i64 11, .int .i64 N, .str e0, .nil], cellsE ⟨k1, a1, b1, xs1⟩, cellsE ⟨k2, a2, b2, xs2⟩]]) (pE ⟨10, 0, e0, [⟨11, N, e0, []⟩, ⟨k1, a1, b1, xs1⟩, ⟨k2, a2, b2, xs2⟩]⟩) := Wk.aggW (wk_node 10 0 e0 [⟨11, N, e0, []⟩, ⟨k1, a1, b1, xs1⟩, ⟨k2, a2, b2, xs2⟩] (.cons (wk_leaf _ _ _) (WRows.refl _)))
  have hgt : BinR E 3 .gtr (.c (.int .i64 ((rowO l).length : Nat))) (pI N) (pB false) := gtV (by rw [← hc, hel])
  refine Ok.enter hE Tryz.func4 rfl (by decide +kernel) (by kernel_rfl) rfl rfl (Nat.le_of_ble_eq_true rfl) rfl ?_
  refine ⟨_, CallR.mk1 awake_ok rfl rfl, ?_⟩
  refine ⟨_, CallR.mk1 hX rfl rfl, ?_⟩
  refine ⟨_, CallR.mk1 hY rfl rfl, ?_⟩
  refine ⟨_, CallR.mk1 hO rfl rfl, ?_⟩
  refine ⟨_, ⟨_, rfl, rfl⟩, ?_⟩
  refine ⟨_, ⟨_, rfl, rfl⟩, ?_⟩
  refine ⟨_, ⟨_, rfl, rfl⟩, ?_⟩
  refine ⟨_, CallR.mk1 hP rfl rfl, ?_⟩
  refine ⟨_, ⟨_, rfl, rfl⟩, ?_⟩
  refine ⟨_, CallR.mkW q1 (.cons (wx2 7) .nil) rfl rfl, ?_⟩
  refine ⟨_, CallR.mkW q2 (.cons (wx2 8) .nil) rfl rfl, ?_⟩
  refine ⟨_, CallR.mkW q3 (.cons (wxx) .nil) rfl rfl, ?_⟩
  refine ⟨_, CallR.mkW q4 (.cons (wif) .nil) rfl rfl, ?_⟩
  refine ⟨_, CallR.mk1 v1 rfl rfl, ?_⟩
  refine ⟨_, CallR.mk1 v2 rfl rfl, ?_⟩
  refine ⟨_, CallR.mkW v3 (.cons (wx2 7) (.cons (Wk.refl _) .nil)) rfl rfl, ?_⟩
  refine ⟨_, CallR.mkW v4 (.cons (wx2 8) (.cons (Wk.refl _) .nil)) rfl rfl, ?_⟩
  refine ⟨_, CallR.mkW v5 (.cons (wxx) (.cons (Wk.refl _) .nil)) rfl rfl, ?_⟩
  refine ⟨_, CallR.mkW v6 (.cons (wif) (.cons (Wk.refl _) .nil)) rfl rfl, ?_⟩
  refine ⟨_, CallR.mkW v7 (.cons wc (.cons (Wk.refl _) .nil)) rfl rfl, ?_⟩
  refine ⟨_, neN rfl, ?_⟩
  refine ⟨_, CallR.mk1 hP rfl rfl, ?_⟩
  refine ⟨_, hgt, ?_⟩
  refine ⟨_, Lx.neBN (by first | rfl | simp), ?_⟩
  refine ⟨_, neN rfl, ?_⟩
  refine ⟨_, neN rfl, ?_⟩
  refine ⟨_, Lx.neBN (by first | rfl | simp), ?_⟩
  refine ⟨_, neN rfl, ?_⟩
  refine ⟨_, Lx.neBN (by first | rfl | simp), ?_⟩
  refine ⟨_, neN rfl, ?_⟩
  refine ⟨_, neN rfl, ?_⟩
  refine ⟨_, neN rfl, ?_⟩
  refine ⟨_, eqT rfl, ?_⟩
  refine ⟨_, eqT rfl, ?_⟩
  exact Ret.mk _ rfl rfl rfl
theorem rules_amnoF {a : Int} (h : Rules z one two x y l n N (.am a) .no false) : RulesO z one two n := by
  obtain ⟨k1, a1, b1, xs1⟩ := x
  obtain ⟨k2, a2, b2, xs2⟩ := y
  obtain ⟨hO, hX, hY, hP, hc, q1, q2, q3, q4, v1, v2, v3, v4, v5, v6, v7⟩ := h
  have hel := rowO_len l
  have wx2 : ∀ k, Wk (.agg [.int .i64 k, .int .i64 0, .str e0, .row [cellsE ⟨k1, a1, b1, xs1⟩, cellsE ⟨k2, a2, b2, xs2⟩]]) (pE ⟨k, 0, e0, [⟨k1, a1, b1, xs1⟩, ⟨k2, a2, b2, xs2⟩]⟩) := fun k => Wk.aggW (wk_node k 0 e0 [⟨k1, a1, b1, xs1⟩, ⟨k2, a2, b2, xs2⟩] (WRows.refl _))
  have wxx : Wk (.agg [.int .i64 9, .int .i64 0, .str e0, .row [cellsE ⟨k1, a1, b1, xs1⟩, cellsE ⟨k1, a1, b1, xs1⟩]]) (pE ⟨9, 0, e0, [⟨k1, a1, b1, xs1⟩, ⟨k1, a1, b1, xs1⟩]⟩) := Wk.aggW (wk_node 9 0 e0 [⟨k1, a1, b1, xs1⟩, ⟨k1, a1, b1, xs1⟩] (WRows.refl _))
  have wc := Wk.aggW (wk_leaf 11 N e0)
  have wif : Wk (.agg [.int .i64 10, .int .i64 0, .str e0, .row [[.int .i64 11, .int .i64 N, .str e0, .nil], cellsE ⟨k1, a1, b1, xs1⟩, cellsE ⟨k2, a2, b2, xs2⟩]]) (pE ⟨10, 0, e0, [⟨11, N, e0, []⟩, ⟨k1, a1, b1, xs1⟩, ⟨k2, a2, b2, xs2⟩]⟩) := Wk.aggW (wk_node 10 0 e0 [⟨11, N, e0, []⟩, ⟨k1, a1, b1, xs1⟩, ⟨k2, a2, b2, xs2⟩] (.cons (wk_leaf _ _ _) (WRows.refl _)))
  have hgt : BinR E 3 .gtr (.c (.int .i64 ((rowO l).length : Nat))) (pI N) (pB false) := gtV (by rw [← hc, hel])
  refine Ok.enter hE Tryz.func4 rfl (by decide +kernel) (by kernel_rfl) rfl rfl (Nat.le_of_ble_eq_true rfl) rfl ?_
  refine ⟨_, CallR.mk1 awake_ok rfl rfl, ?_⟩
  refine ⟨_, CallR.mk1 hX rfl rfl, ?_⟩
  refine ⟨_, CallR.mk1 hY rfl rfl, ?_⟩
  refine ⟨_, CallR.mk1 hO rfl rfl, ?_⟩
  refine ⟨_, ⟨_, rfl, rfl⟩, ?_⟩
  refine ⟨_, ⟨_, rfl, rfl⟩, ?_⟩
  refine ⟨_, ⟨_, rfl, rfl⟩, ?_⟩
  refine ⟨_, CallR.mk1 hP rfl rfl, ?_⟩
  refine ⟨_, ⟨_, rfl, rfl⟩, ?_⟩
  refine ⟨_, CallR.mkW q1 (.cons (wx2 7) .nil) rfl rfl, ?_⟩
  refine ⟨_, CallR.mkW q2 (.cons (wx2 8) .nil) rfl rfl, ?_⟩
  refine ⟨_, CallR.mkW q3 (.cons (wxx) .nil) rfl rfl, ?_⟩
  refine ⟨_, CallR.mkW q4 (.cons (wif) .nil) rfl rfl, ?_⟩
  refine ⟨_, CallR.mk1 v1 rfl rfl, ?_⟩
  refine ⟨_, CallR.mk1 v2 rfl rfl, ?_⟩
  refine ⟨_, CallR.mkW v3 (.cons (wx2 7) (.cons (Wk.refl _) .nil)) rfl rfl, ?_⟩
  refine ⟨_, CallR.mkW v4 (.cons (wx2 8) (.cons (Wk.refl _) .nil)) rfl rfl, ?_⟩
  refine ⟨_, CallR.mkW v5 (.cons (wxx) (.cons (Wk.refl _) .nil)) rfl rfl, ?_⟩
  refine ⟨_, CallR.mkW v6 (.cons (wif) (.cons (Wk.refl _) .nil)) rfl rfl, ?_⟩
  refine ⟨_, CallR.mkW v7 (.cons wc (.cons (Wk.refl _) .nil)) rfl rfl, ?_⟩
  refine ⟨_, neN rfl, ?_⟩
  refine ⟨_, CallR.mk1 hP rfl rfl, ?_⟩
  refine ⟨_, hgt, ?_⟩
  refine ⟨_, Lx.neBN (by first | rfl | simp), ?_⟩
  refine ⟨_, neN rfl, ?_⟩
  refine ⟨_, neN rfl, ?_⟩
  refine ⟨_, Lx.neBN (by first | rfl | simp), ?_⟩
  refine ⟨_, neN rfl, ?_⟩
  refine ⟨_, Lx.neBN (by first | rfl | simp), ?_⟩
  refine ⟨_, neN rfl, ?_⟩
  refine ⟨_, neN rfl, ?_⟩
  refine ⟨_, neN rfl, ?_⟩
  refine ⟨_, eqT rfl, ?_⟩
  refine ⟨_, eqT rfl, ?_⟩
  exact Ret.mk _ rfl rfl rfl
theorem rules_abF {a b : Int} (a0 : -1000000000000 ≤ a) (a2 : a ≤ 1000000000000) (b0 : -1000000000000 ≤ b) (b2 : b ≤ 1000000000000) (hab : a ≤ b) (h : Rules z one two x y l n N (.am a) (.am b) false) : RulesO z one two n := by
  obtain ⟨k1, a1, b1, xs1⟩ := x
  obtain ⟨k2, a2, b2, xs2⟩ := y
  obtain ⟨hO, hX, hY, hP, hc, q1, q2, q3, q4, v1, v2, v3, v4, v5, v6, v7⟩ := h
  have hel := rowO_len l
  have wx2 : ∀ k, Wk (.agg [.int .i64 k, .int .i64 0, .str e0, .row [cellsE ⟨k1, a1, b1, xs1⟩, cellsE ⟨k2, a2, b2, xs2⟩]]) (pE ⟨k, 0, e0, [⟨k1, a1, b1, xs1⟩, ⟨k2, a2, b2, xs2⟩]⟩) := fun k => Wk.aggW (wk_node k 0 e0 [⟨k1, a1, b1, xs1⟩, ⟨k2, a2, b2, xs2⟩] (WRows.refl _))
  have wxx : Wk (.agg [.int .i64 9, .int .i64 0, .str e0, .row [cellsE ⟨k1, a1, b1, xs1⟩, cellsE ⟨k1, a1, b1, xs1⟩]]) (pE ⟨9, 0, e0, [⟨k1, a1, b1, xs1⟩, ⟨k1, a1, b1, xs1⟩]⟩) := Wk.aggW (wk_node 9 0 e0 [⟨k1, a1, b1, xs1⟩, ⟨k1, a1, b1, xs1⟩] (WRows.refl _))
  have wc := Wk.aggW (wk_leaf 11 N e0)
  have wif : Wk (.agg [.int .i64 10, .int .i64 0, .str e0, .row [[.int .i64 11, .int .i64 N, .str e0, .nil], cellsE ⟨k1, a1, b1, xs1⟩, cellsE ⟨k2, a2, b2, xs2⟩]]) (pE ⟨10, 0, e0, [⟨11, N, e0, []⟩, ⟨k1, a1, b1, xs1⟩, ⟨k2, a2, b2, xs2⟩]⟩) := Wk.aggW (wk_node 10 0 e0 [⟨11, N, e0, []⟩, ⟨k1, a1, b1, xs1⟩, ⟨k2, a2, b2, xs2⟩] (.cons (wk_leaf _ _ _) (WRows.refl _)))
  have hgt : BinR E 3 .gtr (.c (.int .i64 ((rowO l).length : Nat))) (pI N) (pB false) := gtV (by rw [← hc, hel])
  refine Ok.enter hE Tryz.func4 rfl (by decide +kernel) (by kernel_rfl) rfl rfl (Nat.le_of_ble_eq_true rfl) rfl ?_
  refine ⟨_, CallR.mk1 awake_ok rfl rfl, ?_⟩
  refine ⟨_, CallR.mk1 hX rfl rfl, ?_⟩
  refine ⟨_, CallR.mk1 hY rfl rfl, ?_⟩
  refine ⟨_, CallR.mk1 hO rfl rfl, ?_⟩
  refine ⟨_, ⟨_, rfl, rfl⟩, ?_⟩
  refine ⟨_, ⟨_, rfl, rfl⟩, ?_⟩
  refine ⟨_, ⟨_, rfl, rfl⟩, ?_⟩
  refine ⟨_, CallR.mk1 hP rfl rfl, ?_⟩
  refine ⟨_, ⟨_, rfl, rfl⟩, ?_⟩
  refine ⟨_, CallR.mkW q1 (.cons (wx2 7) .nil) rfl rfl, ?_⟩
  refine ⟨_, CallR.mkW q2 (.cons (wx2 8) .nil) rfl rfl, ?_⟩
  refine ⟨_, CallR.mkW q3 (.cons (wxx) .nil) rfl rfl, ?_⟩
  refine ⟨_, CallR.mkW q4 (.cons (wif) .nil) rfl rfl, ?_⟩
  refine ⟨_, CallR.mk1 v1 rfl rfl, ?_⟩
  refine ⟨_, CallR.mk1 v2 rfl rfl, ?_⟩
  refine ⟨_, CallR.mkW v3 (.cons (wx2 7) (.cons (Wk.refl _) .nil)) rfl rfl, ?_⟩
  refine ⟨_, CallR.mkW v4 (.cons (wx2 8) (.cons (Wk.refl _) .nil)) rfl rfl, ?_⟩
  refine ⟨_, CallR.mkW v5 (.cons (wxx) (.cons (Wk.refl _) .nil)) rfl rfl, ?_⟩
  refine ⟨_, CallR.mkW v6 (.cons (wif) (.cons (Wk.refl _) .nil)) rfl rfl, ?_⟩
  refine ⟨_, CallR.mkW v7 (.cons wc (.cons (Wk.refl _) .nil)) rfl rfl, ?_⟩
  refine ⟨_, neN rfl, ?_⟩
  refine ⟨_, CallR.mk1 hP rfl rfl, ?_⟩
  refine ⟨_, hgt, ?_⟩
  refine ⟨_, Lx.neBN (by first | rfl | simp), ?_⟩
  refine ⟨_, neN rfl, ?_⟩
  refine ⟨_, neN rfl, ?_⟩
  refine ⟨_, Lx.neBN (by first | rfl | simp), ?_⟩
  refine ⟨_, neN rfl, ?_⟩
  refine ⟨_, Lx.neBN (by first | rfl | simp), ?_⟩
  refine ⟨_, neN rfl, ?_⟩
  refine ⟨_, neN rfl, ?_⟩
  refine ⟨_, neN rfl, ?_⟩
  refine ⟨_, addV rfl (by dsimp only [amN, bothF]; omega) (by dsimp only [amN, bothF]; omega), ?_⟩
  refine ⟨_, addV rfl (by dsimp only [amN, bothF]; omega) (by dsimp only [amN, bothF]; omega), ?_⟩
  refine ⟨_, eqT (by dsimp only [amN, bothF]; omega), ?_⟩
  refine ⟨_, leT (by dsimp only [amN, bothF]; omega), ?_⟩
  refine ⟨_, eqT (by dsimp only [amN, bothF]; omega), ?_⟩
  exact Ret.mk _ rfl rfl rfl
theorem rules_baF {a b : Int} (a0 : -1000000000000 ≤ a) (a2 : a ≤ 1000000000000) (b0 : -1000000000000 ≤ b) (b2 : b ≤ 1000000000000) (hab : ¬ a ≤ b) (h : Rules z one two x y l n N (.am a) (.am b) false) : RulesO z one two n := by
  obtain ⟨k1, a1, b1, xs1⟩ := x
  obtain ⟨k2, a2, b2, xs2⟩ := y
  obtain ⟨hO, hX, hY, hP, hc, q1, q2, q3, q4, v1, v2, v3, v4, v5, v6, v7⟩ := h
  have hel := rowO_len l
  have wx2 : ∀ k, Wk (.agg [.int .i64 k, .int .i64 0, .str e0, .row [cellsE ⟨k1, a1, b1, xs1⟩, cellsE ⟨k2, a2, b2, xs2⟩]]) (pE ⟨k, 0, e0, [⟨k1, a1, b1, xs1⟩, ⟨k2, a2, b2, xs2⟩]⟩) := fun k => Wk.aggW (wk_node k 0 e0 [⟨k1, a1, b1, xs1⟩, ⟨k2, a2, b2, xs2⟩] (WRows.refl _))
  have wxx : Wk (.agg [.int .i64 9, .int .i64 0, .str e0, .row [cellsE ⟨k1, a1, b1, xs1⟩, cellsE ⟨k1, a1, b1, xs1⟩]]) (pE ⟨9, 0, e0, [⟨k1, a1, b1, xs1⟩, ⟨k1, a1, b1, xs1⟩]⟩) := Wk.aggW (wk_node 9 0 e0 [⟨k1, a1, b1, xs1⟩, ⟨k1, a1, b1, xs1⟩] (WRows.refl _))
  have wc := Wk.aggW (wk_leaf 11 N e0)
  have wif : Wk (.agg [.int .i64 10, .int .i64 0, .str e0, .row [[.int .i64 11, .int .i64 N, .str e0, .nil], cellsE ⟨k1, a1, b1, xs1⟩, cellsE ⟨k2, a2, b2, xs2⟩]]) (pE ⟨10, 0, e0, [⟨11, N, e0, []⟩, ⟨k1, a1, b1, xs1⟩, ⟨k2, a2, b2, xs2⟩]⟩) := Wk.aggW (wk_node 10 0 e0 [⟨11, N, e0, []⟩, ⟨k1, a1, b1, xs1⟩, ⟨k2, a2, b2, xs2⟩] (.cons (wk_leaf _ _ _) (WRows.refl _)))
  have hgt : BinR E 3 .gtr (.c (.int .i64 ((rowO l).length : Nat))) (pI N) (pB false) := gtV (by rw [← hc, hel])
  refine Ok.enter hE Tryz.func4 rfl (by decide +kernel) (by kernel_rfl) rfl rfl (Nat.le_of_ble_eq_true rfl) rfl ?_
  refine ⟨_, CallR.mk1 awake_ok rfl rfl, ?_⟩
  refine ⟨_, CallR.mk1 hX rfl rfl, ?_⟩
  refine ⟨_, CallR.mk1 hY rfl rfl, ?_⟩
  refine ⟨_, CallR.mk1 hO rfl rfl, ?_⟩
  refine ⟨_, ⟨_, rfl, rfl⟩, ?_⟩
  refine ⟨_, ⟨_, rfl, rfl⟩, ?_⟩
  refine ⟨_, ⟨_, rfl, rfl⟩, ?_⟩
  refine ⟨_, CallR.mk1 hP rfl rfl, ?_⟩
  refine ⟨_, ⟨_, rfl, rfl⟩, ?_⟩
  refine ⟨_, CallR.mkW q1 (.cons (wx2 7) .nil) rfl rfl, ?_⟩
  refine ⟨_, CallR.mkW q2 (.cons (wx2 8) .nil) rfl rfl, ?_⟩
  refine ⟨_, CallR.mkW q3 (.cons (wxx) .nil) rfl rfl, ?_⟩
  refine ⟨_, CallR.mkW q4 (.cons (wif) .nil) rfl rfl, ?_⟩
  refine ⟨_, CallR.mk1 v1 rfl rfl, ?_⟩
  refine ⟨_, CallR.mk1 v2 rfl rfl, ?_⟩
  refine ⟨_, CallR.mkW v3 (.cons (wx2 7) (.cons (Wk.refl _) .nil)) rfl rfl, ?_⟩
  refine ⟨_, CallR.mkW v4 (.cons (wx2 8) (.cons (Wk.refl _) .nil)) rfl rfl, ?_⟩
  refine ⟨_, CallR.mkW v5 (.cons (wxx) (.cons (Wk.refl _) .nil)) rfl rfl, ?_⟩
  refine ⟨_, CallR.mkW v6 (.cons (wif) (.cons (Wk.refl _) .nil)) rfl rfl, ?_⟩
  refine ⟨_, CallR.mkW v7 (.cons wc (.cons (Wk.refl _) .nil)) rfl rfl, ?_⟩
  refine ⟨_, neN rfl, ?_⟩
  refine ⟨_, CallR.mk1 hP rfl rfl, ?_⟩
  refine ⟨_, hgt, ?_⟩
  refine ⟨_, Lx.neBN (by first | rfl | simp), ?_⟩
  refine ⟨_, neN rfl, ?_⟩
  refine ⟨_, neN rfl, ?_⟩
  refine ⟨_, Lx.neBN (by first | rfl | simp), ?_⟩
  refine ⟨_, neN rfl, ?_⟩
  refine ⟨_, Lx.neBN (by first | rfl | simp), ?_⟩
  refine ⟨_, neN rfl, ?_⟩
  refine ⟨_, neN rfl, ?_⟩
  refine ⟨_, neN rfl, ?_⟩
  refine ⟨_, addV rfl (by dsimp only [amN, bothF]; omega) (by dsimp only [amN, bothF]; omega), ?_⟩
  refine ⟨_, addV rfl (by dsimp only [amN, bothF]; omega) (by dsimp only [amN, bothF]; omega), ?_⟩
  refine ⟨_, eqT (by dsimp only [amN, bothF]; omega), ?_⟩
  refine ⟨_, leT (by dsimp only [amN, bothF]; omega), ?_⟩
  refine ⟨_, eqN (by dsimp only [amN, bothF]; omega), ?_⟩
  refine ⟨_, eqT (by dsimp only [amN, bothF]; omega), ?_⟩
  exact Ret.mk _ rfl rfl rfl
theorem rules_all {r1 r2 : Am} {c : Bool} (h : Rules z one two x y l n N r1 r2 c) (h1 : AmR r1) (h2 : AmR r2) (z1 : ∀ e, r1 = .er e → e ≠ 0) (z2 : ∀ e, r2 = .er e → e ≠ 0) : RulesO z one two n := by
  cases r1 with
  | er e =>
    have he : e ≠ 0 := z1 e rfl
    cases c with
    | true => exact rules_er1T he h
    | false => exact rules_er1F he h
  | no => cases r2 with
    | er e =>
      have he : e ≠ 0 := z2 e rfl
      cases c with
      | true => exact rules_er2noT he h
      | false => exact rules_er2noF he h
    | no => cases c with
      | true => exact rules_nonoT h
      | false => exact rules_nonoF h
    | am b => cases c with
      | true => exact rules_noamT h
      | false => exact rules_noamF h
  | am a => cases r2 with
    | er e =>
      have he : e ≠ 0 := z2 e rfl
      cases c with
      | true => exact rules_er2amT he h
      | false => exact rules_er2amF he h
    | no => cases c with
      | true => exact rules_amnoT h
      | false => exact rules_amnoF h
    | am b =>
      obtain ⟨a0, a1⟩ := h1
      obtain ⟨b0, b1⟩ := h2
      by_cases hab : a ≤ b
      · cases c with
        | true => exact rules_abT a0 a1 b0 b1 hab h
        | false => exact rules_abF a0 a1 b0 b1 hab h
      · cases c with
        | true => exact rules_baT a0 a1 b0 b1 hab h
        | false => exact rules_baF a0 a1 b0 b1 hab h
end
theorem ValueRules_ok (one : List Int) (h1 : ∀ a ∈ one, I64 a) (l1 : one.length ≤ 17592186043904) (two : List Int) (h2 : ∀ a ∈ two, I64 a) (l2 : two.length ≤ 17592186043904) (z : List (List Int)) (hz : ∀ y ∈ z, y.length = 2 ∧ ∀ n ∈ y, I64 n) (hl : z.length ≤ 9223372036854775807) (n : Int) (hn : I64 n) :
    RulesO z one two n := by
  have hO := Offers_ok z hz hl
  have hr := off_right z
  have hol := off_len' z
  obtain ⟨l, hlo⟩ : ∃ l, offersF z = l := ⟨_, rfl⟩
  rw [hlo] at hO hr hol
  have hX := strat_ok one h1 (by omega)
  have hY := strat_ok two h2 (by omega)
  have tx := strat_small one h1
  have ty := strat_small two h2
  obtain ⟨x, hx⟩ : ∃ x, stratF one = x := ⟨_, rfl⟩
  obtain ⟨y, hy⟩ : ∃ y, stratF two = y := ⟨_, rfl⟩
  rw [hx] at hX tx
  rw [hy] at hY ty
  have sx := tx.size
  have sy := ty.size
  have rx := tx.rng
  have ry := ty.rng
  have hP := pick09_ok n 9 hn (by decide)
  obtain ⟨p0, p1⟩ := Pm.pk_rng (c := n) (n := 9) (by decide)
  obtain ⟨N, hN⟩ : ∃ N, Pm.pk n 9 = N := ⟨_, rfl⟩
  rw [hN] at hP p0 p1
  have two_s : ∀ k n (u v : Ex), size ⟨k, n, e0, [u, v]⟩ = 1 + (size u + (size v + 0)) := fun k n u v => by rw [Pm.size, Pm.sizeL, Pm.sizeL, Pm.sizeL]
  have two_r : ∀ k (u v : Ex), Q.rngE u = true → Q.rngE v = true → Q.rngE ⟨k, 0, e0, [u, v]⟩ = true := fun k u v hu hv => rng_node ⟨by decide, by decide⟩ (by simp) (by simp [hu, hv])
  have g1 := rRight_ok ⟨7, 0, e0, [x, y]⟩ (two_r 7 x y rx ry) (by rw [two_s]; omega)
  have g2 := rRight_ok ⟨8, 0, e0, [x, y]⟩ (two_r 8 x y rx ry) (by rw [two_s]; omega)
  have g3 := rRight_ok ⟨9, 0, e0, [x, x]⟩ (two_r 9 x x rx rx) (by rw [two_s]; omega)
  have rm : Q.rngE ⟨11, N, e0, []⟩ = true := rng_node ⟨by omega, by omega⟩ (by simp) (by simp)
  have rif : Q.rngE ⟨10, 0, e0, [⟨11, N, e0, []⟩, x, y]⟩ = true := rng_node ⟨by decide, by decide⟩ (by simp) (by simp [rm, rx, ry])
  have sif : size ⟨10, 0, e0, [⟨11, N, e0, []⟩, x, y]⟩ = 1 + ((1 + 0) + (size x + (size y + 0))) := by rw [Pm.size, Pm.sizeL, Pm.sizeL, Pm.sizeL, Pm.sizeL, Pm.size, Pm.sizeL]
  have g4 := rRight_ok ⟨10, 0, e0, [⟨11, N, e0, []⟩, x, y]⟩ rif (by rw [sif]; omega)
  by_cases hall : isRight ⟨7, 0, e0, [x, y]⟩ = true ∧ isRight ⟨8, 0, e0, [x, y]⟩ = true ∧ isRight ⟨9, 0, e0, [x, x]⟩ = true ∧ isRight ⟨10, 0, e0, [⟨11, N, e0, []⟩, x, y]⟩ = true
  · obtain ⟨i1, i2, i3, i4⟩ := hall
    rw [i1] at g1
    rw [i2] at g2
    rw [i3] at g3
    rw [i4] at g4
    obtain ⟨fx, fy, ix, iy⟩ := right_two (.inl rfl) i1
    have hmr := more_right p0 (show N ≤ 1000 by omega)
    have v1 := Eval_ok x l rx (by omega) (by omega)
    have v2 := Eval_ok y l ry (by omega) (by omega)
    have v3 := Eval_ok ⟨7, 0, e0, [x, y]⟩ l (two_r 7 x y rx ry) (by rw [two_s]; omega) (by omega)
    have v4 := Eval_ok ⟨8, 0, e0, [x, y]⟩ l (two_r 8 x y rx ry) (by rw [two_s]; omega) (by omega)
    have v5 := Eval_ok ⟨9, 0, e0, [x, x]⟩ l (two_r 9 x x rx rx) (by rw [two_s]; omega) (by omega)
    have v6 := Eval_ok ⟨10, 0, e0, [⟨11, N, e0, []⟩, x, y]⟩ l rif (by rw [sif]; omega) (by omega)
    have v7 := Cond_ok (moreN N) l ((fine_facts _ 32 false (right_open hmr).1).2.2.1) (by have := (right_open hmr).2.1; omega) (by omega)
    rw [tell_is hr ix] at v1
    rw [tell_is hr iy] at v2
    rw [tell_is hr i1, ev7] at v3
    rw [tell_is hr i2, ev8] at v4
    rw [tell_is hr i3, ev9] at v5
    rw [tell_is hr i4, ev10, cd11] at v6
    unfold tellC at v7
    rw [hr, hmr, if_pos (show (true && true) = true from rfl), moreN, cd11] at v7
    have w1 := ((told_all hr 31).1 x fx).ne
    have w2 := ((told_all hr 31).1 y fy).ne
    have a1 := eval_r hr 31 x fx
    have a2 := eval_r hr 31 y fy
    obtain ⟨r1, e1⟩ : ∃ r, evalE l x = r := ⟨_, rfl⟩
    obtain ⟨r2, e2⟩ : ∃ r, evalE l y = r := ⟨_, rfl⟩
    rw [e1] at v1 v3 v4 v5 v6 a1 w1
    rw [e2] at v2 v3 v4 v6 a2 w2
    replace v5 : Ok E 11 [] [pE ⟨9, 0, e0, [x, x]⟩, .c (.row (rowO l))] (tupA r1) [] := by cases r1 <;> exact v5
    obtain ⟨c, hc⟩ : ∃ c, decide (N < (l.length : Int)) = c := ⟨_, rfl⟩
    rw [hc] at v6 v7
    refine rules_all (c := c) ⟨hO, hX, hY, hP, hc, g1, g2, g3, g4, v1, v2, v3, v4, v5, ?_, v7⟩ a1 a2 w1 w2
    cases c <;> exact v6
  · obtain ⟨c1, e1⟩ : ∃ c, isRight ⟨7, 0, e0, [x, y]⟩ = c := ⟨_, rfl⟩
    obtain ⟨c2, e2⟩ : ∃ c, isRight ⟨8, 0, e0, [x, y]⟩ = c := ⟨_, rfl⟩
    obtain ⟨c3, e3⟩ : ∃ c, isRight ⟨9, 0, e0, [x, x]⟩ = c := ⟨_, rfl⟩
    obtain ⟨c4, e4⟩ : ∃ c, isRight ⟨10, 0, e0, [⟨11, N, e0, []⟩, x, y]⟩ = c := ⟨_, rfl⟩
    rw [e1, e2, e3, e4] at hall
    rw [e1] at g1
    rw [e2] at g2
    rw [e3] at g3
    rw [e4] at g4
    clear e1 e2 e3 e4 hx hy tx ty sx sy rx ry rif sif
    obtain ⟨k1, a1, b1, xs1⟩ := x
    obtain ⟨k2, a2, b2, xs2⟩ := y
    have wx2 : ∀ k, Wk (.agg [.int .i64 k, .int .i64 0, .str e0, .row [cellsE ⟨k1, a1, b1, xs1⟩, cellsE ⟨k2, a2, b2, xs2⟩]]) (pE ⟨k, 0, e0, [⟨k1, a1, b1, xs1⟩, ⟨k2, a2, b2, xs2⟩]⟩) := fun k => Wk.aggW (wk_node k 0 e0 [⟨k1, a1, b1, xs1⟩, ⟨k2, a2, b2, xs2⟩] (WRows.refl _))
    have wxx : Wk (.agg [.int .i64 9, .int .i64 0, .str e0, .row [cellsE ⟨k1, a1, b1, xs1⟩, cellsE ⟨k1, a1, b1, xs1⟩]]) (pE ⟨9, 0, e0, [⟨k1, a1, b1, xs1⟩, ⟨k1, a1, b1, xs1⟩]⟩) := Wk.aggW (wk_node 9 0 e0 [⟨k1, a1, b1, xs1⟩, ⟨k1, a1, b1, xs1⟩] (WRows.refl _))
    have wc := Wk.aggW (wk_leaf 11 N e0)
    have wif : Wk (.agg [.int .i64 10, .int .i64 0, .str e0, .row [[.int .i64 11, .int .i64 N, .str e0, .nil], cellsE ⟨k1, a1, b1, xs1⟩, cellsE ⟨k2, a2, b2, xs2⟩]]) (pE ⟨10, 0, e0, [⟨11, N, e0, []⟩, ⟨k1, a1, b1, xs1⟩, ⟨k2, a2, b2, xs2⟩]⟩) := Wk.aggW (wk_node 10 0 e0 [⟨11, N, e0, []⟩, ⟨k1, a1, b1, xs1⟩, ⟨k2, a2, b2, xs2⟩] (.cons (wk_leaf _ _ _) (WRows.refl _)))
    cases c1 with
    | false =>
      refine Ok.enter hE Tryz.func4 rfl (by decide +kernel) (by kernel_rfl) rfl rfl (Nat.le_of_ble_eq_true rfl) rfl ?_
      refine ⟨_, CallR.mk1 awake_ok rfl rfl, ?_⟩
      refine ⟨_, CallR.mk1 hX rfl rfl, ?_⟩
      refine ⟨_, CallR.mk1 hY rfl rfl, ?_⟩
      refine ⟨_, CallR.mk1 hO rfl rfl, ?_⟩
      refine ⟨_, ⟨_, rfl, rfl⟩, ?_⟩
      refine ⟨_, ⟨_, rfl, rfl⟩, ?_⟩
      refine ⟨_, ⟨_, rfl, rfl⟩, ?_⟩
      refine ⟨_, CallR.mk1 hP rfl rfl, ?_⟩
      refine ⟨_, ⟨_, rfl, rfl⟩, ?_⟩
      refine ⟨_, CallR.mkW g1 (.cons (wx2 7) .nil) rfl rfl, ?_⟩
      exact Ret.mk _ rfl rfl rfl
    | true => cases c2 with
      | false =>
        refine Ok.enter hE Tryz.func4 rfl (by decide +kernel) (by kernel_rfl) rfl rfl (Nat.le_of_ble_eq_true rfl) rfl ?_
        refine ⟨_, CallR.mk1 awake_ok rfl rfl, ?_⟩
        refine ⟨_, CallR.mk1 hX rfl rfl, ?_⟩
        refine ⟨_, CallR.mk1 hY rfl rfl, ?_⟩
        refine ⟨_, CallR.mk1 hO rfl rfl, ?_⟩
        refine ⟨_, ⟨_, rfl, rfl⟩, ?_⟩
        refine ⟨_, ⟨_, rfl, rfl⟩, ?_⟩
        refine ⟨_, ⟨_, rfl, rfl⟩, ?_⟩
        refine ⟨_, CallR.mk1 hP rfl rfl, ?_⟩
        refine ⟨_, ⟨_, rfl, rfl⟩, ?_⟩
        refine ⟨_, CallR.mkW g1 (.cons (wx2 7) .nil) rfl rfl, ?_⟩
        refine ⟨_, CallR.mkW g2 (.cons (wx2 8) .nil) rfl rfl, ?_⟩
        exact Ret.mk _ rfl rfl rfl
      | true => cases c3 with
        | false =>
          refine Ok.enter hE Tryz.func4 rfl (by decide +kernel) (by kernel_rfl) rfl rfl (Nat.le_of_ble_eq_true rfl) rfl ?_
          refine ⟨_, CallR.mk1 awake_ok rfl rfl, ?_⟩
          refine ⟨_, CallR.mk1 hX rfl rfl, ?_⟩
          refine ⟨_, CallR.mk1 hY rfl rfl, ?_⟩
          refine ⟨_, CallR.mk1 hO rfl rfl, ?_⟩
          refine ⟨_, ⟨_, rfl, rfl⟩, ?_⟩
          refine ⟨_, ⟨_, rfl, rfl⟩, ?_⟩
          refine ⟨_, ⟨_, rfl, rfl⟩, ?_⟩
          refine ⟨_, CallR.mk1 hP rfl rfl, ?_⟩
          refine ⟨_, ⟨_, rfl, rfl⟩, ?_⟩
          refine ⟨_, CallR.mkW g1 (.cons (wx2 7) .nil) rfl rfl, ?_⟩
          refine ⟨_, CallR.mkW g2 (.cons (wx2 8) .nil) rfl rfl, ?_⟩
          refine ⟨_, CallR.mkW g3 (.cons (wxx) .nil) rfl rfl, ?_⟩
          exact Ret.mk _ rfl rfl rfl
        | true => cases c4 with
          | false =>
            refine Ok.enter hE Tryz.func4 rfl (by decide +kernel) (by kernel_rfl) rfl rfl (Nat.le_of_ble_eq_true rfl) rfl ?_
            refine ⟨_, CallR.mk1 awake_ok rfl rfl, ?_⟩
            refine ⟨_, CallR.mk1 hX rfl rfl, ?_⟩
            refine ⟨_, CallR.mk1 hY rfl rfl, ?_⟩
            refine ⟨_, CallR.mk1 hO rfl rfl, ?_⟩
            refine ⟨_, ⟨_, rfl, rfl⟩, ?_⟩
            refine ⟨_, ⟨_, rfl, rfl⟩, ?_⟩
            refine ⟨_, ⟨_, rfl, rfl⟩, ?_⟩
            refine ⟨_, CallR.mk1 hP rfl rfl, ?_⟩
            refine ⟨_, ⟨_, rfl, rfl⟩, ?_⟩
            refine ⟨_, CallR.mkW g1 (.cons (wx2 7) .nil) rfl rfl, ?_⟩
            refine ⟨_, CallR.mkW g2 (.cons (wx2 8) .nil) rfl rfl, ?_⟩
            refine ⟨_, CallR.mkW g3 (.cons (wxx) .nil) rfl rfl, ?_⟩
            refine ⟨_, CallR.mkW g4 (.cons (wif) .nil) rfl rfl, ?_⟩
            exact Ret.mk _ rfl rfl rfl
          | true => exact absurd ⟨rfl, rfl, rfl, rfl⟩ hall
end Go.Proofs.YtlhplknmcdllfaaGreatDoor.Va

/- A row's slice of structs of numbers and texts, as a value of the pure machine. -/
namespace Go.Proofs.YtlhplknmcdllfaaGreatDoor.Pm
open Go Go.RowKit Go.ChangeShapes Go.WideShapes
set_option linter.unusedVariables false
/-- a cell that hangs on no memory -/
def LeafV (v : Value) (c : CV) : Prop := ∀ (w : World) (ok : Nat → Nat → Prop), RepC w ok v c
def IsRowS (m : Nat) (w : World) (a : Option Addr) (len cap : Nat) (xs : List (List CV)) : Prop :=
  (a = none ∧ len = 0 ∧ cap = 0 ∧ xs = []) ∨
  ∃ x, a = some x ∧ len ≤ cap ∧ xs.length = len ∧ (∀ y ∈ xs, y.length = m) ∧ ∀ (i j : Nat) (y : List CV) (c : CV), xs[i]? = some y → y[j]? = some c → ∃ v, w.cell? (x.add (i * m + j)) = some v ∧ LeafV v c
theorem IsRowS.rep {m : Nat} {w : World} {a : Option Addr} {len cap : Nat} {xs : List (List CV)} (hm : 0 < m) (h : IsRowS m w a len cap xs) : Rep w (fun b _ => b < w.heap.size) [] [] (.slice a len cap) (.c (.row xs)) := by
  refine .c _ _ ?_
  rcases h with ⟨rfl, rfl, rfl, rfl⟩ | ⟨x, rfl, hlc, hz, hy, hc⟩
  · exact RepC.nil.nil_row
  · have cell : ∀ i, i < len * m → ∃ v, w.cell? (x.add i) = some v := by
      intro i hi
      have hq : i / m < xs.length := by rw [hz]; exact Nat.div_lt_of_lt_mul (by rw [Nat.mul_comm]; exact hi)
      have hr : i % m < m := Nat.mod_lt _ hm
      have hl := hy _ (List.getElem_mem hq)
      obtain ⟨v, hv, -⟩ := hc (i / m) (i % m) xs[i / m] (xs[i / m][i % m]'(by rw [hl]; exact hr)) (List.getElem?_eq_getElem hq) (List.getElem?_eq_getElem _)
      rw [show i / m * m + i % m = i by rw [Nat.mul_comm]; exact Nat.div_add_mod i m] at hv
      exact ⟨v, hv⟩
    refine .row (some x) len cap _ m (fun i => (w.cell? (x.add i)).getD undef) hz.symm hlc (fun h => by cases h) hm hy (fun i hi => ?_) (fun i y j c hi hj => ?_)
    · obtain ⟨v, hv⟩ := cell i hi
      exact ⟨x, rfl, cell_blk hv, by rw [hv]; rfl⟩
    · obtain ⟨v, hv, hl⟩ := hc i j y c hi hj
      rw [hv]
      exact hl _ _
theorem IsRowS.len {m : Nat} {w : World} {a : Option Addr} {len cap k : Nat} {xs : List (List CV)} (h : IsRowS m w a len cap xs) (hl : len ≤ k) : xs.length ≤ k := by
  rcases h with ⟨_, _, _, rfl⟩ | ⟨x, _, _, h, _⟩
  · exact Nat.zero_le _
  · omega
/-- what of an opened slice of structs, if each element opens -/
theorem open_structs {α : Type} (en : α → List CV) {H : Type} {enc : TypeId × Value → H} {P : Program} {w : World} {base : Nat} {spare : Nat → Bool} {held : Bool} {t e : TypeId} {m fuel : Nat} {a : Option Addr} {len cap : Nat} {x : DataW H × List MemPlace}
    (ht : P.underlying t = some (.slice e)) (hm : P.cellsOf e = m) (hen : ∀ o, (en o).length = m)
    (hopen : ∀ (n : Nat) (cs : List Value) (x : DataW H × List MemPlace), DataW.trod enc P w base spare held n e cs = some x → ∃ o : α, ∀ (j : Nat) (c : CV), (en o)[j]? = some c → ∃ v, cs[j]? = some v ∧ LeafV v c)
    (h : DataW.trod enc P w base spare held fuel t (Value.slice a len cap).cells.toList = some x) : ∃ l : List α, IsRowS m w a len cap (l.map en) := by
  rcases DataW.trod_slice ht h with ⟨h1, -⟩ | ⟨a', len', cap', elems, rest, n, _, h1, -, hb, hl, hmx, hlen, hel, hsp, hns⟩
  · simp [Value.cells] at h1
    obtain ⟨rfl, rfl, rfl⟩ := h1
    exact ⟨[], .inl ⟨rfl, rfl, rfl, rfl⟩⟩
  · simp [Value.cells] at h1
    obtain ⟨rfl, rfl, rfl⟩ := h1
    have key : ∀ k : Nat, k < len → ∃ o : α, ∀ (j : Nat) (c : CV), (en o)[j]? = some c → ∃ v, w.cell? (a'.add (k * m + j)) = some v ∧ LeafV v c := by
      intro k hk
      have hE := hel k hk
      obtain ⟨y, hy⟩ : ∃ y, elems[k]? = some y := ⟨_, List.getElem?_eq_getElem (by omega)⟩
      rw [hy, Option.bind_eq_some_iff] at hE
      obtain ⟨cs', hcs, hyt⟩ := hE
      rw [hm] at hcs
      obtain ⟨-, hcl', hcc⟩ := World.cells?_some hcs
      obtain ⟨o, ho⟩ := hopen _ _ _ hyt
      refine ⟨o, fun j c hj => ?_⟩
      obtain ⟨v, hv, hlf⟩ := ho j c hj
      have hjm : j < m := by rw [← hen o]; exact (List.getElem?_eq_some_iff.1 hj).1
      refine ⟨v, ?_, hlf⟩
      rw [← add_add _ _ _ (.inr trivial)]
      rw [hcc j hjm]; exact hv
    have all : ∀ k : Nat, k ≤ len → ∃ l : List α, l.length = k ∧ ∀ (i : Nat) (o : α), l[i]? = some o → ∀ (j : Nat) (c : CV), (en o)[j]? = some c → ∃ v, w.cell? (a'.add (i * m + j)) = some v ∧ LeafV v c := by
      intro k
      induction k with
      | zero => exact fun _ => ⟨[], rfl, fun i o h => by simp at h⟩
      | succ k ih =>
        intro hk
        obtain ⟨l, hl1, hl2⟩ := ih (by omega)
        obtain ⟨o, ho⟩ := key k (by omega)
        refine ⟨l ++ [o], by simp [hl1], fun i q hq => ?_⟩
        rcases Nat.lt_or_ge i l.length with hi | hi
        · rw [List.getElem?_append_left hi] at hq
          exact hl2 i q hq
        · rw [List.getElem?_append_right hi] at hq
          have hi0 : i - l.length = 0 := by
            rcases Nat.eq_zero_or_pos (i - l.length) with h | h
            · exact h
            · rw [List.getElem?_eq_none (by simp; omega)] at hq; cases hq
          rw [hi0] at hq
          have hq : some o = some q := hq
          injection hq with hq
          subst hq
          rw [show i = k by omega]
          exact ho
    obtain ⟨l, hl1, hl2⟩ := all len (Nat.le_refl _)
    refine ⟨l, .inr ⟨a', rfl, hl, by rw [List.length_map, hl1], fun y hy => ?_, fun i j y c hi hj => ?_⟩⟩
    · obtain ⟨o, -, rfl⟩ := List.mem_map.1 hy
      exact hen o
    · rw [List.getElem?_map] at hi
      cases ho : l[i]? with
      | none => rw [ho] at hi; cases hi
      | some o =>
        rw [ho] at hi
        have hi : some (en o) = some y := hi
        injection hi with hi
        subst hi
        exact hl2 i o ho j c hj
theorem leaf_int (k : IntKind) (n : Int) : LeafV (.int k n) (.int k n) := fun _ _ => .int _ _
theorem leaf_str (s : ByteArray) : LeafV (.string s) (.str s) := fun _ _ => .str _
/-- a slice is no longer than its weight allows -/
theorem sized_len {H : Type} {enc : TypeId × Value → H} {P : Program} {W : World} {base : Nat} {spare : Nat → Bool} {held : Bool} {t e : TypeId} {a : Option Addr} {len cap : Nat} {d : DataW H} {ps : List MemPlace} {ts : List TypeId} {ds : List (DataW H)} {j : Nat}
    (hsz : (DataW.weightsEach P ts ds).all (· ≤ reachBytes) = true) (ht : ts[j]? = some t) (hd : ds[j]? = some d) (hu : P.underlying t = some (.slice e)) {B : Nat} (hB : P.bytesOf e = B)
    (h : DataW.Trod enc P W base spare held t (.slice a len cap) d ps) : len * B ≤ 140737488351232 := by
  obtain ⟨fuel, hf⟩ := h
  rcases DataW.trod_slice hu hf with ⟨h1, -⟩ | ⟨a', len', cap', elems, rest, n, _, h1, hx, hb, hl, hmx, hlen, -⟩
  · simp [Value.cells] at h1
    obtain ⟨rfl, rfl, rfl⟩ := h1
    simp
  · simp [Value.cells] at h1
    obtain ⟨rfl, rfl, rfl⟩ := h1
    obtain ⟨hx, _⟩ := Prod.mk.inj hx
    subst hx
    have z := sized_slice hsz ht hd hu
    rw [hB, List.length_map, List.length_map] at z
    exact Nat.le_trans (Nat.mul_le_mul_right _ (by omega)) z
theorem open_len {H : Type} {enc : TypeId × Value → H} {P : Program} {w : World} {base : Nat} {spare : Nat → Bool} {held : Bool} {t e : TypeId} {fuel : Nat} {a : Option Addr} {len cap : Nat} {x : DataW H × List MemPlace}
    (ht : P.underlying t = some (.slice e)) (h : DataW.trod enc P w base spare held fuel t [.slice a len cap] = some x) : len ≤ 9223372036854775807 := by
  rcases DataW.trod_slice ht h with ⟨h1, -⟩ | ⟨a', len', cap', elems, rest, n, _, h1, -, hb, hl, hmx, -⟩
  · injection h1 with h1 _
    injection h1 with _ h1 _
    omega
  · injection h1 with h1 _
    injection h1 with _ h1 h2
    subst h1; subst h2
    unfold maxLen at hmx
    omega
end Go.Proofs.YtlhplknmcdllfaaGreatDoor.Pm

/- Words of layer 7's last text that the pruner took away at one seat. -/
namespace Go.Proofs.YtlhplknmcdllfaaGreatDoor.Pm
open Go Go.RowKit Go.Proofs.YtlhplknmcdllfaaGreatDoor.Pl
open Go.Proofs.YtlhplknmcdllfaaGreatDoor.Q (rngE rngA txtE txtA sameE sameA formT wordL moreL sepA)
set_option linter.unusedVariables false
set_option maxHeartbeats 1000000
theorem tame_node {k n : Int} {nm : ByteArray} {l : List Ex} (hn : I64 n) (hl : l.length < 1000) (h : ∀ x ∈ l, rngE x = true) (hs : sizeL l ≤ 999999) : Tame ⟨k, n, nm, l⟩ := ⟨rng_node hn hl h, by rw [size]; omega⟩
theorem cutN_tame {x : Ex} (h : rngE x = true) : ∀ j, rngE (cutN x j) = true ∧ size (cutN x j) = size x + j
  | 0 => ⟨h, by rw [cutN]; simp⟩
  | j + 1 => by
    obtain ⟨a, b⟩ := cutN_tame h j
    rw [cutN]
    exact ⟨rng_node ⟨by decide, by decide⟩ (by simp) (by simp [a]), by rw [size, sizeL, sizeL]; omega⟩
theorem minN_tame {x : Ex} (h : rngE x = true) : ∀ j, rngE (minN x j) = true ∧ size (minN x j) + 1 = (size x + 1) * 2 ^ j
  | 0 => ⟨h, by rw [minN]; simp⟩
  | j + 1 => by
    obtain ⟨a, b⟩ := minN_tame h j
    rw [minN]
    exact ⟨rng_node ⟨by decide, by decide⟩ (by simp) (by simp [a]), by rw [size, sizeL, sizeL, sizeL, Int.pow_succ, ← Int.mul_assoc]; omega⟩
theorem wild_tame (raw : List Int) (h : ∀ a ∈ raw, I64 a) (what by_ : Int) (hb : I64 by_) : Tame (wildF raw what by_) := by
  have hx := strat_small raw h
  unfold wildF
  obtain ⟨x, ex⟩ : ∃ x, stratF raw = x := ⟨_, rfl⟩
  rw [ex] at hx ⊢
  dsimp only
  have hr := hx.rng
  have hs := hx.size
  have r16 := pk_rng (c := by_) (n := 16) (by decide)
  have r36 := pk_rng (c := by_) (n := 36) (by decide)
  have r7 := pk_rng (c := by_) (n := 7) (by decide)
  have z0 : I64 0 := ⟨by decide, by decide⟩
  have s2 : sizeL [x, x] ≤ 999999 := by rw [sizeL, sizeL, sizeL]; omega
  have r2 : ∀ y ∈ [x, x], rngE y = true := by simp [hr]
  split
  · exact tame_node z0 (by simp) r2 s2
  split
  · exact tame_node hb (by simp) r2 s2
  split
  · exact tame_node z0 (by simp) r2 s2
  split
  · exact tame_node z0 (by simp) (by simp [hr]) (by rw [sizeL, sizeL]; omega)
  split
  · have ez : size ⟨11, 0, e0, []⟩ = 1 := by rw [size, sizeL]; rfl
    refine tame_node z0 (by simp) ?_ (by rw [sizeL, sizeL, sizeL, ez]; omega)
    intro y hy
    simp only [List.mem_cons, List.not_mem_nil, or_false] at hy
    rcases hy with rfl | rfl
    · exact hr
    · exact rng_node z0 (by simp) (fun y hy => by cases hy)
  split
  · exact tame_node z0 (by simp) (by simp [hr]) (by rw [sizeL, sizeL, sizeL, sizeL]; omega)
  split
  · exact tame_node z0 (by simp) (fun y hy => by cases hy) (by rw [sizeL]; decide)
  split
  · have r4 := pk_rng (c := what) (n := 4) (by decide)
    have hm : argsOf (3 + pk what 4) = 0 ∨ argsOf (3 + pk what 4) = 1 := by
      have : 3 + pk what 4 = 3 ∨ 3 + pk what 4 = 4 ∨ 3 + pk what 4 = 5 ∨ 3 + pk what 4 = 6 := by omega
      rcases this with h | h | h | h <;> rw [h] <;> decide
    rcases hm with hm | hm
    · rw [hm]
      exact tame_node hb (by simp) (fun y hy => by cases hy) (by show sizeL [] ≤ _; rw [sizeL]; decide)
    · rw [hm]
      exact tame_node hb (by simp) (by intro y hy; simp at hy; rw [hy]; exact hr) (by show sizeL [x] ≤ _; rw [sizeL, sizeL]; omega)
  split
  · obtain ⟨a, b⟩ := cutN_tame hr (pk by_ 36).toNat
    exact ⟨a, by rw [b]; omega⟩
  · obtain ⟨a, b⟩ := minN_tame hr (pk by_ 7).toNat
    refine ⟨a, ?_⟩
    obtain ⟨m, hm⟩ : ∃ m : Nat, (pk by_ 7).toNat = m := ⟨_, rfl⟩
    rw [hm] at b ⊢
    have hm7 : m ≤ 6 := by omega
    have : ∀ m : Nat, m ≤ 6 → (2 : Int) ^ m ≤ 64 := by decide
    have h2 := this m hm7
    have h3 : (size x + 1) * 2 ^ m ≤ (size x + 1) * 64 := Int.mul_le_mul_of_nonneg_left h2 (by have := size_pos x; omega)
    omega
end Go.Proofs.YtlhplknmcdllfaaGreatDoor.Pm

/- The statement ValueTells. -/
namespace Go.Proofs.YtlhplknmcdllfaaGreatDoor.Va
open Go Go.RowKit Go.ChangeShapes Go.WideShapes Go.Proofs.YtlhplknmcdllfaaGreatDoor.Pm Go.Proofs.YtlhplknmcdllfaaGreatDoor.Pl
set_option linter.unusedVariables false
set_option maxHeartbeats 4000000
set_option maxRecDepth 8000
theorem cOf_ : Tryz.prog.cellsOf 44 = 2 := by kernel_rfl
theorem cSt_ : Tryz.prog.cellsOf 9 = 1 := by kernel_rfl
theorem cIn_ : Tryz.prog.cellsOf 3 = 1 := by kernel_rfl
theorem list2 {α : Type} {l : List α} (h : l.length = 2) : ∃ a b, l = [a, b] := by
  match l, h with
  | [a, b], _ => exact ⟨a, b, rfl⟩
theorem open_offer {H : Type} {enc : TypeId × Value → H} {w : World} {base : Nat} {spare : Nat → Bool} {held : Bool} (n : Nat) (cs : List Value) (x : DataW H × List MemPlace) (h : DataW.trod enc Tryz.prog w base spare held n 44 cs = some x) :
    ∃ o : Of, ∀ (j : Nat) (c : CV), (cO o)[j]? = some c → ∃ v, cs[j]? = some v ∧ LeafV v c := by
  obtain ⟨xs, n, -, -, hl, hlen, hat⟩ := DataW.trod_struct Tryz.underlying44 h
  rw [cOf_] at hl
  replace hlen : xs.length = 2 := hlen
  obtain ⟨a0, a1, rfl⟩ := list2 hl
  have h0 : DataW.trod enc Tryz.prog w base spare held n 9 (([a0, a1].drop 0).take (Tryz.prog.cellsOf 9)) = xs[0]? := hat 0 _ rfl
  have h1 : DataW.trod enc Tryz.prog w base spare held n 3 (([a0, a1].drop 1).take (Tryz.prog.cellsOf 3)) = xs[1]? := hat 1 _ rfl
  rw [cSt_] at h0
  rw [cIn_] at h1
  rw [List.getElem?_eq_getElem (by omega)] at h0 h1
  obtain ⟨s, hs, -⟩ := DataW.trod_string Tryz.underlying9 h0
  obtain ⟨z, hz, -⟩ := DataW.trod_int Tryz.underlying3 h1
  replace hs : [a0] = [.string s] := hs
  replace hz : [a1] = [.int .i64 z] := hz
  injection hs with hs
  injection hz with hz
  subst hs; subst hz
  refine ⟨⟨s, z⟩, fun j c hj => ?_⟩
  match j, hj with
  | 0, hj =>
    have hj : some (CV.str s) = some c := hj
    injection hj with hj; subst hj
    exact ⟨_, rfl, leaf_str s⟩
  | 1, hj =>
    have hj : some (CV.int .i64 z) = some c := hj
    injection hj with hj; subst hj
    exact ⟨_, rfl, leaf_int _ z⟩
  | j + 2, hj => cases hj
theorem open_offers {H : Type} {enc : TypeId × Value → H} {w : World} {base : Nat} {spare : Nat → Bool} {held : Bool} {fuel : Nat} {a : Option Addr} {len cap : Nat} {x : DataW H × List MemPlace}
    (h : DataW.trod enc Tryz.prog w base spare held fuel 24 (Value.slice a len cap).cells.toList = some x) : ∃ l : List Of, IsRowS 2 w a len cap (rowO l) :=
  open_structs cO Tryz.underlying24 cOf_ (fun _ => rfl) open_offer h
theorem enc_at {l : List Ex} {j : Nat} {y : Ex} (hy : l[j]? = some y) : (encL l)[j]? = some (cellsE y) := enc_get hy
theorem ValueTells_ok (raw : List Int) (h1 : ∀ a ∈ raw, I64 a) (l1 : raw.length ≤ 17592186043904) (what : Int) (hw : I64 what) (by_ : Int) (hb : I64 by_) (z : List (List Int)) (hz : ∀ y ∈ z, y.length = 2 ∧ ∀ n ∈ y, I64 n) (hl : z.length ≤ 9223372036854775807) (la : List Of) (hla : la.length ≤ 17592186043904) :
    Ok E 3 [] [.c (.row (encN raw)), pI what, pI by_, .c (.row (encA z)), .c (.row (rowO la))] (pB true) [] := by
  have hO := Offers_ok z hz hl
  have hol := off_len' z
  obtain ⟨lo, hlo⟩ : ∃ l, offersF z = l := ⟨_, rfl⟩
  rw [hlo] at hO hol
  have hX := strat_ok raw h1 (by omega)
  have hW := Wild_ok raw h1 (by omega) what by_ hw hb
  have t0 : Tame (stratF raw) := ⟨(strat_small raw h1).rng, by have := (strat_small raw h1).size; omega⟩
  have t1 := wild_tame raw h1 what by_ hb
  obtain ⟨x0, e0'⟩ : ∃ x, stratF raw = x := ⟨_, rfl⟩
  obtain ⟨x1, e1⟩ : ∃ x, wildF raw what by_ = x := ⟨_, rfl⟩
  rw [e0'] at hX t0
  rw [e1] at hW t1
  have V1 := vRight_ok la hla
  have V2 := rRight9_ok la hla
  obtain ⟨ls, hls⟩ : ∃ ls, [lo, la] = ls := ⟨_, rfl⟩
  have hls2 : ls.length = 2 := by rw [← hls]; rfl
  have hlsl : ∀ l ∈ ls, l.length ≤ 17592186043904 := by
    rw [← hls]
    intro l hl
    simp only [List.mem_cons, List.not_mem_nil, or_false] at hl
    rcases hl with rfl | rfl
    · omega
    · exact hla
  have hrl : [[CV.row (rowO lo)], [CV.row (rowO la)]] = ls.map fun l => [CV.row (rowO l)] := by rw [← hls]; rfl
  obtain ⟨xs, hxs⟩ : ∃ xs, [x0, x1] = xs := ⟨_, rfl⟩
  have hxs2 : xs.length = 2 := by rw [← hxs]; rfl
  have hxst : ∀ x ∈ xs, Tame x := by
    rw [← hxs]
    intro x hx
    simp only [List.mem_cons, List.not_mem_nil, or_false] at hx
    rcases hx with rfl | rfl
    · exact t0
    · exact t1
  have hrx : [cellsE x0, cellsE x1] = xs.map cellsE := by rw [← hxs]; rfl
  have hbb : ∀ b : Bool, (b == b) = true := fun b => by cases b <;> rfl
  refine Ok.enter hE Tryz.func3 rfl (by decide +kernel) (by kernel_rfl) rfl rfl (Nat.le_of_ble_eq_true rfl) rfl ?_
  refine ⟨_, CallR.mk1 awake_ok rfl rfl, ?_⟩
  refine ⟨_, CallR.mk1 V1 rfl rfl, ?_⟩
  refine ⟨_, CallR.mk1 V2 rfl rfl, ?_⟩
  refine ⟨_, Lx.neBN (hbb _), ?_⟩
  refine ⟨_, CallR.mk1 hO rfl rfl, ?_⟩
  refine ⟨_, ⟨_, rfl, rfl⟩, ?_⟩
  refine Loop.cut (α := Nat) (fun i => i ≤ 2) (fun i => [(0, .c (.row (encN raw))), (1, pI what), (2, pI by_), (11, pB true), (36, .c (.row (ls.map fun l => [CV.row (rowO l)]))), (37, pI 2), (38, pI i)]) (fun _ => []) (fun _ => []) (fun i => 2 - i) 0 0 (fun _ => rfl) (fun _ => rfl) (fun _ => rfl) (Nat.zero_le _) ⟨⟨rfl, rfl, rfl, rfl, congrArg (fun r : List (List CV) => PV.c (.row r)) hrl, rfl, rfl, trivial⟩, rfl, rfl⟩ ?_
  intro i f hi
  by_cases hil : i < 2
  rotate_left
  · refine ⟨_, ltN (by omega), ?_⟩
    exact Ret.mk _ rfl rfl rfl
  obtain ⟨l, hl'⟩ : ∃ l, ls[i]? = some l := ⟨_, List.getElem?_eq_getElem (by omega)⟩
  have hll := hlsl l (List.mem_of_getElem? hl')
  have hlx : (ls.map fun l => [CV.row (rowO l)])[i]? = some [CV.row (rowO l)] := by rw [List.getElem?_map, hl']; rfl
  refine ⟨_, ltT (by omega), ?_⟩
  refine ⟨_, idxV (j := i) hlx rfl rfl rfl rfl, ?_⟩
  refine ⟨_, CallR.mk1 hX rfl rfl, ?_⟩
  refine ⟨_, CallR.mk1 hW rfl rfl, ?_⟩
  refine ⟨_, ⟨_, rfl, rfl⟩, ?_⟩
  refine Loop.cut (α := Nat) (fun j => j ≤ 2) (fun j => [(0, .c (.row (encN raw))), (1, pI what), (2, pI by_), (11, pB true), (36, .c (.row (ls.map fun l => [CV.row (rowO l)]))), (37, pI 2), (38, pI i), (13, .c (.row (rowO l))), (48, .c (.row (xs.map cellsE))), (49, pI 2), (50, pI j)]) (fun _ => []) (fun _ => []) (fun j => 2 - j) 0 0 (fun _ => rfl) (fun _ => rfl) (fun _ => rfl) (Nat.zero_le _) ⟨⟨rfl, rfl, rfl, rfl, rfl, rfl, rfl, rfl, congrArg (fun r : List (List CV) => PV.c (.row r)) hrx, rfl, rfl, trivial⟩, rfl, rfl⟩ ?_
  intro j f2 hj
  by_cases hjl : j < 2
  rotate_left
  · refine ⟨_, ltN (by omega), ?_⟩
    refine ⟨_, addV (z := ((i + 1 : Nat) : Int)) (by push_cast; rfl) (by omega) (by omega), ?_⟩
    exact ⟨i + 1, hil, by show 2 - (i + 1) < 2 - i; omega, ⟨rfl, rfl, rfl, rfl, rfl, rfl, rfl, trivial⟩, ⟨[], rfl⟩, rfl⟩
  obtain ⟨x, hx⟩ : ∃ x, xs[j]? = some x := ⟨_, List.getElem?_eq_getElem (by omega)⟩
  have tx := hxst x (List.mem_of_getElem? hx)
  have hsx := tx.size
  have hxx : (xs.map cellsE)[j]? = some (cellsE x) := by rw [List.getElem?_map, hx]; rfl
  have A1 := Eval_ok x l tx.rng (by omega) hll
  have A2 := rEval9_ok x l tx.rng (by omega) hll
  obtain ⟨r, hr⟩ : ∃ r, tellA x l = r := ⟨_, rfl⟩
  rw [hr] at A1 A2
  have hxr := tx.rng
  obtain ⟨k, n, nm, ar⟩ := x
  have hargs := (rng_len hxr).2
  have hsz : Pm.size ⟨k, n, nm, ar⟩ = 1 + Pm.sizeL ar := by rw [Pm.size]
  have hal : (ar.length : Int) ≤ Pm.sizeL ar := sizeL_len ar
  have hrow : (encL ar).length = ar.length := enc_len ar
  refine ⟨_, ltT (by omega), ?_⟩
  refine ⟨_, idxV (j := j) hxx rfl rfl rfl rfl, ?_⟩
  refine ⟨_, CallR.mk1 A1 rfl rfl, ?_⟩
  refine ⟨_, CallR.mk1 A2 rfl rfl, ?_⟩
  refine ⟨_, neN rfl, ?_⟩
  refine ⟨_, Lx.neBN (hbb _), ?_⟩
  refine ⟨_, neN rfl, ?_⟩
  refine Loop.run (α := Nat) (fun q => q ≤ ar.length) (fun q => [(0, .c (.row (encN raw))), (1, pI what), (2, pI by_), (11, pB true), (36, .c (.row (ls.map fun l => [CV.row (rowO l)]))), (37, pI 2), (38, pI i), (13, .c (.row (rowO l))), (48, .c (.row (xs.map cellsE))), (49, pI 2), (50, pI j), (15, .ptr 0 0), (22, pI q)]) (fun _ => [[pI k, pI n, pS nm, .c (.row (encL ar))]]) (fun _ => []) (fun q => ar.length - q) 0 (Nat.zero_le _) ⟨⟨rfl, rfl, rfl, rfl, rfl, rfl, rfl, rfl, rfl, rfl, rfl, rfl, rfl, trivial⟩, rfl, rfl⟩ ?_
  intro q f3 hq
  have hq : q ≤ ar.length := hq
  by_cases hql : q < ar.length
  · obtain ⟨y, hy⟩ : ∃ y, ar[q]? = some y := ⟨_, List.getElem?_eq_getElem hql⟩
    have hym := List.mem_of_getElem? hy
    have ry := Q.rngA_mem ar hargs y hym
    have sy := (sizeL_mem ar y hym).1
    have rif : Q.rngE (ifE y) = true := rng_node ⟨by decide, by decide⟩ (by simp) (by simp [ry]; decide)
    have sif : Pm.size (ifE y) = 1 + (Pm.size y + ((1 + 0) + ((1 + 0) + 0))) := by unfold ifE lowE; rw [Pm.size, Pm.sizeL, Pm.sizeL, Pm.sizeL, Pm.sizeL, Pm.size, Pm.sizeL]
    have C1 := Cond_ok y l rif (by rw [sif]; omega) hll
    have C2 := rCond9_ok y l rif (by rw [sif]; omega) hll
    obtain ⟨c, hc⟩ : ∃ c, tellC y l = c := ⟨_, rfl⟩
    rw [hc] at C1 C2
    refine ⟨_, ltT (by rw [hrow]; omega), ?_⟩
    refine ⟨_, idxV (j := q) (enc_get hy) rfl rfl rfl rfl, ?_⟩
    refine ⟨_, CallR.mk1 C1 rfl rfl, ?_⟩
    refine ⟨_, idxV (j := q) (enc_get hy) rfl rfl rfl rfl, ?_⟩
    refine ⟨_, CallR.mk1 C2 rfl rfl, ?_⟩
    refine ⟨_, Lx.neBN (hbb _), ?_⟩
    refine ⟨_, neN rfl, ?_⟩
    refine ⟨_, addV (z := ((q + 1 : Nat) : Int)) (by push_cast; rfl) (by omega) (by omega), ?_⟩
    exact ⟨q + 1, by show q + 1 ≤ ar.length; omega, by show ar.length - (q + 1) < ar.length - q; omega, ⟨rfl, rfl, rfl, rfl, rfl, rfl, rfl, rfl, rfl, rfl, rfl, rfl, rfl, trivial⟩, rfl, rfl⟩
  · refine ⟨_, ltN (by rw [hrow]; omega), ?_⟩
    refine ⟨_, addV (z := ((j + 1 : Nat) : Int)) (by push_cast; rfl) (by omega) (by omega), ?_⟩
    exact ⟨j + 1, hjl, by show 2 - (j + 1) < 2 - j; omega, ⟨rfl, rfl, rfl, rfl, rfl, rfl, rfl, rfl, rfl, rfl, rfl, trivial⟩, ⟨_, rfl⟩, rfl⟩
end Go.Proofs.YtlhplknmcdllfaaGreatDoor.Va
