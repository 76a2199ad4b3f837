/- The statement ValueLowest. -/
import Derived.Test.YtlhplknmcdllfaaDoorVaT
namespace Go.Proofs.YtlhplknmcdllfaaDoor.Va
open Go Go.RowKit Go.Proofs.YtlhplknmcdllfaaDoor.Pm Go.Proofs.YtlhplknmcdllfaaDoor.Pl
set_option linter.unusedVariables false
set_option maxHeartbeats 4000000
set_option maxRecDepth 8000
theorem sliceO {E : Env} {t e sz bb : Nat} {zz : List CV} {ei : TI} {xs : List (List CV)} {lo hi : Option PV} (l h : Nat) (h1 : E.T t = some ⟨.slice e, sz, zz, bb⟩) (h2 : E.T e = some ei) (hx : ∀ x ∈ xs, x.length = ei.size) (hlo : bndF 0 lo = some (l : Int)) (hhi : bndF xs.length hi = some (h : Int)) (hr : l ≤ h ∧ h ≤ xs.length) :
    SliceR E t (.c (.row xs)) lo hi (.c (.row ((xs.take h).drop l))) where
  h := by
    unfold sliceF
    rw [h1]
    dsimp only
    rw [h2]
    dsimp only [toRow]
    rw [hlo, hhi]
    dsimp only
    rw [show decide ((0 : Int) ≤ l ∧ (l : Int) ≤ h ∧ (h : Int) ≤ xs.length) = true by simp; omega]
    dsimp only
    rw [decide_eq_true hx]
    dsimp only
    rw [Int.toNat_natCast, Int.toNat_natCast]
theorem eqBT' {E : Env} {c d : Bool} {t sz bb : Nat} {zz : List CV} (h : (c == d) = true) (hT : E.T t = some ⟨.bool, sz, zz, bb⟩ := by rfl) : BinR E t .eql (pB c) (pB d) (pB true) := .of (by
  rw [hT]; cases c <;> cases d <;> simp at h <;> rfl)
def secE : Ex := ⟨2, 0, e0, []⟩
theorem sec_right : isRight secE = true := by decide +kernel
theorem sec_facts : Q.rngE secE = true ∧ size secE = 1 := by decide +kernel
theorem sec_tell {l : List Of} (hl : rightO l = true) : tellA secE l = rankF (prs l) 1 := by
  rw [tell_right sec_right hl]
  unfold secE
  rw [ev2]
theorem prs_len (l : List Of) : (prs l).length = l.length := by unfold prs; rw [srt_len, List.length_map]
theorem rowO_app (l m : List Of) : rowO (l ++ m) = rowO l ++ rowO m := by unfold rowO; rw [List.map_append]
theorem rowO_take (l : List Of) (n : Nat) : (rowO l).take n = rowO (l.take n) := by unfold rowO; rw [List.map_take]
theorem rowO_drop (l : List Of) (n : Nat) : (rowO l).drop n = rowO (l.drop n) := by unfold rowO; rw [List.map_drop]
theorem cut_out {l : List Of} {o : Of} {i : Nat} (h : l[i]? = some o) : l = l.take i ++ o :: l.drop (i + 1) := by
  have := List.drop_eq_getElem_cons (List.getElem?_eq_some_iff.1 h).1
  rw [(List.getElem?_eq_some_iff.1 h).2] at this
  rw [← this, List.take_append_drop]
theorem ValueLowest_ok (z : List (List Int)) (hz : ∀ y ∈ z, y.length = 2 ∧ ∀ n ∈ y, I64 n) (hl : z.length ≤ 9223372036854775807) : Ok E 4 [] [.c (.row (encA z))] (pB true) [] := by
  have hO := Offers_ok z hz hl
  have hr := off_right z
  have hol := off_len' z
  obtain ⟨l, hlo⟩ : ∃ l, offersF z = l := ⟨_, rfl⟩
  rw [hlo] at hO hr hol
  have hel := rowO_len l
  have h1 := Eval_ok lowE l (s_facts.2.2) (by decide) (by omega)
  have h2 := Eval_ok secE l sec_facts.1 (by rw [sec_facts.2]; decide) (by omega)
  rw [low_tell hr] at h1
  rw [sec_tell hr] at h2
  have hA := awake_ok
  have wl := Wk.aggW (wk_leaf 1 0 e0)
  have ws := Wk.aggW (wk_leaf 2 0 e0)
  have hPl := prs_len l
  cases hp : (prs l)[0]? with
  | none =>
    have hl0 : l.length = 0 := by
      have := List.getElem?_eq_none_iff.1 hp; omega
    have hp1 : (prs l)[1]? = none := List.getElem?_eq_none (by omega)
    have e1 : rankF (prs l) 0 = .no := by unfold rankF; rw [hp]
    have e2 : rankF (prs l) 1 = .no := by unfold rankF; rw [hp1]
    rw [e1] at h1
    rw [e2] at h2
    refine Ok.enter hE Tryd.func4 rfl (by decide +kernel) (by kernel_rfl) rfl rfl (Nat.le_of_ble_eq_true rfl) rfl ?_
    refine ⟨_, CallR.mk1 hA rfl rfl, ?_⟩
    refine ⟨_, CallR.mk1 hO rfl rfl, ?_⟩
    refine ⟨_, CallR.mkW h1 (.cons wl (.cons (Wk.refl _) .nil)) rfl rfl, ?_⟩
    refine ⟨_, CallR.mkW h2 (.cons ws (.cons (Wk.refl _) .nil)) rfl rfl, ?_⟩
    refine ⟨_, neN rfl, ?_⟩
    refine ⟨_, neN rfl, ?_⟩
    refine ⟨_, gtN (by rw [hel]; omega), ?_⟩
    refine ⟨_, Lx.neBN rfl, ?_⟩
    refine ⟨_, gtN (by rw [hel]; omega), ?_⟩
    refine ⟨_, Lx.neBN rfl, ?_⟩
    refine Loop.run (α := Nat) (fun i => i = 0) (fun i => [(4, .c (.row (rowO l))), (11, pI (-1)), (12, pI i)]) (fun _ => []) (fun _ => []) (fun i => 0) 0 rfl ⟨⟨rfl, rfl, rfl, trivial⟩, rfl, rfl⟩ ?_
    rintro i f rfl
    refine ⟨_, ltN (by rw [hel]; omega), ?_⟩
    refine ⟨_, ltT (by decide), ?_⟩
    refine ⟨_, eqT (by rw [hel]; omega), ?_⟩
    exact Ret.mk _ rfl rfl rfl
  | some a =>
    obtain ⟨hall, hmem⟩ := low_all (l := l.map Of.p) hp
    have hl1 : 0 < l.length := by
      have := (List.getElem?_eq_some_iff.1 hp).1; omega
    have e1 : rankF (prs l) 0 = .am a := by unfold rankF; rw [hp]
    rw [e1] at h1
    obtain ⟨r, hrr⟩ : ∃ r, rankF (prs l) 1 = r := ⟨_, rfl⟩
    rw [hrr] at h2
    have hre : amE r = 0 := by rw [← hrr]; unfold rankF; cases (prs l)[1]? <;> rfl
    have hrb : amB r = decide (1 < l.length) := by
      rw [← hrr]; unfold rankF
      cases hq : (prs l)[1]? with
      | none => have := List.getElem?_eq_none_iff.1 hq; rw [decide_eq_false (by omega)]; rfl
      | some x => have := (List.getElem?_eq_some_iff.1 hq).1; rw [decide_eq_true (by omega)]; rfl
    have hO1 : Ok E 11 [] [pE secE, .c (.row (rowO l))] (.tup [pI (amN r), pB (decide (1 < l.length)), pI 0]) [] := by
      rw [show tupA r = .tup [pI (amN r), pB (decide (1 < l.length)), pI 0] by unfold tupA; rw [hre, hrb]] at h2
      exact h2
    have hpz : ∀ i : Nat, i < l.length → ∃ o, l[i]? = some o ∧ (rowO l)[i]? = some [.str o.s, .int .i64 o.p] ∧ a ≤ o.p := fun i hi => by
      obtain ⟨o, ho⟩ : ∃ o, l[i]? = some o := ⟨_, List.getElem?_eq_getElem hi⟩
      exact ⟨o, ho, rowO_get ho, hall _ (List.mem_map.2 ⟨o, List.mem_of_getElem? ho, rfl⟩)⟩
    have hB : ∀ b : Bool, decide (1 < l.length) = b → Ok E 4 [] [.c (.row (encA z))] (pB true) [] := by
      intro b hb
      rw [hb] at hO1
      have hgt : BinR E 3 .gtr (.c (.int .i64 ((rowO l).length : Nat))) (.c (.int .i64 1)) (.c (.bool b)) := gtV (by rw [hel, ← hb]; exact decide_eq_decide.2 (by omega))
      have hnb : BinR E 4 .neq (pB b) (pB b) (pB false) := Lx.neBN (by cases b <;> rfl)
      have heb : BinR E 4 .eql (pB b) (pB b) (pB true) := eqBT' (by cases b <;> rfl)
      refine Ok.enter hE Tryd.func4 rfl (by decide +kernel) (by kernel_rfl) rfl rfl (Nat.le_of_ble_eq_true rfl) rfl ?_
      refine ⟨_, CallR.mk1 hA rfl rfl, ?_⟩
      refine ⟨_, CallR.mk1 hO rfl rfl, ?_⟩
      refine ⟨_, CallR.mkW h1 (.cons wl (.cons (Wk.refl _) .nil)) rfl rfl, ?_⟩
      refine ⟨_, CallR.mkW hO1 (.cons ws (.cons (Wk.refl _) .nil)) rfl rfl, ?_⟩
      refine ⟨_, neN rfl, ?_⟩
      refine ⟨_, neN rfl, ?_⟩
      refine ⟨_, gtT (by rw [hel]; omega), ?_⟩
      refine ⟨_, Lx.neBN rfl, ?_⟩
      refine ⟨_, hgt, ?_⟩
      refine ⟨_, hnb, ?_⟩
      refine Loop.run (α := Nat × Int) (fun x => x.1 ≤ l.length ∧ ((x.2 = -1 ∧ ∀ j, j < x.1 → ∀ o, l[j]? = some o → o.p ≠ a) ∨ ∃ j : Nat, j < x.1 ∧ x.2 = (j : Int) ∧ ∃ o, l[j]? = some o ∧ o.p = a)) (fun x => [(4, .c (.row (rowO l))), (5, pI a), (8, pI (amN r)), (9, pB b), (11, pI x.2), (12, pI x.1)]) (fun _ => []) (fun _ => []) (fun x => l.length - x.1) (0, -1) ⟨Nat.zero_le _, .inl ⟨rfl, fun j hj => by omega⟩⟩ ⟨⟨rfl, rfl, rfl, rfl, rfl, rfl, trivial⟩, rfl, rfl⟩ ?_
      rintro ⟨i, t⟩ f ⟨hi, hat⟩
      dsimp only at hi hat
      by_cases hlt : i < l.length
      · obtain ⟨o, ho, hg, hge⟩ := hpz i hlt
        have hnext : BinR E 3 .add (.c (.int .i64 (i : Int))) (.c (.int .i64 1)) (.c (.int .i64 ((i + 1 : Nat) : Int))) := addV (by push_cast; rfl) (by omega) (by omega)
        by_cases heq : o.p = a
        · rcases hat with ⟨rfl, hno⟩ | ⟨j, hj, rfl, hoj⟩
          · refine ⟨_, ltT (by rw [hel]; omega), ?_⟩
            refine ⟨_, idxV (j := i) hg rfl rfl rfl rfl, ?_⟩
            refine ⟨_, ltN (by omega), ?_⟩
            refine ⟨_, idxV (j := i) hg rfl rfl rfl rfl, ?_⟩
            refine ⟨_, eqT heq, ?_⟩
            refine ⟨_, ltT (show (-1 : Int) < 0 by decide), ?_⟩
            refine ⟨_, hnext, ?_⟩
            exact ⟨(i + 1, (i : Int)), ⟨by omega, .inr ⟨i, Nat.lt_succ_self i, rfl, o, ho, heq⟩⟩, by show l.length - (i + 1) < l.length - i; omega, ⟨rfl, rfl, rfl, rfl, rfl, rfl, trivial⟩, rfl, rfl⟩
          · refine ⟨_, ltT (by rw [hel]; omega), ?_⟩
            refine ⟨_, idxV (j := i) hg rfl rfl rfl rfl, ?_⟩
            refine ⟨_, ltN (by omega), ?_⟩
            refine ⟨_, idxV (j := i) hg rfl rfl rfl rfl, ?_⟩
            refine ⟨_, eqT heq, ?_⟩
            refine ⟨_, ltN (by omega), ?_⟩
            refine ⟨_, hnext, ?_⟩
            exact ⟨(i + 1, (j : Int)), ⟨by omega, .inr ⟨j, by omega, rfl, hoj⟩⟩, by show l.length - (i + 1) < l.length - i; omega, ⟨rfl, rfl, rfl, rfl, rfl, rfl, trivial⟩, rfl, rfl⟩
        · refine ⟨_, ltT (by rw [hel]; omega), ?_⟩
          refine ⟨_, idxV (j := i) hg rfl rfl rfl rfl, ?_⟩
          refine ⟨_, ltN (by omega), ?_⟩
          refine ⟨_, idxV (j := i) hg rfl rfl rfl rfl, ?_⟩
          refine ⟨_, eqN heq, ?_⟩
          refine ⟨_, hnext, ?_⟩
          refine ⟨(i + 1, t), ⟨by omega, ?_⟩, by show l.length - (i + 1) < l.length - i; omega, ⟨rfl, rfl, rfl, rfl, rfl, rfl, trivial⟩, rfl, rfl⟩
          rcases hat with ⟨e, hno⟩ | ⟨j, hj, e, hoj⟩
          · refine .inl ⟨e, fun j hj q hq => ?_⟩
            have hj : j < i + 1 := hj
            by_cases hji : j < i
            · exact hno j hji q hq
            · have : j = i := by omega
              subst this
              rw [ho] at hq
              injection hq with hq
              rw [← hq]; exact heq
          · exact .inr ⟨j, Nat.lt_succ_of_lt hj, e, hoj⟩
      · have e : i = l.length := by omega
        subst e
        rcases hat with ⟨rfl, hno⟩ | ⟨j, hj, rfl, o, ho, hpa⟩
        · exfalso
          obtain ⟨o, hom, hoa⟩ := List.mem_map.1 hmem
          obtain ⟨j, hj⟩ := List.mem_iff_getElem?.1 hom
          exact hno j (List.getElem?_eq_some_iff.1 hj).1 o hj hoa
        · have hcut := cut_out ho
          obtain ⟨A, hAe⟩ : ∃ A, l.take j = A := ⟨_, rfl⟩
          obtain ⟨C, hCe⟩ : ∃ C, l.drop (j + 1) = C := ⟨_, rfl⟩
          rw [hAe, hCe] at hcut
          have hsub : rightO (A ++ C) = true := right_sub hr (by
            rw [hcut]
            exact List.Sublist.append (List.Sublist.refl _) (List.sublist_cons_self _ _))
          have hlen : A.length + C.length + 1 = l.length := by rw [hcut]; simp; omega
          have h3 := Eval_ok lowE (A ++ C) (s_facts.2.2) (by decide) (by rw [List.length_append]; omega)
          have hrest : rankF (prs (A ++ C)) 0 = r := by
            rw [← hrr]
            unfold prs at hp ⊢
            have hm : l.map Of.p = A.map Of.p ++ a :: C.map Of.p := by rw [hcut, List.map_append, List.map_cons, hpa]
            rw [hm] at hp ⊢
            rw [List.map_append]
            cases hq : srt (A.map Of.p ++ a :: C.map Of.p) with
            | nil => rw [hq] at hp; cases hp
            | cons x P =>
              rw [hq] at hp
              have hp : some x = some a := hp
              injection hp with hp
              rw [hp] at hq
              rw [rest_tail hq]
              rfl
          rw [low_tell hsub, hrest, show tupA r = .tup [pI (amN r), pB b, pI 0] by unfold tupA; rw [hre, hrb, hb]] at h3
          have x1 : ((rowO l).take j).drop 0 = rowO A := by rw [List.drop_zero, rowO_take, hAe]
          have x2 : ((rowO l).take (rowO l).length).drop (j + 1) = rowO C := by rw [List.take_length, rowO_drop, hCe]
          have sl1 : SliceR E 29 (.c (.row (rowO l))) none (some (pI j)) (.c (.row (rowO A))) := by rw [← x1]; exact sliceO 0 j rfl rfl (rowO_two l) rfl rfl (by rw [hel]; omega)
          have sl2 : SliceR E 29 (.c (.row (rowO l))) (some (pI ((j + 1 : Nat) : Int))) none (.c (.row (rowO C))) := by rw [← x2]; exact sliceO (j + 1) (rowO l).length rfl rfl (rowO_two l) rfl rfl (by rw [hel]; omega)
          have hlA := rowO_len A
          have hlC := rowO_len C
          have wr : Wk (.orow (rowO A ++ rowO C) 0) (.c (.row (rowO (A ++ C)))) := by rw [rowO_app]; exact Pr.wkOrow
          refine ⟨_, ltN (by rw [hel]; omega), ?_⟩
          refine ⟨_, ltN (by omega), ?_⟩
          refine ⟨_, sl1, ?_⟩
          refine ⟨_, _, AppR.first (ys := rowO A) rfl rfl (by decide) rfl rfl (rowO_two A) (by omega) (by show _ * 24 ≤ _; omega), ?_⟩
          refine ⟨_, addV (z := ((j + 1 : Nat) : Int)) (by push_cast; rfl) (by omega) (by omega), ?_⟩
          refine ⟨_, sl2, ?_⟩
          refine ⟨_, _, AppR.more (ys := rowO C) rfl rfl (by decide) rfl rfl (rowO_two A) (rowO_two C) rfl (by omega) (by show _ * 24 ≤ _; omega), ?_⟩
          refine ⟨_, CallR.mkW h3 (.cons wl (.cons wr .nil)) rfl rfl, ?_⟩
          refine ⟨_, eqT rfl, ?_⟩
          cases b with
          | true =>
            refine ⟨_, heb, ?_⟩
            refine ⟨_, eqT rfl, ?_⟩
            exact Ret.mk _ rfl rfl rfl
          | false =>
            refine ⟨_, heb, ?_⟩
            refine ⟨_, eqT rfl, ?_⟩
            exact Ret.mk _ rfl rfl rfl
    exact hB _ rfl
end Go.Proofs.YtlhplknmcdllfaaDoor.Va
