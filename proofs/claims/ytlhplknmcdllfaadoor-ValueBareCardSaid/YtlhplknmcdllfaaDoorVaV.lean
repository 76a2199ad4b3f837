/- The statement ValueBare. -/
import Derived.Test.YtlhplknmcdllfaaDoorVaU
namespace Go.Proofs.YtlhplknmcdllfaaDoor.Va
open Go Go.RowKit Go.Proofs.YtlhplknmcdllfaaDoor.Pm Go.Proofs.YtlhplknmcdllfaaDoor.Pl
open Go.Proofs.YtlhplknmcdllfaaDoor.Lx (sellerF)
set_option linter.unusedVariables false
set_option maxHeartbeats 4000000
set_option maxRecDepth 8000
def fromE (s : ByteArray) : Ex := ⟨3, 0, s, []⟩
def fixE (n : Int) : Ex := ⟨4, n, e0, []⟩
def allE (n : Int) : Ex := ⟨6, 10000, e0, [fixE n]⟩
theorem seller_pm : ∀ k, k < 60 → Pm.isName (B ((Lx.nameBs.getD (k % 6) e0).data.toList ++ digs (k / 6))) = true := by decide +kernel
theorem size1 (k n : Int) (s : ByteArray) : size (⟨k, n, s, []⟩ : Ex) = 1 := by show (1 : Int) + 0 = 1; rfl
theorem size2 (k n : Int) (s : ByteArray) (k' n' : Int) (s' : ByteArray) : size (⟨k, n, s, [⟨k', n', s', []⟩]⟩ : Ex) = 2 := by show (1 : Int) + ((1 + 0) + 0) = 2; rfl
theorem from_fine {s : ByteArray} (h : Pm.isName s = true) : isFine 32 false (fromE s) = true := by
  unfold fromE
  rw [isFine, isNamed, if_pos rfl, h]
  decide +kernel
theorem fix_fine {n : Int} (h0 : 0 ≤ n) (h1 : n ≤ 1000000000000) : isFine 31 false (fixE n) = true ∧ isFine 32 false (fixE n) = true := by
  have e : (formP 4).2.1 = 1000000000000 := by decide +kernel
  unfold fixE
  constructor
  · rw [isFine, decide_eq_true (show ¬ n < 0 by omega), decide_eq_true (show ¬ n > (formP 4).2.1 by rw [e]; omega)]
    decide +kernel
  · rw [isFine, decide_eq_true (show ¬ n < 0 by omega), decide_eq_true (show ¬ n > (formP 4).2.1 by rw [e]; omega)]
    decide +kernel
theorem all_fine {n : Int} (h0 : 0 ≤ n) (h1 : n ≤ 1000000000000) : isFine 32 false (allE n) = true := by
  unfold allE
  rw [isFine, fineL, show (32 : Int) - 1 = 31 from rfl, show decide ((6 : Int) = 10) = false from rfl, (fix_fine h0 h1).1]
  show ((formP 6).2.2.2 && (decide (¬ (32 : Int) < 1) && ((isCond 6 == false) && (decide (¬ (10000 : Int) < 0) && (decide (¬ (10000 : Int) > (formP 6).2.1) && (decide ((1 : Int) = (formP 6).2.2.1) && (isNamed 6 e0 && (true && fineL 31 false [])))))))) = true
  decide +kernel
theorem seller_at {l : List Of} (hr : rightO l = true) {s : ByteArray} {i : Nat} {o : Of} (ho : l[i]? = some o) (hs : o.s = s) : fromF s l = .am o.p := by
  subst hs
  exact from_at (right_iff.1 hr).2.2 (List.mem_of_getElem? ho)
theorem seller_one {l : List Of} (hr : rightO l = true) {i j : Nat} {o q : Of} (ho : l[i]? = some o) (hq : l[j]? = some q) (h : o.s = q.s) : i = j := by
  have hn := (right_iff.1 hr).2.2
  have h1 : (l.map Of.s)[i]? = some o.s := by rw [List.getElem?_map, ho]; rfl
  have h2 : (l.map Of.s)[j]? = some q.s := by rw [List.getElem?_map, hq]; rfl
  have hi := (List.getElem?_eq_some_iff.1 h1)
  have hj := (List.getElem?_eq_some_iff.1 h2)
  exact (List.getElem_inj hn).1 (hi.2.trans (h.trans hj.2.symm))
theorem ValueBare_ok (z : List (List Int)) (hz : ∀ y ∈ z, y.length = 2 ∧ ∀ n ∈ y, I64 n) (hl : z.length ≤ 9223372036854775807) (who : Int) (hw : I64 who) (n : Int) (hn : I64 n) : Ok E 5 [] [.c (.row (encA z)), pI who, pI n] (pB true) [] := by
  have hO := Offers_ok z hz hl
  have hr := off_right z
  have hol := off_len' z
  obtain ⟨l, hlo⟩ : ∃ l, offersF z = l := ⟨_, rfl⟩
  rw [hlo] at hO hr hol
  have hel := rowO_len l
  have hS := Lx.Seller_ok who hw
  have hsn : Pm.isName (sellerF who) = true := by
    have := (Lx.pkN_eq (c := who) (n := 60) (by decide)).2
    exact seller_pm _ (by omega)
  obtain ⟨s, hs⟩ : ∃ s, sellerF who = s := ⟨_, rfl⟩
  rw [hs] at hS hsn
  have hP := pick09_ok n 1000000000001 hn (by decide)
  obtain ⟨p0, p1⟩ := Pm.pk_rng (c := n) (n := 1000000000001) (by decide)
  obtain ⟨N, hN⟩ : ∃ N, Pm.pk n 1000000000001 = N := ⟨_, rfl⟩
  rw [hN] at hP p0 p1
  have p1 : N ≤ 1000000000000 := by omega
  have hE0 : rightO [] = true := rfl
  have fx := from_fine hsn
  have rx := right_mk fx (by rw [fromE, size1]; decide)
  have ff := (fix_fine p0 p1).2
  have rf := right_mk ff (by rw [fixE, size1]; decide)
  have fa := all_fine p0 p1
  have ra := right_mk fa (by rw [allE, fixE, size2]; decide)
  have h1 := Eval_ok (fromE s) l ((fine_facts _ 32 false fx).2.2.1) (by rw [fromE, size1]; decide) (by omega)
  have h2 := Eval_ok (fromE s) [] ((fine_facts _ 32 false fx).2.2.1) (by rw [fromE, size1]; decide) (by decide)
  have h3 := Eval_ok (fixE N) l ((fine_facts _ 32 false ff).2.2.1) (by rw [fixE, size1]; decide) (by omega)
  have h4 := Eval_ok (fixE N) [] ((fine_facts _ 32 false ff).2.2.1) (by rw [fixE, size1]; decide) (by decide)
  have h5 := Eval_ok (allE N) [] ((fine_facts _ 32 false fa).2.2.1) (by rw [allE, fixE, size2]; decide) (by decide)
  have t5 : evalE [] (allE N) = .am 0 := by
    unfold allE fixE
    rw [ev6, ev4]
    show (match partF N 10000 with
      | .am b => subF N b
      | r => r) = _
    have e : (N * 10000 - N * 10000 % 10000) / 10000 = N := by omega
    unfold partF
    rw [e, okA_iff.2 (show -1000000000000 ≤ N ∧ N ≤ 1000000000000 by omega)]
    show subF N N = _
    unfold subF
    rw [okA_iff.2 (show -1000000000000 ≤ N ∧ N ≤ 1000000000000 by omega), Int.sub_self]
    rfl
  rw [tell_right rx hr, fromE, ev3] at h1
  rw [tell_right rx hE0, fromE, ev3] at h2
  rw [tell_right rf hr, fixE, ev4] at h3
  rw [tell_right rf hE0, fixE, ev4] at h4
  rw [tell_right ra hE0, t5, allE, fixE] at h5
  have hA := awake_ok
  have wx := Wk.aggW (wk_leaf 3 0 s)
  have wf := Wk.aggW (wk_leaf 4 N e0)
  have wa : Wk (.agg [.int .i64 6, .int .i64 10000, .str e0, .row [[.int .i64 4, .int .i64 N, .str e0, .nil]]]) (pE ⟨6, 10000, e0, [⟨4, N, e0, []⟩]⟩) := Wk.aggW (wk_node _ _ _ _ (.cons (wk_leaf _ _ _) .nil))
  obtain ⟨r, hrr⟩ : ∃ r, fromF s l = r := ⟨_, rfl⟩
  rw [hrr] at h1
  have hcase : (r = .no ∧ ∀ o ∈ l, o.s ≠ s) ∨ ∃ (k : Nat) (o : Of), l[k]? = some o ∧ o.s = s ∧ r = .am o.p := by
    by_cases hany : ∃ o ∈ l, o.s = s
    · obtain ⟨o, ho, hos⟩ := hany
      obtain ⟨k, hk⟩ := List.mem_iff_getElem?.1 ho
      exact .inr ⟨k, o, hk, hos, by rw [← hrr, seller_at hr hk hos]⟩
    · have : ∀ o ∈ l, o.s ≠ s := fun o ho h => hany ⟨o, ho, h⟩
      exact .inl ⟨by rw [← hrr, from_none this], this⟩
  -- the loop: nothing so far, or the one at k
  rcases hcase with ⟨rfl, hno⟩ | ⟨k, o, hk, hos, rfl⟩
  · refine Ok.enter hE Tryd.func5 rfl (by decide +kernel) (by kernel_rfl) rfl rfl (Nat.le_of_ble_eq_true rfl) rfl ?_
    refine ⟨_, CallR.mk1 hA rfl rfl, ?_⟩
    refine ⟨_, CallR.mk1 hO rfl rfl, ?_⟩
    refine ⟨_, CallR.mk1 hS rfl rfl, ?_⟩
    refine ⟨_, CallR.mkW h1 (.cons wx (.cons (Wk.refl _) .nil)) rfl rfl, ?_⟩
    refine ⟨_, CallR.mkW h2 (.cons wx (.cons Wk.nilRow .nil)) rfl rfl, ?_⟩
    refine Loop.run (α := Nat) (fun i => i ≤ l.length) (fun i => [(2, pI n), (7, pB true), (8, .c (.row (rowO l))), (9, pS s), (10, .ptr 0 0), (11, pI 0), (12, pB false), (13, pI 0), (15, pB false), (16, pI 0), (17, pI (-1)), (18, pI i)]) (fun _ => [[pI 3, pI 0, pS s, .c .nil]]) (fun _ => []) (fun i => l.length - i) 0 (Nat.zero_le _) ⟨⟨rfl, rfl, rfl, rfl, rfl, rfl, rfl, rfl, rfl, rfl, rfl, rfl, trivial⟩, rfl, rfl⟩ ?_
    rintro i f hi
    have hi : i ≤ l.length := hi
    by_cases hlt : i < l.length
    · obtain ⟨q, hq⟩ : ∃ q, l[i]? = some q := ⟨_, List.getElem?_eq_getElem hlt⟩
      refine ⟨_, ltT (by rw [hel]; omega), ?_⟩
      refine ⟨_, idxV (j := i) (rowO_get hq) rfl rfl rfl rfl, ?_⟩
      refine ⟨_, strEqV (eqB_false (hno q (List.mem_of_getElem? hq))), ?_⟩
      refine ⟨_, addV (z := ((i + 1 : Nat) : Int)) (by push_cast; rfl) (by omega) (by omega), ?_⟩
      exact ⟨i + 1, by show i + 1 ≤ l.length; omega, by show l.length - (i + 1) < l.length - i; omega, ⟨rfl, rfl, rfl, rfl, rfl, rfl, rfl, rfl, rfl, rfl, rfl, rfl, trivial⟩, rfl, rfl⟩
    · refine ⟨_, ltN (by rw [hel]; omega), ?_⟩
      refine ⟨_, CallR.mk1 hP rfl rfl, ?_⟩
      refine ⟨_, CallR.mkW h3 (.cons wf (.cons (Wk.refl _) .nil)) rfl rfl, ?_⟩
      refine ⟨_, CallR.mkW h4 (.cons wf (.cons Wk.nilRow .nil)) rfl rfl, ?_⟩
      refine ⟨_, ⟨_, rfl, rfl⟩, ?_⟩
      refine ⟨_, CallR.mkW h5 (.cons wa (.cons Wk.nilRow .nil)) rfl rfl, ?_⟩
      refine ⟨_, neN rfl, ?_⟩
      refine ⟨_, neN rfl, ?_⟩
      refine ⟨_, neN rfl, ?_⟩
      refine ⟨_, neN rfl, ?_⟩
      refine ⟨_, neN rfl, ?_⟩
      refine ⟨_, geN (by decide), ?_⟩
      refine ⟨_, Lx.neBN rfl, ?_⟩
      refine ⟨_, neN rfl, ?_⟩
      refine ⟨_, neN rfl, ?_⟩
      refine ⟨_, neN rfl, ?_⟩
      refine ⟨_, ltT (by decide), ?_⟩
      refine ⟨_, eqT rfl, ?_⟩
      exact Ret.mk _ rfl rfl rfl
  · have hkl := (List.getElem?_eq_some_iff.1 hk).1
    have ho1 : rightO [o] = true := right_sub hr (List.singleton_sublist.2 (List.mem_of_getElem? hk))
    have h6 := Eval_ok (fromE s) [o] ((fine_facts _ 32 false fx).2.2.1) (by rw [fromE, size1]; decide) (by show (1 : Nat) ≤ _; decide)
    rw [tell_right rx ho1, fromE, ev3, seller_at ho1 (i := 0) rfl hos] at h6
    have x1 : ((rowO l).take (k + 1)).drop k = rowO [o] := by
      rw [rowO_take, rowO_drop]
      congr 1
      rw [List.take_add_one, hk]
      have : (l.take k).length = k := by rw [List.length_take]; omega
      rw [List.drop_append_of_le_length (by omega), List.drop_of_length_le (by omega)]
      rfl
    have sl1 : SliceR E 29 (.c (.row (rowO l))) (some (pI k)) (some (pI ((k + 1 : Nat) : Int))) (.c (.row (rowO [o]))) := by rw [← x1]; exact sliceO k (k + 1) rfl rfl (rowO_two l) rfl rfl (by rw [hel]; omega)
    refine Ok.enter hE Tryd.func5 rfl (by decide +kernel) (by kernel_rfl) rfl rfl (Nat.le_of_ble_eq_true rfl) rfl ?_
    refine ⟨_, CallR.mk1 hA rfl rfl, ?_⟩
    refine ⟨_, CallR.mk1 hO rfl rfl, ?_⟩
    refine ⟨_, CallR.mk1 hS rfl rfl, ?_⟩
    refine ⟨_, CallR.mkW h1 (.cons wx (.cons (Wk.refl _) .nil)) rfl rfl, ?_⟩
    refine ⟨_, CallR.mkW h2 (.cons wx (.cons Wk.nilRow .nil)) rfl rfl, ?_⟩
    refine Loop.run (α := Nat × Int) (fun x => x.1 ≤ l.length ∧ ((x.1 ≤ k ∧ x.2 = -1) ∨ (k < x.1 ∧ x.2 = (k : Int)))) (fun x => [(2, pI n), (7, pB true), (8, .c (.row (rowO l))), (9, pS s), (10, .ptr 0 0), (11, pI o.p), (12, pB true), (13, pI 0), (15, pB false), (16, pI 0), (17, pI x.2), (18, pI x.1)]) (fun _ => [[pI 3, pI 0, pS s, .c .nil]]) (fun _ => []) (fun x => l.length - x.1) (0, -1) ⟨Nat.zero_le _, .inl ⟨Nat.zero_le _, rfl⟩⟩ ⟨⟨rfl, rfl, rfl, rfl, rfl, rfl, rfl, rfl, rfl, rfl, rfl, rfl, trivial⟩, rfl, rfl⟩ ?_
    rintro ⟨i, t⟩ f ⟨hi, hat⟩
    dsimp only at hi hat
    by_cases hlt : i < l.length
    · obtain ⟨q, hq⟩ : ∃ q, l[i]? = some q := ⟨_, List.getElem?_eq_getElem hlt⟩
      by_cases hik : i = k
      · subst hik
        rw [hq] at hk
        injection hk with hk
        subst hk
        refine ⟨_, ltT (by rw [hel]; omega), ?_⟩
        refine ⟨_, idxV (j := i) (rowO_get hq) rfl rfl rfl rfl, ?_⟩
        refine ⟨_, strEqV (eqB_iff.2 hos), ?_⟩
        refine ⟨_, addV (z := ((i + 1 : Nat) : Int)) (by push_cast; rfl) (by omega) (by omega), ?_⟩
        exact ⟨(i + 1, (i : Int)), ⟨by omega, .inr ⟨Nat.lt_succ_self i, rfl⟩⟩, by show l.length - (i + 1) < l.length - i; omega, ⟨rfl, rfl, rfl, rfl, rfl, rfl, rfl, rfl, rfl, rfl, rfl, rfl, trivial⟩, rfl, rfl⟩
      · refine ⟨_, ltT (by rw [hel]; omega), ?_⟩
        refine ⟨_, idxV (j := i) (rowO_get hq) rfl rfl rfl rfl, ?_⟩
        refine ⟨_, strEqV (eqB_false fun h => hik (seller_one hr hq hk (h.trans hos.symm))), ?_⟩
        refine ⟨_, addV (z := ((i + 1 : Nat) : Int)) (by push_cast; rfl) (by omega) (by omega), ?_⟩
        exact ⟨(i + 1, t), ⟨by omega, by
          rcases hat with ⟨h1, h2⟩ | ⟨h1, h2⟩
          · exact .inl ⟨by show i + 1 ≤ k; omega, h2⟩
          · exact .inr ⟨by show k < i + 1; omega, h2⟩⟩, by show l.length - (i + 1) < l.length - i; omega, ⟨rfl, rfl, rfl, rfl, rfl, rfl, rfl, rfl, rfl, rfl, rfl, rfl, trivial⟩, rfl, rfl⟩
    · have e : t = (k : Int) := by rcases hat with ⟨h1, h2⟩ | ⟨h1, h2⟩ <;> omega
      subst e
      refine ⟨_, ltN (by rw [hel]; omega), ?_⟩
      refine ⟨_, CallR.mk1 hP rfl rfl, ?_⟩
      refine ⟨_, CallR.mkW h3 (.cons wf (.cons (Wk.refl _) .nil)) rfl rfl, ?_⟩
      refine ⟨_, CallR.mkW h4 (.cons wf (.cons Wk.nilRow .nil)) rfl rfl, ?_⟩
      refine ⟨_, ⟨_, rfl, rfl⟩, ?_⟩
      refine ⟨_, CallR.mkW h5 (.cons wa (.cons Wk.nilRow .nil)) rfl rfl, ?_⟩
      refine ⟨_, neN rfl, ?_⟩
      refine ⟨_, neN rfl, ?_⟩
      refine ⟨_, neN rfl, ?_⟩
      refine ⟨_, neN rfl, ?_⟩
      refine ⟨_, neN rfl, ?_⟩
      refine ⟨_, geT (by omega), ?_⟩
      refine ⟨_, Lx.neBN rfl, ?_⟩
      refine ⟨_, neN rfl, ?_⟩
      refine ⟨_, neN rfl, ?_⟩
      refine ⟨_, neN rfl, ?_⟩
      refine ⟨_, ltN (by omega), ?_⟩
      refine ⟨_, addV (z := ((k + 1 : Nat) : Int)) (by push_cast; rfl) (by omega) (by omega), ?_⟩
      refine ⟨_, sl1, ?_⟩
      refine ⟨_, CallR.mkW h6 (.cons wx (.cons (Wk.refl _) .nil)) rfl rfl, ?_⟩
      refine ⟨_, idxV (j := k) (rowO_get hk) rfl rfl rfl rfl, ?_⟩
      refine ⟨_, eqT rfl, ?_⟩
      refine ⟨_, eqT rfl, ?_⟩
      refine ⟨_, eqT rfl, ?_⟩
      exact Ret.mk _ rfl rfl rfl
end Go.Proofs.YtlhplknmcdllfaaDoor.Va
