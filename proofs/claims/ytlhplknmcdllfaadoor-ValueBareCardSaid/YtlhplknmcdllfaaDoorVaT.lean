/- The statement ValueCuts. -/
import Derived.Test.YtlhplknmcdllfaaDoorVaS
namespace Go.Proofs.YtlhplknmcdllfaaDoor.Va
open Go Go.RowKit Go.Proofs.YtlhplknmcdllfaaDoor.Pm Go.Proofs.YtlhplknmcdllfaaDoor.Pl
set_option linter.unusedVariables false
set_option maxHeartbeats 4000000
set_option maxRecDepth 8000
theorem right_mk {x : Ex} (h : isFine 32 false x = true) (hs : size x ≤ 30) : isRight x = true := by
  have := (fine_facts x 32 false h).2.2.2.2
  unfold isRight
  rw [h, decide_eq_true (show size x ≤ 2000 by omega), decide_eq_true (show (Q.txtE x).length ≤ 2000 by omega)]
  rfl
def cutE (n : Int) : Ex := ⟨6, n, e0, [lowE]⟩
def lesE (n : Int) : Ex := ⟨5, n, e0, [lowE]⟩
theorem cut_fine {n : Int} (h0 : 0 ≤ n) (h1 : n ≤ 100000) : isFine 32 false (cutE n) = true := by
  unfold cutE
  rw [isFine, decide_eq_true (show ¬ n < 0 by omega), decide_eq_true (show ¬ n > (formP 6).2.1 by rw [show (formP 6).2.1 = 100000 by decide +kernel]; omega)]
  decide +kernel
theorem les_fine {n : Int} (h0 : 0 ≤ n) (h1 : n ≤ 1000000000000) : isFine 32 false (lesE n) = true := by
  unfold lesE
  rw [isFine, decide_eq_true (show ¬ n < 0 by omega), decide_eq_true (show ¬ n > (formP 5).2.1 by rw [show (formP 5).2.1 = 1000000000000 by decide +kernel]; omega)]
  decide +kernel
theorem low_right : isRight lowE = true := by decide +kernel
theorem tell_right {x : Ex} {l : List Of} (hx : isRight x = true) (hl : rightO l = true) : tellA x l = evalE l x := by
  unfold tellA
  rw [hx, hl]; rfl
theorem cut_tell {l : List Of} (hl : rightO l = true) {n : Int} (h0 : 0 ≤ n) (h1 : n ≤ 100000) : tellA (cutE n) l = lessF (fun a => partF a n) (rankF (prs l) 0) := by
  rw [tell_right (right_mk (cut_fine h0 h1) (by unfold cutE; show (1 : Int) + ((1 + 0) + 0) ≤ 30; decide)) hl]
  unfold cutE
  rw [ev6]
  unfold lowE
  rw [ev1]
theorem les_tell {l : List Of} (hl : rightO l = true) {n : Int} (h0 : 0 ≤ n) (h1 : n ≤ 1000000000000) : tellA (lesE n) l = lessF (fun _ => .am n) (rankF (prs l) 0) := by
  rw [tell_right (right_mk (les_fine h0 h1) (by unfold lesE; show (1 : Int) + ((1 + 0) + 0) ≤ 30; decide)) hl]
  unfold lesE
  rw [ev5]
  unfold lowE
  rw [ev1]
theorem low_tell {l : List Of} (hl : rightO l = true) : tellA lowE l = rankF (prs l) 0 := by
  rw [tell_right low_right hl]
  unfold lowE
  rw [ev1]
theorem low_mem {l : List Of} (hl : rightO l = true) {k : Nat} {a : Int} (h : (prs l)[k]? = some a) : 1 ≤ a ∧ a ≤ 1000000000000 := by
  have hm := (srt_perm _).mem_iff.1 (List.mem_of_getElem? h)
  obtain ⟨o, ho, rfl⟩ := List.mem_map.1 hm
  have := offer_p hl ho
  omega
theorem cut_am {a n : Int} (a0 : 1 ≤ a) (a1 : a ≤ 1000000000000) (n0 : 0 ≤ n) (n1 : n ≤ 10000) : ∃ b, lessF (fun a => partF a n) (.am a) = .am (a - b) ∧ b = a * n / 10000 ∧ 0 ≤ b ∧ b ≤ a := by
  have h0 : 0 ≤ a * n := Int.mul_nonneg (by omega) n0
  have h1 : a * n ≤ a * 10000 := Int.mul_le_mul_of_nonneg_left n1 (by omega)
  obtain ⟨q, hq⟩ : ∃ q, a * n = q := ⟨_, rfl⟩
  refine ⟨q / 10000, ?_, by rw [hq], by omega, by omega⟩
  show (match partF a n with
    | .am b => subF a b
    | r => r) = _
  have e : (q - q % 10000) / 10000 = q / 10000 := by omega
  unfold partF
  rw [hq, e, okA_iff.2 (show -1000000000000 ≤ a ∧ a ≤ 1000000000000 by omega), okA_iff.2 (show -1000000000000 ≤ q / 10000 ∧ q / 10000 ≤ 1000000000000 by omega), decide_eq_true (show -100000 ≤ n by omega), decide_eq_true (show n ≤ 100000 by omega), if_pos (show (true && (true && true) && true) = true from rfl)]
  show subF a (q / 10000) = _
  unfold subF
  rw [okA_iff.2 (show -1000000000000 ≤ a ∧ a ≤ 1000000000000 by omega), okA_iff.2 (show -1000000000000 ≤ q / 10000 ∧ q / 10000 ≤ 1000000000000 by omega), okA_iff.2 (show -1000000000000 ≤ a - q / 10000 ∧ a - q / 10000 ≤ 1000000000000 by omega), if_pos (show (true && true && true) = true from rfl)]
theorem les_am {a n : Int} (a0 : 1 ≤ a) (a1 : a ≤ 1000000000000) (n0 : 0 ≤ n) (n1 : n ≤ 10000) : lessF (fun _ => .am n) (.am a) = .am (a - n) := by
  show subF a n = _
  unfold subF
  rw [okA_iff.2 (show -1000000000000 ≤ a ∧ a ≤ 1000000000000 by omega), okA_iff.2 (show -1000000000000 ≤ n ∧ n ≤ 1000000000000 by omega), okA_iff.2 (show -1000000000000 ≤ a - n ∧ a - n ≤ 1000000000000 by omega), if_pos (show (true && true && true) = true from rfl)]
theorem wk_cut (k n : Int) : Wk (.agg [.int .i64 k, .int .i64 n, .str e0, .row [[.int .i64 1, .int .i64 0, .str e0, .nil]]]) (pE ⟨k, n, e0, [lowE]⟩) :=
  Wk.aggW (wk_node _ _ _ _ (.cons (wk_leaf _ _ _) .nil))
theorem ValueCuts_ok (z : List (List Int)) (hz : ∀ y ∈ z, y.length = 2 ∧ ∀ n ∈ y, I64 n) (hl : z.length ≤ 9223372036854775807) (n : Int) (hn : I64 n) (m : Int) (hm : I64 m) : Ok E 7 [] [.c (.row (encA z)), pI n, pI m] (pB true) [] := by
  have hO := Offers_ok z hz hl
  have hr := off_right z
  have hol := off_len' z
  obtain ⟨l, hlo⟩ : ∃ l, offersF z = l := ⟨_, rfl⟩
  rw [hlo] at hO hr hol
  have hP := pick09_ok n 10001 hn (by decide)
  have hQ := pick09_ok m 5000 hm (by decide)
  obtain ⟨p0, p1⟩ := Pm.pk_rng (c := n) (n := 10001) (by decide)
  obtain ⟨q0, q1⟩ := Pm.pk_rng (c := m) (n := 5000) (by decide)
  obtain ⟨N, hN⟩ : ∃ N, Pm.pk n 10001 = N := ⟨_, rfl⟩
  obtain ⟨M, hM⟩ : ∃ M, Pm.pk m 5000 = M := ⟨_, rfl⟩
  rw [hN] at hP p0 p1
  rw [hM] at hQ q0 q1
  have sz : ∀ k n, size (⟨k, n, e0, [lowE]⟩ : Ex) ≤ 9223372036854775807 := fun k n => by show (1 : Int) + ((1 + 0) + 0) ≤ _; decide
  have h1 := Eval_ok lowE l (s_facts.2.2) (by decide) (by omega)
  have h2 := Eval_ok (cutE N) l ((fine_facts _ 32 false (cut_fine p0 (by omega))).2.2.1) (sz _ _) (by omega)
  have h3 := Eval_ok (lesE M) l ((fine_facts _ 32 false (les_fine q0 (by omega))).2.2.1) (sz _ _) (by omega)
  have h4 := Eval_ok (cutE 0) l ((fine_facts _ 32 false (cut_fine (by decide) (by decide))).2.2.1) (sz _ _) (by omega)
  have h5 := Eval_ok (cutE 10000) l ((fine_facts _ 32 false (cut_fine (by decide) (by decide))).2.2.1) (sz _ _) (by omega)
  rw [low_tell hr] at h1
  rw [cut_tell hr p0 (by omega)] at h2
  rw [les_tell hr q0 (by omega)] at h3
  rw [cut_tell hr (by decide) (by decide)] at h4 h5
  have hA := awake_ok
  have wl := Wk.aggW (wk_leaf 1 0 e0)
  unfold rankF at h1 h2 h3 h4 h5
  cases hp : (prs l)[0]? with
  | none =>
    rw [hp] at h1 h2 h3 h4 h5
    refine Ok.enter hE Tryd.func7 rfl (by decide +kernel) (by kernel_rfl) rfl rfl (Nat.le_of_ble_eq_true rfl) rfl ?_
    refine ⟨_, CallR.mk1 hA rfl rfl, ?_⟩
    refine ⟨_, CallR.mk1 hO rfl rfl, ?_⟩
    refine ⟨_, CallR.mkW h1 (.cons wl (.cons (Wk.refl _) .nil)) rfl rfl, ?_⟩
    refine ⟨_, CallR.mk1 hP rfl rfl, ?_⟩
    refine ⟨_, ⟨_, rfl, rfl⟩, ?_⟩
    refine ⟨_, CallR.mkW h2 (.cons (wk_cut 6 N) (.cons (Wk.refl _) .nil)) rfl rfl, ?_⟩
    refine ⟨_, CallR.mk1 hQ rfl rfl, ?_⟩
    refine ⟨_, ⟨_, rfl, rfl⟩, ?_⟩
    refine ⟨_, CallR.mkW h3 (.cons (wk_cut 5 M) (.cons (Wk.refl _) .nil)) rfl rfl, ?_⟩
    refine ⟨_, ⟨_, rfl, rfl⟩, ?_⟩
    refine ⟨_, CallR.mkW h4 (.cons (wk_cut 6 0) (.cons (Wk.refl _) .nil)) rfl rfl, ?_⟩
    refine ⟨_, ⟨_, rfl, rfl⟩, ?_⟩
    refine ⟨_, CallR.mkW h5 (.cons (wk_cut 6 10000) (.cons (Wk.refl _) .nil)) rfl rfl, ?_⟩
    refine ⟨_, neN rfl, ?_⟩
    refine ⟨_, neN rfl, ?_⟩
    refine ⟨_, neN rfl, ?_⟩
    refine ⟨_, neN rfl, ?_⟩
    refine ⟨_, neN rfl, ?_⟩
    refine ⟨_, Lx.neBN rfl, ?_⟩
    refine ⟨_, Lx.neBN rfl, ?_⟩
    refine ⟨_, Lx.neBN rfl, ?_⟩
    refine ⟨_, Lx.neBN rfl, ?_⟩
    exact Ret.mk _ rfl rfl rfl
  | some a =>
    obtain ⟨a0, a1⟩ := low_mem hr hp
    obtain ⟨b, e2, -, b0, b1⟩ := cut_am (n := N) a0 a1 p0 (by omega)
    have e3 := les_am (n := M) a0 a1 q0 (by omega)
    obtain ⟨b4, e4, h40, -, -⟩ := cut_am (n := 0) a0 a1 (by decide) (by decide)
    obtain ⟨b5, e5, h50, -, -⟩ := cut_am (n := 10000) a0 a1 (by decide) (by decide)
    rw [hp] at h1 h2 h3 h4 h5
    dsimp only at h1 h2 h3 h4 h5
    rw [e2] at h2
    rw [e3] at h3
    rw [e4] at h4
    rw [e5] at h5
    refine Ok.enter hE Tryd.func7 rfl (by decide +kernel) (by kernel_rfl) rfl rfl (Nat.le_of_ble_eq_true rfl) rfl ?_
    refine ⟨_, CallR.mk1 hA rfl rfl, ?_⟩
    refine ⟨_, CallR.mk1 hO rfl rfl, ?_⟩
    refine ⟨_, CallR.mkW h1 (.cons wl (.cons (Wk.refl _) .nil)) rfl rfl, ?_⟩
    refine ⟨_, CallR.mk1 hP rfl rfl, ?_⟩
    refine ⟨_, ⟨_, rfl, rfl⟩, ?_⟩
    refine ⟨_, CallR.mkW h2 (.cons (wk_cut 6 N) (.cons (Wk.refl _) .nil)) rfl rfl, ?_⟩
    refine ⟨_, CallR.mk1 hQ rfl rfl, ?_⟩
    refine ⟨_, ⟨_, rfl, rfl⟩, ?_⟩
    refine ⟨_, CallR.mkW h3 (.cons (wk_cut 5 M) (.cons (Wk.refl _) .nil)) rfl rfl, ?_⟩
    refine ⟨_, ⟨_, rfl, rfl⟩, ?_⟩
    refine ⟨_, CallR.mkW h4 (.cons (wk_cut 6 0) (.cons (Wk.refl _) .nil)) rfl rfl, ?_⟩
    refine ⟨_, ⟨_, rfl, rfl⟩, ?_⟩
    refine ⟨_, CallR.mkW h5 (.cons (wk_cut 6 10000) (.cons (Wk.refl _) .nil)) rfl rfl, ?_⟩
    refine ⟨_, neN rfl, ?_⟩
    refine ⟨_, neN rfl, ?_⟩
    refine ⟨_, neN rfl, ?_⟩
    refine ⟨_, neN rfl, ?_⟩
    refine ⟨_, neN rfl, ?_⟩
    refine ⟨_, Lx.neBN rfl, ?_⟩
    refine ⟨_, Lx.neBN rfl, ?_⟩
    refine ⟨_, Lx.neBN rfl, ?_⟩
    refine ⟨_, Lx.neBN rfl, ?_⟩
    refine ⟨_, leT (by dsimp only [amN]; omega), ?_⟩
    refine ⟨_, geT (by dsimp only [amN]; omega), ?_⟩
    refine ⟨_, CallR.mk1 hQ rfl rfl, ?_⟩
    refine ⟨_, subV rfl (by dsimp only [amN]; omega) (by dsimp only [amN]; omega), ?_⟩
    refine ⟨_, eqT rfl, ?_⟩
    refine ⟨_, eqT (by dsimp only [amN]; omega), ?_⟩
    refine ⟨_, eqT (by dsimp only [amN]; omega), ?_⟩
    exact Ret.mk _ rfl rfl rfl
end Go.Proofs.YtlhplknmcdllfaaDoor.Va
