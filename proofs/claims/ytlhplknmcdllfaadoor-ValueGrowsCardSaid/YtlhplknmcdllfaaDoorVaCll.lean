/- Texts that are merged: RowD, VaS, VaT, VaU, VaV, VaYa, VaYb, VaYc. -/
import Derived.Test.YtlhplknmcdllfaaDoorPmBll
import Derived.ChangeArms
import Derived.SizedLaws
import Derived.Test.YtlhplknmcdllfaaDoorVaBll
/- A row's slice of structs of numbers and texts, as a value of the pure machine. -/
namespace Go.Proofs.YtlhplknmcdllfaaDoor.Pm
open Go Go.RowKit Go.ChangeShapes Go.WideShapes
set_option linter.unusedVariables false
/-- a cell that hangs on no memory -/
def LeafV (v : Value) (c : CV) : Prop := ∀ (w : World) (ok : Nat → Nat → Prop), RepC w ok v c
def IsRowS (m : Nat) (w : World) (a : Option Addr) (len cap : Nat) (xs : List (List CV)) : Prop :=
  (a = none ∧ len = 0 ∧ cap = 0 ∧ xs = []) ∨
  ∃ x, a = some x ∧ len ≤ cap ∧ xs.length = len ∧ (∀ y ∈ xs, y.length = m) ∧ ∀ (i j : Nat) (y : List CV) (c : CV), xs[i]? = some y → y[j]? = some c → ∃ v, w.cell? (x.add (i * m + j)) = some v ∧ LeafV v c
theorem IsRowS.rep {m : Nat} {w : World} {a : Option Addr} {len cap : Nat} {xs : List (List CV)} (hm : 0 < m) (h : IsRowS m w a len cap xs) : Rep w (fun b _ => b < w.heap.size) [] [] (.slice a len cap) (.c (.row xs)) := by
  refine .c _ _ ?_
  rcases h with ⟨rfl, rfl, rfl, rfl⟩ | ⟨x, rfl, hlc, hz, hy, hc⟩
  · exact RepC.nil.nil_row
  · have cell : ∀ i, i < len * m → ∃ v, w.cell? (x.add i) = some v := by
      intro i hi
      have hq : i / m < xs.length := by rw [hz]; exact Nat.div_lt_of_lt_mul (by rw [Nat.mul_comm]; exact hi)
      have hr : i % m < m := Nat.mod_lt _ hm
      have hl := hy _ (List.getElem_mem hq)
      obtain ⟨v, hv, -⟩ := hc (i / m) (i % m) xs[i / m] (xs[i / m][i % m]'(by rw [hl]; exact hr)) (List.getElem?_eq_getElem hq) (List.getElem?_eq_getElem _)
      rw [show i / m * m + i % m = i by rw [Nat.mul_comm]; exact Nat.div_add_mod i m] at hv
      exact ⟨v, hv⟩
    refine .row (some x) len cap _ m (fun i => (w.cell? (x.add i)).getD undef) hz.symm hlc (fun h => by cases h) hm hy (fun i hi => ?_) (fun i y j c hi hj => ?_)
    · obtain ⟨v, hv⟩ := cell i hi
      exact ⟨x, rfl, cell_blk hv, by rw [hv]; rfl⟩
    · obtain ⟨v, hv, hl⟩ := hc i j y c hi hj
      rw [hv]
      exact hl _ _
theorem IsRowS.len {m : Nat} {w : World} {a : Option Addr} {len cap k : Nat} {xs : List (List CV)} (h : IsRowS m w a len cap xs) (hl : len ≤ k) : xs.length ≤ k := by
  rcases h with ⟨_, _, _, rfl⟩ | ⟨x, _, _, h, _⟩
  · exact Nat.zero_le _
  · omega
/-- what of an opened slice of structs, if each element opens -/
theorem open_structs {α : Type} (en : α → List CV) {H : Type} {enc : TypeId × Value → H} {P : Program} {w : World} {base : Nat} {spare : Nat → Bool} {held : Bool} {t e : TypeId} {m fuel : Nat} {a : Option Addr} {len cap : Nat} {x : DataW H × List MemPlace}
    (ht : P.underlying t = some (.slice e)) (hm : P.cellsOf e = m) (hen : ∀ o, (en o).length = m)
    (hopen : ∀ (n : Nat) (cs : List Value) (x : DataW H × List MemPlace), DataW.trod enc P w base spare held n e cs = some x → ∃ o : α, ∀ (j : Nat) (c : CV), (en o)[j]? = some c → ∃ v, cs[j]? = some v ∧ LeafV v c)
    (h : DataW.trod enc P w base spare held fuel t (Value.slice a len cap).cells.toList = some x) : ∃ l : List α, IsRowS m w a len cap (l.map en) := by
  rcases DataW.trod_slice ht h with ⟨h1, -⟩ | ⟨a', len', cap', elems, rest, n, _, h1, -, hb, hl, hmx, hlen, hel, hsp, hns⟩
  · simp [Value.cells] at h1
    obtain ⟨rfl, rfl, rfl⟩ := h1
    exact ⟨[], .inl ⟨rfl, rfl, rfl, rfl⟩⟩
  · simp [Value.cells] at h1
    obtain ⟨rfl, rfl, rfl⟩ := h1
    have key : ∀ k : Nat, k < len → ∃ o : α, ∀ (j : Nat) (c : CV), (en o)[j]? = some c → ∃ v, w.cell? (a'.add (k * m + j)) = some v ∧ LeafV v c := by
      intro k hk
      have hE := hel k hk
      obtain ⟨y, hy⟩ : ∃ y, elems[k]? = some y := ⟨_, List.getElem?_eq_getElem (by omega)⟩
      rw [hy, Option.bind_eq_some_iff] at hE
      obtain ⟨cs', hcs, hyt⟩ := hE
      rw [hm] at hcs
      obtain ⟨-, hcl', hcc⟩ := World.cells?_some hcs
      obtain ⟨o, ho⟩ := hopen _ _ _ hyt
      refine ⟨o, fun j c hj => ?_⟩
      obtain ⟨v, hv, hlf⟩ := ho j c hj
      have hjm : j < m := by rw [← hen o]; exact (List.getElem?_eq_some_iff.1 hj).1
      refine ⟨v, ?_, hlf⟩
      rw [← add_add _ _ _ (.inr trivial)]
      rw [hcc j hjm]; exact hv
    have all : ∀ k : Nat, k ≤ len → ∃ l : List α, l.length = k ∧ ∀ (i : Nat) (o : α), l[i]? = some o → ∀ (j : Nat) (c : CV), (en o)[j]? = some c → ∃ v, w.cell? (a'.add (i * m + j)) = some v ∧ LeafV v c := by
      intro k
      induction k with
      | zero => exact fun _ => ⟨[], rfl, fun i o h => by simp at h⟩
      | succ k ih =>
        intro hk
        obtain ⟨l, hl1, hl2⟩ := ih (by omega)
        obtain ⟨o, ho⟩ := key k (by omega)
        refine ⟨l ++ [o], by simp [hl1], fun i q hq => ?_⟩
        rcases Nat.lt_or_ge i l.length with hi | hi
        · rw [List.getElem?_append_left hi] at hq
          exact hl2 i q hq
        · rw [List.getElem?_append_right hi] at hq
          have hi0 : i - l.length = 0 := by
            rcases Nat.eq_zero_or_pos (i - l.length) with h | h
            · exact h
            · rw [List.getElem?_eq_none (by simp; omega)] at hq; cases hq
          rw [hi0] at hq
          have hq : some o = some q := hq
          injection hq with hq
          subst hq
          rw [show i = k by omega]
          exact ho
    obtain ⟨l, hl1, hl2⟩ := all len (Nat.le_refl _)
    refine ⟨l, .inr ⟨a', rfl, hl, by rw [List.length_map, hl1], fun y hy => ?_, fun i j y c hi hj => ?_⟩⟩
    · obtain ⟨o, -, rfl⟩ := List.mem_map.1 hy
      exact hen o
    · rw [List.getElem?_map] at hi
      cases ho : l[i]? with
      | none => rw [ho] at hi; cases hi
      | some o =>
        rw [ho] at hi
        have hi : some (en o) = some y := hi
        injection hi with hi
        subst hi
        exact hl2 i o ho j c hj
theorem leaf_int (k : IntKind) (n : Int) : LeafV (.int k n) (.int k n) := fun _ _ => .int _ _
theorem leaf_str (s : ByteArray) : LeafV (.string s) (.str s) := fun _ _ => .str _
/-- a slice is no longer than its weight allows -/
theorem sized_len {H : Type} {enc : TypeId × Value → H} {P : Program} {W : World} {base : Nat} {spare : Nat → Bool} {held : Bool} {t e : TypeId} {a : Option Addr} {len cap : Nat} {d : DataW H} {ps : List MemPlace} {ts : List TypeId} {ds : List (DataW H)} {j : Nat}
    (hsz : (DataW.weightsEach P ts ds).all (· ≤ reachBytes) = true) (ht : ts[j]? = some t) (hd : ds[j]? = some d) (hu : P.underlying t = some (.slice e)) {B : Nat} (hB : P.bytesOf e = B)
    (h : DataW.Trod enc P W base spare held t (.slice a len cap) d ps) : len * B ≤ 140737488351232 := by
  obtain ⟨fuel, hf⟩ := h
  rcases DataW.trod_slice hu hf with ⟨h1, -⟩ | ⟨a', len', cap', elems, rest, n, _, h1, hx, hb, hl, hmx, hlen, -⟩
  · simp [Value.cells] at h1
    obtain ⟨rfl, rfl, rfl⟩ := h1
    simp
  · simp [Value.cells] at h1
    obtain ⟨rfl, rfl, rfl⟩ := h1
    obtain ⟨hx, _⟩ := Prod.mk.inj hx
    subst hx
    have z := sized_slice hsz ht hd hu
    rw [hB, List.length_map, List.length_map] at z
    exact Nat.le_trans (Nat.mul_le_mul_right _ (by omega)) z
theorem open_len {H : Type} {enc : TypeId × Value → H} {P : Program} {w : World} {base : Nat} {spare : Nat → Bool} {held : Bool} {t e : TypeId} {fuel : Nat} {a : Option Addr} {len cap : Nat} {x : DataW H × List MemPlace}
    (ht : P.underlying t = some (.slice e)) (h : DataW.trod enc P w base spare held fuel t [.slice a len cap] = some x) : len ≤ 9223372036854775807 := by
  rcases DataW.trod_slice ht h with ⟨h1, -⟩ | ⟨a', len', cap', elems, rest, n, _, h1, -, hb, hl, hmx, -⟩
  · injection h1 with h1 _
    injection h1 with _ h1 _
    omega
  · injection h1 with h1 _
    injection h1 with _ h1 h2
    subst h1; subst h2
    unfold maxLen at hmx
    omega
end Go.Proofs.YtlhplknmcdllfaaDoor.Pm

/- Layer 9's laws: awake. -/
namespace Go.Proofs.YtlhplknmcdllfaaDoor.Va
open Go Go.RowKit Go.Proofs.YtlhplknmcdllfaaDoor.Pm Go.Proofs.YtlhplknmcdllfaaDoor.Pl
set_option linter.unusedVariables false
set_option maxHeartbeats 4000000
set_option maxRecDepth 8000
def ab : List Of := [⟨⟨#[97]⟩, 700⟩, ⟨⟨#[98]⟩, 500⟩]
def moreE : Ex := ⟨11, 1, e0, []⟩
theorem aw_facts : tellA xE [] = .am 999 ∧ tellA xE ab = .am 499 ∧ tellA lowE [] = .no ∧ rightO [⟨⟨#[97]⟩, 0⟩] = false ∧ Q.rngE (ifE moreE) = true ∧ size (ifE moreE) = 4 ∧ size lowE = 1 := by decide +kernel
theorem aw_cond : tellC moreE ab = .is true := by
  unfold tellC
  rw [if_pos (by decide +kernel)]
  rfl
theorem awake_ok : Ok E 8 [] [] (pB true) [] := by
  obtain ⟨f1, f2, f3, f4, f5, f6, f7⟩ := aw_facts
  obtain ⟨x1, x2, x3, x4, x5⟩ := x_facts
  obtain ⟨s1, s2, s3⟩ := s_facts
  have h1 := Eval_ok xE [] x1 (by rw [x2]; decide) (by decide)
  have h2 := Eval_ok xE ab x1 (by rw [x2]; decide) (by decide)
  have h3 := Eval_ok lowE [] s3 (by rw [f7]; decide) (by decide)
  have h4 := Cond_ok moreE ab f5 (by rw [f6]; decide) (by decide)
  have h5 := vRight_ok [⟨⟨#[97]⟩, 0⟩] (by decide)
  rw [f1] at h1
  rw [f2] at h2
  rw [f3] at h3
  rw [aw_cond] at h4
  rw [f4] at h5
  have wx := Wk.aggW wk_xE
  have wl := Wk.aggW (wk_leaf 1 0 e0)
  have wm := Wk.aggW (wk_leaf 11 1 e0)
  refine Ok.enter hE Tryd.func8 rfl (by decide +kernel) (by kernel_rfl) rfl rfl (Nat.le_of_ble_eq_true rfl) rfl ?_
  refine ⟨_, ⟨_, rfl, rfl⟩, ?_⟩
  refine ⟨_, ⟨_, rfl, rfl⟩, ?_⟩
  refine ⟨_, CallR.mkW h1 (.cons wx (.cons Wk.nilRow .nil)) rfl rfl, ?_⟩
  refine ⟨_, ⟨_, rfl, rfl⟩, ?_⟩
  refine ⟨_, CallR.mkW h2 (.cons wx (.cons (Wk.refl _) .nil)) rfl rfl, ?_⟩
  refine ⟨_, CallR.mkW h3 (.cons wl (.cons Wk.nilRow .nil)) rfl rfl, ?_⟩
  refine ⟨_, ⟨_, rfl, rfl⟩, ?_⟩
  refine ⟨_, CallR.mkW h4 (.cons wm (.cons (Wk.refl _) .nil)) rfl rfl, ?_⟩
  refine ⟨_, eqT rfl, ?_⟩
  refine ⟨_, eqT rfl, ?_⟩
  refine ⟨_, eqT rfl, ?_⟩
  refine ⟨_, eqT rfl, ?_⟩
  refine ⟨_, eqT rfl, ?_⟩
  refine ⟨_, eqT rfl, ?_⟩
  refine ⟨_, ⟨_, rfl, rfl⟩, ?_⟩
  refine ⟨_, CallR.mkW h5 (.cons (Wk.refl _) .nil) rfl rfl, ?_⟩
  exact Ret.mk _ rfl rfl rfl
end Go.Proofs.YtlhplknmcdllfaaDoor.Va

/- The statement ValueCuts. -/
namespace Go.Proofs.YtlhplknmcdllfaaDoor.Va
open Go Go.RowKit Go.Proofs.YtlhplknmcdllfaaDoor.Pm Go.Proofs.YtlhplknmcdllfaaDoor.Pl
set_option linter.unusedVariables false
set_option maxHeartbeats 4000000
set_option maxRecDepth 8000
theorem right_mk {x : Ex} (h : isFine 32 false x = true) (hs : size x ≤ 30) : isRight x = true := by
  have := (fine_facts x 32 false h).2.2.2.2
  unfold isRight
  rw [h, decide_eq_true (show size x ≤ 2000 by omega), decide_eq_true (show (Q.txtE x).length ≤ 2000 by omega)]
  rfl
def cutE (n : Int) : Ex := ⟨6, n, e0, [lowE]⟩
def lesE (n : Int) : Ex := ⟨5, n, e0, [lowE]⟩
theorem cut_fine {n : Int} (h0 : 0 ≤ n) (h1 : n ≤ 100000) : isFine 32 false (cutE n) = true := by
  unfold cutE
  rw [isFine, decide_eq_true (show ¬ n < 0 by omega), decide_eq_true (show ¬ n > (formP 6).2.1 by rw [show (formP 6).2.1 = 100000 by decide +kernel]; omega)]
  decide +kernel
theorem les_fine {n : Int} (h0 : 0 ≤ n) (h1 : n ≤ 1000000000000) : isFine 32 false (lesE n) = true := by
  unfold lesE
  rw [isFine, decide_eq_true (show ¬ n < 0 by omega), decide_eq_true (show ¬ n > (formP 5).2.1 by rw [show (formP 5).2.1 = 1000000000000 by decide +kernel]; omega)]
  decide +kernel
theorem low_right : isRight lowE = true := by decide +kernel
theorem tell_right {x : Ex} {l : List Of} (hx : isRight x = true) (hl : rightO l = true) : tellA x l = evalE l x := by
  unfold tellA
  rw [hx, hl]; rfl
theorem cut_tell {l : List Of} (hl : rightO l = true) {n : Int} (h0 : 0 ≤ n) (h1 : n ≤ 100000) : tellA (cutE n) l = lessF (fun a => partF a n) (rankF (prs l) 0) := by
  rw [tell_right (right_mk (cut_fine h0 h1) (by unfold cutE; show (1 : Int) + ((1 + 0) + 0) ≤ 30; decide)) hl]
  unfold cutE
  rw [ev6]
  unfold lowE
  rw [ev1]
theorem les_tell {l : List Of} (hl : rightO l = true) {n : Int} (h0 : 0 ≤ n) (h1 : n ≤ 1000000000000) : tellA (lesE n) l = lessF (fun _ => .am n) (rankF (prs l) 0) := by
  rw [tell_right (right_mk (les_fine h0 h1) (by unfold lesE; show (1 : Int) + ((1 + 0) + 0) ≤ 30; decide)) hl]
  unfold lesE
  rw [ev5]
  unfold lowE
  rw [ev1]
theorem low_tell {l : List Of} (hl : rightO l = true) : tellA lowE l = rankF (prs l) 0 := by
  rw [tell_right low_right hl]
  unfold lowE
  rw [ev1]
theorem low_mem {l : List Of} (hl : rightO l = true) {k : Nat} {a : Int} (h : (prs l)[k]? = some a) : 1 ≤ a ∧ a ≤ 1000000000000 := by
  have hm := (srt_perm _).mem_iff.1 (List.mem_of_getElem? h)
  obtain ⟨o, ho, rfl⟩ := List.mem_map.1 hm
  have := offer_p hl ho
  omega
theorem cut_am {a n : Int} (a0 : 1 ≤ a) (a1 : a ≤ 1000000000000) (n0 : 0 ≤ n) (n1 : n ≤ 10000) : ∃ b, lessF (fun a => partF a n) (.am a) = .am (a - b) ∧ b = a * n / 10000 ∧ 0 ≤ b ∧ b ≤ a := by
  have h0 : 0 ≤ a * n := Int.mul_nonneg (by omega) n0
  have h1 : a * n ≤ a * 10000 := Int.mul_le_mul_of_nonneg_left n1 (by omega)
  obtain ⟨q, hq⟩ : ∃ q, a * n = q := ⟨_, rfl⟩
  refine ⟨q / 10000, ?_, by rw [hq], by omega, by omega⟩
  show (match partF a n with
    | .am b => subF a b
    | r => r) = _
  have e : (q - q % 10000) / 10000 = q / 10000 := by omega
  unfold partF
  rw [hq, e, okA_iff.2 (show -1000000000000 ≤ a ∧ a ≤ 1000000000000 by omega), okA_iff.2 (show -1000000000000 ≤ q / 10000 ∧ q / 10000 ≤ 1000000000000 by omega), decide_eq_true (show -100000 ≤ n by omega), decide_eq_true (show n ≤ 100000 by omega), if_pos (show (true && (true && true) && true) = true from rfl)]
  show subF a (q / 10000) = _
  unfold subF
  rw [okA_iff.2 (show -1000000000000 ≤ a ∧ a ≤ 1000000000000 by omega), okA_iff.2 (show -1000000000000 ≤ q / 10000 ∧ q / 10000 ≤ 1000000000000 by omega), okA_iff.2 (show -1000000000000 ≤ a - q / 10000 ∧ a - q / 10000 ≤ 1000000000000 by omega), if_pos (show (true && true && true) = true from rfl)]
theorem les_am {a n : Int} (a0 : 1 ≤ a) (a1 : a ≤ 1000000000000) (n0 : 0 ≤ n) (n1 : n ≤ 10000) : lessF (fun _ => .am n) (.am a) = .am (a - n) := by
  show subF a n = _
  unfold subF
  rw [okA_iff.2 (show -1000000000000 ≤ a ∧ a ≤ 1000000000000 by omega), okA_iff.2 (show -1000000000000 ≤ n ∧ n ≤ 1000000000000 by omega), okA_iff.2 (show -1000000000000 ≤ a - n ∧ a - n ≤ 1000000000000 by omega), if_pos (show (true && true && true) = true from rfl)]
theorem wk_cut (k n : Int) : Wk (.agg [.int .i64 k, .int .i64 n, .str e0, .row [[.int .i64 1, .int .i64 0, .str e0, .nil]]]) (pE ⟨k, n, e0, [lowE]⟩) :=
  Wk.aggW (wk_node _ _ _ _ (.cons (wk_leaf _ _ _) .nil))
theorem ValueCuts_ok (z : List (List Int)) (hz : ∀ y ∈ z, y.length = 2 ∧ ∀ n ∈ y, I64 n) (hl : z.length ≤ 9223372036854775807) (n : Int) (hn : I64 n) (m : Int) (hm : I64 m) : Ok E 7 [] [.c (.row (encA z)), pI n, pI m] (pB true) [] := by
  have hO := Offers_ok z hz hl
  have hr := off_right z
  have hol := off_len' z
  obtain ⟨l, hlo⟩ : ∃ l, offersF z = l := ⟨_, rfl⟩
  rw [hlo] at hO hr hol
  have hP := pick09_ok n 10001 hn (by decide)
  have hQ := pick09_ok m 5000 hm (by decide)
  obtain ⟨p0, p1⟩ := Pm.pk_rng (c := n) (n := 10001) (by decide)
  obtain ⟨q0, q1⟩ := Pm.pk_rng (c := m) (n := 5000) (by decide)
  obtain ⟨N, hN⟩ : ∃ N, Pm.pk n 10001 = N := ⟨_, rfl⟩
  obtain ⟨M, hM⟩ : ∃ M, Pm.pk m 5000 = M := ⟨_, rfl⟩
  rw [hN] at hP p0 p1
  rw [hM] at hQ q0 q1
  have sz : ∀ k n, size (⟨k, n, e0, [lowE]⟩ : Ex) ≤ 9223372036854775807 := fun k n => by show (1 : Int) + ((1 + 0) + 0) ≤ _; decide
  have h1 := Eval_ok lowE l (s_facts.2.2) (by decide) (by omega)
  have h2 := Eval_ok (cutE N) l ((fine_facts _ 32 false (cut_fine p0 (by omega))).2.2.1) (sz _ _) (by omega)
  have h3 := Eval_ok (lesE M) l ((fine_facts _ 32 false (les_fine q0 (by omega))).2.2.1) (sz _ _) (by omega)
  have h4 := Eval_ok (cutE 0) l ((fine_facts _ 32 false (cut_fine (by decide) (by decide))).2.2.1) (sz _ _) (by omega)
  have h5 := Eval_ok (cutE 10000) l ((fine_facts _ 32 false (cut_fine (by decide) (by decide))).2.2.1) (sz _ _) (by omega)
  rw [low_tell hr] at h1
  rw [cut_tell hr p0 (by omega)] at h2
  rw [les_tell hr q0 (by omega)] at h3
  rw [cut_tell hr (by decide) (by decide)] at h4 h5
  have hA := awake_ok
  have wl := Wk.aggW (wk_leaf 1 0 e0)
  unfold rankF at h1 h2 h3 h4 h5
  cases hp : (prs l)[0]? with
  | none =>
    rw [hp] at h1 h2 h3 h4 h5
    refine Ok.enter hE Tryd.func7 rfl (by decide +kernel) (by kernel_rfl) rfl rfl (Nat.le_of_ble_eq_true rfl) rfl ?_
    refine ⟨_, CallR.mk1 hA rfl rfl, ?_⟩
    refine ⟨_, CallR.mk1 hO rfl rfl, ?_⟩
    refine ⟨_, CallR.mkW h1 (.cons wl (.cons (Wk.refl _) .nil)) rfl rfl, ?_⟩
    refine ⟨_, CallR.mk1 hP rfl rfl, ?_⟩
    refine ⟨_, ⟨_, rfl, rfl⟩, ?_⟩
    refine ⟨_, CallR.mkW h2 (.cons (wk_cut 6 N) (.cons (Wk.refl _) .nil)) rfl rfl, ?_⟩
    refine ⟨_, CallR.mk1 hQ rfl rfl, ?_⟩
    refine ⟨_, ⟨_, rfl, rfl⟩, ?_⟩
    refine ⟨_, CallR.mkW h3 (.cons (wk_cut 5 M) (.cons (Wk.refl _) .nil)) rfl rfl, ?_⟩
    refine ⟨_, ⟨_, rfl, rfl⟩, ?_⟩
    refine ⟨_, CallR.mkW h4 (.cons (wk_cut 6 0) (.cons (Wk.refl _) .nil)) rfl rfl, ?_⟩
    refine ⟨_, ⟨_, rfl, rfl⟩, ?_⟩
    refine ⟨_, CallR.mkW h5 (.cons (wk_cut 6 10000) (.cons (Wk.refl _) .nil)) rfl rfl, ?_⟩
    refine ⟨_, neN rfl, ?_⟩
    refine ⟨_, neN rfl, ?_⟩
    refine ⟨_, neN rfl, ?_⟩
    refine ⟨_, neN rfl, ?_⟩
    refine ⟨_, neN rfl, ?_⟩
    refine ⟨_, Lx.neBN rfl, ?_⟩
    refine ⟨_, Lx.neBN rfl, ?_⟩
    refine ⟨_, Lx.neBN rfl, ?_⟩
    refine ⟨_, Lx.neBN rfl, ?_⟩
    exact Ret.mk _ rfl rfl rfl
  | some a =>
    obtain ⟨a0, a1⟩ := low_mem hr hp
    obtain ⟨b, e2, -, b0, b1⟩ := cut_am (n := N) a0 a1 p0 (by omega)
    have e3 := les_am (n := M) a0 a1 q0 (by omega)
    obtain ⟨b4, e4, h40, -, -⟩ := cut_am (n := 0) a0 a1 (by decide) (by decide)
    obtain ⟨b5, e5, h50, -, -⟩ := cut_am (n := 10000) a0 a1 (by decide) (by decide)
    rw [hp] at h1 h2 h3 h4 h5
    dsimp only at h1 h2 h3 h4 h5
    rw [e2] at h2
    rw [e3] at h3
    rw [e4] at h4
    rw [e5] at h5
    refine Ok.enter hE Tryd.func7 rfl (by decide +kernel) (by kernel_rfl) rfl rfl (Nat.le_of_ble_eq_true rfl) rfl ?_
    refine ⟨_, CallR.mk1 hA rfl rfl, ?_⟩
    refine ⟨_, CallR.mk1 hO rfl rfl, ?_⟩
    refine ⟨_, CallR.mkW h1 (.cons wl (.cons (Wk.refl _) .nil)) rfl rfl, ?_⟩
    refine ⟨_, CallR.mk1 hP rfl rfl, ?_⟩
    refine ⟨_, ⟨_, rfl, rfl⟩, ?_⟩
    refine ⟨_, CallR.mkW h2 (.cons (wk_cut 6 N) (.cons (Wk.refl _) .nil)) rfl rfl, ?_⟩
    refine ⟨_, CallR.mk1 hQ rfl rfl, ?_⟩
    refine ⟨_, ⟨_, rfl, rfl⟩, ?_⟩
    refine ⟨_, CallR.mkW h3 (.cons (wk_cut 5 M) (.cons (Wk.refl _) .nil)) rfl rfl, ?_⟩
    refine ⟨_, ⟨_, rfl, rfl⟩, ?_⟩
    refine ⟨_, CallR.mkW h4 (.cons (wk_cut 6 0) (.cons (Wk.refl _) .nil)) rfl rfl, ?_⟩
    refine ⟨_, ⟨_, rfl, rfl⟩, ?_⟩
    refine ⟨_, CallR.mkW h5 (.cons (wk_cut 6 10000) (.cons (Wk.refl _) .nil)) rfl rfl, ?_⟩
    refine ⟨_, neN rfl, ?_⟩
    refine ⟨_, neN rfl, ?_⟩
    refine ⟨_, neN rfl, ?_⟩
    refine ⟨_, neN rfl, ?_⟩
    refine ⟨_, neN rfl, ?_⟩
    refine ⟨_, Lx.neBN rfl, ?_⟩
    refine ⟨_, Lx.neBN rfl, ?_⟩
    refine ⟨_, Lx.neBN rfl, ?_⟩
    refine ⟨_, Lx.neBN rfl, ?_⟩
    refine ⟨_, leT (by dsimp only [amN]; omega), ?_⟩
    refine ⟨_, geT (by dsimp only [amN]; omega), ?_⟩
    refine ⟨_, CallR.mk1 hQ rfl rfl, ?_⟩
    refine ⟨_, subV rfl (by dsimp only [amN]; omega) (by dsimp only [amN]; omega), ?_⟩
    refine ⟨_, eqT rfl, ?_⟩
    refine ⟨_, eqT (by dsimp only [amN]; omega), ?_⟩
    refine ⟨_, eqT (by dsimp only [amN]; omega), ?_⟩
    exact Ret.mk _ rfl rfl rfl
end Go.Proofs.YtlhplknmcdllfaaDoor.Va

/- The statement ValueLowest. -/
namespace Go.Proofs.YtlhplknmcdllfaaDoor.Va
open Go Go.RowKit Go.Proofs.YtlhplknmcdllfaaDoor.Pm Go.Proofs.YtlhplknmcdllfaaDoor.Pl
set_option linter.unusedVariables false
set_option maxHeartbeats 4000000
set_option maxRecDepth 8000
theorem sliceO {E : Env} {t e sz bb : Nat} {zz : List CV} {ei : TI} {xs : List (List CV)} {lo hi : Option PV} (l h : Nat) (h1 : E.T t = some ⟨.slice e, sz, zz, bb⟩) (h2 : E.T e = some ei) (hx : ∀ x ∈ xs, x.length = ei.size) (hlo : bndF 0 lo = some (l : Int)) (hhi : bndF xs.length hi = some (h : Int)) (hr : l ≤ h ∧ h ≤ xs.length) :
    SliceR E t (.c (.row xs)) lo hi (.c (.row ((xs.take h).drop l))) where
  h := by
    unfold sliceF
    rw [h1]
    dsimp only
    rw [h2]
    dsimp only [toRow]
    rw [hlo, hhi]
    dsimp only
    rw [show decide ((0 : Int) ≤ l ∧ (l : Int) ≤ h ∧ (h : Int) ≤ xs.length) = true by simp; omega]
    dsimp only
    rw [decide_eq_true hx]
    dsimp only
    rw [Int.toNat_natCast, Int.toNat_natCast]
theorem eqBT' {E : Env} {c d : Bool} {t sz bb : Nat} {zz : List CV} (h : (c == d) = true) (hT : E.T t = some ⟨.bool, sz, zz, bb⟩ := by rfl) : BinR E t .eql (pB c) (pB d) (pB true) := .of (by
  rw [hT]; cases c <;> cases d <;> simp at h <;> rfl)
def secE : Ex := ⟨2, 0, e0, []⟩
theorem sec_right : isRight secE = true := by decide +kernel
theorem sec_facts : Q.rngE secE = true ∧ size secE = 1 := by decide +kernel
theorem sec_tell {l : List Of} (hl : rightO l = true) : tellA secE l = rankF (prs l) 1 := by
  rw [tell_right sec_right hl]
  unfold secE
  rw [ev2]
theorem prs_len (l : List Of) : (prs l).length = l.length := by unfold prs; rw [srt_len, List.length_map]
theorem rowO_app (l m : List Of) : rowO (l ++ m) = rowO l ++ rowO m := by unfold rowO; rw [List.map_append]
theorem rowO_take (l : List Of) (n : Nat) : (rowO l).take n = rowO (l.take n) := by unfold rowO; rw [List.map_take]
theorem rowO_drop (l : List Of) (n : Nat) : (rowO l).drop n = rowO (l.drop n) := by unfold rowO; rw [List.map_drop]
theorem cut_out {l : List Of} {o : Of} {i : Nat} (h : l[i]? = some o) : l = l.take i ++ o :: l.drop (i + 1) := by
  have := List.drop_eq_getElem_cons (List.getElem?_eq_some_iff.1 h).1
  rw [(List.getElem?_eq_some_iff.1 h).2] at this
  rw [← this, List.take_append_drop]
theorem ValueLowest_ok (z : List (List Int)) (hz : ∀ y ∈ z, y.length = 2 ∧ ∀ n ∈ y, I64 n) (hl : z.length ≤ 9223372036854775807) : Ok E 4 [] [.c (.row (encA z))] (pB true) [] := by
  have hO := Offers_ok z hz hl
  have hr := off_right z
  have hol := off_len' z
  obtain ⟨l, hlo⟩ : ∃ l, offersF z = l := ⟨_, rfl⟩
  rw [hlo] at hO hr hol
  have hel := rowO_len l
  have h1 := Eval_ok lowE l (s_facts.2.2) (by decide) (by omega)
  have h2 := Eval_ok secE l sec_facts.1 (by rw [sec_facts.2]; decide) (by omega)
  rw [low_tell hr] at h1
  rw [sec_tell hr] at h2
  have hA := awake_ok
  have wl := Wk.aggW (wk_leaf 1 0 e0)
  have ws := Wk.aggW (wk_leaf 2 0 e0)
  have hPl := prs_len l
  cases hp : (prs l)[0]? with
  | none =>
    have hl0 : l.length = 0 := by
      have := List.getElem?_eq_none_iff.1 hp; omega
    have hp1 : (prs l)[1]? = none := List.getElem?_eq_none (by omega)
    have e1 : rankF (prs l) 0 = .no := by unfold rankF; rw [hp]
    have e2 : rankF (prs l) 1 = .no := by unfold rankF; rw [hp1]
    rw [e1] at h1
    rw [e2] at h2
    refine Ok.enter hE Tryd.func4 rfl (by decide +kernel) (by kernel_rfl) rfl rfl (Nat.le_of_ble_eq_true rfl) rfl ?_
    refine ⟨_, CallR.mk1 hA rfl rfl, ?_⟩
    refine ⟨_, CallR.mk1 hO rfl rfl, ?_⟩
    refine ⟨_, CallR.mkW h1 (.cons wl (.cons (Wk.refl _) .nil)) rfl rfl, ?_⟩
    refine ⟨_, CallR.mkW h2 (.cons ws (.cons (Wk.refl _) .nil)) rfl rfl, ?_⟩
    refine ⟨_, neN rfl, ?_⟩
    refine ⟨_, neN rfl, ?_⟩
    refine ⟨_, gtN (by rw [hel]; omega), ?_⟩
    refine ⟨_, Lx.neBN rfl, ?_⟩
    refine ⟨_, gtN (by rw [hel]; omega), ?_⟩
    refine ⟨_, Lx.neBN rfl, ?_⟩
    refine Loop.run (α := Nat) (fun i => i = 0) (fun i => [(4, .c (.row (rowO l))), (11, pI (-1)), (12, pI i)]) (fun _ => []) (fun _ => []) (fun i => 0) 0 rfl ⟨⟨rfl, rfl, rfl, trivial⟩, rfl, rfl⟩ ?_
    rintro i f rfl
    refine ⟨_, ltN (by rw [hel]; omega), ?_⟩
    refine ⟨_, ltT (by decide), ?_⟩
    refine ⟨_, eqT (by rw [hel]; omega), ?_⟩
    exact Ret.mk _ rfl rfl rfl
  | some a =>
    obtain ⟨hall, hmem⟩ := low_all (l := l.map Of.p) hp
    have hl1 : 0 < l.length := by
      have := (List.getElem?_eq_some_iff.1 hp).1; omega
    have e1 : rankF (prs l) 0 = .am a := by unfold rankF; rw [hp]
    rw [e1] at h1
    obtain ⟨r, hrr⟩ : ∃ r, rankF (prs l) 1 = r := ⟨_, rfl⟩
    rw [hrr] at h2
    have hre : amE r = 0 := by rw [← hrr]; unfold rankF; cases (prs l)[1]? <;> rfl
    have hrb : amB r = decide (1 < l.length) := by
      rw [← hrr]; unfold rankF
      cases hq : (prs l)[1]? with
      | none => have := List.getElem?_eq_none_iff.1 hq; rw [decide_eq_false (by omega)]; rfl
      | some x => have := (List.getElem?_eq_some_iff.1 hq).1; rw [decide_eq_true (by omega)]; rfl
    have hO1 : Ok E 11 [] [pE secE, .c (.row (rowO l))] (.tup [pI (amN r), pB (decide (1 < l.length)), pI 0]) [] := by
      rw [show tupA r = .tup [pI (amN r), pB (decide (1 < l.length)), pI 0] by unfold tupA; rw [hre, hrb]] at h2
      exact h2
    have hpz : ∀ i : Nat, i < l.length → ∃ o, l[i]? = some o ∧ (rowO l)[i]? = some [.str o.s, .int .i64 o.p] ∧ a ≤ o.p := fun i hi => by
      obtain ⟨o, ho⟩ : ∃ o, l[i]? = some o := ⟨_, List.getElem?_eq_getElem hi⟩
      exact ⟨o, ho, rowO_get ho, hall _ (List.mem_map.2 ⟨o, List.mem_of_getElem? ho, rfl⟩)⟩
    have hB : ∀ b : Bool, decide (1 < l.length) = b → Ok E 4 [] [.c (.row (encA z))] (pB true) [] := by
      intro b hb
      rw [hb] at hO1
      have hgt : BinR E 3 .gtr (.c (.int .i64 ((rowO l).length : Nat))) (.c (.int .i64 1)) (.c (.bool b)) := gtV (by rw [hel, ← hb]; exact decide_eq_decide.2 (by omega))
      have hnb : BinR E 4 .neq (pB b) (pB b) (pB false) := Lx.neBN (by cases b <;> rfl)
      have heb : BinR E 4 .eql (pB b) (pB b) (pB true) := eqBT' (by cases b <;> rfl)
      refine Ok.enter hE Tryd.func4 rfl (by decide +kernel) (by kernel_rfl) rfl rfl (Nat.le_of_ble_eq_true rfl) rfl ?_
      refine ⟨_, CallR.mk1 hA rfl rfl, ?_⟩
      refine ⟨_, CallR.mk1 hO rfl rfl, ?_⟩
      refine ⟨_, CallR.mkW h1 (.cons wl (.cons (Wk.refl _) .nil)) rfl rfl, ?_⟩
      refine ⟨_, CallR.mkW hO1 (.cons ws (.cons (Wk.refl _) .nil)) rfl rfl, ?_⟩
      refine ⟨_, neN rfl, ?_⟩
      refine ⟨_, neN rfl, ?_⟩
      refine ⟨_, gtT (by rw [hel]; omega), ?_⟩
      refine ⟨_, Lx.neBN rfl, ?_⟩
      refine ⟨_, hgt, ?_⟩
      refine ⟨_, hnb, ?_⟩
      refine Loop.run (α := Nat × Int) (fun x => x.1 ≤ l.length ∧ ((x.2 = -1 ∧ ∀ j, j < x.1 → ∀ o, l[j]? = some o → o.p ≠ a) ∨ ∃ j : Nat, j < x.1 ∧ x.2 = (j : Int) ∧ ∃ o, l[j]? = some o ∧ o.p = a)) (fun x => [(4, .c (.row (rowO l))), (5, pI a), (8, pI (amN r)), (9, pB b), (11, pI x.2), (12, pI x.1)]) (fun _ => []) (fun _ => []) (fun x => l.length - x.1) (0, -1) ⟨Nat.zero_le _, .inl ⟨rfl, fun j hj => by omega⟩⟩ ⟨⟨rfl, rfl, rfl, rfl, rfl, rfl, trivial⟩, rfl, rfl⟩ ?_
      rintro ⟨i, t⟩ f ⟨hi, hat⟩
      dsimp only at hi hat
      by_cases hlt : i < l.length
      · obtain ⟨o, ho, hg, hge⟩ := hpz i hlt
        have hnext : BinR E 3 .add (.c (.int .i64 (i : Int))) (.c (.int .i64 1)) (.c (.int .i64 ((i + 1 : Nat) : Int))) := addV (by push_cast; rfl) (by omega) (by omega)
        by_cases heq : o.p = a
        · rcases hat with ⟨rfl, hno⟩ | ⟨j, hj, rfl, hoj⟩
          · refine ⟨_, ltT (by rw [hel]; omega), ?_⟩
            refine ⟨_, idxV (j := i) hg rfl rfl rfl rfl, ?_⟩
            refine ⟨_, ltN (by omega), ?_⟩
            refine ⟨_, idxV (j := i) hg rfl rfl rfl rfl, ?_⟩
            refine ⟨_, eqT heq, ?_⟩
            refine ⟨_, ltT (show (-1 : Int) < 0 by decide), ?_⟩
            refine ⟨_, hnext, ?_⟩
            exact ⟨(i + 1, (i : Int)), ⟨by omega, .inr ⟨i, Nat.lt_succ_self i, rfl, o, ho, heq⟩⟩, by show l.length - (i + 1) < l.length - i; omega, ⟨rfl, rfl, rfl, rfl, rfl, rfl, trivial⟩, rfl, rfl⟩
          · refine ⟨_, ltT (by rw [hel]; omega), ?_⟩
            refine ⟨_, idxV (j := i) hg rfl rfl rfl rfl, ?_⟩
            refine ⟨_, ltN (by omega), ?_⟩
            refine ⟨_, idxV (j := i) hg rfl rfl rfl rfl, ?_⟩
            refine ⟨_, eqT heq, ?_⟩
            refine ⟨_, ltN (by omega), ?_⟩
            refine ⟨_, hnext, ?_⟩
            exact ⟨(i + 1, (j : Int)), ⟨by omega, .inr ⟨j, by omega, rfl, hoj⟩⟩, by show l.length - (i + 1) < l.length - i; omega, ⟨rfl, rfl, rfl, rfl, rfl, rfl, trivial⟩, rfl, rfl⟩
        · refine ⟨_, ltT (by rw [hel]; omega), ?_⟩
          refine ⟨_, idxV (j := i) hg rfl rfl rfl rfl, ?_⟩
          refine ⟨_, ltN (by omega), ?_⟩
          refine ⟨_, idxV (j := i) hg rfl rfl rfl rfl, ?_⟩
          refine ⟨_, eqN heq, ?_⟩
          refine ⟨_, hnext, ?_⟩
          refine ⟨(i + 1, t), ⟨by omega, ?_⟩, by show l.length - (i + 1) < l.length - i; omega, ⟨rfl, rfl, rfl, rfl, rfl, rfl, trivial⟩, rfl, rfl⟩
          rcases hat with ⟨e, hno⟩ | ⟨j, hj, e, hoj⟩
          · refine .inl ⟨e, fun j hj q hq => ?_⟩
            have hj : j < i + 1 := hj
            by_cases hji : j < i
            · exact hno j hji q hq
            · have : j = i := by omega
              subst this
              rw [ho] at hq
              injection hq with hq
              rw [← hq]; exact heq
          · exact .inr ⟨j, Nat.lt_succ_of_lt hj, e, hoj⟩
      · have e : i = l.length := by omega
        subst e
        rcases hat with ⟨rfl, hno⟩ | ⟨j, hj, rfl, o, ho, hpa⟩
        · exfalso
          obtain ⟨o, hom, hoa⟩ := List.mem_map.1 hmem
          obtain ⟨j, hj⟩ := List.mem_iff_getElem?.1 hom
          exact hno j (List.getElem?_eq_some_iff.1 hj).1 o hj hoa
        · have hcut := cut_out ho
          obtain ⟨A, hAe⟩ : ∃ A, l.take j = A := ⟨_, rfl⟩
          obtain ⟨C, hCe⟩ : ∃ C, l.drop (j + 1) = C := ⟨_, rfl⟩
          rw [hAe, hCe] at hcut
          have hsub : rightO (A ++ C) = true := right_sub hr (by
            rw [hcut]
            exact List.Sublist.append (List.Sublist.refl _) (List.sublist_cons_self _ _))
          have hlen : A.length + C.length + 1 = l.length := by rw [hcut]; simp; omega
          have h3 := Eval_ok lowE (A ++ C) (s_facts.2.2) (by decide) (by rw [List.length_append]; omega)
          have hrest : rankF (prs (A ++ C)) 0 = r := by
            rw [← hrr]
            unfold prs at hp ⊢
            have hm : l.map Of.p = A.map Of.p ++ a :: C.map Of.p := by rw [hcut, List.map_append, List.map_cons, hpa]
            rw [hm] at hp ⊢
            rw [List.map_append]
            cases hq : srt (A.map Of.p ++ a :: C.map Of.p) with
            | nil => rw [hq] at hp; cases hp
            | cons x P =>
              rw [hq] at hp
              have hp : some x = some a := hp
              injection hp with hp
              rw [hp] at hq
              rw [rest_tail hq]
              rfl
          rw [low_tell hsub, hrest, show tupA r = .tup [pI (amN r), pB b, pI 0] by unfold tupA; rw [hre, hrb, hb]] at h3
          have x1 : ((rowO l).take j).drop 0 = rowO A := by rw [List.drop_zero, rowO_take, hAe]
          have x2 : ((rowO l).take (rowO l).length).drop (j + 1) = rowO C := by rw [List.take_length, rowO_drop, hCe]
          have sl1 : SliceR E 29 (.c (.row (rowO l))) none (some (pI j)) (.c (.row (rowO A))) := by rw [← x1]; exact sliceO 0 j rfl rfl (rowO_two l) rfl rfl (by rw [hel]; omega)
          have sl2 : SliceR E 29 (.c (.row (rowO l))) (some (pI ((j + 1 : Nat) : Int))) none (.c (.row (rowO C))) := by rw [← x2]; exact sliceO (j + 1) (rowO l).length rfl rfl (rowO_two l) rfl rfl (by rw [hel]; omega)
          have hlA := rowO_len A
          have hlC := rowO_len C
          have wr : Wk (.orow (rowO A ++ rowO C) 0) (.c (.row (rowO (A ++ C)))) := by rw [rowO_app]; exact Pr.wkOrow
          refine ⟨_, ltN (by rw [hel]; omega), ?_⟩
          refine ⟨_, ltN (by omega), ?_⟩
          refine ⟨_, sl1, ?_⟩
          refine ⟨_, _, AppR.first (ys := rowO A) rfl rfl (by decide) rfl rfl (rowO_two A) (by omega) (by show _ * 24 ≤ _; omega), ?_⟩
          refine ⟨_, addV (z := ((j + 1 : Nat) : Int)) (by push_cast; rfl) (by omega) (by omega), ?_⟩
          refine ⟨_, sl2, ?_⟩
          refine ⟨_, _, AppR.more (ys := rowO C) rfl rfl (by decide) rfl rfl (rowO_two A) (rowO_two C) rfl (by omega) (by show _ * 24 ≤ _; omega), ?_⟩
          refine ⟨_, CallR.mkW h3 (.cons wl (.cons wr .nil)) rfl rfl, ?_⟩
          refine ⟨_, eqT rfl, ?_⟩
          cases b with
          | true =>
            refine ⟨_, heb, ?_⟩
            refine ⟨_, eqT rfl, ?_⟩
            exact Ret.mk _ rfl rfl rfl
          | false =>
            refine ⟨_, heb, ?_⟩
            refine ⟨_, eqT rfl, ?_⟩
            exact Ret.mk _ rfl rfl rfl
    exact hB _ rfl
end Go.Proofs.YtlhplknmcdllfaaDoor.Va

/- The statement ValueBare. -/
namespace Go.Proofs.YtlhplknmcdllfaaDoor.Va
open Go Go.RowKit Go.Proofs.YtlhplknmcdllfaaDoor.Pm Go.Proofs.YtlhplknmcdllfaaDoor.Pl
open Go.Proofs.YtlhplknmcdllfaaDoor.Lx (sellerF)
set_option linter.unusedVariables false
set_option maxHeartbeats 4000000
set_option maxRecDepth 8000
def fromE (s : ByteArray) : Ex := ⟨3, 0, s, []⟩
def fixE (n : Int) : Ex := ⟨4, n, e0, []⟩
def allE (n : Int) : Ex := ⟨6, 10000, e0, [fixE n]⟩
theorem seller_pm : ∀ k, k < 60 → Pm.isName (B ((Lx.nameBs.getD (k % 6) e0).data.toList ++ digs (k / 6))) = true := by decide +kernel
theorem size1 (k n : Int) (s : ByteArray) : size (⟨k, n, s, []⟩ : Ex) = 1 := by show (1 : Int) + 0 = 1; rfl
theorem size2 (k n : Int) (s : ByteArray) (k' n' : Int) (s' : ByteArray) : size (⟨k, n, s, [⟨k', n', s', []⟩]⟩ : Ex) = 2 := by show (1 : Int) + ((1 + 0) + 0) = 2; rfl
theorem from_fine {s : ByteArray} (h : Pm.isName s = true) : isFine 32 false (fromE s) = true := by
  unfold fromE
  rw [isFine, isNamed, if_pos rfl, h]
  decide +kernel
theorem fix_fine {n : Int} (h0 : 0 ≤ n) (h1 : n ≤ 1000000000000) : isFine 31 false (fixE n) = true ∧ isFine 32 false (fixE n) = true := by
  have e : (formP 4).2.1 = 1000000000000 := by decide +kernel
  unfold fixE
  constructor
  · rw [isFine, decide_eq_true (show ¬ n < 0 by omega), decide_eq_true (show ¬ n > (formP 4).2.1 by rw [e]; omega)]
    decide +kernel
  · rw [isFine, decide_eq_true (show ¬ n < 0 by omega), decide_eq_true (show ¬ n > (formP 4).2.1 by rw [e]; omega)]
    decide +kernel
theorem all_fine {n : Int} (h0 : 0 ≤ n) (h1 : n ≤ 1000000000000) : isFine 32 false (allE n) = true := by
  unfold allE
  rw [isFine, fineL, show (32 : Int) - 1 = 31 from rfl, show decide ((6 : Int) = 10) = false from rfl, (fix_fine h0 h1).1]
  show ((formP 6).2.2.2 && (decide (¬ (32 : Int) < 1) && ((isCond 6 == false) && (decide (¬ (10000 : Int) < 0) && (decide (¬ (10000 : Int) > (formP 6).2.1) && (decide ((1 : Int) = (formP 6).2.2.1) && (isNamed 6 e0 && (true && fineL 31 false [])))))))) = true
  decide +kernel
theorem seller_at {l : List Of} (hr : rightO l = true) {s : ByteArray} {i : Nat} {o : Of} (ho : l[i]? = some o) (hs : o.s = s) : fromF s l = .am o.p := by
  subst hs
  exact from_at (right_iff.1 hr).2.2 (List.mem_of_getElem? ho)
theorem seller_one {l : List Of} (hr : rightO l = true) {i j : Nat} {o q : Of} (ho : l[i]? = some o) (hq : l[j]? = some q) (h : o.s = q.s) : i = j := by
  have hn := (right_iff.1 hr).2.2
  have h1 : (l.map Of.s)[i]? = some o.s := by rw [List.getElem?_map, ho]; rfl
  have h2 : (l.map Of.s)[j]? = some q.s := by rw [List.getElem?_map, hq]; rfl
  have hi := (List.getElem?_eq_some_iff.1 h1)
  have hj := (List.getElem?_eq_some_iff.1 h2)
  exact (List.getElem_inj hn).1 (hi.2.trans (h.trans hj.2.symm))
theorem ValueBare_ok (z : List (List Int)) (hz : ∀ y ∈ z, y.length = 2 ∧ ∀ n ∈ y, I64 n) (hl : z.length ≤ 9223372036854775807) (who : Int) (hw : I64 who) (n : Int) (hn : I64 n) : Ok E 5 [] [.c (.row (encA z)), pI who, pI n] (pB true) [] := by
  have hO := Offers_ok z hz hl
  have hr := off_right z
  have hol := off_len' z
  obtain ⟨l, hlo⟩ : ∃ l, offersF z = l := ⟨_, rfl⟩
  rw [hlo] at hO hr hol
  have hel := rowO_len l
  have hS := Lx.Seller_ok who hw
  have hsn : Pm.isName (sellerF who) = true := by
    have := (Lx.pkN_eq (c := who) (n := 60) (by decide)).2
    exact seller_pm _ (by omega)
  obtain ⟨s, hs⟩ : ∃ s, sellerF who = s := ⟨_, rfl⟩
  rw [hs] at hS hsn
  have hP := pick09_ok n 1000000000001 hn (by decide)
  obtain ⟨p0, p1⟩ := Pm.pk_rng (c := n) (n := 1000000000001) (by decide)
  obtain ⟨N, hN⟩ : ∃ N, Pm.pk n 1000000000001 = N := ⟨_, rfl⟩
  rw [hN] at hP p0 p1
  have p1 : N ≤ 1000000000000 := by omega
  have hE0 : rightO [] = true := rfl
  have fx := from_fine hsn
  have rx := right_mk fx (by rw [fromE, size1]; decide)
  have ff := (fix_fine p0 p1).2
  have rf := right_mk ff (by rw [fixE, size1]; decide)
  have fa := all_fine p0 p1
  have ra := right_mk fa (by rw [allE, fixE, size2]; decide)
  have h1 := Eval_ok (fromE s) l ((fine_facts _ 32 false fx).2.2.1) (by rw [fromE, size1]; decide) (by omega)
  have h2 := Eval_ok (fromE s) [] ((fine_facts _ 32 false fx).2.2.1) (by rw [fromE, size1]; decide) (by decide)
  have h3 := Eval_ok (fixE N) l ((fine_facts _ 32 false ff).2.2.1) (by rw [fixE, size1]; decide) (by omega)
  have h4 := Eval_ok (fixE N) [] ((fine_facts _ 32 false ff).2.2.1) (by rw [fixE, size1]; decide) (by decide)
  have h5 := Eval_ok (allE N) [] ((fine_facts _ 32 false fa).2.2.1) (by rw [allE, fixE, size2]; decide) (by decide)
  have t5 : evalE [] (allE N) = .am 0 := by
    unfold allE fixE
    rw [ev6, ev4]
    show (match partF N 10000 with
      | .am b => subF N b
      | r => r) = _
    have e : (N * 10000 - N * 10000 % 10000) / 10000 = N := by omega
    unfold partF
    rw [e, okA_iff.2 (show -1000000000000 ≤ N ∧ N ≤ 1000000000000 by omega)]
    show subF N N = _
    unfold subF
    rw [okA_iff.2 (show -1000000000000 ≤ N ∧ N ≤ 1000000000000 by omega), Int.sub_self]
    rfl
  rw [tell_right rx hr, fromE, ev3] at h1
  rw [tell_right rx hE0, fromE, ev3] at h2
  rw [tell_right rf hr, fixE, ev4] at h3
  rw [tell_right rf hE0, fixE, ev4] at h4
  rw [tell_right ra hE0, t5, allE, fixE] at h5
  have hA := awake_ok
  have wx := Wk.aggW (wk_leaf 3 0 s)
  have wf := Wk.aggW (wk_leaf 4 N e0)
  have wa : Wk (.agg [.int .i64 6, .int .i64 10000, .str e0, .row [[.int .i64 4, .int .i64 N, .str e0, .nil]]]) (pE ⟨6, 10000, e0, [⟨4, N, e0, []⟩]⟩) := Wk.aggW (wk_node _ _ _ _ (.cons (wk_leaf _ _ _) .nil))
  obtain ⟨r, hrr⟩ : ∃ r, fromF s l = r := ⟨_, rfl⟩
  rw [hrr] at h1
  have hcase : (r = .no ∧ ∀ o ∈ l, o.s ≠ s) ∨ ∃ (k : Nat) (o : Of), l[k]? = some o ∧ o.s = s ∧ r = .am o.p := by
    by_cases hany : ∃ o ∈ l, o.s = s
    · obtain ⟨o, ho, hos⟩ := hany
      obtain ⟨k, hk⟩ := List.mem_iff_getElem?.1 ho
      exact .inr ⟨k, o, hk, hos, by rw [← hrr, seller_at hr hk hos]⟩
    · have : ∀ o ∈ l, o.s ≠ s := fun o ho h => hany ⟨o, ho, h⟩
      exact .inl ⟨by rw [← hrr, from_none this], this⟩
  -- the loop: nothing so far, or the one at k
  rcases hcase with ⟨rfl, hno⟩ | ⟨k, o, hk, hos, rfl⟩
  · refine Ok.enter hE Tryd.func5 rfl (by decide +kernel) (by kernel_rfl) rfl rfl (Nat.le_of_ble_eq_true rfl) rfl ?_
    refine ⟨_, CallR.mk1 hA rfl rfl, ?_⟩
    refine ⟨_, CallR.mk1 hO rfl rfl, ?_⟩
    refine ⟨_, CallR.mk1 hS rfl rfl, ?_⟩
    refine ⟨_, CallR.mkW h1 (.cons wx (.cons (Wk.refl _) .nil)) rfl rfl, ?_⟩
    refine ⟨_, CallR.mkW h2 (.cons wx (.cons Wk.nilRow .nil)) rfl rfl, ?_⟩
    refine Loop.run (α := Nat) (fun i => i ≤ l.length) (fun i => [(2, pI n), (7, pB true), (8, .c (.row (rowO l))), (9, pS s), (10, .ptr 0 0), (11, pI 0), (12, pB false), (13, pI 0), (15, pB false), (16, pI 0), (17, pI (-1)), (18, pI i)]) (fun _ => [[pI 3, pI 0, pS s, .c .nil]]) (fun _ => []) (fun i => l.length - i) 0 (Nat.zero_le _) ⟨⟨rfl, rfl, rfl, rfl, rfl, rfl, rfl, rfl, rfl, rfl, rfl, rfl, trivial⟩, rfl, rfl⟩ ?_
    rintro i f hi
    have hi : i ≤ l.length := hi
    by_cases hlt : i < l.length
    · obtain ⟨q, hq⟩ : ∃ q, l[i]? = some q := ⟨_, List.getElem?_eq_getElem hlt⟩
      refine ⟨_, ltT (by rw [hel]; omega), ?_⟩
      refine ⟨_, idxV (j := i) (rowO_get hq) rfl rfl rfl rfl, ?_⟩
      refine ⟨_, strEqV (eqB_false (hno q (List.mem_of_getElem? hq))), ?_⟩
      refine ⟨_, addV (z := ((i + 1 : Nat) : Int)) (by push_cast; rfl) (by omega) (by omega), ?_⟩
      exact ⟨i + 1, by show i + 1 ≤ l.length; omega, by show l.length - (i + 1) < l.length - i; omega, ⟨rfl, rfl, rfl, rfl, rfl, rfl, rfl, rfl, rfl, rfl, rfl, rfl, trivial⟩, rfl, rfl⟩
    · refine ⟨_, ltN (by rw [hel]; omega), ?_⟩
      refine ⟨_, CallR.mk1 hP rfl rfl, ?_⟩
      refine ⟨_, CallR.mkW h3 (.cons wf (.cons (Wk.refl _) .nil)) rfl rfl, ?_⟩
      refine ⟨_, CallR.mkW h4 (.cons wf (.cons Wk.nilRow .nil)) rfl rfl, ?_⟩
      refine ⟨_, ⟨_, rfl, rfl⟩, ?_⟩
      refine ⟨_, CallR.mkW h5 (.cons wa (.cons Wk.nilRow .nil)) rfl rfl, ?_⟩
      refine ⟨_, neN rfl, ?_⟩
      refine ⟨_, neN rfl, ?_⟩
      refine ⟨_, neN rfl, ?_⟩
      refine ⟨_, neN rfl, ?_⟩
      refine ⟨_, neN rfl, ?_⟩
      refine ⟨_, geN (by decide), ?_⟩
      refine ⟨_, Lx.neBN rfl, ?_⟩
      refine ⟨_, neN rfl, ?_⟩
      refine ⟨_, neN rfl, ?_⟩
      refine ⟨_, neN rfl, ?_⟩
      refine ⟨_, ltT (by decide), ?_⟩
      refine ⟨_, eqT rfl, ?_⟩
      exact Ret.mk _ rfl rfl rfl
  · have hkl := (List.getElem?_eq_some_iff.1 hk).1
    have ho1 : rightO [o] = true := right_sub hr (List.singleton_sublist.2 (List.mem_of_getElem? hk))
    have h6 := Eval_ok (fromE s) [o] ((fine_facts _ 32 false fx).2.2.1) (by rw [fromE, size1]; decide) (by show (1 : Nat) ≤ _; decide)
    rw [tell_right rx ho1, fromE, ev3, seller_at ho1 (i := 0) rfl hos] at h6
    have x1 : ((rowO l).take (k + 1)).drop k = rowO [o] := by
      rw [rowO_take, rowO_drop]
      congr 1
      rw [List.take_add_one, hk]
      have : (l.take k).length = k := by rw [List.length_take]; omega
      rw [List.drop_append_of_le_length (by omega), List.drop_of_length_le (by omega)]
      rfl
    have sl1 : SliceR E 29 (.c (.row (rowO l))) (some (pI k)) (some (pI ((k + 1 : Nat) : Int))) (.c (.row (rowO [o]))) := by rw [← x1]; exact sliceO k (k + 1) rfl rfl (rowO_two l) rfl rfl (by rw [hel]; omega)
    refine Ok.enter hE Tryd.func5 rfl (by decide +kernel) (by kernel_rfl) rfl rfl (Nat.le_of_ble_eq_true rfl) rfl ?_
    refine ⟨_, CallR.mk1 hA rfl rfl, ?_⟩
    refine ⟨_, CallR.mk1 hO rfl rfl, ?_⟩
    refine ⟨_, CallR.mk1 hS rfl rfl, ?_⟩
    refine ⟨_, CallR.mkW h1 (.cons wx (.cons (Wk.refl _) .nil)) rfl rfl, ?_⟩
    refine ⟨_, CallR.mkW h2 (.cons wx (.cons Wk.nilRow .nil)) rfl rfl, ?_⟩
    refine Loop.run (α := Nat × Int) (fun x => x.1 ≤ l.length ∧ ((x.1 ≤ k ∧ x.2 = -1) ∨ (k < x.1 ∧ x.2 = (k : Int)))) (fun x => [(2, pI n), (7, pB true), (8, .c (.row (rowO l))), (9, pS s), (10, .ptr 0 0), (11, pI o.p), (12, pB true), (13, pI 0), (15, pB false), (16, pI 0), (17, pI x.2), (18, pI x.1)]) (fun _ => [[pI 3, pI 0, pS s, .c .nil]]) (fun _ => []) (fun x => l.length - x.1) (0, -1) ⟨Nat.zero_le _, .inl ⟨Nat.zero_le _, rfl⟩⟩ ⟨⟨rfl, rfl, rfl, rfl, rfl, rfl, rfl, rfl, rfl, rfl, rfl, rfl, trivial⟩, rfl, rfl⟩ ?_
    rintro ⟨i, t⟩ f ⟨hi, hat⟩
    dsimp only at hi hat
    by_cases hlt : i < l.length
    · obtain ⟨q, hq⟩ : ∃ q, l[i]? = some q := ⟨_, List.getElem?_eq_getElem hlt⟩
      by_cases hik : i = k
      · subst hik
        rw [hq] at hk
        injection hk with hk
        subst hk
        refine ⟨_, ltT (by rw [hel]; omega), ?_⟩
        refine ⟨_, idxV (j := i) (rowO_get hq) rfl rfl rfl rfl, ?_⟩
        refine ⟨_, strEqV (eqB_iff.2 hos), ?_⟩
        refine ⟨_, addV (z := ((i + 1 : Nat) : Int)) (by push_cast; rfl) (by omega) (by omega), ?_⟩
        exact ⟨(i + 1, (i : Int)), ⟨by omega, .inr ⟨Nat.lt_succ_self i, rfl⟩⟩, by show l.length - (i + 1) < l.length - i; omega, ⟨rfl, rfl, rfl, rfl, rfl, rfl, rfl, rfl, rfl, rfl, rfl, rfl, trivial⟩, rfl, rfl⟩
      · refine ⟨_, ltT (by rw [hel]; omega), ?_⟩
        refine ⟨_, idxV (j := i) (rowO_get hq) rfl rfl rfl rfl, ?_⟩
        refine ⟨_, strEqV (eqB_false fun h => hik (seller_one hr hq hk (h.trans hos.symm))), ?_⟩
        refine ⟨_, addV (z := ((i + 1 : Nat) : Int)) (by push_cast; rfl) (by omega) (by omega), ?_⟩
        exact ⟨(i + 1, t), ⟨by omega, by
          rcases hat with ⟨h1, h2⟩ | ⟨h1, h2⟩
          · exact .inl ⟨by show i + 1 ≤ k; omega, h2⟩
          · exact .inr ⟨by show k < i + 1; omega, h2⟩⟩, by show l.length - (i + 1) < l.length - i; omega, ⟨rfl, rfl, rfl, rfl, rfl, rfl, rfl, rfl, rfl, rfl, rfl, rfl, trivial⟩, rfl, rfl⟩
    · have e : t = (k : Int) := by rcases hat with ⟨h1, h2⟩ | ⟨h1, h2⟩ <;> omega
      subst e
      refine ⟨_, ltN (by rw [hel]; omega), ?_⟩
      refine ⟨_, CallR.mk1 hP rfl rfl, ?_⟩
      refine ⟨_, CallR.mkW h3 (.cons wf (.cons (Wk.refl _) .nil)) rfl rfl, ?_⟩
      refine ⟨_, CallR.mkW h4 (.cons wf (.cons Wk.nilRow .nil)) rfl rfl, ?_⟩
      refine ⟨_, ⟨_, rfl, rfl⟩, ?_⟩
      refine ⟨_, CallR.mkW h5 (.cons wa (.cons Wk.nilRow .nil)) rfl rfl, ?_⟩
      refine ⟨_, neN rfl, ?_⟩
      refine ⟨_, neN rfl, ?_⟩
      refine ⟨_, neN rfl, ?_⟩
      refine ⟨_, neN rfl, ?_⟩
      refine ⟨_, neN rfl, ?_⟩
      refine ⟨_, geT (by omega), ?_⟩
      refine ⟨_, Lx.neBN rfl, ?_⟩
      refine ⟨_, neN rfl, ?_⟩
      refine ⟨_, neN rfl, ?_⟩
      refine ⟨_, neN rfl, ?_⟩
      refine ⟨_, ltN (by omega), ?_⟩
      refine ⟨_, addV (z := ((k + 1 : Nat) : Int)) (by push_cast; rfl) (by omega) (by omega), ?_⟩
      refine ⟨_, sl1, ?_⟩
      refine ⟨_, CallR.mkW h6 (.cons wx (.cons (Wk.refl _) .nil)) rfl rfl, ?_⟩
      refine ⟨_, idxV (j := k) (rowO_get hk) rfl rfl rfl rfl, ?_⟩
      refine ⟨_, eqT rfl, ?_⟩
      refine ⟨_, eqT rfl, ?_⟩
      refine ⟨_, eqT rfl, ?_⟩
      exact Ret.mk _ rfl rfl rfl
end Go.Proofs.YtlhplknmcdllfaaDoor.Va

/- A row of a call's own that is written into: as a variable's cells. -/
namespace Go.Proofs.YtlhplknmcdllfaaDoor.Va
open Go Go.RowKit Go.Proofs.YtlhplknmcdllfaaDoor.Pm Go.Proofs.YtlhplknmcdllfaaDoor.Pl
set_option linter.unusedVariables false
set_option maxHeartbeats 4000000
set_option maxRecDepth 8000
theorem loadStep {r : Option PV} {v : PV} {K : PV → Prop} (e : r = some v) (k : K v) : (match (generalizing := false) r with
  | some v => forceP v fun v => K v
  | none => False) := by subst e; exact forceP_iff.2 k
theorem storeStep {r : Option (Nat × List PV)} {i : Nat} {row : List PV} {H : List (List PV)} {K : List (List PV) → Prop} (e : r = some (i, row)) (k : K (H.set i row)) : (match (generalizing := false) r with
  | some (i, row) => forceS row fun row => forceS (H.set i row) fun H2 => K H2
  | none => False) := by
  subst e
  dsimp only
  rw [forceS_eq, forceS_eq]; exact k
theorem idxB {E : Env} {t e s b i m j sz : Nat} {zz : List CV} {ei : TI} {n : Int} {k : IntKind} (hn : n = (j : Int)) (hj : j < m) (hs : ei.size = sz) (h1 : E.T t = some ⟨.slice e, s, zz, b⟩) (h2 : E.T e = some ei) :
    IdxAR E t (.brow i m) (.c (.int k n)) (.ptr i (j * sz)) where
  h := by
    unfold indexAddrF
    rw [h1]
    dsimp only
    rw [h2, decide_eq_true (show 0 ≤ n ∧ n < (m : Int) by omega)]
    dsimp only
    rw [hn, Int.toNat_natCast, hs]
/-! ### offers as a variable's cells -/
@[reducible] def cP (o : Of) : List PV := [.c (.str o.s), .c (.int .i64 o.p)]
def fP : List Of → List PV
  | [] => []
  | o :: q => .c (.str o.s) :: .c (.int .i64 o.p) :: fP q
theorem fP_len : ∀ q : List Of, (fP q).length = q.length * 2
  | [] => rfl
  | o :: q => by show (fP q).length + 2 = (q.length + 1) * 2; rw [fP_len q]; omega
theorem fP_load (sp : List PV) : ∀ {q : List Of} {i : Nat} {o : Of}, q[i]? = some o → toCs (((fP q ++ sp).drop (i * 2)).take 2) = some (cO o)
  | [], i, o, h => by simp at h
  | a :: q, 0, o, h => by simp at h; subst h; rfl
  | a :: q, i + 1, o, h => by
    rw [show (i + 1) * 2 = (i * 2 + 1) + 1 by omega]
    exact fP_load sp (q := q) (by simpa using h)
theorem fP_price (sp : List PV) : ∀ {q : List Of} {i : Nat} {o : Of}, q[i]? = some o → (fP q ++ sp)[i * 2 + 1]? = some (.c (.int .i64 o.p))
  | [], i, o, h => by simp at h
  | a :: q, 0, o, h => by simp at h; subst h; rfl
  | a :: q, i + 1, o, h => by
    rw [show (i + 1) * 2 + 1 = (i * 2 + 1) + 1 + 1 by omega]
    exact fP_price sp (q := q) (by simpa using h)
theorem splice_two {α : Type} (a b : α) (cs us : List α) (n : Nat) : splice (a :: b :: cs) (n + 1 + 1) us = a :: b :: splice cs n us := by
  unfold splice
  rw [show n + 1 + 1 + us.length = (n + us.length) + 1 + 1 by omega]
  rfl
theorem fP_store (sp : List PV) (o : Of) : ∀ {q : List Of} {i : Nat}, i < q.length → splice (fP q ++ sp) (i * 2) (cP o) = fP (q.set i o) ++ sp
  | [], i, h => by simp at h
  | a :: q, 0, h => rfl
  | a :: q, i + 1, h => by
    rw [show (i + 1) * 2 = (i * 2) + 1 + 1 by omega]
    show splice (.c (.str a.s) :: .c (.int .i64 a.p) :: (fP q ++ sp)) _ _ = .c (.str a.s) :: .c (.int .i64 a.p) :: (fP (q.set i o) ++ sp)
    rw [splice_two, fP_store sp o (q := q) (by simpa using h)]
theorem fP_setp (sp : List PV) (v : Int) : ∀ {q : List Of} {i : Nat} {o : Of}, q[i]? = some o → splice (fP q ++ sp) (i * 2 + 1) [.c (.int .i64 v)] = fP (q.set i ⟨o.s, v⟩) ++ sp
  | [], i, o, h => by simp at h
  | a :: q, 0, o, h => by simp at h; subst h; rfl
  | a :: q, i + 1, o, h => by
    rw [show (i + 1) * 2 + 1 = (i * 2 + 1) + 1 + 1 by omega]
    show splice (.c (.str a.s) :: .c (.int .i64 a.p) :: (fP q ++ sp)) _ _ = .c (.str a.s) :: .c (.int .i64 a.p) :: (fP (q.set i ⟨o.s, v⟩) ++ sp)
    rw [splice_two, fP_setp sp v (q := q) (by simpa using h)]
theorem loadB {ti : TI} {sp : List PV} {q : List Of} {i : Nat} {o : Of} (h : q[i]? = some o) (ha : ti.isAgg = true) (hs : ti.size = 2) : loadF ti [fP q ++ sp] (.ptr 0 (i * 2)) = some (.agg (cO o)) := by
  have hi := (List.getElem?_eq_some_iff.1 h).1
  show (match ti.isAgg with
    | true => match decide (i * 2 + ti.size ≤ (fP q ++ sp).length) with
      | true => match toCs (((fP q ++ sp).drop (i * 2)).take ti.size) with
        | some ds => some (PV.agg ds)
        | none => none
      | false => none
    | false => (fP q ++ sp)[i * 2]?) = _
  rw [ha, hs, decide_eq_true (show i * 2 + 2 ≤ (fP q ++ sp).length by rw [List.length_append, fP_len]; omega)]
  dsimp only
  rw [fP_load sp h]
theorem loadP {ti : TI} {sp : List PV} {q : List Of} {i : Nat} {o : Of} (h : q[i]? = some o) (ha : ti.isAgg = false) : loadF ti [fP q ++ sp] (.ptr 0 (i * 2 + 1)) = some (.c (.int .i64 o.p)) := by
  show (match ti.isAgg with
    | true => match decide (i * 2 + 1 + ti.size ≤ (fP q ++ sp).length) with
      | true => match toCs (((fP q ++ sp).drop (i * 2 + 1)).take ti.size) with
        | some ds => some (PV.agg ds)
        | none => none
      | false => none
    | false => (fP q ++ sp)[i * 2 + 1]?) = _
  rw [ha]
  exact fP_price sp h
theorem loadBE {E : Env} {t : Nat} {ti : TI} {sl : Nat → PV} {x : Operand} {sp : List PV} {q : List Of} {i : Nat} {o : Of} (h : q[i]? = some o) (hT : E.T t = some ti) (ha : ti.isAgg = true) (hs : ti.size = 2) (hx : ev sl x = .ptr 0 (i * 2)) : opF E [fP q ++ sp] sl (.load t x) = some (.agg (cO o)) := by
  show (match E.T t with
    | some ti => loadF ti [fP q ++ sp] (ev sl x)
    | none => none) = _
  rw [hT, hx]
  exact loadB h ha hs
theorem loadPE {E : Env} {t : Nat} {ti : TI} {sl : Nat → PV} {x : Operand} {sp : List PV} {q : List Of} {i : Nat} {o : Of} (h : q[i]? = some o) (hT : E.T t = some ti) (ha : ti.isAgg = false) (hx : ev sl x = .ptr 0 (i * 2 + 1)) : opF E [fP q ++ sp] sl (.load t x) = some (.c (.int .i64 o.p)) := by
  show (match E.T t with
    | some ti => loadF ti [fP q ++ sp] (ev sl x)
    | none => none) = _
  rw [hT, hx]
  exact loadP h ha
theorem storeB {E : Env} {t : Nat} {ti : TI} {sp : List PV} {q : List Of} {i : Nat} {o : Of} (hT : E.T t = some ti) (hs : ti.size = 2) (h : i < q.length) : storeR E [fP q ++ sp] t (.ptr 0 (i * 2)) (.agg (cO o)) = some (0, fP (q.set i o) ++ sp) := by
  unfold storeR
  rw [hT]
  show (match decide ((cP o).length = ti.size ∧ i * 2 + (cP o).length ≤ (fP q ++ sp).length) with
    | true => some (0, splice (fP q ++ sp) (i * 2) (cP o))
    | false => none) = _
  rw [hs, decide_eq_true (show (cP o).length = 2 ∧ i * 2 + (cP o).length ≤ (fP q ++ sp).length from ⟨rfl, by rw [List.length_append, fP_len]; show i * 2 + 2 ≤ _; omega⟩), fP_store sp o h]
theorem storeP {E : Env} {t : Nat} {ti : TI} {sp : List PV} {q : List Of} {i : Nat} {o : Of} {v : Int} (hT : E.T t = some ti) (hs : ti.size = 1) (h : q[i]? = some o) : storeR E [fP q ++ sp] t (.ptr 0 (i * 2 + 1)) (.c (.int .i64 v)) = some (0, fP (q.set i ⟨o.s, v⟩) ++ sp) := by
  have hi := (List.getElem?_eq_some_iff.1 h).1
  unfold storeR
  rw [hT]
  show (match decide (([PV.c (.int .i64 v)] : List PV).length = ti.size ∧ i * 2 + 1 + ([PV.c (.int .i64 v)] : List PV).length ≤ (fP q ++ sp).length) with
    | true => some (0, splice (fP q ++ sp) (i * 2 + 1) [PV.c (.int .i64 v)])
    | false => none) = _
  rw [hs, decide_eq_true (show ([PV.c (.int .i64 v)] : List PV).length = 1 ∧ i * 2 + 1 + ([PV.c (.int .i64 v)] : List PV).length ≤ (fP q ++ sp).length from ⟨rfl, by rw [List.length_append, fP_len]; show i * 2 + 1 + 1 ≤ _; omega⟩), fP_setp sp v h]
/-! ### from a row that was grown to a variable's cells, and back -/
theorem rowO_flat : ∀ q : List Of, (rowO q).flatten.map PV.c = fP q
  | [] => rfl
  | o :: q => by show PV.c (.str o.s) :: PV.c (.int .i64 o.p) :: ((rowO q).flatten.map PV.c) = _; rw [rowO_flat q]; rfl
theorem leaf_free {w w' : World} {ok ok' : Nat → Nat → Prop} {v : Value} {q : List Of} {c : CV} (hc : c ∈ (rowO q).flatten) (h : RepC w ok v c) : RepC w' ok' v c := by
  have : (∃ s, c = .str s) ∨ ∃ n, c = .int .i64 n := by
    obtain ⟨x, hx, hcx⟩ := List.mem_flatten.1 hc
    unfold rowO at hx
    obtain ⟨o, -, rfl⟩ := List.mem_map.1 hx
    have hcx : c ∈ [CV.str o.s, CV.int .i64 o.p] := hcx
    simp only [List.mem_cons, List.not_mem_nil, or_false] at hcx
    rcases hcx with rfl | rfl
    · exact .inl ⟨_, rfl⟩
    · exact .inr ⟨_, rfl⟩
  rcases this with ⟨s, rfl⟩ | ⟨n, rfl⟩
  · cases h; exact .str _
  · cases h; exact .int _ _
/-- what a grown row's place is -/
theorem grown_place {w1 w : World} {ok1 : Nat → Nat → Prop} {n : Nat} {s : St} {a : Act} {t k : Nat} {q : List Of} (S : Sim E ⟨w1, ok1, [], []⟩ none n s a w) (ht : s.sl t = .orow (rowO q) k) (hT : s.T[k]? = some (q.length, 37)) (hq : q ≠ []) :
    ∃ g cap cur, a.tmps.getD t undef = .slice (some ⟨g, 0, none⟩) q.length cap ∧ w1.heap.size ≤ g ∧ w.heap[g]? = some (.cells cur 37 (0, 0)) ∧ q.length ≤ cap ∧ cap ≤ maxLen ∧ cur.size = cap * 2 ∧ ∀ (w' : World) (ok' : Nat → Nat → Prop), RepL (RepC w' ok') (cur.toList.take (q.length * 2)) (rowO q).flatten := by
  obtain ⟨m, tk, ok, M, hTe, hsz, hs, -⟩ := S
  have h := hs t
  rw [ht] at h
  generalize a.tmps.getD t undef = v at h
  cases h with
  | orow A len cap _ _ hr r hk h1 h2 =>
    rw [hTe, List.getElem?_map, hk] at hT
    have hT : some (r.len, r.e) = some (q.length, 37) := hT
    injection hT with hT
    injection hT with t1 t2
    have hlen : len = q.length := by
      cases hr with
      | row _ _ _ _ _ _ h => rw [h, rowO_len]
    obtain ⟨rA, rc⟩ := h2 (by omega)
    obtain ⟨⟨us, ho⟩, -⟩ := M.tok k r hk
    have hsz2 : r.sz = 2 := M.tsz k r _ hk (show E.T r.e = some _ by rw [t2]; rfl)
    rw [← rA, ← rc, t1, t2, hsz2] at ho
    subst hlen
    have hv := own_vals ho hr (rowO_two q) (by decide)
    rcases ho.2 with ⟨-, h0⟩ | ⟨g, cap', cur, hv', hg, hgg, hle, hmx, hcs, htk⟩
    · exact absurd (List.eq_nil_of_length_eq_zero h0) hq
    · injection hv' with e1 e2 e3
      subst e1; subst e3
      refine ⟨g, cap, cur, rfl, hg, hgg, hle, hmx, hcs, fun w' ok' => ?_⟩
      rw [htk]
      exact ⟨hv.1, fun i v c hi hc => leaf_free (List.mem_of_getElem? hc) (hv.2 i v c hi hc)⟩
theorem sim_box {n : Nat} {a : Act} {w : World} {ok : Nat → Nat → Prop} {vars : List (Nat × CV)} {t0 m g cap : Nat} {cur : Array Value} {e : TypeId} {cs : List PV} (hinv : E.I w) (hoks : ∀ b o, ok b o → b < w.heap.size) (hgb : E.P.globals.size ≤ w.heap.size) (hsz : a.tmps.size = n) (hdf : a.defers = []) (hv : RepV w ok a vars)
    (hg : w.heap[g]? = some (.cells cur e (0, 0))) (hgg : E.P.globals.size ≤ g) (hno : ∀ o, ¬ ok g o) (hcs : RepL (Rep w ok [some g] []) cur.toList cs) (hst : ∀ p ∈ cs, p.isStk = false) (hlow : ∀ p ∈ cs, PLt 1 p) (ht : a.tmps.getD t0 undef = .slice (some ⟨g, 0, none⟩) m cap) (hm : m ≤ cap) :
    Sim E ⟨w, ok, [g], []⟩ none n ⟨upd (vSl vars) (some t0) (.brow 0 m), [cs], []⟩ a w := by
  have hslot : ∀ (vars : List (Nat × CV)), RepV w ok a vars → ∀ t, Rep w ok [some g] [] (a.tmps.getD t undef) (vSl vars t) ∧ PLt 1 (vSl vars t) := by
    intro vars
    induction vars with
    | nil => intro _ t; exact ⟨.undef _, trivial⟩
    | cons p r ih =>
      intro h t
      obtain ⟨u, c⟩ := p
      show Rep w ok [some g] [] (a.tmps.getD t undef) (upd (vSl r) (some u) (.c c) t) ∧ PLt 1 (upd (vSl r) (some u) (.c c) t)
      by_cases e : t = u
      · subst e; rw [upd_same]; exact ⟨.c _ _ h.1, trivial⟩
      · rw [upd_other (by simpa using Ne.symm e)]; exact ih h.2 t
  have hm0 : ∀ (i b : Nat), [some g][i]? = some (some b) → i = 0 ∧ b = g := by
    intro i b h
    match i, h with
    | 0, h => have h : some (some g) = some (some b) := h; injection h with h; injection h with h; exact ⟨rfl, h.symm⟩
    | i + 1, h => simp at h
  refine ⟨[some g], [], ok, ⟨hinv, rfl, rfl, rfl, Nat.le_refl _, fun _ _ _ _ => rfl, fun _ _ h => .inl h, hoks, rfl, fun i b h => ?_, fun i j b h h' => ((hm0 i b h).1).trans ((hm0 j b h').1).symm, fun t r h => by simp at h, fun t u r s a h => by simp at h, hgb, fun t r i h => by simp at h, .noB ?_⟩,
    rfl, hsz, fun t => ?_, hdf, fun i b h => ?_, fun _ _ h => h, fun i hi => ?_, ⟨fun t => ?_, fun ds hds p hp => ?_⟩⟩
  · obtain ⟨rfl, rfl⟩ := hm0 i b h
    exact ⟨cs, cur, e, rfl, hg, hcs, hno, hgg, .inl (by simp)⟩
  · show ([cs].any fun d => d.any PV.isStk) = false
    rw [List.any_cons, List.any_nil, Bool.or_false, List.any_eq_false]
    intro p hp
    rw [hst p hp]; simp
  · show Rep w ok [some g] [] (a.tmps.getD t undef) (upd (vSl vars) (some t0) (.brow 0 m) t)
    by_cases e : t = t0
    · subst e; rw [upd_same, ht]; exact .brow 0 m g cap rfl hm
    · rw [upd_other (by simpa using Ne.symm e)]; exact (hslot vars hv t).1
  · match i, h with
    | 0, h => have h : some g = some b := h; injection h with h; subst h; rfl
    | i + 1, h => simp at h
  · have : i = 0 := by have hi : i < 1 := hi; omega
    subst this; exact ⟨g, rfl⟩
  · by_cases e : t = t0
    · subst e; show PLt 1 (upd (vSl vars) (some t) (.brow 0 m) t); rw [upd_same]; exact Nat.zero_lt_one
    · show PLt 1 (upd (vSl vars) (some t0) (.brow 0 m) t); rw [upd_other (by simpa using Ne.symm e)]; exact (hslot vars hv t).2
  · have hds : ds ∈ [cs] := hds
    rw [List.mem_singleton] at hds
    subst hds
    exact hlow p hp
/-- the cells of a grown row: what it holds, and room -/
theorem room_cells {w : World} {ok : Nat → Nat → Prop} {m : List (Option Nat)} {q : List Of} {cur : Array Value} (h : RepL (RepC w ok) (cur.toList.take (q.length * 2)) (rowO q).flatten) (hl : q.length * 2 ≤ cur.size) :
    RepL (Rep w ok m []) cur.toList (fP q ++ List.replicate (cur.size - q.length * 2) .undef) := by
  have h1 : RepL (Rep w ok m []) (cur.toList.take (q.length * 2)) (fP q) := by
    rw [← rowO_flat]
    refine ⟨by rw [List.length_map]; exact h.1, fun i v p hv hp => ?_⟩
    rw [List.getElem?_map] at hp
    cases hc : (rowO q).flatten[i]? with
    | none => rw [hc] at hp; cases hp
    | some c =>
      rw [hc] at hp
      have hp : some (PV.c c) = some p := hp
      injection hp with hp; subst hp
      exact .c _ _ (h.2 i v c hv hc)
  have h2 : RepL (Rep w ok m []) (cur.toList.drop (q.length * 2)) (List.replicate (cur.size - q.length * 2) .undef) := by
    refine ⟨by rw [List.length_drop, List.length_replicate, Array.length_toList], fun i v p hv hp => ?_⟩
    have := List.eq_of_mem_replicate (List.mem_of_getElem? hp)
    subst this
    exact .undef _
  have := h1.append h2
  rw [List.take_append_drop] at this
  exact this
theorem room_stk (q : List Of) (k : Nat) : (∀ p ∈ fP q ++ List.replicate k .undef, p.isStk = false) ∧ ∀ p ∈ fP q ++ List.replicate k .undef, PLt 1 p := by
  have : ∀ p ∈ fP q ++ List.replicate k PV.undef, (∃ c, p = .c c) ∨ p = .undef := by
    intro p hp
    rcases List.mem_append.1 hp with hp | hp
    · rw [← rowO_flat] at hp
      obtain ⟨c, -, rfl⟩ := List.mem_map.1 hp
      exact .inl ⟨c, rfl⟩
    · exact .inr (List.eq_of_mem_replicate hp)
  constructor
  · intro p hp
    rcases this p hp with ⟨c, rfl⟩ | rfl <;> rfl
  · intro p hp
    rcases this p hp with ⟨c, rfl⟩ | rfl <;> trivial
/-- what is left of a variable's cells -/
theorem box_left {n : Nat} {s : St} {a : Act} {w0 w : World} {ok : Nat → Nat → Prop} {g t m : Nat} {cs : List PV} (S : Sim E ⟨w0, ok, [g], []⟩ none n s a w) (hH : s.H = [cs]) (ht : s.sl t = .brow 0 m) :
    w0.grownBy w (some g) ∧ E.I w ∧ a.tmps.size = n ∧ a.defers = [] ∧ ∃ cap arr ty, a.tmps.getD t undef = .slice (some ⟨g, 0, none⟩) m cap ∧ m ≤ cap ∧ w.heap[g]? = some (.cells arr ty (0, 0)) ∧ ∃ ok' mm tk, RepL (Rep w ok' mm tk) arr.toList cs := by
  obtain ⟨mm, tk, ok', M, hT, hsz, hs, hdf, hm0, -⟩ := S
  have hmg : mm[0]? = some (some g) := hm0 0 g rfl
  obtain ⟨ds, arr, ty, h1, h2, h3, -⟩ := M.box 0 g hmg
  rw [hH] at h1
  have h1 : some cs = some ds := h1
  injection h1 with h1; subst h1
  refine ⟨⟨M.os, M.tape, M.output, M.size, fun k hk hn => M.frame k hk (by simp; intro e; subst e; exact hn rfl) (by simp)⟩, M.inv, hsz, hdf, ?_⟩
  have h := hs t
  rw [ht] at h
  generalize a.tmps.getD t undef = v at h
  cases h with
  | brow _ _ b cap hb hc =>
    rw [hmg] at hb
    injection hb with hb; injection hb with hb; subst hb
    exact ⟨cap, arr, ty, rfl, hc, h2, ok', mm, tk, h3⟩
/-- .. as a row that stays -/
theorem row_left {w : World} {ok ok' : Nat → Nat → Prop} {mm : List (Option Nat)} {tk : List TokR} {g cap : Nat} {arr : Array Value} {ty : TypeId} {q : List Of} {sp : List PV} (hg : w.heap[g]? = some (.cells arr ty (0, 0))) (hr : RepL (Rep w ok mm tk) arr.toList (fP q ++ sp)) (hc : q.length ≤ cap) (hok : ∀ o, o < q.length * 2 → ok' g o) :
    RepC w ok' (.slice (some ⟨g, 0, none⟩) q.length cap) (.row (rowO q)) := by
  have hcell : ∀ i, w.cell? ⟨g, i, none⟩ = arr.toList[i]? := by intro i; simp [World.cell?, hg]
  have hadd : ∀ i, (⟨g, 0, none⟩ : Addr).add i = ⟨g, i, none⟩ := by intro i; unfold Addr.add; split <;> simp_all
  have hl : q.length * 2 ≤ arr.toList.length := by rw [hr.1, List.length_append, fP_len]; omega
  refine .row _ _ _ _ 2 (fun i => arr.toList.getD i undef) (rowO_len q).symm hc (fun h => by cases h) (by decide) (rowO_two q) (fun i hi => ?_) (fun i x j c hx hj => ?_)
  · refine ⟨_, rfl, by show ok' g (0 + i); rw [Nat.zero_add]; exact hok i hi, ?_⟩
    rw [hadd, hcell, List.getD_eq_getElem?_getD, List.getElem?_eq_getElem (show i < arr.toList.length by omega)]
    rfl
  · have hf := flat_get (rowO q) i j x c (rowO_two q) hx hj
    have hp : (fP q ++ sp)[i * 2 + j]? = some (.c c) := by
      rw [List.getElem?_append_left (by rw [← rowO_flat, List.length_map]; exact (List.getElem?_eq_some_iff.1 hf).1), ← rowO_flat, List.getElem?_map, hf]; rfl
    obtain ⟨v, hv, hrv⟩ := hr.get hp
    rw [List.getD_eq_getElem?_getD, hv]
    cases hrv with
    | c _ _ h => exact leaf_free (List.mem_of_getElem? hf) h
end Go.Proofs.YtlhplknmcdllfaaDoor.Va

/- Offers turned; the statement ValueOrder. -/
namespace Go.Proofs.YtlhplknmcdllfaaDoor.Va
open Go Go.RowKit Go.Proofs.YtlhplknmcdllfaaDoor.Pm Go.Proofs.YtlhplknmcdllfaaDoor.Pl
set_option linter.unusedVariables false
set_option maxHeartbeats 4000000
set_option maxRecDepth 8000
def swp (q : List Of) (i j : Nat) : List Of := match q[i]?, q[j]? with
  | some a, some b => (q.set i b).set j a
  | _, _ => q
theorem swp_len (q : List Of) (i j : Nat) : (swp q i j).length = q.length := by
  unfold swp; split <;> simp
theorem swp_perm (q : List Of) (i j : Nat) : (swp q i j).Perm q := by
  unfold swp
  split
  · rename_i a b ha hb
    obtain ⟨hi, ei⟩ := List.getElem?_eq_some_iff.1 ha
    obtain ⟨hj, ej⟩ := List.getElem?_eq_some_iff.1 hb
    subst ei; subst ej
    exact List.set_set_perm hi hj
  · exact List.Perm.refl _
def lpF (q : List Of) : Nat → List Of
  | 0 => q
  | i + 1 => swp (lpF q i) i (q.length - 1 - i)
theorem lp_len (q : List Of) : ∀ i, (lpF q i).length = q.length
  | 0 => rfl
  | i + 1 => by show (swp _ _ _).length = _; rw [swp_len, lp_len q i]
theorem lp_perm (q : List Of) : ∀ i, (lpF q i).Perm q
  | 0 => List.Perm.refl _
  | i + 1 => (swp_perm _ _ _).trans (lp_perm q i)
def turnF (q : List Of) (back : Bool) : List Of := if back = true then lpF q (q.length / 2) else q
theorem turn_perm (q : List Of) (back : Bool) : (turnF q back).Perm q := by
  unfold turnF; split
  · exact lp_perm _ _
  · exact List.Perm.refl _
def rK (N : St → Prop) : PEx → St → Prop
  | .ret, s => N s
  | _, _ => False
theorem sliceW {l : List Of} {lo hi : Option PV} (a b : Nat) (hlo : bndF 0 lo = some (a : Int)) (hhi : bndF (rowO l).length hi = some (b : Int)) (hr : a ≤ b ∧ b ≤ l.length) : SliceR E 29 (.c (.row (rowO l))) lo hi (.c (.row (rowO ((l.take b).drop a)))) := by
  have := sliceO (E := E) (t := 29) (xs := rowO l) (lo := lo) (hi := hi) a b rfl rfl (rowO_two l) hlo hhi (by rw [rowO_len]; exact hr)
  rw [rowO_take, rowO_drop] at this
  exact this
theorem turned_ok (l : List Of) (at_ : Int) (hat : I64 at_) (back : Bool) (hl : l.length ≤ 1000000) (k : Nat) (hk : Pm.pk at_ (l.length + 1) = (k : Int)) (hkl : k ≤ l.length) :
    Ok E 12 [] [.c (.row (rowO l)), pI at_, pB back] (.c (.row (rowO (turnF (l.drop k ++ l.take k) back)))) [] := by
  have hP := pick09_ok at_ (l.length + 1) hat (by omega)
  rw [hk] at hP
  have hel := rowO_len l
  have s1 : SliceR E 29 (.c (.row (rowO l))) (some (pI k)) none (.c (.row (rowO (l.drop k)))) := by
    have := sliceW (l := l) (lo := some (pI k)) (hi := none) k l.length rfl (by rw [hel]; rfl) ⟨hkl, Nat.le_refl _⟩
    rw [List.take_length] at this
    exact this
  have s2 : SliceR E 29 (.c (.row (rowO l))) none (some (pI k)) (.c (.row (rowO (l.take k)))) := by
    have := sliceW (l := l) (lo := none) (hi := some (pI k)) 0 k rfl rfl ⟨Nat.zero_le _, hkl⟩
    rw [List.drop_zero] at this
    exact this
  obtain ⟨A, hA⟩ : ∃ A, l.drop k = A := ⟨_, rfl⟩
  obtain ⟨C, hC⟩ : ∃ C, l.take k = C := ⟨_, rfl⟩
  have hAC : A.length + C.length = l.length := by rw [← hA, ← hC, List.length_drop, List.length_take]; omega
  rw [hA] at s1 ⊢
  rw [hC] at s2 ⊢
  have hlA := rowO_len A
  have hlC := rowO_len C
  obtain ⟨q0, hq0⟩ : ∃ q, A ++ C = q := ⟨_, rfl⟩
  have hq0l : q0.length = l.length := by rw [← hq0, List.length_append]; exact hAC
  have hrq : rowO A ++ rowO C = rowO q0 := by rw [← hq0, rowO_app]
  rw [hq0]
  have hadd : BinR E 3 .add (.c (.int .i64 ((rowO l).length : Nat))) (.c (.int .i64 1)) (pI (l.length + 1)) := addV (by rw [hel]) (by omega) (by omega)
  by_cases hempty : q0 = []
  · have hl0 : l.length = 0 := by rw [← hq0l, hempty]; rfl
    have ht0 : turnF q0 back = [] := by rw [hempty]; unfold turnF; split <;> rfl
    have hA0 : A = [] := List.eq_nil_of_length_eq_zero (by omega)
    have hC0 : C = [] := List.eq_nil_of_length_eq_zero (by omega)
    rw [ht0]
    rw [hA0] at s1
    rw [hC0] at s2
    refine Ok.enter hE Tryd.func12 rfl (by decide +kernel) (by kernel_rfl) rfl rfl (Nat.le_of_ble_eq_true rfl) rfl ?_
    refine ⟨_, hadd, ?_⟩
    refine ⟨_, CallR.mk1 hP rfl rfl, ?_⟩
    refine ⟨_, s1, ?_⟩
    refine ⟨_, _, AppR.first (ys := []) rfl rfl (by decide) rfl rfl (by simp) (by decide) (by decide), ?_⟩
    refine ⟨_, s2, ?_⟩
    refine ⟨_, _, AppR.more (ys := []) rfl rfl (by decide) rfl rfl (by simp) (by simp) rfl (by decide) (by decide), ?_⟩
    refine Loop.run (α := Nat) (fun i => i = 0) (fun i => [(2, pB back), (8, .orow [] 0), (9, pI 0)]) (fun _ => []) (fun _ => [(0, 37)]) (fun i => 0) 0 rfl ⟨⟨rfl, rfl, rfl, trivial⟩, rfl, rfl⟩ ?_
    rintro i f rfl
    refine ⟨_, quoV (z := 0) (by decide) rfl (by decide) (by decide), ?_⟩
    refine ⟨_, ltN (by decide), ?_⟩
    exact ⟨_, rfl, Pr.wkOrow, rfl, .nil _⟩
  refine ⟨⟨_, Tryd.func12, by decide +kernel, by kernel_rfl⟩, fun w0 ok0 ms gs vals hst M hr => ?_⟩
  have hm : ms = [] := by have := M.len; simpa using this
  subst hm
  obtain rfl : gs = [] := hst rfl
  have S := Sim.entry (E := E) (fn := Tryd.f12) (bs := []) (args := [.c (.row (rowO l)), pI at_, pB back]) rfl rfl (Nat.le_of_ble_eq_true rfl) M hr
  refine calls_of_wp Tryd.func12 rfl ?_
  refine hand_seq hE (by kernel_rfl) (N := fun s => s.sl 0 = .c (.row (rowO l)) ∧ s.sl 1 = pI at_ ∧ s.sl 2 = pB back ∧ s.H = [] ∧ s.T = []) ?_ S ?_
  · exact ⟨rfl, rfl, rfl, rfl, rfl⟩
  rintro ⟨sl, H, T⟩ a1 w1 ⟨k0, k1, k2, kH, kT⟩ S1
  dsimp only at k0 k1 k2 kH kT
  subst kH; subst kT
  rw [← setAll_of (f := sl) (l := [(0, .c (.row (rowO l))), (1, pI at_), (2, pB back)]) ⟨k0, k1, k2, trivial⟩] at S1
  clear k0 k1 k2 S
  refine hand_seq hE (by kernel_rfl) (N := fun s => s.sl 0 = .c (.row (rowO l)) ∧ s.sl 2 = pB back ∧ s.sl 7 = pI k ∧ s.H = [] ∧ s.T = []) ?_ S1 ?_
  · refine ⟨_, hadd, ?_⟩
    refine ⟨_, CallR.mk1 hP rfl rfl, ?_⟩
    exact ⟨rfl, rfl, rfl, rfl, rfl⟩
  rintro ⟨sl2, H, T⟩ a2 w2 ⟨k0, k2, k7, kH, kT⟩ S2
  dsimp only at k0 k2 k7 kH kT
  subst kH; subst kT
  rw [← setAll_of (f := sl2) (l := [(0, .c (.row (rowO l))), (2, pB back), (7, pI k)]) ⟨k0, k2, k7, trivial⟩] at S2
  clear k0 k2 k7 S1
  refine hand_seq hE (by kernel_rfl) (N := fun s => s.sl 2 = pB back ∧ s.sl 8 = .orow (rowO q0) 0 ∧ s.T = [(q0.length, 37)]) ?_ S2 ?_
  · refine ⟨_, s1, ?_⟩
    refine ⟨_, _, AppR.first (ys := rowO A) rfl rfl (by decide) rfl rfl (rowO_two A) (by omega) (by show _ * 24 ≤ _; omega), ?_⟩
    refine ⟨_, s2, ?_⟩
    refine ⟨_, _, AppR.more (ys := rowO C) rfl rfl (by decide) rfl rfl (rowO_two A) (rowO_two C) rfl (by omega) (by show _ * 24 ≤ _; omega), ?_⟩
    exact ⟨rfl, congrArg (fun r => PV.orow r 0) hrq, by show [((rowO A).length + (rowO C).length, _)] = _; rw [hlA, hlC, hAC, hq0l]⟩
  rintro s3 a3 w3 ⟨k2, k8, kT⟩ S3
  obtain ⟨g, cap, cur, t8, hg0, hgc, hlc, hcm, hcs, hcur⟩ := grown_place S3 k8 (by rw [kT]; rfl) hempty
  obtain ⟨g3, i3, z3, d3⟩ := sim_grown S3
  have t2 := sim_bool S3 k2
  have hroom := room_cells (m := [some g]) (hcur w3 ok0) (by rw [hcs]; omega)
  obtain ⟨sp, hsp⟩ : ∃ sp, List.replicate (cur.size - q0.length * 2) PV.undef = sp := ⟨_, rfl⟩
  have hstk := room_stk q0 (cur.size - q0.length * 2)
  rw [hsp] at hroom hstk
  have hoks3 : ∀ b o, ok0 b o → b < w3.heap.size := fun b o hk => Nat.lt_of_lt_of_le (M.oks b o hk) g3.size
  have S4 := sim_box (n := Tryd.f12.ntmps) (vars := [(2, .bool back)]) (t0 := 8) i3 hoks3 (Nat.le_trans M.gb g3.size) z3 d3 ⟨by rw [t2]; exact .bool _, trivial⟩ hgc (Nat.le_trans M.gb hg0) (fun o ho => by have := M.oks _ _ ho; omega) hroom hstk.1 hstk.2 t8 hlc
  clear S3 S2 k2 k8 kT t2 t8 hroom hcur hstk
  refine wp_mono (code_sound hE _ (by kernel_rfl) (rK fun s => s.sl 6 = .brow 0 q0.length ∧ s.H = [fP (turnF q0 back) ++ sp]) _ a3 w3 ?_ S4) fun e a w' q => ?_
  · refine Loop.run (α := Nat) (fun i => i ≤ q0.length / 2 ∧ (back = false → i = 0)) (fun i => [(2, pB back), (8, .brow 0 q0.length), (9, pI i)]) (fun i => [fP (lpF q0 i) ++ sp]) (fun _ => []) (fun i => q0.length - i) 0 ⟨Nat.zero_le _, fun _ => rfl⟩ ⟨⟨rfl, rfl, rfl, trivial⟩, rfl, rfl⟩ ?_
    rintro i f ⟨hi, hb0⟩
    have hquo : BinR E 3 .quo (.c (.int .i64 (q0.length : Nat))) (.c (.int .i64 2)) (pI ((q0.length / 2 : Nat) : Int)) := quoV (by decide) (by rw [Int.tdiv_eq_ediv_of_nonneg (by omega)]; rfl) (by omega) (by omega)
    cases back with
    | false =>
      have : i = 0 := hb0 rfl
      subst this
      refine ⟨_, hquo, ?_⟩
      by_cases h0 : 0 < q0.length / 2
      · refine ⟨_, ltT (by omega), ?_⟩
        exact ⟨rfl, rfl⟩
      · refine ⟨_, ltN (by omega), ?_⟩
        exact ⟨rfl, rfl⟩
    | true =>
      by_cases hlt : i < q0.length / 2
      · have hln := lp_len q0 i
        obtain ⟨Q, hQ⟩ : ∃ Q, lpF q0 i = Q := ⟨_, rfl⟩
        have hnext : lpF q0 (i + 1) = swp Q i (q0.length - 1 - i) := by rw [← hQ]; rfl
        rw [hQ] at hln ⊢
        obtain ⟨j, hj⟩ : ∃ j, q0.length - 1 - i = j := ⟨_, rfl⟩
        rw [hj] at hnext
        obtain ⟨a, ha⟩ : ∃ a, Q[i]? = some a := ⟨_, List.getElem?_eq_getElem (by omega)⟩
        obtain ⟨b, hb⟩ : ∃ b, Q[j]? = some b := ⟨_, List.getElem?_eq_getElem (by omega)⟩
        have hsw : swp Q i j = (Q.set i b).set j a := by unfold swp; rw [ha, hb]
        rw [hsw] at hnext
        have hsub1 : BinR E 3 .sub (.c (.int .i64 (q0.length : Nat))) (.c (.int .i64 1)) (pI ((q0.length - 1 : Nat) : Int)) := subV (by omega) (by omega) (by omega)
        have hsub2 : BinR E 3 .sub (pI ((q0.length - 1 : Nat) : Int)) (pI (i : Int)) (pI (j : Int)) := subV (by omega) (by omega) (by omega)
        refine ⟨_, hquo, ?_⟩
        refine ⟨_, ltT (by omega), ?_⟩
        refine ⟨_, hsub1, ?_⟩
        refine ⟨_, hsub2, ?_⟩
        refine ⟨_, hsub1, ?_⟩
        refine ⟨_, hsub2, ?_⟩
        refine ⟨_, idxB (j := j) (sz := 2) rfl (by omega) rfl rfl rfl, ?_⟩
        refine loadStep (v := .agg (cO b)) ?_ ?_
        · exact loadBE hb rfl rfl rfl rfl
        refine ⟨_, idxB (j := i) (sz := 2) rfl (by omega) rfl rfl rfl, ?_⟩
        refine loadStep (v := .agg (cO a)) ?_ ?_
        · exact loadBE ha rfl rfl rfl rfl
        refine ⟨_, idxB (j := i) (sz := 2) rfl (by omega) rfl rfl rfl, ?_⟩
        refine storeStep (storeB rfl rfl (by omega)) ?_
        refine ⟨_, idxB (j := j) (sz := 2) rfl (by omega) rfl rfl rfl, ?_⟩
        refine storeStep (storeB rfl rfl (by rw [List.length_set]; omega)) ?_
        refine ⟨_, addV (z := ((i + 1 : Nat) : Int)) (by push_cast; rfl) (by omega) (by omega), ?_⟩
        exact ⟨i + 1, ⟨by omega, fun h => by cases h⟩, by show q0.length - (i + 1) < q0.length - i; omega, ⟨rfl, rfl, rfl, trivial⟩, by rw [hnext]; rfl, rfl⟩
      · have e : i = q0.length / 2 := by omega
        refine ⟨_, hquo, ?_⟩
        refine ⟨_, ltN (by omega), ?_⟩
        exact ⟨rfl, by show [fP (lpF q0 i) ++ sp] = _; rw [e]; rfl⟩
  · cases e with
    | ret =>
      obtain ⟨s, ⟨h6, hH⟩, S5⟩ := q
      obtain ⟨g5, i5, z5, d5, cap5, arr, ty, t6, hc5, hg5, ok', mm, tk, hr5⟩ := box_left S5 hH h6
      have hpl : (turnF q0 back).length = q0.length := (turn_perm q0 back).length_eq
      have hgr := grown_own g3 g5 hg0
      refine ⟨d5, .slice (some ⟨g, 0, none⟩) q0.length cap5, ?_, .slice (some ⟨g, 0, none⟩) q0.length cap5, fun b o => ok0 b o ∨ b = g, rfl, ?_, fun _ _ h => .inl h, ?_⟩
      · rw [← t6]; exact res_one rfl _ _
      · have hgl : g < w'.heap.size := blk_lt' hg5
        exact ⟨i5, hgr.os, hgr.tape, hgr.output, hgr.size, fun k hk _ _ => hgr.block k hk (by simp), fun b o h => h.elim .inl (fun h => .inr (by rw [h]; exact hg0)), fun b o h => h.elim (fun h => Nat.lt_of_lt_of_le (M.oks b o h) hgr.size) (fun h => by rw [h]; exact hgl), rfl, fun i b h => by simp at h, fun i j b h => by simp at h, fun t r h => by simp at h, fun t u r s a h => by simp at h, M.gb, fun t r i h => by simp at h, .nil⟩
      · rw [← hpl] at hc5 ⊢
        exact .c _ _ (row_left hg5 hr5 hc5 (fun o _ => .inr rfl))
    | normal => obtain ⟨s, h, -⟩ := q; exact h.elim
    | exit id => obtain ⟨s, h, -⟩ := q; exact h.elim
    | goto l => exact q.elim
    | panic ch => obtain ⟨-, p, v, -, -, s, h, -⟩ := q; exact h.elim
    | outgrown => exact q.elim
end Go.Proofs.YtlhplknmcdllfaaDoor.Va

/- The statements ValueOrder and ValueGrows. -/
namespace Go.Proofs.YtlhplknmcdllfaaDoor.Va
open Go Go.RowKit Go.Proofs.YtlhplknmcdllfaaDoor.Pm Go.Proofs.YtlhplknmcdllfaaDoor.Pl
set_option linter.unusedVariables false
set_option maxHeartbeats 4000000
set_option maxRecDepth 8000
theorem tell_perm {x : Ex} {l m : List Of} (hl : rightO l = true) (hp : m.Perm l) : tellA x m = tellA x l := by
  unfold tellA
  rw [hl, right_perm hl hp, eval_perm (right_iff.1 hl).2.2 hp x]
theorem ValueOrder_ok (raw : List Int) (h1 : ∀ a ∈ raw, I64 a) (l1 : raw.length ≤ 17592186043904) (z : List (List Int)) (hz : ∀ y ∈ z, y.length = 2 ∧ ∀ n ∈ y, I64 n) (hl : z.length ≤ 9223372036854775807) (at_ : Int) (hat : I64 at_) (back : Bool) :
    Ok E 3 [] [.c (.row (encN raw)), .c (.row (encA z)), pI at_, pB back] (pB true) [] := by
  have hO := Offers_ok z hz hl
  have hr := off_right z
  have hol := off_len' z
  obtain ⟨l, hlo⟩ : ∃ l, offersF z = l := ⟨_, rfl⟩
  rw [hlo] at hO hr hol
  obtain ⟨q0, q1⟩ := Pm.pk_rng (c := at_) (n := (l.length : Int) + 1) (by omega)
  obtain ⟨k, hk⟩ : ∃ k : Nat, Pm.pk at_ (l.length + 1) = (k : Int) := ⟨(Pm.pk at_ (l.length + 1)).toNat, by omega⟩
  have hT := turned_ok l at_ hat back (by omega) k hk (by omega)
  have hperm : (turnF (l.drop k ++ l.take k) back).Perm l := (turn_perm _ _).trans (by
    have := List.perm_append_comm (l₁ := l.drop k) (l₂ := l.take k)
    rw [List.take_append_drop] at this
    exact this)
  obtain ⟨m, hm⟩ : ∃ m, turnF (l.drop k ++ l.take k) back = m := ⟨_, rfl⟩
  rw [hm] at hT hperm
  have hX := strat_ok raw h1 (by omega)
  have tx := strat_small raw h1
  obtain ⟨x, hx⟩ : ∃ x, stratF raw = x := ⟨_, rfl⟩
  rw [hx] at hX tx
  have sx := tx.size
  have e1 := Eval_ok x l tx.rng (by omega) (by omega)
  have e2 := Eval_ok x m tx.rng (by omega) (by rw [hperm.length_eq]; omega)
  rw [tell_perm hr hperm] at e2
  obtain ⟨r, hrr⟩ : ∃ r, tellA x l = r := ⟨_, rfl⟩
  rw [hrr] at e1 e2
  clear hx tx sx
  obtain ⟨kd, n, nm, xs⟩ := x
  refine Ok.enter hE Tryd.func3 rfl (by decide +kernel) (by kernel_rfl) rfl rfl (Nat.le_of_ble_eq_true rfl) rfl ?_
  refine ⟨_, CallR.mk1 awake_ok rfl rfl, ?_⟩
  refine ⟨_, CallR.mk1 hX rfl rfl, ?_⟩
  refine ⟨_, CallR.mk1 hO rfl rfl, ?_⟩
  refine ⟨_, CallR.mk1 e1 rfl rfl, ?_⟩
  refine ⟨_, CallR.mk1 hT rfl rfl, ?_⟩
  refine ⟨_, CallR.mk1 e2 rfl rfl, ?_⟩
  refine ⟨_, eqT rfl, ?_⟩
  refine ⟨_, eqBT' (by cases amB r <;> rfl), ?_⟩
  refine ⟨_, eqT rfl, ?_⟩
  exact Ret.mk _ rfl rfl rfl
/-! ### an offer that is lowered -/
theorem cnt_mono : ∀ {l : List Of} {i : Nat} {o : Of} {p v : Int}, l[i]? = some o → p ≤ o.p → cnt v (l.map Of.p) ≤ cnt v ((l.set i ⟨o.s, p⟩).map Of.p)
  | [], i, o, p, v, h, _ => by simp at h
  | a :: l, 0, o, p, v, h, hp => by
    simp at h; subst h
    show cnt v (a.p :: l.map Of.p) ≤ cnt v (p :: l.map Of.p)
    unfold cnt
    rw [List.countP_cons, List.countP_cons]
    by_cases hv : a.p ≤ v
    · rw [if_pos (decide_eq_true hv), if_pos (decide_eq_true (by omega))]; exact Nat.le_refl _
    · rw [if_neg (by simp; omega)]; omega
  | a :: l, i + 1, o, p, v, h, hp => by
    have := cnt_mono (l := l) (i := i) (v := v) (by simpa using h) hp
    show cnt v (a.p :: l.map Of.p) ≤ cnt v (a.p :: (l.set i ⟨o.s, p⟩).map Of.p)
    unfold cnt at this ⊢
    rw [List.countP_cons, List.countP_cons]; omega
theorem set_right {l : List Of} {i : Nat} {o : Of} {p : Int} (hr : rightO l = true) (h : l[i]? = some o) (h0 : 1 ≤ p) (h1 : p ≤ o.p) : rightO (l.set i ⟨o.s, p⟩) = true := by
  obtain ⟨q1, q2, q3⟩ := right_iff.1 hr
  have ho := q1 o (List.mem_of_getElem? h)
  refine right_iff.2 ⟨fun x hx => ?_, by rw [List.length_set]; exact q2, ?_⟩
  · rcases List.mem_or_eq_of_mem_set hx with hx | rfl
    · exact q1 x hx
    · unfold okO at ho ⊢
      rw [Bool.and_eq_true, Bool.and_eq_true] at ho
      have := of_decide_eq_true ho.2.2
      rw [ho.1, decide_eq_true h0, decide_eq_true (show p ≤ 1000000000000 by omega)]; rfl
  · have : (l.set i ⟨o.s, p⟩).map Of.s = l.map Of.s := by
      rw [List.map_set]
      apply List.ext_getElem?
      intro j
      by_cases hj : i = j
      · subst hj
        rw [List.getElem?_set_self (by rw [List.length_map]; exact (List.getElem?_eq_some_iff.1 h).1), List.getElem?_map, h]; rfl
      · rw [List.getElem?_set_ne hj]
    rw [this]; exact q3
theorem rank_mono {l m : List Of} {j : Nat} {a : Int} (h : ∀ v, cnt v (l.map Of.p) ≤ cnt v (m.map Of.p)) (ha : (prs l)[j]? = some a) : ∃ b, (prs m)[j]? = some b ∧ b ≤ a := by
  have h1 := (sorted_cnt (srt_sorted (l.map Of.p)) j a a ha).1 (Int.le_refl _)
  rw [cnt_perm (srt_perm _)] at h1
  have h2 := h a
  have hl : j < (prs m).length := by
    have : cnt a (m.map Of.p) ≤ (m.map Of.p).length := List.countP_le_length
    rw [prs_len]
    rw [List.length_map] at this
    omega
  refine ⟨_, List.getElem?_eq_getElem hl, ?_⟩
  refine (sorted_cnt (srt_sorted (m.map Of.p)) j _ a (List.getElem?_eq_getElem hl)).2 ?_
  rw [cnt_perm (srt_perm _)]
  omega
theorem sim_row {n : Nat} {s : St} {a : Act} {w w' : World} {ok : Nat → Nat → Prop} {B : Base} {t : Nat} {c : CV} (S : Sim E B none n s a w) (h : s.sl t = .c c) : ∃ ok' : Nat → Nat → Prop, (∀ b o, ok' b o → b < w.heap.size) ∧ RepC w ok' (a.tmps.getD t undef) c := by
  obtain ⟨m, tk, ok', M, hT, hsz, hs, -⟩ := S
  have := hs t
  rw [h] at this
  refine ⟨ok', M.oks, ?_⟩
  generalize a.tmps.getD t undef = v at this
  cases this with
  | c v p h => exact h
theorem ret_anew {fn : Func} {c : Code} {n : Nat} {b : Bool} {w0 w1 : World} {ok0 okA : Nat → Nat → Prop} {s : St} {a : Act} (M : Mem E ⟨w0, ok0, [], []⟩ [] [] [] ok0 w0) (hg : w0.grownBy w1 none) (hchk : chkC E.pt n c = true) (h : wpC E c (retK E fn (pB b) []) s) (S : Sim E ⟨w1, okA, [], []⟩ none n s a w1) :
    c.wp E.P (bodyPost E.P fn fun e w' => ∃ v ok', e = .returned v ∧ Mem E ⟨w0, ok0, [], []⟩ [] (([] : List Nat).map some) [] ok' w' ∧ (∀ b o, ok0 b o → ok' b o) ∧ Rep w' ok' (([] : List Nat).map some) [] v (pB b)) a w1 := by
  refine wp_mono (code_sound hE c hchk _ _ _ _ h S) fun e a w' q => ?_
  have fin : ∀ s, Ret E fn (pB b) [] s → Sim E ⟨w1, okA, [], []⟩ none n s a w' → a.defers = [] ∧ ∃ v, (results fn a.tmps).run E.P w' = .ok v w' ∧ ∃ v' ok', Ending.returned v = .returned v' ∧ Mem E ⟨w0, ok0, [], []⟩ [] (([] : List Nat).map some) [] ok' w' ∧ (∀ b o, ok0 b o → ok' b o) ∧ Rep w' ok' (([] : List Nat).map some) [] v' (pB b) := fun s hR S => by
    obtain ⟨h1, v, h2, ok', h3, h4, h5⟩ := Ret.fin (ms := []) hE rfl hR S
    obtain ⟨g1, i1, -, -⟩ := sim_grown S
    have hv : v = .bool b := by
      cases h5 with
      | c v p h => cases h; rfl
    subst hv
    exact ⟨h1 rfl, _, h2, _, ok0, rfl, mem_back M (grown_trans hg g1) i1, fun _ _ h => h, .c _ _ (.bool b)⟩
  cases e with
  | normal => obtain ⟨s, hk, S'⟩ := q; exact fin s hk S'
  | ret => obtain ⟨s, hk, S'⟩ := q; exact fin s hk S'
  | exit id => obtain ⟨s, hk, S'⟩ := q; exact hk.elim
  | goto l => exact q.elim
  | panic ch => obtain ⟨-, p, v, -, -, s, h, -⟩ := q; exact h.elim
  | outgrown => exact q.elim
theorem leaf_eval {L : List Of} (hr : rightO L = true) (hl : L.length ≤ 8) : ∀ j : Nat, j < 2 → Ok E 11 [] [pE ⟨((j + 1 : Nat) : Int), 0, e0, []⟩, .c (.row (rowO L))] (tupA (rankF (prs L) j)) []
  | 0, _ => by
    have := Eval_ok lowE L (s_facts.2.2) (by decide) (by omega)
    rw [low_tell hr] at this
    exact this
  | 1, _ => by
    have := Eval_ok secE L sec_facts.1 (by rw [sec_facts.2]; decide) (by omega)
    rw [sec_tell hr] at this
    exact this
  | j + 2, h => by omega
theorem ValueGrows_ok (z : List (List Int)) (hz : ∀ y ∈ z, y.length = 2 ∧ ∀ n ∈ y, I64 n) (hl : z.length ≤ 9223372036854775807) (which : Int) (hw : I64 which) (by_ : Int) (hb : I64 by_) :
    Ok E 6 [] [.c (.row (encA z)), pI which, pI by_] (pB true) [] := by
  have hO := Offers_ok z hz hl
  have hr := off_right z
  have hol := off_len' z
  obtain ⟨l, hlo⟩ : ∃ l, offersF z = l := ⟨_, rfl⟩
  rw [hlo] at hO hr hol
  have hel := rowO_len l
  by_cases hfew : l.length < 2
  · refine Ok.enter hE Tryd.func6 rfl (by decide +kernel) (by kernel_rfl) rfl rfl (Nat.le_of_ble_eq_true rfl) rfl ?_
    refine ⟨_, CallR.mk1 awake_ok rfl rfl, ?_⟩
    refine ⟨_, CallR.mk1 hO rfl rfl, ?_⟩
    refine ⟨_, ltT (by rw [hel]; omega), ?_⟩
    exact Ret.mk _ rfl rfl rfl
  have hP := pick09_ok which l.length hw (by omega)
  obtain ⟨p0, p1⟩ := Pm.pk_rng (c := which) (n := (l.length : Int)) (by omega)
  obtain ⟨k, hk⟩ : ∃ k : Nat, Pm.pk which l.length = (k : Int) := ⟨(Pm.pk which l.length).toNat, by omega⟩
  rw [hk] at hP p0 p1
  have hkl : k < l.length := by omega
  obtain ⟨o, ho⟩ : ∃ o, l[k]? = some o := ⟨_, List.getElem?_eq_getElem hkl⟩
  have hop := offer_p hr (List.mem_of_getElem? ho)
  have hPb := pick09_ok by_ o.p hb (by omega)
  obtain ⟨b0, b1⟩ := Pm.pk_rng (c := by_) (n := o.p) (by omega)
  obtain ⟨v, hv⟩ : ∃ v, Pm.pk by_ o.p = v := ⟨_, rfl⟩
  rw [hv] at hPb b0 b1
  obtain ⟨m, hm⟩ : ∃ m, l.set k ⟨o.s, 1 + v⟩ = m := ⟨_, rfl⟩
  have hmr : rightO m = true := by rw [← hm]; exact set_right hr ho (by omega) (by omega)
  have hml : m.length = l.length := by rw [← hm, List.length_set]
  have hcm : ∀ u, cnt u (l.map Of.p) ≤ cnt u (m.map Of.p) := fun u => by rw [← hm]; exact cnt_mono ho (by omega)
  obtain ⟨A, hAe⟩ : ∃ A, l.take k = A := ⟨_, rfl⟩
  obtain ⟨C, hCe⟩ : ∃ C, l.drop (k + 1) = C := ⟨_, rfl⟩
  have hcut : l = A ++ o :: C := by rw [← hAe, ← hCe]; exact cut_out ho
  have hsubl : (A ++ C).Sublist l := by rw [hcut]; exact List.Sublist.append (List.Sublist.refl _) (List.sublist_cons_self _ _)
  have hfr : rightO (A ++ C) = true := right_sub hr hsubl
  have hcf : ∀ u, cnt u ((A ++ C).map Of.p) ≤ cnt u (l.map Of.p) := fun u => (hsubl.map Of.p).countP_le
  have hlen : A.length + C.length + 1 = l.length := by rw [hcut]; simp; omega
  have e1 := leaf_eval hr hol
  have e2 := leaf_eval hmr (by omega)
  have e3 := leaf_eval hfr (by rw [List.length_append]; omega)
  have s1 : SliceR E 29 (.c (.row (rowO l))) none (some (pI k)) (.c (.row (rowO A))) := by
    have := sliceW (l := l) (lo := none) (hi := some (pI k)) 0 k rfl rfl ⟨Nat.zero_le _, by omega⟩
    rw [List.drop_zero, hAe] at this
    exact this
  have s2 : SliceR E 29 (.c (.row (rowO l))) (some (pI ((k + 1 : Nat) : Int))) none (.c (.row (rowO C))) := by
    have := sliceW (l := l) (lo := some (pI ((k + 1 : Nat) : Int))) (hi := none) (k + 1) l.length rfl (by rw [hel]; rfl) ⟨by omega, Nat.le_refl _⟩
    rw [List.take_length, hCe] at this
    exact this
  have hlA := rowO_len A
  have hlC := rowO_len C
  have wr : Wk (.orow (rowO A ++ rowO C) 0) (.c (.row (rowO (A ++ C)))) := by rw [rowO_app]; exact Pr.wkOrow
  refine ⟨⟨_, Tryd.func6, by decide +kernel, by kernel_rfl⟩, fun w0 ok0 ms gs vals hst M hr0 => ?_⟩
  have hms : ms = [] := by have := M.len; simpa using this
  subst hms
  obtain rfl : gs = [] := hst rfl
  have S := Sim.entry (E := E) (fn := Tryd.f6) (bs := []) (args := [.c (.row (encA z)), pI which, pI by_]) rfl rfl (Nat.le_of_ble_eq_true rfl) M hr0
  refine calls_of_wp Tryd.func6 rfl ?_
  refine hand_seq hE (by kernel_rfl) (N := fun s => s.sl 0 = .c (.row (encA z)) ∧ s.sl 1 = pI which ∧ s.sl 2 = pI by_ ∧ s.H = [] ∧ s.T = []) ?_ S ?_
  · exact ⟨rfl, rfl, rfl, rfl, rfl⟩
  rintro ⟨sl, H, T⟩ a1 w1 ⟨k0, k1, k2, kH, kT⟩ S1
  dsimp only at k0 k1 k2 kH kT
  subst kH; subst kT
  rw [← setAll_of (f := sl) (l := [(0, .c (.row (encA z))), (1, pI which), (2, pI by_)]) ⟨k0, k1, k2, trivial⟩] at S1
  clear k0 k1 k2 S
  refine hand_seq hE (by kernel_rfl) (N := fun s => s.sl 0 = .c (.row (encA z)) ∧ s.sl 1 = pI which ∧ s.sl 2 = pI by_ ∧ s.sl 7 = pB true ∧ s.H = [] ∧ s.T = []) ?_ S1 ?_
  · refine ⟨_, CallR.mk1 awake_ok rfl rfl, ?_⟩
    exact ⟨rfl, rfl, rfl, rfl, rfl, rfl⟩
  rintro ⟨sl, H, T⟩ a2 w2 ⟨k0, k1, k2, k7, kH, kT⟩ S2
  dsimp only at k0 k1 k2 k7 kH kT
  subst kH; subst kT
  rw [← setAll_of (f := sl) (l := [(0, .c (.row (encA z))), (1, pI which), (2, pI by_), (7, pB true)]) ⟨k0, k1, k2, k7, trivial⟩] at S2
  clear k0 k1 k2 k7 S1
  refine hand_seq hE (by kernel_rfl) (N := fun s => s.sl 1 = pI which ∧ s.sl 2 = pI by_ ∧ s.sl 7 = pB true ∧ s.sl 8 = .c (.row (rowO l)) ∧ s.H = [] ∧ s.T = []) ?_ S2 ?_
  · refine ⟨_, CallR.mk1 hO rfl rfl, ?_⟩
    exact ⟨rfl, rfl, rfl, rfl, rfl, rfl⟩
  rintro ⟨sl, H, T⟩ a3 w3 ⟨k1, k2, k7, k8, kH, kT⟩ S3
  dsimp only at k1 k2 k7 k8 kH kT
  subst kH; subst kT
  rw [← setAll_of (f := sl) (l := [(1, pI which), (2, pI by_), (7, pB true), (8, .c (.row (rowO l)))]) ⟨k1, k2, k7, k8, trivial⟩] at S3
  clear k1 k2 k7 k8 S2
  refine hand_seq hE (by kernel_rfl) (N := fun s => s.sl 1 = pI which ∧ s.sl 2 = pI by_ ∧ s.sl 7 = pB true ∧ s.sl 8 = .c (.row (rowO l)) ∧ s.H = [] ∧ s.T = []) ?_ S3 ?_
  · refine ⟨_, ltN (by rw [hel]; omega), ?_⟩
    exact ⟨rfl, rfl, rfl, rfl, rfl, rfl⟩
  rintro ⟨sl, H, T⟩ a4 w4 ⟨k1, k2, k7, k8, kH, kT⟩ S4
  dsimp only at k1 k2 k7 k8 kH kT
  subst kH; subst kT
  rw [← setAll_of (f := sl) (l := [(1, pI which), (2, pI by_), (7, pB true), (8, .c (.row (rowO l)))]) ⟨k1, k2, k7, k8, trivial⟩] at S4
  clear k1 k2 k7 k8 S3
  refine hand_seq hE (by kernel_rfl) (N := fun s => s.sl 2 = pI by_ ∧ s.sl 7 = pB true ∧ s.sl 8 = .c (.row (rowO l)) ∧ s.sl 9 = pI k) ?_ S4 ?_
  · refine ⟨_, CallR.mk1 (by rw [hel]; exact hP) rfl rfl, ?_⟩
    exact ⟨rfl, rfl, rfl, rfl⟩
  rintro s5 a5 w5 ⟨k2, k7, k8, k9⟩ S5
  obtain ⟨g5, i5, z5, d5⟩ := sim_grown S5
  obtain ⟨ok5, hok5, r8⟩ := sim_row (w' := w5) (ok := ok0) S5 k8
  have t2 := sim_int S5 k2
  have t7 := sim_bool S5 k7
  have t9 := sim_int S5 k9
  clear S5 S4 k2 k7 k8 k9
  have S6 := sim_fresh (n := Tryd.f6.ntmps) (vars := [(2, .int .i64 by_), (7, .bool true), (8, .row (rowO l)), (9, .int .i64 k)]) i5 hok5 (Nat.le_trans M.gb g5.size) z5 d5 ⟨by rw [t2]; exact .int _ _, by rw [t7]; exact .bool _, r8, by rw [t9]; exact .int _ _, trivial⟩
  refine wp_seq ?_
  refine region_keep (ks := [2, 7, 8, 9]) (a0 := a5) (K := fun s => s.sl 10 = .orow (rowO l) 0 ∧ s.T = [(l.length, 37)]) hE (by kernel_rfl) ?_ S6 (KeepS.refl _ a5) ?_
  · refine ⟨_, _, AppR.first (ys := rowO l) rfl rfl (by decide) rfl rfl (rowO_two l) (by omega) (by show _ * 24 ≤ _; omega), ?_⟩
    exact ⟨rfl, by show [((rowO l).length, _)] = _; rw [hel]⟩
  rintro s6 a6 w6 ⟨k10, kT⟩ S6' p6
  obtain ⟨g, cap, cur, t10, hg0, hgc, hlc, hcmx, hcs, hcur⟩ := grown_place S6' k10 (by rw [kT]; rfl) (by intro e; rw [e] at hfew; simp at hfew)
  obtain ⟨g6, i6, z6, d6⟩ := sim_grown S6'
  have hroom := room_cells (m := [some g]) (hcur w6 ok5) (by rw [hcs]; omega)
  obtain ⟨sp, hsp⟩ : ∃ sp, List.replicate (cur.size - l.length * 2) PV.undef = sp := ⟨_, rfl⟩
  have hstk := room_stk l (cur.size - l.length * 2)
  rw [hsp] at hroom hstk
  have u2 := (p6 2 (by simp)).trans t2
  have u7 := (p6 7 (by simp)).trans t7
  have u8 : RepC w6 ok5 (a6.tmps.getD 8 undef) (.row (rowO l)) := by rw [p6 8 (by simp)]; exact repC_grown hok5 g6 r8
  have u9 := (p6 9 (by simp)).trans t9
  have S7 := sim_box (n := Tryd.f6.ntmps) (ok := ok5) (vars := [(2, .int .i64 by_), (7, .bool true), (8, .row (rowO l)), (9, .int .i64 k)]) (t0 := 10) i6 (fun b o h => Nat.lt_of_lt_of_le (hok5 b o h) g6.size) (Nat.le_trans M.gb (Nat.le_trans g5.size g6.size)) z6 d6 ⟨by rw [u2]; exact .int _ _, by rw [u7]; exact .bool _, u8, by rw [u9]; exact .int _ _, trivial⟩ hgc (Nat.le_trans M.gb (Nat.le_trans g5.size hg0)) (fun o h => by have := hok5 _ _ h; omega) hroom hstk.1 hstk.2 t10 hlc
  clear S6' S6 k10 kT hroom hcur hstk t10
  show Code.wp E.P _ _ a6 w6
  refine wp_seq ?_
  refine region_keep (ks := [7, 8, 9]) (a0 := a6) (K := fun s => s.sl 10 = .brow 0 l.length ∧ s.H = [fP m ++ sp]) hE (by kernel_rfl) ?_ S7 (KeepS.refl _ a6) ?_
  · refine ⟨_, idxB (j := k) (sz := 2) rfl hkl rfl rfl rfl, ?_⟩
    refine loadStep (v := .c (.int .i64 o.p)) ?_ ?_
    · exact loadPE ho rfl rfl rfl
    refine ⟨_, CallR.mk1 hPb rfl rfl, ?_⟩
    refine ⟨_, addV (z := 1 + v) rfl (by omega) (by omega), ?_⟩
    refine ⟨_, idxB (j := k) (sz := 2) rfl hkl rfl rfl rfl, ?_⟩
    refine storeStep (storeP rfl rfl ho) ?_
    exact ⟨rfl, by rw [← hm]; rfl⟩
  rintro s7 a7 w7 ⟨k10, kH⟩ S7' p7
  obtain ⟨g7, i7, z7, d7, cap7, arr, ty, t10, hc7, hg7, ok', mm, tk, hr7⟩ := box_left S7' kH k10
  have hgr : w0.grownBy w7 none := grown_own (grown_trans g5 g6) g7 (Nat.le_trans g5.size hg0)
  have hg7l := blk_lt' hg7
  have v7 := (p7 7 (by simp)).trans u7
  have v9 := (p7 9 (by simp)).trans u9
  have v8 : RepC w7 (fun b _ => b < w7.heap.size) (a7.tmps.getD 8 undef) (.row (rowO l)) := by
    rw [p7 8 (by simp)]
    exact u8.stay (stay_of _ (fun q hq ⟨x, hx⟩ => g7.block q hq (by intro e; injection e with e; have := hok5 _ _ hx; omega)) (fun b o h => Nat.lt_of_lt_of_le (hok5 b o h) g6.size) (fun b o h => Nat.lt_of_lt_of_le (hok5 b o h) (Nat.le_trans g6.size g7.size)))
  have v10 : RepC w7 (fun b _ => b < w7.heap.size) (a7.tmps.getD 10 undef) (.row (rowO m)) := by
    rw [t10, ← hml]
    exact row_left hg7 hr7 (by rw [hml]; exact hc7) (fun x _ => hg7l)
  have S8 := sim_fresh (n := Tryd.f6.ntmps) (ok := fun b _ => b < w7.heap.size) (vars := [(7, .bool true), (8, .row (rowO l)), (9, .int .i64 k), (10, .row (rowO m))]) i7 (fun b o h => h) (Nat.le_trans M.gb hgr.size) z7 d7 ⟨by rw [v7]; exact .bool _, v8, by rw [v9]; exact .int _ _, v10, trivial⟩
  clear S7' S7 k10 kH
  show Code.wp E.P _ _ a7 w7
  refine ret_anew M hgr (by kernel_rfl) ?_ S8
  refine ⟨_, s1, ?_⟩
  refine ⟨_, _, AppR.first (ys := rowO A) rfl rfl (by decide) rfl rfl (rowO_two A) (by omega) (by show _ * 24 ≤ _; omega), ?_⟩
  refine ⟨_, addV (z := ((k + 1 : Nat) : Int)) (by push_cast; rfl) (by omega) (by omega), ?_⟩
  refine ⟨_, s2, ?_⟩
  refine ⟨_, _, AppR.more (ys := rowO C) rfl rfl (by decide) rfl rfl (rowO_two A) (rowO_two C) rfl (by omega) (by show _ * 24 ≤ _; omega), ?_⟩
  refine ⟨_, ⟨_, rfl, rfl⟩, ?_⟩
  refine Loop.cut (α := Nat) (fun j => j ≤ 2) (fun j => [(7, pB true), (8, .c (.row (rowO l))), (10, .c (.row (rowO m))), (11, .orow (rowO A ++ rowO C) 0), (58, .c (.row [[.int .i64 1], [.int .i64 2]])), (59, pI 2), (60, pI j)]) (fun _ => []) (fun _ => [((rowO A).length + (rowO C).length, 37)]) (fun j => 2 - j) 0 0 (fun _ => rfl) (fun _ => rfl) (fun _ => rfl) (Nat.zero_le _) ⟨⟨rfl, rfl, rfl, rfl, rfl, rfl, rfl, trivial⟩, rfl, rfl⟩ ?_
  intro j f hj
  by_cases hjl : j < 2
  rotate_left
  · refine ⟨_, ltN (by omega), ?_⟩
    exact Ret.mk _ rfl rfl rfl
  have hrow : ([[CV.int .i64 1], [CV.int .i64 2]] : List (List CV))[j]? = some [.int .i64 ((j + 1 : Nat) : Int)] := by
    match j, hjl with
    | 0, _ => rfl
    | 1, _ => rfl
  have d1 := e1 j hjl
  have d2 := e2 j hjl
  have d3 := e3 j hjl
  have wl := Wk.aggW (wk_leaf ((j + 1 : Nat) : Int) 0 e0)
  have hPl := prs_len l
  obtain ⟨x, hx⟩ : ∃ x, (prs l)[j]? = some x := ⟨_, List.getElem?_eq_getElem (by omega)⟩
  obtain ⟨y, hy, hyx⟩ := rank_mono hcm hx
  have r1 : rankF (prs l) j = .am x := by unfold rankF; rw [hx]
  have r2 : rankF (prs m) j = .am y := by unfold rankF; rw [hy]
  rw [r1] at d1
  rw [r2] at d2
  have hnext : BinR E 3 .add (.c (.int .i64 (j : Int))) (.c (.int .i64 1)) (.c (.int .i64 ((j + 1 : Nat) : Int))) := addV (by push_cast; rfl) (by omega) (by omega)
  cases hc : (prs (A ++ C))[j]? with
  | none =>
    have r3 : rankF (prs (A ++ C)) j = .no := by unfold rankF; rw [hc]
    rw [r3] at d3
    refine ⟨_, ltT (by omega), ?_⟩
    refine ⟨_, idxV (j := j) hrow rfl rfl rfl rfl, ?_⟩
    refine ⟨_, CallR.mkW d1 (.cons wl (.cons (Wk.refl _) .nil)) rfl rfl, ?_⟩
    refine ⟨_, CallR.mkW d2 (.cons wl (.cons (Wk.refl _) .nil)) rfl rfl, ?_⟩
    refine ⟨_, CallR.mkW d3 (.cons wl (.cons wr .nil)) rfl rfl, ?_⟩
    refine ⟨_, neN rfl, ?_⟩
    refine ⟨_, neN rfl, ?_⟩
    refine ⟨_, neN rfl, ?_⟩
    refine ⟨_, gtN (by dsimp only [amN]; omega), ?_⟩
    refine ⟨_, hnext, ?_⟩
    exact ⟨j + 1, hjl, by show 2 - (j + 1) < 2 - j; omega, ⟨rfl, rfl, rfl, rfl, rfl, rfl, rfl, trivial⟩, ⟨_, rfl⟩, rfl⟩
  | some c =>
    have r3 : rankF (prs (A ++ C)) j = .am c := by unfold rankF; rw [hc]
    rw [r3] at d3
    obtain ⟨x', hx', hxc⟩ := rank_mono hcf hc
    rw [hx] at hx'
    injection hx' with hx'
    subst hx'
    refine ⟨_, ltT (by omega), ?_⟩
    refine ⟨_, idxV (j := j) hrow rfl rfl rfl rfl, ?_⟩
    refine ⟨_, CallR.mkW d1 (.cons wl (.cons (Wk.refl _) .nil)) rfl rfl, ?_⟩
    refine ⟨_, CallR.mkW d2 (.cons wl (.cons (Wk.refl _) .nil)) rfl rfl, ?_⟩
    refine ⟨_, CallR.mkW d3 (.cons wl (.cons wr .nil)) rfl rfl, ?_⟩
    refine ⟨_, neN rfl, ?_⟩
    refine ⟨_, neN rfl, ?_⟩
    refine ⟨_, neN rfl, ?_⟩
    refine ⟨_, gtN (by dsimp only [amN]; omega), ?_⟩
    refine ⟨_, gtN (by dsimp only [amN]; omega), ?_⟩
    refine ⟨_, hnext, ?_⟩
    exact ⟨j + 1, hjl, by show 2 - (j + 1) < 2 - j; omega, ⟨rfl, rfl, rfl, rfl, rfl, rfl, rfl, trivial⟩, ⟨_, rfl⟩, rfl⟩
end Go.Proofs.YtlhplknmcdllfaaDoor.Va
