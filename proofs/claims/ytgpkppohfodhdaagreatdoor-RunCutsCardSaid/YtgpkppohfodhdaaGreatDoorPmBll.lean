import Derived.Test.YtgpkppohfodhdaaGreatDoorPmAll
import Derived.LoopN
import Derived.Test.YtgpkppohfodhdaaGreatDoorProg
import Derived.KernelRfl
import Derived.Lib.LaidTab
import Derived.Lib.AppendIntMem
import Derived.Recover
import Derived.Test.YtgpkppohfodhdaaGreatDoorLaidRowM
import Derived.DataReads
import Derived.SizedLaws
import Derived.ChangeArms
namespace Go.Proofs.YtgpkppohfodhdaaGreatDoor.Pm
open Go Go.RowKit
set_option linter.unusedVariables false
set_option linter.unusedSimpArgs false
def DefR (w : World) (ok : Nat → Nat → Prop) (m : List (Option Nat)) (D : Option (FuncId × List AV)) (l : List Deferred) : Prop := match D with
 | none => l = []
 | some (g, cs) => ∃ caps : Array Value, l = [{ target := .fn (.func g) caps, args := #[] }] ∧ RepL (RepA w ok m) caps.toList cs
def DefLow (D : Option (FuncId × List AV)) (n : Nat) : Prop := match D with
 | none => True
 | some (_, cs) => cs.all (lowA n) = true
theorem DefLow.mono {D : Option (FuncId × List AV)} {n k : Nat} (h : n ≤ k) (hD : DefLow D n) : DefLow D k := by
 cases D with
 | none => trivial
 | some d => exact ALt.mono h hD
theorem DefR.later {w : World} {ok : Nat → Nat → Prop} {m : List (Option Nat)} {w' : World} {ok' : Nat → Nat → Prop} {m' : List (Option Nat)} {D : Option (FuncId × List AV)} {l : List Deferred} (S : Stay w ok w' ok') (L : ∀ (i b : Nat), m[i]? = some (some b) → m'[i]? = some (some b)) (h : DefR w ok m D l) : DefR w' ok' m' D l := by
 cases D with
 | none => exact h
 | some d => obtain ⟨caps, h1, h2⟩ := h; exact ⟨caps, h1, h2.mono fun _ _ h => h.later S L⟩
theorem DefR.nil {w : World} {ok : Nat → Nat → Prop} {m : List (Option Nat)} {D : Option (FuncId × List AV)} {l : List Deferred} (h : DefR w ok m D l) (hD : D = none) : l = [] := by
 subst hD; exact h
theorem DefR.low {w : World} {ok : Nat → Nat → Prop} {m : List (Option Nat)} {D : Option (FuncId × List AV)} {l : List Deferred} (h : DefR w ok m D l) : DefLow D m.length := by
 cases D with
 | none => trivial
 | some d =>
  obtain ⟨caps, h1, h2⟩ := h
  show d.2.all (lowA m.length) = true
  rw [List.all_eq_true]
  intro x hx
  obtain ⟨i, hi⟩ := List.mem_iff_getElem?.1 hx
  obtain ⟨v, hv, hr⟩ := h2.get hi
  cases hr with
  | p j o b hm => exact decide_eq_true (List.getElem?_eq_some_iff.1 hm).1
  | c => rfl
  | a => rfl
def Sim (E : Env) (B : Base) (D : Option (FuncId × List AV)) (n : Nat) (s : St) (a : Act) (w : World) : Prop := ∃ (m : List (Option Nat)) (tk : List TokR) (ok : Nat → Nat → Prop), Mem E B s.H m tk ok w ∧ s.T = (tk.map fun r => (r.len, r.e)) ∧ a.tmps.size = n ∧
 (∀ t, Rep w ok m tk (a.tmps.getD t undef) (s.sl t)) ∧ DefR w ok m D a.defers ∧ (∀ (i b : Nat), B.m0[i]? = some b → m[i]? = some (some b)) ∧ (∀ b o, B.ok0 b o → ok b o) ∧ (∀ i, i < s.H.length → ∃ b, m[i]? = some (some b)) ∧ WF s
section
variable {E : Env} {B : Base} {D : Option (FuncId × List AV)} {H : List (List PV)} {m : List (Option Nat)} {tk : List TokR} {ok : Nat → Nat → Prop} {w : World}
theorem ev_rep {a : Act} {sl : Nat → PV} (h : ∀ t, Rep w ok m tk (a.tmps.getD t undef) (sl t)) (x : Operand) : Rep w ok m tk (a.eval x) (ev sl x) := by
 cases x with
 | tmp t => exact h t
 | const v => exact rep_ofVal v
 | global g => exact .undef _
 | func f => exact .c _ _ (.fn f)
theorem ev_reps {a : Act} {sl : Nat → PV} (h : ∀ t, Rep w ok m tk (a.tmps.getD t undef) (sl t)) (l : List Operand) : RepL (Rep w ok m tk) (l.map a.eval) (l.map (ev sl)) := by
 induction l with
 | nil => exact .nil
 | cons x l ih => exact .cons (ev_rep h x) ih
theorem avs_rep : ∀ {vs : List Value} {ps : List PV} {avl : List AV}, RepL (Rep w ok m tk) vs ps → avsF ps = some avl → RepL (RepA w ok m) vs avl
 | [], [], avl, h, ha => by simp [avsF] at ha; subst ha; exact .nil
 | [], _ :: _, avl, h, ha => by simp [RepL] at h
 | _ :: _, [], avl, h, ha => by simp [RepL] at h
 | v :: vs, p :: ps, avl, h, ha => by
  simp only [avsF] at ha
  split at ha
  ·rename_i b l h1 h2
   injection ha with ha; subst ha
   refine .cons ?_ (avs_rep h.tail h2)
   have h3 := h.head
   cases h3 <;> simp [PV.av] at h1 <;> subst h1
   ·rename_i hc; exact .c _ _ hc
   ·rename_i hc; exact .a _ _ hc
   ·rename_i hm; exact .p _ _ _ hm
  ·cases ha
theorem reps_pv {vs : List Value} {avl : List AV} (h : RepL (RepA w ok m) vs avl) : RepL (Rep w ok m tk) vs (avl.map AV.pv) := by
 refine ⟨by rw [List.length_map]; exact h.1, fun i v p hv hp => ?_⟩
 rw [List.getElem?_map] at hp
 cases hq : avl[i]? with
 | none => simp [hq] at hp
 | some b => simp [hq] at hp; subst hp; exact (h.2 i v b hv hq).pv
theorem idxN_at : ∀ {ids : List Nat} {i k n : Nat}, idxN ids i n = some k → n ≤ k ∧ ids[k - n]? = some i
 | [], i, k, n, h => by simp [idxN] at h
 | j :: ids, i, k, n, h => by
  unfold idxN at h
  split at h
  ·rename_i hb
   injection h with h; subst h
   rw [Nat.eq_of_beq_eq_true hb]
   simp
  ·obtain ⟨h1, h2⟩ := idxN_at h
   refine ⟨by omega, ?_⟩
   rw [show k - n = (k - (n + 1)) + 1 by omega]
   simpa using h2
theorem avArg_rep {m' : List (Option Nat)} {ids : List Nat} (hm : ∀ (k i b : Nat), ids[k]? = some i → m[i]? = some (some b) → m'[k]? = some (some b)) {v : Value} {p q : AV} (h : RepA w ok m v p) (hq : avArg ids p = some q) : RepA w ok m' v q := by
 cases h with
 | p i off b hb =>
  simp only [avArg] at hq
  split at hq
  ·rename_i k hk
   injection hq with hq; subst hq
   exact .p k off b (hm k i b (by simpa using (idxN_at hk).2) hb)
  ·cases hq
 | c v p h => simp only [avArg] at hq; injection hq with hq; subst hq; exact .c _ _ h
 | a cs ds h => simp only [avArg] at hq; injection hq with hq; subst hq; exact .a _ _ h
theorem avsArg_rep {m' : List (Option Nat)} {ids : List Nat} (hm : ∀ (k i b : Nat), ids[k]? = some i → m[i]? = some (some b) → m'[k]? = some (some b)) : ∀ {vs : List Value} {ps qs : List AV}, RepL (RepA w ok m) vs ps → avsArg ids ps = some qs → RepL (RepA w ok m') vs qs
 | [], [], qs, h, ha => by simp [avsArg] at ha; subst ha; exact .nil
 | [], _ :: _, qs, h, ha => by simp [RepL] at h
 | _ :: _, [], qs, h, ha => by simp [RepL] at h
 | v :: vs, p :: ps, qs, h, ha => by
  simp only [avsArg] at ha
  split at ha
  ·rename_i b l h1 h2
   injection ha with ha; subst ha
   exact .cons (avArg_rep hm h.head h1) (avsArg_rep hm h.tail h2)
  ·cases ha
theorem pvArg_rep {m' : List (Option Nat)} {tk' : List TokR} {ids : List Nat} (hm : ∀ (k i b : Nat), ids[k]? = some i → m[i]? = some (some b) → m'[k]? = some (some b)) {v : Value} {p q : PV} (h : Rep w ok m tk v p) (hq : pvArg ids p = some q) : Rep w ok m' tk' v q := by
 cases h with
 | c v p h => simp only [pvArg] at hq; injection hq with hq; subst hq; exact .c _ _ h
 | agg cs ds h => simp only [pvArg] at hq; injection hq with hq; subst hq; exact .agg _ _ h
 | ifc t cs ds h => simp only [pvArg] at hq; injection hq with hq; subst hq; exact .ifc _ _ _ h
 | nif => simp only [pvArg] at hq; injection hq with hq; subst hq; exact .nif
 | ptr i off b hb =>
  simp only [pvArg] at hq
  split at hq
  ·rename_i k hk
   injection hq with hq; subst hq
   exact .ptr k off b (hm k i b (by simpa using (idxN_at hk).2) hb)
  ·cases hq
 | clos f fs cs ps qs h1 h2 =>
  simp only [pvArg] at hq
  split at hq
  ·rename_i a' b' h3 h4
   injection hq with hq; subst hq
   exact .clos f _ _ _ _ (avsArg_rep hm h1 h3) (avsArg_rep hm h2 h4)
  ·cases hq
 | _ => simp [pvArg] at hq
theorem args_rep {m' : List (Option Nat)} {tk' : List TokR} {ids : List Nat} (hm : ∀ (k i b : Nat), ids[k]? = some i → m[i]? = some (some b) → m'[k]? = some (some b)) : ∀ {vs : List Value} {ps qs : List PV}, RepL (Rep w ok m tk) vs ps → argsF ids ps = some qs → RepL (Rep w ok m' tk') vs qs
 | [], [], qs, h, ha => by simp [argsF] at ha; subst ha; exact .nil
 | [], _ :: _, qs, h, ha => by simp [RepL] at h
 | _ :: _, [], qs, h, ha => by simp [RepL] at h
 | v :: vs, p :: ps, qs, h, ha => by
  simp only [argsF] at ha
  split at ha
  ·rename_i b l h1 h2
   injection ha with ha; subst ha
   exact .cons (pvArg_rep hm h.head h1) (args_rep hm h.tail h2)
  ·cases ha
theorem getL_at : ∀ {ids : List Nat} {cs : List (List PV)}, getL H ids = some cs → cs.length = ids.length ∧ ∀ (k i : Nat), ids[k]? = some i → ∃ c, H[i]? = some c ∧ cs[k]? = some c
 | [], cs, h => by simp [getL] at h; subst h; exact ⟨rfl, fun k i hk => by simp at hk⟩
 | j :: ids, cs, h => by
  simp only [getL] at h
  split at h
  ·rename_i c l h1 h2
   injection h with h; subst h
   obtain ⟨h3, h4⟩ := getL_at h2
   refine ⟨by simp [h3], fun k i hk => ?_⟩
   cases k with
   | zero => simp at hk; subst hk; exact ⟨c, h1, rfl⟩
   | succ k => simpa using h4 k i (by simpa using hk)
  ·cases h
theorem WkLL.at {cs bs : List (List PV)} (h : WkLL cs bs) : cs.length = bs.length ∧ ∀ (k : Nat) (c : List PV), cs[k]? = some c → ∃ d, bs[k]? = some d ∧ WkL c d ∧ StkOK c d := by
 induction h with
 | nil => exact ⟨rfl, fun k c h => by simp at h⟩
 | cons h t hst ih =>
  refine ⟨by simp [ih.1], fun k c hk => ?_⟩
  cases k with
  | zero => simp at hk; subst hk; exact ⟨_, rfl, h, hst⟩
  | succ k => simpa using ih.2 k c (by simpa using hk)
theorem Mem.forget (M : Mem E B H m tk ok w) : Mem E B [] [] [] ok w :=
 ⟨M.inv, M.os, M.tape, M.output, M.size, M.frame, M.okb, M.oks, rfl, fun i b h => by simp at h, fun i j b h => by simp at h, fun t r h => by simp at h, fun t u r s a h => by simp at h, M.gb, fun t r i h => by simp at h, .nil⟩
theorem Mem.panS (M : Mem E B H m tk ok w) {w' : World} {ok' : Nat → Nat → Prop} {ms gs : List Nat} (hms : ∀ b ∈ ms, ∃ i : Nat, m[i]? = some (some b)) (hgs : ∀ g ∈ gs, g ∈ B.g0 ∨ B.w0.heap.size ≤ g) (M' : Mem E ⟨w, ok, ms, gs⟩ [] [] [] ok' w') : Mem E B [] [] [] ok' w' := by
 refine ⟨M'.inv, M'.os.trans M.os, M'.tape.trans M.tape, M'.output.trans M.output, Nat.le_trans M.size M'.size, fun k h1 h2 h2' => ?_, fun b o h => ?_, M'.oks, rfl, fun i b h => by simp at h, fun i j b h => by simp at h, fun t r h => by simp at h, fun t u r s a h => by simp at h, M.gb, fun t r i h => by simp at h, .nil⟩
 ·rw [M'.frame k (by have := M.size; show k < w.heap.size; omega) (fun hm => by
   obtain ⟨i, hi⟩ := hms k hm
   obtain ⟨_, _, _, _, _, _, _, _, g6⟩ := M.box i k hi
   rcases g6 with g6 | g6
   ·exact h2 g6
   ·omega) (fun hm => by
   rcases hgs k hm with g6 | g6
   ·exact h2' g6
   ·omega)]
  exact M.frame k h1 h2 h2'
 ·rcases M'.okb b o h with h | h
  ·exact M.okb b o h
  ·exact .inr (Nat.le_trans M.size h)
theorem own_base (M : Mem E B H m tk ok w) {gs ids : List Nat} (hgs : ∀ g ∈ gs, ∃ i j v e xs, i ∈ ids ∧ StkAt H m w i j v e xs ∧ v.ownBlock = some g) : ∀ g ∈ gs, g ∈ B.g0 ∨ B.w0.heap.size ≤ g := by
 intro g hg
 obtain ⟨i, j, v, e, xs, -, h1, h2⟩ := hgs g hg
 obtain ⟨_, _, _, _, _, _, h3⟩ := M.stk.own i j v e xs h1
 exact (h3 g h2).2
theorem cells_stk {p : PV} {cs : List PV} (h : p.cells = some cs) : ∀ q ∈ cs, q.isStk = false := by
 cases p <;> simp [PV.cells] at h <;> subst h <;> intro q hq <;> simp at hq <;> first | (subst hq; rfl) | (obtain ⟨a, -, rfl⟩ := hq; rfl)
theorem newBox_stk {E : Env} {sl : Nat → PV} {op : Op} {cs : List PV} (h : newBoxF E sl op = some cs) : ∀ q ∈ cs, ∀ e xs, q ≠ .stk e xs := by
 unfold newBoxF at h
 split at h
 ·split at h
  ·injection h with h; subst h
   intro q hq e xs
   rcases zeroB_mem hq with ⟨c, rfl⟩ | ⟨t, rfl⟩ <;> simp
  ·cases h
 ·exact isStk_ne (cells_stk h)
 ·cases h
theorem zeroB_fr (F : Fl) (t : Nat) (z : List CV) : FrB (zeroB F t z) t := fun u hu => by
 rcases zeroB_cases F t z with e | ⟨r, -, e⟩ <;> rw [e] at hu
 ·rw [List.getElem?_map] at hu
  cases hq : z[0]? <;> rw [hq] at hu <;> simp at hu
 ·simp at hu; exact hu
theorem zeroB_rep {F : Fl} {t : Nat} {z : List CV} {vs : List Value} (h : RepL (RepC w ok) vs z) : RepL (Rep w ok m tk) vs (zeroB F t z) := by
 rcases zeroB_cases F t z with e | ⟨r, rfl, e⟩ <;> rw [e]
 ·refine ⟨by simpa using h.1, fun i v p hv hp => ?_⟩
  rw [List.getElem?_map] at hp
  cases hq : z[i]? with
  | none => simp [hq] at hp
  | some c => simp [hq] at hp; subst hp; exact .c _ _ (h.2 i v c hv hq)
 ·cases vs with
  | nil => have := h.1; simp at this
  | cons v vs =>
   have h1 := h.head
   have h2 := h.tail
   cases h1
   refine .cons (.fresh t) ⟨by simpa using h2.1, fun i v p hv hp => ?_⟩
   rw [List.getElem?_map] at hp
   cases hq : r[i]? with
   | none => simp [hq] at hp
   | some c => simp [hq] at hp; subst hp; exact .c _ _ (h2.2 i v c hv hq)
theorem fitB_PLt {n : Nat} {p : PV} (h : fitB n p = true) : PLt n p := by
 cases p with
 | ptr i o => exact (of_decide_eq_true h : i < n)
 | clos f a b =>
  have h : (a ++ b).all (fitA n) = true := h
  show (a ++ b).all (ALt n) = true
  rw [List.all_eq_true] at h ⊢
  intro x hx
  have := h x hx
  cases x with
  | p i o => exact this
  | _ => rfl
 | mclo fs i => exact (of_decide_eq_true h : i < n)
 | _ => first | trivial | exact closedB_PLt h
theorem rep_ptr {v : Value} {i o : Nat} (h : Rep w ok m tk v (.ptr i o)) : ∃ ad, v = .pointer (some ad) := by cases h; exact ⟨_, rfl⟩
theorem rep_iptr {v : Value} {cs : List CV} (h : Rep w ok m tk v (.iptr cs)) : ∃ ad, v = .pointer (some ad) := by cases h; exact ⟨_, rfl⟩
theorem rep_tup {v : Value} {vs : List PV} (h : Rep w ok m tk v (.tup vs)) : ∃ cs, v = .tuple cs ∧ RepL (Rep w ok m tk) cs.toList vs := by
 cases h with
 | tup cs ds hl hh => exact ⟨cs, rfl, hl, hh⟩
theorem opF_run (hE : EnvOK E) (M : Mem E B H m tk ok w) {a : Act} {sl : Nat → PV} (hs : ∀ t, Rep w ok m tk (a.tmps.getD t undef) (sl t)) {o : Oper} {z : PV} (h : opF E H sl o.op = some z) :
  ∃ v, (execOp a.eval o).run E.P w = .ok (.value v) w ∧ Rep w ok m tk v z := by
 obtain ⟨dst, op, ty, pos, after, guard⟩ := o
 have hx := ev_rep hs
 dsimp only at h
 cases op <;> try (simp only [opF] at h; cases h; done)
 case move x => simp only [opF] at h; injection h with h; subst h; exact ⟨_, rfl, hx x⟩
 case assign x => simp only [opF] at h; injection h with h; subst h; exact ⟨_, rfl, hx x⟩
 case nilCheck x =>
  simp only [opF] at h
  have h1 := hx x
  split at h
  ·rename_i i o he
   injection h with h; subst h
   rw [he] at h1
   obtain ⟨ad, had⟩ := rep_ptr h1
   exact ⟨a.eval x, by simp [execOp, had], h1⟩
  ·rename_i cs he
   injection h with h; subst h
   rw [he] at h1
   obtain ⟨ad, had⟩ := rep_iptr h1
   exact ⟨a.eval x, by simp [execOp, had], h1⟩
  ·cases h
 case pick c x y =>
  simp only [opF] at h
  split at h
  ·rename_i hc
   injection h with h; subst h
   have h1 := hx c; rw [hc] at h1
   exact ⟨a.eval x, by simp [execOp, h1.bool_inv, asBool], hx x⟩
  ·rename_i hc
   injection h with h; subst h
   have h1 := hx c; rw [hc] at h1
   exact ⟨a.eval y, by simp [execOp, h1.bool_inv, asBool], hx y⟩
  ·cases h
 case build t ps =>
  obtain ⟨v, h1, h2⟩ := build_run (m := m) (tk := tk) (w := w) (ok := ok) hE (vs := ps.map fun (i, x) => (i, a.eval x)) h (by simp) (by simpa [Function.comp_def] using ev_reps hs (ps.toList.map (·.2)))
  exact ⟨v, by simp [execOp, h1], h2⟩
 case load t x =>
  simp only [opF] at h
  split at h
  ·rename_i ti hT
   have h1 := hx x
   have hq : ∃ ad, a.eval x = .pointer (some ad) := by
    cases hp : ev sl x <;> rw [hp] at h h1 <;> first | exact rep_ptr h1 | exact rep_iptr h1 | (simp [loadF] at h)
   obtain ⟨ad, had⟩ := hq
   rw [had] at h1
   have : ∃ v, (loadVar t ad).run E.P w = .ok v w ∧ Rep w ok m tk v z := by
    cases hp : ev sl x <;> rw [hp] at h h1 <;> first | exact box_load hE M hT h1 h | exact load_iptr hE hT h1 h | (simp [loadF] at h)
   obtain ⟨v, h2, h3⟩ := this
   exact ⟨v, by simp [execOp, Instr.loadAt, had, Instr.sureAddr, h2], h3⟩
  ·cases h
 case binOp b t x y u =>
  obtain ⟨v, h1, h2⟩ := binE_run (x := x) (y := y) hE h (hx x) (hx y)
  refine ⟨v, ?_, h2⟩
  simp only [execOp, Sem.run_bind] at h1 ⊢
  rw [h1]
  rfl
 case unOp b t x =>
  obtain ⟨v, h1, h2⟩ := unF_run (P := E.P) h (hx x)
  exact ⟨v, by simp [execOp, h1], h2⟩
 case convert b t x =>
  obtain ⟨v, h1, h2⟩ := conv_run hE h (hx x)
  exact ⟨v, by simp [execOp, h1], h2⟩
 case slice t x lo hi mx =>
  cases mx with
  | some mx =>
   cases hi with
   | none => cases h
   | some hi =>
    have ho : RepO w ok m tk (lo.map a.eval) (lo.map (ev sl)) := by
     cases lo with
     | none => trivial
     | some q => exact hx q
    obtain ⟨v, h1, h2⟩ := slice3_run hE h (hx x) ho (hx hi) (hx mx)
    exact ⟨v, by simp [execOp, h1], h2⟩
  | none =>
   have ho : ∀ q : Option Operand, RepO w ok m tk (q.map a.eval) (q.map (ev sl)) := by
    intro q
    cases q with
    | none => trivial
    | some q => exact hx q
   obtain ⟨v, h1, h2⟩ := slice_run hE h (hx x) (ho lo) (ho hi)
   exact ⟨v, by simp [execOp, h1], h2⟩
 case fieldAddr t x f =>
  obtain ⟨v, h1, h2⟩ := fieldAddr_run hE h (hx x)
  exact ⟨v, by simp [execOp, h1], h2⟩
 case field t x f =>
  obtain ⟨v, h1, h2⟩ := fieldF_run hE h (hx x)
  exact ⟨v, by simp [execOp, h1], h2⟩
 case indexAddr t x i =>
  obtain ⟨v, h1, h2⟩ := indexAddr_run hE h (hx x) (hx i)
  exact ⟨v, by simp [execOp, h1], h2⟩
 case index t x i =>
  obtain ⟨v, h1, h2⟩ := index_run hE h (hx x) (hx i)
  exact ⟨v, by simp [execOp, h1], h2⟩
 case extract x i =>
  simp only [opF] at h
  split at h
  ·rename_i vs hv
   have h1 := hx x
   rw [hv] at h1
   obtain ⟨cs, hcs, hr⟩ := rep_tup h1
   obtain ⟨v, h2, h3⟩ := hr.get h
   have h2' : cs[i]? = some v := by simpa using h2
   exact ⟨v, by simp [execOp, hcs, Instr.extract, h2'], h3⟩
  ·cases h
 case makeFunc fn fs cs =>
  simp only [opF] at h
  split at h
  ·rename_i f
   have hrun : (execOp a.eval ⟨dst, .makeFunc (.func f) fs cs, ty, pos, after, guard⟩).run E.P w = .ok (.value (.func (.func f) (fs.map a.eval) (cs.map a.eval))) w := by simp [execOp, Instr.makeFunc]
   refine ⟨_, hrun, ?_⟩
   unfold closF at h
   split at h
   ·rename_i h1 h2
    injection h with h; subst h
    have e1 : fs = #[] := by simpa using h1
    have e2 : cs = #[] := by simpa using h2
    subst e1; subst e2
    simpa using (Rep.c (w := w) (ok := ok) (m := m) (tk := tk) _ _ (RepC.fn f))
   ·split at h
    ·rename_i ps qs h1 h2
     injection h with h; subst h
     exact .clos f _ _ ps qs (by simpa using avs_rep (ev_reps hs fs.toList) h1) (by simpa using avs_rep (ev_reps hs cs.toList) h2)
    ·cases h
  ·cases h
 case makeInterface t x =>
  simp only [opF] at h
  split at h
  ·rename_i fs sz zz bb cs hT hcs
   injection h with h; subst h
   obtain ⟨d, hu, hk, -⟩ := ty_run (w := w) (ok := ok) hE hT
   have h1 := hx x
   rw [hcs] at h1
   generalize hv : a.eval x = v at h1
   cases h1 with
   | agg vs _ hr =>
    refine ⟨.iface t (.agg vs), ?_, .ifc t vs cs hr⟩
    cases d <;> simp [kindOf] at hk
    simp [execOp, Instr.makeInterface, hu, hv]
  ·cases h
 case typeAssert x u t b =>
  cases b with
  | false => simp only [opF] at h; cases h
  | true =>
   simp only [opF] at h
   split at h
   ·rename_i ti hT
    obtain ⟨d, hu, hk, hs, ha, zv, hz, hzr, hpu⟩ := ty_run (w := w) (ok := ok) hE hT
    have h1 := hx x
    have tupR : ∀ {v : Value} {cs : List CV} {b : Bool}, Rep w ok m tk v (.agg cs) → Rep w ok m tk (.tuple #[v, .bool b]) (.tup [.agg cs, .bool b]) := by
     intro v cs b hv
     refine .tup _ _ rfl fun i v' d' hv' hd' => ?_
     match i with
     | 0 => simp at hv' hd'; subst hv'; subst hd'; exact hv
     | 1 => simp at hv' hd'; subst hv'; subst hd'; exact .mkBool _
     | n + 2 => simp at hv'
    have zagg : ∀ fs, ti.k = .struct fs → Rep w ok m tk zv (.agg ti.zero) := by
     intro fs hfs
     have hagg : ∃ cs, zv = .agg cs := by
      obtain ⟨ti', d', z', zs', g1, g2, g3, g4, g5⟩ := ty_parts hE hT
      obtain ⟨cs, e⟩ := ty_zagg hE hT hfs g1 g3
      have : (zeroValue t).run E.P w = .ok z' w := by simp [zeroValue, typeInfo, g1, g3]
      rw [hz] at this
      injection this with this
      exact ⟨cs, this.trans e⟩
     obtain ⟨cs, rfl⟩ := hagg
     exact .agg _ _ (by simpa [Value.cells] using hzr)
    unfold assertF at h
    split at h
    ·rename_i u' cs hev
     rw [hev] at h1
     split at h
     ·rename_i fs hfs
      generalize hv : a.eval x = v at h1
      cases h1 with
      | ifc _ vs _ hr =>
       have hd : ∃ fa, d = .struct fa := by cases d <;> simp [hfs, kindOf] at hk; exact ⟨_, rfl⟩
       obtain ⟨fa, rfl⟩ := hd
       split at h
       ·rename_i hb
        injection h with h; subst h
        have := Nat.eq_of_beq_eq_true hb
        subst this
        exact ⟨.tuple #[.agg vs, .bool true], by simp [execOp, Instr.typeAssert, hv, hu], tupR (.agg _ _ hr)⟩
       ·rename_i hb
        injection h with h; subst h
        have hne : u' ≠ t := by rintro rfl; rw [Nat.beq_refl] at hb; cases hb
        exact ⟨.tuple #[zv, .bool false], by simp [execOp, Instr.typeAssert, hv, hu, hne, hz], tupR (zagg _ hfs)⟩
     ·cases h
    ·rename_i hev
     rw [hev] at h1
     split at h
     ·rename_i fs hfs
      generalize hv : a.eval x = v at h1
      cases h1
      injection h with h; subst h
      have hd : ∃ fa, d = .struct fa := by cases d <;> simp [hfs, kindOf] at hk; exact ⟨_, rfl⟩
      obtain ⟨fa, rfl⟩ := hd
      exact ⟨.tuple #[zv, .bool false], by simp [execOp, Instr.typeAssert, hv, hu, hz], tupR (zagg _ hfs)⟩
     ·cases h
    ·cases h
   ·cases h
 case call c =>
  obtain ⟨ce, args, ts⟩ := c
  simp only [opF] at h
  split at h
  ·split at h
   ·rename_i x t hargs ht
    have ha : args = #[x] := by
     apply Array.ext'
     simpa using hargs
    subst ha
    obtain ⟨v, h1, h2⟩ := len_run (ty := ty) hE ht h (hx x)
    exact ⟨v, by simp [execOp, resolve, invoke, builtin, h1], h2⟩
   ·cases h
  ·obtain ⟨v, h1, h2⟩ := max_run (P := E.P) (ts := ts) (ty := ty) h (ev_reps hs args.toList)
   have e : (args.map a.eval) = (args.toList.map a.eval).toArray := by rw [← Array.toList_map, Array.toArray_toList]
   refine ⟨v, ?_, h2⟩
   simp only [execOp, resolve, invoke, builtin, Sem.run_bind, Sem.run_pure, Result.andThen_ok]
   rw [e, h1]
   rfl
  ·obtain ⟨v, h1, h2⟩ := min_run (P := E.P) (ts := ts) (ty := ty) h (ev_reps hs args.toList)
   have e : (args.map a.eval) = (args.toList.map a.eval).toArray := by rw [← Array.toList_map, Array.toArray_toList]
   refine ⟨v, ?_, h2⟩
   simp only [execOp, resolve, invoke, builtin, Sem.run_bind, Sem.run_pure, Result.andThen_ok]
   rw [e, h1]
   rfl
  ·cases h
theorem put_rep {a : Act} {sl : Nat → PV} {n : Nat} (hn : a.tmps.size = n) (hs : ∀ t, Rep w ok m tk (a.tmps.getD t undef) (sl t)) {d : Option Tmp} (hd : ∀ t, d = some t → t < n) {v : Value} {p : PV} (hv : Rep w ok m tk v p) :
  (a.put d v).tmps.size = n ∧ ∀ t, Rep w ok m tk ((a.put d v).tmps.getD t undef) (upd sl d p t) := by
 cases d with
 | none => exact ⟨hn, hs⟩
 | some d =>
  have hlt := hd d rfl
  refine ⟨by simpa [Act.put] using hn, fun t => ?_⟩
  by_cases ht : t = d
  ·subst ht
   rw [upd_same]
   have : (a.put (some t) v).tmps.getD t undef = v := by simp [Act.put, Array.getD_eq_getD_getElem?, hn, hlt]
   rw [this]; exact hv
  ·rw [upd_other (by simpa using Ne.symm ht)]
   have : (a.put (some d) v).tmps.getD t undef = a.tmps.getD t undef := by simp [Act.put, Array.getD_eq_getD_getElem?, Array.getElem?_setIfInBounds_ne (Ne.symm ht)]
   rw [this]; exact hs t
theorem put_defers (a : Act) (d : Option Tmp) (v : Value) : (a.put d v).defers = a.defers := by cases d <;> rfl
theorem Sim.next {n : Nat} {s : St} {a : Act} {w w' : World} {m m' : List (Option Nat)} {tk tk' : List TokR} {ok ok' : Nat → Nat → Prop} {H' : List (List PV)} {d : Option Tmp} {v : Value} {p : PV}
  (M : Mem E B H' m' tk' ok' w') (L : Later w ok m tk w' ok' m' tk') (hn : a.tmps.size = n) (hs : ∀ t, Rep w ok m tk (a.tmps.getD t undef) (s.sl t)) (hd : DefR w ok m D a.defers) (hm0 : ∀ (i b : Nat), B.m0[i]? = some b → m[i]? = some (some b))
  (hok : ∀ b o, B.ok0 b o → ok b o) (hall : ∀ i, i < H'.length → ∃ b, m'[i]? = some (some b)) (hdn : ∀ t, d = some t → t < n) (hwf : WF ⟨upd s.sl d p, H', tk'.map fun r => (r.len, r.e)⟩) (hv : Rep w' ok' m' tk' v p) :
  Sim E B D n ⟨upd s.sl d p, H', tk'.map fun r => (r.len, r.e)⟩ (a.put d v) w' := by
 obtain ⟨h1, h2⟩ := put_rep hn (fun t => (hs t).later L) hdn hv
 exact ⟨m', tk', ok', M, rfl, h1, h2, by rw [put_defers]; exact hd.later L.stay L.box, fun i b h => L.box i b (hm0 i b h), fun b o h => L.stay.ok b o (hok b o h), hall, hwf⟩
theorem Mem.entry (M : Mem E B H m tk ok w) : Mem E ⟨w, ok, [], []⟩ [] [] [] ok w :=
 ⟨M.inv, rfl, rfl, rfl, Nat.le_refl _, fun _ _ _ _ => rfl, fun _ _ h => .inl h, M.oks, rfl, fun i b h => by simp at h, fun i j b h => by simp at h, fun t r h => by simp at h, fun t u r s a h => by simp at h, by have := M.gb; have := M.size; show E.P.globals.size ≤ w.heap.size; omega, fun t r i h => by simp at h, .nil⟩
theorem Mem.back (M : Mem E B H m tk ok w) {w' : World} {ok' : Nat → Nat → Prop} (M' : Mem E ⟨w, ok, [], []⟩ [] [] [] ok' w') (hk : ∀ b o, ok b o → ok' b o) : Mem E B H m tk ok' w' ∧ Later w ok m tk w' ok' m tk := by
 have hf : ∀ k, k < w.heap.size → w'.heap[k]? = w.heap[k]? := fun k h => M'.frame k h (by simp) (by simp)
 have S : Stay w ok w' ok' := stay_of ok' (fun k h _ => hf k h) M.oks hk
 have L := Later.of_stay S m tk
 have hno : ∀ b o, b < w.heap.size → ¬ ok b o → ¬ ok' b o := by
  intro b o hb hn h
  rcases M'.okb b o h with h | h
  ·exact hn h
  ·have h : w.heap.size ≤ b := h
   omega
 refine ⟨⟨M'.inv, M'.os.trans M.os, M'.tape.trans M.tape, M'.output.trans M.output, Nat.le_trans M.size M'.size, fun k h1 h2 h2' => ?_, fun b o h => ?_, M'.oks, M.len, fun i b h => ?_, M.inj, fun t r h => ?_, M.tinj, M.gb, M.tsz, ?_⟩, L⟩
 ·rw [hf k (by have := M.size; omega)]; exact M.frame k h1 h2 h2'
 ·rcases M'.okb b o h with h | h
  ·exact M.okb b o h
  ·exact .inr (Nat.le_trans M.size h)
 ·obtain ⟨cs, arr, ty, h1, h2, h3, h4, h5⟩ := M.box i b h
  exact ⟨cs, arr, ty, h1, by rw [hf b (blk_lt' h2)]; exact h2, h3.mono fun _ _ h => h.later L, fun o => hno b o (blk_lt' h2) (h4 o), h5⟩
 ·exact (M.tok t r h).keep (row := none) ⟨M'.os, M'.tape, M'.output, M'.size, fun k hk _ => hf k hk⟩ (by simp) (fun g i _ hlt hn => hno g i hlt hn) (fun _ _ _ h => h)
 ·refine M.stk.keep (fun i j v e xs h => ?_) S fun g hg h => ⟨hf g hg, fun o => hno g o hg (h.1 o), h.2⟩
  obtain ⟨b, cs, arr, ty, h1, h2, h3, h4, h5⟩ := h
  obtain ⟨_, _, _, -, g2, -⟩ := M.box i b h1
  exact ⟨b, cs, arr, ty, h1, h2, by rw [hf b (blk_lt' g2)] at h3; exact h3, h4, h5⟩
theorem own_base_mono {base base' e sz : Nat} {v : Value} {n : Nat} {us : List Value} (h : w.ownsRow base e sz v n us) (hb : base' ≤ base) : w.ownsRow base' e sz v n us := by
 refine ⟨h.1, ?_⟩
 rcases h.2 with hn | ⟨g, cap, cur, rfl, hbg, rest⟩
 ·exact .inl hn
 ·exact .inr ⟨g, cap, cur, rfl, Nat.le_trans hb hbg, rest⟩
theorem own_ge {base e sz : Nat} {v : Value} {n : Nat} {us : List Value} (h : w.ownsRow base e sz v n us) {g : Nat} (hg : v.ownBlock = some g) : base ≤ g := by
 rcases h.2 with ⟨rfl, -⟩ | ⟨g', cap, cur, rfl, hbg, rest⟩
 ·cases hg
 ·injection hg with hg; subst hg; exact hbg
theorem Mem.backO (M : Mem E B H m tk ok w) {w' : World} {ok' : Nat → Nat → Prop} {r : TokR} (M' : Mem E ⟨w, ok, [], []⟩ [] [] [r] ok' w') (hk : ∀ b o, ok b o → ok' b o) : Mem E B H m (tk ++ [r]) ok' w' ∧ Later w ok m tk w' ok' m (tk ++ [r]) := by
 have hf : ∀ k, k < w.heap.size → w'.heap[k]? = w.heap[k]? := fun k h => M'.frame k h (by simp) (by simp)
 have S : Stay w ok w' ok' := stay_of ok' (fun k h _ => hf k h) M.oks hk
 have L : Later w ok m tk w' ok' m (tk ++ [r]) := ⟨S, fun _ _ h => h, fun t r' h => ⟨r', by rw [List.getElem?_append_left (List.getElem?_eq_some_iff.1 h).1]; exact h, .inl rfl⟩⟩
 have hno : ∀ b o, b < w.heap.size → ¬ ok b o → ¬ ok' b o := by
  intro b o hb hn h
  rcases M'.okb b o h with h | h
  ·exact hn h
  ·have h : w.heap.size ≤ b := h
   omega
 obtain ⟨⟨us, hru⟩, hrs⟩ := M'.tok 0 r rfl
 have hru : w'.ownsRow w.heap.size r.e r.sz (.slice r.A r.len r.cap) r.len us := hru
 have hge : ∀ g, (Value.slice r.A r.len r.cap).ownBlock = some g → w.heap.size ≤ g := fun g hg => own_ge hru hg
 have spl : ∀ (t : Nat) (r' : TokR), (tk ++ [r])[t]? = some r' → tk[t]? = some r' ∨ (t = tk.length ∧ r' = r) := by
  intro t r' h
  by_cases ht : t < tk.length
  ·rw [List.getElem?_append_left ht] at h; exact .inl h
  ·rw [List.getElem?_append_right (by omega)] at h
   have h1 := (List.getElem?_eq_some_iff.1 h).1
   have : t = tk.length := by simp at h1; omega
   subst this
   simp at h
   exact .inr ⟨rfl, h.symm⟩
 have lt : ∀ (t : Nat) (r' : TokR) (g : Nat), tk[t]? = some r' → (Value.slice r'.A r'.len r'.cap).ownBlock = some g → g < w.heap.size := fun t r' g h hg => by
  obtain ⟨⟨xs, ho⟩, -⟩ := M.tok t r' h
  exact (ho.lt g hg).2
 refine ⟨⟨M'.inv, M'.os.trans M.os, M'.tape.trans M.tape, M'.output.trans M.output, Nat.le_trans M.size M'.size, fun k h1 h2 h2' => ?_, fun b o h => ?_, M'.oks, M.len, fun i b h => ?_, M.inj, fun t r' h => ?_, fun t u r1 r2 g h h' hg hg' => ?_, M.gb, fun t r' i h hT => ?_, ?_⟩, L⟩
 ·rw [hf k (by have := M.size; omega)]; exact M.frame k h1 h2 h2'
 ·rcases M'.okb b o h with h | h
  ·exact M.okb b o h
  ·exact .inr (Nat.le_trans M.size h)
 ·obtain ⟨cs, arr, ty, h1, h2, h3, h4, h5⟩ := M.box i b h
  exact ⟨cs, arr, ty, h1, by rw [hf b (blk_lt' h2)]; exact h2, h3.mono fun _ _ h => h.later L, fun o => hno b o (blk_lt' h2) (h4 o), h5⟩
 ·rcases spl t r' h with h | ⟨-, rfl⟩
  ·exact (M.tok t r' h).keep (row := none) ⟨M'.os, M'.tape, M'.output, M'.size, fun k hk _ => hf k hk⟩ (by simp) (fun g i _ hlt hn => hno g i hlt hn) (fun _ _ _ h => h)
  ·refine ⟨⟨us, own_base_mono hru M.size⟩, fun g hg => ⟨(hrs g hg).1, fun i hi => ?_⟩⟩
   obtain ⟨_, _, _, -, g2, -⟩ := M.box i g hi
   have := blk_lt' g2
   have := hge g hg
   omega
 ·rcases spl t r1 h with q | ⟨q1, q2⟩ <;> rcases spl u r2 h' with q' | ⟨q3, q4⟩
  ·exact M.tinj t u r1 r2 g q q' hg hg'
  ·rw [q4] at hg'
   have := lt t r1 g q hg; have := hge g hg'; omega
  ·rw [q2] at hg
   have := lt u r2 g q' hg'; have := hge g hg; omega
  ·rw [q1, q3]
 ·rcases spl t r' h with h | ⟨rfl, rfl⟩
  ·exact M.tsz t r' i h hT
  ·exact M'.tsz 0 r' i rfl hT
 ·refine M.stk.keep (fun i j v e xs h => ?_) S fun g hg h => ⟨hf g hg, fun o => hno g o hg (h.1 o), h.2.1, fun t r' ht hgb => ?_⟩
  ·obtain ⟨b, cs, arr, ty, h1, h2, h3, h4, h5⟩ := h
   obtain ⟨_, _, _, -, g2, -⟩ := M.box i b h1
   exact ⟨b, cs, arr, ty, h1, h2, by rw [hf b (blk_lt' g2)] at h3; exact h3, h4, h5⟩
  ·rcases spl t r' ht with ht | ⟨rfl, rfl⟩
   ·exact h.2.2 t r' ht hgb
   ·have := hge g hgb; omega
theorem call_run {P : Program} {f : FuncId} (h : Callable P f) (ρ : Operand → Value) (o : Oper) (x : Operand) (args : Array Operand) (ts : Array TypeId) (ho : o.op = .call ⟨.value x, args, ts⟩) (hf : ρ x = .func (.func f) #[] #[]) (w : World) :
  (execOp ρ o).run P w = .ok (.enter f (args.map ρ)) w := by
 obtain ⟨fn, h1, h2, h3⟩ := h
 simp only [execOp, ho, resolve, hf, Deferred.ofValue, Sem.run_bind, Sem.run_pure, Result.andThen_ok, invoke, callFunc, Array.append_empty, Array.empty_append]
 have e2 : ¬ fn.name = "runtime.NumGoroutine" := by simpa using h2
 have e3 : ¬ fn.body = none := by intro e; rw [e] at h3; simp at h3
 simp [program, Sem.run, h1, e2, e3]
theorem call_runC {P : Program} {f : FuncId} (h : Callable P f) (ρ : Operand → Value) (o : Oper) (x : Operand) (args : Array Operand) (ts : Array TypeId) (ho : o.op = .call ⟨.value x, args, ts⟩) {fs cs : Array Value} (hf : ρ x = .func (.func f) fs cs) (w : World) :
  (execOp ρ o).run P w = .ok (.enter f (fs ++ args.map ρ ++ cs)) w := by
 obtain ⟨fn, h1, h2, h3⟩ := h
 simp only [execOp, ho, resolve, hf, Deferred.ofValue, Sem.run_bind, Sem.run_pure, Result.andThen_ok, invoke, callFunc]
 have e2 : ¬ fn.name = "runtime.NumGoroutine" := by simpa using h2
 have e3 : ¬ fn.body = none := by intro e; rw [e] at h3; simp at h3
 simp [program, Sem.run, h1, e2, e3]
theorem callee_inv {v : Value} {p : PV} {f : FuncId} {a b : List PV} (h : Rep w ok m tk v p) (hc : calleeF p = some (f, a, b)) : ∃ fs cs : Array Value, v = .func (.func f) fs cs ∧ RepL (Rep w ok m tk) fs.toList a ∧ RepL (Rep w ok m tk) cs.toList b := by
 cases h with
 | c v c hv =>
  cases hv <;> simp [calleeF] at hc
  obtain ⟨rfl, rfl, rfl⟩ := hc
  exact ⟨#[], #[], rfl, .nil, .nil⟩
 | clos g fs cs ps qs h1 h2 =>
  simp [calleeF] at hc
  obtain ⟨rfl, rfl, rfl⟩ := hc
  exact ⟨fs, cs, rfl, reps_pv h1, reps_pv h2⟩
 | _ => simp [calleeF] at hc
theorem Rep.fn_inv {v : Value} {f : FuncId} (h : Rep w ok m tk v (.c (.fn f))) : v = .func (.func f) #[] #[] := by cases h with | c _ _ h => cases h; rfl
theorem Rep.nil_inv {v : Value} (h : Rep w ok m tk v (.c .nil)) : v = .slice none 0 0 := by cases h with | c _ _ h => cases h; rfl
theorem blocks_of {N : Nat} {m : List (Option Nat)} (hall : ∀ i, i < N → ∃ b, m[i]? = some (some b)) : ∀ (ids : List Nat), (∀ i ∈ ids, i < N) → ∃ ms : List Nat, ms.length = ids.length ∧ ∀ (k i b : Nat), ids[k]? = some i → ms[k]? = some b → m[i]? = some (some b)
 | [], _ => ⟨[], rfl, fun k i b h => by simp at h⟩
 | i :: ids, h => by
  obtain ⟨ms, e1, e2⟩ := blocks_of hall ids (fun j hj => h j (by simp [hj]))
  obtain ⟨b, hb⟩ := hall i (h i (by simp))
  refine ⟨b :: ms, by simp [e1], fun k i' b' hk hb' => ?_⟩
  cases k with
  | zero => simp at hk hb'; subst hk; subst hb'; exact hb
  | succ k => exact e2 k i' b' (by simpa using hk) (by simpa using hb')
def SimV (E : Env) (B : Base) (D : Option (FuncId × List AV)) (n : Nat) (s : St) (a : Act) (w : World) (v : Value) (p : PV) : Prop := ∃ (m : List (Option Nat)) (tk : List TokR) (ok : Nat → Nat → Prop), Mem E B s.H m tk ok w ∧ s.T = (tk.map fun r => (r.len, r.e)) ∧ a.tmps.size = n ∧
 (∀ t, Rep w ok m tk (a.tmps.getD t undef) (s.sl t)) ∧ DefR w ok m D a.defers ∧ (∀ (i b : Nat), B.m0[i]? = some b → m[i]? = some (some b)) ∧ (∀ b o, B.ok0 b o → ok b o) ∧ (∀ i, i < s.H.length → ∃ b, m[i]? = some (some b)) ∧ WF s ∧ Rep w ok [] [] v p
def PanOK (E : Env) (B : Base) (D : Option (FuncId × List AV)) (n : Nat) (Kp : PV → St → Prop) (chain : List PanicEntry) (a : Act) (w : World) : Prop := (D = none → a.defers = []) ∧ ∃ p v, chain = [{ v, recovered := false }] ∧
 (∃ ok, Mem E B [] [] [] ok w ∧ (∀ b o, B.ok0 b o → ok b o) ∧ Rep w ok [] [] v p) ∧ ∃ s, Kp p s ∧ (s = dead ∨ (B.m0.length ≤ s.H.length → DefLow D s.H.length → SimV E B D n s a w v p))
theorem RepA.low {w : World} {ok : Nat → Nat → Prop} {m : List (Option Nat)} {v : Value} {p : AV} {n : Nat} (h : RepA w ok m v p) (hl : lowA n p = true) : RepA w ok (m.take n) v p := by
 cases h with
 | p i off b hm =>
  have : i < n := by simpa [lowA] using hl
  exact .p i off b (by rw [List.getElem?_take_of_lt this]; exact hm)
 | c v p h => exact .c v p h
 | a cs ds h => exact .a cs ds h
theorem RepA.lows {w : World} {ok : Nat → Nat → Prop} {m : List (Option Nat)} {vs : List Value} {ps : List AV} {n : Nat} (h : RepL (RepA w ok m) vs ps) (hl : ∀ p ∈ ps, lowA n p = true) : RepL (RepA w ok (m.take n)) vs ps :=
 ⟨h.1, fun i v p hv hp => (h.2 i v p hv hp).low (hl p (List.mem_of_getElem? hp))⟩
theorem DefR.cut {w : World} {ok : Nat → Nat → Prop} {m : List (Option Nat)} {D : Option (FuncId × List AV)} {l : List Deferred} {n : Nat} (h : DefR w ok m D l) (hD : DefLow D n) : DefR w ok (m.take n) D l := by
 cases D with
 | none => exact h
 | some d => obtain ⟨caps, h1, h2⟩ := h; exact ⟨caps, h1, RepA.lows h2 fun p hp => List.all_eq_true.1 hD p hp⟩
theorem Rep.low {w : World} {ok : Nat → Nat → Prop} {m : List (Option Nat)} {tk : List TokR} {v : Value} {p : PV} {k : Nat} (h : Rep w ok m tk v p) (hp : PLt k p) (n : Nat) (hl : lowP n p = true) : Rep w ok (m.take n) tk v p := by
 cases h with
 | c v p h => exact .c v p h
 | agg cs ds h => exact .agg cs ds h
 | tup cs ds hl' h => exact (Rep.tup (w := w) (ok := ok) (m := m) (tk := tk) cs ds hl' h).closed hp _ _
 | orow A len cap xs k h r hr h1 h2 => exact .orow A len cap xs k h r hr h1 h2
 | ptr i off b hm =>
  have : i < n := Nat.blt_eq.mp hl
  exact .ptr i off b (by rw [List.getElem?_take_of_lt this]; exact hm)
 | iptr a cs vs hA h => exact .iptr a cs vs hA h
 | clos f fs cs ps qs h1 h2 =>
  have hl : (ps ++ qs).all (lowA n) = true := hl
  rw [List.all_eq_true] at hl
  exact .clos f fs cs ps qs (RepA.lows h1 fun p hp => hl p (by simp [hp])) (RepA.lows h2 fun p hp => hl p (by simp [hp]))
 | ifc t cs ds h => exact .ifc t cs ds h
 | nif => exact .nif
 | fresh t => exact .fresh t
 | full A len xs h => exact .full A len xs h
 | brow i nn b cap hm hc =>
  have : i < n := Nat.blt_eq.mp hl
  exact .brow i nn b cap (by rw [List.getElem?_take_of_lt this]; exact hm) hc
 | stk A len cap e xs hl' => exact .stk A len cap e xs hl'
 | mclo fs i b g ck hm hk hh =>
  have : i < n := Nat.blt_eq.mp hl
  exact .mclo fs i b g ck (by rw [List.getElem?_take_of_lt this]; exact hm) hk hh
 | undef v => exact .undef v
theorem Rep.cut {v : Value} {p : PV} {k : Nat} (h : Rep w ok m tk v p) (hp : PLt k p) (n : Nat) : Rep w ok (m.take n) tk v (cutP n p) := by
 cases p <;> try exact h.low hp n rfl
 ·rename_i i o
  unfold cutP
  dsimp only
  cases hb : Nat.blt i n with
  | true => exact h.low hp n hb
  | false => exact .undef _
 ·rename_i f a b
  unfold cutP
  dsimp only
  cases hb : (a ++ b).all (lowA n) with
  | true => exact h.low hp n hb
  | false => exact .undef _
 ·rename_i i o
  unfold cutP
  dsimp only
  cases hb : Nat.blt i n with
  | true => exact h.low hp n hb
  | false => exact .undef _
 ·rename_i fs i
  unfold cutP
  dsimp only
  cases hb : Nat.blt i n with
  | true => exact h.low hp n hb
  | false => exact .undef _
theorem PLt.cut {n k : Nat} {p : PV} (h : PLt k p) (hn : n ≤ k) : PLt n (cutP n p) := by
 cases p <;> try exact h
 ·rename_i i o
  unfold cutP
  dsimp only
  cases hb : Nat.blt i n with
  | true => exact Nat.blt_eq.mp hb
  | false => trivial
 ·rename_i f a b
  unfold cutP
  dsimp only
  cases hb : (a ++ b).all (lowA n) with
  | true => exact hb
  | false => trivial
 ·rename_i i o
  unfold cutP
  dsimp only
  cases hb : Nat.blt i n with
  | true => exact Nat.blt_eq.mp hb
  | false => trivial
 ·rename_i fs i
  unfold cutP
  dsimp only
  cases hb : Nat.blt i n with
  | true => exact Nat.blt_eq.mp hb
  | false => trivial
theorem keep_sim {n : Nat} {s : St} {a : Act} {w w' : World} {m : List (Option Nat)} {tk : List TokR} {ok ok' : Nat → Nat → Prop} {ms gs : List Nat} {j : Nat} {v : Value} {p : PV}
  (S : Mem E B s.H m tk ok w ∧ s.T = (tk.map fun r => (r.len, r.e)) ∧ a.tmps.size = n ∧ (∀ t, Rep w ok m tk (a.tmps.getD t undef) (s.sl t)) ∧ DefR w ok m D a.defers ∧ (∀ (i b : Nat), B.m0[i]? = some b → m[i]? = some (some b)) ∧ (∀ b o, B.ok0 b o → ok b o) ∧ (∀ i, i < s.H.length → ∃ b, m[i]? = some (some b)) ∧ WF s)
  (hkeep : keepOK s.H j = true) (hno : ∀ (i b : Nat), i < j → m[i]? = some (some b) → b ∉ ms) (hmsb : ∀ b ∈ ms, ∃ i : Nat, m[i]? = some (some b)) (hgs : ∀ g ∈ gs, ∃ i q v e xs, j ≤ i ∧ StkAt s.H m w i q v e xs ∧ v.ownBlock = some g) (M' : Mem E ⟨w, ok, ms, gs⟩ [] [] [] ok' w') (hk : ∀ b o, ok b o → ok' b o) (hv : Rep w' ok' [] [] v p) (hm : B.m0.length ≤ (cutSt j s).H.length) (hD : DefLow D (cutSt j s).H.length) : SimV E B D n (cutSt j s) a w' v p := by
 obtain ⟨M, hT, hsz, hs, hdf, hm0, hok, hall, hwf⟩ := S
 unfold keepOK at hkeep
 rw [Bool.and_eq_true] at hkeep
 have hjl : j ≤ s.H.length := Nat.ble_eq.mp hkeep.1
 have low : ∀ cs ∈ s.H.take j, ∀ p ∈ cs, lowP j p = true := fun cs hcs p hp => List.all_eq_true.1 (List.all_eq_true.1 hkeep.2 cs hcs) p hp
 have hlen : (cutSt j s).H.length = j := by show (s.H.take j).length = j; rw [List.length_take]; omega
 rw [hlen] at hm hD
 have tk' : ∀ (i : Nat) (x : Option Nat), (m.take j)[i]? = some x → m[i]? = some x ∧ i < j := by
  intro i x h
  by_cases hi : i < j
  ·rw [List.getElem?_take_of_lt hi] at h; exact ⟨h, hi⟩
  ·rw [List.getElem?_eq_none (by simp; omega)] at h; cases h
 have hf : ∀ k, k < w.heap.size → k ∉ ms → k ∉ gs → w'.heap[k]? = w.heap[k]? := fun k h h' h'' => M'.frame k h h' h''
 have hga : ∀ g ∈ gs, Alone m tk ok g ∧ (g ∈ B.g0 ∨ B.w0.heap.size ≤ g) := by
  intro g hg
  obtain ⟨i, q, v, e, xs, -, h1, h2⟩ := hgs g hg
  obtain ⟨_, _, _, _, _, _, h3⟩ := M.stk.own i q v e xs h1
  exact h3 g h2
 have S : Stay w ok w' ok' := stay_of ok' (fun k h ⟨o, ho⟩ => hf k h (fun hm => by
  obtain ⟨i, h3⟩ := hmsb k hm
  obtain ⟨_, _, _, _, _, _, g4, _⟩ := M.box i k h3
  exact g4 o ho) (fun hg => (hga k hg).1.1 o ho)) M.oks hk
 have L := Later.of_stay S m tk
 have L2 : ∀ m2, Later w ok m2 tk w' ok' m2 tk := fun m2 => Later.of_stay S m2 tk
 have hno' : ∀ b o, b < w.heap.size → ¬ ok b o → ¬ ok' b o := by
  intro b o hb hn h
  rcases M'.okb b o h with h | h
  ·exact hn h
  ·have h : w.heap.size ≤ b := h
   omega
 refine ⟨m.take j, tk, ok', ?_, hT, hsz, fun t => ((hs t).cut (hwf.sl t) j).later (L2 _), (hdf.cut hD).later S (fun _ _ h => h), fun i b h => ?_, fun b o h => hk b o (hok b o h), fun i hi => ?_, ⟨fun t => ?_, fun cs hcs p hp => ?_⟩, hv⟩
 ·refine ⟨M'.inv, M'.os.trans M.os, M'.tape.trans M.tape, M'.output.trans M.output, Nat.le_trans M.size M'.size, fun k h1 h2 h2' => ?_, fun b o h => ?_, M'.oks, ?_, fun i b h => ?_, fun i i' b h h' => M.inj i i' b (tk' _ _ h).1 (tk' _ _ h').1, fun t r h => ?_, M.tinj, M.gb, M.tsz, ?_⟩
  ·rw [hf k (by have := M.size; omega) (fun hmm => by
    obtain ⟨i, h3⟩ := hmsb k hmm
    obtain ⟨_, _, _, _, _, _, _, _, g6⟩ := M.box i k h3
    rcases g6 with g6 | g6
    ·exact h2 g6
    ·omega) (fun hg => by
    rcases (hga k hg).2 with g6 | g6
    ·exact h2' g6
    ·omega)]
   exact M.frame k h1 h2 h2'
  ·rcases M'.okb b o h with h | h
   ·exact M.okb b o h
   ·exact .inr (Nat.le_trans M.size h)
  ·show (m.take j).length = (s.H.take j).length
   rw [List.length_take, List.length_take, M.len]
  ·obtain ⟨h4, h5⟩ := tk' _ _ h
   obtain ⟨cs, arr, ty, g1, g2, g3, g4, g5⟩ := M.box i b h4
   have hin : (s.H.take j)[i]? = some cs := by rw [List.getElem?_take_of_lt h5]; exact g1
   refine ⟨cs, arr, ty, hin, by rw [hf b (blk_lt' g2) (hno i b h5 h4) (fun hg => (hga b hg).1.2.1 i h4)]; exact g2, ⟨g3.1, fun q v p hv hp => ?_⟩, fun o => hno' b o (blk_lt' g2) (g4 o), g5⟩
   exact ((g3.2 q v p hv hp).low (hwf.H cs (List.mem_of_getElem? g1) p (List.mem_of_getElem? hp)) j (low cs (List.mem_of_getElem? hin) p (List.mem_of_getElem? hp))).later (L2 _)
  ·obtain ⟨⟨xs, ho⟩, hsp⟩ := M.tok t r h
   refine ⟨⟨xs, ho.1, ?_⟩, fun g hgb => ⟨fun i hi => hno' g _ (ho.lt g hgb).2 ((hsp g hgb).1 i hi), fun i hi => (hsp g hgb).2 i (tk' _ _ hi).1⟩⟩
   rcases ho.2 with hn | ⟨g, cap, cur, he, hb, hgg, rest⟩
   ·exact .inl hn
   ·refine .inr ⟨g, cap, cur, he, hb, ?_, rest⟩
    rw [hf g (blk_lt' hgg) (fun hmm => by
     obtain ⟨i, h3⟩ := hmsb g hmm
     have : (Value.slice r.A r.len r.cap).ownBlock = some g := by rw [he]; rfl
     exact (hsp g this).2 i h3) (fun hg => (hga g hg).1.2.2 t r h (by rw [he]; rfl))]
    exact hgg
  ·have hat : ∀ i q v e xs, StkAt (cutSt j s).H (m.take j) w' i q v e xs → i < j ∧ StkAt s.H m w i q v e xs := by
    rintro i q v e xs ⟨b, cs, arr, ty, h1, h2, h3, h4, h5⟩
    obtain ⟨q1, q2⟩ := tk' _ _ h1
    have h2 : (s.H.take j)[i]? = some cs := h2
    rw [List.getElem?_take_of_lt q2] at h2
    obtain ⟨_, _, _, -, g2, -⟩ := M.box i b q1
    rw [hf b (blk_lt' g2) (hno i b q2 q1) (fun hg => (hga b hg).1.2.1 i q1)] at h3
    exact ⟨q2, b, cs, arr, ty, q1, h2, h3, h4, h5⟩
   refine ⟨fun i q v e xs h => ?_, fun i q v e xs i' q' v' e' xs' g h h' => M.stk.inj i q v e xs i' q' v' e' xs' g (hat _ _ _ _ _ h).2 (hat _ _ _ _ _ h').2⟩
   obtain ⟨hi, h1⟩ := hat _ _ _ _ _ h
   obtain ⟨sz, us, ho, hr, hx, ht, hg⟩ := M.stk.own i q v e xs h1
   refine ⟨sz, us, own_move ho fun g hb => hf g (ho.lt g hb).2 (fun hmm => ?_) (fun hgg => ?_), hr.mono fun _ _ h => h.stay S, hx, ht, fun g hb => ⟨⟨fun o => hno' g o (ho.lt g hb).2 ((hg g hb).1.1 o), fun k hk => (hg g hb).1.2.1 k (tk' _ _ hk).1, (hg g hb).1.2.2⟩, (hg g hb).2⟩⟩
   ·obtain ⟨k, h3⟩ := hmsb g hmm
    exact (hg g hb).1.2.1 k h3
   ·obtain ⟨i', q', v', e', xs', h2, h3, h4⟩ := hgs g hgg
    obtain ⟨rfl, -⟩ := M.stk.inj i q v e xs i' q' v' e' xs' g h1 h3 hb h4
    omega
 ·have h5 := (List.getElem?_eq_some_iff.1 h).1
  rw [List.getElem?_take_of_lt (by omega)]; exact hm0 i b h
 ·rw [hlen] at hi
  obtain ⟨b, hb⟩ := hall i (by omega)
  exact ⟨b, by rw [List.getElem?_take_of_lt hi]; exact hb⟩
 ·rw [hlen]; exact (hwf.sl t).cut hjl
 ·have hcs : cs ∈ s.H.take j := hcs
  have h4 := low cs hcs p hp
  have h5 := hwf.H cs (List.mem_of_mem_take hcs) p hp
  rw [hlen]
  cases p <;> try exact h5
  ·exact Nat.blt_eq.mp h4
  ·exact h4
  ·exact Nat.blt_eq.mp h4
  ·exact Nat.blt_eq.mp h4
theorem op_sound (hE : EnvOK E) {kp : Option (PV → St → Prop)} {n : Nat} {s : St} {o : Oper} {a : Act} {w : World} {K : PV → List (List PV) → List (Nat × Nat) → Prop} {next : Act → World → Prop} {Q : Exit → Act → World → Prop} (S : Sim E B D n s a w) (hd : ∀ d, o.dst = some d → d < n)
  (h : wpOp E kp s o.op K) (hq : ∀ Kp, kp = some Kp → ∀ ch a w, PanOK E B D n Kp ch a w → Q (.panic ch) a w) (hn : ∀ v H T a' w', K v H T → Sim E B D n ⟨upd s.sl o.dst v, H, T⟩ a' w' → next a' w') : o.wp E.P a w next Q := by
 obtain ⟨m, tk, ok, M, hT, hsz, hs, hdf, hm0, hok, hall, hwf⟩ := S
 unfold Oper.wp
 cases hc : clsOf E.pt o.op with
 | val =>
  obtain ⟨v, hv, hK⟩ := (wpOp_val hc).1 h
  have hw' : ∀ T, WF ⟨upd s.sl o.dst v, s.H, T⟩ := fun T => wf_upd hwf (Nat.le_refl _) hwf.H (VR0_PLt hwf hv)
  have pure_ : opF E s.H s.sl o.op = some v → o.upon E.P a next Q ((execOp a.eval o).run E.P w) := by
   intro hv
   obtain ⟨u, h1, h2⟩ := opF_run hE M hs hv
   rw [h1]
   refine hn v s.H s.T _ _ hK ?_
   have := Sim.next (E := E) (B := B) (s := s) M (Later.refl w ok m tk) hsz hs hdf hm0 hok hall hd (hw' _) h2
   rw [hT]; exact this
  cases hop : o.op with
  | buildSlice t k ps =>
   rw [hop] at hv
   obtain ⟨ys, hy, rfl⟩ := hv
   obtain ⟨out, e, sz, h1, h2, h3, h4, h5⟩ := buildSlice_run (m := m) (tk := tk) (w := w) (ok := ok) hE (vs := ps.map fun (i, x) => (i, a.eval x)) hy (by simp) (by simpa [Function.comp_def] using ev_reps hs (ps.toList.map (·.2)))
   have hrun : (execOp a.eval o).run E.P w = .ok (.value (.slice (some ⟨w.heap.size, 0, none⟩) k k)) (w.alloc (.cells out e)) := by
    simp only [execOp, hop, Sem.run_bind, h1, Result.andThen_ok]
    rfl
   rw [hrun]
   obtain ⟨M', L⟩ := M.row hE out e
   refine hn _ s.H s.T _ _ hK ?_
   have hcell : ∀ j, (w.alloc (.cells out e)).cell? ⟨w.heap.size, j, none⟩ = out.toList[j]? := by intro j; simp only [World.cell?, alloc_new w]; simp
   have hfl := flat_length ys h4
   have hr : Rep (w.alloc (.cells out e)) (fun b o => ok b o ∨ b = w.heap.size) m tk (.slice (some ⟨w.heap.size, 0, none⟩) k k) (.c (.row ys)) := by
    refine .c _ _ (.row _ _ _ _ sz (fun i => out.toList.getD i undef) h3.symm (Nat.le_refl _) (fun h => by cases h) h5 h4 (fun i hi => ?_) (fun i x j c hx hc => ?_))
    ·have hlt : i < out.toList.length := by rw [h2.1, hfl, h3]; exact hi
     refine ⟨_, rfl, .inr rfl, ?_⟩
     rw [show (⟨w.heap.size, 0, none⟩ : Addr).add i = ⟨w.heap.size, i, none⟩ by unfold Addr.add; split <;> simp_all, hcell, List.getElem?_eq_getElem hlt]
     simp [List.getD, List.getElem?_eq_getElem hlt]
    ·have hf := flat_get ys i j x c h4 hx hc
     obtain ⟨v, h6, h7⟩ := h2.get hf
     rw [show out.toList.getD (i * sz + j) undef = v by simp [List.getD, h6]]
     exact h7.stay L.stay
   have := Sim.next (E := E) (B := B) (s := s) M' L hsz hs hdf hm0 hok hall hd (hw' _) hr
   rw [hT]; exact this
  | lookup t x k cm =>
   rw [hop] at hv
   cases cm with
   | true => exact pure_ (by rw [hop]; exact hv)
   | false =>
    rcases hv with ⟨es, ck, nn, z, h1, h2, hL, rfl⟩ | ⟨fs, i, nn, f, h1, h2, hL, rfl⟩
    rotate_left
    ·have hx := ev_rep hs x
     have hkv := ev_rep hs k
     rw [h1] at hx
     rw [h2] at hkv
     have hkv := hkv.int_inv
     generalize hxe : a.eval x = ax at hx
     cases hx with
     | mclo _ _ b g ck hm hkb hh =>
      have hrun : (execOp a.eval o).run E.P w = .ok (.value (.func (.func f) #[.pointer (some ⟨b, 0, none⟩)] #[])) w := by simp [execOp, hop, hxe, hkv, hL w g b ck hh, Result.andThen]
      rw [hrun]
      refine hn _ s.H s.T _ _ hK ?_
      have := Sim.next (E := E) (B := B) (s := s) M (Later.refl w ok m tk) hsz hs hdf hm0 hok hall hd (hw' _) (.clos f #[.pointer (some ⟨b, 0, none⟩)] #[] [.p i 0] [] (.cons (.p i 0 b hm) .nil) .nil)
      rw [hT]; exact this
    have hx := ev_rep hs x
    have hkv := ev_rep hs k
    rw [h1] at hx
    rw [h2] at hkv
    have hkv := hkv.int_inv
    generalize hxe : a.eval x = ax at hx
    cases hx with
    | c _ _ hx =>
     cases hx with
     | mp b _ _ hkb hh =>
      have hrun : (execOp a.eval o).run E.P w = .ok (.value (.int .i64 z)) w := by simp [execOp, hop, hxe, hkv, hL w b hh, Result.andThen]
      rw [hrun]
      refine hn _ s.H s.T _ _ hK ?_
      have := Sim.next (E := E) (B := B) (s := s) M (Later.refl w ok m tk) hsz hs hdf hm0 hok hall hd (hw' _) (.c _ _ (.int _ _))
      rw [hT]; exact this
  | call c =>
   obtain ⟨ce, args, ts⟩ := c
   rw [hop] at hv
   cases ce with
   | value x =>
    simp only [VR0] at hv
    split at hv
    ·rename_i f hf
     obtain ⟨args', hwk, hcl, hO, hrc⟩ := hv
     have hfx := ev_rep hs x
     rw [hf] at hfx
     rw [call_run hO.1 a.eval o x args ts hop hfx.fn_inv w]
     have hr0 : RepL (Rep w ok [] []) (args.map a.eval).toList args' := by
      have := hwk.rep (ev_reps hs args.toList)
      refine ⟨by simpa using this.1, fun i v p hv hp => ?_⟩
      exact (this.2 i v p (by simpa using hv) hp).closed (List.all_eq_true.1 hcl p (List.mem_of_getElem? hp)) _ _
     refine (hO.2 w ok [] [] (args.map a.eval) (fun _ => rfl) M.entry (by simpa using hr0)).mono ?_
     rintro e w' ⟨u, ok', rfl, M', hk, hu⟩
     obtain ⟨M2, L⟩ := M.back M' hk
     refine hn v s.H s.T _ _ hK ?_
     have := Sim.next (E := E) (B := B) (s := s) M2 L hsz hs hdf hm0 hok hall hd (hw' _) (hu.closed hrc m tk)
     rw [hT]; exact this
    ·exact hv.elim
   | _ => exact pure_ (by rw [hop]; exact hv)
  | _ => rw [hop] at hv hc; first | exact pure_ (by rw [hop]; exact hv) | simp [clsOf] at hc
 | alloc =>
  rw [wpOp_def] at h
  rw [hc] at h
  dsimp only at h
  split at h
  ·rename_i cs hcs
   have key : ∀ (arr : Array Value) (ty : TypeId), (execOp a.eval o).run E.P w = .ok (.value (.pointer (some ⟨w.heap.size, 0, none⟩))) (w.alloc (.cells arr ty)) → RepL (Rep w ok m tk) arr.toList cs → FrB cs ty → o.upon E.P a next Q ((execOp a.eval o).run E.P w) := by
    intro arr ty hrun hr hfr
    rw [hrun]
    have hlen : (m ++ [some w.heap.size])[s.H.length]? = some (some w.heap.size) := by rw [← M.len]; simp
    obtain ⟨M', L⟩ := M.newBox hE (H' := s.H ++ [cs]) (m' := m ++ [some w.heap.size]) s.H.length cs arr ty (by simp [M.len]) hlen (by simp) (fun b hb => by have := (List.getElem?_eq_some_iff.1 hb).1; rw [M.len] at this; omega)
     (fun i hi => by
      by_cases hlt : i < m.length
      ·exact .inl (List.getElem?_append_left hlt)
      ·refine .inr ⟨List.getElem?_eq_none (by omega), fun b hb => ?_⟩
       rw [List.getElem?_eq_none (by simp; have := M.len; omega)] at hb
       cases hb)
     (fun i b hi hb => by have := (List.getElem?_eq_some_iff.1 hb).1; exact List.getElem?_append_left (by rw [← M.len]; exact this)) hr (newBox_stk hcs) hfr
    refine hn _ _ _ _ _ h ?_
    have hall' : ∀ i, i < (s.H ++ [cs]).length → ∃ b, (m ++ [some w.heap.size])[i]? = some (some b) := by
     intro i hi
     by_cases hlt : i < s.H.length
     ·obtain ⟨b, hb⟩ := hall i hlt
      exact ⟨b, by rw [List.getElem?_append_left (by rw [M.len]; exact hlt)]; exact hb⟩
     ·have : i = s.H.length := by simp at hi; omega
      subst this
      exact ⟨_, hlen⟩
    have := Sim.next (E := E) (B := B) (s := s) M' L hsz hs hdf hm0 hok hall' hd (wf_upd hwf (by simp) (fun ds hds p hp => by
      rcases List.mem_append.1 hds with h' | h'
      ·exact (hwf.H ds h' p hp).mono (by simp)
      ·simp at h'; subst h'; exact (newBox_PLt hwf hcs p hp).mono (by simp)) (by simp [PLt])) (.ptr _ 0 _ hlen)
    rw [hT]; exact this
   cases hop : o.op with
   | alloc t =>
    rw [hop] at hcs
    simp only [newBoxF] at hcs
    split at hcs
    ·rename_i ti hti
     injection hcs with hcs; subst hcs
     obtain ⟨d, -, -, -, -, z, hz, hzr, -⟩ := ty_run (w := w) (ok := ok) hE hti
     refine key z.cells t ?_ (zeroB_rep hzr) (zeroB_fr _ _ _)
     ·simp only [execOp, hop, Instr.alloc, Sem.run_bind, hz, Result.andThen_ok, newVar, newRow]
      simp
    ·cases hcs
   | box t x =>
    rw [hop] at hcs
    simp only [newBoxF] at hcs
    have hx := ev_rep hs x
    refine key (a.eval x).cells t ?_ (hx.cells hcs).1 (FrB.none (cells_stk hcs))
    simp only [execOp, hop, Instr.box, Sem.run_bind, newVar, newRow]
    simp
   | _ => rw [hop] at hcs; simp [newBoxF] at hcs
  ·exact h.elim
 | eff =>
  rw [wpOp_def] at h
  rw [hc] at h
  dsimp only at h
  split at h
  ·rename_i t x y hop
   split at h
   ·rename_i H' hst
    unfold storeF at hst
    split at hst
    ·rename_i ti i off us hti hp hq
     split at hst
     ·rename_i cs hcs
      split at hst
      ·rename_i hle
       injection hst with hst; subst hst
       have hle : us.length = ti.size ∧ off + us.length ≤ cs.length := by simpa using hle
       have hx := ev_rep hs x
       rw [hp] at hx
       obtain ⟨hy, hy1⟩ := (ev_rep hs y).cells hq
       obtain ⟨d, -, -, hsize, -, -⟩ := ty_run (w := w) (ok := ok) hE hti
       generalize hax : a.eval x = ax at hx
       cases hx with
       | ptr _ _ b hm =>
        obtain ⟨cs', arr, ty, h1, h2, h3, -⟩ := M.box i b hm
        rw [hcs] at h1; injection h1 with h1; subst h1
        have e := run_storeCells_at (P := E.P) b off ty (a.eval y).cells.toList 0 arr w h2 (by have := h3.1; have := hy.1; simp at *; omega) hy1
        obtain ⟨M', L⟩ := M.store hE (off := off) hm hcs h2 hy (cells_stk hq) hle.2
        have hrun : (execOp a.eval o).run E.P w = .ok .skip (w.setRow b (splice arr.toList off (a.eval y).cells.toList).toArray) := by
         have hsz' : (a.eval y).cells.size = ti.size := by have := hy.1; simp at this; omega
         simp only [execOp, hop, Instr.storeAt, hax, Instr.sureAddr, Sem.run_bind, Sem.run_pure, Result.andThen_ok, storeVar, hsize, hsz']
         simp only [ne_eq, not_true_eq_false, if_false, e, Result.andThen_ok]
         simp [splice]
        rw [hrun]
        refine hn _ _ _ _ _ h ?_
        have hall' : ∀ j, j < (s.H.set i (splice cs off us)).length → ∃ b, m[j]? = some (some b) := fun j hj => hall j (by simpa using hj)
        have := Sim.next (E := E) (B := B) (s := s) (d := o.dst) (v := undef) (p := .tup []) M' L hsz hs hdf hm0 hok hall' hd (wf_upd hwf (by simp) (fun ds hds p hp => by
          rw [List.length_set]
          rcases List.mem_or_eq_of_mem_set hds with h' | rfl
          ·exact hwf.H ds h' p hp
          ·unfold splice at hp
           rcases List.mem_append.1 hp with hp | hp
           ·rcases List.mem_append.1 hp with hp | hp
            ·exact hwf.H cs (List.mem_of_getElem? hcs) p (List.mem_of_mem_take hp)
            ·exact cells_PLt (ev_PLt hwf _) hq p hp
           ·exact hwf.H cs (List.mem_of_getElem? hcs) p (List.mem_of_mem_drop hp)) rfl) (.tup _ _ (by simp) (fun i v d hv _ => by simp at hv))
        rw [hT]; exact this
      ·cases hst
     ·cases hst
    ·cases hst
   ·exact h.elim
  ·rename_i x hop
   unfold panF at h
   split at h
   ·rename_i Kp t cs hev
    have hx := ev_rep hs x
    rw [hev] at hx
    generalize hv : a.eval x = v at hx
    cases hx with
    | ifc _ vs _ hr =>
     have hrun : (execOp a.eval o).run E.P w = .halt (.panic (.iface t (.agg vs))) w := by
      simp only [execOp, hop, hv]
      rfl
     rw [hrun]
     exact hq Kp rfl _ _ _ ⟨hdf.nil, _, _, rfl, ⟨ok, M.forget, hok, .ifc t vs cs hr⟩, dead, h, .inl rfl⟩
   ·exact h.elim
  ·rename_i c hop
   obtain ⟨ce, args, ts⟩ := c
   dsimp only at h
   split at h
   ·split at h
    ·rename_i x y t t' hargs hts
     split at h
     ·rename_i hbt
      obtain ⟨z, T', hA, hK⟩ := h
      have htt : t = t' := Nat.eq_of_beq_eq_true hbt
      subst htt
      have ha : args = #[x, y] := by apply Array.ext'; simpa using hargs
      have hta : ts = #[t, t] := by apply Array.ext'; simpa using hts
      subst ha; subst hta
      obtain ⟨e, sz, bb, zz, ei, xs, ys, k, h1, h2, h3, h4, h5, h6, h7, h8, h9, rfl, h10⟩ := hA.h
      have hrx := ev_rep hs x
      have hry := (ev_rep hs y).toRow h5
      have go : ∀ (r0 : TokR), r0.val = a.eval x → Spare B m ok w r0 → r0.e = e → r0.sz = ei.size → r0.len = xs.length → RepC w ok r0.val (.row xs) → (∀ (j : Nat) (r : TokR), j ≠ k → tk[j]? = some r → ∀ g, r.val.ownBlock = some g → r0.val.ownBlock ≠ some g) →
        ((tk[k]? = none ∧ r0.val.ownBlock = none) ∨ tk[k]? = some r0) → (∀ r' : TokR, ∃ tk' : List TokR, tk'[k]? = some r' ∧ (∀ j, j ≠ k → tk'[j]? = tk[j]?) ∧ (r'.len = xs.length + ys.length → r'.e = e → (tk'.map fun r => (r.len, r.e)) = T')) →
        o.upon E.P a next Q ((execOp a.eval o).run E.P w) := by
       intro r0 hv hsp he hz hl hr hoth hk htk
       obtain ⟨v', w', r', hrun, hl', he', hfin⟩ := M.app hE (ty := o.type) h1 h2 h3 h4 k hsp he hz hl hr h6 hry h7 h8 h9 hoth hk
       obtain ⟨tk', g1, g2, g3⟩ := htk r'
       obtain ⟨ok', M', L, hrep⟩ := hfin tk' g1 g2
       rw [hv] at hrun
       have : (execOp a.eval o).run E.P w = .ok (.value v') w' := by
        simp only [execOp, hop, resolve, invoke, builtin, Sem.run_bind, Sem.run_pure, Result.andThen_ok, List.map_toArray, List.map_cons, List.map_nil, hrun]
       rw [this]
       refine hn _ s.H T' _ _ hK ?_
       have := Sim.next (E := E) (B := B) (s := s) (p := .orow (xs ++ ys) k) M' L hsz hs hdf hm0 hok hall hd (wf_upd hwf (Nat.le_refl _) hwf.H trivial) hrep
       rw [g3 hl' he'] at this
       exact this
      rcases h10 with ⟨hp, hys, rfl, rfl⟩ | ⟨hp, rfl, rfl, rfl⟩ | ⟨hp, hTk, rfl⟩
      ·rw [hp] at hrx
       generalize hax : a.eval x = ax at hrx
       cases hrx with
       | full A len _ hrow =>
        have hTl : s.T.length = tk.length := by rw [hT]; simp
        obtain ⟨v', w', r', hrun, hl', he', hfin⟩ := M.appF hE (ty := o.type) h1 h2 h3 h4 (k := s.T.length) hrow h6 hry h7 hys h8 h9 (by rw [hTl]; simp)
        have gT : ((tk ++ [r']).map fun r => (r.len, r.e)) = s.T ++ [(xs.length + ys.length, e)] := by rw [hT]; simp [hl', he']
        obtain ⟨ok', M', L, hrep⟩ := hfin (tk ++ [r']) (by rw [hTl]; simp) (fun j hj => by
         rw [hTl] at hj
         by_cases hlt : j < tk.length
         ·exact List.getElem?_append_left hlt
         ·rw [List.getElem?_eq_none (by simp; omega), List.getElem?_eq_none (by omega)])
        have : (execOp a.eval o).run E.P w = .ok (.value v') w' := by
         simp only [execOp, hop, resolve, invoke, builtin, Sem.run_bind, Sem.run_pure, Result.andThen_ok, List.map_toArray, List.map_cons, List.map_nil, hax, hrun]
        rw [this]
        refine hn _ s.H _ _ _ hK ?_
        have := Sim.next (E := E) (B := B) (s := s) (p := .orow (xs ++ ys) s.T.length) M' L hsz hs hdf hm0 hok hall hd (wf_upd hwf (Nat.le_refl _) hwf.H trivial) hrep
        rw [gT] at this
        exact this
      ·rw [hp] at hrx
       have hv := hrx.nil_inv
       have hTl : s.T.length = tk.length := by rw [hT]; simp
       refine go ⟨none, 0, 0, ei.size, e⟩ hv.symm ⟨⟨[], World.ownsRow_nil _ _ _ _⟩, fun g hg => by cases hg⟩ rfl rfl rfl ?_ (fun j r _ _ g _ hg => by cases hg) (.inl ⟨by rw [hTl]; simp, rfl⟩) (fun r' => ⟨tk ++ [r'], by rw [hTl]; simp, fun j hj => ?_, fun g1 g2 => ?_⟩)
       ·have hc := hrx.toC (c := .nil) rfl
        rw [hv] at hc
        exact hc.nil_row
       ·rw [hTl] at hj
        by_cases hlt : j < tk.length
        ·exact List.getElem?_append_left hlt
        ·rw [List.getElem?_eq_none (by simp; omega), List.getElem?_eq_none (by omega)]
       ·rw [hT]; simp [g1, g2]
      ·rw [hp] at hrx
       generalize hax : a.eval x = ax at hrx
       cases hrx with
       | orow A len cap _ _ hrow r hr hle hlr =>
        have hlen : len = xs.length := by cases hrow with | row _ _ _ _ _ _ h => exact h
        have hTk' : some (r.len, r.e) = some (xs.length, e) := by
         rw [← hTk, hT, List.getElem?_map, hr]; rfl
        injection hTk' with hTk'
        injection hTk' with t1 t2
        obtain ⟨rA, rc⟩ := hlr (by omega)
        have hval : r.val = .slice A len cap := by unfold TokR.val; rw [← rA, ← rc, t1, hlen]
        have hks : k < tk.length := (List.getElem?_eq_some_iff.1 hr).1
        refine go r (by rw [hval, hax]) (M.tok k r hr) t2 (M.tsz k r ei hr (by rw [t2]; exact h2)) t1 (by rw [hval]; exact hrow) (fun j r2 hj hr2 g hg hg2 => hj (M.tinj j k r2 r g hr2 hr hg hg2)) (.inr hr) (fun r' => ⟨tk.set k r', by rw [List.getElem?_set_self hks], fun j hj => List.getElem?_set_ne (Ne.symm hj), fun g1 g2 => ?_⟩)
        rw [hT, List.map_set, g1, g2]
     ·exact h.elim
    ·exact h.elim
   ·rename_i _ x
    split at h
    ·rename_i f fa fb hf
     obtain ⟨vfs, vcs, hvf, hra, hrb⟩ := callee_inv (ev_rep hs x) hf
     -- what any call is handed
     have hand : ∀ (ids : List Nat) (bs : List (List PV)) (args' : List PV), Hand s.H (fa ++ args.toList.map (ev s.sl) ++ fb) ids bs args' → ∃ ms gs : List Nat, ids.Nodup ∧ bs.length = ids.length ∧ ms.length = ids.length ∧ (∀ i ∈ ids, i < s.H.length) ∧ (∀ (k i b : Nat), ids[k]? = some i → ms[k]? = some b → m[i]? = some (some b)) ∧
       Mem E ⟨w, ok, ms, gs⟩ bs (ms.map some) [] ok w ∧ (stkB bs = false → gs = []) ∧ (∀ g ∈ gs, ∃ i j v e xs, i ∈ ids ∧ StkAt s.H m w i j v e xs ∧ v.ownBlock = some g) ∧ RepL (Rep w ok (ms.map some) []) (vfs ++ args.map a.eval ++ vcs).toList args' := by
      intro ids bs args' hH
      obtain ⟨cs, qs, h1, h2, h3, h4, h5, h6, -⟩ := hH.h
      obtain ⟨g1, g2⟩ := getL_at h2
      obtain ⟨g3, g4⟩ := h3.at
      have hidsH : ∀ i ∈ ids, i < s.H.length := by
       intro i hi
       obtain ⟨k, hk⟩ := List.mem_iff_getElem?.1 hi
       obtain ⟨c, q1, _⟩ := g2 k i hk
       exact (List.getElem?_eq_some_iff.1 q1).1
      obtain ⟨ms, hml, hms⟩ := blocks_of hall ids hidsH
      obtain ⟨gs, M0, hgs, hgs2⟩ := M.entryS (bs := bs) hml (by omega) h1 hms (fun k i c hk hc => by
       obtain ⟨c', q1, q2⟩ := g2 k i hk
       rw [hc] at q1; injection q1 with q1; subst q1
       obtain ⟨d, q3, q4⟩ := g4 k c q2
       exact ⟨d, q3, fun vs w ok m tk h => q4.1.rep h, List.all_eq_true.1 h4 d (List.mem_of_getElem? q3), q4.2⟩)
      refine ⟨ms, gs, h1, by omega, hml, hidsH, hms, M0, fun hb => List.eq_nil_iff_forall_not_mem.2 fun g hg => ?_, hgs, ?_⟩
      ·obtain ⟨k, j, v, e, xs, b, cs', arr, ty, e1, e2, e3, e4, e5⟩ := hgs2 g hg
       unfold stkB at hb
       rw [List.any_eq_false] at hb
       have := hb cs' (List.mem_of_getElem? e2)
       exact this (List.any_eq_true.2 ⟨_, List.mem_of_getElem? e5, rfl⟩)
      have hr := h5.rep ((hra.append (ev_reps hs args.toList)).append hrb)
      have := args_rep (m' := ms.map some) (tk' := []) (fun k i b hk hb => ?_) hr h6
      ·simpa using this
      ·have hkl : k < ms.length := by rw [hml]; exact (List.getElem?_eq_some_iff.1 hk).1
       have := hms k i _ hk (List.getElem?_eq_getElem hkl)
       rw [hb] at this
       injection this with this; injection this with this
       rw [List.getElem?_map, List.getElem?_eq_getElem hkl, this]; rfl
     have ret : ∀ r H', SCallR E f s.H (fa ++ args.toList.map (ev s.sl) ++ fb) r H' → K r H' s.T → o.upon E.P a next Q ((execOp a.eval o).run E.P w) := by
      intro r H' hS hK
      obtain ⟨ids, bs, bs', args', hH, h3, h6, hO, hrc, rfl⟩ := hS.h
      obtain ⟨ms, gs, h1, hbl, hml, hidsH, hms, M0, hst, hgs, hr0⟩ := hand ids bs args' hH
      rw [call_runC hO.1 a.eval o x args ts hop hvf w]
      refine (hO.2 w ok ms gs _ hst M0 hr0).mono ?_
      rintro e w' ⟨u, ok', rfl, M', hk, hu⟩
      obtain ⟨M2, L⟩ := M.backS hml h3 h1 hms hidsH h6 M' hgs hk
      refine hn _ _ _ _ _ hK ?_
      have hall' : ∀ j, j < (setL s.H ids bs').length → ∃ b, m[j]? = some (some b) := fun j hj => hall j (by rwa [setL_length] at hj)
      have hHp : ∀ (ids : List Nat) (bs H : List (List PV)), bs.all (fun d => d.all PV.closedB) = true → (∀ cs ∈ H, ∀ p ∈ cs, PLt s.H.length p) → ∀ cs ∈ setL H ids bs, ∀ p ∈ cs, PLt s.H.length p := by
       intro ids
       induction ids with
       | nil => intro bs H _ hH; unfold setL; exact hH
       | cons i ids ih =>
        intro bs H hb hH
        cases bs with
        | nil => unfold setL; exact hH
        | cons b bs =>
         unfold setL
         have hb' := List.all_eq_true.1 hb
         refine ih bs _ (List.all_eq_true.2 fun d hd => hb' d (by simp [hd])) (fun cs hcs p hp => ?_)
         rcases List.mem_or_eq_of_mem_set hcs with hcs | rfl
         ·exact hH cs hcs p hp
         ·exact closedB_PLt (List.all_eq_true.1 (hb' _ (by simp)) p hp)
      have := Sim.next (E := E) (B := B) (s := s) M2 L hsz hs hdf hm0 hok hall' hd (wf_upd hwf (by rw [setL_length]; exact Nat.le_refl _) (by rw [setL_length]; exact hHp ids bs' s.H h6 hwf.H) (by exact closed_PLt hrc)) (hu.closed hrc m tk)
      rw [hT]; exact this
     cases kp with
     | none =>
      obtain ⟨r, H', hS, hK⟩ := h
      exact ret r H' hS hK
     | some Kp =>
      rcases h with ⟨r, H', hS, hK⟩ | ⟨p, hP, hK⟩ | ⟨p, j, hP, hkeep, hK⟩ | ⟨r, H', hW, hK⟩ | ⟨xs, e, hOc, hK⟩
      ·exact ret r H' hS hK
      ·obtain ⟨ids, bs, args', hH, hO, hpc, -⟩ := hP.h
       obtain ⟨ms, gs, h1, hbl, hml, hidsH, hms, M0, hst, hgs, hr0⟩ := hand ids bs args' hH
       rw [call_runC hO.1 a.eval o x args ts hop hvf w]
       refine (hO.2 w ok ms gs _ hst M0 hr0).mono ?_
       rintro e w' ⟨v, ok', rfl, M', hk, hv⟩
       refine hq Kp rfl _ _ _ ⟨hdf.nil, p, v, rfl, ⟨ok', M.panS (fun b hb => ?_) (own_base M hgs) M', fun b o h => hk b o (hok b o h), hv⟩, dead, hK, .inl rfl⟩
       obtain ⟨k, hk⟩ := List.mem_iff_getElem?.1 hb
       have hk' : k < ids.length := by rw [← hml]; exact (List.getElem?_eq_some_iff.1 hk).1
       exact ⟨_, hms k _ b (List.getElem?_eq_getElem hk') hk⟩
      ·obtain ⟨ids, bs, args', hH, hO, hpc, hj⟩ := hP.h
       obtain ⟨ms, gs, h1, hbl, hml, hidsH, hms, M0, hst, hgs, hr0⟩ := hand ids bs args' hH
       rw [call_runC hO.1 a.eval o x args ts hop hvf w]
       refine (hO.2 w ok ms gs _ hst M0 hr0).mono ?_
       rintro e w' ⟨v, ok', rfl, M', hk, hv⟩
       have hno : ∀ (i b : Nat), i < j → m[i]? = some (some b) → b ∉ ms := by
        intro i b hi hb hmb
        obtain ⟨k, hk⟩ := List.mem_iff_getElem?.1 hmb
        have hk' : k < ids.length := by rw [← hml]; exact (List.getElem?_eq_some_iff.1 hk).1
        have := M.inj i _ b hb (hms k _ b (List.getElem?_eq_getElem hk') hk)
        have h2 := List.all_eq_true.1 hj ids[k] (List.getElem_mem hk')
        have := Nat.ble_eq.mp h2
        omega
       have hmsb : ∀ b ∈ ms, ∃ i : Nat, m[i]? = some (some b) := by
        intro b hb
        obtain ⟨k, hk⟩ := List.mem_iff_getElem?.1 hb
        have hk' : k < ids.length := by rw [← hml]; exact (List.getElem?_eq_some_iff.1 hk).1
        exact ⟨_, hms k _ b (List.getElem?_eq_getElem hk') hk⟩
       refine hq Kp rfl _ _ _ ⟨hdf.nil, p, v, rfl, ⟨ok', M.panS hmsb (own_base M hgs) M', fun b o h => hk b o (hok b o h), hv⟩, _, hK, .inr fun hm hD => ?_⟩
       exact keep_sim ⟨M, hT, hsz, hs, hdf, hm0, hok, hall, hwf⟩ hkeep hno hmsb (fun g hg => by
        obtain ⟨i, q, v, e, xs, hi, h1, h2⟩ := hgs g hg
        exact ⟨i, q, v, e, xs, Nat.ble_eq.mp (List.all_eq_true.1 hj i hi), h1, h2⟩) M' hk hv hm hD
      ·obtain ⟨H0, args', h1, h2, h3, h4, hO, h5, h6⟩ := hW.h
       obtain ⟨ms, rfl⟩ := all_some M.len hall
       obtain ⟨g3, g4⟩ := h1.at
       obtain ⟨gs, M0, hgs⟩ := M.entryW (bs := H0) (by omega) (fun i cs hcs => by
        obtain ⟨d, q3, q4⟩ := g4 i cs hcs
        exact ⟨d, q3, fun vs w ok m tk h => q4.1.rep h, List.all_eq_true.1 h2 d (List.mem_of_getElem? q3), q4.2⟩)
       have hr0 : RepL (Rep w ok (ms.map some) []) (vfs ++ args.map a.eval ++ vcs).toList args' := by
        have hr := h3.rep ((hra.append (ev_reps hs args.toList)).append hrb)
        have : RepL (Rep w ok (ms.map some) []) (vfs.toList ++ args.toList.map a.eval ++ vcs.toList) args' := ⟨hr.1, fun i v p hv hp => (hr.2 i v p hv hp).fit [] (fun _ _ _ h => h) (List.all_eq_true.1 h4 p (List.mem_of_getElem? hp))⟩
        simpa using this
       rw [call_runC hO.1 a.eval o x args ts hop hvf w]
       refine (hO.2 w ok ms gs _ M0 hr0).mono ?_
       rintro e w' ⟨u, ok', ns, rfl, M', hk, hu⟩
       obtain ⟨M2, L⟩ := M.backW M' h5 hgs hk
       refine hn _ _ _ _ _ hK ?_
       have hall' : ∀ j, j < H'.length → ∃ b, ((ms ++ ns).map some)[j]? = some (some b) := by
        intro j hj
        have hl := M'.len
        rw [List.length_map] at hl
        exact ⟨_, by rw [List.getElem?_map, List.getElem?_eq_getElem (show j < (ms ++ ns).length by omega)]; rfl⟩
       have hle : s.H.length ≤ H'.length := by
        have h1 := M'.len
        have h2 := M.len
        rw [List.length_map] at h1 h2
        rw [List.length_append] at h1
        omega
       have := Sim.next (E := E) (B := B) (s := s) M2 L hsz hs hdf hm0 hok hall' hd (wf_upd hwf hle (fun cs hcs p hp => fitB_PLt (List.all_eq_true.1 (List.all_eq_true.1 h5 cs hcs) p hp)) (fitB_PLt h6)) (hu.fit tk (fun _ _ _ h => h) h6)
       rw [hT]; exact this
      ·obtain ⟨args', hwk, hcl, hO⟩ := hOc.h
       have hr0 : RepL (Rep w ok [] []) (vfs ++ args.map a.eval ++ vcs).toList args' := by
        have hr := hwk.rep ((hra.append (ev_reps hs args.toList)).append hrb)
        have : RepL (Rep w ok [] []) (vfs.toList ++ args.toList.map a.eval ++ vcs.toList) args' := ⟨hr.1, fun i v p hv hp => (hr.2 i v p hv hp).closed (List.all_eq_true.1 hcl p (List.mem_of_getElem? hp)) _ _⟩
        simpa using this
       rw [call_runC hO.1 a.eval o x args ts hop hvf w]
       refine (hO.2 w ok _ M.entry hr0).mono ?_
       rintro en w' ⟨u, ok', r, rfl, M', hk, hu, hre, hrl⟩
       obtain ⟨M2, L⟩ := M.backO M' hk
       refine hn _ _ _ _ _ hK ?_
       have hTl : s.T.length = tk.length := by rw [hT]; simp
       have hrep : Rep w' ok' m (tk ++ [r]) u (.orow xs s.T.length) := by
        cases hu with
        | orow A len cap _ _ h r' hr' h1 h2 =>
         have hr' : r = r' := by simpa using hr'
         subst hr'
         exact .orow A len cap xs _ h r (by rw [hTl]; simp) h1 h2
       have := Sim.next (E := E) (B := B) (s := s) (p := .orow xs s.T.length) M2 L hsz hs hdf hm0 hok hall hd (wf_upd hwf (Nat.le_refl _) hwf.H trivial) hrep
       rw [show ((tk ++ [r]).map fun r => (r.len, r.e)) = s.T ++ [(xs.length, e)] by rw [hT]; simp [hre, hrl]] at this
       exact this
    ·exact h.elim
   ·exact h.elim
  ·exact h.elim
end
end Go.Proofs.YtgpkppohfodhdaaGreatDoor.Pm
namespace Go.Proofs.YtgpkppohfodhdaaGreatDoor.Pm
open Go Go.RowKit
set_option linter.unusedVariables false
set_option linter.unusedSimpArgs false
section
variable {E : Env} {B : Base} {D : Option (FuncId × List AV)} {n : Nat} {s : St} {a : Act} {w : World}
theorem gd_wanted (S : Sim E B D n s a w) {all : Array Oper} {o : Oper} {b : Bool} (h : gd all s.sl o = some b) : Region.wanted o (yielded all a.tmps) = b := by
 obtain ⟨m, tk, ok, M, hT, hsz, hs, -⟩ := S
 unfold gd at h
 unfold Region.wanted
 cases hg : o.guard with
 | none => rw [hg] at h; exact Option.some.inj h
 | some gw =>
  obtain ⟨j, want⟩ := gw
  rw [hg] at h
  dsimp only at h ⊢
  unfold yielded
  cases ht : (all[j]?).bind (·.dst) with
  | none => rw [ht] at h; exact Option.some.inj h
  | some t =>
   rw [ht] at h
   dsimp only at h
   have hr := hs t
   have hget : ∀ v, a.tmps.getD t undef = v → v ≠ undef → a.tmps[t]? = some v := by
    intro v hv hne
    rw [Array.getD_eq_getD_getElem?] at hv
    cases hq : a.tmps[t]? with
    | none => rw [hq] at hv; exact absurd hv.symm hne
    | some u => rw [hq] at hv; exact congrArg some hv
   split at h
   ·rename_i x hx
    rw [hx] at hr
    injection h with h
    have := hget _ hr.bool_inv (by simp [undef])
    simp only [Option.bind_some, this]
    rw [← h]
    cases x <;> cases want <;> rfl
   ·rename_i hx
    rw [hx] at hr
    injection h with h
    have h0 := hr.tup0_inv
    rw [Array.getD_eq_getD_getElem?] at h0
    cases hq : a.tmps[t]? with
    | none => simp only [Option.bind_some, hq]; rw [← h]; rfl
    | some u =>
     rw [hq] at h0
     simp at h0; subst h0
     simp only [Option.bind_some, hq]; rw [← h]; rfl
   ·cases h
theorem Sim.skip (S : Sim E B D n s a w) {d : Option Tmp} (hd : ∀ t, d = some t → t < n) : Sim E B D n ⟨upd s.sl d (.tup []), s.H, s.T⟩ (a.put d undef) w := by
 obtain ⟨m, tk, ok, M, hT, hsz, hs, hdf, hm0, hok, hall, hwf⟩ := S
 have := Sim.next (E := E) (B := B) (s := s) (d := d) (v := undef) (p := .tup []) M (Later.refl w ok m tk) hsz hs hdf hm0 hok hall hd (wf_upd hwf (Nat.le_refl _) hwf.H rfl) (.tup _ _ (by simp) (fun i v d hv _ => by simp at hv))
 rw [hT]; exact this
theorem step_sound (hE : EnvOK E) {kp : Option (PV → St → Prop)} (S : Sim E B D n s a w) {all : Array Oper} {o : Oper} (hd : ∀ d, o.dst = some d → d < n) {K : St → Prop} (h : step E kp all o s K) {next : Act → World → Prop} {Q : Exit → Act → World → Prop}
  (hq : ∀ Kp, kp = some Kp → ∀ ch a w, PanOK E B D n Kp ch a w → Q (.panic ch) a w)
  (hn : ∀ s' a' w', K s' → Sim E B D n s' a' w' → next a' w') : if Region.wanted o (yielded all a.tmps) then o.wp E.P a w next Q else next (a.put o.dst undef) w := by
 unfold step at h
 split at h
 ·rename_i hg
  rw [if_pos (gd_wanted S hg)]
  exact op_sound hE S hd h hq fun v H T a' w' hk hS => hn _ a' w' hk hS
 ·rename_i hg
  rw [gd_wanted S hg]
  exact hn _ _ _ h (S.skip hd)
 ·exact h.elim
theorem list_sound (hE : EnvOK E) {kp : Option (PV → St → Prop)} {all : Array Oper} {K : St → Prop} {Q : Exit → Act → World → Prop} (hq : ∀ Kp, kp = some Kp → ∀ ch a w, PanOK E B D n Kp ch a w → Q (.panic ch) a w) (hK : ∀ s a w, K s → Sim E B D n s a w → Q .normal a w) : ∀ (l : List Oper) (s : St) (a : Act) (w : World), (∀ o ∈ l, ∀ d, o.dst = some d → d < n) →
  wpL E kp all l K s → Sim E B D n s a w → wpList E.P all Q l a w
 | [], s, a, w, _, h, S => hK s a w h S
 | o :: l, s, a, w, hd, h, S => wpList_step fun K' hK' => step_sound hE S (hd o (by simp)) (K := wpL E kp all l K) (wpL_cons.1 h).2 hq fun s' a' w' h' S' => hK' _ _ (list_sound hE hq hK l s' a' w' (fun x hx => hd x (by simp [hx])) h' S')
theorem Sim.wf (S : Sim E B D n s a w) : WF s := by
 obtain ⟨m, tk, ok, M, hT, hsz, hs, hdf, hm0, hok, hall, hwf⟩ := S
 exact hwf
theorem Sim.drew (hE : EnvOK E) (S : Sim E B D n s a w) (k : Nat) : Sim E B D n s a { w with drawn := k } := by
 obtain ⟨m, tk, ok, M, hT, hsz, hs, hd, r⟩ := S
 exact ⟨m, tk, ok, M.drew hE k, hT, hsz, fun t => (hs t).later (Later.drew w ok m tk k), hd.later (Later.drew w ok m tk k).stay (fun _ _ h => h), r⟩
def chkDraw (pt : Fl) (ops : Array Oper) : Bool := (List.range ops.size).all fun i => let oi := ops.getD i default
 oi.after.all (fun e => !Region.binds .any e || decide (e.on < i)) && (List.range i).all fun j => edge oi j || (Oper.apart ops (ops.getD j default) oi && compat pt ops j i) || reach ops ops.size i j
theorem reach_listed {ops : Array Oper} {listed : Array Bool} (hcl : ∀ k, k < ops.size → listed.getD k false = true → (ops.getD k default).after.all (fun e => !Region.binds .any e || listed.getD e.on false) = true) :
  ∀ (f i j : Nat), (ops.getD i default).after.all (fun e => !Region.binds .any e || listed.getD e.on false) = true → reach ops f i j = true → listed.getD j false = true
 | 0, _, _, _, h => by simp [reach] at h
 | f + 1, i, j, hi, h => by
  unfold reach at h
  obtain ⟨e, he, h⟩ := List.any_eq_true.1 h
  rw [Bool.and_eq_true, Bool.or_eq_true, Bool.and_eq_true] at h
  have h1 := Array.all_eq_true_iff_forall_mem.1 hi e (Array.mem_toList_iff.1 he)
  rw [h.1] at h1
  have h1 : listed.getD e.on false = true := by simpa using h1
  rcases h.2 with h2 | h2
  ·rw [← Nat.eq_of_beq_eq_true h2]; exact h1
  ·by_cases hk : e.on < ops.size
   ·exact reach_listed hcl f e.on j (hcl _ hk h1) h2.2
   ·have : ops.getD e.on default = default := by rw [Array.getD_eq_getD_getElem?, Array.getElem?_eq_none (by omega)]; rfl
    have h3 := h2.2
    cases f with
    | zero => simp [reach] at h3
    | succ f =>
     unfold reach at h3
     rw [this] at h3
     exact absurd h3 (by simp [show (default : Oper).after = #[] from rfl])
theorem any_sound (hE : EnvOK E) {ops : Array Oper} (hchk : chkDraw E.pt ops = true) (hdst : ∀ o ∈ ops.toList, ∀ d, o.dst = some d → d < n) {K : St → Prop} {Q : Exit → Act → World → Prop} (hK : ∀ s a w, K s → Sim E B D n s a w → Q .normal a w) :
  ∀ (fuel : Nat) (listed : Array Bool) (L : List Nat) (s : St) (a : Act) (w : World), L.length = fuel → listed.size = ops.size → (∀ k, k < ops.size → listed.getD k false = true → (ops.getD k default).after.all (fun e => !Region.binds .any e || listed.getD e.on false) = true) → L.Pairwise (· < ·) → (∀ i, i ∈ L ↔ i < ops.size ∧ listed.getD i true = false) →
   wpL E none ops (L.map fun i => ops.getD i default) K s → Sim E B D n s a w → wpAny E.P .any ops Q fuel listed a w := by
 have chk : ∀ i, i < ops.size → (ops.getD i default).after.all (fun e => !Region.binds .any e || decide (e.on < i)) = true ∧ ∀ j, j < i → (edge (ops.getD i default) j = true ∨ reach ops ops.size i j = true) ∨ (Oper.apart ops (ops.getD j default) (ops.getD i default) = true ∧ compat E.pt ops j i = true) := by
  intro i hi
  have := List.all_eq_true.1 hchk i (List.mem_range.2 hi)
  rw [Bool.and_eq_true] at this
  refine ⟨this.1, fun j hj => ?_⟩
  have h2 := List.all_eq_true.1 this.2 j (List.mem_range.2 hj)
  rw [Bool.or_eq_true, Bool.or_eq_true, Bool.and_eq_true] at h2
  rcases h2 with (h2 | h2) | h2
  ·exact .inl (.inl h2)
  ·exact .inr h2
  ·exact .inl (.inr h2)
 have hop : ∀ i, i < ops.size → ops[i]? = some (ops.getD i default) := by
  intro i hi
  rw [Array.getD_eq_getD_getElem?, Array.getElem?_eq_getElem hi]
  rfl
 have hmem : ∀ i, i < ops.size → ops.getD i default ∈ ops.toList := fun i hi => by
  have := hop i hi
  exact Array.mem_toList_iff.2 (Array.mem_of_getElem? this)
 intro fuel
 induction fuel with
 | zero =>
  intro listed L s a w hl hsz hcl hp hL h S
  have : L = [] := List.length_eq_zero_iff.1 hl
  subst this
  refine ⟨?_, hK s a w h S⟩
  unfold Region.ready
  rw [List.filter_eq_nil_iff]
  intro i hi
  have hi := List.mem_range.1 hi
  have := (not_congr (hL i)).1 (by simp)
  have h2 : listed.getD i true = true := by
   cases hq : listed.getD i true with
   | true => rfl
   | false => exact absurd ⟨hi, hq⟩ this
  simp [h2]
 | succ fuel ih =>
  intro listed L s a w hl hsz hcl hp hL h S
  have rdy : ∀ i, i ∈ Region.ready .any ops listed ↔ i < ops.size ∧ listed.getD i true = false ∧ (ops.getD i default).after.all (fun e => !Region.binds .any e || listed.getD e.on false) = true := by
   intro i
   unfold Region.ready
   rw [List.mem_filter, List.mem_range]
   constructor
   ·rintro ⟨h1, h2⟩
    rw [hop i h1] at h2
    simp only [Bool.and_eq_true, Bool.not_eq_true', Option.map_some, Option.getD_some] at h2
    exact ⟨h1, h2.1, h2.2⟩
   ·rintro ⟨h1, h2, h3⟩
    refine ⟨h1, ?_⟩
    rw [hop i h1]
    simp only [Bool.and_eq_true, Bool.not_eq_true', Option.map_some, Option.getD_some]
    exact ⟨h2, h3⟩
  constructor
  ·intro hr
   exfalso
   cases L with
   | nil => simp at hl
   | cons i0 L' =>
    have hi0 := (hL i0).1 (by simp)
    have : i0 ∈ Region.ready .any ops listed := by
     rw [rdy]
     refine ⟨hi0.1, hi0.2, ?_⟩
     rw [Array.all_eq_true_iff_forall_mem]
     intro e he
     have h1 := Array.all_eq_true_iff_forall_mem.1 (chk i0 hi0.1).1 e he
     rw [Bool.or_eq_true] at h1 ⊢
     rcases h1 with h1 | h1
     ·exact .inl h1
     ·refine .inr ?_
      have hlt : e.on < i0 := by simpa using h1
      have hn : e.on ∉ i0 :: L' := by
       intro hm
       rcases List.mem_cons.1 hm with hm | hm
       ·omega
       ·have := (List.pairwise_cons.1 hp).1 _ hm; omega
      have hs' : e.on < listed.size := by omega
      have := (not_congr (hL e.on)).1 hn
      have h2 : listed.getD e.on true ≠ false := fun h3 => this ⟨by omega, h3⟩
      simp only [Array.getD_eq_getD_getElem?, Array.getElem?_eq_getElem hs', Option.getD_some] at h2 ⊢
      simpa using h2
    rw [hr] at this
    cases this
  ·intro i hi
   obtain ⟨h1, h2, h3⟩ := (rdy i).1 hi
   have hiL : i ∈ L := (hL i).2 ⟨h1, h2⟩
   obtain ⟨l1, l2, rfl⟩ := List.append_of_mem hiL
   have hpp := List.pairwise_append.1 hp
   have hbub : step E none ops (ops.getD i default) s (wpL E none ops ((l1.map fun i => ops.getD i default) ++ l2.map fun i => ops.getD i default) K) := by
    refine bubble h1 l1 s S.wf hpp.1 (fun j hj => ?_) (by simpa using h)
    have hji : j < i := hpp.2.2 j hj i (by simp)
    have hjl := (hL j).1 (by simp [hj])
    have hs' : j < listed.size := by omega
    have nol : listed.getD j false = true → False := by
     intro h4
     have h5 := hjl.2
     simp only [Array.getD_eq_getD_getElem?, Array.getElem?_eq_getElem hs', Option.getD_some] at h4 h5
     rw [h5] at h4
     cases h4
    rcases (chk i h1).2 j hji with (he | he) | he
    ·exfalso
     unfold edge at he
     obtain ⟨e, hem, he⟩ := List.any_eq_true.1 he
     rw [Bool.and_eq_true] at he
     have h4 := Array.all_eq_true_iff_forall_mem.1 h3 e (Array.mem_toList_iff.1 hem)
     rw [he.1] at h4
     rw [Nat.eq_of_beq_eq_true he.2] at h4
     exact nol (by simpa using h4)
    ·exact (nol (reach_listed hcl _ _ _ h3 he)).elim
    ·exact ⟨hji, he⟩
   have hst : step E none ops (ops.getD i default) s (wpL E none ops ((l1 ++ l2).map fun i => ops.getD i default) K) := by
    rw [List.map_append]; exact hbub
   have hnext : ∀ s' a' w', wpL E none ops ((l1 ++ l2).map fun i => ops.getD i default) K s' → Sim E B D n s' a' w' → wpAny E.P .any ops Q fuel (listed.setIfInBounds i true) a' w' := by
    intro s' a' w' h' S'
    refine ih _ (l1 ++ l2) s' a' w' (by simp at hl ⊢; omega) (by simpa using hsz) ?_ ?_ ?_ h' S'
    ·have up : ∀ k, listed.getD k false = true → (listed.setIfInBounds i true).getD k false = true := by
      intro k hk
      by_cases hki : k = i
      ·subst hki
       have : k < listed.size := by omega
       simp [Array.getD_eq_getD_getElem?, this]
      ·simpa [Array.getD_eq_getD_getElem?, Array.getElem?_setIfInBounds_ne (Ne.symm hki)] using hk
     have key : ∀ k, (ops.getD k default).after.all (fun e => !Region.binds .any e || listed.getD e.on false) = true → (ops.getD k default).after.all (fun e => !Region.binds .any e || (listed.setIfInBounds i true).getD e.on false) = true := by
      intro k hk
      rw [Array.all_eq_true_iff_forall_mem] at hk ⊢
      intro e he
      have := hk e he
      rw [Bool.or_eq_true] at this ⊢
      exact this.imp id (up _)
     intro k hk hkl
     by_cases hki : k = i
     ·subst hki; exact key k h3
     ·refine key k (hcl k hk ?_)
      simpa [Array.getD_eq_getD_getElem?, Array.getElem?_setIfInBounds_ne (Ne.symm hki)] using hkl
    ·exact List.pairwise_append.2 ⟨hpp.1, (List.pairwise_cons.1 hpp.2.1).2, fun x hx y hy => hpp.2.2 x hx y (by simp [hy])⟩
    ·intro j
     have hj := hL j
     by_cases hji : j = i
     ·subst hji
      have hno : j ∉ l1 ++ l2 := by
       intro hm
       rcases List.mem_append.1 hm with hm | hm
       ·have := hpp.2.2 j hm j (by simp); omega
       ·have := (List.pairwise_cons.1 hpp.2.1).1 j hm; omega
      refine ⟨fun hm => absurd hm hno, fun hm => ?_⟩
      exfalso
      have hs' : j < listed.size := by omega
      simp [Array.getD_eq_getD_getElem?, hs'] at hm
     ·rw [show (listed.setIfInBounds i true).getD j true = listed.getD j true by simp [Array.getD_eq_getD_getElem?, Array.getElem?_setIfInBounds_ne (Ne.symm hji)]]
      rw [← hj]
      simp [hji]
   have hw := step_sound (all := ops) hE S (hdst _ (hmem i h1)) hst (Q := Q) (fun _ h => by cases h) hnext
   unfold Go.wpOp
   rw [hop i h1]
   generalize ops.getD i default = oi at hw ⊢
   dsimp only
   by_cases hwt : Region.wanted oi (yielded ops a.tmps) = true
   ·rw [if_pos hwt] at hw ⊢
    exact .inl hw
   ·rw [if_neg hwt] at hw ⊢
    exact hw
structure PanX (E : Env) (Kp : PV → St → Prop) (all : Array Oper) (x : Oper) (s : St) : Prop where
 g : gd all s.sl x = some true
 h : ∃ (c : Call) (xo : Operand) (f : FuncId) (fa fb : List PV) (p : PV), x.op = .call c ∧ c.callee = .value xo ∧ clsOf E.pt x.op = .eff ∧ calleeF (ev s.sl xo) = some (f, fa, fb) ∧ SCallPj E f s.H (fa ++ c.args.toList.map (ev s.sl) ++ fb) p 0 ∧ Kp p dead
def stepD (E : Env) (Kp : PV → St → Prop) (all : Array Oper) (o : Oper) (s : St) (K : St → Prop) : Prop := match gd all s.sl o with
 | some true => wpOpD E Kp all o s fun v H' T' => K ⟨upd s.sl o.dst v, H', T'⟩
 | some false => K ⟨upd s.sl o.dst (.tup []), s.H, s.T⟩
 | none => False
theorem wpLD_cons {E : Env} {Kp : PV → St → Prop} {all : Array Oper} {o : Oper} {rest : List Oper} {K : St → Prop} {s : St} : wpLD E Kp all (o :: rest) K s ↔ sepB E.pt all s.sl o = true ∧ stepD E Kp all o s (wpLD E Kp all rest K) := by
 obtain ⟨sl, H, T⟩ := s
 show (match sepB E.pt all sl o with
  | true => stepD E Kp all o ⟨sl, H, T⟩ (wpLD E Kp all rest K)
  | false => False) ↔ _
 cases sepB E.pt all sl o
 ·exact ⟨fun h => h.elim, fun h => absurd h.1 (by simp)⟩
 ·exact ⟨fun h => ⟨rfl, h⟩, fun h => h.2⟩
theorem wpOpD_split {E : Env} {Kp : PV → St → Prop} {all : Array Oper} {o : Oper} {s : St} {K : PV → List (List PV) → List (Nat × Nat) → Prop} (hg : gd all s.sl o = some true) (h : wpOpD E Kp all o s K) : wpOp E none s o.op K ∨ (lastB E.pt all o = true ∧ PanX E Kp all o s) := by
 obtain ⟨sl, H, T⟩ := s
 unfold wpOpD at h
 dsimp only at h
 split at h
 ·rename_i hc
  split at h
  ·rename_i c hop
   split at h
   ·rename_i x hx
    split at h
    ·rename_i f fa fb hf
     rcases h with h | ⟨p, h1, h2, h3⟩
     ·refine .inl ?_
      rw [wpOp_def, hc, hop]
      dsimp only
      rw [hx]
      dsimp only
      rw [hf]
      exact h
     ·exact .inr ⟨h2, hg, c, x, f, fa, fb, p, hop, hx, hc, hf, h1, h3⟩
    ·exact h.elim
   ·exact .inl h
  ·exact .inl h
 ·exact .inl h
theorem splitD {E : Env} {Kp : PV → St → Prop} {all : Array Oper} {K : St → Prop} : ∀ (l : List Oper) (s : St), wpLD E Kp all l K s → wpL E none all l K s ∨ ∃ l1 x l2, l = l1 ++ x :: l2 ∧ lastB E.pt all x = true ∧ wpL E none all l1 (PanX E Kp all x) s
 | [], s, h => .inl h
 | o :: l, s, h => by
  obtain ⟨hs, h⟩ := wpLD_cons.1 h
  unfold stepD at h
  split at h
  ·rename_i hg
   rcases wpOpD_split hg h with h | ⟨hl, hp⟩
   ·obtain ⟨u, H, T, h1, h2⟩ := wpOp_ex h
    have hst : ∀ {Q : St → Prop}, Q ⟨upd s.sl o.dst u, H, T⟩ → step E none all o s Q := by
     intro Q hQ
     unfold step
     rw [hg]
     refine wpOp_mono h1 ?_
     rintro v H' T' ⟨rfl, rfl, rfl⟩
     exact hQ
    rcases splitD l _ h2 with h3 | ⟨l1, x, l2, e, hx, h3⟩
    ·exact .inl (wpL_cons.2 ⟨hs, hst h3⟩)
    ·exact .inr ⟨o :: l1, x, l2, by rw [e]; rfl, hx, wpL_cons.2 ⟨hs, hst h3⟩⟩
   ·exact .inr ⟨[], o, l, rfl, hl, hp⟩
  ·rename_i hg
   have hst : ∀ {Q : St → Prop}, Q ⟨upd s.sl o.dst (.tup []), s.H, s.T⟩ → step E none all o s Q := by
    intro Q hQ
    unfold step
    rw [hg]
    exact hQ
   rcases splitD l _ h with h3 | ⟨l1, x, l2, e, hx, h3⟩
   ·exact .inl (wpL_cons.2 ⟨hs, hst h3⟩)
   ·exact .inr ⟨o :: l1, x, l2, by rw [e]; rfl, hx, wpL_cons.2 ⟨hs, hst h3⟩⟩
  ·exact h.elim
theorem getL_app {H add : List (List PV)} : ∀ {ids : List Nat} {cs : List (List PV)}, (∀ i ∈ ids, i < H.length) → getL (H ++ add) ids = some cs → getL H ids = some cs
 | [], cs, _, h => h
 | i :: ids, cs, hi, h => by
  simp only [getL] at h ⊢
  rw [List.getElem?_append_left (hi i (by simp))] at h
  split at h
  ·rename_i c l h1 h2
   rw [h1, getL_app (fun j hj => hi j (by simp [hj])) h2]
   exact h
  ·cases h
theorem PLt_hasP {n i : Nat} {p : PV} (h : PLt n p) (hp : hasP i p = true) : i < n := by
 cases p <;> simp only [hasP] at hp <;> try (cases hp; done)
 ·rename_i k o
  have := Nat.eq_of_beq_eq_true hp
  subst this
  exact h
 ·rename_i f a b
  obtain ⟨x, hx, hxi⟩ := List.any_eq_true.1 hp
  have := List.all_eq_true.1 h x hx
  cases x <;> simp only [hasA] at hxi <;> try (cases hxi; done)
  rename_i k o
  have e := Nat.eq_of_beq_eq_true hxi
  subst e
  exact of_decide_eq_true this
 ·rename_i k o
  have := Nat.eq_of_beq_eq_true hp
  subst this
  exact h
 ·rename_i fs k
  have := Nat.eq_of_beq_eq_true hp
  subst this
  exact h
theorem SCallPj.less {E : Env} {f : FuncId} {H add : List (List PV)} {ps : List PV} {p : PV} {j : Nat} (hps : ∀ q ∈ ps, PLt H.length q) (h : SCallPj E f (H ++ add) ps p j) : SCallPj E f H ps p j := by
 obtain ⟨ids, bs, args, hH, h2, h3, h4⟩ := h.h
 refine ⟨ids, bs, args, ?_, h2, h3, h4⟩
 obtain ⟨cs, qs, k1, k2, k3, k4, k5, k6, k7⟩ := hH.h
 refine ⟨cs, qs, k1, getL_app (fun i hi => ?_) k2, k3, k4, k5, k6, k7⟩
 have := List.all_eq_true.1 k7 i hi
 obtain ⟨q, hq, hqi⟩ := List.any_eq_true.1 this
 exact PLt_hasP (hps q hq) hqi
theorem callee_PLt {n : Nat} {p : PV} {f : FuncId} {fa fb : List PV} (hp : PLt n p) (h : calleeF p = some (f, fa, fb)) : (∀ q ∈ fa, PLt n q) ∧ ∀ q ∈ fb, PLt n q := by
 unfold calleeF at h
 split at h
 ·injection h with h; injection h with h1 h2; injection h2 with h2 h3; subst h2; subst h3
  exact ⟨fun q hq => by simp at hq, fun q hq => by simp at hq⟩
 ·rename_i g fs cs
  injection h with h; injection h with h1 h2; injection h2 with h2 h3; subst h2; subst h3
  have hp : (fs ++ cs).all (ALt n) = true := hp
  have key : ∀ x ∈ fs ++ cs, PLt n x.pv := by
   intro x hx
   have := List.all_eq_true.1 hp x hx
   cases x with
   | p i o => show i < n; exact of_decide_eq_true this
   | c v => trivial
   | a cs => trivial
  refine ⟨fun q hq => ?_, fun q hq => ?_⟩
  ·obtain ⟨x, hx, rfl⟩ := List.mem_map.1 hq
   exact key x (by simp [hx])
  ·obtain ⟨x, hx, rfl⟩ := List.mem_map.1 hq
   exact key x (by simp [hx])
 ·cases h
theorem pan_back {E : Env} {Kp : PV → St → Prop} {all : Array Oper} {x : Oper} : ∀ (l : List Oper) (s : St), WF s → (∀ y ∈ l, Oper.apart all y x = true ∧ clsOf E.pt y.op ≠ .eff) → wpL E none all l (PanX E Kp all x) s → PanX E Kp all x s
 | [], s, _, _, h => h
 | y :: l, s, hw, hl, h => by
  obtain ⟨hap, hc⟩ := hl y (by simp)
  obtain ⟨a1, a2, a3⟩ := Oper.apart_spec hap
  have h2 := step_wf' hw (wpL_cons.1 h).2
  obtain ⟨v, add, -, hw', h4⟩ := (step_SR hc).1 h2
  have ih := pan_back l _ hw' (fun z hz => hl z (by simp [hz])) h4
  obtain ⟨g, c, xo, f, fa, fb, p, k1, k2, k3, k4, k5, k6⟩ := ih
  dsimp only at g k4 k5
  rw [gd_upd a1] at g
  have ag : Agree x.op (upd s.sl y.dst v) s.sl := agree_upd (all := all) a1
  have e1 : ev (upd s.sl y.dst v) xo = ev s.sl xo := ag xo (by rw [k1]; simp [Op.operands, Call.operands, k2])
  have e2 : c.args.toList.map (ev (upd s.sl y.dst v)) = c.args.toList.map (ev s.sl) := ev_list fun z hz => ag z (by rw [k1]; simp [Op.operands, Call.operands]; exact .inr (by simpa using hz))
  rw [e1] at k4
  rw [e2] at k5
  refine ⟨g, c, xo, f, fa, fb, p, k1, k2, k3, k4, k5.less (fun q hq => ?_), k6⟩
  obtain ⟨c1, c2⟩ := callee_PLt (ev_PLt hw xo) k4
  rcases List.mem_append.1 hq with hq | hq
  ·rcases List.mem_append.1 hq with hq | hq
   ·exact c1 q hq
   ·obtain ⟨z, _, rfl⟩ := List.mem_map.1 hq
    exact ev_PLt hw z
  ·exact c2 q hq
theorem PanX.step {E : Env} {Kp : PV → St → Prop} {all : Array Oper} {x : Oper} {s : St} (h : PanX E Kp all x s) : step E (some Kp) all x s fun _ => False := by
 obtain ⟨g, c, xo, f, fa, fb, p, k1, k2, k3, k4, k5, k6⟩ := h
 unfold Pm.step
 rw [g]
 dsimp only
 rw [wpOp_def, k3, k1]
 dsimp only
 rw [k2]
 dsimp only
 rw [k4]
 exact .inr (.inl ⟨p, k5, k6⟩)
theorem pan_sound (hE : EnvOK E) {ops : Array Oper} (hchk : chkDraw E.pt ops = true) (hdst : ∀ o ∈ ops.toList, ∀ d, o.dst = some d → d < n) {Kp : PV → St → Prop} {Q : Exit → Act → World → Prop} (hq : ∀ ch a w, PanOK E B D n Kp ch a w → Q (.panic ch) a w)
  {i0 : Nat} (hi0 : i0 < ops.size) (hlater : ∀ k, i0 < k → k < ops.size → reach ops ops.size k i0 = true) (hpure : ∀ j, j < i0 → clsOf E.pt (ops.getD j default).op ≠ .eff) :
  ∀ (fuel : Nat) (listed : Array Bool) (L : List Nat) (s : St) (a : Act) (w : World), L.length < fuel → listed.size = ops.size → (∀ k, k < ops.size → listed.getD k false = true → (ops.getD k default).after.all (fun e => !Region.binds .any e || listed.getD e.on false) = true) → L.Pairwise (· < ·) → (∀ i, i ∈ L ↔ i < i0 ∧ listed.getD i true = false) → listed.getD i0 true = false →
   wpL E none ops (L.map fun i => ops.getD i default) (PanX E Kp ops (ops.getD i0 default)) s → Sim E B D n s a w → wpAny E.P .any ops Q fuel listed a w := by
 have chk : ∀ i, i < ops.size → (ops.getD i default).after.all (fun e => !Region.binds .any e || decide (e.on < i)) = true ∧ ∀ j, j < i → (edge (ops.getD i default) j = true ∨ reach ops ops.size i j = true) ∨ (Oper.apart ops (ops.getD j default) (ops.getD i default) = true ∧ compat E.pt ops j i = true) := by
  intro i hi
  have := List.all_eq_true.1 hchk i (List.mem_range.2 hi)
  rw [Bool.and_eq_true] at this
  refine ⟨this.1, fun j hj => ?_⟩
  have h2 := List.all_eq_true.1 this.2 j (List.mem_range.2 hj)
  rw [Bool.or_eq_true, Bool.or_eq_true, Bool.and_eq_true] at h2
  rcases h2 with (h2 | h2) | h2
  ·exact .inl (.inl h2)
  ·exact .inr h2
  ·exact .inl (.inr h2)
 have hop : ∀ i, i < ops.size → ops[i]? = some (ops.getD i default) := by
  intro i hi
  rw [Array.getD_eq_getD_getElem?, Array.getElem?_eq_getElem hi]
  rfl
 have hmem : ∀ i, i < ops.size → ops.getD i default ∈ ops.toList := fun i hi => by
  have := hop i hi
  exact Array.mem_toList_iff.2 (Array.mem_of_getElem? this)
 intro fuel
 induction fuel with
 | zero => intro listed L s a w hl; omega
 | succ fuel ih =>
  intro listed L s a w hl hsz hcl hp hL hun h S
  have rdy : ∀ i, i ∈ Region.ready .any ops listed ↔ i < ops.size ∧ listed.getD i true = false ∧ (ops.getD i default).after.all (fun e => !Region.binds .any e || listed.getD e.on false) = true := by
   intro i
   unfold Region.ready
   rw [List.mem_filter, List.mem_range]
   constructor
   ·rintro ⟨h1, h2⟩
    rw [hop i h1] at h2
    simp only [Bool.and_eq_true, Bool.not_eq_true', Option.map_some, Option.getD_some] at h2
    exact ⟨h1, h2.1, h2.2⟩
   ·rintro ⟨h1, h2, h3⟩
    refine ⟨h1, ?_⟩
    rw [hop i h1]
    simp only [Bool.and_eq_true, Bool.not_eq_true', Option.map_some, Option.getD_some]
    exact ⟨h2, h3⟩
  -- an operation all of whose forerunners among the earlier ones have come up is ready
  have first : ∀ i, i < ops.size → listed.getD i true = false → i ≤ i0 → (∀ j, j < i → listed.getD j true ≠ false) → i ∈ Region.ready .any ops listed := by
   intro i hi hui hle hb
   rw [rdy]
   refine ⟨hi, hui, ?_⟩
   rw [Array.all_eq_true_iff_forall_mem]
   intro e he
   have h1 := Array.all_eq_true_iff_forall_mem.1 (chk i hi).1 e he
   rw [Bool.or_eq_true] at h1 ⊢
   rcases h1 with h1 | h1
   ·exact .inl h1
   ·refine .inr ?_
    have hlt : e.on < i := by simpa using h1
    have hs' : e.on < listed.size := by omega
    have h2 := hb e.on hlt
    simp only [Array.getD_eq_getD_getElem?, Array.getElem?_eq_getElem hs', Option.getD_some] at h2 ⊢
    simpa using h2
  have unl : ∀ j, j < ops.size → listed.getD j false = true → listed.getD j true = false → False := by
   intro j hj h4 h5
   have hs' : j < listed.size := by omega
   simp only [Array.getD_eq_getD_getElem?, Array.getElem?_eq_getElem hs', Option.getD_some] at h4 h5
   rw [h5] at h4
   cases h4
  constructor
  ·intro hr
   exfalso
   cases L with
   | nil =>
    have := first i0 hi0 hun (Nat.le_refl _) (fun j hj hc => by have := (hL j).2 ⟨hj, hc⟩; simp at this)
    rw [hr] at this
    cases this
   | cons j0 L' =>
    have hj0 := (hL j0).1 (by simp)
    have := first j0 (by omega) hj0.2 (by omega) (fun j hj hc => by
     have hm := (hL j).2 ⟨by omega, hc⟩
     rcases List.mem_cons.1 hm with rfl | hm
     ·omega
     ·have := (List.pairwise_cons.1 hp).1 _ hm; omega)
    rw [hr] at this
    cases this
  ·intro i hi
   obtain ⟨h1, h2, h3⟩ := (rdy i).1 hi
   -- what a ready operation is not hung on by those that have not come up
   have free : ∀ j, j < i → j < ops.size → listed.getD j true = false → Oper.apart ops (ops.getD j default) (ops.getD i default) = true ∧ compat E.pt ops j i = true := by
    intro j hji hjs hju
    rcases (chk i h1).2 j hji with (he | he) | he
    ·exfalso
     unfold edge at he
     obtain ⟨e, hem, he⟩ := List.any_eq_true.1 he
     rw [Bool.and_eq_true] at he
     have h4 := Array.all_eq_true_iff_forall_mem.1 h3 e (Array.mem_toList_iff.1 hem)
     rw [he.1] at h4
     rw [Nat.eq_of_beq_eq_true he.2] at h4
     exact unl j hjs (by simpa using h4) hju
    ·exact (unl j hjs (reach_listed hcl _ _ _ h3 he) hju).elim
    ·exact he
   by_cases hlt : i0 < i
   ·exact (unl i0 hi0 (reach_listed hcl _ _ _ h3 (hlater i hlt h1)) hun).elim
   by_cases heq : i = i0
   ·subst heq
    have hpx : PanX E Kp ops (ops.getD i default) s := by
     refine pan_back _ s S.wf (fun y hy => ?_) h
     obtain ⟨j, hj, rfl⟩ := List.mem_map.1 hy
     have hjl := (hL j).1 hj
     exact ⟨(free j hjl.1 (by omega) hjl.2).1, hpure j hjl.1⟩
    have hw := step_sound (all := ops) hE (kp := some Kp) S (hdst _ (hmem i h1)) hpx.step (Q := Q) (fun Kp' e => by injection e with e; subst e; exact hq) (next := wpAny E.P .any ops Q fuel (listed.setIfInBounds i true)) (fun s' a' w' hf => hf.elim)
    unfold Go.wpOp
    rw [hop i h1]
    generalize ops.getD i default = oi at hw ⊢
    dsimp only
    by_cases hwt : Region.wanted oi (yielded ops a.tmps) = true
    ·rw [if_pos hwt] at hw ⊢
     exact .inl hw
    ·rw [if_neg hwt] at hw ⊢
     exact hw
   ·have hil : i < i0 := by omega
    have hiL : i ∈ L := (hL i).2 ⟨hil, h2⟩
    obtain ⟨l1, l2, rfl⟩ := List.append_of_mem hiL
    have hpp := List.pairwise_append.1 hp
    have hbub : step E none ops (ops.getD i default) s (wpL E none ops ((l1.map fun i => ops.getD i default) ++ l2.map fun i => ops.getD i default) (PanX E Kp ops (ops.getD i0 default))) := by
     refine bubble h1 l1 s S.wf hpp.1 (fun j hj => ?_) (by simpa using h)
     have hji : j < i := hpp.2.2 j hj i (by simp)
     have hjl := (hL j).1 (by simp [hj])
     exact ⟨hji, free j hji (by omega) hjl.2⟩
    have hst : step E none ops (ops.getD i default) s (wpL E none ops ((l1 ++ l2).map fun i => ops.getD i default) (PanX E Kp ops (ops.getD i0 default))) := by
     rw [List.map_append]; exact hbub
    have hnext : ∀ s' a' w', wpL E none ops ((l1 ++ l2).map fun i => ops.getD i default) (PanX E Kp ops (ops.getD i0 default)) s' → Sim E B D n s' a' w' → wpAny E.P .any ops Q fuel (listed.setIfInBounds i true) a' w' := by
     intro s' a' w' h' S'
     refine ih _ (l1 ++ l2) s' a' w' (by simp at hl ⊢; omega) (by simpa using hsz) ?_ ?_ ?_ ?_ h' S'
     ·have up : ∀ k, listed.getD k false = true → (listed.setIfInBounds i true).getD k false = true := by
       intro k hk
       by_cases hki : k = i
       ·subst hki
        have : k < listed.size := by omega
        simp [Array.getD_eq_getD_getElem?, this]
       ·simpa [Array.getD_eq_getD_getElem?, Array.getElem?_setIfInBounds_ne (Ne.symm hki)] using hk
      have key : ∀ k, (ops.getD k default).after.all (fun e => !Region.binds .any e || listed.getD e.on false) = true → (ops.getD k default).after.all (fun e => !Region.binds .any e || (listed.setIfInBounds i true).getD e.on false) = true := by
       intro k hk
       rw [Array.all_eq_true_iff_forall_mem] at hk ⊢
       intro e he
       have := hk e he
       rw [Bool.or_eq_true] at this ⊢
       exact this.imp id (up _)
      intro k hk hkl
      by_cases hki : k = i
      ·subst hki; exact key k h3
      ·refine key k (hcl k hk ?_)
       simpa [Array.getD_eq_getD_getElem?, Array.getElem?_setIfInBounds_ne (Ne.symm hki)] using hkl
     ·exact List.pairwise_append.2 ⟨hpp.1, (List.pairwise_cons.1 hpp.2.1).2, fun x hx y hy => hpp.2.2 x hx y (by simp [hy])⟩
     ·intro j
      have hj := hL j
      by_cases hji : j = i
      ·subst hji
       have hno : j ∉ l1 ++ l2 := by
        intro hm
        rcases List.mem_append.1 hm with hm | hm
        ·have := hpp.2.2 j hm j (by simp); omega
        ·have := (List.pairwise_cons.1 hpp.2.1).1 j hm; omega
       refine ⟨fun hm => absurd hm hno, fun hm => ?_⟩
       exfalso
       have hs' : j < listed.size := by omega
       have h9 := hm.2
       simp [Array.getD_eq_getD_getElem?, hs'] at h9
      ·rw [show (listed.setIfInBounds i true).getD j true = listed.getD j true by simp [Array.getD_eq_getD_getElem?, Array.getElem?_setIfInBounds_ne (Ne.symm hji)]]
       rw [← hj]
       simp [hji]
     ·rw [show (listed.setIfInBounds i true).getD i0 true = listed.getD i0 true by simp [Array.getD_eq_getD_getElem?, Array.getElem?_setIfInBounds_ne heq]]
      exact hun
    have hw := step_sound (all := ops) hE S (hdst _ (hmem i h1)) hst (Q := Q) (fun _ h => by cases h) hnext
    unfold Go.wpOp
    rw [hop i h1]
    generalize ops.getD i default = oi at hw ⊢
    dsimp only
    by_cases hwt : Region.wanted oi (yielded ops a.tmps) = true
    ·rw [if_pos hwt] at hw ⊢
     exact .inl hw
    ·rw [if_neg hwt] at hw ⊢
     exact hw
theorem lastB_at {F : Fl} {all : Array Oper} {l1 l2 : List Oper} {x : Oper} (he : all.toList = l1 ++ x :: l2) (h : lastB F all x = true) : l1.length < all.size ∧ all.getD l1.length default = x ∧ (∀ k, l1.length < k → k < all.size → reach all all.size k l1.length = true) ∧ ∀ j, j < l1.length → clsOf F (all.getD j default).op ≠ .eff := by
 have hsz : all.size = l1.length + (l2.length + 1) := by rw [← Array.length_toList, he]; simp
 have hx : all.getD l1.length default = x := by
  rw [Array.getD_eq_getD_getElem?, ← Array.getElem?_toList, he, List.getElem?_append_right (Nat.le_refl _), Nat.sub_self]
  rfl
 unfold lastB at h
 split at h
 ·cases h
 ·rename_i d hd
  obtain ⟨i, hi, h⟩ := List.any_eq_true.1 h
  have hi := List.mem_range.1 hi
  rw [Bool.and_eq_true] at h
  obtain ⟨h1, h2⟩ := h
  have hall := fun k hk => List.all_eq_true.1 h2 k (List.mem_range.2 hk)
  have hii : i = l1.length := by
   have := hall l1.length (by omega)
   rw [hx, hd, Bool.and_eq_true] at this
   have := this.1
   rw [Bool.or_eq_true] at this
   rcases this with h | h
   ·exact (Nat.eq_of_beq_eq_true h).symm
   ·simp at h
  subst hii
  refine ⟨by omega, hx, fun k hk hks => ?_, fun j hj => ?_⟩
  ·have := hall k hks
   rw [Bool.and_eq_true] at this
   have := this.2
   rw [show Nat.blt k l1.length = false by rw [Bool.eq_false_iff]; intro h; have := Nat.blt_eq.mp h; omega] at this
   dsimp only at this
   rw [Bool.or_eq_true] at this
   rcases this with h | h
   ·have := Nat.eq_of_beq_eq_true h; omega
   ·exact h
  ·have := hall j (by omega)
   rw [Bool.and_eq_true] at this
   have := this.2
   rw [show Nat.blt j l1.length = true from Nat.blt_eq.mpr hj] at this
   dsimp only at this
   intro hc
   rw [hc] at this
   cases this
def wpR (E : Env) (draw : Bool) (Kp : PV → St → Prop) (ops : Array Oper) (K : St → Prop) : St → Prop := match draw with
 | true => wpLD E Kp ops ops.toList K
 | false => wpL E (some Kp) ops ops.toList K
theorem region_sound (hE : EnvOK E) {id : Nat} {ops : Array Oper} {draw : Bool} (hchk : draw = true → chkDraw E.pt ops = true) (hdst : ∀ o ∈ ops.toList, ∀ d, o.dst = some d → d < n) {K : St → Prop} {Q : Exit → Act → World → Prop} (hK : ∀ s a w, K s → Sim E B D n s a w → Q .normal a w)
  (Kp : PV → St → Prop) (hq : ∀ ch a w, PanOK E B D n Kp ch a w → Q (.panic ch) a w) (h : wpR E draw Kp ops K s) (S : Sim E B D n s a w) : (Code.region id ops draw).wp E.P Q a w := by
 cases draw with
 | false => exact wp_region_list (list_sound hE (kp := some Kp) (fun Kp' e => by injection e with e; subst e; exact hq) hK ops.toList s a w hdst h S)
 | true =>
  refine wp_region_any hE.mixed ?_
  have e : (List.range ops.size).map (fun i => ops.getD i default) = ops.toList := by
   apply List.ext_getElem?
   intro i
   by_cases hi : i < ops.size
   ·rw [List.getElem?_map, List.getElem?_range hi, Array.getElem?_toList, Array.getElem?_eq_getElem hi]
    simp [Array.getD_eq_getD_getElem?, hi]
   ·rw [List.getElem?_eq_none (by simp; omega), List.getElem?_eq_none (by simp; omega)]
  have hun : ∀ i, i < ops.size → (Array.replicate ops.size false).getD i true = false := fun i hi => by simp [Array.getD_eq_getD_getElem?, hi]
  rcases splitD _ _ h with h | ⟨l1, x, l2, he, hx, h⟩
  ·refine any_sound hE (hchk rfl) hdst hK ops.size _ (List.range ops.size) s a _ (by simp) (by simp) (fun k hk hl => by simp [Array.getD_eq_getD_getElem?, hk] at hl) List.pairwise_lt_range (fun i => ?_) ?_ (S.drew hE _)
   ·rw [List.mem_range]
    constructor
    ·intro hi
     exact ⟨hi, by simp [Array.getD_eq_getD_getElem?, hi]⟩
    ·exact fun h => h.1
   ·rw [e]
    exact h
  ·obtain ⟨q1, q2, q3, q4⟩ := lastB_at he hx
   refine pan_sound hE (hchk rfl) hdst hq q1 q3 q4 ops.size _ (List.range l1.length) s a _ (by simpa using q1) (by simp) (fun k hk hl => by simp [Array.getD_eq_getD_getElem?, hk] at hl) List.pairwise_lt_range (fun i => ?_) (by simp [Array.getD_eq_getD_getElem?, q1]) ?_ (S.drew hE _)
   ·rw [List.mem_range]
    constructor
    ·intro hi
     exact ⟨hi, by simp [Array.getD_eq_getD_getElem?, show i < ops.size by omega]⟩
    ·exact fun h => h.1
   ·rw [q2]
    have e1 : (List.range l1.length).map (fun i => ops.getD i default) = l1 := by
     apply List.ext_getElem?
     intro i
     by_cases hi : i < l1.length
     ·rw [List.getElem?_map, List.getElem?_range hi, Option.map_some, Array.getD_eq_getD_getElem?, ← Array.getElem?_toList, he, List.getElem?_append_left hi, List.getElem?_eq_getElem hi]
      rfl
     ·rw [List.getElem?_eq_none (by simp; omega), List.getElem?_eq_none (by omega)]
    rw [e1]
    exact h
end
end Go.Proofs.YtgpkppohfodhdaaGreatDoor.Pm
namespace Go.Proofs.YtgpkppohfodhdaaGreatDoor.Pm
open Go Go.RowKit
set_option linter.unusedVariables false
set_option linter.unusedSimpArgs false
inductive PEx where
 | normal | exit (id : Nat) | ret | pan (p : PV)
def thenK (N : St → Prop) (K : PEx → St → Prop) : PEx → St → Prop
 | .normal, s => N s
 | e, s => K e s
def blockK (id : Nat) (K : PEx → St → Prop) : PEx → St → Prop
 | .exit j, s => match Nat.beq j id with
  | true => K .normal s
  | false => K (.exit j) s
 | e, s => K e s
def iter (F : (PEx → St → Prop) → St → Prop) (K : PEx → St → Prop) (n0 : Nat) : Nat → St → Prop
 | 0, _ => False
 | k + 1, s => F (thenK (iter F K n0 k) K) s ∨ ∃ n, n0 ≤ n ∧ n ≤ s.H.length ∧ ((s.H.take n).all fun cs => cs.all (lowP n)) = true ∧ F (thenK (iter F K n0 k) K) (cutSt n s)
def Loop (F : (PEx → St → Prop) → St → Prop) (K : PEx → St → Prop) (s : St) : Prop := ∃ k, iter F K s.H.length k s
structure LoopC (E : Env) (c : Code) (F : (PEx → St → Prop) → St → Prop) (K : PEx → St → Prop) (s : St) : Prop where
 h : Loop F K s
def wpC (E : Env) (c : Code) : (PEx → St → Prop) → St → Prop := Code.rec (motive := fun _ => (PEx → St → Prop) → St → Prop)
 (skip := fun K s => K .normal s)
 (region := fun _ ops draw K s => wpR E draw (fun p s => K (.pan p) s) ops (K .normal) s)
 (seq := fun _ _ iha ihb K s => iha (thenK (ihb K) K) s)
 (cond := fun c _ _ iha ihb K s => match ev s.sl c with
  | .c (.bool true) => iha K s
  | .c (.bool false) => ihb K s
  | _ => False)
 (block := fun id _ ih K s => ih (blockK id K) s)
 (loop := fun c ih K s => LoopC E c ih K s)
 (rangeFunc := fun _ _ _ _ _ _ _ _ => False)
 (exit := fun id K s => K (.exit id) s)
 (scope := fun _ _ _ _ => False)
 (label := fun _ K s => K .normal s)
 (goto := fun _ _ _ => False)
 (ret := fun K s => K .ret s)
 (refuse := fun _ _ _ => False) c
def chkC (pt : Fl) (n : Nat) : Code → Bool
 | .region _ ops draw => (ops.toList.all fun o => match o.dst with
   | some d => decide (d < n)
   | none => true) && (!draw || chkDraw pt ops)
 | .seq a b => chkC pt n a && chkC pt n b
 | .cond _ a b => chkC pt n a && chkC pt n b
 | .block _ c => chkC pt n c
 | .loop c => chkC pt n c
 | .skip | .label _ | .exit _ | .ret => true
 | _ => false
def liftQ (E : Env) (B : Base) (D : Option (FuncId × List AV)) (n : Nat) (K : PEx → St → Prop) : Exit → Act → World → Prop
 | .normal, a, w => ∃ s, K .normal s ∧ Sim E B D n s a w
 | .exit id, a, w => ∃ s, K (.exit id) s ∧ Sim E B D n s a w
 | .ret, a, w => ∃ s, K .ret s ∧ Sim E B D n s a w
 | .panic ch, a, w => PanOK E B D n (fun p s => K (.pan p) s) ch a w
 | _, _, _ => False
section
variable {E : Env} {B : Base} {D : Option (FuncId × List AV)} {n : Nat}
theorem Sim.cut {s : St} {a : Act} {w : World} {k : Nat} (S : Sim E B D k s a w) {n0 n : Nat} (h0 : B.m0.length ≤ n0) (hD0 : DefLow D n0) (h1 : n0 ≤ n) (h2 : n ≤ s.H.length) (h3 : ((s.H.take n).all fun cs => cs.all (lowP n)) = true) : Sim E B D k (cutSt n s) a w := by
 obtain ⟨m, tk, ok, M, hT, hsz, hs, hdf, hm0, hok, hall, hwf⟩ := S
 have low : ∀ cs ∈ s.H.take n, ∀ p ∈ cs, lowP n p = true := fun cs hcs p hp => List.all_eq_true.1 (List.all_eq_true.1 h3 cs hcs) p hp
 have tk' : ∀ (i : Nat) (x : Option Nat), (m.take n)[i]? = some x → m[i]? = some x ∧ i < n := by
  intro i x h
  by_cases hi : i < n
  ·rw [List.getElem?_take_of_lt hi] at h; exact ⟨h, hi⟩
  ·rw [List.getElem?_eq_none (by simp; omega)] at h; cases h
 refine ⟨m.take n, tk, ok, ?_, hT, hsz, fun t => ?_, hdf.cut (DefLow.mono h1 hD0), fun i b h => ?_, hok, fun i hi => ?_, fun t => ?_, fun cs hcs p hp => ?_⟩
 ·refine ⟨M.inv, M.os, M.tape, M.output, M.size, M.frame, M.okb, M.oks, ?_, fun i b h => ?_, fun i j b h h' => M.inj i j b (tk' _ _ h).1 (tk' _ _ h').1, fun t r h => ?_, M.tinj, M.gb, M.tsz, ?_⟩
  ·show (m.take n).length = (s.H.take n).length
   rw [List.length_take, List.length_take, M.len]
  ·obtain ⟨h4, h5⟩ := tk' _ _ h
   obtain ⟨cs, arr, ty, g1, g2, g3, g4⟩ := M.box i b h4
   have hin : (s.H.take n)[i]? = some cs := by rw [List.getElem?_take_of_lt h5]; exact g1
   refine ⟨cs, arr, ty, hin, g2, ⟨g3.1, fun j v p hv hp => ?_⟩, g4⟩
   exact (g3.2 j v p hv hp).low (hwf.H cs (List.mem_of_getElem? g1) p (List.mem_of_getElem? hp)) n (low cs (List.mem_of_getElem? hin) p (List.mem_of_getElem? hp))
  ·obtain ⟨g1, g2⟩ := M.tok t r h
   exact ⟨g1, fun g hg => ⟨(g2 g hg).1, fun i hi => (g2 g hg).2 i (tk' _ _ hi).1⟩⟩
  ·refine M.stk.keep (fun i j v e xs h => ?_) (.refl _ _) fun g hg h => ⟨rfl, h.1, fun i hi => h.2.1 i (tk' _ _ hi).1, h.2.2⟩
   obtain ⟨b, cs, arr, ty, h1, h2, h3, h4, h5⟩ := h
   obtain ⟨q1, q2⟩ := tk' _ _ h1
   have h2 : (s.H.take n)[i]? = some cs := h2
   rw [List.getElem?_take_of_lt q2] at h2
   exact ⟨b, cs, arr, ty, q1, h2, h3, h4, h5⟩
 ·show Rep w ok (m.take n) tk _ (cutP n (s.sl t))
  have h4 := hs t
  have h5 := hwf.sl t
  generalize s.sl t = p at h4 h5
  cases p <;> try exact h4.low h5 n rfl
  ·rename_i i o
   unfold cutP
   dsimp only
   cases hb : Nat.blt i n with
   | true => exact h4.low h5 n hb
   | false => exact .undef _
  ·rename_i f a b
   unfold cutP
   dsimp only
   cases hb : (a ++ b).all (lowA n) with
   | true => exact h4.low h5 n hb
   | false => exact .undef _
  ·rename_i i o
   unfold cutP
   dsimp only
   cases hb : Nat.blt i n with
   | true => exact h4.low h5 n hb
   | false => exact .undef _
  ·rename_i fs i
   unfold cutP
   dsimp only
   cases hb : Nat.blt i n with
   | true => exact h4.low h5 n hb
   | false => exact .undef _
 ·have h4 := hm0 i b h
  have h5 := (List.getElem?_eq_some_iff.1 h).1
  rw [List.getElem?_take_of_lt (by omega)]; exact h4
 ·have hi : i < (s.H.take n).length := hi
  rw [List.length_take] at hi
  obtain ⟨b, hb⟩ := hall i (by omega)
  exact ⟨b, by rw [List.getElem?_take_of_lt (by omega)]; exact hb⟩
 ·show PLt (s.H.take n).length (cutP n (s.sl t))
  rw [List.length_take, Nat.min_eq_left h2]
  have h5 := hwf.sl t
  generalize s.sl t = p at h5
  cases p <;> try exact h5
  ·rename_i i o
   unfold cutP
   dsimp only
   cases hb : Nat.blt i n with
   | true => exact Nat.blt_eq.mp hb
   | false => trivial
  ·rename_i f a b
   unfold cutP
   dsimp only
   cases hb : (a ++ b).all (lowA n) with
   | true => exact hb
   | false => trivial
  ·rename_i i o
   unfold cutP
   dsimp only
   cases hb : Nat.blt i n with
   | true => exact Nat.blt_eq.mp hb
   | false => trivial
  ·rename_i fs i
   unfold cutP
   dsimp only
   cases hb : Nat.blt i n with
   | true => exact Nat.blt_eq.mp hb
   | false => trivial
 ·have hcs : cs ∈ s.H.take n := hcs
  have h4 := low cs hcs p hp
  have h5 := hwf.H cs (List.mem_of_mem_take hcs) p hp
  show PLt (s.H.take n).length p
  rw [List.length_take, Nat.min_eq_left h2]
  cases p <;> try exact h5
  ·exact Nat.blt_eq.mp h4
  ·exact h4
  ·exact Nat.blt_eq.mp h4
  ·exact Nat.blt_eq.mp h4
theorem code_sound (hE : EnvOK E) : ∀ (c : Code), chkC E.pt n c = true → ∀ (K : PEx → St → Prop) (s : St) (a : Act) (w : World), wpC E c K s → Sim E B D n s a w → c.wp E.P (liftQ E B D n K) a w
 | .skip, _, K, s, a, w, h, S => wp_skip ⟨s, h, S⟩
 | .label _, _, K, s, a, w, h, S => wp_label ⟨s, h, S⟩
 | .exit id, _, K, s, a, w, h, S => wp_exit ⟨s, h, S⟩
 | .ret, _, K, s, a, w, h, S => wp_ret ⟨s, h, S⟩
 | .region id ops draw, hc, K, s, a, w, h, S => by
  simp only [chkC, Bool.and_eq_true, Bool.or_eq_true, Bool.not_eq_true'] at hc
  refine region_sound hE (K := K .normal) (fun hd => ?_) (fun o ho d hd => ?_) (fun s a w hk S => ⟨s, hk, S⟩) (fun p s => K (.pan p) s) (fun ch a w h => h) h S
  ·rcases hc.2 with h2 | h2
   ·rw [hd] at h2; cases h2
   ·exact h2
  ·have := List.all_eq_true.1 hc.1 o ho
   rw [hd] at this
   simpa using this
 | .seq x y, hc, K, s, a, w, h, S => by
  simp only [chkC, Bool.and_eq_true] at hc
  refine wp_seq (wp_mono (code_sound hE x hc.1 _ s a w h S) fun e a w q => ?_)
  cases e with
  | normal =>
   obtain ⟨s', hk, S'⟩ := q
   exact code_sound hE y hc.2 K s' a w hk S'
  | exit id => exact q
  | ret => exact q
  | goto l => exact q.elim
  | panic ch => exact q
  | outgrown => exact q.elim
 | .cond c x y, hc, K, s, a, w, h, S => by
  simp only [chkC, Bool.and_eq_true] at hc
  obtain ⟨m, tk, ok, M, hT, hsz, hs, r⟩ := id S
  have hev := ev_rep hs c
  have h : (match ev s.sl c with
   | .c (.bool true) => wpC E x K s
   | .c (.bool false) => wpC E y K s
   | _ => False) := h
  split at h
  ·rename_i he
   rw [he] at hev
   exact wp_cond_true hev.bool_inv (code_sound hE x hc.1 K s a w h S)
  ·rename_i he
   rw [he] at hev
   exact wp_cond_false hev.bool_inv (code_sound hE y hc.2 K s a w h S)
  ·exact h.elim
 | .block id c, hc, K, s, a, w, h, S => by
  refine wp_block (wp_mono (code_sound hE c hc _ s a w h S) fun e a w q => ?_)
  cases e with
  | normal => exact q
  | exit j =>
   obtain ⟨s', hk, S'⟩ := q
   unfold blockK at hk
   dsimp only at hk
   show if j = id then _ else _
   split at hk
   ·rename_i hb
    rw [if_pos (Nat.eq_of_beq_eq_true hb)]
    exact ⟨s', hk, S'⟩
   ·rename_i hb
    rw [if_neg (by rintro rfl; rw [Nat.beq_refl] at hb; cases hb)]
    exact ⟨s', hk, S'⟩
  | ret => exact q
  | goto l => exact q.elim
  | panic ch => exact q
  | outgrown => exact q.elim
 | .loop c, hc, K, s, a, w, h, S => by
  obtain ⟨⟨k, h⟩⟩ := h
  refine wp_loop_rounds k ?_
  have ih := code_sound hE c hc
  clear hc
  have h0 : B.m0.length ≤ s.H.length := by
   obtain ⟨m, tk, ok, M, hT, hsz, hs, hdf, hm0, hok, hall, hwf⟩ := S
   rw [← M.len]
   rcases Nat.lt_or_ge m.length B.m0.length with hlt | hge
   ·have := hm0 m.length _ (List.getElem?_eq_getElem hlt)
    rw [List.getElem?_eq_none (Nat.le_refl _)] at this
    cases this
   ·exact hge
  have hD0 : DefLow D s.H.length := by
   obtain ⟨m, tk, ok, M, hT, hsz, hs, hdf, r⟩ := S
   rw [← M.len]; exact hdf.low
  generalize s.H.length = n0 at h h0 hD0
  induction k generalizing s a w with
  | zero => exact h.elim
  | succ k ihk =>
   rw [rounds_succ]
   have fin : ∀ s', Sim E B D n s' a w → wpC E c (thenK (iter (wpC E c) K n0 k) K) s' → c.wp E.P (Exit.then (Code.rounds E.P c (liftQ E B D n K) k) (liftQ E B D n K)) a w := fun s' S' h' => by
    refine wp_mono (ih _ s' a w h' S') fun e a w q => ?_
    cases e with
    | normal =>
     obtain ⟨s', hk, S'⟩ := q
     exact ihk s' a w S' hk
    | exit id => exact q
    | ret => exact q
    | goto l => exact q.elim
    | panic ch => exact q
    | outgrown => exact q.elim
   rcases h with h | ⟨n', h1, h2, h3, h⟩
   ·exact fin s S h
   ·exact fin _ (S.cut h0 hD0 h1 h2 h3) h
 | .rangeFunc _ _ _ _, hc, _, _, _, _, _, _ => by simp [chkC] at hc
 | .scope _, hc, _, _, _, _, _, _ => by simp [chkC] at hc
 | .goto _, hc, _, _, _, _, _, _ => by simp [chkC] at hc
 | .refuse _, hc, _, _, _, _, _, _ => by simp [chkC] at hc
end
def argOk : PV → Bool
 | .c _ | .agg _ | .ptr _ _ | .clos _ _ _ => true
 | _ => false
def slots (args : List PV) (t : Nat) : PV := match args[t]? with
 | some p => p
 | none => .tup []
def resL (E : Env) (s : St) : List ResultVar → Option (List PV)
 | [] => some []
 | .tmp t :: r => match resL E s r with
  | some l => some (s.sl t :: l)
  | none => none
 | .cell a t :: r => match E.T t, resL E s r with
  | some ti, some l => match loadF ti s.H (s.sl a) with
   | some z => some (z :: l)
   | none => none
  | _, _ => none
def oneOf : List PV → PV
 | [p] => p
 | l => .tup l
inductive BoxL : List (List PV) → List (List PV) → Prop
 | nil (H : List (List PV)) : BoxL H []
 | cons {c d : List PV} {H bs : List (List PV)} (h : WkL c d) (hc : d.all PV.closedB = true) (t : BoxL H bs) (hk : StkOK c d := by first | exact StkOK.refl _ | exact StkOK.none rfl) : BoxL (c :: H) (d :: bs)
theorem BoxL.get {H bs : List (List PV)} (h : BoxL H bs) : ∀ (i : Nat) (c : List PV), i < bs.length → H[i]? = some c → ∃ d, bs[i]? = some d ∧ WkL c d ∧ d.all PV.closedB = true ∧ StkOK c d := by
 induction h with
 | nil => intro i c hi; simp at hi
 | cons hw hcl _ hst ih =>
  intro i c' hi hc
  cases i with
  | zero => simp at hc; subst hc; exact ⟨_, rfl, hw, hcl, hst⟩
  | succ i => exact ih i c' (by simpa using hi) (by simpa using hc)
def Ret (E : Env) (fn : Func) (r : PV) (bs' : List (List PV)) (s : St) : Prop :=
 ∃ zs, resL E s fn.results.toList = some zs ∧ Wk (oneOf zs) r ∧ r.closed = true ∧ BoxL s.H bs'
def retK (E : Env) (fn : Func) (r : PV) (bs' : List (List PV)) : PEx → St → Prop
 | .exit _, _ => False
 | .pan _, _ => False
 | _, s => Ret E fn r bs' s
def rv (tmps : Array Value) : ResultVar → Sem Value
 | .tmp t => pure (tmps.getD t undef)
 | .cell a t => do loadVar t (← asAddr (tmps.getD a undef))
theorem results_eq (fn : Func) (tmps : Array Value) : results fn tmps = (do
  let vs ← fn.results.mapM (rv tmps)
  pure (if h : vs.size = 1 then vs[0] else .tuple vs)) := by
 unfold results
 congr 1
theorem resL_run {E : Env} {B : Base} {m : List (Option Nat)} {tk : List TokR} {ok : Nat → Nat → Prop} {w : World} {s : St} (hE : EnvOK E) (M : Mem E B s.H m tk ok w) (tmps : Array Value) (hs : ∀ t, Rep w ok m tk (tmps.getD t undef) (s.sl t)) : ∀ (rs : List ResultVar) (zs : List PV), resL E s rs = some zs →
  ∃ vs : List Value, (rs.mapM (rv tmps)).run E.P w = .ok vs w ∧ RepL (Rep w ok m tk) vs zs
 | [], zs, h => by simp [resL] at h; subst h; exact ⟨[], by simp, .nil⟩
 | .tmp t :: r, zs, h => by
  simp only [resL] at h
  split at h
  ·rename_i l hl
   injection h with h; subst h
   obtain ⟨vs, h1, h2⟩ := resL_run hE M tmps hs r l hl
   exact ⟨tmps.getD t undef :: vs, by simp only [List.mapM_cons, Sem.run_bind, rv, Sem.run_pure, Result.andThen_ok, h1], .cons (hs t) h2⟩
  ·cases h
 | .cell a t :: r, zs, h => by
  simp only [resL] at h
  split at h
  ·rename_i ti l hti hl
   split at h
   ·rename_i z hz
    injection h with h; subst h
    obtain ⟨vs, h1, h2⟩ := resL_run hE M tmps hs r l hl
    have hr := hs a
    have : ∃ ad v, tmps.getD a undef = .pointer (some ad) ∧ (loadVar t ad).run E.P w = .ok v w ∧ Rep w ok m tk v z := by
     cases hp : s.sl a <;> rw [hp] at hz hr
     case ptr i o =>
      obtain ⟨ad, had⟩ := rep_ptr hr
      rw [had] at hr
      obtain ⟨v, h3, h4⟩ := box_load hE M hti hr hz
      exact ⟨ad, v, had, h3, h4⟩
     case iptr cs =>
      obtain ⟨ad, had⟩ := rep_iptr hr
      rw [had] at hr
      obtain ⟨v, h3, h4⟩ := load_iptr hE hti hr hz
      exact ⟨ad, v, had, h3, h4⟩
     all_goals simp [loadF] at hz
    obtain ⟨ad, v, had, h3, h4⟩ := this
    refine ⟨v :: vs, ?_, .cons h4 h2⟩
    have e : rv tmps (.cell a t) = loadVar t ad := by
     show (do loadVar t (← asAddr (tmps.getD a undef)) : Sem Value) = _
     rw [had]
     rfl
    simp only [List.mapM_cons, Sem.run_bind, e, Sem.run_pure, Result.andThen_ok, h1, h3]
   ·cases h
  ·cases h
theorem Sim.entry {E : Env} {fn : Func} {bs : List (List PV)} {args : List PV} (hargs : args.all argOk = true) (hbs : ∀ cs ∈ bs, ∀ p ∈ cs, PLt bs.length p) (hlen : args.length ≤ fn.ntmps) {w : World} {ok : Nat → Nat → Prop} {ms gs : List Nat} {vals : Array Value} (M : Mem E ⟨w, ok, ms, gs⟩ bs (ms.map some) [] ok w) (hr : RepL (Rep w ok (ms.map some) []) vals.toList args) :
  Sim E ⟨w, ok, ms, gs⟩ none fn.ntmps ⟨slots args, bs, []⟩ { tmps := vals ++ Array.replicate (fn.ntmps - vals.size) undef, defers := [] } w := by
 have hvl : vals.size = args.length := by simpa using hr.1
 have hsz : (vals ++ Array.replicate (fn.ntmps - vals.size) undef).size = fn.ntmps := by simp; omega
 have hget : ∀ t, (vals ++ Array.replicate (fn.ntmps - vals.size) undef).getD t undef = vals.getD t undef := by
  intro t
  simp only [Array.getD_eq_getD_getElem?]
  by_cases ht : t < vals.size
  ·rw [Array.getElem?_append_left ht]
  ·rw [Array.getElem?_append_right (by omega), Array.getElem?_eq_none (by omega : vals.size ≤ t), Array.getElem?_replicate]
   split <;> rfl
 have S : Sim E ⟨w, ok, ms, gs⟩ none fn.ntmps ⟨slots args, bs, []⟩ { tmps := vals ++ Array.replicate (fn.ntmps - vals.size) undef, defers := [] } w := by
  refine ⟨ms.map some, [], ok, M, rfl, hsz, fun t => ?_, rfl, fun i b hib => ?_, fun _ _ h => h, fun i hi => ?_, ?_⟩
  ·rw [hget]
   unfold slots
   dsimp only
   cases ha : args[t]? with
   | some p =>
    obtain ⟨v, hv, hrv⟩ := hr.get ha
    have : vals.getD t undef = v := by rw [Array.getD_eq_getD_getElem?, show vals[t]? = some v by simpa using hv]; rfl
    rw [this]; exact hrv
   | none =>
    have hn : args.length ≤ t := List.getElem?_eq_none_iff.1 ha
    have : vals.getD t undef = .tuple #[] := by rw [Array.getD_eq_getD_getElem?, Array.getElem?_eq_none (by omega)]; rfl
    rw [this]
    exact .tup _ _ (by simp) (fun i v d hv _ => by simp at hv)
  ·have hib : ms[i]? = some b := hib
   rw [List.getElem?_map, hib]; rfl
  ·have hm : i < (ms.map some).length := by rw [M.len]; exact hi
   have hm' : i < ms.length := by simpa using hm
   exact ⟨ms[i], by rw [List.getElem?_map, List.getElem?_eq_getElem hm']; rfl⟩
  ·refine ⟨fun t => ?_, hbs⟩
   show PLt bs.length (slots args t)
   unfold slots
   cases ha : args[t]? with
   | none => rfl
   | some p =>
    have hok := List.all_eq_true.1 hargs p (List.mem_of_getElem? ha)
    obtain ⟨v, hv, hrv⟩ := hr.get ha
    cases p <;> first | trivial | simp [argOk] at hok
    ·rename_i i o
     cases hrv with
     | ptr _ _ b hm =>
      have := (List.getElem?_eq_some_iff.1 hm).1
      rw [M.len] at this
      exact this
    ·rename_i f avl cs
     cases hrv with
     | clos _ fv cv _ _ h1 h2 =>
      have key : ∀ {vs : List Value} {l : List AV}, RepL (RepA w ok (ms.map some)) vs l → ∀ x ∈ l, lowA bs.length x = true := by
       intro vs l h x hx
       obtain ⟨i, hi⟩ := List.mem_iff_getElem?.1 hx
       have hlt : i < vs.length := by rw [h.1]; exact (List.getElem?_eq_some_iff.1 hi).1
       have := h.2 i _ x (List.getElem?_eq_getElem hlt) hi
       generalize vs[i] = u at this
       cases this with
       | p j o b hm =>
        have := (List.getElem?_eq_some_iff.1 hm).1
        rw [M.len] at this
        exact decide_eq_true this
       | c => rfl
       | a => rfl
      show (avl ++ cs).all _ = true
      rw [List.all_eq_true]
      intro x hx
      rcases List.mem_append.1 hx with hx | hx
      ·exact key h1 x hx
      ·exact key h2 x hx
 exact S
theorem closedB_boxes {bs : List (List PV)} (h : bs.all (fun cs => cs.all PV.closedB) = true) : ∀ cs ∈ bs, ∀ p ∈ cs, PLt bs.length p := fun cs hcs p hp => closedB_PLt (List.all_eq_true.1 (List.all_eq_true.1 h cs hcs) p hp)
theorem ret_stks {E : Env} {B : Base} {H bs : List (List PV)} {m m' : List (Option Nat)} {tk : List TokR} {ok : Nat → Nat → Prop} {w : World} (M : Mem E B H m tk ok w) (hmm : ∀ (i b : Nat), m'[i]? = some (some b) → m[i]? = some (some b)) (hl : m'.length ≤ bs.length) (hbx : ∀ (i : Nat) (c : List PV), i < bs.length → H[i]? = some c → ∃ d, bs[i]? = some d ∧ StkOK c d) : Stks E B bs m' [] ok w := by
 have back : ∀ i j v e xs, StkAt bs m' w i j v e xs → StkAt H m w i j v e xs ∨ (v = .slice none 0 0 ∧ xs = []) := by
  rintro i j v e xs ⟨b, ds, arr, ty, h1, h2, h3, h4, h5⟩
  obtain ⟨cs, arr', ty', g1, g2, g3, -⟩ := M.box i b (hmm i b h1)
  have hi : i < bs.length := Nat.lt_of_lt_of_le (List.getElem?_eq_some_iff.1 h1).1 hl
  obtain ⟨d, e1, e2⟩ := hbx i cs hi g1
  rw [e1] at h2
  injection h2 with h2; subst h2
  rw [g2] at h3
  injection h3 with h3; injection h3 with h3 h3'; subst h3; subst h3'
  rcases e2 j _ h5 rfl with h | ⟨h, e', he⟩
  ·exact .inl ⟨b, cs, _, _, hmm i b h1, g1, g2, h4, h⟩
  ·injection he with he1 he2
   have hr := g3.2 j _ _ h4 h
   refine .inr ⟨?_, he2⟩
   cases hr with
   | c v p hc => cases hc; rfl
 refine ⟨fun i j v e xs h => ?_, fun i j v e xs i' j' v' e' xs' g h h' hb hb' => ?_⟩
 ·rcases back i j v e xs h with h | ⟨rfl, rfl⟩
  ·obtain ⟨sz, us, ho, hr, hx, ht, hg⟩ := M.stk.own i j v e xs h
   exact ⟨sz, us, ho, hr, hx, ht, fun g hb => ⟨⟨(hg g hb).1.1, fun k hk => (hg g hb).1.2.1 k (hmm _ _ hk), fun t r h => by simp at h⟩, (hg g hb).2⟩⟩
  ·exact own_nil e
 ·rcases back i j v e xs h with h | ⟨rfl, -⟩
  ·rcases back i' j' v' e' xs' h' with h' | ⟨rfl, -⟩
   ·exact M.stk.inj i j v e xs i' j' v' e' xs' g h h' hb hb'
   ·cases hb'
  ·cases hb
theorem res_of {E : Env} {w' : World} {ok' : Nat → Nat → Prop} {m : List (Option Nat)} {tk : List TokR} {fn : Func} {a : Act} {vs : List Value} {zs : List PV} (h1 : (fn.results.toList.mapM (rv a.tmps)).run E.P w' = .ok vs w') (h2 : RepL (Rep w' ok' m tk) vs zs) : ∃ v, (results fn a.tmps).run E.P w' = .ok v w' ∧ Rep w' ok' m tk v (oneOf zs) := by
 rw [results_eq, Array.mapM_eq_mapM_toList]
 simp only [Sem.run_bind, Sem.run_map, h1, Result.andThen_ok, Sem.run_pure]
 cases vs with
 | nil =>
  have : zs = [] := by simpa [RepL] using h2.1.symm
  subst this
  exact ⟨_, rfl, .tup _ _ (by simp) (fun i v d hv _ => by simp at hv)⟩
 | cons v vs =>
  cases vs with
  | nil =>
   have : ∃ z, zs = [z] := by
    have := h2.1
    match zs, this with
    | [z], _ => exact ⟨z, rfl⟩
   obtain ⟨z, rfl⟩ := this
   exact ⟨v, by simp, h2.head⟩
  | cons u vs =>
   have : oneOf zs = .tup zs := by
    have := h2.1
    match zs, this with
    | _ :: _ :: _, _ => rfl
   rw [this]
   exact ⟨.tuple (v :: u :: vs).toArray, by simp, .tup _ _ (by simpa using h2.1) (fun i x d hx hd => h2.2 i x d (by simpa using hx) hd)⟩
theorem Ret.fin {E : Env} {D : Option (FuncId × List AV)} (hE : EnvOK E) {fn : Func} {r : PV} {bs' : List (List PV)} {w : World} {ok : Nat → Nat → Prop} {ms gs : List Nat} {s : St} {a : Act} {w' : World} {n : Nat} (hbl : bs'.length = ms.length) (h : Ret E fn r bs' s) (S : Sim E ⟨w, ok, ms, gs⟩ D n s a w') :
  (D = none → a.defers = []) ∧ ∃ v, (results fn a.tmps).run E.P w' = .ok v w' ∧ ∃ ok', Mem E ⟨w, ok, ms, gs⟩ bs' (ms.map some) [] ok' w' ∧ (∀ b o, ok b o → ok' b o) ∧ Rep w' ok' (ms.map some) [] v r := by
 obtain ⟨zs, hz, hwk, hcl, hbx⟩ := h
 obtain ⟨m, tk, ok', M', hT, hsz', hs, hdf, hm0, hok, hall, hwf⟩ := S
 obtain ⟨vs, h1, h2⟩ := resL_run hE M' a.tmps hs _ zs hz
 have hres := res_of (fn := fn) (a := a) h1 h2
 obtain ⟨v, h3, h4⟩ := hres
 refine ⟨hdf.nil, v, h3, ok', ?_, hok, (hwk _ _ _ _ _ h4).closed hcl _ _⟩
 have hmm : ∀ (i b : Nat), (ms.map some)[i]? = some (some b) → m[i]? = some (some b) := by
  intro i b h
  rw [List.getElem?_map] at h
  cases hq : ms[i]? with
  | none => simp [hq] at h
  | some b' => simp [hq] at h; subst h; exact hm0 i _ hq
 refine ⟨M'.inv, M'.os, M'.tape, M'.output, M'.size, M'.frame, M'.okb, M'.oks, by rw [hbl, List.length_map], fun i b h => ?_, fun i j b h5 h6 => M'.inj i j b (hmm i b h5) (hmm j b h6), fun t r h => by simp at h, fun t u r s g h => by simp at h, M'.gb, fun t r i h => by simp at h, ?_⟩
 rotate_left
 ·exact ret_stks M' hmm (by rw [List.length_map]; omega) fun i c hi hc => by obtain ⟨d, q1, -, -, q4⟩ := hbx.get i c hi hc; exact ⟨d, q1, q4⟩
 obtain ⟨cs, arr, ty, g1, g2, g3, g4⟩ := M'.box i b (hmm i b h)
 have hi : i < bs'.length := by
  have := (List.getElem?_eq_some_iff.1 h).1
  rw [List.length_map] at this
  omega
 obtain ⟨d, hd, hw1, hc1, -⟩ := hbx.get i cs hi g1
 refine ⟨d, arr, ty, hd, g2, ?_, g4.1, g4.2.1, g4.2.2.1, FrB.closedB hc1⟩
 have g5 := hw1.rep g3
 exact ⟨g5.1, fun k v p hv hp => (g5.2 k v p hv hp).closedB (List.all_eq_true.1 hc1 p (List.mem_of_getElem? hp)) _ _⟩
theorem Ok.enter {E : Env} (hE : EnvOK E) {f : FuncId} {fn : Func} {c : Code} {bs bs' : List (List PV)} {args : List PV} {r : PV} (hf : E.P.funcs[f]? = some fn) (hb : fn.body = some c) (hname : (fn.name == "runtime.NumGoroutine") = false)
  (hchk : chkC E.pt fn.ntmps c = true) (hargs : args.all argOk = true) (hbs : bs.all (fun cs => cs.all PV.closedB) = true) (hlen : args.length ≤ fn.ntmps) (hbl : bs'.length = bs.length) (h : wpC E c (retK E fn r bs') ⟨slots args, bs, []⟩) : Ok E f bs args r bs' := by
 refine ⟨⟨fn, hf, hname, by rw [hb]; rfl⟩, fun w ok ms gs vals hst M hr => ?_⟩
 have S := Sim.entry (fn := fn) hargs (closedB_boxes hbs) hlen M hr
 refine calls_of_wp hf hb (wp_mono (code_sound hE c hchk _ _ _ _ h S) fun e a w' q => ?_)
 have hml : bs'.length = ms.length := by rw [hbl]; have := M.len; rw [List.length_map] at this; omega
 have fin : ∀ s, Ret E fn r bs' s → Sim E ⟨w, ok, ms, gs⟩ none fn.ntmps s a w' → a.defers = [] ∧ ∃ v, (results fn a.tmps).run E.P w' = .ok v w' ∧ ∃ v' ok', Ending.returned v = .returned v' ∧ Mem E ⟨w, ok, ms, gs⟩ bs' (ms.map some) [] ok' w' ∧ (∀ b o, ok b o → ok' b o) ∧ Rep w' ok' (ms.map some) [] v' r := fun s hR S => by
  obtain ⟨h1, v, h2, ok', h3⟩ := Ret.fin hE hml hR S
  exact ⟨h1 rfl, v, h2, v, ok', rfl, h3⟩
 cases e with
 | normal => obtain ⟨s, hk, S'⟩ := q; exact fin s hk S'
 | ret => obtain ⟨s, hk, S'⟩ := q; exact fin s hk S'
 | exit id => obtain ⟨s, hk, S'⟩ := q; exact hk.elim
 | goto l => exact q.elim
 | panic ch => obtain ⟨-, p, v, -, -, s, h, -⟩ := q; exact h.elim
 | outgrown => exact q.elim
def RetW (E : Env) (fn : Func) (r : PV) (H' : List (List PV)) (s : St) : Prop :=
 ∃ zs, resL E s fn.results.toList = some zs ∧ Wk (oneOf zs) r ∧ fitB H'.length r = true ∧ WkLL s.H H' ∧ H'.all (fun d => d.all (fitB H'.length)) = true
def retWK (E : Env) (fn : Func) (r : PV) (H' : List (List PV)) : PEx → St → Prop
 | .exit _, _ => False
 | .pan _, _ => False
 | _, s => RetW E fn r H' s
theorem RetW.fin {E : Env} {D : Option (FuncId × List AV)} (hE : EnvOK E) {fn : Func} {r : PV} {H' : List (List PV)} {w : World} {ok : Nat → Nat → Prop} {ms gs : List Nat} {s : St} {a : Act} {w' : World} {n : Nat} (hbl : ms.length ≤ H'.length) (h : RetW E fn r H' s) (S : Sim E ⟨w, ok, ms, gs⟩ D n s a w') :
  (D = none → a.defers = []) ∧ ∃ v, (results fn a.tmps).run E.P w' = .ok v w' ∧ ∃ ok' ns, Mem E ⟨w, ok, ms, gs⟩ H' ((ms ++ ns).map some) [] ok' w' ∧ (∀ b o, ok b o → ok' b o) ∧ Rep w' ok' ((ms ++ ns).map some) [] v r := by
 obtain ⟨zs, hz, hwk, hfr, hbx, hfit⟩ := h
 obtain ⟨m, tk, ok', M', hT, hsz', hs, hdf, hm0, hok, hall, hwf⟩ := S
 obtain ⟨vs, h1, h2⟩ := resL_run hE M' a.tmps hs _ zs hz
 obtain ⟨v, h3, h4⟩ := res_of (fn := fn) (a := a) h1 h2
 obtain ⟨hlen, hat⟩ := hbx.at
 obtain ⟨ms', rfl⟩ := all_some M'.len hall
 have hml : ms'.length = H'.length := by have := M'.len; rw [List.length_map] at this; rw [this, hlen]
 have hpre : ∃ ns, ms' = ms ++ ns := by
  refine ⟨ms'.drop ms.length, ?_⟩
  have : ms'.take ms.length = ms := by
   apply List.ext_getElem?
   intro i
   by_cases hi : i < ms.length
   ·rw [List.getElem?_take_of_lt hi, List.getElem?_eq_getElem hi]
    exact map_some_at (hm0 i _ (List.getElem?_eq_getElem hi))
   ·rw [List.getElem?_eq_none (by rw [List.length_take]; omega), List.getElem?_eq_none (by omega)]
  exact (List.take_append_drop ms.length ms').symm.trans (by rw [this])
 obtain ⟨ns, rfl⟩ := hpre
 have hN : ∀ (i b : Nat), i < H'.length → ((ms ++ ns).map some)[i]? = some (some b) → ((ms ++ ns).map some)[i]? = some (some b) := fun _ _ _ h => h
 refine ⟨hdf.nil, v, h3, ok', ns, ?_, hok, (hwk _ _ _ _ _ h4).fit [] hN hfr⟩
 refine ⟨M'.inv, M'.os, M'.tape, M'.output, M'.size, M'.frame, M'.okb, M'.oks, by rw [List.length_map, hml], fun i b h => ?_, M'.inj, fun t r h => by simp at h, fun t u r s g h => by simp at h, M'.gb, fun t r i h => by simp at h, ?_⟩
 rotate_left
 ·exact ret_stks M' (fun _ _ h => h) (by rw [List.length_map, hml]; exact Nat.le_refl _) fun i c hi hc => by obtain ⟨d, q1, -, q4⟩ := hat i c hc; exact ⟨d, q1, q4⟩
 obtain ⟨cs, arr, ty, g1, g2, g3, g4⟩ := M'.box i b h
 obtain ⟨d, hd, hw1, hso⟩ := hat i cs g1
 refine ⟨d, arr, ty, hd, g2, ?_, g4.1, g4.2.1, g4.2.2.1, g4.2.2.2.stk hso⟩
 have g5 := hw1.rep g3
 exact ⟨g5.1, fun k v p hv hp => (g5.2 k v p hv hp).fit [] hN (List.all_eq_true.1 (List.all_eq_true.1 hfit d (List.mem_of_getElem? hd)) p (List.mem_of_getElem? hp))⟩
theorem fitB_boxes {bs : List (List PV)} (h : bs.all (fun cs => cs.all (fitB bs.length)) = true) : ∀ cs ∈ bs, ∀ p ∈ cs, PLt bs.length p := fun cs hcs p hp => fitB_PLt (List.all_eq_true.1 (List.all_eq_true.1 h cs hcs) p hp)
theorem OkW.enter {E : Env} (hE : EnvOK E) {f : FuncId} {fn : Func} {c : Code} {bs H' : List (List PV)} {args : List PV} {r : PV} (hf : E.P.funcs[f]? = some fn) (hb : fn.body = some c) (hname : (fn.name == "runtime.NumGoroutine") = false)
  (hchk : chkC E.pt fn.ntmps c = true) (hargs : args.all argOk = true) (hbs : bs.all (fun cs => cs.all (fitB bs.length)) = true) (hlen : args.length ≤ fn.ntmps) (hbl : bs.length ≤ H'.length) (h : wpC E c (retWK E fn r H') ⟨slots args, bs, []⟩) : OkW E f bs args r H' := by
 refine ⟨⟨fn, hf, hname, by rw [hb]; rfl⟩, fun w ok ms gs vals M hr => ?_⟩
 have S := Sim.entry (fn := fn) hargs (fitB_boxes hbs) hlen M hr
 refine calls_of_wp hf hb (wp_mono (code_sound hE c hchk _ _ _ _ h S) fun e a w' q => ?_)
 have hml : ms.length ≤ H'.length := by have := M.len; rw [List.length_map] at this; omega
 have fin : ∀ s, RetW E fn r H' s → Sim E ⟨w, ok, ms, gs⟩ none fn.ntmps s a w' → a.defers = [] ∧ ∃ v, (results fn a.tmps).run E.P w' = .ok v w' ∧ ∃ v' ok' ns, Ending.returned v = .returned v' ∧ Mem E ⟨w, ok, ms, gs⟩ H' ((ms ++ ns).map some) [] ok' w' ∧ (∀ b o, ok b o → ok' b o) ∧ Rep w' ok' ((ms ++ ns).map some) [] v' r := fun s hR S => by
  obtain ⟨h1, v, h2, ok', ns, h3⟩ := RetW.fin hE hml hR S
  exact ⟨h1 rfl, v, h2, v, ok', ns, rfl, h3⟩
 cases e with
 | normal => obtain ⟨s, hk, S'⟩ := q; exact fin s hk S'
 | ret => obtain ⟨s, hk, S'⟩ := q; exact fin s hk S'
 | exit id => obtain ⟨s, hk, S'⟩ := q; exact hk.elim
 | goto l => exact q.elim
 | panic ch => obtain ⟨-, p, v, -, -, s, h, -⟩ := q; exact h.elim
 | outgrown => exact q.elim
def panK (p : PV) : PEx → St → Prop
 | .pan q, _ => Wk q p
 | _, _ => False
theorem OkP.enter {E : Env} (hE : EnvOK E) {f : FuncId} {fn : Func} {c : Code} {bs : List (List PV)} {args : List PV} {p : PV} (hf : E.P.funcs[f]? = some fn) (hb : fn.body = some c) (hname : (fn.name == "runtime.NumGoroutine") = false)
  (hchk : chkC E.pt fn.ntmps c = true) (hargs : args.all argOk = true) (hbs : bs.all (fun cs => cs.all PV.closedB) = true) (hlen : args.length ≤ fn.ntmps) (hdef : (p.closed = true)) (h : wpC E c (panK p) ⟨slots args, bs, []⟩) : OkP E f bs args p := by
 refine ⟨⟨fn, hf, hname, by rw [hb]; rfl⟩, fun w ok ms gs vals hst M hr => ?_⟩
 have S := Sim.entry (fn := fn) hargs (closedB_boxes hbs) hlen M hr
 refine calls_of_wp hf hb (wp_mono (code_sound hE c hchk _ _ _ _ h S) fun e a w' q => ?_)
 cases e with
 | normal => obtain ⟨s, hk, S'⟩ := q; exact hk.elim
 | ret => obtain ⟨s, hk, S'⟩ := q; exact hk.elim
 | exit id => obtain ⟨s, hk, S'⟩ := q; exact hk.elim
 | goto l => exact q.elim
 | panic ch =>
  obtain ⟨hdf, q, v, rfl, ⟨ok', M', hok, hv⟩, s, hk, -⟩ := q
  exact ⟨hdf rfl, v, ok', rfl, M', hok, hk _ _ _ _ _ hv⟩
 | outgrown => exact q.elim
end Go.Proofs.YtgpkppohfodhdaaGreatDoor.Pm
set_option linter.unusedVariables false
set_option linter.unusedSimpArgs false
namespace Go.Proofs.YtgpkppohfodhdaaGreatDoor.Pm
open Go Go.RowKit
def tabL : List (Nat × TI) := [
 (2, ⟨.int .i64, 1, [.int .i64 0], 8⟩),
 (3, ⟨.int .i64, 1, [.int .i64 0], 8⟩),
 (4, ⟨.bool, 1, [.bool false], 1⟩),
 (5, ⟨.int .u8, 1, [.int .u8 0], 1⟩),
 (6, ⟨.int .u8, 1, [.int .u8 0], 1⟩),
 (7, ⟨.struct [(0, 2), (1, 3), (2, 4), (3, 6)], 4, [.int .i64 0, .int .i64 0, .bool false, .int .u8 0], 24⟩),
 (8, ⟨.struct [(0, 2), (1, 3), (2, 4), (3, 6)], 4, [.int .i64 0, .int .i64 0, .bool false, .int .u8 0], 24⟩),
 (9, ⟨.str, 1, [.str ⟨#[]⟩], 16⟩),
 (10, ⟨.str, 1, [.str ⟨#[]⟩], 16⟩),
 (11, ⟨.str, 1, [.str ⟨#[]⟩], 16⟩),
 (12, ⟨.int .u64, 1, [.int .u64 0], 8⟩),
 (13, ⟨.struct [(0, 9), (1, 12)], 2, [.str ⟨#[]⟩, .int .u64 0], 24⟩),
 (14, ⟨.struct [(0, 9), (1, 12)], 2, [.str ⟨#[]⟩, .int .u64 0], 24⟩),
 (15, ⟨.other, 1, [.lit (.pointer none)], 8⟩),
 (16, ⟨.other, 1, [.lit (.pointer none)], 8⟩),
 (17, ⟨.other, 1, [.lit (.pointer none)], 8⟩),
 (18, ⟨.struct [(0, 17)], 1, [.lit (.pointer none)], 8⟩),
 (19, ⟨.struct [(0, 17)], 1, [.lit (.pointer none)], 8⟩),
 (21, ⟨.int .i32, 1, [.int .i32 0], 4⟩),
 (22, ⟨.slice 54, 1, [.nil], 24⟩),
 (23, ⟨.slice 36, 1, [.nil], 24⟩),
 (24, ⟨.slice 53, 1, [.nil], 24⟩),
 (27, ⟨.slice 23, 1, [.nil], 24⟩),
 (29, ⟨.slice 24, 1, [.nil], 24⟩),
 (30, ⟨.int .i64, 1, [.int .i64 0], 8⟩),
 (35, ⟨.struct [(0, 3), (1, 3), (2, 9)], 3, [.int .i64 0, .int .i64 0, .str ⟨#[]⟩], 32⟩),
 (36, ⟨.struct [(0, 3), (1, 3), (2, 9)], 3, [.int .i64 0, .int .i64 0, .str ⟨#[]⟩], 32⟩),
 (42, ⟨.slice 3, 1, [.nil], 24⟩),
 (43, ⟨.slice 45, 1, [.nil], 24⟩),
 (44, ⟨.struct [(0, 3), (1, 3), (2, 9), (3, 43)], 4, [.int .i64 0, .int .i64 0, .str ⟨#[]⟩, .nil], 56⟩),
 (45, ⟨.struct [(0, 3), (1, 3), (2, 9), (3, 43)], 4, [.int .i64 0, .int .i64 0, .str ⟨#[]⟩, .nil], 56⟩),
 (52, ⟨.struct [(0, 9), (1, 3)], 2, [.str ⟨#[]⟩, .int .i64 0], 24⟩),
 (53, ⟨.struct [(0, 9), (1, 3)], 2, [.str ⟨#[]⟩, .int .i64 0], 24⟩),
 (54, ⟨.array 2 3, 2, [.int .i64 0, .int .i64 0], 16⟩),
 (55, ⟨.slice 9, 1, [.nil], 24⟩),
 (57, ⟨.slice 61, 1, [.nil], 24⟩),
 (60, ⟨.struct [(0, 3), (1, 4)], 2, [.int .i64 0, .bool false], 16⟩),
 (61, ⟨.struct [(0, 3), (1, 4)], 2, [.int .i64 0, .bool false], 16⟩),
 (62, ⟨.struct [(0, 3), (1, 4)], 2, [.int .i64 0, .bool false], 16⟩),
 (63, ⟨.struct [(0, 3), (1, 4)], 2, [.int .i64 0, .bool false], 16⟩),
 (67, ⟨.other, 1, [.lit (.pointer none)], 8⟩),
 (68, ⟨.struct [(0, 42)], 1, [.nil], 24⟩),
 (69, ⟨.struct [(0, 42)], 1, [.nil], 24⟩),
 (72, ⟨.other, 1, [.lit (.pointer none)], 8⟩),
 (73, ⟨.other, 1, [.lit (.map none)], 8⟩),
 (75, ⟨.struct [(0, 23), (1, 73)], 2, [.nil, .lit (.map none)], 32⟩),
 (76, ⟨.struct [(0, 23), (1, 73)], 2, [.nil, .lit (.map none)], 32⟩),
 (79, ⟨.struct [(0, 30)], 1, [.int .i64 0], 8⟩),
 (80, ⟨.struct [(0, 30)], 1, [.int .i64 0], 8⟩),
 (83, ⟨.struct [(0, 24), (1, 42)], 2, [.nil, .nil], 48⟩),
 (84, ⟨.struct [(0, 24), (1, 42)], 2, [.nil, .nil], 48⟩),
 (87, ⟨.other, 1, [.lit (.pointer none)], 8⟩),
 (88, ⟨.struct [(0, 24), (1, 57), (2, 3), (3, 30)], 4, [.nil, .nil, .int .i64 0, .int .i64 0], 64⟩),
 (89, ⟨.struct [(0, 24), (1, 57), (2, 3), (3, 30)], 4, [.nil, .nil, .int .i64 0, .int .i64 0], 64⟩),
 (90, ⟨.other, 1, [.lit (.map none)], 8⟩),
 (93, ⟨.other, 1, [.lit (.pointer none)], 8⟩),
 (94, ⟨.slice 63, 1, [.nil], 24⟩),
 (95, ⟨.struct [(0, 94), (1, 30)], 2, [.nil, .int .i64 0], 32⟩),
 (96, ⟨.struct [(0, 94), (1, 30)], 2, [.nil, .int .i64 0], 32⟩),
 (104, ⟨.other, 1, [.lit (.map none)], 8⟩),
 (119, ⟨.slice 5, 1, [.nil], 24⟩),
 (128, ⟨.other, 1, [.lit (.pointer none)], 8⟩),
 (129, ⟨.other, 1, [.lit (.pointer none)], 8⟩),
 (130, ⟨.struct [(0, 129), (1, 119)], 2, [.lit (.pointer none), .nil], 32⟩),
 (131, ⟨.struct [(0, 129), (1, 119)], 2, [.lit (.pointer none), .nil], 32⟩),
 (132, ⟨.struct [(0, 131)], 2, [.lit (.pointer none), .nil], 32⟩),
 (133, ⟨.struct [(0, 131)], 2, [.lit (.pointer none), .nil], 32⟩),
 (139, ⟨.int .u64, 1, [.int .u64 0], 8⟩),
 (151, ⟨.slice 154, 1, [.nil], 24⟩),
 (153, ⟨.struct [(0, 9), (1, 3), (2, 3)], 3, [.str ⟨#[]⟩, .int .i64 0, .int .i64 0], 32⟩),
 (154, ⟨.struct [(0, 9), (1, 3), (2, 3)], 3, [.str ⟨#[]⟩, .int .i64 0, .int .i64 0], 32⟩),
 (160, ⟨.other, 1, [.lit (.pointer none)], 8⟩),
 (164, ⟨.int .i64, 1, [.int .i64 0], 8⟩),
 (172, ⟨.int .u32, 1, [.int .u32 0], 4⟩),
 (174, ⟨.int .u64, 1, [.int .u64 0], 8⟩),
 (176, ⟨.int .u64, 1, [.int .u64 0], 8⟩),
 (180, ⟨.other, 1, [.lit (.pointer none)], 8⟩),
 (184, ⟨.other, 1, [.lit (.pointer none)], 8⟩),
 (187, ⟨.array 24 5, 24, [.int .u8 0, .int .u8 0, .int .u8 0, .int .u8 0, .int .u8 0, .int .u8 0, .int .u8 0, .int .u8 0, .int .u8 0, .int .u8 0, .int .u8 0, .int .u8 0, .int .u8 0, .int .u8 0, .int .u8 0, .int .u8 0, .int .u8 0, .int .u8 0, .int .u8 0, .int .u8 0, .int .u8 0, .int .u8 0, .int .u8 0, .int .u8 0], 24⟩),
 (192, ⟨.array 20 174, 20, [.int .u64 0, .int .u64 0, .int .u64 0, .int .u64 0, .int .u64 0, .int .u64 0, .int .u64 0, .int .u64 0, .int .u64 0, .int .u64 0, .int .u64 0, .int .u64 0, .int .u64 0, .int .u64 0, .int .u64 0, .int .u64 0, .int .u64 0, .int .u64 0, .int .u64 0, .int .u64 0], 160⟩),
 (193, ⟨.array 65 5, 65, [.int .u8 0, .int .u8 0, .int .u8 0, .int .u8 0, .int .u8 0, .int .u8 0, .int .u8 0, .int .u8 0, .int .u8 0, .int .u8 0, .int .u8 0, .int .u8 0, .int .u8 0, .int .u8 0, .int .u8 0, .int .u8 0, .int .u8 0, .int .u8 0, .int .u8 0, .int .u8 0, .int .u8 0, .int .u8 0, .int .u8 0, .int .u8 0, .int .u8 0, .int .u8 0, .int .u8 0, .int .u8 0, .int .u8 0, .int .u8 0, .int .u8 0, .int .u8 0, .int .u8 0, .int .u8 0, .int .u8 0, .int .u8 0, .int .u8 0, .int .u8 0, .int .u8 0, .int .u8 0, .int .u8 0, .int .u8 0, .int .u8 0, .int .u8 0, .int .u8 0, .int .u8 0, .int .u8 0, .int .u8 0, .int .u8 0, .int .u8 0, .int .u8 0, .int .u8 0, .int .u8 0, .int .u8 0, .int .u8 0, .int .u8 0, .int .u8 0, .int .u8 0, .int .u8 0, .int .u8 0, .int .u8 0, .int .u8 0, .int .u8 0, .int .u8 0, .int .u8 0], 65⟩),
 (194, ⟨.array 32 5, 32, [.int .u8 0, .int .u8 0, .int .u8 0, .int .u8 0, .int .u8 0, .int .u8 0, .int .u8 0, .int .u8 0, .int .u8 0, .int .u8 0, .int .u8 0, .int .u8 0, .int .u8 0, .int .u8 0, .int .u8 0, .int .u8 0, .int .u8 0, .int .u8 0, .int .u8 0, .int .u8 0, .int .u8 0, .int .u8 0, .int .u8 0, .int .u8 0, .int .u8 0, .int .u8 0, .int .u8 0, .int .u8 0, .int .u8 0, .int .u8 0, .int .u8 0, .int .u8 0], 32⟩),
 (195, ⟨.array 64 5, 64, [.int .u8 0, .int .u8 0, .int .u8 0, .int .u8 0, .int .u8 0, .int .u8 0, .int .u8 0, .int .u8 0, .int .u8 0, .int .u8 0, .int .u8 0, .int .u8 0, .int .u8 0, .int .u8 0, .int .u8 0, .int .u8 0, .int .u8 0, .int .u8 0, .int .u8 0, .int .u8 0, .int .u8 0, .int .u8 0, .int .u8 0, .int .u8 0, .int .u8 0, .int .u8 0, .int .u8 0, .int .u8 0, .int .u8 0, .int .u8 0, .int .u8 0, .int .u8 0, .int .u8 0, .int .u8 0, .int .u8 0, .int .u8 0, .int .u8 0, .int .u8 0, .int .u8 0, .int .u8 0, .int .u8 0, .int .u8 0, .int .u8 0, .int .u8 0, .int .u8 0, .int .u8 0, .int .u8 0, .int .u8 0, .int .u8 0, .int .u8 0, .int .u8 0, .int .u8 0, .int .u8 0, .int .u8 0, .int .u8 0, .int .u8 0, .int .u8 0, .int .u8 0, .int .u8 0, .int .u8 0, .int .u8 0, .int .u8 0, .int .u8 0, .int .u8 0], 64⟩),
 (196, ⟨.struct [(0, 17), (1, 17), (2, 17), (3, 9)], 4, [.lit (.pointer none), .lit (.pointer none), .lit (.pointer none), .str ⟨#[]⟩], 40⟩),
 (197, ⟨.struct [(0, 17), (1, 17), (2, 17), (3, 9)], 4, [.lit (.pointer none), .lit (.pointer none), .lit (.pointer none), .str ⟨#[]⟩], 40⟩),
 (198, ⟨.array 0 16, 0, [], 0⟩),
 (199, ⟨.struct [(0, 198)], 0, [], 0⟩),
 (200, ⟨.struct [(0, 198)], 0, [], 0⟩),
 (202, ⟨.int .u8, 1, [.int .u8 0], 1⟩),
 (203, ⟨.int .u8, 1, [.int .u8 0], 1⟩),
 (205, ⟨.int .i32, 1, [.int .i32 0], 4⟩),
 (206, ⟨.int .i32, 1, [.int .i32 0], 4⟩)]
def lk : List (Nat × TI) → Nat → Option TI
 | [], _ => none
 | (u, i) :: r, t => match Nat.beq t u with
  | true => some i
  | false => lk r t
theorem lk_of {P : Program} : ∀ (l : List (Nat × TI)), l.map (fun p => tyOf P p.1) = l.map (fun p => some p.2) → ∀ t i, lk l t = some i → tyOf P t = some i
 | [], _, t, i, h => by simp [lk] at h
 | (u, j) :: r, hl, t, i, h => by
  simp only [List.map_cons, List.cons.injEq] at hl
  unfold lk at h
  split at h
  ·rename_i hb
   injection h with h; subst h
   rw [Nat.eq_of_beq_eq_true hb]
   exact hl.1
  ·exact lk_of r hl.2 t i h
theorem tab_ok : tabL.map (fun p => tyOf Tryz.prog p.1) = tabL.map (fun p => some p.2) := by kernel_rfl
structure Inv (w : World) : Prop where
 size : Tryz.prog.globals.size ≤ w.heap.size
 tab : Lib.TabIs Tryz.prog w "internal/strconv.uint64pow10" .u64 Lib.pow10Tab
def ptr? (t : Nat) : Bool := [1, 15, 16, 17, 25, 26, 28, 32, 33, 34, 37, 38, 39, 40, 41, 46, 48, 49, 50, 51, 56, 59, 65, 66, 67, 70, 71, 72, 73, 74, 77, 78, 85, 86, 87, 90, 91, 92, 93, 97, 98, 99, 100, 101, 102, 103, 104, 105, 106, 107, 108, 109, 111, 112, 113, 114, 115, 117, 118, 121, 122, 123, 124, 125, 127, 128, 129, 134, 135, 136, 137, 138, 140, 141, 142, 143, 144, 145, 146, 147, 148, 149, 150, 152, 158, 159, 160, 161, 162, 163, 166, 167, 168, 169, 170, 171, 173, 175, 177, 178, 179, 180, 181, 183, 184, 185, 186, 188, 190, 191, 201, 204].any fun u => Nat.beq t u
def bld? (t : Nat) : Bool := [131].any fun u => Nat.beq t u
def eqsL : List (Nat × List EK) := [(36, [.int, .int, .str]), (53, [.str, .int]), (61, [.int, .bool]), (63, [.int, .bool]), (80, [.int]), (154, [.str, .int, .int])]
def lkE : List (Nat × List EK) → Nat → Option (List EK)
 | [], _ => none
 | (u, i) :: r, t => match Nat.beq t u with
  | true => some i
  | false => lkE r t
theorem lkE_of {P : Program} : ∀ (l : List (Nat × List EK)), (l.all fun p => eqOK P p.1 p.2) = true → ∀ t i, lkE l t = some i → eqOK P t i = true
 | [], _, t, i, h => by simp [lkE] at h
 | (u, j) :: r, hl, t, i, h => by
  rw [List.all_cons, Bool.and_eq_true] at hl
  unfold lkE at h
  split at h
  ·rename_i hb
   injection h with h; subst h
   rw [Nat.eq_of_beq_eq_true hb]
   exact hl.1
  ·exact lkE_of r hl.2 t i h
theorem eqs_ok : (eqsL.all fun p => eqOK Tryz.prog p.1 p.2) = true := by kernel_rfl
def eff? (f : Nat) : Bool := [28, 31, 35, 42, 43, 47, 52, 53, 58, 61, 63, 66, 76, 77, 78, 79, 80, 81, 82, 83, 84, 85, 86, 87, 88, 89, 90, 91, 92, 97, 98, 118, 119, 122, 125, 126, 127, 130, 132].any fun u => Nat.beq f u
noncomputable def E : Env := ⟨Tryz.prog, lk tabL, ⟨ptr?, eff?, bld?⟩, Inv, lkE eqsL⟩
theorem mixed : Tryz.prog.follows .mixedOrders = true := by kernel_rfl
theorem var_stays {w w' : World} {n : String} {g : Nat} {cs : Array Value} (hg : Tryz.prog.globalNamed n = some g ∧ decide (g < Tryz.prog.globals.size) = true) (hb : ∀ b, b < Tryz.prog.globals.size → w'.heap[b]? = w.heap[b]?) (hv : w.var? Tryz.prog n = some cs) : w'.var? Tryz.prog n = some cs := by
 unfold World.var? at hv ⊢
 rw [hg.1] at hv ⊢
 simp only [Option.bind_some] at hv ⊢
 rw [hb g (of_decide_eq_true hg.2)]
 exact hv
theorem hE : EnvOK E where
 ty := lk_of tabL tab_ok
 mixed := mixed
 eqs := lkE_of eqsL eqs_ok
 glob := fun w h => h.size
 stable := fun w w' h hs hb => ⟨Nat.le_trans h.size hs, var_stays (g := 1) ⟨by kernel_rfl, by kernel_rfl⟩ hb h.tab⟩
end Go.Proofs.YtgpkppohfodhdaaGreatDoor.Pm
namespace Go.Proofs.YtgpkppohfodhdaaGreatDoor.Pm
open Go Go.RowKit
set_option linter.unusedVariables false
set_option linter.unusedSimpArgs false
def KpLe : Option (PV → St → Prop) → Option (PV → St → Prop) → Prop
 | none, none => True
 | some a, some b => ∀ p s, a p s → b p s
 | _, _ => False
theorem CallK.le {kp kp' : Option (PV → St → Prop)} (hk : KpLe kp kp') {s : St} {R : PV → List (List PV) → Prop} {P : PV → Nat → Prop} {N : PV → List (List PV) → Prop} {O : List (List CV) → Nat → Prop} {K : PV → List (List PV) → List (Nat × Nat) → Prop} (h : CallK kp s R P N O K) : CallK kp' s R P N O K := by
 cases kp <;> cases kp' <;> first | exact hk.elim | skip
 ·exact h
 ·rcases h with h | ⟨p, hp, h⟩ | ⟨p, j, hp, hj, h⟩ | h
  ·exact .inl h
  ·exact .inr (.inl ⟨p, hp, hk p _ h⟩)
  ·exact .inr (.inr (.inl ⟨p, j, hp, hj, hk p _ h⟩))
  ·exact .inr (.inr (.inr h))
theorem panF_le {kp kp' : Option (PV → St → Prop)} (hk : KpLe kp kp') {p : PV} (h : panF kp p) : panF kp' p := by
 unfold panF at h ⊢
 cases kp <;> cases kp' <;> first | exact hk.elim | skip
 ·exact h
 ·cases p <;> first | exact hk _ _ h | exact h
theorem wpOp_le {E : Env} {kp kp' : Option (PV → St → Prop)} (hk : KpLe kp kp') {s : St} {op : Op} {K : PV → List (List PV) → List (Nat × Nat) → Prop} (h : wpOp E kp s op K) : wpOp E kp' s op K := by
 rw [wpOp_def] at h ⊢
 obtain ⟨sl, H, T⟩ := s
 dsimp only at h ⊢
 (repeat' split at h) <;> first | exact h | exact h.le hk | exact panF_le hk h
theorem step_le {E : Env} {kp kp' : Option (PV → St → Prop)} (hk : KpLe kp kp') {all : Array Oper} {x : Oper} {s : St} {K : St → Prop} (h : step E kp all x s K) : step E kp' all x s K := by
 unfold step at h ⊢
 split at h
 ·exact wpOp_le hk h
 ·exact h
 ·exact h
theorem sepK_le {kp kp' : Option (PV → St → Prop)} (hk : KpLe kp kp') {F : Fl} {all : Array Oper} {sl : Nat → PV} {o : Oper} (h : sepK kp F all sl o = true) : sepK kp' F all sl o = true := by
 cases kp <;> cases kp' <;> first | exact hk.elim | exact h
theorem wpL_mono {E : Env} {kp kp' : Option (PV → St → Prop)} (hk : KpLe kp kp') {all : Array Oper} {K K' : St → Prop} (f : ∀ s, K s → K' s) : ∀ (l : List Oper) (s : St), wpL E kp all l K s → wpL E kp' all l K' s
 | [], s, h => f s h
 | o :: l, s, h => wpL_cons.2 ⟨sepK_le hk (wpL_cons.1 h).1, step_le hk (step_mono (E := E) (all := all) (x := o) (K := wpL E kp all l K) (wpL_cons.1 h).2 fun s' h' => wpL_mono hk f l s' h')⟩
theorem wpOpD_le {E : Env} {Kp Kp' : PV → St → Prop} (hk : ∀ p s, Kp p s → Kp' p s) {all : Array Oper} {o : Oper} {s : St} {K K' : PV → List (List PV) → List (Nat × Nat) → Prop} (h : wpOpD E Kp all o s K) (f : ∀ v H T, K v H T → K' v H T) : wpOpD E Kp' all o s K' := by
 obtain ⟨sl, H, T⟩ := s
 unfold wpOpD at h ⊢
 dsimp only at h ⊢
 split at h
 ·split at h
  ·split at h
   ·split at h
    ·rcases h with ⟨r, H', h1, h2⟩ | ⟨p, h1, h2, h3⟩
     ·exact .inl ⟨r, H', h1, f _ _ _ h2⟩
     ·exact .inr ⟨p, h1, h2, hk _ _ h3⟩
    ·exact h.elim
   ·exact wpOp_mono h f
  ·exact wpOp_mono h f
 ·exact wpOp_mono h f
theorem wpLD_mono {E : Env} {Kp Kp' : PV → St → Prop} (hk : ∀ p s, Kp p s → Kp' p s) {all : Array Oper} {K K' : St → Prop} (f : ∀ s, K s → K' s) : ∀ (l : List Oper) (s : St), wpLD E Kp all l K s → wpLD E Kp' all l K' s
 | [], s, h => f s h
 | o :: l, s, h => by
  obtain ⟨h1, h2⟩ := wpLD_cons.1 h
  refine wpLD_cons.2 ⟨h1, ?_⟩
  unfold stepD at h2 ⊢
  split at h2
  ·exact wpOpD_le hk h2 fun v H T h => wpLD_mono hk f l _ h
  ·exact wpLD_mono hk f l _ h2
  ·exact h2
theorem wpR_mono {E : Env} {draw : Bool} {Kp Kp' : PV → St → Prop} (hk : ∀ p s, Kp p s → Kp' p s) {ops : Array Oper} {K K' : St → Prop} (f : ∀ s, K s → K' s) {s : St} (h : wpR E draw Kp ops K s) : wpR E draw Kp' ops K' s := by
 cases draw with
 | true => exact wpLD_mono hk f _ _ h
 | false => exact wpL_mono (kp := some Kp) (kp' := some Kp') hk f _ _ h
theorem thenK_mono {N N' : St → Prop} {K K' : PEx → St → Prop} (hn : ∀ s, N s → N' s) (hk : ∀ e s, K e s → K' e s) : ∀ e s, thenK N K e s → thenK N' K' e s
 | .normal, s, h => hn s h
 | .exit _, s, h => hk _ s h
 | .ret, s, h => hk _ s h
 | .pan _, s, h => hk _ s h
theorem wpC_mono {E : Env} : ∀ (c : Code) {K K' : PEx → St → Prop} (s : St), wpC E c K s → (∀ e s, K e s → K' e s) → wpC E c K' s
 | .skip, _, _, s, h, f => f _ _ h
 | .label _, _, _, s, h, f => f _ _ h
 | .exit _, _, _, s, h, f => f _ _ h
 | .ret, _, _, s, h, f => f _ _ h
 | .region _ ops draw, _, _, s, h, f => wpR_mono (fun p s h => f _ _ h) (fun s h => f _ s h) h
 | .seq a b, _, _, s, h, f => wpC_mono a s h (thenK_mono (fun s h => wpC_mono b s h f) f)
 | .cond c a b, K, K', s, h, f => by
  have h : (match ev s.sl c with
   | .c (.bool true) => wpC E a K s
   | .c (.bool false) => wpC E b K s
   | _ => False) := h
  show (match ev s.sl c with
   | .c (.bool true) => wpC E a K' s
   | .c (.bool false) => wpC E b K' s
   | _ => False)
  split at h
  ·exact wpC_mono a s h f
  ·exact wpC_mono b s h f
  ·exact h.elim
 | .block id c, _, _, s, h, f => wpC_mono c s h (fun e s h => by
   cases e with
   | normal => exact f _ s h
   | exit j =>
    unfold blockK at h ⊢
    dsimp only at h ⊢
    split at h <;> exact f _ s h
   | ret => exact f _ s h
   | pan p => exact f _ s h)
 | .loop c, K, K', s, ⟨⟨k, h⟩⟩, f => by
  refine ⟨⟨k, ?_⟩⟩
  have ih := @wpC_mono E c
  generalize s.H.length = n0 at h ⊢
  induction k generalizing s with
  | zero => exact h
  | succ k ihk =>
   rcases h with h | ⟨n, h1, h2, h3, h⟩
   ·exact .inl (ih s h (thenK_mono (fun s h => ihk s h) f))
   ·exact .inr ⟨n, h1, h2, h3, ih _ h (thenK_mono (fun s h => ihk s h) f)⟩
 | .rangeFunc _ _ _ _, _, _, s, h, f => h.elim
 | .scope _, _, _, s, h, f => h.elim
 | .goto _, _, _, s, h, f => h.elim
 | .refuse _, _, _, s, h, f => h.elim
def setAll (f : Nat → PV) : List (Nat × PV) → Nat → PV
 | [] => f
 | (t, v) :: r => upd (setAll f r) (some t) v
def Holds (f : Nat → PV) : List (Nat × PV) → Prop
 | [] => True
 | (t, v) :: r => f t = v ∧ Holds f r
theorem setAll_of {f : Nat → PV} : ∀ {l : List (Nat × PV)}, Holds f l → setAll f l = f
 | [], _ => rfl
 | (t, v) :: r, h => by
  show upd (setAll f r) (some t) v = f
  rw [setAll_of h.2]
  funext u
  by_cases hu : u = t
  ·subst hu; rw [upd_same]; exact h.1.symm
  ·rw [upd_other (by simpa using Ne.symm hu)]
theorem Loop.run {E : Env} {c : Code} {F : (PEx → St → Prop) → St → Prop} {K : PEx → St → Prop} {s : St} {α : Type} (P : α → Prop) (vars : α → List (Nat × PV)) (H : α → List (List PV)) (T : α → List (Nat × Nat)) (meas : α → Nat) (x0 : α) (h0 : P x0)
  (init : Holds s.sl (vars x0) ∧ s.H = H x0 ∧ s.T = T x0)
  (round : ∀ (x : α) (f : Nat → PV), P x → wpC E c (thenK (fun s' => ∃ y, P y ∧ meas y < meas x ∧ Holds s'.sl (vars y) ∧ s'.H = H y ∧ s'.T = T y) K) ⟨setAll f (vars x), H x, T x⟩) (hF : F = wpC E c := by first | exact Eq.refl _ | (funext K s; exact rfl) | (unfold wpC; exact rfl)) : LoopC E c F K s := by
 subst hF
 have key : ∀ (n0 n : Nat) (x : α) (s : St), P x → meas x < n → Holds s.sl (vars x) ∧ s.H = H x ∧ s.T = T x → iter (wpC E c) K n0 n s := by
  intro n0 n
  induction n with
  | zero => intro x s _ h; omega
  | succ n ih =>
   intro x s hP hm hI
   have := round x s.sl hP
   rw [setAll_of hI.1] at this
   have e : s = ⟨s.sl, H x, T x⟩ := by cases s; simp only at hI ⊢; rw [hI.2.1, hI.2.2]
   rw [e]
   refine .inl (wpC_mono c _ this (thenK_mono (fun s' ⟨y, hy, hl, hI'⟩ => ih y s' hy (by omega) hI') (fun _ _ h => h)))
 exact ⟨⟨meas x0 + 1, key _ _ x0 s h0 (Nat.lt_succ_self _) init⟩⟩
theorem Holds.cut {n : Nat} {f : Nat → PV} : ∀ {l : List (Nat × PV)}, Holds f l → (l.all fun p => lowP n p.2) = true → Holds (fun t => cutP n (f t)) l
 | [], _, _ => trivial
 | (t, v) :: r, h, hl => by
  rw [List.all_cons, Bool.and_eq_true] at hl
  refine ⟨?_, h.2.cut hl.2⟩
  show cutP n (f t) = v
  rw [h.1]
  have h1 : lowP n v = true := hl.1
  cases v <;> try rfl
  ·rename_i i o
   have h1 : Nat.blt i n = true := h1
   unfold cutP
   dsimp only
   rw [h1]
  ·rename_i f a b
   have h1 : (a ++ b).all (lowA n) = true := h1
   unfold cutP
   dsimp only
   rw [h1]
  ·rename_i i o
   have h1 : Nat.blt i n = true := h1
   unfold cutP
   dsimp only
   rw [h1]
  ·rename_i fs i
   have h1 : Nat.blt i n = true := h1
   unfold cutP
   dsimp only
   rw [h1]
theorem Loop.cut {E : Env} {c : Code} {F : (PEx → St → Prop) → St → Prop} {K : PEx → St → Prop} {s : St} {α : Type} (P : α → Prop) (vars : α → List (Nat × PV)) (H : α → List (List PV)) (T : α → List (Nat × Nat)) (meas : α → Nat) (x0 : α) (n0 : Nat) (hlen : ∀ x, (H x).length = n0) (hH : ∀ x, ((H x).all fun cs => cs.all (lowP n0)) = true) (hv : ∀ x, ((vars x).all fun p => lowP n0 p.2) = true) (h0 : P x0)
  (init : Holds s.sl (vars x0) ∧ s.H = H x0 ∧ s.T = T x0)
  (round : ∀ (x : α) (f : Nat → PV), P x → wpC E c (thenK (fun s' => ∃ y, P y ∧ meas y < meas x ∧ Holds s'.sl (vars y) ∧ (∃ e, s'.H = H y ++ e) ∧ s'.T = T y) K) ⟨setAll f (vars x), H x, T x⟩) (hF : F = wpC E c := by first | exact Eq.refl _ | (funext K s; exact rfl) | (unfold wpC; exact rfl)) : LoopC E c F K s := by
 subst hF
 have key : ∀ (n : Nat) (x : α) (s : St), P x → meas x < n → Holds s.sl (vars x) ∧ (∃ e, s.H = H x ++ e) ∧ s.T = T x → iter (wpC E c) K n0 n s := by
  intro n
  induction n with
  | zero => intro x s _ h; omega
  | succ n ih =>
   intro x s hP hm hI
   obtain ⟨hI1, ⟨e, hI2⟩, hI3⟩ := hI
   have hc : Holds (cutSt n0 s).sl (vars x) := hI1.cut (hv x)
   have := round x (cutSt n0 s).sl hP
   rw [setAll_of hc] at this
   have htk : s.H.take n0 = H x := by rw [hI2, ← hlen x, List.take_left]
   have e1 : cutSt n0 s = ⟨(cutSt n0 s).sl, H x, T x⟩ := by unfold cutSt; rw [htk, hI3]
   refine .inr ⟨n0, Nat.le_refl _, by rw [hI2, ← hlen x]; simp, by rw [htk]; exact hH x, ?_⟩
   rw [e1]
   exact wpC_mono c _ this (thenK_mono (fun s' ⟨y, hy, hl, hI'⟩ => ih y s' hy (by omega) hI') (fun _ _ h => h))
 refine ⟨⟨meas x0 + 1, ?_⟩⟩
 rw [init.2.1, hlen]
 exact key _ x0 s h0 (Nat.lt_succ_self _) ⟨init.1, ⟨[], by rw [init.2.1]; simp⟩, init.2.2⟩
theorem CallR.mk1 {E : Env} {f : FuncId} {ps : List PV} {r : PV} (h : Ok E f [] ps r []) (hc : ps.all PV.closed = true) (hr : r.closed = true) :
  CallR E f ps r := ⟨_, WkL.refl _, hc, h, hr⟩
theorem CallR.mkW {E : Env} {f : FuncId} {ps : List PV} {r : PV} {args : List PV} (h : Ok E f [] args r []) (hw : WkL ps args) (hc : args.all PV.closed = true) (hr : r.closed = true) :
  CallR E f ps r := ⟨_, hw, hc, h, hr⟩
theorem Hand.of {H : List (List PV)} {ps : List PV} {ids : List Nat} {bs : List (List PV)} {args : List PV} (hH : getL H ids = some bs) (ha : argsF ids ps = some args) (hn : ids.Nodup) (hc : bs.all (fun d => d.all PV.closedB) = true) (ht : (ids.all fun i => ps.any (hasP i)) = true) : Hand H ps ids bs args :=
 ⟨bs, ps, hn, hH, WkLL.refl _, hc, WkL.refl _, ha, ht⟩
theorem Hand.ofW {H : List (List PV)} {ps qs : List PV} {ids : List Nat} {cs bs : List (List PV)} {args : List PV} (hH : getL H ids = some cs) (hw : WkLL cs bs) (hq : WkL ps qs) (ha : argsF ids qs = some args) (hn : ids.Nodup) (hc : bs.all (fun d => d.all PV.closedB) = true) (ht : (ids.all fun i => ps.any (hasP i)) = true) : Hand H ps ids bs args :=
 ⟨cs, qs, hn, hH, hw, hc, hq, ha, ht⟩
theorem SCallR.of {E : Env} {f : FuncId} {H : List (List PV)} {ps : List PV} {r : PV} {bs bs' : List (List PV)} {args : List PV} (ids : List Nat) (h : Ok E f bs args r bs') (hd : Hand H ps ids bs args) (hl : bs'.length = ids.length) (hc : bs'.all (fun d => d.all PV.closedB) = true) (hr : r.closed = true) : SCallR E f H ps r (setL H ids bs') :=
 ⟨ids, bs, bs', args, hd, hl, hc, h, hr, rfl⟩
theorem SCallP.of {E : Env} {f : FuncId} {H : List (List PV)} {ps : List PV} {p : PV} {bs : List (List PV)} {args : List PV} (ids : List Nat) (h : OkP E f bs args p) (hd : Hand H ps ids bs args) (hp : p.closed = true) : SCallP E f H ps p :=
 ⟨ids, bs, args, hd, h, hp, List.all_eq_true.2 fun i _ => Nat.ble_eq.mpr (Nat.zero_le i)⟩
theorem SCallR.none {E : Env} {f : FuncId} {H : List (List PV)} {ps : List PV} {r : PV} (h : Ok E f [] ps r []) (ha : argsF [] ps = some ps) (hr : r.closed = true) : SCallR E f H ps r H :=
 ⟨[], [], [], ps, Hand.of rfl ha (by simp) rfl rfl, rfl, rfl, h, hr, rfl⟩
theorem SCallP.none {E : Env} {f : FuncId} {H : List (List PV)} {ps : List PV} {p : PV} (h : OkP E f [] ps p) (ha : argsF [] ps = some ps) (hp : p.closed = true) : SCallP E f H ps p :=
 ⟨[], [], ps, Hand.of rfl ha (by simp) rfl rfl, h, hp, rfl⟩
theorem SCallR.one {E : Env} {f : FuncId} {H : List (List PV)} {ps : List PV} {r : PV} {i : Nat} {d d' : List PV} {args : List PV} (h : Ok E f [d] args r [d']) (hH : getL H [i] = some [d]) (ha : argsF [i] ps = some args) (hp : (ps.any (hasP i)) = true) (hd : d.all PV.closedB = true) (hd' : d'.all PV.closedB = true) (hr : r.closed = true) :
  SCallR E f H ps r (H.set i d') :=
 SCallR.of [i] h (Hand.of hH ha (by simp) (by rw [List.all_cons, hd]; rfl) (by simp [hp])) rfl (by rw [List.all_cons, hd']; rfl) hr
theorem SCallR.oneW {E : Env} {f : FuncId} {H : List (List PV)} {ps : List PV} {r : PV} {i : Nat} {c d d' : List PV} {args : List PV} (h : Ok E f [d] args r [d']) (hH : getL H [i] = some [c]) (hw : WkL c d) (ha : argsF [i] ps = some args) (hp : (ps.any (hasP i)) = true) (hd : d.all PV.closedB = true) (hd' : d'.all PV.closedB = true) (hr : r.closed = true) (hk : StkOK c d := by first | exact StkOK.refl _ | exact StkOK.none rfl) :
  SCallR E f H ps r (H.set i d') :=
 SCallR.of [i] h (Hand.ofW hH (.cons hw .nil hk) (WkL.refl _) ha (by simp) (by rw [List.all_cons, hd]; rfl) (by simp [hp])) rfl (by rw [List.all_cons, hd']; rfl) hr
theorem AppR.first {E : Env} {T : List (Nat × Nat)} {t e sz bb : Nat} {zz : List CV} {ei : TI} {q : PV} {ys : List (List CV)} (h1 : E.T t = some ⟨.slice e, sz, zz, bb⟩) (h2 : E.T e = some ei) (h3 : 0 < ei.size) (h4 : ei.zero.length = ei.size) (hq : toRow q = some ys) (hy : ∀ y ∈ ys, y.length = ei.size) (hl : ys.length ≤ 9223372036854775807) (hb : ys.length * ei.bytes ≤ 140737488355328) :
  AppR E T t (.c .nil) q (.orow ys T.length) (T ++ [(ys.length, e)]) where
 h := ⟨e, sz, bb, zz, ei, [], ys, T.length, h1, h2, h3, h4, hq, by simp, hy, by simpa using hl, by simpa using hb, rfl, .inr (.inl ⟨rfl, rfl, rfl, rfl⟩)⟩
theorem AppR.more {E : Env} {T : List (Nat × Nat)} {t e sz bb k : Nat} {zz : List CV} {ei : TI} {q : PV} {xs ys : List (List CV)} (h1 : E.T t = some ⟨.slice e, sz, zz, bb⟩) (h2 : E.T e = some ei) (h3 : 0 < ei.size) (h4 : ei.zero.length = ei.size) (hq : toRow q = some ys) (hx : ∀ x ∈ xs, x.length = ei.size) (hy : ∀ y ∈ ys, y.length = ei.size) (hk : T[k]? = some (xs.length, e)) (hl : xs.length + ys.length ≤ 9223372036854775807) (hb : (xs.length + ys.length) * ei.bytes ≤ 140737488355328) :
  AppR E T t (.orow xs k) q (.orow (xs ++ ys) k) (T.set k (xs.length + ys.length, e)) where
 h := ⟨e, sz, bb, zz, ei, xs, ys, k, h1, h2, h3, h4, hq, hx, hy, hl, hb, rfl, .inr (.inr ⟨rfl, hk, rfl⟩)⟩
theorem AppR.first1 {E : Env} {T : List (Nat × Nat)} {t e sz bb : Nat} {zz : List CV} {ei : TI} {q : PV} {x : List CV} (h1 : E.T t = some ⟨.slice e, sz, zz, bb⟩) (h2 : E.T e = some ei) (h3 : 0 < ei.size) (h4 : ei.zero.length = ei.size) (hq : toRow q = some [x]) (hx : x.length = ei.size) (hb : ei.bytes ≤ 100000000000000) :
  AppR E T t (.c .nil) q (.orow [x] T.length) (T ++ [(1, e)]) :=
 AppR.first h1 h2 h3 h4 hq (by simpa using hx) (by simp) (by simp; omega)
theorem AppR.more1 {E : Env} {T : List (Nat × Nat)} {t e sz bb k : Nat} {zz : List CV} {ei : TI} {q : PV} {xs : List (List CV)} {x : List CV} (n : Nat) (h1 : E.T t = some ⟨.slice e, sz, zz, bb⟩) (h2 : E.T e = some ei) (h3 : 0 < ei.size) (h4 : ei.zero.length = ei.size) (hq : toRow q = some [x]) (hn : xs.length = n) (hs : ∀ x ∈ xs, x.length = ei.size) (hx : x.length = ei.size) (hk : T[k]? = some (n, e)) (hl : n + 1 ≤ 9223372036854775807) (hb : (n + 1) * ei.bytes ≤ 140737488355328) :
  AppR E T t (.orow xs k) q (.orow (xs ++ [x]) k) (T.set k (n + 1, e)) := by
 subst hn
 exact AppR.more h1 h2 h3 h4 hq hs (by simpa using hx) hk hl hb
theorem Ret.mk {E : Env} {fn : Func} {r : PV} {s : St} (zs : List PV) (h : resL E s fn.results.toList = some zs) (hr : oneOf zs = r) (hc : r.closed = true) : Ret E fn r [] s := ⟨zs, h, by rw [hr]; exact Wk.refl _, hc, .nil _⟩
theorem wrapE {z : Int} (h0 : -9223372036854775808 ≤ z) (h1 : z ≤ 9223372036854775807) : IntKind.i64.wrap z = z := by
 simp only [IntKind.wrap, IntKind.bits, IntKind.signed]
 simp
 omega
theorem BinR.of {E : Env} {t : Nat} {op : BinOp} {x y z : PV} (h : binF (E.T t) op x y = some z) : BinR E t op x y z := ⟨by unfold binE; rw [h]⟩
section
variable {E : Env} {ti : Nat} {a b z : Int} {k : IntKind}
theorem addV (h : a + b = z) (h0 : -9223372036854775808 ≤ z) (h1 : z ≤ 9223372036854775807) : BinR E ti .add (.c (.int .i64 a)) (.c (.int .i64 b)) (.c (.int .i64 z)) := .of (by
  show some (PV.c (.int .i64 (IntKind.i64.wrap (a + b)))) = _
  rw [h, wrapE h0 h1])
theorem subV (h : a - b = z) (h0 : -9223372036854775808 ≤ z) (h1 : z ≤ 9223372036854775807) : BinR E ti .sub (.c (.int .i64 a)) (.c (.int .i64 b)) (.c (.int .i64 z)) := .of (by
  show some (PV.c (.int .i64 (IntKind.i64.wrap (a - b)))) = _
  rw [h, wrapE h0 h1])
theorem mulV (h : a * b = z) (h0 : -9223372036854775808 ≤ z) (h1 : z ≤ 9223372036854775807) : BinR E ti .mul (.c (.int .i64 a)) (.c (.int .i64 b)) (.c (.int .i64 z)) := .of (by
  show some (PV.c (.int .i64 (IntKind.i64.wrap (a * b)))) = _
  rw [h, wrapE h0 h1])
theorem binI {op : BinOp} {p : PV} (hs : isSh op = false) (h : intF op k a b = some p) : BinR E ti op (.c (.int k a)) (.c (.int k b)) p := .of (by
  unfold binF
  dsimp only
  rw [hs]
  dsimp only
  rw [show decide (k = k) = true from decide_eq_true rfl]
  exact h)
theorem eqV {c : Bool} (h : (a == b) = c) : BinR E ti .eql (.c (.int k a)) (.c (.int k b)) (.c (.bool c)) := binI rfl (by rw [← h]; rfl)
theorem neV {c : Bool} (h : (a != b) = c) : BinR E ti .neq (.c (.int k a)) (.c (.int k b)) (.c (.bool c)) := binI rfl (by rw [← h]; rfl)
theorem ltV {c : Bool} (h : decide (a < b) = c) : BinR E ti .lss (.c (.int k a)) (.c (.int k b)) (.c (.bool c)) := binI rfl (by rw [← h]; rfl)
theorem leV {c : Bool} (h : decide (a ≤ b) = c) : BinR E ti .leq (.c (.int k a)) (.c (.int k b)) (.c (.bool c)) := binI rfl (by rw [← h]; rfl)
theorem gtV {c : Bool} (h : decide (a > b) = c) : BinR E ti .gtr (.c (.int k a)) (.c (.int k b)) (.c (.bool c)) := binI rfl (by rw [← h]; rfl)
theorem geV {c : Bool} (h : decide (a ≥ b) = c) : BinR E ti .geq (.c (.int k a)) (.c (.int k b)) (.c (.bool c)) := binI rfl (by rw [← h]; rfl)
theorem eqT (h : a = b) : BinR E ti .eql (.c (.int k a)) (.c (.int k b)) (.c (.bool true)) := eqV (beq_iff_eq.2 h)
theorem eqN (h : a ≠ b) : BinR E ti .eql (.c (.int k a)) (.c (.int k b)) (.c (.bool false)) := eqV (beq_eq_false_iff_ne.2 h)
theorem neT (h : a ≠ b) : BinR E ti .neq (.c (.int k a)) (.c (.int k b)) (.c (.bool true)) := neV (bne_iff_ne.2 h)
theorem neN (h : a = b) : BinR E ti .neq (.c (.int k a)) (.c (.int k b)) (.c (.bool false)) := neV (by simp [h])
theorem ltT (h : a < b) : BinR E ti .lss (.c (.int k a)) (.c (.int k b)) (.c (.bool true)) := ltV (decide_eq_true h)
theorem ltN (h : ¬ a < b) : BinR E ti .lss (.c (.int k a)) (.c (.int k b)) (.c (.bool false)) := ltV (decide_eq_false h)
theorem leT (h : a ≤ b) : BinR E ti .leq (.c (.int k a)) (.c (.int k b)) (.c (.bool true)) := leV (decide_eq_true h)
theorem leN (h : ¬ a ≤ b) : BinR E ti .leq (.c (.int k a)) (.c (.int k b)) (.c (.bool false)) := leV (decide_eq_false h)
theorem gtT (h : a > b) : BinR E ti .gtr (.c (.int k a)) (.c (.int k b)) (.c (.bool true)) := gtV (decide_eq_true h)
theorem gtN (h : ¬ a > b) : BinR E ti .gtr (.c (.int k a)) (.c (.int k b)) (.c (.bool false)) := gtV (decide_eq_false h)
theorem geT (h : a ≥ b) : BinR E ti .geq (.c (.int k a)) (.c (.int k b)) (.c (.bool true)) := geV (decide_eq_true h)
theorem geN (h : ¬ a ≥ b) : BinR E ti .geq (.c (.int k a)) (.c (.int k b)) (.c (.bool false)) := geV (decide_eq_false h)
theorem strEqV {x y : ByteArray} {c : Bool} (h : (x.toList == y.toList) = c) : BinR E ti .eql (.c (.str x)) (.c (.str y)) (.c (.bool c)) := .of (by rw [← h]; rfl)
theorem strNeV {x y : ByteArray} {c : Bool} (h : (!(x.toList == y.toList)) = c) : BinR E ti .neq (.c (.str x)) (.c (.str y)) (.c (.bool c)) := .of (by rw [← h]; rfl)
theorem catV {x y s : ByteArray} (h : x ++ y = s) (hb : x.size + y.size ≤ 9223372036854775807) : BinR E ti .add (.c (.str x)) (.c (.str y)) (.c (.str s)) := .of (by
  show strF .add x y = _
  unfold strF
  rw [← h]
  simp only [decide_eq_true hb])
theorem rowAtV {xs : List (List CV)} {x : List CV} {j sz : Nat} {n : Int} (hx : xs[j]? = some x) (hn : n = (j : Int)) (hl : x.length = sz) : rowAtF n sz xs = some (.iptr x) := by
 subst hn
 unfold rowAtF
 simp only [decide_eq_true (Int.natCast_nonneg j), Int.toNat_natCast, hx, decide_eq_true hl]
theorem idxV {E : Env} {t e s b : Nat} {zz : List CV} {ei : TI} {xs : List (List CV)} {x : List CV} {j : Nat} {n : Int} {k : IntKind} (hx : xs[j]? = some x) (hn : n = (j : Int)) (hl : x.length = ei.size) (h1 : E.T t = some ⟨.slice e, s, zz, b⟩) (h2 : E.T e = some ei) :
  IdxAR E t (.c (.row xs)) (.c (.int k n)) (.iptr x) where
 h := by
  unfold indexAddrF
  rw [h1]
  dsimp only
  rw [h2]
  exact rowAtV hx hn hl
theorem quoV (hb : b ≠ 0) (h : a.tdiv b = z) (h0 : -9223372036854775808 ≤ z) (h1 : z ≤ 9223372036854775807) : BinR E ti .quo (.c (.int .i64 a)) (.c (.int .i64 b)) (.c (.int .i64 z)) := binI rfl (by
  show (match decide (b = 0) with
   | true => none
   | false => some (PV.c (.int .i64 (IntKind.i64.wrap (a.tdiv b))))) = _
  rw [decide_eq_false hb, h, wrapE h0 h1])
theorem remV (hb : b ≠ 0) (h : a.tmod b = z) : BinR E ti .rem (.c (.int k a)) (.c (.int k b)) (.c (.int k z)) := binI rfl (by
  show (match decide (b = 0) with
   | true => none
   | false => some (PV.c (.int k (a.tmod b)))) = _
  rw [decide_eq_false hb, h])
theorem negV (h : -a = z) (h0 : -9223372036854775808 ≤ z) (h1 : z ≤ 9223372036854775807) : UnR .neg (.c (.int .i64 a)) (.c (.int .i64 z)) where
 h := by
  show some (PV.c (.int .i64 (IntKind.i64.wrap (0 - a)))) = _
  rw [show 0 - a = z by omega, wrapE h0 h1]
theorem convV {E : Env} {s d : Nat} {k' : IntKind} {si : TI} {sz : Nat} {zz : List CV} {bb : Nat} (h1 : E.T s = some si) (h2 : E.T d = some ⟨.int k', sz, zz, bb⟩) (h : k'.wrap a = z) : ConvR E s d (.c (.int k a)) (.c (.int k' z)) where
 h := by
  unfold convF
  rw [h1, h2, ← h]
theorem convBV {E : Env} {s d e : Nat} {sz sz' sz'' : Nat} {zz zz' zz'' : List CV} {bb bb' bb'' : Nat} {xs : List (List CV)} {l : List UInt8} (h1 : E.T s = some ⟨.slice e, sz, zz, bb⟩) (h2 : E.T d = some ⟨.str, sz', zz', bb'⟩) (h3 : E.T e = some ⟨.int .u8, sz'', zz'', bb''⟩) (h : bytesF xs = some l) : ConvR E s d (.c (.row xs)) (.c (.str ⟨l.toArray⟩)) where
 h := by
  unfold convF
  rw [h1, h2]
  dsimp only
  rw [h]
  dsimp only
  rw [h3]
theorem sliceRV {E : Env} {t e s b : Nat} {zz : List CV} {ei : TI} {xs : List (List CV)} {lo hi : Option PV} (l h : Nat) (h1 : E.T t = some ⟨.slice e, s, zz, b⟩) (h2 : E.T e = some ei) (hlo : bndF 0 lo = some (l : Int)) (hhi : bndF xs.length hi = some (h : Int)) (hr : l ≤ h ∧ h ≤ xs.length) (hx : ∀ x ∈ xs, x.length = ei.size) :
  SliceR E t (.c (.row xs)) lo hi (.c (.row ((xs.take h).drop l))) where
 h := by
  unfold sliceF
  rw [h1]
  dsimp only
  rw [h2]
  simp only [toRow, hlo, hhi]
  rw [show decide ((0 : Int) ≤ l ∧ (l : Int) ≤ h ∧ (h : Int) ≤ xs.length) = true by simp; omega]
  dsimp only
  rw [decide_eq_true hx]
  simp
theorem maxV (h : max a b = z) : maxF [.c (.int .i64 a), .c (.int .i64 b)] = some (.c (.int .i64 z)) := by
 subst h
 show (match maxG a [PV.c (.int .i64 b)] with
  | some z => some (PV.c (.int .i64 z))
  | none => none) = _
 have : maxG a [PV.c (.int .i64 b)] = some (max a b) := by
  simp only [maxG]
  by_cases hab : a ≥ b
  ·simp [hab]; omega
  ·simp [hab]; omega
 rw [this]
end
def I64 (n : Int) : Prop := -9223372036854775808 ≤ n ∧ n ≤ 9223372036854775807
inductive WkC : List CV → List CV → Prop
 | nil : WkC [] []
 | same {c : CV} {cs ds : List CV} (t : WkC cs ds) : WkC (c :: cs) (c :: ds)
 | row {cs ds : List CV} (t : WkC cs ds) : WkC (.nil :: cs) (.row [] :: ds)
theorem WkC.length {cs ds : List CV} (h : WkC cs ds) : cs.length = ds.length := by
 induction h with
 | nil => rfl
 | same _ ih => simp [ih]
 | row _ ih => simp [ih]
theorem WkC.get {w : World} {ok : Nat → Nat → Prop} {cs ds : List CV} (h : WkC cs ds) : ∀ (i : Nat) (v : Value) (d : CV), (∀ c, cs[i]? = some c → RepC w ok v c) → ds[i]? = some d → RepC w ok v d := by
 induction h with
 | nil => intro i v d _ h; simp at h
 | same _ ih =>
  intro i v d hv hd
  cases i with
  | zero => simp at hd; subst hd; exact hv _ rfl
  | succ i => exact ih i v d (fun c hc => hv c (by simpa using hc)) (by simpa using hd)
 | row _ ih =>
  intro i v d hv hd
  cases i with
  | zero => simp at hd; subst hd; exact (hv _ rfl).nil_row
  | succ i => exact ih i v d (fun c hc => hv c (by simpa using hc)) (by simpa using hd)
theorem Wk.aggC {cs ds : List CV} (h : WkC cs ds) : Wk (.agg cs) (.agg ds) := by
 intro w ok m tk v hv
 cases hv with
 | agg vs _ hg => exact .agg vs ds ⟨by rw [hg.1, h.length], fun i v d hv hd => h.get i v d (fun c hc => hg.2 i v c hv hc) hd⟩
theorem Wk.nilRow : Wk (.c .nil) (.c (.row [])) := by
 intro w ok m tk v hv
 cases hv with
 | c _ _ h => exact .c _ _ h.nil_row
end Go.Proofs.YtgpkppohfodhdaaGreatDoor.Pm
namespace Go.Proofs.YtgpkppohfodhdaaGreatDoor.Pm
open Go Go.RowKit
set_option linter.unusedVariables false
set_option linter.unusedSimpArgs false
inductive DMode : Value → FrameMode → FrameMode → Prop
 | ret : DMode .nilIface .returning .returning
 | pan (v : Value) : DMode v (.panicking [{ v, recovered := false }]) (.panicking [{ v, recovered := true }])
def OkD (E : Env) (f : FuncId) (bs : List (List PV)) (args : List PV) (pv : PV) (bs' : List (List PV)) : Prop :=
 Callable E.P f ∧ ∀ (w : World) (ok : Nat → Nat → Prop) (ms gs : List Nat) (vals : Array Value) (rv : Value) (u u' : FrameMode), DMode rv u u' → (stkB bs = false → gs = []) → Mem E ⟨w, ok, ms, gs⟩ bs (ms.map some) [] ok w → RepL (Rep w ok (ms.map some) []) vals.toList args → Rep w ok [] [] rv pv →
  CallsD E.P f vals u w fun e u'' w' => u'' = u' ∧ ∃ v ok', e = .returned v ∧ Mem E ⟨w, ok, ms, gs⟩ bs' (ms.map some) [] ok' w' ∧ ∀ b o, ok b o → ok' b o
theorem upon_keep {P : Program} {o : Oper} {a : Act} {next next' : Act → World → Prop} {Q0 Q' : Exit → Act → World → Prop} (hn : ∀ a w, next a w → next' a w) (hq : ∀ e a w, Q0 e a w → Q' e a w) {r : Result Next} (h : o.upon P a next Q0 r) : o.upon P a next' Q' r := by
 cases r with
 | ok x w =>
  cases x <;> first | exact h.elim | skip
  case value v => exact hn _ _ h
  case skip => exact hn _ _ h
  case defer d => exact hn _ _ h
  case enter f args =>
   refine Calls.mono h ?_
   intro e w' h
   cases e with
   | returned v => exact hn _ _ h
   | panicked ch => exact hq _ _ _ h
   | outgrown => obtain ⟨a, w, h⟩ := h; exact ⟨a, w, hq _ _ _ h⟩
  case row row args => exact Rows.mono h fun v w h => hn _ _ h
 | halt x w =>
  cases x <;> first | exact h.elim | exact hq _ _ _ h
theorem wpOpsS_of_list {P : Program} {ops : Array Oper} {Q : Exit → Act → List Frame → World → Prop} {Q0 : Exit → Act → World → Prop} {cs : List Frame} (hq : ∀ e a w, Q0 e a w → Q e a cs w) (hno : ¬ LetsOut Q0) :
  ∀ (l : List Oper) (k : Nat), (∀ j, l[j]? = ops[k + j]?) → ∀ (a : Act) (w : World), wpList P ops Q0 l a w → wpOpsS P ops Q (List.range' k l.length) a cs w
 | [], k, _, a, w, h => hq _ _ _ h
 | o :: l, k, hk, a, w, h => by
  have h0 : ops[k]? = some o := by simpa using (hk 0).symm
  have ih := wpOpsS_of_list (P := P) hq hno l (k + 1) (fun j => by have := hk (j + 1); simpa [Nat.add_assoc, Nat.add_comm 1 j] using this)
  rw [List.length_cons, List.range'_succ, wpOpsS, h0]
  dsimp only
  unfold wpList at h
  by_cases hw : Region.wanted o (yielded ops a.tmps) = true
  ·rw [if_pos hw] at h ⊢
   rcases h with h | h
   ·unfold Oper.wp at h
    have h' := upon_keep (next' := fun a' w' => wpOpsS P ops Q (List.range' (k + 1) l.length) a' cs w') (Q' := fun e a' w' => Q e a' cs w') (fun a w h => ih a w h) hq h
    generalize (execOp a.eval o).run P w = r at h h'
    split
    ·exact h.elim
    ·exact h'
   ·exact absurd h.2 hno
  ·rw [if_neg hw] at h ⊢
   exact ih _ _ h
theorem liftQ_in {E : Env} {B : Base} {D : Option (FuncId × List AV)} {n : Nat} {K : PEx → St → Prop} : ¬ LetsOut (liftQ E B D n K) := fun ⟨_, _, h⟩ => h
theorem OkD.enter {E : Env} (hE : EnvOK E) {f : FuncId} {fn : Func} {id : Nat} {ops : Array Oper} {c2 : Code} {o0 : Oper} {rest : List Oper} {d : Nat} {bs bs' : List (List PV)} {args : List PV} {pv : PV} (hf : E.P.funcs[f]? = some fn) (hb : fn.body = some (.seq (.region id ops false) c2)) (hname : (fn.name == "runtime.NumGoroutine") = false)
  (hops : ops.toList = o0 :: rest) (ho : o0.op = .call ⟨.builtin .recover, #[], #[]⟩) (hg : o0.guard = none) (hd : o0.dst = some d) (hdn : d < fn.ntmps)
  (hrest : (rest.all fun o => match o.dst with
   | some d => decide (d < fn.ntmps)
   | none => true) = true) (hchk : chkC E.pt fn.ntmps c2 = true) (hargs : args.all argOk = true) (hbs : bs.all (fun cs => cs.all PV.closedB) = true) (hlen : args.length ≤ fn.ntmps) (hbl : bs'.length = bs.length) (hpv : pv.closed = true)
  (h : wpL E (some fun _ _ => False) ops rest (fun s => wpC E c2 (retK E fn (.tup []) bs') s) ⟨upd (slots args) (some d) pv, bs, []⟩) : OkD E f bs args pv bs' := by
 refine ⟨⟨fn, hf, hname, by rw [hb]; rfl⟩, fun w ok ms gs vals rv u u' hm hst M hr hrv => ?_⟩
 have hml : bs'.length = ms.length := by rw [hbl]; have := M.len; rw [List.length_map] at this; omega
 have S0 := Sim.entry (fn := fn) hargs (closedB_boxes hbs) hlen M hr
 have S1 : Sim E ⟨w, ok, ms, gs⟩ none fn.ntmps ⟨upd (slots args) (some d) pv, bs, []⟩ (({ tmps := vals ++ Array.replicate (fn.ntmps - vals.size) undef, defers := [] } : Act).put (some d) rv) w := by
  obtain ⟨m, tk, ok1, M1, hT, hsz, hs, hdf, hm0, hok, hall, hwf⟩ := S0
  have htk : tk = [] := by
   have hT : [] = _ := hT
   simpa using hT.symm
  subst htk
  have := Sim.next (E := E) (B := ⟨w, ok, ms, gs⟩) (D := none) (s := ⟨slots args, bs, []⟩) (d := some d) (v := rv) (p := pv) M1 (Later.refl w ok1 m []) hsz hs hdf hm0 hok hall (fun t ht => by injection ht with ht; subst ht; exact hdn) (wf_upd hwf (Nat.le_refl _) hwf.H (closed_PLt hpv)) ((hrv.later (Later.of_stay (⟨fun _ _ _ _ h => h, fun _ _ _ _ _ h => h, hok⟩ : Stay w ok w ok1) [] [])).closed hpv m [])
  exact this
 refine callsD_of_wpS hf hb fun c₀ cs hu => ?_
 apply wpS_seq
 apply wpS_region
 have hsize : ops.size = rest.length + 1 := by rw [← Array.length_toList, hops]; rfl
 have h0 : ops[0]? = some o0 := by rw [← Array.getElem?_toList, hops]; rfl
 rw [List.range_eq_range', hsize, List.range'_succ, wpOpsS, h0]
 dsimp only
 have hwant : ∀ y, Region.wanted o0 y = true := by intro y; unfold Region.wanted; rw [hg]
 rw [if_pos (hwant _)]
 have hrun : (execOp (({ tmps := vals ++ Array.replicate (fn.ntmps - vals.size) undef, defers := [] } : Act).eval) o0).run E.P w = .ok .recover w := by
  simp only [execOp, ho, resolve, invoke, builtin, Sem.run_bind, Sem.run_pure, Result.andThen_ok]
 rw [hrun]
 dsimp only
 -- the rest, in whatever frames
 have fin : ∀ cs', cs' = ({ c₀ with mode := u' } : Frame) :: cs → wpOpsS E.P ops (Exit.thenS (c2.wpS E.P (bodyPostS E.P fn c₀ cs fun e u'' w' => u'' = u' ∧ ∃ v ok', e = .returned v ∧ Mem E ⟨w, ok, ms, gs⟩ bs' (ms.map some) [] ok' w' ∧ ∀ b o, ok b o → ok' b o)) (bodyPostS E.P fn c₀ cs fun e u'' w' => u'' = u' ∧ ∃ v ok', e = .returned v ∧ Mem E ⟨w, ok, ms, gs⟩ bs' (ms.map some) [] ok' w' ∧ ∀ b o, ok b o → ok' b o)) (List.range' (0 + 1) rest.length) (({ tmps := vals ++ Array.replicate (fn.ntmps - vals.size) undef, defers := [] } : Act).put o0.dst rv) cs' w := by
  rintro cs' rfl
  have post : ∀ s a w', Ret E fn (.tup []) bs' s → Sim E ⟨w, ok, ms, gs⟩ none fn.ntmps s a w' → bodyPostS E.P fn c₀ cs (fun e u'' w' => u'' = u' ∧ ∃ v ok', e = .returned v ∧ Mem E ⟨w, ok, ms, gs⟩ bs' (ms.map some) [] ok' w' ∧ ∀ b o, ok b o → ok' b o) .ret a (({ c₀ with mode := u' } : Frame) :: cs) w' := by
   intro s a w' hR S
   obtain ⟨h1, v, h2, ok', h3, h4, h5⟩ := Ret.fin hE hml hR S
   exact ⟨h1 rfl, u', rfl, v, h2, rfl, v, ok', rfl, h3, h4⟩
  refine wpOpsS_of_list (Q0 := liftQ E ⟨w, ok, ms, gs⟩ none fn.ntmps fun e s => match e with
   | .normal => wpC E c2 (retK E fn (.tup []) bs') s
   | _ => False) (fun e a w' q => ?_) liftQ_in rest (0 + 1) (fun j => by rw [← Array.getElem?_toList, hops, Nat.add_comm]; simp) _ _ ?_
  ·cases e with
   | normal =>
    obtain ⟨s, hk, S⟩ := q
    refine wpS_of_wp (wp_mono (code_sound hE c2 hchk _ s a w' hk S) fun e a w' q => ?_)
    cases e with
    | normal => obtain ⟨s, hk, S⟩ := q; exact post s a w' hk S
    | ret => obtain ⟨s, hk, S⟩ := q; exact post s a w' hk S
    | exit id => obtain ⟨s, hk, S⟩ := q; exact hk.elim
    | goto l => exact q.elim
    | panic ch => obtain ⟨-, p, v, -, -, s, h, -⟩ := q; exact h.elim
    | outgrown => exact q.elim
   | exit id => obtain ⟨s, hk, S⟩ := q; exact hk.elim
   | ret => obtain ⟨s, hk, S⟩ := q; exact hk.elim
   | goto l => exact q.elim
   | panic ch => obtain ⟨-, p, v, -, -, s, h, -⟩ := q; exact h.elim
   | outgrown => exact q.elim
  ·rw [hd]
   exact list_sound hE (kp := some fun _ _ => False) (fun Kp e ch a w h => by
    injection e with e; subst e
    obtain ⟨-, p, v, -, -, s, h, -⟩ := h
    exact h.elim) (fun s a w hk S => ⟨s, hk, S⟩) rest _ _ _ (fun o ho d' hd' => by
     have := List.all_eq_true.1 hrest o ho
     rw [hd'] at this
     simpa using this) h S1
 cases hm with
 | ret =>
  have hrec : recoverD (c₀ :: cs) = none := by simp [recoverD, hu]
  rw [hrec]
  exact fin _ (by cases c₀; simp at hu; subst hu; rfl)
 | pan v =>
  have hrec : recoverD (c₀ :: cs) = some (rv, { c₀ with mode := .panicking [{ v := rv, recovered := true }] } :: cs) := by simp [recoverD, hu]
  rw [hrec]
  exact fin _ rfl
section
variable {E : Env} {B : Base} {n : Nat} {s : St} {a : Act} {w : World}
theorem region_defer {id : Nat} {ops : Array Oper} {o1 o2 : Oper} {t : Nat} {g : FuncId} {cs : Array Operand} {avl : List AV} {Q : Exit → Act → World → Prop} (hops : ops.toList = [o1, o2]) (ho1 : o1.op = .makeFunc (.func g) #[] cs) (hg1 : o1.guard = none) (hd1 : o1.dst = some t) (ht : t < n)
  (ho2 : o2.op = .defer ⟨.value (.tmp t), #[], #[]⟩) (hg2 : o2.guard = none) (hd2 : o2.dst = none) (has : avsF (cs.toList.map (ev s.sl)) = some avl) (S : Sim E B none n s a w)
  (hn : ∀ a', Sim E B (some (g, avl)) n ⟨upd s.sl (some t) (.clos g [] avl), s.H, s.T⟩ a' w → Q .normal a' w) : (Code.region id ops false).wp E.P Q a w := by
 obtain ⟨m, tk, ok, M, hT, hsz, hs, hdf, hm0, hok, hall, hwf⟩ := S
 have hcap : RepL (RepA w ok m) (cs.map a.eval).toList avl := by simpa using avs_rep (ev_reps hs cs.toList) has
 have hrep : Rep w ok m tk (.func (.func g) #[] (cs.map a.eval)) (.clos g [] avl) := .clos g #[] _ [] avl .nil hcap
 have hlow : PLt s.H.length (.clos g [] avl) := by
  show ([] ++ avl).all (ALt s.H.length) = true
  exact av_PLt (n := s.H.length) (fun p hp => by obtain ⟨x, -, rfl⟩ := List.mem_map.1 hp; exact ev_PLt hwf x) has
 have S1 := Sim.next (E := E) (B := B) (D := none) (s := s) (d := some t) M (Later.refl w ok m tk) hsz hs hdf hm0 hok hall (fun u hu => by injection hu with hu; subst hu; exact ht) (wf_upd hwf (Nat.le_refl _) hwf.H hlow) hrep
 rw [← hT] at S1
 have hw1 : ∀ y, Region.wanted o1 y = true := by intro y; unfold Region.wanted; rw [hg1]
 have hw2 : ∀ y, Region.wanted o2 y = true := by intro y; unfold Region.wanted; rw [hg2]
 refine wp_region_list ?_
 rw [hops, wpList, if_pos (hw1 _)]
 left
 have hr1 : (execOp a.eval o1).run E.P w = .ok (.value (.func (.func g) #[] (cs.map a.eval))) w := by simp [execOp, ho1, Instr.makeFunc]
 unfold Oper.wp
 rw [hr1, Oper.upon_value, wpList, if_pos (hw2 _), hd1]
 left
 have hget : (a.put (some t) (.func (.func g) #[] (cs.map a.eval))).eval (.tmp t) = .func (.func g) #[] (cs.map a.eval) := by
  simp [Act.eval, Act.put, hsz, ht]
 have hr2 : (execOp (a.put (some t) (.func (.func g) #[] (cs.map a.eval))).eval o2).run E.P w = .ok (.defer { target := .fn (.func g) (cs.map a.eval), args := #[] }) w := by
  simp only [execOp, ho2, resolve, hget, Deferred.ofValue, Sem.run_bind, Sem.run_pure, Result.andThen_ok]
  simp
 unfold Oper.wp
 rw [hr2, Oper.upon_defer, wpList, hd2]
 refine hn _ ?_
 obtain ⟨m', tk', ok', M', hT', hsz', hs', hdf', hm0', hok', hall', hwf'⟩ := S1
 have hda : (a.put (some t) (.func (.func g) #[] (cs.map a.eval))).defers = [] := hdf'
 refine ⟨m, tk, ok, M, hT, hsz', ?_, ⟨_, by show _ :: (a.put (some t) (.func (.func g) #[] (cs.map a.eval))).defers = _; rw [hda], hcap⟩, hm0, hok, hall, hwf'⟩
 exact (put_rep hsz hs (fun u hu => by injection hu with hu; subst hu; exact ht) hrep).2
def DRet (E : Env) (fn : Func) (g : FuncId) (avl : List AV) (r : PV) (bs' : List (List PV)) (pv : PV) (s : St) : Prop :=
 ∃ (ids : List Nat) (bs : List (List PV)) (args : List PV) (ds : List (List PV)), Hand s.H (avl.map AV.pv) ids bs args ∧ OkD E g bs args pv ds ∧ ds.length = ids.length ∧ ds.all (fun d => d.all PV.closedB) = true ∧ Ret E fn r bs' ⟨s.sl, setL s.H ids ds, s.T⟩
def EndD (E : Env) (B : Base) (n : Nat) (fn : Func) (g : FuncId) (avl : List AV) (r : PV) (bs' : List (List PV)) : Exit → Act → World → Prop
 | .normal, a, w | .ret, a, w => (∃ s, Ret E fn r bs' s ∧ Sim E B none n s a w) ∨ ∃ s, DRet E fn g avl r bs' .nif s ∧ Sim E B (some (g, avl)) n s a w
 | .panic ch, a, w => ∃ p v s, ch = [{ v, recovered := false }] ∧ p.closed = true ∧ DRet E fn g avl r bs' p s ∧ SimV E B (some (g, avl)) n s a w v p
 | _, _, _ => False
theorem leaves_of (hE : EnvOK E) {w0 : World} {ok0 : Nat → Nat → Prop} {ms0 gs0 : List Nat} {fn : Func} {g : FuncId} {avl : List AV} {r : PV} {bs' : List (List PV)} {pv : PV} {rv : Value} {u u' : FrameMode} (hm : DMode rv u u') (hbl : bs'.length = ms0.length) (hD : DRet E fn g avl r bs' pv s) (S : SimV E ⟨w0, ok0, ms0, gs0⟩ (some (g, avl)) n s a w rv pv) :
  Leaves E.P fn a.tmps (fun e w' => ∃ v ok', e = .returned v ∧ Mem E ⟨w0, ok0, ms0, gs0⟩ bs' (ms0.map some) [] ok' w' ∧ (∀ b o, ok0 b o → ok' b o) ∧ Rep w' ok' (ms0.map some) [] v r) a.defers u w := by
 obtain ⟨ids, bs, args, ds, hH, hO, hdl, hdc, hR⟩ := hD
 obtain ⟨m, tk, ok, M, hT, hsz, hs, hdf, hm0, hok, hall, hwf, hrv⟩ := S
 obtain ⟨caps, hcl, hcr⟩ := hdf
 obtain ⟨cs, qs, h1, h2, h3, h4, h5, h6, -⟩ := hH.h
 obtain ⟨g1, g2⟩ := getL_at h2
 obtain ⟨g3, g4⟩ := h3.at
 have hidsH : ∀ i ∈ ids, i < s.H.length := by
  intro i hi
  obtain ⟨k, hk⟩ := List.mem_iff_getElem?.1 hi
  obtain ⟨c, q1, _⟩ := g2 k i hk
  exact (List.getElem?_eq_some_iff.1 q1).1
 obtain ⟨ms, hml, hms⟩ := blocks_of hall ids hidsH
 obtain ⟨gs, M0, hgs, hgs2⟩ := M.entryS (bs := bs) hml (by omega) h1 hms (fun k i c hk hc => by
  obtain ⟨c', q1, q2⟩ := g2 k i hk
  rw [hc] at q1; injection q1 with q1; subst q1
  obtain ⟨d, q3, q4⟩ := g4 k c q2
  exact ⟨d, q3, fun vs w ok m tk h => q4.1.rep h, List.all_eq_true.1 h4 d (List.mem_of_getElem? q3), q4.2⟩)
 have hst : stkB bs = false → gs = [] := fun hb => List.eq_nil_iff_forall_not_mem.2 fun g hg => by
  obtain ⟨k, j, v, e, xs, b, cs', arr, ty, e1, e2, e3, e4, e5⟩ := hgs2 g hg
  unfold stkB at hb
  rw [List.any_eq_false] at hb
  exact hb cs' (List.mem_of_getElem? e2) (List.any_eq_true.2 ⟨_, List.mem_of_getElem? e5, rfl⟩)
 have hr0 : RepL (Rep w ok (ms.map some) []) caps.toList args := by
  have hr := h5.rep (reps_pv (tk := tk) hcr)
  refine args_rep (m' := ms.map some) (tk' := []) (fun k i b hk hb => ?_) hr h6
  have hkl : k < ms.length := by rw [hml]; exact (List.getElem?_eq_some_iff.1 hk).1
  have := hms k i _ hk (List.getElem?_eq_getElem hkl)
  rw [hb] at this
  injection this with this; injection this with this
  rw [List.getElem?_map, List.getElem?_eq_getElem hkl, this]; rfl
 rw [hcl]
 have hu : u ≠ .run := by cases hm <;> simp
 obtain ⟨⟨fg, hfg1, hfg2, hfg3⟩, hOd⟩ := hO
 have hi : (invoke (.fn (.func g) caps) #[]).run E.P w = .ok (.enter g caps) w := by
  have e2 : ¬ fg.name = "runtime.NumGoroutine" := by simpa using hfg2
  have e3 : ¬ fg.body = none := by intro e; rw [e] at hfg3; simp at hfg3
  simp [invoke, callFunc, program, Sem.run, hfg1, e2, e3]
 refine leaves_cons hu hi ((hOd w ok ms gs caps rv u u' hm hst M0 hr0 hrv).mono ?_)
 rintro e u'' w' ⟨rfl, v, ok', rfl, M', hk⟩
 obtain ⟨M2, L⟩ := M.backS hml hdl h1 hms hidsH hdc M' hgs hk
 have hset : settle u'' = .returning := by cases hm <;> rfl
 show Leaves E.P fn a.tmps _ [] (settle u'') w'
 rw [hset]
 have hHp : ∀ (ids : List Nat) (bs H : List (List PV)), bs.all (fun d => d.all PV.closedB) = true → (∀ cs ∈ H, ∀ p ∈ cs, PLt s.H.length p) → ∀ cs ∈ setL H ids bs, ∀ p ∈ cs, PLt s.H.length p := by
  intro ids bs H hb hH cs hcs p hp
  rcases setL_mem ids bs H cs hcs with h | h
  ·exact hH cs h p hp
  ·exact closedB_PLt (List.all_eq_true.1 (List.all_eq_true.1 hb cs h) p hp)
 have S2 : Sim E ⟨w0, ok0, ms0, gs0⟩ none n ⟨s.sl, setL s.H ids ds, s.T⟩ { a with defers := [] } w' :=
  ⟨m, tk, ok', M2, hT, hsz, fun t => (hs t).later L, rfl, hm0, fun b o h => hk b o (hok b o h), fun j hj => hall j (by rwa [setL_length] at hj), ⟨fun t => by rw [setL_length]; exact hwf.sl t, fun cs hcs p hp => by rw [setL_length]; exact hHp ids ds s.H hdc hwf.H cs hcs p hp⟩⟩
 obtain ⟨-, v', hv', ok2, h7, h8, h9⟩ := Ret.fin hE hbl hR S2
 exact ⟨v', hv', v', ok2, rfl, h7, h8, h9⟩
theorem Ok.deferred (hE : EnvOK E) {f : FuncId} {fn : Func} {c : Code} {g : FuncId} {avl : List AV} {bs bs' : List (List PV)} {args : List PV} {r : PV} (hf : E.P.funcs[f]? = some fn) (hb : fn.body = some c) (hname : (fn.name == "runtime.NumGoroutine") = false)
  (hargs : args.all argOk = true) (hbs : bs.all (fun cs => cs.all PV.closedB) = true) (hlen : args.length ≤ fn.ntmps) (hbl : bs'.length = bs.length)
  (h : ∀ (B : Base) (a : Act) (w : World), B.m0.length = bs.length → Sim E B none fn.ntmps ⟨slots args, bs, []⟩ a w → c.wp E.P (EndD E B fn.ntmps fn g avl r bs') a w) : Ok E f bs args r bs' := by
 refine ⟨⟨fn, hf, hname, by rw [hb]; rfl⟩, fun w ok ms gs vals hst M hr => ?_⟩
 have hml : ms.length = bs.length := by have := M.len; rw [List.length_map] at this; exact this
 have S := Sim.entry (fn := fn) hargs (closedB_boxes hbs) hlen M hr
 refine calls_of_wp_defers hf hb (wp_mono (h ⟨w, ok, ms, gs⟩ _ _ hml S) fun e a w' q => ?_)
 have fin : ((∃ s, Ret E fn r bs' s ∧ Sim E ⟨w, ok, ms, gs⟩ none fn.ntmps s a w') ∨ ∃ s, DRet E fn g avl r bs' .nif s ∧ Sim E ⟨w, ok, ms, gs⟩ (some (g, avl)) fn.ntmps s a w') → Leaves E.P fn a.tmps (fun e w' => ∃ v ok', e = .returned v ∧ Mem E ⟨w, ok, ms, gs⟩ bs' (ms.map some) [] ok' w' ∧ (∀ b o, ok b o → ok' b o) ∧ Rep w' ok' (ms.map some) [] v r) a.defers .returning w' := by
  rintro (⟨s, hR, S⟩ | ⟨s, hD, S⟩)
  ·obtain ⟨h1, v, h2, ok', h3, h4, h5⟩ := Ret.fin hE (by omega) hR S
   rw [h1 rfl]
   exact ⟨v, h2, v, ok', rfl, h3, h4, h5⟩
  ·obtain ⟨m, tk, ok', M', hT, hsz, hs, hdf, hm0, hok, hall, hwf⟩ := S
   exact leaves_of hE .ret (by omega) hD ⟨m, tk, ok', M', hT, hsz, hs, hdf, hm0, hok, hall, hwf, .nif⟩
 cases e with
 | normal => exact fin q
 | ret => exact fin q
 | panic ch =>
  obtain ⟨p, v, s, rfl, hp, hD, S⟩ := q
  exact leaves_of hE (.pan v) (by omega) hD S
 | exit id => exact q.elim
 | goto l => exact q.elim
 | outgrown => exact q.elim
def preK (E : Env) (fn : Func) (r : PV) (bs' : List (List PV)) (N : St → Prop) : PEx → St → Prop
 | .normal, s => N s
 | .ret, s => Ret E fn r bs' s
 | _, _ => False
def defK (E : Env) (fn : Func) (g : FuncId) (avl : List AV) (r : PV) (bs' : List (List PV)) : PEx → St → Prop
 | .normal, s | .ret, s => DRet E fn g avl r bs' .nif s
 | .pan p, s => p.closed = true ∧ bs'.length ≤ s.H.length ∧ avl.all (lowA s.H.length) = true ∧ DRet E fn g avl r bs' p s
 | .exit _, _ => False
def DefStart (E : Env) (fn : Func) (g : FuncId) (avl : List AV) (r : PV) (bs' : List (List PV)) (c : Code) (s : St) : Prop :=
 ∃ (id : Nat) (ops : Array Oper) (rest : Code) (o1 o2 : Oper) (t : Nat) (cs : Array Operand), c = .seq (.region id ops false) rest ∧ ops.toList = [o1, o2] ∧ (o1.op = .makeFunc (.func g) #[] cs ∧ o1.guard = none ∧ o1.dst = some t ∧ o2.op = .defer ⟨.value (.tmp t), #[], #[]⟩ ∧ o2.guard = none ∧ o2.dst = none) ∧
  Nat.blt t fn.ntmps = true ∧ chkC E.pt fn.ntmps rest = true ∧ avsF (cs.toList.map (ev s.sl)) = some avl ∧ wpC E rest (defK E fn g avl r bs') ⟨upd s.sl (some t) (.clos g [] avl), s.H, s.T⟩
def wpPre (E : Env) (fn : Func) (g : FuncId) (avl : List AV) (r : PV) (bs' : List (List PV)) : Nat → Code → St → Prop
 | 0, c, s => DefStart E fn g avl r bs' c s
 | k + 1, c, s => match c with
  | .seq x y => chkC E.pt fn.ntmps x = true ∧ wpC E x (preK E fn r bs' (wpPre E fn g avl r bs' k y)) s
  | _ => False
theorem pre_sound (hE : EnvOK E) {fn : Func} {g : FuncId} {avl : List AV} {r : PV} {bs' : List (List PV)} (has : avl.any (fun x => match x with
  | .p _ _ => true
  | _ => false) = true) (hB : B.m0.length = bs'.length) : ∀ (k : Nat) (c : Code) (s : St) (a : Act) (w : World), wpPre E fn g avl r bs' k c s → Sim E B none fn.ntmps s a w → c.wp E.P (EndD E B fn.ntmps fn g avl r bs') a w
 | 0, c, s, a, w, h, S => by
  obtain ⟨id, ops, rest, o1, o2, t, cs, rfl, h1, ⟨h2, h3, h4, h5, h6, h7⟩, h8, h9, h10, h11⟩ := h
  refine wp_seq (region_defer (Q := Exit.then (rest.wp E.P (EndD E B fn.ntmps fn g avl r bs')) (EndD E B fn.ntmps fn g avl r bs')) h1 h2 h3 h4 (Nat.blt_eq.mp h8) h5 h6 h7 h10 S fun a' S' => ?_)
  refine wp_mono (code_sound hE rest h9 _ _ _ _ h11 S') fun e a w q => ?_
  cases e with
  | normal => exact .inr q
  | ret => exact .inr q
  | exit id => obtain ⟨s, hk, -⟩ := q; exact hk.elim
  | goto l => exact q.elim
  | outgrown => exact q.elim
  | panic ch =>
   obtain ⟨-, p, v, rfl, -, s, ⟨hp, hl, hlow, hD⟩, hs⟩ := q
   rcases hs with rfl | hs
   ·exfalso
    obtain ⟨x, hx, hx2⟩ := List.any_eq_true.1 has
    have := List.all_eq_true.1 hlow x hx
    cases x <;> simp at hx2
    simp [lowA, dead] at this
   ·exact ⟨p, v, s, rfl, hp, hD, hs (by omega) hlow⟩
 | k + 1, c, s, a, w, h, S => by
  cases c <;> try exact h.elim
  rename_i x y
  obtain ⟨hx, h⟩ := h
  refine wp_seq (wp_mono (code_sound hE x hx _ s a w h S) fun e a w q => ?_)
  cases e with
  | normal => obtain ⟨s, hk, S⟩ := q; exact pre_sound hE has hB k y s a w hk S
  | ret => obtain ⟨s, hk, S⟩ := q; exact .inl ⟨s, hk, S⟩
  | exit id => obtain ⟨s, hk, -⟩ := q; exact hk.elim
  | goto l => exact q.elim
  | outgrown => exact q.elim
  | panic ch => obtain ⟨-, p, v, rfl, -, s, h, -⟩ := q; exact h.elim
theorem Ok.enterD (hE : EnvOK E) {f : FuncId} {fn : Func} {c : Code} {g : FuncId} (avl : List AV) (k : Nat) {bs bs' : List (List PV)} {args : List PV} {r : PV} (hf : E.P.funcs[f]? = some fn) (hb : fn.body = some c) (hname : (fn.name == "runtime.NumGoroutine") = false)
  (hargs : args.all argOk = true) (hbs : bs.all (fun cs => cs.all PV.closedB) = true) (hlen : args.length ≤ fn.ntmps) (hbl : bs'.length = bs.length) (has : avl.any (fun x => match x with
  | .p _ _ => true
  | _ => false) = true) (h : wpPre E fn g avl r bs' k c ⟨slots args, bs, []⟩) : Ok E f bs args r bs' :=
 Ok.deferred hE hf hb hname hargs hbs hlen hbl fun B a w hB S => pre_sound hE has (by omega) k c _ a w h S
end
end Go.Proofs.YtgpkppohfodhdaaGreatDoor.Pm
namespace Go.Proofs.YtgpkppohfodhdaaGreatDoor.Pm
open Go Go.RowKit
set_option linter.unusedVariables false
set_option linter.unusedSimpArgs false
section
variable {E : Env} {B : Base} {H : List (List PV)} {m : List (Option Nat)} {tk : List TokR} {ok : Nat → Nat → Prop} {w : World}
theorem FrB.set {cs : List PV} {ty : TypeId} {j : Nat} {p : PV} (h : FrB cs ty) (hp : ∀ t, p ≠ .fresh t) : FrB (cs.set j p) ty := fun t ht => by
 by_cases hj : j = 0
 ·subst hj
  cases cs with
  | nil => simp at ht
  | cons c cs => simp at ht; exact absurd ht (hp t)
 ·rw [List.getElem?_set_ne hj] at ht
  exact h t ht
theorem set_rep {R : Value → PV → Prop} {vs : List Value} {cs : List PV} {j : Nat} {v' : Value} {p' : PV} (h : RepL R vs cs) (hp : R v' p') : RepL R (vs.set j v') (cs.set j p') := by
 refine ⟨by simp [h.1], fun i v p hv hq => ?_⟩
 by_cases hi : j = i
 ·subst hi
  have h1 := List.mem_of_getElem? hv
  have hl : j < vs.length := by have := (List.getElem?_eq_some_iff.1 hv).1; simpa using this
  have hl' : j < cs.length := by rw [← h.1]; exact hl
  rw [List.getElem?_set_self hl] at hv
  rw [List.getElem?_set_self hl'] at hq
  injection hv with hv; injection hq with hq
  subst hv; subst hq
  exact hp
 ·rw [List.getElem?_set_ne hi] at hv hq
  exact h.2 i v p hv hq
theorem Mem.restk (hE : EnvOK E) (M : Mem E B H m tk ok w) {i j b e : Nat} {cs : List PV} {arr : Array Value} {ty : TypeId} {v v' : Value} {xs xs' : List (List CV)} {w' : World} {sz : Nat} {us : List Value}
  (hm : m[i]? = some (some b)) (hcs : H[i]? = some cs) (hw : w.heap[b]? = some (.cells arr ty (0, 0))) (hv : arr.toList[j]? = some v) (hj : cs[j]? = some (.stk e xs))
  (hos : w'.os = w.os) (htp : w'.tape = w.tape) (hout : w'.output = w.output) (hsz : w.heap.size ≤ w'.heap.size)
  (hk : ∀ k, k < w.heap.size → k ≠ b → v.ownBlock ≠ some k → w'.heap[k]? = w.heap[k]?) (hb : w'.heap[b]? = some (.cells (arr.toList.set j v').toArray ty (0, 0)))
  (ho : w'.ownsRow E.P.globals.size e sz v' xs'.length us) (hrw : ∀ (hst : Stay w ok w' ok), RepL (RepC w' ok) us xs'.flatten) (hx : ∀ x ∈ xs', x.length = sz) (hti : ∀ ei, E.T e = some ei → sz = ei.size)
  (hbl : ∀ g, v'.ownBlock = some g → v.ownBlock = some g ∨ w.heap.size ≤ g) (hrv : ∀ (w : World) (m : List (Option Nat)) (tk : List TokR), Rep w ok m tk v' (.stk e xs')) :
  Mem E B (H.set i (cs.set j (.stk e xs'))) m tk ok w' ∧ Later w ok m tk w' ok m tk := by
 have hat : StkAt H m w i j v e xs := ⟨b, cs, arr, ty, hm, hcs, hw, hv, hj⟩
 obtain ⟨sz0, us0, ho0, -, -, -, hg0⟩ := M.stk.own i j v e xs hat
 obtain ⟨cs', arr', ty', g1, g2, g3, g4, g5, g6⟩ := M.box i b hm
 rw [hcs] at g1; injection g1 with g1; subst g1
 rw [hw] at g2; injection g2 with g2; injection g2 with g2 g2'; subst g2; subst g2'
 have hal : ∀ g, v.ownBlock = some g → Alone m tk ok g ∧ (g ∈ B.g0 ∨ B.w0.heap.size ≤ g) := hg0
 have S : Stay w ok w' ok := stay_of ok (fun k h ⟨o, hq⟩ => hk k h (by rintro rfl; exact g4 o hq) (fun hg => (hal k hg).1.1 o hq)) M.oks (fun b o h => h)
 have L := Later.of_stay S m tk
 have hbs := blk_lt' hw
 have hil : i < H.length := (List.getElem?_eq_some_iff.1 hcs).1
 have hjl : j < cs.length := (List.getElem?_eq_some_iff.1 hj).1
 have hjv : j < arr.toList.length := (List.getElem?_eq_some_iff.1 hv).1
 refine ⟨⟨M.inv_of hE hsz (fun k h => ?_), hos.trans M.os, htp.trans M.tape, hout.trans M.output, Nat.le_trans M.size hsz, fun k h1 h2 h3 => ?_, M.okb, fun b' o h => Nat.lt_of_lt_of_le (M.oks b' o h) hsz, by simpa using M.len, fun k b' h => ?_, M.inj, fun t r h => ?_, M.tinj, M.gb, M.tsz, ?_⟩, L⟩
 ·have hg := hE.glob w M.inv
  refine hk k (by omega) (by omega) (fun hv => ?_)
  have := (ho0.lt k hv).1
  omega
 ·rw [hk k (by have := M.size; omega) ?_ ?_]
  ·exact M.frame k h1 h2 h3
  ·rintro rfl
   rcases g6 with g6 | g6
   ·exact h2 g6
   ·omega
  ·intro hv
   rcases (hal k hv).2 with q | q
   ·exact h3 q
   ·omega
 ·by_cases hki : k = i
  ·subst hki
   rw [hm] at h; injection h with h; injection h with h; subst h
   refine ⟨cs.set j (.stk e xs'), _, ty, by rw [List.getElem?_set_self hil], hb, ?_, g4, g5, g6.1, g6.2.set fun t => by simp⟩
   simpa using set_rep (g3.mono fun _ _ h => h.later L) (hrv w' m tk)
  ·obtain ⟨ds, arr', ty', q1, q2, q3, q4⟩ := M.box k b' h
   have hne : b' ≠ b := by rintro rfl; exact hki (M.inj k i _ h hm)
   refine ⟨ds, arr', ty', by rw [List.getElem?_set_ne (Ne.symm hki)]; exact q1, ?_, q3.mono fun _ _ h => h.later L, q4⟩
   rw [hk b' (blk_lt' q2) hne (fun hv => (hal b' hv).1.2.1 k h)]
   exact q2
 ·obtain ⟨⟨ys, hoy⟩, h2⟩ := M.tok t r h
  exact ⟨⟨ys, own_move hoy fun g hg => hk g (hoy.lt g hg).2 (by rintro rfl; exact (h2 _ hg).2 i hm) (fun hv => (hal g hv).1.2.2 t r h hg)⟩, h2⟩
 ·have split : ∀ k l u f ys, StkAt (H.set i (cs.set j (.stk e xs'))) m w' k l u f ys → (k = i ∧ l = j ∧ u = v' ∧ f = e ∧ ys = xs') ∨ (¬ (k = i ∧ l = j) ∧ StkAt H m w k l u f ys) := by
   rintro k l u f ys ⟨b', ds, arr', ty', q1, q2, q3, q4, q5⟩
   by_cases hki : k = i
   ·subst hki
    rw [hm] at q1; injection q1 with q1; injection q1 with q1; subst q1
    rw [List.getElem?_set_self hil] at q2
    injection q2 with q2; subst q2
    rw [hb] at q3
    injection q3 with q3; injection q3 with q3 _; subst q3
    rw [List.toList_toArray] at q4
    by_cases hl : l = j
    ·subst hl
     rw [List.getElem?_set_self hjv] at q4
     rw [List.getElem?_set_self hjl] at q5
     injection q4 with q4; injection q5 with q5; injection q5 with q5 q5'
     exact .inl ⟨rfl, rfl, q4.symm, q5.symm, q5'.symm⟩
    ·rw [List.getElem?_set_ne (Ne.symm hl)] at q4 q5
     exact .inr ⟨fun h => hl h.2, b, cs, arr, ty, hm, hcs, hw, q4, q5⟩
   ·rw [List.getElem?_set_ne (Ne.symm hki)] at q2
    have hne : b' ≠ b := by rintro rfl; exact hki (M.inj k i _ q1 hm)
    obtain ⟨_, _, _, -, p2, -⟩ := M.box k b' q1
    rw [hk b' (blk_lt' p2) hne (fun hv => (hal b' hv).1.2.1 k q1)] at q3
    exact .inr ⟨fun h => hki h.1, b', ds, arr', ty', q1, q2, q3, q4, q5⟩
  refine ⟨fun k l u f ys h => ?_, fun k l u f ys k' l' u' f' ys' g h h' hg hg' => ?_⟩
  ·rcases split k l u f ys h with ⟨rfl, rfl, rfl, rfl, rfl⟩ | ⟨hn, h⟩
   ·refine ⟨sz, us, ho, hrw S, hx, hti, fun g hg => ?_⟩
    rcases hbl g hg with q | q
    ·exact hal g q
    ·refine ⟨⟨fun o hq => ?_, fun k hq => ?_, fun t r hr hq => ?_⟩, .inr (Nat.le_trans M.size q)⟩
     ·have := M.oks g o hq; omega
     ·obtain ⟨_, _, _, -, p2, -⟩ := M.box k g hq
      have := blk_lt' p2; omega
     ·have := (M.tok t r hr).lt hq; omega
   ·obtain ⟨sz1, us1, ho1, hr1, hx1, ht1, hg1⟩ := M.stk.own k l u f ys h
    refine ⟨sz1, us1, own_move ho1 fun g hg => hk g (ho1.lt g hg).2 (by rintro rfl; exact (hg1 _ hg).1.2.1 i hm) (fun hq => hn (M.stk.inj k l u f ys i j v e xs g h hat hg hq)), hr1.mono fun _ _ h => h.stay S, hx1, ht1, hg1⟩
  ·rcases split k l u f ys h with ⟨a1, a2, a3, -, -⟩ | ⟨hn, p⟩ <;> rcases split k' l' u' f' ys' h' with ⟨c1, c2, c3, -, -⟩ | ⟨hn', p'⟩
   ·exact ⟨a1.trans c1.symm, a2.trans c2.symm⟩
   ·exfalso
    rw [a3] at hg
    obtain ⟨_, _, ho1, _⟩ := M.stk.own k' l' u' f' ys' p'
    rcases hbl g hg with q | q
    ·exact hn' (M.stk.inj k' l' u' f' ys' i j v e xs g p' hat hg' q)
    ·have := (ho1.lt g hg').2; omega
   ·exfalso
    rw [c3] at hg'
    obtain ⟨_, _, ho1, _⟩ := M.stk.own k l u f ys p
    rcases hbl g hg' with q | q
    ·exact hn (M.stk.inj k l u f ys i j v e xs g p hat hg q)
    ·have := (ho1.lt g hg).2; omega
   ·exact M.stk.inj k l u f ys k' l' u' f' ys' g p p' hg hg'
end
end Go.Proofs.YtgpkppohfodhdaaGreatDoor.Pm
namespace Go.Proofs.YtgpkppohfodhdaaGreatDoor.Pm
open Go Go.RowKit
set_option linter.unusedVariables false
set_option linter.unusedSimpArgs false
section
variable {E : Env} {B : Base} {H : List (List PV)} {m : List (Option Nat)} {tk : List TokR} {ok : Nat → Nat → Prop} {w : World}
theorem row_owned {ok' : Nat → Nat → Prop} {base e sz : Nat} {v : Value} {xs : List (List CV)} {us : List Value} (ho : w.ownsRow base e sz v xs.length us) (hr : RepL (RepC w ok') us xs.flatten) (hx : ∀ x ∈ xs, x.length = sz) (hp : 0 < sz)
  (hk : ∀ g o, v.ownBlock = some g → o < xs.length * sz → ok' g o) : RepC w ok' v (.row xs) := by
 rcases ho.2 with ⟨rfl, h0⟩ | ⟨g, cap, cur, rfl, h2, h3, h4, h5, h6, h7⟩
 ·have : xs = [] := List.eq_nil_of_length_eq_zero h0
  subst this
  exact RepC.nil.nil_row
 ·refine .row _ _ _ xs sz (fun i => us.getD i undef) rfl h4 (fun h => by cases h) hp hx (fun i hi => ?_) (fun i x j c hi hj => ?_)
  ·have hl : i < us.length := by rw [ho.1]; exact hi
   have e0 : (⟨g, 0, none⟩ : Addr).add i = ⟨g, i, none⟩ := by unfold Addr.add; split <;> simp_all
   refine ⟨_, rfl, by simpa using hk g i rfl hi, ?_⟩
   rw [e0]
   simp only [World.cell?, h3]
   have : cur.toList[i]? = us[i]? := by rw [← h7, List.getElem?_take_of_lt hi]
   rw [← Array.getElem?_toList, this]
   simp [List.getD, List.getElem?_eq_getElem hl]
  ·have hf := flat_get xs i j x c hx hi hj
   obtain ⟨u, h8, h9⟩ := hr.get hf
   rw [show us.getD (i * sz + j) undef = u by simp [List.getD, h8]]
   exact h9
theorem Mem.freeze (hE : EnvOK E) (M : Mem E B H m tk ok w) {i j b e : Nat} {cs : List PV} {arr : Array Value} {ty : TypeId} {v : Value} {xs : List (List CV)} {ei : TI} (hm : m[i]? = some (some b)) (hcs : H[i]? = some cs) (hw : w.heap[b]? = some (.cells arr ty (0, 0))) (hv : arr.toList[j]? = some v) (hj : cs[j]? = some (.stk e xs))
  (hei : E.T e = some ei) (hp : 0 < ei.size) (hB : B.g0 = []) : ∃ ok', Mem E B (H.set i (cs.set j (.c (.row xs)))) m tk ok' w ∧ Later w ok m tk w ok' m tk ∧ RepC w ok' v (.row xs) := by
 have hat : StkAt H m w i j v e xs := ⟨b, cs, arr, ty, hm, hcs, hw, hv, hj⟩
 obtain ⟨sz, us, ho, hr, hx, hti, hg⟩ := M.stk.own i j v e xs hat
 have hsz : sz = ei.size := hti _ hei
 obtain ⟨ok', hok'⟩ : ∃ ok' : Nat → Nat → Prop, ok' = fun b o => ok b o ∨ (v.ownBlock = some b ∧ o < xs.length * sz) := ⟨_, rfl⟩
 have S : Stay w ok w ok' := ⟨fun _ _ _ _ h => h, fun _ _ _ _ _ h => h, fun b o h => by rw [hok']; exact .inl h⟩
 have L := Later.of_stay S m tk
 have hrow : RepC w ok' v (.row xs) := row_owned ho (hr.mono fun _ _ h => h.stay S) hx (by omega) (fun g o h1 h2 => by rw [hok']; exact .inr ⟨h1, h2⟩)
 have hno : ∀ c o, v.ownBlock ≠ some c → ¬ ok c o → ¬ ok' c o := fun c o h1 h2 h => by
  rw [hok'] at h
  rcases h with h | h
  ·exact h2 h
  ·exact h1 h.1
 have hil : i < H.length := (List.getElem?_eq_some_iff.1 hcs).1
 refine ⟨ok', ⟨M.inv, M.os, M.tape, M.output, M.size, M.frame, fun c o h => ?_, fun c o h => ?_, by simpa using M.len, fun k c h => ?_, M.inj, fun t r h => ?_, M.tinj, M.gb, M.tsz, ?_⟩, L, hrow⟩
 ·rw [hok'] at h
  rcases h with h | h
  ·exact M.okb c o h
  ·rcases (hg c h.1).2 with q | q
   ·rw [hB] at q; simp at q
   ·exact .inr q
 ·rw [hok'] at h
  rcases h with h | h
  ·exact M.oks c o h
  ·exact (ho.lt c h.1).2
 ·obtain ⟨ds, ar, t, q1, q2, q3, q4, q5⟩ := M.box k c h
  have hnc : v.ownBlock ≠ some c := fun hc => (hg c hc).1.2.1 k h
  by_cases hk : k = i
  ·subst hk
   rw [hm] at h; injection h with h; injection h with h; subst h
   rw [hcs] at q1; injection q1 with q1; subst q1
   rw [hw] at q2; injection q2 with q2; injection q2 with q2 q2'; subst q2; subst q2'
   refine ⟨_, arr, ty, by rw [List.getElem?_set_self hil], hw, ?_, fun o => hno b o hnc (q4 o), q5.1, q5.2.1, q5.2.2.set fun t => by simp⟩
   have := set_rep (j := j) (v' := v) (p' := .c (.row xs)) (q3.mono fun _ _ h => h.later L) (.c _ _ hrow)
   have hs : arr.toList.set j v = arr.toList := by
    obtain ⟨h1, h2⟩ := List.getElem?_eq_some_iff.1 hv
    rw [← h2]; exact List.set_getElem_self h1
   rwa [hs] at this
  ·exact ⟨ds, ar, t, by rw [List.getElem?_set_ne (Ne.symm hk)]; exact q1, q2, q3.mono fun _ _ h => h.later L, fun o => hno c o hnc (q4 o), q5⟩
 ·obtain ⟨h1, h2⟩ := M.tok t r h
  exact ⟨h1, fun g hgb => ⟨fun o ho' => hno g o (fun hc => (hg g hc).1.2.2 t r h hgb) ((h2 g hgb).1 o ho'), (h2 g hgb).2⟩⟩
 ·have back : ∀ k l u f ys, StkAt (H.set i (cs.set j (.c (.row xs)))) m w k l u f ys → StkAt H m w k l u f ys ∧ ¬ (k = i ∧ l = j) := by
   rintro k l u f ys ⟨c, ds, ar, t, q1, q2, q3, q4, q5⟩
   by_cases hk : k = i
   ·subst hk
    rw [List.getElem?_set_self hil] at q2
    injection q2 with q2; subst q2
    by_cases hl : l = j
    ·subst hl
     rw [List.getElem?_set_self (List.getElem?_eq_some_iff.1 hj).1] at q5
     cases q5
    ·rw [List.getElem?_set_ne (Ne.symm hl)] at q5
     exact ⟨⟨c, cs, ar, t, q1, hcs, q3, q4, q5⟩, fun h => hl h.2⟩
   ·rw [List.getElem?_set_ne (Ne.symm hk)] at q2
    exact ⟨⟨c, ds, ar, t, q1, q2, q3, q4, q5⟩, fun h => hk h.1⟩
  refine ⟨fun k l u f ys h => ?_, fun k l u f ys k' l' u' f' ys' g h h' => M.stk.inj k l u f ys k' l' u' f' ys' g (back _ _ _ _ _ h).1 (back _ _ _ _ _ h').1⟩
  obtain ⟨h1, h2⟩ := back _ _ _ _ _ h
  obtain ⟨sz1, us1, o1, r1, x1, t1, g1⟩ := M.stk.own _ _ _ _ _ h1
  refine ⟨sz1, us1, o1, r1.mono fun _ _ h => h.stay S, x1, t1, fun g hgb => ⟨⟨fun o => hno g o (fun hc => h2 (M.stk.inj _ _ _ _ _ _ _ _ _ _ g h1 hat hgb hc)) ((g1 g hgb).1.1 o), (g1 g hgb).1.2⟩, (g1 g hgb).2⟩⟩
end
end Go.Proofs.YtgpkppohfodhdaaGreatDoor.Pm
namespace Go.Proofs.YtgpkppohfodhdaaGreatDoor.Pm
open Go Go.RowKit
set_option linter.unusedVariables false
set_option linter.unusedSimpArgs false
def seqs : List Code → Code → Code
 | [], c => c
 | p :: l, c => .seq p (seqs l c)
def nrm (N : St → Prop) : PEx → St → Prop
 | .normal, s => N s
 | _, _ => False
def wpSeqs (E : Env) (N : St → Prop) (l : List Code) : St → Prop := List.rec (motive := fun _ => St → Prop) N (fun p _ ih s => wpC E p (nrm ih) s) l
theorem seqs_wp {E : Env} (hE : EnvOK E) {B : Base} {n : Nat} {c : Code} {N : St → Prop} {Q : Exit → Act → World → Prop} (hN : ∀ s a w, N s → Sim E B none n s a w → c.wp E.P Q a w) : ∀ (l : List Code), (l.all (chkC E.pt n)) = true → ∀ (s : St) (a : Act) (w : World), wpSeqs E N l s → Sim E B none n s a w → (seqs l c).wp E.P Q a w
 | [], _, s, a, w, h, S => hN s a w h S
 | p :: l, hc, s, a, w, h, S => by
  rw [List.all_cons, Bool.and_eq_true] at hc
  refine wp_seq (wp_mono (code_sound hE p hc.1 _ s a w h S) fun e a w q => ?_)
  cases e with
  | normal => obtain ⟨s', hk, S'⟩ := q; exact seqs_wp hE hN l hc.2 s' a w hk S'
  | exit id => obtain ⟨s', hk, S'⟩ := q; exact hk.elim
  | ret => obtain ⟨s', hk, S'⟩ := q; exact hk.elim
  | goto l => exact q.elim
  | panic ch => obtain ⟨-, p, v, -, -, s, h, -⟩ := q; exact h.elim
  | outgrown => exact q.elim
theorem Sim.freeze {E : Env} (hE : EnvOK E) {B : Base} {n : Nat} {s : St} {a : Act} {w : World} (S : Sim E B none n s a w) {i j e : Nat} {cs : List PV} {xs : List (List CV)} {ei : TI} (hi : s.H[i]? = some cs) (hj : cs[j]? = some (.stk e xs)) (hei : E.T e = some ei) (hp : 0 < ei.size) (hB : B.g0 = []) :
  Sim E B none n ⟨s.sl, s.H.set i (cs.set j (.c (.row xs))), s.T⟩ a w := by
 obtain ⟨m, tk, ok, M, hT, hsz, hs, hdf, hm0, hok, hall, hwf⟩ := S
 obtain ⟨b, hb⟩ := hall i (List.getElem?_eq_some_iff.1 hi).1
 obtain ⟨cs', arr, ty, g1, g2, g3, -⟩ := M.box i b hb
 rw [hi] at g1; injection g1 with g1; subst g1
 obtain ⟨v, hv, -⟩ := g3.get hj
 obtain ⟨ok', M', L, -⟩ := M.freeze hE hb hi g2 hv hj hei hp hB
 refine ⟨m, tk, ok', M', hT, hsz, fun t => (hs t).later L, hdf.nil rfl, hm0, fun b o h => L.stay.ok _ _ (hok b o h), fun k hk => hall k (by simpa using hk), ⟨fun t => ?_, fun ds hds p hp' => ?_⟩⟩
 ·show PLt (s.H.set i _).length _
  rw [List.length_set]; exact hwf.sl t
 ·show PLt (s.H.set i _).length p
  rw [List.length_set]
  have hds : ds ∈ s.H.set i (cs.set j (.c (.row xs))) := hds
  rcases List.mem_or_eq_of_mem_set hds with h | rfl
  ·exact hwf.H ds h p hp'
  ·rcases List.mem_or_eq_of_mem_set hp' with h | rfl
   ·exact hwf.H cs (List.mem_of_getElem? hi) p h
   ·trivial
structure FrzR (E : Env) (s : St) (s' : St) : Prop where
 h : ∃ (i j e : Nat) (cs : List PV) (xs : List (List CV)) (ei : TI), s.H[i]? = some cs ∧ cs[j]? = some (.stk e xs) ∧ E.T e = some ei ∧ 0 < ei.size ∧ s' = ⟨s.sl, s.H.set i (cs.set j (.c (.row xs))), s.T⟩
theorem Ok.enterF {E : Env} (hE : EnvOK E) {f : FuncId} {fn : Func} (l : List Code) {c : Code} {bs bs' : List (List PV)} {args : List PV} {r : PV} (hf : E.P.funcs[f]? = some fn) (hb : fn.body = some (seqs l c)) (hname : (fn.name == "runtime.NumGoroutine") = false)
  (hchl : (l.all (chkC E.pt fn.ntmps)) = true) (hchk : chkC E.pt fn.ntmps c = true) (hargs : args.all argOk = true) (hbs : bs.all (fun cs => cs.all PV.closedB) = true) (hst : stkB bs = false) (hlen : args.length ≤ fn.ntmps) (hbl : bs'.length = bs.length) (h : wpSeqs E (fun s => ∃ s', FrzR E s s' ∧ wpC E c (retK E fn r bs') s') l ⟨slots args, bs, []⟩) : Ok E f bs args r bs' := by
 refine ⟨⟨fn, hf, hname, by rw [hb]; cases l <;> rfl⟩, fun w ok ms gs vals hgs M hr => ?_⟩
 obtain rfl : gs = [] := hgs hst
 have S := Sim.entry (fn := fn) hargs (closedB_boxes hbs) hlen M hr
 have hml : bs'.length = ms.length := by rw [hbl]; have := M.len; rw [List.length_map] at this; omega
 refine calls_of_wp hf hb (seqs_wp hE (fun s a w' hN S' => ?_) l hchl _ _ _ h S)
 obtain ⟨s', ⟨i, j, e, cs, xs, ei, h1, h2, h3, h4, rfl⟩, h5⟩ := hN
 refine wp_mono (code_sound hE c hchk _ _ _ _ h5 (S'.freeze hE h1 h2 h3 h4 rfl)) fun e a w' q => ?_
 have fin : ∀ s, Ret E fn r bs' s → Sim E ⟨w, ok, ms, []⟩ none fn.ntmps s a w' → a.defers = [] ∧ ∃ v, (results fn a.tmps).run E.P w' = .ok v w' ∧ ∃ v' ok', Ending.returned v = .returned v' ∧ Mem E ⟨w, ok, ms, []⟩ bs' (ms.map some) [] ok' w' ∧ (∀ b o, ok b o → ok' b o) ∧ Rep w' ok' (ms.map some) [] v' r := fun s hR S => by
  obtain ⟨h1, v, h2, ok', h3⟩ := Ret.fin hE hml hR S
  exact ⟨h1 rfl, v, h2, v, ok', rfl, h3⟩
 cases e with
 | normal => obtain ⟨s, hk, S'⟩ := q; exact fin s hk S'
 | ret => obtain ⟨s, hk, S'⟩ := q; exact fin s hk S'
 | exit id => obtain ⟨s, hk, S'⟩ := q; exact hk.elim
 | goto l => exact q.elim
 | panic ch => obtain ⟨-, p, v, -, -, s, h, -⟩ := q; exact h.elim
 | outgrown => exact q.elim
theorem FrzR.mk1 {E : Env} {s : St} {e : Nat} {cs : List PV} {xs : List (List CV)} {ei : TI} (i j : Nat) (h1 : s.H[i]? = some cs) (h2 : cs[j]? = some (.stk e xs)) (h3 : E.T e = some ei) (h4 : 0 < ei.size) : FrzR E s ⟨s.sl, s.H.set i (cs.set j (.c (.row xs))), s.T⟩ := ⟨i, j, e, cs, xs, ei, h1, h2, h3, h4, rfl⟩
def preC : Nat → Code → List Code × Code
 | k + 1, .seq a b => (a :: (preC k b).1, (preC k b).2)
 | _, c => ([], c)
theorem seqs_pre : ∀ (k : Nat) (c : Code), seqs (preC k c).1 (preC k c).2 = c
 | 0, c => by cases c <;> rfl
 | k + 1, c => by
  cases c <;> first | rfl | (rename_i a b; show Code.seq a (seqs (preC k b).1 (preC k b).2) = _; rw [seqs_pre k b])
theorem Ok.enterG {E : Env} (hE : EnvOK E) {f : FuncId} {fn : Func} (k : Nat) {c : Code} {bs bs' : List (List PV)} {args : List PV} {r : PV} (hf : E.P.funcs[f]? = some fn) (hb : fn.body = some c) (hname : (fn.name == "runtime.NumGoroutine") = false)
  (hchl : ((preC k c).1.all (chkC E.pt fn.ntmps)) = true) (hchk : chkC E.pt fn.ntmps (preC k c).2 = true) (hargs : args.all argOk = true) (hbs : bs.all (fun cs => cs.all PV.closedB) = true) (hst : stkB bs = false) (hlen : args.length ≤ fn.ntmps) (hbl : bs'.length = bs.length) (h : wpSeqs E (fun s => ∃ s', FrzR E s s' ∧ wpC E (preC k c).2 (retK E fn r bs') s') (preC k c).1 ⟨slots args, bs, []⟩) : Ok E f bs args r bs' :=
 Ok.enterF hE (preC k c).1 hf (by rw [seqs_pre]; exact hb) hname hchl hchk hargs hbs hst hlen hbl h
theorem Wk.nilStk (e : Nat) : Wk (.c .nil) (.stk e []) := by
 intro w ok m tk v hv
 cases hv with
 | c _ _ h => cases h; exact .stk none 0 0 e [] rfl
theorem StkOK.nilHd (e : Nat) (cs : List PV) : StkOK (.c .nil :: cs) (.stk e [] :: cs) := by
 intro j q hj hs
 cases j with
 | zero => simp at hj; subst hj; exact .inr ⟨rfl, e, rfl⟩
 | succ j => exact .inl (by simpa using hj)
end Go.Proofs.YtgpkppohfodhdaaGreatDoor.Pm
namespace Go.Proofs.YtgpkppohfodhdaaGreatDoor.Pm
open Go Go.RowKit
set_option linter.unusedVariables false
set_option linter.unusedSimpArgs false
section
variable {E : Env} {B : Base} {H : List (List PV)} {m : List (Option Nat)} {tk : List TokR} {ok : Nat → Nat → Prop} {w : World}
end
end Go.Proofs.YtgpkppohfodhdaaGreatDoor.Pm
namespace Go.Proofs.YtgpkppohfodhdaaGreatDoor.Pm
open Go Go.RowKit
set_option linter.unusedVariables false
set_option linter.unusedSimpArgs false
section
variable {p : List Nat} {ops : Array Oper}
end
section
variable {E : Env} {B : Base} {D : Option (FuncId × List AV)} {n : Nat}
end
end Go.Proofs.YtgpkppohfodhdaaGreatDoor.Pm
namespace Go.Proofs.YtgpkppohfodhdaaGreatDoor.Pm
open Go Go.RowKit
set_option linter.unusedVariables false
set_option linter.unusedSimpArgs false
theorem Ok.row {E : Env} (hE : EnvOK E) {n : FuncId} {args : List PV} {b : Bool} (h : Ok E n [] args (.c (.bool b)) []) {W : World} (hI : E.I W) {vals : Array Value} (hv : RepL (Rep W (fun b _ => b < W.heap.size) [] []) vals.toList args) : Calls E.P n vals W fun e W' => e = .returned (.bool b) ∧ Below W.heap.size W W' := by
 refine (h.2 W (fun b _ => b < W.heap.size) [] [] vals (fun _ => rfl) ⟨hI, rfl, rfl, rfl, Nat.le_refl _, fun _ _ _ _ => rfl, fun b o h => .inl h, fun b o h => h, rfl, fun i b h => by simp at h, fun i j b h => by simp at h, fun t r h => by simp at h, fun t u r s g h => by simp at h, hE.glob W hI, fun t r i h => by simp at h, .nil⟩ hv).mono ?_
 rintro e w' ⟨v, ok', rfl, M, _, hr⟩
 refine ⟨?_, M.os, M.tape, M.output, M.size, fun k hk => M.frame k hk (by simp) (by simp)⟩
 cases hr with
 | c v p h => cases h; rfl
def IsRow (k : IntKind) (w : World) (a : Option Addr) (len cap : Nat) (zs : List Int) : Prop :=
 (a = none ∧ len = 0 ∧ cap = 0 ∧ zs = []) ∨
 ∃ x, a = some x ∧ len ≤ cap ∧ cap ≤ maxLen ∧ zs.length = cap ∧ (∀ i, i < zs.length → w.cell? (x.add i) = some (.int k (zs.getD i 0))) ∧ ∀ n ∈ zs, (Lit.int k n).wf = true
theorem IsRow.mem {w : World} {a : Option Addr} {len cap : Nat} {zs : List Int} (h : IsRow .i64 w a len cap zs) : ∀ n ∈ zs.take len, I64 n := by
 intro n hn
 have hn := List.mem_of_mem_take hn
 rcases h with ⟨_, _, _, rfl⟩ | ⟨x, _, _, _, _, _, hw⟩
 ·simp at hn
 ·have := hw n hn
  simp only [Lit.wf, Bool.and_eq_true, decide_eq_true_eq] at this
  exact ⟨this.1, this.2⟩
theorem IsRow.len {w : World} {k : IntKind} {a : Option Addr} {len cap m : Nat} {zs : List Int} (h : IsRow k w a len cap zs) (hl : len ≤ m) : (zs.take len).length ≤ m := by
 rw [List.length_take]; omega
theorem I64.of {n : Int} (h : (Lit.int .i64 n).wf = true) : I64 n := by
 simp only [Lit.wf, Bool.and_eq_true, decide_eq_true_eq] at h
 exact ⟨h.1, h.2⟩
theorem cell_blk {w : World} {x : Addr} {i : Nat} {v : Value} (h : w.cell? (x.add i) = some v) : x.block < w.heap.size := by
 have e := add_plain' h
 rw [e] at h
 unfold World.cell? at h
 dsimp only at h
 split at h
 ·rename_i hb; exact (Array.getElem?_eq_some_iff.1 hb).1
 all_goals simp at h
theorem IsRow.rep {w : World} {k : IntKind} {a : Option Addr} {len cap : Nat} {zs : List Int} (h : IsRow k w a len cap zs) : Rep w (fun b _ => b < w.heap.size) [] [] (.slice a len cap) (.c (.row ((zs.take len).map fun n => [.int k n]))) := by
 refine .c _ _ ?_
 rcases h with ⟨rfl, rfl, rfl, rfl⟩ | ⟨x, rfl, hlc, _, hz, hc, _⟩
 ·exact RepC.nil.nil_row
 ·refine .row (some x) len cap _ 1 (fun i => .int k (zs.getD i 0)) (by rw [List.length_map, List.length_take]; omega) hlc (fun h => by cases h) (by decide) ?_ ?_ ?_
  ·intro y hy
   obtain ⟨n, _, rfl⟩ := List.mem_map.1 hy
   rfl
  ·intro i hi
   have := hc i (by omega)
   exact ⟨x, rfl, cell_blk this, this⟩
  ·intro i y j c hy hj
   rw [List.getElem?_map, List.getElem?_take] at hy
   split at hy
   ·have hi : i < zs.length := by omega
    rw [List.getElem?_eq_getElem hi] at hy
    simp only [Option.map_some, Option.some.injEq] at hy
    subst hy
    cases j with
    | zero =>
     simp at hj; subst hj
     rw [List.getD_eq_getElem?_getD, show i * 1 + 0 = i by omega, List.getElem?_eq_getElem hi]
     exact .int _ _
    | succ j => simp at hj
   ·simp at hy
theorem inv_of {W : World} (hs : W.ShapedOpen Tryz.prog) (h : laidMetH Tryz.prog LaidRow.lay3 W) : Inv W := by
 obtain ⟨o, _, ho, _⟩ := hs.2 Tryz.prog.globals.size (Nat.le_refl _) (of_decide_eq_true (by kernel_rfl))
 have h0 : laidMet Tryz.prog LaidRow.lay3 W := h
 exact ⟨Nat.le_of_lt (Array.getElem?_eq_some_iff.1 ho).1, LaidRow.tabOf (Go.laidMet.tail (Go.laidMet.tail h0))⟩
end Go.Proofs.YtgpkppohfodhdaaGreatDoor.Pm
namespace Go.Proofs.YtgpkppohfodhdaaGreatDoor.Pm
open Go Go.RowKit Go.ChangeShapes Go.WideShapes
set_option linter.unusedVariables false
set_option linter.unusedSimpArgs false
def intO : Option Value → Int
 | some (.int _ n) => n
 | _ => 0
def encA (zs : List (List Int)) : List (List CV) := zs.map fun y => y.map fun n => .int .i64 n
def IsRowA (m : Nat) (w : World) (a : Option Addr) (len cap : Nat) (zs : List (List Int)) : Prop :=
 (a = none ∧ len = 0 ∧ cap = 0 ∧ zs = []) ∨
 ∃ x, a = some x ∧ len ≤ cap ∧ zs.length = len ∧ (∀ y ∈ zs, y.length = m ∧ ∀ n ∈ y, I64 n) ∧ ∀ (i j : Nat) (y : List Int) (n : Int), zs[i]? = some y → y[j]? = some n → w.cell? (x.add (i * m + j)) = some (.int .i64 n)
theorem IsRowA.mem {m : Nat} {w : World} {a : Option Addr} {len cap : Nat} {zs : List (List Int)} (h : IsRowA m w a len cap zs) : ∀ y ∈ zs, y.length = m ∧ ∀ n ∈ y, I64 n := by
 rcases h with ⟨_, _, _, rfl⟩ | ⟨x, _, _, _, h, _⟩
 ·intro y hy; cases hy
 ·exact h
theorem IsRowA.len {m : Nat} {w : World} {a : Option Addr} {len cap k : Nat} {zs : List (List Int)} (h : IsRowA m w a len cap zs) (hl : len ≤ k) : zs.length ≤ k := by
 rcases h with ⟨_, _, _, rfl⟩ | ⟨x, _, _, h, _⟩
 ·exact Nat.zero_le _
 ·omega
theorem IsRowA.rep {m : Nat} {w : World} {a : Option Addr} {len cap : Nat} {zs : List (List Int)} (hm : 0 < m) (h : IsRowA m w a len cap zs) : Rep w (fun b _ => b < w.heap.size) [] [] (.slice a len cap) (.c (.row (encA zs))) := by
 refine .c _ _ ?_
 rcases h with ⟨rfl, rfl, rfl, rfl⟩ | ⟨x, rfl, hlc, hz, hy, hc⟩
 ·exact RepC.nil.nil_row
 ·refine .row (some x) len cap _ m (fun i => .int .i64 (((zs.getD (i / m) []).getD (i % m) 0))) (by unfold encA; rw [List.length_map, hz]) hlc (fun h => by cases h) hm ?_ ?_ ?_
  ·intro y hy'
   obtain ⟨n, hn, rfl⟩ := List.mem_map.1 hy'
   rw [List.length_map]
   exact (hy n hn).1
  ·intro i hi
   have hq : i / m < zs.length := by rw [hz]; exact Nat.div_lt_of_lt_mul (by rw [Nat.mul_comm]; exact hi)
   have hr : i % m < m := Nat.mod_lt _ hm
   have hl := (hy _ (List.getElem_mem hq)).1
   have := hc (i / m) (i % m) zs[i / m] (zs[i / m][i % m]'(by rw [hl]; exact hr)) (List.getElem?_eq_getElem hq) (List.getElem?_eq_getElem _)
   rw [show i / m * m + i % m = i by rw [Nat.mul_comm]; exact Nat.div_add_mod i m] at this
   refine ⟨x, rfl, cell_blk this, ?_⟩
   rw [this]
   rw [List.getD_eq_getElem?_getD, List.getD_eq_getElem?_getD, List.getElem?_eq_getElem hq]
   show some (Value.int .i64 _) = some (Value.int .i64 ((zs[i / m][i % m]?).getD 0))
   rw [List.getElem?_eq_getElem (by rw [hl]; exact hr)]
   rfl
  ·intro i y j c hi hj
   unfold encA at hi
   rw [List.getElem?_map] at hi
   cases hzi : zs[i]? with
   | none => rw [hzi] at hi; cases hi
   | some u =>
    rw [hzi] at hi
    have hi : some (u.map fun n => CV.int .i64 n) = some y := hi
    injection hi with hi
    subst hi
    rw [List.getElem?_map] at hj
    cases huj : u[j]? with
    | none => rw [huj] at hj; cases hj
    | some n =>
     rw [huj] at hj
     have hj : some (CV.int .i64 n) = some c := hj
     injection hj with hj
     subst hj
     have hu := (hy u (List.mem_of_getElem? hzi)).1
     have hjm : j < m := by rw [← hu]; exact (List.getElem?_eq_some_iff.1 huj).1
     have e1 : (i * m + j) / m = i := by
      rw [Nat.mul_comm, Nat.mul_add_div hm, Nat.div_eq_of_lt hjm, Nat.add_zero]
     have e2 : (i * m + j) % m = j := by
      rw [Nat.mul_comm, Nat.mul_add_mod, Nat.mod_eq_of_lt hjm]
     rw [e1, e2, List.getD_eq_getElem?_getD, List.getD_eq_getElem?_getD, hzi]
     show RepC _ _ (Value.int .i64 ((u[j]?).getD 0)) _
     rw [huj]
     exact .int _ _
theorem open_arrays {H : Type} {enc : TypeId × Value → H} {P : Program} {w : World} {base : Nat} {spare : Nat → Bool} {held : Bool} {t e i : TypeId} {m fuel : Nat} {cs : List Value} {x : DataW H × List MemPlace}
  (ht : P.underlying t = some (.slice e)) (he : P.underlying e = some (.array m i)) (hi : P.underlying i = some (.int .i64)) (h1 : P.cellsOf i = 1) (hm : P.cellsOf e = m) (h : DataW.trod enc P w base spare held fuel t cs = some x) :
  ∃ a len cap zs, cs = [.slice a len cap] ∧ IsRowA m w a len cap zs := by
 rcases DataW.trod_slice ht h with ⟨rfl, rfl⟩ | ⟨a, len, cap, elems, rest, n, _, rfl, rfl, hb, hl, hmx, hlen, hel, hsp, hns⟩
 ·exact ⟨none, 0, 0, [], rfl, .inl ⟨rfl, rfl, rfl, rfl⟩⟩
 have key : ∀ k : Nat, k < len → ∃ ys : List Int, ys.length = m ∧ (∀ n ∈ ys, I64 n) ∧ ∀ (j : Nat) (n : Int), ys[j]? = some n → w.cell? (a.add (k * m + j)) = some (.int .i64 n) := by
  intro k hk
  have hE := hel k hk
  obtain ⟨y, hy⟩ : ∃ y, elems[k]? = some y := ⟨_, List.getElem?_eq_getElem (by omega)⟩
  rw [hy, Option.bind_eq_some_iff] at hE
  obtain ⟨cs', hcs, hyt⟩ := hE
  rw [hm] at hcs
  obtain ⟨xs, m', -, -, hcl, hxl, hat⟩ := DataW.trod_array he hyt
  rw [hm] at hcl
  obtain ⟨-, hcl', hcc⟩ := World.cells?_some hcs
  have each : ∀ j, j < m → ∃ n : Int, I64 n ∧ cs'[j]? = some (.int .i64 n) := by
   intro j hj
   have := hat j hj
   rw [h1, Nat.mul_one, List.getElem?_eq_getElem (by omega)] at this
   obtain ⟨n, hn, -, hw⟩ := DataW.trod_int hi this
   refine ⟨n, I64.of hw, ?_⟩
   have := congrArg (·[0]?) hn
   simpa [List.getElem?_take] using this
  refine ⟨(List.range m).map fun j => intO cs'[j]?, by simp, ?_, ?_⟩
  ·intro n hn
   obtain ⟨j, hj, rfl⟩ := List.mem_map.1 hn
   obtain ⟨z, hz, hc⟩ := each j (by simpa using hj)
   rw [hc]; exact hz
  ·intro j n hn
   rw [List.getElem?_map] at hn
   have hj : j < m := by
    rcases Nat.lt_or_ge j m with h | h
    ·exact h
    ·rw [List.getElem?_eq_none (by simpa using h)] at hn; cases hn
   rw [List.getElem?_range hj] at hn
   obtain ⟨z, hz, hc⟩ := each j hj
   have hn : some (intO cs'[j]?) = some n := hn
   rw [hc] at hn
   have hn : some z = some n := hn
   injection hn with hn
   subst hn
   rw [← add_add _ _ _ (.inr trivial)]
   rw [hcc j hj]; exact hc
 refine ⟨some a, len, cap, (List.range len).map fun k => if h : k < len then (key k h).choose else [], rfl, .inr ⟨a, rfl, hl, by simp, ?_, ?_⟩⟩
 ·intro y hy
  obtain ⟨k, hk, rfl⟩ := List.mem_map.1 hy
  have hk : k < len := by simpa using hk
  rw [dif_pos hk]
  have := (key k hk).choose_spec
  exact ⟨this.1, this.2.1⟩
 ·intro k j y n hy hn
  have hk : k < len := by
   rcases Nat.lt_or_ge k len with h | h
   ·exact h
   ·rw [List.getElem?_eq_none (by simpa using h)] at hy; cases hy
  rw [List.getElem?_map, List.getElem?_range hk] at hy
  have hy : some (if h : k < len then (key k h).choose else []) = some y := hy
  rw [dif_pos hk] at hy
  injection hy with hy
  subst hy
  exact (key k hk).choose_spec.2.2 j n hn
end Go.Proofs.YtgpkppohfodhdaaGreatDoor.Pm
namespace Go.Proofs.YtgpkppohfodhdaaGreatDoor.Pm
open Go Go.RowKit Go.ChangeShapes Go.WideShapes
set_option linter.unusedVariables false
set_option linter.unusedSimpArgs false
def LeafV (v : Value) (c : CV) : Prop := ∀ (w : World) (ok : Nat → Nat → Prop), RepC w ok v c
def IsRowS (m : Nat) (w : World) (a : Option Addr) (len cap : Nat) (xs : List (List CV)) : Prop :=
 (a = none ∧ len = 0 ∧ cap = 0 ∧ xs = []) ∨
 ∃ x, a = some x ∧ len ≤ cap ∧ xs.length = len ∧ (∀ y ∈ xs, y.length = m) ∧ ∀ (i j : Nat) (y : List CV) (c : CV), xs[i]? = some y → y[j]? = some c → ∃ v, w.cell? (x.add (i * m + j)) = some v ∧ LeafV v c
theorem IsRowS.rep {m : Nat} {w : World} {a : Option Addr} {len cap : Nat} {xs : List (List CV)} (hm : 0 < m) (h : IsRowS m w a len cap xs) : Rep w (fun b _ => b < w.heap.size) [] [] (.slice a len cap) (.c (.row xs)) := by
 refine .c _ _ ?_
 rcases h with ⟨rfl, rfl, rfl, rfl⟩ | ⟨x, rfl, hlc, hz, hy, hc⟩
 ·exact RepC.nil.nil_row
 ·have cell : ∀ i, i < len * m → ∃ v, w.cell? (x.add i) = some v := by
   intro i hi
   have hq : i / m < xs.length := by rw [hz]; exact Nat.div_lt_of_lt_mul (by rw [Nat.mul_comm]; exact hi)
   have hr : i % m < m := Nat.mod_lt _ hm
   have hl := hy _ (List.getElem_mem hq)
   obtain ⟨v, hv, -⟩ := hc (i / m) (i % m) xs[i / m] (xs[i / m][i % m]'(by rw [hl]; exact hr)) (List.getElem?_eq_getElem hq) (List.getElem?_eq_getElem _)
   rw [show i / m * m + i % m = i by rw [Nat.mul_comm]; exact Nat.div_add_mod i m] at hv
   exact ⟨v, hv⟩
  refine .row (some x) len cap _ m (fun i => (w.cell? (x.add i)).getD undef) hz.symm hlc (fun h => by cases h) hm hy (fun i hi => ?_) (fun i y j c hi hj => ?_)
  ·obtain ⟨v, hv⟩ := cell i hi
   exact ⟨x, rfl, cell_blk hv, by rw [hv]; rfl⟩
  ·obtain ⟨v, hv, hl⟩ := hc i j y c hi hj
   rw [hv]
   exact hl _ _
theorem IsRowS.len {m : Nat} {w : World} {a : Option Addr} {len cap k : Nat} {xs : List (List CV)} (h : IsRowS m w a len cap xs) (hl : len ≤ k) : xs.length ≤ k := by
 rcases h with ⟨_, _, _, rfl⟩ | ⟨x, _, _, h, _⟩
 ·exact Nat.zero_le _
 ·omega
theorem open_len {H : Type} {enc : TypeId × Value → H} {P : Program} {w : World} {base : Nat} {spare : Nat → Bool} {held : Bool} {t e : TypeId} {fuel : Nat} {a : Option Addr} {len cap : Nat} {x : DataW H × List MemPlace}
  (ht : P.underlying t = some (.slice e)) (h : DataW.trod enc P w base spare held fuel t [.slice a len cap] = some x) : len ≤ 9223372036854775807 := by
 rcases DataW.trod_slice ht h with ⟨h1, -⟩ | ⟨a', len', cap', elems, rest, n, _, h1, -, hb, hl, hmx, -⟩
 ·injection h1 with h1 _
  injection h1 with _ h1 _
  omega
 ·injection h1 with h1 _
  injection h1 with _ h1 h2
  subst h1; subst h2
  unfold maxLen at hmx
  omega
end Go.Proofs.YtgpkppohfodhdaaGreatDoor.Pm
