import Derived.Test.YtgpkppohfodhdaaGreatDoorVaAll
import Derived.Test.YtgpkppohfodhdaaGreatDoorPmBll
namespace Go.Proofs.YtgpkppohfodhdaaGreatDoor.Va
open Go Go.RowKit Go.Proofs.YtgpkppohfodhdaaGreatDoor.Pm Go.Proofs.YtgpkppohfodhdaaGreatDoor.Pl
open Go.Maps (Tidy has size)
set_option linter.unusedVariables false
set_option linter.unusedSimpArgs false
set_option maxHeartbeats 4000000
set_option maxRecDepth 8000
noncomputable def eR : Value → Option (DataW Unit × List MemPlace) := plainElem E.P 3
structure OwnR (l : List Of) (b i : Nat) (w : World) : Prop where
 h : ∃ D : DataW Unit, w.ownsMap E.P 9 eR b i D ∧ Tidy D ∧ (∀ s : ByteArray, has D (.string s.data.toList) = (l.take i).any fun o => eqB o.s s) ∧ size D ≤ i ∧ (size D = i ↔ ((l.take i).map Of.s).Nodup)
structure RI (w0 : World) (v0 : Value) (b : Nat) (l : List Of) (i : Nat) (a : Act) (w : World) : Prop where
 size : a.tmps.size = Tryz.f32.ntmps
 defs : a.defers = []
 inv : E.I w
 gr : w0.grownBy w none
 t0 : a.tmps.getD 0 undef = v0
 t3 : a.tmps.getD 3 undef = .map (some b)
 own : OwnR l b i w
structure LI (w0 : World) (v0 : Value) (b : Nat) (l : List Of) (i : Nat) (a : Act) (w : World) : Prop where
 ri : RI w0 v0 b l i a w
 fine : ∀ o ∈ l.take i, okO o = true
 t7 : a.tmps.getD 7 undef = v0
 t8 : a.tmps.getD 8 undef = .int .i64 l.length
 t9 : a.tmps.getD 9 undef = .int .i64 i
theorem OwnR.kept {l : List Of} {b i : Nat} {w w' : World} (h : OwnR l b i w) (hg : w.grownBy w' none) : OwnR l b i w' := by
 obtain ⟨D, h1, h2⟩ := h
 exact ⟨D, h1.kept hg (by simp), h2⟩
theorem eqB_false {x y : ByteArray} (h : x ≠ y) : eqB x y = false := by
 cases e : eqB x y
 ·rfl
 ·exact absurd (eqB_iff.1 e) h
theorem own_step {l : List Of} {b i : Nat} {w' : World} {o : Of} (ho : l[i]? = some o) {D : DataW Unit} {z : Int} (h2 : Tidy D) (h3 : ∀ s : ByteArray, has D (.string s.data.toList) = (l.take i).any fun o => eqB o.s s) (h4 : size D ≤ i) (h5 : size D = i ↔ ((l.take i).map Of.s).Nodup)
  (h : w'.ownsMap E.P 9 eR b (i + 1) (D.put (.string o.s.data.toList) (.lit (.int .i64 z)))) : OwnR l b (i + 1) w' := by
 have hk : WideAt.IsKeyLit (.string o.s.data.toList) := by unfold WideAt.IsKeyLit; trivial
 have ht : l.take (i + 1) = l.take i ++ [o] := by rw [List.take_add_one, ho]; rfl
 have hsz := Maps.size_put (k := .string o.s.data.toList) h2 (.lit (.int .i64 z))
 have hpre : (l.take i).length ≤ i := by rw [List.length_take]; omega
 refine ⟨_, h, h2.put hk _, fun s => ?_, ?_, ?_⟩
 ·rw [ht, List.any_append]
  by_cases e : s = o.s
  ·subst e
   rw [Maps.has_put_same h2.isMap hk]
   simp [eqB_refl]
  ·rw [Maps.has_put_other (fun h => e ?_), h3 s]
   ·simp [eqB_false (Ne.symm e)]
   ·injection h with h
    obtain ⟨⟨a⟩⟩ := s
    obtain ⟨os, op⟩ := o
    obtain ⟨⟨c⟩⟩ := os
    have h : a = c := h
    exact congrArg (fun l => ByteArray.mk (Array.mk l)) h
 ·rw [hsz]; split <;> omega
 ·rw [hsz, ht, List.map_append, List.nodup_append]
  have hh := h3 o.s
  constructor
  ·intro e
   split at e
   ·omega
   ·rename_i hf
    refine ⟨h5.1 (by omega), by simp, ?_⟩
    rintro x hx y hy rfl
    rw [List.mem_map] at hx
    obtain ⟨p, hp, rfl⟩ := hx
    have hy : p.s = o.s := by simpa using hy
    rw [hh] at hf
    exact hf (List.any_eq_true.2 ⟨p, hp, eqB_iff.2 hy⟩)
  ·rintro ⟨h6, -, h7⟩
   have h8 := h5.2 h6
   rw [if_neg]
   ·omega
   ·intro hf
    rw [hh] at hf
    obtain ⟨p, hp, he⟩ := List.any_eq_true.1 hf
    exact h7 p.s (List.mem_map.2 ⟨p, hp, rfl⟩) o.s (by simp) (eqB_iff.1 he)
theorem assign_run {P : Program} {ρ : Operand → Value} {o : Oper} {x : Operand} (h : o.op = .assign x) (w : World) : (execOp ρ o).run P w = .ok (.value (ρ x)) w := by
 simp [execOp, h]
theorem move_run {P : Program} {ρ : Operand → Value} {o : Oper} {x : Operand} (h : o.op = .move x) (w : World) : (execOp ρ o).run P w = .ok (.value (ρ x)) w := by
 simp [execOp, h]
theorem mkMap_run {P : Program} {ρ : Operand → Value} {o : Oper} {t : TypeId} (h : o.op = .makeMap t none) (w : World) : (execOp ρ o).run P w = .ok (.value (.map (some w.heap.size))) (w.alloc (.map #[] 0)) := by
 simp [execOp, h, run_makeMap]
end Go.Proofs.YtgpkppohfodhdaaGreatDoor.Va
namespace Go.Proofs.YtgpkppohfodhdaaGreatDoor.Va
open Go Go.RowKit Go.Proofs.YtgpkppohfodhdaaGreatDoor.Pm Go.Proofs.YtgpkppohfodhdaaGreatDoor.Pl
open Go.Maps (Tidy has size)
set_option linter.unusedVariables false
set_option linter.unusedSimpArgs false
set_option maxHeartbeats 4000000
set_option maxRecDepth 8000
theorem len_run {P : Program} {ρ : Operand → Value} {o : Oper} {x : Operand} {t k e : TypeId} {R : Value → Option (DataW Unit × List MemPlace)} {b n : Nat} {D : DataW Unit} {w : World} (h : o.op = .call { callee := .builtin .len, args := #[x], argTypes := #[t] }) (hm : ρ x = .map (some b)) (hown : w.ownsMap P k R b n D) (ht : P.underlying t = some (.map k e)) :
  (execOp ρ o).run P w = .ok (.value (.int .i64 (size D))) w := by
 simp [execOp, h, resolve, invoke, builtin, hm, hown.len ht o.type, Result.andThen]
def postR (w0 : World) (ok0 : Nat → Nat → Prop) (v : Bool) (e : Ending) (w' : World) : Prop := ∃ u ok', e = .returned u ∧ Mem E ⟨w0, ok0, [], []⟩ [] (([] : List Nat).map some) [] ok' w' ∧ (∀ b o, ok0 b o → ok' b o) ∧ Rep w' ok' (([] : List Nat).map some) [] u (pB v)
theorem res_one {P : Program} {fn : Func} {t : Tmp} (h : fn.results = #[.tmp t]) (tmps : Array Value) (w : World) : (results fn tmps).run P w = .ok (tmps.getD t undef) w := by
 rw [results_eq, h]
 simp [rv]
theorem finR {w0 : World} {ok0 : Nat → Nat → Prop} (M : Mem E ⟨w0, ok0, [], []⟩ [] [] [] ok0 w0) {v : Bool} {a : Act} {w : World} (hd : a.defers = []) (hi : E.I w) (hg : w0.grownBy w none) (ht : a.tmps.getD 2 undef = .bool v) :
  a.defers = [] ∧ ∃ u, (results Tryz.f32 a.tmps).run E.P w = .ok u w ∧ postR w0 ok0 v (.returned u) w := by
 refine ⟨hd, .bool v, ?_, .bool v, ok0, rfl, mem_back M hg hi, fun _ _ h => h, .c _ _ (.bool v)⟩
 rw [← ht]
 exact res_one rfl _ _
theorem isName_size {s : ByteArray} (h : Lx.isName s = true) : s.size ≤ 12 := by
 unfold Lx.isName at h
 split at h
 ·cases h
 ·rw [Bool.and_eq_true] at h; exact of_decide_eq_true h.1
theorem right_round {w0 : World} {ok0 : Nat → Nat → Prop} (M : Mem E ⟨w0, ok0, [], []⟩ [] [] [] ok0 w0) {v0 : Value} {b : Nat} {l : List Of} (hr0 : RepC w0 ok0 v0 (.row (rowO l))) {i : Nat} {a : Act} {w : World} (h : LI w0 v0 b l i a w) :
  Sim E ⟨w, ok0, [], []⟩ none Tryz.f32.ntmps ⟨vSl [(7, .row (rowO l)), (8, .int .i64 l.length), (9, .int .i64 i)], [], []⟩ a w := by
 refine sim_fresh h.ri.inv (fun b o hk => Nat.lt_of_lt_of_le (M.oks b o hk) h.ri.gr.size) (Nat.le_trans M.gb h.ri.gr.size) h.ri.size h.ri.defs ⟨?_, ?_, ?_, trivial⟩
 ·rw [h.t7]; exact repC_grown M.oks h.ri.gr hr0
 ·rw [h.t8]; exact .int _ _
 ·rw [h.t9]; exact .int _ _
theorem vRight_ok (l : List Of) (hl : l.length ≤ 17592186043904) : Ok E 32 [] [.c (.row (rowO l))] (pB (rightO l)) [] := by
 refine ⟨⟨_, Tryz.func32, by decide +kernel, by kernel_rfl⟩, fun w0 ok0 ms gs vals hst M hr => ?_⟩
 have hm : ms = [] := by have := M.len; simpa using this
 subst hm
 obtain rfl : gs = [] := hst rfl
 have M : Mem E ⟨w0, ok0, [], []⟩ [] [] [] ok0 w0 := M
 have hel := rowO_len l
 obtain ⟨v0, rfl⟩ : ∃ v0, vals = #[v0] := by
  have := hr.1
  obtain ⟨vl⟩ := vals
  match vl, this with
  | [v], _ => exact ⟨v, rfl⟩
 have hr0 : RepC w0 ok0 v0 (.row (rowO l)) := by
  have := hr.head
  cases this with
  | c v p h => exact h
 show Calls E.P 32 #[v0] w0 (postR w0 ok0 (rightO l))
 refine calls_of_wp Tryz.func32 rfl ?_
 obtain ⟨a0, ha0⟩ : ∃ a0 : Act, a0 = { tmps := #[v0] ++ Array.replicate (Tryz.f32.ntmps - (#[v0] : Array Value).size) undef, defers := [] } := ⟨_, rfl⟩
 rw [← ha0]
 have h00 : a0.tmps.getD 0 undef = v0 := by rw [ha0]; simp
 have hsz0 : a0.tmps.size = Tryz.f32.ntmps := by rw [ha0]; simp only [Array.size_append, Array.size_replicate]; show 1 + (Tryz.f32.ntmps - 1) = _; decide
 have hdf0 : a0.defers = [] := by rw [ha0]
 clear ha0
 have S0 : Sim E ⟨w0, ok0, [], []⟩ none Tryz.f32.ntmps ⟨vSl [], [], []⟩ a0 w0 := sim_fresh M.inv M.oks M.gb hsz0 hdf0 trivial
 refine wp_seq ?_
 refine region_keep (ks := [0]) (K := fun s => s.sl 2 = .c (.bool false)) hE (by kernel_rfl) ?_ S0 (KeepS.refl _ a0) ?_
 ·exact rfl
 intro s1 a1 w1 hk1 S1 hp1
 obtain ⟨g1, i1, z1, d1⟩ := sim_grown S1
 have t10 : a1.tmps.getD 0 undef = v0 := (hp1 0 (by simp)).trans h00
 clear hp1 S0 S1 hk1
 -- the map
 refine wp_seq ?_
 refine wp_region_list ?_
 refine wpList_step fun K1 hK1 => ?_
 rw [if_pos (by rfl)]
 unfold Oper.wp
 rw [mkMap_run rfl, Oper.upon_value]
 refine hK1 _ _ ?_
 refine wpList_step fun K2 hK2 => ?_
 rw [if_pos (by rfl)]
 unfold Oper.wp
 rw [assign_run rfl, Oper.upon_value]
 refine hK2 _ _ ?_
 obtain ⟨b, hb⟩ : ∃ b, b = w1.heap.size := ⟨_, rfl⟩
 obtain ⟨w2, hw2⟩ : ∃ w2, w2 = w1.alloc (.map #[] 0) := ⟨_, rfl⟩
 obtain ⟨a2, ha2⟩ : ∃ a2 : Act, a2 = (a1.put (some 6) (.map (some w1.heap.size))).put (some 3) (.map (some w1.heap.size)) := ⟨_, rfl⟩
 have own2 : OwnR l b 0 w2 := by
  refine ⟨.map [], ?_, Maps.tidy_empty, fun s => rfl, Nat.le_refl _, ?_⟩
  ·rw [hb, hw2]; exact World.ownsMap_made w1 _ _ _
  ·exact ⟨fun _ => List.nodup_nil, fun _ => rfl⟩
 have g2 : w0.grownBy w2 none := by rw [hw2]; exact grown_trans g1 (World.grownBy_alloc w1 _ none)
 have i2 : E.I w2 := hE.stable w1 w2 i1 (by rw [hw2, alloc_size]; omega) (fun k hk => by rw [hw2]; exact alloc_old w1 _ k (by have := hE.glob w1 i1; omega))
 have z2 : a2.tmps.size = Tryz.f32.ntmps := by rw [ha2]; simpa [Act.put] using z1
 have d2 : a2.defers = [] := by rw [ha2]; exact d1
 have t20 : a2.tmps.getD 0 undef = v0 := by rw [ha2, put_getD _ _ _ _ (by decide), put_getD _ _ _ _ (by decide)]; exact t10
 have t23 : a2.tmps.getD 3 undef = .map (some b) := by
  rw [ha2, hb, put_same]
  simp only [Act.put, Array.size_setIfInBounds]
  rw [z1]; decide
 show Code.wp E.P _ _ _ _
 rw [show (a1.put (some 6) (.map (some w1.heap.size))).put (some 3) ((a1.put (some 6) (.map (some w1.heap.size))).eval (.tmp 6)) = a2 from by
  rw [ha2]
  have : (a1.put (some 6) (.map (some w1.heap.size))).eval (.tmp 6) = .map (some w1.heap.size) := put_same _ _ _ (by rw [z1]; decide)
  rw [this], ← hw2]
 clear ha2 hw2 hK1 hK2 K1 K2 t10 z1 d1
 -- the offers, their number, the first index
 refine wp_seq ?_
 refine wp_seq ?_
 refine wp_region_list ?_
 refine wpList_step fun K1 hK1 => ?_
 rw [if_pos (by rfl)]
 unfold Oper.wp
 rw [move_run rfl, Oper.upon_value]
 refine hK1 _ _ ?_
 rw [show a2.eval (.tmp 0) = v0 from t20]
 obtain ⟨a3, ha3⟩ : ∃ a3 : Act, a3 = a2.put (some 7) v0 := ⟨_, rfl⟩
 have z3 : a3.tmps.size = Tryz.f32.ntmps := by rw [ha3]; simpa [Act.put] using z2
 have d3 : a3.defers = [] := by rw [ha3]; exact d2
 have t30 : a3.tmps.getD 0 undef = v0 := by rw [ha3, put_getD _ _ _ _ (by decide)]; exact t20
 have t33 : a3.tmps.getD 3 undef = .map (some b) := by rw [ha3, put_getD _ _ _ _ (by decide)]; exact t23
 have t37 : a3.tmps.getD 7 undef = v0 := by rw [ha3, put_same _ _ _ (by rw [z2]; decide)]
 show wpList _ _ _ _ (a2.put (some 7) v0) w2
 rw [← ha3]
 clear ha3 hK1 K1 t20 t23 z2 d2
 have S3 : Sim E ⟨w2, ok0, [], []⟩ none Tryz.f32.ntmps ⟨vSl [(7, .row (rowO l))], [], []⟩ a3 w2 := sim_fresh i2 (fun b o hk => Nat.lt_of_lt_of_le (M.oks b o hk) g2.size) (Nat.le_trans M.gb g2.size) z3 d3 ⟨by rw [t37]; exact repC_grown M.oks g2 hr0, trivial⟩
 refine list_keep (ks := [0, 3, 7]) (a0 := a3) (K := fun s => s.sl 8 = .c (.int .i64 l.length) ∧ s.sl 9 = .c (.int .i64 0)) hE ?_ _ _ _ _ (by kernel_rfl) ?_ S3 (KeepS.refl _ a3)
 ·intro s4 a4 w4 hk4 S4 hp4
  obtain ⟨g4, i4, z4, d4⟩ := sim_grown S4
  have hL : LI w0 v0 b l 0 a4 w4 := ⟨⟨z4, d4, i4, grown_trans g2 g4, (hp4 0 (by simp)).trans t30, (hp4 3 (by simp)).trans t33, own2.kept g4⟩, fun o ho => by simp at ho, (hp4 7 (by simp)).trans t37, sim_int S4 hk4.1, sim_int S4 hk4.2⟩
  have hb0 : w0.heap.size ≤ b := by rw [hb]; exact g1.size
  clear hp4 S4 hk4 g4 i4 z4 d4 S3 t30 t33 t37 z3 d3 own2 g2 i2
  show Code.wp E.P _ _ a4 w4
  refine wp_block ?_
  refine wp_loop (fun a w => ∃ i, i ≤ l.length ∧ LI w0 v0 b l i a w) (fun a w => l.length - (match a.tmps.getD 9 undef with | .int _ z => z.toNat | _ => 0)) ⟨0, Nat.zero_le _, hL⟩ ?_
  clear hL
  rintro a w ⟨i, hi, h⟩
  have hμ : (match a.tmps.getD 9 undef with | .int _ z => z.toNat | _ => 0) = i := by rw [h.t9]; simp
  have S := right_round M hr0 h
  refine wp_seq ?_
  by_cases hlt : i < l.length
  ·obtain ⟨o, ho⟩ : ∃ o, l[i]? = some o := ⟨_, List.getElem?_eq_getElem hlt⟩
   have hg := rowO_get ho
   refine region_keep (ks := [0, 3, 7, 8, 9]) (a0 := a) (K := fun s => s.sl 10 = .c (.bool true) ∧ s.sl 7 = .c (.row (rowO l)) ∧ s.sl 9 = .c (.int .i64 i) ∧ s.H = [] ∧ s.T = []) hE (by kernel_rfl) ?_ S (KeepS.refl _ a) ?_
   ·exact ⟨_, ltT (by omega), rfl, rfl, rfl, rfl, rfl⟩
   rintro ⟨sl, H, T⟩ a5 w5 ⟨k1, k7, k9, kH, kT⟩ S5 p5
   dsimp only at k1 k7 k9 kH kT
   subst kH; subst kT
   refine wp_seq ?_
   refine wp_cond_true (sim_bool S5 k1) (wp_skip ?_)
   rw [← setAll_of (f := sl) (l := [(7, PV.c (.row (rowO l))), (9, PV.c (.int .i64 i))]) ⟨k7, k9, trivial⟩] at S5
   clear k1 k7 k9
   show Code.wp E.P _ _ a5 w5
   refine wp_seq ?_
   refine wp_block ?_
   refine wp_seq ?_
   -- the offer's copy
   refine region_keep (ks := [0, 3, 7, 8, 9]) (a0 := a) (K := fun s => s.sl 5 = .ptr 0 0 ∧ s.H = [[.c (.str o.s), .c (.int .i64 o.p)]] ∧ s.T = []) hE (by kernel_rfl) ?_ S5 p5 ?_
   ·refine ⟨_, idxV (j := i) hg rfl rfl rfl rfl, ?_⟩
    exact ⟨rfl, rfl, rfl⟩
   clear S5 p5
   rintro ⟨sl2, H, T⟩ a6 w6 ⟨k5, kH, kT⟩ S6 p6
   dsimp only at k5 kH kT
   subst kH; subst kT
   rw [← setAll_of (f := sl2) (l := [(5, PV.ptr 0 0)]) ⟨k5, trivial⟩] at S6
   clear k5
   show Code.wp E.P _ _ a6 w6
   refine wp_seq ?_
   refine wp_seq ?_
   refine region_keep (ks := [0, 3, 7, 8, 9]) (a0 := a) (K := fun s => s.sl 26 = .c (.bool (!okO o)) ∧ s.sl 5 = .ptr 0 0 ∧ s.H = [[.c (.str o.s), .c (.int .i64 o.p)]] ∧ s.T = []) hE (by kernel_rfl) ?_ S6 p6 ?_
   ·have hN := Lx.Name_ok o.s
    by_cases hn : Lx.isName o.s = true
    ·rw [hn] at hN
     by_cases h1 : o.p < 1
     ·refine ⟨_, CallR.mk1 hN rfl rfl, ?_⟩
      refine ⟨_, ltT h1, ?_⟩
      exact ⟨by unfold okO; rw [decide_eq_false (show ¬ 1 ≤ o.p by omega)]; simp; rfl, rfl, rfl, rfl⟩
     ·by_cases h2 : o.p > 1000000000000
      ·refine ⟨_, CallR.mk1 hN rfl rfl, ?_⟩
       refine ⟨_, ltN h1, ?_⟩
       refine ⟨_, gtT h2, ?_⟩
       exact ⟨by unfold okO; rw [decide_eq_false (show ¬ o.p ≤ 1000000000000 by omega)]; simp; rfl, rfl, rfl, rfl⟩
      ·refine ⟨_, CallR.mk1 hN rfl rfl, ?_⟩
       refine ⟨_, ltN h1, ?_⟩
       refine ⟨_, gtN h2, ?_⟩
       exact ⟨by unfold okO; rw [hn, decide_eq_true (show 1 ≤ o.p by omega), decide_eq_true (show o.p ≤ 1000000000000 by omega)]; rfl, rfl, rfl, rfl⟩
    ·have hn : Lx.isName o.s = false := by simpa using hn
     rw [hn] at hN
     refine ⟨_, CallR.mk1 hN rfl rfl, ?_⟩
     exact ⟨by unfold okO; rw [hn]; rfl, rfl, rfl, rfl⟩
   clear S6 p6
   rintro ⟨sl3, H, T⟩ a7 w7 ⟨k26, k5, kH, kT⟩ S7 p7
   dsimp only at k26 k5 kH kT
   subst kH; subst kT
   obtain ⟨g7, i7, z7, d7⟩ := sim_grown S7
   by_cases hok : okO o = true
   ·rw [hok] at k26
    refine wp_cond_false (sim_bool S7 k26) (wp_skip ?_)
    clear k26
    rw [← setAll_of (f := sl3) (l := [(5, PV.ptr 0 0)]) ⟨k5, trivial⟩] at S7
    clear k5
    show Code.wp E.P _ _ a7 w7
    refine wp_region_list ?_
    refine wpList_step fun K1 hK1 => ?_
    rw [if_pos (by rfl)]
    unfold Oper.wp
    rw [move_run rfl, Oper.upon_value]
    refine hK1 _ _ ?_
    clear hK1 K1
    rw [show a7.eval (.tmp 3) = .map (some b) from (p7 3 (by simp)).trans h.ri.t3]
    have S8 := sim_put (d := some 27) (.map (some b)) (by rintro t h; injection h with h; subst h; decide) S7
    obtain ⟨a8, ha8⟩ : ∃ a8 : Act, a8 = a7.put (some 27) (.map (some b)) := ⟨_, rfl⟩
    have t27 : a8.tmps.getD 27 undef = .map (some b) := by rw [ha8, put_same _ _ _ (by rw [z7]; decide)]
    have p8 : KeepS [0, 3, 7, 8, 9] a a8 := fun t ht => by
     rw [ha8, put_getD _ _ _ _ (by intro e; injection e with e; subst e; simp at ht)]
     exact p7 t ht
    rw [← ha8] at S8
    show wpList _ _ _ _ (a7.put (some 27) (.map (some b))) w7
    rw [← ha8]
    clear ha8 S7 p7
    refine wpList_step fun K2 hK2 => ?_
    refine step_keep (ks := [0, 3, 7, 8, 9, 27]) (a0 := a8) hE S8 ?_ ?_ (KeepS.refl _ a8) (K := fun s => s = ⟨upd (upd (setAll sl3 [(5, PV.ptr 0 0)]) (some 27) .undef) (some 28) (.ptr 0 0), [[.c (.str o.s), .c (.int .i64 o.p)]], []⟩) ?_ ?_
    ·rintro d h; injection h with h; subst h; decide
    ·rfl
    ·exact Eq.refl (α := St) _
    rintro _ a9 w9 rfl S9 p9
    refine hK2 _ _ ?_
    refine wpList_step fun K3 hK3 => ?_
    refine step_keep (ks := [0, 3, 7, 8, 9, 27]) (a0 := a8) hE S9 ?_ ?_ p9 (K := fun s => s = ⟨upd (upd (upd (setAll sl3 [(5, PV.ptr 0 0)]) (some 27) .undef) (some 28) (.ptr 0 0)) (some 29) (.c (.str o.s)), [[.c (.str o.s), .c (.int .i64 o.p)]], []⟩) ?_ ?_
    ·rintro d h; injection h with h; subst h; decide
    ·rfl
    ·exact Eq.refl (α := St) _
    rintro _ a10 w10 rfl S10 p10
    refine hK3 _ _ ?_
    clear hK2 hK3 K2 K3 S8 S9 p9
    obtain ⟨D, hD1, hD2, hD3, hD4, hD5⟩ := h.ri.own.h
    obtain ⟨g10, -, -, -⟩ := sim_grown S10
    have hname : o.s.size ≤ maxLen := by
     have : Lx.isName o.s = true := by
      unfold okO at hok
      rw [Bool.and_eq_true] at hok
      exact hok.1
     have := isName_size this
     unfold maxLen; omega
    have hkey := WideMaps.keyOf_string_mk (P := E.P) (k := 9) Tryz.underlying9 hname
    refine wpList_lookup_own_int (H := Unit) w10 rfl (.tmp 27) (.tmp 29) 104 rfl 9 3 .i64 (Maps.string_keyed Tryz.underlying9) Tryz.underlying104 Tryz.underlying3 (Tryz.zeroValue3 w10) b i D ((p10 27 (by simp)).trans t27) (hD1.kept g10 (by simp)) (.string o.s) (.string o.s.data.toList) (sim_str S10 rfl) hkey ?_
    intro c hat hwc
    have S11 := sim_putv (d := some 30) (u := .int .i64 c) (c := .int .i64 c) (by rintro t h; injection h with h; subst h; decide) S10 (fun _ _ => .int _ _)
    have p11 : KeepS [0, 3, 7, 8, 9, 27] a8 (a10.put (some 30) (.int .i64 c)) := fun t ht => by
     rw [put_getD _ _ _ _ (by intro e; injection e with e; subst e; simp at ht)]
     exact p10 t ht
    refine wpList_step fun K4 hK4 => ?_
    refine step_keep (ks := [0, 3, 7, 8, 9, 27]) (a0 := a8) hE S11 ?_ ?_ p11 (K := fun s => s.sl 29 = .c (.str o.s) ∧ s.sl 31 = .c (.int .i64 (IntKind.i64.wrap (c + 1)))) ?_ ?_
    ·rintro d h; injection h with h; subst h; decide
    ·rfl
    ·exact ⟨_, ⟨rfl⟩, rfl, rfl⟩
    rintro s12 a12 w12 ⟨k29, k31⟩ S12 p12
    refine hK4 _ _ ?_
    clear hK4 K4 S11 p11 S10 p10
    obtain ⟨g12, i12, z12, d12⟩ := sim_grown S12
    have hlm : i < maxLen := by unfold maxLen; omega
    refine wpList_mapUpdate_own (H := Unit) w12 rfl (.tmp 27) (.tmp 29) (.tmp 31) 104 rfl 9 3 (Maps.string_keyed Tryz.underlying9) Tryz.underlying104 eR b i D ((p12 27 (by simp)).trans t27) (hD1.kept g12 (by simp)) hlm (.string o.s) (.int .i64 (IntKind.i64.wrap (c + 1))) (.string o.s.data.toList) (sim_str S12 k29) (sim_int S12 k31) hkey (.lit (.int .i64 (IntKind.i64.wrap (c + 1)))) [] (plainElem_int Tryz.underlying3 (wf_wrap _ _)) ?_
    intro w13 own13 g13
    have hL13 := own_step ho hD2 hD3 hD4 hD5 own13
    have gr13 := grown_own (grown_trans h.ri.gr g12) g13 hb0
    have i13 : E.I w13 := hE.stable w12 w13 i12 g13.size (fun k hk => g13.block k (by have := hE.glob w12 i12; omega) (by intro e; injection e with e; have : E.P.globals.size ≤ w0.heap.size := M.gb; omega))
    have p13 : KeepS [0, 3, 7, 8, 9] a a12 := fun t ht => (p12 t (List.mem_append_left [27] ht)).trans (p8 t ht)
    show Code.wp E.P _ _ (a12.put none undef) w13
    have S13 : Sim E ⟨w13, ok0, [], []⟩ none Tryz.f32.ntmps ⟨vSl [(9, .int .i64 i)], [], []⟩ a12 w13 := sim_fresh i13 (fun b o hk => Nat.lt_of_lt_of_le (M.oks b o hk) gr13.size) (Nat.le_trans M.gb gr13.size) z12 d12 ⟨by rw [p13 9 (by simp), h.t9]; exact .int _ _, trivial⟩
    refine region_keep (ks := [0, 3, 7, 8]) (a0 := a12) (K := fun s => s.sl 9 = .c (.int .i64 (i + 1 : Nat))) hE (by kernel_rfl) ?_ S13 (KeepS.refl _ a12) ?_
    ·exact ⟨_, addV (by push_cast; rfl) (by omega) (by omega), rfl⟩
    intro s14 a14 w14 hk14 S14 p14
    obtain ⟨g14, i14, z14, d14⟩ := sim_grown S14
    have hL14 : LI w0 v0 b l (i + 1) a14 w14 := by
     refine ⟨⟨z14, d14, i14, grown_trans gr13 g14, ((p14 0 (by simp)).trans (p13 0 (by simp))).trans h.ri.t0, ((p14 3 (by simp)).trans (p13 3 (by simp))).trans h.ri.t3, hL13.kept g14⟩, fun p hp => ?_, ((p14 7 (by simp)).trans (p13 7 (by simp))).trans h.t7, ((p14 8 (by simp)).trans (p13 8 (by simp))).trans h.t8, sim_int S14 hk14⟩
     rw [List.take_add_one, ho] at hp
     rcases List.mem_append.1 hp with hp | hp
     ·exact h.fine p hp
     ·have : p = o := by simpa using hp
      rw [this]; exact hok
    refine ⟨⟨i + 1, by omega, hL14⟩, ?_⟩
    show l.length - (match a14.tmps.getD 9 undef with | .int _ z => z.toNat | _ => 0) < l.length - (match a.tmps.getD 9 undef with | .int _ z => z.toNat | _ => 0)
    rw [hμ, hL14.t9]
    show l.length - ((i + 1 : Nat) : Int).toNat < _
    rw [Int.toNat_natCast]; omega
   ·have hok : okO o = false := by simpa using hok
    rw [hok] at k26
    refine wp_cond_true (sim_bool S7 k26) ?_
    refine wp_seq ?_
    refine region_keep (ks := [0, 3, 7, 8, 9]) (a0 := a) (K := fun s => s.sl 2 = .c (.bool false)) hE (by kernel_rfl) ?_ S7 p7 ?_
    ·exact rfl
    intro s8 a8 w8 hk8 S8 p8
    obtain ⟨g8, i8, z8, d8⟩ := sim_grown S8
    refine wp_ret ?_
    have hf : rightO l = false := by
     cases e : rightO l
     ·rfl
     ·have := (right_iff.1 e).1 o (List.mem_of_getElem? ho)
      rw [hok] at this; cases this
    rw [hf]
    exact finR M d8 i8 (grown_trans h.ri.gr g8) (sim_bool S8 hk8)
  ·have e : i = l.length := by omega
   subst e
   refine region_keep (ks := [0, 3, 7, 8, 9]) (a0 := a) (K := fun s => s.sl 10 = .c (.bool false)) hE (by kernel_rfl) ?_ S (KeepS.refl _ a) ?_
   ·exact ⟨_, ltN (by omega), rfl⟩
   intro s5 a5 w5 k5 S5 p5
   refine wp_seq ?_
   refine wp_cond_false (sim_bool S5 k5) (wp_exit ?_)
   obtain ⟨g5, i5, z5, d5⟩ := sim_grown S5
   have gr5 := grown_trans h.ri.gr g5
   show Code.wp E.P _ _ a5 w5
   have t50 : a5.tmps.getD 0 undef = v0 := (p5 0 (by simp)).trans h.ri.t0
   have t53 : a5.tmps.getD 3 undef = .map (some b) := (p5 3 (by simp)).trans h.ri.t3
   have hfine : ∀ o ∈ l, okO o = true := fun o ho => h.fine o (by rw [List.take_length]; exact ho)
   have own5 := h.ri.own.kept g5
   have S6 : Sim E ⟨w5, ok0, [], []⟩ none Tryz.f32.ntmps ⟨vSl [(0, .row (rowO l))], [], []⟩ a5 w5 := sim_fresh i5 (fun b o hk => Nat.lt_of_lt_of_le (M.oks b o hk) gr5.size) (Nat.le_trans M.gb gr5.size) z5 d5 ⟨by rw [t50]; exact repC_grown M.oks gr5 hr0, trivial⟩
   clear k5 S5 p5 S h hμ hi hlt
   refine wp_seq ?_
   by_cases h8 : l.length ≤ 8
   ·obtain ⟨D, hD1, hD2, hD3, hD4, hD5⟩ := own5.h
    rw [List.take_length] at hD3 hD5
    refine wp_region_list ?_
    refine wpList_step fun K1 hK1 => ?_
    refine step_keep (ks := [3]) (a0 := a5) hE S6 ?_ ?_ (KeepS.refl _ a5) (K := fun s => s = ⟨upd (vSl [(0, .row (rowO l))]) (some 33) (.c (.row (rowO l))), [], []⟩) ?_ ?_
    ·rintro d h; injection h with h; subst h; decide
    ·rfl
    ·exact Eq.refl (α := St) _
    rintro _ a6 w6 rfl S7 p6
    refine hK1 _ _ ?_
    refine wpList_step fun K2 hK2 => ?_
    refine step_keep (ks := [3]) (a0 := a5) hE S7 ?_ ?_ p6 (K := fun s => s = ⟨upd (upd (vSl [(0, .row (rowO l))]) (some 33) (.c (.row (rowO l)))) (some 34) (.c (.int .i64 ((rowO l).length : Nat))), [], []⟩) ?_ ?_
    ·rintro d h; injection h with h; subst h; decide
    ·rfl
    ·exact Eq.refl (α := St) _
    rintro _ a7 w7 rfl S8 p7
    refine hK2 _ _ ?_
    refine wpList_step fun K3 hK3 => ?_
    refine step_keep (ks := [3]) (a0 := a5) hE S8 ?_ ?_ p7 (K := fun s => s = ⟨upd (upd (upd (vSl [(0, .row (rowO l))]) (some 33) (.c (.row (rowO l)))) (some 34) (.c (.int .i64 ((rowO l).length : Nat)))) (some 35) (.c (.bool true)), [], []⟩) ?_ ?_
    ·rintro d h; injection h with h; subst h; decide
    ·rfl
    ·exact ⟨_, leT (by rw [hel]; omega), rfl⟩
    rintro _ a8 w8 rfl S9 p8
    refine hK3 _ _ ?_
    refine wpList_step fun K4 hK4 => ?_
    refine step_keep (ks := [3]) (a0 := a5) hE S9 ?_ ?_ p8 (K := fun s => s = ⟨upd (upd (upd (upd (vSl [(0, .row (rowO l))]) (some 33) (.c (.row (rowO l)))) (some 34) (.c (.int .i64 ((rowO l).length : Nat)))) (some 35) (.c (.bool true))) (some 36) (.c (.bool true)), [], []⟩) ?_ ?_
    ·rintro d h; injection h with h; subst h; decide
    ·rfl
    ·exact Eq.refl (α := St) _
    rintro _ a9 w9 rfl S10 p9
    refine hK4 _ _ ?_
    clear S7 S8 S9 p6 p7 p8 hK1 hK2 hK3 hK4 K1 K2 K3 K4
    obtain ⟨g9, i9, z9, d9⟩ := sim_grown S10
    refine wpList_step fun K5 hK5 => ?_
    rw [if_pos (gd_wanted S10 (by rfl))]
    unfold Oper.wp
    rw [move_run rfl, Oper.upon_value]
    refine hK5 _ _ ?_
    rw [show a9.eval (.tmp 3) = .map (some b) from (p9 3 (by simp)).trans t53]
    have S11 := sim_put (d := some 37) (.map (some b)) (by rintro t h; injection h with h; subst h; decide) S10
    have t37 : (a9.put (some 37) (.map (some b))).tmps.getD 37 undef = .map (some b) := put_same _ _ _ (by rw [z9]; decide)
    show wpList _ _ _ _ (a9.put (some 37) (.map (some b))) w9
    generalize a9.put (some 37) (.map (some b)) = a10 at S11 t37
    refine wpList_step fun K6 hK6 => ?_
    rw [if_pos (gd_wanted S11 (by rfl))]
    unfold Oper.wp
    rw [len_run rfl t37 (hD1.kept g9 (by simp)) Tryz.underlying104, Oper.upon_value]
    refine hK6 _ _ ?_
    have S12 := sim_putv (d := some 38) (u := .int .i64 (size D)) (c := .int .i64 (size D)) (by rintro t h; injection h with h; subst h; decide) S11 (fun _ _ => .int _ _)
    refine list_keep (ks := []) (a0 := a10) (K := fun s => s.sl 2 = .c (.bool (rightO l))) hE ?_ _ _ _ _ (by kernel_rfl) ?_ S12 (fun _ h => by simp at h)
    ·intro s8 a8 w8 hk8 S8 p8
     obtain ⟨g8, i8, z8, d8⟩ := sim_grown S8
     refine wp_ret ?_
     exact finR M d8 i8 (grown_trans gr5 g8) (sim_bool S8 hk8)
    ·by_cases hs : size D = l.length
     ·refine ⟨_, eqT (by rw [hel, hs]), ?_⟩
      have : rightO l = true := right_iff.2 ⟨hfine, h8, hD5.1 hs⟩
      rw [this]; rfl
     ·refine ⟨_, eqN (by rw [hel]; omega), ?_⟩
      have : rightO l = false := by
       cases e : rightO l
       ·rfl
       ·exact absurd (hD5.2 (right_iff.1 e).2.2) hs
      rw [this]; rfl
   ·refine region_keep (ks := [0]) (a0 := a5) (K := fun s => s.sl 2 = .c (.bool false)) hE (by kernel_rfl) ?_ S6 (KeepS.refl _ a5) ?_
    ·exact ⟨_, leN (by rw [hel]; omega), rfl⟩
    intro s8 a8 w8 hk8 S8 p8
    obtain ⟨g8, i8, z8, d8⟩ := sim_grown S8
    refine wp_ret ?_
    have hf : rightO l = false := by
     cases e : rightO l
     ·rfl
     ·exact absurd (right_iff.1 e).2.1 h8
    rw [hf]
    exact finR M d8 i8 (grown_trans gr5 g8) (sim_bool S8 hk8)
 ·exact ⟨by show PV.c (.int .i64 ((rowO l).length : Nat)) = _; rw [hel], rfl⟩
end Go.Proofs.YtgpkppohfodhdaaGreatDoor.Va
namespace Go.Proofs.YtgpkppohfodhdaaGreatDoor.Va
open Go Go.RowKit Go.Proofs.YtgpkppohfodhdaaGreatDoor.Pm
set_option linter.unusedVariables false
set_option linter.unusedSimpArgs false
set_option maxHeartbeats 4000000
section
variable {E : Env} {B : Base} {D : Option (FuncId × List AV)} {n : Nat} {s : St} {a : Act} {w : World}
theorem panY_sound (hE : EnvOK E) {X : St → Prop} {ops : Array Oper} (hchk : chkDraw E.pt ops = true) (hdst : ∀ o ∈ ops.toList, ∀ d, o.dst = some d → d < n) {Kp : PV → St → Prop} {Q : Exit → Act → World → Prop} (hq : ∀ ch a w, PanOK E B D n Kp ch a w → Q (.panic ch) a w)
  {i0 : Nat} (hback : ∀ (l : List Oper) (s : St), WF s → (∀ y ∈ l, Oper.apart ops y (ops.getD i0 default) = true ∧ y ∈ ops.toList.take i0) → wpL E none ops l X s → X s) (hstep : ∀ s, X s → Pm.step E (some Kp) ops (ops.getD i0 default) s fun _ => False) (hi0 : i0 < ops.size) (hlater : ∀ k, i0 < k → k < ops.size → reach ops ops.size k i0 = true) :
  ∀ (fuel : Nat) (listed : Array Bool) (L : List Nat) (s : St) (a : Act) (w : World), L.length < fuel → listed.size = ops.size → (∀ k, k < ops.size → listed.getD k false = true → (ops.getD k default).after.all (fun e => !Region.binds .any e || listed.getD e.on false) = true) → L.Pairwise (· < ·) → (∀ i, i ∈ L ↔ i < i0 ∧ listed.getD i true = false) → listed.getD i0 true = false →
   wpL E none ops (L.map fun i => ops.getD i default) X s → Sim E B D n s a w → wpAny E.P .any ops Q fuel listed a w := by
 have chk : ∀ i, i < ops.size → (ops.getD i default).after.all (fun e => !Region.binds .any e || decide (e.on < i)) = true ∧ ∀ j, j < i → (edge (ops.getD i default) j = true ∨ reach ops ops.size i j = true) ∨ (Oper.apart ops (ops.getD j default) (ops.getD i default) = true ∧ compat E.pt ops j i = true) := by
  intro i hi
  have := List.all_eq_true.1 hchk i (List.mem_range.2 hi)
  rw [Bool.and_eq_true] at this
  refine ⟨this.1, fun j hj => ?_⟩
  have h2 := List.all_eq_true.1 this.2 j (List.mem_range.2 hj)
  rw [Bool.or_eq_true, Bool.or_eq_true, Bool.and_eq_true] at h2
  rcases h2 with (h2 | h2) | h2
  ·exact .inl (.inl h2)
  ·exact .inr h2
  ·exact .inl (.inr h2)
 have hop : ∀ i, i < ops.size → ops[i]? = some (ops.getD i default) := by
  intro i hi
  rw [Array.getD_eq_getD_getElem?, Array.getElem?_eq_getElem hi]
  rfl
 have hmem : ∀ i, i < ops.size → ops.getD i default ∈ ops.toList := fun i hi => by
  have := hop i hi
  exact Array.mem_toList_iff.2 (Array.mem_of_getElem? this)
 intro fuel
 induction fuel with
 | zero => intro listed L s a w hl; omega
 | succ fuel ih =>
  intro listed L s a w hl hsz hcl hp hL hun h S
  have rdy : ∀ i, i ∈ Region.ready .any ops listed ↔ i < ops.size ∧ listed.getD i true = false ∧ (ops.getD i default).after.all (fun e => !Region.binds .any e || listed.getD e.on false) = true := by
   intro i
   unfold Region.ready
   rw [List.mem_filter, List.mem_range]
   constructor
   ·rintro ⟨h1, h2⟩
    rw [hop i h1] at h2
    simp only [Bool.and_eq_true, Bool.not_eq_true', Option.map_some, Option.getD_some] at h2
    exact ⟨h1, h2.1, h2.2⟩
   ·rintro ⟨h1, h2, h3⟩
    refine ⟨h1, ?_⟩
    rw [hop i h1]
    simp only [Bool.and_eq_true, Bool.not_eq_true', Option.map_some, Option.getD_some]
    exact ⟨h2, h3⟩
  -- an operation all of whose forerunners among the earlier ones have come up is ready
  have first : ∀ i, i < ops.size → listed.getD i true = false → i ≤ i0 → (∀ j, j < i → listed.getD j true ≠ false) → i ∈ Region.ready .any ops listed := by
   intro i hi hui hle hb
   rw [rdy]
   refine ⟨hi, hui, ?_⟩
   rw [Array.all_eq_true_iff_forall_mem]
   intro e he
   have h1 := Array.all_eq_true_iff_forall_mem.1 (chk i hi).1 e he
   rw [Bool.or_eq_true] at h1 ⊢
   rcases h1 with h1 | h1
   ·exact .inl h1
   ·refine .inr ?_
    have hlt : e.on < i := by simpa using h1
    have hs' : e.on < listed.size := by omega
    have h2 := hb e.on hlt
    simp only [Array.getD_eq_getD_getElem?, Array.getElem?_eq_getElem hs', Option.getD_some] at h2 ⊢
    simpa using h2
  have unl : ∀ j, j < ops.size → listed.getD j false = true → listed.getD j true = false → False := by
   intro j hj h4 h5
   have hs' : j < listed.size := by omega
   simp only [Array.getD_eq_getD_getElem?, Array.getElem?_eq_getElem hs', Option.getD_some] at h4 h5
   rw [h5] at h4
   cases h4
  constructor
  ·intro hr
   exfalso
   cases L with
   | nil =>
    have := first i0 hi0 hun (Nat.le_refl _) (fun j hj hc => by have := (hL j).2 ⟨hj, hc⟩; simp at this)
    rw [hr] at this
    cases this
   | cons j0 L' =>
    have hj0 := (hL j0).1 (by simp)
    have := first j0 (by omega) hj0.2 (by omega) (fun j hj hc => by
     have hm := (hL j).2 ⟨by omega, hc⟩
     rcases List.mem_cons.1 hm with rfl | hm
     ·omega
     ·have := (List.pairwise_cons.1 hp).1 _ hm; omega)
    rw [hr] at this
    cases this
  ·intro i hi
   obtain ⟨h1, h2, h3⟩ := (rdy i).1 hi
   -- what a ready operation is not hung on by those that have not come up
   have free : ∀ j, j < i → j < ops.size → listed.getD j true = false → Oper.apart ops (ops.getD j default) (ops.getD i default) = true ∧ compat E.pt ops j i = true := by
    intro j hji hjs hju
    rcases (chk i h1).2 j hji with (he | he) | he
    ·exfalso
     unfold edge at he
     obtain ⟨e, hem, he⟩ := List.any_eq_true.1 he
     rw [Bool.and_eq_true] at he
     have h4 := Array.all_eq_true_iff_forall_mem.1 h3 e (Array.mem_toList_iff.1 hem)
     rw [he.1] at h4
     rw [Nat.eq_of_beq_eq_true he.2] at h4
     exact unl j hjs (by simpa using h4) hju
    ·exact (unl j hjs (reach_listed hcl _ _ _ h3 he) hju).elim
    ·exact he
   by_cases hlt : i0 < i
   ·exact (unl i0 hi0 (reach_listed hcl _ _ _ h3 (hlater i hlt h1)) hun).elim
   by_cases heq : i = i0
   ·subst heq
    have hpx : X s := by
     refine hback _ s S.wf (fun y hy => ?_) h
     obtain ⟨j, hj, rfl⟩ := List.mem_map.1 hy
     have hjl := (hL j).1 hj
     exact ⟨(free j hjl.1 (by omega) hjl.2).1, by
      rw [List.mem_take_iff_getElem]
      refine ⟨j, by rw [Array.length_toList]; omega, ?_⟩
      rw [Array.getD_eq_getD_getElem?, Array.getElem?_eq_getElem (by omega)]
      simp⟩
    have hw := step_sound (all := ops) hE (kp := some Kp) S (hdst _ (hmem i h1)) (hstep s hpx) (Q := Q) (fun Kp' e => by injection e with e; subst e; exact hq) (next := wpAny E.P .any ops Q fuel (listed.setIfInBounds i true)) (fun s' a' w' hf => hf.elim)
    unfold Go.wpOp
    rw [hop i h1]
    generalize ops.getD i default = oi at hw ⊢
    dsimp only
    by_cases hwt : Region.wanted oi (yielded ops a.tmps) = true
    ·rw [if_pos hwt] at hw ⊢
     exact .inl hw
    ·rw [if_neg hwt] at hw ⊢
     exact hw
   ·have hil : i < i0 := by omega
    have hiL : i ∈ L := (hL i).2 ⟨hil, h2⟩
    obtain ⟨l1, l2, rfl⟩ := List.append_of_mem hiL
    have hpp := List.pairwise_append.1 hp
    have hbub : Pm.step E none ops (ops.getD i default) s (wpL E none ops ((l1.map fun i => ops.getD i default) ++ l2.map fun i => ops.getD i default) X) := by
     refine bubble h1 l1 s S.wf hpp.1 (fun j hj => ?_) (by simpa using h)
     have hji : j < i := hpp.2.2 j hj i (by simp)
     have hjl := (hL j).1 (by simp [hj])
     exact ⟨hji, free j hji (by omega) hjl.2⟩
    have hst : Pm.step E none ops (ops.getD i default) s (wpL E none ops ((l1 ++ l2).map fun i => ops.getD i default) X) := by
     rw [List.map_append]; exact hbub
    have hnext : ∀ s' a' w', wpL E none ops ((l1 ++ l2).map fun i => ops.getD i default) X s' → Sim E B D n s' a' w' → wpAny E.P .any ops Q fuel (listed.setIfInBounds i true) a' w' := by
     intro s' a' w' h' S'
     refine ih _ (l1 ++ l2) s' a' w' (by simp at hl ⊢; omega) (by simpa using hsz) ?_ ?_ ?_ ?_ h' S'
     ·have up : ∀ k, listed.getD k false = true → (listed.setIfInBounds i true).getD k false = true := by
       intro k hk
       by_cases hki : k = i
       ·subst hki
        have : k < listed.size := by omega
        simp [Array.getD_eq_getD_getElem?, this]
       ·simpa [Array.getD_eq_getD_getElem?, Array.getElem?_setIfInBounds_ne (Ne.symm hki)] using hk
      have key : ∀ k, (ops.getD k default).after.all (fun e => !Region.binds .any e || listed.getD e.on false) = true → (ops.getD k default).after.all (fun e => !Region.binds .any e || (listed.setIfInBounds i true).getD e.on false) = true := by
       intro k hk
       rw [Array.all_eq_true_iff_forall_mem] at hk ⊢
       intro e he
       have := hk e he
       rw [Bool.or_eq_true] at this ⊢
       exact this.imp id (up _)
      intro k hk hkl
      by_cases hki : k = i
      ·subst hki; exact key k h3
      ·refine key k (hcl k hk ?_)
       simpa [Array.getD_eq_getD_getElem?, Array.getElem?_setIfInBounds_ne (Ne.symm hki)] using hkl
     ·exact List.pairwise_append.2 ⟨hpp.1, (List.pairwise_cons.1 hpp.2.1).2, fun x hx y hy => hpp.2.2 x hx y (by simp [hy])⟩
     ·intro j
      have hj := hL j
      by_cases hji : j = i
      ·subst hji
       have hno : j ∉ l1 ++ l2 := by
        intro hm
        rcases List.mem_append.1 hm with hm | hm
        ·have := hpp.2.2 j hm j (by simp); omega
        ·have := (List.pairwise_cons.1 hpp.2.1).1 j hm; omega
       refine ⟨fun hm => absurd hm hno, fun hm => ?_⟩
       exfalso
       have hs' : j < listed.size := by omega
       have h9 := hm.2
       simp [Array.getD_eq_getD_getElem?, hs'] at h9
      ·rw [show (listed.setIfInBounds i true).getD j true = listed.getD j true by simp [Array.getD_eq_getD_getElem?, Array.getElem?_setIfInBounds_ne (Ne.symm hji)]]
       rw [← hj]
       simp [hji]
     ·rw [show (listed.setIfInBounds i true).getD i0 true = listed.getD i0 true by simp [Array.getD_eq_getD_getElem?, Array.getElem?_setIfInBounds_ne heq]]
      exact hun
    have hw := step_sound (all := ops) hE S (hdst _ (hmem i h1)) hst (Q := Q) (fun _ h => by cases h) hnext
    unfold Go.wpOp
    rw [hop i h1]
    generalize ops.getD i default = oi at hw ⊢
    dsimp only
    by_cases hwt : Region.wanted oi (yielded ops a.tmps) = true
    ·rw [if_pos hwt] at hw ⊢
     exact .inl hw
    ·rw [if_neg hwt] at hw ⊢
     exact hw
structure PanY (E : Env) (all : Array Oper) (x : Oper) (p : PV) (j : Nat) (Hs : List (List PV)) (vars : List (Nat × PV)) (s : St) : Prop where
 g : gd all s.sl x = some true
 h : ∃ (c : Call) (xo : Operand) (f : FuncId) (fa fb : List PV), x.op = .call c ∧ c.callee = .value xo ∧ clsOf E.pt x.op = .eff ∧ calleeF (ev s.sl xo) = some (f, fa, fb) ∧ SCallPj E f s.H (fa ++ c.args.toList.map (ev s.sl) ++ fb) p j
 keep : keepOK s.H j = true
 H : s.H.take j = Hs
 sl : ∀ q ∈ vars, cutP j (s.sl q.1) = q.2
def KpY (pv : PV) (Hs : List (List PV)) (vars : List (Nat × PV)) (p : PV) (s : St) : Prop := p = pv ∧ s.H = Hs ∧ ∀ q ∈ vars, s.sl q.1 = q.2
theorem PanY.step {all : Array Oper} {x : Oper} {p : PV} {j : Nat} {Hs : List (List PV)} {vars : List (Nat × PV)} {s : St} (h : PanY E all x p j Hs vars s) : Pm.step E (some (KpY p Hs vars)) all x s fun _ => False := by
 obtain ⟨c, xo, f, fa, fb, k1, k2, k3, k4, k5⟩ := h.h
 unfold Pm.step
 rw [h.g]
 dsimp only
 rw [wpOp_def, k3, k1]
 dsimp only
 rw [k2]
 dsimp only
 rw [k4]
 exact Or.inr (Or.inr (Or.inl ⟨p, j, k5, h.keep, rfl, h.H, h.sl⟩))
theorem PanY.back {all : Array Oper} {x : Oper} {p : PV} {j : Nat} {Hs : List (List PV)} {vars : List (Nat × PV)} : ∀ (l : List Oper) (s : St), WF s → (∀ y ∈ l, Oper.apart all y x = true ∧ clsOf E.pt y.op = .val ∧ ∀ q ∈ vars, y.dst ≠ some q.1) → wpL E none all l (PanY E all x p j Hs vars) s → PanY E all x p j Hs vars s
 | [], s, _, _, h => h
 | y :: l, s, hw, hl, h => by
  obtain ⟨hap, hc, hd⟩ := hl y (by simp)
  obtain ⟨a1, a2, a3⟩ := Oper.apart_spec hap
  have h2 := step_wf' hw (wpL_cons.1 h).2
  obtain ⟨v, add, hSR, hw', h4⟩ := (step_SR (by rw [hc]; simp)).1 h2
  have hadd : add = [] := by
   rcases hSR with ⟨-, -, h⟩ | ⟨-, -, -, h⟩ | ⟨-, h, -⟩
   ·exact h
   ·exact h
   ·rw [hc] at h; cases h
  subst hadd
  have ih := PanY.back l _ hw' (fun z hz => hl z (by simp [hz])) h4
  obtain ⟨g, ⟨c, xo, f, fa, fb, k1, k2, k3, k4, k5⟩, k6, k7, k8⟩ := ih
  dsimp only at g k4 k5 k6 k7 k8
  rw [List.append_nil] at k5 k6 k7
  rw [gd_upd a1] at g
  have ag : Agree x.op (upd s.sl y.dst v) s.sl := agree_upd (all := all) a1
  have e1 : ev (upd s.sl y.dst v) xo = ev s.sl xo := ag xo (by rw [k1]; simp [Op.operands, Call.operands, k2])
  have e2 : c.args.toList.map (ev (upd s.sl y.dst v)) = c.args.toList.map (ev s.sl) := ev_list fun z hz => ag z (by rw [k1]; simp [Op.operands, Call.operands]; exact .inr (by simpa using hz))
  rw [e1] at k4
  rw [e2] at k5
  refine ⟨g, ⟨c, xo, f, fa, fb, k1, k2, k3, k4, k5⟩, k6, k7, fun q hq => ?_⟩
  have := k8 q hq
  rwa [upd_other (hd q hq)] at this
theorem region_panY (hE : EnvOK E) {id : Nat} {ops : Array Oper} (hchk : chkDraw E.pt ops = true) (hdst : (ops.toList.all fun o => match o.dst with
  | none => true
  | some d => decide (d < n)) = true) {p : PV} {j : Nat} {Hs : List (List PV)} {vars : List (Nat × PV)} {Q : Exit → Act → World → Prop} (hq : ∀ ch a w, PanOK E B D n (KpY p Hs vars) ch a w → Q (.panic ch) a w) {l1 l2 : List Oper} {x : Oper} (he : ops.toList = l1 ++ x :: l2)
  (hx : lastB E.pt ops x = true) (hval : (l1.all fun y => (match clsOf E.pt y.op with | .val => true | _ => false) && vars.all fun q => y.dst != some q.1) = true) (h : wpL E none ops l1 (PanY E ops x p j Hs vars) s) (S : Sim E B D n s a w) : (Code.region id ops true).wp E.P Q a w := by
 refine wp_region_any hE.mixed ?_
 obtain ⟨q1, q2, q3, q4⟩ := lastB_at he hx
 have htake : ops.toList.take l1.length = l1 := by rw [he, List.take_left]
 refine panY_sound hE hchk (fun o ho d hd => ?_) hq (X := PanY E ops x p j Hs vars) (i0 := l1.length) (fun l s hw hl h => PanY.back l s hw (fun y hy => ?_) h) (fun s hX => by rw [q2]; exact hX.step) q1 q3 ops.size _ (List.range l1.length) s a _ (by simpa using q1) (by simp) (fun k hk hl => by simp [Array.getD_eq_getD_getElem?, hk] at hl) List.pairwise_lt_range (fun i => ?_) (by simp [Array.getD_eq_getD_getElem?, q1]) ?_ (S.drew hE _)
 ·have := List.all_eq_true.1 hdst o ho
  rw [hd] at this
  exact of_decide_eq_true this
 ·obtain ⟨h1, h2⟩ := hl y hy
  rw [q2] at h1
  rw [htake] at h2
  have h3 := List.all_eq_true.1 hval y h2
  rw [Bool.and_eq_true] at h3
  refine ⟨h1, ?_, fun q hq e => ?_⟩
  ·have := h3.1
   revert this
   cases clsOf E.pt y.op <;> simp
  ·have := List.all_eq_true.1 h3.2 q hq
   rw [e] at this
   simp at this
 ·rw [List.mem_range]
  constructor
  ·intro hi
   exact ⟨hi, by simp [Array.getD_eq_getD_getElem?, show i < ops.size by omega]⟩
  ·exact fun h => h.1
 ·have e1 : (List.range l1.length).map (fun i => ops.getD i default) = l1 := by
   apply List.ext_getElem?
   intro i
   by_cases hi : i < l1.length
   ·rw [List.getElem?_map, List.getElem?_range hi, Option.map_some, Array.getD_eq_getD_getElem?, ← Array.getElem?_toList, he, List.getElem?_append_left hi, List.getElem?_eq_getElem hi]
    rfl
   ·rw [List.getElem?_eq_none (by simp; omega), List.getElem?_eq_none (by omega)]
  rw [e1]
  exact h
end
end Go.Proofs.YtgpkppohfodhdaaGreatDoor.Va
namespace Go.Proofs.YtgpkppohfodhdaaGreatDoor.Va
open Go Go.RowKit Go.Proofs.YtgpkppohfodhdaaGreatDoor.Pm Go.Proofs.YtgpkppohfodhdaaGreatDoor.Pl
open Go.Proofs.YtgpkppohfodhdaaGreatDoor.Pr (minV wkTup)
set_option linter.unusedVariables false
set_option linter.unusedSimpArgs false
set_option maxHeartbeats 4000000
set_option maxRecDepth 8000
@[reducible] def resV (n : Int) (b : Bool) (e : Int) : List (List PV) := [[pI n], [pB b], [pI e]]
theorem catch_nil (n e : Int) (b : Bool) : OkD E 33 (resV n b e) [.ptr 0 0, .ptr 1 0, .ptr 2 0] .nif (resV n b e) := by
 refine OkD.enter hE Tryz.func33 rfl (by decide +kernel) rfl rfl rfl rfl (Nat.le_of_ble_eq_true rfl) rfl (by kernel_rfl) rfl rfl (Nat.le_of_ble_eq_true rfl) rfl rfl ?_
 exact ⟨_, rfl, Wk.refl _, rfl, .cons (WkL.refl _) rfl (.cons (WkL.refl _) rfl (.cons (WkL.refl _) rfl (.nil _)))⟩
theorem catch_pan (n e e' : Int) (b : Bool) : OkD E 33 (resV n b e) [.ptr 0 0, .ptr 1 0, .ptr 2 0] (wr e') (resV 0 false e') := by
 refine OkD.enter hE Tryz.func33 rfl (by decide +kernel) rfl rfl rfl rfl (Nat.le_of_ble_eq_true rfl) rfl (by kernel_rfl) rfl rfl (Nat.le_of_ble_eq_true rfl) rfl rfl ?_
 exact ⟨_, rfl, Wk.refl _, rfl, .cons (WkL.refl _) rfl (.cons (WkL.refl _) rfl (.cons (WkL.refl _) rfl (.nil _)))⟩
@[reducible] def tupA (r : Am) : PV := .tup [pI (amN r), pB (amB r), pI (amE r)]
@[reducible] def boxX (k n : Int) (nm : ByteArray) (xs : List Ex) : List PV := [pI k, pI n, pS nm, .c (.row (encL xs))]
theorem right_fine {x : Ex} (h : isRight x = true) : isFine 32 false x = true := by
 unfold isRight at h
 rw [Bool.and_eq_true] at h
 exact h.1
theorem eval_er {k n : Int} {nm : ByteArray} {xs : List Ex} {l : List Of} (hl : l.length ≤ 1000000) (hL : rightO l = true) (hR : isRight ⟨k, n, nm, xs⟩ = true) (gR : Ok E 29 [] [pE ⟨k, n, nm, xs⟩] (pB true) []) {e : Int} (hP : OkP E 35 [] [pM l, pE ⟨k, n, nm, xs⟩] (wr e)) :
  Ok E 21 [] [pE ⟨k, n, nm, xs⟩, .c (.row (rowO l))] (.tup [pI 0, pB false, pI e]) [] := by
 have gL := vRight_ok l (by omega)
 rw [hL] at gL
 have gO := of_ok l hl
 refine Ok.deferred (g := 33) (avl := [.p 1 0, .p 2 0, .p 3 0]) hE Tryz.func21 rfl (by decide +kernel) rfl rfl (Nat.le_of_ble_eq_true rfl) rfl fun B a w hB S => ?_
 have hB0 : B.m0 = [] := List.eq_nil_of_length_eq_zero hB
 refine hand_seq hE (by kernel_rfl) (N := fun s => s = ⟨upd (upd (upd (upd (slots [pE ⟨k, n, nm, xs⟩, .c (.row (rowO l))]) (some 2) (.ptr 0 0)) (some 4) (.ptr 1 0)) (some 5) (.ptr 2 0)) (some 6) (.ptr 3 0), [boxX k n nm xs, [pI 0], [pB false], [pI 0]], []⟩) ?_ S ?_
 ·exact Eq.refl (α := St) _
 rintro _ a1 w1 rfl S1
 refine hand_seq hE (by kernel_rfl) (N := fun s => s.sl 1 = .c (.row (rowO l)) ∧ s.sl 2 = .ptr 0 0 ∧ s.sl 4 = .ptr 1 0 ∧ s.sl 5 = .ptr 2 0 ∧ s.sl 6 = .ptr 3 0 ∧ s.H = [boxX k n nm xs, [pI 0], [pB false], [pI 0]] ∧ s.T = []) ?_ S1 ?_
 ·refine ⟨_, CallR.mk1 gL rfl rfl, ?_⟩
  refine ⟨_, CallR.mk1 gR rfl rfl, ?_⟩
  exact ⟨rfl, rfl, rfl, rfl, rfl, rfl, rfl⟩
 rintro ⟨sl, H, T⟩ a2 w2 ⟨k1, k2, k4, k5, k6, kH, kT⟩ S2
 dsimp only at k1 k2 k4 k5 k6 kH kT
 subst kH; subst kT
 rw [← setAll_of (f := sl) (l := [(1, PV.c (.row (rowO l))), (2, PV.ptr 0 0), (4, PV.ptr 1 0), (5, PV.ptr 2 0), (6, PV.ptr 3 0)]) ⟨k1, k2, k4, k5, k6, trivial⟩] at S2
 clear k1 k2 k4 k5 k6
 refine wp_seq (region_defer (o1 := _) (o2 := _) (t := 15) (g := 33) (cs := #[.tmp 4, .tmp 5, .tmp 6]) (avl := [.p 1 0, .p 2 0, .p 3 0]) rfl rfl rfl rfl (Nat.le_of_ble_eq_true rfl) rfl rfl rfl rfl S2 fun a3 S3 => ?_)
 refine wp_seq ?_
 refine region_panY hE (by kernel_rfl) (by kernel_rfl) (p := wr e) (j := 4) (Hs := [boxX k n nm xs, [pI 0], [pB false], [pI 0]]) (vars := [(4, .ptr 1 0), (5, .ptr 2 0), (6, .ptr 3 0)]) ?_ (l1 := [_, _, _]) (x := _) (l2 := _) rfl (by kernel_rfl) (by kernel_rfl) ?_ S3
 ·rintro ch a w ⟨-, p, v, rfl, -, s, ⟨rfl, hH, hv⟩, hs⟩
  obtain ⟨sl3, H3, T3⟩ := s
  dsimp only at hH hv
  subst hH
  rcases hs with hs | hs
  ·cases hs
  ·refine ⟨wr e, v, _, rfl, rfl, ?_, hs (by rw [hB0]; exact Nat.zero_le _) rfl⟩
   rw [← setAll_of (f := sl3) (l := [(4, PV.ptr 1 0), (5, PV.ptr 2 0), (6, PV.ptr 3 0)]) ⟨hv (4, .ptr 1 0) (by simp), hv (5, .ptr 2 0) (by simp), hv (6, .ptr 3 0) (by simp), trivial⟩]
   exact ⟨[1, 2, 3], _, _, _, Hand.of rfl rfl (by simp) rfl rfl, catch_pan 0 0 e false, rfl, rfl, _, rfl, Wk.refl _, rfl, .nil _⟩
 ·refine ⟨_, CallR.mk1 gO rfl rfl, ?_⟩
  refine ⟨rfl, ⟨_, _, _, _, _, rfl, rfl, rfl, rfl, ⟨[], [], _, Hand.of rfl rfl (by simp) rfl rfl, hP, rfl, rfl⟩⟩, rfl, rfl, ?_⟩
  intro q hq
  simp only [List.mem_cons, List.not_mem_nil, or_false] at hq
  rcases hq with rfl | rfl | rfl <;> rfl
theorem eval_is {k n : Int} {nm : ByteArray} {xs : List Ex} {l : List Of} (hl : l.length ≤ 1000000) (hL : rightO l = true) (hR : isRight ⟨k, n, nm, xs⟩ = true) (gR : Ok E 29 [] [pE ⟨k, n, nm, xs⟩] (pB true) []) {z : Int} {b : Bool} (hP : Ok E 35 [] [pM l, pE ⟨k, n, nm, xs⟩] (.tup [pI z, pB b]) []) :
  Ok E 21 [] [pE ⟨k, n, nm, xs⟩, .c (.row (rowO l))] (.tup [pI z, pB b, pI 0]) [] := by
 have gL := vRight_ok l (by omega)
 rw [hL] at gL
 have gO := of_ok l hl
 refine Ok.enterD (g := 33) hE [.p 1 0, .p 2 0, .p 3 0] 2 Tryz.func21 rfl (by decide +kernel) rfl rfl (Nat.le_of_ble_eq_true rfl) rfl rfl ?_
 refine ⟨by kernel_rfl, ?_⟩
 refine ⟨by kernel_rfl, ?_⟩
 refine ⟨_, CallR.mk1 gL rfl rfl, ?_⟩
 refine ⟨_, CallR.mk1 gR rfl rfl, ?_⟩
 refine ⟨_, _, _, _, _, _, _, rfl, rfl, ⟨rfl, rfl, rfl, rfl, rfl, rfl⟩, rfl, by kernel_rfl, rfl, ?_⟩
 refine ⟨_, CallR.mk1 gO rfl rfl, ?_⟩
 refine .inl ⟨_, _, SCallR.none hP rfl rfl, ?_⟩
 exact ⟨[1, 2, 3], _, _, _, Hand.of rfl rfl (by simp) rfl rfl, catch_nil z 0 b, rfl, rfl, _, rfl, Wk.refl _, rfl, .nil _⟩
theorem eval_wrong {k n : Int} {nm : ByteArray} {xs : List Ex} {l : List Of} (hl : l.length ≤ 17592186043904) {bL bR : Bool} (hL : rightO l = bL) (gR : Ok E 29 [] [pE ⟨k, n, nm, xs⟩] (pB bR) []) (h : (bL && bR) = false) :
  Ok E 21 [] [pE ⟨k, n, nm, xs⟩, .c (.row (rowO l))] (.tup [pI 0, pB false, pI 1]) [] := by
 have gL := vRight_ok l hl
 rw [hL] at gL
 cases bL with
 | false =>
  refine Ok.enterD (g := 33) hE [.p 1 0, .p 2 0, .p 3 0] 2 Tryz.func21 rfl (by decide +kernel) rfl rfl (Nat.le_of_ble_eq_true rfl) rfl rfl ?_
  refine ⟨by kernel_rfl, ?_⟩
  refine ⟨by kernel_rfl, ?_⟩
  refine ⟨_, CallR.mk1 gL rfl rfl, ?_⟩
  exact ⟨_, rfl, Wk.refl _, rfl, .nil _⟩
 | true =>
  cases bR with
  | true => cases h
  | false =>
   refine Ok.enterD (g := 33) hE [.p 1 0, .p 2 0, .p 3 0] 2 Tryz.func21 rfl (by decide +kernel) rfl rfl (Nat.le_of_ble_eq_true rfl) rfl rfl ?_
   refine ⟨by kernel_rfl, ?_⟩
   refine ⟨by kernel_rfl, ?_⟩
   refine ⟨_, CallR.mk1 gL rfl rfl, ?_⟩
   refine ⟨_, CallR.mk1 gR rfl rfl, ?_⟩
   exact ⟨_, rfl, Wk.refl _, rfl, .nil _⟩
theorem Eval_ok (x : Ex) (l : List Of) (hr : Q.rngE x = true) (hs : size x ≤ 9223372036854775807) (hl : l.length ≤ 17592186043904) : Ok E 21 [] [pE x, .c (.row (rowO l))] (tupA (tellA x l)) [] := by
 obtain ⟨k, n, nm, xs⟩ := x
 have gR := right_ok ⟨k, n, nm, xs⟩ hr hs
 unfold tellA
 cases hL : rightO l with
 | false => exact eval_wrong hl hL gR (Bool.false_and _)
 | true =>
  cases hR : isRight ⟨k, n, nm, xs⟩ with
  | false =>
   rw [hR] at gR
   exact eval_wrong hl hL gR rfl
  | true =>
   rw [hR] at gR
   have h8 := (right_iff.1 hL).2.1
   have hE := (eval_all hL 32).1 _ (right_fine hR)
   show Ok E _ [] _ (tupA (evalE l ⟨k, n, nm, xs⟩)) []
   cases he : evalE l ⟨k, n, nm, xs⟩ with
   | er e => exact eval_er (by omega) hL hR gR (hE.er he).2
   | no => exact eval_is (by omega) hL hR gR (hE.no he)
   | am n => exact eval_is (by omega) hL hR gR (hE.am he)
end Go.Proofs.YtgpkppohfodhdaaGreatDoor.Va
namespace Go.Proofs.YtgpkppohfodhdaaGreatDoor.Va
open Go Go.RowKit Go.Proofs.YtgpkppohfodhdaaGreatDoor.Pm Go.Proofs.YtgpkppohfodhdaaGreatDoor.Pl
open Go.Proofs.YtgpkppohfodhdaaGreatDoor.Lx (sellerF)
set_option linter.unusedVariables false
set_option linter.unusedSimpArgs false
set_option maxHeartbeats 4000000
set_option maxRecDepth 8000
theorem idxO {E : Env} {t e s b : Nat} {zz : List CV} {ei : TI} {xs : List (List CV)} {x : List CV} {j : Nat} {n : Int} {k : IntKind} {q : Nat} (hx : xs[j]? = some x) (hn : n = (j : Int)) (hl : x.length = ei.size) (h1 : E.T t = some ⟨.slice e, s, zz, b⟩) (h2 : E.T e = some ei) :
  IdxAR E t (.orow xs q) (.c (.int k n)) (.iptr x) where
 h := by
  unfold indexAddrF
  rw [h1]
  dsimp only
  rw [h2]
  exact rowAtV hx hn hl
theorem arr2 {z : List (List Int)} {i : Nat} (hz : ∀ y ∈ z, y.length = 2 ∧ ∀ n ∈ y, I64 n) (hi : i < z.length) : ∃ a b, z[i]? = some [a, b] ∧ I64 a ∧ I64 b ∧ (encA z)[i]? = some [.int .i64 a, .int .i64 b] := by
 obtain ⟨y, hy⟩ : ∃ y, z[i]? = some y := ⟨_, List.getElem?_eq_getElem hi⟩
 obtain ⟨h1, h2⟩ := hz y (List.mem_of_getElem? hy)
 match y, h1 with
 | [a, b], _ => exact ⟨a, b, hy, h2 a (by simp), h2 b (by simp), by unfold encA; rw [List.getElem?_map, hy]; rfl⟩
theorem pick09_ok (c n : Int) (hc : I64 c) (hn : 0 < n) : Ok E 24 [] [pI c, pI n] (pI (Pm.pk c n)) [] := by
 obtain ⟨h0, h1⟩ := hc
 refine Ok.enter hE Tryz.func24 rfl (by decide +kernel) (by kernel_rfl) rfl rfl (Nat.le_of_ble_eq_true rfl) rfl ?_
 by_cases hneg : c < 0
 ·refine ⟨_, ltT hneg, ?_⟩
  refine ⟨_, addV rfl (by omega) (by omega), ?_⟩
  refine ⟨_, negV rfl (by omega) (by omega), ?_⟩
  refine ⟨_, remV (by omega) rfl, ?_⟩
  exact Ret.mk _ rfl (by show PV.c _ = _; rw [Pm.pk, if_pos hneg]) rfl
 ·refine ⟨_, ltN hneg, ?_⟩
  refine ⟨_, remV (by omega) rfl, ?_⟩
  exact Ret.mk _ rfl (by show PV.c _ = _; rw [Pm.pk, if_neg hneg]) rfl
def hereB (s : ByteArray) (l : List Of) : Bool := l.any fun o => eqB o.s s
def offStep (l : List Of) (y : List Int) : List Of := if l.length < 8 ∧ hereB (sellerF (y.getD 0 0)) l = false then l ++ [⟨sellerF (y.getD 0 0), 1 + Pm.pk (y.getD 1 0) 3000⟩] else l
def offN (z : List (List Int)) (i : Nat) : List Of := (z.take i).foldl offStep []
def offersF (z : List (List Int)) : List Of := z.foldl offStep []
theorem off_succ (z : List (List Int)) {i : Nat} {y : List Int} (h : z[i]? = some y) : offN z (i + 1) = offStep (offN z i) y := by
 unfold offN
 rw [List.take_add_one, h, List.foldl_append]; rfl
theorem off_full : ∀ (z : List (List Int)) (l : List Of), 8 ≤ l.length → z.foldl offStep l = l
 | [], _, _ => rfl
 | y :: z, l, h => by
  rw [List.foldl_cons, show offStep l y = l from if_neg (fun h2 => absurd h2.1 (by omega))]
  exact off_full z l h
theorem off_end (z : List (List Int)) (i : Nat) (h : 8 ≤ (offN z i).length ∨ z.length ≤ i) : offN z i = offersF z := by
 rcases h with h | h
 ·conv => rhs; rw [offersF, ← List.take_append_drop i z, List.foldl_append]
  exact (off_full _ _ h).symm
 ·unfold offN offersF
  rw [List.take_of_length_le h]
theorem off_len (z : List (List Int)) : ∀ i, (offN z i).length ≤ 8
 | 0 => Nat.zero_le _
 | i + 1 => by
  have ih := off_len z i
  cases hz : z[i]? with
  | none => unfold offN at ih ⊢; rw [List.take_add_one, hz]; simpa using ih
  | some y =>
   rw [off_succ z hz]
   unfold offStep
   split
   ·rw [List.length_append]; simp; omega
   ·exact ih
def offP (l : List Of) : PV := match l with
 | [] => .c .nil
 | o :: r => .orow (rowO (o :: r)) 0
def offT (l : List Of) : List (Nat × Nat) := match l with
 | [] => []
 | o :: r => [((o :: r).length, 53)]
theorem here_succ {s : ByteArray} {l : List Of} {j : Nat} {o : Of} (h : l[j]? = some o) : hereB s (l.take (j + 1)) = (hereB s (l.take j) || eqB o.s s) := by
 unfold hereB
 rw [List.take_add_one, h, List.any_append]
 simp
theorem Offers_ok (z : List (List Int)) (hz : ∀ y ∈ z, y.length = 2 ∧ ∀ n ∈ y, I64 n) (hl : z.length ≤ 9223372036854775807) : Ok E 12 [] [.c (.row (encA z))] (.c (.row (rowO (offersF z)))) [] := by
 have hzl : (encA z).length = z.length := by unfold encA; simp
 refine Ok.enter hE Tryz.func12 rfl (by decide +kernel) (by kernel_rfl) rfl rfl (Nat.le_of_ble_eq_true rfl) rfl ?_
 refine Loop.run (α := Nat) (fun i => i ≤ z.length) (fun i => [(0, .c (.row (encA z))), (3, offP (offN z i)), (4, pI i)]) (fun _ => []) (fun i => offT (offN z i)) (fun i => z.length - i) 0 (Nat.zero_le _) ⟨⟨rfl, rfl, rfl, trivial⟩, rfl, rfl⟩ ?_
 rintro i f hi
 have h8 := off_len z i
 by_cases hend : i < z.length
 ·obtain ⟨a, b, hy, ha, hb, hab⟩ := arr2 hz hend
  have hsucc := off_succ z hy
  obtain ⟨l, hlo⟩ : ∃ l, offN z i = l := ⟨_, rfl⟩
  rw [hlo] at hsucc h8
  have hS := Lx.Seller_ok a ha
  have hP := pick09_ok b 3000 hb (by decide)
  obtain ⟨q0, q1⟩ := Pm.pk_rng (c := b) (n := 3000) (by decide)
  have hst : offStep l [a, b] = if l.length < 8 ∧ hereB (sellerF a) l = false then l ++ [⟨sellerF a, 1 + Pm.pk b 3000⟩] else l := rfl
  rw [hst] at hsucc
  obtain ⟨s, hs⟩ : ∃ s, sellerF a = s := ⟨_, rfl⟩
  obtain ⟨p, hp⟩ : ∃ p, Pm.pk b 3000 = p := ⟨_, rfl⟩
  rw [hs] at hS hsucc
  rw [hp] at hP hsucc q0 q1
  rw [hlo]
  cases l with
  | nil =>
   rw [if_pos ⟨by decide, rfl⟩] at hsucc
   refine ⟨_, ltT (by rw [hzl]; omega), ?_⟩
   refine ⟨_, ltT (by decide), ?_⟩
   refine ⟨_, idxV (j := i) hab rfl rfl rfl rfl, ?_⟩
   refine ⟨_, ⟨rfl⟩, ?_⟩
   refine ⟨_, CallR.mk1 hS rfl rfl, ?_⟩
   refine Loop.run (α := Nat) (fun j => j = 0) (fun j => [(0, .c (.row (encA z))), (3, .c .nil), (4, pI i), (5, pS s), (6, pB false), (7, pI 0)]) (fun _ => []) (fun _ => []) (fun j => 0) 0 rfl ⟨⟨rfl, rfl, rfl, rfl, rfl, rfl, trivial⟩, rfl, rfl⟩ ?_
   rintro j f rfl
   refine ⟨_, ltN (by decide), ?_⟩
   refine ⟨_, idxV (j := i) hab rfl rfl rfl rfl, ?_⟩
   refine ⟨_, ⟨rfl⟩, ?_⟩
   refine ⟨_, CallR.mk1 hP rfl rfl, ?_⟩
   refine ⟨_, addV (z := 1 + p) rfl (by omega) (by omega), ?_⟩
   refine ⟨_, ⟨_, rfl, rfl⟩, ?_⟩
   refine ⟨_, _, AppR.first1 (x := [.str s, .int .i64 (1 + p)]) rfl rfl (by decide) rfl rfl rfl (by decide), ?_⟩
   refine ⟨_, addV (z := ((i + 1 : Nat) : Int)) (by push_cast; rfl) (by omega) (by omega), ?_⟩
   exact ⟨i + 1, by show i + 1 ≤ z.length; omega, by show z.length - (i + 1) < z.length - i; omega, ⟨rfl, by rw [hsucc]; rfl, rfl, trivial⟩, rfl, by rw [hsucc]; rfl⟩
  | cons o r =>
   have hrl : (rowO (o :: r)).length = (o :: r).length := rowO_len _
   by_cases hfull : (o :: r).length < 8
   ·refine ⟨_, ltT (by rw [hzl]; omega), ?_⟩
    refine ⟨_, ltT (by rw [hrl]; omega), ?_⟩
    refine ⟨_, idxV (j := i) hab rfl rfl rfl rfl, ?_⟩
    refine ⟨_, ⟨rfl⟩, ?_⟩
    refine ⟨_, CallR.mk1 hS rfl rfl, ?_⟩
    refine Loop.run (α := Nat) (fun j => j ≤ (o :: r).length) (fun j => [(0, .c (.row (encA z))), (3, .orow (rowO (o :: r)) 0), (4, pI i), (5, pS s), (6, pB (hereB s ((o :: r).take j))), (7, pI j)]) (fun _ => []) (fun _ => [((o :: r).length, 53)]) (fun j => (o :: r).length - j) 0 (Nat.zero_le _) ⟨⟨rfl, rfl, rfl, rfl, rfl, rfl, trivial⟩, rfl, rfl⟩ ?_
    rintro j f hj
    have hj : j ≤ (o :: r).length := hj
    by_cases hjl : j < (o :: r).length
    ·obtain ⟨q, hq⟩ : ∃ q, (o :: r)[j]? = some q := ⟨_, List.getElem?_eq_getElem hjl⟩
     have hg := rowO_get hq
     have hh := here_succ (s := s) hq
     have hnext : BinR E 3 .add (.c (.int .i64 (j : Int))) (.c (.int .i64 1)) (.c (.int .i64 ((j + 1 : Nat) : Int))) := addV (by push_cast; rfl) (by omega) (by omega)
     cases hb2 : hereB s ((o :: r).take j) with
     | true =>
      rw [hb2] at hh
      refine ⟨_, ltT (by rw [hrl]; omega), ?_⟩
      refine ⟨_, hnext, ?_⟩
      exact ⟨j + 1, by show j + 1 ≤ (o :: r).length; omega, by show (o :: r).length - (j + 1) < (o :: r).length - j; omega, ⟨rfl, rfl, rfl, rfl, by rw [hh]; rfl, rfl, trivial⟩, rfl, rfl⟩
     | false =>
      rw [hb2] at hh
      refine ⟨_, ltT (by rw [hrl]; omega), ?_⟩
      refine ⟨_, idxO (j := j) hg rfl rfl rfl rfl, ?_⟩
      refine ⟨_, strEqV rfl, ?_⟩
      refine ⟨_, hnext, ?_⟩
      exact ⟨j + 1, by show j + 1 ≤ (o :: r).length; omega, by show (o :: r).length - (j + 1) < (o :: r).length - j; omega, ⟨rfl, rfl, rfl, rfl, by rw [hh]; rfl, rfl, trivial⟩, rfl, rfl⟩
    ·have e : j = (o :: r).length := by omega
     subst e
     rw [List.take_length]
     cases hb2 : hereB s (o :: r) with
     | true =>
      rw [if_neg (by rw [hb2]; simp)] at hsucc
      refine ⟨_, ltN (by rw [hrl]; omega), ?_⟩
      refine ⟨_, addV (z := ((i + 1 : Nat) : Int)) (by push_cast; rfl) (by omega) (by omega), ?_⟩
      exact ⟨i + 1, by show i + 1 ≤ z.length; omega, by show z.length - (i + 1) < z.length - i; omega, ⟨rfl, by rw [hsucc]; rfl, rfl, trivial⟩, rfl, by rw [hsucc]; rfl⟩
     | false =>
      rw [if_pos ⟨hfull, hb2⟩] at hsucc
      have h4 : offT (offN z (i + 1)) = [((o :: r).length + 1, 53)] := by rw [hsucc]; show [(((o :: r) ++ [(⟨s, 1 + p⟩ : Of)]).length, _)] = _; rw [List.length_append]; rfl
      have hro : rowO ((o :: r) ++ [⟨s, 1 + p⟩]) = rowO (o :: r) ++ [[.str s, .int .i64 (1 + p)]] := by unfold rowO; rw [List.map_append]; rfl
      have h3 : offP (offN z (i + 1)) = .orow (rowO (o :: r) ++ [[.str s, .int .i64 (1 + p)]]) 0 := by rw [hsucc]; exact congrArg (fun r => PV.orow r 0) hro
      refine ⟨_, ltN (by rw [hrl]; omega), ?_⟩
      refine ⟨_, idxV (j := i) hab rfl rfl rfl rfl, ?_⟩
      refine ⟨_, ⟨rfl⟩, ?_⟩
      refine ⟨_, CallR.mk1 hP rfl rfl, ?_⟩
      refine ⟨_, addV (z := 1 + p) rfl (by omega) (by omega), ?_⟩
      refine ⟨_, ⟨_, rfl, rfl⟩, ?_⟩
      refine ⟨_, _, AppR.more1 (x := [.str s, .int .i64 (1 + p)]) (o :: r).length rfl rfl (by decide) rfl rfl hrl (rowO_two _) rfl rfl (by omega) (by show _ * 24 ≤ _; omega), ?_⟩
      refine ⟨_, addV (z := ((i + 1 : Nat) : Int)) (by push_cast; rfl) (by omega) (by omega), ?_⟩
      exact ⟨i + 1, by show i + 1 ≤ z.length; omega, by show z.length - (i + 1) < z.length - i; omega, ⟨rfl, by rw [h3]; rfl, rfl, trivial⟩, rfl, by rw [h4]; rfl⟩
   ·have hfin := off_end z i (.inl (by rw [hlo]; omega))
    rw [hlo] at hfin
    refine ⟨_, ltT (by rw [hzl]; omega), ?_⟩
    refine ⟨_, ltN (by rw [hrl]; omega), ?_⟩
    exact ⟨_, rfl, by rw [← hfin]; exact Pr.wkOrow, rfl, .nil _⟩
 ·have hfin := off_end z i (.inr (by omega))
  cases hlo : offN z i with
  | nil =>
   rw [hlo] at hfin
   refine ⟨_, ltN (by rw [hzl]; omega), ?_⟩
   exact ⟨_, rfl, by rw [← hfin]; exact Wk.nilRow, rfl, .nil _⟩
  | cons o r =>
   rw [hlo] at hfin
   refine ⟨_, ltN (by rw [hzl]; omega), ?_⟩
   exact ⟨_, rfl, by rw [← hfin]; exact Pr.wkOrow, rfl, .nil _⟩
end Go.Proofs.YtgpkppohfodhdaaGreatDoor.Va
namespace Go.Proofs.YtgpkppohfodhdaaGreatDoor.Va
open Go Go.RowKit Go.Proofs.YtgpkppohfodhdaaGreatDoor.Pm Go.Proofs.YtgpkppohfodhdaaGreatDoor.Pl
open Go.Proofs.YtgpkppohfodhdaaGreatDoor.Lx (sellerF)
set_option linter.unusedVariables false
set_option linter.unusedSimpArgs false
set_option maxHeartbeats 4000000
set_option maxRecDepth 8000
theorem seller_all : ∀ k, k < 60 → Lx.isName (B ((Lx.nameBs.getD (k % 6) e0).data.toList ++ digs (k / 6))) = true := by decide +kernel
theorem seller_name (n : Int) : Lx.isName (sellerF n) = true := by
 have := (Lx.pkN_eq (c := n) (n := 60) (by decide)).2
 exact seller_all _ (by omega)
theorem here_mem {s : ByteArray} {l : List Of} (h : hereB s l = false) : s ∉ l.map Of.s := by
 intro hm
 obtain ⟨o, ho, he⟩ := List.mem_map.1 hm
 unfold hereB at h
 rw [List.any_eq_false] at h
 exact h o ho (eqB_iff.2 he)
theorem step_right {l : List Of} (h : rightO l = true) (y : List Int) : rightO (offStep l y) = true := by
 unfold offStep
 split
 ·rename_i hc
  rw [right_iff] at h ⊢
  obtain ⟨q0, q1⟩ := Pm.pk_rng (c := y.getD 1 0) (n := 3000) (by decide)
  refine ⟨fun o ho => ?_, by rw [List.length_append]; show l.length + 1 ≤ 8; omega, ?_⟩
  ·rcases List.mem_append.1 ho with ho | ho
   ·exact h.1 o ho
   ·have : o = ⟨sellerF (y.getD 0 0), 1 + Pm.pk (y.getD 1 0) 3000⟩ := by simpa using ho
    subst this
    unfold okO
    rw [seller_name, decide_eq_true (show 1 ≤ 1 + Pm.pk (y.getD 1 0) 3000 by omega), decide_eq_true (show 1 + Pm.pk (y.getD 1 0) 3000 ≤ 1000000000000 by omega)]
    rfl
  ·rw [List.map_append, List.nodup_append]
   refine ⟨h.2.2, by simp, ?_⟩
   rintro x hx z hz rfl
   have hz : x = sellerF (y.getD 0 0) := by simpa using hz
   rw [hz] at hx
   exact here_mem hc.2 hx
 ·exact h
theorem off_right' : ∀ (z : List (List Int)) (l : List Of), rightO l = true → rightO (z.foldl offStep l) = true
 | [], _, h => h
 | y :: z, l, h => off_right' z _ (step_right h y)
theorem off_right (z : List (List Int)) : rightO (offersF z) = true := off_right' z [] rfl
theorem off_len' (z : List (List Int)) : (offersF z).length ≤ 8 := (right_iff.1 (off_right z)).2.1
theorem okO_false {l : List Of} {o : Of} {i : Nat} (ho : l[i]? = some o) (h : okO o = false) : rightO l = false := by
 cases e : rightO l
 ·rfl
 ·have := (right_iff.1 e).1 o (List.mem_of_getElem? ho)
  rw [h] at this; cases this
theorem dup_false {l : List Of} {o q : Of} {i j : Nat} (hji : j < i) (ho : l[i]? = some o) (hq : l[j]? = some q) (h : eqB o.s q.s = true) : rightO l = false := by
 cases e : rightO l
 ·rfl
 ·exfalso
  have hn := (right_iff.1 e).2.2
  have := eqB_iff.1 h
  have h1 : (l.map Of.s)[i]? = some o.s := by rw [List.getElem?_map, ho]; rfl
  have h2 : (l.map Of.s)[j]? = some q.s := by rw [List.getElem?_map, hq]; rfl
  rw [this] at h1
  have hi : j < (l.map Of.s).length := (List.getElem?_eq_some_iff.1 h2).1
  have := (List.getElem?_inj hi hn).1 (h2.trans h1.symm)
  omega
theorem rRight9_ok (l : List Of) (hl : l.length ≤ 17592186043904) : Ok E 36 [] [.c (.row (rowO l))] (pB (rightO l)) [] := by
 have hel := rowO_len l
 obtain ⟨v, hv⟩ : ∃ v, rightO l = v := ⟨_, rfl⟩
 rw [hv]
 by_cases h8 : l.length ≤ 8
 ·refine Ok.enter hE Tryz.func36 rfl (by decide +kernel) (by kernel_rfl) rfl rfl (Nat.le_of_ble_eq_true rfl) rfl ?_
  refine ⟨_, gtN (by rw [hel]; omega), ?_⟩
  refine Loop.run (α := Nat) (fun i => i ≤ l.length ∧ (∀ o ∈ l.take i, okO o = true) ∧ ((l.take i).map Of.s).Nodup) (fun i => [(0, .c (.row (rowO l))), (3, pI i)]) (fun _ => []) (fun _ => []) (fun i => l.length - i) 0 ⟨Nat.zero_le _, fun o ho => by simp at ho, List.nodup_nil⟩ ⟨⟨rfl, rfl, trivial⟩, rfl, rfl⟩ ?_
  rintro i f ⟨hi, hok, hnd⟩
  by_cases hlt : i < l.length
  ·obtain ⟨o, ho⟩ : ∃ o, l[i]? = some o := ⟨_, List.getElem?_eq_getElem hlt⟩
   have hg := rowO_get ho
   have ht : l.take (i + 1) = l.take i ++ [o] := by rw [List.take_add_one, ho]; rfl
   have hN := Lx.rName_ok o.s
   by_cases hn : Lx.isName o.s = true
   ·rw [hn] at hN
    by_cases h1 : o.p < 1
    ·have hf : false = v := by rw [← hv]; exact (okO_false ho (by unfold okO; rw [decide_eq_false (show ¬ 1 ≤ o.p by omega)]; simp)).symm
     refine ⟨_, ltT (by rw [hel]; omega), ?_⟩
     refine ⟨_, idxV (j := i) hg rfl rfl rfl rfl, ?_⟩
     refine ⟨_, CallR.mk1 hN rfl rfl, ?_⟩
     refine ⟨_, idxV (j := i) hg rfl rfl rfl rfl, ?_⟩
     refine ⟨_, ltT h1, ?_⟩
     exact Ret.mk _ rfl (congrArg pB hf) rfl
    ·by_cases h2 : o.p > 1000000000000
     ·have hf : false = v := by rw [← hv]; exact (okO_false ho (by unfold okO; rw [decide_eq_false (show ¬ o.p ≤ 1000000000000 by omega)]; simp)).symm
      refine ⟨_, ltT (by rw [hel]; omega), ?_⟩
      refine ⟨_, idxV (j := i) hg rfl rfl rfl rfl, ?_⟩
      refine ⟨_, CallR.mk1 hN rfl rfl, ?_⟩
      refine ⟨_, idxV (j := i) hg rfl rfl rfl rfl, ?_⟩
      refine ⟨_, ltN h1, ?_⟩
      refine ⟨_, idxV (j := i) hg rfl rfl rfl rfl, ?_⟩
      refine ⟨_, gtT h2, ?_⟩
      exact Ret.mk _ rfl (congrArg pB hf) rfl
     ·have hoo : okO o = true := by unfold okO; rw [hn, decide_eq_true (show 1 ≤ o.p by omega), decide_eq_true (show o.p ≤ 1000000000000 by omega)]; rfl
      refine ⟨_, ltT (by rw [hel]; omega), ?_⟩
      refine ⟨_, idxV (j := i) hg rfl rfl rfl rfl, ?_⟩
      refine ⟨_, CallR.mk1 hN rfl rfl, ?_⟩
      refine ⟨_, idxV (j := i) hg rfl rfl rfl rfl, ?_⟩
      refine ⟨_, ltN h1, ?_⟩
      refine ⟨_, idxV (j := i) hg rfl rfl rfl rfl, ?_⟩
      refine ⟨_, gtN h2, ?_⟩
      refine Loop.run (α := Nat) (fun k => k ≤ i ∧ ∀ j, j < k → ∀ q, l[j]? = some q → eqB o.s q.s = false) (fun k => [(0, .c (.row (rowO l))), (3, pI i), (4, pI k)]) (fun _ => []) (fun _ => []) (fun k => i - k) 0 ⟨Nat.zero_le _, fun j hj => by omega⟩ ⟨⟨rfl, rfl, rfl, trivial⟩, rfl, rfl⟩ ?_
      rintro k f ⟨hk, hkk⟩
      by_cases hki : k < i
      ·obtain ⟨q, hq⟩ : ∃ q, l[k]? = some q := ⟨_, List.getElem?_eq_getElem (by omega)⟩
       have hgq := rowO_get hq
       cases hb : eqB o.s q.s with
       | true =>
        have hf : false = v := by rw [← hv]; exact (dup_false hki ho hq hb).symm
        refine ⟨_, ltT (by omega), ?_⟩
        refine ⟨_, idxV (j := i) hg rfl rfl rfl rfl, ?_⟩
        refine ⟨_, idxV (j := k) hgq rfl rfl rfl rfl, ?_⟩
        refine ⟨_, strEqV hb, ?_⟩
        exact Ret.mk _ rfl (congrArg pB hf) rfl
       | false =>
        refine ⟨_, ltT (by omega), ?_⟩
        refine ⟨_, idxV (j := i) hg rfl rfl rfl rfl, ?_⟩
        refine ⟨_, idxV (j := k) hgq rfl rfl rfl rfl, ?_⟩
        refine ⟨_, strEqV hb, ?_⟩
        refine ⟨_, addV (z := ((k + 1 : Nat) : Int)) (by push_cast; rfl) (by omega) (by omega), ?_⟩
        refine ⟨k + 1, ⟨by omega, fun j hj q' hq' => ?_⟩, by show i - (k + 1) < i - k; omega, ⟨rfl, rfl, rfl, trivial⟩, rfl, rfl⟩
        by_cases hjk : j < k
        ·exact hkk j hjk q' hq'
        ·have : j = k := by omega
         subst this
         rw [hq] at hq'
         injection hq' with hq'
         rw [← hq']; exact hb
      ·have e : k = i := by omega
       subst e
       refine ⟨_, ltN (by omega), ?_⟩
       refine ⟨_, addV (z := ((k + 1 : Nat) : Int)) (by push_cast; rfl) (by omega) (by omega), ?_⟩
       refine ⟨k + 1, ⟨by omega, fun p hp => ?_, ?_⟩, by show l.length - (k + 1) < l.length - k; omega, ⟨rfl, rfl, trivial⟩, rfl, rfl⟩
       ·rw [ht] at hp
        rcases List.mem_append.1 hp with hp | hp
        ·exact hok p hp
        ·have : p = o := by simpa using hp
         rw [this]; exact hoo
       ·rw [ht, List.map_append, List.nodup_append]
        refine ⟨hnd, by simp, ?_⟩
        rintro x hx y hy rfl
        have hy : x = o.s := by simpa using hy
        obtain ⟨p, hp, he⟩ := List.mem_map.1 hx
        obtain ⟨j, hj⟩ := List.mem_iff_getElem?.1 hp
        rw [List.getElem?_take] at hj
        split at hj
        ·rename_i hjk
         have := hkk j hjk p hj
         rw [he, hy] at this
         rw [eqB_refl] at this
         cases this
        ·cases hj
   ·have hn : Lx.isName o.s = false := by simpa using hn
    rw [hn] at hN
    have hf : false = v := by rw [← hv]; exact (okO_false ho (by unfold okO; rw [hn]; rfl)).symm
    refine ⟨_, ltT (by rw [hel]; omega), ?_⟩
    refine ⟨_, idxV (j := i) hg rfl rfl rfl rfl, ?_⟩
    refine ⟨_, CallR.mk1 hN rfl rfl, ?_⟩
    exact Ret.mk _ rfl (congrArg pB hf) rfl
  ·have e : i = l.length := by omega
   subst e
   rw [List.take_length] at hok hnd
   have hf : true = v := by rw [← hv]; exact (right_iff.2 ⟨hok, h8, hnd⟩).symm
   refine ⟨_, ltN (by rw [hel]; omega), ?_⟩
   exact Ret.mk _ rfl (congrArg pB hf) rfl
 ·have hf : false = v := by
   rw [← hv]
   cases e : rightO l
   ·rfl
   ·exact absurd (right_iff.1 e).2.1 h8
  refine Ok.enter hE Tryz.func36 rfl (by decide +kernel) (by kernel_rfl) rfl rfl (Nat.le_of_ble_eq_true rfl) rfl ?_
  refine ⟨_, gtT (by rw [hel]; omega), ?_⟩
  exact Ret.mk _ rfl (congrArg pB hf) rfl
end Go.Proofs.YtgpkppohfodhdaaGreatDoor.Va
namespace Go.Proofs.YtgpkppohfodhdaaGreatDoor.Va
open Go Go.RowKit Go.Proofs.YtgpkppohfodhdaaGreatDoor.Pm Go.Proofs.YtgpkppohfodhdaaGreatDoor.Pl
set_option linter.unusedVariables false
set_option linter.unusedSimpArgs false
set_option maxHeartbeats 4000000
set_option maxRecDepth 8000
theorem r1Right_ok (a : Int) : Ok E 116 [] [pI a] (pB (okA a)) [] := by
 obtain ⟨v, hv⟩ : ∃ v, okA a = v := ⟨_, rfl⟩
 rw [hv]
 unfold okA at hv
 by_cases h : -1000000000000 ≤ a
 ·rw [decide_eq_true h, Bool.true_and] at hv
  refine Ok.enter hE Tryz.func116 rfl (by decide +kernel) (by kernel_rfl) rfl rfl (Nat.le_of_ble_eq_true rfl) rfl ?_
  refine ⟨_, geT h, ?_⟩
  refine ⟨_, leV hv, ?_⟩
  exact Ret.mk _ rfl rfl rfl
 ·rw [decide_eq_false h, Bool.false_and] at hv
  subst hv
  refine Ok.enter hE Tryz.func116 rfl (by decide +kernel) (by kernel_rfl) rfl rfl (Nat.le_of_ble_eq_true rfl) rfl ?_
  refine ⟨_, geN h, ?_⟩
  exact Ret.mk _ rfl rfl rfl
theorem r1told_ok (n : Int) : Ok E 117 [] [pI n] (.tup [pI (amN (ofF n true)), pI (amE (ofF n true))]) [] := by
 have h := r1Right_ok n
 obtain ⟨v, hv⟩ : ∃ v, ofF n true = v := ⟨_, rfl⟩
 rw [hv]
 unfold ofF at hv
 rw [Bool.true_and] at hv
 rcases Bool.eq_false_or_eq_true (okA n) with h1 | h1
 ·rw [h1, if_pos rfl] at hv
  rw [h1] at h
  subst hv
  refine Ok.enter hE Tryz.func117 rfl (by decide +kernel) (by kernel_rfl) rfl rfl (Nat.le_of_ble_eq_true rfl) rfl ?_
  refine ⟨_, CallR.mk1 h rfl rfl, ?_⟩
  exact Ret.mk _ rfl rfl rfl
 ·rw [h1, if_neg (by decide)] at hv
  rw [h1] at h
  subst hv
  refine Ok.enter hE Tryz.func117 rfl (by decide +kernel) (by kernel_rfl) rfl rfl (Nat.le_of_ble_eq_true rfl) rfl ?_
  refine ⟨_, CallR.mk1 h rfl rfl, ?_⟩
  exact Ret.mk _ rfl rfl rfl
theorem r1Sub_ok (a b : Int) (a0 : -1000000000000 ≤ a) (a1 : a ≤ 1000000000000) (b0 : -1000000000000 ≤ b) (b1 : b ≤ 1000000000000) : Ok E 74 [] [pI a, pI b] (.tup [pI (amN (subF a b)), pI (amE (subF a b))]) [] := by
 have h1 := r1Right_ok a
 have h2 := r1Right_ok b
 have h3 := r1told_ok (a - b)
 have ea : okA a = true := okA_iff.2 ⟨a0, a1⟩
 have eb : okA b = true := okA_iff.2 ⟨b0, b1⟩
 rw [subF_of, ea, eb]
 rw [ea] at h1
 rw [eb] at h2
 refine Ok.enter hE Tryz.func74 rfl (by decide +kernel) (by kernel_rfl) rfl rfl (Nat.le_of_ble_eq_true rfl) rfl ?_
 refine ⟨_, CallR.mk1 h1 rfl rfl, ?_⟩
 refine ⟨_, CallR.mk1 h2 rfl rfl, ?_⟩
 refine ⟨_, subV rfl (by omega) (by omega), ?_⟩
 refine ⟨_, CallR.mk1 h3 rfl rfl, ?_⟩
 exact Ret.mk _ rfl rfl rfl
theorem tm_pos {p : Int} (h : 0 ≤ p) : p.tmod 10000 = p % 10000 ∧ p.tdiv 10000 = p / 10000 := ⟨Int.tmod_eq_emod_of_nonneg h, Int.tdiv_eq_ediv_of_nonneg h⟩
theorem tm_neg {p : Int} (h : p < 0) : (p.tmod 10000 < 0 ∧ p.tdiv 10000 - 1 = p / 10000) ∨ (p.tmod 10000 = 0 ∧ p.tdiv 10000 = p / 10000) := by
 have h1 := Int.tmod_eq_emod (a := p) (b := 10000)
 have h2 := Int.tdiv_eq_ediv (a := p) (b := 10000)
 by_cases hd : (10000 : Int) ∣ p
 ·rw [if_pos (.inr hd)] at h1 h2
  have : p % 10000 = 0 := Int.emod_eq_zero_of_dvd hd
  right; omega
 ·rw [if_neg (by omega)] at h1 h2
  have h3 : p % 10000 ≠ 0 := fun e => hd (Int.dvd_of_emod_eq_zero e)
  have h4 : (10000 : Int).sign = 1 := rfl
  rw [h4] at h2
  have h5 : ((10000 : Int).natAbs : Int) = 10000 := rfl
  left; omega
theorem r1Part_ok (a n : Int) (a0 : -1000000000000 ≤ a) (a1 : a ≤ 1000000000000) (n0 : 0 ≤ n) (n1 : n ≤ 100000) : Ok E 73 [] [pI a, pI n, pB false] (.tup [pI (amN (partF a n)), pI (amE (partF a n))]) [] := by
 have h1 := r1Right_ok a
 have ea : okA a = true := okA_iff.2 ⟨a0, a1⟩
 rw [ea] at h1
 have hm0 : -100000000000000000 ≤ a * n := by
  have : -1000000000000 * n ≤ a * n := Int.mul_le_mul_of_nonneg_right a0 n0
  omega
 have hm1 : a * n ≤ 100000000000000000 := by
  have : a * n ≤ 1000000000000 * n := Int.mul_le_mul_of_nonneg_right a1 n0
  omega
 have h3 := r1told_ok ((a * n - (a * n) % 10000) / 10000)
 rw [show partF a n = ofF ((a * n - (a * n) % 10000) / 10000) true by
  unfold partF ofF
  rw [ea, decide_eq_true (show -100000 ≤ n by omega), decide_eq_true n1]; rfl]
 obtain ⟨q, hq⟩ : ∃ q, a * n = q := ⟨_, rfl⟩
 rw [hq] at h3 hm0 hm1 ⊢
 have e : (q - q % 10000) / 10000 = q / 10000 := by omega
 rw [e] at h3 ⊢
 rcases Int.lt_or_le q 0 with hneg | hpos
 ·rcases tm_neg hneg with ⟨t1, t2⟩ | ⟨t1, t2⟩
  ·refine Ok.enter hE Tryz.func73 rfl (by decide +kernel) (by kernel_rfl) rfl rfl (Nat.le_of_ble_eq_true rfl) rfl ?_
   refine ⟨_, CallR.mk1 h1 rfl rfl, ?_⟩
   refine ⟨_, ltN (by omega), ?_⟩
   refine ⟨_, gtN (by omega), ?_⟩
   refine ⟨_, mulV hq (by omega) (by omega), ?_⟩
   refine ⟨_, quoV (by decide) rfl (by omega) (by omega), ?_⟩
   refine ⟨_, remV (by decide) rfl, ?_⟩
   refine ⟨_, ltT t1, ?_⟩
   refine ⟨_, subV t2 (by omega) (by omega), ?_⟩
   refine ⟨_, remV (by decide) rfl, ?_⟩
   refine ⟨_, gtN (by omega), ?_⟩
   refine ⟨_, CallR.mk1 h3 rfl rfl, ?_⟩
   exact Ret.mk _ rfl rfl rfl
  ·refine Ok.enter hE Tryz.func73 rfl (by decide +kernel) (by kernel_rfl) rfl rfl (Nat.le_of_ble_eq_true rfl) rfl ?_
   refine ⟨_, CallR.mk1 h1 rfl rfl, ?_⟩
   refine ⟨_, ltN (by omega), ?_⟩
   refine ⟨_, gtN (by omega), ?_⟩
   refine ⟨_, mulV hq (by omega) (by omega), ?_⟩
   refine ⟨_, quoV (by decide) t2 (by omega) (by omega), ?_⟩
   refine ⟨_, remV (by decide) rfl, ?_⟩
   refine ⟨_, ltN (by omega), ?_⟩
   refine ⟨_, remV (by decide) rfl, ?_⟩
   refine ⟨_, gtN (by omega), ?_⟩
   refine ⟨_, CallR.mk1 h3 rfl rfl, ?_⟩
   exact Ret.mk _ rfl rfl rfl
 ·obtain ⟨t1, t2⟩ := tm_pos hpos
  by_cases hz : 0 < q % 10000
  ·refine Ok.enter hE Tryz.func73 rfl (by decide +kernel) (by kernel_rfl) rfl rfl (Nat.le_of_ble_eq_true rfl) rfl ?_
   refine ⟨_, CallR.mk1 h1 rfl rfl, ?_⟩
   refine ⟨_, ltN (by omega), ?_⟩
   refine ⟨_, gtN (by omega), ?_⟩
   refine ⟨_, mulV hq (by omega) (by omega), ?_⟩
   refine ⟨_, quoV (by decide) t2 (by omega) (by omega), ?_⟩
   refine ⟨_, remV (by decide) t1, ?_⟩
   refine ⟨_, ltN (by omega), ?_⟩
   refine ⟨_, remV (by decide) t1, ?_⟩
   refine ⟨_, gtT (by omega), ?_⟩
   refine ⟨_, CallR.mk1 h3 rfl rfl, ?_⟩
   exact Ret.mk _ rfl rfl rfl
  ·refine Ok.enter hE Tryz.func73 rfl (by decide +kernel) (by kernel_rfl) rfl rfl (Nat.le_of_ble_eq_true rfl) rfl ?_
   refine ⟨_, CallR.mk1 h1 rfl rfl, ?_⟩
   refine ⟨_, ltN (by omega), ?_⟩
   refine ⟨_, gtN (by omega), ?_⟩
   refine ⟨_, mulV hq (by omega) (by omega), ?_⟩
   refine ⟨_, quoV (by decide) t2 (by omega) (by omega), ?_⟩
   refine ⟨_, remV (by decide) t1, ?_⟩
   refine ⟨_, ltN (by omega), ?_⟩
   refine ⟨_, remV (by decide) t1, ?_⟩
   refine ⟨_, gtN (by omega), ?_⟩
   refine ⟨_, CallR.mk1 h3 rfl rfl, ?_⟩
   exact Ret.mk _ rfl rfl rfl
def ahk (P : List Int) (i : Nat) (x : Int) (k : Nat) : Nat := cnt x ((P.take k).take i) + lts x ((P.take k).drop (i + 1))
theorem ahk_succ {P : List Int} {i k : Nat} {x y : Int} (hx : P[i]? = some x) (hy : P[k]? = some y) : ahk P i x (k + 1) = ahk P i x k + if (y < x ∨ (y = x ∧ k < i)) then 1 else 0 := by
 have hk := (List.getElem?_eq_some_iff.1 hy).1
 have hl : (P.take k).length = k := by rw [List.length_take]; omega
 have ht : P.take (k + 1) = P.take k ++ [y] := by rw [List.take_add_one, hy]; rfl
 unfold ahk
 rw [ht, List.take_append, List.drop_append, hl, cnt_app, lts_app]
 by_cases h1 : k < i
 ·rw [show [y].take (i - k) = [y] from List.take_of_length_le (by simp; omega), show [y].drop (i + 1 - k) = [] from List.drop_of_length_le (by simp; omega)]
  have e1 : cnt x [y] = if y ≤ x then 1 else 0 := by unfold cnt; rw [List.countP_singleton]; by_cases h : y ≤ x <;> simp [h]
  have e2 : lts x [] = 0 := rfl
  rw [e1, e2]
  by_cases h : y ≤ x
  ·rw [if_pos h, if_pos (by omega)]; omega
  ·rw [if_neg h, if_neg (by omega)]; omega
 ·by_cases h2 : k = i
  ·subst h2
   rw [hx] at hy
   injection hy with hy
   subst hy
   rw [Nat.sub_self, show [x].drop (k + 1 - k) = [] from List.drop_of_length_le (by simp), if_neg (by omega)]
   rfl
  ·rw [show [y].take (i - k) = [] by rw [show i - k = 0 by omega]; rfl, show [y].drop (i + 1 - k) = [y] by rw [show i + 1 - k = 0 by omega]; rfl]
   have e1 : lts x [y] = if y < x then 1 else 0 := by unfold lts; rw [List.countP_singleton]; by_cases h : y < x <;> simp [h]
   have e2 : cnt x [] = 0 := rfl
   rw [e1, e2]
   by_cases h : y < x
   ·rw [if_pos h, if_pos (by omega)]; omega
   ·rw [if_neg h, if_neg (by omega)]; omega
theorem ahk_len {P : List Int} {i : Nat} {x : Int} (hx : P[i]? = some x) : ahk P i x P.length = ahd (P.take i) x (P.drop (i + 1)) ∧ P = P.take i ++ x :: P.drop (i + 1) := by
 unfold ahk ahd
 rw [List.take_length]
 refine ⟨rfl, ?_⟩
 have := List.drop_eq_getElem_cons (List.getElem?_eq_some_iff.1 hx).1
 rw [(List.getElem?_eq_some_iff.1 hx).2] at this
 rw [← this, List.take_append_drop]
theorem rRank_ok (l : List Of) (hl : l.length ≤ 1000000) (n : Nat) : Ok E 71 [] [.c (.row (rowO l)), pI n] (.tup [pI (amN (rankF (prs l) n)), pB (amB (rankF (prs l) n))]) [] := by
 have hel := rowO_len l
 obtain ⟨v, hv⟩ : ∃ v, rankF (prs l) n = v := ⟨_, rfl⟩
 rw [hv]
 obtain ⟨P, hP⟩ : ∃ P, l.map Of.p = P := ⟨_, rfl⟩
 have hPl : P.length = l.length := by rw [← hP, List.length_map]
 unfold rankF prs at hv
 rw [hP] at hv
 refine Ok.enter hE Tryz.func71 rfl (by decide +kernel) (by kernel_rfl) rfl rfl (Nat.le_of_ble_eq_true rfl) rfl ?_
 refine Loop.run (α := Nat) (fun i => i ≤ l.length ∧ ∀ j x, j < i → P[j]? = some x → ahk P j x P.length ≠ n) (fun i => [(0, .c (.row (rowO l))), (1, pI n), (6, pI i)]) (fun _ => []) (fun _ => []) (fun i => l.length - i) 0 ⟨Nat.zero_le _, fun j x hj => by omega⟩ ⟨⟨rfl, rfl, rfl, trivial⟩, rfl, rfl⟩ ?_
 rintro i f ⟨hi, hno⟩
 by_cases hlt : i < l.length
 ·obtain ⟨o, ho⟩ : ∃ o, l[i]? = some o := ⟨_, List.getElem?_eq_getElem hlt⟩
  have hg := rowO_get ho
  have hPi : P[i]? = some o.p := by rw [← hP, List.getElem?_map, ho]; rfl
  have h0 : ahk P i o.p 0 = 0 := by unfold ahk; simp [cnt, lts]
  refine ⟨_, ltT (by rw [hel]; omega), ?_⟩
  refine Loop.run (α := Nat) (fun k => k ≤ l.length) (fun k => [(0, .c (.row (rowO l))), (1, pI n), (6, pI i), (7, pI (ahk P i o.p k : Nat)), (8, pI k)]) (fun _ => []) (fun _ => []) (fun k => l.length - k) 0 (Nat.zero_le _) ⟨⟨rfl, rfl, rfl, by rw [h0]; rfl, rfl, trivial⟩, rfl, rfl⟩ ?_
  rintro k f hk
  have hk : k ≤ l.length := hk
  have hak : ahk P i o.p k ≤ k := by
   unfold ahk
   have h1 : cnt o.p ((P.take k).take i) ≤ ((P.take k).take i).length := List.countP_le_length
   have h2 : lts o.p ((P.take k).drop (i + 1)) ≤ ((P.take k).drop (i + 1)).length := List.countP_le_length
   rw [List.length_take, List.length_take] at h1
   rw [List.length_drop, List.length_take] at h2
   omega
  by_cases hkl : k < l.length
  ·obtain ⟨q, hq⟩ : ∃ q, l[k]? = some q := ⟨_, List.getElem?_eq_getElem hkl⟩
   have hgq := rowO_get hq
   have hPk : P[k]? = some q.p := by rw [← hP, List.getElem?_map, hq]; rfl
   have hs := ahk_succ hPi hPk
   have hnext : BinR E 3 .add (.c (.int .i64 (k : Int))) (.c (.int .i64 1)) (.c (.int .i64 ((k + 1 : Nat) : Int))) := addV (by push_cast; rfl) (by omega) (by omega)
   by_cases c1 : q.p < o.p
   ·rw [if_pos (.inl c1)] at hs
    refine ⟨_, ltT (by rw [hel]; omega), ?_⟩
    refine ⟨_, idxV (j := k) hgq rfl rfl rfl rfl, ?_⟩
    refine ⟨_, idxV (j := i) hg rfl rfl rfl rfl, ?_⟩
    refine ⟨_, ltT c1, ?_⟩
    refine ⟨_, addV (z := ((ahk P i o.p (k + 1) : Nat) : Int)) (by rw [hs]; push_cast; rfl) (by omega) (by omega), ?_⟩
    refine ⟨_, hnext, ?_⟩
    exact ⟨k + 1, by show k + 1 ≤ l.length; omega, by show l.length - (k + 1) < l.length - k; omega, ⟨rfl, rfl, rfl, rfl, rfl, trivial⟩, rfl, rfl⟩
   ·by_cases c2 : q.p = o.p
    ·by_cases c3 : k < i
     ·rw [if_pos (.inr ⟨c2, c3⟩)] at hs
      refine ⟨_, ltT (by rw [hel]; omega), ?_⟩
      refine ⟨_, idxV (j := k) hgq rfl rfl rfl rfl, ?_⟩
      refine ⟨_, idxV (j := i) hg rfl rfl rfl rfl, ?_⟩
      refine ⟨_, ltN c1, ?_⟩
      refine ⟨_, idxV (j := k) hgq rfl rfl rfl rfl, ?_⟩
      refine ⟨_, idxV (j := i) hg rfl rfl rfl rfl, ?_⟩
      refine ⟨_, eqT c2, ?_⟩
      refine ⟨_, ltT (by omega), ?_⟩
      refine ⟨_, addV (z := ((ahk P i o.p (k + 1) : Nat) : Int)) (by rw [hs]; push_cast; rfl) (by omega) (by omega), ?_⟩
      refine ⟨_, hnext, ?_⟩
      exact ⟨k + 1, by show k + 1 ≤ l.length; omega, by show l.length - (k + 1) < l.length - k; omega, ⟨rfl, rfl, rfl, rfl, rfl, trivial⟩, rfl, rfl⟩
     ·rw [if_neg (by omega), Nat.add_zero] at hs
      refine ⟨_, ltT (by rw [hel]; omega), ?_⟩
      refine ⟨_, idxV (j := k) hgq rfl rfl rfl rfl, ?_⟩
      refine ⟨_, idxV (j := i) hg rfl rfl rfl rfl, ?_⟩
      refine ⟨_, ltN c1, ?_⟩
      refine ⟨_, idxV (j := k) hgq rfl rfl rfl rfl, ?_⟩
      refine ⟨_, idxV (j := i) hg rfl rfl rfl rfl, ?_⟩
      refine ⟨_, eqT c2, ?_⟩
      refine ⟨_, ltN (by omega), ?_⟩
      refine ⟨_, hnext, ?_⟩
      exact ⟨k + 1, by show k + 1 ≤ l.length; omega, by show l.length - (k + 1) < l.length - k; omega, ⟨rfl, rfl, rfl, by rw [hs]; rfl, rfl, trivial⟩, rfl, rfl⟩
    ·rw [if_neg (by omega), Nat.add_zero] at hs
     refine ⟨_, ltT (by rw [hel]; omega), ?_⟩
     refine ⟨_, idxV (j := k) hgq rfl rfl rfl rfl, ?_⟩
     refine ⟨_, idxV (j := i) hg rfl rfl rfl rfl, ?_⟩
     refine ⟨_, ltN c1, ?_⟩
     refine ⟨_, idxV (j := k) hgq rfl rfl rfl rfl, ?_⟩
     refine ⟨_, idxV (j := i) hg rfl rfl rfl rfl, ?_⟩
     refine ⟨_, eqN c2, ?_⟩
     refine ⟨_, hnext, ?_⟩
     exact ⟨k + 1, by show k + 1 ≤ l.length; omega, by show l.length - (k + 1) < l.length - k; omega, ⟨rfl, rfl, rfl, by rw [hs]; rfl, rfl, trivial⟩, rfl, rfl⟩
  ·have e : k = l.length := by omega
   subst e
   obtain ⟨e1, e2⟩ := ahk_len hPi
   rw [hPl] at e1
   by_cases hn : ahk P i o.p l.length = n
   ·have h3 : (srt P)[n]? = some o.p := by rw [e2]; exact rank_at (by rw [← e1]; exact hn)
    rw [h3] at hv
    dsimp only at hv
    subst hv
    refine ⟨_, ltN (by rw [hel]; omega), ?_⟩
    refine ⟨_, eqT (by rw [hn]), ?_⟩
    refine ⟨_, idxV (j := i) hg rfl rfl rfl rfl, ?_⟩
    exact Ret.mk _ rfl rfl rfl
   ·refine ⟨_, ltN (by rw [hel]; omega), ?_⟩
    refine ⟨_, eqN (by omega), ?_⟩
    refine ⟨_, addV (z := ((i + 1 : Nat) : Int)) (by push_cast; rfl) (by omega) (by omega), ?_⟩
    refine ⟨i + 1, ⟨by omega, fun j x hj hx => ?_⟩, by show l.length - (i + 1) < l.length - i; omega, ⟨rfl, rfl, rfl, trivial⟩, rfl, rfl⟩
    by_cases hji : j < i
    ·exact hno j x hji hx
    ·have : j = i := by omega
     subst this
     rw [hPi] at hx
     injection hx with hx
     subst hx
     rw [hPl]; exact hn
 ·have e : i = l.length := by omega
  have hnn : P.length ≤ n := by
   rcases Nat.lt_or_ge n P.length with h | h
   ·exfalso
    obtain ⟨A, x, C, h1, h2⟩ := rank_ex h
    have hx : P[A.length]? = some x := by rw [h1, List.getElem?_append_right (Nat.le_refl _), Nat.sub_self]; rfl
    have hlen := (List.getElem?_eq_some_iff.1 hx).1
    obtain ⟨e1, e2⟩ := ahk_len hx
    refine hno A.length x (by omega) hx ?_
    rw [e1, ← h2]
    have q1 : P.take A.length = A := by rw [h1, List.take_left]
    have q2 : P.drop (A.length + 1) = C := by rw [h1, List.drop_append]; simp
    rw [q1, q2]
   ·exact h
  rw [rank_none hnn] at hv
  dsimp only at hv
  subst hv
  refine ⟨_, ltN (by rw [hel]; omega), ?_⟩
  exact Ret.mk _ rfl rfl rfl
end Go.Proofs.YtgpkppohfodhdaaGreatDoor.Va
namespace Go.Proofs.YtgpkppohfodhdaaGreatDoor.Va
open Go Go.RowKit Go.Proofs.YtgpkppohfodhdaaGreatDoor.Pm Go.Proofs.YtgpkppohfodhdaaGreatDoor.Pl
open Go.Proofs.YtgpkppohfodhdaaGreatDoor.Pr (minV wkTup)
set_option linter.unusedVariables false
set_option linter.unusedSimpArgs false
set_option maxHeartbeats 4000000
set_option maxRecDepth 8000
def cdB : Cd → Bool
 | .is b => b
 | _ => false
def cdE : Cd → Int
 | .er e => e
 | _ => 0
@[reducible] def tupC (c : Cd) : PV := .tup [pB (cdB c), pI (cdE c)]
end Go.Proofs.YtgpkppohfodhdaaGreatDoor.Va
namespace Go.Proofs.YtgpkppohfodhdaaGreatDoor.Va
open Go Go.RowKit Go.Proofs.YtgpkppohfodhdaaGreatDoor.Pm Go.Proofs.YtgpkppohfodhdaaGreatDoor.Pl
open Go.Proofs.YtgpkppohfodhdaaGreatDoor.Pr (minV)
set_option linter.unusedVariables false
set_option linter.unusedSimpArgs false
set_option maxHeartbeats 4000000
set_option maxRecDepth 8000
structure TeD (l : List Of) (x : Ex) : Prop where
 ok : Ok E 38 [] [pE x, .c (.row (rowO l))] (tupA (evalE l x)) []
 ne : ∀ e, evalE l x = .er e → e ≠ 0
structure CeD (l : List Of) (x : Ex) : Prop where
 ok : Ok E 72 [] [pE x, .c (.row (rowO l))] (tupC (condE l x)) []
 ne : ∀ e, condE l x = .er e → e ≠ 0
theorem TeD.mk' {l : List Of} {x : Ex} {r : Am} (h : evalE l x = r) (he : ∀ e, r = .er e → e ≠ 0) (hO : Ok E 38 [] [pE x, .c (.row (rowO l))] (tupA r) []) : TeD l x := by subst h; exact ⟨hO, he⟩
theorem CeD.mk' {l : List Of} {x : Ex} {r : Cd} (h : condE l x = r) (he : ∀ e, r = .er e → e ≠ 0) (hO : Ok E 72 [] [pE x, .c (.row (rowO l))] (tupC r) []) : CeD l x := by subst h; exact ⟨hO, he⟩
theorem TeD.at' {l : List Of} {x : Ex} {r : Am} (h : TeD l x) (e : evalE l x = r) : Ok E 38 [] [pE x, .c (.row (rowO l))] (tupA r) [] := by subst e; exact h.ok
theorem CeD.at' {l : List Of} {x : Ex} {r : Cd} (h : CeD l x) (e : condE l x = r) : Ok E 72 [] [pE x, .c (.row (rowO l))] (tupC r) [] := by subst e; exact h.ok
theorem neE {e d : Int} (h : e ≠ 0) : ∀ d, Am.er e = .er d → d ≠ 0 := fun d hd => by injection hd with hd; rw [← hd]; exact h
theorem neC {e d : Int} (h : e ≠ 0) : ∀ d, Cd.er e = .er d → d ≠ 0 := fun d hd => by injection hd with hd; rw [← hd]; exact h
theorem rank_e (P : List Int) (k : Nat) : amE (rankF P k) = 0 := by unfold rankF; cases P[k]? <;> rfl
theorem sub_cases (a b : Int) : (∃ c, subF a b = .am c) ∨ subF a b = .er 10 := by
 unfold subF
 split
 ·exact .inl ⟨_, rfl⟩
 ·exact .inr rfl
theorem part_cases (a b : Int) : (∃ c, partF a b = .am c ∧ -1000000000000 ≤ c ∧ c ≤ 1000000000000) ∨ partF a b = .er 10 := by
 unfold partF
 split
 ·rename_i h
  simp only [Bool.and_eq_true] at h
  exact .inl ⟨_, rfl, okA_iff.1 h.2⟩
 ·exact .inr rfl
section
variable {l : List Of} {n : Int} {nm : ByteArray} {x y z : Ex}
theorem t_1 (hl : l.length ≤ 1000000) : TeD l ⟨1, n, nm, []⟩ := by
 have hR := rRank_ok l hl 0
 obtain ⟨r, hr⟩ : ∃ r, rankF (prs l) 0 = r := ⟨_, rfl⟩
 have he := rank_e (prs l) 0
 rw [hr] at hR he
 refine .mk' (r := r) (by rw [ev1, hr]) (fun e h => by rw [h] at he; intro h0; subst h0; have : rankF (prs l) 0 = .er 0 := hr.trans h; unfold rankF at this; split at this <;> cases this) ?_
 rw [show tupA r = .tup [pI (amN r), pB (amB r), pI 0] by unfold tupA; rw [he]]
 refine Ok.enter hE Tryz.func38 rfl (by decide +kernel) (by kernel_rfl) rfl rfl (Nat.le_of_ble_eq_true rfl) rfl ?_
 refine ⟨_, eqT rfl, ?_⟩
 refine ⟨_, CallR.mk1 hR rfl rfl, ?_⟩
 exact Ret.mk _ rfl rfl rfl
theorem t_2 (hl : l.length ≤ 1000000) : TeD l ⟨2, n, nm, []⟩ := by
 have hR := rRank_ok l hl 1
 obtain ⟨r, hr⟩ : ∃ r, rankF (prs l) 1 = r := ⟨_, rfl⟩
 have he := rank_e (prs l) 1
 rw [hr] at hR he
 refine .mk' (r := r) (by rw [ev2, hr]) (fun e h => by rw [h] at he; intro h0; subst h0; have : rankF (prs l) 1 = .er 0 := hr.trans h; unfold rankF at this; split at this <;> cases this) ?_
 rw [show tupA r = .tup [pI (amN r), pB (amB r), pI 0] by unfold tupA; rw [he]]
 refine Ok.enter hE Tryz.func38 rfl (by decide +kernel) (by kernel_rfl) rfl rfl (Nat.le_of_ble_eq_true rfl) rfl ?_
 refine ⟨_, eqN (by first | decide | (dsimp only; decide)), ?_⟩
 refine ⟨_, eqT rfl, ?_⟩
 refine ⟨_, CallR.mk1 hR rfl rfl, ?_⟩
 exact Ret.mk _ rfl rfl rfl
theorem t_4 : TeD l ⟨4, n, nm, []⟩ := by
 refine .mk' (r := .am n) ev4 (fun e h => by cases h) ?_
 refine Ok.enter hE Tryz.func38 rfl (by decide +kernel) (by kernel_rfl) rfl rfl (Nat.le_of_ble_eq_true rfl) rfl ?_
 refine ⟨_, eqN (by first | decide | (dsimp only; decide)), ?_⟩
 refine ⟨_, eqN (by first | decide | (dsimp only; decide)), ?_⟩
 refine ⟨_, eqN (by first | decide | (dsimp only; decide)), ?_⟩
 refine ⟨_, eqT rfl, ?_⟩
 exact Ret.mk _ rfl rfl rfl
theorem from_off : ∀ (l : List Of) (nm : ByteArray) (i : Nat), (∀ j, j < i → ∀ o, l[j]? = some o → eqB o.s nm = false) → fromF nm l = fromF nm (l.drop i)
 | l, nm, 0, _ => rfl
 | [], nm, i + 1, _ => rfl
 | o :: l, nm, i + 1, h => by
  have h0 := h 0 (Nat.succ_pos _) o rfl
  rw [List.drop_succ_cons, fromF, if_neg (by rw [h0]; simp)]
  exact from_off l nm i fun j hj q hq => h (j + 1) (Nat.succ_lt_succ hj) q (by simpa using hq)
theorem t_3 (hl : l.length ≤ 1000000) : TeD l ⟨3, n, nm, []⟩ := by
 have hel := rowO_len l
 obtain ⟨r, hr⟩ : ∃ r, fromF nm l = r := ⟨_, rfl⟩
 refine .mk' (r := r) (by rw [ev3, hr]) (fun e h => ?_) ?_
 ·have : ∀ (l : List Of) (e : Int), fromF nm l ≠ .er e := by
   intro l
   induction l with
   | nil => intro e h; cases h
   | cons o l ih => intro e h; unfold fromF at h; split at h; cases h; exact ih e h
  exact absurd (hr.trans h) (this l e)
 refine Ok.enter hE Tryz.func38 rfl (by decide +kernel) (by kernel_rfl) rfl rfl (Nat.le_of_ble_eq_true rfl) rfl ?_
 refine ⟨_, eqN (by first | decide | (dsimp only; decide)), ?_⟩
 refine ⟨_, eqN (by first | decide | (dsimp only; decide)), ?_⟩
 refine ⟨_, eqT rfl, ?_⟩
 refine Loop.run (α := Nat) (fun i => i ≤ l.length ∧ ∀ j, j < i → ∀ o, l[j]? = some o → eqB o.s nm = false) (fun i => [(1, .c (.row (rowO l))), (2, .ptr 0 0), (11, pI i)]) (fun _ => [[pI 3, pI n, pS nm, .c (.row (encL []))]]) (fun _ => []) (fun i => l.length - i) 0 ⟨Nat.zero_le _, fun j hj => by omega⟩ ⟨⟨rfl, rfl, rfl, trivial⟩, rfl, rfl⟩ ?_
 rintro i f ⟨hi, hno⟩
 have hoff := from_off l nm i hno
 rw [hr] at hoff
 by_cases hlt : i < l.length
 ·obtain ⟨o, ho⟩ : ∃ o, l[i]? = some o := ⟨_, List.getElem?_eq_getElem hlt⟩
  have hg := rowO_get ho
  have hd : l.drop i = o :: l.drop (i + 1) := Lx.drop_cons ho
  rw [hd, fromF] at hoff
  cases hb : eqB o.s nm with
  | true =>
   rw [hb, if_pos rfl] at hoff
   subst hoff
   refine ⟨_, ltT (by rw [hel]; omega), ?_⟩
   refine ⟨_, idxV (j := i) hg rfl rfl rfl rfl, ?_⟩
   refine ⟨_, strEqV hb, ?_⟩
   refine ⟨_, idxV (j := i) hg rfl rfl rfl rfl, ?_⟩
   exact Ret.mk _ rfl rfl rfl
  | false =>
   refine ⟨_, ltT (by rw [hel]; omega), ?_⟩
   refine ⟨_, idxV (j := i) hg rfl rfl rfl rfl, ?_⟩
   refine ⟨_, strEqV hb, ?_⟩
   refine ⟨_, addV (z := ((i + 1 : Nat) : Int)) (by push_cast; rfl) (by omega) (by omega), ?_⟩
   refine ⟨i + 1, ⟨by omega, fun j hj q hq => ?_⟩, by show l.length - (i + 1) < l.length - i; omega, ⟨rfl, rfl, rfl, trivial⟩, rfl, rfl⟩
   by_cases hji : j < i
   ·exact hno j hji q hq
   ·have : j = i := by omega
    subst this
    rw [ho] at hq
    injection hq with hq
    rw [← hq]; exact hb
 ·rw [List.drop_of_length_le (by omega)] at hoff
  subst hoff
  refine ⟨_, ltN (by rw [hel]; omega), ?_⟩
  exact Ret.mk _ rfl rfl rfl
theorem t_5 (hx : TeD l x) (hxr : AmR (evalE l x)) (n0 : 0 ≤ n) (n1 : n ≤ 1000000000000) : TeD l ⟨5, n, nm, [x]⟩ := by
 have hg := encL_get1 x []
 cases h1 : evalE l x with
 | er e =>
  have he := hx.ne e h1
  have ha := hx.at' h1
  refine .mk' (r := .er e) (by rw [ev5, h1]; rfl) (neE (d := 0) he) ?_
  refine Ok.enter hE Tryz.func38 rfl (by decide +kernel) (by kernel_rfl) rfl rfl (Nat.le_of_ble_eq_true rfl) rfl ?_
  refine ⟨_, eqN (by first | decide | (dsimp only; decide)), ?_⟩
  refine ⟨_, eqN (by first | decide | (dsimp only; decide)), ?_⟩
  refine ⟨_, eqN (by first | decide | (dsimp only; decide)), ?_⟩
  refine ⟨_, eqN (by first | decide | (dsimp only; decide)), ?_⟩
  refine ⟨_, eqN (by first | decide | (dsimp only; decide)), ?_⟩
  refine ⟨_, idxV (j := 0) hg rfl rfl rfl rfl, ?_⟩
  refine ⟨_, CallR.mk1 ha rfl rfl, ?_⟩
  refine ⟨_, neT he, ?_⟩
  exact Ret.mk _ rfl rfl rfl
 | no =>
  have ha := hx.at' h1
  refine .mk' (r := .no) (by rw [ev5, h1]; rfl) (fun e h => by cases h) ?_
  refine Ok.enter hE Tryz.func38 rfl (by decide +kernel) (by kernel_rfl) rfl rfl (Nat.le_of_ble_eq_true rfl) rfl ?_
  refine ⟨_, eqN (by first | decide | (dsimp only; decide)), ?_⟩
  refine ⟨_, eqN (by first | decide | (dsimp only; decide)), ?_⟩
  refine ⟨_, eqN (by first | decide | (dsimp only; decide)), ?_⟩
  refine ⟨_, eqN (by first | decide | (dsimp only; decide)), ?_⟩
  refine ⟨_, eqN (by first | decide | (dsimp only; decide)), ?_⟩
  refine ⟨_, idxV (j := 0) hg rfl rfl rfl rfl, ?_⟩
  refine ⟨_, CallR.mk1 ha rfl rfl, ?_⟩
  refine ⟨_, neN rfl, ?_⟩
  refine ⟨_, eqN (by first | decide | (dsimp only; decide)), ?_⟩
  refine ⟨_, eqT rfl, ?_⟩
  exact Ret.mk _ rfl rfl rfl
 | am a =>
  have ha := hx.at' h1
  rw [h1] at hxr
  have hS := r1Sub_ok a n hxr.1 hxr.2 (by omega) n1
  rcases sub_cases a n with ⟨c, hs⟩ | hs
  ·rw [hs] at hS
   refine .mk' (r := .am c) (by rw [ev5, h1]; exact hs) (fun e h => by cases h) ?_
   refine Ok.enter hE Tryz.func38 rfl (by decide +kernel) (by kernel_rfl) rfl rfl (Nat.le_of_ble_eq_true rfl) rfl ?_
   refine ⟨_, eqN (by first | decide | (dsimp only; decide)), ?_⟩
   refine ⟨_, eqN (by first | decide | (dsimp only; decide)), ?_⟩
   refine ⟨_, eqN (by first | decide | (dsimp only; decide)), ?_⟩
   refine ⟨_, eqN (by first | decide | (dsimp only; decide)), ?_⟩
   refine ⟨_, eqN (by first | decide | (dsimp only; decide)), ?_⟩
   refine ⟨_, idxV (j := 0) hg rfl rfl rfl rfl, ?_⟩
   refine ⟨_, CallR.mk1 ha rfl rfl, ?_⟩
   refine ⟨_, neN rfl, ?_⟩
   refine ⟨_, eqN (by first | decide | (dsimp only; decide)), ?_⟩
   refine ⟨_, eqT rfl, ?_⟩
   refine ⟨_, eqN (by first | decide | (dsimp only; decide)), ?_⟩
   refine ⟨_, CallR.mk1 hS rfl rfl, ?_⟩
   refine ⟨_, eqT rfl, ?_⟩
   exact Ret.mk _ rfl rfl rfl
  ·rw [hs] at hS
   refine .mk' (r := .er 10) (by rw [ev5, h1]; exact hs) (neE (d := 0) (by decide)) ?_
   refine Ok.enter hE Tryz.func38 rfl (by decide +kernel) (by kernel_rfl) rfl rfl (Nat.le_of_ble_eq_true rfl) rfl ?_
   refine ⟨_, eqN (by first | decide | (dsimp only; decide)), ?_⟩
   refine ⟨_, eqN (by first | decide | (dsimp only; decide)), ?_⟩
   refine ⟨_, eqN (by first | decide | (dsimp only; decide)), ?_⟩
   refine ⟨_, eqN (by first | decide | (dsimp only; decide)), ?_⟩
   refine ⟨_, eqN (by first | decide | (dsimp only; decide)), ?_⟩
   refine ⟨_, idxV (j := 0) hg rfl rfl rfl rfl, ?_⟩
   refine ⟨_, CallR.mk1 ha rfl rfl, ?_⟩
   refine ⟨_, neN rfl, ?_⟩
   refine ⟨_, eqN (by first | decide | (dsimp only; decide)), ?_⟩
   refine ⟨_, eqT rfl, ?_⟩
   refine ⟨_, eqN (by first | decide | (dsimp only; decide)), ?_⟩
   refine ⟨_, CallR.mk1 hS rfl rfl, ?_⟩
   refine ⟨_, eqN (by first | decide | (dsimp only; decide)), ?_⟩
   exact Ret.mk _ rfl rfl rfl
theorem t_6 (hx : TeD l x) (hxr : AmR (evalE l x)) (n0 : 0 ≤ n) (n1 : n ≤ 100000) : TeD l ⟨6, n, nm, [x]⟩ := by
 have hg := encL_get1 x []
 cases h1 : evalE l x with
 | er e =>
  have he := hx.ne e h1
  have ha := hx.at' h1
  refine .mk' (r := .er e) (by rw [ev6, h1]; rfl) (neE (d := 0) he) ?_
  refine Ok.enter hE Tryz.func38 rfl (by decide +kernel) (by kernel_rfl) rfl rfl (Nat.le_of_ble_eq_true rfl) rfl ?_
  refine ⟨_, eqN (by first | decide | (dsimp only; decide)), ?_⟩
  refine ⟨_, eqN (by first | decide | (dsimp only; decide)), ?_⟩
  refine ⟨_, eqN (by first | decide | (dsimp only; decide)), ?_⟩
  refine ⟨_, eqN (by first | decide | (dsimp only; decide)), ?_⟩
  refine ⟨_, eqN (by first | decide | (dsimp only; decide)), ?_⟩
  refine ⟨_, idxV (j := 0) hg rfl rfl rfl rfl, ?_⟩
  refine ⟨_, CallR.mk1 ha rfl rfl, ?_⟩
  refine ⟨_, neT he, ?_⟩
  exact Ret.mk _ rfl rfl rfl
 | no =>
  have ha := hx.at' h1
  refine .mk' (r := .no) (by rw [ev6, h1]; rfl) (fun e h => by cases h) ?_
  refine Ok.enter hE Tryz.func38 rfl (by decide +kernel) (by kernel_rfl) rfl rfl (Nat.le_of_ble_eq_true rfl) rfl ?_
  refine ⟨_, eqN (by first | decide | (dsimp only; decide)), ?_⟩
  refine ⟨_, eqN (by first | decide | (dsimp only; decide)), ?_⟩
  refine ⟨_, eqN (by first | decide | (dsimp only; decide)), ?_⟩
  refine ⟨_, eqN (by first | decide | (dsimp only; decide)), ?_⟩
  refine ⟨_, eqN (by first | decide | (dsimp only; decide)), ?_⟩
  refine ⟨_, idxV (j := 0) hg rfl rfl rfl rfl, ?_⟩
  refine ⟨_, CallR.mk1 ha rfl rfl, ?_⟩
  refine ⟨_, neN rfl, ?_⟩
  refine ⟨_, eqN (by first | decide | (dsimp only; decide)), ?_⟩
  refine ⟨_, eqN (by first | decide | (dsimp only; decide)), ?_⟩
  refine ⟨_, eqT rfl, ?_⟩
  exact Ret.mk _ rfl rfl rfl
 | am a =>
  have ha := hx.at' h1
  rw [h1] at hxr
  have hP := r1Part_ok a n hxr.1 hxr.2 n0 n1
  rcases part_cases a n with ⟨b, hp, b0, b1⟩ | hp
  ·rw [hp] at hP
   have hS := r1Sub_ok a b hxr.1 hxr.2 b0 b1
   rcases sub_cases a b with ⟨c, hs⟩ | hs
   ·rw [hs] at hS
    refine .mk' (r := .am c) (by rw [ev6, h1]; show (match partF a n with | .am b => subF a b | r => r) = _; rw [hp]; exact hs) (fun e h => by cases h) ?_
    refine Ok.enter hE Tryz.func38 rfl (by decide +kernel) (by kernel_rfl) rfl rfl (Nat.le_of_ble_eq_true rfl) rfl ?_
    refine ⟨_, eqN (by first | decide | (dsimp only; decide)), ?_⟩
    refine ⟨_, eqN (by first | decide | (dsimp only; decide)), ?_⟩
    refine ⟨_, eqN (by first | decide | (dsimp only; decide)), ?_⟩
    refine ⟨_, eqN (by first | decide | (dsimp only; decide)), ?_⟩
    refine ⟨_, eqN (by first | decide | (dsimp only; decide)), ?_⟩
    refine ⟨_, idxV (j := 0) hg rfl rfl rfl rfl, ?_⟩
    refine ⟨_, CallR.mk1 ha rfl rfl, ?_⟩
    refine ⟨_, neN rfl, ?_⟩
    refine ⟨_, eqN (by first | decide | (dsimp only; decide)), ?_⟩
    refine ⟨_, eqN (by first | decide | (dsimp only; decide)), ?_⟩
    refine ⟨_, eqT rfl, ?_⟩
    refine ⟨_, eqT rfl, ?_⟩
    refine ⟨_, CallR.mk1 hP rfl rfl, ?_⟩
    refine ⟨_, neN rfl, ?_⟩
    refine ⟨_, CallR.mk1 hS rfl rfl, ?_⟩
    refine ⟨_, eqT rfl, ?_⟩
    exact Ret.mk _ rfl rfl rfl
   ·rw [hs] at hS
    refine .mk' (r := .er 10) (by rw [ev6, h1]; show (match partF a n with | .am b => subF a b | r => r) = _; rw [hp]; exact hs) (neE (d := 0) (by decide)) ?_
    refine Ok.enter hE Tryz.func38 rfl (by decide +kernel) (by kernel_rfl) rfl rfl (Nat.le_of_ble_eq_true rfl) rfl ?_
    refine ⟨_, eqN (by first | decide | (dsimp only; decide)), ?_⟩
    refine ⟨_, eqN (by first | decide | (dsimp only; decide)), ?_⟩
    refine ⟨_, eqN (by first | decide | (dsimp only; decide)), ?_⟩
    refine ⟨_, eqN (by first | decide | (dsimp only; decide)), ?_⟩
    refine ⟨_, eqN (by first | decide | (dsimp only; decide)), ?_⟩
    refine ⟨_, idxV (j := 0) hg rfl rfl rfl rfl, ?_⟩
    refine ⟨_, CallR.mk1 ha rfl rfl, ?_⟩
    refine ⟨_, neN rfl, ?_⟩
    refine ⟨_, eqN (by first | decide | (dsimp only; decide)), ?_⟩
    refine ⟨_, eqN (by first | decide | (dsimp only; decide)), ?_⟩
    refine ⟨_, eqT rfl, ?_⟩
    refine ⟨_, eqT rfl, ?_⟩
    refine ⟨_, CallR.mk1 hP rfl rfl, ?_⟩
    refine ⟨_, neN rfl, ?_⟩
    refine ⟨_, CallR.mk1 hS rfl rfl, ?_⟩
    refine ⟨_, eqN (by first | decide | (dsimp only; decide)), ?_⟩
    exact Ret.mk _ rfl rfl rfl
  ·rw [hp] at hP
   refine .mk' (r := .er 10) (by rw [ev6, h1]; show (match partF a n with | .am b => subF a b | r => r) = _; rw [hp]) (neE (d := 0) (by decide)) ?_
   refine Ok.enter hE Tryz.func38 rfl (by decide +kernel) (by kernel_rfl) rfl rfl (Nat.le_of_ble_eq_true rfl) rfl ?_
   refine ⟨_, eqN (by first | decide | (dsimp only; decide)), ?_⟩
   refine ⟨_, eqN (by first | decide | (dsimp only; decide)), ?_⟩
   refine ⟨_, eqN (by first | decide | (dsimp only; decide)), ?_⟩
   refine ⟨_, eqN (by first | decide | (dsimp only; decide)), ?_⟩
   refine ⟨_, eqN (by first | decide | (dsimp only; decide)), ?_⟩
   refine ⟨_, idxV (j := 0) hg rfl rfl rfl rfl, ?_⟩
   refine ⟨_, CallR.mk1 ha rfl rfl, ?_⟩
   refine ⟨_, neN rfl, ?_⟩
   refine ⟨_, eqN (by first | decide | (dsimp only; decide)), ?_⟩
   refine ⟨_, eqN (by first | decide | (dsimp only; decide)), ?_⟩
   refine ⟨_, eqT rfl, ?_⟩
   refine ⟨_, eqT rfl, ?_⟩
   refine ⟨_, CallR.mk1 hP rfl rfl, ?_⟩
   refine ⟨_, neT (by decide), ?_⟩
   exact Ret.mk _ rfl rfl rfl
theorem t_7 (hx : TeD l x) (hy : TeD l y) : TeD l ⟨7, n, nm, [x, y]⟩ := by
 have hg := encL_get1 x [y]
 have hg2 := encL_get2 x y []
 cases h1 : evalE l x with
 | er e =>
  have he := hx.ne e h1
  have ha := hx.at' h1
  refine .mk' (r := .er e) (by rw [ev7, h1]; rfl) (neE (d := 0) he) ?_
  refine Ok.enter hE Tryz.func38 rfl (by decide +kernel) (by kernel_rfl) rfl rfl (Nat.le_of_ble_eq_true rfl) rfl ?_
  refine ⟨_, eqN (by first | decide | (dsimp only; decide)), ?_⟩
  refine ⟨_, eqN (by first | decide | (dsimp only; decide)), ?_⟩
  refine ⟨_, eqN (by first | decide | (dsimp only; decide)), ?_⟩
  refine ⟨_, eqN (by first | decide | (dsimp only; decide)), ?_⟩
  refine ⟨_, eqN (by first | decide | (dsimp only; decide)), ?_⟩
  refine ⟨_, idxV (j := 0) hg rfl rfl rfl rfl, ?_⟩
  refine ⟨_, CallR.mk1 ha rfl rfl, ?_⟩
  refine ⟨_, neT he, ?_⟩
  exact Ret.mk _ rfl rfl rfl
 | no =>
  have ha := hx.at' h1
  cases h2 : evalE l y with
  | er e =>
   have he := hy.ne e h2
   have hb := hy.at' h2
   refine .mk' (r := .er e) (by rw [ev7, h1, h2]; rfl) (neE (d := 0) he) ?_
   refine Ok.enter hE Tryz.func38 rfl (by decide +kernel) (by kernel_rfl) rfl rfl (Nat.le_of_ble_eq_true rfl) rfl ?_
   refine ⟨_, eqN (by first | decide | (dsimp only; decide)), ?_⟩
   refine ⟨_, eqN (by first | decide | (dsimp only; decide)), ?_⟩
   refine ⟨_, eqN (by first | decide | (dsimp only; decide)), ?_⟩
   refine ⟨_, eqN (by first | decide | (dsimp only; decide)), ?_⟩
   refine ⟨_, eqN (by first | decide | (dsimp only; decide)), ?_⟩
   refine ⟨_, idxV (j := 0) hg rfl rfl rfl rfl, ?_⟩
   refine ⟨_, CallR.mk1 ha rfl rfl, ?_⟩
   refine ⟨_, neN rfl, ?_⟩
   refine ⟨_, eqN (by first | decide | (dsimp only; decide)), ?_⟩
   refine ⟨_, eqN (by first | decide | (dsimp only; decide)), ?_⟩
   refine ⟨_, eqN (by first | decide | (dsimp only; decide)), ?_⟩
   refine ⟨_, idxV (j := 1) hg2 rfl rfl rfl rfl, ?_⟩
   refine ⟨_, CallR.mk1 hb rfl rfl, ?_⟩
   refine ⟨_, neT he, ?_⟩
   exact Ret.mk _ rfl rfl rfl
  | no =>
   have hb := hy.at' h2
   refine .mk' (r := .no) (by rw [ev7, h1, h2]; rfl) (fun e h => by cases h) ?_
   refine Ok.enter hE Tryz.func38 rfl (by decide +kernel) (by kernel_rfl) rfl rfl (Nat.le_of_ble_eq_true rfl) rfl ?_
   refine ⟨_, eqN (by first | decide | (dsimp only; decide)), ?_⟩
   refine ⟨_, eqN (by first | decide | (dsimp only; decide)), ?_⟩
   refine ⟨_, eqN (by first | decide | (dsimp only; decide)), ?_⟩
   refine ⟨_, eqN (by first | decide | (dsimp only; decide)), ?_⟩
   refine ⟨_, eqN (by first | decide | (dsimp only; decide)), ?_⟩
   refine ⟨_, idxV (j := 0) hg rfl rfl rfl rfl, ?_⟩
   refine ⟨_, CallR.mk1 ha rfl rfl, ?_⟩
   refine ⟨_, neN rfl, ?_⟩
   refine ⟨_, eqN (by first | decide | (dsimp only; decide)), ?_⟩
   refine ⟨_, eqN (by first | decide | (dsimp only; decide)), ?_⟩
   refine ⟨_, eqN (by first | decide | (dsimp only; decide)), ?_⟩
   refine ⟨_, idxV (j := 1) hg2 rfl rfl rfl rfl, ?_⟩
   refine ⟨_, CallR.mk1 hb rfl rfl, ?_⟩
   refine ⟨_, neN rfl, ?_⟩
   exact Ret.mk _ rfl rfl rfl
  | am b =>
   have hb := hy.at' h2
   refine .mk' (r := .no) (by rw [ev7, h1, h2]; rfl) (fun e h => by cases h) ?_
   refine Ok.enter hE Tryz.func38 rfl (by decide +kernel) (by kernel_rfl) rfl rfl (Nat.le_of_ble_eq_true rfl) rfl ?_
   refine ⟨_, eqN (by first | decide | (dsimp only; decide)), ?_⟩
   refine ⟨_, eqN (by first | decide | (dsimp only; decide)), ?_⟩
   refine ⟨_, eqN (by first | decide | (dsimp only; decide)), ?_⟩
   refine ⟨_, eqN (by first | decide | (dsimp only; decide)), ?_⟩
   refine ⟨_, eqN (by first | decide | (dsimp only; decide)), ?_⟩
   refine ⟨_, idxV (j := 0) hg rfl rfl rfl rfl, ?_⟩
   refine ⟨_, CallR.mk1 ha rfl rfl, ?_⟩
   refine ⟨_, neN rfl, ?_⟩
   refine ⟨_, eqN (by first | decide | (dsimp only; decide)), ?_⟩
   refine ⟨_, eqN (by first | decide | (dsimp only; decide)), ?_⟩
   refine ⟨_, eqN (by first | decide | (dsimp only; decide)), ?_⟩
   refine ⟨_, idxV (j := 1) hg2 rfl rfl rfl rfl, ?_⟩
   refine ⟨_, CallR.mk1 hb rfl rfl, ?_⟩
   refine ⟨_, neN rfl, ?_⟩
   exact Ret.mk _ rfl rfl rfl
 | am a =>
  have ha := hx.at' h1
  cases h2 : evalE l y with
  | er e =>
   have he := hy.ne e h2
   have hb := hy.at' h2
   refine .mk' (r := .er e) (by rw [ev7, h1, h2]; rfl) (neE (d := 0) he) ?_
   refine Ok.enter hE Tryz.func38 rfl (by decide +kernel) (by kernel_rfl) rfl rfl (Nat.le_of_ble_eq_true rfl) rfl ?_
   refine ⟨_, eqN (by first | decide | (dsimp only; decide)), ?_⟩
   refine ⟨_, eqN (by first | decide | (dsimp only; decide)), ?_⟩
   refine ⟨_, eqN (by first | decide | (dsimp only; decide)), ?_⟩
   refine ⟨_, eqN (by first | decide | (dsimp only; decide)), ?_⟩
   refine ⟨_, eqN (by first | decide | (dsimp only; decide)), ?_⟩
   refine ⟨_, idxV (j := 0) hg rfl rfl rfl rfl, ?_⟩
   refine ⟨_, CallR.mk1 ha rfl rfl, ?_⟩
   refine ⟨_, neN rfl, ?_⟩
   refine ⟨_, eqN (by first | decide | (dsimp only; decide)), ?_⟩
   refine ⟨_, eqN (by first | decide | (dsimp only; decide)), ?_⟩
   refine ⟨_, eqN (by first | decide | (dsimp only; decide)), ?_⟩
   refine ⟨_, idxV (j := 1) hg2 rfl rfl rfl rfl, ?_⟩
   refine ⟨_, CallR.mk1 hb rfl rfl, ?_⟩
   refine ⟨_, neT he, ?_⟩
   exact Ret.mk _ rfl rfl rfl
  | no =>
   have hb := hy.at' h2
   refine .mk' (r := .no) (by rw [ev7, h1, h2]; rfl) (fun e h => by cases h) ?_
   refine Ok.enter hE Tryz.func38 rfl (by decide +kernel) (by kernel_rfl) rfl rfl (Nat.le_of_ble_eq_true rfl) rfl ?_
   refine ⟨_, eqN (by first | decide | (dsimp only; decide)), ?_⟩
   refine ⟨_, eqN (by first | decide | (dsimp only; decide)), ?_⟩
   refine ⟨_, eqN (by first | decide | (dsimp only; decide)), ?_⟩
   refine ⟨_, eqN (by first | decide | (dsimp only; decide)), ?_⟩
   refine ⟨_, eqN (by first | decide | (dsimp only; decide)), ?_⟩
   refine ⟨_, idxV (j := 0) hg rfl rfl rfl rfl, ?_⟩
   refine ⟨_, CallR.mk1 ha rfl rfl, ?_⟩
   refine ⟨_, neN rfl, ?_⟩
   refine ⟨_, eqN (by first | decide | (dsimp only; decide)), ?_⟩
   refine ⟨_, eqN (by first | decide | (dsimp only; decide)), ?_⟩
   refine ⟨_, eqN (by first | decide | (dsimp only; decide)), ?_⟩
   refine ⟨_, idxV (j := 1) hg2 rfl rfl rfl rfl, ?_⟩
   refine ⟨_, CallR.mk1 hb rfl rfl, ?_⟩
   refine ⟨_, neN rfl, ?_⟩
   exact Ret.mk _ rfl rfl rfl
  | am b =>
   have hb := hy.at' h2
   refine .mk' (r := .am (min a b)) (by rw [ev7, h1, h2]; rfl) (fun e h => by cases h) ?_
   refine Ok.enter hE Tryz.func38 rfl (by decide +kernel) (by kernel_rfl) rfl rfl (Nat.le_of_ble_eq_true rfl) rfl ?_
   refine ⟨_, eqN (by first | decide | (dsimp only; decide)), ?_⟩
   refine ⟨_, eqN (by first | decide | (dsimp only; decide)), ?_⟩
   refine ⟨_, eqN (by first | decide | (dsimp only; decide)), ?_⟩
   refine ⟨_, eqN (by first | decide | (dsimp only; decide)), ?_⟩
   refine ⟨_, eqN (by first | decide | (dsimp only; decide)), ?_⟩
   refine ⟨_, idxV (j := 0) hg rfl rfl rfl rfl, ?_⟩
   refine ⟨_, CallR.mk1 ha rfl rfl, ?_⟩
   refine ⟨_, neN rfl, ?_⟩
   refine ⟨_, eqN (by first | decide | (dsimp only; decide)), ?_⟩
   refine ⟨_, eqN (by first | decide | (dsimp only; decide)), ?_⟩
   refine ⟨_, eqN (by first | decide | (dsimp only; decide)), ?_⟩
   refine ⟨_, idxV (j := 1) hg2 rfl rfl rfl rfl, ?_⟩
   refine ⟨_, CallR.mk1 hb rfl rfl, ?_⟩
   refine ⟨_, neN rfl, ?_⟩
   refine ⟨_, eqT rfl, ?_⟩
   refine ⟨_, minV rfl, ?_⟩
   exact Ret.mk _ rfl rfl rfl
theorem t_8 (hx : TeD l x) (hy : TeD l y) : TeD l ⟨8, n, nm, [x, y]⟩ := by
 have hg := encL_get1 x [y]
 have hg2 := encL_get2 x y []
 cases h1 : evalE l x with
 | er e =>
  have he := hx.ne e h1
  have ha := hx.at' h1
  refine .mk' (r := .er e) (by rw [ev8, h1]; rfl) (neE (d := 0) he) ?_
  refine Ok.enter hE Tryz.func38 rfl (by decide +kernel) (by kernel_rfl) rfl rfl (Nat.le_of_ble_eq_true rfl) rfl ?_
  refine ⟨_, eqN (by first | decide | (dsimp only; decide)), ?_⟩
  refine ⟨_, eqN (by first | decide | (dsimp only; decide)), ?_⟩
  refine ⟨_, eqN (by first | decide | (dsimp only; decide)), ?_⟩
  refine ⟨_, eqN (by first | decide | (dsimp only; decide)), ?_⟩
  refine ⟨_, eqN (by first | decide | (dsimp only; decide)), ?_⟩
  refine ⟨_, idxV (j := 0) hg rfl rfl rfl rfl, ?_⟩
  refine ⟨_, CallR.mk1 ha rfl rfl, ?_⟩
  refine ⟨_, neT he, ?_⟩
  exact Ret.mk _ rfl rfl rfl
 | no =>
  have ha := hx.at' h1
  cases h2 : evalE l y with
  | er e =>
   have he := hy.ne e h2
   have hb := hy.at' h2
   refine .mk' (r := .er e) (by rw [ev8, h1, h2]; rfl) (neE (d := 0) he) ?_
   refine Ok.enter hE Tryz.func38 rfl (by decide +kernel) (by kernel_rfl) rfl rfl (Nat.le_of_ble_eq_true rfl) rfl ?_
   refine ⟨_, eqN (by first | decide | (dsimp only; decide)), ?_⟩
   refine ⟨_, eqN (by first | decide | (dsimp only; decide)), ?_⟩
   refine ⟨_, eqN (by first | decide | (dsimp only; decide)), ?_⟩
   refine ⟨_, eqN (by first | decide | (dsimp only; decide)), ?_⟩
   refine ⟨_, eqN (by first | decide | (dsimp only; decide)), ?_⟩
   refine ⟨_, idxV (j := 0) hg rfl rfl rfl rfl, ?_⟩
   refine ⟨_, CallR.mk1 ha rfl rfl, ?_⟩
   refine ⟨_, neN rfl, ?_⟩
   refine ⟨_, eqN (by first | decide | (dsimp only; decide)), ?_⟩
   refine ⟨_, eqN (by first | decide | (dsimp only; decide)), ?_⟩
   refine ⟨_, eqN (by first | decide | (dsimp only; decide)), ?_⟩
   refine ⟨_, idxV (j := 1) hg2 rfl rfl rfl rfl, ?_⟩
   refine ⟨_, CallR.mk1 hb rfl rfl, ?_⟩
   refine ⟨_, neT he, ?_⟩
   exact Ret.mk _ rfl rfl rfl
  | no =>
   have hb := hy.at' h2
   refine .mk' (r := .no) (by rw [ev8, h1, h2]; rfl) (fun e h => by cases h) ?_
   refine Ok.enter hE Tryz.func38 rfl (by decide +kernel) (by kernel_rfl) rfl rfl (Nat.le_of_ble_eq_true rfl) rfl ?_
   refine ⟨_, eqN (by first | decide | (dsimp only; decide)), ?_⟩
   refine ⟨_, eqN (by first | decide | (dsimp only; decide)), ?_⟩
   refine ⟨_, eqN (by first | decide | (dsimp only; decide)), ?_⟩
   refine ⟨_, eqN (by first | decide | (dsimp only; decide)), ?_⟩
   refine ⟨_, eqN (by first | decide | (dsimp only; decide)), ?_⟩
   refine ⟨_, idxV (j := 0) hg rfl rfl rfl rfl, ?_⟩
   refine ⟨_, CallR.mk1 ha rfl rfl, ?_⟩
   refine ⟨_, neN rfl, ?_⟩
   refine ⟨_, eqN (by first | decide | (dsimp only; decide)), ?_⟩
   refine ⟨_, eqN (by first | decide | (dsimp only; decide)), ?_⟩
   refine ⟨_, eqN (by first | decide | (dsimp only; decide)), ?_⟩
   refine ⟨_, idxV (j := 1) hg2 rfl rfl rfl rfl, ?_⟩
   refine ⟨_, CallR.mk1 hb rfl rfl, ?_⟩
   refine ⟨_, neN rfl, ?_⟩
   exact Ret.mk _ rfl rfl rfl
  | am b =>
   have hb := hy.at' h2
   refine .mk' (r := .no) (by rw [ev8, h1, h2]; rfl) (fun e h => by cases h) ?_
   refine Ok.enter hE Tryz.func38 rfl (by decide +kernel) (by kernel_rfl) rfl rfl (Nat.le_of_ble_eq_true rfl) rfl ?_
   refine ⟨_, eqN (by first | decide | (dsimp only; decide)), ?_⟩
   refine ⟨_, eqN (by first | decide | (dsimp only; decide)), ?_⟩
   refine ⟨_, eqN (by first | decide | (dsimp only; decide)), ?_⟩
   refine ⟨_, eqN (by first | decide | (dsimp only; decide)), ?_⟩
   refine ⟨_, eqN (by first | decide | (dsimp only; decide)), ?_⟩
   refine ⟨_, idxV (j := 0) hg rfl rfl rfl rfl, ?_⟩
   refine ⟨_, CallR.mk1 ha rfl rfl, ?_⟩
   refine ⟨_, neN rfl, ?_⟩
   refine ⟨_, eqN (by first | decide | (dsimp only; decide)), ?_⟩
   refine ⟨_, eqN (by first | decide | (dsimp only; decide)), ?_⟩
   refine ⟨_, eqN (by first | decide | (dsimp only; decide)), ?_⟩
   refine ⟨_, idxV (j := 1) hg2 rfl rfl rfl rfl, ?_⟩
   refine ⟨_, CallR.mk1 hb rfl rfl, ?_⟩
   refine ⟨_, neN rfl, ?_⟩
   exact Ret.mk _ rfl rfl rfl
 | am a =>
  have ha := hx.at' h1
  cases h2 : evalE l y with
  | er e =>
   have he := hy.ne e h2
   have hb := hy.at' h2
   refine .mk' (r := .er e) (by rw [ev8, h1, h2]; rfl) (neE (d := 0) he) ?_
   refine Ok.enter hE Tryz.func38 rfl (by decide +kernel) (by kernel_rfl) rfl rfl (Nat.le_of_ble_eq_true rfl) rfl ?_
   refine ⟨_, eqN (by first | decide | (dsimp only; decide)), ?_⟩
   refine ⟨_, eqN (by first | decide | (dsimp only; decide)), ?_⟩
   refine ⟨_, eqN (by first | decide | (dsimp only; decide)), ?_⟩
   refine ⟨_, eqN (by first | decide | (dsimp only; decide)), ?_⟩
   refine ⟨_, eqN (by first | decide | (dsimp only; decide)), ?_⟩
   refine ⟨_, idxV (j := 0) hg rfl rfl rfl rfl, ?_⟩
   refine ⟨_, CallR.mk1 ha rfl rfl, ?_⟩
   refine ⟨_, neN rfl, ?_⟩
   refine ⟨_, eqN (by first | decide | (dsimp only; decide)), ?_⟩
   refine ⟨_, eqN (by first | decide | (dsimp only; decide)), ?_⟩
   refine ⟨_, eqN (by first | decide | (dsimp only; decide)), ?_⟩
   refine ⟨_, idxV (j := 1) hg2 rfl rfl rfl rfl, ?_⟩
   refine ⟨_, CallR.mk1 hb rfl rfl, ?_⟩
   refine ⟨_, neT he, ?_⟩
   exact Ret.mk _ rfl rfl rfl
  | no =>
   have hb := hy.at' h2
   refine .mk' (r := .no) (by rw [ev8, h1, h2]; rfl) (fun e h => by cases h) ?_
   refine Ok.enter hE Tryz.func38 rfl (by decide +kernel) (by kernel_rfl) rfl rfl (Nat.le_of_ble_eq_true rfl) rfl ?_
   refine ⟨_, eqN (by first | decide | (dsimp only; decide)), ?_⟩
   refine ⟨_, eqN (by first | decide | (dsimp only; decide)), ?_⟩
   refine ⟨_, eqN (by first | decide | (dsimp only; decide)), ?_⟩
   refine ⟨_, eqN (by first | decide | (dsimp only; decide)), ?_⟩
   refine ⟨_, eqN (by first | decide | (dsimp only; decide)), ?_⟩
   refine ⟨_, idxV (j := 0) hg rfl rfl rfl rfl, ?_⟩
   refine ⟨_, CallR.mk1 ha rfl rfl, ?_⟩
   refine ⟨_, neN rfl, ?_⟩
   refine ⟨_, eqN (by first | decide | (dsimp only; decide)), ?_⟩
   refine ⟨_, eqN (by first | decide | (dsimp only; decide)), ?_⟩
   refine ⟨_, eqN (by first | decide | (dsimp only; decide)), ?_⟩
   refine ⟨_, idxV (j := 1) hg2 rfl rfl rfl rfl, ?_⟩
   refine ⟨_, CallR.mk1 hb rfl rfl, ?_⟩
   refine ⟨_, neN rfl, ?_⟩
   exact Ret.mk _ rfl rfl rfl
  | am b =>
   have hb := hy.at' h2
   refine .mk' (r := .am (max a b)) (by rw [ev8, h1, h2]; rfl) (fun e h => by cases h) ?_
   refine Ok.enter hE Tryz.func38 rfl (by decide +kernel) (by kernel_rfl) rfl rfl (Nat.le_of_ble_eq_true rfl) rfl ?_
   refine ⟨_, eqN (by first | decide | (dsimp only; decide)), ?_⟩
   refine ⟨_, eqN (by first | decide | (dsimp only; decide)), ?_⟩
   refine ⟨_, eqN (by first | decide | (dsimp only; decide)), ?_⟩
   refine ⟨_, eqN (by first | decide | (dsimp only; decide)), ?_⟩
   refine ⟨_, eqN (by first | decide | (dsimp only; decide)), ?_⟩
   refine ⟨_, idxV (j := 0) hg rfl rfl rfl rfl, ?_⟩
   refine ⟨_, CallR.mk1 ha rfl rfl, ?_⟩
   refine ⟨_, neN rfl, ?_⟩
   refine ⟨_, eqN (by first | decide | (dsimp only; decide)), ?_⟩
   refine ⟨_, eqN (by first | decide | (dsimp only; decide)), ?_⟩
   refine ⟨_, eqN (by first | decide | (dsimp only; decide)), ?_⟩
   refine ⟨_, idxV (j := 1) hg2 rfl rfl rfl rfl, ?_⟩
   refine ⟨_, CallR.mk1 hb rfl rfl, ?_⟩
   refine ⟨_, neN rfl, ?_⟩
   refine ⟨_, eqN (by first | decide | (dsimp only; decide)), ?_⟩
   refine ⟨_, maxV rfl, ?_⟩
   exact Ret.mk _ rfl rfl rfl
theorem t_9 (hx : TeD l x) (hy : TeD l y) : TeD l ⟨9, n, nm, [x, y]⟩ := by
 have hg := encL_get1 x [y]
 have hg2 := encL_get2 x y []
 cases h1 : evalE l x with
 | er e =>
  have he := hx.ne e h1
  have ha := hx.at' h1
  refine .mk' (r := .er e) (by rw [ev9, h1]) (neE (d := 0) he) ?_
  refine Ok.enter hE Tryz.func38 rfl (by decide +kernel) (by kernel_rfl) rfl rfl (Nat.le_of_ble_eq_true rfl) rfl ?_
  refine ⟨_, eqN (by first | decide | (dsimp only; decide)), ?_⟩
  refine ⟨_, eqN (by first | decide | (dsimp only; decide)), ?_⟩
  refine ⟨_, eqN (by first | decide | (dsimp only; decide)), ?_⟩
  refine ⟨_, eqN (by first | decide | (dsimp only; decide)), ?_⟩
  refine ⟨_, eqN (by first | decide | (dsimp only; decide)), ?_⟩
  refine ⟨_, idxV (j := 0) hg rfl rfl rfl rfl, ?_⟩
  refine ⟨_, CallR.mk1 ha rfl rfl, ?_⟩
  refine ⟨_, neT he, ?_⟩
  exact Ret.mk _ rfl rfl rfl
 | am a =>
  have ha := hx.at' h1
  refine .mk' (r := .am a) (by rw [ev9, h1]) (fun e h => by cases h) ?_
  refine Ok.enter hE Tryz.func38 rfl (by decide +kernel) (by kernel_rfl) rfl rfl (Nat.le_of_ble_eq_true rfl) rfl ?_
  refine ⟨_, eqN (by first | decide | (dsimp only; decide)), ?_⟩
  refine ⟨_, eqN (by first | decide | (dsimp only; decide)), ?_⟩
  refine ⟨_, eqN (by first | decide | (dsimp only; decide)), ?_⟩
  refine ⟨_, eqN (by first | decide | (dsimp only; decide)), ?_⟩
  refine ⟨_, eqN (by first | decide | (dsimp only; decide)), ?_⟩
  refine ⟨_, idxV (j := 0) hg rfl rfl rfl rfl, ?_⟩
  refine ⟨_, CallR.mk1 ha rfl rfl, ?_⟩
  refine ⟨_, neN rfl, ?_⟩
  refine ⟨_, eqT rfl, ?_⟩
  exact Ret.mk _ rfl rfl rfl
 | no =>
  have ha := hx.at' h1
  have hb := hy.ok
  have hn := hy.ne
  obtain ⟨r, hr⟩ : ∃ r, evalE l y = r := ⟨_, rfl⟩
  rw [hr] at hb hn
  refine .mk' (r := r) (by rw [ev9, h1, hr]) hn ?_
  refine Ok.enter hE Tryz.func38 rfl (by decide +kernel) (by kernel_rfl) rfl rfl (Nat.le_of_ble_eq_true rfl) rfl ?_
  refine ⟨_, eqN (by first | decide | (dsimp only; decide)), ?_⟩
  refine ⟨_, eqN (by first | decide | (dsimp only; decide)), ?_⟩
  refine ⟨_, eqN (by first | decide | (dsimp only; decide)), ?_⟩
  refine ⟨_, eqN (by first | decide | (dsimp only; decide)), ?_⟩
  refine ⟨_, eqN (by first | decide | (dsimp only; decide)), ?_⟩
  refine ⟨_, idxV (j := 0) hg rfl rfl rfl rfl, ?_⟩
  refine ⟨_, CallR.mk1 ha rfl rfl, ?_⟩
  refine ⟨_, neN rfl, ?_⟩
  refine ⟨_, eqT rfl, ?_⟩
  refine ⟨_, idxV (j := 1) hg2 rfl rfl rfl rfl, ?_⟩
  refine ⟨_, CallR.mk1 hb rfl rfl, ?_⟩
  exact Ret.mk _ rfl rfl rfl
theorem t_10 (hx : CeD l x) (hy : TeD l y) (hz : TeD l z) : TeD l ⟨10, n, nm, [x, y, z]⟩ := by
 have hg := encL_get1 x [y, z]
 have hg2 := encL_get2 x y [z]
 have hg3 := encL_get3 x y z []
 cases h1 : condE l x with
 | er e =>
  have he := hx.ne e h1
  have ha := hx.at' h1
  refine .mk' (r := .er e) (by rw [ev10, h1]) (neE (d := 0) he) ?_
  refine Ok.enter hE Tryz.func38 rfl (by decide +kernel) (by kernel_rfl) rfl rfl (Nat.le_of_ble_eq_true rfl) rfl ?_
  refine ⟨_, eqN (by first | decide | (dsimp only; decide)), ?_⟩
  refine ⟨_, eqN (by first | decide | (dsimp only; decide)), ?_⟩
  refine ⟨_, eqN (by first | decide | (dsimp only; decide)), ?_⟩
  refine ⟨_, eqN (by first | decide | (dsimp only; decide)), ?_⟩
  refine ⟨_, eqT rfl, ?_⟩
  refine ⟨_, idxV (j := 0) hg rfl rfl rfl rfl, ?_⟩
  refine ⟨_, CallR.mk1 ha rfl rfl, ?_⟩
  refine ⟨_, neT he, ?_⟩
  exact Ret.mk _ rfl rfl rfl
 | is b =>
  have ha := hx.at' h1
  cases b with
  | true =>
   have hb := hy.ok
   have hn := hy.ne
   obtain ⟨r, hr⟩ : ∃ r, evalE l y = r := ⟨_, rfl⟩
   rw [hr] at hb hn
   refine .mk' (r := r) (by rw [ev10, h1]; exact hr) hn ?_
   refine Ok.enter hE Tryz.func38 rfl (by decide +kernel) (by kernel_rfl) rfl rfl (Nat.le_of_ble_eq_true rfl) rfl ?_
   refine ⟨_, eqN (by first | decide | (dsimp only; decide)), ?_⟩
   refine ⟨_, eqN (by first | decide | (dsimp only; decide)), ?_⟩
   refine ⟨_, eqN (by first | decide | (dsimp only; decide)), ?_⟩
   refine ⟨_, eqN (by first | decide | (dsimp only; decide)), ?_⟩
   refine ⟨_, eqT rfl, ?_⟩
   refine ⟨_, idxV (j := 0) hg rfl rfl rfl rfl, ?_⟩
   refine ⟨_, CallR.mk1 ha rfl rfl, ?_⟩
   refine ⟨_, neN rfl, ?_⟩
   refine ⟨_, idxV (j := 1) hg2 rfl rfl rfl rfl, ?_⟩
   refine ⟨_, CallR.mk1 hb rfl rfl, ?_⟩
   exact Ret.mk _ rfl rfl rfl
  | false =>
   have hb := hz.ok
   have hn := hz.ne
   obtain ⟨r, hr⟩ : ∃ r, evalE l z = r := ⟨_, rfl⟩
   rw [hr] at hb hn
   refine .mk' (r := r) (by rw [ev10, h1]; exact hr) hn ?_
   refine Ok.enter hE Tryz.func38 rfl (by decide +kernel) (by kernel_rfl) rfl rfl (Nat.le_of_ble_eq_true rfl) rfl ?_
   refine ⟨_, eqN (by first | decide | (dsimp only; decide)), ?_⟩
   refine ⟨_, eqN (by first | decide | (dsimp only; decide)), ?_⟩
   refine ⟨_, eqN (by first | decide | (dsimp only; decide)), ?_⟩
   refine ⟨_, eqN (by first | decide | (dsimp only; decide)), ?_⟩
   refine ⟨_, eqT rfl, ?_⟩
   refine ⟨_, idxV (j := 0) hg rfl rfl rfl rfl, ?_⟩
   refine ⟨_, CallR.mk1 ha rfl rfl, ?_⟩
   refine ⟨_, neN rfl, ?_⟩
   refine ⟨_, idxV (j := 2) hg3 rfl rfl rfl rfl, ?_⟩
   refine ⟨_, CallR.mk1 hb rfl rfl, ?_⟩
   exact Ret.mk _ rfl rfl rfl
theorem c_11 : CeD l ⟨11, n, nm, []⟩ := by
 have hel := rowO_len l
 refine .mk' (r := .is (decide (n < l.length))) cd11 (fun e h => by cases h) ?_
 refine Ok.enter hE Tryz.func72 rfl (by decide +kernel) (by kernel_rfl) rfl rfl (Nat.le_of_ble_eq_true rfl) rfl ?_
 refine ⟨_, eqT rfl, ?_⟩
 refine ⟨_, gtV (by rw [hel]), ?_⟩
 exact Ret.mk _ rfl rfl rfl
theorem c_12 (hx : TeD l x) (hy : TeD l y) : CeD l ⟨12, n, nm, [x, y]⟩ := by
 have hg := encL_get1 x [y]
 have hg2 := encL_get2 x y []
 cases h1 : evalE l x with
 | er e =>
  have he := hx.ne e h1
  have ha := hx.at' h1
  refine .mk' (r := .er e) (by rw [cd12, h1]; rfl) (neC (d := 0) he) ?_
  refine Ok.enter hE Tryz.func72 rfl (by decide +kernel) (by kernel_rfl) rfl rfl (Nat.le_of_ble_eq_true rfl) rfl ?_
  refine ⟨_, eqN (by first | decide | (dsimp only; decide)), ?_⟩
  refine ⟨_, idxV (j := 0) hg rfl rfl rfl rfl, ?_⟩
  refine ⟨_, CallR.mk1 ha rfl rfl, ?_⟩
  refine ⟨_, neT he, ?_⟩
  exact Ret.mk _ rfl rfl rfl
 | no =>
  have ha := hx.at' h1
  cases h2 : evalE l y with
  | er e =>
   have he := hy.ne e h2
   have hb := hy.at' h2
   refine .mk' (r := .er e) (by rw [cd12, h1, h2]; rfl) (neC (d := 0) he) ?_
   refine Ok.enter hE Tryz.func72 rfl (by decide +kernel) (by kernel_rfl) rfl rfl (Nat.le_of_ble_eq_true rfl) rfl ?_
   refine ⟨_, eqN (by first | decide | (dsimp only; decide)), ?_⟩
   refine ⟨_, idxV (j := 0) hg rfl rfl rfl rfl, ?_⟩
   refine ⟨_, CallR.mk1 ha rfl rfl, ?_⟩
   refine ⟨_, neN rfl, ?_⟩
   refine ⟨_, idxV (j := 1) hg2 rfl rfl rfl rfl, ?_⟩
   refine ⟨_, CallR.mk1 hb rfl rfl, ?_⟩
   refine ⟨_, eqN he, ?_⟩
   exact Ret.mk _ rfl rfl rfl
  | no =>
   have hb := hy.at' h2
   refine .mk' (r := .is false) (by rw [cd12, h1, h2]; rfl) (fun e h => by cases h) ?_
   refine Ok.enter hE Tryz.func72 rfl (by decide +kernel) (by kernel_rfl) rfl rfl (Nat.le_of_ble_eq_true rfl) rfl ?_
   refine ⟨_, eqN (by first | decide | (dsimp only; decide)), ?_⟩
   refine ⟨_, idxV (j := 0) hg rfl rfl rfl rfl, ?_⟩
   refine ⟨_, CallR.mk1 ha rfl rfl, ?_⟩
   refine ⟨_, neN rfl, ?_⟩
   refine ⟨_, idxV (j := 1) hg2 rfl rfl rfl rfl, ?_⟩
   refine ⟨_, CallR.mk1 hb rfl rfl, ?_⟩
   refine ⟨_, eqT rfl, ?_⟩
   exact Ret.mk _ rfl rfl rfl
  | am b =>
   have hb := hy.at' h2
   refine .mk' (r := .is false) (by rw [cd12, h1, h2]; rfl) (fun e h => by cases h) ?_
   refine Ok.enter hE Tryz.func72 rfl (by decide +kernel) (by kernel_rfl) rfl rfl (Nat.le_of_ble_eq_true rfl) rfl ?_
   refine ⟨_, eqN (by first | decide | (dsimp only; decide)), ?_⟩
   refine ⟨_, idxV (j := 0) hg rfl rfl rfl rfl, ?_⟩
   refine ⟨_, CallR.mk1 ha rfl rfl, ?_⟩
   refine ⟨_, neN rfl, ?_⟩
   refine ⟨_, idxV (j := 1) hg2 rfl rfl rfl rfl, ?_⟩
   refine ⟨_, CallR.mk1 hb rfl rfl, ?_⟩
   refine ⟨_, eqT rfl, ?_⟩
   exact Ret.mk _ rfl rfl rfl
 | am a =>
  have ha := hx.at' h1
  cases h2 : evalE l y with
  | er e =>
   have he := hy.ne e h2
   have hb := hy.at' h2
   refine .mk' (r := .er e) (by rw [cd12, h1, h2]; rfl) (neC (d := 0) he) ?_
   refine Ok.enter hE Tryz.func72 rfl (by decide +kernel) (by kernel_rfl) rfl rfl (Nat.le_of_ble_eq_true rfl) rfl ?_
   refine ⟨_, eqN (by first | decide | (dsimp only; decide)), ?_⟩
   refine ⟨_, idxV (j := 0) hg rfl rfl rfl rfl, ?_⟩
   refine ⟨_, CallR.mk1 ha rfl rfl, ?_⟩
   refine ⟨_, neN rfl, ?_⟩
   refine ⟨_, idxV (j := 1) hg2 rfl rfl rfl rfl, ?_⟩
   refine ⟨_, CallR.mk1 hb rfl rfl, ?_⟩
   refine ⟨_, eqN he, ?_⟩
   exact Ret.mk _ rfl rfl rfl
  | no =>
   have hb := hy.at' h2
   refine .mk' (r := .is false) (by rw [cd12, h1, h2]; rfl) (fun e h => by cases h) ?_
   refine Ok.enter hE Tryz.func72 rfl (by decide +kernel) (by kernel_rfl) rfl rfl (Nat.le_of_ble_eq_true rfl) rfl ?_
   refine ⟨_, eqN (by first | decide | (dsimp only; decide)), ?_⟩
   refine ⟨_, idxV (j := 0) hg rfl rfl rfl rfl, ?_⟩
   refine ⟨_, CallR.mk1 ha rfl rfl, ?_⟩
   refine ⟨_, neN rfl, ?_⟩
   refine ⟨_, idxV (j := 1) hg2 rfl rfl rfl rfl, ?_⟩
   refine ⟨_, CallR.mk1 hb rfl rfl, ?_⟩
   refine ⟨_, eqT rfl, ?_⟩
   exact Ret.mk _ rfl rfl rfl
  | am b =>
   have hb := hy.at' h2
   refine .mk' (r := .is (decide (b < a))) (by rw [cd12, h1, h2]; rfl) (fun e h => by cases h) ?_
   refine Ok.enter hE Tryz.func72 rfl (by decide +kernel) (by kernel_rfl) rfl rfl (Nat.le_of_ble_eq_true rfl) rfl ?_
   refine ⟨_, eqN (by first | decide | (dsimp only; decide)), ?_⟩
   refine ⟨_, idxV (j := 0) hg rfl rfl rfl rfl, ?_⟩
   refine ⟨_, CallR.mk1 ha rfl rfl, ?_⟩
   refine ⟨_, neN rfl, ?_⟩
   refine ⟨_, idxV (j := 1) hg2 rfl rfl rfl rfl, ?_⟩
   refine ⟨_, CallR.mk1 hb rfl rfl, ?_⟩
   refine ⟨_, eqT rfl, ?_⟩
   refine ⟨_, gtV rfl, ?_⟩
   exact Ret.mk _ rfl rfl rfl
end
theorem told_all {l : List Of} (hr : rightO l = true) : ∀ d : Nat, (∀ x, isFine (d : Int) false x = true → TeD l x) ∧ ∀ x, isFine (d : Int) true x = true → CeD l x
 | 0 => ⟨fun ⟨k, n, nm, xs⟩ h => by have := (fine_kind h).1; omega, fun ⟨k, n, nm, xs⟩ h => by have := (fine_kind h).1; omega⟩
 | d + 1 => by
  obtain ⟨ihe, ihc⟩ := told_all hr d
  have hl : l.length ≤ 1000000 := by have := (right_iff.1 hr).2.1; omega
  constructor
  ·rintro ⟨k, n, nm, xs⟩ h
   obtain ⟨-, n0, n1, hk⟩ := fine_kind h
   rw [show ((d + 1 : Nat) : Int) - 1 = (d : Int) by omega] at hk
   rcases hk with ⟨-, hk, rfl⟩ | ⟨-, hk, x, rfl, hx⟩ | ⟨-, hk, x, y, rfl, hx, hy⟩ | ⟨-, rfl, x, y, z, rfl, hx, hy, hz⟩ | ⟨hc, -⟩ | ⟨hc, -⟩
   ·rcases hk with rfl | rfl | rfl | rfl
    ·exact t_1 hl
    ·exact t_2 hl
    ·exact t_3 hl
    ·exact t_4
   ·rcases hk with rfl | ⟨rfl, hn⟩
    ·exact t_5 (ihe x hx) (eval_r hr d x hx) n0 n1
    ·exact t_6 (ihe x hx) (eval_r hr d x hx) n0 hn
   ·rcases hk with rfl | rfl | rfl
    ·exact t_7 (ihe x hx) (ihe y hy)
    ·exact t_8 (ihe x hx) (ihe y hy)
    ·exact t_9 (ihe x hx) (ihe y hy)
   ·exact t_10 (ihc x hx) (ihe y hy) (ihe z hz)
   ·cases hc
   ·cases hc
  ·rintro ⟨k, n, nm, xs⟩ h
   obtain ⟨-, n0, n1, hk⟩ := fine_kind h
   rw [show ((d + 1 : Nat) : Int) - 1 = (d : Int) by omega] at hk
   rcases hk with ⟨hc, -⟩ | ⟨hc, -⟩ | ⟨hc, -⟩ | ⟨hc, -⟩ | ⟨-, rfl, rfl⟩ | ⟨-, rfl, x, y, rfl, hx, hy⟩
   ·cases hc
   ·cases hc
   ·cases hc
   ·cases hc
   ·exact c_11
   ·exact c_12 (ihe x hx) (ihe y hy)
end Go.Proofs.YtgpkppohfodhdaaGreatDoor.Va
namespace Go.Proofs.YtgpkppohfodhdaaGreatDoor.Va
open Go Go.RowKit Go.Proofs.YtgpkppohfodhdaaGreatDoor.Pm Go.Proofs.YtgpkppohfodhdaaGreatDoor.Pl
set_option linter.unusedVariables false
set_option linter.unusedSimpArgs false
set_option maxHeartbeats 4000000
set_option maxRecDepth 8000
end Go.Proofs.YtgpkppohfodhdaaGreatDoor.Va
