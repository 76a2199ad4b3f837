import Derived.Test.YtgpkppohfodhdaaGreatDoorPmBll
import Derived.Test.YtgpkppohfodhdaaGreatDoorProg
import Derived.Tactics
import Derived.Tactics2
import Derived.WalkKit
import Derived.WalkSpells
import Derived.StillTactics
import Derived.OwnWalk
import Derived.Laws.Pointers
import Derived.StillTailTactics
import Derived.Deep.RegionHeld3
import Derived.Deep.RegionLaw
import Derived.Deep.AppendLies
import Derived.KernelRfl
import Derived.Test.YtgpkppohfodhdaaGreatDoorCdAll
import Derived.Maps.Own
import Derived.Carry
namespace Go.Proofs.YtgpkppohfodhdaaGreatDoor.Cd
open Go Go.RowKit Go.Proofs.YtgpkppohfodhdaaGreatDoor.Pm
set_option linter.unusedVariables false
set_option linter.unusedSimpArgs false
theorem infoInstr : (Tryz.prog.info? 36).map (fun i => (i.zero, i.size, i.bytes)) = some (some (.agg #[.int .i64 0, .int .i64 0, .string ⟨#[]⟩]), 3, 32) := by kernel_rfl
theorem nofr {w : World} {b o : Nat} {arr : Array Value} {ty : TypeId} (h : w.heap[b]? = some (.cells arr ty (0, 0))) : w.frozen? ⟨b, o, none⟩ = false := by simp [World.frozen?, h]
theorem setCell_at {w : World} {b : Nat} {arr : Array Value} {ty : TypeId} {v : Value} (h : w.heap[b]? = some (.cells arr ty (0, 0))) : (w.setCell ⟨b, 0, none⟩ v).heap[b]? = some (.cells (arr.toList.set 0 v).toArray ty (0, 0)) := by
 simp only [World.setCell, Array.getElem?_modify, h]
 simp
 apply Array.toList_inj.1
 simp
theorem setCell_far {w : World} {b k : Nat} {v : Value} (h : k ≠ b) : (w.setCell ⟨b, 0, none⟩ v).heap[k]? = w.heap[k]? := by
 simp only [World.setCell, Array.getElem?_modify]
 rw [if_neg (Ne.symm h)]
theorem setCell_size {w : World} {a : Addr} {v : Value} : (w.setCell a v).heap.size = w.heap.size := by simp [World.setCell]
structure Put (base e sz : Nat) (w : World) (b : Nat) (arr : Array Value) (ty : TypeId) (v : Value) (n : Nat) (us : List Value) (w' : World) (v' : Value) : Prop where
 os : w'.os = w.os
 tape : w'.tape = w.tape
 out : w'.output = w.output
 size : w.heap.size ≤ w'.heap.size
 far : ∀ k, k < w.heap.size → k ≠ b → v.ownBlock ≠ some k → w'.heap[k]? = w.heap[k]?
 at_ : w'.heap[b]? = some (.cells (arr.toList.set 0 v').toArray ty (0, 0))
 own : w'.ownsRow base e sz v' n us
 blk : ∀ g, v'.ownBlock = some g → v.ownBlock = some g ∨ w.heap.size ≤ g
 form : ∃ gg cap, v' = .slice (some ⟨gg, 0, none⟩) n cap
theorem Put.of {base e sz n b gg cap : Nat} {w W w1 : World} {arr : Array Value} {ty : TypeId} {v : Value} {us : List Value} {o o' : Obj} (hW : w.alloc o = W) (hg : (W.alloc o').drew.grownBy w1 v.ownBlock) (hbw : w1.heap[b]? = some (.cells arr ty (0, 0)))
  (hown : w1.ownsRow base e sz (.slice (some ⟨gg, 0, none⟩) n cap) n us) (hat : v.ownBlock = some gg ∨ gg = W.heap.size + 1) (lb : b < w.heap.size) (hne : gg ≠ b) : Put base e sz w b arr ty v n us (w1.setCell ⟨b, 0, none⟩ (.slice (some ⟨gg, 0, none⟩) n cap)) (.slice (some ⟨gg, 0, none⟩) n cap) := by
 have hs : (W.alloc o').drew.heap.size = w.heap.size + 2 := by rw [← hW]; simp
 refine ⟨by rw [← hW] at hg; exact hg.os, by rw [← hW] at hg; exact hg.tape, by rw [← hW] at hg; exact hg.output, ?_, fun k hk h1 h2 => ?_, setCell_at hbw, ?_, fun g h => ?_, gg, cap, rfl⟩
 ·rw [setCell_size]; have := hg.size; omega
 ·rw [setCell_far h1, hg.block k (by omega) (Ne.symm h2), ← hW]
  exact (Pm.alloc_old (w.alloc o) o' k (by simp; omega)).trans (Pm.alloc_old w o k hk)
 ·exact own_move hown fun g h => setCell_far (by injection h with h; subst h; exact hne)
 ·injection h with h; subst h
  rcases hat with h | h
  ·exact .inl h
  ·right; rw [h, ← hW]; simp; omega
set_option maxRecDepth 100000 in
set_option maxHeartbeats 3200000 in
theorem put_walk (b n base : Nat) (v a0 a1 a2 : Value) (us : List Value) (w : World) (arr : Array Value) (ty : TypeId) (hw : w.heap[b]? = some (.cells arr ty (0, 0))) (hv : arr[0]? = some v) (ho0 : a0.oneCell' = true) (ho1 : a1.oneCell' = true) (ho2 : a2.oneCell' = true)
  (hown : w.ownsRow base 36 3 v n us) (hbase : base ≤ w.heap.size) (hn : n + 1 ≤ maxLen) (hb : (n + 1) * 32 ≤ 140737488355328) (ag : v.ownBlock ≠ some b) :
  Calls Tryz.prog 53 #[.pointer (some ⟨b, 0, none⟩), .agg #[a0, a1, a2]] w fun e w' => ∃ v', e = .returned (.tuple #[]) ∧ Put base 36 3 w b arr ty v (n + 1) (us ++ [a0, a1, a2]) w' v' := by
 obtain ⟨i0, hi0, hz0, hz1, hz2⟩ := info_parts infoInstr
 have hc : w.cell? ⟨b, 0, none⟩ = some v := by simp [World.cell?, hw, hv]
 have lb := World.block_lt_of_cell? w _ hc
 have ag2 : v.ownBlock ≠ some w.heap.size := fun h => by have := (hown.lt _ h).2; omega
 have hne := World.new_ne w _ hc
 go_enter Tryz.func53, Tryz.ntmps53
 go_wp2_with fail
 have ha : 0 < arr.size := (Array.getElem?_eq_some_iff.1 hv).1
 obtain ⟨W, hW⟩ : ∃ W, w.alloc (Obj.cells #[a0, a1, a2] 36) = W := ⟨_, rfl⟩
 have c0 : W.cell? ⟨b, 0, none⟩ = some v := by rw [← hW]; exact (World.cell?_alloc_old _ _ _ (Nat.ne_of_lt lb)).trans hc
 have cb : W.heap[b]? = some (.cells arr ty (0, 0)) := by rw [← hW]; exact (heap_alloc_old w _ lb).trans hw
 have c1 : W.cell? ⟨w.heap.size, 0, none⟩ = some a0 := by rw [← hW]; simp
 have c2 : W.cell? ⟨w.heap.size, 1, none⟩ = some a1 := by rw [← hW]; simp
 have c3 : W.cell? ⟨w.heap.size, 2, none⟩ = some a2 := by rw [← hW]; simp
 have hownW : W.ownsRow base 36 3 v n us := by rw [← hW]; exact hown.alloc _
 have hWs : W.heap.size = w.heap.size + 1 := by rw [← hW]; simp
 have lbW : b < W.heap.size := by have : b < w.heap.size := lb; omega
 have d0 : ∀ o, (W.alloc o).cell? ⟨b, 0, none⟩ = some v := fun o => (World.cell?_alloc_old _ _ _ (by show b ≠ W.heap.size; omega)).trans c0
 have d1 : ∀ o, (W.alloc o).cell? ⟨w.heap.size, 0, none⟩ = some a0 := fun o => (World.cell?_alloc_old _ _ _ (by show w.heap.size ≠ W.heap.size; omega)).trans c1
 have d2 : ∀ o, (W.alloc o).cell? ⟨w.heap.size, 1, none⟩ = some a1 := fun o => (World.cell?_alloc_old _ _ _ (by show w.heap.size ≠ W.heap.size; omega)).trans c2
 have d3 : ∀ o, (W.alloc o).cell? ⟨w.heap.size, 2, none⟩ = some a2 := fun o => (World.cell?_alloc_old _ _ _ (by show w.heap.size ≠ W.heap.size; omega)).trans c3
 have db : ∀ o, (W.alloc o).heap[b]? = some (.cells arr ty (0, 0)) := fun o => (Pm.alloc_old W o b lbW).trans cb
 rw [hW]
 go_region_law ((refine step_append_lies _ (by rfl) _ _ _ (by rfl) base 36 i0 _ 3 32 Tryz.underlying23 hi0 hz0 hz1 hz2 rfl (by omega) v n us (by rfl) ((hownW.alloc _).drew) ⟨w.heap.size + 1, 0, none⟩ 1 1 [a0, a1, a2] (by rfl) (by rfl) (World.news_of_block (cs := #[a0, a1, a2]) (t := 36) (fr := (0, 0)) (by rw [← hWs]; exact heap_alloc_new W _)) (by simp [ho0, ho1, ho2]) (by omega) hn hb (by simp; omega) (W.heap.size + 1) (by simp) ?_; intro gg cap w1 hown1 hgrow hat hlt; have hbw := (hgrow.block b (by simp; omega) (Ne.symm ag)).trans (db _); have hfw := nofr (o := 0) hbw; have hcw : w1.cell? ⟨b, 0, none⟩ = some v := by simp [World.cell?, hbw, hv]))
 all_goals (
  have hne' : gg ≠ b := by
   rcases hat with h | h
   ·rintro rfl; exact ag h
   ·have : b < w.heap.size := lb
    omega
  have hP := Put.of (n := n + 1) (us := us ++ [a0, a1, a2]) hW hgrow hbw hown1 hat lb hne'
  go_wp2
  go_end0
  exact ⟨_, by simp, hP⟩)
end Go.Proofs.YtgpkppohfodhdaaGreatDoor.Cd
namespace Go.Proofs.YtgpkppohfodhdaaGreatDoor.Cd
open Go Go.RowKit Go.Proofs.YtgpkppohfodhdaaGreatDoor.Pm
set_option linter.unusedVariables false
set_option linter.unusedSimpArgs false
theorem rowI_three (l : List Ins) : ∀ x ∈ rowI l, x.length = 3 := by
 intro x hx
 obtain ⟨y, -, rfl⟩ := List.mem_map.1 hx
 rfl
theorem put_ok (l : List Ins) (x : Ins) (q : PV) (hq : q.closedB = true) (hn : l.length + 1 ≤ 4398046511104) :
  Ok E 53 [[.stk 36 (rowI l), q]] [.ptr 0 0, .agg (cellsI x)] (.tup []) [[.stk 36 (rowI (l ++ [x])), q]] := by
 refine ⟨⟨_, Tryz.func53, by decide +kernel, by kernel_rfl⟩, fun w ok ms gs vals hst M hr => ?_⟩
 obtain ⟨b, rfl⟩ : ∃ b, ms = [b] := by
  have := M.len
  match ms, this with
  | [b], _ => exact ⟨b, rfl⟩
 obtain ⟨p0, p1, hp⟩ : ∃ p0 p1, vals.toList = [p0, p1] := by
  have := hr.1
  generalize vals.toList = L at this
  match L, this with
  | [p0, p1], _ => exact ⟨p0, p1, rfl⟩
 rw [hp] at hr
 obtain ⟨cs, hp1, hcs⟩ : ∃ cs : Array Value, p1 = .agg cs ∧ RepL (RepC w ok) cs.toList (cellsI x) := by
  cases hr.tail.head with
  | agg cs _ h => exact ⟨cs, rfl, h⟩
 have hp0 : p0 = .pointer (some ⟨b, 0, none⟩) := by
  cases hr.head with
  | ptr _ _ b' hm => simp at hm; rw [hm]
 obtain ⟨a0, a1, a2, hc3⟩ : ∃ a0 a1 a2, cs.toList = [a0, a1, a2] := by
  have := hcs.1
  generalize cs.toList = L at this
  match L, this with
  | [a0, a1, a2], _ => exact ⟨a0, a1, a2, rfl⟩
 rw [hc3] at hcs
 have hvals : vals = #[.pointer (some ⟨b, 0, none⟩), .agg #[a0, a1, a2]] := by
  apply Array.toList_inj.1
  rw [hp, hp0, hp1]
  show _ = [Value.pointer (some ⟨b, 0, none⟩), .agg #[a0, a1, a2]]
  rw [show cs = #[a0, a1, a2] from Array.toList_inj.1 hc3]
 obtain ⟨bs0, arr, ty, g1, g2, g3, g4, g5, g6⟩ := M.box 0 b rfl
 have g1 : [PV.stk 36 (rowI l), q] = bs0 := by simpa using g1
 subst g1
 obtain ⟨v, hv, -⟩ := g3.get (i := 0) rfl
 obtain ⟨sz, us, ho, hru, hx, hti, hgb⟩ := M.stk.own 0 0 v 36 (rowI l) ⟨b, _, arr, ty, rfl, rfl, g2, hv, rfl⟩
 have hsz : sz = 3 := hti _ rfl
 subst hsz
 rw [rowI_len] at ho
 have hgl := hE.glob w M.inv
 rw [hvals]
 refine (put_walk b l.length Tryz.prog.globals.size v a0 a1 a2 us w arr ty g2 (by simpa using hv) hcs.head.oneCell hcs.tail.head.oneCell hcs.tail.tail.head.oneCell ho hgl (by simp only [maxLen]; omega) (by omega) (fun hb => (hgb b hb).1.2.1 0 rfl)).mono ?_
 rintro e w' ⟨v', rfl, P⟩
 obtain ⟨gg, cap, hf⟩ := P.form
 have hxs : rowI (l ++ [x]) = rowI l ++ [cellsI x] := by simp [rowI]
 have hlen : (rowI (l ++ [x])).length = l.length + 1 := by rw [rowI_len]; simp
 obtain ⟨M', L⟩ := M.restk hE (i := 0) (j := 0) (b := b) (e := 36) (cs := [PV.stk 36 (rowI l), q]) (xs := rowI l) (xs' := rowI (l ++ [x])) (sz := 3) (us := us ++ [a0, a1, a2]) rfl rfl g2 hv rfl P.os P.tape P.out P.size P.far P.at_ (by rw [hlen]; exact P.own) (fun S => by
   rw [hxs, List.flatten_append]
   exact (hru.mono fun _ _ h => h.stay S).append (by simpa using hcs.mono fun _ _ h => h.stay S)) (rowI_three _) hti P.blk (fun w m tk => by rw [hf]; exact .stk _ _ _ _ _ hlen.symm)
 exact ⟨_, ok, rfl, M', fun _ _ h => h, .tup _ _ rfl (fun i v d h _ => by simp at h)⟩
end Go.Proofs.YtgpkppohfodhdaaGreatDoor.Cd
namespace Go.Proofs.YtgpkppohfodhdaaGreatDoor.Cd
open Go Go.RowKit Go.Proofs.YtgpkppohfodhdaaGreatDoor.Pm
set_option linter.unusedVariables false
set_option linter.unusedSimpArgs false
theorem setO_at {w : World} {b o : Nat} {arr : Array Value} {ty : TypeId} {v : Value} (h : w.heap[b]? = some (.cells arr ty (0, 0))) : (w.setCell ⟨b, o, none⟩ v).heap[b]? = some (.cells (arr.toList.set o v).toArray ty (0, 0)) := by
 simp only [World.setCell, Array.getElem?_modify, h]
 simp
 apply Array.toList_inj.1
 simp
theorem setO_far {w : World} {b o k : Nat} {v : Value} (h : k ≠ b) : (w.setCell ⟨b, o, none⟩ v).heap[k]? = w.heap[k]? := by
 simp only [World.setCell, Array.getElem?_modify]
 rw [if_neg (Ne.symm h)]
theorem setO_cell {w : World} {b o k i : Nat} {v : Value} (h : k ≠ b) : (w.setCell ⟨b, o, none⟩ v).cell? ⟨k, i, none⟩ = w.cell? ⟨k, i, none⟩ := by
 unfold World.cell?
 rw [setO_far h]
set_option maxRecDepth 100000 in
set_option maxHeartbeats 3200000 in
theorem lead1_walk (wb ab b g n cap at_ : Nat) (w : World) (cur : Array Value) (ty : TypeId)
  (hj : w.cell? ⟨wb, 0, none⟩ = some (.pointer (some ⟨b, 0, none⟩))) (hk : w.cell? ⟨ab, 0, none⟩ = some (.int .i64 at_)) (hb : w.cell? ⟨b, 0, none⟩ = some (.slice (some ⟨g, 0, none⟩) n cap))
  (hg : w.heap[g]? = some (.cells cur ty (0, 0))) (ha : at_ < n) (hc : n * 3 ≤ cur.size) (n1 : wb ≠ g) (n2 : ab ≠ g) (n3 : b ≠ g) :
  Calls Tryz.prog 99 #[.pointer (some ⟨wb, 0, none⟩), .pointer (some ⟨ab, 0, none⟩)] w fun e w' => e = .returned (.tuple #[]) ∧ ∃ d, w' = { w.setCell ⟨g, at_ * 3 + 1, none⟩ (.int .i64 n) with drawn := d } := by
 have ha0 : (0 : Int) ≤ (at_ : Int) := Int.natCast_nonneg _
 have ha1 : (at_ : Int) < (n : Int) := by omega
 have hcg : w.cell? ⟨g, at_ * 3 + 1, none⟩ = some (cur[at_ * 3 + 1]'(by omega)) := by simp [World.cell?, hg]
 have hfg : w.frozen? ⟨g, at_ * 3 + 1, none⟩ = false := by simp [World.frozen?, hg]
 go_enter Tryz.func99, Tryz.ntmps99
 go_wp2_with fail
 go_region_held3 (fun w' => w'.cell? ⟨wb, 0, none⟩ = some (.pointer (some ⟨b, 0, none⟩)) ∧ w'.cell? ⟨ab, 0, none⟩ = some (.int .i64 at_) ∧ w'.cell? ⟨b, 0, none⟩ = some (.slice (some ⟨g, 0, none⟩) n cap))
  (first
   | exact ⟨hj, hk, hb⟩
   | exact ⟨(setO_cell n1).trans hj, (setO_cell n2).trans hk, (setO_cell n3).trans hb⟩
   | go_keep)
  (fail)
 go_wp2
 go_end0
 exact ⟨by simp, _, rfl⟩
theorem rowI_set : ∀ (l : List Ins) (k : Nat) (x y : Ins), l[k]? = some x → y.op = x.op → y.nm = x.nm → (rowI l).flatten.set (k * 3 + 1) (.int .i64 y.n) = (rowI (l.set k y)).flatten
 | [], k, x, y, h, _, _ => by simp at h
 | a :: l, 0, x, y, h, h1, h2 => by
  simp at h; subst h
  simp [rowI, cellsI, h1, h2]
 | a :: l, k + 1, x, y, h, h1, h2 => by
  have ih := rowI_set l k x y (by simpa using h) h1 h2
  rw [show (k + 1) * 3 + 1 = (k * 3 + 1) + 1 + 1 + 1 by omega]
  show (CV.int .i64 a.op :: .int .i64 a.n :: .str a.nm :: (rowI l).flatten).set _ _ = .int .i64 a.op :: .int .i64 a.n :: .str a.nm :: (rowI (l.set k y)).flatten
  simp only [List.set_cons_succ, ih]
theorem own_set {base e sz n g cap o : Nat} {w : World} {us : List Value} {x : Value} (h : w.ownsRow base e sz (.slice (some ⟨g, 0, none⟩) n cap) n us) (ho : o < n * sz) : (w.setCell ⟨g, o, none⟩ x).ownsRow base e sz (.slice (some ⟨g, 0, none⟩) n cap) n (us.set o x) := by
 refine ⟨by rw [List.length_set]; exact h.1, .inr ?_⟩
 rcases h.2 with ⟨h1, -⟩ | ⟨g', cap', cur, h1, h2, h3, h4, h5, h6, h7⟩
 ·cases h1
 ·injection h1 with h1 _ h1'
  injection h1 with h1; injection h1 with h1
  subst h1; subst h1'
  refine ⟨g, cap, _, rfl, h2, setO_at h3, h4, h5, by simpa using h6, ?_⟩
  rw [← h7, List.toList_toArray, List.take_set]
theorem lead1_ok {H : List (List PV)} {i j k at_ : Nat} {l : List Ins} {x : Ins} {q : PV} (hi : H[i]? = some [.stk 36 (rowI l), q]) (hj : H[j]? = some [.ptr i 0]) (hk : H[k]? = some [.c (.int .i64 at_)]) (hx : l[at_]? = some x) :
  OkW E 99 H [.ptr j 0, .ptr k 0] (.tup []) (H.set i [.stk 36 (rowI (l.set at_ ⟨x.op, l.length, x.nm⟩)), q]) := by
 refine ⟨⟨_, Tryz.func99, by decide +kernel, by kernel_rfl⟩, fun w ok ms gs vals M hr => ?_⟩
 have hml : ms.length = H.length := by have := M.len; rwa [List.length_map] at this
 have place : ∀ {t : Nat} {cs : List PV}, H[t]? = some cs → ∃ b, (ms.map some)[t]? = some (some b) := fun {t cs} h => by
  have hlt : t < ms.length := by rw [hml]; exact (List.getElem?_eq_some_iff.1 h).1
  exact ⟨ms[t], by rw [List.getElem?_map, List.getElem?_eq_getElem hlt]; rfl⟩
 obtain ⟨b, hb⟩ := place hi
 obtain ⟨wb, hwb⟩ := place hj
 obtain ⟨ab, hab⟩ := place hk
 have hat : at_ < l.length := (List.getElem?_eq_some_iff.1 hx).1
 obtain ⟨p0, p1, hp⟩ : ∃ p0 p1, vals.toList = [p0, p1] := by
  have := hr.1
  generalize vals.toList = L at this
  match L, this with
  | [p0, p1], _ => exact ⟨p0, p1, rfl⟩
 rw [hp] at hr
 have at_ptr : ∀ {v : Value} {t c : Nat}, Rep w ok (ms.map some) [] v (.ptr t 0) → (ms.map some)[t]? = some (some c) → v = .pointer (some ⟨c, 0, none⟩) := fun {v t c} h hc => by
  cases h with
  | ptr _ _ b' hm => rw [hc] at hm; injection hm with hm; injection hm with hm; rw [hm]
 have hvals : vals = #[.pointer (some ⟨wb, 0, none⟩), .pointer (some ⟨ab, 0, none⟩)] := by
  apply Array.toList_inj.1
  rw [hp, at_ptr hr.head hwb, at_ptr hr.tail.head hab]
 obtain ⟨c1, arr1, ty1, a1, a2, a3, -⟩ := M.box j wb hwb
 obtain ⟨c2, arr2, ty2, b1, b2, b3, -⟩ := M.box k ab hab
 obtain ⟨c3, arr, ty, d1, d2, d3, d4⟩ := M.box i b hb
 rw [hj] at a1; injection a1 with a1; subst a1
 rw [hk] at b1; injection b1 with b1; subst b1
 rw [hi] at d1; injection d1 with d1; subst d1
 obtain ⟨v1, e1, e2⟩ := a3.get (i := 0) rfl
 obtain ⟨v2, f1, f2⟩ := b3.get (i := 0) rfl
 obtain ⟨v, hv, -⟩ := d3.get (i := 0) rfl
 rw [at_ptr e2 hb] at e1
 rw [f2.int_inv] at f1
 obtain ⟨sz, us, ho, hru, hxs, hti, hgb⟩ := M.stk.own i 0 v 36 (rowI l) ⟨b, _, arr, ty, hb, hi, d2, hv, rfl⟩
 have hsz : sz = 3 := hti _ rfl
 subst hsz
 rw [rowI_len] at ho
 have hfrm : ∃ g cap cur, v = .slice (some ⟨g, 0, none⟩) l.length cap ∧ w.heap[g]? = some (.cells cur 36 (0, 0)) ∧ l.length * 3 ≤ cur.size := by
  rcases ho.2 with ⟨-, h1⟩ | ⟨g, cap, cur, h1, h2, h3, h4, h5, h6, h7⟩
  ·omega
  ·exact ⟨g, cap, cur, h1, h3, by rw [h6]; exact Nat.mul_le_mul_right _ h4⟩
 obtain ⟨g, cap, cur, rfl, hg, hcur⟩ := hfrm
 have hal := (hgb g rfl).1
 have cell_of : ∀ {c : Nat} {a : Array Value} {t : TypeId} {u : Value}, w.heap[c]? = some (.cells a t (0, 0)) → a.toList[0]? = some u → w.cell? ⟨c, 0, none⟩ = some u := fun {c a t u} h h' => by
  simp only [World.cell?, h]; simpa using h'
 rw [hvals]
 refine (lead1_walk wb ab b g l.length cap at_ w cur 36 (cell_of a2 e1) (cell_of b2 f1) (cell_of d2 hv) hg hat hcur (by rintro rfl; exact hal.2.1 j hwb) (by rintro rfl; exact hal.2.1 k hab) (by rintro rfl; exact hal.2.1 i hb)).mono ?_
 rintro e w' ⟨rfl, d, rfl⟩
 obtain ⟨w2, hw2⟩ : ∃ w2, w.setCell ⟨g, at_ * 3 + 1, none⟩ (.int .i64 (l.length : Nat)) = w2 := ⟨_, rfl⟩
 have hlen : (rowI (l.set at_ ⟨x.op, l.length, x.nm⟩)).length = l.length := by rw [rowI_len, List.length_set]
 have hown : w2.ownsRow Tryz.prog.globals.size 36 3 (.slice (some ⟨g, 0, none⟩) l.length cap) l.length (us.set (at_ * 3 + 1) (.int .i64 (l.length : Nat))) := by
  rw [← hw2]; exact own_set ho (by omega)
 have hfar : ∀ t, t ≠ g → w2.heap[t]? = w.heap[t]? := fun t h => by rw [← hw2]; exact setO_far h
 have hsize : w2.heap.size = w.heap.size := by rw [← hw2]; exact setCell_size
 have hos : w2.os = w.os ∧ w2.tape = w.tape ∧ w2.output = w.output := by rw [← hw2]; exact ⟨rfl, rfl, rfl⟩
 have hbg : b ≠ g := by rintro rfl; exact hal.2.1 i hb
 rw [hw2]
 have hset : arr.toList.set 0 (.slice (some ⟨g, 0, none⟩) l.length cap) = arr.toList := by
  obtain ⟨h1, h2⟩ := List.getElem?_eq_some_iff.1 hv
  rw [← h2]; exact List.set_getElem_self h1
 obtain ⟨M', L⟩ := M.restk hE (i := i) (j := 0) (b := b) (e := 36) (cs := [PV.stk 36 (rowI l), q]) (xs := rowI l) (xs' := rowI (l.set at_ ⟨x.op, l.length, x.nm⟩)) (sz := 3) (us := us.set (at_ * 3 + 1) (.int .i64 (l.length : Nat))) (w' := { w2 with drawn := d }) hb hi d2 hv rfl hos.1 hos.2.1 hos.2.2
  (Nat.le_of_eq hsize.symm) (fun t _ _ h => hfar t fun e => h (by rw [e]; rfl)) (by rw [hset]; exact (hfar b hbg).trans d2) (by rw [hlen]; exact hown) (fun S => by
   have := rowI_set l at_ x ⟨x.op, l.length, x.nm⟩ hx rfl rfl
   rw [← this]
   have h1 := hru.mono fun _ _ h => h.stay S
   refine ⟨by simp [h1.1], fun t u p hu hp => ?_⟩
   by_cases ht : at_ * 3 + 1 = t
   ·subst ht
    rw [List.getElem?_set_self (by have := (List.getElem?_eq_some_iff.1 hu).1; simpa using this)] at hu
    rw [List.getElem?_set_self (by have := (List.getElem?_eq_some_iff.1 hp).1; simpa using this)] at hp
    injection hu with hu; injection hp with hp
    subst hu; subst hp
    exact .int _ _
   ·rw [List.getElem?_set_ne ht] at hu hp
    exact h1.2 t u p hu hp) (rowI_three _) hti (fun t h => .inl h) (fun w m tk => .stk _ _ _ _ _ hlen.symm)
 exact ⟨_, ok, [], rfl, by simpa using M', fun _ _ h => h, .tup _ _ rfl (fun i v d h _ => by simp at h)⟩
end Go.Proofs.YtgpkppohfodhdaaGreatDoor.Cd
namespace Go.Proofs.YtgpkppohfodhdaaGreatDoor.Cd
open Go Go.RowKit Go.Proofs.YtgpkppohfodhdaaGreatDoor.Pm
set_option linter.unusedVariables false
set_option linter.unusedSimpArgs false
set_option maxHeartbeats 4000000
set_option maxRecDepth 8000
@[reducible] def wB (l : List Ins) (q : PV) : List PV := [.stk 36 (rowI l), q]
theorem cl2 {e : Nat} {xs : List (List CV)} {q : PV} (hq : q.closedB = true) : ([[PV.stk e xs, q]] : List (List PV)).all (fun d => d.all PV.closedB) = true := by
 show ((true && (q.closedB && true)) && true) = true
 rw [hq]; rfl
theorem lead2_ok (l : List Ins) (q : PV) (X : List PV) (op : Int) (hq : q.closedB = true) (hf : ∀ n, 2 ≤ n → fitB n q = true) (hX : ∀ n, 2 ≤ n → X.all (fitB n) = true) (hn : l.length + 1 ≤ 4398046511104) :
  OkW E 52 [wB l q, X] [.ptr 0 0, .c (.int .i64 op)] (.clos 99 [] [.p 2 0, .p 3 0]) [wB (l ++ [⟨op, 0, ⟨#[]⟩⟩]) q, X, [.ptr 0 0], [.c (.int .i64 (l.length : Nat))]] := by
 have hb1 : ([wB l q, X] : List (List PV)).all (fun cs => cs.all (fitB ([wB l q, X] : List (List PV)).length)) = true := by
  show (([PV.stk _ _, q] : List PV).all (fitB 2) && (X.all (fitB 2) && true)) = true
  rw [hX 2 (Nat.le_refl _)]
  show (true && (fitB 2 q && true) && true) = true
  rw [hf 2 (Nat.le_refl _)]; rfl
 refine OkW.enter hE Tryz.func52 rfl (by decide +kernel) (by kernel_rfl) rfl hb1 (Nat.le_of_ble_eq_true rfl) (by simp) ?_
 refine .inl ⟨_, _, SCallR.of [0] (put_ok l ⟨op, 0, ⟨#[]⟩⟩ q hq hn) (Hand.of rfl rfl (by simp) (cl2 hq) rfl) rfl (cl2 hq) rfl, ?_⟩
 refine ⟨_, rfl, Wk.refl _, rfl, ?_, ?_⟩
 ·rw [← rowI_len l]; exact WkLL.refl _
 ·show (([PV.stk _ _, q] : List PV).all (fitB 4) && (X.all (fitB 4) && true)) = true
  rw [hX 4 (by omega)]
  show (true && (fitB 4 q && true) && true) = true
  rw [hf 4 (by omega)]; rfl
theorem lead4_ok (l : List Ins) (q : PV) (X : List PV) (op at_ : Int) (hq : q.closedB = true) (hf : ∀ n, 2 ≤ n → fitB n q = true) (hX : ∀ n, 2 ≤ n → X.all (fitB n) = true) (hn : l.length + 1 ≤ 4398046511104) :
  OkW E 52 [wB l q, X, [.ptr 0 0], [.c (.int .i64 at_)]] [.ptr 0 0, .c (.int .i64 op)] (.clos 99 [] [.p 4 0, .p 5 0]) [wB (l ++ [⟨op, 0, ⟨#[]⟩⟩]) q, X, [.ptr 0 0], [.c (.int .i64 at_)], [.ptr 0 0], [.c (.int .i64 (l.length : Nat))]] := by
 have hb1 : ([wB l q, X, [.ptr 0 0], [.c (.int .i64 at_)]] : List (List PV)).all (fun cs => cs.all (fitB ([wB l q, X, [.ptr 0 0], [.c (.int .i64 at_)]] : List (List PV)).length)) = true := by
  show (([PV.stk _ _, q] : List PV).all (fitB 4) && (X.all (fitB 4) && true)) = true
  rw [hX 4 (by omega)]
  show (true && (fitB 4 q && true) && true) = true
  rw [hf 4 (by omega)]; rfl
 refine OkW.enter hE Tryz.func52 rfl (by decide +kernel) (by kernel_rfl) rfl hb1 (Nat.le_of_ble_eq_true rfl) (by simp) ?_
 refine .inl ⟨_, _, SCallR.of [0] (put_ok l ⟨op, 0, ⟨#[]⟩⟩ q hq hn) (Hand.of rfl rfl (by simp) (cl2 hq) rfl) rfl (cl2 hq) rfl, ?_⟩
 refine ⟨_, rfl, Wk.refl _, rfl, ?_, ?_⟩
 ·rw [← rowI_len l]; exact WkLL.refl _
 ·show (([PV.stk _ _, q] : List PV).all (fitB 6) && (X.all (fitB 6) && true)) = true
  rw [hX 6 (by omega)]
  show (true && (fitB 6 q && true) && true) = true
  rw [hf 6 (by omega)]; rfl
end Go.Proofs.YtgpkppohfodhdaaGreatDoor.Cd
namespace Go.Proofs.YtgpkppohfodhdaaGreatDoor.Cd
open Go Go.RowKit Go.Proofs.YtgpkppohfodhdaaGreatDoor.Pm
set_option linter.unusedVariables false
set_option linter.unusedSimpArgs false
theorem ins_run {w : World} {b ck : Nat} {es : Array MapEntry} {k z : Int} (hb : w.heap[b]? = some (.map es ck)) (hf : Instr.findNow (.int .i64) (.int .i64 k) es.toList 0 = some none) :
  (Instr.mapUpdate 73 (.map (some b)) (.int .i64 k) (.int .i64 z)).run Tryz.prog w = .ok () { w with heap := w.heap.setIfInBounds b (.map (es.push ⟨.int .i64 k, .int .i64 z, ck⟩) (ck + 1)) } := by
 have h1 := Tryz.underlying73
 have h2 := Tryz.underlying3
 have h3 : (Instr.checkKey false 10000 3 (.int .i64 k)).run Tryz.prog w = .ok () w := MapKept.run_checkKey (k := .int .i64 k) h2 rfl _ _
 simp [Instr.mapUpdate, run_underlying h1, MapKept.run_getObj_map hb, h3, MapKept.run_findKey h2 hf, MapKept.run_setObj_map _ hb, Result.andThen]
theorem list_insert {ops : Array Oper} {rest : List Oper} {o : Oper} {a : Act} {w : World} {Q : Exit → Act → World → Prop} {m : Operand} {k z : Int} {b ck : Nat} {es : Array MapEntry} (hg : o.guard = none) (hop : o.op = .insert 73 m (.const (.int .i64 k)) (.const (.int .i64 z)))
  (hm : a.eval m = .map (some b)) (hb : w.heap[b]? = some (.map es ck)) (hf : Instr.findNow (.int .i64) (.int .i64 k) es.toList 0 = some none)
  (h : ∀ w', w'.heap[b]? = some (.map (es.push ⟨.int .i64 k, .int .i64 z, ck⟩) (ck + 1)) → w.grownBy w' (some b) → wpList Tryz.prog ops Q rest (a.put o.dst undef) w') : wpList Tryz.prog ops Q (o :: rest) a w := by
 refine wpList_plain hg fun K' hK' => ?_
 unfold Oper.wp
 have e1 : a.eval (.const (.int .i64 k)) = .int .i64 k := rfl
 have e2 : a.eval (.const (.int .i64 z)) = .int .i64 z := rfl
 simp [execOp, hop, hm, e1, e2, ins_run hb hf, Result.andThen]
 exact hK' _ _ (h _ (MapKept.heap_set hb).1 ⟨rfl, rfl, rfl, by simp, fun i _ hi => (MapKept.heap_set hb).2 i (fun e => hi (by rw [e]))⟩)
theorem look_run {w : World} {b ck : Nat} {es : Array MapEntry} {k z : Int} {i : Nat} (hb : w.heap[b]? = some (.map es ck)) (hf : Instr.findNow (.int .i64) (.int .i64 k) es.toList 0 = some (some (i, .int .i64 z))) :
  (Instr.lookup 73 (.map (some b)) (.int .i64 k) false).run Tryz.prog w = .ok (.int .i64 z) w := by
 have h1 := Tryz.underlying73
 have h2 := Tryz.underlying3
 have h3 : (Instr.checkKey es.isEmpty 10000 3 (.int .i64 k)).run Tryz.prog w = .ok () w := MapKept.run_checkKey (k := .int .i64 k) h2 rfl _ _
 simp [Instr.lookup, run_underlying h1, MapKept.run_getObj_map hb, h3, MapKept.run_findKey h2 hf, Result.andThen]
end Go.Proofs.YtgpkppohfodhdaaGreatDoor.Cd
namespace Go.Proofs.YtgpkppohfodhdaaGreatDoor.Cd
open Go Go.RowKit Go.Proofs.YtgpkppohfodhdaaGreatDoor.Pm
set_option linter.unusedVariables false
set_option linter.unusedSimpArgs false
def opsL : List (Int × Int) := [(1, 2), (2, 3), (3, 4), (4, 1), (5, 5), (6, 6), (7, 7), (8, 8), (11, 10), (12, 11)]
def entF : List (Int × Int) → Nat → List MapEntry
 | [], _ => []
 | (k, z) :: l, n => ⟨.int .i64 k, .int .i64 z, n⟩ :: entF l (n + 1)
def opsE : Array MapEntry := (entF opsL 0).toArray
set_option maxRecDepth 100000 in
set_option maxHeartbeats 3200000 in
theorem ops_walk (w : World) : Calls Tryz.prog 30 #[] w fun e w' => e = .returned (.map (some w.heap.size)) ∧ w'.heap[w.heap.size]? = some (.map opsE 10) ∧ (w.alloc (.map #[] 0)).grownBy w' (some w.heap.size) := by
 go_enter Tryz.func30, Tryz.ntmps30
 go_wp2
 rw [run_makeMap]
 simp only [Result.andThen]
 unfold Oper.upon
 simp only []
 rename_i K1 h1 K2 h2
 refine h2 _ _ ?_
 have b0 : (w.alloc (.map #[] 0)).heap[w.heap.size]? = some (.map #[] 0) := heap_alloc_new w _
 clear h2
 refine list_insert rfl rfl rfl b0 rfl ?_
 intro w1 b1 g1
 refine list_insert rfl rfl rfl b1 rfl ?_
 intro w2 b2 g2
 refine list_insert rfl rfl rfl b2 rfl ?_
 intro w3 b3 g3
 refine list_insert rfl rfl rfl b3 rfl ?_
 intro w4 b4 g4
 refine list_insert rfl rfl rfl b4 rfl ?_
 intro w5 b5 g5
 refine list_insert rfl rfl rfl b5 rfl ?_
 intro w6 b6 g6
 refine list_insert rfl rfl rfl b6 rfl ?_
 intro w7 b7 g7
 refine list_insert rfl rfl rfl b7 rfl ?_
 intro w8 b8 g8
 refine list_insert rfl rfl rfl b8 rfl ?_
 intro w9 b9 g9
 refine list_insert rfl rfl rfl b9 rfl ?_
 intro w10 b10 g10
 have g : (w.alloc (.map #[] 0)).grownBy w10 (some w.heap.size) := (((((((((g1).trans g2).trans g3).trans g4).trans g5).trans g6).trans g7).trans g8).trans g9).trans g10
 clear g1 g2 g3 g4 g5 g6 g7 g8 g9 g10 b0 b1 b2 b3 b4 b5 b6 b7 b8 b9
 simp only [Act.put]
 go_wp2
 go_ret
 exact ⟨rfl, b10, g⟩
theorem ops_ok : Ok E 30 [] [] (.c (.mp opsE 10)) [] := by
 refine ⟨⟨_, Tryz.func30, by decide +kernel, by kernel_rfl⟩, fun w ok ms gs vals hst M hr => ?_⟩
 obtain rfl : vals = #[] := by
  have := hr.1
  exact Array.toList_inj.1 (List.eq_nil_of_length_eq_zero this)
 obtain rfl : gs = [] := hst rfl
 have hm : ms = [] := by have := M.len; simpa using this
 subst hm
 refine (ops_walk w).mono ?_
 rintro e w' ⟨rfl, hb, g⟩
 have hs : w.heap.size < w'.heap.size := by have := g.size; simp at this; omega
 have hf : ∀ k, k < w.heap.size → w'.heap[k]? = w.heap[k]? := fun k hk => (g.block k (by simp; omega) (by intro e; injection e with e; omega)).trans (Pm.alloc_old w _ k hk)
 have hgl := hE.glob w M.inv
 refine ⟨_, fun b o => ok b o ∨ b = w.heap.size, rfl, ⟨M.inv_of hE (Nat.le_of_lt hs) (fun b hb => hf b (by omega)), g.os, g.tape, g.output, Nat.le_of_lt hs, fun k hk _ _ => hf k hk, fun b o h => ?_, fun b o h => ?_, rfl, fun i b h => by simp at h, fun i j b h => by simp at h, fun t r h => by simp at h, fun t u r s a h => by simp at h, M.gb, fun t r i h => by simp at h, .nil⟩, fun _ _ h => .inl h, .c _ _ (.mp _ _ _ (.inr rfl) hb)⟩
 ·rcases h with h | rfl
  ·exact .inl h
  ·exact .inr (Nat.le_refl _)
 ·rcases h with h | rfl
  ·exact Nat.lt_trans (M.oks b o h) hs
  ·exact hs
theorem ops_look {k z : Int} {i : Nat} (hf : Instr.findNow (.int .i64) (.int .i64 k) opsE.toList 0 = some (some (i, .int .i64 z))) : LookF E 73 opsE 10 k z := fun w b hb => look_run hb hf
end Go.Proofs.YtgpkppohfodhdaaGreatDoor.Cd
namespace Go.Proofs.YtgpkppohfodhdaaGreatDoor.Cd
open Go Go.RowKit Go.Proofs.YtgpkppohfodhdaaGreatDoor.Pm Go.Proofs.YtgpkppohfodhdaaGreatDoor.Pl
set_option linter.unusedVariables false
set_option linter.unusedSimpArgs false
set_option maxHeartbeats 4000000
set_option maxRecDepth 8000
@[reducible] def qM : PV := .c (.mp opsE 10)
theorem look_op (k : Int) (h1 : 1 ≤ k) (h2 : k ≤ 12) (h9 : k ≠ 9) (h10 : k ≠ 10) : LookF E 73 opsE 10 k (opF' k) := by
 obtain rfl | rfl | rfl | rfl | rfl | rfl | rfl | rfl | rfl | rfl : k = 1 ∨ k = 2 ∨ k = 3 ∨ k = 4 ∨ k = 5 ∨ k = 6 ∨ k = 7 ∨ k = 8 ∨ k = 11 ∨ k = 12 := by omega
 all_goals exact ops_look (i := _) rfl
end Go.Proofs.YtgpkppohfodhdaaGreatDoor.Cd
namespace Go.Proofs.YtgpkppohfodhdaaGreatDoor.Cd
open Go Go.RowKit Go.Proofs.YtgpkppohfodhdaaGreatDoor.Pm Go.Proofs.YtgpkppohfodhdaaGreatDoor.Pl
set_option linter.unusedVariables false
set_option linter.unusedSimpArgs false
theorem codesF_app : ∀ (l m : List Ex) (p : Int), codesF (l ++ m) p = codesF l p ++ codesF m (p + (codesF l p).length)
 | [], m, p => by simp [codesF]
 | x :: l, m, p => by
  simp only [List.cons_append, codesF, codesF_app l m, List.append_assoc, List.length_append]
  rw [show p + ((codeF x p).length : Int) + ((codesF l (p + (codeF x p).length)).length : Int) = p + (((codeF x p).length + (codesF l (p + (codeF x p).length)).length : Nat) : Int) by omega]
theorem codesF_take (l : List Ex) (j : Nat) (y : Ex) (p : Int) (h : l[j]? = some y) : codesF (l.take (j + 1)) p = codesF (l.take j) p ++ codeF y (p + (codesF (l.take j) p).length) := by
 induction l generalizing j p with
 | nil => simp at h
 | cons x l ih =>
  cases j with
  | zero => simp at h; subst h; simp [codesF]
  | succ j =>
   have := ih j (p + (codeF x p).length) (by simpa using h)
   simp only [List.take_succ_cons, codesF] at this ⊢
   rw [this, List.append_assoc, List.length_append]
   congr 3
   push_cast
   omega
set_option maxHeartbeats 4000000
set_option maxRecDepth 8000
def ExpOk (x : Ex) : Prop := ∀ w : List Ins, w.length + (codeF x w.length).length ≤ 4398046511104 → Ok E 31 [wB w qM] [.ptr 0 0, pE x] (.tup []) [wB (w ++ codeF x w.length) qM]
theorem leafN_ok (k n : Int) (nm : ByteArray) (l : List Ex) (h1 : 1 ≤ k) (h2 : k ≤ 12) (h9 : k ≠ 9) (h10 : k ≠ 10) (hl3 : l.length ≤ 3) (IH : ∀ y ∈ l, ExpOk y) : ExpOk ⟨k, n, nm, l⟩ := by
 intro w hn
 have hL := look_op k h1 h2 h9 h10
 rw [codeF_leaf _ _ _ _ _ h9 h10] at hn ⊢
 rw [List.length_append, List.length_cons, List.length_nil] at hn
 obtain ⟨W, hW⟩ : ∃ W : Nat → List Ins, W = fun j => w ++ codesF (l.take j) w.length := ⟨_, rfl⟩
 have hW0 : W 0 = w := by rw [hW]; simp [codesF]
 have hWl : W l.length = w ++ codesF l w.length := by rw [hW]; simp
 have hle : ∀ j, j ≤ l.length → (codesF (l.take j) w.length).length ≤ (codesF l w.length).length := by
  intro j hj
  have : codesF l w.length = codesF (l.take j ++ l.drop j) w.length := by rw [List.take_append_drop]
  rw [this, codesF_app, List.length_append]; omega
 have step : ∀ j y, l[j]? = some y → W (j + 1) = W j ++ codeF y (W j).length ∧ Ok E 31 [wB (W j) qM] [.ptr 0 0, pE y] (.tup []) [wB (W (j + 1)) qM] := by
  intro j y hy
  have e : W (j + 1) = W j ++ codeF y (W j).length := by
   rw [hW]; dsimp only
   rw [codesF_take l j y w.length hy, List.length_append, ← List.append_assoc]
   push_cast; rfl
  refine ⟨e, ?_⟩
  rw [e]
  refine IH y (List.mem_of_getElem? hy) (W j) ?_
  have hj := (List.getElem?_eq_some_iff.1 hy).1
  have := hle (j + 1) hj
  have h3 := congrArg List.length e
  rw [List.length_append] at h3
  rw [← h3, hW]; dsimp only
  rw [List.length_append]; omega
 have hput := put_ok (W l.length) ⟨opF' k, n, nm⟩ qM rfl (by rw [hWl, List.length_append]; omega)
 rw [← hW0]
 have fin : wB (W l.length ++ [⟨opF' k, n, nm⟩]) qM = wB (W 0 ++ (codesF l (W 0).length ++ [⟨opF' k, n, nm⟩])) qM := by rw [hWl, hW0, List.append_assoc]
 rw [← fin]
 clear fin hWl hW0 hW hle IH
 refine Ok.enter hE Tryz.func31 rfl (by decide +kernel) (by kernel_rfl) rfl rfl (Nat.le_of_ble_eq_true rfl) rfl ?_
 refine ⟨_, eqN h9, ?_⟩
 refine ⟨_, eqN h10, ?_⟩
 refine Loop.cut (α := Nat) (fun j => j ≤ l.length) (fun j => [(0, .ptr 0 0), (3, .ptr 1 0), (12, .c (.row (encL l))), (13, pI (encL l).length), (14, pI j)]) (fun j => [wB (W j) qM, (cellsE ⟨k, n, nm, l⟩).map .c]) (fun _ => []) (fun j => l.length - j) 0 2 (fun _ => rfl) (fun _ => rfl) (fun _ => rfl) (Nat.zero_le _) ⟨⟨rfl, rfl, rfl, rfl, rfl, trivial⟩, rfl, rfl⟩ ?_
 rintro j f hj
 by_cases hjl : j < l.length
 ·obtain ⟨y, hy⟩ : ∃ y, l[j]? = some y := ⟨_, List.getElem?_eq_getElem hjl⟩
  refine ⟨_, ltT (by rw [enc_len]; omega), ?_⟩
  refine ⟨_, idxV (j := j) (enc_get hy) rfl rfl rfl rfl, ?_⟩
  refine .inl ⟨_, _, SCallR.of [0] (step j y hy).2 (Hand.of rfl rfl (by simp) rfl rfl) rfl rfl rfl, ?_⟩
  refine ⟨_, addV rfl (by omega) (by omega), ?_⟩
  exact ⟨j + 1, hjl, by omega, ⟨rfl, rfl, rfl, rfl, rfl, trivial⟩, ⟨_, rfl⟩, rfl⟩
 ·have hje : j = l.length := by omega
  subst hje
  refine ⟨_, ltN (by rw [enc_len]; omega), ?_⟩
  refine ⟨_, .inl ⟨opsE, 10, k, opF' k, rfl, rfl, hL, rfl⟩, ?_⟩
  refine .inl ⟨_, _, SCallR.of [0] hput (Hand.of rfl rfl (by simp) rfl rfl) rfl rfl rfl, ?_⟩
  exact ⟨_, rfl, Wk.refl _, rfl, .cons (WkL.refl _) rfl (.nil _)⟩
end Go.Proofs.YtgpkppohfodhdaaGreatDoor.Cd
namespace Go.Proofs.YtgpkppohfodhdaaGreatDoor.Cd
open Go Go.RowKit Go.Proofs.YtgpkppohfodhdaaGreatDoor.Pm Go.Proofs.YtgpkppohfodhdaaGreatDoor.Pl
set_option linter.unusedVariables false
set_option linter.unusedSimpArgs false
set_option maxHeartbeats 4000000
set_option maxRecDepth 8000
theorem WCallR.mk1 {E : Env} {f : FuncId} {H H' : List (List PV)} {ps : List PV} {r : PV} (h : OkW E f H ps r H') (h1 : H.all (fun d => d.all (fitB H.length)) = true) (h2 : ps.all (fitB H.length) = true) (h3 : H'.all (fun d => d.all (fitB H'.length)) = true) (h4 : fitB H'.length r = true) : WCallR E f H ps r H' :=
 ⟨H, ps, WkLL.refl _, h1, WkL.refl _, h2, h, h3, h4⟩
theorem set_mid (l m : List Ins) (x y : Ins) : (l ++ x :: m).set l.length y = l ++ y :: m := by
 rw [List.set_append_right _ _ (Nat.le_refl _), Nat.sub_self, List.set_cons_zero]
theorem get_mid (l m : List Ins) (x : Ins) : (l ++ x :: m)[l.length]? = some x := by
 rw [List.getElem?_append_right (Nat.le_refl _), Nat.sub_self]; rfl
theorem fitX (x : Ex) : ∀ n, 2 ≤ n → ((cellsE x).map PV.c).all (fitB n) = true := fun _ _ => rfl
theorem else_ok (n : Int) (nm : ByteArray) (a b : Ex) (ha : ExpOk a) (hb : ExpOk b) : ExpOk ⟨9, n, nm, [a, b]⟩ := by
 intro w hn
 simp only [codeF, if_true] at hn ⊢
 obtain ⟨A, hA⟩ : ∃ A, codeF a w.length = A := ⟨_, rfl⟩
 rw [hA] at hn ⊢
 obtain ⟨B, hB⟩ : ∃ B, codeF b (w.length + A.length + 1) = B := ⟨_, rfl⟩
 rw [hB] at hn ⊢
 rw [List.length_append, List.length_cons] at hn
 have h1 := ha w (by rw [hA]; omega)
 rw [hA] at h1
 have l1 : ((w ++ A).length : Int) = w.length + A.length := by rw [List.length_append]; omega
 have hL := lead2_ok (w ++ A) qM ((cellsE ⟨9, n, nm, [a, b]⟩).map .c) 9 rfl (fun _ _ => rfl) (fitX _) (by rw [List.length_append]; omega)
 have l2 : ((((w ++ A) ++ [(⟨9, 0, ⟨#[]⟩⟩ : Ins)]).length : Nat) : Int) = w.length + A.length + 1 := by rw [List.length_append, List.length_append]; simp
 have h2 := hb ((w ++ A) ++ [(⟨9, 0, ⟨#[]⟩⟩ : Ins)]) (by rw [l2, hB]; rw [List.length_append, List.length_append]; simp; omega)
 rw [l2, hB] at h2
 obtain ⟨W3, hW3⟩ : ∃ W3, (w ++ A) ++ [(⟨9, 0, ⟨#[]⟩⟩ : Ins)] ++ B = W3 := ⟨_, rfl⟩
 have e3 : W3 = (w ++ A) ++ (⟨9, 0, ⟨#[]⟩⟩ : Ins) :: B := by rw [← hW3]; simp
 rw [hW3] at h2
 have hlen : (W3.length : Int) = w.length + A.length + 1 + B.length := by rw [e3, List.length_append, List.length_append, List.length_cons]; omega
 have hS := fun (H : List (List PV)) (j k : Nat) (hi : H[0]? = some [.stk 36 (rowI W3), qM]) (hj : H[j]? = some [.ptr 0 0]) (hk : H[k]? = some [.c (.int .i64 ((w ++ A).length : Nat))]) => lead1_ok (H := H) (i := 0) (j := j) (k := k) (at_ := (w ++ A).length) (l := W3) (x := ⟨9, 0, ⟨#[]⟩⟩) (q := qM) hi hj hk (by rw [e3]; exact get_mid _ _ _)
 have fin : W3.set (w ++ A).length ⟨9, W3.length, ⟨#[]⟩⟩ = w ++ (A ++ ⟨9, w.length + A.length + 1 + B.length, ⟨#[]⟩⟩ :: B) := by
  rw [hlen, e3, set_mid, List.append_assoc]
 rw [← fin]
 clear fin hW3 hB hA l2 l1 ha hb
 refine Ok.enter hE Tryz.func31 rfl (by decide +kernel) (by kernel_rfl) rfl rfl (Nat.le_of_ble_eq_true rfl) rfl ?_
 refine ⟨_, eqT rfl, ?_⟩
 refine ⟨_, idxV (j := 0) (enc_get rfl) rfl rfl rfl rfl, ?_⟩
 refine .inl ⟨_, _, SCallR.of [0] h1 (Hand.of rfl rfl (by simp) rfl rfl) rfl rfl rfl, ?_⟩
 refine .inr (.inr (.inr (.inl ⟨_, _, WCallR.mk1 hL rfl rfl rfl rfl, ?_⟩)))
 refine ⟨_, idxV (j := 1) (enc_get rfl) rfl rfl rfl rfl, ?_⟩
 refine .inl ⟨_, _, SCallR.of [0] h2 (Hand.of rfl rfl (by simp) rfl rfl) rfl rfl rfl, ?_⟩
 refine .inr (.inr (.inr (.inl ⟨_, _, WCallR.mk1 (hS _ 2 3 rfl rfl rfl) rfl rfl rfl rfl, ?_⟩)))
 exact ⟨_, rfl, Wk.refl _, rfl, .cons (WkL.refl _) rfl (.nil _)⟩
theorem if_ok (n : Int) (nm : ByteArray) (c a b : Ex) (hc : ExpOk c) (ha : ExpOk a) (hb : ExpOk b) : ExpOk ⟨10, n, nm, [c, a, b]⟩ := by
 intro w hn
 simp only [codeF, if_true, show ((10 : Int) = 9) = False by simp, if_false] at hn ⊢
 obtain ⟨C, hC⟩ : ∃ C, codeF c w.length = C := ⟨_, rfl⟩
 rw [hC] at hn ⊢
 obtain ⟨A, hA⟩ : ∃ A, codeF a (w.length + C.length + 1) = A := ⟨_, rfl⟩
 rw [hA] at hn ⊢
 obtain ⟨B, hB⟩ : ∃ B, codeF b (w.length + C.length + A.length + 2) = B := ⟨_, rfl⟩
 rw [hB] at hn ⊢
 simp only [List.length_append, List.length_cons] at hn
 have h1 := hc w (by rw [hC]; omega)
 rw [hC] at h1
 obtain ⟨W1, hW1⟩ : ∃ W1, w ++ C = W1 := ⟨_, rfl⟩
 have l1 : (W1.length : Int) = w.length + C.length := by rw [← hW1, List.length_append]; omega
 rw [hW1] at h1
 have hL := lead2_ok W1 qM ((cellsE ⟨10, n, nm, [c, a, b]⟩).map .c) 12 rfl (fun _ _ => rfl) (fitX _) (by omega)
 have l2 : (((W1 ++ [(⟨12, 0, ⟨#[]⟩⟩ : Ins)]).length : Nat) : Int) = w.length + C.length + 1 := by rw [List.length_append]; simp; omega
 have h2 := ha (W1 ++ [(⟨12, 0, ⟨#[]⟩⟩ : Ins)]) (by rw [l2, hA]; rw [List.length_append]; simp; omega)
 rw [l2, hA] at h2
 obtain ⟨W2, hW2⟩ : ∃ W2, W1 ++ [(⟨12, 0, ⟨#[]⟩⟩ : Ins)] ++ A = W2 := ⟨_, rfl⟩
 rw [hW2] at h2
 have e2 : W2 = W1 ++ (⟨12, 0, ⟨#[]⟩⟩ : Ins) :: A := by rw [← hW2]; simp
 have n2 : W2.length = W1.length + A.length + 1 := by rw [e2, List.length_append, List.length_cons]; omega
 have hM := lead4_ok W2 qM ((cellsE ⟨10, n, nm, [c, a, b]⟩).map .c) 13 (W1.length : Nat) rfl (fun _ _ => rfl) (fitX _) (by omega)
 obtain ⟨W3, hW3⟩ : ∃ W3, W2 ++ [(⟨13, 0, ⟨#[]⟩⟩ : Ins)] = W3 := ⟨_, rfl⟩
 rw [hW3] at hM
 have e3 : W3 = W1 ++ (⟨12, 0, ⟨#[]⟩⟩ : Ins) :: (A ++ [⟨13, 0, ⟨#[]⟩⟩]) := by rw [← hW3, e2]; simp
 have n3 : W3.length = W2.length + 1 := by rw [← hW3, List.length_append]; rfl
 have hS := fun (H : List (List PV)) (j k : Nat) (hi : H[0]? = some [.stk 36 (rowI W3), qM]) (hj : H[j]? = some [.ptr 0 0]) (hk : H[k]? = some [.c (.int .i64 (W1.length : Nat))]) => lead1_ok (H := H) (i := 0) (j := j) (k := k) (at_ := W1.length) (l := W3) (x := ⟨12, 0, ⟨#[]⟩⟩) (q := qM) hi hj hk (by rw [e3]; exact get_mid _ _ _)
 obtain ⟨W4, hW4⟩ : ∃ W4, W3.set W1.length ⟨12, W3.length, ⟨#[]⟩⟩ = W4 := ⟨_, rfl⟩
 have e4 : W4 = W1 ++ (⟨12, W3.length, ⟨#[]⟩⟩ : Ins) :: (A ++ [⟨13, 0, ⟨#[]⟩⟩]) := by rw [← hW4, e3, set_mid]
 have n4 : W4.length = W3.length := by rw [← hW4, List.length_set]
 rw [show (⟨(⟨12, 0, ⟨#[]⟩⟩ : Ins).op, W3.length, (⟨12, 0, ⟨#[]⟩⟩ : Ins).nm⟩ : Ins) = ⟨12, W3.length, ⟨#[]⟩⟩ from rfl, hW4] at hS
 have l4 : (W4.length : Int) = w.length + C.length + A.length + 2 := by omega
 have h3 := hb W4 (by rw [l4, hB]; omega)
 rw [l4, hB] at h3
 obtain ⟨W5, hW5⟩ : ∃ W5, W4 ++ B = W5 := ⟨_, rfl⟩
 rw [hW5] at h3
 have e5 : W5 = (W1 ++ (⟨12, W3.length, ⟨#[]⟩⟩ : Ins) :: A) ++ (⟨13, 0, ⟨#[]⟩⟩ : Ins) :: B := by rw [← hW5, e4]; simp
 have n5 : W5.length = W4.length + B.length := by rw [← hW5, List.length_append]
 have q5 : W2.length = (W1 ++ (⟨12, W3.length, ⟨#[]⟩⟩ : Ins) :: A).length := by rw [e2]; simp
 have hR := fun (H : List (List PV)) (j k : Nat) (hi : H[0]? = some [.stk 36 (rowI W5), qM]) (hj : H[j]? = some [.ptr 0 0]) (hk : H[k]? = some [.c (.int .i64 (W2.length : Nat))]) => lead1_ok (H := H) (i := 0) (j := j) (k := k) (at_ := W2.length) (l := W5) (x := ⟨13, 0, ⟨#[]⟩⟩) (q := qM) hi hj hk (by rw [e5, q5]; exact get_mid _ _ _)
 have fin : W5.set W2.length ⟨13, W5.length, ⟨#[]⟩⟩ = w ++ (C ++ ⟨12, w.length + C.length + A.length + 2, ⟨#[]⟩⟩ :: (A ++ ⟨13, w.length + C.length + A.length + 2 + B.length, ⟨#[]⟩⟩ :: B)) := by
  rw [show (W5.length : Int) = w.length + C.length + A.length + 2 + B.length by omega, e5, q5, set_mid, show (W3.length : Int) = w.length + C.length + A.length + 2 by omega, ← hW1]
  simp
 rw [← fin]
 clear fin hW5 hW4 hW3 hW2 hW1 hB hA hC e2 e3 e4 e5 q5 n2 n3 n4 n5 l1 l2 l4 ha hb hc
 refine Ok.enter hE Tryz.func31 rfl (by decide +kernel) (by kernel_rfl) rfl rfl (Nat.le_of_ble_eq_true rfl) rfl ?_
 refine ⟨_, eqN (show (10 : Int) ≠ 9 by decide), ?_⟩
 refine ⟨_, eqT rfl, ?_⟩
 refine ⟨_, idxV (j := 0) (enc_get rfl) rfl rfl rfl rfl, ?_⟩
 refine .inl ⟨_, _, SCallR.of [0] h1 (Hand.of rfl rfl (by simp) rfl rfl) rfl rfl rfl, ?_⟩
 refine .inr (.inr (.inr (.inl ⟨_, _, WCallR.mk1 hL rfl rfl rfl rfl, ?_⟩)))
 refine ⟨_, idxV (j := 1) (enc_get rfl) rfl rfl rfl rfl, ?_⟩
 refine .inl ⟨_, _, SCallR.of [0] h2 (Hand.of rfl rfl (by simp) rfl rfl) rfl rfl rfl, ?_⟩
 refine .inr (.inr (.inr (.inl ⟨_, _, WCallR.mk1 hM rfl rfl rfl rfl, ?_⟩)))
 refine .inr (.inr (.inr (.inl ⟨_, _, WCallR.mk1 (hS _ 2 3 rfl rfl rfl) rfl rfl rfl rfl, ?_⟩)))
 refine ⟨_, idxV (j := 2) (enc_get rfl) rfl rfl rfl rfl, ?_⟩
 refine .inl ⟨_, _, SCallR.of [0] h3 (Hand.of rfl rfl (by simp) rfl rfl) rfl rfl rfl, ?_⟩
 refine .inr (.inr (.inr (.inl ⟨_, _, WCallR.mk1 (hR _ 4 5 rfl rfl rfl) rfl rfl rfl rfl, ?_⟩)))
 exact ⟨_, rfl, Wk.refl _, rfl, .cons (WkL.refl _) rfl (.nil _)⟩
mutual
theorem expr_all : ∀ (x : Ex) (d : Int) (c : Bool), isFine d c x = true → ExpOk x
 | ⟨k, n, nm, l⟩, d, c, h => by
  rcases fine_forms h with ⟨a, b, e, hn, ha, hb⟩ | ⟨a, b, e, ee, hn, ha, hb, he⟩ | ⟨h9, h10, hl⟩
  ·injection e with e1 e2 e3 e4
   subst e1; subst e2; subst e4
   exact else_ok 0 nm a b (expr_all a _ _ ha) (expr_all b _ _ hb)
  ·injection ee with e1 e2 e3 e4
   subst e1; subst e2; subst e4
   exact if_ok 0 nm a b e (expr_all a _ _ ha) (expr_all b _ _ hb) (expr_all e _ _ he)
  ·obtain ⟨w, m, a, hF, h1, h2, h3, h4, h5, h6, h7, h8, -⟩ := fine_open h
   have hk : 1 ≤ k ∧ k ≤ 12 := by
    rcases kinds_of k w m a hF with rfl | rfl | rfl | rfl | rfl | rfl | rfl | rfl | rfl | rfl | rfl | rfl <;> omega
   exact leafN_ok k n nm l hk.1 hk.2 h9 h10 (by omega) (exprs_all l _ _ hl)
theorem exprs_all : ∀ (l : List Ex) (d : Int) (c : Bool), fineL d c l = true → ∀ y ∈ l, ExpOk y
 | [], d, c, h => fun y hy => by cases hy
 | x :: l, d, c, h => fun y hy => by
  rw [fineL, Bool.and_eq_true] at h
  have h1 := expr_all x d c h.1
  have h2 := exprs_all l d false h.2
  rcases List.mem_cons.1 hy with hy | hy
  ·rw [hy]; exact h1
  ·exact h2 y hy
end
end Go.Proofs.YtgpkppohfodhdaaGreatDoor.Cd
namespace Go.Proofs.YtgpkppohfodhdaaGreatDoor.Cd
open Go Go.RowKit Go.Proofs.YtgpkppohfodhdaaGreatDoor.Pm Go.Proofs.YtgpkppohfodhdaaGreatDoor.Pl
set_option linter.unusedVariables false
set_option linter.unusedSimpArgs false
set_option maxHeartbeats 4000000
set_option maxRecDepth 8000
end Go.Proofs.YtgpkppohfodhdaaGreatDoor.Cd
namespace Go.Proofs.YtgpkppohfodhdaaGreatDoor.Cd
open Go Go.RowKit Go.Proofs.YtgpkppohfodhdaaGreatDoor.Pm Go.Proofs.YtgpkppohfodhdaaGreatDoor.Pl
set_option linter.unusedVariables false
set_option linter.unusedSimpArgs false
set_option maxHeartbeats 4000000
set_option maxRecDepth 8000
end Go.Proofs.YtgpkppohfodhdaaGreatDoor.Cd
namespace Go.Proofs.YtgpkppohfodhdaaGreatDoor.Cd
open Go Go.RowKit Go.Proofs.YtgpkppohfodhdaaGreatDoor.Pm Go.Proofs.YtgpkppohfodhdaaGreatDoor.Pl
set_option linter.unusedVariables false
set_option linter.unusedSimpArgs false
set_option maxHeartbeats 4000000
set_option maxRecDepth 8000
theorem Wk.tup2 {p q r : PV} (h : Wk p q) : Wk (.tup [p, r]) (.tup [q, r]) := by
 intro w ok m tk v hv
 cases hv with
 | tup cs _ hl hg =>
  refine .tup cs _ hl fun i u d hu hd => ?_
  match i, hd with
  | 0, hd => injection hd with hd; subst hd; exact h _ _ _ _ _ (hg 0 u p hu rfl)
  | 1, hd => exact hg 1 u d hu hd
def compF (x : Ex) : List Ins := if isRight x then codeF x 0 else []
def compE (x : Ex) : Int := if isRight x then 0 else 1
theorem Compile_ok (x : Ex) (hr : Q.rngE x = true) (hs : size x ≤ 9223372036854775807) : Ok E 20 [] [pE x] (.tup [.c (.row (rowI (compF x))), pI (compE x)]) [] := by
 have hR := right_ok x hr hs
 unfold compF compE
 rcases Bool.eq_false_or_eq_true (isRight x) with h | h
 ·rw [h, if_pos rfl, if_pos rfl]
  rw [h] at hR
  obtain ⟨hf, h2, -⟩ := right_open h
  have hx := expr_all x 32 false hf [] (by have := codeF_small 0 hf h2; simp; omega)
  rw [List.nil_append, show (([] : List Ins).length : Int) = 0 from rfl] at hx
  clear hr hs h hf h2
  refine Ok.enterG hE 4 Tryz.func20 rfl (by decide +kernel) (by kernel_rfl) (by kernel_rfl) rfl rfl rfl (Nat.le_of_ble_eq_true rfl) rfl ?_
  refine ⟨_, CallR.mk1 hR rfl rfl, ?_⟩
  refine ⟨_, CallR.mk1 ops_ok rfl rfl, ?_⟩
  refine .inl ⟨_, _, SCallR.oneW (i := 1) hx rfl (.cons (Wk.nilStk _) (WkL.refl _)) rfl rfl rfl rfl rfl (StkOK.nilHd _ _), ?_⟩
  refine ⟨_, FrzR.mk1 1 0 rfl rfl rfl (by decide), ?_⟩
  exact Ret.mk _ rfl rfl rfl
 ·rw [h, if_neg (by simp), if_neg (by simp)]
  rw [h] at hR
  refine Ok.enter hE Tryz.func20 rfl (by decide +kernel) (by kernel_rfl) rfl rfl (Nat.le_of_ble_eq_true rfl) rfl ?_
  refine ⟨_, CallR.mk1 hR rfl rfl, ?_⟩
  exact ⟨_, rfl, Wk.tup2 Wk.nilRow, rfl, .nil _⟩
end Go.Proofs.YtgpkppohfodhdaaGreatDoor.Cd
