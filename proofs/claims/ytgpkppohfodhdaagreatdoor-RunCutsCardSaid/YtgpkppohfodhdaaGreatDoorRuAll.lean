import Derived.Test.YtgpkppohfodhdaaGreatDoorCdBll
import Derived.Test.YtgpkppohfodhdaaGreatDoorCdAll
import Derived.Test.YtgpkppohfodhdaaGreatDoorPmBll
import Derived.Maps.Own
import Derived.Carry
import Derived.Test.YtgpkppohfodhdaaGreatDoorVaBll
namespace Go.Proofs.YtgpkppohfodhdaaGreatDoor.Pm
open Go Go.RowKit
@[reducible] def cellP (c : Int × Bool) : List CV := [.int .i64 c.1, .bool c.2]
def rowP (l : List (Int × Bool)) : List (List CV) := l.map cellP
theorem rowP_len (l : List (Int × Bool)) : (rowP l).length = l.length := by simp [rowP]
theorem rowP_two (l : List (Int × Bool)) : ∀ x ∈ rowP l, x.length = 2 := by
 intro x hx
 obtain ⟨y, -, rfl⟩ := List.mem_map.1 hx
 rfl
end Go.Proofs.YtgpkppohfodhdaaGreatDoor.Pm
namespace Go.Proofs.YtgpkppohfodhdaaGreatDoor.Ru
open Go Go.RowKit Go.Proofs.YtgpkppohfodhdaaGreatDoor.Pm Go.Proofs.YtgpkppohfodhdaaGreatDoor.Cd
set_option linter.unusedVariables false
set_option linter.unusedSimpArgs false
theorem infoCell : (Tryz.prog.info? 61).map (fun i => (i.zero, i.size, i.bytes)) = some (some (.agg #[.int .i64 0, .bool false]), 2, 16) := by kernel_rfl
theorem set_far {w : World} {b o k : Nat} {v : Value} (h : k ≠ b) : (w.setCell ⟨b, o, none⟩ v).heap[k]? = w.heap[k]? := by
 simp only [World.setCell, Array.getElem?_modify]
 rw [if_neg (Ne.symm h)]
theorem set_at {w : World} {b o : Nat} {arr : Array Value} {ty : TypeId} {v : Value} (h : w.heap[b]? = some (.cells arr ty (0, 0))) : (w.setCell ⟨b, o, none⟩ v).heap[b]? = some (.cells (arr.toList.set o v).toArray ty (0, 0)) := by
 simp only [World.setCell, Array.getElem?_modify, h]
 simp
 apply Array.toList_inj.1
 simp
theorem two_back (w : World) (b o : Nat) (v : Value) (o1 o2 : Obj) : (((w.setCell ⟨b, o, none⟩ v).alloc o1).alloc o2).heap[w.heap.size]? = some o1 := by
 have hs : (w.setCell ⟨b, o, none⟩ v).heap.size = w.heap.size := setCell_size
 have h := Pm.alloc_old ((w.setCell ⟨b, o, none⟩ v).alloc o1) o2 w.heap.size (by simp)
 rw [h, ← hs]
 exact heap_alloc_new _ _
set_option maxRecDepth 100000 in
set_option maxHeartbeats 3200000 in
theorem take_walk (b g n cap : Nat) (v : Int) (is : Bool) (w : World) (arr cur : Array Value) (ty : TypeId) (hw : w.heap[b]? = some (.cells arr ty (0, 0))) (hv : arr[1]? = some (.slice (some ⟨g, 0, none⟩) (n + 1) cap))
  (hg : w.heap[g]? = some (.cells cur 61 (0, 0))) (hc0 : cur[n * 2]? = some (.int .i64 v)) (hc1 : cur[n * 2 + 1]? = some (.bool is)) (hne : g ≠ b) (hn : n + 1 ≤ 100) (hcap : n + 1 ≤ cap) :
  Calls Tryz.prog 126 #[.pointer (some ⟨b, 0, none⟩)] w fun e w' => e = .returned (.agg #[.int .i64 v, .bool is]) ∧ w' = ((w.setCell ⟨b, 1, none⟩ (.slice (some ⟨g, 0, none⟩) n cap)).alloc (.cells #[.int .i64 v, .bool is] 61)).alloc (.cells #[.int .i64 v, .bool is] 61) := by
 have lb : b < w.heap.size := (Array.getElem?_eq_some_iff.1 hw).1
 have lg : g < w.heap.size := (Array.getElem?_eq_some_iff.1 hg).1
 have e1 : w.cell? ⟨b, 1, none⟩ = some (.slice (some ⟨g, 0, none⟩) (n + 1) cap) := by simp [World.cell?, hw, hv]
 have e2 : w.cell? ⟨g, n * 2, none⟩ = some (.int .i64 v) := by simp [World.cell?, hg, hc0]
 have e3 : w.cell? ⟨g, n * 2 + 1, none⟩ = some (.bool is) := by simp [World.cell?, hg, hc1]
 have e4 : w.frozen? ⟨b, 1, none⟩ = false := nofr hw
 have z1 : ((n + 1 : Nat) : Int) - 1 = (n : Int) := by omega
 have z2 : (0 : Int) ≤ (n : Int) := by omega
 have z3 : (n : Int) < ((n + 1 : Nat) : Int) := by omega
 go_enter Tryz.func126, Tryz.ntmps126
 go_wp2_with fail
 refine bodyPost_ret (results_cell_row rfl _ _ w.heap.size 61 #[.int .i64 v, .bool is] (0, 0) _ rfl (two_back ..) Tryz.underlying61 rfl (by kernel_rfl)) rfl ?_
 exact ⟨rfl, rfl⟩
theorem own_pop {w w' : World} {base e sz g n cap : Nat} {us ys : List Value} (h : w.ownsRow base e sz (.slice (some ⟨g, 0, none⟩) (n + 1) cap) (n + 1) (us ++ ys)) (hy : ys.length = sz) (hk : w'.heap[g]? = w.heap[g]?) : w'.ownsRow base e sz (.slice (some ⟨g, 0, none⟩) n cap) n us := by
 obtain ⟨h1, h2⟩ := h
 rw [List.length_append, hy, Nat.succ_mul] at h1
 have hl : us.length = n * sz := by omega
 refine ⟨hl, .inr ?_⟩
 rcases h2 with ⟨h2, -⟩ | ⟨g', cap', cur, e1, e2, e3, e4, e5, e6, e7⟩
 ·cases h2
 injection e1 with e1 _ e8
 injection e1 with e1; injection e1 with e1
 subst e1; subst e8
 refine ⟨g, cap, cur, rfl, e2, hk.trans e3, by omega, e5, e6, ?_⟩
 have : (cur.toList.take ((n + 1) * sz)).take (n * sz) = (us ++ ys).take (n * sz) := by rw [e7]
 rw [List.take_take, Nat.min_eq_left (Nat.mul_le_mul_right _ (Nat.le_succ n))] at this
 rw [this, ← hl, List.take_left]
theorem take_ok (l : List (Int × Bool)) (c : Int × Bool) (q0 q2 q3 : PV) (hn : l.length + 1 ≤ 100) :
  Ok E 126 [[q0, .stk 61 (rowP (l ++ [c])), q2, q3]] [.ptr 0 0] (.agg (cellP c)) [[q0, .stk 61 (rowP l), q2, q3]] := by
 refine ⟨⟨_, Tryz.func126, by decide +kernel, by kernel_rfl⟩, fun w ok ms gs vals hst M hr => ?_⟩
 obtain ⟨b, rfl⟩ : ∃ b, ms = [b] := by
  have := M.len
  match ms, this with
  | [b], _ => exact ⟨b, rfl⟩
 obtain ⟨p0, hp⟩ : ∃ p0, vals.toList = [p0] := by
  have := hr.1
  generalize vals.toList = L at this
  match L, this with
  | [p0], _ => exact ⟨p0, rfl⟩
 rw [hp] at hr
 have hp0 : p0 = .pointer (some ⟨b, 0, none⟩) := by
  cases hr.head with
  | ptr _ _ b' hm => simp at hm; rw [hm]
 have hvals : vals = #[.pointer (some ⟨b, 0, none⟩)] := by
  apply Array.toList_inj.1
  rw [hp, hp0]
 obtain ⟨bs0, arr, ty, g1, g2, g3, g4, g5, g6⟩ := M.box 0 b rfl
 have g1 : [q0, PV.stk 61 (rowP (l ++ [c])), q2, q3] = bs0 := by simpa using g1
 subst g1
 obtain ⟨v, hv, -⟩ := g3.get (i := 1) rfl
 obtain ⟨sz, us, ho, hru, hx, hti, hgb⟩ := M.stk.own 0 1 v 61 (rowP (l ++ [c])) ⟨b, _, arr, ty, rfl, rfl, g2, hv, rfl⟩
 have hsz : sz = 2 := hti _ rfl
 subst hsz
 rw [rowP_len, List.length_append] at ho
 have hxs : rowP (l ++ [c]) = rowP l ++ [cellP c] := by simp [rowP]
 obtain ⟨g, cap, cur, e1, e2, e3, e4, e5, e6, e7⟩ : ∃ g cap cur, v = .slice (some ⟨g, 0, none⟩) (l.length + 1) cap ∧ Tryz.prog.globals.size ≤ g ∧ w.heap[g]? = some (.cells cur 61 (0, 0)) ∧ l.length + 1 ≤ cap ∧ cap ≤ maxLen ∧ cur.size = cap * 2 ∧ cur.toList.take ((l.length + 1) * 2) = us := by
  rcases ho.2 with ⟨-, h⟩ | h
  ·simp at h
  ·exact h
 subst e1
 have hne : g ≠ b := by rintro rfl; exact (hgb g rfl).1.2.1 0 rfl
 rw [hxs, List.flatten_append] at hru
 obtain ⟨us1, us2, rfl, hr1, hr2⟩ : ∃ us1 us2, us = us1 ++ us2 ∧ RepL (RepC w ok) us1 (rowP l).flatten ∧ RepL (RepC w ok) us2 (cellP c) := by
  refine ⟨us.take (rowP l).flatten.length, us.drop (rowP l).flatten.length, (List.take_append_drop _ _).symm, ?_, ?_⟩
  ·have := hru.take (rowP l).flatten.length
   rwa [List.take_left] at this
  ·have := hru.drop (rowP l).flatten.length
   rwa [List.drop_left] at this
 have hl2 : us2.length = 2 := hr2.1
 have hr2' := hr2
 obtain ⟨u0, u1, rfl⟩ : ∃ u0 u1, us2 = [u0, u1] := by
  match us2, hl2 with
  | [u0, u1], _ => exact ⟨u0, u1, rfl⟩
 have hu0 : u0 = .int .i64 c.1 := by
  cases hr2.head with
  | int => rfl
 have hu1 : u1 = .bool c.2 := by
  cases hr2.tail.head with
  | bool => rfl
 subst hu0; subst hu1
 have hl1 : us1.length = l.length * 2 := by have := ho.1; rw [List.length_append] at this; simp at this; omega
 have hcu : ∀ i, i < (l.length + 1) * 2 → cur[i]? = (us1 ++ [Value.int .i64 c.1, .bool c.2])[i]? := by
  intro i hi
  rw [← e7, List.getElem?_take_of_lt hi, Array.getElem?_toList]
 rw [hvals]
 have hgl := hE.glob w M.inv
 have lb : b < w.heap.size := blk_lt' g2
 refine (take_walk b g l.length cap c.1 c.2 w arr cur ty g2 (by simpa using hv) e3 (by rw [hcu _ (by omega), ← hl1]; simp) (by rw [hcu _ (by omega), List.getElem?_append_right (by omega), hl1]; simp) hne hn e4).mono ?_
 rintro e w' ⟨rfl, rfl⟩
 have hfar : ∀ k, k < w.heap.size → k ≠ b → (((w.setCell ⟨b, 1, none⟩ (.slice (some ⟨g, 0, none⟩) l.length cap)).alloc (.cells #[.int .i64 c.1, .bool c.2] 61)).alloc (.cells #[.int .i64 c.1, .bool c.2] 61)).heap[k]? = w.heap[k]? := fun k h1 h2 => by
  rw [Pm.alloc_old _ _ k (by simp [setCell_size]; omega), Pm.alloc_old _ _ k (by rw [setCell_size]; exact h1), set_far h2]
 obtain ⟨M', L⟩ := M.restk hE (i := 0) (j := 1) (b := b) (e := 61) (cs := [q0, PV.stk 61 (rowP (l ++ [c])), q2, q3]) (xs := rowP (l ++ [c])) (xs' := rowP l) (sz := 2) (us := us1) (v' := .slice (some ⟨g, 0, none⟩) l.length cap) (w' := ((w.setCell ⟨b, 1, none⟩ (.slice (some ⟨g, 0, none⟩) l.length cap)).alloc (.cells #[.int .i64 c.1, .bool c.2] 61)).alloc (.cells #[.int .i64 c.1, .bool c.2] 61)) rfl rfl g2 hv rfl rfl rfl rfl (by simp; omega) (fun k h1 h2 _ => hfar k h1 h2)
  (by rw [Pm.alloc_old _ _ b (by simp [setCell_size]; omega), Pm.alloc_old _ _ b (by rw [setCell_size]; exact lb)]; exact set_at g2) (by rw [rowP_len]; exact own_pop ho rfl (hfar g (blk_lt' e3) hne)) (fun S => hr1.mono fun _ _ h => h.stay S) (rowP_two _) hti (fun k h => .inl h) (fun w m tk => .stk _ _ _ _ _ (rowP_len l).symm)
 exact ⟨_, ok, rfl, M', fun _ _ h => h, .agg _ _ (.cons (.int ..) (.cons (.bool ..) .nil))⟩
end Go.Proofs.YtgpkppohfodhdaaGreatDoor.Ru
namespace Go.Proofs.YtgpkppohfodhdaaGreatDoor.Ru
open Go Go.RowKit Go.Proofs.YtgpkppohfodhdaaGreatDoor.Pm Go.Proofs.YtgpkppohfodhdaaGreatDoor.Cd
set_option linter.unusedVariables false
set_option linter.unusedSimpArgs false
structure PutAt (base e sz : Nat) (w : World) (b o : Nat) (arr : Array Value) (ty : TypeId) (v : Value) (n : Nat) (us : List Value) (w' : World) (v' : Value) : Prop where
 os : w'.os = w.os
 tape : w'.tape = w.tape
 out : w'.output = w.output
 size : w.heap.size ≤ w'.heap.size
 far : ∀ k, k < w.heap.size → k ≠ b → v.ownBlock ≠ some k → w'.heap[k]? = w.heap[k]?
 at_ : w'.heap[b]? = some (.cells (arr.toList.set o v').toArray ty (0, 0))
 own : w'.ownsRow base e sz v' n us
 blk : ∀ g, v'.ownBlock = some g → v.ownBlock = some g ∨ w.heap.size ≤ g
 form : ∃ gg cap, v' = .slice (some ⟨gg, 0, none⟩) n cap
theorem PutAt.of {base e sz n b off gg cap : Nat} {w W w1 : World} {arr : Array Value} {ty : TypeId} {v : Value} {us : List Value} {o o' : Obj} (hW : w.alloc o = W) (hg : (W.alloc o').drew.grownBy w1 v.ownBlock) (hbw : w1.heap[b]? = some (.cells arr ty (0, 0)))
  (hown : w1.ownsRow base e sz (.slice (some ⟨gg, 0, none⟩) n cap) n us) (hat : v.ownBlock = some gg ∨ gg = W.heap.size + 1) (lb : b < w.heap.size) (hne : gg ≠ b) : PutAt base e sz w b off arr ty v n us (w1.setCell ⟨b, off, none⟩ (.slice (some ⟨gg, 0, none⟩) n cap)) (.slice (some ⟨gg, 0, none⟩) n cap) := by
 have hs : (W.alloc o').drew.heap.size = w.heap.size + 2 := by rw [← hW]; simp
 refine ⟨by rw [← hW] at hg; exact hg.os, by rw [← hW] at hg; exact hg.tape, by rw [← hW] at hg; exact hg.output, ?_, fun k hk h1 h2 => ?_, set_at hbw, ?_, fun g h => ?_, gg, cap, rfl⟩
 ·rw [setCell_size]; have := hg.size; omega
 ·rw [set_far h1, hg.block k (by omega) (Ne.symm h2), ← hW]
  exact (Pm.alloc_old (w.alloc o) o' k (by simp; omega)).trans (Pm.alloc_old w o k hk)
 ·exact own_move hown fun g h => set_far (by injection h with h; subst h; exact hne)
 ·injection h with h; subst h
  rcases hat with h | h
  ·exact .inl h
  ·right; rw [h, ← hW]; simp; omega
set_option maxRecDepth 100000 in
set_option maxHeartbeats 3200000 in
theorem put_walk (b n base : Nat) (v a0 a1 : Value) (us : List Value) (w : World) (arr : Array Value) (ty : TypeId) (hw : w.heap[b]? = some (.cells arr ty (0, 0))) (hv : arr[1]? = some v) (ho0 : a0.oneCell' = true) (ho1 : a1.oneCell' = true)
  (hform : v = .slice none 0 0 ∧ n = 0 ∨ ∃ g cap, v = .slice (some ⟨g, 0, none⟩) n cap) (hown : w.ownsRow base 61 2 v n us) (hbase : base ≤ w.heap.size) (hn : n + 1 ≤ 100) (ag : v.ownBlock ≠ some b) :
  Calls Tryz.prog 127 #[.pointer (some ⟨b, 0, none⟩), .agg #[a0, a1]] w fun e w' => ∃ v', e = .returned (.tuple #[]) ∧ PutAt base 61 2 w b 1 arr ty v (n + 1) (us ++ [a0, a1]) w' v' := by
 obtain ⟨i0, hi0, hz0, hz1, hz2⟩ := info_parts infoCell
 have hc : w.cell? ⟨b, 1, none⟩ = some v := by simp [World.cell?, hw, hv]
 have lb := World.block_lt_of_cell? w _ hc
 have ag2 : v.ownBlock ≠ some w.heap.size := fun h => by have := (hown.lt _ h).2; omega
 have hne := World.new_ne w _ hc
 obtain ⟨A, nn, cap, hvs, hnn⟩ : ∃ A nn cap, v = .slice A nn cap ∧ nn = n := by
  rcases hform with ⟨rfl, rfl⟩ | ⟨g, cap, rfl⟩
  ·exact ⟨none, 0, 0, rfl, rfl⟩
  ·exact ⟨_, _, _, rfl, rfl⟩
 subst hnn
 have hc2 : w.cell? ⟨b, 1, none⟩ = some (.slice A nn cap) := by rw [hc, hvs]
 have z1 : (nn : Int) < 100 := by omega
 have z2 : ¬ (100 : Int) ≤ (nn : Int) := by omega
 have d9 : ∀ o, (w.alloc o).cell? ⟨b, 1, none⟩ = some (.slice A nn cap) := fun o => (World.cell?_alloc_old _ _ _ (by show b ≠ w.heap.size; exact Nat.ne_of_lt lb)).trans hc2
 go_enter Tryz.func127, Tryz.ntmps127
 go_wp2_with fail
 have ha : 1 < arr.size := (Array.getElem?_eq_some_iff.1 hv).1
 obtain ⟨W, hW⟩ : ∃ W, w.alloc (Obj.cells #[a0, a1] 61) = W := ⟨_, rfl⟩
 have c0 : W.cell? ⟨b, 1, none⟩ = some v := by rw [← hW]; exact (World.cell?_alloc_old _ _ _ (Nat.ne_of_lt lb)).trans hc
 have cb : W.heap[b]? = some (.cells arr ty (0, 0)) := by rw [← hW]; exact (heap_alloc_old w _ lb).trans hw
 have c1 : W.cell? ⟨w.heap.size, 0, none⟩ = some a0 := by rw [← hW]; simp
 have c2 : W.cell? ⟨w.heap.size, 1, none⟩ = some a1 := by rw [← hW]; simp
 have hownW : W.ownsRow base 61 2 v nn us := by rw [← hW]; exact hown.alloc _
 have hWs : W.heap.size = w.heap.size + 1 := by rw [← hW]; simp
 have lbW : b < W.heap.size := by have : b < w.heap.size := lb; omega
 have d0 : ∀ o, (W.alloc o).cell? ⟨b, 1, none⟩ = some v := fun o => (World.cell?_alloc_old _ _ _ (by show b ≠ W.heap.size; omega)).trans c0
 have d1 : ∀ o, (W.alloc o).cell? ⟨w.heap.size, 0, none⟩ = some a0 := fun o => (World.cell?_alloc_old _ _ _ (by show w.heap.size ≠ W.heap.size; omega)).trans c1
 have d2 : ∀ o, (W.alloc o).cell? ⟨w.heap.size, 1, none⟩ = some a1 := fun o => (World.cell?_alloc_old _ _ _ (by show w.heap.size ≠ W.heap.size; omega)).trans c2
 have db : ∀ o, (W.alloc o).heap[b]? = some (.cells arr ty (0, 0)) := fun o => (Pm.alloc_old W o b lbW).trans cb
 clear hc2
 rw [← hvs] at *
 rw [hW]
 go_region_law ((refine step_append_lies _ (by rfl) _ _ _ (by rfl) base 61 i0 _ 2 16 Tryz.underlying57 hi0 hz0 hz1 hz2 rfl (by omega) v nn us (by rfl) ((hownW.alloc _).drew) ⟨w.heap.size + 1, 0, none⟩ 1 1 [a0, a1] (by rfl) (by rfl) (World.news_of_block (cs := #[a0, a1]) (t := 61) (fr := (0, 0)) (by rw [← hWs]; exact heap_alloc_new W _)) (by simp [ho0, ho1]) (by omega) (by simp only [maxLen]; omega) (by omega) (by simp; omega) (W.heap.size + 1) (by simp) ?_; intro gg cap w1 hown1 hgrow hat hlt; have hbw := (hgrow.block b (by simp; omega) (Ne.symm ag)).trans (db _); have hfw := nofr (o := 1) hbw; have hcw : w1.cell? ⟨b, 1, none⟩ = some v := by simp [World.cell?, hbw, hv]))
 all_goals (
  have hne' : gg ≠ b := by
   rcases hat with h | h
   ·rintro rfl; exact ag h
   ·have : b < w.heap.size := lb
    omega
  have hP := PutAt.of (off := 1) (n := nn + 1) (us := us ++ [a0, a1]) hW hgrow hbw hown1 hat lb hne'
  go_wp2
  go_end0
  exact ⟨rfl, _, hP⟩)
theorem put_ok (l : List (Int × Bool)) (c : Int × Bool) (q0 q2 q3 : PV) (hn : l.length + 1 ≤ 100) :
  Ok E 127 [[q0, .stk 61 (rowP l), q2, q3]] [.ptr 0 0, .agg (cellP c)] (.tup []) [[q0, .stk 61 (rowP (l ++ [c])), q2, q3]] := by
 refine ⟨⟨_, Tryz.func127, by decide +kernel, by kernel_rfl⟩, fun w ok ms gs vals hst M hr => ?_⟩
 obtain ⟨b, rfl⟩ : ∃ b, ms = [b] := by
  have := M.len
  match ms, this with
  | [b], _ => exact ⟨b, rfl⟩
 obtain ⟨p0, p1, hp⟩ : ∃ p0 p1, vals.toList = [p0, p1] := by
  have := hr.1
  generalize vals.toList = L at this
  match L, this with
  | [p0, p1], _ => exact ⟨p0, p1, rfl⟩
 rw [hp] at hr
 obtain ⟨cs, hp1, hcs⟩ : ∃ cs : Array Value, p1 = .agg cs ∧ RepL (RepC w ok) cs.toList (cellP c) := by
  cases hr.tail.head with
  | agg cs _ h => exact ⟨cs, rfl, h⟩
 have hp0 : p0 = .pointer (some ⟨b, 0, none⟩) := by
  cases hr.head with
  | ptr _ _ b' hm => simp at hm; rw [hm]
 obtain ⟨a0, a1, hc3⟩ : ∃ a0 a1, cs.toList = [a0, a1] := by
  have := hcs.1
  generalize cs.toList = L at this
  match L, this with
  | [a0, a1], _ => exact ⟨a0, a1, rfl⟩
 rw [hc3] at hcs
 have hvals : vals = #[.pointer (some ⟨b, 0, none⟩), .agg #[a0, a1]] := by
  apply Array.toList_inj.1
  rw [hp, hp0, hp1]
  show _ = [Value.pointer (some ⟨b, 0, none⟩), .agg #[a0, a1]]
  rw [show cs = #[a0, a1] from Array.toList_inj.1 hc3]
 obtain ⟨bs0, arr, ty, g1, g2, g3, g4, g5, g6⟩ := M.box 0 b rfl
 have g1 : [q0, PV.stk 61 (rowP l), q2, q3] = bs0 := by simpa using g1
 subst g1
 obtain ⟨v, hv, -⟩ := g3.get (i := 1) rfl
 obtain ⟨sz, us, ho, hru, hx, hti, hgb⟩ := M.stk.own 0 1 v 61 (rowP l) ⟨b, _, arr, ty, rfl, rfl, g2, hv, rfl⟩
 have hsz : sz = 2 := hti _ rfl
 subst hsz
 rw [rowP_len] at ho
 have hform : v = .slice none 0 0 ∧ l.length = 0 ∨ ∃ g cap, v = .slice (some ⟨g, 0, none⟩) l.length cap := by
  rcases ho.2 with h | ⟨g, cap, _, h, _⟩
  ·exact .inl h
  ·exact .inr ⟨g, cap, h⟩
 have hgl := hE.glob w M.inv
 rw [hvals]
 refine (put_walk b l.length Tryz.prog.globals.size v a0 a1 us w arr ty g2 (by simpa using hv) hcs.head.oneCell hcs.tail.head.oneCell hform ho hgl hn (fun hb => (hgb b hb).1.2.1 0 rfl)).mono ?_
 rintro e w' ⟨v', rfl, P⟩
 obtain ⟨gg, cap, hf⟩ := P.form
 have hxs : rowP (l ++ [c]) = rowP l ++ [cellP c] := by simp [rowP]
 have hlen : (rowP (l ++ [c])).length = l.length + 1 := by rw [rowP_len]; simp
 obtain ⟨M', L⟩ := M.restk hE (i := 0) (j := 1) (b := b) (e := 61) (cs := [q0, PV.stk 61 (rowP l), q2, q3]) (xs := rowP l) (xs' := rowP (l ++ [c])) (sz := 2) (us := us ++ [a0, a1]) (v' := v') (w' := w') rfl rfl g2 hv rfl P.os P.tape P.out P.size P.far P.at_ (by rw [hlen]; exact P.own) (fun S => by
   rw [hxs, List.flatten_append]
   exact (hru.mono fun _ _ h => h.stay S).append (by simpa using hcs.mono fun _ _ h => h.stay S)) (rowP_two _) hti P.blk (fun w m tk => by rw [hf]; exact .stk _ _ _ _ _ hlen.symm)
 exact ⟨_, ok, rfl, M', fun _ _ h => h, .tup _ _ rfl (fun i v d h _ => by simp at h)⟩
end Go.Proofs.YtgpkppohfodhdaaGreatDoor.Ru
namespace Go.Proofs.YtgpkppohfodhdaaGreatDoor.Ru
open Go Go.RowKit Go.Proofs.YtgpkppohfodhdaaGreatDoor.Pm
set_option linter.unusedVariables false
set_option linter.unusedSimpArgs false
set_option maxHeartbeats 4000000
set_option maxRecDepth 8000
@[reducible] def mB (R : List (List CV)) (s : List (Int × Bool)) (at_ e : Int) : List PV := [.c (.row R), .stk 61 (rowP s), .c (.int .i64 at_), .c (.int .i64 e)]
theorem need_yes (R : List (List CV)) (s : List (Int × Bool)) (at_ : Int) (n : Nat) (h : n ≤ s.length) : Ok E 125 [mB R s at_ 0] [.ptr 0 0, .c (.int .i64 n)] (.c (.bool true)) [mB R s at_ 0] := by
 rw [← rowP_len] at h
 refine Ok.enter hE Tryz.func125 rfl (by decide +kernel) (by kernel_rfl) rfl rfl (Nat.le_of_ble_eq_true rfl) rfl ?_
 refine ⟨_, ltN (by omega), ?_⟩
 refine ⟨_, eqT rfl, ?_⟩
 exact ⟨_, rfl, Wk.refl _, rfl, .cons (WkL.refl _) rfl (.nil _)⟩
theorem need_no (R : List (List CV)) (s : List (Int × Bool)) (at_ : Int) (n : Nat) (h : s.length < n) : Ok E 125 [mB R s at_ 0] [.ptr 0 0, .c (.int .i64 n)] (.c (.bool false)) [mB R s at_ 100] := by
 rw [← rowP_len] at h
 refine Ok.enter hE Tryz.func125 rfl (by decide +kernel) (by kernel_rfl) rfl rfl (Nat.le_of_ble_eq_true rfl) rfl ?_
 refine ⟨_, ltT (by omega), ?_⟩
 refine ⟨_, eqN (by decide), ?_⟩
 exact ⟨_, rfl, Wk.refl _, rfl, .cons (WkL.refl _) rfl (.nil _)⟩
theorem put_full (R : List (List CV)) (s : List (Int × Bool)) (at_ e : Int) (c : Int × Bool) (h : 100 ≤ s.length) : Ok E 127 [mB R s at_ e] [.ptr 0 0, .agg (cellP c)] (.tup []) [mB R s at_ 100] := by
 rw [← rowP_len] at h
 refine Ok.enter hE Tryz.func127 rfl (by decide +kernel) (by kernel_rfl) rfl rfl (Nat.le_of_ble_eq_true rfl) rfl ?_
 refine ⟨_, geT (by omega), ?_⟩
 exact ⟨_, rfl, Wk.refl _, rfl, .cons (WkL.refl _) rfl (.nil _)⟩
def putS (s : List (Int × Bool)) (c : Int × Bool) : List (Int × Bool) := if 100 ≤ s.length then s else s ++ [c]
def putE (s : List (Int × Bool)) (e : Int) : Int := if 100 ≤ s.length then 100 else e
theorem put_all (R : List (List CV)) (s : List (Int × Bool)) (at_ e : Int) (c : Int × Bool) : Ok E 127 [mB R s at_ e] [.ptr 0 0, .agg (cellP c)] (.tup []) [mB R (putS s c) at_ (putE s e)] := by
 unfold putS putE
 by_cases h : 100 ≤ s.length
 ·rw [if_pos h, if_pos h]; exact put_full R s at_ e c h
 ·rw [if_neg h, if_neg h]; exact put_ok s c _ _ _ (by omega)
theorem truth_ok (b : Bool) : Ok E 128 [] [.c (.bool b)] (.agg (cellP (if b then 1 else 0, true))) [] := by
 refine Ok.enter hE Tryz.func128 rfl (by decide +kernel) (by kernel_rfl) rfl rfl (Nat.le_of_ble_eq_true rfl) rfl ?_
 cases b with
 | true => exact Ret.mk _ rfl rfl rfl
 | false => exact Ret.mk _ rfl rfl rfl
theorem jump_ok (R : List (List CV)) (s : List (Int × Bool)) (at_ e : Int) (x : Ins) : Ok E 88 [mB R s at_ e] [.ptr 0 0, pIn x] (.tup []) [mB R s x.n e] := by
 refine Ok.enter hE Tryz.func88 rfl (by decide +kernel) (by kernel_rfl) rfl rfl (Nat.le_of_ble_eq_true rfl) rfl ?_
 exact ⟨_, rfl, Wk.refl _, rfl, .cons (WkL.refl _) rfl (.nil _)⟩
theorem more_ok (R : List (List CV)) (s : List (Int × Bool)) (at_ e : Int) (x : Ins) : Ok E 85 [mB R s at_ e] [.ptr 0 0, pIn x] (.tup []) [mB R (putS s (if decide ((R.length : Int) > x.n) = true then 1 else 0, true)) at_ (putE s e)] := by
 refine Ok.enter hE Tryz.func85 rfl (by decide +kernel) (by kernel_rfl) rfl rfl (Nat.le_of_ble_eq_true rfl) rfl ?_
 refine ⟨_, gtV rfl, ?_⟩
 refine ⟨_, CallR.mk1 (truth_ok _) rfl rfl, ?_⟩
 refine .inl ⟨_, _, SCallR.of [0] (put_all R s at_ e _) (Hand.of rfl rfl (by simp) rfl rfl) rfl rfl rfl, ?_⟩
 exact ⟨_, rfl, Wk.refl _, rfl, .cons (WkL.refl _) rfl (.nil _)⟩
theorem other_no (R : List (List CV)) (s : List (Int × Bool)) (at_ : Int) (x : Ins) (h : s = []) : Ok E 84 [mB R s at_ 0] [.ptr 0 0, pIn x] (.tup []) [mB R s at_ 100] := by
 refine Ok.enter hE Tryz.func84 rfl (by decide +kernel) (by kernel_rfl) rfl rfl (Nat.le_of_ble_eq_true rfl) rfl ?_
 refine .inl ⟨_, _, SCallR.of [0] (need_no R s at_ 1 (by simp [h])) (Hand.of rfl rfl (by simp) rfl rfl) rfl rfl rfl, ?_⟩
 exact ⟨_, rfl, Wk.refl _, rfl, .cons (WkL.refl _) rfl (.nil _)⟩
theorem other_ok (R : List (List CV)) (s : List (Int × Bool)) (at_ : Int) (x : Ins) (c : Int × Bool) (h : s.length < 100) : Ok E 84 [mB R (s ++ [c]) at_ 0] [.ptr 0 0, pIn x] (.tup []) [mB R (if c.2 then s ++ [c] else s) (if c.2 then x.n else at_) 0] := by
 refine Ok.enter hE Tryz.func84 rfl (by decide +kernel) (by kernel_rfl) rfl rfl (Nat.le_of_ble_eq_true rfl) rfl ?_
 refine .inl ⟨_, _, SCallR.of [0] (need_yes R (s ++ [c]) at_ 1 (by simp)) (Hand.of rfl rfl (by simp) rfl rfl) rfl rfl rfl, ?_⟩
 refine .inl ⟨_, _, SCallR.of [0] (take_ok s c _ _ _ (by omega)) (Hand.of rfl rfl (by simp) rfl rfl) rfl rfl rfl, ?_⟩
 obtain ⟨n, b⟩ := c
 cases b with
 | true =>
  refine .inl ⟨_, _, SCallR.of [0] (put_ok s (n, true) _ _ _ (by omega)) (Hand.of rfl rfl (by simp) rfl rfl) rfl rfl rfl, ?_⟩
  exact ⟨_, rfl, Wk.refl _, rfl, .cons (WkL.refl _) rfl (.nil _)⟩
 | false => exact ⟨_, rfl, Wk.refl _, rfl, .cons (WkL.refl _) rfl (.nil _)⟩
theorem unless_no (R : List (List CV)) (s : List (Int × Bool)) (at_ : Int) (x : Ins) (h : s = []) : Ok E 87 [mB R s at_ 0] [.ptr 0 0, pIn x] (.tup []) [mB R s at_ 100] := by
 refine Ok.enter hE Tryz.func87 rfl (by decide +kernel) (by kernel_rfl) rfl rfl (Nat.le_of_ble_eq_true rfl) rfl ?_
 refine .inl ⟨_, _, SCallR.of [0] (need_no R s at_ 1 (by simp [h])) (Hand.of rfl rfl (by simp) rfl rfl) rfl rfl rfl, ?_⟩
 exact ⟨_, rfl, Wk.refl _, rfl, .cons (WkL.refl _) rfl (.nil _)⟩
theorem unless_ok (R : List (List CV)) (s : List (Int × Bool)) (at_ : Int) (x : Ins) (c : Int × Bool) (h : s.length < 100) : Ok E 87 [mB R (s ++ [c]) at_ 0] [.ptr 0 0, pIn x] (.tup []) [mB R s (if c.1 = 0 then x.n else at_) 0] := by
 by_cases hc : c.1 = 0
 ·rw [if_pos hc]
  refine Ok.enter hE Tryz.func87 rfl (by decide +kernel) (by kernel_rfl) rfl rfl (Nat.le_of_ble_eq_true rfl) rfl ?_
  refine .inl ⟨_, _, SCallR.of [0] (need_yes R (s ++ [c]) at_ 1 (by simp)) (Hand.of rfl rfl (by simp) rfl rfl) rfl rfl rfl, ?_⟩
  refine .inl ⟨_, _, SCallR.of [0] (take_ok s c _ _ _ (by omega)) (Hand.of rfl rfl (by simp) rfl rfl) rfl rfl rfl, ?_⟩
  refine ⟨_, eqT hc, ?_⟩
  exact ⟨_, rfl, Wk.refl _, rfl, .cons (WkL.refl _) rfl (.nil _)⟩
 ·rw [if_neg hc]
  refine Ok.enter hE Tryz.func87 rfl (by decide +kernel) (by kernel_rfl) rfl rfl (Nat.le_of_ble_eq_true rfl) rfl ?_
  refine .inl ⟨_, _, SCallR.of [0] (need_yes R (s ++ [c]) at_ 1 (by simp)) (Hand.of rfl rfl (by simp) rfl rfl) rfl rfl rfl, ?_⟩
  refine .inl ⟨_, _, SCallR.of [0] (take_ok s c _ _ _ (by omega)) (Hand.of rfl rfl (by simp) rfl rfl) rfl rfl rfl, ?_⟩
  refine ⟨_, eqN hc, ?_⟩
  exact ⟨_, rfl, Wk.refl _, rfl, .cons (WkL.refl _) rfl (.nil _)⟩
end Go.Proofs.YtgpkppohfodhdaaGreatDoor.Ru
namespace Go.Proofs.YtgpkppohfodhdaaGreatDoor.Ru
open Go Go.RowKit Go.Proofs.YtgpkppohfodhdaaGreatDoor.Pm
set_option linter.unusedVariables false
set_option linter.unusedSimpArgs false
set_option maxHeartbeats 4000000
set_option maxRecDepth 8000
theorem above_no (R : List (List CV)) (s : List (Int × Bool)) (at_ : Int) (x : Ins) (h : s.length < 2) : Ok E 86 [mB R s at_ 0] [.ptr 0 0, pIn x] (.tup []) [mB R s at_ 100] := by
 refine Ok.enter hE Tryz.func86 rfl (by decide +kernel) (by kernel_rfl) rfl rfl (Nat.le_of_ble_eq_true rfl) rfl ?_
 refine .inl ⟨_, _, SCallR.of [0] (need_no R s at_ 2 h) (Hand.of rfl rfl (by simp) rfl rfl) rfl rfl rfl, ?_⟩
 exact ⟨_, rfl, Wk.refl _, rfl, .cons (WkL.refl _) rfl (.nil _)⟩
theorem above_ok (R : List (List CV)) (s : List (Int × Bool)) (at_ : Int) (x : Ins) (a b : Int × Bool) (h : s.length < 99) : Ok E 86 [mB R (s ++ [a] ++ [b]) at_ 0] [.ptr 0 0, pIn x] (.tup []) [mB R (s ++ [(if a.2 && b.2 && decide (a.1 > b.1) then 1 else 0, true)]) at_ 0] := by
 obtain ⟨a1, a2⟩ := a
 obtain ⟨b1, b2⟩ := b
 refine Ok.enter hE Tryz.func86 rfl (by decide +kernel) (by kernel_rfl) rfl rfl (Nat.le_of_ble_eq_true rfl) rfl ?_
 refine .inl ⟨_, _, SCallR.of [0] (need_yes R (s ++ [(a1, a2)] ++ [(b1, b2)]) at_ 2 (by simp)) (Hand.of rfl rfl (by simp) rfl rfl) rfl rfl rfl, ?_⟩
 refine .inl ⟨_, _, SCallR.of [0] (take_ok (s ++ [(a1, a2)]) (b1, b2) _ _ _ (by simp; omega)) (Hand.of rfl rfl (by simp) rfl rfl) rfl rfl rfl, ?_⟩
 refine .inl ⟨_, _, SCallR.of [0] (take_ok s (a1, a2) _ _ _ (by omega)) (Hand.of rfl rfl (by simp) rfl rfl) rfl rfl rfl, ?_⟩
 cases a2 with
 | false =>
  refine ⟨_, CallR.mk1 (truth_ok false) rfl rfl, ?_⟩
  refine .inl ⟨_, _, SCallR.of [0] (put_ok s (0, true) _ _ _ (by omega)) (Hand.of rfl rfl (by simp) rfl rfl) rfl rfl rfl, ?_⟩
  exact ⟨_, rfl, Wk.refl _, rfl, .cons (WkL.refl _) rfl (.nil _)⟩
 | true =>
  cases b2 with
  | false =>
   refine ⟨_, CallR.mk1 (truth_ok false) rfl rfl, ?_⟩
   refine .inl ⟨_, _, SCallR.of [0] (put_ok s (0, true) _ _ _ (by omega)) (Hand.of rfl rfl (by simp) rfl rfl) rfl rfl rfl, ?_⟩
   exact ⟨_, rfl, Wk.refl _, rfl, .cons (WkL.refl _) rfl (.nil _)⟩
  | true =>
   refine ⟨_, gtV rfl, ?_⟩
   refine ⟨_, CallR.mk1 (truth_ok (decide (a1 > b1))) rfl rfl, ?_⟩
   refine .inl ⟨_, _, SCallR.of [0] (put_ok s (if decide (a1 > b1) = true then 1 else 0, true) _ _ _ (by omega)) (Hand.of rfl rfl (by simp) rfl rfl) rfl rfl rfl, ?_⟩
   exact ⟨_, rfl, Wk.refl _, rfl, .cons (WkL.refl _) rfl (.nil _)⟩
theorem both_no (R : List (List CV)) (s : List (Int × Bool)) (at_ : Int) (f : FuncId) (h : s.length < 2) : Ok E 122 [mB R s at_ 0] [.ptr 0 0, .c (.fn f)] (.tup []) [mB R s at_ 100] := by
 refine Ok.enter hE Tryz.func122 rfl (by decide +kernel) (by kernel_rfl) rfl rfl (Nat.le_of_ble_eq_true rfl) rfl ?_
 refine .inl ⟨_, _, SCallR.of [0] (need_no R s at_ 2 h) (Hand.of rfl rfl (by simp) rfl rfl) rfl rfl rfl, ?_⟩
 exact ⟨_, rfl, Wk.refl _, rfl, .cons (WkL.refl _) rfl (.nil _)⟩
theorem both_ok (R : List (List CV)) (s : List (Int × Bool)) (at_ : Int) (f : FuncId) (F : Int → Int → Int) (hf : ∀ a b : Int, Ok E f [] [.c (.int .i64 a), .c (.int .i64 b)] (.c (.int .i64 (F a b))) []) (a b : Int × Bool) (h : s.length < 99) :
  Ok E 122 [mB R (s ++ [a] ++ [b]) at_ 0] [.ptr 0 0, .c (.fn f)] (.tup []) [mB R (s ++ [if a.2 && b.2 then (F a.1 b.1, true) else (0, false)]) at_ 0] := by
 obtain ⟨a1, a2⟩ := a
 obtain ⟨b1, b2⟩ := b
 refine Ok.enter hE Tryz.func122 rfl (by decide +kernel) (by kernel_rfl) rfl rfl (Nat.le_of_ble_eq_true rfl) rfl ?_
 refine .inl ⟨_, _, SCallR.of [0] (need_yes R (s ++ [(a1, a2)] ++ [(b1, b2)]) at_ 2 (by simp)) (Hand.of rfl rfl (by simp) rfl rfl) rfl rfl rfl, ?_⟩
 refine .inl ⟨_, _, SCallR.of [0] (take_ok (s ++ [(a1, a2)]) (b1, b2) _ _ _ (by simp; omega)) (Hand.of rfl rfl (by simp) rfl rfl) rfl rfl rfl, ?_⟩
 refine .inl ⟨_, _, SCallR.of [0] (take_ok s (a1, a2) _ _ _ (by omega)) (Hand.of rfl rfl (by simp) rfl rfl) rfl rfl rfl, ?_⟩
 cases a2 with
 | false =>
  refine .inl ⟨_, _, SCallR.of [0] (put_ok s (0, false) _ _ _ (by omega)) (Hand.of rfl rfl (by simp) rfl rfl) rfl rfl rfl, ?_⟩
  exact ⟨_, rfl, Wk.refl _, rfl, .cons (WkL.refl _) rfl (.nil _)⟩
 | true =>
  cases b2 with
  | false =>
   refine .inl ⟨_, _, SCallR.of [0] (put_ok s (0, false) _ _ _ (by omega)) (Hand.of rfl rfl (by simp) rfl rfl) rfl rfl rfl, ?_⟩
   exact ⟨_, rfl, Wk.refl _, rfl, .cons (WkL.refl _) rfl (.nil _)⟩
  | true =>
   refine .inl ⟨_, _, SCallR.none (hf a1 b1) rfl rfl, ?_⟩
   refine .inl ⟨_, _, SCallR.of [0] (put_ok s (F a1 b1, true) _ _ _ (by omega)) (Hand.of rfl rfl (by simp) rfl rfl) rfl rfl rfl, ?_⟩
   exact ⟨_, rfl, Wk.refl _, rfl, .cons (WkL.refl _) rfl (.nil _)⟩
theorem minR {a b z : Int} (h : min a b = z) : minF [.c (.int .i64 a), .c (.int .i64 b)] = some (.c (.int .i64 z)) := by
 subst h
 show (match minG a [PV.c (.int .i64 b)] with
  | some z => some (PV.c (.int .i64 z))
  | none => none) = _
 have : minG a [PV.c (.int .i64 b)] = some (min a b) := by
  simp only [minG]
  simp
  omega
 rw [this]
theorem lesser1_ok (a b : Int) : Ok E 123 [] [.c (.int .i64 a), .c (.int .i64 b)] (.c (.int .i64 (min a b))) [] := by
 refine Ok.enter hE Tryz.func123 rfl (by decide +kernel) (by kernel_rfl) rfl rfl (Nat.le_of_ble_eq_true rfl) rfl ?_
 refine ⟨_, minR rfl, ?_⟩
 exact Ret.mk _ rfl rfl rfl
theorem greater1_ok (a b : Int) : Ok E 124 [] [.c (.int .i64 a), .c (.int .i64 b)] (.c (.int .i64 (max a b))) [] := by
 refine Ok.enter hE Tryz.func124 rfl (by decide +kernel) (by kernel_rfl) rfl rfl (Nat.le_of_ble_eq_true rfl) rfl ?_
 refine ⟨_, maxV rfl, ?_⟩
 exact Ret.mk _ rfl rfl rfl
theorem lesser_ok (R : List (List CV)) (s s' : List (Int × Bool)) (at_ e : Int) (x : Ins) (h : Ok E 122 [mB R s at_ 0] [.ptr 0 0, .c (.fn 123)] (.tup []) [mB R s' at_ e]) : Ok E 82 [mB R s at_ 0] [.ptr 0 0, pIn x] (.tup []) [mB R s' at_ e] := by
 refine Ok.enter hE Tryz.func82 rfl (by decide +kernel) (by kernel_rfl) rfl rfl (Nat.le_of_ble_eq_true rfl) rfl ?_
 refine .inl ⟨_, _, SCallR.of [0] h (Hand.of rfl rfl (by simp) rfl rfl) rfl rfl rfl, ?_⟩
 exact ⟨_, rfl, Wk.refl _, rfl, .cons (WkL.refl _) rfl (.nil _)⟩
theorem greater_ok (R : List (List CV)) (s s' : List (Int × Bool)) (at_ e : Int) (x : Ins) (h : Ok E 122 [mB R s at_ 0] [.ptr 0 0, .c (.fn 124)] (.tup []) [mB R s' at_ e]) : Ok E 83 [mB R s at_ 0] [.ptr 0 0, pIn x] (.tup []) [mB R s' at_ e] := by
 refine Ok.enter hE Tryz.func83 rfl (by decide +kernel) (by kernel_rfl) rfl rfl (Nat.le_of_ble_eq_true rfl) rfl ?_
 refine .inl ⟨_, _, SCallR.of [0] h (Hand.of rfl rfl (by simp) rfl rfl) rfl rfl rfl, ?_⟩
 exact ⟨_, rfl, Wk.refl _, rfl, .cons (WkL.refl _) rfl (.nil _)⟩
end Go.Proofs.YtgpkppohfodhdaaGreatDoor.Ru
namespace Go.Proofs.YtgpkppohfodhdaaGreatDoor.Ru
open Go Go.RowKit Go.Proofs.YtgpkppohfodhdaaGreatDoor.Pm
set_option linter.unusedVariables false
set_option linter.unusedSimpArgs false
set_option maxHeartbeats 4000000
set_option maxRecDepth 8000
@[reducible] def xB (x : Ins) : List PV := (cellsI x).map .c
theorem minus_no (R : List (List CV)) (s : List (Int × Bool)) (at_ : Int) (x : Ins) (f : FuncId) (h : s = []) : Ok E 119 [mB R s at_ 0, xB x] [.ptr 0 0, .clos f [] [.p 1 0]] (.tup []) [mB R s at_ 100, xB x] := by
 refine Ok.enter hE Tryz.func119 rfl (by decide +kernel) (by kernel_rfl) rfl rfl (Nat.le_of_ble_eq_true rfl) rfl ?_
 refine .inl ⟨_, _, SCallR.of [0] (need_no R s at_ 1 (by simp [h])) (Hand.of rfl rfl (by simp) rfl rfl) rfl rfl rfl, ?_⟩
 exact ⟨_, rfl, Wk.refl _, rfl, .cons (WkL.refl _) rfl (.cons (WkL.refl _) rfl (.nil _))⟩
theorem minus_none (R : List (List CV)) (s : List (Int × Bool)) (at_ n : Int) (x : Ins) (f : FuncId) (h : s.length < 100) : Ok E 119 [mB R (s ++ [(n, false)]) at_ 0, xB x] [.ptr 0 0, .clos f [] [.p 1 0]] (.tup []) [mB R (s ++ [(n, false)]) at_ 0, xB x] := by
 refine Ok.enter hE Tryz.func119 rfl (by decide +kernel) (by kernel_rfl) rfl rfl (Nat.le_of_ble_eq_true rfl) rfl ?_
 refine .inl ⟨_, _, SCallR.of [0] (need_yes R (s ++ [(n, false)]) at_ 1 (by simp)) (Hand.of rfl rfl (by simp) rfl rfl) rfl rfl rfl, ?_⟩
 refine .inl ⟨_, _, SCallR.of [0] (take_ok s (n, false) _ _ _ (by omega)) (Hand.of rfl rfl (by simp) rfl rfl) rfl rfl rfl, ?_⟩
 refine .inl ⟨_, _, SCallR.of [0] (put_ok s (n, false) _ _ _ (by omega)) (Hand.of rfl rfl (by simp) rfl rfl) rfl rfl rfl, ?_⟩
 exact ⟨_, rfl, Wk.refl _, rfl, .cons (WkL.refl _) rfl (.cons (WkL.refl _) rfl (.nil _))⟩
theorem minus_err (R : List (List CV)) (s : List (Int × Bool)) (at_ n y ey : Int) (x : Ins) (f : FuncId) (h : s.length < 100) (hf : Ok E f [xB x] [.c (.int .i64 n), .ptr 0 0] (.tup [.c (.int .i64 y), .c (.int .i64 ey)]) [xB x]) (he : ey ≠ 0) :
  Ok E 119 [mB R (s ++ [(n, true)]) at_ 0, xB x] [.ptr 0 0, .clos f [] [.p 1 0]] (.tup []) [mB R (s ++ [(n, true)]) at_ ey, xB x] := by
 refine Ok.enter hE Tryz.func119 rfl (by decide +kernel) (by kernel_rfl) rfl rfl (Nat.le_of_ble_eq_true rfl) rfl ?_
 refine .inl ⟨_, _, SCallR.of [0] (need_yes R (s ++ [(n, true)]) at_ 1 (by simp)) (Hand.of rfl rfl (by simp) rfl rfl) rfl rfl rfl, ?_⟩
 refine .inl ⟨_, _, SCallR.of [0] (take_ok s (n, true) _ _ _ (by omega)) (Hand.of rfl rfl (by simp) rfl rfl) rfl rfl rfl, ?_⟩
 refine .inl ⟨_, _, SCallR.of [1] hf (Hand.of rfl rfl (by simp) rfl rfl) rfl rfl rfl, ?_⟩
 refine ⟨_, eqN he, ?_⟩
 refine .inl ⟨_, _, SCallR.of [0] (put_ok s (n, true) _ _ _ (by omega)) (Hand.of rfl rfl (by simp) rfl rfl) rfl rfl rfl, ?_⟩
 exact ⟨_, rfl, Wk.refl _, rfl, .cons (WkL.refl _) rfl (.cons (WkL.refl _) rfl (.nil _))⟩
theorem minus_sub (R : List (List CV)) (s : List (Int × Bool)) (at_ n y z ez : Int) (x : Ins) (f : FuncId) (h : s.length < 100) (hf : Ok E f [xB x] [.c (.int .i64 n), .ptr 0 0] (.tup [.c (.int .i64 y), .c (.int .i64 0)]) [xB x])
  (hs : Ok E 107 [] [.c (.int .i64 n), .c (.int .i64 y)] (.tup [.c (.int .i64 z), .c (.int .i64 ez)]) []) :
  Ok E 119 [mB R (s ++ [(n, true)]) at_ 0, xB x] [.ptr 0 0, .clos f [] [.p 1 0]] (.tup []) [mB R (s ++ [(z, true)]) at_ ez, xB x] := by
 refine Ok.enter hE Tryz.func119 rfl (by decide +kernel) (by kernel_rfl) rfl rfl (Nat.le_of_ble_eq_true rfl) rfl ?_
 refine .inl ⟨_, _, SCallR.of [0] (need_yes R (s ++ [(n, true)]) at_ 1 (by simp)) (Hand.of rfl rfl (by simp) rfl rfl) rfl rfl rfl, ?_⟩
 refine .inl ⟨_, _, SCallR.of [0] (take_ok s (n, true) _ _ _ (by omega)) (Hand.of rfl rfl (by simp) rfl rfl) rfl rfl rfl, ?_⟩
 refine .inl ⟨_, _, SCallR.of [1] hf (Hand.of rfl rfl (by simp) rfl rfl) rfl rfl rfl, ?_⟩
 refine ⟨_, eqT rfl, ?_⟩
 refine ⟨_, CallR.mk1 hs rfl rfl, ?_⟩
 refine .inl ⟨_, _, SCallR.of [0] (put_ok s (z, true) _ _ _ (by omega)) (Hand.of rfl rfl (by simp) rfl rfl) rfl rfl rfl, ?_⟩
 exact ⟨_, rfl, Wk.refl _, rfl, .cons (WkL.refl _) rfl (.cons (WkL.refl _) rfl (.nil _))⟩
theorem less1_ok (n : Int) (x : Ins) : Ok E 120 [xB x] [.c (.int .i64 n), .ptr 0 0] (.tup [.c (.int .i64 x.n), .c (.int .i64 0)]) [xB x] := by
 refine Ok.enter hE Tryz.func120 rfl (by decide +kernel) (by kernel_rfl) rfl rfl (Nat.le_of_ble_eq_true rfl) rfl ?_
 exact ⟨_, rfl, Wk.refl _, rfl, .cons (WkL.refl _) rfl (.nil _)⟩
theorem cut1_ok (n y e : Int) (x : Ins) (hp : Ok E 62 [] [.c (.int .i64 n), .c (.int .i64 x.n), .c (.bool false)] (.tup [.c (.int .i64 y), .c (.int .i64 e)]) []) : Ok E 121 [xB x] [.c (.int .i64 n), .ptr 0 0] (.tup [.c (.int .i64 y), .c (.int .i64 e)]) [xB x] := by
 refine Ok.enter hE Tryz.func121 rfl (by decide +kernel) (by kernel_rfl) rfl rfl (Nat.le_of_ble_eq_true rfl) rfl ?_
 refine ⟨_, CallR.mk1 hp rfl rfl, ?_⟩
 exact ⟨_, rfl, Wk.refl _, rfl, .cons (WkL.refl _) rfl (.nil _)⟩
theorem less_ok (R : List (List CV)) (s s' : List (Int × Bool)) (at_ e : Int) (x : Ins) (h : Ok E 119 [mB R s at_ 0, xB x] [.ptr 0 0, .clos 120 [] [.p 1 0]] (.tup []) [mB R s' at_ e, xB x]) : Ok E 80 [mB R s at_ 0] [.ptr 0 0, pIn x] (.tup []) [mB R s' at_ e] := by
 refine Ok.enter hE Tryz.func80 rfl (by decide +kernel) (by kernel_rfl) rfl rfl (Nat.le_of_ble_eq_true rfl) rfl ?_
 refine .inl ⟨_, _, SCallR.of [0, 1] h (Hand.of rfl rfl (by simp) rfl rfl) rfl rfl rfl, ?_⟩
 exact ⟨_, rfl, Wk.refl _, rfl, .cons (WkL.refl _) rfl (.nil _)⟩
theorem cut_ok (R : List (List CV)) (s s' : List (Int × Bool)) (at_ e : Int) (x : Ins) (h : Ok E 119 [mB R s at_ 0, xB x] [.ptr 0 0, .clos 121 [] [.p 1 0]] (.tup []) [mB R s' at_ e, xB x]) : Ok E 81 [mB R s at_ 0] [.ptr 0 0, pIn x] (.tup []) [mB R s' at_ e] := by
 refine Ok.enter hE Tryz.func81 rfl (by decide +kernel) (by kernel_rfl) rfl rfl (Nat.le_of_ble_eq_true rfl) rfl ?_
 refine .inl ⟨_, _, SCallR.of [0, 1] h (Hand.of rfl rfl (by simp) rfl rfl) rfl rfl rfl, ?_⟩
 exact ⟨_, rfl, Wk.refl _, rfl, .cons (WkL.refl _) rfl (.nil _)⟩
end Go.Proofs.YtgpkppohfodhdaaGreatDoor.Ru
namespace Go.Proofs.YtgpkppohfodhdaaGreatDoor.Ru
open Go Go.RowKit Go.Proofs.YtgpkppohfodhdaaGreatDoor.Pm
set_option linter.unusedVariables false
set_option linter.unusedSimpArgs false
set_option maxHeartbeats 4000000
set_option maxRecDepth 8000
theorem told_ok (R : List (List CV)) (s : List (Int × Bool)) (at_ e k : Int) (x : Ins) (r : Int × Bool) (e' : Int) (hv : Ok E 21 [] [.agg [.int .i64 k, .int .i64 x.n, .str x.nm, .row []], .c (.row R)] (.tup [.c (.int .i64 r.1), .c (.bool r.2), .c (.int .i64 e')]) []) :
  Ok E 118 [mB R s at_ e] [.ptr 0 0, .c (.int .i64 k), pIn x] (.tup []) [mB R (putS s r) at_ (putE s e)] := by
 refine Ok.enter hE Tryz.func118 rfl (by decide +kernel) (by kernel_rfl) rfl rfl (Nat.le_of_ble_eq_true rfl) rfl ?_
 refine ⟨_, CallR.mkW hv (.cons (Wk.aggC (.same (.same (.same (.row .nil))))) (.cons (Wk.refl _) .nil)) rfl rfl, ?_⟩
 refine .inl ⟨_, _, SCallR.of [0] (put_all R s at_ e r) (Hand.of rfl rfl (by simp) rfl rfl) rfl rfl rfl, ?_⟩
 exact ⟨_, rfl, Wk.refl _, rfl, .cons (WkL.refl _) rfl (.nil _)⟩
theorem push_ok (R : List (List CV)) (s : List (Int × Bool)) (at_ e : Int) (x : Ins) (r : Int × Bool) (h : Ok E 118 [mB R s at_ e] [.ptr 0 0, .c (.int .i64 4), pIn x] (.tup []) [mB R (putS s r) at_ (putE s e)]) : Ok E 76 [mB R s at_ e] [.ptr 0 0, pIn x] (.tup []) [mB R (putS s r) at_ (putE s e)] := by
 refine Ok.enter hE Tryz.func76 rfl (by decide +kernel) (by kernel_rfl) rfl rfl (Nat.le_of_ble_eq_true rfl) rfl ?_
 refine .inl ⟨_, _, SCallR.of [0] h (Hand.of rfl rfl (by simp) rfl rfl) rfl rfl rfl, ?_⟩
 exact ⟨_, rfl, Wk.refl _, rfl, .cons (WkL.refl _) rfl (.nil _)⟩
theorem lowest_ok (R : List (List CV)) (s : List (Int × Bool)) (at_ e : Int) (x : Ins) (r : Int × Bool) (h : Ok E 118 [mB R s at_ e] [.ptr 0 0, .c (.int .i64 1), pIn x] (.tup []) [mB R (putS s r) at_ (putE s e)]) : Ok E 77 [mB R s at_ e] [.ptr 0 0, pIn x] (.tup []) [mB R (putS s r) at_ (putE s e)] := by
 refine Ok.enter hE Tryz.func77 rfl (by decide +kernel) (by kernel_rfl) rfl rfl (Nat.le_of_ble_eq_true rfl) rfl ?_
 refine .inl ⟨_, _, SCallR.of [0] h (Hand.of rfl rfl (by simp) rfl rfl) rfl rfl rfl, ?_⟩
 exact ⟨_, rfl, Wk.refl _, rfl, .cons (WkL.refl _) rfl (.nil _)⟩
theorem second_ok (R : List (List CV)) (s : List (Int × Bool)) (at_ e : Int) (x : Ins) (r : Int × Bool) (h : Ok E 118 [mB R s at_ e] [.ptr 0 0, .c (.int .i64 2), pIn x] (.tup []) [mB R (putS s r) at_ (putE s e)]) : Ok E 78 [mB R s at_ e] [.ptr 0 0, pIn x] (.tup []) [mB R (putS s r) at_ (putE s e)] := by
 refine Ok.enter hE Tryz.func78 rfl (by decide +kernel) (by kernel_rfl) rfl rfl (Nat.le_of_ble_eq_true rfl) rfl ?_
 refine .inl ⟨_, _, SCallR.of [0] h (Hand.of rfl rfl (by simp) rfl rfl) rfl rfl rfl, ?_⟩
 exact ⟨_, rfl, Wk.refl _, rfl, .cons (WkL.refl _) rfl (.nil _)⟩
theorem from_ok (R : List (List CV)) (s : List (Int × Bool)) (at_ e : Int) (x : Ins) (r : Int × Bool) (h : Ok E 118 [mB R s at_ e] [.ptr 0 0, .c (.int .i64 3), pIn x] (.tup []) [mB R (putS s r) at_ (putE s e)]) : Ok E 79 [mB R s at_ e] [.ptr 0 0, pIn x] (.tup []) [mB R (putS s r) at_ (putE s e)] := by
 refine Ok.enter hE Tryz.func79 rfl (by decide +kernel) (by kernel_rfl) rfl rfl (Nat.le_of_ble_eq_true rfl) rfl ?_
 refine .inl ⟨_, _, SCallR.of [0] h (Hand.of rfl rfl (by simp) rfl rfl) rfl rfl rfl, ?_⟩
 exact ⟨_, rfl, Wk.refl _, rfl, .cons (WkL.refl _) rfl (.nil _)⟩
end Go.Proofs.YtgpkppohfodhdaaGreatDoor.Ru
namespace Go.Proofs.YtgpkppohfodhdaaGreatDoor.Ru
open Go Go.RowKit Go.Proofs.YtgpkppohfodhdaaGreatDoor.Pm Go.Proofs.YtgpkppohfodhdaaGreatDoor.Cd
set_option linter.unusedVariables false
set_option linter.unusedSimpArgs false
set_option maxHeartbeats 4000000
set_option maxRecDepth 100000
def waysL : List (Int × FuncId) := [(1, 76), (2, 77), (3, 78), (4, 79), (5, 80), (6, 81), (7, 82), (8, 83), (9, 84), (10, 85), (11, 86), (12, 87), (13, 88)]
theorem insF_run {w : World} {b B ck : Nat} {f : FuncId} {es : Array MapEntry} {k : Int} (hb : w.heap[B]? = some (.map es ck)) (hf : Instr.findNow (.int .i64) (.int .i64 k) es.toList 0 = some none) :
  (Instr.mapUpdate 90 (.map (some B)) (.int .i64 k) (.func (.func f) #[.pointer (some ⟨b, 0, none⟩)] #[])).run Tryz.prog w = .ok () { w with heap := w.heap.setIfInBounds B (.map (es.push ⟨.int .i64 k, .func (.func f) #[.pointer (some ⟨b, 0, none⟩)] #[], ck⟩) (ck + 1)) } := by
 have h1 := Tryz.underlying90
 have h2 := Tryz.underlying3
 have h3 : (Instr.checkKey false 10000 3 (.int .i64 k)).run Tryz.prog w = .ok () w := MapKept.run_checkKey (k := .int .i64 k) h2 rfl _ _
 simp [Instr.mapUpdate, run_underlying h1, MapKept.run_getObj_map hb, h3, MapKept.run_findKey h2 hf, MapKept.run_setObj_map _ hb, Result.andThen]
theorem list_mv {ops : Array Oper} {rest : List Oper} {o : Oper} {a : Act} {w : World} {Q : Exit → Act → World → Prop} {v : Value} {x : Operand} (hg : o.guard = none) (hop : o.op = .move x) (he : a.eval x = v)
  (h : wpList Tryz.prog ops Q rest (a.put o.dst v) w) : wpList Tryz.prog ops Q (o :: rest) a w := by
 refine wpList_plain hg fun K' hK' => ?_
 unfold Oper.wp
 simp [execOp, hop, he, Result.andThen]
 exact hK' _ _ h
theorem list_fn {ops : Array Oper} {rest : List Oper} {o : Oper} {a : Act} {w : World} {Q : Exit → Act → World → Prop} {v : Value} {x : Operand} {f : FuncId} (hg : o.guard = none) (hop : o.op = .makeFunc (.func f) #[x] #[]) (he : a.eval x = v)
  (h : wpList Tryz.prog ops Q rest (a.put o.dst (.func (.func f) #[v] #[])) w) : wpList Tryz.prog ops Q (o :: rest) a w := by
 refine wpList_plain hg fun K' hK' => ?_
 unfold Oper.wp
 simp [execOp, hop, he, Result.andThen]
 exact hK' _ _ h
theorem list_insF {ops : Array Oper} {rest : List Oper} {o : Oper} {a : Act} {w : World} {Q : Exit → Act → World → Prop} {m z : Operand} {k : Int} {f : FuncId} {b B ck : Nat} {es : Array MapEntry} (hg : o.guard = none) (hop : o.op = .insert 90 m (.const (.int .i64 k)) z)
  (hm : a.eval m = .map (some B)) (hz : a.eval z = .func (.func f) #[.pointer (some ⟨b, 0, none⟩)] #[]) (hb : w.heap[B]? = some (.map es ck)) (hf : Instr.findNow (.int .i64) (.int .i64 k) es.toList 0 = some none)
  (h : ∀ w', w'.heap[B]? = some (.map (es.push ⟨.int .i64 k, .func (.func f) #[.pointer (some ⟨b, 0, none⟩)] #[], ck⟩) (ck + 1)) → w.grownBy w' (some B) → wpList Tryz.prog ops Q rest (a.put o.dst undef) w') : wpList Tryz.prog ops Q (o :: rest) a w := by
 refine wpList_plain hg fun K' hK' => ?_
 unfold Oper.wp
 have e1 : a.eval (.const (.int .i64 k)) = .int .i64 k := rfl
 simp [execOp, hop, hm, e1, hz, insF_run hb hf, Result.andThen]
 exact hK' _ _ (h _ (MapKept.heap_set hb).1 ⟨rfl, rfl, rfl, by simp, fun i _ hi => (MapKept.heap_set hb).2 i (fun e => hi (by rw [e]))⟩)
theorem list_as {ops : Array Oper} {rest : List Oper} {o : Oper} {a : Act} {w : World} {Q : Exit → Act → World → Prop} {v : Value} {x : Operand} (hg : o.guard = none) (hop : o.op = .assign x) (he : a.eval x = v)
  (h : wpList Tryz.prog ops Q rest (a.put o.dst v) w) : wpList Tryz.prog ops Q (o :: rest) a w := by
 refine wpList_plain hg fun K' hK' => ?_
 unfold Oper.wp
 simp [execOp, hop, he, Result.andThen]
 exact hK' _ _ h
structure Wy (a : Act) (b B : Nat) : Prop where
 sz : a.tmps.size = 31
 p : a.tmps[0]? = some (.pointer (some ⟨b, 0, none⟩))
 m : a.tmps[3]? = some (.map (some B))
theorem Wy.put {a : Act} {b B t : Nat} {v : Value} (h : Wy a b B) (h0 : t ≠ 0) (h3 : t ≠ 3) : Wy (a.put (some t) v) b B := by
 refine ⟨by simp [Act.put, h.sz], ?_, ?_⟩
 ·simp [Act.put, Array.getElem?_setIfInBounds, h0, h.p]
 ·simp [Act.put, Array.getElem?_setIfInBounds, h3, h.m]
theorem put_at {a : Act} {t : Nat} {v : Value} (h : t < a.tmps.size) : (a.put (some t) v).eval (.tmp t) = v := by
 simp [Act.put, Act.eval, Array.getElem?_setIfInBounds, h]
theorem list_three {ops : Array Oper} {rest : List Oper} {o1 o2 o3 : Oper} {a : Act} {w : World} {Q : Exit → Act → World → Prop} {k : Int} {f : FuncId} {b B ck t1 t2 : Nat} {es : Array MapEntry} (W : Wy a b B)
  (g1 : o1.guard = none) (p1 : o1.op = .move (.tmp 0)) (d1 : o1.dst = some t1) (g2 : o2.guard = none) (p2 : o2.op = .makeFunc (.func f) #[.tmp t1] #[]) (d2 : o2.dst = some t2)
  (g3 : o3.guard = none) (p3 : o3.op = .insert 90 (.tmp 3) (.const (.int .i64 k)) (.tmp t2)) (d3 : o3.dst = none)
  (ht : t1 ≠ 0 ∧ t1 ≠ 3 ∧ t2 ≠ 0 ∧ t2 ≠ 3 ∧ t1 < 31 ∧ t2 < 31) (hb : w.heap[B]? = some (.map es ck)) (hf : Instr.findNow (.int .i64) (.int .i64 k) es.toList 0 = some none)
  (h : ∀ a' w', Wy a' b B → a'.defers = a.defers → w'.heap[B]? = some (.map (es.push ⟨.int .i64 k, .func (.func f) #[.pointer (some ⟨b, 0, none⟩)] #[], ck⟩) (ck + 1)) → w.grownBy w' (some B) → wpList Tryz.prog ops Q rest a' w') : wpList Tryz.prog ops Q (o1 :: o2 :: o3 :: rest) a w := by
 obtain ⟨h1, h2, h3, h4, h5, h6⟩ := ht
 refine list_mv g1 p1 (v := .pointer (some ⟨b, 0, none⟩)) (by simp [Act.eval, W.p]) ?_
 rw [d1]
 have W1 := W.put (v := .pointer (some ⟨b, 0, none⟩)) h1 h2
 refine list_fn g2 p2 (put_at (by rw [W.sz]; exact h5)) ?_
 rw [d2]
 have W2 := W1.put (v := .func (.func f) #[.pointer (some ⟨b, 0, none⟩)] #[]) h3 h4
 refine list_insF g3 p3 (B := B) (by simp [Act.eval, W2.m]) (put_at (by rw [W1.sz]; exact h6)) hb hf ?_
 intro w' hb' hg'
 rw [d3]
 exact h _ _ W2 rfl hb' hg'
theorem ways_walk (b : Nat) (w : World) (lb : b < w.heap.size) : Calls Tryz.prog 42 #[.pointer (some ⟨b, 0, none⟩)] w fun e w' => e = .returned (.map (some w.heap.size)) ∧ w'.heap[w.heap.size]? = some (.map (mcloE b waysL 0).toArray 13) ∧ (w.alloc (.map #[] 0)).grownBy w' (some w.heap.size) := by
 go_enter Tryz.func42, Tryz.ntmps42
 go_wp2
 rw [run_makeMap]
 simp only [Result.andThen]
 unfold Oper.upon
 simp only []
 rename_i K1 h1 K2 h2
 refine h2 _ _ ?_
 have b0 : (w.alloc (.map #[] 0)).heap[w.heap.size]? = some (.map #[] 0) := heap_alloc_new w _
 clear h2
 refine (?_ : ∀ a0 : Act, Wy a0 b w.heap.size → a0.defers = [] → wpList _ _ _ _ a0 _) _ ⟨rfl, rfl, rfl⟩ rfl
 intro a0 V0 D0
 refine list_three V0 rfl rfl rfl rfl rfl rfl rfl rfl rfl (by decide) b0 rfl ?_
 intro a1 w1 V1 D1 b1 g1
 refine list_three V1 rfl rfl rfl rfl rfl rfl rfl rfl rfl (by decide) b1 rfl ?_
 intro a2 w2 V2 D2 b2 g2
 refine list_three V2 rfl rfl rfl rfl rfl rfl rfl rfl rfl (by decide) b2 rfl ?_
 intro a3 w3 V3 D3 b3 g3
 refine list_three V3 rfl rfl rfl rfl rfl rfl rfl rfl rfl (by decide) b3 rfl ?_
 intro a4 w4 V4 D4 b4 g4
 refine list_three V4 rfl rfl rfl rfl rfl rfl rfl rfl rfl (by decide) b4 rfl ?_
 intro a5 w5 V5 D5 b5 g5
 refine list_three V5 rfl rfl rfl rfl rfl rfl rfl rfl rfl (by decide) b5 rfl ?_
 intro a6 w6 V6 D6 b6 g6
 refine list_three V6 rfl rfl rfl rfl rfl rfl rfl rfl rfl (by decide) b6 rfl ?_
 intro a7 w7 V7 D7 b7 g7
 refine list_three V7 rfl rfl rfl rfl rfl rfl rfl rfl rfl (by decide) b7 rfl ?_
 intro a8 w8 V8 D8 b8 g8
 refine list_three V8 rfl rfl rfl rfl rfl rfl rfl rfl rfl (by decide) b8 rfl ?_
 intro a9 w9 V9 D9 b9 g9
 refine list_three V9 rfl rfl rfl rfl rfl rfl rfl rfl rfl (by decide) b9 rfl ?_
 intro a10 w10 V10 D10 b10 g10
 refine list_three V10 rfl rfl rfl rfl rfl rfl rfl rfl rfl (by decide) b10 rfl ?_
 intro a11 w11 V11 D11 b11 g11
 refine list_three V11 rfl rfl rfl rfl rfl rfl rfl rfl rfl (by decide) b11 rfl ?_
 intro a12 w12 V12 D12 b12 g12
 refine list_three V12 rfl rfl rfl rfl rfl rfl rfl rfl rfl (by decide) b12 rfl ?_
 intro a13 w13 V13 D13 b13 g13
 have g : (w.alloc (.map #[] 0)).grownBy w13 (some w.heap.size) := ((((((((((((g1).trans g2).trans g3).trans g4).trans g5).trans g6).trans g7).trans g8).trans g9).trans g10).trans g11).trans g12).trans g13
 clear g1 g2 g3 g4 g5 g6 g7 g8 g9 g10 g11 g12 g13 b0 b1 b2 b3 b4 b5 b6 b7 b8 b9 b10 b11 b12
 refine list_mv rfl rfl (v := .map (some w.heap.size)) (by simp [Act.eval, V13.m]) ?_
 refine list_as rfl rfl (put_at (by rw [V13.sz]; decide)) ?_
 refine h1 _ _ ?_
 go_wp2
 refine bodyPost_ret (results_tmp rfl _ _ _) rfl ?_
 refine ⟨?_, b13, g⟩
 congr 1
 simp [V13.sz]
end Go.Proofs.YtgpkppohfodhdaaGreatDoor.Ru
namespace Go.Proofs.YtgpkppohfodhdaaGreatDoor.Pm
open Go Go.RowKit
set_option linter.unusedVariables false
set_option linter.unusedSimpArgs false
section
variable {E : Env} {B : Base} {H : List (List PV)} {m : List (Option Nat)} {tk : List TokR} {ok : Nat → Nat → Prop} {w : World}
theorem Mem.newStay (hE : EnvOK E) (M : Mem E B H m tk ok w) {w' : World} (g : w.grownBy w' none) (hs : w.heap.size < w'.heap.size) :
  Mem E B H m tk (fun b o => ok b o ∨ b = w.heap.size) w' ∧ Later w ok m tk w' (fun b o => ok b o ∨ b = w.heap.size) m tk := by
 have old : ∀ k, k < w.heap.size → w'.heap[k]? = w.heap[k]? := fun k hk => g.block k hk (by simp)
 have S : Stay w ok w' (fun b o => ok b o ∨ b = w.heap.size) := stay_of _ (fun k hk _ => old k hk) M.oks (fun b o h => .inl h)
 have L := Later.of_stay S m tk
 have hg := hE.glob w M.inv
 refine ⟨⟨M.inv_of hE (by omega) (fun b hb => old b (by omega)), g.os.trans M.os, g.tape.trans M.tape, g.output.trans M.output, by have := M.size; omega, fun k hk hn hn' => ?_, fun b o h => ?_, fun b o h => ?_, M.len, fun i b h => ?_, M.inj, fun t r h => ?_, M.tinj, M.gb, M.tsz, ?_⟩, L⟩
 ·rw [old k (by have := M.size; omega)]; exact M.frame k hk hn hn'
 ·rcases h with h | rfl
  ·exact M.okb b o h
  ·exact .inr M.size
 ·rcases h with h | rfl
  ·have := M.oks b o h; omega
  ·omega
 ·obtain ⟨cs, arr, ty, h1, h2, h3, h4, h5⟩ := M.box i b h
  have hb := blk_lt' h2
  refine ⟨cs, arr, ty, h1, by rw [old b hb]; exact h2, h3.mono fun _ _ h => h.later L, fun o hk => ?_, h5⟩
  rcases hk with hk | rfl
  ·exact h4 o hk
  ·omega
 ·refine (M.tok t r h).keep g (by simp) (fun g i hg hlt hn hk => ?_) (fun _ _ _ h => h)
  rcases hk with hk | hk
  ·exact hn hk
  ·omega
 ·refine M.stk.keep (fun i j v e xs h => ?_) S fun g hg h => ⟨old g hg, h.mono (fun o ho => ?_) (fun i hi => ⟨i, hi⟩) (fun t r hr hg => ⟨t, r, hr, hg⟩)⟩
  ·obtain ⟨b, cs, arr, ty, h1, h2, h3, h4, h5⟩ := h
   obtain ⟨_, _, _, -, g2, -⟩ := M.box i b h1
   exact ⟨b, cs, arr, ty, h1, h2, by rw [old b (blk_lt' g2)] at h3; exact h3, h4, h5⟩
  ·rcases ho with ho | rfl
   ·exact ho
   ·omega
end
end Go.Proofs.YtgpkppohfodhdaaGreatDoor.Pm
namespace Go.Proofs.YtgpkppohfodhdaaGreatDoor.Ru
open Go Go.RowKit Go.Proofs.YtgpkppohfodhdaaGreatDoor.Pm Go.Proofs.YtgpkppohfodhdaaGreatDoor.Cd
set_option linter.unusedVariables false
set_option linter.unusedSimpArgs false
theorem ways_ok (cs : List PV) : OkW E 42 [cs] [.ptr 0 0] (.mclo waysL 0) [cs] := by
 refine ⟨⟨_, Tryz.func42, by decide +kernel, by kernel_rfl⟩, fun w ok ms gs vals M hr => ?_⟩
 obtain ⟨b, rfl⟩ : ∃ b, ms = [b] := by
  have := M.len
  match ms, this with
  | [b], _ => exact ⟨b, rfl⟩
 obtain ⟨p0, hp⟩ : ∃ p0, vals.toList = [p0] := by
  have := hr.1
  generalize vals.toList = L at this
  match L, this with
  | [p0], _ => exact ⟨p0, rfl⟩
 rw [hp] at hr
 have hp0 : p0 = .pointer (some ⟨b, 0, none⟩) := by
  cases hr.head with
  | ptr _ _ b' hm => simp at hm; rw [hm]
 have hvals : vals = #[.pointer (some ⟨b, 0, none⟩)] := by
  apply Array.toList_inj.1
  rw [hp, hp0]
 obtain ⟨bs0, arr, ty, g1, g2, -⟩ := M.box 0 b rfl
 rw [hvals]
 refine (ways_walk b w (blk_lt' g2)).mono ?_
 rintro e w' ⟨rfl, hb, g⟩
 have hs : w.heap.size < w'.heap.size := by have := g.size; simp at this; omega
 have hf : ∀ k, k < w.heap.size → w'.heap[k]? = w.heap[k]? := fun k hk => (g.block k (by simp; omega) (by intro e; injection e with e; omega)).trans (Pm.alloc_old w _ k hk)
 have gn : w.grownBy w' none := ⟨g.os, g.tape, g.output, Nat.le_of_lt hs, fun k hk _ => hf k hk⟩
 obtain ⟨M', L⟩ := M.newStay hE gn hs
 exact ⟨_, fun b o => ok b o ∨ b = w.heap.size, [], rfl, by simpa using M', fun _ _ h => .inl h, .mclo waysL 0 b w.heap.size 13 rfl (.inr rfl) hb⟩
end Go.Proofs.YtgpkppohfodhdaaGreatDoor.Ru
namespace Go.Proofs.YtgpkppohfodhdaaGreatDoor.Ru
open Go Go.RowKit Go.Proofs.YtgpkppohfodhdaaGreatDoor.Pm Go.Proofs.YtgpkppohfodhdaaGreatDoor.Pl Go.Proofs.YtgpkppohfodhdaaGreatDoor.Va
set_option linter.unusedVariables false
set_option linter.unusedSimpArgs false
set_option maxHeartbeats 1000000
abbrev Ce := Int × Bool
inductive Stp where
 | er (e : Int)
 | go (t : List Ce) (a : Nat)
def amC : Am → Ce
 | .am n => (n, true)
 | _ => (0, false)
def putF (c : Ce) (t : List Ce) (a : Nat) : Stp := if 100 ≤ t.length then .er 100 else .go (c :: t) a
def amS (t : List Ce) (a : Nat) : Am → Stp
 | .am z => .go ((z, true) :: t) a
 | .er e => .er e
 | .no => .er 100
def minusF (by_ : Int → Am) : List Ce → Nat → Stp
 | [], _ => .er 100
 | (n, true) :: t, a => amS t a (lessF by_ (.am n))
 | (n, false) :: t, a => .go ((n, false) :: t) a
def twoF (of_ : Ce → Ce → Ce) : List Ce → Nat → Stp
 | y :: x :: t, a => .go (of_ x y :: t) a
 | _, _ => .er 100
def pairF (f : Int → Int → Int) (x y : Ce) : Ce := if (x.2 && y.2) = true then (f x.1 y.1, true) else (0, false)
def aboveC (x y : Ce) : Ce := (if (x.2 && y.2 && decide (x.1 > y.1)) = true then 1 else 0, true)
def otherF (n : Nat) : List Ce → Nat → Stp
 | [], _ => .er 100
 | c :: t, a => .go (if c.2 = true then c :: t else t) (if c.2 = true then n else a)
def unlessF (n : Nat) : List Ce → Nat → Stp
 | [], _ => .er 100
 | c :: t, a => .go t (if c.1 = 0 then n else a)
def stepF (R : List Of) (x : Ins) (t : List Ce) (a : Nat) : Stp :=
 if x.op = 1 then putF (x.n, true) t a
 else if x.op = 2 then putF (amC (rankF (prs R) 0)) t a
 else if x.op = 3 then putF (amC (rankF (prs R) 1)) t a
 else if x.op = 4 then putF (amC (fromF x.nm R)) t a
 else if x.op = 5 then minusF (fun _ => .am x.n) t a
 else if x.op = 6 then minusF (fun n => partF n x.n) t a
 else if x.op = 7 then twoF (pairF min) t a
 else if x.op = 8 then twoF (pairF max) t a
 else if x.op = 9 then otherF x.n.toNat t a
 else if x.op = 10 then putF (if decide ((R.length : Int) > x.n) = true then 1 else 0, true) t a
 else if x.op = 11 then twoF aboveC t a
 else if x.op = 12 then unlessF x.n.toNat t a
 else .go t x.n.toNat
def runF (R : List Of) (l : List Ins) : Nat → Nat → List Ce → List Ce × Int × Nat
 | 0, _, t => (t, 0, 0)
 | k + 1, a, t => match l[a]? with
  | none => (t, 0, 0)
  | some x => match stepF R x t (a + 1) with
   | .er e => (t, e, 1)
   | .go t' a' => match runF R l k a' t' with
    | (s, e, n) => (s, e, n + 1)
def endF (r : List Ce × Int × Nat) : Int := if r.2.1 = 0 ∧ r.1.length ≠ 1 then 100 else r.2.1
def tellR (R : List Of) (l : List Ins) : Ce × Int × Nat :=
 if rightO R = false then ((0, false), 1, 0) else if rightF l = false then ((0, false), 100, 0) else
  (if endF (runF R l l.length 0 []) = 0 then (runF R l l.length 0 []).1.headD (0, false) else (0, false), endF (runF R l l.length 0 []), (runF R l l.length 0 []).2.2)
structure Good (t : List Ce) : Prop where
 len : t.length ≤ 100
 cell : ∀ c ∈ t, -1000000000000 ≤ c.1 ∧ c.1 ≤ 1000000000000 ∧ (c.2 = false → c.1 = 0)
theorem Good.nil : Good [] := ⟨by simp, fun c h => by cases h⟩
theorem Good.tail {c : Ce} {t : List Ce} (h : Good (c :: t)) : Good t := ⟨by have := h.len; simp at this; omega, fun d hd => h.cell d (List.mem_cons_of_mem _ hd)⟩
theorem Good.head {c : Ce} {t : List Ce} (h : Good (c :: t)) : -1000000000000 ≤ c.1 ∧ c.1 ≤ 1000000000000 ∧ (c.2 = false → c.1 = 0) := h.cell c List.mem_cons_self
theorem Good.cons {c : Ce} {t : List Ce} (h : Good t) (hl : t.length < 100) (hc : -1000000000000 ≤ c.1 ∧ c.1 ≤ 1000000000000 ∧ (c.2 = false → c.1 = 0)) : Good (c :: t) :=
 ⟨by simp; omega, fun d hd => by
  rcases List.mem_cons.1 hd with rfl | hd
  ·exact hc
  ·exact h.cell d hd⟩
theorem put_good {c : Ce} {t t' : List Ce} {a a' : Nat} (hg : Good t) (hc : -1000000000000 ≤ c.1 ∧ c.1 ≤ 1000000000000 ∧ (c.2 = false → c.1 = 0)) (h : putF c t a = .go t' a') : Good t' ∧ a' = a := by
 unfold putF at h
 split at h
 ·cases h
 ·injection h with h1 h2
  subst h1; subst h2
  exact ⟨hg.cons (by omega) hc, rfl⟩
theorem minus_good {f : Int → Am} {t t' : List Ce} {a a' : Nat} (hf : ∀ n b, f n = .am b → ∃ c, subF n b = .am c ∧ -1000000000000 ≤ c ∧ c ≤ 1000000000000 ∨ subF n b = .er 10) (hg : Good t) (h : minusF f t a = .go t' a') : Good t' ∧ a' = a := by
 unfold minusF at h
 split at h
 ·cases h
 ·rename_i n t
  unfold lessF at h
  dsimp only at h
  cases hb : f n with
  | er e => rw [hb] at h; cases h
  | no => rw [hb] at h; cases h
  | am b =>
   rw [hb] at h
   dsimp only at h
   obtain ⟨c, ⟨hs, c0, c1⟩ | hs⟩ := hf n b hb
   ·rw [hs] at h
    injection h with h1 h2
    subst h1; subst h2
    exact ⟨hg.tail.cons (by have := hg.len; simp at this; omega) ⟨c0, c1, fun h => by cases h⟩, rfl⟩
   ·rw [hs] at h; cases h
 ·injection h with h1 h2
  subst h1; subst h2
  exact ⟨hg, rfl⟩
theorem two_good {f : Ce → Ce → Ce} {t t' : List Ce} {a a' : Nat} (hf : ∀ x y, Good [x] → Good [y] → Good [f x y]) (hg : Good t) (h : twoF f t a = .go t' a') : Good t' ∧ a' = a := by
 unfold twoF at h
 split at h
 ·rename_i y x t
  injection h with h1 h2
  subst h1; subst h2
  have one : ∀ {c : Ce} {t : List Ce}, Good (c :: t) → Good [c] := fun h => ⟨by simp, fun d hd => by simp at hd; subst hd; exact h.head⟩
  exact ⟨hg.tail.tail.cons (by have := hg.len; simp at this; omega) (hf x y (one hg.tail) (one hg)).head, rfl⟩
 ·cases h
theorem am_cell {r : Am} (h : AmR r) : -1000000000000 ≤ (amC r).1 ∧ (amC r).1 ≤ 1000000000000 ∧ ((amC r).2 = false → (amC r).1 = 0) := by
 cases r with
 | er e => exact ⟨show (-1000000000000 : Int) ≤ 0 by decide, show (0 : Int) ≤ 1000000000000 by decide, fun _ => rfl⟩
 | no => exact ⟨show (-1000000000000 : Int) ≤ 0 by decide, show (0 : Int) ≤ 1000000000000 by decide, fun _ => rfl⟩
 | am n => exact ⟨h.1, h.2, fun h => by cases h⟩
theorem pair_good {f : Int → Int → Int} (hf : ∀ a b, f a b = a ∨ f a b = b) (x y : Ce) (hx : Good [x]) (hy : Good [y]) : Good [pairF f x y] := by
 refine ⟨by simp, fun c hc => ?_⟩
 simp only [List.mem_cons, List.not_mem_nil, or_false] at hc
 subst hc
 unfold pairF
 split
 ·have := hx.head
  have := hy.head
  refine ⟨?_, ?_, fun h => by cases h⟩ <;> (dsimp only; rcases hf x.1 y.1 with h | h <;> omega)
 ·exact ⟨by decide, by decide, fun _ => rfl⟩
theorem above_good (x y : Ce) (hx : Good [x]) (hy : Good [y]) : Good [aboveC x y] := by
 refine ⟨by simp, fun c hc => ?_⟩
 simp only [List.mem_cons, List.not_mem_nil, or_false] at hc
 subst hc
 unfold aboveC
 refine ⟨?_, ?_, fun h => by cases h⟩ <;> (dsimp only; split <;> omega)
theorem ins_cases {x : Ins} {i : Nat} {z : Int} (hz : z ≤ 5000) (h : rightI x i z = true) : (x.op = 1 ∨ x.op = 2 ∨ x.op = 3 ∨ x.op = 4 ∨ x.op = 5 ∨ x.op = 6 ∨ x.op = 7 ∨ x.op = 8 ∨ x.op = 9 ∨ x.op = 10 ∨ x.op = 11 ∨ x.op = 12 ∨ x.op = 13) ∧ 0 ≤ x.n ∧ x.n ≤ 1000000000000 ∧ (x.op = 9 ∨ x.op = 12 ∨ x.op = 13 → (i : Int) < x.n ∧ x.n ≤ z) := by
 obtain ⟨h1, h2, h3, h4, -⟩ := right_facts hz h
 exact ⟨by omega, h3, h4, fun hl => lead_at h (lead_of.1 hl)⟩
theorem step_good {R : List Of} {x : Ins} {i : Nat} {z : Int} {t t' : List Ce} {a' : Nat} (hR : rightO R = true) (hz : z ≤ 5000) (hx : rightI x i z = true) (hi : (i : Int) < z) (hg : Good t) (h : stepF R x t (i + 1) = .go t' a') : Good t' ∧ i < a' ∧ (a' : Int) ≤ z := by
 obtain ⟨ho, n0, n1, hl⟩ := ins_cases hz hx
 have hofs : ∀ o ∈ R, 1 ≤ o.p ∧ o.p ≤ 1000000000000 := fun o ho => ⟨(offer_p hR ho).1, (offer_p hR ho).2.1⟩
 have fin : Good t' ∧ a' = i + 1 → Good t' ∧ i < a' ∧ (a' : Int) ≤ z := fun ⟨h1, h2⟩ => ⟨h1, by omega, by omega⟩
 unfold stepF at h
 rcases ho with e | e | e | e | e | e | e | e | e | e | e | e | e <;> rw [e] at h <;> simp only [reduceIte, Int.reduceEq] at h
 ·exact fin (put_good hg ⟨by dsimp only; omega, by dsimp only; omega, fun h => by cases h⟩ h)
 ·exact fin (put_good hg (am_cell (rank_r hR 0)) h)
 ·exact fin (put_good hg (am_cell (rank_r hR 1)) h)
 ·exact fin (put_good hg (am_cell (from_r hofs x.nm)) h)
 ·exact fin (minus_good (fun n b hb => by
   rcases subF_cases n b with ⟨c, h1, h2, h3⟩ | h1
   ·exact ⟨c, .inl ⟨h1, h2, h3⟩⟩
   ·exact ⟨0, .inr h1⟩) hg h)
 ·exact fin (minus_good (fun n b hb => by
   rcases subF_cases n b with ⟨c, h1, h2, h3⟩ | h1
   ·exact ⟨c, .inl ⟨h1, h2, h3⟩⟩
   ·exact ⟨0, .inr h1⟩) hg h)
 ·exact fin (two_good (pair_good min_or) hg h)
 ·exact fin (two_good (pair_good max_or) hg h)
 ·have := hl (.inl e)
  cases t with
  | nil => cases h
  | cons c t =>
   unfold otherF at h
   injection h with h1 h2
   subst h1; subst h2
   cases c.2 with
   | true => exact ⟨by rw [if_pos rfl]; exact hg, by rw [if_pos rfl]; omega, by rw [if_pos rfl]; omega⟩
   | false => exact ⟨by rw [if_neg (by simp)]; exact hg.tail, by rw [if_neg (by simp)]; omega, by rw [if_neg (by simp)]; omega⟩
 ·exact fin (put_good hg ⟨by dsimp only; split <;> omega, by dsimp only; split <;> omega, fun h => by cases h⟩ h)
 ·exact fin (two_good above_good hg h)
 ·have := hl (.inr (.inl e))
  cases t with
  | nil => cases h
  | cons c t =>
   unfold unlessF at h
   injection h with h1 h2
   subst h1; subst h2
   refine ⟨hg.tail, ?_, ?_⟩ <;> (split <;> omega)
 ·have := hl (.inr (.inr e))
  injection h with h1 h2
  subst h1; subst h2
  exact ⟨hg, by omega, by omega⟩
theorem minusF_err {f : Int → Am} {t : List Ce} {a : Nat} {e : Int} (hf : ∀ n e, f n = .er e → e = 10) (h : minusF f t a = .er e) : e = 100 ∨ e = 10 := by
 match t, h with
 | [], h => injection h with h; exact .inl h.symm
 | (n, false) :: t, h => cases h
 | (n, true) :: t, h =>
  replace h : amS t a (match f n with
   | .am b => subF n b
   | r => r) = .er e := h
  cases hb : f n with
  | er e' => rw [hb] at h; injection h with h; exact .inr (by rw [← h]; exact hf n e' hb)
  | no => rw [hb] at h; injection h with h; exact .inl h.symm
  | am b =>
   rw [hb] at h
   dsimp only at h
   rcases subF_cases n b with ⟨c, h1, -⟩ | h1
   ·rw [h1] at h; cases h
   ·rw [h1] at h; injection h with h; exact .inr h.symm
theorem step_err {R : List Of} {x : Ins} {t : List Ce} {a : Nat} {e : Int} (h : stepF R x t a = .er e) : e = 100 ∨ e = 10 := by
 have hput : ∀ {c : Ce}, putF c t a = .er e → e = 100 := fun {c} h => by
  unfold putF at h
  split at h
  ·injection h with h; exact h.symm
  ·cases h
 have htwo : ∀ {f : Ce → Ce → Ce}, twoF f t a = .er e → e = 100 := fun {f} h => by
  unfold twoF at h
  split at h
  ·cases h
  ·injection h with h; exact h.symm
 unfold stepF at h
 by_cases h1 : x.op = 1
 ·rw [if_pos h1] at h
  exact .inl (hput h)
 rw [if_neg h1] at h
 by_cases h2 : x.op = 2
 ·rw [if_pos h2] at h
  exact .inl (hput h)
 rw [if_neg h2] at h
 by_cases h3 : x.op = 3
 ·rw [if_pos h3] at h
  exact .inl (hput h)
 rw [if_neg h3] at h
 by_cases h4 : x.op = 4
 ·rw [if_pos h4] at h
  exact .inl (hput h)
 rw [if_neg h4] at h
 by_cases h5 : x.op = 5
 ·rw [if_pos h5] at h
  exact minusF_err (fun n e h => by cases h) h
 rw [if_neg h5] at h
 by_cases h6 : x.op = 6
 ·rw [if_pos h6] at h
  exact minusF_err (fun n e h => by
   rcases partF_cases n x.n with ⟨c, h1, -⟩ | h1
   ·rw [h1] at h; cases h
   ·rw [h1] at h; injection h with h; exact h.symm) h
 rw [if_neg h6] at h
 by_cases h7 : x.op = 7
 ·rw [if_pos h7] at h
  exact .inl (htwo h)
 rw [if_neg h7] at h
 by_cases h8 : x.op = 8
 ·rw [if_pos h8] at h
  exact .inl (htwo h)
 rw [if_neg h8] at h
 by_cases h9 : x.op = 9
 ·rw [if_pos h9] at h
  cases t with
  | nil => injection h with h; exact .inl h.symm
  | cons c t => cases h
 rw [if_neg h9] at h
 by_cases h10 : x.op = 10
 ·rw [if_pos h10] at h
  exact .inl (hput h)
 rw [if_neg h10] at h
 by_cases h11 : x.op = 11
 ·rw [if_pos h11] at h
  exact .inl (htwo h)
 rw [if_neg h11] at h
 by_cases h12 : x.op = 12
 ·rw [if_pos h12] at h
  cases t with
  | nil => injection h with h; exact .inl h.symm
  | cons c t => cases h
 rw [if_neg h12] at h
 cases h
def Fwd (R : List Of) (l : List Ins) : Prop := ∀ (i : Nat) (x : Ins) (t t' : List Ce) (a' : Nat), l[i]? = some x → Good t → stepF R x t (i + 1) = .go t' a' → Good t' ∧ i < a' ∧ a' ≤ l.length
theorem fwd_of {R : List Of} {l : List Ins} (hR : rightO R = true) (h : rightF l = true) : Fwd R l := by
 intro i x t t' a' hx hg hs
 unfold rightF at h
 rw [Bool.and_eq_true] at h
 have hz : l.length ≤ 5000 := of_decide_eq_true h.2
 have hi : i < l.length := (List.getElem?_eq_some_iff.1 hx).1
 have := right_at l 0 l.length h.1 i x hx
 rw [Nat.zero_add] at this
 obtain ⟨g1, g2, g3⟩ := step_good hR (by omega) this (by omega) hg hs
 exact ⟨g1, g2, by omega⟩
theorem run_more {R : List Of} {l : List Ins} (hF : Fwd R l) : ∀ (k k' a : Nat) (t : List Ce), Good t → l.length - a ≤ k → l.length - a ≤ k' → runF R l k a t = runF R l k' a t
 | 0, k', a, t, hg, h1, h2 => by
  have hn : l[a]? = none := List.getElem?_eq_none (by omega)
  cases k' with
  | zero => rfl
  | succ k' => rw [runF, runF, hn]
 | k + 1, 0, a, t, hg, h1, h2 => by
  have hn : l[a]? = none := List.getElem?_eq_none (by omega)
  rw [runF, runF, hn]
 | k + 1, k' + 1, a, t, hg, h1, h2 => by
  rw [runF, runF]
  cases hx : l[a]? with
  | none => rfl
  | some x =>
   dsimp only
   cases hs : stepF R x t (a + 1) with
   | er e => rfl
   | go t' a' =>
    obtain ⟨g1, g2, g3⟩ := hF a x t t' a' hx hg hs
    dsimp only
    rw [run_more hF k k' a' t' g1 (by omega) (by omega)]
inductive Reach (R : List Of) (l : List Ins) : Nat → List Ce → Nat → List Ce → Nat → Prop
 | refl (a : Nat) (t : List Ce) : Reach R l a t a t 0
 | step {a a' b n : Nat} {t t' u : List Ce} {x : Ins} (hx : l[a]? = some x) (hs : stepF R x t (a + 1) = .go t' a') (h : Reach R l a' t' b u n) : Reach R l a t b u (n + 1)
theorem Reach.trans {R : List Of} {l : List Ins} {a b c m n : Nat} {s t u : List Ce} (h : Reach R l a s b t m) (g : Reach R l b t c u n) : Reach R l a s c u (n + m) := by
 induction h with
 | refl => exact g
 | step hx hs _ ih => exact .step hx hs (ih g)
theorem Reach.one {R : List Of} {l : List Ins} {a b : Nat} {s t : List Ce} {x : Ins} (hx : l[a]? = some x) (hs : stepF R x s (a + 1) = .go t b) : Reach R l a s b t 1 := .step hx hs (.refl _ _)
theorem Reach.run {R : List Of} {l : List Ins} (hF : Fwd R l) {a b n : Nat} {s t : List Ce} (h : Reach R l a s b t n) (hg : Good s) : Good t ∧ runF R l (l.length - a) a s = ((runF R l (l.length - b) b t).1, (runF R l (l.length - b) b t).2.1, (runF R l (l.length - b) b t).2.2 + n) := by
 induction h with
 | refl => exact ⟨hg, rfl⟩
 | @step a a' b n t t' u x hx hs h ih =>
  obtain ⟨g1, g2, g3⟩ := hF a x t t' a' hx hg hs
  obtain ⟨h1, h2⟩ := ih g1
  refine ⟨h1, ?_⟩
  have hi : a < l.length := (List.getElem?_eq_some_iff.1 hx).1
  obtain ⟨k, hk⟩ : ∃ k, l.length - a = k + 1 := ⟨l.length - a - 1, by omega⟩
  rw [hk, runF, hx]
  dsimp only
  rw [hs]
  dsimp only
  rw [run_more hF k (l.length - a') a' t' g1 (by omega) (Nat.le_refl _), h2]
  rfl
def Errs (R : List Of) (l : List Ins) (a : Nat) (s : List Ce) (e : Int) : Prop := ∃ b t n x, Reach R l a s b t n ∧ l[b]? = some x ∧ stepF R x t (b + 1) = .er e
theorem Errs.step {R : List Of} {l : List Ins} {a b n : Nat} {s t : List Ce} {e : Int} (h : Reach R l a s b t n) (g : Errs R l b t e) : Errs R l a s e := by
 obtain ⟨c, u, m, x, g1, g2, g3⟩ := g
 exact ⟨c, u, _, x, h.trans g1, g2, g3⟩
theorem Errs.now {R : List Of} {l : List Ins} {a : Nat} {s : List Ce} {e : Int} {x : Ins} (hx : l[a]? = some x) (hs : stepF R x s (a + 1) = .er e) : Errs R l a s e := ⟨a, s, 0, x, .refl _ _, hx, hs⟩
theorem Errs.run {R : List Of} {l : List Ins} (hF : Fwd R l) {a : Nat} {s : List Ce} {e : Int} (h : Errs R l a s e) (hg : Good s) : (runF R l (l.length - a) a s).2.1 = e := by
 obtain ⟨b, t, n, x, h1, h2, h3⟩ := h
 obtain ⟨g1, g2⟩ := h1.run hF hg
 rw [g2]
 have hi : b < l.length := (List.getElem?_eq_some_iff.1 h2).1
 obtain ⟨k, hk⟩ : ∃ k, l.length - b = k + 1 := ⟨l.length - b - 1, by omega⟩
 rw [hk, runF, h2]
 dsimp only
 rw [h3]
theorem run_end {R : List Of} {l : List Ins} {k : Nat} {t : List Ce} : runF R l k l.length t = (t, 0, 0) := by
 cases k with
 | zero => rfl
 | succ k => rw [runF, List.getElem?_eq_none (Nat.le_refl _)]
theorem run_steps {R : List Of} {l : List Ins} : ∀ (k a : Nat) (t : List Ce), (runF R l k a t).2.2 ≤ k
 | 0, a, t => Nat.le_refl _
 | k + 1, a, t => by
  rw [runF]
  cases hx : l[a]? with
  | none => exact Nat.zero_le _
  | some x =>
   dsimp only
   cases hs : stepF R x t (a + 1) with
   | er e => dsimp only; omega
   | go t' a' => exact Nat.succ_le_succ (run_steps (R := R) (l := l) k a' t')
end Go.Proofs.YtgpkppohfodhdaaGreatDoor.Ru
namespace Go.Proofs.YtgpkppohfodhdaaGreatDoor.Ru
open Go Go.RowKit Go.Proofs.YtgpkppohfodhdaaGreatDoor.Pm Go.Proofs.YtgpkppohfodhdaaGreatDoor.Pl Go.Proofs.YtgpkppohfodhdaaGreatDoor.Va
set_option linter.unusedVariables false
set_option linter.unusedSimpArgs false
set_option maxHeartbeats 4000000
set_option maxRecDepth 8000
theorem lookM {n : Int} {f : FuncId} (h : ∀ b, ∃ i, Instr.findNow (.int .i64) (.int .i64 n) (mcloE b waysL 0).toArray.toList 0 = some (some (i, .func (.func f) #[.pointer (some ⟨b, 0, none⟩)] #[]))) : LookM E 90 waysL n f := by
 intro w g b ck hg
 obtain ⟨i, hi⟩ := h b
 obtain ⟨es, hes⟩ : ∃ es, (mcloE b waysL 0).toArray = es := ⟨_, rfl⟩
 rw [hes] at hg hi
 have h1 := Tryz.underlying90
 have h2 := Tryz.underlying3
 have h3 : (Instr.checkKey es.isEmpty 10000 3 (.int .i64 n)).run Tryz.prog w = .ok () w := MapKept.run_checkKey (k := .int .i64 n) h2 rfl _ _
 show (Instr.lookup 90 (.map (some g)) (.int .i64 n) false).run Tryz.prog w = _
 simp [Instr.lookup, run_underlying h1, MapKept.run_getObj_map hg, h3, MapKept.run_findKey h2 hi, Result.andThen]
theorem look1 : LookM E 90 waysL 1 76 := lookM fun b => ⟨_, rfl⟩
theorem look2 : LookM E 90 waysL 2 77 := lookM fun b => ⟨_, rfl⟩
theorem look3 : LookM E 90 waysL 3 78 := lookM fun b => ⟨_, rfl⟩
theorem look4 : LookM E 90 waysL 4 79 := lookM fun b => ⟨_, rfl⟩
theorem look5 : LookM E 90 waysL 5 80 := lookM fun b => ⟨_, rfl⟩
theorem look6 : LookM E 90 waysL 6 81 := lookM fun b => ⟨_, rfl⟩
theorem look7 : LookM E 90 waysL 7 82 := lookM fun b => ⟨_, rfl⟩
theorem look8 : LookM E 90 waysL 8 83 := lookM fun b => ⟨_, rfl⟩
theorem look9 : LookM E 90 waysL 9 84 := lookM fun b => ⟨_, rfl⟩
theorem look10 : LookM E 90 waysL 10 85 := lookM fun b => ⟨_, rfl⟩
theorem look11 : LookM E 90 waysL 11 86 := lookM fun b => ⟨_, rfl⟩
theorem look12 : LookM E 90 waysL 12 87 := lookM fun b => ⟨_, rfl⟩
theorem look13 : LookM E 90 waysL 13 88 := lookM fun b => ⟨_, rfl⟩
theorem leaf_right {k n : Int} {nm : ByteArray} (hk : (k = 1 ∧ n = 0) ∨ (k = 2 ∧ n = 0) ∨ (k = 3 ∧ n = 0) ∨ (k = 4 ∧ 0 ≤ n ∧ n ≤ 1000000000000)) (hn : isNamed k nm = true) : isRight ⟨k, n, nm, []⟩ = true := by
 have hf : isFine 32 false ⟨k, n, nm, []⟩ = true := by
  rw [isFine, fineL, hn]
  rcases hk with ⟨rfl, rfl⟩ | ⟨rfl, rfl⟩ | ⟨rfl, rfl⟩ | ⟨rfl, h0, h1⟩
  ·decide
  ·decide
  ·decide
  ·rw [show decide (¬ n < 0) = true from decide_eq_true (by omega), show decide (¬ n > (formP 4).2.1) = true from decide_eq_true (show ¬ n > 1000000000000 by omega)]
   decide
 obtain ⟨a, _, b, c, d⟩ := fine_facts _ 32 false hf
 have hs : size ⟨k, n, nm, []⟩ = 1 := by rw [size, sizeL]; rfl
 unfold isRight
 rw [hf, hs]
 rw [hs] at d
 rw [decide_eq_true (show (1 : Int) ≤ 2000 by decide), decide_eq_true (show (Q.txtE ⟨k, n, nm, []⟩).length ≤ 2000 by omega)]
 rfl
theorem leaf_rng {k n : Int} {nm : ByteArray} (h : I64 n) : Q.rngE ⟨k, n, nm, []⟩ = true := by
 rw [Q.rngE, Q.rngA, Bool.and_true]
 exact decide_eq_true ⟨h, by decide⟩
theorem amC_eq {r : Am} : (amN r, amB r) = amC r := by cases r <;> rfl
theorem leaf_ok {R : List Of} (hR : rightO R = true) {k n : Int} {nm : ByteArray} (hn : I64 n) (hr : isRight ⟨k, n, nm, []⟩ = true) {r : Am} (he : evalE R ⟨k, n, nm, []⟩ = r) : ∃ e', Ok E 21 [] [.agg [.int .i64 k, .int .i64 n, .str nm, .row []], .c (.row (rowO R))] (.tup [.c (.int .i64 (amC r).1), .c (.bool (amC r).2), .c (.int .i64 e')]) [] := by
 have h8 := (right_iff.1 hR).2.1
 have h := Eval_ok ⟨k, n, nm, []⟩ R (leaf_rng hn) (by rw [size, sizeL]; decide) (by omega)
 have ht : tellA ⟨k, n, nm, []⟩ R = r := by unfold tellA; rw [hR, hr, ← he]; rfl
 rw [ht] at h
 have hc : cellsE ⟨k, n, nm, []⟩ = [.int .i64 k, .int .i64 n, .str nm, .row []] := by rw [cellsE, encL]
 have hp : pE ⟨k, n, nm, []⟩ = .agg [.int .i64 k, .int .i64 n, .str nm, .row []] := congrArg PV.agg hc
 rw [hp] at h
 exact ⟨amE r, by rw [← amC_eq]; exact h⟩
def WayD (R : List Of) (x : Ins) (t : List Ce) (a : Nat) (f : FuncId) : Prop := ∃ s' a' e', Ok E f [mB (rowO R) t.reverse a 0] [.ptr 0 0, pIn x] (.tup []) [mB (rowO R) s' a' e'] ∧ match stepF R x t a with
 | .go t' b => s' = t'.reverse ∧ a' = (b : Int) ∧ e' = 0
 | .er e => e' = e
theorem way_put {R : List Of} {x : Ins} {t : List Ce} {a : Nat} {f : FuncId} {c : Ce} (h : Ok E f [mB (rowO R) t.reverse a 0] [.ptr 0 0, pIn x] (.tup []) [mB (rowO R) (putS t.reverse c) a (putE t.reverse 0)]) (hs : stepF R x t a = putF c t a) : WayD R x t a f := by
 refine ⟨_, _, _, h, ?_⟩
 rw [hs]
 unfold putF putS putE
 rw [List.length_reverse]
 by_cases hl : 100 ≤ t.length
 ·rw [if_pos hl, if_pos hl, if_pos hl]
 ·rw [if_neg hl, if_neg hl, if_neg hl]
  exact ⟨by simp, rfl, rfl⟩
theorem way_told {R : List Of} (hR : rightO R = true) {x : Ins} {t : List Ce} {a : Nat} {f : FuncId} {k : Int} {r : Am} (hn : I64 x.n) (hr : isRight ⟨k, x.n, x.nm, []⟩ = true) (he : evalE R ⟨k, x.n, x.nm, []⟩ = r)
  (hf : ∀ c : Ce, Ok E 118 [mB (rowO R) t.reverse a 0] [.ptr 0 0, .c (.int .i64 k), pIn x] (.tup []) [mB (rowO R) (putS t.reverse c) a (putE t.reverse 0)] → Ok E f [mB (rowO R) t.reverse a 0] [.ptr 0 0, pIn x] (.tup []) [mB (rowO R) (putS t.reverse c) a (putE t.reverse 0)])
  (hs : stepF R x t a = putF (amC r) t a) : WayD R x t a f := by
 obtain ⟨e', h⟩ := leaf_ok hR hn hr he
 exact way_put (hf _ (told_ok (rowO R) t.reverse a 0 k x (amC r) e' h)) hs
theorem way_minus {R : List Of} {x : Ins} {t : List Ce} {a : Nat} {f g : FuncId} {by_ : Int → Am} (hg : Good t) (hg1 : ∀ n, -1000000000000 ≤ n → n ≤ 1000000000000 → Ok E g [xB x] [.c (.int .i64 n), .ptr 0 0] (.tup [.c (.int .i64 (amN (by_ n))), .c (.int .i64 (amE (by_ n)))]) [xB x])
  (hb : ∀ n, -1000000000000 ≤ n → n ≤ 1000000000000 → (∃ b, by_ n = .am b ∧ -1000000000000 ≤ b ∧ b ≤ 1000000000000) ∨ by_ n = .er 10)
  (hf : ∀ s s' at_ e, Ok E 119 [mB (rowO R) s at_ 0, xB x] [.ptr 0 0, .clos g [] [.p 1 0]] (.tup []) [mB (rowO R) s' at_ e, xB x] → Ok E f [mB (rowO R) s at_ 0] [.ptr 0 0, pIn x] (.tup []) [mB (rowO R) s' at_ e])
  (hs : stepF R x t a = minusF by_ t a) : WayD R x t a f := by
 match t, hg, hs with
 | [], hg, hs =>
  refine ⟨_, _, _, hf _ _ _ _ (minus_no (rowO R) _ a x g rfl), ?_⟩
  rw [hs]; rfl
 | (n, false) :: t, hg, hs =>
  have hl := hg.len
  have h := minus_none (rowO R) t.reverse a n x g (by simp at hl ⊢; omega)
  refine ⟨_, _, _, by rw [List.reverse_cons]; exact hf _ _ _ _ h, ?_⟩
  rw [hs]
  exact ⟨by simp, rfl, rfl⟩
 | (n, true) :: t, hg, hs =>
  have hl := hg.len
  have hl' : t.reverse.length < 100 := by simp at hl ⊢; omega
  obtain ⟨n0, n1, -⟩ := hg.head
  dsimp only at n0 n1
  have h1 := hg1 n n0 n1
  unfold WayD
  rw [hs, List.reverse_cons]
  show ∃ s' a' e', _ ∧ match amS t a (lessF by_ (.am n)) with
   | .go t' b => s' = t'.reverse ∧ a' = (b : Int) ∧ e' = 0
   | .er e => e' = e
  rcases hb n n0 n1 with ⟨b, hb, b0, b1⟩ | hb
  ·rw [hb] at h1
   have hS := Sub_ok n b n0 n1 b0 b1
   have hl2 : lessF by_ (.am n) = subF n b := by unfold lessF; dsimp only; rw [hb]
   rw [hl2]
   rcases subF_cases n b with ⟨c, hc, -⟩ | hc
   ·rw [hc] at hS ⊢
    exact ⟨_, _, _, hf _ _ _ _ (minus_sub (rowO R) t.reverse a n b c 0 x g hl' h1 hS), by simp, rfl, rfl⟩
   ·rw [hc] at hS ⊢
    exact ⟨_, _, _, hf _ _ _ _ (minus_sub (rowO R) t.reverse a n b 0 10 x g hl' h1 hS), rfl⟩
  ·rw [hb] at h1
   have hl2 : lessF by_ (.am n) = .er 10 := by unfold lessF; dsimp only; rw [hb]
   rw [hl2]
   exact ⟨_, _, _, hf _ _ _ _ (minus_err (rowO R) t.reverse a n 0 10 x g hl' h1 (by decide)), rfl⟩
theorem way_two {R : List Of} {x : Ins} {t : List Ce} {a : Nat} {f : FuncId} {of_ : Ce → Ce → Ce} (hg : Good t)
  (h0 : ∀ s : List Ce, s.length < 2 → Ok E f [mB (rowO R) s a 0] [.ptr 0 0, pIn x] (.tup []) [mB (rowO R) s a 100])
  (h1 : ∀ (s : List Ce) (u v : Ce), s.length < 99 → Ok E f [mB (rowO R) (s ++ [u] ++ [v]) a 0] [.ptr 0 0, pIn x] (.tup []) [mB (rowO R) (s ++ [of_ u v]) a 0])
  (hs : stepF R x t a = twoF of_ t a) : WayD R x t a f := by
 match t, hg, hs with
 | [], hg, hs => exact ⟨_, _, _, h0 _ (by decide), by rw [hs]; rfl⟩
 | [c], hg, hs => exact ⟨_, _, _, h0 _ (by simp), by rw [hs]; rfl⟩
 | v :: u :: t, hg, hs =>
  have hl := hg.len
  unfold WayD
  rw [hs, List.reverse_cons, List.reverse_cons]
  exact ⟨_, _, _, h1 t.reverse u v (by simp at hl ⊢; omega), by simp, rfl, rfl⟩
theorem nm_of {x : Ins} {k : Int} (hk : k ≠ 3) (h : x.nm.toList = (⟨#[]⟩ : ByteArray).toList) : isNamed k x.nm = true := by
 unfold isNamed
 rw [if_neg hk, h]
 exact beq_self_eq_true _
theorem cut_rng {x : Ins} {i : Nat} {z : Int} (h : rightI x i z = true) (h6 : x.op = 6) : x.n ≤ 100000 := by
 unfold rightI endsF at h
 rw [h6] at h
 by_cases hn : x.n > 100000
 ·rw [if_pos (by simp; omega)] at h; cases h
 ·omega
theorem way_ok {R : List Of} {x : Ins} {i : Nat} {z : Int} {t : List Ce} (hR : rightO R = true) (hz : z ≤ 5000) (hx : rightI x i z = true) (hg : Good t) (a : Nat) : ∃ f, LookM E 90 waysL x.op f ∧ WayD R x t a f := by
 obtain ⟨ho, n0, n1, hl⟩ := ins_cases hz hx
 obtain ⟨-, -, -, -, f5, f6, f7⟩ := right_facts hz hx
 have hI : I64 x.n := ⟨by omega, by omega⟩
 obtain ⟨op, n, nm⟩ := x
 dsimp only at ho n0 n1 hl f5 f6 f7 hI
 rcases ho with rfl | rfl | rfl | rfl | rfl | rfl | rfl | rfl | rfl | rfl | rfl | rfl | rfl
 ·exact ⟨_, look1, way_told hR hI (leaf_right (.inr (.inr (.inr ⟨rfl, n0, n1⟩))) (nm_of (x := ⟨1, n, nm⟩) (by decide) (f7 (by decide)))) ev4 (fun c h => push_ok _ _ _ _ _ c h) rfl⟩
 ·obtain rfl := f5 rfl
  exact ⟨_, look2, way_told hR hI (leaf_right (.inl ⟨rfl, rfl⟩) (nm_of (x := ⟨2, 0, nm⟩) (by decide) (f7 (by decide)))) ev1 (fun c h => lowest_ok _ _ _ _ _ c h) rfl⟩
 ·obtain rfl := f5 rfl
  exact ⟨_, look3, way_told hR hI (leaf_right (.inr (.inl ⟨rfl, rfl⟩)) (nm_of (x := ⟨3, 0, nm⟩) (by decide) (f7 (by decide)))) ev2 (fun c h => second_ok _ _ _ _ _ c h) rfl⟩
 ·obtain rfl := f5 rfl
  exact ⟨_, look4, way_told hR hI (leaf_right (.inr (.inr (.inl ⟨rfl, rfl⟩))) (by unfold isNamed; rw [if_pos rfl]; exact f6 rfl)) ev3 (fun c h => from_ok _ _ _ _ _ c h) rfl⟩
 ·exact ⟨_, look5, way_minus (by_ := fun _ => .am n) hg (fun m _ _ => less1_ok m ⟨5, n, nm⟩) (fun m _ _ => .inl ⟨n, rfl, by omega, n1⟩) (fun s s' at_ e h => less_ok _ s s' at_ e _ h) rfl⟩
 ·have n6 := cut_rng hx rfl
  exact ⟨_, look6, way_minus (by_ := fun m => partF m n) hg (fun m m0 m1 => cut1_ok m _ _ ⟨6, n, nm⟩ (Part_ok m n m0 m1 n0 n6)) (fun m _ _ => partF_cases m n) (fun s s' at_ e h => cut_ok _ s s' at_ e _ h) rfl⟩
 ·exact ⟨_, look7, way_two (of_ := pairF min) hg (fun s h => lesser_ok _ s s _ _ _ (both_no _ s _ _ h)) (fun s u v h => lesser_ok _ _ _ _ _ _ (both_ok _ s _ _ min lesser1_ok u v h)) rfl⟩
 ·exact ⟨_, look8, way_two (of_ := pairF max) hg (fun s h => greater_ok _ s s _ _ _ (both_no _ s _ _ h)) (fun s u v h => greater_ok _ _ _ _ _ _ (both_ok _ s _ _ max greater1_ok u v h)) rfl⟩
 ·refine ⟨_, look9, ?_⟩
  obtain ⟨h1, -⟩ := hl (.inl rfl)
  match t, hg with
  | [], hg => exact ⟨_, _, _, other_no _ _ _ _ rfl, rfl⟩
  | c :: t, hg =>
   have hlen := hg.len
   unfold WayD
   rw [List.reverse_cons]
   refine ⟨_, _, _, other_ok (rowO R) t.reverse a _ c (by simp at hlen ⊢; omega), ?_⟩
   show _ ∧ _ ∧ _
   obtain ⟨m, b⟩ := c
   cases b with
   | true => exact ⟨by simp, by simp; omega, rfl⟩
   | false => exact ⟨by simp, by simp, rfl⟩
 ·exact ⟨_, look10, way_put (by have h := more_ok (rowO R) t.reverse a 0 ⟨10, n, nm⟩; rw [rowO_len] at h; exact h) rfl⟩
 ·exact ⟨_, look11, way_two (of_ := aboveC) hg (fun s h => above_no _ s _ _ h) (fun s u v h => above_ok _ s _ _ u v h) rfl⟩
 ·refine ⟨_, look12, ?_⟩
  obtain ⟨h1, -⟩ := hl (.inr (.inl rfl))
  match t, hg with
  | [], hg => exact ⟨_, _, _, unless_no _ _ _ _ rfl, rfl⟩
  | c :: t, hg =>
   have hlen := hg.len
   unfold WayD
   rw [List.reverse_cons]
   refine ⟨_, _, _, unless_ok (rowO R) t.reverse a _ c (by simp at hlen ⊢; omega), ?_⟩
   show _ ∧ _ ∧ _
   refine ⟨rfl, ?_, rfl⟩
   dsimp only
   split <;> omega
 ·refine ⟨_, look13, _, _, _, jump_ok _ _ _ _ _, ?_⟩
  obtain ⟨h1, -⟩ := hl (.inr (.inr rfl))
  exact ⟨rfl, by dsimp only; omega, rfl⟩
end Go.Proofs.YtgpkppohfodhdaaGreatDoor.Ru
namespace Go.Proofs.YtgpkppohfodhdaaGreatDoor.Ru
open Go Go.RowKit Go.Proofs.YtgpkppohfodhdaaGreatDoor.Pm Go.Proofs.YtgpkppohfodhdaaGreatDoor.Pl Go.Proofs.YtgpkppohfodhdaaGreatDoor.Va
set_option linter.unusedVariables false
set_option linter.unusedSimpArgs false
set_option maxHeartbeats 4000000
set_option maxRecDepth 8000
def WayP (R : List Of) (x : Ins) (t : List Ce) (a : Nat) (p : List Ce × Int) : Prop := ∃ f e', LookM E 90 waysL x.op f ∧ Ok E f [mB (rowO R) t.reverse a 0] [.ptr 0 0, pIn x] (.tup []) [mB (rowO R) p.1 p.2 e'] ∧ match stepF R x t a with
 | .go t' b => p.1 = t'.reverse ∧ p.2 = (b : Int) ∧ e' = 0
 | .er e => e' = e
noncomputable def wayS (R : List Of) (x : Ins) (t : List Ce) (a : Nat) : List Ce × Int := Classical.epsilon (WayP R x t a)
theorem way_s {R : List Of} {x : Ins} {i : Nat} {z : Int} {t : List Ce} (hR : rightO R = true) (hz : z ≤ 5000) (hx : rightI x i z = true) (hg : Good t) (a : Nat) : WayP R x t a (wayS R x t a) := by
 obtain ⟨f, h1, s', a', e', h2, h3⟩ := way_ok hR hz hx hg a
 exact Classical.epsilon_spec ⟨(s', a'), f, e', h1, h2, h3⟩
noncomputable def endS (R : List Of) (l : List Ins) : Nat → Nat → List Ce → List Ce
 | 0, _, t => t.reverse
 | k + 1, a, t => match l[a]? with
  | none => t.reverse
  | some x => match stepF R x t (a + 1) with
   | .er e => (wayS R x t (a + 1)).1
   | .go t' a' => endS R l k a' t'
theorem end_ok {R : List Of} {l : List Ins} : ∀ (k a : Nat) (t : List Ce), (runF R l k a t).2.1 = 0 → endS R l k a t = (runF R l k a t).1.reverse
 | 0, a, t, _ => rfl
 | k + 1, a, t, h => by
  rw [runF] at h ⊢
  rw [endS]
  cases hx : l[a]? with
  | none => rfl
  | some x =>
   rw [hx] at h
   dsimp only at h ⊢
   cases hs : stepF R x t (a + 1) with
   | er e =>
    rw [hs] at h
    have := step_err hs
    dsimp only at h
    omega
   | go t' a' =>
    rw [hs] at h
    exact end_ok k a' t' h
theorem end_more {R : List Of} {l : List Ins} (hF : Fwd R l) : ∀ (k k' a : Nat) (t : List Ce), Good t → l.length - a ≤ k → l.length - a ≤ k' → endS R l k a t = endS R l k' a t
 | 0, k', a, t, hg, h1, h2 => by
  have hn : l[a]? = none := List.getElem?_eq_none (by omega)
  cases k' with
  | zero => rfl
  | succ k' => rw [endS, endS, hn]
 | k + 1, 0, a, t, hg, h1, h2 => by
  have hn : l[a]? = none := List.getElem?_eq_none (by omega)
  rw [endS, endS, hn]
 | k + 1, k' + 1, a, t, hg, h1, h2 => by
  rw [endS, endS]
  cases hx : l[a]? with
  | none => rfl
  | some x =>
   dsimp only
   cases hs : stepF R x t (a + 1) with
   | er e => rfl
   | go t' a' =>
    obtain ⟨g1, g2, g3⟩ := hF a x t t' a' hx hg hs
    exact end_more hF k k' a' t' g1 (by omega) (by omega)
structure Rnd (R : List Of) (l : List Ins) (eF : Int) (sF : List Ce) (nF : Nat) (s : List Ce) (at_ e : Int) (n : Nat) : Prop where
 h : (∃ (t : List Ce) (a : Nat), s = t.reverse ∧ at_ = a ∧ e = 0 ∧ Good t ∧ a ≤ l.length ∧ (runF R l (l.length - a) a t).2.1 = eF ∧ (runF R l (l.length - a) a t).2.2 + n = nF ∧ endS R l (l.length - a) a t = sF) ∨ (e ≠ 0 ∧ e = eF ∧ n = nF ∧ s = sF)
theorem Rnd.step {R : List Of} {l : List Ins} {eF : Int} {sF : List Ce} {nF n a : Nat} {t : List Ce} {x : Ins} {s' : List Ce} {a' e' : Int} (hF : Fwd R l) (hg : Good t) (ha : l[a]? = some x) (h1 : (runF R l (l.length - a) a t).2.1 = eF) (h2 : (runF R l (l.length - a) a t).2.2 + n = nF) (h3 : endS R l (l.length - a) a t = sF)
  (hw : match stepF R x t (a + 1) with
   | .go t' b => s' = t'.reverse ∧ a' = (b : Int) ∧ e' = 0
   | .er e => e' = e) (hs : s' = (wayS R x t (a + 1)).1) : Rnd R l eF sF nF s' a' e' (n + 1) ∧ (e' = 0 → (a : Int) < a') := by
 have hi : a < l.length := (List.getElem?_eq_some_iff.1 ha).1
 obtain ⟨k, hk⟩ : ∃ k, l.length - a = k + 1 := ⟨l.length - a - 1, by omega⟩
 rw [hk, runF, ha] at h1 h2
 rw [hk, endS, ha] at h3
 dsimp only at h1 h2 h3
 cases hst : stepF R x t (a + 1) with
 | er e =>
  rw [hst] at h1 h2 h3 hw
  dsimp only at h1 h2 h3 hw
  have := step_err hst
  subst hw
  exact ⟨⟨.inr ⟨by omega, h1, by omega, by rw [hs]; exact h3⟩⟩, fun h => by omega⟩
 | go t' b =>
  rw [hst] at h1 h2 h3 hw
  dsimp only at h1 h2 h3 hw
  obtain ⟨g1, g2, g3⟩ := hF a x t t' b ha hg hst
  obtain ⟨w1, w2, w3⟩ := hw
  rw [run_more hF k (l.length - b) b t' g1 (by omega) (Nat.le_refl _)] at h1 h2
  rw [end_more hF k (l.length - b) b t' g1 (by omega) (Nat.le_refl _)] at h3
  replace h2 : (runF R l (l.length - b) b t').2.2 + 1 + n = nF := h2
  exact ⟨⟨.inl ⟨t', b, w1, w2, w3, g1, g3, h1, by omega, h3⟩⟩, fun _ => by omega⟩
theorem StkOK.nil1 (p : PV) (e : Nat) (cs : List PV) : StkOK (p :: .c .nil :: cs) (p :: .stk e [] :: cs) := by
 intro j q hj hs
 match j, hj with
 | 0, hj => exact .inl hj
 | 1, hj => exact .inr ⟨rfl, e, by simpa using hj.symm⟩
 | j + 2, hj => exact .inl hj
theorem Wk.tup3 {p q r s : PV} (h : Wk p q) : Wk (.tup [p, r, s]) (.tup [q, r, s]) := by
 intro w ok m tk v hv
 cases hv with
 | tup cs _ hl hg =>
  refine .tup cs _ hl fun i u d hu hd => ?_
  match i, hd with
  | 0, hd => injection hd with hd; subst hd; exact h _ _ _ _ _ (hg 0 u p hu rfl)
  | i + 1, hd => exact hg (i + 1) u d hu hd
theorem play_ok (l : List Ins) (R : List Of) (hl : l.length ≤ 4611686018427387000) (hR8 : R.length ≤ 17592186043904) : ∃ s, Ok E 25 [] [.c (.row (rowI l)), .c (.row (rowO R))] (.tup [.c (.row (rowP s)), pI (tellR R l).2.1, pI (tellR R l).2.2]) [] ∧ ((tellR R l).2.1 = 0 → s = [(tellR R l).1]) := by
 have gV := vRight_ok R hR8
 have gC := Right10_ok l hl
 unfold tellR
 rcases Bool.eq_false_or_eq_true (rightO R) with hR | hR
 rotate_left
 ·rw [hR, if_pos rfl]
  rw [hR] at gV
  refine ⟨[], ?_, fun h => by cases h⟩
  refine Ok.enter hE Tryz.func25 rfl (by decide +kernel) (by kernel_rfl) rfl rfl (Nat.le_of_ble_eq_true rfl) rfl ?_
  refine ⟨_, CallR.mk1 gV rfl rfl, ?_⟩
  exact ⟨_, rfl, Wk.tup3 Wk.nilRow, rfl, .nil _⟩
 rw [hR, if_neg (by simp)]
 rw [hR] at gV
 rcases Bool.eq_false_or_eq_true (rightF l) with hC | hC
 rotate_left
 ·rw [hC, if_pos rfl]
  rw [hC] at gC
  refine ⟨[], ?_, fun h => by cases h⟩
  refine Ok.enter hE Tryz.func25 rfl (by decide +kernel) (by kernel_rfl) rfl rfl (Nat.le_of_ble_eq_true rfl) rfl ?_
  refine ⟨_, CallR.mk1 gV rfl rfl, ?_⟩
  refine ⟨_, CallR.mk1 gC rfl rfl, ?_⟩
  exact ⟨_, rfl, Wk.tup3 Wk.nilRow, rfl, .nil _⟩
 rw [hC, if_neg (by simp)]
 rw [hC] at gC
 have hF := fwd_of hR hC
 have h5 : l.length ≤ 5000 ∧ rightL l 0 l.length = true := by
  unfold rightF at hC
  rw [Bool.and_eq_true] at hC
  exact ⟨of_decide_eq_true hC.2, hC.1⟩
 obtain ⟨eF, heF⟩ : ∃ eF, (runF R l l.length 0 []).2.1 = eF := ⟨_, rfl⟩
 obtain ⟨nF, hnF⟩ : ∃ nF, (runF R l l.length 0 []).2.2 = nF := ⟨_, rfl⟩
 obtain ⟨sF, hsF⟩ : ∃ sF, endS R l l.length 0 [] = sF := ⟨_, rfl⟩
 have hnl : nF ≤ l.length := by rw [← hnF]; exact run_steps _ _ _
 have hend := end_ok (R := R) (l := l) l.length 0 []
 rw [heF, hsF] at hend
 have hE1 : endF (runF R l l.length 0 []) = if eF = 0 ∧ sF.length ≠ 1 then 100 else eF := by
  unfold endF
  rw [heF]
  by_cases h0 : eF = 0
  ·rw [hend h0, List.length_reverse]
  ·rw [if_neg (fun h => h0 h.1), if_neg (fun h => h0 h.1)]
 have hT : (if eF = 0 ∧ sF.length ≠ 1 then (100 : Int) else eF) = 0 → sF = [(runF R l l.length 0 []).1.headD (0, false)] := by
  intro h
  by_cases h0 : eF = 0 ∧ sF.length ≠ 1
  ·rw [if_pos h0] at h; cases h
  ·rw [if_neg h0] at h
   have e1 := hend h
   have hl1 : sF.length = 1 := by
    by_cases h1 : sF.length = 1
    ·exact h1
    ·exact absurd ⟨h, h1⟩ h0
   generalize (runF R l l.length 0 []).1 = u at e1
   rw [e1, List.length_reverse] at hl1
   match u, hl1 with
   | [c], _ => rw [e1]; rfl
 rw [hE1, hnF]
 refine ⟨sF, ?_, fun h => by dsimp only at h ⊢; rw [if_pos h]; exact hT h⟩
 dsimp only
 have hrl := rowI_len l
 have hrp := rowP_len sF
 have hR0 : Rnd R l eF sF nF [] 0 0 0 := ⟨.inl ⟨[], 0, rfl, rfl, rfl, Good.nil, Nat.zero_le _, heF, hnF, hsF⟩⟩
 clear heF hnF hsF hE1 hT hend
 refine Ok.enterG hE 8 Tryz.func25 rfl (by decide +kernel) (by kernel_rfl) (by kernel_rfl) rfl rfl rfl (Nat.le_of_ble_eq_true rfl) rfl ?_
 refine ⟨_, CallR.mk1 gV rfl rfl, ?_⟩
 refine ⟨_, CallR.mk1 gC rfl rfl, ?_⟩
 refine .inr (.inr (.inr (.inl ⟨_, _, ⟨[mB (rowO R) [] 0 0], [.ptr 0 0], .cons (.cons (Wk.refl _) (.cons (Wk.nilStk _) (WkL.refl _))) .nil (StkOK.nil1 _ _ _), rfl, WkL.refl _, rfl, ways_ok _, rfl, rfl⟩, ?_⟩)))
 refine Loop.cut (α := List Ce × Int × Int × Nat) (fun p => Rnd R l eF sF nF p.1 p.2.1 p.2.2.1 p.2.2.2) (fun p => [(0, .c (.row (rowI l))), (7, .ptr 0 0), (8, .mclo waysL 0), (9, pI p.2.2.2)]) (fun p => [mB (rowO R) p.1 p.2.1 p.2.2.1]) (fun _ => []) (fun p => if p.2.2.1 = 0 then 1 + (l.length - p.2.1.toNat) else 0) ([], 0, 0, 0) 1 (fun _ => rfl) (fun _ => rfl) (fun _ => rfl) hR0 ⟨⟨rfl, rfl, rfl, rfl, trivial⟩, rfl, rfl⟩ ?_
 rintro ⟨s, at_, e, n⟩ f ⟨hP⟩
 dsimp only at hP
 rcases hP with ⟨t, a, rfl, rfl, rfl, hg, ha, h1, h2, h3⟩ | ⟨hne, rfl, rfl, rfl⟩
 ·by_cases hlt : a < l.length
  ·obtain ⟨x, hx⟩ : ∃ x, l[a]? = some x := ⟨_, List.getElem?_eq_getElem hlt⟩
   have hri := right_at l 0 l.length h5.2 a x hx
   rw [Nat.zero_add] at hri
   obtain ⟨fw, e', q1, q2, q3⟩ := way_s hR (by omega) hri hg (a + 1)
   have hnx : n < l.length := by
    obtain ⟨k, hk⟩ : ∃ k, l.length - a = k + 1 := ⟨l.length - a - 1, by omega⟩
    rw [hk, runF, hx] at h2
    dsimp only at h2
    split at h2 <;> (dsimp only at h2; omega)
   refine ⟨_, ltT (by dsimp only; rw [hrl]; omega), ?_⟩
   refine ⟨_, eqT rfl, ?_⟩
   refine ⟨_, idxV (j := a) (rowI_get hx) rfl rfl rfl rfl, ?_⟩
   refine ⟨_, addV (z := ((a + 1 : Nat) : Int)) (by push_cast; rfl) (by omega) (by omega), ?_⟩
   refine ⟨_, addV (z := ((n + 1 : Nat) : Int)) (by push_cast; rfl) (by omega) (by omega), ?_⟩
   refine ⟨_, .inr ⟨_, _, _, _, rfl, rfl, q1, rfl⟩, ?_⟩
   obtain ⟨hR', hlt'⟩ := Rnd.step (n := n) hF hg hx h1 h2 h3 q3 rfl
   refine .inl ⟨_, _, SCallR.of [0] q2 (Hand.of rfl rfl (by simp) rfl rfl) rfl rfl rfl, ?_⟩
   refine ⟨((wayS R x t (a + 1)).1, (wayS R x t (a + 1)).2, e', n + 1), hR', ?_, ⟨rfl, rfl, rfl, rfl, trivial⟩, ⟨_, rfl⟩, rfl⟩
   dsimp only
   rw [if_pos rfl]
   split
   ·rename_i h0; have := hlt' h0; omega
   ·omega
  ·obtain rfl : a = l.length := by omega
   rw [Nat.sub_self] at h1 h2 h3
   obtain rfl : (0 : Int) = eF := h1
   obtain rfl : n = nF := by have h2 : 0 + n = nF := h2; omega
   obtain rfl : t.reverse = sF := h3
   refine ⟨_, ltN (by dsimp only; rw [hrl]; omega), ?_⟩
   refine ⟨_, eqT rfl, ?_⟩
   by_cases h1 : t.reverse.length = 1
   ·rw [if_neg (fun h => h.2 h1)]
    refine ⟨_, neN (by dsimp only; rw [rowP_len, h1]; rfl), ?_⟩
    refine ⟨_, FrzR.mk1 0 1 rfl rfl rfl (by decide), ?_⟩
    exact Ret.mk _ rfl rfl rfl
   ·rw [if_pos ⟨rfl, h1⟩]
    refine ⟨_, neT (by dsimp only; rw [rowP_len]; omega), ?_⟩
    refine ⟨_, FrzR.mk1 0 1 rfl rfl rfl (by decide), ?_⟩
    exact Ret.mk _ rfl rfl rfl
 ·have he : ¬ (e = 0 ∧ s.length ≠ 1) := fun h => hne h.1
  rw [if_neg he]
  by_cases hlt : at_ < (l.length : Int)
  ·refine ⟨_, ltT (by dsimp only; rw [hrl]; exact hlt), ?_⟩
   refine ⟨_, eqN hne, ?_⟩
   refine ⟨_, eqN hne, ?_⟩
   refine ⟨_, FrzR.mk1 0 1 rfl rfl rfl (by decide), ?_⟩
   exact Ret.mk _ rfl rfl rfl
  ·refine ⟨_, ltN (by dsimp only; rw [hrl]; exact hlt), ?_⟩
   refine ⟨_, eqN hne, ?_⟩
   refine ⟨_, FrzR.mk1 0 1 rfl rfl rfl (by decide), ?_⟩
   exact Ret.mk _ rfl rfl rfl
end Go.Proofs.YtgpkppohfodhdaaGreatDoor.Ru
namespace Go.Proofs.YtgpkppohfodhdaaGreatDoor.Ru
open Go Go.RowKit Go.Proofs.YtgpkppohfodhdaaGreatDoor.Pm Go.Proofs.YtgpkppohfodhdaaGreatDoor.Pl Go.Proofs.YtgpkppohfodhdaaGreatDoor.Va
set_option linter.unusedVariables false
set_option linter.unusedSimpArgs false
set_option maxHeartbeats 4000000
set_option maxRecDepth 8000
theorem tell_err {R : List Of} {l : List Ins} (h : (tellR R l).2.1 ≠ 0) : (tellR R l).1 = (0, false) := by
 unfold tellR at h ⊢
 split
 ·rfl
 ·rename_i h1
  rw [if_neg h1] at h
  split
  ·rfl
  ·rename_i h2
   rw [if_neg h2] at h
   exact if_neg h
@[reducible] def pR (r : Ce × Int × Nat) : PV := .tup [pI r.1.1, pB r.1.2, pI r.2.1]
theorem Run_ok (l : List Ins) (R : List Of) (hl : l.length ≤ 4611686018427387000) (hR8 : R.length ≤ 17592186043904) : Ok E 13 [] [.c (.row (rowI l)), .c (.row (rowO R))] (pR (tellR R l)) [] := by
 obtain ⟨s, hp, hs⟩ := play_ok l R hl hR8
 have he := tell_err (R := R) (l := l)
 obtain ⟨⟨c, e, n⟩, hr⟩ : ∃ r, tellR R l = r := ⟨_, rfl⟩
 rw [hr] at hp hs he ⊢
 dsimp only at hp hs he ⊢
 by_cases h0 : e = 0
 ·rw [hs h0, h0] at hp
  rw [h0]
  clear hs he
  have hg : (rowP [c])[0]? = some (cellP c) := rfl
  refine Ok.enter hE Tryz.func13 rfl (by decide +kernel) (by kernel_rfl) rfl rfl (Nat.le_of_ble_eq_true rfl) rfl ?_
  refine ⟨_, CallR.mk1 hp rfl rfl, ?_⟩
  refine ⟨_, neN rfl, ?_⟩
  refine ⟨_, idxV (j := 0) hg rfl rfl rfl rfl, ?_⟩
  refine ⟨_, idxV (j := 0) hg rfl rfl rfl rfl, ?_⟩
  exact Ret.mk _ rfl rfl rfl
 ·rw [he h0]
  refine Ok.enter hE Tryz.func13 rfl (by decide +kernel) (by kernel_rfl) rfl rfl (Nat.le_of_ble_eq_true rfl) rfl ?_
  refine ⟨_, CallR.mk1 hp rfl rfl, ?_⟩
  refine ⟨_, neT h0, ?_⟩
  exact Ret.mk _ rfl rfl rfl
theorem Steps_ok (l : List Ins) (R : List Of) (hl : l.length ≤ 4611686018427387000) (hR8 : R.length ≤ 17592186043904) : Ok E 15 [] [.c (.row (rowI l)), .c (.row (rowO R))] (pI (tellR R l).2.2) [] := by
 obtain ⟨s, hp, -⟩ := play_ok l R hl hR8
 refine Ok.enter hE Tryz.func15 rfl (by decide +kernel) (by kernel_rfl) rfl rfl (Nat.le_of_ble_eq_true rfl) rfl ?_
 refine ⟨_, CallR.mk1 hp rfl rfl, ?_⟩
 exact Ret.mk _ rfl rfl rfl
end Go.Proofs.YtgpkppohfodhdaaGreatDoor.Ru
