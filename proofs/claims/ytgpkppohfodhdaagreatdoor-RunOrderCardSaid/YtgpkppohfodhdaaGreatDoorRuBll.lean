import Derived.Test.YtgpkppohfodhdaaGreatDoorRuAll
import Derived.Test.YtgpkppohfodhdaaGreatDoorVaCll
import Derived.Test.YtgpkppohfodhdaaGreatDoorPmBll
namespace Go.Proofs.YtgpkppohfodhdaaGreatDoor.Ru
open Go Go.RowKit Go.Proofs.YtgpkppohfodhdaaGreatDoor.Pm Go.Proofs.YtgpkppohfodhdaaGreatDoor.Cd
set_option linter.unusedVariables false
set_option linter.unusedSimpArgs false
set_option maxRecDepth 100000 in
set_option maxHeartbeats 3200000 in
theorem rtake_walk (b g n cap : Nat) (v : Int) (is : Bool) (w : World) (arr cur : Array Value) (ty : TypeId) (hw : w.heap[b]? = some (.cells arr ty (0, 0))) (he0 : arr[1]? = some (.int .i64 0)) (hv : arr[0]? = some (.slice (some ⟨g, 0, none⟩) (n + 1) cap))
  (hg : w.heap[g]? = some (.cells cur 63 (0, 0))) (hc0 : cur[n * 2]? = some (.int .i64 v)) (hc1 : cur[n * 2 + 1]? = some (.bool is)) (hne : g ≠ b) (hn : n + 1 ≤ 100) (hcap : n + 1 ≤ cap) :
  Calls Tryz.prog 91 #[.pointer (some ⟨b, 0, none⟩)] w fun e w' => e = .returned (.agg #[.int .i64 v, .bool is]) ∧ w' = (((w.setCell ⟨b, 0, none⟩ (.slice (some ⟨g, 0, none⟩) n cap)).alloc (.cells #[.int .i64 v, .bool is] 63)).alloc (.cells #[.int .i64 v, .bool is] 63)).drew.drew := by
 have lb : b < w.heap.size := (Array.getElem?_eq_some_iff.1 hw).1
 have lg : g < w.heap.size := (Array.getElem?_eq_some_iff.1 hg).1
 have e5 : w.cell? ⟨b, 1, none⟩ = some (.int .i64 0) := by simp [World.cell?, hw, he0]
 have e1 : w.cell? ⟨b, 0, none⟩ = some (.slice (some ⟨g, 0, none⟩) (n + 1) cap) := by simp [World.cell?, hw, hv]
 have e2 : w.cell? ⟨g, n * 2, none⟩ = some (.int .i64 v) := by simp [World.cell?, hg, hc0]
 have e3 : w.cell? ⟨g, n * 2 + 1, none⟩ = some (.bool is) := by simp [World.cell?, hg, hc1]
 have e4 : w.frozen? ⟨b, 0, none⟩ = false := nofr hw
 have z1 : ((n + 1 : Nat) : Int) - 1 = (n : Int) := by omega
 have z2 : (0 : Int) ≤ (n : Int) := by omega
 have z3 : (n : Int) < ((n + 1 : Nat) : Int) := by omega
 go_enter Tryz.func91, Tryz.ntmps91
 go_wp2_with fail
 go_region
 all_goals (go_wp2_with fail)
 all_goals go_region
 all_goals (go_wp2_with fail)
 refine bodyPost_ret (results_cell_row rfl _ _ w.heap.size 63 #[.int .i64 v, .bool is] (0, 0) _ rfl (two_back ..) Tryz.underlying63 rfl (by kernel_rfl)) rfl ?_
 exact ⟨rfl, rfl⟩
theorem rtake_ok (l : List (Int × Bool)) (c : Int × Bool) (hn : l.length + 1 ≤ 100) :
  Ok E 91 [[.stk 63 (rowP (l ++ [c])), .c (.int .i64 0)]] [.ptr 0 0] (.agg (cellP c)) [[.stk 63 (rowP l), .c (.int .i64 0)]] := by
 refine ⟨⟨_, Tryz.func91, by decide +kernel, by kernel_rfl⟩, fun w ok ms gs vals hst M hr => ?_⟩
 obtain ⟨b, rfl⟩ : ∃ b, ms = [b] := by
  have := M.len
  match ms, this with
  | [b], _ => exact ⟨b, rfl⟩
 obtain ⟨p0, hp⟩ : ∃ p0, vals.toList = [p0] := by
  have := hr.1
  generalize vals.toList = L at this
  match L, this with
  | [p0], _ => exact ⟨p0, rfl⟩
 rw [hp] at hr
 have hp0 : p0 = .pointer (some ⟨b, 0, none⟩) := by
  cases hr.head with
  | ptr _ _ b' hm => simp at hm; rw [hm]
 have hvals : vals = #[.pointer (some ⟨b, 0, none⟩)] := by
  apply Array.toList_inj.1
  rw [hp, hp0]
 obtain ⟨bs0, arr, ty, g1, g2, g3, g4, g5, g6⟩ := M.box 0 b rfl
 have g1 : [PV.stk 63 (rowP (l ++ [c])), .c (.int .i64 0)] = bs0 := by simpa using g1
 subst g1
 obtain ⟨v, hv, -⟩ := g3.get (i := 0) rfl
 obtain ⟨ve, hve, hre⟩ := g3.get (i := 1) rfl
 have hve0 : ve = .int .i64 0 := by
  cases hre with
  | c _ _ h => cases h with
   | int => rfl
 subst hve0
 obtain ⟨sz, us, ho, hru, hx, hti, hgb⟩ := M.stk.own 0 0 v 63 (rowP (l ++ [c])) ⟨b, _, arr, ty, rfl, rfl, g2, hv, rfl⟩
 have hsz : sz = 2 := hti _ rfl
 subst hsz
 rw [rowP_len, List.length_append] at ho
 have hxs : rowP (l ++ [c]) = rowP l ++ [cellP c] := by simp [rowP]
 obtain ⟨g, cap, cur, e1, e2, e3, e4, e5, e6, e7⟩ : ∃ g cap cur, v = .slice (some ⟨g, 0, none⟩) (l.length + 1) cap ∧ Tryz.prog.globals.size ≤ g ∧ w.heap[g]? = some (.cells cur 63 (0, 0)) ∧ l.length + 1 ≤ cap ∧ cap ≤ maxLen ∧ cur.size = cap * 2 ∧ cur.toList.take ((l.length + 1) * 2) = us := by
  rcases ho.2 with ⟨-, h⟩ | h
  ·simp at h
  ·exact h
 subst e1
 have hne : g ≠ b := by rintro rfl; exact (hgb g rfl).1.2.1 0 rfl
 rw [hxs, List.flatten_append] at hru
 obtain ⟨us1, us2, rfl, hr1, hr2⟩ : ∃ us1 us2, us = us1 ++ us2 ∧ RepL (RepC w ok) us1 (rowP l).flatten ∧ RepL (RepC w ok) us2 (cellP c) := by
  refine ⟨us.take (rowP l).flatten.length, us.drop (rowP l).flatten.length, (List.take_append_drop _ _).symm, ?_, ?_⟩
  ·have := hru.take (rowP l).flatten.length
   rwa [List.take_left] at this
  ·have := hru.drop (rowP l).flatten.length
   rwa [List.drop_left] at this
 have hl2 : us2.length = 2 := hr2.1
 have hr2' := hr2
 obtain ⟨u0, u1, rfl⟩ : ∃ u0 u1, us2 = [u0, u1] := by
  match us2, hl2 with
  | [u0, u1], _ => exact ⟨u0, u1, rfl⟩
 have hu0 : u0 = .int .i64 c.1 := by
  cases hr2.head with
  | int => rfl
 have hu1 : u1 = .bool c.2 := by
  cases hr2.tail.head with
  | bool => rfl
 subst hu0; subst hu1
 have hl1 : us1.length = l.length * 2 := by have := ho.1; rw [List.length_append] at this; simp at this; omega
 have hcu : ∀ i, i < (l.length + 1) * 2 → cur[i]? = (us1 ++ [Value.int .i64 c.1, .bool c.2])[i]? := by
  intro i hi
  rw [← e7, List.getElem?_take_of_lt hi, Array.getElem?_toList]
 rw [hvals]
 have hgl := hE.glob w M.inv
 have lb : b < w.heap.size := blk_lt' g2
 refine (rtake_walk b g l.length cap c.1 c.2 w arr cur ty g2 (by simpa using hve) (by simpa using hv) e3 (by rw [hcu _ (by omega), ← hl1]; simp) (by rw [hcu _ (by omega), List.getElem?_append_right (by omega), hl1]; simp) hne hn e4).mono ?_
 rintro e w' ⟨rfl, rfl⟩
 have hfar : ∀ k, k < w.heap.size → k ≠ b → (((w.setCell ⟨b, 0, none⟩ (.slice (some ⟨g, 0, none⟩) l.length cap)).alloc (.cells #[.int .i64 c.1, .bool c.2] 63)).alloc (.cells #[.int .i64 c.1, .bool c.2] 63)).drew.drew.heap[k]? = w.heap[k]? := fun k h1 h2 => by
  show (((w.setCell ⟨b, 0, none⟩ (.slice (some ⟨g, 0, none⟩) l.length cap)).alloc (.cells #[.int .i64 c.1, .bool c.2] 63)).alloc (.cells #[.int .i64 c.1, .bool c.2] 63)).heap[k]? = _
  rw [Pm.alloc_old _ _ k (by simp [setCell_size]; omega), Pm.alloc_old _ _ k (by rw [setCell_size]; exact h1), set_far h2]
 obtain ⟨M', L⟩ := M.restk hE (i := 0) (j := 0) (b := b) (e := 63) (cs := [PV.stk 63 (rowP (l ++ [c])), .c (.int .i64 0)]) (xs := rowP (l ++ [c])) (xs' := rowP l) (sz := 2) (us := us1) (v' := .slice (some ⟨g, 0, none⟩) l.length cap) (w' := (((w.setCell ⟨b, 0, none⟩ (.slice (some ⟨g, 0, none⟩) l.length cap)).alloc (.cells #[.int .i64 c.1, .bool c.2] 63)).alloc (.cells #[.int .i64 c.1, .bool c.2] 63)).drew.drew) rfl rfl g2 hv rfl rfl rfl rfl (by simp; omega) (fun k h1 h2 _ => hfar k h1 h2)
  (by show (((w.setCell ⟨b, 0, none⟩ (.slice (some ⟨g, 0, none⟩) l.length cap)).alloc (.cells #[.int .i64 c.1, .bool c.2] 63)).alloc (.cells #[.int .i64 c.1, .bool c.2] 63)).heap[b]? = _; rw [Pm.alloc_old _ _ b (by simp [setCell_size]; omega), Pm.alloc_old _ _ b (by rw [setCell_size]; exact lb)]; exact set_at g2) (by rw [rowP_len]; exact own_pop ho rfl (hfar g (blk_lt' e3) hne)) (fun S => hr1.mono fun _ _ h => h.stay S) (rowP_two _) hti (fun k h => .inl h) (fun w m tk => .stk _ _ _ _ _ (rowP_len l).symm)
 exact ⟨_, ok, rfl, M', fun _ _ h => h, .agg _ _ (.cons (.int ..) (.cons (.bool ..) .nil))⟩
end Go.Proofs.YtgpkppohfodhdaaGreatDoor.Ru
namespace Go.Proofs.YtgpkppohfodhdaaGreatDoor.Ru
open Go Go.RowKit Go.Proofs.YtgpkppohfodhdaaGreatDoor.Pm Go.Proofs.YtgpkppohfodhdaaGreatDoor.Cd
set_option linter.unusedVariables false
set_option linter.unusedSimpArgs false
structure Hold (p : Prop) : Prop where mk :: (out : p)
theorem infoCell' : (Tryz.prog.info? 63).map (fun i => (i.zero, i.size, i.bytes)) = some (some (.agg #[.int .i64 0, .bool false]), 2, 16) := by kernel_rfl
theorem PutAt.of1 {base e sz n b off gg cap : Nat} {w w1 : World} {arr : Array Value} {ty : TypeId} {v : Value} {us : List Value} {o' : Obj} (hg : (w.alloc o').grownBy w1 v.ownBlock) (hbw : w1.heap[b]? = some (.cells arr ty (0, 0)))
  (hown : w1.ownsRow base e sz (.slice (some ⟨gg, 0, none⟩) n cap) n us) (hat : v.ownBlock = some gg ∨ gg = w.heap.size + 1) (lb : b < w.heap.size) (hne : gg ≠ b) : PutAt base e sz w b off arr ty v n us (w1.setCell ⟨b, off, none⟩ (.slice (some ⟨gg, 0, none⟩) n cap)) (.slice (some ⟨gg, 0, none⟩) n cap) := by
 have hs : (w.alloc o').heap.size = w.heap.size + 1 := by simp
 refine ⟨hg.os, hg.tape, hg.output, ?_, fun k hk h1 h2 => ?_, set_at hbw, ?_, fun g h => ?_, gg, cap, rfl⟩
 ·rw [setCell_size]; have := hg.size; omega
 ·rw [set_far h1, hg.block k (by omega) (Ne.symm h2)]
  exact Pm.alloc_old w o' k hk
 ·exact own_move hown fun g h => set_far (by injection h with h; subst h; exact hne)
 ·injection h with h; subst h
  rcases hat with h | h
  ·exact .inl h
  ·right; subst h; simp
set_option maxRecDepth 100000 in
set_option maxHeartbeats 3200000 in
theorem rput_walk (b n base : Nat) (v : Value) (c0 : Int) (c1 : Bool) (us : List Value) (w : World) (arr : Array Value) (ty : TypeId) (hw : w.heap[b]? = some (.cells arr ty (0, 0))) (hv : arr[0]? = some v) (he0 : arr[1]? = some (.int .i64 0))
  (hform : v = .slice none 0 0 ∧ n = 0 ∨ ∃ g cap, v = .slice (some ⟨g, 0, none⟩) n cap) (hown : w.ownsRow base 63 2 v n us) (hbase : base ≤ w.heap.size) (hn : n + 1 ≤ 100) (ag : v.ownBlock ≠ some b) :
  Calls Tryz.prog 89 #[.pointer (some ⟨b, 0, none⟩), .int .i64 c0, .bool c1] w fun e w' => ∃ v', e = .returned (.tuple #[]) ∧ PutAt base 63 2 w b 0 arr ty v (n + 1) (us ++ [.int .i64 c0, .bool c1]) w' v' := by
 obtain ⟨i0, hi0, hz0, hz1, hz2⟩ := info_parts infoCell'
 have hc : w.cell? ⟨b, 0, none⟩ = some v := by simp [World.cell?, hw, hv]
 have e5 : w.cell? ⟨b, 1, none⟩ = some (.int .i64 0) := by simp [World.cell?, hw, he0]
 have lb := World.block_lt_of_cell? w _ hc
 have ag2 : v.ownBlock ≠ some w.heap.size := fun h => by have := (hown.lt _ h).2; omega
 have hne := World.new_ne w _ hc
 obtain ⟨A, nn, cap, hvs, hnn⟩ : ∃ A nn cap, v = .slice A nn cap ∧ nn = n := by
  rcases hform with ⟨rfl, rfl⟩ | ⟨g, cap, rfl⟩
  ·exact ⟨none, 0, 0, rfl, rfl⟩
  ·exact ⟨_, _, _, rfl, rfl⟩
 subst hnn
 have hc2 : w.cell? ⟨b, 0, none⟩ = some (.slice A nn cap) := by rw [hc, hvs]
 have z1 : (nn : Int) < 100 := by omega
 have z2 : ¬ (100 : Int) ≤ (nn : Int) := by omega
 go_enter Tryz.func89, Tryz.ntmps89
 go_upto_region 3 with fail
 have ha : 0 < arr.size := (Array.getElem?_eq_some_iff.1 hv).1
 have db : ∀ o, (w.alloc o).heap[b]? = some (.cells arr ty (0, 0)) := fun o => (Pm.alloc_old w o b lb).trans hw
 clear hc2
 rw [← hvs] at *
 go_wp2_with (at_builtin; refine Hold.out ?_)
 refine ⟨?_⟩
 refine wpList_append_lies _ rfl _ _ 94 rfl base 63 i0 _ 2 16 Tryz.underlying94 hi0 hz0 hz1 hz2 rfl (by omega) v nn us rfl (hown.alloc _) ⟨w.heap.size, 0, none⟩ 1 1 [.int .i64 c0, .bool c1] rfl rfl (World.news_of_block (cs := #[.int .i64 c0, .bool c1]) (t := 63) (fr := (0, 0)) (heap_alloc_new w _)) (by intro x hx; simp at hx; rcases hx with rfl | rfl <;> rfl) (by omega) (by simp only [maxLen]; omega) (by omega) (by simp; omega) (w.heap.size + 1) (by simp) ?_
 intro gg cap w1 hown1 hgrow hat hlt
 have hbw := (hgrow.block b (by simp; omega) (Ne.symm ag)).trans (db _)
 have hfw := nofr (o := 0) hbw
 have hcw : w1.cell? ⟨b, 0, none⟩ = some v := by simp [World.cell?, hbw, hv]
 have hne' : gg ≠ b := by
  rcases hat with h | h
  ·rintro rfl; exact ag h
  ·have : b < w.heap.size := lb
   omega
 have hP := PutAt.of1 (off := 0) (n := nn + 1) (us := us ++ [.int .i64 c0, .bool c1]) hgrow hbw hown1 hat lb hne'
 go_wp2
 go_end0
 exact ⟨_, rfl, hP⟩
theorem rput_ok (l : List (Int × Bool)) (c : Int × Bool) (hn : l.length + 1 ≤ 100) :
  Ok E 89 [[.stk 63 (rowP l), .c (.int .i64 0)]] [.ptr 0 0, .c (.int .i64 c.1), .c (.bool c.2)] (.tup []) [[.stk 63 (rowP (l ++ [c])), .c (.int .i64 0)]] := by
 refine ⟨⟨_, Tryz.func89, by decide +kernel, by kernel_rfl⟩, fun w ok ms gs vals hst M hr => ?_⟩
 obtain ⟨b, rfl⟩ : ∃ b, ms = [b] := by
  have := M.len
  match ms, this with
  | [b], _ => exact ⟨b, rfl⟩
 obtain ⟨p0, p1, p2, hp⟩ : ∃ p0 p1 p2, vals.toList = [p0, p1, p2] := by
  have := hr.1
  generalize vals.toList = L at this
  match L, this with
  | [p0, p1, p2], _ => exact ⟨p0, p1, p2, rfl⟩
 rw [hp] at hr
 have hp0 : p0 = .pointer (some ⟨b, 0, none⟩) := by
  cases hr.head with
  | ptr _ _ b' hm => simp at hm; rw [hm]
 have hp1 : p1 = .int .i64 c.1 := by
  cases hr.tail.head with
  | c _ _ h => cases h with
   | int => rfl
 have hp2 : p2 = .bool c.2 := by
  cases hr.tail.tail.head with
  | c _ _ h => cases h with
   | bool => rfl
 have hvals : vals = #[.pointer (some ⟨b, 0, none⟩), .int .i64 c.1, .bool c.2] := by
  apply Array.toList_inj.1
  rw [hp, hp0, hp1, hp2]
 have hcs : RepL (RepC w ok) [Value.int .i64 c.1, .bool c.2] (cellP c) := .cons (.int ..) (.cons (.bool ..) .nil)
 obtain ⟨bs0, arr, ty, g1, g2, g3, g4, g5, g6⟩ := M.box 0 b rfl
 have g1 : [PV.stk 63 (rowP l), .c (.int .i64 0)] = bs0 := by simpa using g1
 subst g1
 obtain ⟨v, hv, -⟩ := g3.get (i := 0) rfl
 obtain ⟨ve, hve, hre⟩ := g3.get (i := 1) rfl
 have hve0 : ve = .int .i64 0 := by
  cases hre with
  | c _ _ h => cases h with
   | int => rfl
 subst hve0
 obtain ⟨sz, us, ho, hru, hx, hti, hgb⟩ := M.stk.own 0 0 v 63 (rowP l) ⟨b, _, arr, ty, rfl, rfl, g2, hv, rfl⟩
 have hsz : sz = 2 := hti _ rfl
 subst hsz
 rw [rowP_len] at ho
 have hform : v = .slice none 0 0 ∧ l.length = 0 ∨ ∃ g cap, v = .slice (some ⟨g, 0, none⟩) l.length cap := by
  rcases ho.2 with h | ⟨g, cap, _, h, _⟩
  ·exact .inl h
  ·exact .inr ⟨g, cap, h⟩
 have hgl := hE.glob w M.inv
 rw [hvals]
 refine (rput_walk b l.length Tryz.prog.globals.size v c.1 c.2 us w arr ty g2 (by simpa using hv) (by simpa using hve) hform ho hgl hn (fun hb => (hgb b hb).1.2.1 0 rfl)).mono ?_
 rintro e w' ⟨v', rfl, P⟩
 obtain ⟨gg, cap, hf⟩ := P.form
 have hxs : rowP (l ++ [c]) = rowP l ++ [cellP c] := by simp [rowP]
 have hlen : (rowP (l ++ [c])).length = l.length + 1 := by rw [rowP_len]; simp
 obtain ⟨M', L⟩ := M.restk hE (i := 0) (j := 0) (b := b) (e := 63) (cs := [PV.stk 63 (rowP l), .c (.int .i64 0)]) (xs := rowP l) (xs' := rowP (l ++ [c])) (sz := 2) (us := us ++ [Value.int .i64 c.1, .bool c.2]) (v' := v') (w' := w') rfl rfl g2 hv rfl P.os P.tape P.out P.size P.far P.at_ (by rw [hlen]; exact P.own) (fun S => by
   rw [hxs, List.flatten_append]
   exact (hru.mono fun _ _ h => h.stay S).append (by simpa using hcs.mono fun _ _ h => h.stay S)) (rowP_two _) hti P.blk (fun w m tk => by rw [hf]; exact .stk _ _ _ _ _ hlen.symm)
 exact ⟨_, ok, rfl, M', fun _ _ h => h, .tup _ _ rfl (fun i v d h _ => by simp at h)⟩
end Go.Proofs.YtgpkppohfodhdaaGreatDoor.Ru
namespace Go.Proofs.YtgpkppohfodhdaaGreatDoor.Ru
open Go Go.RowKit Go.Proofs.YtgpkppohfodhdaaGreatDoor.Pm Go.Proofs.YtgpkppohfodhdaaGreatDoor.Pl Go.Proofs.YtgpkppohfodhdaaGreatDoor.Va
set_option linter.unusedVariables false
set_option maxHeartbeats 4000000
set_option maxRecDepth 8000
@[reducible] def rB (s : List Ce) (e : Int) : List PV := [.stk 63 (rowP s), .c (.int .i64 e)]
theorem rtake_no : Ok E 91 [rB [] 0] [.ptr 0 0] (.agg (cellP (0, false))) [rB [] 100] := by
 refine Ok.enter hE Tryz.func91 rfl (by decide +kernel) (by kernel_rfl) rfl rfl (Nat.le_of_ble_eq_true rfl) rfl ?_
 refine ⟨_, eqT rfl, ?_⟩
 refine ⟨_, eqT rfl, ?_⟩
 refine ⟨_, neT (by decide), ?_⟩
 exact ⟨_, rfl, Wk.refl _, rfl, .cons (WkL.refl _) rfl (.nil _)⟩
theorem rtake_err (s : List Ce) (e : Int) (he : e ≠ 0) : Ok E 91 [rB s e] [.ptr 0 0] (.agg (cellP (0, false))) [rB s e] := by
 by_cases h : ((rowP s).length : Int) = 0
 ·refine Ok.enter hE Tryz.func91 rfl (by decide +kernel) (by kernel_rfl) rfl rfl (Nat.le_of_ble_eq_true rfl) rfl ?_
  refine ⟨_, eqT h, ?_⟩
  refine ⟨_, eqN he, ?_⟩
  refine ⟨_, neT he, ?_⟩
  exact ⟨_, rfl, Wk.refl _, rfl, .cons (WkL.refl _) rfl (.nil _)⟩
 ·refine Ok.enter hE Tryz.func91 rfl (by decide +kernel) (by kernel_rfl) rfl rfl (Nat.le_of_ble_eq_true rfl) rfl ?_
  refine ⟨_, eqN h, ?_⟩
  refine ⟨_, neT he, ?_⟩
  exact ⟨_, rfl, Wk.refl _, rfl, .cons (WkL.refl _) rfl (.nil _)⟩
theorem rput_full (s : List Ce) (c : Ce) (h : 100 ≤ s.length) : Ok E 89 [rB s 0] [.ptr 0 0, .c (.int .i64 c.1), .c (.bool c.2)] (.tup []) [rB s 100] := by
 rw [← rowP_len] at h
 refine Ok.enter hE Tryz.func89 rfl (by decide +kernel) (by kernel_rfl) rfl rfl (Nat.le_of_ble_eq_true rfl) rfl ?_
 refine ⟨_, geT (by omega), ?_⟩
 refine ⟨_, eqT rfl, ?_⟩
 refine ⟨_, eqN (by decide), ?_⟩
 exact ⟨_, rfl, Wk.refl _, rfl, .cons (WkL.refl _) rfl (.nil _)⟩
theorem rput_err (s : List Ce) (e : Int) (he : e ≠ 0) (c : Ce) : Ok E 89 [rB s e] [.ptr 0 0, .c (.int .i64 c.1), .c (.bool c.2)] (.tup []) [rB s e] := by
 by_cases h : ((rowP s).length : Int) ≥ 100
 ·refine Ok.enter hE Tryz.func89 rfl (by decide +kernel) (by kernel_rfl) rfl rfl (Nat.le_of_ble_eq_true rfl) rfl ?_
  refine ⟨_, geT h, ?_⟩
  refine ⟨_, eqN he, ?_⟩
  refine ⟨_, eqN he, ?_⟩
  exact ⟨_, rfl, Wk.refl _, rfl, .cons (WkL.refl _) rfl (.nil _)⟩
 ·refine Ok.enter hE Tryz.func89 rfl (by decide +kernel) (by kernel_rfl) rfl rfl (Nat.le_of_ble_eq_true rfl) rfl ?_
  refine ⟨_, geN h, ?_⟩
  refine ⟨_, eqN he, ?_⟩
  exact ⟨_, rfl, Wk.refl _, rfl, .cons (WkL.refl _) rfl (.nil _)⟩
theorem rput_all (s : List Ce) (c : Ce) : Ok E 89 [rB s 0] [.ptr 0 0, .c (.int .i64 c.1), .c (.bool c.2)] (.tup []) [rB (putS s c) (putE s 0)] := by
 unfold putS putE
 by_cases h : 100 ≤ s.length
 ·rw [if_pos h, if_pos h]; exact rput_full s c h
 ·rw [if_neg h, if_neg h]; exact rput_ok s c (by omega)
theorem rminus_none (s s' : List Ce) (e e' n y ey : Int) (h : Ok E 89 [rB s e] [.ptr 0 0, .c (.int .i64 0), .c (.bool false)] (.tup []) [rB s' e']) :
  Ok E 90 [rB s e] [.ptr 0 0, .agg (cellP (n, false)), .c (.int .i64 y), .c (.int .i64 ey)] (.tup []) [rB s' e'] := by
 refine Ok.enter hE Tryz.func90 rfl (by decide +kernel) (by kernel_rfl) rfl rfl (Nat.le_of_ble_eq_true rfl) rfl ?_
 refine .inl ⟨_, _, SCallR.of [0] h (Hand.of rfl rfl (by simp) rfl rfl) rfl rfl rfl, ?_⟩
 exact ⟨_, rfl, Wk.refl _, rfl, .cons (WkL.refl _) rfl (.nil _)⟩
theorem rminus_err (s : List Ce) (n y ey : Int) (he : ey ≠ 0) : Ok E 90 [rB s 0] [.ptr 0 0, .agg (cellP (n, true)), .c (.int .i64 y), .c (.int .i64 ey)] (.tup []) [rB s ey] := by
 refine Ok.enter hE Tryz.func90 rfl (by decide +kernel) (by kernel_rfl) rfl rfl (Nat.le_of_ble_eq_true rfl) rfl ?_
 refine ⟨_, eqN he, ?_⟩
 refine ⟨_, neT he, ?_⟩
 refine ⟨_, eqT rfl, ?_⟩
 refine .inl ⟨_, _, SCallR.of [0] (rput_err s ey he (n, true)) (Hand.of rfl rfl (by simp) rfl rfl) rfl rfl rfl, ?_⟩
 exact ⟨_, rfl, Wk.refl _, rfl, .cons (WkL.refl _) rfl (.nil _)⟩
theorem rminus_sub (s : List Ce) (n y z : Int) (hl : s.length < 100) (hs : Ok E 74 [] [.c (.int .i64 n), .c (.int .i64 y)] (.tup [.c (.int .i64 z), .c (.int .i64 0)]) []) : Ok E 90 [rB s 0] [.ptr 0 0, .agg (cellP (n, true)), .c (.int .i64 y), .c (.int .i64 0)] (.tup []) [rB (s ++ [(z, true)]) 0] := by
 refine Ok.enter hE Tryz.func90 rfl (by decide +kernel) (by kernel_rfl) rfl rfl (Nat.le_of_ble_eq_true rfl) rfl ?_
 refine ⟨_, eqT rfl, ?_⟩
 refine ⟨_, CallR.mk1 hs rfl rfl, ?_⟩
 refine ⟨_, neN rfl, ?_⟩
 refine .inl ⟨_, _, SCallR.of [0] (rput_ok s (z, true) (by omega)) (Hand.of rfl rfl (by simp) rfl rfl) rfl rfl rfl, ?_⟩
 exact ⟨_, rfl, Wk.refl _, rfl, .cons (WkL.refl _) rfl (.nil _)⟩
theorem rminus_far (s : List Ce) (n y z ez : Int) (he : ez ≠ 0) (hs : Ok E 74 [] [.c (.int .i64 n), .c (.int .i64 y)] (.tup [.c (.int .i64 z), .c (.int .i64 ez)]) []) : Ok E 90 [rB s 0] [.ptr 0 0, .agg (cellP (n, true)), .c (.int .i64 y), .c (.int .i64 0)] (.tup []) [rB s ez] := by
 refine Ok.enter hE Tryz.func90 rfl (by decide +kernel) (by kernel_rfl) rfl rfl (Nat.le_of_ble_eq_true rfl) rfl ?_
 refine ⟨_, eqT rfl, ?_⟩
 refine ⟨_, CallR.mk1 hs rfl rfl, ?_⟩
 refine ⟨_, neT he, ?_⟩
 refine ⟨_, eqT rfl, ?_⟩
 refine .inl ⟨_, _, SCallR.of [0] (rput_err s ez he (z, true)) (Hand.of rfl rfl (by simp) rfl rfl) rfl rfl rfl, ?_⟩
 exact ⟨_, rfl, Wk.refl _, rfl, .cons (WkL.refl _) rfl (.nil _)⟩
def putTwo (op : Int) (x y : Ce) : Ce := if op = 11 then aboveC x y else if op = 7 then pairF min x y else pairF max x y
theorem rtwo_gen (op : Int) (s1 s2 s3 s' : List Ce) (e1 e2 e3 e' : Int) (x y c : Ce) (hy : Ok E 91 [rB s1 e1] [.ptr 0 0] (.agg (cellP y)) [rB s2 e2]) (hx : Ok E 91 [rB s2 e2] [.ptr 0 0] (.agg (cellP x)) [rB s3 e3])
  (hc : putTwo op x y = c) (hp : Ok E 89 [rB s3 e3] [.ptr 0 0, .c (.int .i64 c.1), .c (.bool c.2)] (.tup []) [rB s' e']) : Ok E 92 [rB s1 e1] [.ptr 0 0, .c (.int .i64 op)] (.tup []) [rB s' e'] := by
 obtain ⟨x1, x2⟩ := x
 obtain ⟨y1, y2⟩ := y
 by_cases h11 : op = 11
 ·unfold putTwo at hc
  rw [if_pos h11] at hc
  unfold aboveC at hc
  dsimp only at hc
  cases x2 with
  | false =>
   rw [if_neg (by simp)] at hc
   subst hc
   refine Ok.enter hE Tryz.func92 rfl (by decide +kernel) (by kernel_rfl) rfl rfl (Nat.le_of_ble_eq_true rfl) rfl ?_
   refine .inl ⟨_, _, SCallR.of [0] hy (Hand.of rfl rfl (by simp) rfl rfl) rfl rfl rfl, ?_⟩
   refine .inl ⟨_, _, SCallR.of [0] hx (Hand.of rfl rfl (by simp) rfl rfl) rfl rfl rfl, ?_⟩
   refine ⟨_, eqT h11, ?_⟩
   refine ⟨_, eqT h11, ?_⟩
   refine .inl ⟨_, _, SCallR.of [0] hp (Hand.of rfl rfl (by simp) rfl rfl) rfl rfl rfl, ?_⟩
   exact ⟨_, rfl, Wk.refl _, rfl, .cons (WkL.refl _) rfl (.nil _)⟩
  | true =>
   cases y2 with
   | false =>
    rw [if_neg (by simp)] at hc
    subst hc
    refine Ok.enter hE Tryz.func92 rfl (by decide +kernel) (by kernel_rfl) rfl rfl (Nat.le_of_ble_eq_true rfl) rfl ?_
    refine .inl ⟨_, _, SCallR.of [0] hy (Hand.of rfl rfl (by simp) rfl rfl) rfl rfl rfl, ?_⟩
    refine .inl ⟨_, _, SCallR.of [0] hx (Hand.of rfl rfl (by simp) rfl rfl) rfl rfl rfl, ?_⟩
    refine ⟨_, eqT h11, ?_⟩
    refine ⟨_, eqT h11, ?_⟩
    refine .inl ⟨_, _, SCallR.of [0] hp (Hand.of rfl rfl (by simp) rfl rfl) rfl rfl rfl, ?_⟩
    exact ⟨_, rfl, Wk.refl _, rfl, .cons (WkL.refl _) rfl (.nil _)⟩
   | true =>
    by_cases hgt : x1 > y1
    ·rw [if_pos (by simp [hgt])] at hc
     subst hc
     refine Ok.enter hE Tryz.func92 rfl (by decide +kernel) (by kernel_rfl) rfl rfl (Nat.le_of_ble_eq_true rfl) rfl ?_
     refine .inl ⟨_, _, SCallR.of [0] hy (Hand.of rfl rfl (by simp) rfl rfl) rfl rfl rfl, ?_⟩
     refine .inl ⟨_, _, SCallR.of [0] hx (Hand.of rfl rfl (by simp) rfl rfl) rfl rfl rfl, ?_⟩
     refine ⟨_, eqT h11, ?_⟩
     refine ⟨_, gtT hgt, ?_⟩
     refine .inl ⟨_, _, SCallR.of [0] hp (Hand.of rfl rfl (by simp) rfl rfl) rfl rfl rfl, ?_⟩
     exact ⟨_, rfl, Wk.refl _, rfl, .cons (WkL.refl _) rfl (.nil _)⟩
    ·rw [if_neg (by simp; omega)] at hc
     subst hc
     refine Ok.enter hE Tryz.func92 rfl (by decide +kernel) (by kernel_rfl) rfl rfl (Nat.le_of_ble_eq_true rfl) rfl ?_
     refine .inl ⟨_, _, SCallR.of [0] hy (Hand.of rfl rfl (by simp) rfl rfl) rfl rfl rfl, ?_⟩
     refine .inl ⟨_, _, SCallR.of [0] hx (Hand.of rfl rfl (by simp) rfl rfl) rfl rfl rfl, ?_⟩
     refine ⟨_, eqT h11, ?_⟩
     refine ⟨_, gtN hgt, ?_⟩
     refine ⟨_, eqT h11, ?_⟩
     refine .inl ⟨_, _, SCallR.of [0] hp (Hand.of rfl rfl (by simp) rfl rfl) rfl rfl rfl, ?_⟩
     exact ⟨_, rfl, Wk.refl _, rfl, .cons (WkL.refl _) rfl (.nil _)⟩
 ·unfold putTwo at hc
  rw [if_neg h11] at hc
  unfold pairF at hc
  dsimp only at hc
  cases x2 with
  | false =>
   replace hc : ((0 : Int), false) = c := by rw [← hc]; split <;> rfl
   subst hc
   refine Ok.enter hE Tryz.func92 rfl (by decide +kernel) (by kernel_rfl) rfl rfl (Nat.le_of_ble_eq_true rfl) rfl ?_
   refine .inl ⟨_, _, SCallR.of [0] hy (Hand.of rfl rfl (by simp) rfl rfl) rfl rfl rfl, ?_⟩
   refine .inl ⟨_, _, SCallR.of [0] hx (Hand.of rfl rfl (by simp) rfl rfl) rfl rfl rfl, ?_⟩
   refine ⟨_, eqN h11, ?_⟩
   refine ⟨_, eqN h11, ?_⟩
   refine .inl ⟨_, _, SCallR.of [0] hp (Hand.of rfl rfl (by simp) rfl rfl) rfl rfl rfl, ?_⟩
   exact ⟨_, rfl, Wk.refl _, rfl, .cons (WkL.refl _) rfl (.nil _)⟩
  | true =>
   cases y2 with
   | false =>
    replace hc : ((0 : Int), false) = c := by rw [← hc]; split <;> rfl
    subst hc
    refine Ok.enter hE Tryz.func92 rfl (by decide +kernel) (by kernel_rfl) rfl rfl (Nat.le_of_ble_eq_true rfl) rfl ?_
    refine .inl ⟨_, _, SCallR.of [0] hy (Hand.of rfl rfl (by simp) rfl rfl) rfl rfl rfl, ?_⟩
    refine .inl ⟨_, _, SCallR.of [0] hx (Hand.of rfl rfl (by simp) rfl rfl) rfl rfl rfl, ?_⟩
    refine ⟨_, eqN h11, ?_⟩
    refine ⟨_, eqN h11, ?_⟩
    refine .inl ⟨_, _, SCallR.of [0] hp (Hand.of rfl rfl (by simp) rfl rfl) rfl rfl rfl, ?_⟩
    exact ⟨_, rfl, Wk.refl _, rfl, .cons (WkL.refl _) rfl (.nil _)⟩
   | true =>
    by_cases h7 : op = 7
    ·rw [if_pos h7, if_pos (show (true && true) = true from rfl)] at hc
     subst hc
     refine Ok.enter hE Tryz.func92 rfl (by decide +kernel) (by kernel_rfl) rfl rfl (Nat.le_of_ble_eq_true rfl) rfl ?_
     refine .inl ⟨_, _, SCallR.of [0] hy (Hand.of rfl rfl (by simp) rfl rfl) rfl rfl rfl, ?_⟩
     refine .inl ⟨_, _, SCallR.of [0] hx (Hand.of rfl rfl (by simp) rfl rfl) rfl rfl rfl, ?_⟩
     refine ⟨_, eqN h11, ?_⟩
     refine ⟨_, eqN h11, ?_⟩
     refine ⟨_, eqT h7, ?_⟩
     refine ⟨_, minR rfl, ?_⟩
     refine .inl ⟨_, _, SCallR.of [0] hp (Hand.of rfl rfl (by simp) rfl rfl) rfl rfl rfl, ?_⟩
     exact ⟨_, rfl, Wk.refl _, rfl, .cons (WkL.refl _) rfl (.nil _)⟩
    ·rw [if_neg h7, if_pos (show (true && true) = true from rfl)] at hc
     subst hc
     refine Ok.enter hE Tryz.func92 rfl (by decide +kernel) (by kernel_rfl) rfl rfl (Nat.le_of_ble_eq_true rfl) rfl ?_
     refine .inl ⟨_, _, SCallR.of [0] hy (Hand.of rfl rfl (by simp) rfl rfl) rfl rfl rfl, ?_⟩
     refine .inl ⟨_, _, SCallR.of [0] hx (Hand.of rfl rfl (by simp) rfl rfl) rfl rfl rfl, ?_⟩
     refine ⟨_, eqN h11, ?_⟩
     refine ⟨_, eqN h11, ?_⟩
     refine ⟨_, eqN h7, ?_⟩
     refine ⟨_, maxV rfl, ?_⟩
     refine .inl ⟨_, _, SCallR.of [0] hp (Hand.of rfl rfl (by simp) rfl rfl) rfl rfl rfl, ?_⟩
     exact ⟨_, rfl, Wk.refl _, rfl, .cons (WkL.refl _) rfl (.nil _)⟩
theorem rtwo_no (op : Int) (t : List Ce) (h : t.length < 2) : Ok E 92 [rB t.reverse 0] [.ptr 0 0, .c (.int .i64 op)] (.tup []) [rB [] 100] := by
 match t, h with
 | [], _ => exact rtwo_gen op [] [] [] [] 0 100 100 100 (0, false) (0, false) _ rtake_no (rtake_err [] 100 (by decide)) rfl (rput_err [] 100 (by decide) _)
 | [c], _ => exact rtwo_gen op [c] [] [] [] 0 0 100 100 (0, false) c _ (rtake_ok [] c (by decide)) rtake_no rfl (rput_err [] 100 (by decide) _)
theorem rtwo_ok (op : Int) (t : List Ce) (x y : Ce) (h : t.length < 99) : Ok E 92 [rB (y :: x :: t).reverse 0] [.ptr 0 0, .c (.int .i64 op)] (.tup []) [rB (putTwo op x y :: t).reverse 0] := by
 rw [List.reverse_cons, List.reverse_cons, List.reverse_cons]
 exact rtwo_gen op _ (t.reverse ++ [x]) t.reverse _ 0 0 0 0 x y _ (rtake_ok _ y (by simp; omega)) (rtake_ok _ x (by simp; omega)) rfl (rput_ok _ _ (by simp; omega))
end Go.Proofs.YtgpkppohfodhdaaGreatDoor.Ru
namespace Go.Proofs.YtgpkppohfodhdaaGreatDoor.Ru
open Go Go.RowKit Go.Proofs.YtgpkppohfodhdaaGreatDoor.Pm Go.Proofs.YtgpkppohfodhdaaGreatDoor.Pl Go.Proofs.YtgpkppohfodhdaaGreatDoor.Va
set_option linter.unusedVariables false
set_option maxHeartbeats 4000000
set_option maxRecDepth 8000
def stepQ (i : Nat) : Option (List Nat) := match Nat.beq i 12 with
 | true => some [0, 1, 3, 4, 2, 5]
 | false => none
def StepD (R : List Of) (x : Ins) (t : List Ce) (i : Nat) : Prop := ∃ (s' : List Ce) (a' e' : Int), Ok E 43 [rB t.reverse 0] [.ptr 0 0, pIn x, .c (.int .i64 i), .c (.row (rowO R))] (.c (.int .i64 a')) [rB s' e'] ∧ match stepF R x t (i + 1) with
 | .go t' b => s' = t'.reverse ∧ a' = (b : Int) ∧ e' = 0
 | .er e => e' = e
section
variable {R : List Of} {s s' : List Ce} {e e' n : Int} {nm : ByteArray} {i : Nat}
theorem st_push (hi : i ≤ 1000000) (h : Ok E 89 [rB s 0] [.ptr 0 0, .c (.int .i64 n), .c (.bool true)] (.tup []) [rB s' e']) : Ok E 43 [rB s 0] [.ptr 0 0, pIn ⟨1, n, nm⟩, .c (.int .i64 i), .c (.row (rowO R))] (.c (.int .i64 ((i + 1 : Nat) : Int))) [rB s' e'] := by
 refine Ok.enterS hE stepQ Tryz.func43 rfl (by decide +kernel) (by kernel_rfl) (by kernel_rfl) rfl rfl (Nat.le_of_ble_eq_true rfl) rfl ?_
 refine ⟨_, eqT rfl, ?_⟩
 refine .inl ⟨_, _, SCallR.of [0] h (Hand.of rfl rfl (by simp) rfl rfl) rfl rfl rfl, ?_⟩
 refine ⟨_, addV (z := ((i + 1 : Nat) : Int)) (by push_cast; rfl) (by omega) (by omega), ?_⟩
 exact ⟨_, rfl, Wk.refl _, rfl, .cons (WkL.refl _) rfl (.nil _)⟩
theorem st_leaf2 (hi : i ≤ 1000000) {c : Ce} {ev : Int} (hv : Ok E 22 [] [.agg [.int .i64 1, .int .i64 0, .str nm, .row []], .c (.row (rowO R))] (.tup [.c (.int .i64 c.1), .c (.bool c.2), .c (.int .i64 ev)]) [])
  (h : Ok E 89 [rB s 0] [.ptr 0 0, .c (.int .i64 c.1), .c (.bool c.2)] (.tup []) [rB s' e']) : Ok E 43 [rB s 0] [.ptr 0 0, pIn ⟨2, n, nm⟩, .c (.int .i64 i), .c (.row (rowO R))] (.c (.int .i64 ((i + 1 : Nat) : Int))) [rB s' e'] := by
 refine Ok.enterS hE stepQ Tryz.func43 rfl (by decide +kernel) (by kernel_rfl) (by kernel_rfl) rfl rfl (Nat.le_of_ble_eq_true rfl) rfl ?_
 refine ⟨_, eqN (by dsimp only; decide), ?_⟩
 refine ⟨_, eqT rfl, ?_⟩
 refine ⟨_, ⟨_, rfl, rfl⟩, ?_⟩
 refine ⟨_, idxV (j := 2) rfl rfl rfl rfl rfl, ?_⟩
 refine ⟨_, CallR.mkW hv (.cons (Wk.aggC (.same (.same (.same (.row .nil))))) (.cons (Wk.refl _) .nil)) rfl rfl, ?_⟩
 refine .inl ⟨_, _, SCallR.of [0] h (Hand.of rfl rfl (by simp) rfl rfl) rfl rfl rfl, ?_⟩
 refine ⟨_, addV (z := ((i + 1 : Nat) : Int)) (by push_cast; rfl) (by omega) (by omega), ?_⟩
 exact ⟨_, rfl, Wk.refl _, rfl, .cons (WkL.refl _) rfl (.nil _)⟩
theorem st_leaf3 (hi : i ≤ 1000000) {c : Ce} {ev : Int} (hv : Ok E 22 [] [.agg [.int .i64 2, .int .i64 0, .str nm, .row []], .c (.row (rowO R))] (.tup [.c (.int .i64 c.1), .c (.bool c.2), .c (.int .i64 ev)]) [])
  (h : Ok E 89 [rB s 0] [.ptr 0 0, .c (.int .i64 c.1), .c (.bool c.2)] (.tup []) [rB s' e']) : Ok E 43 [rB s 0] [.ptr 0 0, pIn ⟨3, n, nm⟩, .c (.int .i64 i), .c (.row (rowO R))] (.c (.int .i64 ((i + 1 : Nat) : Int))) [rB s' e'] := by
 refine Ok.enterS hE stepQ Tryz.func43 rfl (by decide +kernel) (by kernel_rfl) (by kernel_rfl) rfl rfl (Nat.le_of_ble_eq_true rfl) rfl ?_
 refine ⟨_, eqN (by dsimp only; decide), ?_⟩
 refine ⟨_, eqN (by dsimp only; decide), ?_⟩
 refine ⟨_, eqT rfl, ?_⟩
 refine ⟨_, ⟨_, rfl, rfl⟩, ?_⟩
 refine ⟨_, idxV (j := 3) rfl rfl rfl rfl rfl, ?_⟩
 refine ⟨_, CallR.mkW hv (.cons (Wk.aggC (.same (.same (.same (.row .nil))))) (.cons (Wk.refl _) .nil)) rfl rfl, ?_⟩
 refine .inl ⟨_, _, SCallR.of [0] h (Hand.of rfl rfl (by simp) rfl rfl) rfl rfl rfl, ?_⟩
 refine ⟨_, addV (z := ((i + 1 : Nat) : Int)) (by push_cast; rfl) (by omega) (by omega), ?_⟩
 exact ⟨_, rfl, Wk.refl _, rfl, .cons (WkL.refl _) rfl (.nil _)⟩
theorem st_leaf4 (hi : i ≤ 1000000) {c : Ce} {ev : Int} (hv : Ok E 22 [] [.agg [.int .i64 3, .int .i64 0, .str nm, .row []], .c (.row (rowO R))] (.tup [.c (.int .i64 c.1), .c (.bool c.2), .c (.int .i64 ev)]) [])
  (h : Ok E 89 [rB s 0] [.ptr 0 0, .c (.int .i64 c.1), .c (.bool c.2)] (.tup []) [rB s' e']) : Ok E 43 [rB s 0] [.ptr 0 0, pIn ⟨4, n, nm⟩, .c (.int .i64 i), .c (.row (rowO R))] (.c (.int .i64 ((i + 1 : Nat) : Int))) [rB s' e'] := by
 refine Ok.enterS hE stepQ Tryz.func43 rfl (by decide +kernel) (by kernel_rfl) (by kernel_rfl) rfl rfl (Nat.le_of_ble_eq_true rfl) rfl ?_
 refine ⟨_, eqN (by dsimp only; decide), ?_⟩
 refine ⟨_, eqN (by dsimp only; decide), ?_⟩
 refine ⟨_, eqN (by dsimp only; decide), ?_⟩
 refine ⟨_, eqT rfl, ?_⟩
 refine ⟨_, ⟨_, rfl, rfl⟩, ?_⟩
 refine ⟨_, idxV (j := 4) rfl rfl rfl rfl rfl, ?_⟩
 refine ⟨_, CallR.mkW hv (.cons (Wk.aggC (.same (.same (.same (.row .nil))))) (.cons (Wk.refl _) .nil)) rfl rfl, ?_⟩
 refine .inl ⟨_, _, SCallR.of [0] h (Hand.of rfl rfl (by simp) rfl rfl) rfl rfl rfl, ?_⟩
 refine ⟨_, addV (z := ((i + 1 : Nat) : Int)) (by push_cast; rfl) (by omega) (by omega), ?_⟩
 exact ⟨_, rfl, Wk.refl _, rfl, .cons (WkL.refl _) rfl (.nil _)⟩
theorem st_less (hi : i ≤ 1000000) {s1 : List Ce} {e1 : Int} {c : Ce} (ht : Ok E 91 [rB s 0] [.ptr 0 0] (.agg (cellP c)) [rB s1 e1]) (h : Ok E 90 [rB s1 e1] [.ptr 0 0, .agg (cellP c), .c (.int .i64 n), .c (.int .i64 0)] (.tup []) [rB s' e']) :
  Ok E 43 [rB s 0] [.ptr 0 0, pIn ⟨5, n, nm⟩, .c (.int .i64 i), .c (.row (rowO R))] (.c (.int .i64 ((i + 1 : Nat) : Int))) [rB s' e'] := by
 refine Ok.enterS hE stepQ Tryz.func43 rfl (by decide +kernel) (by kernel_rfl) (by kernel_rfl) rfl rfl (Nat.le_of_ble_eq_true rfl) rfl ?_
 refine ⟨_, eqN (by dsimp only; decide), ?_⟩
 refine ⟨_, eqN (by dsimp only; decide), ?_⟩
 refine ⟨_, eqN (by dsimp only; decide), ?_⟩
 refine ⟨_, eqN (by dsimp only; decide), ?_⟩
 refine ⟨_, eqT rfl, ?_⟩
 refine .inl ⟨_, _, SCallR.of [0] ht (Hand.of rfl rfl (by simp) rfl rfl) rfl rfl rfl, ?_⟩
 refine .inl ⟨_, _, SCallR.of [0] h (Hand.of rfl rfl (by simp) rfl rfl) rfl rfl rfl, ?_⟩
 refine ⟨_, addV (z := ((i + 1 : Nat) : Int)) (by push_cast; rfl) (by omega) (by omega), ?_⟩
 exact ⟨_, rfl, Wk.refl _, rfl, .cons (WkL.refl _) rfl (.nil _)⟩
theorem st_cut (hi : i ≤ 1000000) {s1 : List Ce} {e1 y ey : Int} {c : Ce} (ht : Ok E 91 [rB s 0] [.ptr 0 0] (.agg (cellP c)) [rB s1 e1]) (hp : Ok E 73 [] [.c (.int .i64 c.1), .c (.int .i64 n), .c (.bool false)] (.tup [.c (.int .i64 y), .c (.int .i64 ey)]) [])
  (h : Ok E 90 [rB s1 e1] [.ptr 0 0, .agg (cellP c), .c (.int .i64 y), .c (.int .i64 ey)] (.tup []) [rB s' e']) :
  Ok E 43 [rB s 0] [.ptr 0 0, pIn ⟨6, n, nm⟩, .c (.int .i64 i), .c (.row (rowO R))] (.c (.int .i64 ((i + 1 : Nat) : Int))) [rB s' e'] := by
 refine Ok.enterS hE stepQ Tryz.func43 rfl (by decide +kernel) (by kernel_rfl) (by kernel_rfl) rfl rfl (Nat.le_of_ble_eq_true rfl) rfl ?_
 refine ⟨_, eqN (by dsimp only; decide), ?_⟩
 refine ⟨_, eqN (by dsimp only; decide), ?_⟩
 refine ⟨_, eqN (by dsimp only; decide), ?_⟩
 refine ⟨_, eqN (by dsimp only; decide), ?_⟩
 refine ⟨_, eqN (by dsimp only; decide), ?_⟩
 refine ⟨_, eqT rfl, ?_⟩
 refine .inl ⟨_, _, SCallR.of [0] ht (Hand.of rfl rfl (by simp) rfl rfl) rfl rfl rfl, ?_⟩
 refine ⟨_, CallR.mk1 hp rfl rfl, ?_⟩
 refine .inl ⟨_, _, SCallR.of [0] h (Hand.of rfl rfl (by simp) rfl rfl) rfl rfl rfl, ?_⟩
 refine ⟨_, addV (z := ((i + 1 : Nat) : Int)) (by push_cast; rfl) (by omega) (by omega), ?_⟩
 exact ⟨_, rfl, Wk.refl _, rfl, .cons (WkL.refl _) rfl (.nil _)⟩
theorem st_two {op : Int} (hop : op = 7 ∨ op = 8 ∨ op = 11) (hi : i ≤ 1000000) (h : Ok E 92 [rB s 0] [.ptr 0 0, .c (.int .i64 op)] (.tup []) [rB s' e']) : Ok E 43 [rB s 0] [.ptr 0 0, pIn ⟨op, n, nm⟩, .c (.int .i64 i), .c (.row (rowO R))] (.c (.int .i64 ((i + 1 : Nat) : Int))) [rB s' e'] := by
 refine Ok.enterS hE stepQ Tryz.func43 rfl (by decide +kernel) (by kernel_rfl) (by kernel_rfl) rfl rfl (Nat.le_of_ble_eq_true rfl) rfl ?_
 refine ⟨_, eqN (by dsimp only; omega), ?_⟩
 refine ⟨_, eqN (by dsimp only; omega), ?_⟩
 refine ⟨_, eqN (by dsimp only; omega), ?_⟩
 refine ⟨_, eqN (by dsimp only; omega), ?_⟩
 refine ⟨_, eqN (by dsimp only; omega), ?_⟩
 refine ⟨_, eqN (by dsimp only; omega), ?_⟩
 refine ⟨_, eqN (by dsimp only; omega), ?_⟩
 refine ⟨_, eqN (by dsimp only; omega), ?_⟩
 refine ⟨_, eqN (by dsimp only; omega), ?_⟩
 refine ⟨_, eqN (by dsimp only; omega), ?_⟩
 refine .inl ⟨_, _, SCallR.of [0] h (Hand.of rfl rfl (by simp) rfl rfl) rfl rfl rfl, ?_⟩
 refine ⟨_, addV (z := ((i + 1 : Nat) : Int)) (by push_cast; rfl) (by omega) (by omega), ?_⟩
 exact ⟨_, rfl, Wk.refl _, rfl, .cons (WkL.refl _) rfl (.nil _)⟩
theorem st_else_no (hi : i ≤ 1000000) {z : Int} (ht : Ok E 91 [rB s 0] [.ptr 0 0] (.agg (cellP (z, false))) [rB s' e']) : Ok E 43 [rB s 0] [.ptr 0 0, pIn ⟨9, n, nm⟩, .c (.int .i64 i), .c (.row (rowO R))] (.c (.int .i64 ((i + 1 : Nat) : Int))) [rB s' e'] := by
 refine Ok.enterS hE stepQ Tryz.func43 rfl (by decide +kernel) (by kernel_rfl) (by kernel_rfl) rfl rfl (Nat.le_of_ble_eq_true rfl) rfl ?_
 refine ⟨_, eqN (by dsimp only; decide), ?_⟩
 refine ⟨_, eqN (by dsimp only; decide), ?_⟩
 refine ⟨_, eqN (by dsimp only; decide), ?_⟩
 refine ⟨_, eqN (by dsimp only; decide), ?_⟩
 refine ⟨_, eqN (by dsimp only; decide), ?_⟩
 refine ⟨_, eqN (by dsimp only; decide), ?_⟩
 refine ⟨_, eqT rfl, ?_⟩
 refine .inl ⟨_, _, SCallR.of [0] ht (Hand.of rfl rfl (by simp) rfl rfl) rfl rfl rfl, ?_⟩
 refine ⟨_, addV (z := ((i + 1 : Nat) : Int)) (by push_cast; rfl) (by omega) (by omega), ?_⟩
 exact ⟨_, rfl, Wk.refl _, rfl, .cons (WkL.refl _) rfl (.nil _)⟩
theorem st_else_yes {s1 : List Ce} {z : Int} (ht : Ok E 91 [rB s 0] [.ptr 0 0] (.agg (cellP (z, true))) [rB s1 0]) (h : Ok E 89 [rB s1 0] [.ptr 0 0, .c (.int .i64 z), .c (.bool true)] (.tup []) [rB s' e']) : Ok E 43 [rB s 0] [.ptr 0 0, pIn ⟨9, n, nm⟩, .c (.int .i64 i), .c (.row (rowO R))] (.c (.int .i64 n)) [rB s' e'] := by
 refine Ok.enterS hE stepQ Tryz.func43 rfl (by decide +kernel) (by kernel_rfl) (by kernel_rfl) rfl rfl (Nat.le_of_ble_eq_true rfl) rfl ?_
 refine ⟨_, eqN (by dsimp only; decide), ?_⟩
 refine ⟨_, eqN (by dsimp only; decide), ?_⟩
 refine ⟨_, eqN (by dsimp only; decide), ?_⟩
 refine ⟨_, eqN (by dsimp only; decide), ?_⟩
 refine ⟨_, eqN (by dsimp only; decide), ?_⟩
 refine ⟨_, eqN (by dsimp only; decide), ?_⟩
 refine ⟨_, eqT rfl, ?_⟩
 refine .inl ⟨_, _, SCallR.of [0] ht (Hand.of rfl rfl (by simp) rfl rfl) rfl rfl rfl, ?_⟩
 refine .inl ⟨_, _, SCallR.of [0] h (Hand.of rfl rfl (by simp) rfl rfl) rfl rfl rfl, ?_⟩
 exact ⟨_, rfl, Wk.refl _, rfl, .cons (WkL.refl _) rfl (.nil _)⟩
theorem st_more (hi : i ≤ 1000000) {b : Bool} (hb : decide (((rowO R).length : Int) > n) = b) (h : Ok E 89 [rB s 0] [.ptr 0 0, .c (.int .i64 (if b = true then 1 else 0)), .c (.bool true)] (.tup []) [rB s' e']) : Ok E 43 [rB s 0] [.ptr 0 0, pIn ⟨10, n, nm⟩, .c (.int .i64 i), .c (.row (rowO R))] (.c (.int .i64 ((i + 1 : Nat) : Int))) [rB s' e'] := by
 cases b with
 | true =>
  rw [if_pos rfl] at h
  refine Ok.enterS hE stepQ Tryz.func43 rfl (by decide +kernel) (by kernel_rfl) (by kernel_rfl) rfl rfl (Nat.le_of_ble_eq_true rfl) rfl ?_
  refine ⟨_, eqN (by dsimp only; decide), ?_⟩
  refine ⟨_, eqN (by dsimp only; decide), ?_⟩
  refine ⟨_, eqN (by dsimp only; decide), ?_⟩
  refine ⟨_, eqN (by dsimp only; decide), ?_⟩
  refine ⟨_, eqN (by dsimp only; decide), ?_⟩
  refine ⟨_, eqN (by dsimp only; decide), ?_⟩
  refine ⟨_, eqN (by dsimp only; decide), ?_⟩
  refine ⟨_, eqT rfl, ?_⟩
  refine ⟨_, gtV hb, ?_⟩
  refine .inl ⟨_, _, SCallR.of [0] h (Hand.of rfl rfl (by simp) rfl rfl) rfl rfl rfl, ?_⟩
  refine ⟨_, addV (z := ((i + 1 : Nat) : Int)) (by push_cast; rfl) (by omega) (by omega), ?_⟩
  exact ⟨_, rfl, Wk.refl _, rfl, .cons (WkL.refl _) rfl (.nil _)⟩
 | false =>
  rw [if_neg (by simp)] at h
  refine Ok.enterS hE stepQ Tryz.func43 rfl (by decide +kernel) (by kernel_rfl) (by kernel_rfl) rfl rfl (Nat.le_of_ble_eq_true rfl) rfl ?_
  refine ⟨_, eqN (by dsimp only; decide), ?_⟩
  refine ⟨_, eqN (by dsimp only; decide), ?_⟩
  refine ⟨_, eqN (by dsimp only; decide), ?_⟩
  refine ⟨_, eqN (by dsimp only; decide), ?_⟩
  refine ⟨_, eqN (by dsimp only; decide), ?_⟩
  refine ⟨_, eqN (by dsimp only; decide), ?_⟩
  refine ⟨_, eqN (by dsimp only; decide), ?_⟩
  refine ⟨_, eqT rfl, ?_⟩
  refine ⟨_, gtV hb, ?_⟩
  refine .inl ⟨_, _, SCallR.of [0] h (Hand.of rfl rfl (by simp) rfl rfl) rfl rfl rfl, ?_⟩
  refine ⟨_, addV (z := ((i + 1 : Nat) : Int)) (by push_cast; rfl) (by omega) (by omega), ?_⟩
  exact ⟨_, rfl, Wk.refl _, rfl, .cons (WkL.refl _) rfl (.nil _)⟩
theorem st_unless_none {z : Int} (ht : Ok E 91 [rB s 0] [.ptr 0 0] (.agg (cellP (z, false))) [rB s' e']) : Ok E 43 [rB s 0] [.ptr 0 0, pIn ⟨12, n, nm⟩, .c (.int .i64 i), .c (.row (rowO R))] (.c (.int .i64 n)) [rB s' e'] := by
 refine Ok.enterS hE stepQ Tryz.func43 rfl (by decide +kernel) (by kernel_rfl) (by kernel_rfl) rfl rfl (Nat.le_of_ble_eq_true rfl) rfl ?_
 refine ⟨_, eqN (by dsimp only; decide), ?_⟩
 refine ⟨_, eqN (by dsimp only; decide), ?_⟩
 refine ⟨_, eqN (by dsimp only; decide), ?_⟩
 refine ⟨_, eqN (by dsimp only; decide), ?_⟩
 refine ⟨_, eqN (by dsimp only; decide), ?_⟩
 refine ⟨_, eqN (by dsimp only; decide), ?_⟩
 refine ⟨_, eqN (by dsimp only; decide), ?_⟩
 refine ⟨_, eqN (by dsimp only; decide), ?_⟩
 refine ⟨_, eqT rfl, ?_⟩
 refine .inl ⟨_, _, SCallR.of [0] ht (Hand.of rfl rfl (by simp) rfl rfl) rfl rfl rfl, ?_⟩
 exact ⟨_, rfl, Wk.refl _, rfl, .cons (WkL.refl _) rfl (.nil _)⟩
theorem st_unless_yes (hi : i ≤ 1000000) {z : Int} (ht : Ok E 91 [rB s 0] [.ptr 0 0] (.agg (cellP (z, true))) [rB s' 0]) (a' : Int) (ha : a' = if z = 0 then n else ((i + 1 : Nat) : Int)) : Ok E 43 [rB s 0] [.ptr 0 0, pIn ⟨12, n, nm⟩, .c (.int .i64 i), .c (.row (rowO R))] (.c (.int .i64 a')) [rB s' 0] := by
 by_cases hz : z = 0
 ·rw [if_pos hz] at ha
  subst ha
  refine Ok.enterS hE stepQ Tryz.func43 rfl (by decide +kernel) (by kernel_rfl) (by kernel_rfl) rfl rfl (Nat.le_of_ble_eq_true rfl) rfl ?_
  refine ⟨_, eqN (by dsimp only; decide), ?_⟩
  refine ⟨_, eqN (by dsimp only; decide), ?_⟩
  refine ⟨_, eqN (by dsimp only; decide), ?_⟩
  refine ⟨_, eqN (by dsimp only; decide), ?_⟩
  refine ⟨_, eqN (by dsimp only; decide), ?_⟩
  refine ⟨_, eqN (by dsimp only; decide), ?_⟩
  refine ⟨_, eqN (by dsimp only; decide), ?_⟩
  refine ⟨_, eqN (by dsimp only; decide), ?_⟩
  refine ⟨_, eqT rfl, ?_⟩
  refine .inl ⟨_, _, SCallR.of [0] ht (Hand.of rfl rfl (by simp) rfl rfl) rfl rfl rfl, ?_⟩
  refine ⟨_, eqT hz, ?_⟩
  exact ⟨_, rfl, Wk.refl _, rfl, .cons (WkL.refl _) rfl (.nil _)⟩
 ·rw [if_neg hz] at ha
  subst ha
  refine Ok.enterS hE stepQ Tryz.func43 rfl (by decide +kernel) (by kernel_rfl) (by kernel_rfl) rfl rfl (Nat.le_of_ble_eq_true rfl) rfl ?_
  refine ⟨_, eqN (by dsimp only; decide), ?_⟩
  refine ⟨_, eqN (by dsimp only; decide), ?_⟩
  refine ⟨_, eqN (by dsimp only; decide), ?_⟩
  refine ⟨_, eqN (by dsimp only; decide), ?_⟩
  refine ⟨_, eqN (by dsimp only; decide), ?_⟩
  refine ⟨_, eqN (by dsimp only; decide), ?_⟩
  refine ⟨_, eqN (by dsimp only; decide), ?_⟩
  refine ⟨_, eqN (by dsimp only; decide), ?_⟩
  refine ⟨_, eqT rfl, ?_⟩
  refine .inl ⟨_, _, SCallR.of [0] ht (Hand.of rfl rfl (by simp) rfl rfl) rfl rfl rfl, ?_⟩
  refine ⟨_, eqN hz, ?_⟩
  refine ⟨_, addV (z := ((i + 1 : Nat) : Int)) (by push_cast; rfl) (by omega) (by omega), ?_⟩
  exact ⟨_, rfl, Wk.refl _, rfl, .cons (WkL.refl _) rfl (.nil _)⟩
theorem st_jump : Ok E 43 [rB s 0] [.ptr 0 0, pIn ⟨13, n, nm⟩, .c (.int .i64 i), .c (.row (rowO R))] (.c (.int .i64 n)) [rB s 0] := by
 refine Ok.enterS hE stepQ Tryz.func43 rfl (by decide +kernel) (by kernel_rfl) (by kernel_rfl) rfl rfl (Nat.le_of_ble_eq_true rfl) rfl ?_
 refine ⟨_, eqN (by dsimp only; decide), ?_⟩
 refine ⟨_, eqN (by dsimp only; decide), ?_⟩
 refine ⟨_, eqN (by dsimp only; decide), ?_⟩
 refine ⟨_, eqN (by dsimp only; decide), ?_⟩
 refine ⟨_, eqN (by dsimp only; decide), ?_⟩
 refine ⟨_, eqN (by dsimp only; decide), ?_⟩
 refine ⟨_, eqN (by dsimp only; decide), ?_⟩
 refine ⟨_, eqN (by dsimp only; decide), ?_⟩
 refine ⟨_, eqN (by dsimp only; decide), ?_⟩
 refine ⟨_, eqT rfl, ?_⟩
 exact ⟨_, rfl, Wk.refl _, rfl, .cons (WkL.refl _) rfl (.nil _)⟩
end
end Go.Proofs.YtgpkppohfodhdaaGreatDoor.Ru
namespace Go.Proofs.YtgpkppohfodhdaaGreatDoor.Ru
open Go Go.RowKit Go.Proofs.YtgpkppohfodhdaaGreatDoor.Pm Go.Proofs.YtgpkppohfodhdaaGreatDoor.Pl Go.Proofs.YtgpkppohfodhdaaGreatDoor.Va
set_option linter.unusedVariables false
set_option maxHeartbeats 4000000
set_option maxRecDepth 8000
theorem sd_put {R : List Of} {x : Ins} {t : List Ce} {i : Nat} {c : Ce} (h : ∀ s' e', Ok E 89 [rB t.reverse 0] [.ptr 0 0, .c (.int .i64 c.1), .c (.bool c.2)] (.tup []) [rB s' e'] → Ok E 43 [rB t.reverse 0] [.ptr 0 0, pIn x, .c (.int .i64 i), .c (.row (rowO R))] (.c (.int .i64 ((i + 1 : Nat) : Int))) [rB s' e'])
  (hs : stepF R x t (i + 1) = putF c t (i + 1)) : StepD R x t i := by
 refine ⟨_, _, _, h _ _ (rput_all t.reverse c), ?_⟩
 rw [hs]
 unfold putF putS putE
 rw [List.length_reverse]
 by_cases hl : 100 ≤ t.length
 ·rw [if_pos hl, if_pos hl, if_pos hl]
 ·rw [if_neg hl, if_neg hl, if_neg hl]
  exact ⟨by simp, rfl, rfl⟩
theorem rleaf_ok {R : List Of} (hR : rightO R = true) {k : Int} {nm : ByteArray} (hr : isRight ⟨k, 0, nm, []⟩ = true) {r : Am} (he : evalE R ⟨k, 0, nm, []⟩ = r) : Ok E 22 [] [.agg [.int .i64 k, .int .i64 0, .str nm, .row []], .c (.row (rowO R))] (.tup [.c (.int .i64 (amC r).1), .c (.bool (amC r).2), .c (.int .i64 (amE r))]) [] := by
 have h8 := (right_iff.1 hR).2.1
 have h := rEval9_ok ⟨k, 0, nm, []⟩ R (leaf_rng ⟨by decide, by decide⟩) (by rw [size, sizeL]; decide) (by omega)
 have ht : tellA ⟨k, 0, nm, []⟩ R = r := by unfold tellA; rw [hR, hr, ← he]; rfl
 rw [ht] at h
 have hc : cellsE ⟨k, 0, nm, []⟩ = [.int .i64 k, .int .i64 0, .str nm, .row []] := by rw [cellsE, encL]
 have hp : pE ⟨k, 0, nm, []⟩ = .agg [.int .i64 k, .int .i64 0, .str nm, .row []] := congrArg PV.agg hc
 rw [hp] at h
 rw [← amC_eq]; exact h
theorem sd_minus {R : List Of} {x : Ins} {t : List Ce} {i : Nat} {by_ : Int → Am} (hg : Good t) (hb : ∀ n, -1000000000000 ≤ n → n ≤ 1000000000000 → (∃ b, by_ n = .am b ∧ -1000000000000 ≤ b ∧ b ≤ 1000000000000) ∨ by_ n = .er 10)
  (h : ∀ (c : Ce) (s1 s' : List Ce) (e1 e' : Int), (-1000000000000 ≤ c.1 ∧ c.1 ≤ 1000000000000) → Ok E 91 [rB t.reverse 0] [.ptr 0 0] (.agg (cellP c)) [rB s1 e1] → Ok E 90 [rB s1 e1] [.ptr 0 0, .agg (cellP c), .c (.int .i64 (amN (by_ c.1))), .c (.int .i64 (amE (by_ c.1)))] (.tup []) [rB s' e'] →
   Ok E 43 [rB t.reverse 0] [.ptr 0 0, pIn x, .c (.int .i64 i), .c (.row (rowO R))] (.c (.int .i64 ((i + 1 : Nat) : Int))) [rB s' e'])
  (hs : stepF R x t (i + 1) = minusF by_ t (i + 1)) : StepD R x t i := by
 match t, hg, hs, h with
 | [], hg, hs, h =>
  refine ⟨_, _, _, h (0, false) _ _ _ _ ⟨by decide, by decide⟩ rtake_no (rminus_none _ _ _ _ _ _ _ (rput_err [] 100 (by decide) (0, false))), ?_⟩
  rw [hs]; rfl
 | (n, false) :: t, hg, hs, h =>
  have hl := hg.len
  obtain ⟨n0, n1, n2⟩ := hg.head
  have hn : n = 0 := n2 rfl
  subst hn
  rw [List.reverse_cons] at h
  have ht := rtake_ok t.reverse (0, false) (by simp at hl ⊢; omega)
  have hp := rput_ok t.reverse (0, false) (by simp at hl ⊢; omega)
  unfold StepD
  rw [hs, List.reverse_cons]
  exact ⟨_, _, _, h (0, false) _ _ _ _ ⟨n0, n1⟩ ht (rminus_none _ _ _ _ _ _ _ hp), by simp, rfl, rfl⟩
 | (n, true) :: t, hg, hs, h =>
  have hl := hg.len
  obtain ⟨n0, n1, n2⟩ := hg.head
  dsimp only at n0 n1
  rw [List.reverse_cons] at h
  have hl1 : t.reverse.length + 1 ≤ 100 := by simp at hl ⊢; omega
  have ht := rtake_ok t.reverse (n, true) hl1
  unfold StepD
  rw [hs, List.reverse_cons]
  show ∃ s' a' e', _ ∧ match amS t (i + 1) (lessF by_ (.am n)) with
   | .go t' b => s' = t'.reverse ∧ a' = (b : Int) ∧ e' = 0
   | .er e => e' = e
  have h1 := h (n, true) t.reverse
  dsimp only at h1
  rcases hb n n0 n1 with ⟨b, hb, b0, b1⟩ | hb
  ·have hl2 : lessF by_ (.am n) = subF n b := by unfold lessF; dsimp only; rw [hb]
   rw [hb] at h1
   rw [hl2]
   have hS := r1Sub_ok n b n0 n1 b0 b1
   rcases subF_cases n b with ⟨c, hc, -⟩ | hc
   ·rw [hc] at hS ⊢
    exact ⟨_, _, _, h1 _ 0 0 ⟨n0, n1⟩ ht (rminus_sub t.reverse n b c (by omega) hS), by simp, rfl, rfl⟩
   ·rw [hc] at hS ⊢
    exact ⟨_, _, _, h1 _ 0 10 ⟨n0, n1⟩ ht (rminus_far t.reverse n b 0 10 (by decide) hS), rfl⟩
  ·have hl2 : lessF by_ (.am n) = .er 10 := by unfold lessF; dsimp only; rw [hb]
   rw [hb] at h1
   rw [hl2]
   exact ⟨_, _, _, h1 _ 0 10 ⟨n0, n1⟩ ht (rminus_err t.reverse n 0 10 (by decide)), rfl⟩
theorem sd_two {R : List Of} {op n : Int} {nm : ByteArray} {t : List Ce} {i : Nat} {of_ : Ce → Ce → Ce} (hop : op = 7 ∨ op = 8 ∨ op = 11) (hi : i ≤ 1000000) (hg : Good t) (ho : ∀ x y, putTwo op x y = of_ x y) (hs : stepF R ⟨op, n, nm⟩ t (i + 1) = twoF of_ t (i + 1)) : StepD R ⟨op, n, nm⟩ t i := by
 match t, hg, hs with
 | [], hg, hs => exact ⟨_, _, _, st_two hop hi (rtwo_no op [] (by decide)), by rw [hs]; rfl⟩
 | [c], hg, hs => exact ⟨_, _, _, st_two hop hi (rtwo_no op [c] (by simp)), by rw [hs]; rfl⟩
 | v :: u :: t, hg, hs =>
  have hl := hg.len
  refine ⟨_, _, _, st_two hop hi (rtwo_ok op t u v (by simp at hl; omega)), ?_⟩
  rw [hs]
  exact ⟨by rw [ho], rfl, rfl⟩
theorem rstep_ok {R : List Of} {x : Ins} {i : Nat} {z : Int} {t : List Ce} (hR : rightO R = true) (hz : z ≤ 5000) (hi : i ≤ 1000000) (hx : rightI x i z = true) (hg : Good t) : StepD R x t i := by
 obtain ⟨ho, n0, n1, hl⟩ := ins_cases hz hx
 obtain ⟨-, -, -, -, f5, f6, f7⟩ := right_facts hz hx
 obtain ⟨op, n, nm⟩ := x
 dsimp only at ho n0 n1 hl f5 f6 f7
 rcases ho with rfl | rfl | rfl | rfl | rfl | rfl | rfl | rfl | rfl | rfl | rfl | rfl | rfl
 ·exact sd_put (c := (n, true)) (fun s' e' h => st_push hi h) rfl
 ·have hr := rleaf_ok hR (leaf_right (.inl ⟨rfl, rfl⟩) (nm_of (x := ⟨2, 0, nm⟩) (k := 1) (by decide) (f7 (by decide)))) ev1
  exact sd_put (c := amC (rankF (prs R) 0)) (fun s' e' h => st_leaf2 hi hr h) rfl
 ·have hr := rleaf_ok hR (leaf_right (.inr (.inl ⟨rfl, rfl⟩)) (nm_of (x := ⟨3, 0, nm⟩) (k := 2) (by decide) (f7 (by decide)))) ev2
  exact sd_put (c := amC (rankF (prs R) 1)) (fun s' e' h => st_leaf3 hi hr h) rfl
 ·have hr := rleaf_ok hR (leaf_right (.inr (.inr (.inl ⟨rfl, rfl⟩))) (by unfold isNamed; rw [if_pos rfl]; exact f6 rfl)) ev3
  exact sd_put (c := amC (fromF nm R)) (fun s' e' h => st_leaf4 hi hr h) rfl
 ·exact sd_minus (by_ := fun _ => .am n) hg (fun m _ _ => .inl ⟨n, rfl, by omega, n1⟩) (fun c s1 s' e1 e' _ ht h => st_less hi ht h) rfl
 ·have n6 := cut_rng hx rfl
  exact sd_minus (by_ := fun m => partF m n) hg (fun m _ _ => partF_cases m n) (fun c s1 s' e1 e' hc ht h => st_cut hi ht (r1Part_ok c.1 n hc.1 hc.2 n0 n6) h) rfl
 ·exact sd_two (of_ := pairF min) (.inl rfl) hi hg (fun x y => rfl) rfl
 ·exact sd_two (of_ := pairF max) (.inr (.inl rfl)) hi hg (fun x y => rfl) rfl
 ·obtain ⟨h1, -⟩ := hl (.inl rfl)
  match t, hg with
  | [], hg => exact ⟨_, _, _, st_else_no (z := 0) hi rtake_no, rfl⟩
  | (m, false) :: t, hg =>
   have hlen := hg.len
   unfold StepD
   rw [List.reverse_cons]
   exact ⟨_, _, _, st_else_no hi (rtake_ok t.reverse (m, false) (by simp at hlen ⊢; omega)), rfl, rfl, rfl⟩
  | (m, true) :: t, hg =>
   have hlen := hg.len
   unfold StepD
   rw [List.reverse_cons]
   exact ⟨_, _, _, st_else_yes (rtake_ok t.reverse (m, true) (by simp at hlen ⊢; omega)) (rput_ok t.reverse (m, true) (by simp at hlen ⊢; omega)), (List.reverse_cons).symm, by show n = ((n.toNat : Nat) : Int); omega, rfl⟩
 ·have e := rowO_len R
  exact sd_put (c := (if decide ((R.length : Int) > n) = true then 1 else 0, true)) (fun s' e' h => st_more hi (b := decide ((R.length : Int) > n)) (by rw [e]) h) rfl
 ·exact sd_two (of_ := aboveC) (.inr (.inr rfl)) hi hg (fun x y => rfl) rfl
 ·obtain ⟨h1, -⟩ := hl (.inr (.inl rfl))
  match t, hg with
  | [], hg => exact ⟨_, _, _, st_unless_none (z := 0) rtake_no, rfl⟩
  | (m, false) :: t, hg =>
   have hlen := hg.len
   have hm : m = 0 := hg.head.2.2 rfl
   subst hm
   unfold StepD
   rw [List.reverse_cons]
   exact ⟨_, _, _, st_unless_none (rtake_ok t.reverse (0, false) (by simp at hlen ⊢; omega)), rfl, by show n = ((n.toNat : Nat) : Int); omega, rfl⟩
  | (m, true) :: t, hg =>
   have hlen := hg.len
   unfold StepD
   rw [List.reverse_cons]
   refine ⟨_, _, _, st_unless_yes hi (rtake_ok t.reverse (m, true) (by simp at hlen ⊢; omega)) _ rfl, rfl, ?_, rfl⟩
   show (if m = 0 then n else ((i + 1 : Nat) : Int)) = ((if m = 0 then n.toNat else i + 1 : Nat) : Int)
   split <;> omega
 ·obtain ⟨h1, -⟩ := hl (.inr (.inr rfl))
  exact ⟨_, _, _, st_jump, rfl, by show n = ((n.toNat : Nat) : Int); omega, rfl⟩
end Go.Proofs.YtgpkppohfodhdaaGreatDoor.Ru
namespace Go.Proofs.YtgpkppohfodhdaaGreatDoor.Ru
open Go Go.RowKit Go.Proofs.YtgpkppohfodhdaaGreatDoor.Pm Go.Proofs.YtgpkppohfodhdaaGreatDoor.Pl Go.Proofs.YtgpkppohfodhdaaGreatDoor.Va
set_option linter.unusedVariables false
set_option maxHeartbeats 4000000
set_option maxRecDepth 8000
structure RndR (R : List Of) (l : List Ins) (eF : Int) (tF : List Ce) (nF : Nat) (s : List Ce) (at_ e : Int) (n : Nat) : Prop where
 h : (∃ (t : List Ce) (a : Nat), s = t.reverse ∧ at_ = a ∧ e = 0 ∧ Good t ∧ a ≤ l.length ∧ (runF R l (l.length - a) a t).2.1 = eF ∧ (runF R l (l.length - a) a t).2.2 + n = nF ∧ (runF R l (l.length - a) a t).1 = tF ∧ (n = 0 → t = [])) ∨ (e ≠ 0 ∧ e = eF ∧ n = nF ∧ n ≠ 0)
theorem RndR.step {R : List Of} {l : List Ins} {eF : Int} {tF : List Ce} {nF n a : Nat} {t : List Ce} {x : Ins} {s' : List Ce} {a' e' : Int} (hF : Fwd R l) (hg : Good t) (ha : l[a]? = some x) (h1 : (runF R l (l.length - a) a t).2.1 = eF) (h2 : (runF R l (l.length - a) a t).2.2 + n = nF) (h3 : (runF R l (l.length - a) a t).1 = tF)
  (hw : match stepF R x t (a + 1) with
   | .go t' b => s' = t'.reverse ∧ a' = (b : Int) ∧ e' = 0
   | .er e => e' = e) : RndR R l eF tF nF s' a' e' (n + 1) ∧ (e' = 0 → (a : Int) < a') := by
 have hi : a < l.length := (List.getElem?_eq_some_iff.1 ha).1
 obtain ⟨k, hk⟩ : ∃ k, l.length - a = k + 1 := ⟨l.length - a - 1, by omega⟩
 rw [hk, runF, ha] at h1 h2 h3
 dsimp only at h1 h2 h3
 cases hst : stepF R x t (a + 1) with
 | er e =>
  rw [hst] at h1 h2 h3 hw
  dsimp only at h1 h2 h3 hw
  have := step_err hst
  subst hw
  exact ⟨⟨.inr ⟨by omega, h1, by omega, by omega⟩⟩, fun h => by omega⟩
 | go t' b =>
  rw [hst] at h1 h2 h3 hw
  dsimp only at h1 h2 h3 hw
  obtain ⟨g1, g2, g3⟩ := hF a x t t' b ha hg hst
  obtain ⟨w1, w2, w3⟩ := hw
  rw [run_more hF k (l.length - b) b t' g1 (by omega) (Nat.le_refl _)] at h1 h2 h3
  replace h2 : (runF R l (l.length - b) b t').2.2 + 1 + n = nF := h2
  exact ⟨⟨.inl ⟨t', b, w1, w2, w3, g1, g3, h1, by omega, h3, fun h => by omega⟩⟩, fun _ => by omega⟩
def sJ : Nat → List Ce → PV
 | 0, _ => .c .nil
 | _ + 1, s => .stk 63 (rowP s)
@[reducible] def mJ (n : Nat) (s : List Ce) (e : Int) : List PV := [sJ n s, .c (.int .i64 e)]
theorem step_call {R : List Of} {x : Ins} {t s' : List Ce} {a n : Nat} {a' e' : Int} {X : List PV} (hn : n = 0 → t = []) (h : Ok E 43 [rB t.reverse 0] [.ptr 0 0, pIn x, .c (.int .i64 a), .c (.row (rowO R))] (.c (.int .i64 a')) [rB s' e']) :
  SCallR E 43 [X, mJ n t.reverse 0] [.ptr 1 0, pIn x, .c (.int .i64 a), .c (.row (rowO R))] (.c (.int .i64 a')) [X, mJ (n + 1) s' e'] := by
 cases n with
 | zero =>
  obtain rfl := hn rfl
  exact SCallR.oneW (i := 1) h rfl (.cons (Wk.nilStk _) (WkL.refl _)) rfl rfl rfl rfl rfl (StkOK.nilHd _ _)
 | succ n => exact SCallR.oneW (i := 1) h rfl (WkL.refl _) rfl rfl rfl rfl rfl (StkOK.refl _)
theorem rplay_ok (l : List Ins) (R : List Of) (hl : l.length ≤ 4611686018427387000) (hR8 : R.length ≤ 17592186043904) : Ok E 26 [] [.c (.row (rowI l)), .c (.row (rowO R))] (.tup [.agg (cellP (tellR R l).1), pI (tellR R l).2.1, pI (tellR R l).2.2]) [] := by
 have gV := rRight9_ok R hR8
 have gC := rRight10_ok l hl rName_ok
 unfold tellR
 rcases Bool.eq_false_or_eq_true (rightO R) with hR | hR
 rotate_left
 ·rw [hR, if_pos rfl]
  rw [hR] at gV
  refine Ok.enter hE Tryz.func26 rfl (by decide +kernel) (by kernel_rfl) rfl rfl (Nat.le_of_ble_eq_true rfl) rfl ?_
  refine ⟨_, CallR.mk1 gV rfl rfl, ?_⟩
  refine ⟨_, CallR.mk1 gC rfl rfl, ?_⟩
  exact Ret.mk _ rfl rfl rfl
 rw [hR, if_neg (by simp)]
 rw [hR] at gV
 rcases Bool.eq_false_or_eq_true (rightF l) with hC | hC
 rotate_left
 ·rw [hC, if_pos rfl]
  rw [hC] at gC
  refine Ok.enter hE Tryz.func26 rfl (by decide +kernel) (by kernel_rfl) rfl rfl (Nat.le_of_ble_eq_true rfl) rfl ?_
  refine ⟨_, CallR.mk1 gV rfl rfl, ?_⟩
  refine ⟨_, CallR.mk1 gC rfl rfl, ?_⟩
  exact Ret.mk _ rfl rfl rfl
 rw [hC, if_neg (by simp)]
 rw [hC] at gC
 have hF := fwd_of hR hC
 have h5 : l.length ≤ 5000 ∧ rightL l 0 l.length = true := by
  unfold rightF at hC
  rw [Bool.and_eq_true] at hC
  exact ⟨of_decide_eq_true hC.2, hC.1⟩
 obtain ⟨eF, heF⟩ : ∃ eF, (runF R l l.length 0 []).2.1 = eF := ⟨_, rfl⟩
 obtain ⟨nF, hnF⟩ : ∃ nF, (runF R l l.length 0 []).2.2 = nF := ⟨_, rfl⟩
 obtain ⟨tF, htF⟩ : ∃ tF, (runF R l l.length 0 []).1 = tF := ⟨_, rfl⟩
 have hnl : nF ≤ l.length := by rw [← hnF]; exact run_steps _ _ _
 have hE1 : endF (runF R l l.length 0 []) = if eF = 0 ∧ tF.length ≠ 1 then 100 else eF := by unfold endF; rw [heF, htF]
 rw [hE1, hnF, htF]
 dsimp only
 have hrl := rowI_len l
 have hR0 : RndR R l eF tF nF [] 0 0 0 := ⟨.inl ⟨[], 0, rfl, rfl, rfl, Good.nil, Nat.zero_le _, heF, hnF, htF, fun _ => rfl⟩⟩
 clear heF hnF htF hE1
 have bound : ∀ (a n : Nat) (t : List Ce) (x : Ins), l[a]? = some x → a < l.length → (runF R l (l.length - a) a t).2.2 + n = nF → n < l.length := by
  intro a n t x hx hlt h2
  obtain ⟨k, hk⟩ : ∃ k, l.length - a = k + 1 := ⟨l.length - a - 1, by omega⟩
  rw [hk, runF, hx] at h2
  dsimp only at h2
  split at h2 <;> (dsimp only at h2; omega)
 by_cases hz : (if eF = 0 ∧ tF.length ≠ 1 then (100 : Int) else eF) = 0
 ·-- one amount, or nothing, is told
  rw [if_pos hz]
  have hok : eF = 0 ∧ tF.length = 1 := by
   by_cases h0 : eF = 0 ∧ tF.length ≠ 1
   ·rw [if_pos h0] at hz; cases hz
   ·rw [if_neg h0] at hz
    exact ⟨hz, by omega⟩
  rw [hz]
  obtain ⟨c, hc⟩ : ∃ c, tF = [c] := by
   match tF, hok.2 with
   | [c], _ => exact ⟨c, rfl⟩
  rw [hc]
  show Ok E _ [] _ (.tup [.agg (cellP c), pI 0, pI nF]) []
  have hrow : (rowP [c])[0]? = some (cellP c) := rfl
  refine Ok.enterG hE 10 Tryz.func26 rfl (by decide +kernel) (by kernel_rfl) (by kernel_rfl) rfl rfl rfl (Nat.le_of_ble_eq_true rfl) rfl ?_
  refine ⟨_, CallR.mk1 gV rfl rfl, ?_⟩
  refine ⟨_, CallR.mk1 gC rfl rfl, ?_⟩
  refine Loop.cut (α := List Ce × Int × Int × Nat) (fun p => RndR R l eF tF nF p.1 p.2.1 p.2.2.1 p.2.2.2) (fun p => [(0, .c (.row (rowI l))), (1, .c (.row (rowO R))), (4, .ptr 0 0), (9, .ptr 1 0), (10, pI p.2.2.2), (11, pI p.2.1)]) (fun p => [[.c (.int .i64 0), .c (.bool false)], mJ p.2.2.2 p.1 p.2.2.1]) (fun _ => []) (fun p => if p.2.2.1 = 0 then 1 + (l.length - p.2.1.toNat) else 0) ([], 0, 0, 0) 2 (fun _ => rfl) (fun p => by
   obtain ⟨s, at_, e, n⟩ := p
   cases n <;> rfl) (fun _ => rfl) hR0 ⟨⟨rfl, rfl, rfl, rfl, rfl, rfl, trivial⟩, rfl, rfl⟩ ?_
  rintro ⟨s, at_, e, n⟩ f ⟨hP⟩
  dsimp only at hP
  rcases hP with ⟨t, a, rfl, rfl, rfl, hg, ha, h1, h2, h3, h4⟩ | ⟨hne, rfl, rfl, hn0⟩
  ·by_cases hlt : a < l.length
   ·obtain ⟨x, hx⟩ : ∃ x, l[a]? = some x := ⟨_, List.getElem?_eq_getElem hlt⟩
    have hri := right_at l 0 l.length h5.2 a x hx
    rw [Nat.zero_add] at hri
    obtain ⟨s', a', e', q2, q3⟩ := rstep_ok hR (by omega) (by omega) hri hg
    have hnx := bound a n t x hx hlt h2
    obtain ⟨hR', hlt'⟩ := RndR.step (n := n) hF hg hx h1 h2 h3 q3
    refine ⟨_, ltT (by dsimp only; rw [hrl]; omega), ?_⟩
    refine ⟨_, eqT rfl, ?_⟩
    refine ⟨_, idxV (j := a) (rowI_get hx) rfl rfl rfl rfl, ?_⟩
    refine .inl ⟨_, _, step_call h4 q2, ?_⟩
    refine ⟨_, addV (z := ((n + 1 : Nat) : Int)) (by push_cast; rfl) (by omega) (by omega), ?_⟩
    refine ⟨(s', a', e', n + 1), hR', ?_, ⟨rfl, rfl, rfl, rfl, rfl, rfl, trivial⟩, ⟨_, rfl⟩, rfl⟩
    dsimp only
    rw [if_pos rfl]
    split
    ·rename_i h0; have := hlt' h0; omega
    ·omega
   ·obtain rfl : a = l.length := by omega
    rw [Nat.sub_self] at h1 h2 h3
    obtain rfl : n = nF := by have h2 : 0 + n = nF := h2; omega
    obtain rfl : t = [c] := by have h3 : t = tF := h3; rw [h3, hc]
    cases n with
    | zero => exact absurd (h4 rfl) (by simp)
    | succ n =>
     refine ⟨_, ltN (by dsimp only; rw [hrl]; omega), ?_⟩
     refine ⟨_, eqT rfl, ?_⟩
     refine ⟨_, neN rfl, ?_⟩
     refine ⟨_, neN rfl, ?_⟩
     refine ⟨_, FrzR.mk1 1 0 rfl rfl rfl (by decide), ?_⟩
     refine ⟨_, idxV (j := 0) hrow rfl rfl rfl rfl, ?_⟩
     exact Ret.mk _ rfl rfl rfl
  ·exact absurd hok.1 hne
 ·rw [if_neg hz]
  obtain ⟨zE, hzE⟩ : ∃ z, (if eF = 0 ∧ tF.length ≠ 1 then (100 : Int) else eF) = z := ⟨_, rfl⟩
  rw [hzE] at hz ⊢
  refine Ok.enter hE Tryz.func26 rfl (by decide +kernel) (by kernel_rfl) rfl rfl (Nat.le_of_ble_eq_true rfl) rfl ?_
  refine ⟨_, CallR.mk1 gV rfl rfl, ?_⟩
  refine ⟨_, CallR.mk1 gC rfl rfl, ?_⟩
  refine Loop.cut (α := List Ce × Int × Int × Nat) (fun p => RndR R l eF tF nF p.1 p.2.1 p.2.2.1 p.2.2.2) (fun p => [(0, .c (.row (rowI l))), (1, .c (.row (rowO R))), (4, .ptr 0 0), (9, .ptr 1 0), (10, pI p.2.2.2), (11, pI p.2.1)]) (fun p => [[.c (.int .i64 0), .c (.bool false)], mJ p.2.2.2 p.1 p.2.2.1]) (fun _ => []) (fun p => if p.2.2.1 = 0 then 1 + (l.length - p.2.1.toNat) else 0) ([], 0, 0, 0) 2 (fun _ => rfl) (fun p => by
   obtain ⟨s, at_, e, n⟩ := p
   cases n <;> rfl) (fun _ => rfl) hR0 ⟨⟨rfl, rfl, rfl, rfl, rfl, rfl, trivial⟩, rfl, rfl⟩ ?_
  rintro ⟨s, at_, e, n⟩ f ⟨hP⟩
  dsimp only at hP
  rcases hP with ⟨t, a, rfl, rfl, rfl, hg, ha, h1, h2, h3, h4⟩ | ⟨hne, rfl, rfl, hn0⟩
  ·by_cases hlt : a < l.length
   ·obtain ⟨x, hx⟩ : ∃ x, l[a]? = some x := ⟨_, List.getElem?_eq_getElem hlt⟩
    have hri := right_at l 0 l.length h5.2 a x hx
    rw [Nat.zero_add] at hri
    obtain ⟨s', a', e', q2, q3⟩ := rstep_ok hR (by omega) (by omega) hri hg
    have hnx := bound a n t x hx hlt h2
    obtain ⟨hR', hlt'⟩ := RndR.step (n := n) hF hg hx h1 h2 h3 q3
    refine ⟨_, ltT (by dsimp only; rw [hrl]; omega), ?_⟩
    refine ⟨_, eqT rfl, ?_⟩
    refine ⟨_, idxV (j := a) (rowI_get hx) rfl rfl rfl rfl, ?_⟩
    refine .inl ⟨_, _, step_call h4 q2, ?_⟩
    refine ⟨_, addV (z := ((n + 1 : Nat) : Int)) (by push_cast; rfl) (by omega) (by omega), ?_⟩
    refine ⟨(s', a', e', n + 1), hR', ?_, ⟨rfl, rfl, rfl, rfl, rfl, rfl, trivial⟩, ⟨_, rfl⟩, rfl⟩
    dsimp only
    rw [if_pos rfl]
    split
    ·rename_i h0; have := hlt' h0; omega
    ·omega
   ·obtain rfl : a = l.length := by omega
    rw [Nat.sub_self] at h1 h2 h3
    obtain rfl : (0 : Int) = eF := h1
    obtain rfl : n = nF := by have h2 : 0 + n = nF := h2; omega
    obtain rfl : t = tF := h3
    have hn1 : t.length ≠ 1 := fun h => hz (by rw [← hzE, if_neg (fun h2 => h2.2 h)])
    obtain rfl : (100 : Int) = zE := by rw [← hzE, if_pos ⟨rfl, hn1⟩]
    cases n with
    | zero =>
     refine ⟨_, ltN (by dsimp only; rw [hrl]; omega), ?_⟩
     refine ⟨_, eqT rfl, ?_⟩
     refine ⟨_, neT (by decide), ?_⟩
     refine ⟨_, neT (by decide), ?_⟩
     exact Ret.mk _ rfl rfl rfl
    | succ n =>
     refine ⟨_, ltN (by dsimp only; rw [hrl]; omega), ?_⟩
     refine ⟨_, eqT rfl, ?_⟩
     refine ⟨_, neT (by dsimp only; rw [rowP_len, List.length_reverse]; omega), ?_⟩
     refine ⟨_, neT (by decide), ?_⟩
     exact Ret.mk _ rfl rfl rfl
  ·have he : ¬ (e = 0 ∧ tF.length ≠ 1) := fun h => hne h.1
   obtain rfl : e = zE := by rw [← hzE, if_neg he]
   by_cases hlt : at_ < (l.length : Int)
   ·refine ⟨_, ltT (by dsimp only; rw [hrl]; exact hlt), ?_⟩
    refine ⟨_, eqN hne, ?_⟩
    refine ⟨_, eqN hne, ?_⟩
    refine ⟨_, neT hne, ?_⟩
    exact Ret.mk _ rfl rfl rfl
   ·refine ⟨_, ltN (by dsimp only; rw [hrl]; exact hlt), ?_⟩
    refine ⟨_, eqN hne, ?_⟩
    refine ⟨_, neT hne, ?_⟩
    exact Ret.mk _ rfl rfl rfl
theorem rRun_ok (l : List Ins) (R : List Of) (hl : l.length ≤ 4611686018427387000) (hR8 : R.length ≤ 17592186043904) : Ok E 14 [] [.c (.row (rowI l)), .c (.row (rowO R))] (pR (tellR R l)) [] := by
 have hp := rplay_ok l R hl hR8
 refine Ok.enter hE Tryz.func14 rfl (by decide +kernel) (by kernel_rfl) rfl rfl (Nat.le_of_ble_eq_true rfl) rfl ?_
 refine ⟨_, CallR.mk1 hp rfl rfl, ?_⟩
 exact Ret.mk _ rfl rfl rfl
theorem rSteps_ok (l : List Ins) (R : List Of) (hl : l.length ≤ 4611686018427387000) (hR8 : R.length ≤ 17592186043904) : Ok E 16 [] [.c (.row (rowI l)), .c (.row (rowO R))] (pI (tellR R l).2.2) [] := by
 have hp := rplay_ok l R hl hR8
 refine Ok.enter hE Tryz.func16 rfl (by decide +kernel) (by kernel_rfl) rfl rfl (Nat.le_of_ble_eq_true rfl) rfl ?_
 refine ⟨_, CallR.mk1 hp rfl rfl, ?_⟩
 exact Ret.mk _ rfl rfl rfl
end Go.Proofs.YtgpkppohfodhdaaGreatDoor.Ru
