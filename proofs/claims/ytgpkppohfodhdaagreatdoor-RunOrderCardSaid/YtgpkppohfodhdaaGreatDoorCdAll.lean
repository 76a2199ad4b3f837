import Derived.Test.YtgpkppohfodhdaaGreatDoorPmBll
import Derived.Test.YtgpkppohfodhdaaGreatDoorPtBll
import Derived.Test.YtgpkppohfodhdaaGreatDoorPtCll
namespace Go.Proofs.YtgpkppohfodhdaaGreatDoor.Pm
open Go Go.RowKit
structure Ins where
 op : Int
 n : Int
 nm : ByteArray
@[reducible] def cellsI (x : Ins) : List CV := [.int .i64 x.op, .int .i64 x.n, .str x.nm]
@[reducible] def pIn (x : Ins) : PV := .agg (cellsI x)
def rowI (l : List Ins) : List (List CV) := l.map cellsI
theorem rowI_len (l : List Ins) : (rowI l).length = l.length := by simp [rowI]
end Go.Proofs.YtgpkppohfodhdaaGreatDoor.Pm
namespace Go.Proofs.YtgpkppohfodhdaaGreatDoor.Pm
open Go Go.RowKit Go.Proofs.YtgpkppohfodhdaaGreatDoor.Pl
set_option linter.unusedVariables false
set_option maxHeartbeats 1000000
theorem rowI_get {l : List Ins} {j : Nat} {y : Ins} (h : l[j]? = some y) : (rowI l)[j]? = some (cellsI y) := by unfold rowI; rw [List.getElem?_map, h]; rfl
def endsF (op i len : Int) : Int × Int :=
 if op = 9 ∨ op = 12 ∨ op = 13 then (i + 1, len) else if op = 1 ∨ op = 5 then (0, 1000000000000) else if op = 6 then (0, 100000) else if op = 10 then (0, 1000) else (0, 0)
theorem ends_cases (op : Int) : (op = 9 ∨ (op ≠ 9 ∧ op = 12) ∨ (op ≠ 9 ∧ op ≠ 12 ∧ op = 13)) ∨ (op ≠ 9 ∧ op ≠ 12 ∧ op ≠ 13) ∧ ((op = 1 ∨ (op ≠ 1 ∧ op = 5)) ∨ (op ≠ 1 ∧ op ≠ 5) ∧ (op = 6 ∨ op ≠ 6 ∧ (op = 10 ∨ op ≠ 10))) := by omega
theorem ends_ok (x : Ins) (i len : Int) (h0 : 0 ≤ i) (h1 : i ≤ 4611686018427387904) : Ok E 75 [] [pIn x, pI i, pI len] (.tup [pI (endsF x.op i len).1, pI (endsF x.op i len).2]) [] := by
 obtain ⟨op, n, nm⟩ := x
 obtain ⟨r, hr⟩ : ∃ r, endsF op i len = r := ⟨_, rfl⟩
 rw [hr]
 unfold endsF at hr
 rcases ends_cases op with (h | ⟨h9, h⟩ | ⟨h9, h12, h⟩) | ⟨⟨h9, h12, h13⟩, (h | ⟨h1, h⟩) | ⟨⟨h1, h5⟩, h | ⟨h6, h | h⟩⟩⟩
 ·rw [if_pos (by omega)] at hr; subst hr
  refine Ok.enter hE Tryz.func75 rfl (by decide +kernel) (by kernel_rfl) rfl rfl (Nat.le_of_ble_eq_true rfl) rfl ?_
  refine ⟨_, eqT h, ?_⟩
  refine ⟨_, addV rfl (by omega) (by omega), ?_⟩
  exact Ret.mk _ rfl rfl rfl
 ·rw [if_pos (by omega)] at hr; subst hr
  refine Ok.enter hE Tryz.func75 rfl (by decide +kernel) (by kernel_rfl) rfl rfl (Nat.le_of_ble_eq_true rfl) rfl ?_
  refine ⟨_, eqN h9, ?_⟩
  refine ⟨_, eqT h, ?_⟩
  refine ⟨_, addV rfl (by omega) (by omega), ?_⟩
  exact Ret.mk _ rfl rfl rfl
 ·rw [if_pos (by omega)] at hr; subst hr
  refine Ok.enter hE Tryz.func75 rfl (by decide +kernel) (by kernel_rfl) rfl rfl (Nat.le_of_ble_eq_true rfl) rfl ?_
  refine ⟨_, eqN h9, ?_⟩
  refine ⟨_, eqN h12, ?_⟩
  refine ⟨_, eqT h, ?_⟩
  refine ⟨_, addV rfl (by omega) (by omega), ?_⟩
  exact Ret.mk _ rfl rfl rfl
 ·rw [if_neg (by omega), if_pos (by omega)] at hr; subst hr
  refine Ok.enter hE Tryz.func75 rfl (by decide +kernel) (by kernel_rfl) rfl rfl (Nat.le_of_ble_eq_true rfl) rfl ?_
  refine ⟨_, eqN h9, ?_⟩
  refine ⟨_, eqN h12, ?_⟩
  refine ⟨_, eqN h13, ?_⟩
  refine ⟨_, eqT h, ?_⟩
  exact Ret.mk _ rfl rfl rfl
 ·rw [if_neg (by omega), if_pos (by omega)] at hr; subst hr
  refine Ok.enter hE Tryz.func75 rfl (by decide +kernel) (by kernel_rfl) rfl rfl (Nat.le_of_ble_eq_true rfl) rfl ?_
  refine ⟨_, eqN h9, ?_⟩
  refine ⟨_, eqN h12, ?_⟩
  refine ⟨_, eqN h13, ?_⟩
  refine ⟨_, eqN h1, ?_⟩
  refine ⟨_, eqT h, ?_⟩
  exact Ret.mk _ rfl rfl rfl
 ·rw [if_neg (by omega), if_neg (by omega), if_pos h] at hr; subst hr
  refine Ok.enter hE Tryz.func75 rfl (by decide +kernel) (by kernel_rfl) rfl rfl (Nat.le_of_ble_eq_true rfl) rfl ?_
  refine ⟨_, eqN h9, ?_⟩
  refine ⟨_, eqN h12, ?_⟩
  refine ⟨_, eqN h13, ?_⟩
  refine ⟨_, eqN h1, ?_⟩
  refine ⟨_, eqN h5, ?_⟩
  refine ⟨_, eqT h, ?_⟩
  exact Ret.mk _ rfl rfl rfl
 ·rw [if_neg (by omega), if_neg (by omega), if_neg h6, if_pos h] at hr; subst hr
  refine Ok.enter hE Tryz.func75 rfl (by decide +kernel) (by kernel_rfl) rfl rfl (Nat.le_of_ble_eq_true rfl) rfl ?_
  refine ⟨_, eqN h9, ?_⟩
  refine ⟨_, eqN h12, ?_⟩
  refine ⟨_, eqN h13, ?_⟩
  refine ⟨_, eqN h1, ?_⟩
  refine ⟨_, eqN h5, ?_⟩
  refine ⟨_, eqN h6, ?_⟩
  refine ⟨_, eqT h, ?_⟩
  exact Ret.mk _ rfl rfl rfl
 ·rw [if_neg (by omega), if_neg (by omega), if_neg h6, if_neg h] at hr; subst hr
  refine Ok.enter hE Tryz.func75 rfl (by decide +kernel) (by kernel_rfl) rfl rfl (Nat.le_of_ble_eq_true rfl) rfl ?_
  refine ⟨_, eqN h9, ?_⟩
  refine ⟨_, eqN h12, ?_⟩
  refine ⟨_, eqN h13, ?_⟩
  refine ⟨_, eqN h1, ?_⟩
  refine ⟨_, eqN h5, ?_⟩
  refine ⟨_, eqN h6, ?_⟩
  refine ⟨_, eqN h, ?_⟩
  exact Ret.mk _ rfl rfl rfl
def rightI (x : Ins) (i len : Int) : Bool :=
 if x.op < 1 ∨ x.op > 13 ∨ x.n < (endsF x.op i len).1 ∨ x.n > (endsF x.op i len).2 then false else if x.op = 4 then isName x.nm else x.nm.toList == (⟨#[]⟩ : ByteArray).toList
def rightL : List Ins → Nat → Int → Bool
 | [], _, _ => true
 | x :: l, i, len => rightI x i len && rightL l (i + 1) len
def rightF (l : List Ins) : Bool := rightL l 0 l.length && decide (l.length ≤ 5000)
theorem name_ne {nm : ByteArray} (h : isName nm = true) : (nm.toList == (⟨#[]⟩ : ByteArray).toList) = false := by
 unfold isName at h
 rw [toList_data, toList_data]
 cases hl : nm.data.toList with
 | nil => rw [hl] at h; cases h
 | cons c l => rfl
theorem Right10_ok (l : List Ins) (hl : l.length ≤ 4611686018427387000) : Ok E 41 [] [.c (.row (rowI l))] (pB (rightF l)) [] := by
 have hrl := rowI_len l
 obtain ⟨v, hv⟩ : ∃ v, rightF l = v := ⟨_, rfl⟩
 rw [hv]
 unfold rightF at hv
 refine Ok.enter hE Tryz.func41 rfl (by decide +kernel) (by kernel_rfl) rfl rfl (Nat.le_of_ble_eq_true rfl) rfl ?_
 refine Loop.cut (α := Nat) (fun j => j ≤ l.length ∧ (rightL (l.drop j) j l.length && decide (l.length ≤ 5000)) = v) (fun j => [(0, .c (.row (rowI l))), (8, .c (.row (rowI l))), (9, pI l.length), (10, pI j)]) (fun _ => []) (fun _ => []) (fun j => l.length - j) 0 0 (fun _ => rfl) (fun _ => rfl) (fun _ => rfl) ⟨Nat.zero_le _, hv⟩ ⟨⟨rfl, rfl, by rw [← hrl]; rfl, rfl, trivial⟩, rfl, rfl⟩ ?_
 rintro j f ⟨hj, hjv⟩
 by_cases hjl : j < l.length
 rotate_left
 ·rw [List.drop_of_length_le (by omega), rightL, Bool.true_and] at hjv
  refine ⟨_, ltN (by omega), ?_⟩
  refine ⟨_, leV (c := v) (by rw [hrl, ← hjv]; exact decide_eq_decide.2 (by omega)), ?_⟩
  exact Ret.mk _ rfl rfl rfl
 obtain ⟨x, hx⟩ : ∃ x, l[j]? = some x := ⟨_, List.getElem?_eq_getElem hjl⟩
 have hd : l.drop j = x :: l.drop (j + 1) := by
  rw [List.drop_eq_getElem_cons hjl]
  rw [List.getElem?_eq_getElem hjl] at hx
  injection hx with hx
  rw [hx]
 rw [hd, rightL] at hjv
 have hE2 := ends_ok x j ((rowI l).length) (by omega) (by omega)
 have hN := Name_ok x.nm
 obtain ⟨op, n, nm⟩ := x
 obtain ⟨⟨lo, hi⟩, hlh⟩ : ∃ p, endsF op j l.length = p := ⟨_, rfl⟩
 have hI : rightI ⟨op, n, nm⟩ j l.length = if op < 1 ∨ op > 13 ∨ n < lo ∨ n > hi then false else if op = 4 then isName nm else nm.toList == (⟨#[]⟩ : ByteArray).toList := by
  unfold rightI
  dsimp only
  rw [hlh]
 rw [show endsF (⟨op, n, nm⟩ : Ins).op j ((rowI l).length) = (lo, hi) by rw [hrl]; exact hlh] at hE2
 rw [hI] at hjv
 refine ⟨_, ltT (by omega), ?_⟩
 refine ⟨_, idxV (j := j) (rowI_get hx) rfl rfl rfl rfl, ?_⟩
 refine ⟨_, CallR.mk1 hE2 rfl rfl, ?_⟩
 have hc : op < 1 ∨ (¬ op < 1 ∧ op > 13) ∨ (¬ op < 1 ∧ ¬ op > 13 ∧ n < lo) ∨ (¬ op < 1 ∧ ¬ op > 13 ∧ ¬ n < lo ∧ n > hi) ∨ (¬ op < 1 ∧ ¬ op > 13 ∧ ¬ n < lo ∧ ¬ n > hi) := by omega
 rcases hc with h | ⟨c1, h⟩ | ⟨c1, c2, h⟩ | ⟨c1, c2, c3, h⟩ | ⟨c1, c2, c3, c4⟩
 ·rw [if_pos (by omega), Bool.false_and, Bool.false_and] at hjv
  refine ⟨_, ltT h, ?_⟩
  exact Ret.mk _ rfl (congrArg (fun b : Bool => pB b) hjv) rfl
 ·rw [if_pos (by omega), Bool.false_and, Bool.false_and] at hjv
  refine ⟨_, ltN c1, ?_⟩
  refine ⟨_, gtT h, ?_⟩
  exact Ret.mk _ rfl (congrArg (fun b : Bool => pB b) hjv) rfl
 ·rw [if_pos (by omega), Bool.false_and, Bool.false_and] at hjv
  refine ⟨_, ltN c1, ?_⟩
  refine ⟨_, gtN c2, ?_⟩
  refine ⟨_, ltT h, ?_⟩
  exact Ret.mk _ rfl (congrArg (fun b : Bool => pB b) hjv) rfl
 ·rw [if_pos (by omega), Bool.false_and, Bool.false_and] at hjv
  refine ⟨_, ltN c1, ?_⟩
  refine ⟨_, gtN c2, ?_⟩
  refine ⟨_, ltN c3, ?_⟩
  refine ⟨_, gtT h, ?_⟩
  exact Ret.mk _ rfl (congrArg (fun b : Bool => pB b) hjv) rfl
 rw [if_neg (by omega)] at hjv
 refine ⟨_, ltN c1, ?_⟩
 refine ⟨_, gtN c2, ?_⟩
 refine ⟨_, ltN c3, ?_⟩
 refine ⟨_, gtN c4, ?_⟩
 have hop : op = 4 ∨ op ≠ 4 := by omega
 rcases hop with h4 | h4
 ·rw [if_pos h4] at hjv
  refine ⟨_, eqT h4, ?_⟩
  rcases Bool.eq_false_or_eq_true (isName nm) with hn | hn
  ·rw [hn, Bool.true_and] at hjv
   rw [hn] at hN
   refine ⟨_, CallR.mk1 hN rfl rfl, ?_⟩
   refine ⟨_, neBN rfl, ?_⟩
   refine ⟨_, addV rfl (by omega) (by omega), ?_⟩
   exact ⟨j + 1, ⟨hjl, hjv⟩, by show l.length - (j + 1) < l.length - j; omega, ⟨rfl, rfl, rfl, rfl, trivial⟩, ⟨_, rfl⟩, rfl⟩
  ·rw [hn, Bool.false_and, Bool.false_and] at hjv
   rw [hn] at hN
   refine ⟨_, CallR.mk1 hN rfl rfl, ?_⟩
   refine ⟨_, neBT rfl, ?_⟩
   exact Ret.mk _ rfl (congrArg (fun b : Bool => pB b) hjv) rfl
 ·rw [if_neg h4] at hjv
  refine ⟨_, eqN h4, ?_⟩
  rcases Bool.eq_false_or_eq_true (isName nm) with hn | hn
  ·rw [name_ne hn, Bool.false_and, Bool.false_and] at hjv
   rw [hn] at hN
   refine ⟨_, CallR.mk1 hN rfl rfl, ?_⟩
   refine ⟨_, neBT rfl, ?_⟩
   exact Ret.mk _ rfl (congrArg (fun b : Bool => pB b) hjv) rfl
  ·rw [hn] at hN
   rcases Bool.eq_false_or_eq_true (nm.toList == (⟨#[]⟩ : ByteArray).toList) with he | he
   ·rw [he, Bool.true_and] at hjv
    refine ⟨_, CallR.mk1 hN rfl rfl, ?_⟩
    refine ⟨_, neBN rfl, ?_⟩
    refine ⟨_, strNeV (c := false) (by rw [he]; rfl), ?_⟩
    refine ⟨_, addV rfl (by omega) (by omega), ?_⟩
    exact ⟨j + 1, ⟨hjl, hjv⟩, by show l.length - (j + 1) < l.length - j; omega, ⟨rfl, rfl, rfl, rfl, trivial⟩, ⟨_, rfl⟩, rfl⟩
   ·rw [he, Bool.false_and, Bool.false_and] at hjv
    refine ⟨_, CallR.mk1 hN rfl rfl, ?_⟩
    refine ⟨_, neBN rfl, ?_⟩
    refine ⟨_, strNeV (c := true) (by rw [he]; rfl), ?_⟩
    exact Ret.mk _ rfl (congrArg (fun b : Bool => pB b) hjv) rfl
end Go.Proofs.YtgpkppohfodhdaaGreatDoor.Pm
namespace Go.Proofs.YtgpkppohfodhdaaGreatDoor.Pm
open Go Go.RowKit Go.Proofs.YtgpkppohfodhdaaGreatDoor.Pl
set_option linter.unusedVariables false
set_option maxHeartbeats 1000000
theorem dropI {l : List Ins} {j : Nat} {x : Ins} (hx : l[j]? = some x) : l.drop j = x :: l.drop (j + 1) := by
 obtain ⟨h, e⟩ := List.getElem?_eq_some_iff.1 hx
 rw [List.drop_eq_getElem_cons h, e]
end Go.Proofs.YtgpkppohfodhdaaGreatDoor.Pm
namespace Go.Proofs.YtgpkppohfodhdaaGreatDoor.Pm
open Go Go.RowKit Go.Proofs.YtgpkppohfodhdaaGreatDoor.Pl
set_option linter.unusedVariables false
set_option maxHeartbeats 1000000
theorem rRight10_ok (l : List Ins) (hl : l.length ≤ 4611686018427387000) (hN : ∀ nm, Ok E 27 [] [pS nm] (pB (isName nm)) []) : Ok E 18 [] [.c (.row (rowI l))] (pB (rightF l)) [] := by
 have hrl := rowI_len l
 obtain ⟨v, hv⟩ : ∃ v, rightF l = v := ⟨_, rfl⟩
 rw [hv]
 unfold rightF at hv
 by_cases hbig : 5000 < l.length
 ·rw [decide_eq_false (by omega), Bool.and_false] at hv
  subst hv
  refine Ok.enter hE Tryz.func18 rfl (by decide +kernel) (by kernel_rfl) rfl rfl (Nat.le_of_ble_eq_true rfl) rfl ?_
  refine ⟨_, gtT (by rw [hrl]; omega), ?_⟩
  exact Ret.mk _ rfl rfl rfl
 rw [decide_eq_true (by omega), Bool.and_true] at hv
 refine Ok.enter hE Tryz.func18 rfl (by decide +kernel) (by kernel_rfl) rfl rfl (Nat.le_of_ble_eq_true rfl) rfl ?_
 refine ⟨_, gtN (by rw [hrl]; omega), ?_⟩
 refine Loop.run (α := Nat) (fun j => j ≤ l.length ∧ rightL (l.drop j) j l.length = v) (fun j => [(0, .c (.row (rowI l))), (3, pI j)]) (fun _ => []) (fun _ => []) (fun j => l.length - j) 0 ⟨Nat.zero_le _, hv⟩ ⟨⟨rfl, rfl, trivial⟩, rfl, rfl⟩ ?_
 rintro j f ⟨hj, hjv⟩
 by_cases hjl : j < l.length
 rotate_left
 ·rw [List.drop_of_length_le (by omega), rightL] at hjv
  refine ⟨_, ltN (by rw [hrl]; omega), ?_⟩
  exact Ret.mk _ rfl (congrArg (fun b : Bool => pB b) hjv) rfl
 obtain ⟨x, hx⟩ : ∃ x, l[j]? = some x := ⟨_, List.getElem?_eq_getElem hjl⟩
 rw [dropI hx, rightL] at hjv
 have hN := hN x.nm
 obtain ⟨op, n, nm⟩ := x
 have hNm : Ok E _ [] [pS nm] (pB (isName nm)) [] := hN
 have hI : ∀ lo hi : Int, endsF op j l.length = (lo, hi) → rightI ⟨op, n, nm⟩ j l.length = if op < 1 ∨ op > 13 ∨ n < lo ∨ n > hi then false else if op = 4 then isName nm else nm.toList == (⟨#[]⟩ : ByteArray).toList := by
  intro lo hi h
  unfold rightI
  dsimp only
  rw [h]
 have hne := fun h : isName nm = true => name_ne h
 refine ⟨_, ltT (by rw [hrl]; omega), ?_⟩
 refine ⟨_, idxV (j := j) (rowI_get hx) rfl rfl rfl rfl, ?_⟩
 rcases ends_cases op with (h | ⟨h9, h⟩ | ⟨h9, h12, h⟩) | ⟨⟨h9, h12, h13⟩, (h | ⟨h1, h⟩) | ⟨⟨h1, h5⟩, h | ⟨h6, h | h⟩⟩⟩
 ·rw [hI ((j : Int) + 1) ((l.length : Int)) (by unfold endsF; rw [if_pos (by omega)])] at hjv
  refine ⟨_, eqT h, ?_⟩
  refine ⟨_, addV rfl (by omega) (by omega), ?_⟩
  have hc : op < 1 ∨ (¬ op < 1 ∧ op > 13) ∨ (¬ op < 1 ∧ ¬ op > 13 ∧ n < ((j : Int) + 1 : Int)) ∨ (¬ op < 1 ∧ ¬ op > 13 ∧ ¬ n < ((j : Int) + 1 : Int) ∧ n > ((l.length : Int) : Int)) ∨ (¬ op < 1 ∧ ¬ op > 13 ∧ ¬ n < ((j : Int) + 1 : Int) ∧ ¬ n > ((l.length : Int) : Int)) := by omega
  rcases hc with c | ⟨c1, c⟩ | ⟨c1, c2, c⟩ | ⟨c1, c2, c3, c⟩ | ⟨c1, c2, c3, c4⟩
  ·rw [if_pos (by omega), Bool.false_and] at hjv
   refine ⟨_, idxV (j := j) (rowI_get hx) rfl rfl rfl rfl, ?_⟩
   refine ⟨_, ltT c, ?_⟩
   exact Ret.mk _ rfl (congrArg (fun b : Bool => pB b) hjv) rfl
  ·rw [if_pos (by omega), Bool.false_and] at hjv
   refine ⟨_, idxV (j := j) (rowI_get hx) rfl rfl rfl rfl, ?_⟩
   refine ⟨_, ltN c1, ?_⟩
   refine ⟨_, idxV (j := j) (rowI_get hx) rfl rfl rfl rfl, ?_⟩
   refine ⟨_, gtT c, ?_⟩
   exact Ret.mk _ rfl (congrArg (fun b : Bool => pB b) hjv) rfl
  ·rw [if_pos (by omega), Bool.false_and] at hjv
   refine ⟨_, idxV (j := j) (rowI_get hx) rfl rfl rfl rfl, ?_⟩
   refine ⟨_, ltN c1, ?_⟩
   refine ⟨_, idxV (j := j) (rowI_get hx) rfl rfl rfl rfl, ?_⟩
   refine ⟨_, gtN c2, ?_⟩
   refine ⟨_, idxV (j := j) (rowI_get hx) rfl rfl rfl rfl, ?_⟩
   refine ⟨_, ltT c, ?_⟩
   exact Ret.mk _ rfl (congrArg (fun b : Bool => pB b) hjv) rfl
  ·rw [if_pos (by omega), Bool.false_and] at hjv
   refine ⟨_, idxV (j := j) (rowI_get hx) rfl rfl rfl rfl, ?_⟩
   refine ⟨_, ltN c1, ?_⟩
   refine ⟨_, idxV (j := j) (rowI_get hx) rfl rfl rfl rfl, ?_⟩
   refine ⟨_, gtN c2, ?_⟩
   refine ⟨_, idxV (j := j) (rowI_get hx) rfl rfl rfl rfl, ?_⟩
   refine ⟨_, ltN c3, ?_⟩
   refine ⟨_, idxV (j := j) (rowI_get hx) rfl rfl rfl rfl, ?_⟩
   refine ⟨_, gtT (by show n > ((rowI l).length : Int); omega), ?_⟩
   exact Ret.mk _ rfl (congrArg (fun b : Bool => pB b) hjv) rfl
  rw [if_neg (by omega)] at hjv
  refine ⟨_, idxV (j := j) (rowI_get hx) rfl rfl rfl rfl, ?_⟩
  refine ⟨_, ltN c1, ?_⟩
  refine ⟨_, idxV (j := j) (rowI_get hx) rfl rfl rfl rfl, ?_⟩
  refine ⟨_, gtN c2, ?_⟩
  refine ⟨_, idxV (j := j) (rowI_get hx) rfl rfl rfl rfl, ?_⟩
  refine ⟨_, ltN c3, ?_⟩
  refine ⟨_, idxV (j := j) (rowI_get hx) rfl rfl rfl rfl, ?_⟩
  refine ⟨_, gtN (by show ¬ n > ((rowI l).length : Int); omega), ?_⟩
  have hop : op = 4 ∨ op ≠ 4 := by omega
  rcases hop with h4 | h4
  ·rw [if_pos h4] at hjv
   refine ⟨_, idxV (j := j) (rowI_get hx) rfl rfl rfl rfl, ?_⟩
   refine ⟨_, eqT h4, ?_⟩
   refine ⟨_, idxV (j := j) (rowI_get hx) rfl rfl rfl rfl, ?_⟩
   rcases Bool.eq_false_or_eq_true (isName nm) with hn | hn
   ·rw [hn, Bool.true_and] at hjv
    rw [hn] at hNm
    refine ⟨_, CallR.mk1 hNm rfl rfl, ?_⟩
    refine ⟨_, idxV (j := j) (rowI_get hx) rfl rfl rfl rfl, ?_⟩
    refine ⟨_, neN h4, ?_⟩
    refine ⟨_, addV rfl (by omega) (by omega), ?_⟩
    exact ⟨j + 1, ⟨hjl, hjv⟩, by show l.length - (j + 1) < l.length - j; omega, ⟨rfl, rfl, trivial⟩, rfl, rfl⟩
   ·rw [hn, Bool.false_and] at hjv
    rw [hn] at hNm
    refine ⟨_, CallR.mk1 hNm rfl rfl, ?_⟩
    exact Ret.mk _ rfl (congrArg (fun b : Bool => pB b) hjv) rfl
  ·rw [if_neg h4] at hjv
   refine ⟨_, idxV (j := j) (rowI_get hx) rfl rfl rfl rfl, ?_⟩
   refine ⟨_, eqN h4, ?_⟩
   refine ⟨_, idxV (j := j) (rowI_get hx) rfl rfl rfl rfl, ?_⟩
   refine ⟨_, neT h4, ?_⟩
   refine ⟨_, idxV (j := j) (rowI_get hx) rfl rfl rfl rfl, ?_⟩
   rcases Bool.eq_false_or_eq_true (nm.toList == (⟨#[]⟩ : ByteArray).toList) with he | he
   ·rw [he, Bool.true_and] at hjv
    refine ⟨_, strNeV (c := false) (by rw [he]; rfl), ?_⟩
    refine ⟨_, addV rfl (by omega) (by omega), ?_⟩
    exact ⟨j + 1, ⟨hjl, hjv⟩, by show l.length - (j + 1) < l.length - j; omega, ⟨rfl, rfl, trivial⟩, rfl, rfl⟩
   ·rw [he, Bool.false_and] at hjv
    refine ⟨_, strNeV (c := true) (by rw [he]; rfl), ?_⟩
    exact Ret.mk _ rfl (congrArg (fun b : Bool => pB b) hjv) rfl
 ·rw [hI ((j : Int) + 1) ((l.length : Int)) (by unfold endsF; rw [if_pos (by omega)])] at hjv
  refine ⟨_, eqN h9, ?_⟩
  refine ⟨_, eqT h, ?_⟩
  refine ⟨_, addV rfl (by omega) (by omega), ?_⟩
  have hc : op < 1 ∨ (¬ op < 1 ∧ op > 13) ∨ (¬ op < 1 ∧ ¬ op > 13 ∧ n < ((j : Int) + 1 : Int)) ∨ (¬ op < 1 ∧ ¬ op > 13 ∧ ¬ n < ((j : Int) + 1 : Int) ∧ n > ((l.length : Int) : Int)) ∨ (¬ op < 1 ∧ ¬ op > 13 ∧ ¬ n < ((j : Int) + 1 : Int) ∧ ¬ n > ((l.length : Int) : Int)) := by omega
  rcases hc with c | ⟨c1, c⟩ | ⟨c1, c2, c⟩ | ⟨c1, c2, c3, c⟩ | ⟨c1, c2, c3, c4⟩
  ·rw [if_pos (by omega), Bool.false_and] at hjv
   refine ⟨_, idxV (j := j) (rowI_get hx) rfl rfl rfl rfl, ?_⟩
   refine ⟨_, ltT c, ?_⟩
   exact Ret.mk _ rfl (congrArg (fun b : Bool => pB b) hjv) rfl
  ·rw [if_pos (by omega), Bool.false_and] at hjv
   refine ⟨_, idxV (j := j) (rowI_get hx) rfl rfl rfl rfl, ?_⟩
   refine ⟨_, ltN c1, ?_⟩
   refine ⟨_, idxV (j := j) (rowI_get hx) rfl rfl rfl rfl, ?_⟩
   refine ⟨_, gtT c, ?_⟩
   exact Ret.mk _ rfl (congrArg (fun b : Bool => pB b) hjv) rfl
  ·rw [if_pos (by omega), Bool.false_and] at hjv
   refine ⟨_, idxV (j := j) (rowI_get hx) rfl rfl rfl rfl, ?_⟩
   refine ⟨_, ltN c1, ?_⟩
   refine ⟨_, idxV (j := j) (rowI_get hx) rfl rfl rfl rfl, ?_⟩
   refine ⟨_, gtN c2, ?_⟩
   refine ⟨_, idxV (j := j) (rowI_get hx) rfl rfl rfl rfl, ?_⟩
   refine ⟨_, ltT c, ?_⟩
   exact Ret.mk _ rfl (congrArg (fun b : Bool => pB b) hjv) rfl
  ·rw [if_pos (by omega), Bool.false_and] at hjv
   refine ⟨_, idxV (j := j) (rowI_get hx) rfl rfl rfl rfl, ?_⟩
   refine ⟨_, ltN c1, ?_⟩
   refine ⟨_, idxV (j := j) (rowI_get hx) rfl rfl rfl rfl, ?_⟩
   refine ⟨_, gtN c2, ?_⟩
   refine ⟨_, idxV (j := j) (rowI_get hx) rfl rfl rfl rfl, ?_⟩
   refine ⟨_, ltN c3, ?_⟩
   refine ⟨_, idxV (j := j) (rowI_get hx) rfl rfl rfl rfl, ?_⟩
   refine ⟨_, gtT (by show n > ((rowI l).length : Int); omega), ?_⟩
   exact Ret.mk _ rfl (congrArg (fun b : Bool => pB b) hjv) rfl
  rw [if_neg (by omega)] at hjv
  refine ⟨_, idxV (j := j) (rowI_get hx) rfl rfl rfl rfl, ?_⟩
  refine ⟨_, ltN c1, ?_⟩
  refine ⟨_, idxV (j := j) (rowI_get hx) rfl rfl rfl rfl, ?_⟩
  refine ⟨_, gtN c2, ?_⟩
  refine ⟨_, idxV (j := j) (rowI_get hx) rfl rfl rfl rfl, ?_⟩
  refine ⟨_, ltN c3, ?_⟩
  refine ⟨_, idxV (j := j) (rowI_get hx) rfl rfl rfl rfl, ?_⟩
  refine ⟨_, gtN (by show ¬ n > ((rowI l).length : Int); omega), ?_⟩
  have hop : op = 4 ∨ op ≠ 4 := by omega
  rcases hop with h4 | h4
  ·rw [if_pos h4] at hjv
   refine ⟨_, idxV (j := j) (rowI_get hx) rfl rfl rfl rfl, ?_⟩
   refine ⟨_, eqT h4, ?_⟩
   refine ⟨_, idxV (j := j) (rowI_get hx) rfl rfl rfl rfl, ?_⟩
   rcases Bool.eq_false_or_eq_true (isName nm) with hn | hn
   ·rw [hn, Bool.true_and] at hjv
    rw [hn] at hNm
    refine ⟨_, CallR.mk1 hNm rfl rfl, ?_⟩
    refine ⟨_, idxV (j := j) (rowI_get hx) rfl rfl rfl rfl, ?_⟩
    refine ⟨_, neN h4, ?_⟩
    refine ⟨_, addV rfl (by omega) (by omega), ?_⟩
    exact ⟨j + 1, ⟨hjl, hjv⟩, by show l.length - (j + 1) < l.length - j; omega, ⟨rfl, rfl, trivial⟩, rfl, rfl⟩
   ·rw [hn, Bool.false_and] at hjv
    rw [hn] at hNm
    refine ⟨_, CallR.mk1 hNm rfl rfl, ?_⟩
    exact Ret.mk _ rfl (congrArg (fun b : Bool => pB b) hjv) rfl
  ·rw [if_neg h4] at hjv
   refine ⟨_, idxV (j := j) (rowI_get hx) rfl rfl rfl rfl, ?_⟩
   refine ⟨_, eqN h4, ?_⟩
   refine ⟨_, idxV (j := j) (rowI_get hx) rfl rfl rfl rfl, ?_⟩
   refine ⟨_, neT h4, ?_⟩
   refine ⟨_, idxV (j := j) (rowI_get hx) rfl rfl rfl rfl, ?_⟩
   rcases Bool.eq_false_or_eq_true (nm.toList == (⟨#[]⟩ : ByteArray).toList) with he | he
   ·rw [he, Bool.true_and] at hjv
    refine ⟨_, strNeV (c := false) (by rw [he]; rfl), ?_⟩
    refine ⟨_, addV rfl (by omega) (by omega), ?_⟩
    exact ⟨j + 1, ⟨hjl, hjv⟩, by show l.length - (j + 1) < l.length - j; omega, ⟨rfl, rfl, trivial⟩, rfl, rfl⟩
   ·rw [he, Bool.false_and] at hjv
    refine ⟨_, strNeV (c := true) (by rw [he]; rfl), ?_⟩
    exact Ret.mk _ rfl (congrArg (fun b : Bool => pB b) hjv) rfl
 ·rw [hI ((j : Int) + 1) ((l.length : Int)) (by unfold endsF; rw [if_pos (by omega)])] at hjv
  refine ⟨_, eqN h9, ?_⟩
  refine ⟨_, eqN h12, ?_⟩
  refine ⟨_, eqT h, ?_⟩
  refine ⟨_, addV rfl (by omega) (by omega), ?_⟩
  have hc : op < 1 ∨ (¬ op < 1 ∧ op > 13) ∨ (¬ op < 1 ∧ ¬ op > 13 ∧ n < ((j : Int) + 1 : Int)) ∨ (¬ op < 1 ∧ ¬ op > 13 ∧ ¬ n < ((j : Int) + 1 : Int) ∧ n > ((l.length : Int) : Int)) ∨ (¬ op < 1 ∧ ¬ op > 13 ∧ ¬ n < ((j : Int) + 1 : Int) ∧ ¬ n > ((l.length : Int) : Int)) := by omega
  rcases hc with c | ⟨c1, c⟩ | ⟨c1, c2, c⟩ | ⟨c1, c2, c3, c⟩ | ⟨c1, c2, c3, c4⟩
  ·rw [if_pos (by omega), Bool.false_and] at hjv
   refine ⟨_, idxV (j := j) (rowI_get hx) rfl rfl rfl rfl, ?_⟩
   refine ⟨_, ltT c, ?_⟩
   exact Ret.mk _ rfl (congrArg (fun b : Bool => pB b) hjv) rfl
  ·rw [if_pos (by omega), Bool.false_and] at hjv
   refine ⟨_, idxV (j := j) (rowI_get hx) rfl rfl rfl rfl, ?_⟩
   refine ⟨_, ltN c1, ?_⟩
   refine ⟨_, idxV (j := j) (rowI_get hx) rfl rfl rfl rfl, ?_⟩
   refine ⟨_, gtT c, ?_⟩
   exact Ret.mk _ rfl (congrArg (fun b : Bool => pB b) hjv) rfl
  ·rw [if_pos (by omega), Bool.false_and] at hjv
   refine ⟨_, idxV (j := j) (rowI_get hx) rfl rfl rfl rfl, ?_⟩
   refine ⟨_, ltN c1, ?_⟩
   refine ⟨_, idxV (j := j) (rowI_get hx) rfl rfl rfl rfl, ?_⟩
   refine ⟨_, gtN c2, ?_⟩
   refine ⟨_, idxV (j := j) (rowI_get hx) rfl rfl rfl rfl, ?_⟩
   refine ⟨_, ltT c, ?_⟩
   exact Ret.mk _ rfl (congrArg (fun b : Bool => pB b) hjv) rfl
  ·rw [if_pos (by omega), Bool.false_and] at hjv
   refine ⟨_, idxV (j := j) (rowI_get hx) rfl rfl rfl rfl, ?_⟩
   refine ⟨_, ltN c1, ?_⟩
   refine ⟨_, idxV (j := j) (rowI_get hx) rfl rfl rfl rfl, ?_⟩
   refine ⟨_, gtN c2, ?_⟩
   refine ⟨_, idxV (j := j) (rowI_get hx) rfl rfl rfl rfl, ?_⟩
   refine ⟨_, ltN c3, ?_⟩
   refine ⟨_, idxV (j := j) (rowI_get hx) rfl rfl rfl rfl, ?_⟩
   refine ⟨_, gtT (by show n > ((rowI l).length : Int); omega), ?_⟩
   exact Ret.mk _ rfl (congrArg (fun b : Bool => pB b) hjv) rfl
  rw [if_neg (by omega)] at hjv
  refine ⟨_, idxV (j := j) (rowI_get hx) rfl rfl rfl rfl, ?_⟩
  refine ⟨_, ltN c1, ?_⟩
  refine ⟨_, idxV (j := j) (rowI_get hx) rfl rfl rfl rfl, ?_⟩
  refine ⟨_, gtN c2, ?_⟩
  refine ⟨_, idxV (j := j) (rowI_get hx) rfl rfl rfl rfl, ?_⟩
  refine ⟨_, ltN c3, ?_⟩
  refine ⟨_, idxV (j := j) (rowI_get hx) rfl rfl rfl rfl, ?_⟩
  refine ⟨_, gtN (by show ¬ n > ((rowI l).length : Int); omega), ?_⟩
  have hop : op = 4 ∨ op ≠ 4 := by omega
  rcases hop with h4 | h4
  ·rw [if_pos h4] at hjv
   refine ⟨_, idxV (j := j) (rowI_get hx) rfl rfl rfl rfl, ?_⟩
   refine ⟨_, eqT h4, ?_⟩
   refine ⟨_, idxV (j := j) (rowI_get hx) rfl rfl rfl rfl, ?_⟩
   rcases Bool.eq_false_or_eq_true (isName nm) with hn | hn
   ·rw [hn, Bool.true_and] at hjv
    rw [hn] at hNm
    refine ⟨_, CallR.mk1 hNm rfl rfl, ?_⟩
    refine ⟨_, idxV (j := j) (rowI_get hx) rfl rfl rfl rfl, ?_⟩
    refine ⟨_, neN h4, ?_⟩
    refine ⟨_, addV rfl (by omega) (by omega), ?_⟩
    exact ⟨j + 1, ⟨hjl, hjv⟩, by show l.length - (j + 1) < l.length - j; omega, ⟨rfl, rfl, trivial⟩, rfl, rfl⟩
   ·rw [hn, Bool.false_and] at hjv
    rw [hn] at hNm
    refine ⟨_, CallR.mk1 hNm rfl rfl, ?_⟩
    exact Ret.mk _ rfl (congrArg (fun b : Bool => pB b) hjv) rfl
  ·rw [if_neg h4] at hjv
   refine ⟨_, idxV (j := j) (rowI_get hx) rfl rfl rfl rfl, ?_⟩
   refine ⟨_, eqN h4, ?_⟩
   refine ⟨_, idxV (j := j) (rowI_get hx) rfl rfl rfl rfl, ?_⟩
   refine ⟨_, neT h4, ?_⟩
   refine ⟨_, idxV (j := j) (rowI_get hx) rfl rfl rfl rfl, ?_⟩
   rcases Bool.eq_false_or_eq_true (nm.toList == (⟨#[]⟩ : ByteArray).toList) with he | he
   ·rw [he, Bool.true_and] at hjv
    refine ⟨_, strNeV (c := false) (by rw [he]; rfl), ?_⟩
    refine ⟨_, addV rfl (by omega) (by omega), ?_⟩
    exact ⟨j + 1, ⟨hjl, hjv⟩, by show l.length - (j + 1) < l.length - j; omega, ⟨rfl, rfl, trivial⟩, rfl, rfl⟩
   ·rw [he, Bool.false_and] at hjv
    refine ⟨_, strNeV (c := true) (by rw [he]; rfl), ?_⟩
    exact Ret.mk _ rfl (congrArg (fun b : Bool => pB b) hjv) rfl
 ·rw [hI (0) (1000000000000) (by unfold endsF; rw [if_neg (by omega), if_pos (by omega)])] at hjv
  refine ⟨_, eqN h9, ?_⟩
  refine ⟨_, eqN h12, ?_⟩
  refine ⟨_, eqN h13, ?_⟩
  refine ⟨_, eqT h, ?_⟩
  have hc : op < 1 ∨ (¬ op < 1 ∧ op > 13) ∨ (¬ op < 1 ∧ ¬ op > 13 ∧ n < (0 : Int)) ∨ (¬ op < 1 ∧ ¬ op > 13 ∧ ¬ n < (0 : Int) ∧ n > (1000000000000 : Int)) ∨ (¬ op < 1 ∧ ¬ op > 13 ∧ ¬ n < (0 : Int) ∧ ¬ n > (1000000000000 : Int)) := by omega
  rcases hc with c | ⟨c1, c⟩ | ⟨c1, c2, c⟩ | ⟨c1, c2, c3, c⟩ | ⟨c1, c2, c3, c4⟩
  ·rw [if_pos (by omega), Bool.false_and] at hjv
   refine ⟨_, idxV (j := j) (rowI_get hx) rfl rfl rfl rfl, ?_⟩
   refine ⟨_, ltT c, ?_⟩
   exact Ret.mk _ rfl (congrArg (fun b : Bool => pB b) hjv) rfl
  ·rw [if_pos (by omega), Bool.false_and] at hjv
   refine ⟨_, idxV (j := j) (rowI_get hx) rfl rfl rfl rfl, ?_⟩
   refine ⟨_, ltN c1, ?_⟩
   refine ⟨_, idxV (j := j) (rowI_get hx) rfl rfl rfl rfl, ?_⟩
   refine ⟨_, gtT c, ?_⟩
   exact Ret.mk _ rfl (congrArg (fun b : Bool => pB b) hjv) rfl
  ·rw [if_pos (by omega), Bool.false_and] at hjv
   refine ⟨_, idxV (j := j) (rowI_get hx) rfl rfl rfl rfl, ?_⟩
   refine ⟨_, ltN c1, ?_⟩
   refine ⟨_, idxV (j := j) (rowI_get hx) rfl rfl rfl rfl, ?_⟩
   refine ⟨_, gtN c2, ?_⟩
   refine ⟨_, idxV (j := j) (rowI_get hx) rfl rfl rfl rfl, ?_⟩
   refine ⟨_, ltT c, ?_⟩
   exact Ret.mk _ rfl (congrArg (fun b : Bool => pB b) hjv) rfl
  ·rw [if_pos (by omega), Bool.false_and] at hjv
   refine ⟨_, idxV (j := j) (rowI_get hx) rfl rfl rfl rfl, ?_⟩
   refine ⟨_, ltN c1, ?_⟩
   refine ⟨_, idxV (j := j) (rowI_get hx) rfl rfl rfl rfl, ?_⟩
   refine ⟨_, gtN c2, ?_⟩
   refine ⟨_, idxV (j := j) (rowI_get hx) rfl rfl rfl rfl, ?_⟩
   refine ⟨_, ltN c3, ?_⟩
   refine ⟨_, idxV (j := j) (rowI_get hx) rfl rfl rfl rfl, ?_⟩
   refine ⟨_, gtT c, ?_⟩
   exact Ret.mk _ rfl (congrArg (fun b : Bool => pB b) hjv) rfl
  rw [if_neg (by omega)] at hjv
  refine ⟨_, idxV (j := j) (rowI_get hx) rfl rfl rfl rfl, ?_⟩
  refine ⟨_, ltN c1, ?_⟩
  refine ⟨_, idxV (j := j) (rowI_get hx) rfl rfl rfl rfl, ?_⟩
  refine ⟨_, gtN c2, ?_⟩
  refine ⟨_, idxV (j := j) (rowI_get hx) rfl rfl rfl rfl, ?_⟩
  refine ⟨_, ltN c3, ?_⟩
  refine ⟨_, idxV (j := j) (rowI_get hx) rfl rfl rfl rfl, ?_⟩
  refine ⟨_, gtN c4, ?_⟩
  have hop : op = 4 ∨ op ≠ 4 := by omega
  rcases hop with h4 | h4
  ·rw [if_pos h4] at hjv
   refine ⟨_, idxV (j := j) (rowI_get hx) rfl rfl rfl rfl, ?_⟩
   refine ⟨_, eqT h4, ?_⟩
   refine ⟨_, idxV (j := j) (rowI_get hx) rfl rfl rfl rfl, ?_⟩
   rcases Bool.eq_false_or_eq_true (isName nm) with hn | hn
   ·rw [hn, Bool.true_and] at hjv
    rw [hn] at hNm
    refine ⟨_, CallR.mk1 hNm rfl rfl, ?_⟩
    refine ⟨_, idxV (j := j) (rowI_get hx) rfl rfl rfl rfl, ?_⟩
    refine ⟨_, neN h4, ?_⟩
    refine ⟨_, addV rfl (by omega) (by omega), ?_⟩
    exact ⟨j + 1, ⟨hjl, hjv⟩, by show l.length - (j + 1) < l.length - j; omega, ⟨rfl, rfl, trivial⟩, rfl, rfl⟩
   ·rw [hn, Bool.false_and] at hjv
    rw [hn] at hNm
    refine ⟨_, CallR.mk1 hNm rfl rfl, ?_⟩
    exact Ret.mk _ rfl (congrArg (fun b : Bool => pB b) hjv) rfl
  ·rw [if_neg h4] at hjv
   refine ⟨_, idxV (j := j) (rowI_get hx) rfl rfl rfl rfl, ?_⟩
   refine ⟨_, eqN h4, ?_⟩
   refine ⟨_, idxV (j := j) (rowI_get hx) rfl rfl rfl rfl, ?_⟩
   refine ⟨_, neT h4, ?_⟩
   refine ⟨_, idxV (j := j) (rowI_get hx) rfl rfl rfl rfl, ?_⟩
   rcases Bool.eq_false_or_eq_true (nm.toList == (⟨#[]⟩ : ByteArray).toList) with he | he
   ·rw [he, Bool.true_and] at hjv
    refine ⟨_, strNeV (c := false) (by rw [he]; rfl), ?_⟩
    refine ⟨_, addV rfl (by omega) (by omega), ?_⟩
    exact ⟨j + 1, ⟨hjl, hjv⟩, by show l.length - (j + 1) < l.length - j; omega, ⟨rfl, rfl, trivial⟩, rfl, rfl⟩
   ·rw [he, Bool.false_and] at hjv
    refine ⟨_, strNeV (c := true) (by rw [he]; rfl), ?_⟩
    exact Ret.mk _ rfl (congrArg (fun b : Bool => pB b) hjv) rfl
 ·rw [hI (0) (1000000000000) (by unfold endsF; rw [if_neg (by omega), if_pos (by omega)])] at hjv
  refine ⟨_, eqN h9, ?_⟩
  refine ⟨_, eqN h12, ?_⟩
  refine ⟨_, eqN h13, ?_⟩
  refine ⟨_, eqN h1, ?_⟩
  refine ⟨_, eqT h, ?_⟩
  have hc : op < 1 ∨ (¬ op < 1 ∧ op > 13) ∨ (¬ op < 1 ∧ ¬ op > 13 ∧ n < (0 : Int)) ∨ (¬ op < 1 ∧ ¬ op > 13 ∧ ¬ n < (0 : Int) ∧ n > (1000000000000 : Int)) ∨ (¬ op < 1 ∧ ¬ op > 13 ∧ ¬ n < (0 : Int) ∧ ¬ n > (1000000000000 : Int)) := by omega
  rcases hc with c | ⟨c1, c⟩ | ⟨c1, c2, c⟩ | ⟨c1, c2, c3, c⟩ | ⟨c1, c2, c3, c4⟩
  ·rw [if_pos (by omega), Bool.false_and] at hjv
   refine ⟨_, idxV (j := j) (rowI_get hx) rfl rfl rfl rfl, ?_⟩
   refine ⟨_, ltT c, ?_⟩
   exact Ret.mk _ rfl (congrArg (fun b : Bool => pB b) hjv) rfl
  ·rw [if_pos (by omega), Bool.false_and] at hjv
   refine ⟨_, idxV (j := j) (rowI_get hx) rfl rfl rfl rfl, ?_⟩
   refine ⟨_, ltN c1, ?_⟩
   refine ⟨_, idxV (j := j) (rowI_get hx) rfl rfl rfl rfl, ?_⟩
   refine ⟨_, gtT c, ?_⟩
   exact Ret.mk _ rfl (congrArg (fun b : Bool => pB b) hjv) rfl
  ·rw [if_pos (by omega), Bool.false_and] at hjv
   refine ⟨_, idxV (j := j) (rowI_get hx) rfl rfl rfl rfl, ?_⟩
   refine ⟨_, ltN c1, ?_⟩
   refine ⟨_, idxV (j := j) (rowI_get hx) rfl rfl rfl rfl, ?_⟩
   refine ⟨_, gtN c2, ?_⟩
   refine ⟨_, idxV (j := j) (rowI_get hx) rfl rfl rfl rfl, ?_⟩
   refine ⟨_, ltT c, ?_⟩
   exact Ret.mk _ rfl (congrArg (fun b : Bool => pB b) hjv) rfl
  ·rw [if_pos (by omega), Bool.false_and] at hjv
   refine ⟨_, idxV (j := j) (rowI_get hx) rfl rfl rfl rfl, ?_⟩
   refine ⟨_, ltN c1, ?_⟩
   refine ⟨_, idxV (j := j) (rowI_get hx) rfl rfl rfl rfl, ?_⟩
   refine ⟨_, gtN c2, ?_⟩
   refine ⟨_, idxV (j := j) (rowI_get hx) rfl rfl rfl rfl, ?_⟩
   refine ⟨_, ltN c3, ?_⟩
   refine ⟨_, idxV (j := j) (rowI_get hx) rfl rfl rfl rfl, ?_⟩
   refine ⟨_, gtT c, ?_⟩
   exact Ret.mk _ rfl (congrArg (fun b : Bool => pB b) hjv) rfl
  rw [if_neg (by omega)] at hjv
  refine ⟨_, idxV (j := j) (rowI_get hx) rfl rfl rfl rfl, ?_⟩
  refine ⟨_, ltN c1, ?_⟩
  refine ⟨_, idxV (j := j) (rowI_get hx) rfl rfl rfl rfl, ?_⟩
  refine ⟨_, gtN c2, ?_⟩
  refine ⟨_, idxV (j := j) (rowI_get hx) rfl rfl rfl rfl, ?_⟩
  refine ⟨_, ltN c3, ?_⟩
  refine ⟨_, idxV (j := j) (rowI_get hx) rfl rfl rfl rfl, ?_⟩
  refine ⟨_, gtN c4, ?_⟩
  have hop : op = 4 ∨ op ≠ 4 := by omega
  rcases hop with h4 | h4
  ·rw [if_pos h4] at hjv
   refine ⟨_, idxV (j := j) (rowI_get hx) rfl rfl rfl rfl, ?_⟩
   refine ⟨_, eqT h4, ?_⟩
   refine ⟨_, idxV (j := j) (rowI_get hx) rfl rfl rfl rfl, ?_⟩
   rcases Bool.eq_false_or_eq_true (isName nm) with hn | hn
   ·rw [hn, Bool.true_and] at hjv
    rw [hn] at hNm
    refine ⟨_, CallR.mk1 hNm rfl rfl, ?_⟩
    refine ⟨_, idxV (j := j) (rowI_get hx) rfl rfl rfl rfl, ?_⟩
    refine ⟨_, neN h4, ?_⟩
    refine ⟨_, addV rfl (by omega) (by omega), ?_⟩
    exact ⟨j + 1, ⟨hjl, hjv⟩, by show l.length - (j + 1) < l.length - j; omega, ⟨rfl, rfl, trivial⟩, rfl, rfl⟩
   ·rw [hn, Bool.false_and] at hjv
    rw [hn] at hNm
    refine ⟨_, CallR.mk1 hNm rfl rfl, ?_⟩
    exact Ret.mk _ rfl (congrArg (fun b : Bool => pB b) hjv) rfl
  ·rw [if_neg h4] at hjv
   refine ⟨_, idxV (j := j) (rowI_get hx) rfl rfl rfl rfl, ?_⟩
   refine ⟨_, eqN h4, ?_⟩
   refine ⟨_, idxV (j := j) (rowI_get hx) rfl rfl rfl rfl, ?_⟩
   refine ⟨_, neT h4, ?_⟩
   refine ⟨_, idxV (j := j) (rowI_get hx) rfl rfl rfl rfl, ?_⟩
   rcases Bool.eq_false_or_eq_true (nm.toList == (⟨#[]⟩ : ByteArray).toList) with he | he
   ·rw [he, Bool.true_and] at hjv
    refine ⟨_, strNeV (c := false) (by rw [he]; rfl), ?_⟩
    refine ⟨_, addV rfl (by omega) (by omega), ?_⟩
    exact ⟨j + 1, ⟨hjl, hjv⟩, by show l.length - (j + 1) < l.length - j; omega, ⟨rfl, rfl, trivial⟩, rfl, rfl⟩
   ·rw [he, Bool.false_and] at hjv
    refine ⟨_, strNeV (c := true) (by rw [he]; rfl), ?_⟩
    exact Ret.mk _ rfl (congrArg (fun b : Bool => pB b) hjv) rfl
 ·rw [hI (0) (100000) (by unfold endsF; rw [if_neg (by omega), if_neg (by omega), if_pos h])] at hjv
  refine ⟨_, eqN h9, ?_⟩
  refine ⟨_, eqN h12, ?_⟩
  refine ⟨_, eqN h13, ?_⟩
  refine ⟨_, eqN h1, ?_⟩
  refine ⟨_, eqN h5, ?_⟩
  refine ⟨_, eqT h, ?_⟩
  have hc : op < 1 ∨ (¬ op < 1 ∧ op > 13) ∨ (¬ op < 1 ∧ ¬ op > 13 ∧ n < (0 : Int)) ∨ (¬ op < 1 ∧ ¬ op > 13 ∧ ¬ n < (0 : Int) ∧ n > (100000 : Int)) ∨ (¬ op < 1 ∧ ¬ op > 13 ∧ ¬ n < (0 : Int) ∧ ¬ n > (100000 : Int)) := by omega
  rcases hc with c | ⟨c1, c⟩ | ⟨c1, c2, c⟩ | ⟨c1, c2, c3, c⟩ | ⟨c1, c2, c3, c4⟩
  ·rw [if_pos (by omega), Bool.false_and] at hjv
   refine ⟨_, idxV (j := j) (rowI_get hx) rfl rfl rfl rfl, ?_⟩
   refine ⟨_, ltT c, ?_⟩
   exact Ret.mk _ rfl (congrArg (fun b : Bool => pB b) hjv) rfl
  ·rw [if_pos (by omega), Bool.false_and] at hjv
   refine ⟨_, idxV (j := j) (rowI_get hx) rfl rfl rfl rfl, ?_⟩
   refine ⟨_, ltN c1, ?_⟩
   refine ⟨_, idxV (j := j) (rowI_get hx) rfl rfl rfl rfl, ?_⟩
   refine ⟨_, gtT c, ?_⟩
   exact Ret.mk _ rfl (congrArg (fun b : Bool => pB b) hjv) rfl
  ·rw [if_pos (by omega), Bool.false_and] at hjv
   refine ⟨_, idxV (j := j) (rowI_get hx) rfl rfl rfl rfl, ?_⟩
   refine ⟨_, ltN c1, ?_⟩
   refine ⟨_, idxV (j := j) (rowI_get hx) rfl rfl rfl rfl, ?_⟩
   refine ⟨_, gtN c2, ?_⟩
   refine ⟨_, idxV (j := j) (rowI_get hx) rfl rfl rfl rfl, ?_⟩
   refine ⟨_, ltT c, ?_⟩
   exact Ret.mk _ rfl (congrArg (fun b : Bool => pB b) hjv) rfl
  ·rw [if_pos (by omega), Bool.false_and] at hjv
   refine ⟨_, idxV (j := j) (rowI_get hx) rfl rfl rfl rfl, ?_⟩
   refine ⟨_, ltN c1, ?_⟩
   refine ⟨_, idxV (j := j) (rowI_get hx) rfl rfl rfl rfl, ?_⟩
   refine ⟨_, gtN c2, ?_⟩
   refine ⟨_, idxV (j := j) (rowI_get hx) rfl rfl rfl rfl, ?_⟩
   refine ⟨_, ltN c3, ?_⟩
   refine ⟨_, idxV (j := j) (rowI_get hx) rfl rfl rfl rfl, ?_⟩
   refine ⟨_, gtT c, ?_⟩
   exact Ret.mk _ rfl (congrArg (fun b : Bool => pB b) hjv) rfl
  rw [if_neg (by omega)] at hjv
  refine ⟨_, idxV (j := j) (rowI_get hx) rfl rfl rfl rfl, ?_⟩
  refine ⟨_, ltN c1, ?_⟩
  refine ⟨_, idxV (j := j) (rowI_get hx) rfl rfl rfl rfl, ?_⟩
  refine ⟨_, gtN c2, ?_⟩
  refine ⟨_, idxV (j := j) (rowI_get hx) rfl rfl rfl rfl, ?_⟩
  refine ⟨_, ltN c3, ?_⟩
  refine ⟨_, idxV (j := j) (rowI_get hx) rfl rfl rfl rfl, ?_⟩
  refine ⟨_, gtN c4, ?_⟩
  have hop : op = 4 ∨ op ≠ 4 := by omega
  rcases hop with h4 | h4
  ·rw [if_pos h4] at hjv
   refine ⟨_, idxV (j := j) (rowI_get hx) rfl rfl rfl rfl, ?_⟩
   refine ⟨_, eqT h4, ?_⟩
   refine ⟨_, idxV (j := j) (rowI_get hx) rfl rfl rfl rfl, ?_⟩
   rcases Bool.eq_false_or_eq_true (isName nm) with hn | hn
   ·rw [hn, Bool.true_and] at hjv
    rw [hn] at hNm
    refine ⟨_, CallR.mk1 hNm rfl rfl, ?_⟩
    refine ⟨_, idxV (j := j) (rowI_get hx) rfl rfl rfl rfl, ?_⟩
    refine ⟨_, neN h4, ?_⟩
    refine ⟨_, addV rfl (by omega) (by omega), ?_⟩
    exact ⟨j + 1, ⟨hjl, hjv⟩, by show l.length - (j + 1) < l.length - j; omega, ⟨rfl, rfl, trivial⟩, rfl, rfl⟩
   ·rw [hn, Bool.false_and] at hjv
    rw [hn] at hNm
    refine ⟨_, CallR.mk1 hNm rfl rfl, ?_⟩
    exact Ret.mk _ rfl (congrArg (fun b : Bool => pB b) hjv) rfl
  ·rw [if_neg h4] at hjv
   refine ⟨_, idxV (j := j) (rowI_get hx) rfl rfl rfl rfl, ?_⟩
   refine ⟨_, eqN h4, ?_⟩
   refine ⟨_, idxV (j := j) (rowI_get hx) rfl rfl rfl rfl, ?_⟩
   refine ⟨_, neT h4, ?_⟩
   refine ⟨_, idxV (j := j) (rowI_get hx) rfl rfl rfl rfl, ?_⟩
   rcases Bool.eq_false_or_eq_true (nm.toList == (⟨#[]⟩ : ByteArray).toList) with he | he
   ·rw [he, Bool.true_and] at hjv
    refine ⟨_, strNeV (c := false) (by rw [he]; rfl), ?_⟩
    refine ⟨_, addV rfl (by omega) (by omega), ?_⟩
    exact ⟨j + 1, ⟨hjl, hjv⟩, by show l.length - (j + 1) < l.length - j; omega, ⟨rfl, rfl, trivial⟩, rfl, rfl⟩
   ·rw [he, Bool.false_and] at hjv
    refine ⟨_, strNeV (c := true) (by rw [he]; rfl), ?_⟩
    exact Ret.mk _ rfl (congrArg (fun b : Bool => pB b) hjv) rfl
 ·rw [hI (0) (1000) (by unfold endsF; rw [if_neg (by omega), if_neg (by omega), if_neg h6, if_pos h])] at hjv
  refine ⟨_, eqN h9, ?_⟩
  refine ⟨_, eqN h12, ?_⟩
  refine ⟨_, eqN h13, ?_⟩
  refine ⟨_, eqN h1, ?_⟩
  refine ⟨_, eqN h5, ?_⟩
  refine ⟨_, eqN h6, ?_⟩
  refine ⟨_, eqT h, ?_⟩
  have hc : op < 1 ∨ (¬ op < 1 ∧ op > 13) ∨ (¬ op < 1 ∧ ¬ op > 13 ∧ n < (0 : Int)) ∨ (¬ op < 1 ∧ ¬ op > 13 ∧ ¬ n < (0 : Int) ∧ n > (1000 : Int)) ∨ (¬ op < 1 ∧ ¬ op > 13 ∧ ¬ n < (0 : Int) ∧ ¬ n > (1000 : Int)) := by omega
  rcases hc with c | ⟨c1, c⟩ | ⟨c1, c2, c⟩ | ⟨c1, c2, c3, c⟩ | ⟨c1, c2, c3, c4⟩
  ·rw [if_pos (by omega), Bool.false_and] at hjv
   refine ⟨_, idxV (j := j) (rowI_get hx) rfl rfl rfl rfl, ?_⟩
   refine ⟨_, ltT c, ?_⟩
   exact Ret.mk _ rfl (congrArg (fun b : Bool => pB b) hjv) rfl
  ·rw [if_pos (by omega), Bool.false_and] at hjv
   refine ⟨_, idxV (j := j) (rowI_get hx) rfl rfl rfl rfl, ?_⟩
   refine ⟨_, ltN c1, ?_⟩
   refine ⟨_, idxV (j := j) (rowI_get hx) rfl rfl rfl rfl, ?_⟩
   refine ⟨_, gtT c, ?_⟩
   exact Ret.mk _ rfl (congrArg (fun b : Bool => pB b) hjv) rfl
  ·rw [if_pos (by omega), Bool.false_and] at hjv
   refine ⟨_, idxV (j := j) (rowI_get hx) rfl rfl rfl rfl, ?_⟩
   refine ⟨_, ltN c1, ?_⟩
   refine ⟨_, idxV (j := j) (rowI_get hx) rfl rfl rfl rfl, ?_⟩
   refine ⟨_, gtN c2, ?_⟩
   refine ⟨_, idxV (j := j) (rowI_get hx) rfl rfl rfl rfl, ?_⟩
   refine ⟨_, ltT c, ?_⟩
   exact Ret.mk _ rfl (congrArg (fun b : Bool => pB b) hjv) rfl
  ·rw [if_pos (by omega), Bool.false_and] at hjv
   refine ⟨_, idxV (j := j) (rowI_get hx) rfl rfl rfl rfl, ?_⟩
   refine ⟨_, ltN c1, ?_⟩
   refine ⟨_, idxV (j := j) (rowI_get hx) rfl rfl rfl rfl, ?_⟩
   refine ⟨_, gtN c2, ?_⟩
   refine ⟨_, idxV (j := j) (rowI_get hx) rfl rfl rfl rfl, ?_⟩
   refine ⟨_, ltN c3, ?_⟩
   refine ⟨_, idxV (j := j) (rowI_get hx) rfl rfl rfl rfl, ?_⟩
   refine ⟨_, gtT c, ?_⟩
   exact Ret.mk _ rfl (congrArg (fun b : Bool => pB b) hjv) rfl
  rw [if_neg (by omega)] at hjv
  refine ⟨_, idxV (j := j) (rowI_get hx) rfl rfl rfl rfl, ?_⟩
  refine ⟨_, ltN c1, ?_⟩
  refine ⟨_, idxV (j := j) (rowI_get hx) rfl rfl rfl rfl, ?_⟩
  refine ⟨_, gtN c2, ?_⟩
  refine ⟨_, idxV (j := j) (rowI_get hx) rfl rfl rfl rfl, ?_⟩
  refine ⟨_, ltN c3, ?_⟩
  refine ⟨_, idxV (j := j) (rowI_get hx) rfl rfl rfl rfl, ?_⟩
  refine ⟨_, gtN c4, ?_⟩
  have hop : op = 4 ∨ op ≠ 4 := by omega
  rcases hop with h4 | h4
  ·rw [if_pos h4] at hjv
   refine ⟨_, idxV (j := j) (rowI_get hx) rfl rfl rfl rfl, ?_⟩
   refine ⟨_, eqT h4, ?_⟩
   refine ⟨_, idxV (j := j) (rowI_get hx) rfl rfl rfl rfl, ?_⟩
   rcases Bool.eq_false_or_eq_true (isName nm) with hn | hn
   ·rw [hn, Bool.true_and] at hjv
    rw [hn] at hNm
    refine ⟨_, CallR.mk1 hNm rfl rfl, ?_⟩
    refine ⟨_, idxV (j := j) (rowI_get hx) rfl rfl rfl rfl, ?_⟩
    refine ⟨_, neN h4, ?_⟩
    refine ⟨_, addV rfl (by omega) (by omega), ?_⟩
    exact ⟨j + 1, ⟨hjl, hjv⟩, by show l.length - (j + 1) < l.length - j; omega, ⟨rfl, rfl, trivial⟩, rfl, rfl⟩
   ·rw [hn, Bool.false_and] at hjv
    rw [hn] at hNm
    refine ⟨_, CallR.mk1 hNm rfl rfl, ?_⟩
    exact Ret.mk _ rfl (congrArg (fun b : Bool => pB b) hjv) rfl
  ·rw [if_neg h4] at hjv
   refine ⟨_, idxV (j := j) (rowI_get hx) rfl rfl rfl rfl, ?_⟩
   refine ⟨_, eqN h4, ?_⟩
   refine ⟨_, idxV (j := j) (rowI_get hx) rfl rfl rfl rfl, ?_⟩
   refine ⟨_, neT h4, ?_⟩
   refine ⟨_, idxV (j := j) (rowI_get hx) rfl rfl rfl rfl, ?_⟩
   rcases Bool.eq_false_or_eq_true (nm.toList == (⟨#[]⟩ : ByteArray).toList) with he | he
   ·rw [he, Bool.true_and] at hjv
    refine ⟨_, strNeV (c := false) (by rw [he]; rfl), ?_⟩
    refine ⟨_, addV rfl (by omega) (by omega), ?_⟩
    exact ⟨j + 1, ⟨hjl, hjv⟩, by show l.length - (j + 1) < l.length - j; omega, ⟨rfl, rfl, trivial⟩, rfl, rfl⟩
   ·rw [he, Bool.false_and] at hjv
    refine ⟨_, strNeV (c := true) (by rw [he]; rfl), ?_⟩
    exact Ret.mk _ rfl (congrArg (fun b : Bool => pB b) hjv) rfl
 ·rw [hI (0) (0) (by unfold endsF; rw [if_neg (by omega), if_neg (by omega), if_neg h6, if_neg h])] at hjv
  refine ⟨_, eqN h9, ?_⟩
  refine ⟨_, eqN h12, ?_⟩
  refine ⟨_, eqN h13, ?_⟩
  refine ⟨_, eqN h1, ?_⟩
  refine ⟨_, eqN h5, ?_⟩
  refine ⟨_, eqN h6, ?_⟩
  refine ⟨_, eqN h, ?_⟩
  have hc : op < 1 ∨ (¬ op < 1 ∧ op > 13) ∨ (¬ op < 1 ∧ ¬ op > 13 ∧ n < (0 : Int)) ∨ (¬ op < 1 ∧ ¬ op > 13 ∧ ¬ n < (0 : Int) ∧ n > (0 : Int)) ∨ (¬ op < 1 ∧ ¬ op > 13 ∧ ¬ n < (0 : Int) ∧ ¬ n > (0 : Int)) := by omega
  rcases hc with c | ⟨c1, c⟩ | ⟨c1, c2, c⟩ | ⟨c1, c2, c3, c⟩ | ⟨c1, c2, c3, c4⟩
  ·rw [if_pos (by omega), Bool.false_and] at hjv
   refine ⟨_, idxV (j := j) (rowI_get hx) rfl rfl rfl rfl, ?_⟩
   refine ⟨_, ltT c, ?_⟩
   exact Ret.mk _ rfl (congrArg (fun b : Bool => pB b) hjv) rfl
  ·rw [if_pos (by omega), Bool.false_and] at hjv
   refine ⟨_, idxV (j := j) (rowI_get hx) rfl rfl rfl rfl, ?_⟩
   refine ⟨_, ltN c1, ?_⟩
   refine ⟨_, idxV (j := j) (rowI_get hx) rfl rfl rfl rfl, ?_⟩
   refine ⟨_, gtT c, ?_⟩
   exact Ret.mk _ rfl (congrArg (fun b : Bool => pB b) hjv) rfl
  ·rw [if_pos (by omega), Bool.false_and] at hjv
   refine ⟨_, idxV (j := j) (rowI_get hx) rfl rfl rfl rfl, ?_⟩
   refine ⟨_, ltN c1, ?_⟩
   refine ⟨_, idxV (j := j) (rowI_get hx) rfl rfl rfl rfl, ?_⟩
   refine ⟨_, gtN c2, ?_⟩
   refine ⟨_, idxV (j := j) (rowI_get hx) rfl rfl rfl rfl, ?_⟩
   refine ⟨_, ltT c, ?_⟩
   exact Ret.mk _ rfl (congrArg (fun b : Bool => pB b) hjv) rfl
  ·rw [if_pos (by omega), Bool.false_and] at hjv
   refine ⟨_, idxV (j := j) (rowI_get hx) rfl rfl rfl rfl, ?_⟩
   refine ⟨_, ltN c1, ?_⟩
   refine ⟨_, idxV (j := j) (rowI_get hx) rfl rfl rfl rfl, ?_⟩
   refine ⟨_, gtN c2, ?_⟩
   refine ⟨_, idxV (j := j) (rowI_get hx) rfl rfl rfl rfl, ?_⟩
   refine ⟨_, ltN c3, ?_⟩
   refine ⟨_, idxV (j := j) (rowI_get hx) rfl rfl rfl rfl, ?_⟩
   refine ⟨_, gtT c, ?_⟩
   exact Ret.mk _ rfl (congrArg (fun b : Bool => pB b) hjv) rfl
  rw [if_neg (by omega)] at hjv
  refine ⟨_, idxV (j := j) (rowI_get hx) rfl rfl rfl rfl, ?_⟩
  refine ⟨_, ltN c1, ?_⟩
  refine ⟨_, idxV (j := j) (rowI_get hx) rfl rfl rfl rfl, ?_⟩
  refine ⟨_, gtN c2, ?_⟩
  refine ⟨_, idxV (j := j) (rowI_get hx) rfl rfl rfl rfl, ?_⟩
  refine ⟨_, ltN c3, ?_⟩
  refine ⟨_, idxV (j := j) (rowI_get hx) rfl rfl rfl rfl, ?_⟩
  refine ⟨_, gtN c4, ?_⟩
  have hop : op = 4 ∨ op ≠ 4 := by omega
  rcases hop with h4 | h4
  ·rw [if_pos h4] at hjv
   refine ⟨_, idxV (j := j) (rowI_get hx) rfl rfl rfl rfl, ?_⟩
   refine ⟨_, eqT h4, ?_⟩
   refine ⟨_, idxV (j := j) (rowI_get hx) rfl rfl rfl rfl, ?_⟩
   rcases Bool.eq_false_or_eq_true (isName nm) with hn | hn
   ·rw [hn, Bool.true_and] at hjv
    rw [hn] at hNm
    refine ⟨_, CallR.mk1 hNm rfl rfl, ?_⟩
    refine ⟨_, idxV (j := j) (rowI_get hx) rfl rfl rfl rfl, ?_⟩
    refine ⟨_, neN h4, ?_⟩
    refine ⟨_, addV rfl (by omega) (by omega), ?_⟩
    exact ⟨j + 1, ⟨hjl, hjv⟩, by show l.length - (j + 1) < l.length - j; omega, ⟨rfl, rfl, trivial⟩, rfl, rfl⟩
   ·rw [hn, Bool.false_and] at hjv
    rw [hn] at hNm
    refine ⟨_, CallR.mk1 hNm rfl rfl, ?_⟩
    exact Ret.mk _ rfl (congrArg (fun b : Bool => pB b) hjv) rfl
  ·rw [if_neg h4] at hjv
   refine ⟨_, idxV (j := j) (rowI_get hx) rfl rfl rfl rfl, ?_⟩
   refine ⟨_, eqN h4, ?_⟩
   refine ⟨_, idxV (j := j) (rowI_get hx) rfl rfl rfl rfl, ?_⟩
   refine ⟨_, neT h4, ?_⟩
   refine ⟨_, idxV (j := j) (rowI_get hx) rfl rfl rfl rfl, ?_⟩
   rcases Bool.eq_false_or_eq_true (nm.toList == (⟨#[]⟩ : ByteArray).toList) with he | he
   ·rw [he, Bool.true_and] at hjv
    refine ⟨_, strNeV (c := false) (by rw [he]; rfl), ?_⟩
    refine ⟨_, addV rfl (by omega) (by omega), ?_⟩
    exact ⟨j + 1, ⟨hjl, hjv⟩, by show l.length - (j + 1) < l.length - j; omega, ⟨rfl, rfl, trivial⟩, rfl, rfl⟩
   ·rw [he, Bool.false_and] at hjv
    refine ⟨_, strNeV (c := true) (by rw [he]; rfl), ?_⟩
    exact Ret.mk _ rfl (congrArg (fun b : Bool => pB b) hjv) rfl
end Go.Proofs.YtgpkppohfodhdaaGreatDoor.Pm
namespace Go.Proofs.YtgpkppohfodhdaaGreatDoor.Pm
open Go Go.RowKit Go.Proofs.YtgpkppohfodhdaaGreatDoor.Pl
open Go.Proofs.YtgpkppohfodhdaaGreatDoor.Q (rngE rngA)
set_option linter.unusedVariables false
set_option maxHeartbeats 1000000
end Go.Proofs.YtgpkppohfodhdaaGreatDoor.Pm
namespace Go.Proofs.YtgpkppohfodhdaaGreatDoor.Pm
open Go Go.RowKit Go.Proofs.YtgpkppohfodhdaaGreatDoor.Pl
open Go.Proofs.YtgpkppohfodhdaaGreatDoor.Q (rngE rngA txtE txtA sameE sameA formT wordL moreL sepA)
set_option linter.unusedVariables false
set_option linter.unusedSimpArgs false
def isLead (k : Int) : Bool := decide (k = 9 ∨ k = 12 ∨ k = 13)
theorem rightL_app : ∀ (l m : List Ins) (i : Nat) (z : Int), rightL (l ++ m) i z = (rightL l i z && rightL m (i + l.length) z)
 | [], m, i, z => by simp [rightL]
 | x :: l, m, i, z => by
  rw [List.cons_append, rightL, rightL, rightL_app l m (i + 1) z, Bool.and_assoc, List.length_cons, show i + 1 + l.length = i + (l.length + 1) by omega]
theorem right_lead {k n : Int} {nm : ByteArray} {i : Nat} {z : Int} (hk : k = 9 ∨ k = 12 ∨ k = 13) (h1 : (i : Int) + 1 ≤ n) (h2 : n ≤ z) (hn : nm.toList = (⟨#[]⟩ : ByteArray).toList) : rightI ⟨k, n, nm⟩ i z = true := by
 unfold rightI endsF
 dsimp only
 rw [if_pos hk, if_neg (by dsimp only; omega), if_neg (by omega), hn]
 simp
inductive Item where
 | t (x : Ex)
 | els (a : Ex) (n : Int)
 | unl (c : Ex)
 | jmp (c a : Ex) (n : Int)
theorem right_at : ∀ (l : List Ins) (i : Nat) (z : Int), rightL l i z = true → ∀ (j : Nat) (x : Ins), l[j]? = some x → rightI x (i + j : Nat) z = true
 | [], _, _, _, j, x, h => by simp at h
 | y :: l, i, z, h, 0, x, hx => by
  rw [rightL, Bool.and_eq_true] at h
  simp at hx; subst hx
  exact h.1
 | y :: l, i, z, h, j + 1, x, hx => by
  rw [rightL, Bool.and_eq_true] at h
  have := right_at l (i + 1) z h.2 j x (by simpa using hx)
  rwa [show i + 1 + j = i + (j + 1) by omega] at this
theorem lead_at {x : Ins} {i : Nat} {z : Int} (h : rightI x i z = true) (hl : isLead x.op = true) : (i : Int) < x.n ∧ x.n ≤ z := by
 obtain ⟨op, n, nm⟩ := x
 unfold rightI endsF isLead at *
 dsimp only at h hl ⊢
 rw [if_pos (of_decide_eq_true hl)] at h
 dsimp only at h
 by_cases hc : op < 1 ∨ op > 13 ∨ n < (i : Int) + 1 ∨ n > z
 ·rw [if_pos hc] at h; exact absurd h (by simp)
 ·omega
theorem lead_of {x : Ins} : (x.op = 9 ∨ x.op = 12 ∨ x.op = 13) ↔ isLead x.op = true := by unfold isLead; simp
def hasNum (op : Int) : Bool := decide (op = 1 ∨ op = 5 ∨ op = 6 ∨ op = 9 ∨ op = 10 ∨ op = 12 ∨ op = 13)
theorem right_facts {x : Ins} {i : Nat} {z : Int} (hz : z ≤ 5000) (h : rightI x i z = true) : 1 ≤ x.op ∧ x.op ≤ 13 ∧ 0 ≤ x.n ∧ x.n ≤ 1000000000000 ∧ (hasNum x.op = false → x.n = 0) ∧ (x.op = 4 → isName x.nm = true) ∧ (x.op ≠ 4 → x.nm.toList = (⟨#[]⟩ : ByteArray).toList) := by
 obtain ⟨op, n, nm⟩ := x
 unfold rightI endsF at h
 dsimp only at h ⊢
 by_cases hc : op < 1 ∨ op > 13 ∨ n < (if op = 9 ∨ op = 12 ∨ op = 13 then ((i : Int) + 1, z) else if op = 1 ∨ op = 5 then (0, 1000000000000) else if op = 6 then (0, 100000) else if op = 10 then (0, 1000) else (0, 0)).1 ∨ n > (if op = 9 ∨ op = 12 ∨ op = 13 then ((i : Int) + 1, z) else if op = 1 ∨ op = 5 then (0, 1000000000000) else if op = 6 then (0, 100000) else if op = 10 then (0, 1000) else (0, 0)).2
 ·rw [if_pos hc] at h; exact absurd h (by simp)
 ·rw [if_neg hc] at h
  have h4 : (op = 4 → isName nm = true) ∧ (op ≠ 4 → nm.toList = (⟨#[]⟩ : ByteArray).toList) := by
   constructor
   ·intro h4; rwa [if_pos h4] at h
   ·intro h4; rw [if_neg h4] at h; exact beq_iff_eq.1 h
  unfold hasNum
  refine ⟨by omega, by omega, ?_, ?_, fun hn => ?_, h4.1, h4.2⟩
  ·(repeat' split at hc) <;> dsimp only at hc <;> omega
  ·(repeat' split at hc) <;> dsimp only at hc <;> omega
  ·have := of_decide_eq_false hn
   (repeat' split at hc) <;> dsimp only at hc <;> omega
end Go.Proofs.YtgpkppohfodhdaaGreatDoor.Pm
