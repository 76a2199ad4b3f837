/- Texts that are merged: CoZ, CoA, CoB, CoC, CoD, CoE, CoF. -/
import Derived.Test.YtadpifnlkmeifaaDoorPmBll
import Derived.Test.YtadpifnlkmeifaaDoorPtBll
import Derived.Test.YtadpifnlkmeifaaDoorLxAll
import Derived.Test.YtadpifnlkmeifaaDoorPtCll
/- Code (layer 10), in the pure machine: instructions. -/
namespace Go.Proofs.YtadpifnlkmeifaaDoor.Pm
open Go Go.RowKit
structure Ins where
  op : Int
  n : Int
  nm : ByteArray
@[reducible] def cellsI (x : Ins) : List CV := [.int .i64 x.op, .int .i64 x.n, .str x.nm]
@[reducible] def pIn (x : Ins) : PV := .agg (cellsI x)
def rowI (l : List Ins) : List (List CV) := l.map cellsI
theorem rowI_len (l : List Ins) : (rowI l).length = l.length := by simp [rowI]
end Go.Proofs.YtadpifnlkmeifaaDoor.Pm

/- Code (layer 10), in the pure machine: instructions, what may be. -/
namespace Go.Proofs.YtadpifnlkmeifaaDoor.Pm
open Go Go.RowKit Go.Proofs.YtadpifnlkmeifaaDoor.Pl
set_option linter.unusedVariables false
set_option maxHeartbeats 1000000
theorem rowI_get {l : List Ins} {j : Nat} {y : Ins} (h : l[j]? = some y) : (rowI l)[j]? = some (cellsI y) := by unfold rowI; rw [List.getElem?_map, h]; rfl
def endsF (op i len : Int) : Int × Int :=
  if op = 9 ∨ op = 12 ∨ op = 13 then (i + 1, len) else if op = 1 ∨ op = 5 then (0, 1000000000000) else if op = 6 then (0, 100000) else if op = 10 then (0, 1000) else (0, 0)
theorem ends_cases (op : Int) : (op = 9 ∨ (op ≠ 9 ∧ op = 12) ∨ (op ≠ 9 ∧ op ≠ 12 ∧ op = 13)) ∨ (op ≠ 9 ∧ op ≠ 12 ∧ op ≠ 13) ∧ ((op = 1 ∨ (op ≠ 1 ∧ op = 5)) ∨ (op ≠ 1 ∧ op ≠ 5) ∧ (op = 6 ∨ op ≠ 6 ∧ (op = 10 ∨ op ≠ 10))) := by omega
theorem ends_ok (x : Ins) (i len : Int) (h0 : 0 ≤ i) (h1 : i ≤ 4611686018427387904) : Ok E 32 [] [pIn x, pI i, pI len] (.tup [pI (endsF x.op i len).1, pI (endsF x.op i len).2]) [] := by
  obtain ⟨op, n, nm⟩ := x
  obtain ⟨r, hr⟩ : ∃ r, endsF op i len = r := ⟨_, rfl⟩
  rw [hr]
  unfold endsF at hr
  rcases ends_cases op with (h | ⟨h9, h⟩ | ⟨h9, h12, h⟩) | ⟨⟨h9, h12, h13⟩, (h | ⟨h1, h⟩) | ⟨⟨h1, h5⟩, h | ⟨h6, h | h⟩⟩⟩
  · rw [if_pos (by omega)] at hr; subst hr
    refine Ok.enter hE Tryd.func32 rfl (by decide +kernel) (by kernel_rfl) rfl rfl (Nat.le_of_ble_eq_true rfl) rfl ?_
    refine ⟨_, eqT h, ?_⟩
    refine ⟨_, addV rfl (by omega) (by omega), ?_⟩
    exact Ret.mk _ rfl rfl rfl
  · rw [if_pos (by omega)] at hr; subst hr
    refine Ok.enter hE Tryd.func32 rfl (by decide +kernel) (by kernel_rfl) rfl rfl (Nat.le_of_ble_eq_true rfl) rfl ?_
    refine ⟨_, eqN h9, ?_⟩
    refine ⟨_, eqT h, ?_⟩
    refine ⟨_, addV rfl (by omega) (by omega), ?_⟩
    exact Ret.mk _ rfl rfl rfl
  · rw [if_pos (by omega)] at hr; subst hr
    refine Ok.enter hE Tryd.func32 rfl (by decide +kernel) (by kernel_rfl) rfl rfl (Nat.le_of_ble_eq_true rfl) rfl ?_
    refine ⟨_, eqN h9, ?_⟩
    refine ⟨_, eqN h12, ?_⟩
    refine ⟨_, eqT h, ?_⟩
    refine ⟨_, addV rfl (by omega) (by omega), ?_⟩
    exact Ret.mk _ rfl rfl rfl
  · rw [if_neg (by omega), if_pos (by omega)] at hr; subst hr
    refine Ok.enter hE Tryd.func32 rfl (by decide +kernel) (by kernel_rfl) rfl rfl (Nat.le_of_ble_eq_true rfl) rfl ?_
    refine ⟨_, eqN h9, ?_⟩
    refine ⟨_, eqN h12, ?_⟩
    refine ⟨_, eqN h13, ?_⟩
    refine ⟨_, eqT h, ?_⟩
    exact Ret.mk _ rfl rfl rfl
  · rw [if_neg (by omega), if_pos (by omega)] at hr; subst hr
    refine Ok.enter hE Tryd.func32 rfl (by decide +kernel) (by kernel_rfl) rfl rfl (Nat.le_of_ble_eq_true rfl) rfl ?_
    refine ⟨_, eqN h9, ?_⟩
    refine ⟨_, eqN h12, ?_⟩
    refine ⟨_, eqN h13, ?_⟩
    refine ⟨_, eqN h1, ?_⟩
    refine ⟨_, eqT h, ?_⟩
    exact Ret.mk _ rfl rfl rfl
  · rw [if_neg (by omega), if_neg (by omega), if_pos h] at hr; subst hr
    refine Ok.enter hE Tryd.func32 rfl (by decide +kernel) (by kernel_rfl) rfl rfl (Nat.le_of_ble_eq_true rfl) rfl ?_
    refine ⟨_, eqN h9, ?_⟩
    refine ⟨_, eqN h12, ?_⟩
    refine ⟨_, eqN h13, ?_⟩
    refine ⟨_, eqN h1, ?_⟩
    refine ⟨_, eqN h5, ?_⟩
    refine ⟨_, eqT h, ?_⟩
    exact Ret.mk _ rfl rfl rfl
  · rw [if_neg (by omega), if_neg (by omega), if_neg h6, if_pos h] at hr; subst hr
    refine Ok.enter hE Tryd.func32 rfl (by decide +kernel) (by kernel_rfl) rfl rfl (Nat.le_of_ble_eq_true rfl) rfl ?_
    refine ⟨_, eqN h9, ?_⟩
    refine ⟨_, eqN h12, ?_⟩
    refine ⟨_, eqN h13, ?_⟩
    refine ⟨_, eqN h1, ?_⟩
    refine ⟨_, eqN h5, ?_⟩
    refine ⟨_, eqN h6, ?_⟩
    refine ⟨_, eqT h, ?_⟩
    exact Ret.mk _ rfl rfl rfl
  · rw [if_neg (by omega), if_neg (by omega), if_neg h6, if_neg h] at hr; subst hr
    refine Ok.enter hE Tryd.func32 rfl (by decide +kernel) (by kernel_rfl) rfl rfl (Nat.le_of_ble_eq_true rfl) rfl ?_
    refine ⟨_, eqN h9, ?_⟩
    refine ⟨_, eqN h12, ?_⟩
    refine ⟨_, eqN h13, ?_⟩
    refine ⟨_, eqN h1, ?_⟩
    refine ⟨_, eqN h5, ?_⟩
    refine ⟨_, eqN h6, ?_⟩
    refine ⟨_, eqN h, ?_⟩
    exact Ret.mk _ rfl rfl rfl
def rightI (x : Ins) (i len : Int) : Bool :=
  if x.op < 1 ∨ x.op > 13 ∨ x.n < (endsF x.op i len).1 ∨ x.n > (endsF x.op i len).2 then false else if x.op = 4 then isName x.nm else x.nm.toList == (⟨#[]⟩ : ByteArray).toList
def rightL : List Ins → Nat → Int → Bool
  | [], _, _ => true
  | x :: l, i, len => rightI x i len && rightL l (i + 1) len
def rightF (l : List Ins) : Bool := rightL l 0 l.length && decide (l.length ≤ 5000)
theorem name_ne {nm : ByteArray} (h : isName nm = true) : (nm.toList == (⟨#[]⟩ : ByteArray).toList) = false := by
  unfold isName at h
  rw [toList_data, toList_data]
  cases hl : nm.data.toList with
  | nil => rw [hl] at h; cases h
  | cons c l => rfl
theorem Right10_ok (l : List Ins) (hl : l.length ≤ 4611686018427387000) : Ok E 16 [] [.c (.row (rowI l))] (pB (rightF l)) [] := by
  have hrl := rowI_len l
  obtain ⟨v, hv⟩ : ∃ v, rightF l = v := ⟨_, rfl⟩
  rw [hv]
  unfold rightF at hv
  refine Ok.enter hE Tryd.func16 rfl (by decide +kernel) (by kernel_rfl) rfl rfl (Nat.le_of_ble_eq_true rfl) rfl ?_
  refine Loop.cut (α := Nat) (fun j => j ≤ l.length ∧ (rightL (l.drop j) j l.length && decide (l.length ≤ 5000)) = v) (fun j => [(0, .c (.row (rowI l))), (8, .c (.row (rowI l))), (9, pI l.length), (10, pI j)]) (fun _ => []) (fun _ => []) (fun j => l.length - j) 0 0 (fun _ => rfl) (fun _ => rfl) (fun _ => rfl) ⟨Nat.zero_le _, hv⟩ ⟨⟨rfl, rfl, by rw [← hrl]; rfl, rfl, trivial⟩, rfl, rfl⟩ ?_
  rintro j f ⟨hj, hjv⟩
  by_cases hjl : j < l.length
  rotate_left
  · rw [List.drop_of_length_le (by omega), rightL, Bool.true_and] at hjv
    refine ⟨_, ltN (by omega), ?_⟩
    refine ⟨_, leV (c := v) (by rw [hrl, ← hjv]; exact decide_eq_decide.2 (by omega)), ?_⟩
    exact Ret.mk _ rfl rfl rfl
  obtain ⟨x, hx⟩ : ∃ x, l[j]? = some x := ⟨_, List.getElem?_eq_getElem hjl⟩
  have hd : l.drop j = x :: l.drop (j + 1) := by
    rw [List.drop_eq_getElem_cons hjl]
    rw [List.getElem?_eq_getElem hjl] at hx
    injection hx with hx
    rw [hx]
  rw [hd, rightL] at hjv
  have hE2 := ends_ok x j ((rowI l).length) (by omega) (by omega)
  have hN := Name_ok x.nm
  obtain ⟨op, n, nm⟩ := x
  obtain ⟨⟨lo, hi⟩, hlh⟩ : ∃ p, endsF op j l.length = p := ⟨_, rfl⟩
  have hI : rightI ⟨op, n, nm⟩ j l.length = if op < 1 ∨ op > 13 ∨ n < lo ∨ n > hi then false else if op = 4 then isName nm else nm.toList == (⟨#[]⟩ : ByteArray).toList := by
    unfold rightI
    dsimp only
    rw [hlh]
  rw [show endsF (⟨op, n, nm⟩ : Ins).op j ((rowI l).length) = (lo, hi) by rw [hrl]; exact hlh] at hE2
  rw [hI] at hjv
  refine ⟨_, ltT (by omega), ?_⟩
  refine ⟨_, idxV (j := j) (rowI_get hx) rfl rfl rfl rfl, ?_⟩
  refine ⟨_, CallR.mk1 hE2 rfl rfl, ?_⟩
  have hc : op < 1 ∨ (¬ op < 1 ∧ op > 13) ∨ (¬ op < 1 ∧ ¬ op > 13 ∧ n < lo) ∨ (¬ op < 1 ∧ ¬ op > 13 ∧ ¬ n < lo ∧ n > hi) ∨ (¬ op < 1 ∧ ¬ op > 13 ∧ ¬ n < lo ∧ ¬ n > hi) := by omega
  rcases hc with h | ⟨c1, h⟩ | ⟨c1, c2, h⟩ | ⟨c1, c2, c3, h⟩ | ⟨c1, c2, c3, c4⟩
  · rw [if_pos (by omega), Bool.false_and, Bool.false_and] at hjv
    refine ⟨_, ltT h, ?_⟩
    exact Ret.mk _ rfl (congrArg (fun b : Bool => pB b) hjv) rfl
  · rw [if_pos (by omega), Bool.false_and, Bool.false_and] at hjv
    refine ⟨_, ltN c1, ?_⟩
    refine ⟨_, gtT h, ?_⟩
    exact Ret.mk _ rfl (congrArg (fun b : Bool => pB b) hjv) rfl
  · rw [if_pos (by omega), Bool.false_and, Bool.false_and] at hjv
    refine ⟨_, ltN c1, ?_⟩
    refine ⟨_, gtN c2, ?_⟩
    refine ⟨_, ltT h, ?_⟩
    exact Ret.mk _ rfl (congrArg (fun b : Bool => pB b) hjv) rfl
  · rw [if_pos (by omega), Bool.false_and, Bool.false_and] at hjv
    refine ⟨_, ltN c1, ?_⟩
    refine ⟨_, gtN c2, ?_⟩
    refine ⟨_, ltN c3, ?_⟩
    refine ⟨_, gtT h, ?_⟩
    exact Ret.mk _ rfl (congrArg (fun b : Bool => pB b) hjv) rfl
  rw [if_neg (by omega)] at hjv
  refine ⟨_, ltN c1, ?_⟩
  refine ⟨_, gtN c2, ?_⟩
  refine ⟨_, ltN c3, ?_⟩
  refine ⟨_, gtN c4, ?_⟩
  have hop : op = 4 ∨ op ≠ 4 := by omega
  rcases hop with h4 | h4
  · rw [if_pos h4] at hjv
    refine ⟨_, eqT h4, ?_⟩
    rcases Bool.eq_false_or_eq_true (isName nm) with hn | hn
    · rw [hn, Bool.true_and] at hjv
      rw [hn] at hN
      refine ⟨_, CallR.mk1 hN rfl rfl, ?_⟩
      refine ⟨_, neBN rfl, ?_⟩
      refine ⟨_, addV rfl (by omega) (by omega), ?_⟩
      exact ⟨j + 1, ⟨hjl, hjv⟩, by show l.length - (j + 1) < l.length - j; omega, ⟨rfl, rfl, rfl, rfl, trivial⟩, ⟨_, rfl⟩, rfl⟩
    · rw [hn, Bool.false_and, Bool.false_and] at hjv
      rw [hn] at hN
      refine ⟨_, CallR.mk1 hN rfl rfl, ?_⟩
      refine ⟨_, neBT rfl, ?_⟩
      exact Ret.mk _ rfl (congrArg (fun b : Bool => pB b) hjv) rfl
  · rw [if_neg h4] at hjv
    refine ⟨_, eqN h4, ?_⟩
    rcases Bool.eq_false_or_eq_true (isName nm) with hn | hn
    · rw [name_ne hn, Bool.false_and, Bool.false_and] at hjv
      rw [hn] at hN
      refine ⟨_, CallR.mk1 hN rfl rfl, ?_⟩
      refine ⟨_, neBT rfl, ?_⟩
      exact Ret.mk _ rfl (congrArg (fun b : Bool => pB b) hjv) rfl
    · rw [hn] at hN
      rcases Bool.eq_false_or_eq_true (nm.toList == (⟨#[]⟩ : ByteArray).toList) with he | he
      · rw [he, Bool.true_and] at hjv
        refine ⟨_, CallR.mk1 hN rfl rfl, ?_⟩
        refine ⟨_, neBN rfl, ?_⟩
        refine ⟨_, strNeV (c := false) (by rw [he]; rfl), ?_⟩
        refine ⟨_, addV rfl (by omega) (by omega), ?_⟩
        exact ⟨j + 1, ⟨hjl, hjv⟩, by show l.length - (j + 1) < l.length - j; omega, ⟨rfl, rfl, rfl, rfl, trivial⟩, ⟨_, rfl⟩, rfl⟩
      · rw [he, Bool.false_and, Bool.false_and] at hjv
        refine ⟨_, CallR.mk1 hN rfl rfl, ?_⟩
        refine ⟨_, neBN rfl, ?_⟩
        refine ⟨_, strNeV (c := true) (by rw [he]; rfl), ?_⟩
        exact Ret.mk _ rfl (congrArg (fun b : Bool => pB b) hjv) rfl
end Go.Proofs.YtadpifnlkmeifaaDoor.Pm

/- Code (layer 10), in the pure machine: the document's Right, what is the same, helpers. -/
namespace Go.Proofs.YtadpifnlkmeifaaDoor.Pm
open Go Go.RowKit Go.Proofs.YtadpifnlkmeifaaDoor.Pl
set_option linter.unusedVariables false
set_option maxHeartbeats 1000000
def eqI (x y : Ins) : Bool := (x.op == y.op) && ((x.n == y.n) && ((x.nm.toList == y.nm.toList) && true))
theorem insNe (x y : Ins) {b : Bool} (h : (!(eqI x y)) = b) : BinR E 44 .neq (pIn x) (pIn y) (.c (.bool b)) := ⟨by rw [← h]; rfl⟩
def eqIs : List Ins → List Ins → Bool
  | [], [] => true
  | x :: l, y :: m => eqI x y && eqIs l m
  | _, _ => false
theorem eqI_refl (x : Ins) : eqI x x = true := by unfold eqI; simp
theorem eqIs_refl : ∀ l : List Ins, eqIs l l = true
  | [] => rfl
  | x :: l => by rw [eqIs, eqI_refl, eqIs_refl l]; rfl
theorem eqIs_len : ∀ (l m : List Ins), l.length ≠ m.length → eqIs l m = false
  | [], [], h => absurd rfl h
  | [], y :: m, _ => rfl
  | x :: l, [], _ => rfl
  | x :: l, y :: m, h => by rw [eqIs, eqIs_len l m (by simpa using h), Bool.and_false]
theorem dropI {l : List Ins} {j : Nat} {x : Ins} (hx : l[j]? = some x) : l.drop j = x :: l.drop (j + 1) := by
  obtain ⟨h, e⟩ := List.getElem?_eq_some_iff.1 hx
  rw [List.drop_eq_getElem_cons h, e]
theorem Same10_ok (a b : List Ins) (ha : a.length ≤ 4611686018427387904) : Ok E 13 [] [.c (.row (rowI a)), .c (.row (rowI b))] (pB (eqIs a b)) [] := by
  have la := rowI_len a
  have lb := rowI_len b
  obtain ⟨v, hv⟩ : ∃ v, eqIs a b = v := ⟨_, rfl⟩
  rw [hv]
  by_cases h : a.length = b.length
  rotate_left
  · rw [eqIs_len a b h] at hv
    subst hv
    refine Ok.enter hE Tryd.func13 rfl (by decide +kernel) (by kernel_rfl) rfl rfl (Nat.le_of_ble_eq_true rfl) rfl ?_
    refine ⟨_, neT (by rw [la, lb]; omega), ?_⟩
    exact Ret.mk _ rfl rfl rfl
  refine Ok.enter hE Tryd.func13 rfl (by decide +kernel) (by kernel_rfl) rfl rfl (Nat.le_of_ble_eq_true rfl) rfl ?_
  refine ⟨_, neN (by rw [la, lb]; omega), ?_⟩
  refine Loop.run (α := Nat) (fun j => j ≤ a.length ∧ eqIs (a.drop j) (b.drop j) = v) (fun j => [(0, .c (.row (rowI a))), (1, .c (.row (rowI b))), (5, pI j)]) (fun _ => []) (fun _ => []) (fun j => a.length - j) 0 ⟨Nat.zero_le _, hv⟩ ⟨⟨rfl, rfl, rfl, trivial⟩, rfl, rfl⟩ ?_
  rintro j f ⟨hj, hjv⟩
  by_cases hjl : j < a.length
  · obtain ⟨x, hx⟩ : ∃ x, a[j]? = some x := ⟨_, List.getElem?_eq_getElem hjl⟩
    obtain ⟨y, hy⟩ : ∃ y, b[j]? = some y := ⟨_, List.getElem?_eq_getElem (by omega)⟩
    rw [dropI hx, dropI hy, eqIs] at hjv
    refine ⟨_, ltT (by rw [la]; omega), ?_⟩
    refine ⟨_, idxV (j := j) (rowI_get hx) rfl rfl rfl rfl, ?_⟩
    refine ⟨_, idxV (j := j) (rowI_get hy) rfl rfl rfl rfl, ?_⟩
    rcases Bool.eq_false_or_eq_true (eqI x y) with he | he
    · rw [he, Bool.true_and] at hjv
      refine ⟨_, insNe x y (b := false) (by rw [he]; rfl), ?_⟩
      refine ⟨_, addV rfl (by omega) (by omega), ?_⟩
      exact ⟨j + 1, ⟨hjl, hjv⟩, by omega, ⟨rfl, rfl, rfl, trivial⟩, rfl, rfl⟩
    · rw [he, Bool.false_and] at hjv
      refine ⟨_, insNe x y (b := true) (by rw [he]; rfl), ?_⟩
      exact Ret.mk _ rfl (congrArg (fun b : Bool => pB b) hjv) rfl
  · refine ⟨_, ltN (by rw [la]; omega), ?_⟩
    rw [List.drop_of_length_le (by omega), List.drop_of_length_le (by omega)] at hjv
    exact Ret.mk _ rfl (congrArg (fun b : Bool => pB b) (show true = v from hjv)) rfl
end Go.Proofs.YtadpifnlkmeifaaDoor.Pm

/- Code (layer 10), in the pure machine: what may be, as the document has it. -/
namespace Go.Proofs.YtadpifnlkmeifaaDoor.Pm
open Go Go.RowKit Go.Proofs.YtadpifnlkmeifaaDoor.Pl
set_option linter.unusedVariables false
set_option maxHeartbeats 1000000
theorem rRight10_ok (l : List Ins) (hl : l.length ≤ 4611686018427387000) (hN : ∀ nm, Ok E 37 [] [pS nm] (pB (isName nm)) []) : Ok E 17 [] [.c (.row (rowI l))] (pB (rightF l)) [] := by
  have hrl := rowI_len l
  obtain ⟨v, hv⟩ : ∃ v, rightF l = v := ⟨_, rfl⟩
  rw [hv]
  unfold rightF at hv
  by_cases hbig : 5000 < l.length
  · rw [decide_eq_false (by omega), Bool.and_false] at hv
    subst hv
    refine Ok.enter hE Tryd.func17 rfl (by decide +kernel) (by kernel_rfl) rfl rfl (Nat.le_of_ble_eq_true rfl) rfl ?_
    refine ⟨_, gtT (by rw [hrl]; omega), ?_⟩
    exact Ret.mk _ rfl rfl rfl
  rw [decide_eq_true (by omega), Bool.and_true] at hv
  refine Ok.enter hE Tryd.func17 rfl (by decide +kernel) (by kernel_rfl) rfl rfl (Nat.le_of_ble_eq_true rfl) rfl ?_
  refine ⟨_, gtN (by rw [hrl]; omega), ?_⟩
  refine Loop.run (α := Nat) (fun j => j ≤ l.length ∧ rightL (l.drop j) j l.length = v) (fun j => [(0, .c (.row (rowI l))), (3, pI j)]) (fun _ => []) (fun _ => []) (fun j => l.length - j) 0 ⟨Nat.zero_le _, hv⟩ ⟨⟨rfl, rfl, trivial⟩, rfl, rfl⟩ ?_
  rintro j f ⟨hj, hjv⟩
  by_cases hjl : j < l.length
  rotate_left
  · rw [List.drop_of_length_le (by omega), rightL] at hjv
    refine ⟨_, ltN (by rw [hrl]; omega), ?_⟩
    exact Ret.mk _ rfl (congrArg (fun b : Bool => pB b) hjv) rfl
  obtain ⟨x, hx⟩ : ∃ x, l[j]? = some x := ⟨_, List.getElem?_eq_getElem hjl⟩
  rw [dropI hx, rightL] at hjv
  have hN := hN x.nm
  obtain ⟨op, n, nm⟩ := x
  have hNm : Ok E _ [] [pS nm] (pB (isName nm)) [] := hN
  have hI : ∀ lo hi : Int, endsF op j l.length = (lo, hi) → rightI ⟨op, n, nm⟩ j l.length = if op < 1 ∨ op > 13 ∨ n < lo ∨ n > hi then false else if op = 4 then isName nm else nm.toList == (⟨#[]⟩ : ByteArray).toList := by
    intro lo hi h
    unfold rightI
    dsimp only
    rw [h]
  have hne := fun h : isName nm = true => name_ne h
  refine ⟨_, ltT (by rw [hrl]; omega), ?_⟩
  refine ⟨_, idxV (j := j) (rowI_get hx) rfl rfl rfl rfl, ?_⟩
  rcases ends_cases op with (h | ⟨h9, h⟩ | ⟨h9, h12, h⟩) | ⟨⟨h9, h12, h13⟩, (h | ⟨h1, h⟩) | ⟨⟨h1, h5⟩, h | ⟨h6, h | h⟩⟩⟩
  · rw [hI ((j : Int) + 1) ((l.length : Int)) (by unfold endsF; rw [if_pos (by omega)])] at hjv
    refine ⟨_, eqT h, ?_⟩
    refine ⟨_, addV rfl (by omega) (by omega), ?_⟩
    have hc : op < 1 ∨ (¬ op < 1 ∧ op > 13) ∨ (¬ op < 1 ∧ ¬ op > 13 ∧ n < ((j : Int) + 1 : Int)) ∨ (¬ op < 1 ∧ ¬ op > 13 ∧ ¬ n < ((j : Int) + 1 : Int) ∧ n > ((l.length : Int) : Int)) ∨ (¬ op < 1 ∧ ¬ op > 13 ∧ ¬ n < ((j : Int) + 1 : Int) ∧ ¬ n > ((l.length : Int) : Int)) := by omega
    rcases hc with c | ⟨c1, c⟩ | ⟨c1, c2, c⟩ | ⟨c1, c2, c3, c⟩ | ⟨c1, c2, c3, c4⟩
    · rw [if_pos (by omega), Bool.false_and] at hjv
      refine ⟨_, idxV (j := j) (rowI_get hx) rfl rfl rfl rfl, ?_⟩
      refine ⟨_, ltT c, ?_⟩
      exact Ret.mk _ rfl (congrArg (fun b : Bool => pB b) hjv) rfl
    · rw [if_pos (by omega), Bool.false_and] at hjv
      refine ⟨_, idxV (j := j) (rowI_get hx) rfl rfl rfl rfl, ?_⟩
      refine ⟨_, ltN c1, ?_⟩
      refine ⟨_, idxV (j := j) (rowI_get hx) rfl rfl rfl rfl, ?_⟩
      refine ⟨_, gtT c, ?_⟩
      exact Ret.mk _ rfl (congrArg (fun b : Bool => pB b) hjv) rfl
    · rw [if_pos (by omega), Bool.false_and] at hjv
      refine ⟨_, idxV (j := j) (rowI_get hx) rfl rfl rfl rfl, ?_⟩
      refine ⟨_, ltN c1, ?_⟩
      refine ⟨_, idxV (j := j) (rowI_get hx) rfl rfl rfl rfl, ?_⟩
      refine ⟨_, gtN c2, ?_⟩
      refine ⟨_, idxV (j := j) (rowI_get hx) rfl rfl rfl rfl, ?_⟩
      refine ⟨_, ltT c, ?_⟩
      exact Ret.mk _ rfl (congrArg (fun b : Bool => pB b) hjv) rfl
    · rw [if_pos (by omega), Bool.false_and] at hjv
      refine ⟨_, idxV (j := j) (rowI_get hx) rfl rfl rfl rfl, ?_⟩
      refine ⟨_, ltN c1, ?_⟩
      refine ⟨_, idxV (j := j) (rowI_get hx) rfl rfl rfl rfl, ?_⟩
      refine ⟨_, gtN c2, ?_⟩
      refine ⟨_, idxV (j := j) (rowI_get hx) rfl rfl rfl rfl, ?_⟩
      refine ⟨_, ltN c3, ?_⟩
      refine ⟨_, idxV (j := j) (rowI_get hx) rfl rfl rfl rfl, ?_⟩
      refine ⟨_, gtT (by show n > ((rowI l).length : Int); omega), ?_⟩
      exact Ret.mk _ rfl (congrArg (fun b : Bool => pB b) hjv) rfl
    rw [if_neg (by omega)] at hjv
    refine ⟨_, idxV (j := j) (rowI_get hx) rfl rfl rfl rfl, ?_⟩
    refine ⟨_, ltN c1, ?_⟩
    refine ⟨_, idxV (j := j) (rowI_get hx) rfl rfl rfl rfl, ?_⟩
    refine ⟨_, gtN c2, ?_⟩
    refine ⟨_, idxV (j := j) (rowI_get hx) rfl rfl rfl rfl, ?_⟩
    refine ⟨_, ltN c3, ?_⟩
    refine ⟨_, idxV (j := j) (rowI_get hx) rfl rfl rfl rfl, ?_⟩
    refine ⟨_, gtN (by show ¬ n > ((rowI l).length : Int); omega), ?_⟩
    have hop : op = 4 ∨ op ≠ 4 := by omega
    rcases hop with h4 | h4
    · rw [if_pos h4] at hjv
      refine ⟨_, idxV (j := j) (rowI_get hx) rfl rfl rfl rfl, ?_⟩
      refine ⟨_, eqT h4, ?_⟩
      refine ⟨_, idxV (j := j) (rowI_get hx) rfl rfl rfl rfl, ?_⟩
      rcases Bool.eq_false_or_eq_true (isName nm) with hn | hn
      · rw [hn, Bool.true_and] at hjv
        rw [hn] at hNm
        refine ⟨_, CallR.mk1 hNm rfl rfl, ?_⟩
        refine ⟨_, idxV (j := j) (rowI_get hx) rfl rfl rfl rfl, ?_⟩
        refine ⟨_, neN h4, ?_⟩
        refine ⟨_, addV rfl (by omega) (by omega), ?_⟩
        exact ⟨j + 1, ⟨hjl, hjv⟩, by show l.length - (j + 1) < l.length - j; omega, ⟨rfl, rfl, trivial⟩, rfl, rfl⟩
      · rw [hn, Bool.false_and] at hjv
        rw [hn] at hNm
        refine ⟨_, CallR.mk1 hNm rfl rfl, ?_⟩
        exact Ret.mk _ rfl (congrArg (fun b : Bool => pB b) hjv) rfl
    · rw [if_neg h4] at hjv
      refine ⟨_, idxV (j := j) (rowI_get hx) rfl rfl rfl rfl, ?_⟩
      refine ⟨_, eqN h4, ?_⟩
      refine ⟨_, idxV (j := j) (rowI_get hx) rfl rfl rfl rfl, ?_⟩
      refine ⟨_, neT h4, ?_⟩
      refine ⟨_, idxV (j := j) (rowI_get hx) rfl rfl rfl rfl, ?_⟩
      rcases Bool.eq_false_or_eq_true (nm.toList == (⟨#[]⟩ : ByteArray).toList) with he | he
      · rw [he, Bool.true_and] at hjv
        refine ⟨_, strNeV (c := false) (by rw [he]; rfl), ?_⟩
        refine ⟨_, addV rfl (by omega) (by omega), ?_⟩
        exact ⟨j + 1, ⟨hjl, hjv⟩, by show l.length - (j + 1) < l.length - j; omega, ⟨rfl, rfl, trivial⟩, rfl, rfl⟩
      · rw [he, Bool.false_and] at hjv
        refine ⟨_, strNeV (c := true) (by rw [he]; rfl), ?_⟩
        exact Ret.mk _ rfl (congrArg (fun b : Bool => pB b) hjv) rfl
  · rw [hI ((j : Int) + 1) ((l.length : Int)) (by unfold endsF; rw [if_pos (by omega)])] at hjv
    refine ⟨_, eqN h9, ?_⟩
    refine ⟨_, eqT h, ?_⟩
    refine ⟨_, addV rfl (by omega) (by omega), ?_⟩
    have hc : op < 1 ∨ (¬ op < 1 ∧ op > 13) ∨ (¬ op < 1 ∧ ¬ op > 13 ∧ n < ((j : Int) + 1 : Int)) ∨ (¬ op < 1 ∧ ¬ op > 13 ∧ ¬ n < ((j : Int) + 1 : Int) ∧ n > ((l.length : Int) : Int)) ∨ (¬ op < 1 ∧ ¬ op > 13 ∧ ¬ n < ((j : Int) + 1 : Int) ∧ ¬ n > ((l.length : Int) : Int)) := by omega
    rcases hc with c | ⟨c1, c⟩ | ⟨c1, c2, c⟩ | ⟨c1, c2, c3, c⟩ | ⟨c1, c2, c3, c4⟩
    · rw [if_pos (by omega), Bool.false_and] at hjv
      refine ⟨_, idxV (j := j) (rowI_get hx) rfl rfl rfl rfl, ?_⟩
      refine ⟨_, ltT c, ?_⟩
      exact Ret.mk _ rfl (congrArg (fun b : Bool => pB b) hjv) rfl
    · rw [if_pos (by omega), Bool.false_and] at hjv
      refine ⟨_, idxV (j := j) (rowI_get hx) rfl rfl rfl rfl, ?_⟩
      refine ⟨_, ltN c1, ?_⟩
      refine ⟨_, idxV (j := j) (rowI_get hx) rfl rfl rfl rfl, ?_⟩
      refine ⟨_, gtT c, ?_⟩
      exact Ret.mk _ rfl (congrArg (fun b : Bool => pB b) hjv) rfl
    · rw [if_pos (by omega), Bool.false_and] at hjv
      refine ⟨_, idxV (j := j) (rowI_get hx) rfl rfl rfl rfl, ?_⟩
      refine ⟨_, ltN c1, ?_⟩
      refine ⟨_, idxV (j := j) (rowI_get hx) rfl rfl rfl rfl, ?_⟩
      refine ⟨_, gtN c2, ?_⟩
      refine ⟨_, idxV (j := j) (rowI_get hx) rfl rfl rfl rfl, ?_⟩
      refine ⟨_, ltT c, ?_⟩
      exact Ret.mk _ rfl (congrArg (fun b : Bool => pB b) hjv) rfl
    · rw [if_pos (by omega), Bool.false_and] at hjv
      refine ⟨_, idxV (j := j) (rowI_get hx) rfl rfl rfl rfl, ?_⟩
      refine ⟨_, ltN c1, ?_⟩
      refine ⟨_, idxV (j := j) (rowI_get hx) rfl rfl rfl rfl, ?_⟩
      refine ⟨_, gtN c2, ?_⟩
      refine ⟨_, idxV (j := j) (rowI_get hx) rfl rfl rfl rfl, ?_⟩
      refine ⟨_, ltN c3, ?_⟩
      refine ⟨_, idxV (j := j) (rowI_get hx) rfl rfl rfl rfl, ?_⟩
      refine ⟨_, gtT (by show n > ((rowI l).length : Int); omega), ?_⟩
      exact Ret.mk _ rfl (congrArg (fun b : Bool => pB b) hjv) rfl
    rw [if_neg (by omega)] at hjv
    refine ⟨_, idxV (j := j) (rowI_get hx) rfl rfl rfl rfl, ?_⟩
    refine ⟨_, ltN c1, ?_⟩
    refine ⟨_, idxV (j := j) (rowI_get hx) rfl rfl rfl rfl, ?_⟩
    refine ⟨_, gtN c2, ?_⟩
    refine ⟨_, idxV (j := j) (rowI_get hx) rfl rfl rfl rfl, ?_⟩
    refine ⟨_, ltN c3, ?_⟩
    refine ⟨_, idxV (j := j) (rowI_get hx) rfl rfl rfl rfl, ?_⟩
    refine ⟨_, gtN (by show ¬ n > ((rowI l).length : Int); omega), ?_⟩
    have hop : op = 4 ∨ op ≠ 4 := by omega
    rcases hop with h4 | h4
    · rw [if_pos h4] at hjv
      refine ⟨_, idxV (j := j) (rowI_get hx) rfl rfl rfl rfl, ?_⟩
      refine ⟨_, eqT h4, ?_⟩
      refine ⟨_, idxV (j := j) (rowI_get hx) rfl rfl rfl rfl, ?_⟩
      rcases Bool.eq_false_or_eq_true (isName nm) with hn | hn
      · rw [hn, Bool.true_and] at hjv
        rw [hn] at hNm
        refine ⟨_, CallR.mk1 hNm rfl rfl, ?_⟩
        refine ⟨_, idxV (j := j) (rowI_get hx) rfl rfl rfl rfl, ?_⟩
        refine ⟨_, neN h4, ?_⟩
        refine ⟨_, addV rfl (by omega) (by omega), ?_⟩
        exact ⟨j + 1, ⟨hjl, hjv⟩, by show l.length - (j + 1) < l.length - j; omega, ⟨rfl, rfl, trivial⟩, rfl, rfl⟩
      · rw [hn, Bool.false_and] at hjv
        rw [hn] at hNm
        refine ⟨_, CallR.mk1 hNm rfl rfl, ?_⟩
        exact Ret.mk _ rfl (congrArg (fun b : Bool => pB b) hjv) rfl
    · rw [if_neg h4] at hjv
      refine ⟨_, idxV (j := j) (rowI_get hx) rfl rfl rfl rfl, ?_⟩
      refine ⟨_, eqN h4, ?_⟩
      refine ⟨_, idxV (j := j) (rowI_get hx) rfl rfl rfl rfl, ?_⟩
      refine ⟨_, neT h4, ?_⟩
      refine ⟨_, idxV (j := j) (rowI_get hx) rfl rfl rfl rfl, ?_⟩
      rcases Bool.eq_false_or_eq_true (nm.toList == (⟨#[]⟩ : ByteArray).toList) with he | he
      · rw [he, Bool.true_and] at hjv
        refine ⟨_, strNeV (c := false) (by rw [he]; rfl), ?_⟩
        refine ⟨_, addV rfl (by omega) (by omega), ?_⟩
        exact ⟨j + 1, ⟨hjl, hjv⟩, by show l.length - (j + 1) < l.length - j; omega, ⟨rfl, rfl, trivial⟩, rfl, rfl⟩
      · rw [he, Bool.false_and] at hjv
        refine ⟨_, strNeV (c := true) (by rw [he]; rfl), ?_⟩
        exact Ret.mk _ rfl (congrArg (fun b : Bool => pB b) hjv) rfl
  · rw [hI ((j : Int) + 1) ((l.length : Int)) (by unfold endsF; rw [if_pos (by omega)])] at hjv
    refine ⟨_, eqN h9, ?_⟩
    refine ⟨_, eqN h12, ?_⟩
    refine ⟨_, eqT h, ?_⟩
    refine ⟨_, addV rfl (by omega) (by omega), ?_⟩
    have hc : op < 1 ∨ (¬ op < 1 ∧ op > 13) ∨ (¬ op < 1 ∧ ¬ op > 13 ∧ n < ((j : Int) + 1 : Int)) ∨ (¬ op < 1 ∧ ¬ op > 13 ∧ ¬ n < ((j : Int) + 1 : Int) ∧ n > ((l.length : Int) : Int)) ∨ (¬ op < 1 ∧ ¬ op > 13 ∧ ¬ n < ((j : Int) + 1 : Int) ∧ ¬ n > ((l.length : Int) : Int)) := by omega
    rcases hc with c | ⟨c1, c⟩ | ⟨c1, c2, c⟩ | ⟨c1, c2, c3, c⟩ | ⟨c1, c2, c3, c4⟩
    · rw [if_pos (by omega), Bool.false_and] at hjv
      refine ⟨_, idxV (j := j) (rowI_get hx) rfl rfl rfl rfl, ?_⟩
      refine ⟨_, ltT c, ?_⟩
      exact Ret.mk _ rfl (congrArg (fun b : Bool => pB b) hjv) rfl
    · rw [if_pos (by omega), Bool.false_and] at hjv
      refine ⟨_, idxV (j := j) (rowI_get hx) rfl rfl rfl rfl, ?_⟩
      refine ⟨_, ltN c1, ?_⟩
      refine ⟨_, idxV (j := j) (rowI_get hx) rfl rfl rfl rfl, ?_⟩
      refine ⟨_, gtT c, ?_⟩
      exact Ret.mk _ rfl (congrArg (fun b : Bool => pB b) hjv) rfl
    · rw [if_pos (by omega), Bool.false_and] at hjv
      refine ⟨_, idxV (j := j) (rowI_get hx) rfl rfl rfl rfl, ?_⟩
      refine ⟨_, ltN c1, ?_⟩
      refine ⟨_, idxV (j := j) (rowI_get hx) rfl rfl rfl rfl, ?_⟩
      refine ⟨_, gtN c2, ?_⟩
      refine ⟨_, idxV (j := j) (rowI_get hx) rfl rfl rfl rfl, ?_⟩
      refine ⟨_, ltT c, ?_⟩
      exact Ret.mk _ rfl (congrArg (fun b : Bool => pB b) hjv) rfl
    · rw [if_pos (by omega), Bool.false_and] at hjv
      refine ⟨_, idxV (j := j) (rowI_get hx) rfl rfl rfl rfl, ?_⟩
      refine ⟨_, ltN c1, ?_⟩
      refine ⟨_, idxV (j := j) (rowI_get hx) rfl rfl rfl rfl, ?_⟩
      refine ⟨_, gtN c2, ?_⟩
      refine ⟨_, idxV (j := j) (rowI_get hx) rfl rfl rfl rfl, ?_⟩
      refine ⟨_, ltN c3, ?_⟩
      refine ⟨_, idxV (j := j) (rowI_get hx) rfl rfl rfl rfl, ?_⟩
      refine ⟨_, gtT (by show n > ((rowI l).length : Int); omega), ?_⟩
      exact Ret.mk _ rfl (congrArg (fun b : Bool => pB b) hjv) rfl
    rw [if_neg (by omega)] at hjv
    refine ⟨_, idxV (j := j) (rowI_get hx) rfl rfl rfl rfl, ?_⟩
    refine ⟨_, ltN c1, ?_⟩
    refine ⟨_, idxV (j := j) (rowI_get hx) rfl rfl rfl rfl, ?_⟩
    refine ⟨_, gtN c2, ?_⟩
    refine ⟨_, idxV (j := j) (rowI_get hx) rfl rfl rfl rfl, ?_⟩
    refine ⟨_, ltN c3, ?_⟩
    refine ⟨_, idxV (j := j) (rowI_get hx) rfl rfl rfl rfl, ?_⟩
    refine ⟨_, gtN (by show ¬ n > ((rowI l).length : Int); omega), ?_⟩
    have hop : op = 4 ∨ op ≠ 4 := by omega
    rcases hop with h4 | h4
    · rw [if_pos h4] at hjv
      refine ⟨_, idxV (j := j) (rowI_get hx) rfl rfl rfl rfl, ?_⟩
      refine ⟨_, eqT h4, ?_⟩
      refine ⟨_, idxV (j := j) (rowI_get hx) rfl rfl rfl rfl, ?_⟩
      rcases Bool.eq_false_or_eq_true (isName nm) with hn | hn
      · rw [hn, Bool.true_and] at hjv
        rw [hn] at hNm
        refine ⟨_, CallR.mk1 hNm rfl rfl, ?_⟩
        refine ⟨_, idxV (j := j) (rowI_get hx) rfl rfl rfl rfl, ?_⟩
        refine ⟨_, neN h4, ?_⟩
        refine ⟨_, addV rfl (by omega) (by omega), ?_⟩
        exact ⟨j + 1, ⟨hjl, hjv⟩, by show l.length - (j + 1) < l.length - j; omega, ⟨rfl, rfl, trivial⟩, rfl, rfl⟩
      · rw [hn, Bool.false_and] at hjv
        rw [hn] at hNm
        refine ⟨_, CallR.mk1 hNm rfl rfl, ?_⟩
        exact Ret.mk _ rfl (congrArg (fun b : Bool => pB b) hjv) rfl
    · rw [if_neg h4] at hjv
      refine ⟨_, idxV (j := j) (rowI_get hx) rfl rfl rfl rfl, ?_⟩
      refine ⟨_, eqN h4, ?_⟩
      refine ⟨_, idxV (j := j) (rowI_get hx) rfl rfl rfl rfl, ?_⟩
      refine ⟨_, neT h4, ?_⟩
      refine ⟨_, idxV (j := j) (rowI_get hx) rfl rfl rfl rfl, ?_⟩
      rcases Bool.eq_false_or_eq_true (nm.toList == (⟨#[]⟩ : ByteArray).toList) with he | he
      · rw [he, Bool.true_and] at hjv
        refine ⟨_, strNeV (c := false) (by rw [he]; rfl), ?_⟩
        refine ⟨_, addV rfl (by omega) (by omega), ?_⟩
        exact ⟨j + 1, ⟨hjl, hjv⟩, by show l.length - (j + 1) < l.length - j; omega, ⟨rfl, rfl, trivial⟩, rfl, rfl⟩
      · rw [he, Bool.false_and] at hjv
        refine ⟨_, strNeV (c := true) (by rw [he]; rfl), ?_⟩
        exact Ret.mk _ rfl (congrArg (fun b : Bool => pB b) hjv) rfl
  · rw [hI (0) (1000000000000) (by unfold endsF; rw [if_neg (by omega), if_pos (by omega)])] at hjv
    refine ⟨_, eqN h9, ?_⟩
    refine ⟨_, eqN h12, ?_⟩
    refine ⟨_, eqN h13, ?_⟩
    refine ⟨_, eqT h, ?_⟩
    have hc : op < 1 ∨ (¬ op < 1 ∧ op > 13) ∨ (¬ op < 1 ∧ ¬ op > 13 ∧ n < (0 : Int)) ∨ (¬ op < 1 ∧ ¬ op > 13 ∧ ¬ n < (0 : Int) ∧ n > (1000000000000 : Int)) ∨ (¬ op < 1 ∧ ¬ op > 13 ∧ ¬ n < (0 : Int) ∧ ¬ n > (1000000000000 : Int)) := by omega
    rcases hc with c | ⟨c1, c⟩ | ⟨c1, c2, c⟩ | ⟨c1, c2, c3, c⟩ | ⟨c1, c2, c3, c4⟩
    · rw [if_pos (by omega), Bool.false_and] at hjv
      refine ⟨_, idxV (j := j) (rowI_get hx) rfl rfl rfl rfl, ?_⟩
      refine ⟨_, ltT c, ?_⟩
      exact Ret.mk _ rfl (congrArg (fun b : Bool => pB b) hjv) rfl
    · rw [if_pos (by omega), Bool.false_and] at hjv
      refine ⟨_, idxV (j := j) (rowI_get hx) rfl rfl rfl rfl, ?_⟩
      refine ⟨_, ltN c1, ?_⟩
      refine ⟨_, idxV (j := j) (rowI_get hx) rfl rfl rfl rfl, ?_⟩
      refine ⟨_, gtT c, ?_⟩
      exact Ret.mk _ rfl (congrArg (fun b : Bool => pB b) hjv) rfl
    · rw [if_pos (by omega), Bool.false_and] at hjv
      refine ⟨_, idxV (j := j) (rowI_get hx) rfl rfl rfl rfl, ?_⟩
      refine ⟨_, ltN c1, ?_⟩
      refine ⟨_, idxV (j := j) (rowI_get hx) rfl rfl rfl rfl, ?_⟩
      refine ⟨_, gtN c2, ?_⟩
      refine ⟨_, idxV (j := j) (rowI_get hx) rfl rfl rfl rfl, ?_⟩
      refine ⟨_, ltT c, ?_⟩
      exact Ret.mk _ rfl (congrArg (fun b : Bool => pB b) hjv) rfl
    · rw [if_pos (by omega), Bool.false_and] at hjv
      refine ⟨_, idxV (j := j) (rowI_get hx) rfl rfl rfl rfl, ?_⟩
      refine ⟨_, ltN c1, ?_⟩
      refine ⟨_, idxV (j := j) (rowI_get hx) rfl rfl rfl rfl, ?_⟩
      refine ⟨_, gtN c2, ?_⟩
      refine ⟨_, idxV (j := j) (rowI_get hx) rfl rfl rfl rfl, ?_⟩
      refine ⟨_, ltN c3, ?_⟩
      refine ⟨_, idxV (j := j) (rowI_get hx) rfl rfl rfl rfl, ?_⟩
      refine ⟨_, gtT c, ?_⟩
      exact Ret.mk _ rfl (congrArg (fun b : Bool => pB b) hjv) rfl
    rw [if_neg (by omega)] at hjv
    refine ⟨_, idxV (j := j) (rowI_get hx) rfl rfl rfl rfl, ?_⟩
    refine ⟨_, ltN c1, ?_⟩
    refine ⟨_, idxV (j := j) (rowI_get hx) rfl rfl rfl rfl, ?_⟩
    refine ⟨_, gtN c2, ?_⟩
    refine ⟨_, idxV (j := j) (rowI_get hx) rfl rfl rfl rfl, ?_⟩
    refine ⟨_, ltN c3, ?_⟩
    refine ⟨_, idxV (j := j) (rowI_get hx) rfl rfl rfl rfl, ?_⟩
    refine ⟨_, gtN c4, ?_⟩
    have hop : op = 4 ∨ op ≠ 4 := by omega
    rcases hop with h4 | h4
    · rw [if_pos h4] at hjv
      refine ⟨_, idxV (j := j) (rowI_get hx) rfl rfl rfl rfl, ?_⟩
      refine ⟨_, eqT h4, ?_⟩
      refine ⟨_, idxV (j := j) (rowI_get hx) rfl rfl rfl rfl, ?_⟩
      rcases Bool.eq_false_or_eq_true (isName nm) with hn | hn
      · rw [hn, Bool.true_and] at hjv
        rw [hn] at hNm
        refine ⟨_, CallR.mk1 hNm rfl rfl, ?_⟩
        refine ⟨_, idxV (j := j) (rowI_get hx) rfl rfl rfl rfl, ?_⟩
        refine ⟨_, neN h4, ?_⟩
        refine ⟨_, addV rfl (by omega) (by omega), ?_⟩
        exact ⟨j + 1, ⟨hjl, hjv⟩, by show l.length - (j + 1) < l.length - j; omega, ⟨rfl, rfl, trivial⟩, rfl, rfl⟩
      · rw [hn, Bool.false_and] at hjv
        rw [hn] at hNm
        refine ⟨_, CallR.mk1 hNm rfl rfl, ?_⟩
        exact Ret.mk _ rfl (congrArg (fun b : Bool => pB b) hjv) rfl
    · rw [if_neg h4] at hjv
      refine ⟨_, idxV (j := j) (rowI_get hx) rfl rfl rfl rfl, ?_⟩
      refine ⟨_, eqN h4, ?_⟩
      refine ⟨_, idxV (j := j) (rowI_get hx) rfl rfl rfl rfl, ?_⟩
      refine ⟨_, neT h4, ?_⟩
      refine ⟨_, idxV (j := j) (rowI_get hx) rfl rfl rfl rfl, ?_⟩
      rcases Bool.eq_false_or_eq_true (nm.toList == (⟨#[]⟩ : ByteArray).toList) with he | he
      · rw [he, Bool.true_and] at hjv
        refine ⟨_, strNeV (c := false) (by rw [he]; rfl), ?_⟩
        refine ⟨_, addV rfl (by omega) (by omega), ?_⟩
        exact ⟨j + 1, ⟨hjl, hjv⟩, by show l.length - (j + 1) < l.length - j; omega, ⟨rfl, rfl, trivial⟩, rfl, rfl⟩
      · rw [he, Bool.false_and] at hjv
        refine ⟨_, strNeV (c := true) (by rw [he]; rfl), ?_⟩
        exact Ret.mk _ rfl (congrArg (fun b : Bool => pB b) hjv) rfl
  · rw [hI (0) (1000000000000) (by unfold endsF; rw [if_neg (by omega), if_pos (by omega)])] at hjv
    refine ⟨_, eqN h9, ?_⟩
    refine ⟨_, eqN h12, ?_⟩
    refine ⟨_, eqN h13, ?_⟩
    refine ⟨_, eqN h1, ?_⟩
    refine ⟨_, eqT h, ?_⟩
    have hc : op < 1 ∨ (¬ op < 1 ∧ op > 13) ∨ (¬ op < 1 ∧ ¬ op > 13 ∧ n < (0 : Int)) ∨ (¬ op < 1 ∧ ¬ op > 13 ∧ ¬ n < (0 : Int) ∧ n > (1000000000000 : Int)) ∨ (¬ op < 1 ∧ ¬ op > 13 ∧ ¬ n < (0 : Int) ∧ ¬ n > (1000000000000 : Int)) := by omega
    rcases hc with c | ⟨c1, c⟩ | ⟨c1, c2, c⟩ | ⟨c1, c2, c3, c⟩ | ⟨c1, c2, c3, c4⟩
    · rw [if_pos (by omega), Bool.false_and] at hjv
      refine ⟨_, idxV (j := j) (rowI_get hx) rfl rfl rfl rfl, ?_⟩
      refine ⟨_, ltT c, ?_⟩
      exact Ret.mk _ rfl (congrArg (fun b : Bool => pB b) hjv) rfl
    · rw [if_pos (by omega), Bool.false_and] at hjv
      refine ⟨_, idxV (j := j) (rowI_get hx) rfl rfl rfl rfl, ?_⟩
      refine ⟨_, ltN c1, ?_⟩
      refine ⟨_, idxV (j := j) (rowI_get hx) rfl rfl rfl rfl, ?_⟩
      refine ⟨_, gtT c, ?_⟩
      exact Ret.mk _ rfl (congrArg (fun b : Bool => pB b) hjv) rfl
    · rw [if_pos (by omega), Bool.false_and] at hjv
      refine ⟨_, idxV (j := j) (rowI_get hx) rfl rfl rfl rfl, ?_⟩
      refine ⟨_, ltN c1, ?_⟩
      refine ⟨_, idxV (j := j) (rowI_get hx) rfl rfl rfl rfl, ?_⟩
      refine ⟨_, gtN c2, ?_⟩
      refine ⟨_, idxV (j := j) (rowI_get hx) rfl rfl rfl rfl, ?_⟩
      refine ⟨_, ltT c, ?_⟩
      exact Ret.mk _ rfl (congrArg (fun b : Bool => pB b) hjv) rfl
    · rw [if_pos (by omega), Bool.false_and] at hjv
      refine ⟨_, idxV (j := j) (rowI_get hx) rfl rfl rfl rfl, ?_⟩
      refine ⟨_, ltN c1, ?_⟩
      refine ⟨_, idxV (j := j) (rowI_get hx) rfl rfl rfl rfl, ?_⟩
      refine ⟨_, gtN c2, ?_⟩
      refine ⟨_, idxV (j := j) (rowI_get hx) rfl rfl rfl rfl, ?_⟩
      refine ⟨_, ltN c3, ?_⟩
      refine ⟨_, idxV (j := j) (rowI_get hx) rfl rfl rfl rfl, ?_⟩
      refine ⟨_, gtT c, ?_⟩
      exact Ret.mk _ rfl (congrArg (fun b : Bool => pB b) hjv) rfl
    rw [if_neg (by omega)] at hjv
    refine ⟨_, idxV (j := j) (rowI_get hx) rfl rfl rfl rfl, ?_⟩
    refine ⟨_, ltN c1, ?_⟩
    refine ⟨_, idxV (j := j) (rowI_get hx) rfl rfl rfl rfl, ?_⟩
    refine ⟨_, gtN c2, ?_⟩
    refine ⟨_, idxV (j := j) (rowI_get hx) rfl rfl rfl rfl, ?_⟩
    refine ⟨_, ltN c3, ?_⟩
    refine ⟨_, idxV (j := j) (rowI_get hx) rfl rfl rfl rfl, ?_⟩
    refine ⟨_, gtN c4, ?_⟩
    have hop : op = 4 ∨ op ≠ 4 := by omega
    rcases hop with h4 | h4
    · rw [if_pos h4] at hjv
      refine ⟨_, idxV (j := j) (rowI_get hx) rfl rfl rfl rfl, ?_⟩
      refine ⟨_, eqT h4, ?_⟩
      refine ⟨_, idxV (j := j) (rowI_get hx) rfl rfl rfl rfl, ?_⟩
      rcases Bool.eq_false_or_eq_true (isName nm) with hn | hn
      · rw [hn, Bool.true_and] at hjv
        rw [hn] at hNm
        refine ⟨_, CallR.mk1 hNm rfl rfl, ?_⟩
        refine ⟨_, idxV (j := j) (rowI_get hx) rfl rfl rfl rfl, ?_⟩
        refine ⟨_, neN h4, ?_⟩
        refine ⟨_, addV rfl (by omega) (by omega), ?_⟩
        exact ⟨j + 1, ⟨hjl, hjv⟩, by show l.length - (j + 1) < l.length - j; omega, ⟨rfl, rfl, trivial⟩, rfl, rfl⟩
      · rw [hn, Bool.false_and] at hjv
        rw [hn] at hNm
        refine ⟨_, CallR.mk1 hNm rfl rfl, ?_⟩
        exact Ret.mk _ rfl (congrArg (fun b : Bool => pB b) hjv) rfl
    · rw [if_neg h4] at hjv
      refine ⟨_, idxV (j := j) (rowI_get hx) rfl rfl rfl rfl, ?_⟩
      refine ⟨_, eqN h4, ?_⟩
      refine ⟨_, idxV (j := j) (rowI_get hx) rfl rfl rfl rfl, ?_⟩
      refine ⟨_, neT h4, ?_⟩
      refine ⟨_, idxV (j := j) (rowI_get hx) rfl rfl rfl rfl, ?_⟩
      rcases Bool.eq_false_or_eq_true (nm.toList == (⟨#[]⟩ : ByteArray).toList) with he | he
      · rw [he, Bool.true_and] at hjv
        refine ⟨_, strNeV (c := false) (by rw [he]; rfl), ?_⟩
        refine ⟨_, addV rfl (by omega) (by omega), ?_⟩
        exact ⟨j + 1, ⟨hjl, hjv⟩, by show l.length - (j + 1) < l.length - j; omega, ⟨rfl, rfl, trivial⟩, rfl, rfl⟩
      · rw [he, Bool.false_and] at hjv
        refine ⟨_, strNeV (c := true) (by rw [he]; rfl), ?_⟩
        exact Ret.mk _ rfl (congrArg (fun b : Bool => pB b) hjv) rfl
  · rw [hI (0) (100000) (by unfold endsF; rw [if_neg (by omega), if_neg (by omega), if_pos h])] at hjv
    refine ⟨_, eqN h9, ?_⟩
    refine ⟨_, eqN h12, ?_⟩
    refine ⟨_, eqN h13, ?_⟩
    refine ⟨_, eqN h1, ?_⟩
    refine ⟨_, eqN h5, ?_⟩
    refine ⟨_, eqT h, ?_⟩
    have hc : op < 1 ∨ (¬ op < 1 ∧ op > 13) ∨ (¬ op < 1 ∧ ¬ op > 13 ∧ n < (0 : Int)) ∨ (¬ op < 1 ∧ ¬ op > 13 ∧ ¬ n < (0 : Int) ∧ n > (100000 : Int)) ∨ (¬ op < 1 ∧ ¬ op > 13 ∧ ¬ n < (0 : Int) ∧ ¬ n > (100000 : Int)) := by omega
    rcases hc with c | ⟨c1, c⟩ | ⟨c1, c2, c⟩ | ⟨c1, c2, c3, c⟩ | ⟨c1, c2, c3, c4⟩
    · rw [if_pos (by omega), Bool.false_and] at hjv
      refine ⟨_, idxV (j := j) (rowI_get hx) rfl rfl rfl rfl, ?_⟩
      refine ⟨_, ltT c, ?_⟩
      exact Ret.mk _ rfl (congrArg (fun b : Bool => pB b) hjv) rfl
    · rw [if_pos (by omega), Bool.false_and] at hjv
      refine ⟨_, idxV (j := j) (rowI_get hx) rfl rfl rfl rfl, ?_⟩
      refine ⟨_, ltN c1, ?_⟩
      refine ⟨_, idxV (j := j) (rowI_get hx) rfl rfl rfl rfl, ?_⟩
      refine ⟨_, gtT c, ?_⟩
      exact Ret.mk _ rfl (congrArg (fun b : Bool => pB b) hjv) rfl
    · rw [if_pos (by omega), Bool.false_and] at hjv
      refine ⟨_, idxV (j := j) (rowI_get hx) rfl rfl rfl rfl, ?_⟩
      refine ⟨_, ltN c1, ?_⟩
      refine ⟨_, idxV (j := j) (rowI_get hx) rfl rfl rfl rfl, ?_⟩
      refine ⟨_, gtN c2, ?_⟩
      refine ⟨_, idxV (j := j) (rowI_get hx) rfl rfl rfl rfl, ?_⟩
      refine ⟨_, ltT c, ?_⟩
      exact Ret.mk _ rfl (congrArg (fun b : Bool => pB b) hjv) rfl
    · rw [if_pos (by omega), Bool.false_and] at hjv
      refine ⟨_, idxV (j := j) (rowI_get hx) rfl rfl rfl rfl, ?_⟩
      refine ⟨_, ltN c1, ?_⟩
      refine ⟨_, idxV (j := j) (rowI_get hx) rfl rfl rfl rfl, ?_⟩
      refine ⟨_, gtN c2, ?_⟩
      refine ⟨_, idxV (j := j) (rowI_get hx) rfl rfl rfl rfl, ?_⟩
      refine ⟨_, ltN c3, ?_⟩
      refine ⟨_, idxV (j := j) (rowI_get hx) rfl rfl rfl rfl, ?_⟩
      refine ⟨_, gtT c, ?_⟩
      exact Ret.mk _ rfl (congrArg (fun b : Bool => pB b) hjv) rfl
    rw [if_neg (by omega)] at hjv
    refine ⟨_, idxV (j := j) (rowI_get hx) rfl rfl rfl rfl, ?_⟩
    refine ⟨_, ltN c1, ?_⟩
    refine ⟨_, idxV (j := j) (rowI_get hx) rfl rfl rfl rfl, ?_⟩
    refine ⟨_, gtN c2, ?_⟩
    refine ⟨_, idxV (j := j) (rowI_get hx) rfl rfl rfl rfl, ?_⟩
    refine ⟨_, ltN c3, ?_⟩
    refine ⟨_, idxV (j := j) (rowI_get hx) rfl rfl rfl rfl, ?_⟩
    refine ⟨_, gtN c4, ?_⟩
    have hop : op = 4 ∨ op ≠ 4 := by omega
    rcases hop with h4 | h4
    · rw [if_pos h4] at hjv
      refine ⟨_, idxV (j := j) (rowI_get hx) rfl rfl rfl rfl, ?_⟩
      refine ⟨_, eqT h4, ?_⟩
      refine ⟨_, idxV (j := j) (rowI_get hx) rfl rfl rfl rfl, ?_⟩
      rcases Bool.eq_false_or_eq_true (isName nm) with hn | hn
      · rw [hn, Bool.true_and] at hjv
        rw [hn] at hNm
        refine ⟨_, CallR.mk1 hNm rfl rfl, ?_⟩
        refine ⟨_, idxV (j := j) (rowI_get hx) rfl rfl rfl rfl, ?_⟩
        refine ⟨_, neN h4, ?_⟩
        refine ⟨_, addV rfl (by omega) (by omega), ?_⟩
        exact ⟨j + 1, ⟨hjl, hjv⟩, by show l.length - (j + 1) < l.length - j; omega, ⟨rfl, rfl, trivial⟩, rfl, rfl⟩
      · rw [hn, Bool.false_and] at hjv
        rw [hn] at hNm
        refine ⟨_, CallR.mk1 hNm rfl rfl, ?_⟩
        exact Ret.mk _ rfl (congrArg (fun b : Bool => pB b) hjv) rfl
    · rw [if_neg h4] at hjv
      refine ⟨_, idxV (j := j) (rowI_get hx) rfl rfl rfl rfl, ?_⟩
      refine ⟨_, eqN h4, ?_⟩
      refine ⟨_, idxV (j := j) (rowI_get hx) rfl rfl rfl rfl, ?_⟩
      refine ⟨_, neT h4, ?_⟩
      refine ⟨_, idxV (j := j) (rowI_get hx) rfl rfl rfl rfl, ?_⟩
      rcases Bool.eq_false_or_eq_true (nm.toList == (⟨#[]⟩ : ByteArray).toList) with he | he
      · rw [he, Bool.true_and] at hjv
        refine ⟨_, strNeV (c := false) (by rw [he]; rfl), ?_⟩
        refine ⟨_, addV rfl (by omega) (by omega), ?_⟩
        exact ⟨j + 1, ⟨hjl, hjv⟩, by show l.length - (j + 1) < l.length - j; omega, ⟨rfl, rfl, trivial⟩, rfl, rfl⟩
      · rw [he, Bool.false_and] at hjv
        refine ⟨_, strNeV (c := true) (by rw [he]; rfl), ?_⟩
        exact Ret.mk _ rfl (congrArg (fun b : Bool => pB b) hjv) rfl
  · rw [hI (0) (1000) (by unfold endsF; rw [if_neg (by omega), if_neg (by omega), if_neg h6, if_pos h])] at hjv
    refine ⟨_, eqN h9, ?_⟩
    refine ⟨_, eqN h12, ?_⟩
    refine ⟨_, eqN h13, ?_⟩
    refine ⟨_, eqN h1, ?_⟩
    refine ⟨_, eqN h5, ?_⟩
    refine ⟨_, eqN h6, ?_⟩
    refine ⟨_, eqT h, ?_⟩
    have hc : op < 1 ∨ (¬ op < 1 ∧ op > 13) ∨ (¬ op < 1 ∧ ¬ op > 13 ∧ n < (0 : Int)) ∨ (¬ op < 1 ∧ ¬ op > 13 ∧ ¬ n < (0 : Int) ∧ n > (1000 : Int)) ∨ (¬ op < 1 ∧ ¬ op > 13 ∧ ¬ n < (0 : Int) ∧ ¬ n > (1000 : Int)) := by omega
    rcases hc with c | ⟨c1, c⟩ | ⟨c1, c2, c⟩ | ⟨c1, c2, c3, c⟩ | ⟨c1, c2, c3, c4⟩
    · rw [if_pos (by omega), Bool.false_and] at hjv
      refine ⟨_, idxV (j := j) (rowI_get hx) rfl rfl rfl rfl, ?_⟩
      refine ⟨_, ltT c, ?_⟩
      exact Ret.mk _ rfl (congrArg (fun b : Bool => pB b) hjv) rfl
    · rw [if_pos (by omega), Bool.false_and] at hjv
      refine ⟨_, idxV (j := j) (rowI_get hx) rfl rfl rfl rfl, ?_⟩
      refine ⟨_, ltN c1, ?_⟩
      refine ⟨_, idxV (j := j) (rowI_get hx) rfl rfl rfl rfl, ?_⟩
      refine ⟨_, gtT c, ?_⟩
      exact Ret.mk _ rfl (congrArg (fun b : Bool => pB b) hjv) rfl
    · rw [if_pos (by omega), Bool.false_and] at hjv
      refine ⟨_, idxV (j := j) (rowI_get hx) rfl rfl rfl rfl, ?_⟩
      refine ⟨_, ltN c1, ?_⟩
      refine ⟨_, idxV (j := j) (rowI_get hx) rfl rfl rfl rfl, ?_⟩
      refine ⟨_, gtN c2, ?_⟩
      refine ⟨_, idxV (j := j) (rowI_get hx) rfl rfl rfl rfl, ?_⟩
      refine ⟨_, ltT c, ?_⟩
      exact Ret.mk _ rfl (congrArg (fun b : Bool => pB b) hjv) rfl
    · rw [if_pos (by omega), Bool.false_and] at hjv
      refine ⟨_, idxV (j := j) (rowI_get hx) rfl rfl rfl rfl, ?_⟩
      refine ⟨_, ltN c1, ?_⟩
      refine ⟨_, idxV (j := j) (rowI_get hx) rfl rfl rfl rfl, ?_⟩
      refine ⟨_, gtN c2, ?_⟩
      refine ⟨_, idxV (j := j) (rowI_get hx) rfl rfl rfl rfl, ?_⟩
      refine ⟨_, ltN c3, ?_⟩
      refine ⟨_, idxV (j := j) (rowI_get hx) rfl rfl rfl rfl, ?_⟩
      refine ⟨_, gtT c, ?_⟩
      exact Ret.mk _ rfl (congrArg (fun b : Bool => pB b) hjv) rfl
    rw [if_neg (by omega)] at hjv
    refine ⟨_, idxV (j := j) (rowI_get hx) rfl rfl rfl rfl, ?_⟩
    refine ⟨_, ltN c1, ?_⟩
    refine ⟨_, idxV (j := j) (rowI_get hx) rfl rfl rfl rfl, ?_⟩
    refine ⟨_, gtN c2, ?_⟩
    refine ⟨_, idxV (j := j) (rowI_get hx) rfl rfl rfl rfl, ?_⟩
    refine ⟨_, ltN c3, ?_⟩
    refine ⟨_, idxV (j := j) (rowI_get hx) rfl rfl rfl rfl, ?_⟩
    refine ⟨_, gtN c4, ?_⟩
    have hop : op = 4 ∨ op ≠ 4 := by omega
    rcases hop with h4 | h4
    · rw [if_pos h4] at hjv
      refine ⟨_, idxV (j := j) (rowI_get hx) rfl rfl rfl rfl, ?_⟩
      refine ⟨_, eqT h4, ?_⟩
      refine ⟨_, idxV (j := j) (rowI_get hx) rfl rfl rfl rfl, ?_⟩
      rcases Bool.eq_false_or_eq_true (isName nm) with hn | hn
      · rw [hn, Bool.true_and] at hjv
        rw [hn] at hNm
        refine ⟨_, CallR.mk1 hNm rfl rfl, ?_⟩
        refine ⟨_, idxV (j := j) (rowI_get hx) rfl rfl rfl rfl, ?_⟩
        refine ⟨_, neN h4, ?_⟩
        refine ⟨_, addV rfl (by omega) (by omega), ?_⟩
        exact ⟨j + 1, ⟨hjl, hjv⟩, by show l.length - (j + 1) < l.length - j; omega, ⟨rfl, rfl, trivial⟩, rfl, rfl⟩
      · rw [hn, Bool.false_and] at hjv
        rw [hn] at hNm
        refine ⟨_, CallR.mk1 hNm rfl rfl, ?_⟩
        exact Ret.mk _ rfl (congrArg (fun b : Bool => pB b) hjv) rfl
    · rw [if_neg h4] at hjv
      refine ⟨_, idxV (j := j) (rowI_get hx) rfl rfl rfl rfl, ?_⟩
      refine ⟨_, eqN h4, ?_⟩
      refine ⟨_, idxV (j := j) (rowI_get hx) rfl rfl rfl rfl, ?_⟩
      refine ⟨_, neT h4, ?_⟩
      refine ⟨_, idxV (j := j) (rowI_get hx) rfl rfl rfl rfl, ?_⟩
      rcases Bool.eq_false_or_eq_true (nm.toList == (⟨#[]⟩ : ByteArray).toList) with he | he
      · rw [he, Bool.true_and] at hjv
        refine ⟨_, strNeV (c := false) (by rw [he]; rfl), ?_⟩
        refine ⟨_, addV rfl (by omega) (by omega), ?_⟩
        exact ⟨j + 1, ⟨hjl, hjv⟩, by show l.length - (j + 1) < l.length - j; omega, ⟨rfl, rfl, trivial⟩, rfl, rfl⟩
      · rw [he, Bool.false_and] at hjv
        refine ⟨_, strNeV (c := true) (by rw [he]; rfl), ?_⟩
        exact Ret.mk _ rfl (congrArg (fun b : Bool => pB b) hjv) rfl
  · rw [hI (0) (0) (by unfold endsF; rw [if_neg (by omega), if_neg (by omega), if_neg h6, if_neg h])] at hjv
    refine ⟨_, eqN h9, ?_⟩
    refine ⟨_, eqN h12, ?_⟩
    refine ⟨_, eqN h13, ?_⟩
    refine ⟨_, eqN h1, ?_⟩
    refine ⟨_, eqN h5, ?_⟩
    refine ⟨_, eqN h6, ?_⟩
    refine ⟨_, eqN h, ?_⟩
    have hc : op < 1 ∨ (¬ op < 1 ∧ op > 13) ∨ (¬ op < 1 ∧ ¬ op > 13 ∧ n < (0 : Int)) ∨ (¬ op < 1 ∧ ¬ op > 13 ∧ ¬ n < (0 : Int) ∧ n > (0 : Int)) ∨ (¬ op < 1 ∧ ¬ op > 13 ∧ ¬ n < (0 : Int) ∧ ¬ n > (0 : Int)) := by omega
    rcases hc with c | ⟨c1, c⟩ | ⟨c1, c2, c⟩ | ⟨c1, c2, c3, c⟩ | ⟨c1, c2, c3, c4⟩
    · rw [if_pos (by omega), Bool.false_and] at hjv
      refine ⟨_, idxV (j := j) (rowI_get hx) rfl rfl rfl rfl, ?_⟩
      refine ⟨_, ltT c, ?_⟩
      exact Ret.mk _ rfl (congrArg (fun b : Bool => pB b) hjv) rfl
    · rw [if_pos (by omega), Bool.false_and] at hjv
      refine ⟨_, idxV (j := j) (rowI_get hx) rfl rfl rfl rfl, ?_⟩
      refine ⟨_, ltN c1, ?_⟩
      refine ⟨_, idxV (j := j) (rowI_get hx) rfl rfl rfl rfl, ?_⟩
      refine ⟨_, gtT c, ?_⟩
      exact Ret.mk _ rfl (congrArg (fun b : Bool => pB b) hjv) rfl
    · rw [if_pos (by omega), Bool.false_and] at hjv
      refine ⟨_, idxV (j := j) (rowI_get hx) rfl rfl rfl rfl, ?_⟩
      refine ⟨_, ltN c1, ?_⟩
      refine ⟨_, idxV (j := j) (rowI_get hx) rfl rfl rfl rfl, ?_⟩
      refine ⟨_, gtN c2, ?_⟩
      refine ⟨_, idxV (j := j) (rowI_get hx) rfl rfl rfl rfl, ?_⟩
      refine ⟨_, ltT c, ?_⟩
      exact Ret.mk _ rfl (congrArg (fun b : Bool => pB b) hjv) rfl
    · rw [if_pos (by omega), Bool.false_and] at hjv
      refine ⟨_, idxV (j := j) (rowI_get hx) rfl rfl rfl rfl, ?_⟩
      refine ⟨_, ltN c1, ?_⟩
      refine ⟨_, idxV (j := j) (rowI_get hx) rfl rfl rfl rfl, ?_⟩
      refine ⟨_, gtN c2, ?_⟩
      refine ⟨_, idxV (j := j) (rowI_get hx) rfl rfl rfl rfl, ?_⟩
      refine ⟨_, ltN c3, ?_⟩
      refine ⟨_, idxV (j := j) (rowI_get hx) rfl rfl rfl rfl, ?_⟩
      refine ⟨_, gtT c, ?_⟩
      exact Ret.mk _ rfl (congrArg (fun b : Bool => pB b) hjv) rfl
    rw [if_neg (by omega)] at hjv
    refine ⟨_, idxV (j := j) (rowI_get hx) rfl rfl rfl rfl, ?_⟩
    refine ⟨_, ltN c1, ?_⟩
    refine ⟨_, idxV (j := j) (rowI_get hx) rfl rfl rfl rfl, ?_⟩
    refine ⟨_, gtN c2, ?_⟩
    refine ⟨_, idxV (j := j) (rowI_get hx) rfl rfl rfl rfl, ?_⟩
    refine ⟨_, ltN c3, ?_⟩
    refine ⟨_, idxV (j := j) (rowI_get hx) rfl rfl rfl rfl, ?_⟩
    refine ⟨_, gtN c4, ?_⟩
    have hop : op = 4 ∨ op ≠ 4 := by omega
    rcases hop with h4 | h4
    · rw [if_pos h4] at hjv
      refine ⟨_, idxV (j := j) (rowI_get hx) rfl rfl rfl rfl, ?_⟩
      refine ⟨_, eqT h4, ?_⟩
      refine ⟨_, idxV (j := j) (rowI_get hx) rfl rfl rfl rfl, ?_⟩
      rcases Bool.eq_false_or_eq_true (isName nm) with hn | hn
      · rw [hn, Bool.true_and] at hjv
        rw [hn] at hNm
        refine ⟨_, CallR.mk1 hNm rfl rfl, ?_⟩
        refine ⟨_, idxV (j := j) (rowI_get hx) rfl rfl rfl rfl, ?_⟩
        refine ⟨_, neN h4, ?_⟩
        refine ⟨_, addV rfl (by omega) (by omega), ?_⟩
        exact ⟨j + 1, ⟨hjl, hjv⟩, by show l.length - (j + 1) < l.length - j; omega, ⟨rfl, rfl, trivial⟩, rfl, rfl⟩
      · rw [hn, Bool.false_and] at hjv
        rw [hn] at hNm
        refine ⟨_, CallR.mk1 hNm rfl rfl, ?_⟩
        exact Ret.mk _ rfl (congrArg (fun b : Bool => pB b) hjv) rfl
    · rw [if_neg h4] at hjv
      refine ⟨_, idxV (j := j) (rowI_get hx) rfl rfl rfl rfl, ?_⟩
      refine ⟨_, eqN h4, ?_⟩
      refine ⟨_, idxV (j := j) (rowI_get hx) rfl rfl rfl rfl, ?_⟩
      refine ⟨_, neT h4, ?_⟩
      refine ⟨_, idxV (j := j) (rowI_get hx) rfl rfl rfl rfl, ?_⟩
      rcases Bool.eq_false_or_eq_true (nm.toList == (⟨#[]⟩ : ByteArray).toList) with he | he
      · rw [he, Bool.true_and] at hjv
        refine ⟨_, strNeV (c := false) (by rw [he]; rfl), ?_⟩
        refine ⟨_, addV rfl (by omega) (by omega), ?_⟩
        exact ⟨j + 1, ⟨hjl, hjv⟩, by show l.length - (j + 1) < l.length - j; omega, ⟨rfl, rfl, trivial⟩, rfl, rfl⟩
      · rw [he, Bool.false_and] at hjv
        refine ⟨_, strNeV (c := true) (by rw [he]; rfl), ?_⟩
        exact Ret.mk _ rfl (congrArg (fun b : Bool => pB b) hjv) rfl
end Go.Proofs.YtadpifnlkmeifaaDoor.Pm

/- Code (layer 10), in the pure machine: operations, how many of a kind; what an expression is compiled to. -/
namespace Go.Proofs.YtadpifnlkmeifaaDoor.Pm
open Go Go.RowKit Go.Proofs.YtadpifnlkmeifaaDoor.Pl
open Go.Proofs.YtadpifnlkmeifaaDoor.Q (rngE rngA)
set_option linter.unusedVariables false
set_option maxHeartbeats 1000000
def opsL : List Int := [0, 2, 3, 4, 1, 5, 6, 7, 8, 9, 0, 10, 11]
def opF' (k : Int) : Int := opsL.getD k.toNat 0
theorem op_ok (k : Int) (h0 : 0 ≤ k) (h1 : k ≤ 12) : Ok E 48 [] [pI k] (pI (opF' k)) [] := by
  obtain ⟨j, rfl⟩ : ∃ j : Nat, k = j := ⟨k.toNat, by omega⟩
  have hg : (encN opsL)[j]? = some [.int .i64 (opF' j)] := by
    unfold encN opF'
    rw [List.getElem?_map, Int.toNat_natCast, List.getD_eq_getElem?_getD, List.getElem?_eq_getElem (show j < opsL.length by show j < 13; omega)]
    rfl
  refine Ok.enter hE Tryd.func48 rfl (by decide +kernel) (by kernel_rfl) rfl rfl (Nat.le_of_ble_eq_true rfl) rfl ?_
  refine ⟨_, ⟨_, rfl, rfl⟩, ?_⟩
  refine ⟨_, idxV (j := j) hg rfl rfl rfl rfl, ?_⟩
  exact Ret.mk _ rfl rfl rfl
mutual
/-- what an expression is compiled to, from a place on -/
def codeF : Ex → Int → List Ins
  | ⟨k, n, nm, l⟩, p =>
    if k = 9 then match l with
      | [x, y] =>
        let a := codeF x p
        let b := codeF y (p + a.length + 1)
        a ++ (⟨9, p + a.length + 1 + b.length, ⟨#[]⟩⟩ :: b)
      | _ => []
    else if k = 10 then match l with
      | [x, y, z] =>
        let c := codeF x p
        let a := codeF y (p + c.length + 1)
        let b := codeF z (p + c.length + a.length + 2)
        c ++ (⟨12, p + c.length + a.length + 2, ⟨#[]⟩⟩ :: (a ++ (⟨13, p + c.length + a.length + 2 + b.length, ⟨#[]⟩⟩ :: b)))
      | _ => []
    else codesF l p ++ [⟨opF' k, n, nm⟩]
def codesF : List Ex → Int → List Ins
  | [], _ => []
  | x :: l, p => codeF x p ++ codesF l (p + (codeF x p).length)
end
mutual
def manyF : Ex → Int → Int
  | ⟨k, _, _, l⟩, q => (if k = q then 1 else 0) + manyL l q
def manyL : List Ex → Int → Int
  | [], _ => 0
  | x :: l, q => manyF x q + manyL l q
end
end Go.Proofs.YtadpifnlkmeifaaDoor.Pm

/- Numbers of either sign, as the document tells them. -/
namespace Go.Proofs.YtadpifnlkmeifaaDoor.Pm
open Go Go.RowKit Go.Proofs.YtadpifnlkmeifaaDoor.Pl
set_option linter.unusedVariables false
set_option maxHeartbeats 1000000
theorem intL_neg {n : Int} (h : n < 0) : intL n = 45 :: digs n.natAbs := by
  unfold intL; rw [if_pos h]
theorem rNumberA_ok (n : Int) (hn : I64 n) : Ok E 35 [] [pI n] (pS (B (intL n))) [] := by
  obtain ⟨n0, n1⟩ := hn
  by_cases h : 0 ≤ n
  · exact rNumber_ok n h n1
  obtain ⟨m, hm⟩ : ∃ m : Nat, n = -(m : Int) := ⟨n.natAbs, by omega⟩
  have hi : intL n = 45 :: digs m := by rw [intL_neg (by omega), show n.natAbs = m by omega]
  rw [hi]
  by_cases hb : n < -1000000000000000000
  · have h1 := Lx.rdigits_ok (m / 10) (by omega)
    have h2 := Lx.rdigits_ok (m % 10) (by omega)
    have l1 := Lx.digs_len (m / 10)
    have l2 := Lx.digs_len (m % 10)
    have e : (45 :: digs (m / 10)) ++ digs (m % 10) = 45 :: digs m := by
      rw [digs_rec m (by omega), if_neg (by omega), digs_one (show m % 10 < 10 by omega)]
      have : dig (m % 10) = dig m := by unfold dig; rw [Nat.mod_mod]
      rw [this]; rfl
    refine Ok.enter hE Tryd.func35 rfl (by decide +kernel) (by kernel_rfl) rfl rfl (Nat.le_of_ble_eq_true rfl) rfl ?_
    refine ⟨_, geN (by omega), ?_⟩
    refine ⟨_, ltT hb, ?_⟩
    refine ⟨_, quoV (z := -((m / 10 : Nat) : Int)) (by decide) (by rw [hm, Int.neg_tdiv, Int.tdiv_eq_ediv_of_nonneg (by omega)]; rfl) (by omega) (by omega), ?_⟩
    refine ⟨_, negV (z := ((m / 10 : Nat) : Int)) (by omega) (by omega) (by omega), ?_⟩
    refine ⟨_, CallR.mk1 h1 rfl rfl, ?_⟩
    refine ⟨_, Lx.catB (a := [45]) (by show 1 + _ ≤ _; omega), ?_⟩
    refine ⟨_, remV (z := -((m % 10 : Nat) : Int)) (by decide) (by rw [hm, Int.neg_tmod, Int.tmod_eq_emod_of_nonneg (by omega)]; rfl), ?_⟩
    refine ⟨_, negV (z := ((m % 10 : Nat) : Int)) (by omega) (by omega) (by omega), ?_⟩
    refine ⟨_, CallR.mk1 h2 rfl rfl, ?_⟩
    refine ⟨_, Lx.catB (by rw [List.length_append, List.length_cons, List.length_nil]; omega), ?_⟩
    exact Ret.mk _ rfl (congrArg (fun b => pS (B b)) e) rfl
  · have h1 := Lx.rdigits_ok m (by omega)
    have l1 := Lx.digs_len m
    refine Ok.enter hE Tryd.func35 rfl (by decide +kernel) (by kernel_rfl) rfl rfl (Nat.le_of_ble_eq_true rfl) rfl ?_
    refine ⟨_, geN (by omega), ?_⟩
    refine ⟨_, ltN hb, ?_⟩
    refine ⟨_, negV (z := (m : Int)) (by omega) (by omega) (by omega), ?_⟩
    refine ⟨_, CallR.mk1 h1 rfl rfl, ?_⟩
    refine ⟨_, Lx.catB (a := [45]) (by show 1 + _ ≤ _; omega), ?_⟩
    exact Ret.mk _ rfl rfl rfl
end Go.Proofs.YtadpifnlkmeifaaDoor.Pm

/- Code (layer 10), plainly: how long what is compiled is, that it may be, how it is moved, read back, cut, and told. -/
namespace Go.Proofs.YtadpifnlkmeifaaDoor.Pm
open Go Go.RowKit Go.Proofs.YtadpifnlkmeifaaDoor.Pl
open Go.Proofs.YtadpifnlkmeifaaDoor.Q (rngE rngA txtE txtA sameE sameA formT wordL moreL sepA)
set_option linter.unusedVariables false
set_option linter.unusedSimpArgs false
theorem toList_inj {a b : ByteArray} (h : a.toList = b.toList) : a = b := by
  rw [toList_data, toList_data] at h
  cases a; cases b
  simp only [Array.toList_inj] at h
  rw [h]
theorem codeF_leaf (k n : Int) (nm : ByteArray) (l : List Ex) (p : Int) (h9 : k ≠ 9) (h10 : k ≠ 10) : codeF ⟨k, n, nm, l⟩ p = codesF l p ++ [⟨opF' k, n, nm⟩] := by
  rw [codeF.eq_def]
  dsimp only
  rw [if_neg h9, if_neg h10]
/-- the three forms of an expression that may be -/
theorem fine_forms {d : Int} {c : Bool} {x : Ex} (h : isFine d c x = true) :
    (∃ a b, x = ⟨9, 0, x.f2, [a, b]⟩ ∧ x.f2.toList = (⟨#[]⟩ : ByteArray).toList ∧ isFine (d - 1) false a = true ∧ isFine (d - 1) false b = true) ∨
    (∃ a b e, x = ⟨10, 0, x.f2, [a, b, e]⟩ ∧ x.f2.toList = (⟨#[]⟩ : ByteArray).toList ∧ isFine (d - 1) true a = true ∧ isFine (d - 1) false b = true ∧ isFine (d - 1) false e = true) ∨
    (x.f0 ≠ 9 ∧ x.f0 ≠ 10 ∧ fineL (d - 1) false x.f3 = true) := by
  obtain ⟨k, n, nm, l⟩ := x
  obtain ⟨w, m, a, hF, h1, h2, h3, h4, h5, h6, h7, h8, h9⟩ := fine_open h
  by_cases k9 : k = 9
  · subst k9
    obtain ⟨rfl, rfl⟩ : m = 0 ∧ a = 2 := by simp [formT] at hF; omega
    match l, h6, h9 with
    | [x, y], _, h9 =>
      left
      simp only [fineL, Bool.and_eq_true] at h9
      refine ⟨x, y, ?_, by simpa [isNamed] using h8, h9.1, h9.2.1⟩
      rw [show n = 0 by omega]
  · by_cases k10 : k = 10
    · subst k10
      obtain ⟨rfl, rfl⟩ : m = 0 ∧ a = 3 := by simp [formT] at hF; omega
      match l, h6, h9 with
      | [x, y, z], _, h9 =>
        right; left
        simp only [fineL, Bool.and_eq_true] at h9
        refine ⟨x, y, z, ?_, by simpa [isNamed] using h8, h9.1, h9.2.1, h9.2.2.1⟩
        rw [show n = 0 by omega]
    · right; right
      refine ⟨k9, k10, ?_⟩
      rw [show decide (k = 10) = false from decide_eq_false k10] at h9
      exact h9
mutual
theorem codeF_len : ∀ (x : Ex) (d : Int) (c : Bool) (p : Int), isFine d c x = true → ((codeF x p).length : Int) = size x + manyF x 10
  | ⟨k, n, nm, l⟩, d, c, p, h => by
    rcases fine_forms h with ⟨a, b, e, hn, ha, hb⟩ | ⟨a, b, e, ee, hn, ha, hb, he⟩ | ⟨h9, h10, hl⟩
    · injection e with e1 e2 e3 e4
      subst e1; subst e2; subst e4
      have i1 := codeF_len a (d - 1) false p ha
      have i2 := codeF_len b (d - 1) false (p + (codeF a p).length + 1) hb
      simp [codeF, size, sizeL, manyF, manyL]
      omega
    · injection ee with e1 e2 e3 e4
      subst e1; subst e2; subst e4
      have i1 := codeF_len a (d - 1) true p ha
      have i2 := codeF_len b (d - 1) false (p + (codeF a p).length + 1) hb
      have i3 := codeF_len e (d - 1) false (p + (codeF a p).length + (codeF b (p + (codeF a p).length + 1)).length + 2) he
      simp [codeF, size, sizeL, manyF, manyL]
      omega
    · have h9 : k ≠ 9 := h9
      have h10 : k ≠ 10 := h10
      have i := codesF_len l (d - 1) false p hl
      rw [codeF_leaf _ _ _ _ _ h9 h10, size, manyF, if_neg h10]
      simp
      omega
theorem codesF_len : ∀ (l : List Ex) (d : Int) (c : Bool) (p : Int), fineL d c l = true → ((codesF l p).length : Int) = sizeL l + manyL l 10
  | [], d, c, p, h => by simp [codesF, sizeL, manyL]
  | x :: l, d, c, p, h => by
    rw [fineL, Bool.and_eq_true] at h
    have i1 := codeF_len x d c p h.1
    have i2 := codesF_len l d false (p + (codeF x p).length) h.2
    simp only [codesF, sizeL, manyL, List.length_append]
    omega
end
mutual
theorem many_size : ∀ (x : Ex), 0 ≤ manyF x 10 ∧ manyF x 10 ≤ size x
  | ⟨k, n, nm, l⟩ => by
    have := many_sizeL l
    rw [manyF, size]
    split <;> omega
theorem many_sizeL : ∀ (l : List Ex), 0 ≤ manyL l 10 ∧ manyL l 10 ≤ sizeL l
  | [] => by simp [manyL, sizeL]
  | x :: l => by
    have := many_size x
    have := many_sizeL l
    rw [manyL, sizeL]
    omega
end
theorem codeF_small {x : Ex} {d : Int} {c : Bool} (p : Int) (h : isFine d c x = true) (hs : size x ≤ 2000) : (codeF x p).length ≤ 4000 := by
  have := codeF_len x d c p h
  have := many_size x
  omega
theorem rightL_app : ∀ (l m : List Ins) (i : Nat) (z : Int), rightL (l ++ m) i z = (rightL l i z && rightL m (i + l.length) z)
  | [], m, i, z => by simp [rightL]
  | x :: l, m, i, z => by
    rw [List.cons_append, rightL, rightL, rightL_app l m (i + 1) z, Bool.and_assoc, List.length_cons, show i + 1 + l.length = i + (l.length + 1) by omega]
theorem right_lead {k n : Int} {nm : ByteArray} {i : Nat} {z : Int} (hk : k = 9 ∨ k = 12 ∨ k = 13) (h1 : (i : Int) + 1 ≤ n) (h2 : n ≤ z) (hn : nm.toList = (⟨#[]⟩ : ByteArray).toList) : rightI ⟨k, n, nm⟩ i z = true := by
  unfold rightI endsF
  dsimp only
  rw [if_pos hk, if_neg (by dsimp only; omega), if_neg (by omega), hn]
  simp
theorem right_leaf {k n : Int} {nm : ByteArray} {w : List UInt8} {m a : Int} {i : Nat} {z : Int} (hF : formT k = some (w, m, a)) (h9 : k ≠ 9) (h10 : k ≠ 10) (h0 : 0 ≤ n) (h1 : n ≤ m) (hn : isNamed k nm = true) : rightI ⟨opF' k, n, nm⟩ i z = true := by
  unfold isNamed at hn
  rcases kinds_of k w m a hF with rfl | rfl | rfl | rfl | rfl | rfl | rfl | rfl | rfl | rfl | rfl | rfl <;> first | exact absurd rfl h9 | exact absurd rfl h10 | skip
  all_goals
    injection hF with hF; injection hF with q1 q2; injection q2 with q2 q3
    subst q2
    simp [rightI, endsF, opF', opsL] at hn ⊢
    refine ⟨by omega, ?_⟩
    simpa using hn
mutual
theorem codeF_right : ∀ (x : Ex) (d : Int) (c : Bool) (p : Nat) (z : Int), isFine d c x = true → (p : Int) + (codeF x p).length ≤ z → rightL (codeF x p) p z = true
  | ⟨k, n, nm, l⟩, d, c, p, z, h, hz => by
    rcases fine_forms h with ⟨a, b, e, hn, ha, hb⟩ | ⟨a, b, e, ee, hn, ha, hb, he⟩ | ⟨h9, h10, hl⟩
    · injection e with e1 e2 e3 e4
      subst e1; subst e2; subst e4
      simp only [codeF, if_true, List.length_append, List.length_cons] at hz ⊢
      have i1 := codeF_right a (d - 1) false p z ha (by omega)
      have i2 := codeF_right b (d - 1) false (p + (codeF a p).length + 1) z hb (by push_cast at hz ⊢; omega)
      push_cast at i2
      rw [rightL_app, i1, rightL, right_lead (.inl rfl) (by omega) (by omega) rfl, i2]; rfl
    · injection ee with e1 e2 e3 e4
      subst e1; subst e2; subst e4
      simp only [codeF, if_true, List.length_append, List.length_cons] at hz ⊢
      simp only [show ((10 : Int) = 9) = False by simp, if_false, List.length_append, List.length_cons] at hz ⊢
      obtain ⟨u, hu⟩ : ∃ u, codeF a p = u := ⟨_, rfl⟩
      rw [hu] at hz ⊢
      obtain ⟨v, hv⟩ : ∃ v, codeF b (p + u.length + 1) = v := ⟨_, rfl⟩
      rw [hv] at hz ⊢
      have i1 := codeF_right a (d - 1) true p z ha (by rw [hu]; omega)
      have i2 := codeF_right b (d - 1) false (p + u.length + 1) z hb (by push_cast; rw [hv]; push_cast at hz; omega)
      have hc : ((p + u.length + v.length + 2 : Nat) : Int) = (p : Int) + u.length + v.length + 2 := by omega
      have i3 := codeF_right e (d - 1) false (p + u.length + v.length + 2) z he (by rw [hc]; omega)
      rw [hc] at i3
      push_cast at i2
      rw [hu] at i1
      rw [hv] at i2
      rw [rightL_app, i1, rightL, right_lead (.inr (.inl rfl)) (by omega) (by push_cast at hz; omega) rfl, rightL_app, i2, rightL, right_lead (.inr (.inr rfl)) (by push_cast; omega) (by push_cast at hz; omega) rfl]
      simp only [Bool.true_and]
      rw [show p + u.length + 1 + v.length + 1 = p + u.length + v.length + 2 by omega, i3]
    · have h9 : k ≠ 9 := h9
      have h10 : k ≠ 10 := h10
      rw [codeF_leaf _ _ _ _ _ h9 h10] at hz ⊢
      obtain ⟨w, m, a, hF, h1, h2, h3, h4, h5, h6, h7, h8, -⟩ := fine_open h
      simp only [List.length_append, List.length_cons, List.length_nil] at hz
      rw [rightL_app, codesF_right l (d - 1) false p z hl (by omega), rightL, right_leaf hF h9 h10 h3 h4 h8, rightL]
      rfl
theorem codesF_right : ∀ (l : List Ex) (d : Int) (c : Bool) (p : Nat) (z : Int), fineL d c l = true → (p : Int) + (codesF l p).length ≤ z → rightL (codesF l p) p z = true
  | [], d, c, p, z, h, hz => by simp [codesF, rightL]
  | x :: l, d, c, p, z, h, hz => by
    rw [fineL, Bool.and_eq_true] at h
    simp only [codesF, List.length_append] at hz ⊢
    have i1 := codeF_right x d c p z h.1 (by omega)
    have i2 := codesF_right l d false (p + (codeF x p).length) z h.2 (by push_cast at hz ⊢; omega)
    push_cast at i2
    rw [rightL_app, i1, i2]; rfl
end
theorem compiled_right {x : Ex} (h : isFine 32 false x = true) (hs : size x ≤ 2000) : rightF (codeF x 0) = true := by
  have e := codeF_right x 32 false 0 _ h (Int.le_refl _)
  rw [show ((0 : Nat) : Int) = 0 from rfl, show (0 : Int) + ((codeF x 0).length : Int) = ((codeF x 0).length : Int) by omega] at e
  unfold rightF
  rw [e, decide_eq_true (by have := codeF_small 0 h hs; omega)]
  rfl

/-! what is compiled can be read back -/
inductive Item where
  | t (x : Ex)
  | els (a : Ex) (n : Int)
  | unl (c : Ex)
  | jmp (c a : Ex) (n : Int)
def HiI (q : Int) (st : List Item) : Prop := ∀ i ∈ st, match i with
  | .els _ n => q ≤ n
  | .jmp _ _ n => q ≤ n
  | _ => True
theorem HiI.mono {q q' : Int} {st : List Item} (h : HiI q st) (hq : q' ≤ q) : HiI q' st := fun i hi => by
  have := h i hi
  cases i <;> simp only at this ⊢ <;> omega
theorem HiI.cons {q : Int} {st : List Item} {i : Item} (h : HiI q st) (hi : match i with
  | .els _ n => q ≤ n
  | .jmp _ _ n => q ≤ n
  | _ => True) : HiI q (i :: st) := fun j hj => by
  rcases List.mem_cons.1 hj with rfl | hj
  · exact hi
  · exact h j hj
/-! leads; what is cut off -/
/-! texts -/
def wordsO : List (List UInt8) := [[63], [112, 117, 115, 104], [108, 111, 119, 101, 115, 116], [115, 101, 99, 111, 110, 100], [102, 114, 111, 109], [108, 101, 115, 115], [99, 117, 116], [109, 105, 110], [109, 97, 120], [101, 108, 115, 101], [109, 111, 114, 101], [97, 98, 111, 118, 101], [117, 110, 108, 101, 115, 115], [106, 117, 109, 112]]
def opW (op : Int) : Int := if op < 0 ∨ op ≥ 14 then 0 else op
def wordO (op : Int) : List UInt8 := wordsO.getD (opW op).toNat []
def hasNum (op : Int) : Bool := decide (op = 1 ∨ op = 5 ∨ op = 6 ∨ op = 9 ∨ op = 10 ∨ op = 12 ∨ op = 13)
def tailI (x : Ins) : List UInt8 := if x.op = 4 then 32 :: x.nm.data.toList else if hasNum x.op then 32 :: intL x.n else []
def lineI (x : Ins) : List UInt8 := wordO x.op ++ tailI x ++ [10]
def textC : List Ins → List UInt8
  | [] => []
  | x :: l => lineI x ++ textC l
/-- what is known of an instruction that may be -/
theorem right_facts {x : Ins} {i : Nat} {z : Int} (hz : z ≤ 5000) (h : rightI x i z = true) : 1 ≤ x.op ∧ x.op ≤ 13 ∧ 0 ≤ x.n ∧ x.n ≤ 1000000000000 ∧ (hasNum x.op = false → x.n = 0) ∧ (x.op = 4 → isName x.nm = true) ∧ (x.op ≠ 4 → x.nm.toList = (⟨#[]⟩ : ByteArray).toList) := by
  obtain ⟨op, n, nm⟩ := x
  unfold rightI endsF at h
  dsimp only at h ⊢
  by_cases hc : op < 1 ∨ op > 13 ∨ n < (if op = 9 ∨ op = 12 ∨ op = 13 then ((i : Int) + 1, z) else if op = 1 ∨ op = 5 then (0, 1000000000000) else if op = 6 then (0, 100000) else if op = 10 then (0, 1000) else (0, 0)).1 ∨ n > (if op = 9 ∨ op = 12 ∨ op = 13 then ((i : Int) + 1, z) else if op = 1 ∨ op = 5 then (0, 1000000000000) else if op = 6 then (0, 100000) else if op = 10 then (0, 1000) else (0, 0)).2
  · rw [if_pos hc] at h; exact absurd h (by simp)
  · rw [if_neg hc] at h
    have h4 : (op = 4 → isName nm = true) ∧ (op ≠ 4 → nm.toList = (⟨#[]⟩ : ByteArray).toList) := by
      constructor
      · intro h4; rwa [if_pos h4] at h
      · intro h4; rw [if_neg h4] at h; exact beq_iff_eq.1 h
    unfold hasNum
    refine ⟨by omega, by omega, ?_, ?_, fun hn => ?_, h4.1, h4.2⟩
    · (repeat' split at hc) <;> dsimp only at hc <;> omega
    · (repeat' split at hc) <;> dsimp only at hc <;> omega
    · have := of_decide_eq_false hn
      (repeat' split at hc) <;> dsimp only at hc <;> omega
theorem lineI_ne (x : Ins) (r : List UInt8) : lineI x ++ r ≠ [] := by unfold lineI; simp
end Go.Proofs.YtadpifnlkmeifaaDoor.Pm
