/- Texts that are merged: CoZ, CoA, CoB, CoC, CoD, CoE, CoF. -/
import Derived.Test.YtadpifnlkmeifaaDoorPmBll
import Derived.Test.YtadpifnlkmeifaaDoorPtBll
import Derived.Test.YtadpifnlkmeifaaDoorLxAll
import Derived.Test.YtadpifnlkmeifaaDoorPtCll
/- Code (layer 10), in the pure machine: instructions. -/
namespace Go.Proofs.YtadpifnlkmeifaaDoor.Pm
open Go Go.RowKit
structure Ins where
  op : Int
  n : Int
  nm : ByteArray
@[reducible] def cellsI (x : Ins) : List CV := [.int .i64 x.op, .int .i64 x.n, .str x.nm]
@[reducible] def pIn (x : Ins) : PV := .agg (cellsI x)
def rowI (l : List Ins) : List (List CV) := l.map cellsI
theorem rowI_len (l : List Ins) : (rowI l).length = l.length := by simp [rowI]
end Go.Proofs.YtadpifnlkmeifaaDoor.Pm

/- Code (layer 10), in the pure machine: instructions, what may be. -/
namespace Go.Proofs.YtadpifnlkmeifaaDoor.Pm
open Go Go.RowKit Go.Proofs.YtadpifnlkmeifaaDoor.Pl
set_option linter.unusedVariables false
set_option maxHeartbeats 1000000
theorem rowI_get {l : List Ins} {j : Nat} {y : Ins} (h : l[j]? = some y) : (rowI l)[j]? = some (cellsI y) := by unfold rowI; rw [List.getElem?_map, h]; rfl
def endsF (op i len : Int) : Int × Int :=
  if op = 9 ∨ op = 12 ∨ op = 13 then (i + 1, len) else if op = 1 ∨ op = 5 then (0, 1000000000000) else if op = 6 then (0, 100000) else if op = 10 then (0, 1000) else (0, 0)
theorem ends_cases (op : Int) : (op = 9 ∨ (op ≠ 9 ∧ op = 12) ∨ (op ≠ 9 ∧ op ≠ 12 ∧ op = 13)) ∨ (op ≠ 9 ∧ op ≠ 12 ∧ op ≠ 13) ∧ ((op = 1 ∨ (op ≠ 1 ∧ op = 5)) ∨ (op ≠ 1 ∧ op ≠ 5) ∧ (op = 6 ∨ op ≠ 6 ∧ (op = 10 ∨ op ≠ 10))) := by omega
theorem ends_ok (x : Ins) (i len : Int) (h0 : 0 ≤ i) (h1 : i ≤ 4611686018427387904) : Ok E 32 [] [pIn x, pI i, pI len] (.tup [pI (endsF x.op i len).1, pI (endsF x.op i len).2]) [] := by
  obtain ⟨op, n, nm⟩ := x
  obtain ⟨r, hr⟩ : ∃ r, endsF op i len = r := ⟨_, rfl⟩
  rw [hr]
  unfold endsF at hr
  rcases ends_cases op with (h | ⟨h9, h⟩ | ⟨h9, h12, h⟩) | ⟨⟨h9, h12, h13⟩, (h | ⟨h1, h⟩) | ⟨⟨h1, h5⟩, h | ⟨h6, h | h⟩⟩⟩
  · rw [if_pos (by omega)] at hr; subst hr
    refine Ok.enter hE Tryd.func32 rfl (by decide +kernel) (by kernel_rfl) rfl rfl (Nat.le_of_ble_eq_true rfl) rfl ?_
    refine ⟨_, eqT h, ?_⟩
    refine ⟨_, addV rfl (by omega) (by omega), ?_⟩
    exact Ret.mk _ rfl rfl rfl
  · rw [if_pos (by omega)] at hr; subst hr
    refine Ok.enter hE Tryd.func32 rfl (by decide +kernel) (by kernel_rfl) rfl rfl (Nat.le_of_ble_eq_true rfl) rfl ?_
    refine ⟨_, eqN h9, ?_⟩
    refine ⟨_, eqT h, ?_⟩
    refine ⟨_, addV rfl (by omega) (by omega), ?_⟩
    exact Ret.mk _ rfl rfl rfl
  · rw [if_pos (by omega)] at hr; subst hr
    refine Ok.enter hE Tryd.func32 rfl (by decide +kernel) (by kernel_rfl) rfl rfl (Nat.le_of_ble_eq_true rfl) rfl ?_
    refine ⟨_, eqN h9, ?_⟩
    refine ⟨_, eqN h12, ?_⟩
    refine ⟨_, eqT h, ?_⟩
    refine ⟨_, addV rfl (by omega) (by omega), ?_⟩
    exact Ret.mk _ rfl rfl rfl
  · rw [if_neg (by omega), if_pos (by omega)] at hr; subst hr
    refine Ok.enter hE Tryd.func32 rfl (by decide +kernel) (by kernel_rfl) rfl rfl (Nat.le_of_ble_eq_true rfl) rfl ?_
    refine ⟨_, eqN h9, ?_⟩
    refine ⟨_, eqN h12, ?_⟩
    refine ⟨_, eqN h13, ?_⟩
    refine ⟨_, eqT h, ?_⟩
    exact Ret.mk _ rfl rfl rfl
  · rw [if_neg (by omega), if_pos (by omega)] at hr; subst hr
    refine Ok.enter hE Tryd.func32 rfl (by decide +kernel) (by kernel_rfl) rfl rfl (Nat.le_of_ble_eq_true rfl) rfl ?_
    refine ⟨_, eqN h9, ?_⟩
    refine ⟨_, eqN h12, ?_⟩
    refine ⟨_, eqN h13, ?_⟩
    refine ⟨_, eqN h1, ?_⟩
    refine ⟨_, eqT h, ?_⟩
    exact Ret.mk _ rfl rfl rfl
  · rw [if_neg (by omega), if_neg (by omega), if_pos h] at hr; subst hr
    refine Ok.enter hE Tryd.func32 rfl (by decide +kernel) (by kernel_rfl) rfl rfl (Nat.le_of_ble_eq_true rfl) rfl ?_
    refine ⟨_, eqN h9, ?_⟩
    refine ⟨_, eqN h12, ?_⟩
    refine ⟨_, eqN h13, ?_⟩
    refine ⟨_, eqN h1, ?_⟩
    refine ⟨_, eqN h5, ?_⟩
    refine ⟨_, eqT h, ?_⟩
    exact Ret.mk _ rfl rfl rfl
  · rw [if_neg (by omega), if_neg (by omega), if_neg h6, if_pos h] at hr; subst hr
    refine Ok.enter hE Tryd.func32 rfl (by decide +kernel) (by kernel_rfl) rfl rfl (Nat.le_of_ble_eq_true rfl) rfl ?_
    refine ⟨_, eqN h9, ?_⟩
    refine ⟨_, eqN h12, ?_⟩
    refine ⟨_, eqN h13, ?_⟩
    refine ⟨_, eqN h1, ?_⟩
    refine ⟨_, eqN h5, ?_⟩
    refine ⟨_, eqN h6, ?_⟩
    refine ⟨_, eqT h, ?_⟩
    exact Ret.mk _ rfl rfl rfl
  · rw [if_neg (by omega), if_neg (by omega), if_neg h6, if_neg h] at hr; subst hr
    refine Ok.enter hE Tryd.func32 rfl (by decide +kernel) (by kernel_rfl) rfl rfl (Nat.le_of_ble_eq_true rfl) rfl ?_
    refine ⟨_, eqN h9, ?_⟩
    refine ⟨_, eqN h12, ?_⟩
    refine ⟨_, eqN h13, ?_⟩
    refine ⟨_, eqN h1, ?_⟩
    refine ⟨_, eqN h5, ?_⟩
    refine ⟨_, eqN h6, ?_⟩
    refine ⟨_, eqN h, ?_⟩
    exact Ret.mk _ rfl rfl rfl
def rightI (x : Ins) (i len : Int) : Bool :=
  if x.op < 1 ∨ x.op > 13 ∨ x.n < (endsF x.op i len).1 ∨ x.n > (endsF x.op i len).2 then false else if x.op = 4 then isName x.nm else x.nm.toList == (⟨#[]⟩ : ByteArray).toList
def rightL : List Ins → Nat → Int → Bool
  | [], _, _ => true
  | x :: l, i, len => rightI x i len && rightL l (i + 1) len
def rightF (l : List Ins) : Bool := rightL l 0 l.length && decide (l.length ≤ 5000)
theorem name_ne {nm : ByteArray} (h : isName nm = true) : (nm.toList == (⟨#[]⟩ : ByteArray).toList) = false := by
  unfold isName at h
  rw [toList_data, toList_data]
  cases hl : nm.data.toList with
  | nil => rw [hl] at h; cases h
  | cons c l => rfl
theorem Right10_ok (l : List Ins) (hl : l.length ≤ 4611686018427387000) : Ok E 16 [] [.c (.row (rowI l))] (pB (rightF l)) [] := by
  have hrl := rowI_len l
  obtain ⟨v, hv⟩ : ∃ v, rightF l = v := ⟨_, rfl⟩
  rw [hv]
  unfold rightF at hv
  refine Ok.enter hE Tryd.func16 rfl (by decide +kernel) (by kernel_rfl) rfl rfl (Nat.le_of_ble_eq_true rfl) rfl ?_
  refine Loop.cut (α := Nat) (fun j => j ≤ l.length ∧ (rightL (l.drop j) j l.length && decide (l.length ≤ 5000)) = v) (fun j => [(0, .c (.row (rowI l))), (8, .c (.row (rowI l))), (9, pI l.length), (10, pI j)]) (fun _ => []) (fun _ => []) (fun j => l.length - j) 0 0 (fun _ => rfl) (fun _ => rfl) (fun _ => rfl) ⟨Nat.zero_le _, hv⟩ ⟨⟨rfl, rfl, by rw [← hrl]; rfl, rfl, trivial⟩, rfl, rfl⟩ ?_
  rintro j f ⟨hj, hjv⟩
  by_cases hjl : j < l.length
  rotate_left
  · rw [List.drop_of_length_le (by omega), rightL, Bool.true_and] at hjv
    refine ⟨_, ltN (by omega), ?_⟩
    refine ⟨_, leV (c := v) (by rw [hrl, ← hjv]; exact decide_eq_decide.2 (by omega)), ?_⟩
    exact Ret.mk _ rfl rfl rfl
  obtain ⟨x, hx⟩ : ∃ x, l[j]? = some x := ⟨_, List.getElem?_eq_getElem hjl⟩
  have hd : l.drop j = x :: l.drop (j + 1) := by
    rw [List.drop_eq_getElem_cons hjl]
    rw [List.getElem?_eq_getElem hjl] at hx
    injection hx with hx
    rw [hx]
  rw [hd, rightL] at hjv
  have hE2 := ends_ok x j ((rowI l).length) (by omega) (by omega)
  have hN := Name_ok x.nm
  obtain ⟨op, n, nm⟩ := x
  obtain ⟨⟨lo, hi⟩, hlh⟩ : ∃ p, endsF op j l.length = p := ⟨_, rfl⟩
  have hI : rightI ⟨op, n, nm⟩ j l.length = if op < 1 ∨ op > 13 ∨ n < lo ∨ n > hi then false else if op = 4 then isName nm else nm.toList == (⟨#[]⟩ : ByteArray).toList := by
    unfold rightI
    dsimp only
    rw [hlh]
  rw [show endsF (⟨op, n, nm⟩ : Ins).op j ((rowI l).length) = (lo, hi) by rw [hrl]; exact hlh] at hE2
  rw [hI] at hjv
  refine ⟨_, ltT (by omega), ?_⟩
  refine ⟨_, idxV (j := j) (rowI_get hx) rfl rfl rfl rfl, ?_⟩
  refine ⟨_, CallR.mk1 hE2 rfl rfl, ?_⟩
  have hc : op < 1 ∨ (¬ op < 1 ∧ op > 13) ∨ (¬ op < 1 ∧ ¬ op > 13 ∧ n < lo) ∨ (¬ op < 1 ∧ ¬ op > 13 ∧ ¬ n < lo ∧ n > hi) ∨ (¬ op < 1 ∧ ¬ op > 13 ∧ ¬ n < lo ∧ ¬ n > hi) := by omega
  rcases hc with h | ⟨c1, h⟩ | ⟨c1, c2, h⟩ | ⟨c1, c2, c3, h⟩ | ⟨c1, c2, c3, c4⟩
  · rw [if_pos (by omega), Bool.false_and, Bool.false_and] at hjv
    refine ⟨_, ltT h, ?_⟩
    exact Ret.mk _ rfl (congrArg (fun b : Bool => pB b) hjv) rfl
  · rw [if_pos (by omega), Bool.false_and, Bool.false_and] at hjv
    refine ⟨_, ltN c1, ?_⟩
    refine ⟨_, gtT h, ?_⟩
    exact Ret.mk _ rfl (congrArg (fun b : Bool => pB b) hjv) rfl
  · rw [if_pos (by omega), Bool.false_and, Bool.false_and] at hjv
    refine ⟨_, ltN c1, ?_⟩
    refine ⟨_, gtN c2, ?_⟩
    refine ⟨_, ltT h, ?_⟩
    exact Ret.mk _ rfl (congrArg (fun b : Bool => pB b) hjv) rfl
  · rw [if_pos (by omega), Bool.false_and, Bool.false_and] at hjv
    refine ⟨_, ltN c1, ?_⟩
    refine ⟨_, gtN c2, ?_⟩
    refine ⟨_, ltN c3, ?_⟩
    refine ⟨_, gtT h, ?_⟩
    exact Ret.mk _ rfl (congrArg (fun b : Bool => pB b) hjv) rfl
  rw [if_neg (by omega)] at hjv
  refine ⟨_, ltN c1, ?_⟩
  refine ⟨_, gtN c2, ?_⟩
  refine ⟨_, ltN c3, ?_⟩
  refine ⟨_, gtN c4, ?_⟩
  have hop : op = 4 ∨ op ≠ 4 := by omega
  rcases hop with h4 | h4
  · rw [if_pos h4] at hjv
    refine ⟨_, eqT h4, ?_⟩
    rcases Bool.eq_false_or_eq_true (isName nm) with hn | hn
    · rw [hn, Bool.true_and] at hjv
      rw [hn] at hN
      refine ⟨_, CallR.mk1 hN rfl rfl, ?_⟩
      refine ⟨_, neBN rfl, ?_⟩
      refine ⟨_, addV rfl (by omega) (by omega), ?_⟩
      exact ⟨j + 1, ⟨hjl, hjv⟩, by show l.length - (j + 1) < l.length - j; omega, ⟨rfl, rfl, rfl, rfl, trivial⟩, ⟨_, rfl⟩, rfl⟩
    · rw [hn, Bool.false_and, Bool.false_and] at hjv
      rw [hn] at hN
      refine ⟨_, CallR.mk1 hN rfl rfl, ?_⟩
      refine ⟨_, neBT rfl, ?_⟩
      exact Ret.mk _ rfl (congrArg (fun b : Bool => pB b) hjv) rfl
  · rw [if_neg h4] at hjv
    refine ⟨_, eqN h4, ?_⟩
    rcases Bool.eq_false_or_eq_true (isName nm) with hn | hn
    · rw [name_ne hn, Bool.false_and, Bool.false_and] at hjv
      rw [hn] at hN
      refine ⟨_, CallR.mk1 hN rfl rfl, ?_⟩
      refine ⟨_, neBT rfl, ?_⟩
      exact Ret.mk _ rfl (congrArg (fun b : Bool => pB b) hjv) rfl
    · rw [hn] at hN
      rcases Bool.eq_false_or_eq_true (nm.toList == (⟨#[]⟩ : ByteArray).toList) with he | he
      · rw [he, Bool.true_and] at hjv
        refine ⟨_, CallR.mk1 hN rfl rfl, ?_⟩
        refine ⟨_, neBN rfl, ?_⟩
        refine ⟨_, strNeV (c := false) (by rw [he]; rfl), ?_⟩
        refine ⟨_, addV rfl (by omega) (by omega), ?_⟩
        exact ⟨j + 1, ⟨hjl, hjv⟩, by show l.length - (j + 1) < l.length - j; omega, ⟨rfl, rfl, rfl, rfl, trivial⟩, ⟨_, rfl⟩, rfl⟩
      · rw [he, Bool.false_and, Bool.false_and] at hjv
        refine ⟨_, CallR.mk1 hN rfl rfl, ?_⟩
        refine ⟨_, neBN rfl, ?_⟩
        refine ⟨_, strNeV (c := true) (by rw [he]; rfl), ?_⟩
        exact Ret.mk _ rfl (congrArg (fun b : Bool => pB b) hjv) rfl
end Go.Proofs.YtadpifnlkmeifaaDoor.Pm

/- Code (layer 10), in the pure machine: the document's Right, what is the same, helpers. -/
namespace Go.Proofs.YtadpifnlkmeifaaDoor.Pm
open Go Go.RowKit Go.Proofs.YtadpifnlkmeifaaDoor.Pl
set_option linter.unusedVariables false
set_option maxHeartbeats 1000000
def eqI (x y : Ins) : Bool := (x.op == y.op) && ((x.n == y.n) && ((x.nm.toList == y.nm.toList) && true))
theorem insNe (x y : Ins) {b : Bool} (h : (!(eqI x y)) = b) : BinR E 44 .neq (pIn x) (pIn y) (.c (.bool b)) := ⟨by rw [← h]; rfl⟩
def eqIs : List Ins → List Ins → Bool
  | [], [] => true
  | x :: l, y :: m => eqI x y && eqIs l m
  | _, _ => false
theorem eqI_refl (x : Ins) : eqI x x = true := by unfold eqI; simp
theorem eqIs_refl : ∀ l : List Ins, eqIs l l = true
  | [] => rfl
  | x :: l => by rw [eqIs, eqI_refl, eqIs_refl l]; rfl
theorem eqIs_len : ∀ (l m : List Ins), l.length ≠ m.length → eqIs l m = false
  | [], [], h => absurd rfl h
  | [], y :: m, _ => rfl
  | x :: l, [], _ => rfl
  | x :: l, y :: m, h => by rw [eqIs, eqIs_len l m (by simpa using h), Bool.and_false]
theorem dropI {l : List Ins} {j : Nat} {x : Ins} (hx : l[j]? = some x) : l.drop j = x :: l.drop (j + 1) := by
  obtain ⟨h, e⟩ := List.getElem?_eq_some_iff.1 hx
  rw [List.drop_eq_getElem_cons h, e]
theorem Same10_ok (a b : List Ins) (ha : a.length ≤ 4611686018427387904) : Ok E 13 [] [.c (.row (rowI a)), .c (.row (rowI b))] (pB (eqIs a b)) [] := by
  have la := rowI_len a
  have lb := rowI_len b
  obtain ⟨v, hv⟩ : ∃ v, eqIs a b = v := ⟨_, rfl⟩
  rw [hv]
  by_cases h : a.length = b.length
  rotate_left
  · rw [eqIs_len a b h] at hv
    subst hv
    refine Ok.enter hE Tryd.func13 rfl (by decide +kernel) (by kernel_rfl) rfl rfl (Nat.le_of_ble_eq_true rfl) rfl ?_
    refine ⟨_, neT (by rw [la, lb]; omega), ?_⟩
    exact Ret.mk _ rfl rfl rfl
  refine Ok.enter hE Tryd.func13 rfl (by decide +kernel) (by kernel_rfl) rfl rfl (Nat.le_of_ble_eq_true rfl) rfl ?_
  refine ⟨_, neN (by rw [la, lb]; omega), ?_⟩
  refine Loop.run (α := Nat) (fun j => j ≤ a.length ∧ eqIs (a.drop j) (b.drop j) = v) (fun j => [(0, .c (.row (rowI a))), (1, .c (.row (rowI b))), (5, pI j)]) (fun _ => []) (fun _ => []) (fun j => a.length - j) 0 ⟨Nat.zero_le _, hv⟩ ⟨⟨rfl, rfl, rfl, trivial⟩, rfl, rfl⟩ ?_
  rintro j f ⟨hj, hjv⟩
  by_cases hjl : j < a.length
  · obtain ⟨x, hx⟩ : ∃ x, a[j]? = some x := ⟨_, List.getElem?_eq_getElem hjl⟩
    obtain ⟨y, hy⟩ : ∃ y, b[j]? = some y := ⟨_, List.getElem?_eq_getElem (by omega)⟩
    rw [dropI hx, dropI hy, eqIs] at hjv
    refine ⟨_, ltT (by rw [la]; omega), ?_⟩
    refine ⟨_, idxV (j := j) (rowI_get hx) rfl rfl rfl rfl, ?_⟩
    refine ⟨_, idxV (j := j) (rowI_get hy) rfl rfl rfl rfl, ?_⟩
    rcases Bool.eq_false_or_eq_true (eqI x y) with he | he
    · rw [he, Bool.true_and] at hjv
      refine ⟨_, insNe x y (b := false) (by rw [he]; rfl), ?_⟩
      refine ⟨_, addV rfl (by omega) (by omega), ?_⟩
      exact ⟨j + 1, ⟨hjl, hjv⟩, by omega, ⟨rfl, rfl, rfl, trivial⟩, rfl, rfl⟩
    · rw [he, Bool.false_and] at hjv
      refine ⟨_, insNe x y (b := true) (by rw [he]; rfl), ?_⟩
      exact Ret.mk _ rfl (congrArg (fun b : Bool => pB b) hjv) rfl
  · refine ⟨_, ltN (by rw [la]; omega), ?_⟩
    rw [List.drop_of_length_le (by omega), List.drop_of_length_le (by omega)] at hjv
    exact Ret.mk _ rfl (congrArg (fun b : Bool => pB b) (show true = v from hjv)) rfl
end Go.Proofs.YtadpifnlkmeifaaDoor.Pm

/- Code (layer 10), in the pure machine: what may be, as the document has it. -/
namespace Go.Proofs.YtadpifnlkmeifaaDoor.Pm
open Go Go.RowKit Go.Proofs.YtadpifnlkmeifaaDoor.Pl
set_option linter.unusedVariables false
set_option maxHeartbeats 1000000
end Go.Proofs.YtadpifnlkmeifaaDoor.Pm

/- Code (layer 10), in the pure machine: operations, how many of a kind; what an expression is compiled to. -/
namespace Go.Proofs.YtadpifnlkmeifaaDoor.Pm
open Go Go.RowKit Go.Proofs.YtadpifnlkmeifaaDoor.Pl
open Go.Proofs.YtadpifnlkmeifaaDoor.Q (rngE rngA)
set_option linter.unusedVariables false
set_option maxHeartbeats 1000000
def opsL : List Int := [0, 2, 3, 4, 1, 5, 6, 7, 8, 9, 0, 10, 11]
def opF' (k : Int) : Int := opsL.getD k.toNat 0
mutual
/-- what an expression is compiled to, from a place on -/
def codeF : Ex → Int → List Ins
  | ⟨k, n, nm, l⟩, p =>
    if k = 9 then match l with
      | [x, y] =>
        let a := codeF x p
        let b := codeF y (p + a.length + 1)
        a ++ (⟨9, p + a.length + 1 + b.length, ⟨#[]⟩⟩ :: b)
      | _ => []
    else if k = 10 then match l with
      | [x, y, z] =>
        let c := codeF x p
        let a := codeF y (p + c.length + 1)
        let b := codeF z (p + c.length + a.length + 2)
        c ++ (⟨12, p + c.length + a.length + 2, ⟨#[]⟩⟩ :: (a ++ (⟨13, p + c.length + a.length + 2 + b.length, ⟨#[]⟩⟩ :: b)))
      | _ => []
    else codesF l p ++ [⟨opF' k, n, nm⟩]
def codesF : List Ex → Int → List Ins
  | [], _ => []
  | x :: l, p => codeF x p ++ codesF l (p + (codeF x p).length)
end
mutual
def manyF : Ex → Int → Int
  | ⟨k, _, _, l⟩, q => (if k = q then 1 else 0) + manyL l q
def manyL : List Ex → Int → Int
  | [], _ => 0
  | x :: l, q => manyF x q + manyL l q
end
end Go.Proofs.YtadpifnlkmeifaaDoor.Pm

/- Numbers of either sign, as the document tells them. -/
namespace Go.Proofs.YtadpifnlkmeifaaDoor.Pm
open Go Go.RowKit Go.Proofs.YtadpifnlkmeifaaDoor.Pl
set_option linter.unusedVariables false
set_option maxHeartbeats 1000000
end Go.Proofs.YtadpifnlkmeifaaDoor.Pm

/- Code (layer 10), plainly: how long what is compiled is, that it may be, how it is moved, read back, cut, and told. -/
namespace Go.Proofs.YtadpifnlkmeifaaDoor.Pm
open Go Go.RowKit Go.Proofs.YtadpifnlkmeifaaDoor.Pl
open Go.Proofs.YtadpifnlkmeifaaDoor.Q (rngE rngA txtE txtA sameE sameA formT wordL moreL sepA)
set_option linter.unusedVariables false
set_option linter.unusedSimpArgs false
theorem toList_inj {a b : ByteArray} (h : a.toList = b.toList) : a = b := by
  rw [toList_data, toList_data] at h
  cases a; cases b
  simp only [Array.toList_inj] at h
  rw [h]
theorem dig_plain (n : Nat) : dig n ≠ 10 ∧ dig n ≠ 32 := by
  have h := dig_toNat n
  refine ⟨?_, ?_⟩ <;> (intro he; rw [he] at h; simp at h; omega)
theorem digs_plain (n : Nat) : ∀ c ∈ digs n, c ≠ 10 ∧ c ≠ 32 := by
  have hp : ∀ (f k : Nat), ∀ c ∈ digF f k, c ≠ 10 ∧ c ≠ 32 := by
    intro f
    induction f with
    | zero => intro k c hc; simp [digF] at hc
    | succ f ih =>
      intro k c hc
      rw [digF] at hc
      split at hc
      · simp only [List.mem_cons, List.not_mem_nil, or_false] at hc
        rw [hc]; exact dig_plain k
      · rw [List.mem_append] at hc
        rcases hc with hc | hc
        · exact ih _ c hc
        · simp only [List.mem_cons, List.not_mem_nil, or_false] at hc
          rw [hc]; exact dig_plain k
  exact hp 20 n
theorem int_plain (n : Int) (h0 : 0 ≤ n) : ∀ c ∈ intL n, c ≠ 10 ∧ c ≠ 32 := by
  unfold intL
  rw [if_neg (by omega)]
  exact digs_plain _
theorem abc9_plain : ∀ c ∈ abc9B.data.toList, c ≠ 10 ∧ c ≠ 32 := by decide
theorem name_plain (s : ByteArray) (h : isName s = true) : ∀ c ∈ s.data.toList, c ≠ 10 ∧ c ≠ 32 := by
  intro c hc
  unfold isName at h
  split at h
  · exact absurd h (by simp)
  · rename_i d l hl
    simp only [Bool.and_eq_true, decide_eq_true_eq] at h
    rw [hl] at hc
    have hall := runB_all abc9B (d :: l) (by rw [h.2.2.1]; have := congrArg List.length hl; simpa using this) c hc
    exact abc9_plain c (idx_mem _ c (of_decide_eq_true hall))
theorem codeF_leaf (k n : Int) (nm : ByteArray) (l : List Ex) (p : Int) (h9 : k ≠ 9) (h10 : k ≠ 10) : codeF ⟨k, n, nm, l⟩ p = codesF l p ++ [⟨opF' k, n, nm⟩] := by
  rw [codeF.eq_def]
  dsimp only
  rw [if_neg h9, if_neg h10]
/-- the three forms of an expression that may be -/
theorem fine_forms {d : Int} {c : Bool} {x : Ex} (h : isFine d c x = true) :
    (∃ a b, x = ⟨9, 0, x.f2, [a, b]⟩ ∧ x.f2.toList = (⟨#[]⟩ : ByteArray).toList ∧ isFine (d - 1) false a = true ∧ isFine (d - 1) false b = true) ∨
    (∃ a b e, x = ⟨10, 0, x.f2, [a, b, e]⟩ ∧ x.f2.toList = (⟨#[]⟩ : ByteArray).toList ∧ isFine (d - 1) true a = true ∧ isFine (d - 1) false b = true ∧ isFine (d - 1) false e = true) ∨
    (x.f0 ≠ 9 ∧ x.f0 ≠ 10 ∧ fineL (d - 1) false x.f3 = true) := by
  obtain ⟨k, n, nm, l⟩ := x
  obtain ⟨w, m, a, hF, h1, h2, h3, h4, h5, h6, h7, h8, h9⟩ := fine_open h
  by_cases k9 : k = 9
  · subst k9
    obtain ⟨rfl, rfl⟩ : m = 0 ∧ a = 2 := by simp [formT] at hF; omega
    match l, h6, h9 with
    | [x, y], _, h9 =>
      left
      simp only [fineL, Bool.and_eq_true] at h9
      refine ⟨x, y, ?_, by simpa [isNamed] using h8, h9.1, h9.2.1⟩
      rw [show n = 0 by omega]
  · by_cases k10 : k = 10
    · subst k10
      obtain ⟨rfl, rfl⟩ : m = 0 ∧ a = 3 := by simp [formT] at hF; omega
      match l, h6, h9 with
      | [x, y, z], _, h9 =>
        right; left
        simp only [fineL, Bool.and_eq_true] at h9
        refine ⟨x, y, z, ?_, by simpa [isNamed] using h8, h9.1, h9.2.1, h9.2.2.1⟩
        rw [show n = 0 by omega]
    · right; right
      refine ⟨k9, k10, ?_⟩
      rw [show decide (k = 10) = false from decide_eq_false k10] at h9
      exact h9
mutual
theorem codeF_len : ∀ (x : Ex) (d : Int) (c : Bool) (p : Int), isFine d c x = true → ((codeF x p).length : Int) = size x + manyF x 10
  | ⟨k, n, nm, l⟩, d, c, p, h => by
    rcases fine_forms h with ⟨a, b, e, hn, ha, hb⟩ | ⟨a, b, e, ee, hn, ha, hb, he⟩ | ⟨h9, h10, hl⟩
    · injection e with e1 e2 e3 e4
      subst e1; subst e2; subst e4
      have i1 := codeF_len a (d - 1) false p ha
      have i2 := codeF_len b (d - 1) false (p + (codeF a p).length + 1) hb
      simp [codeF, size, sizeL, manyF, manyL]
      omega
    · injection ee with e1 e2 e3 e4
      subst e1; subst e2; subst e4
      have i1 := codeF_len a (d - 1) true p ha
      have i2 := codeF_len b (d - 1) false (p + (codeF a p).length + 1) hb
      have i3 := codeF_len e (d - 1) false (p + (codeF a p).length + (codeF b (p + (codeF a p).length + 1)).length + 2) he
      simp [codeF, size, sizeL, manyF, manyL]
      omega
    · have h9 : k ≠ 9 := h9
      have h10 : k ≠ 10 := h10
      have i := codesF_len l (d - 1) false p hl
      rw [codeF_leaf _ _ _ _ _ h9 h10, size, manyF, if_neg h10]
      simp
      omega
theorem codesF_len : ∀ (l : List Ex) (d : Int) (c : Bool) (p : Int), fineL d c l = true → ((codesF l p).length : Int) = sizeL l + manyL l 10
  | [], d, c, p, h => by simp [codesF, sizeL, manyL]
  | x :: l, d, c, p, h => by
    rw [fineL, Bool.and_eq_true] at h
    have i1 := codeF_len x d c p h.1
    have i2 := codesF_len l d false (p + (codeF x p).length) h.2
    simp only [codesF, sizeL, manyL, List.length_append]
    omega
end
mutual
theorem many_size : ∀ (x : Ex), 0 ≤ manyF x 10 ∧ manyF x 10 ≤ size x
  | ⟨k, n, nm, l⟩ => by
    have := many_sizeL l
    rw [manyF, size]
    split <;> omega
theorem many_sizeL : ∀ (l : List Ex), 0 ≤ manyL l 10 ∧ manyL l 10 ≤ sizeL l
  | [] => by simp [manyL, sizeL]
  | x :: l => by
    have := many_size x
    have := many_sizeL l
    rw [manyL, sizeL]
    omega
end
theorem codeF_small {x : Ex} {d : Int} {c : Bool} (p : Int) (h : isFine d c x = true) (hs : size x ≤ 2000) : (codeF x p).length ≤ 4000 := by
  have := codeF_len x d c p h
  have := many_size x
  omega
def isLead (k : Int) : Bool := decide (k = 9 ∨ k = 12 ∨ k = 13)
theorem opF'_lead (k : Int) (h : k ≠ 9) : isLead (opF' k) = false := by
  unfold opF'
  by_cases h2 : k.toNat < 13
  · obtain ⟨j, hj⟩ : ∃ j, k.toNat = j := ⟨_, rfl⟩
    rw [hj]
    have : j ≠ 9 := by omega
    have : j = 0 ∨ j = 1 ∨ j = 2 ∨ j = 3 ∨ j = 4 ∨ j = 5 ∨ j = 6 ∨ j = 7 ∨ j = 8 ∨ j = 10 ∨ j = 11 ∨ j = 12 := by omega
    rcases this with rfl | rfl | rfl | rfl | rfl | rfl | rfl | rfl | rfl | rfl | rfl | rfl <;> rfl
  · rw [List.getD_eq_getElem?_getD, List.getElem?_eq_none (by show opsL.length ≤ _; simp only [opsL, List.length_cons, List.length_nil]; omega)]; rfl
/-- a lead's place is moved -/
def mv (d : Int) (x : Ins) : Ins := if isLead x.op then ⟨x.op, x.n + d, x.nm⟩ else x
mutual
theorem codeF_mv : ∀ (x : Ex) (d : Int) (c : Bool) (p t : Int), isFine d c x = true → codeF x (p + t) = (codeF x p).map (mv t)
  | ⟨k, n, nm, l⟩, d, c, p, t, h => by
    rcases fine_forms h with ⟨a, b, e, hn, ha, hb⟩ | ⟨a, b, e, ee, hn, ha, hb, he⟩ | ⟨h9, h10, hl⟩
    · injection e with e1 e2 e3 e4
      subst e1; subst e2; subst e4
      have i1 := codeF_mv a (d - 1) false p t ha
      have i2 := codeF_mv b (d - 1) false (p + (codeF a p).length + 1) t hb
      simp only [codeF, if_true, i1, List.length_map]
      rw [show p + t + ((codeF a p).length : Int) + 1 = p + (codeF a p).length + 1 + t by omega, i2]
      simp [mv, isLead]
      omega
    · injection ee with e1 e2 e3 e4
      subst e1; subst e2; subst e4
      have i1 := codeF_mv a (d - 1) true p t ha
      have i2 := codeF_mv b (d - 1) false (p + (codeF a p).length + 1) t hb
      have i3 := codeF_mv e (d - 1) false (p + (codeF a p).length + (codeF b (p + (codeF a p).length + 1)).length + 2) t he
      simp only [codeF, if_true, i1, List.length_map]
      rw [show p + t + ((codeF a p).length : Int) + 1 = p + (codeF a p).length + 1 + t by omega, i2]
      simp only [List.length_map]
      rw [show p + t + ((codeF a p).length : Int) + ((codeF b (p + (codeF a p).length + 1)).length : Int) + 2 = p + (codeF a p).length + (codeF b (p + (codeF a p).length + 1)).length + 2 + t by omega, i3]
      simp [mv, isLead]
      omega
    · have h9 : k ≠ 9 := h9
      have h10 : k ≠ 10 := h10
      have i := codesF_mv l (d - 1) false p t hl
      rw [codeF_leaf _ _ _ _ _ h9 h10, codeF_leaf _ _ _ _ _ h9 h10, i, List.map_append]
      simp [mv, opF'_lead k h9]
theorem codesF_mv : ∀ (l : List Ex) (d : Int) (c : Bool) (p t : Int), fineL d c l = true → codesF l (p + t) = (codesF l p).map (mv t)
  | [], d, c, p, t, h => by simp [codesF]
  | x :: l, d, c, p, t, h => by
    rw [fineL, Bool.and_eq_true] at h
    have i1 := codeF_mv x d c p t h.1
    have i2 := codesF_mv l d false (p + (codeF x p).length) t h.2
    simp only [codesF, i1, List.length_map, List.map_append]
    rw [show p + t + ((codeF x p).length : Int) = p + (codeF x p).length + t by omega, i2]
end
theorem rightL_app : ∀ (l m : List Ins) (i : Nat) (z : Int), rightL (l ++ m) i z = (rightL l i z && rightL m (i + l.length) z)
  | [], m, i, z => by simp [rightL]
  | x :: l, m, i, z => by
    rw [List.cons_append, rightL, rightL, rightL_app l m (i + 1) z, Bool.and_assoc, List.length_cons, show i + 1 + l.length = i + (l.length + 1) by omega]
theorem right_lead {k n : Int} {nm : ByteArray} {i : Nat} {z : Int} (hk : k = 9 ∨ k = 12 ∨ k = 13) (h1 : (i : Int) + 1 ≤ n) (h2 : n ≤ z) (hn : nm.toList = (⟨#[]⟩ : ByteArray).toList) : rightI ⟨k, n, nm⟩ i z = true := by
  unfold rightI endsF
  dsimp only
  rw [if_pos hk, if_neg (by dsimp only; omega), if_neg (by omega), hn]
  simp
theorem right_leaf {k n : Int} {nm : ByteArray} {w : List UInt8} {m a : Int} {i : Nat} {z : Int} (hF : formT k = some (w, m, a)) (h9 : k ≠ 9) (h10 : k ≠ 10) (h0 : 0 ≤ n) (h1 : n ≤ m) (hn : isNamed k nm = true) : rightI ⟨opF' k, n, nm⟩ i z = true := by
  unfold isNamed at hn
  rcases kinds_of k w m a hF with rfl | rfl | rfl | rfl | rfl | rfl | rfl | rfl | rfl | rfl | rfl | rfl <;> first | exact absurd rfl h9 | exact absurd rfl h10 | skip
  all_goals
    injection hF with hF; injection hF with q1 q2; injection q2 with q2 q3
    subst q2
    simp [rightI, endsF, opF', opsL] at hn ⊢
    refine ⟨by omega, ?_⟩
    simpa using hn
mutual
theorem codeF_right : ∀ (x : Ex) (d : Int) (c : Bool) (p : Nat) (z : Int), isFine d c x = true → (p : Int) + (codeF x p).length ≤ z → rightL (codeF x p) p z = true
  | ⟨k, n, nm, l⟩, d, c, p, z, h, hz => by
    rcases fine_forms h with ⟨a, b, e, hn, ha, hb⟩ | ⟨a, b, e, ee, hn, ha, hb, he⟩ | ⟨h9, h10, hl⟩
    · injection e with e1 e2 e3 e4
      subst e1; subst e2; subst e4
      simp only [codeF, if_true, List.length_append, List.length_cons] at hz ⊢
      have i1 := codeF_right a (d - 1) false p z ha (by omega)
      have i2 := codeF_right b (d - 1) false (p + (codeF a p).length + 1) z hb (by push_cast at hz ⊢; omega)
      push_cast at i2
      rw [rightL_app, i1, rightL, right_lead (.inl rfl) (by omega) (by omega) rfl, i2]; rfl
    · injection ee with e1 e2 e3 e4
      subst e1; subst e2; subst e4
      simp only [codeF, if_true, List.length_append, List.length_cons] at hz ⊢
      simp only [show ((10 : Int) = 9) = False by simp, if_false, List.length_append, List.length_cons] at hz ⊢
      obtain ⟨u, hu⟩ : ∃ u, codeF a p = u := ⟨_, rfl⟩
      rw [hu] at hz ⊢
      obtain ⟨v, hv⟩ : ∃ v, codeF b (p + u.length + 1) = v := ⟨_, rfl⟩
      rw [hv] at hz ⊢
      have i1 := codeF_right a (d - 1) true p z ha (by rw [hu]; omega)
      have i2 := codeF_right b (d - 1) false (p + u.length + 1) z hb (by push_cast; rw [hv]; push_cast at hz; omega)
      have hc : ((p + u.length + v.length + 2 : Nat) : Int) = (p : Int) + u.length + v.length + 2 := by omega
      have i3 := codeF_right e (d - 1) false (p + u.length + v.length + 2) z he (by rw [hc]; omega)
      rw [hc] at i3
      push_cast at i2
      rw [hu] at i1
      rw [hv] at i2
      rw [rightL_app, i1, rightL, right_lead (.inr (.inl rfl)) (by omega) (by push_cast at hz; omega) rfl, rightL_app, i2, rightL, right_lead (.inr (.inr rfl)) (by push_cast; omega) (by push_cast at hz; omega) rfl]
      simp only [Bool.true_and]
      rw [show p + u.length + 1 + v.length + 1 = p + u.length + v.length + 2 by omega, i3]
    · have h9 : k ≠ 9 := h9
      have h10 : k ≠ 10 := h10
      rw [codeF_leaf _ _ _ _ _ h9 h10] at hz ⊢
      obtain ⟨w, m, a, hF, h1, h2, h3, h4, h5, h6, h7, h8, -⟩ := fine_open h
      simp only [List.length_append, List.length_cons, List.length_nil] at hz
      rw [rightL_app, codesF_right l (d - 1) false p z hl (by omega), rightL, right_leaf hF h9 h10 h3 h4 h8, rightL]
      rfl
theorem codesF_right : ∀ (l : List Ex) (d : Int) (c : Bool) (p : Nat) (z : Int), fineL d c l = true → (p : Int) + (codesF l p).length ≤ z → rightL (codesF l p) p z = true
  | [], d, c, p, z, h, hz => by simp [codesF, rightL]
  | x :: l, d, c, p, z, h, hz => by
    rw [fineL, Bool.and_eq_true] at h
    simp only [codesF, List.length_append] at hz ⊢
    have i1 := codeF_right x d c p z h.1 (by omega)
    have i2 := codesF_right l d false (p + (codeF x p).length) z h.2 (by push_cast at hz ⊢; omega)
    push_cast at i2
    rw [rightL_app, i1, i2]; rfl
end
theorem compiled_right {x : Ex} (h : isFine 32 false x = true) (hs : size x ≤ 2000) : rightF (codeF x 0) = true := by
  have e := codeF_right x 32 false 0 _ h (Int.le_refl _)
  rw [show ((0 : Nat) : Int) = 0 from rfl, show (0 : Int) + ((codeF x 0).length : Int) = ((codeF x 0).length : Int) by omega] at e
  unfold rightF
  rw [e, decide_eq_true (by have := codeF_small 0 h hs; omega)]
  rfl

/-! what is compiled can be read back -/
inductive Item where
  | t (x : Ex)
  | els (a : Ex) (n : Int)
  | unl (c : Ex)
  | jmp (c a : Ex) (n : Int)
@[reducible] def noNm : ByteArray := ⟨#[]⟩
def redI (p : Int) : Ex → List Item → List Item
  | b, .els a n :: st => if n = p then redI p ⟨9, 0, noNm, [a, b]⟩ st else .t b :: .els a n :: st
  | b, .jmp c a n :: st => if n = p then redI p ⟨10, 0, noNm, [c, a, b]⟩ st else .t b :: .jmp c a n :: st
  | b, st => .t b :: st
def popI : Nat → List Item → List Ex → List Ex × List Item
  | k + 1, .t x :: st, acc => popI k st (x :: acc)
  | _, st, acc => (acc, st)
def kindI (op : Int) : Int := [0, 4, 1, 2, 3, 5, 6, 7, 8, 0, 11, 12].getD op.toNat 0
def arOf (k : Int) : Nat := match formT k with
  | some (_, _, a) => a.toNat
  | none => 0
def stepI (p : Int) (x : Ins) (st : List Item) : List Item :=
  if x.op = 9 then match st with
    | .t a :: st => .els a x.n :: st
    | st => st
  else if x.op = 12 then match st with
    | .t a :: st => .unl a :: st
    | st => st
  else if x.op = 13 then match st with
    | .t a :: .unl c :: st => .jmp c a x.n :: st
    | st => st
  else redI (p + 1) ⟨kindI x.op, x.n, x.nm, (popI (arOf (kindI x.op)) st []).1⟩ (popI (arOf (kindI x.op)) st []).2
def decI : List Ins → Int → List Item → List Item
  | [], _, st => st
  | x :: l, p, st => decI l (p + 1) (stepI p x st)
def HiI (q : Int) (st : List Item) : Prop := ∀ i ∈ st, match i with
  | .els _ n => q ≤ n
  | .jmp _ _ n => q ≤ n
  | _ => True
theorem HiI.mono {q q' : Int} {st : List Item} (h : HiI q st) (hq : q' ≤ q) : HiI q' st := fun i hi => by
  have := h i hi
  cases i <;> simp only at this ⊢ <;> omega
theorem HiI.cons {q : Int} {st : List Item} {i : Item} (h : HiI q st) (hi : match i with
  | .els _ n => q ≤ n
  | .jmp _ _ n => q ≤ n
  | _ => True) : HiI q (i :: st) := fun j hj => by
  rcases List.mem_cons.1 hj with rfl | hj
  · exact hi
  · exact h j hj
theorem redI_hi {p q : Int} {x : Ex} {st : List Item} (h : HiI q st) (hq : p < q) : redI p x st = .t x :: st := by
  cases st with
  | nil => rfl
  | cons i st =>
    have := h i List.mem_cons_self
    cases i with
    | t y => rfl
    | unl c => rfl
    | els a n => simp only at this; rw [redI, if_neg (by omega)]
    | jmp c a n => simp only at this; rw [redI, if_neg (by omega)]
theorem popI_rev : ∀ (l : List Ex) (st : List Item) (acc : List Ex), popI l.length (l.map .t ++ st) acc = (l.reverse ++ acc, st)
  | [], st, acc => by cases st <;> simp [popI]
  | x :: l, st, acc => by simp [popI, popI_rev l st (x :: acc)]
theorem popI_all (l : List Ex) (st : List Item) (acc : List Ex) : popI l.length (l.reverse.map .t ++ st) acc = (l ++ acc, st) := by
  have := popI_rev l.reverse st acc
  rwa [List.length_reverse, List.reverse_reverse] at this
theorem decI_app : ∀ (l m : List Ins) (p : Int) (st : List Item), decI (l ++ m) p st = decI m (p + l.length) (decI l p st)
  | [], m, p, st => by simp [decI]
  | x :: l, m, p, st => by
    rw [List.cons_append, decI, decI, decI_app l m]
    simp only [List.length_cons]
    rw [show p + 1 + (l.length : Int) = p + ((l.length + 1 : Nat) : Int) by omega]
theorem kind_leaf {k : Int} {w : List UInt8} {m a : Int} (hF : formT k = some (w, m, a)) (h9 : k ≠ 9) (h10 : k ≠ 10) : opF' k ≠ 9 ∧ opF' k ≠ 12 ∧ opF' k ≠ 13 ∧ kindI (opF' k) = k := by
  rcases kinds_of k w m a hF with rfl | rfl | rfl | rfl | rfl | rfl | rfl | rfl | rfl | rfl | rfl | rfl <;> first | exact absurd rfl h9 | exact absurd rfl h10 | (refine ⟨by decide, by decide, by decide, by decide⟩)
theorem nm_nil {nm : ByteArray} (h : nm.toList = (⟨#[]⟩ : ByteArray).toList) : nm = noNm := toList_inj h
mutual
theorem dec_code : ∀ (x : Ex) (d : Int) (c : Bool) (p : Int) (st : List Item), isFine d c x = true → HiI (p + (codeF x p).length) st → decI (codeF x p) p st = redI (p + (codeF x p).length) x st
  | ⟨k, n, nm, l⟩, d, c, p, st, h, hh => by
    rcases fine_forms h with ⟨a, b, e, hn, ha, hb⟩ | ⟨a, b, e, ee, hn, ha, hb, he⟩ | ⟨h9, h10, hl⟩
    · injection e with e1 e2 e3 e4
      subst e1; subst e2; subst e4
      have hnm : nm = noNm := nm_nil hn
      subst hnm
      simp only [codeF, if_true, List.length_append, List.length_cons] at hh ⊢
      obtain ⟨u, hu⟩ : ∃ u, codeF a p = u := ⟨_, rfl⟩
      rw [hu] at hh ⊢
      obtain ⟨v, hv⟩ : ∃ v, codeF b (p + u.length + 1) = v := ⟨_, rfl⟩
      rw [hv] at hh ⊢
      push_cast at hh ⊢
      have i1 := dec_code a (d - 1) false p st ha (by rw [hu]; exact hh.mono (by omega))
      have hb' : HiI (p + u.length + 1 + v.length) (.els a (p + u.length + 1 + v.length) :: st) := (hh.mono (by omega)).cons (Int.le_refl _)
      have i2 := dec_code b (d - 1) false (p + u.length + 1) (.els a (p + u.length + 1 + v.length) :: st) hb (by rw [hv]; exact hb')
      rw [hu] at i1
      rw [hv] at i2
      rw [decI_app, i1, redI_hi hh (by omega), decI]
      simp only [stepI, if_true]
      rw [i2, redI, if_pos rfl]
      congr 1
      omega
    · injection ee with e1 e2 e3 e4
      subst e1; subst e2; subst e4
      have hnm : nm = noNm := nm_nil hn
      subst hnm
      simp only [codeF, if_true, List.length_append, List.length_cons] at hh ⊢
      simp only [show ((10 : Int) = 9) = False by simp, if_false, List.length_append, List.length_cons] at hh ⊢
      obtain ⟨u, hu⟩ : ∃ u, codeF a p = u := ⟨_, rfl⟩
      rw [hu] at hh ⊢
      obtain ⟨v, hv⟩ : ∃ v, codeF b (p + u.length + 1) = v := ⟨_, rfl⟩
      rw [hv] at hh ⊢
      obtain ⟨r, hr⟩ : ∃ r, codeF e (p + u.length + v.length + 2) = r := ⟨_, rfl⟩
      rw [hr] at hh ⊢
      push_cast at hh ⊢
      have i1 := dec_code a (d - 1) true p st ha (by rw [hu]; exact hh.mono (by omega))
      have i2 := dec_code b (d - 1) false (p + u.length + 1) (.unl a :: st) hb (by rw [hv]; exact (hh.mono (by omega)).cons trivial)
      have hj : HiI (p + u.length + v.length + 2 + r.length) (.jmp a b (p + u.length + v.length + 2 + r.length) :: st) := (hh.mono (by omega)).cons (Int.le_refl _)
      have i3 := dec_code e (d - 1) false (p + u.length + v.length + 2) (.jmp a b (p + u.length + v.length + 2 + r.length) :: st) he (by rw [hr]; exact hj)
      rw [hu] at i1
      rw [hv] at i2
      rw [hr] at i3
      rw [decI_app, i1, redI_hi hh (by omega), decI]
      simp only [stepI, if_true, show ((12 : Int) = 9) = False by simp, if_false]
      rw [decI_app, i2, redI_hi (hh.cons (i := .unl a) trivial) (by omega), decI]
      simp only [stepI, if_true, show ((13 : Int) = 9) = False by simp, show ((13 : Int) = 12) = False by simp, if_false]
      rw [show p + u.length + 1 + v.length + 1 = p + u.length + v.length + 2 by omega, i3, redI, if_pos rfl]
      congr 1
      omega
    · have h9 : k ≠ 9 := h9
      have h10 : k ≠ 10 := h10
      obtain ⟨w, m, a, hF, h1, h2, h3, h4, h5, h6, h7, h8, -⟩ := fine_open h
      rw [codeF_leaf _ _ _ _ _ h9 h10] at hh ⊢
      simp only [List.length_append, List.length_cons, List.length_nil] at hh ⊢
      push_cast at hh ⊢
      obtain ⟨k1, k2, k3, k4⟩ := kind_leaf hF h9 h10
      rw [decI_app, dec_codes l (d - 1) false p st hl (hh.mono (by omega)), decI, decI]
      unfold stepI
      dsimp only
      rw [if_neg k1, if_neg k2, if_neg k3, k4]
      have har : arOf k = l.length := by unfold arOf; rw [hF]; dsimp only; omega
      rw [har, popI_all, List.append_nil]
      congr 1
      omega
theorem dec_codes : ∀ (l : List Ex) (d : Int) (c : Bool) (p : Int) (st : List Item), fineL d c l = true → HiI (p + (codesF l p).length + 1) st → decI (codesF l p) p st = l.reverse.map .t ++ st
  | [], d, c, p, st, h, hh => by simp [codesF, decI]
  | x :: l, d, c, p, st, h, hh => by
    rw [fineL, Bool.and_eq_true] at h
    simp only [codesF, List.length_append] at hh ⊢
    push_cast at hh
    have i1 := dec_code x d c p st h.1 (hh.mono (by omega))
    have i2 := dec_codes l d false (p + (codeF x p).length) (.t x :: st) h.2 ((hh.mono (by omega)).cons trivial)
    rw [decI_app, i1, redI_hi hh (by omega), i2]
    simp
end
theorem code_inj {x y : Ex} {d d' : Int} {c c' : Bool} (hx : isFine d c x = true) (hy : isFine d' c' y = true) (h : codeF x 0 = codeF y 0) : x = y := by
  have h1 := dec_code x d c 0 [] hx (fun i hi => by cases hi)
  have h2 := dec_code y d' c' 0 [] hy (fun i hi => by cases hi)
  rw [h, h2] at h1
  simp only [redI] at h1
  injection h1 with h1 _
  injection h1 with h1
  exact h1.symm
theorem eqI_eq {x y : Ins} (h : eqI x y = true) : x = y := by
  obtain ⟨a, b, c⟩ := x
  obtain ⟨a', b', c'⟩ := y
  simp only [eqI, Bool.and_true, Bool.and_eq_true, beq_iff_eq] at h
  rw [h.1, h.2.1, toList_inj h.2.2]
theorem eqIs_eq : ∀ {l m : List Ins}, eqIs l m = true → l = m
  | [], [], _ => rfl
  | [], _ :: _, h => by simp [eqIs] at h
  | _ :: _, [], h => by simp [eqIs] at h
  | x :: l, y :: m, h => by
    rw [eqIs, Bool.and_eq_true] at h
    rw [eqI_eq h.1, eqIs_eq h.2]
mutual
theorem sameE_eq : ∀ (x y : Ex), sameE x y = true → x = y
  | ⟨k, n, nm, l⟩, ⟨k', n', nm', l'⟩, h => by
    simp only [sameE, Bool.and_eq_true, beq_iff_eq] at h
    rw [h.1, h.2.1, toList_inj h.2.2.1, sameA_eq l l' h.2.2.2]
theorem sameA_eq : ∀ (l m : List Ex), sameA l m = true → l = m
  | [], [], _ => rfl
  | [], _ :: _, h => by simp [sameA] at h
  | _ :: _, [], h => by simp [sameA] at h
  | x :: l, y :: m, h => by
    rw [sameA, Bool.and_eq_true] at h
    rw [sameE_eq x y h.1, sameA_eq l m h.2]
end
mutual
theorem sameE_rfl : ∀ x : Ex, sameE x x = true
  | ⟨k, n, nm, l⟩ => by simp [sameE, sameA_rfl l]
theorem sameA_rfl : ∀ l : List Ex, sameA l l = true
  | [] => rfl
  | x :: l => by rw [sameA, sameE_rfl x, sameA_rfl l]; rfl
end
theorem same_code {x y : Ex} {d d' : Int} {c c' : Bool} (hx : isFine d c x = true) (hy : isFine d' c' y = true) : eqIs (codeF x 0) (codeF y 0) = sameE x y := by
  rw [Bool.eq_iff_iff]
  constructor
  · intro h
    rw [code_inj hx hy (eqIs_eq h)]
    exact sameE_rfl y
  · intro h
    rw [sameE_eq x y h]
    exact eqIs_refl _
/-! leads; what is cut off -/
theorem right_cut {x : Ins} {i : Nat} {z z' : Int} (h : rightI x i z = true) : rightI x i z' = (!isLead x.op || decide (x.n ≤ z')) := by
  obtain ⟨op, n, nm⟩ := x
  unfold rightI endsF isLead at *
  dsimp only at h ⊢
  by_cases hl : op = 9 ∨ op = 12 ∨ op = 13
  · rw [if_pos hl] at h ⊢
    rw [decide_eq_true hl]
    dsimp only at h ⊢
    by_cases hz : n ≤ z'
    · rw [decide_eq_true hz]
      by_cases hc : op < 1 ∨ op > 13 ∨ n < (i : Int) + 1 ∨ n > z
      · rw [if_pos hc] at h; exact absurd h (by simp)
      · rw [if_neg hc] at h
        rw [if_neg (by omega), h]; rfl
    · rw [if_pos (by omega), decide_eq_false hz]; rfl
  · rw [if_neg hl] at h ⊢
    rw [decide_eq_false hl, h]; rfl
theorem rightL_cut : ∀ (l : List Ins) (i : Nat) (z z' : Int), rightL l i z = true → rightL l i z' = l.all fun x => !isLead x.op || decide (x.n ≤ z')
  | [], _, _, _, _ => rfl
  | x :: l, i, z, z', h => by
    rw [rightL, Bool.and_eq_true] at h
    rw [rightL, List.all_cons, right_cut h.1, rightL_cut l (i + 1) z z' h.2]
def farS (f : Int) (x : Ins) : Int := if isLead x.op then max f x.n else f
theorem far_all : ∀ (l : List Ins) (f k : Int), decide (l.foldl farS f ≤ k) = (decide (f ≤ k) && l.all fun x => !isLead x.op || decide (x.n ≤ k))
  | [], f, k => by rw [List.foldl_nil, List.all_nil, Bool.and_true]
  | x :: l, f, k => by
    rw [List.foldl_cons, far_all l, List.all_cons, farS]
    cases isLead x.op with
    | false => simp
    | true =>
      simp only [if_true, Bool.not_true, Bool.false_or]
      rw [← Bool.and_assoc]
      congr 1
      rw [← Bool.decide_and]
      exact decide_eq_decide.2 (by omega)
theorem right_take {l : List Ins} (h : rightF l = true) (k : Nat) (hk : k ≤ l.length) : rightF (l.take k) = decide ((l.take k).foldl farS 0 ≤ (k : Int)) := by
  unfold rightF at h
  rw [Bool.and_eq_true] at h
  have h2 : l.length ≤ 5000 := of_decide_eq_true h.2
  have h1 : rightL (l.take k) 0 l.length = true := by
    have := h.1
    rw [← List.take_append_drop k l, rightL_app, Bool.and_eq_true, List.take_append_drop] at this
    exact this.1
  unfold rightF
  have hl : (l.take k).length = k := by rw [List.length_take]; omega
  rw [hl, decide_eq_true (by omega), Bool.and_true, rightL_cut _ _ _ _ h1, far_all, decide_eq_true (by omega), Bool.true_and]
theorem right_at : ∀ (l : List Ins) (i : Nat) (z : Int), rightL l i z = true → ∀ (j : Nat) (x : Ins), l[j]? = some x → rightI x (i + j : Nat) z = true
  | [], _, _, _, j, x, h => by simp at h
  | y :: l, i, z, h, 0, x, hx => by
    rw [rightL, Bool.and_eq_true] at h
    simp at hx; subst hx
    exact h.1
  | y :: l, i, z, h, j + 1, x, hx => by
    rw [rightL, Bool.and_eq_true] at h
    have := right_at l (i + 1) z h.2 j x (by simpa using hx)
    rwa [show i + 1 + j = i + (j + 1) by omega] at this
theorem lead_at {x : Ins} {i : Nat} {z : Int} (h : rightI x i z = true) (hl : isLead x.op = true) : (i : Int) < x.n ∧ x.n ≤ z := by
  obtain ⟨op, n, nm⟩ := x
  unfold rightI endsF isLead at *
  dsimp only at h hl ⊢
  rw [if_pos (of_decide_eq_true hl)] at h
  dsimp only at h
  by_cases hc : op < 1 ∨ op > 13 ∨ n < (i : Int) + 1 ∨ n > z
  · rw [if_pos hc] at h; exact absurd h (by simp)
  · omega
/-! texts -/
def wordsO : List (List UInt8) := [[63], [112, 117, 115, 104], [108, 111, 119, 101, 115, 116], [115, 101, 99, 111, 110, 100], [102, 114, 111, 109], [108, 101, 115, 115], [99, 117, 116], [109, 105, 110], [109, 97, 120], [101, 108, 115, 101], [109, 111, 114, 101], [97, 98, 111, 118, 101], [117, 110, 108, 101, 115, 115], [106, 117, 109, 112]]
def opW (op : Int) : Int := if op < 0 ∨ op ≥ 14 then 0 else op
def wordO (op : Int) : List UInt8 := wordsO.getD (opW op).toNat []
def hasNum (op : Int) : Bool := decide (op = 1 ∨ op = 5 ∨ op = 6 ∨ op = 9 ∨ op = 10 ∨ op = 12 ∨ op = 13)
def tailI (x : Ins) : List UInt8 := if x.op = 4 then 32 :: x.nm.data.toList else if hasNum x.op then 32 :: intL x.n else []
def lineI (x : Ins) : List UInt8 := wordO x.op ++ tailI x ++ [10]
def textC : List Ins → List UInt8
  | [] => []
  | x :: l => lineI x ++ textC l
theorem split_at (P : UInt8 → Bool) : ∀ (m m' r s : List UInt8), (∀ c ∈ m, P c = false) → (∀ c ∈ m', P c = false) → (∃ c t, r = c :: t ∧ P c = true) → (∃ c t, s = c :: t ∧ P c = true) → m ++ r = m' ++ s → m = m' ∧ r = s
  | [], [], r, s, _, _, _, _, h => ⟨rfl, h⟩
  | [], c :: m', r, s, _, hm', ⟨d, t, hr, hd⟩, _, h => by
    subst hr
    simp only [List.nil_append, List.cons_append, List.cons.injEq] at h
    rw [h.1, hm' c List.mem_cons_self] at hd
    exact absurd hd (by decide)
  | c :: m, [], r, s, hm, _, _, ⟨d, t, hs, hd⟩, h => by
    subst hs
    simp only [List.nil_append, List.cons_append, List.cons.injEq] at h
    rw [← h.1, hm c List.mem_cons_self] at hd
    exact absurd hd (by decide)
  | c :: m, c' :: m', r, s, hm, hm', hr, hs, h => by
    simp only [List.cons_append, List.cons.injEq] at h
    obtain ⟨h1, h2⟩ := split_at P m m' r s (fun x hx => hm x (List.mem_cons_of_mem _ hx)) (fun x hx => hm' x (List.mem_cons_of_mem _ hx)) hr hs h.2
    exact ⟨by rw [h.1, h1], h2⟩
def opOfW (w : List UInt8) : Int := (wordsO.findIdx (· == w) : Nat)
theorem word_facts (op : Int) (h0 : 1 ≤ op) (h1 : op ≤ 13) : opOfW (wordO op) = op ∧ ∀ c ∈ wordO op, (c == 10 || c == 32) = false := by
  obtain rfl | rfl | rfl | rfl | rfl | rfl | rfl | rfl | rfl | rfl | rfl | rfl | rfl : op = 1 ∨ op = 2 ∨ op = 3 ∨ op = 4 ∨ op = 5 ∨ op = 6 ∨ op = 7 ∨ op = 8 ∨ op = 9 ∨ op = 10 ∨ op = 11 ∨ op = 12 ∨ op = 13 := by omega
  all_goals decide
/-- what is known of an instruction that may be -/
theorem right_facts {x : Ins} {i : Nat} {z : Int} (hz : z ≤ 5000) (h : rightI x i z = true) : 1 ≤ x.op ∧ x.op ≤ 13 ∧ 0 ≤ x.n ∧ x.n ≤ 1000000000000 ∧ (hasNum x.op = false → x.n = 0) ∧ (x.op = 4 → isName x.nm = true) ∧ (x.op ≠ 4 → x.nm.toList = (⟨#[]⟩ : ByteArray).toList) := by
  obtain ⟨op, n, nm⟩ := x
  unfold rightI endsF at h
  dsimp only at h ⊢
  by_cases hc : op < 1 ∨ op > 13 ∨ n < (if op = 9 ∨ op = 12 ∨ op = 13 then ((i : Int) + 1, z) else if op = 1 ∨ op = 5 then (0, 1000000000000) else if op = 6 then (0, 100000) else if op = 10 then (0, 1000) else (0, 0)).1 ∨ n > (if op = 9 ∨ op = 12 ∨ op = 13 then ((i : Int) + 1, z) else if op = 1 ∨ op = 5 then (0, 1000000000000) else if op = 6 then (0, 100000) else if op = 10 then (0, 1000) else (0, 0)).2
  · rw [if_pos hc] at h; exact absurd h (by simp)
  · rw [if_neg hc] at h
    have h4 : (op = 4 → isName nm = true) ∧ (op ≠ 4 → nm.toList = (⟨#[]⟩ : ByteArray).toList) := by
      constructor
      · intro h4; rwa [if_pos h4] at h
      · intro h4; rw [if_neg h4] at h; exact beq_iff_eq.1 h
    unfold hasNum
    refine ⟨by omega, by omega, ?_, ?_, fun hn => ?_, h4.1, h4.2⟩
    · (repeat' split at hc) <;> dsimp only at hc <;> omega
    · (repeat' split at hc) <;> dsimp only at hc <;> omega
    · have := of_decide_eq_false hn
      (repeat' split at hc) <;> dsimp only at hc <;> omega
theorem line_inj {x y : Ins} {i j : Nat} {z z' : Int} {r s : List UInt8} (hz : z ≤ 5000) (hz' : z' ≤ 5000) (hx : rightI x i z = true) (hy : rightI y j z' = true) (h : lineI x ++ r = lineI y ++ s) : x = y ∧ r = s := by
  obtain ⟨a1, a2, a3, a4, a5, a6, a7⟩ := right_facts hz hx
  obtain ⟨b1, b2, b3, b4, b5, b6, b7⟩ := right_facts hz' hy
  obtain ⟨op, n, nm⟩ := x
  obtain ⟨op', n', nm'⟩ := y
  dsimp only at a1 a2 a3 a4 a5 a6 a7 b1 b2 b3 b4 b5 b6 b7
  obtain ⟨w1, w2⟩ := word_facts op a1 a2
  obtain ⟨v1, v2⟩ := word_facts op' b1 b2
  unfold lineI at h
  simp only [List.append_assoc] at h
  have st : ∀ (u : Ins) (t : List UInt8), ∃ c t', tailI u ++ ([10] ++ t) = c :: t' ∧ (c == 10 || c == 32) = true := by
    intro u t
    unfold tailI
    split
    · exact ⟨32, _, rfl, rfl⟩
    · split
      · exact ⟨32, _, rfl, rfl⟩
      · exact ⟨10, _, rfl, rfl⟩
  obtain ⟨e1, e2⟩ := split_at (fun c => c == 10 || c == 32) _ _ _ _ w2 v2 (st _ _) (st _ _) h
  have hop : op = op' := by rw [← w1, ← v1, e1]
  subst hop
  have s10 : ∀ t : List UInt8, ∃ c t', [10] ++ t = c :: t' ∧ (c == (10 : UInt8)) = true := fun t => ⟨10, t, rfl, rfl⟩
  have key : n = n' ∧ nm = nm' ∧ r = s := by
    unfold tailI at e2
    dsimp only at e2
    by_cases h4 : op = 4
    · rw [if_pos h4, if_pos h4] at e2
      simp only [List.cons_append, List.cons.injEq, true_and] at e2
      obtain ⟨e3, e4⟩ := split_at (fun c => c == 10) _ _ _ _ (fun c hc => beq_eq_false_iff_ne.2 (name_plain nm (a6 h4) c hc).1) (fun c hc => beq_eq_false_iff_ne.2 (name_plain nm' (b6 h4) c hc).1) (s10 r) (s10 s) e2
      have hn : hasNum op = false := by rw [h4]; rfl
      refine ⟨by rw [a5 hn, b5 hn], toList_inj (by rw [toList_data, toList_data, e3]), by simpa using e4⟩
    · rw [if_neg h4, if_neg h4] at e2
      have hnm : nm = nm' := toList_inj (by rw [a7 h4, b7 h4])
      cases hn : hasNum op with
      | true =>
        rw [hn] at e2
        simp only [if_true, List.cons_append, List.cons.injEq, true_and] at e2
        obtain ⟨e3, e4⟩ := split_at (fun c => c == 10) _ _ _ _ (fun c hc => beq_eq_false_iff_ne.2 (int_plain n a3 c hc).1) (fun c hc => beq_eq_false_iff_ne.2 (int_plain n' b3 c hc).1) (s10 r) (s10 s) e2
        exact ⟨int_inj n n' a3 a4 b3 b4 e3, hnm, by simpa using e4⟩
      | false =>
        rw [hn] at e2
        simp only [Bool.false_eq_true, if_false, List.nil_append] at e2
        exact ⟨by rw [a5 hn, b5 hn], hnm, by simpa using e2⟩
  exact ⟨by rw [key.1, key.2.1], key.2.2⟩
theorem lineI_ne (x : Ins) (r : List UInt8) : lineI x ++ r ≠ [] := by unfold lineI; simp
theorem textC_inj : ∀ (l m : List Ins) (i j : Nat) (z z' : Int), z ≤ 5000 → z' ≤ 5000 → rightL l i z = true → rightL m j z' = true → textC l = textC m → l = m
  | [], [], _, _, _, _, _, _, _, _, _ => rfl
  | [], y :: m, _, _, _, _, _, _, _, _, h => absurd h.symm (lineI_ne y _)
  | x :: l, [], _, _, _, _, _, _, _, _, h => absurd h (lineI_ne x _)
  | x :: l, y :: m, i, j, z, z', hz, hz', h1, h2, h => by
    rw [rightL, Bool.and_eq_true] at h1 h2
    obtain ⟨e1, e2⟩ := line_inj hz hz' h1.1 h2.1 h
    rw [e1, textC_inj l m (i + 1) (j + 1) z z' hz hz' h1.2 h2.2 e2]
theorem right_textC_inj {l m : List Ins} (h1 : rightF l = true) (h2 : rightF m = true) (h : textC l = textC m) : l = m := by
  unfold rightF at h1 h2
  rw [Bool.and_eq_true] at h1 h2
  have a := of_decide_eq_true h1.2
  have b := of_decide_eq_true h2.2
  exact textC_inj l m 0 0 _ _ (by omega) (by omega) h1.1 h2.1 h
end Go.Proofs.YtadpifnlkmeifaaDoor.Pm
