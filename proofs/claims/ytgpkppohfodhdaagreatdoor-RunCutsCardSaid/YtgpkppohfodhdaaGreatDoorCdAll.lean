import Derived.Test.YtgpkppohfodhdaaGreatDoorPmBll
import Derived.Test.YtgpkppohfodhdaaGreatDoorPtBll
import Derived.Test.YtgpkppohfodhdaaGreatDoorPtCll
namespace Go.Proofs.YtgpkppohfodhdaaGreatDoor.Pm
open Go Go.RowKit
structure Ins where
 op : Int
 n : Int
 nm : ByteArray
@[reducible] def cellsI (x : Ins) : List CV := [.int .i64 x.op, .int .i64 x.n, .str x.nm]
@[reducible] def pIn (x : Ins) : PV := .agg (cellsI x)
def rowI (l : List Ins) : List (List CV) := l.map cellsI
theorem rowI_len (l : List Ins) : (rowI l).length = l.length := by simp [rowI]
end Go.Proofs.YtgpkppohfodhdaaGreatDoor.Pm
namespace Go.Proofs.YtgpkppohfodhdaaGreatDoor.Pm
open Go Go.RowKit Go.Proofs.YtgpkppohfodhdaaGreatDoor.Pl
set_option linter.unusedVariables false
set_option linter.unusedSimpArgs false
set_option maxHeartbeats 1000000
theorem rowI_get {l : List Ins} {j : Nat} {y : Ins} (h : l[j]? = some y) : (rowI l)[j]? = some (cellsI y) := by unfold rowI; rw [List.getElem?_map, h]; rfl
def endsF (op i len : Int) : Int × Int :=
 if op = 9 ∨ op = 12 ∨ op = 13 then (i + 1, len) else if op = 1 ∨ op = 5 then (0, 1000000000000) else if op = 6 then (0, 100000) else if op = 10 then (0, 1000) else (0, 0)
theorem ends_cases (op : Int) : (op = 9 ∨ (op ≠ 9 ∧ op = 12) ∨ (op ≠ 9 ∧ op ≠ 12 ∧ op = 13)) ∨ (op ≠ 9 ∧ op ≠ 12 ∧ op ≠ 13) ∧ ((op = 1 ∨ (op ≠ 1 ∧ op = 5)) ∨ (op ≠ 1 ∧ op ≠ 5) ∧ (op = 6 ∨ op ≠ 6 ∧ (op = 10 ∨ op ≠ 10))) := by omega
theorem ends_ok (x : Ins) (i len : Int) (h0 : 0 ≤ i) (h1 : i ≤ 4611686018427387904) : Ok E 75 [] [pIn x, pI i, pI len] (.tup [pI (endsF x.op i len).1, pI (endsF x.op i len).2]) [] := by
 obtain ⟨op, n, nm⟩ := x
 obtain ⟨r, hr⟩ : ∃ r, endsF op i len = r := ⟨_, rfl⟩
 rw [hr]
 unfold endsF at hr
 rcases ends_cases op with (h | ⟨h9, h⟩ | ⟨h9, h12, h⟩) | ⟨⟨h9, h12, h13⟩, (h | ⟨h1, h⟩) | ⟨⟨h1, h5⟩, h | ⟨h6, h | h⟩⟩⟩
 ·rw [if_pos (by omega)] at hr; subst hr
  refine Ok.enter hE Tryz.func75 rfl (by decide +kernel) (by kernel_rfl) rfl rfl (Nat.le_of_ble_eq_true rfl) rfl ?_
  refine ⟨_, eqT h, ?_⟩
  refine ⟨_, addV rfl (by omega) (by omega), ?_⟩
  exact Ret.mk _ rfl rfl rfl
 ·rw [if_pos (by omega)] at hr; subst hr
  refine Ok.enter hE Tryz.func75 rfl (by decide +kernel) (by kernel_rfl) rfl rfl (Nat.le_of_ble_eq_true rfl) rfl ?_
  refine ⟨_, eqN h9, ?_⟩
  refine ⟨_, eqT h, ?_⟩
  refine ⟨_, addV rfl (by omega) (by omega), ?_⟩
  exact Ret.mk _ rfl rfl rfl
 ·rw [if_pos (by omega)] at hr; subst hr
  refine Ok.enter hE Tryz.func75 rfl (by decide +kernel) (by kernel_rfl) rfl rfl (Nat.le_of_ble_eq_true rfl) rfl ?_
  refine ⟨_, eqN h9, ?_⟩
  refine ⟨_, eqN h12, ?_⟩
  refine ⟨_, eqT h, ?_⟩
  refine ⟨_, addV rfl (by omega) (by omega), ?_⟩
  exact Ret.mk _ rfl rfl rfl
 ·rw [if_neg (by omega), if_pos (by omega)] at hr; subst hr
  refine Ok.enter hE Tryz.func75 rfl (by decide +kernel) (by kernel_rfl) rfl rfl (Nat.le_of_ble_eq_true rfl) rfl ?_
  refine ⟨_, eqN h9, ?_⟩
  refine ⟨_, eqN h12, ?_⟩
  refine ⟨_, eqN h13, ?_⟩
  refine ⟨_, eqT h, ?_⟩
  exact Ret.mk _ rfl rfl rfl
 ·rw [if_neg (by omega), if_pos (by omega)] at hr; subst hr
  refine Ok.enter hE Tryz.func75 rfl (by decide +kernel) (by kernel_rfl) rfl rfl (Nat.le_of_ble_eq_true rfl) rfl ?_
  refine ⟨_, eqN h9, ?_⟩
  refine ⟨_, eqN h12, ?_⟩
  refine ⟨_, eqN h13, ?_⟩
  refine ⟨_, eqN h1, ?_⟩
  refine ⟨_, eqT h, ?_⟩
  exact Ret.mk _ rfl rfl rfl
 ·rw [if_neg (by omega), if_neg (by omega), if_pos h] at hr; subst hr
  refine Ok.enter hE Tryz.func75 rfl (by decide +kernel) (by kernel_rfl) rfl rfl (Nat.le_of_ble_eq_true rfl) rfl ?_
  refine ⟨_, eqN h9, ?_⟩
  refine ⟨_, eqN h12, ?_⟩
  refine ⟨_, eqN h13, ?_⟩
  refine ⟨_, eqN h1, ?_⟩
  refine ⟨_, eqN h5, ?_⟩
  refine ⟨_, eqT h, ?_⟩
  exact Ret.mk _ rfl rfl rfl
 ·rw [if_neg (by omega), if_neg (by omega), if_neg h6, if_pos h] at hr; subst hr
  refine Ok.enter hE Tryz.func75 rfl (by decide +kernel) (by kernel_rfl) rfl rfl (Nat.le_of_ble_eq_true rfl) rfl ?_
  refine ⟨_, eqN h9, ?_⟩
  refine ⟨_, eqN h12, ?_⟩
  refine ⟨_, eqN h13, ?_⟩
  refine ⟨_, eqN h1, ?_⟩
  refine ⟨_, eqN h5, ?_⟩
  refine ⟨_, eqN h6, ?_⟩
  refine ⟨_, eqT h, ?_⟩
  exact Ret.mk _ rfl rfl rfl
 ·rw [if_neg (by omega), if_neg (by omega), if_neg h6, if_neg h] at hr; subst hr
  refine Ok.enter hE Tryz.func75 rfl (by decide +kernel) (by kernel_rfl) rfl rfl (Nat.le_of_ble_eq_true rfl) rfl ?_
  refine ⟨_, eqN h9, ?_⟩
  refine ⟨_, eqN h12, ?_⟩
  refine ⟨_, eqN h13, ?_⟩
  refine ⟨_, eqN h1, ?_⟩
  refine ⟨_, eqN h5, ?_⟩
  refine ⟨_, eqN h6, ?_⟩
  refine ⟨_, eqN h, ?_⟩
  exact Ret.mk _ rfl rfl rfl
def rightI (x : Ins) (i len : Int) : Bool :=
 if x.op < 1 ∨ x.op > 13 ∨ x.n < (endsF x.op i len).1 ∨ x.n > (endsF x.op i len).2 then false else if x.op = 4 then isName x.nm else x.nm.toList == (⟨#[]⟩ : ByteArray).toList
def rightL : List Ins → Nat → Int → Bool
 | [], _, _ => true
 | x :: l, i, len => rightI x i len && rightL l (i + 1) len
def rightF (l : List Ins) : Bool := rightL l 0 l.length && decide (l.length ≤ 5000)
theorem name_ne {nm : ByteArray} (h : isName nm = true) : (nm.toList == (⟨#[]⟩ : ByteArray).toList) = false := by
 unfold isName at h
 rw [toList_data, toList_data]
 cases hl : nm.data.toList with
 | nil => rw [hl] at h; cases h
 | cons c l => rfl
theorem Right10_ok (l : List Ins) (hl : l.length ≤ 4611686018427387000) : Ok E 41 [] [.c (.row (rowI l))] (pB (rightF l)) [] := by
 have hrl := rowI_len l
 obtain ⟨v, hv⟩ : ∃ v, rightF l = v := ⟨_, rfl⟩
 rw [hv]
 unfold rightF at hv
 refine Ok.enter hE Tryz.func41 rfl (by decide +kernel) (by kernel_rfl) rfl rfl (Nat.le_of_ble_eq_true rfl) rfl ?_
 refine Loop.cut (α := Nat) (fun j => j ≤ l.length ∧ (rightL (l.drop j) j l.length && decide (l.length ≤ 5000)) = v) (fun j => [(0, .c (.row (rowI l))), (8, .c (.row (rowI l))), (9, pI l.length), (10, pI j)]) (fun _ => []) (fun _ => []) (fun j => l.length - j) 0 0 (fun _ => rfl) (fun _ => rfl) (fun _ => rfl) ⟨Nat.zero_le _, hv⟩ ⟨⟨rfl, rfl, by rw [← hrl]; rfl, rfl, trivial⟩, rfl, rfl⟩ ?_
 rintro j f ⟨hj, hjv⟩
 by_cases hjl : j < l.length
 rotate_left
 ·rw [List.drop_of_length_le (by omega), rightL, Bool.true_and] at hjv
  refine ⟨_, ltN (by omega), ?_⟩
  refine ⟨_, leV (c := v) (by rw [hrl, ← hjv]; exact decide_eq_decide.2 (by omega)), ?_⟩
  exact Ret.mk _ rfl rfl rfl
 obtain ⟨x, hx⟩ : ∃ x, l[j]? = some x := ⟨_, List.getElem?_eq_getElem hjl⟩
 have hd : l.drop j = x :: l.drop (j + 1) := by
  rw [List.drop_eq_getElem_cons hjl]
  rw [List.getElem?_eq_getElem hjl] at hx
  injection hx with hx
  rw [hx]
 rw [hd, rightL] at hjv
 have hE2 := ends_ok x j ((rowI l).length) (by omega) (by omega)
 have hN := Name_ok x.nm
 obtain ⟨op, n, nm⟩ := x
 obtain ⟨⟨lo, hi⟩, hlh⟩ : ∃ p, endsF op j l.length = p := ⟨_, rfl⟩
 have hI : rightI ⟨op, n, nm⟩ j l.length = if op < 1 ∨ op > 13 ∨ n < lo ∨ n > hi then false else if op = 4 then isName nm else nm.toList == (⟨#[]⟩ : ByteArray).toList := by
  unfold rightI
  dsimp only
  rw [hlh]
 rw [show endsF (⟨op, n, nm⟩ : Ins).op j ((rowI l).length) = (lo, hi) by rw [hrl]; exact hlh] at hE2
 rw [hI] at hjv
 refine ⟨_, ltT (by omega), ?_⟩
 refine ⟨_, idxV (j := j) (rowI_get hx) rfl rfl rfl rfl, ?_⟩
 refine ⟨_, CallR.mk1 hE2 rfl rfl, ?_⟩
 have hc : op < 1 ∨ (¬ op < 1 ∧ op > 13) ∨ (¬ op < 1 ∧ ¬ op > 13 ∧ n < lo) ∨ (¬ op < 1 ∧ ¬ op > 13 ∧ ¬ n < lo ∧ n > hi) ∨ (¬ op < 1 ∧ ¬ op > 13 ∧ ¬ n < lo ∧ ¬ n > hi) := by omega
 rcases hc with h | ⟨c1, h⟩ | ⟨c1, c2, h⟩ | ⟨c1, c2, c3, h⟩ | ⟨c1, c2, c3, c4⟩
 ·rw [if_pos (by omega), Bool.false_and, Bool.false_and] at hjv
  refine ⟨_, ltT h, ?_⟩
  exact Ret.mk _ rfl (congrArg (fun b : Bool => pB b) hjv) rfl
 ·rw [if_pos (by omega), Bool.false_and, Bool.false_and] at hjv
  refine ⟨_, ltN c1, ?_⟩
  refine ⟨_, gtT h, ?_⟩
  exact Ret.mk _ rfl (congrArg (fun b : Bool => pB b) hjv) rfl
 ·rw [if_pos (by omega), Bool.false_and, Bool.false_and] at hjv
  refine ⟨_, ltN c1, ?_⟩
  refine ⟨_, gtN c2, ?_⟩
  refine ⟨_, ltT h, ?_⟩
  exact Ret.mk _ rfl (congrArg (fun b : Bool => pB b) hjv) rfl
 ·rw [if_pos (by omega), Bool.false_and, Bool.false_and] at hjv
  refine ⟨_, ltN c1, ?_⟩
  refine ⟨_, gtN c2, ?_⟩
  refine ⟨_, ltN c3, ?_⟩
  refine ⟨_, gtT h, ?_⟩
  exact Ret.mk _ rfl (congrArg (fun b : Bool => pB b) hjv) rfl
 rw [if_neg (by omega)] at hjv
 refine ⟨_, ltN c1, ?_⟩
 refine ⟨_, gtN c2, ?_⟩
 refine ⟨_, ltN c3, ?_⟩
 refine ⟨_, gtN c4, ?_⟩
 have hop : op = 4 ∨ op ≠ 4 := by omega
 rcases hop with h4 | h4
 ·rw [if_pos h4] at hjv
  refine ⟨_, eqT h4, ?_⟩
  rcases Bool.eq_false_or_eq_true (isName nm) with hn | hn
  ·rw [hn, Bool.true_and] at hjv
   rw [hn] at hN
   refine ⟨_, CallR.mk1 hN rfl rfl, ?_⟩
   refine ⟨_, neBN rfl, ?_⟩
   refine ⟨_, addV rfl (by omega) (by omega), ?_⟩
   exact ⟨j + 1, ⟨hjl, hjv⟩, by show l.length - (j + 1) < l.length - j; omega, ⟨rfl, rfl, rfl, rfl, trivial⟩, ⟨_, rfl⟩, rfl⟩
  ·rw [hn, Bool.false_and, Bool.false_and] at hjv
   rw [hn] at hN
   refine ⟨_, CallR.mk1 hN rfl rfl, ?_⟩
   refine ⟨_, neBT rfl, ?_⟩
   exact Ret.mk _ rfl (congrArg (fun b : Bool => pB b) hjv) rfl
 ·rw [if_neg h4] at hjv
  refine ⟨_, eqN h4, ?_⟩
  rcases Bool.eq_false_or_eq_true (isName nm) with hn | hn
  ·rw [name_ne hn, Bool.false_and, Bool.false_and] at hjv
   rw [hn] at hN
   refine ⟨_, CallR.mk1 hN rfl rfl, ?_⟩
   refine ⟨_, neBT rfl, ?_⟩
   exact Ret.mk _ rfl (congrArg (fun b : Bool => pB b) hjv) rfl
  ·rw [hn] at hN
   rcases Bool.eq_false_or_eq_true (nm.toList == (⟨#[]⟩ : ByteArray).toList) with he | he
   ·rw [he, Bool.true_and] at hjv
    refine ⟨_, CallR.mk1 hN rfl rfl, ?_⟩
    refine ⟨_, neBN rfl, ?_⟩
    refine ⟨_, strNeV (c := false) (by rw [he]; rfl), ?_⟩
    refine ⟨_, addV rfl (by omega) (by omega), ?_⟩
    exact ⟨j + 1, ⟨hjl, hjv⟩, by show l.length - (j + 1) < l.length - j; omega, ⟨rfl, rfl, rfl, rfl, trivial⟩, ⟨_, rfl⟩, rfl⟩
   ·rw [he, Bool.false_and, Bool.false_and] at hjv
    refine ⟨_, CallR.mk1 hN rfl rfl, ?_⟩
    refine ⟨_, neBN rfl, ?_⟩
    refine ⟨_, strNeV (c := true) (by rw [he]; rfl), ?_⟩
    exact Ret.mk _ rfl (congrArg (fun b : Bool => pB b) hjv) rfl
end Go.Proofs.YtgpkppohfodhdaaGreatDoor.Pm
namespace Go.Proofs.YtgpkppohfodhdaaGreatDoor.Pm
open Go Go.RowKit Go.Proofs.YtgpkppohfodhdaaGreatDoor.Pl
set_option linter.unusedVariables false
set_option linter.unusedSimpArgs false
set_option maxHeartbeats 1000000
end Go.Proofs.YtgpkppohfodhdaaGreatDoor.Pm
namespace Go.Proofs.YtgpkppohfodhdaaGreatDoor.Pm
open Go Go.RowKit Go.Proofs.YtgpkppohfodhdaaGreatDoor.Pl
set_option linter.unusedVariables false
set_option linter.unusedSimpArgs false
set_option maxHeartbeats 1000000
end Go.Proofs.YtgpkppohfodhdaaGreatDoor.Pm
namespace Go.Proofs.YtgpkppohfodhdaaGreatDoor.Pm
open Go Go.RowKit Go.Proofs.YtgpkppohfodhdaaGreatDoor.Pl
open Go.Proofs.YtgpkppohfodhdaaGreatDoor.Q (rngE rngA)
set_option linter.unusedVariables false
set_option linter.unusedSimpArgs false
set_option maxHeartbeats 1000000
def opsL : List Int := [0, 2, 3, 4, 1, 5, 6, 7, 8, 9, 0, 10, 11]
def opF' (k : Int) : Int := opsL.getD k.toNat 0
mutual
def codeF : Ex → Int → List Ins
 | ⟨k, n, nm, l⟩, p =>
  if k = 9 then match l with
   | [x, y] =>
    let a := codeF x p
    let b := codeF y (p + a.length + 1)
    a ++ (⟨9, p + a.length + 1 + b.length, ⟨#[]⟩⟩ :: b)
   | _ => []
  else if k = 10 then match l with
   | [x, y, z] =>
    let c := codeF x p
    let a := codeF y (p + c.length + 1)
    let b := codeF z (p + c.length + a.length + 2)
    c ++ (⟨12, p + c.length + a.length + 2, ⟨#[]⟩⟩ :: (a ++ (⟨13, p + c.length + a.length + 2 + b.length, ⟨#[]⟩⟩ :: b)))
   | _ => []
  else codesF l p ++ [⟨opF' k, n, nm⟩]
def codesF : List Ex → Int → List Ins
 | [], _ => []
 | x :: l, p => codeF x p ++ codesF l (p + (codeF x p).length)
end
mutual
def manyF : Ex → Int → Int
 | ⟨k, _, _, l⟩, q => (if k = q then 1 else 0) + manyL l q
def manyL : List Ex → Int → Int
 | [], _ => 0
 | x :: l, q => manyF x q + manyL l q
end
end Go.Proofs.YtgpkppohfodhdaaGreatDoor.Pm
namespace Go.Proofs.YtgpkppohfodhdaaGreatDoor.Pm
open Go Go.RowKit Go.Proofs.YtgpkppohfodhdaaGreatDoor.Pl
open Go.Proofs.YtgpkppohfodhdaaGreatDoor.Q (rngE rngA txtE txtA sameE sameA formT wordL moreL sepA)
set_option linter.unusedVariables false
set_option linter.unusedSimpArgs false
theorem codeF_leaf (k n : Int) (nm : ByteArray) (l : List Ex) (p : Int) (h9 : k ≠ 9) (h10 : k ≠ 10) : codeF ⟨k, n, nm, l⟩ p = codesF l p ++ [⟨opF' k, n, nm⟩] := by
 rw [codeF.eq_def]
 dsimp only
 rw [if_neg h9, if_neg h10]
theorem fine_forms {d : Int} {c : Bool} {x : Ex} (h : isFine d c x = true) :
  (∃ a b, x = ⟨9, 0, x.f2, [a, b]⟩ ∧ x.f2.toList = (⟨#[]⟩ : ByteArray).toList ∧ isFine (d - 1) false a = true ∧ isFine (d - 1) false b = true) ∨
  (∃ a b e, x = ⟨10, 0, x.f2, [a, b, e]⟩ ∧ x.f2.toList = (⟨#[]⟩ : ByteArray).toList ∧ isFine (d - 1) true a = true ∧ isFine (d - 1) false b = true ∧ isFine (d - 1) false e = true) ∨
  (x.f0 ≠ 9 ∧ x.f0 ≠ 10 ∧ fineL (d - 1) false x.f3 = true) := by
 obtain ⟨k, n, nm, l⟩ := x
 obtain ⟨w, m, a, hF, h1, h2, h3, h4, h5, h6, h7, h8, h9⟩ := fine_open h
 by_cases k9 : k = 9
 ·subst k9
  obtain ⟨rfl, rfl⟩ : m = 0 ∧ a = 2 := by simp [formT] at hF; omega
  match l, h6, h9 with
  | [x, y], _, h9 =>
   left
   simp only [fineL, Bool.and_eq_true] at h9
   refine ⟨x, y, ?_, by simpa [isNamed] using h8, h9.1, h9.2.1⟩
   rw [show n = 0 by omega]
 ·by_cases k10 : k = 10
  ·subst k10
   obtain ⟨rfl, rfl⟩ : m = 0 ∧ a = 3 := by simp [formT] at hF; omega
   match l, h6, h9 with
   | [x, y, z], _, h9 =>
    right; left
    simp only [fineL, Bool.and_eq_true] at h9
    refine ⟨x, y, z, ?_, by simpa [isNamed] using h8, h9.1, h9.2.1, h9.2.2.1⟩
    rw [show n = 0 by omega]
  ·right; right
   refine ⟨k9, k10, ?_⟩
   rw [show decide (k = 10) = false from decide_eq_false k10] at h9
   exact h9
mutual
theorem codeF_len : ∀ (x : Ex) (d : Int) (c : Bool) (p : Int), isFine d c x = true → ((codeF x p).length : Int) = size x + manyF x 10
 | ⟨k, n, nm, l⟩, d, c, p, h => by
  rcases fine_forms h with ⟨a, b, e, hn, ha, hb⟩ | ⟨a, b, e, ee, hn, ha, hb, he⟩ | ⟨h9, h10, hl⟩
  ·injection e with e1 e2 e3 e4
   subst e1; subst e2; subst e4
   have i1 := codeF_len a (d - 1) false p ha
   have i2 := codeF_len b (d - 1) false (p + (codeF a p).length + 1) hb
   simp [codeF, size, sizeL, manyF, manyL]
   omega
  ·injection ee with e1 e2 e3 e4
   subst e1; subst e2; subst e4
   have i1 := codeF_len a (d - 1) true p ha
   have i2 := codeF_len b (d - 1) false (p + (codeF a p).length + 1) hb
   have i3 := codeF_len e (d - 1) false (p + (codeF a p).length + (codeF b (p + (codeF a p).length + 1)).length + 2) he
   simp [codeF, size, sizeL, manyF, manyL]
   omega
  ·have h9 : k ≠ 9 := h9
   have h10 : k ≠ 10 := h10
   have i := codesF_len l (d - 1) false p hl
   rw [codeF_leaf _ _ _ _ _ h9 h10, size, manyF, if_neg h10]
   simp
   omega
theorem codesF_len : ∀ (l : List Ex) (d : Int) (c : Bool) (p : Int), fineL d c l = true → ((codesF l p).length : Int) = sizeL l + manyL l 10
 | [], d, c, p, h => by simp [codesF, sizeL, manyL]
 | x :: l, d, c, p, h => by
  rw [fineL, Bool.and_eq_true] at h
  have i1 := codeF_len x d c p h.1
  have i2 := codesF_len l d false (p + (codeF x p).length) h.2
  simp only [codesF, sizeL, manyL, List.length_append]
  omega
end
mutual
theorem many_size : ∀ (x : Ex), 0 ≤ manyF x 10 ∧ manyF x 10 ≤ size x
 | ⟨k, n, nm, l⟩ => by
  have := many_sizeL l
  rw [manyF, size]
  split <;> omega
theorem many_sizeL : ∀ (l : List Ex), 0 ≤ manyL l 10 ∧ manyL l 10 ≤ sizeL l
 | [] => by simp [manyL, sizeL]
 | x :: l => by
  have := many_size x
  have := many_sizeL l
  rw [manyL, sizeL]
  omega
end
theorem codeF_small {x : Ex} {d : Int} {c : Bool} (p : Int) (h : isFine d c x = true) (hs : size x ≤ 2000) : (codeF x p).length ≤ 4000 := by
 have := codeF_len x d c p h
 have := many_size x
 omega
def isLead (k : Int) : Bool := decide (k = 9 ∨ k = 12 ∨ k = 13)
theorem opF'_lead (k : Int) (h : k ≠ 9) : isLead (opF' k) = false := by
 unfold opF'
 by_cases h2 : k.toNat < 13
 ·obtain ⟨j, hj⟩ : ∃ j, k.toNat = j := ⟨_, rfl⟩
  rw [hj]
  have : j ≠ 9 := by omega
  have : j = 0 ∨ j = 1 ∨ j = 2 ∨ j = 3 ∨ j = 4 ∨ j = 5 ∨ j = 6 ∨ j = 7 ∨ j = 8 ∨ j = 10 ∨ j = 11 ∨ j = 12 := by omega
  rcases this with rfl | rfl | rfl | rfl | rfl | rfl | rfl | rfl | rfl | rfl | rfl | rfl <;> rfl
 ·rw [List.getD_eq_getElem?_getD, List.getElem?_eq_none (by show opsL.length ≤ _; simp only [opsL, List.length_cons, List.length_nil]; omega)]; rfl
def mv (d : Int) (x : Ins) : Ins := if isLead x.op then ⟨x.op, x.n + d, x.nm⟩ else x
mutual
theorem codeF_mv : ∀ (x : Ex) (d : Int) (c : Bool) (p t : Int), isFine d c x = true → codeF x (p + t) = (codeF x p).map (mv t)
 | ⟨k, n, nm, l⟩, d, c, p, t, h => by
  rcases fine_forms h with ⟨a, b, e, hn, ha, hb⟩ | ⟨a, b, e, ee, hn, ha, hb, he⟩ | ⟨h9, h10, hl⟩
  ·injection e with e1 e2 e3 e4
   subst e1; subst e2; subst e4
   have i1 := codeF_mv a (d - 1) false p t ha
   have i2 := codeF_mv b (d - 1) false (p + (codeF a p).length + 1) t hb
   simp only [codeF, if_true, i1, List.length_map]
   rw [show p + t + ((codeF a p).length : Int) + 1 = p + (codeF a p).length + 1 + t by omega, i2]
   simp [mv, isLead]
   omega
  ·injection ee with e1 e2 e3 e4
   subst e1; subst e2; subst e4
   have i1 := codeF_mv a (d - 1) true p t ha
   have i2 := codeF_mv b (d - 1) false (p + (codeF a p).length + 1) t hb
   have i3 := codeF_mv e (d - 1) false (p + (codeF a p).length + (codeF b (p + (codeF a p).length + 1)).length + 2) t he
   simp only [codeF, if_true, i1, List.length_map]
   rw [show p + t + ((codeF a p).length : Int) + 1 = p + (codeF a p).length + 1 + t by omega, i2]
   simp only [List.length_map]
   rw [show p + t + ((codeF a p).length : Int) + ((codeF b (p + (codeF a p).length + 1)).length : Int) + 2 = p + (codeF a p).length + (codeF b (p + (codeF a p).length + 1)).length + 2 + t by omega, i3]
   simp [mv, isLead]
   omega
  ·have h9 : k ≠ 9 := h9
   have h10 : k ≠ 10 := h10
   have i := codesF_mv l (d - 1) false p t hl
   rw [codeF_leaf _ _ _ _ _ h9 h10, codeF_leaf _ _ _ _ _ h9 h10, i, List.map_append]
   simp [mv, opF'_lead k h9]
theorem codesF_mv : ∀ (l : List Ex) (d : Int) (c : Bool) (p t : Int), fineL d c l = true → codesF l (p + t) = (codesF l p).map (mv t)
 | [], d, c, p, t, h => by simp [codesF]
 | x :: l, d, c, p, t, h => by
  rw [fineL, Bool.and_eq_true] at h
  have i1 := codeF_mv x d c p t h.1
  have i2 := codesF_mv l d false (p + (codeF x p).length) t h.2
  simp only [codesF, i1, List.length_map, List.map_append]
  rw [show p + t + ((codeF x p).length : Int) = p + (codeF x p).length + t by omega, i2]
end
theorem rightL_app : ∀ (l m : List Ins) (i : Nat) (z : Int), rightL (l ++ m) i z = (rightL l i z && rightL m (i + l.length) z)
 | [], m, i, z => by simp [rightL]
 | x :: l, m, i, z => by
  rw [List.cons_append, rightL, rightL, rightL_app l m (i + 1) z, Bool.and_assoc, List.length_cons, show i + 1 + l.length = i + (l.length + 1) by omega]
theorem right_lead {k n : Int} {nm : ByteArray} {i : Nat} {z : Int} (hk : k = 9 ∨ k = 12 ∨ k = 13) (h1 : (i : Int) + 1 ≤ n) (h2 : n ≤ z) (hn : nm.toList = (⟨#[]⟩ : ByteArray).toList) : rightI ⟨k, n, nm⟩ i z = true := by
 unfold rightI endsF
 dsimp only
 rw [if_pos hk, if_neg (by dsimp only; omega), if_neg (by omega), hn]
 simp
theorem right_leaf {k n : Int} {nm : ByteArray} {w : List UInt8} {m a : Int} {i : Nat} {z : Int} (hF : formT k = some (w, m, a)) (h9 : k ≠ 9) (h10 : k ≠ 10) (h0 : 0 ≤ n) (h1 : n ≤ m) (hn : isNamed k nm = true) : rightI ⟨opF' k, n, nm⟩ i z = true := by
 unfold isNamed at hn
 rcases kinds_of k w m a hF with rfl | rfl | rfl | rfl | rfl | rfl | rfl | rfl | rfl | rfl | rfl | rfl <;> first | exact absurd rfl h9 | exact absurd rfl h10 | skip
 all_goals
  injection hF with hF; injection hF with q1 q2; injection q2 with q2 q3
  subst q2
  simp [rightI, endsF, opF', opsL] at hn ⊢
  refine ⟨by omega, ?_⟩
  simpa using hn
mutual
theorem codeF_right : ∀ (x : Ex) (d : Int) (c : Bool) (p : Nat) (z : Int), isFine d c x = true → (p : Int) + (codeF x p).length ≤ z → rightL (codeF x p) p z = true
 | ⟨k, n, nm, l⟩, d, c, p, z, h, hz => by
  rcases fine_forms h with ⟨a, b, e, hn, ha, hb⟩ | ⟨a, b, e, ee, hn, ha, hb, he⟩ | ⟨h9, h10, hl⟩
  ·injection e with e1 e2 e3 e4
   subst e1; subst e2; subst e4
   simp only [codeF, if_true, List.length_append, List.length_cons] at hz ⊢
   have i1 := codeF_right a (d - 1) false p z ha (by omega)
   have i2 := codeF_right b (d - 1) false (p + (codeF a p).length + 1) z hb (by push_cast at hz ⊢; omega)
   push_cast at i2
   rw [rightL_app, i1, rightL, right_lead (.inl rfl) (by omega) (by omega) rfl, i2]; rfl
  ·injection ee with e1 e2 e3 e4
   subst e1; subst e2; subst e4
   simp only [codeF, if_true, List.length_append, List.length_cons] at hz ⊢
   simp only [show ((10 : Int) = 9) = False by simp, if_false, List.length_append, List.length_cons] at hz ⊢
   obtain ⟨u, hu⟩ : ∃ u, codeF a p = u := ⟨_, rfl⟩
   rw [hu] at hz ⊢
   obtain ⟨v, hv⟩ : ∃ v, codeF b (p + u.length + 1) = v := ⟨_, rfl⟩
   rw [hv] at hz ⊢
   have i1 := codeF_right a (d - 1) true p z ha (by rw [hu]; omega)
   have i2 := codeF_right b (d - 1) false (p + u.length + 1) z hb (by push_cast; rw [hv]; push_cast at hz; omega)
   have hc : ((p + u.length + v.length + 2 : Nat) : Int) = (p : Int) + u.length + v.length + 2 := by omega
   have i3 := codeF_right e (d - 1) false (p + u.length + v.length + 2) z he (by rw [hc]; omega)
   rw [hc] at i3
   push_cast at i2
   rw [hu] at i1
   rw [hv] at i2
   rw [rightL_app, i1, rightL, right_lead (.inr (.inl rfl)) (by omega) (by push_cast at hz; omega) rfl, rightL_app, i2, rightL, right_lead (.inr (.inr rfl)) (by push_cast; omega) (by push_cast at hz; omega) rfl]
   simp only [Bool.true_and]
   rw [show p + u.length + 1 + v.length + 1 = p + u.length + v.length + 2 by omega, i3]
  ·have h9 : k ≠ 9 := h9
   have h10 : k ≠ 10 := h10
   rw [codeF_leaf _ _ _ _ _ h9 h10] at hz ⊢
   obtain ⟨w, m, a, hF, h1, h2, h3, h4, h5, h6, h7, h8, -⟩ := fine_open h
   simp only [List.length_append, List.length_cons, List.length_nil] at hz
   rw [rightL_app, codesF_right l (d - 1) false p z hl (by omega), rightL, right_leaf hF h9 h10 h3 h4 h8, rightL]
   rfl
theorem codesF_right : ∀ (l : List Ex) (d : Int) (c : Bool) (p : Nat) (z : Int), fineL d c l = true → (p : Int) + (codesF l p).length ≤ z → rightL (codesF l p) p z = true
 | [], d, c, p, z, h, hz => by simp [codesF, rightL]
 | x :: l, d, c, p, z, h, hz => by
  rw [fineL, Bool.and_eq_true] at h
  simp only [codesF, List.length_append] at hz ⊢
  have i1 := codeF_right x d c p z h.1 (by omega)
  have i2 := codesF_right l d false (p + (codeF x p).length) z h.2 (by push_cast at hz ⊢; omega)
  push_cast at i2
  rw [rightL_app, i1, i2]; rfl
end
theorem compiled_right {x : Ex} (h : isFine 32 false x = true) (hs : size x ≤ 2000) : rightF (codeF x 0) = true := by
 have e := codeF_right x 32 false 0 _ h (Int.le_refl _)
 rw [show ((0 : Nat) : Int) = 0 from rfl, show (0 : Int) + ((codeF x 0).length : Int) = ((codeF x 0).length : Int) by omega] at e
 unfold rightF
 rw [e, decide_eq_true (by have := codeF_small 0 h hs; omega)]
 rfl
inductive Item where
 | t (x : Ex)
 | els (a : Ex) (n : Int)
 | unl (c : Ex)
 | jmp (c a : Ex) (n : Int)
theorem right_cut {x : Ins} {i : Nat} {z z' : Int} (h : rightI x i z = true) : rightI x i z' = (!isLead x.op || decide (x.n ≤ z')) := by
 obtain ⟨op, n, nm⟩ := x
 unfold rightI endsF isLead at *
 dsimp only at h ⊢
 by_cases hl : op = 9 ∨ op = 12 ∨ op = 13
 ·rw [if_pos hl] at h ⊢
  rw [decide_eq_true hl]
  dsimp only at h ⊢
  by_cases hz : n ≤ z'
  ·rw [decide_eq_true hz]
   by_cases hc : op < 1 ∨ op > 13 ∨ n < (i : Int) + 1 ∨ n > z
   ·rw [if_pos hc] at h; exact absurd h (by simp)
   ·rw [if_neg hc] at h
    rw [if_neg (by omega), h]; rfl
  ·rw [if_pos (by omega), decide_eq_false hz]; rfl
 ·rw [if_neg hl] at h ⊢
  rw [decide_eq_false hl, h]; rfl
theorem rightL_cut : ∀ (l : List Ins) (i : Nat) (z z' : Int), rightL l i z = true → rightL l i z' = l.all fun x => !isLead x.op || decide (x.n ≤ z')
 | [], _, _, _, _ => rfl
 | x :: l, i, z, z', h => by
  rw [rightL, Bool.and_eq_true] at h
  rw [rightL, List.all_cons, right_cut h.1, rightL_cut l (i + 1) z z' h.2]
theorem right_at : ∀ (l : List Ins) (i : Nat) (z : Int), rightL l i z = true → ∀ (j : Nat) (x : Ins), l[j]? = some x → rightI x (i + j : Nat) z = true
 | [], _, _, _, j, x, h => by simp at h
 | y :: l, i, z, h, 0, x, hx => by
  rw [rightL, Bool.and_eq_true] at h
  simp at hx; subst hx
  exact h.1
 | y :: l, i, z, h, j + 1, x, hx => by
  rw [rightL, Bool.and_eq_true] at h
  have := right_at l (i + 1) z h.2 j x (by simpa using hx)
  rwa [show i + 1 + j = i + (j + 1) by omega] at this
theorem lead_at {x : Ins} {i : Nat} {z : Int} (h : rightI x i z = true) (hl : isLead x.op = true) : (i : Int) < x.n ∧ x.n ≤ z := by
 obtain ⟨op, n, nm⟩ := x
 unfold rightI endsF isLead at *
 dsimp only at h hl ⊢
 rw [if_pos (of_decide_eq_true hl)] at h
 dsimp only at h
 by_cases hc : op < 1 ∨ op > 13 ∨ n < (i : Int) + 1 ∨ n > z
 ·rw [if_pos hc] at h; exact absurd h (by simp)
 ·omega
theorem lead_of {x : Ins} : (x.op = 9 ∨ x.op = 12 ∨ x.op = 13) ↔ isLead x.op = true := by unfold isLead; simp
def hasNum (op : Int) : Bool := decide (op = 1 ∨ op = 5 ∨ op = 6 ∨ op = 9 ∨ op = 10 ∨ op = 12 ∨ op = 13)
theorem right_facts {x : Ins} {i : Nat} {z : Int} (hz : z ≤ 5000) (h : rightI x i z = true) : 1 ≤ x.op ∧ x.op ≤ 13 ∧ 0 ≤ x.n ∧ x.n ≤ 1000000000000 ∧ (hasNum x.op = false → x.n = 0) ∧ (x.op = 4 → isName x.nm = true) ∧ (x.op ≠ 4 → x.nm.toList = (⟨#[]⟩ : ByteArray).toList) := by
 obtain ⟨op, n, nm⟩ := x
 unfold rightI endsF at h
 dsimp only at h ⊢
 by_cases hc : op < 1 ∨ op > 13 ∨ n < (if op = 9 ∨ op = 12 ∨ op = 13 then ((i : Int) + 1, z) else if op = 1 ∨ op = 5 then (0, 1000000000000) else if op = 6 then (0, 100000) else if op = 10 then (0, 1000) else (0, 0)).1 ∨ n > (if op = 9 ∨ op = 12 ∨ op = 13 then ((i : Int) + 1, z) else if op = 1 ∨ op = 5 then (0, 1000000000000) else if op = 6 then (0, 100000) else if op = 10 then (0, 1000) else (0, 0)).2
 ·rw [if_pos hc] at h; exact absurd h (by simp)
 ·rw [if_neg hc] at h
  have h4 : (op = 4 → isName nm = true) ∧ (op ≠ 4 → nm.toList = (⟨#[]⟩ : ByteArray).toList) := by
   constructor
   ·intro h4; rwa [if_pos h4] at h
   ·intro h4; rw [if_neg h4] at h; exact beq_iff_eq.1 h
  unfold hasNum
  refine ⟨by omega, by omega, ?_, ?_, fun hn => ?_, h4.1, h4.2⟩
  ·(repeat' split at hc) <;> dsimp only at hc <;> omega
  ·(repeat' split at hc) <;> dsimp only at hc <;> omega
  ·have := of_decide_eq_false hn
   (repeat' split at hc) <;> dsimp only at hc <;> omega
end Go.Proofs.YtgpkppohfodhdaaGreatDoor.Pm
