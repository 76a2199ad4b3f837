/- Texts that are merged: PrA, PrB, PrC, PrD, PrE, PrF, PrG, PrH, PrI, PrJ, PrK. -/
import Derived.Test.YtkolnkjdcncmpaaGreatDoorPtAll
import Derived.Test.YtkolnkjdcncmpaaGreatDoorLxAll
import Derived.Test.YtkolnkjdcncmpaaGreatDoorPmBll
import Derived.Test.YtkolnkjdcncmpaaGreatDoorPtBll
/- The parser, in the pure machine: what it takes, where it fails. -/
namespace Go.Proofs.YtkolnkjdcncmpaaGreatDoor.Pr
open Go Go.RowKit Go.Proofs.YtkolnkjdcncmpaaGreatDoor.Pm Go.Proofs.YtkolnkjdcncmpaaGreatDoor.Pl
open Go.Proofs.YtkolnkjdcncmpaaGreatDoor.Lx (cellsT pT rowT rowT_len rowT_get)
set_option linter.unusedVariables false
set_option maxHeartbeats 1000000
/-- the tokens that are left, in their box -/
@[reducible] def tkB (l : List Lx.Tok) : List PV := [.c (.row (rowT l))]
@[reducible] def pan (e n : Int) : PV := .ifc 121 [.int .i64 e, .int .i64 n]
theorem rowT_sz (l : List Lx.Tok) : ∀ x ∈ rowT l, x.length = 4 := by
  intro x hx
  unfold rowT at hx
  obtain ⟨y, -, rfl⟩ := List.mem_map.1 hx
  rfl
theorem fail_pan (t : Lx.Tok) (r : List Lx.Tok) (e : Int) : OkP E 108 [tkB (t :: r)] [.ptr 0 0, pI e] (pan e t.place) := by
  refine OkP.enter hE Tryz.func108 rfl (by decide +kernel) (by kernel_rfl) rfl rfl (Nat.le_of_ble_eq_true rfl) rfl ?_
  refine ⟨_, idxV (j := 0) rfl rfl rfl rfl rfl, ?_⟩
  exact Wk.refl _
theorem callFail {t : Lx.Tok} {r : List Lx.Tok} {e : Int} {H : List (List PV)} (hH : H[0]? = some (tkB (t :: r))) : SCallP E 108 H [.ptr 0 0, pI e] (pan e t.place) :=
  SCallP.of [0] (fail_pan t r e) (Hand.of (by simp [getL, hH]) rfl (by simp) rfl rfl) rfl
section
variable {g : FuncId} {t : Lx.Tok} {r : List Lx.Tok} {b : Bool}
/-- a token that may be -/
theorem take0_ok (hg : Ok E g [] [pT t] (pB true) []) (kind : Int) (h : t.kind = kind) (hk : kind ≠ 5) : Ok E 84 [tkB (t :: r)] [.ptr 0 0, pI kind, .c (.fn g)] (pT t) [tkB r] := by
  refine Ok.enter hE Tryz.func84 rfl (by decide +kernel) (by kernel_rfl) rfl rfl (Nat.le_of_ble_eq_true rfl) rfl ?_
  refine ⟨_, idxV (j := 0) rfl rfl rfl rfl rfl, ?_⟩
  refine ⟨_, neN h, ?_⟩
  refine .inl ⟨_, _, SCallR.none hg rfl rfl, ?_⟩
  refine ⟨_, neT hk, ?_⟩
  refine ⟨_, sliceRV 1 (rowT (t :: r)).length rfl rfl rfl rfl (by simp [rowT_len]) (rowT_sz _), ?_⟩
  refine ⟨_, rfl, Wk.refl _, rfl, .cons (d := tkB r) ?_ rfl (.nil _)⟩
  rw [show ([PV.c (.row (((rowT (t :: r)).take (rowT (t :: r)).length).drop 1))] : List PV) = tkB r by rw [List.take_length]; rfl]
  exact WkL.refl _
theorem take0_end (hg : Ok E g [] [pT t] (pB true) []) (h : t.kind = 5) : Ok E 84 [tkB (t :: r)] [.ptr 0 0, pI 5, .c (.fn g)] (pT t) [tkB (t :: r)] := by
  refine Ok.enter hE Tryz.func84 rfl (by decide +kernel) (by kernel_rfl) rfl rfl (Nat.le_of_ble_eq_true rfl) rfl ?_
  refine ⟨_, idxV (j := 0) rfl rfl rfl rfl rfl, ?_⟩
  refine ⟨_, neN h, ?_⟩
  refine .inl ⟨_, _, SCallR.none hg rfl rfl, ?_⟩
  refine ⟨_, neN rfl, ?_⟩
  exact ⟨_, rfl, Wk.refl _, rfl, .cons (WkL.refl _) rfl (.nil _)⟩
theorem take0_kind (kind : Int) (h : t.kind ≠ kind) : OkP E 84 [tkB (t :: r)] [.ptr 0 0, pI kind, .c (.fn g)] (pan 80 t.place) := by
  refine OkP.enter hE Tryz.func84 rfl (by decide +kernel) (by kernel_rfl) rfl rfl (Nat.le_of_ble_eq_true rfl) rfl ?_
  refine ⟨_, idxV (j := 0) rfl rfl rfl rfl rfl, ?_⟩
  refine ⟨_, neT h, ?_⟩
  refine .inr (.inl ⟨_, callFail (r := r) rfl, ?_⟩)
  exact Wk.refl _
theorem take0_not (hg : Ok E g [] [pT t] (pB false) []) (kind : Int) (h : t.kind = kind) : OkP E 84 [tkB (t :: r)] [.ptr 0 0, pI kind, .c (.fn g)] (pan 80 t.place) := by
  refine OkP.enter hE Tryz.func84 rfl (by decide +kernel) (by kernel_rfl) rfl rfl (Nat.le_of_ble_eq_true rfl) rfl ?_
  refine ⟨_, idxV (j := 0) rfl rfl rfl rfl rfl, ?_⟩
  refine ⟨_, neN h, ?_⟩
  refine .inl ⟨_, _, SCallR.none hg rfl rfl, ?_⟩
  refine .inr (.inl ⟨_, callFail (r := r) rfl, ?_⟩)
  exact Wk.refl _
/-! ### the same, asked by a function that holds a variable -/
theorem take1_ok {bx : List PV} (hb : bx.all PV.closed = true) (hg : Ok E g [bx] [pT t, .ptr 0 0] (pB true) [bx]) (kind : Int) (h : t.kind = kind) (hk : kind ≠ 5) : Ok E 84 [tkB (t :: r), bx] [.ptr 0 0, pI kind, .clos g [] [.p 1 0]] (pT t) [tkB r, bx] := by
  refine Ok.enter hE Tryz.func84 rfl (by decide +kernel) (by kernel_rfl) rfl (by simp [hb]; rfl) (Nat.le_of_ble_eq_true rfl) rfl ?_
  refine ⟨_, idxV (j := 0) rfl rfl rfl rfl rfl, ?_⟩
  refine ⟨_, neN h, ?_⟩
  refine .inl ⟨_, _, SCallR.of [1] hg (Hand.of rfl rfl (by simp) (by simp [hb]) rfl) rfl (by simp [hb]) rfl, ?_⟩
  refine ⟨_, neT hk, ?_⟩
  refine ⟨_, sliceRV 1 (rowT (t :: r)).length rfl rfl rfl rfl (by simp [rowT_len]) (rowT_sz _), ?_⟩
  refine ⟨_, rfl, Wk.refl _, rfl, .cons (d := tkB r) ?_ rfl (.cons (WkL.refl _) hb (.nil _))⟩
  rw [show ([PV.c (.row (((rowT (t :: r)).take (rowT (t :: r)).length).drop 1))] : List PV) = tkB r by rw [List.take_length]; rfl]
  exact WkL.refl _
theorem take1_kind {bx : List PV} (hb : bx.all PV.closed = true) (kind : Int) (h : t.kind ≠ kind) : OkP E 84 [tkB (t :: r), bx] [.ptr 0 0, pI kind, .clos g [] [.p 1 0]] (pan 80 t.place) := by
  refine OkP.enter hE Tryz.func84 rfl (by decide +kernel) (by kernel_rfl) rfl (by simp [hb]; rfl) (Nat.le_of_ble_eq_true rfl) rfl ?_
  refine ⟨_, idxV (j := 0) rfl rfl rfl rfl rfl, ?_⟩
  refine ⟨_, neT h, ?_⟩
  refine .inr (.inl ⟨_, callFail (r := r) rfl, ?_⟩)
  exact Wk.refl _
theorem take1_not {bx : List PV} (hb : bx.all PV.closed = true) (hg : Ok E g [bx] [pT t, .ptr 0 0] (pB false) [bx]) (kind : Int) (h : t.kind = kind) : OkP E 84 [tkB (t :: r), bx] [.ptr 0 0, pI kind, .clos g [] [.p 1 0]] (pan 80 t.place) := by
  refine OkP.enter hE Tryz.func84 rfl (by decide +kernel) (by kernel_rfl) rfl (by simp [hb]; rfl) (Nat.le_of_ble_eq_true rfl) rfl ?_
  refine ⟨_, idxV (j := 0) rfl rfl rfl rfl rfl, ?_⟩
  refine ⟨_, neN h, ?_⟩
  refine .inl ⟨_, _, SCallR.of [1] hg (Hand.of rfl rfl (by simp) (by simp [hb]) rfl) rfl (by simp [hb]) rfl, ?_⟩
  refine .inr (.inl ⟨_, callFail (r := r) rfl, ?_⟩)
  exact Wk.refl _
end
end Go.Proofs.YtkolnkjdcncmpaaGreatDoor.Pr

/- The parser, in the pure machine: signs, the kind that begins. -/
namespace Go.Proofs.YtkolnkjdcncmpaaGreatDoor.Pr
open Go Go.RowKit Go.Proofs.YtkolnkjdcncmpaaGreatDoor.Pm Go.Proofs.YtkolnkjdcncmpaaGreatDoor.Pl
open Go.Proofs.YtkolnkjdcncmpaaGreatDoor.Lx (cellsT pT rowT rowT_len rowT_get)
set_option linter.unusedVariables false
set_option maxHeartbeats 1000000
/-! ### the functions that are asked whether a token may be -/
theorem any_ok (t : Lx.Tok) : Ok E 85 [] [pT t] (pB true) [] := by
  refine Ok.enter hE Tryz.func85 rfl (by decide +kernel) (by kernel_rfl) rfl rfl (Nat.le_of_ble_eq_true rfl) rfl ?_
  exact Ret.mk _ rfl rfl rfl
theorem sign1_ok (t : Lx.Tok) (s : ByteArray) {b : Bool} (hb : (t.text.toList == s.toList) = b) : Ok E 142 [[pS s]] [pT t, .ptr 0 0] (pB b) [[pS s]] := by
  refine Ok.enter hE Tryz.func142 rfl (by decide +kernel) (by kernel_rfl) rfl rfl (Nat.le_of_ble_eq_true rfl) rfl ?_
  refine ⟨_, strEqV (c := b) hb, ?_⟩
  exact ⟨_, rfl, Wk.refl _, rfl, .cons (WkL.refl _) rfl (.nil _)⟩
theorem rest1_ok (t : Lx.Tok) (m : Int) {b : Bool} (hb : decide (t.n ≤ m) = b) : Ok E 143 [[pI m]] [pT t, .ptr 0 0] (pB b) [[pI m]] := by
  refine Ok.enter hE Tryz.func143 rfl (by decide +kernel) (by kernel_rfl) rfl rfl (Nat.le_of_ble_eq_true rfl) rfl ?_
  refine ⟨_, leV (c := b) hb, ?_⟩
  exact ⟨_, rfl, Wk.refl _, rfl, .cons (WkL.refl _) rfl (.nil _)⟩
theorem rest2_ok (t : Lx.Tok) {b : Bool} (hb : Lx.isName t.text = b) : Ok E 144 [] [pT t] (pB b) [] := by
  have hN := Lx.Name_ok t.text
  rw [hb] at hN
  refine Ok.enter hE Tryz.func144 rfl (by decide +kernel) (by kernel_rfl) rfl rfl (Nat.le_of_ble_eq_true rfl) rfl ?_
  refine ⟨_, CallR.mk1 hN rfl rfl, ?_⟩
  exact Ret.mk _ rfl rfl rfl
/-! ### signs -/
section
variable {t : Lx.Tok} {r : List Lx.Tok} {s : ByteArray}
def isSign (t : Lx.Tok) (s : ByteArray) : Bool := (t.kind == 4) && (t.text.toList == s.toList)
theorem sign_ok (h : isSign t s = true) : Ok E 110 [tkB (t :: r)] [.ptr 0 0, pS s] (.tup []) [tkB r] := by
  unfold isSign at h
  rw [Bool.and_eq_true] at h
  have hT := take1_ok (r := r) rfl (sign1_ok t s h.2) 4 (by simpa using h.1) (by decide)
  refine Ok.enter hE Tryz.func110 rfl (by decide +kernel) (by kernel_rfl) rfl rfl (Nat.le_of_ble_eq_true rfl) rfl ?_
  refine .inl ⟨_, _, SCallR.of [0, 1] hT (Hand.of rfl rfl (by simp) rfl rfl) rfl rfl rfl, ?_⟩
  exact ⟨_, rfl, Wk.refl _, rfl, .cons (WkL.refl _) rfl (.nil _)⟩
theorem sign_no (h : isSign t s = false) : OkP E 110 [tkB (t :: r)] [.ptr 0 0, pS s] (pan 80 t.place) := by
  have hT : OkP E 84 [tkB (t :: r), [pS s]] [.ptr 0 0, pI 4, .clos 142 [] [.p 1 0]] (pan 80 t.place) := by
    by_cases hk : t.kind = 4
    · refine take1_not rfl (sign1_ok t s ?_) 4 hk
      unfold isSign at h
      rw [hk] at h
      simpa using h
    · exact take1_kind rfl 4 hk
  refine OkP.enter hE Tryz.func110 rfl (by decide +kernel) (by kernel_rfl) rfl rfl (Nat.le_of_ble_eq_true rfl) rfl ?_
  refine .inr (.inl ⟨_, SCallP.of [0, 1] hT (Hand.of rfl rfl (by simp) rfl rfl) rfl, ?_⟩)
  exact Wk.refl _
end
/-! ### what begins -/
def wordP (k : Int) : ByteArray := (formP k).1
def isWord (t : Lx.Tok) (k : Int) : Bool := (t.kind == 1) && ((t.text.toList == (wordP k).toList) && !((wordP k).toList == (⟨#[]⟩ : ByteArray).toList))
def firstK (cond : Bool) : Int := match cond with
  | true => 11
  | false => 1
def manyK (cond : Bool) : Nat := match cond with
  | true => 2
  | false => 10
def findW (t : Lx.Tok) (lo : Int) : Nat → Option Int
  | 0 => none
  | n + 1 => match isWord t lo with
    | true => some lo
    | false => findW t (lo + 1) n
theorem findW_some {t : Lx.Tok} : ∀ {n : Nat} {lo k : Int}, findW t lo n = some k → ∃ j : Nat, j < n ∧ k = lo + j ∧ (∀ i : Nat, i < j → isWord t (lo + i) = false) ∧ isWord t (lo + j) = true
  | 0, lo, k, h => by simp [findW] at h
  | n + 1, lo, k, h => by
    unfold findW at h
    split at h
    · rename_i hw
      injection h with h; subst h
      exact ⟨0, by omega, by omega, fun i hi => by omega, by simpa using hw⟩
    · rename_i hw
      obtain ⟨j, h1, h2, h3, h4⟩ := findW_some h
      refine ⟨j + 1, by omega, by omega, fun i hi => ?_, by rw [show lo + ((j + 1 : Nat) : Int) = lo + 1 + j by omega]; exact h4⟩
      cases i with
      | zero => simpa using hw
      | succ i => rw [show lo + ((i + 1 : Nat) : Int) = lo + 1 + i by omega]; exact h3 i (by omega)
theorem findW_none {t : Lx.Tok} : ∀ {n : Nat} {lo : Int}, findW t lo n = none → ∀ i : Nat, i < n → isWord t (lo + i) = false
  | 0, lo, h, i, hi => by omega
  | n + 1, lo, h, i, hi => by
    unfold findW at h
    split at h
    · cases h
    · rename_i hw
      cases i with
      | zero => simpa using hw
      | succ i => rw [show lo + ((i + 1 : Nat) : Int) = lo + 1 + i by omega]; exact findW_none h i (by omega)
/-- the kind of what begins here -/
def beginK (t : Lx.Tok) (cond : Bool) : Option Int := if t.kind = 3 ∧ cond = false then some 4 else findW t (firstK cond) (manyK cond)
theorem begins_money {t : Lx.Tok} {r : List Lx.Tok} (h : t.kind = 3) : Ok E 109 [tkB (t :: r)] [.ptr 0 0, pB false] (pI 4) [tkB (t :: r)] := by
  refine Ok.enter hE Tryz.func109 rfl (by decide +kernel) (by kernel_rfl) rfl rfl (Nat.le_of_ble_eq_true rfl) rfl ?_
  refine ⟨_, idxV (j := 0) rfl rfl rfl rfl rfl, ?_⟩
  refine ⟨_, eqT h, ?_⟩
  exact ⟨_, rfl, Wk.refl _, rfl, .cons (WkL.refl _) rfl (.nil _)⟩
theorem isWord_kind {t : Lx.Tok} {k : Int} (h : isWord t k = true) : t.kind = 1 := by
  unfold isWord at h
  rw [Bool.and_eq_true] at h
  simpa using h.1
theorem begins_word {t : Lx.Tok} {r : List Lx.Tok} {cond : Bool} {k : Nat} (hk : k < manyK cond) (hno : ∀ i : Nat, i < k → isWord t (firstK cond + i) = false) (hat : isWord t (firstK cond + k) = true) : Ok E 109 [tkB (t :: r)] [.ptr 0 0, pB cond] (pI (firstK cond + k)) [tkB (t :: r)] := by
  have h1 := isWord_kind hat
  have hw := hat
  unfold isWord at hw
  rw [Bool.and_eq_true, Bool.and_eq_true] at hw
  have loop : ∀ (f : Nat) (lst : Int), lst = firstK cond + manyK cond - 1 → True := fun _ _ _ => trivial
  cases cond
  · refine Ok.enter hE Tryz.func109 rfl (by decide +kernel) (by kernel_rfl) rfl rfl (Nat.le_of_ble_eq_true rfl) rfl ?_
    refine ⟨_, idxV (j := 0) rfl rfl rfl rfl rfl, ?_⟩
    refine ⟨_, eqN (by omega), ?_⟩
    refine Loop.run (α := Nat) (fun j => j ≤ k) (fun j => [(0, .ptr 0 0), (5, .ptr 1 0), (7, pI 10), (8, pI (1 + (j : Int)))]) (fun _ => [tkB (t :: r), [pI t.kind, pS t.text, pI t.n, pI t.place]]) (fun _ => []) (fun j => k - j) 0 (Nat.zero_le _) ⟨⟨rfl, rfl, rfl, rfl, trivial⟩, rfl, rfl⟩ ?_
    intro j f hj
    have hkk : k < 10 := hk
    refine ⟨_, leT (by omega), ?_⟩
    refine ⟨_, CallR.mk1 (Form_ok _) rfl rfl, ?_⟩
    refine ⟨_, eqT h1, ?_⟩
    rcases Nat.lt_or_ge j k with hlt | hge
    · have hn := hno j hlt
      unfold isWord at hn
      rw [h1] at hn
      rw [show ((1 : Int) == 1) = true from rfl, Bool.true_and] at hn
      rcases Bool.eq_false_or_eq_true (t.text.toList == (wordP (firstK false + (j : Int))).toList) with he | he
      · rw [he, Bool.true_and] at hn
        refine ⟨_, strEqV (c := true) he, ?_⟩
        refine ⟨_, strNeV (c := false) hn, ?_⟩
        refine ⟨_, addV (z := 1 + ((j + 1 : Nat) : Int)) (by omega) (by omega) (by omega), ?_⟩
        exact ⟨j + 1, by omega, by omega, ⟨rfl, rfl, rfl, rfl, trivial⟩, rfl, rfl⟩
      · refine ⟨_, strEqV (c := false) he, ?_⟩
        refine ⟨_, addV (z := 1 + ((j + 1 : Nat) : Int)) (by omega) (by omega) (by omega), ?_⟩
        exact ⟨j + 1, by omega, by omega, ⟨rfl, rfl, rfl, rfl, trivial⟩, rfl, rfl⟩
    · have : j = k := by omega
      subst this
      refine ⟨_, strEqV (c := true) hw.2.1, ?_⟩
      refine ⟨_, strNeV (c := true) hw.2.2, ?_⟩
      exact ⟨_, rfl, Wk.refl _, rfl, .cons (WkL.refl _) rfl (.nil _)⟩
  · refine Ok.enter hE Tryz.func109 rfl (by decide +kernel) (by kernel_rfl) rfl rfl (Nat.le_of_ble_eq_true rfl) rfl ?_
    refine ⟨_, idxV (j := 0) rfl rfl rfl rfl rfl, ?_⟩
    refine ⟨_, eqN (by omega), ?_⟩
    refine Loop.run (α := Nat) (fun j => j ≤ k) (fun j => [(0, .ptr 0 0), (5, .ptr 1 0), (7, pI 12), (8, pI (11 + (j : Int)))]) (fun _ => [tkB (t :: r), [pI t.kind, pS t.text, pI t.n, pI t.place]]) (fun _ => []) (fun j => k - j) 0 (Nat.zero_le _) ⟨⟨rfl, rfl, rfl, rfl, trivial⟩, rfl, rfl⟩ ?_
    intro j f hj
    have hkk : k < 2 := hk
    refine ⟨_, leT (by omega), ?_⟩
    refine ⟨_, CallR.mk1 (Form_ok _) rfl rfl, ?_⟩
    refine ⟨_, eqT h1, ?_⟩
    rcases Nat.lt_or_ge j k with hlt | hge
    · have hn := hno j hlt
      unfold isWord at hn
      rw [h1] at hn
      rw [show ((1 : Int) == 1) = true from rfl, Bool.true_and] at hn
      rcases Bool.eq_false_or_eq_true (t.text.toList == (wordP (firstK true + (j : Int))).toList) with he | he
      · rw [he, Bool.true_and] at hn
        refine ⟨_, strEqV (c := true) he, ?_⟩
        refine ⟨_, strNeV (c := false) hn, ?_⟩
        refine ⟨_, addV (z := 11 + ((j + 1 : Nat) : Int)) (by omega) (by omega) (by omega), ?_⟩
        exact ⟨j + 1, by omega, by omega, ⟨rfl, rfl, rfl, rfl, trivial⟩, rfl, rfl⟩
      · refine ⟨_, strEqV (c := false) he, ?_⟩
        refine ⟨_, addV (z := 11 + ((j + 1 : Nat) : Int)) (by omega) (by omega) (by omega), ?_⟩
        exact ⟨j + 1, by omega, by omega, ⟨rfl, rfl, rfl, rfl, trivial⟩, rfl, rfl⟩
    · have : j = k := by omega
      subst this
      refine ⟨_, strEqV (c := true) hw.2.1, ?_⟩
      refine ⟨_, strNeV (c := true) hw.2.2, ?_⟩
      exact ⟨_, rfl, Wk.refl _, rfl, .cons (WkL.refl _) rfl (.nil _)⟩
theorem begins_no {t : Lx.Tok} {r : List Lx.Tok} {cond : Bool} (h3 : ¬ (t.kind = 3 ∧ cond = false)) (hno : ∀ i : Nat, i < manyK cond → isWord t (firstK cond + i) = false) : OkP E 109 [tkB (t :: r)] [.ptr 0 0, pB cond] (pan 80 t.place) := by
  cases cond
  · refine OkP.enter hE Tryz.func109 rfl (by decide +kernel) (by kernel_rfl) rfl rfl (Nat.le_of_ble_eq_true rfl) rfl ?_
    refine ⟨_, idxV (j := 0) rfl rfl rfl rfl rfl, ?_⟩
    refine ⟨_, eqN (by simpa using h3), ?_⟩
    refine Loop.run (α := Nat) (fun j => j ≤ 10) (fun j => [(0, .ptr 0 0), (5, .ptr 1 0), (7, pI 10), (8, pI (1 + (j : Int)))]) (fun _ => [tkB (t :: r), [pI t.kind, pS t.text, pI t.n, pI t.place]]) (fun _ => []) (fun j => 10 - j) 0 (Nat.zero_le _) ⟨⟨rfl, rfl, rfl, rfl, trivial⟩, rfl, rfl⟩ ?_
    intro j f hj
    rcases Nat.lt_or_ge j 10 with hlt | hge
    · have hn := hno j hlt
      refine ⟨_, leT (by omega), ?_⟩
      refine ⟨_, CallR.mk1 (Form_ok _) rfl rfl, ?_⟩
      by_cases h1 : t.kind = 1
      · unfold isWord at hn
        rw [h1] at hn
        rw [show ((1 : Int) == 1) = true from rfl, Bool.true_and] at hn
        refine ⟨_, eqT h1, ?_⟩
        rcases Bool.eq_false_or_eq_true (t.text.toList == (wordP (firstK false + (j : Int))).toList) with he | he
        · rw [he, Bool.true_and] at hn
          refine ⟨_, strEqV (c := true) he, ?_⟩
          refine ⟨_, strNeV (c := false) hn, ?_⟩
          refine ⟨_, addV (z := 1 + ((j + 1 : Nat) : Int)) (by omega) (by omega) (by omega), ?_⟩
          exact ⟨j + 1, by omega, by omega, ⟨rfl, rfl, rfl, rfl, trivial⟩, rfl, rfl⟩
        · refine ⟨_, strEqV (c := false) he, ?_⟩
          refine ⟨_, addV (z := 1 + ((j + 1 : Nat) : Int)) (by omega) (by omega) (by omega), ?_⟩
          exact ⟨j + 1, by omega, by omega, ⟨rfl, rfl, rfl, rfl, trivial⟩, rfl, rfl⟩
      · refine ⟨_, eqN h1, ?_⟩
        refine ⟨_, addV (z := 1 + ((j + 1 : Nat) : Int)) (by omega) (by omega) (by omega), ?_⟩
        exact ⟨j + 1, by omega, by omega, ⟨rfl, rfl, rfl, rfl, trivial⟩, rfl, rfl⟩
    · refine ⟨_, leN (by omega), ?_⟩
      refine .inr (.inl ⟨_, callFail (r := r) rfl, ?_⟩)
      exact Wk.refl _
  · refine OkP.enter hE Tryz.func109 rfl (by decide +kernel) (by kernel_rfl) rfl rfl (Nat.le_of_ble_eq_true rfl) rfl ?_
    refine ⟨_, idxV (j := 0) rfl rfl rfl rfl rfl, ?_⟩
    have key : ∀ b : Bool, (t.kind == 3) = b → True := fun _ _ => trivial
    rcases Bool.eq_false_or_eq_true (t.kind == 3) with h3b | h3b
    · refine ⟨_, eqV (c := true) h3b, ?_⟩
      refine Loop.run (α := Nat) (fun j => j ≤ 2) (fun j => [(0, .ptr 0 0), (5, .ptr 1 0), (7, pI 12), (8, pI (11 + (j : Int)))]) (fun _ => [tkB (t :: r), [pI t.kind, pS t.text, pI t.n, pI t.place]]) (fun _ => []) (fun j => 2 - j) 0 (Nat.zero_le _) ⟨⟨rfl, rfl, rfl, rfl, trivial⟩, rfl, rfl⟩ ?_
      intro j f hj
      rcases Nat.lt_or_ge j 2 with hlt | hge
      · have h1 : t.kind ≠ 1 := by have : t.kind = 3 := by simpa using h3b
                                   omega
        refine ⟨_, leT (by omega), ?_⟩
        refine ⟨_, CallR.mk1 (Form_ok _) rfl rfl, ?_⟩
        refine ⟨_, eqN h1, ?_⟩
        refine ⟨_, addV (z := 11 + ((j + 1 : Nat) : Int)) (by omega) (by omega) (by omega), ?_⟩
        exact ⟨j + 1, by omega, by omega, ⟨rfl, rfl, rfl, rfl, trivial⟩, rfl, rfl⟩
      · refine ⟨_, leN (by omega), ?_⟩
        refine .inr (.inl ⟨_, callFail (r := r) rfl, ?_⟩)
        exact Wk.refl _
    · refine ⟨_, eqV (c := false) h3b, ?_⟩
      refine Loop.run (α := Nat) (fun j => j ≤ 2) (fun j => [(0, .ptr 0 0), (5, .ptr 1 0), (7, pI 12), (8, pI (11 + (j : Int)))]) (fun _ => [tkB (t :: r), [pI t.kind, pS t.text, pI t.n, pI t.place]]) (fun _ => []) (fun j => 2 - j) 0 (Nat.zero_le _) ⟨⟨rfl, rfl, rfl, rfl, trivial⟩, rfl, rfl⟩ ?_
      intro j f hj
      rcases Nat.lt_or_ge j 2 with hlt | hge
      · have hn := hno j hlt
        refine ⟨_, leT (by omega), ?_⟩
        refine ⟨_, CallR.mk1 (Form_ok _) rfl rfl, ?_⟩
        by_cases h1 : t.kind = 1
        · unfold isWord at hn
          rw [h1] at hn
          rw [show ((1 : Int) == 1) = true from rfl, Bool.true_and] at hn
          refine ⟨_, eqT h1, ?_⟩
          rcases Bool.eq_false_or_eq_true (t.text.toList == (wordP (firstK true + (j : Int))).toList) with he | he
          · rw [he, Bool.true_and] at hn
            refine ⟨_, strEqV (c := true) he, ?_⟩
            refine ⟨_, strNeV (c := false) hn, ?_⟩
            refine ⟨_, addV (z := 11 + ((j + 1 : Nat) : Int)) (by omega) (by omega) (by omega), ?_⟩
            exact ⟨j + 1, by omega, by omega, ⟨rfl, rfl, rfl, rfl, trivial⟩, rfl, rfl⟩
          · refine ⟨_, strEqV (c := false) he, ?_⟩
            refine ⟨_, addV (z := 11 + ((j + 1 : Nat) : Int)) (by omega) (by omega) (by omega), ?_⟩
            exact ⟨j + 1, by omega, by omega, ⟨rfl, rfl, rfl, rfl, trivial⟩, rfl, rfl⟩
        · refine ⟨_, eqN h1, ?_⟩
          refine ⟨_, addV (z := 11 + ((j + 1 : Nat) : Int)) (by omega) (by omega) (by omega), ?_⟩
          exact ⟨j + 1, by omega, by omega, ⟨rfl, rfl, rfl, rfl, trivial⟩, rfl, rfl⟩
      · refine ⟨_, leN (by omega), ?_⟩
        refine .inr (.inl ⟨_, callFail (r := r) rfl, ?_⟩)
        exact Wk.refl _
theorem begins_ok {t : Lx.Tok} {r : List Lx.Tok} {cond : Bool} {k : Int} (h : beginK t cond = some k) : Ok E 109 [tkB (t :: r)] [.ptr 0 0, pB cond] (pI k) [tkB (t :: r)] := by
  unfold beginK at h
  split at h
  · rename_i hc
    injection h with h; subst h
    rw [hc.2]
    exact begins_money hc.1
  · obtain ⟨j, h1, rfl, h3, h4⟩ := findW_some h
    exact begins_word h1 h3 h4
theorem begins_pan {t : Lx.Tok} {r : List Lx.Tok} {cond : Bool} (h : beginK t cond = none) : OkP E 109 [tkB (t :: r)] [.ptr 0 0, pB cond] (pan 80 t.place) := by
  unfold beginK at h
  split at h
  · cases h
  · rename_i hc
    exact begins_no hc (findW_none h)
theorem beginK_rng {t : Lx.Tok} {cond : Bool} {k : Int} (h : beginK t cond = some k) : firstK cond ≤ k ∧ k < firstK cond + manyK cond ∧ (k = 4 ∨ isWord t k = true) := by
  unfold beginK at h
  split at h
  · rename_i hc
    injection h with h; subst h
    rw [hc.2]
    exact ⟨by decide, by decide, .inl rfl⟩
  · obtain ⟨j, h1, rfl, h3, h4⟩ := findW_some h
    exact ⟨by omega, by omega, .inr h4⟩
end Go.Proofs.YtkolnkjdcncmpaaGreatDoor.Pr

/- The parser, in plain words; what stands behind the arguments. -/
namespace Go.Proofs.YtkolnkjdcncmpaaGreatDoor.Pr
open Go Go.RowKit Go.Proofs.YtkolnkjdcncmpaaGreatDoor.Pm Go.Proofs.YtkolnkjdcncmpaaGreatDoor.Pl
open Go.Proofs.YtkolnkjdcncmpaaGreatDoor.Lx (cellsT pT rowT rowT_len rowT_get)
set_option linter.unusedVariables false
set_option maxHeartbeats 1000000
/-- what parsing a part tells: that part, and the tokens behind it; or an error and its place -/
inductive PR (α : Type) where
  | ok (a : α) (l : List Lx.Tok)
  | er (e n : Int)
theorem PR.cases {α : Type} (R : PR α) : (∃ a l, R = .ok a l) ∨ ∃ e n, R = .er e n := by
  cases R with
  | ok a l => exact .inl ⟨a, l, rfl⟩
  | er e n => exact .inr ⟨e, n, rfl⟩
theorem PR.inj {α : Type} {a b : α} {l m : List Lx.Tok} (h : PR.ok a l = PR.ok b m) : a = b ∧ l = m := by cases h; exact ⟨rfl, rfl⟩
theorem PR.inje {α : Type} {e n e' n' : Int} (h : (PR.er e n : PR α) = PR.er e' n') : e = e' ∧ n = n' := by cases h; exact ⟨rfl, rfl⟩
def PR.bind {α β : Type} (R : PR α) (f : α → List Lx.Tok → PR β) : PR β := match R with
  | .ok a l => f a l
  | .er e n => .er e n
theorem PR.bind_ok {α β : Type} {a : α} {l : List Lx.Tok} {f : α → List Lx.Tok → PR β} : (PR.ok a l).bind f = f a l := rfl
theorem PR.bind_er {α β : Type} {e n : Int} {f : α → List Lx.Tok → PR β} : (PR.er e n : PR α).bind f = .er e n := rfl
/-- the end stands last -/
def Good : List Lx.Tok → Prop
  | [] => False
  | [t] => t.kind = 5
  | _ :: l => Good l
theorem Good.ne {l : List Lx.Tok} (h : Good l) : ∃ t r, l = t :: r := by
  cases l with
  | nil => exact h.elim
  | cons t r => exact ⟨t, r, rfl⟩
theorem Good.tail {t : Lx.Tok} {r : List Lx.Tok} (h : Good (t :: r)) (hk : t.kind ≠ 5) : Good r := by
  cases r with
  | nil => exact absurd h hk
  | cons u r => exact h
def takeP (kind : Int) (pred : Lx.Tok → Bool) : List Lx.Tok → PR Lx.Tok
  | [] => .er 0 0
  | t :: r => if t.kind = kind ∧ pred t = true then .ok t r else .er 80 t.place
def signP (s : ByteArray) : List Lx.Tok → PR Unit
  | [] => .er 0 0
  | t :: r => if isSign t s = true then .ok () r else .er 80 t.place
def comma : ByteArray := ⟨#[44]⟩
def openS : ByteArray := ⟨#[40]⟩
def shutS : ByteArray := ⟨#[41]⟩
def mostP (k : Int) : Int := (formP k).2.1
/-- the number and the name of an expression, from behind its arguments -/
def restP (k : Int) (l : List Lx.Tok) : PR (Int × ByteArray) :=
  if k = 3 then (takeP 1 (fun t => Lx.isName t.text) l).bind fun t l => .ok (0, t.text) l
  else if k = 5 then (signP comma l).bind fun _ l => (takeP 3 (fun t => decide (t.n ≤ mostP k)) l).bind fun t l => .ok (t.n, e0) l
  else if k = 6 then (signP comma l).bind fun _ l => (takeP 2 (fun t => decide (t.n ≤ mostP k)) l).bind fun t l => .ok (t.n, e0) l
  else if k = 11 then (takeP 2 (fun t => decide (t.n ≤ mostP k)) l).bind fun t l => .ok (t.n, e0) l
  else .ok (0, e0) l
theorem isSign_kind {t : Lx.Tok} {s : ByteArray} (h : isSign t s = true) : t.kind = 4 := by
  unfold isSign at h
  rw [Bool.and_eq_true] at h
  simpa using h.1
theorem takeP_ok {kind : Int} {pred : Lx.Tok → Bool} {l r : List Lx.Tok} {t : Lx.Tok} (h : takeP kind pred l = .ok t r) : l = t :: r ∧ t.kind = kind ∧ pred t = true := by
  cases l with
  | nil => simp [takeP] at h
  | cons u m =>
    rw [takeP] at h
    split at h
    · rename_i hc
      injection h with h1 h2
      subst h1; subst h2
      exact ⟨rfl, hc⟩
    · cases h
theorem takeP_er {kind : Int} {pred : Lx.Tok → Bool} {t : Lx.Tok} {r : List Lx.Tok} {e n : Int} (h : takeP kind pred (t :: r) = .er e n) : e = 80 ∧ n = t.place ∧ (t.kind ≠ kind ∨ (t.kind = kind ∧ pred t = false)) := by
  rw [takeP] at h
  split at h
  · cases h
  · rename_i hc
    injection h with h1 h2
    refine ⟨h1.symm, h2.symm, ?_⟩
    by_cases hk : t.kind = kind
    · exact .inr ⟨hk, by simpa [hk] using hc⟩
    · exact .inl hk
theorem signP_ok {s : ByteArray} {l r : List Lx.Tok} {u : Unit} (h : signP s l = .ok u r) : ∃ t, l = t :: r ∧ isSign t s = true := by
  cases l with
  | nil => simp [signP] at h
  | cons t m =>
    rw [signP] at h
    split at h
    · rename_i hc
      injection h with h1 h2
      subst h2
      exact ⟨t, rfl, hc⟩
    · cases h
theorem signP_er {s : ByteArray} {t : Lx.Tok} {r : List Lx.Tok} {e n : Int} (h : signP s (t :: r) = .er e n) : e = 80 ∧ n = t.place ∧ isSign t s = false := by
  rw [signP] at h
  split at h
  · cases h
  · rename_i hc
    injection h with h1 h2
    exact ⟨h1.symm, h2.symm, by simpa using hc⟩
/-! ### calls of them -/
section
variable {H : List (List PV)} {l : List Lx.Tok}
theorem callSign {s : ByteArray} {r : List Lx.Tok} {u : Unit} (hR : signP s l = .ok u r) (hH : H[0]? = some (tkB l)) : SCallR E 110 H [.ptr 0 0, pS s] (.tup []) (H.set 0 (tkB r)) := by
  obtain ⟨t, rfl, ht⟩ := signP_ok hR
  exact SCallR.one (i := 0) (sign_ok ht) (by simp [getL, hH]) rfl rfl rfl rfl rfl
theorem panSign {s : ByteArray} (hg : Good l) {e n : Int} (hR : signP s l = .er e n) (hH : H[0]? = some (tkB l)) : SCallP E 110 H [.ptr 0 0, pS s] (pan e n) := by
  obtain ⟨t, r, rfl⟩ := hg.ne
  obtain ⟨rfl, rfl, ht⟩ := signP_er hR
  exact SCallP.of [0] (sign_no (r := r) ht) (Hand.of (by simp [getL, hH]) rfl (by simp) rfl rfl) rfl
end
theorem signP_good {s : ByteArray} {l r : List Lx.Tok} {u : Unit} (hg : Good l) (hR : signP s l = .ok u r) : Good r := by
  obtain ⟨t, rfl, ht⟩ := signP_ok hR
  exact hg.tail (by rw [isSign_kind ht]; decide)
theorem takeP_good {kind : Int} {pred : Lx.Tok → Bool} {l r : List Lx.Tok} {t : Lx.Tok} (hk : kind ≠ 5) (hg : Good l) (hR : takeP kind pred l = .ok t r) : Good r := by
  obtain ⟨rfl, h1, -⟩ := takeP_ok hR
  exact hg.tail (by rw [h1]; exact hk)
/-! ### rest -/
@[reducible] def xB (k n : Int) (nm : ByteArray) (a : List (List CV)) : List PV := [pI k, pI n, pS nm, .c (.row a)]
/-- take, asked by 'few' -/
theorem few_ok {kind most : Int} {l r : List Lx.Tok} {t : Lx.Tok} (hk : kind ≠ 5) (h : takeP kind (fun t => decide (t.n ≤ most)) l = .ok t r) : Ok E 84 [tkB l, [pI most]] [.ptr 0 0, pI kind, .clos 143 [] [.p 1 0]] (pT t) [tkB r, [pI most]] := by
  obtain ⟨rfl, h1, h2⟩ := takeP_ok h
  exact take1_ok rfl (rest1_ok t most h2) kind h1 hk
theorem few_no {kind most : Int} {l : List Lx.Tok} (hg : Good l) {e n : Int} (h : takeP kind (fun t => decide (t.n ≤ most)) l = .er e n) : OkP E 84 [tkB l, [pI most]] [.ptr 0 0, pI kind, .clos 143 [] [.p 1 0]] (pan e n) := by
  obtain ⟨t, r, rfl⟩ := hg.ne
  obtain ⟨rfl, rfl, h2 | ⟨h2, h3⟩⟩ := takeP_er h
  · exact take1_kind rfl kind h2
  · exact take1_not rfl (rest1_ok t most h3) kind h2
theorem name_ok {l r : List Lx.Tok} {t : Lx.Tok} (h : takeP 1 (fun t => Lx.isName t.text) l = .ok t r) : Ok E 84 [tkB l] [.ptr 0 0, pI 1, .c (.fn 144)] (pT t) [tkB r] := by
  obtain ⟨rfl, h1, h2⟩ := takeP_ok h
  exact take0_ok (rest2_ok t h2) 1 h1 (by decide)
theorem name_no {l : List Lx.Tok} (hg : Good l) {e n : Int} (h : takeP 1 (fun t => Lx.isName t.text) l = .er e n) : OkP E 84 [tkB l] [.ptr 0 0, pI 1, .c (.fn 144)] (pan e n) := by
  obtain ⟨t, r, rfl⟩ := hg.ne
  obtain ⟨rfl, rfl, h2 | ⟨h2, h3⟩⟩ := takeP_er h
  · exact take0_kind 1 h2
  · exact take0_not (rest2_ok t h3) 1 h2
theorem rest_ok (k : Int) (a : List (List CV)) {l r : List Lx.Tok} (hg : Good l) {n : Int} {nm : ByteArray} (h : restP k l = .ok (n, nm) r) : Ok E 112 [tkB l, xB k 0 e0 a] [.ptr 0 0, .ptr 1 0] (.tup []) [tkB r, xB k n nm a] := by
  obtain ⟨f, hf⟩ : ∃ f, formP k = f := ⟨_, rfl⟩
  have hM : mostP k = f.2.1 := by unfold mostP; rw [hf]
  have hF := Form_ok k
  rw [hf] at hF
  unfold restP at h
  rw [hM] at h
  clear hf hM
  split at h
  · rename_i hk
    subst hk
    rcases PR.cases (takeP 1 (fun t => Lx.isName t.text) l) with ⟨t, m, hT⟩ | ⟨e, p, hT⟩
    · rw [hT, PR.bind_ok] at h
      obtain ⟨h1, h2⟩ := PR.inj h
      obtain ⟨h1, h3⟩ := Prod.mk.inj h1
      subst h1; subst h2; subst h3
      have hN := name_ok hT
      refine Ok.enter hE Tryz.func112 rfl (by decide +kernel) (by kernel_rfl) rfl rfl (Nat.le_of_ble_eq_true rfl) rfl ?_
      refine ⟨_, CallR.mk1 hF rfl rfl, ?_⟩
      refine ⟨_, eqT rfl, ?_⟩
      refine .inl ⟨_, _, SCallR.of [0] hN (Hand.of rfl rfl (by simp) rfl rfl) rfl rfl rfl, ?_⟩
      exact ⟨_, rfl, Wk.refl _, rfl, .cons (WkL.refl _) rfl (.cons (WkL.refl _) rfl (.nil _))⟩
    · rw [hT, PR.bind_er] at h; cases h
  · rename_i hk3
    split at h
    · rename_i hk
      subst hk
      rcases PR.cases (signP comma l) with ⟨u, m, hS⟩ | ⟨e, p, hS⟩
      · rw [hS, PR.bind_ok] at h
        rcases PR.cases (takeP 3 (fun t => decide (t.n ≤ f.2.1)) m) with ⟨t, m2, hT⟩ | ⟨e, p, hT⟩
        · rw [hT, PR.bind_ok] at h
          obtain ⟨h1, h2⟩ := PR.inj h
          obtain ⟨h1, h3⟩ := Prod.mk.inj h1
          subst h1; subst h2; subst h3
          have hN := few_ok (by decide) hT
          refine Ok.enter hE Tryz.func112 rfl (by decide +kernel) (by kernel_rfl) rfl rfl (Nat.le_of_ble_eq_true rfl) rfl ?_
          refine ⟨_, CallR.mk1 hF rfl rfl, ?_⟩
          refine ⟨_, eqN (by decide), ?_⟩
          refine ⟨_, eqT rfl, ?_⟩
          refine .inl ⟨_, _, callSign hS rfl, ?_⟩
          refine .inl ⟨_, _, SCallR.of [0, 2] hN (Hand.of rfl rfl (by simp) rfl rfl) rfl rfl rfl, ?_⟩
          exact ⟨_, rfl, Wk.refl _, rfl, .cons (WkL.refl _) rfl (.cons (WkL.refl _) rfl (.nil _))⟩
        · rw [hT, PR.bind_er] at h; cases h
      · rw [hS, PR.bind_er] at h; cases h
    · rename_i hk5
      split at h
      · rename_i hk
        subst hk
        rcases PR.cases (signP comma l) with ⟨u, m, hS⟩ | ⟨e, p, hS⟩
        · rw [hS, PR.bind_ok] at h
          rcases PR.cases (takeP 2 (fun t => decide (t.n ≤ f.2.1)) m) with ⟨t, m2, hT⟩ | ⟨e, p, hT⟩
          · rw [hT, PR.bind_ok] at h
            obtain ⟨h1, h2⟩ := PR.inj h
            obtain ⟨h1, h3⟩ := Prod.mk.inj h1
            subst h1; subst h2; subst h3
            have hN := few_ok (by decide) hT
            refine Ok.enter hE Tryz.func112 rfl (by decide +kernel) (by kernel_rfl) rfl rfl (Nat.le_of_ble_eq_true rfl) rfl ?_
            refine ⟨_, CallR.mk1 hF rfl rfl, ?_⟩
            refine ⟨_, eqN (by decide), ?_⟩
            refine ⟨_, eqN (by decide), ?_⟩
            refine ⟨_, eqT rfl, ?_⟩
            refine .inl ⟨_, _, callSign hS rfl, ?_⟩
            refine .inl ⟨_, _, SCallR.of [0, 2] hN (Hand.of rfl rfl (by simp) rfl rfl) rfl rfl rfl, ?_⟩
            exact ⟨_, rfl, Wk.refl _, rfl, .cons (WkL.refl _) rfl (.cons (WkL.refl _) rfl (.nil _))⟩
          · rw [hT, PR.bind_er] at h; cases h
        · rw [hS, PR.bind_er] at h; cases h
      · rename_i hk6
        split at h
        · rename_i hk
          subst hk
          rcases PR.cases (takeP 2 (fun t => decide (t.n ≤ f.2.1)) l) with ⟨t, m, hT⟩ | ⟨e, p, hT⟩
          · rw [hT, PR.bind_ok] at h
            obtain ⟨h1, h2⟩ := PR.inj h
            obtain ⟨h1, h3⟩ := Prod.mk.inj h1
            subst h1; subst h2; subst h3
            have hN := few_ok (by decide) hT
            refine Ok.enter hE Tryz.func112 rfl (by decide +kernel) (by kernel_rfl) rfl rfl (Nat.le_of_ble_eq_true rfl) rfl ?_
            refine ⟨_, CallR.mk1 hF rfl rfl, ?_⟩
            refine ⟨_, eqN (by decide), ?_⟩
            refine ⟨_, eqN (by decide), ?_⟩
            refine ⟨_, eqN (by decide), ?_⟩
            refine ⟨_, eqT rfl, ?_⟩
            refine .inl ⟨_, _, SCallR.of [0, 2] hN (Hand.of rfl rfl (by simp) rfl rfl) rfl rfl rfl, ?_⟩
            exact ⟨_, rfl, Wk.refl _, rfl, .cons (WkL.refl _) rfl (.cons (WkL.refl _) rfl (.nil _))⟩
          · rw [hT, PR.bind_er] at h; cases h
        · rename_i hk11
          obtain ⟨h1, h2⟩ := PR.inj h
          obtain ⟨h1, h3⟩ := Prod.mk.inj h1
          subst h1; subst h2; subst h3
          refine Ok.enter hE Tryz.func112 rfl (by decide +kernel) (by kernel_rfl) rfl rfl (Nat.le_of_ble_eq_true rfl) rfl ?_
          refine ⟨_, CallR.mk1 hF rfl rfl, ?_⟩
          refine ⟨_, eqN hk3, ?_⟩
          refine ⟨_, eqN hk5, ?_⟩
          refine ⟨_, eqN hk6, ?_⟩
          refine ⟨_, eqN hk11, ?_⟩
          exact ⟨_, rfl, Wk.refl _, rfl, .cons (WkL.refl _) rfl (.cons (WkL.refl _) rfl (.nil _))⟩
theorem rest_pan (k : Int) (a : List (List CV)) {l : List Lx.Tok} (hg : Good l) {e n : Int} (h : restP k l = .er e n) : OkP E 112 [tkB l, xB k 0 e0 a] [.ptr 0 0, .ptr 1 0] (pan e n) := by
  obtain ⟨f, hf⟩ : ∃ f, formP k = f := ⟨_, rfl⟩
  have hM : mostP k = f.2.1 := by unfold mostP; rw [hf]
  have hF := Form_ok k
  rw [hf] at hF
  unfold restP at h
  rw [hM] at h
  clear hf hM
  split at h
  · rename_i hk
    subst hk
    rcases PR.cases (takeP 1 (fun t => Lx.isName t.text) l) with ⟨t, m, hT⟩ | ⟨e', p, hT⟩
    · rw [hT, PR.bind_ok] at h; cases h
    · rw [hT, PR.bind_er] at h
      obtain ⟨h1, h2⟩ := PR.inje h
      subst h1; subst h2
      have hN := name_no hg hT
      refine OkP.enter hE Tryz.func112 rfl (by decide +kernel) (by kernel_rfl) rfl rfl (Nat.le_of_ble_eq_true rfl) rfl ?_
      refine ⟨_, CallR.mk1 hF rfl rfl, ?_⟩
      refine ⟨_, eqT rfl, ?_⟩
      refine .inr (.inl ⟨_, SCallP.of [0] hN (Hand.of rfl rfl (by simp) rfl rfl) rfl, ?_⟩)
      exact Wk.refl _
  · rename_i hk3
    split at h
    · rename_i hk
      subst hk
      rcases PR.cases (signP comma l) with ⟨u, m, hS⟩ | ⟨e', p, hS⟩
      · rw [hS, PR.bind_ok] at h
        rcases PR.cases (takeP 3 (fun t => decide (t.n ≤ f.2.1)) m) with ⟨t, m2, hT⟩ | ⟨e', p, hT⟩
        · rw [hT, PR.bind_ok] at h; cases h
        · rw [hT, PR.bind_er] at h
          obtain ⟨h1, h2⟩ := PR.inje h
          subst h1; subst h2
          have hN := few_no (signP_good hg hS) hT
          refine OkP.enter hE Tryz.func112 rfl (by decide +kernel) (by kernel_rfl) rfl rfl (Nat.le_of_ble_eq_true rfl) rfl ?_
          refine ⟨_, CallR.mk1 hF rfl rfl, ?_⟩
          refine ⟨_, eqN (by decide), ?_⟩
          refine ⟨_, eqT rfl, ?_⟩
          refine .inl ⟨_, _, callSign hS rfl, ?_⟩
          refine .inr (.inl ⟨_, SCallP.of [0, 2] hN (Hand.of rfl rfl (by simp) rfl rfl) rfl, ?_⟩)
          exact Wk.refl _
      · rw [hS, PR.bind_er] at h
        obtain ⟨h1, h2⟩ := PR.inje h
        subst h1; subst h2
        refine OkP.enter hE Tryz.func112 rfl (by decide +kernel) (by kernel_rfl) rfl rfl (Nat.le_of_ble_eq_true rfl) rfl ?_
        refine ⟨_, CallR.mk1 hF rfl rfl, ?_⟩
        refine ⟨_, eqN (by decide), ?_⟩
        refine ⟨_, eqT rfl, ?_⟩
        refine .inr (.inl ⟨_, panSign hg hS rfl, ?_⟩)
        exact Wk.refl _
    · rename_i hk5
      split at h
      · rename_i hk
        subst hk
        rcases PR.cases (signP comma l) with ⟨u, m, hS⟩ | ⟨e', p, hS⟩
        · rw [hS, PR.bind_ok] at h
          rcases PR.cases (takeP 2 (fun t => decide (t.n ≤ f.2.1)) m) with ⟨t, m2, hT⟩ | ⟨e', p, hT⟩
          · rw [hT, PR.bind_ok] at h; cases h
          · rw [hT, PR.bind_er] at h
            obtain ⟨h1, h2⟩ := PR.inje h
            subst h1; subst h2
            have hN := few_no (signP_good hg hS) hT
            refine OkP.enter hE Tryz.func112 rfl (by decide +kernel) (by kernel_rfl) rfl rfl (Nat.le_of_ble_eq_true rfl) rfl ?_
            refine ⟨_, CallR.mk1 hF rfl rfl, ?_⟩
            refine ⟨_, eqN (by decide), ?_⟩
            refine ⟨_, eqN (by decide), ?_⟩
            refine ⟨_, eqT rfl, ?_⟩
            refine .inl ⟨_, _, callSign hS rfl, ?_⟩
            refine .inr (.inl ⟨_, SCallP.of [0, 2] hN (Hand.of rfl rfl (by simp) rfl rfl) rfl, ?_⟩)
            exact Wk.refl _
        · rw [hS, PR.bind_er] at h
          obtain ⟨h1, h2⟩ := PR.inje h
          subst h1; subst h2
          refine OkP.enter hE Tryz.func112 rfl (by decide +kernel) (by kernel_rfl) rfl rfl (Nat.le_of_ble_eq_true rfl) rfl ?_
          refine ⟨_, CallR.mk1 hF rfl rfl, ?_⟩
          refine ⟨_, eqN (by decide), ?_⟩
          refine ⟨_, eqN (by decide), ?_⟩
          refine ⟨_, eqT rfl, ?_⟩
          refine .inr (.inl ⟨_, panSign hg hS rfl, ?_⟩)
          exact Wk.refl _
      · rename_i hk6
        split at h
        · rename_i hk
          subst hk
          rcases PR.cases (takeP 2 (fun t => decide (t.n ≤ f.2.1)) l) with ⟨t, m, hT⟩ | ⟨e', p, hT⟩
          · rw [hT, PR.bind_ok] at h; cases h
          · rw [hT, PR.bind_er] at h
            obtain ⟨h1, h2⟩ := PR.inje h
            subst h1; subst h2
            have hN := few_no hg hT
            refine OkP.enter hE Tryz.func112 rfl (by decide +kernel) (by kernel_rfl) rfl rfl (Nat.le_of_ble_eq_true rfl) rfl ?_
            refine ⟨_, CallR.mk1 hF rfl rfl, ?_⟩
            refine ⟨_, eqN (by decide), ?_⟩
            refine ⟨_, eqN (by decide), ?_⟩
            refine ⟨_, eqN (by decide), ?_⟩
            refine ⟨_, eqT rfl, ?_⟩
            refine .inr (.inl ⟨_, SCallP.of [0, 2] hN (Hand.of rfl rfl (by simp) rfl rfl) rfl, ?_⟩)
            exact Wk.refl _
        · cases h
theorem restP_good {k : Int} {l r : List Lx.Tok} {p : Int × ByteArray} (hg : Good l) (h : restP k l = .ok p r) : Good r := by
  unfold restP at h
  have go : ∀ {kind : Int} {pred : Lx.Tok → Bool} {m : List Lx.Tok} {g : Lx.Tok → Int × ByteArray}, kind ≠ 5 → Good m → ((takeP kind pred m).bind fun t l => .ok (g t) l) = .ok p r → Good r := by
    intro kind pred m g hk hm h
    rcases PR.cases (takeP kind pred m) with ⟨t, m2, hT⟩ | ⟨e', p', hT⟩
    · rw [hT, PR.bind_ok] at h
      obtain ⟨-, h⟩ := PR.inj h
      subst h
      exact takeP_good hk hm hT
    · rw [hT, PR.bind_er] at h; cases h
  have go2 : ∀ {kind : Int} {pred : Lx.Tok → Bool} {g : Lx.Tok → Int × ByteArray}, kind ≠ 5 → ((signP comma l).bind fun _ l => (takeP kind pred l).bind fun t l => .ok (g t) l) = .ok p r → Good r := by
    intro kind pred g hk h
    rcases PR.cases (signP comma l) with ⟨u, m, hS⟩ | ⟨e', p', hS⟩
    · rw [hS, PR.bind_ok] at h
      exact go hk (signP_good hg hS) h
    · rw [hS, PR.bind_er] at h; cases h
  split at h
  · exact go (by decide) hg h
  · split at h
    · exact go2 (by decide) h
    · split at h
      · exact go2 (by decide) h
      · split at h
        · exact go (by decide) hg h
        · obtain ⟨-, h⟩ := PR.inj h; subst h; exact hg
end Go.Proofs.YtkolnkjdcncmpaaGreatDoor.Pr

/- The parser, in the pure machine: arguments, expressions. -/
namespace Go.Proofs.YtkolnkjdcncmpaaGreatDoor.Pr
open Go Go.RowKit Go.Proofs.YtkolnkjdcncmpaaGreatDoor.Pm Go.Proofs.YtkolnkjdcncmpaaGreatDoor.Pl
open Go.Proofs.YtkolnkjdcncmpaaGreatDoor.Lx (cellsT pT rowT rowT_len rowT_get)
set_option linter.unusedVariables false
set_option maxHeartbeats 1000000
theorem wkOrow {xs : List (List CV)} {k : Nat} : Wk (.orow xs k) (.c (.row xs)) := by
  intro w ok m tk v h
  cases h with
  | orow A len cap _ _ h r hr h1 h2 => exact .c _ _ h
theorem wkA {acc : List Ex} {i : Nat} (h : acc.length = i) : Wk (cellA (acc.map cellsE) i) (.c (.row (encL acc))) := by
  rw [encL_map]
  cases i with
  | zero => rw [List.length_eq_zero_iff.1 h]; exact Wk.nilRow
  | succ i => exact wkOrow
/-- how many arguments a kind has -/
def argN (k : Int) : Nat := (formP k).2.2.1.toNat
/-- the arguments from the i-th on -/
def argsP (ex : Bool → List Lx.Tok → PR Ex) (isIf : Bool) : Nat → Nat → List Lx.Tok → PR (List Ex)
  | 0, _, l => .ok [] l
  | n + 1, i, l => (if i = 0 then .ok () l else signP comma l).bind fun _ l => (ex (isIf && (i == 0)) l).bind fun x l => (argsP ex isIf n (i + 1) l).bind fun xs l => .ok (x :: xs) l
/-- an expression, that may have so many in one another -/
def exprP : Nat → Bool → List Lx.Tok → PR Ex
  | _, _, [] => .er 0 0
  | 0, _, t :: _ => .er 81 t.place
  | d + 1, cond, t :: r => match beginK t cond with
    | none => .er 80 t.place
    | some k =>
      if k = 4 then .ok ⟨4, t.n, e0, []⟩ r
      else if k = 1 ∨ k = 2 then .ok ⟨k, 0, e0, []⟩ r
      else (signP openS r).bind fun _ l => (argsP (exprP d) (k == 10) (argN k) 0 l).bind fun xs l => (restP k l).bind fun p l => (signP shutS l).bind fun _ l => .ok ⟨k, p.1, p.2, xs⟩ l
def ExD (d : Nat) (c : Bool) (l : List Lx.Tok) : Prop := match exprP d c l with
  | .ok x r => Ok E 83 [tkB l] [.ptr 0 0, pI (32 - (d : Int)), pB c] (pE x) [tkB r]
  | .er e n => OkP E 83 [tkB l] [.ptr 0 0, pI (32 - (d : Int)), pB c] (pan e n)
def pre (acc : List Ex) (R : PR (List Ex)) : PR (List Ex) := R.bind fun xs l => .ok (acc ++ xs) l
theorem pre_ok {acc xs : List Ex} {l : List Lx.Tok} : pre acc (.ok xs l) = .ok (acc ++ xs) l := rfl
theorem pre_pre {acc bcc : List Ex} {R : PR (List Ex)} : pre acc (pre bcc R) = pre (acc ++ bcc) R := by
  cases R with
  | ok xs l => simp [pre, PR.bind]
  | er e n => rfl
/-- a round -/
theorem args_step {ex : Bool → List Lx.Tok → PR Ex} {b : Bool} {n i : Nat} {l : List Lx.Tok} {acc : List Ex} :
    (∃ e p, i ≠ 0 ∧ signP comma l = .er e p ∧ pre acc (argsP ex b (n + 1) i l) = .er e p) ∨
    ∃ l1 u, (if i = 0 then PR.ok () l else signP comma l) = .ok u l1 ∧ (i = 0 → l1 = l) ∧ ((∃ e p, ex (b && (i == 0)) l1 = .er e p ∧ pre acc (argsP ex b (n + 1) i l) = .er e p) ∨
      ∃ x l2, ex (b && (i == 0)) l1 = .ok x l2 ∧ pre acc (argsP ex b (n + 1) i l) = pre (acc ++ [x]) (argsP ex b n (i + 1) l2)) := by
  rw [argsP]
  have fin : ∀ l1, (∃ e p, ex (b && (i == 0)) l1 = .er e p ∧ pre acc ((ex (b && (i == 0)) l1).bind fun x l => (argsP ex b n (i + 1) l).bind fun xs l => .ok (x :: xs) l) = .er e p) ∨
      ∃ x l2, ex (b && (i == 0)) l1 = .ok x l2 ∧ pre acc ((ex (b && (i == 0)) l1).bind fun x l => (argsP ex b n (i + 1) l).bind fun xs l => .ok (x :: xs) l) = pre (acc ++ [x]) (argsP ex b n (i + 1) l2) := by
    intro l1
    rcases PR.cases (ex (b && (i == 0)) l1) with ⟨x, l2, hx⟩ | ⟨e, p, hx⟩
    · refine .inr ⟨x, l2, hx, ?_⟩
      rw [hx, PR.bind_ok]
      show pre acc (pre [x] (argsP ex b n (i + 1) l2)) = _
      rw [pre_pre]
    · exact .inl ⟨e, p, hx, by rw [hx]; rfl⟩
  by_cases hi : i = 0
  · rw [if_pos hi]
    exact .inr ⟨l, (), rfl, fun _ => rfl, fin l⟩
  · rw [if_neg hi]
    rcases PR.cases (signP comma l) with ⟨u, l1, hs⟩ | ⟨e, p, hs⟩
    · refine .inr ⟨l1, u, hs, fun h => absurd h hi, ?_⟩
      rw [hs, PR.bind_ok]
      exact fin l1
    · refine .inl ⟨e, p, hi, hs, ?_⟩
      rw [hs]; rfl
theorem args_good' {d : Nat} (ih : ∀ (c : Bool) {l r : List Lx.Tok} {x : Ex}, Good l → exprP d c l = .ok x r → Good r) (b : Bool) : ∀ (n i : Nat) {l r : List Lx.Tok} {xs : List Ex}, Good l → argsP (exprP d) b n i l = .ok xs r → Good r
  | 0, i, l, r, xs, hg, h => by rw [argsP] at h; obtain ⟨-, h⟩ := PR.inj h; subst h; exact hg
  | n + 1, i, l, r, xs, hg, h => by
    rcases args_step (ex := exprP d) (b := b) (n := n) (i := i) (l := l) (acc := []) with ⟨e, p, -, -, h2⟩ | ⟨l1, u, h1, h0, ⟨e, p, -, h2⟩ | ⟨x, l2, h2, h3⟩⟩
    · have h' : pre [] (argsP (exprP d) b (n + 1) i l) = .ok xs r := by rw [h]; rfl
      rw [h'] at h2; cases h2
    · have h' : pre [] (argsP (exprP d) b (n + 1) i l) = .ok xs r := by rw [h]; rfl
      rw [h'] at h2; cases h2
    · have h' : pre [] (argsP (exprP d) b (n + 1) i l) = .ok xs r := by rw [h]; rfl
      have g1 : Good l1 := by
        by_cases hi : i = 0
        · rw [h0 hi]; exact hg
        · rw [if_neg hi] at h1; exact signP_good hg h1
      have g2 := ih _ g1 h2
      rw [h'] at h3
      rcases PR.cases (argsP (exprP d) b n (i + 1) l2) with ⟨ys, l3, h4⟩ | ⟨e, p, h4⟩
      · rw [h4] at h3
        obtain ⟨-, h5⟩ := PR.inj h3
        subst h5
        exact args_good' ih b n (i + 1) g2 h4
      · rw [h4] at h3; cases h3
theorem exprP_good : ∀ (d : Nat) (c : Bool) {l r : List Lx.Tok} {x : Ex}, Good l → exprP d c l = .ok x r → Good r
  | _, _, [], r, x, hg, h => hg.elim
  | 0, _, t :: m, r, x, hg, h => by rw [exprP] at h; cases h
  | d + 1, c, t :: m, r, x, hg, h => by
    have ih := @exprP_good d
    have args := fun (b : Bool) (n i : Nat) {l r : List Lx.Tok} {xs : List Ex} => @args_good' d (@ih) b n i l r xs
    rw [exprP] at h
    cases hb : beginK t c with
    | none => rw [hb] at h; cases h
    | some k =>
      rw [hb] at h
      dsimp only at h
      have hbr := beginK_rng hb
      have hk5 : t.kind ≠ 5 := by
        unfold beginK at hb
        split at hb
        · rename_i hc; rw [hc.1]; decide
        · obtain ⟨j, _, _, _, h4⟩ := findW_some hb
          rw [isWord_kind h4]; decide
      split at h
      · obtain ⟨-, h⟩ := PR.inj h; subst h; exact hg.tail hk5
      · split at h
        · obtain ⟨-, h⟩ := PR.inj h; subst h; exact hg.tail hk5
        · rcases PR.cases (signP openS m) with ⟨u, l1, h1⟩ | ⟨e, p, h1⟩
          · rw [h1, PR.bind_ok] at h
            rcases PR.cases (argsP (exprP d) (k == 10) (argN k) 0 l1) with ⟨xs, l2, h2⟩ | ⟨e, p, h2⟩
            · rw [h2, PR.bind_ok] at h
              rcases PR.cases (restP k l2) with ⟨p, l3, h3⟩ | ⟨e, p, h3⟩
              · rw [h3, PR.bind_ok] at h
                rcases PR.cases (signP shutS l3) with ⟨u', l4, h4⟩ | ⟨e, p, h4⟩
                · rw [h4, PR.bind_ok] at h
                  obtain ⟨-, h⟩ := PR.inj h; subst h
                  exact signP_good (restP_good (args _ _ _ (signP_good (hg.tail hk5) h1) h2) h3) h4
                · rw [h4] at h; cases h
              · rw [h3] at h; cases h
            · rw [h2] at h; cases h
          · rw [h1] at h; cases h
theorem args_good {d : Nat} {b : Bool} {n i : Nat} {l r : List Lx.Tok} {xs : List Ex} (hg : Good l) (h : argsP (exprP d) b n i l = .ok xs r) : Good r := args_good' (fun c {l r x} => exprP_good d c) b n i hg h
/-! ### arguments -/
structure ArgSt where
  i : Nat
  acc : List Ex
  l : List Lx.Tok
section
variable {d : Nat}
theorem callEx {c : Bool} {l r : List Lx.Tok} {x : Ex} (IH : ∀ c l, Good l → ExD d c l) (hg : Good l) (h : exprP d c l = .ok x r) {H : List (List PV)} (hH : H[0]? = some (tkB l)) {n : Int} (hn : n = 32 - (d : Int)) : SCallR E 83 H [.ptr 0 0, pI n, pB c] (pE x) (H.set 0 (tkB r)) := by
  subst hn
  have := IH c l hg
  unfold ExD at this
  rw [h] at this
  exact SCallR.one (i := 0) this (by simp [getL, hH]) rfl rfl rfl rfl rfl
theorem panEx {c : Bool} {l : List Lx.Tok} {e p : Int} (IH : ∀ c l, Good l → ExD d c l) (hg : Good l) (h : exprP d c l = .er e p) {H : List (List PV)} (hH : H[0]? = some (tkB l)) {n : Int} (hn : n = 32 - (d : Int)) : SCallP E 83 H [.ptr 0 0, pI n, pB c] (pan e p) := by
  subst hn
  have := IH c l hg
  unfold ExD at this
  rw [h] at this
  exact SCallP.of [0] this (Hand.of (by simp [getL, hH]) rfl (by simp) rfl rfl) rfl
theorem args_ok (hd : d ≤ 31) (IH : ∀ c l, Good l → ExD d c l) {k : Int} {l r : List Lx.Tok} {xs : List Ex} (hk : (formP k).2.2.1 = (argN k : Int)) (hk3 : argN k ≤ 3) (hg : Good l) (h : argsP (exprP d) (k == 10) (argN k) 0 l = .ok xs r) :
    Ok E 111 [tkB l] [.ptr 0 0, pI k, pI (31 - (d : Int))] (.c (.row (encL xs))) [tkB r] := by
  have hF := Form_ok k
  rw [hk] at hF
  generalize (formP k).1 = w1 at hF
  generalize (formP k).2.1 = w2 at hF
  generalize (formP k).2.2.2 = w4 at hF
  generalize argN k = m at hF hk3 h
  refine Ok.enter hE Tryz.func111 rfl (by decide +kernel) (by kernel_rfl) rfl rfl (Nat.le_of_ble_eq_true rfl) rfl ?_
  refine ⟨_, CallR.mk1 hF rfl rfl, ?_⟩
  refine Loop.run (α := ArgSt) (fun x => x.i ≤ m ∧ x.acc.length = x.i ∧ Good x.l ∧ pre x.acc (argsP (exprP d) (k == 10) (m - x.i) x.i x.l) = .ok xs r) (fun x => [(0, .ptr 0 0), (1, pI k), (2, pI (31 - (d : Int))), (6, cellA (x.acc.map cellsE) x.i), (19, pI m), (20, pI x.i)])
    (fun x => [tkB x.l]) (fun x => tokA x.i) (fun x => m - x.i) ⟨0, [], l⟩ ⟨Nat.zero_le _, rfl, hg, by rw [Nat.sub_zero, h]; rfl⟩ ⟨⟨rfl, rfl, rfl, rfl, rfl, rfl, trivial⟩, rfl, rfl⟩ ?_
  rintro ⟨i, acc, l'⟩ f ⟨hi, hacc, hg', hR⟩
  dsimp only at hi hacc hg' hR
  rcases Nat.lt_or_ge i m with hlt | hge
  · refine ⟨_, ltT (by (try dsimp only); omega), ?_⟩
    obtain ⟨n, hn⟩ : ∃ n, m - i = n + 1 := ⟨m - i - 1, by omega⟩
    rw [hn] at hR
    rcases args_step (ex := exprP d) (b := (k == 10)) (n := n) (i := i) (l := l') (acc := acc) with ⟨e, p, -, -, h2⟩ | ⟨l1, u, h1, h0, ⟨e, p, -, h2⟩ | ⟨x, l2, h2, h3⟩⟩
    · rw [hR] at h2; cases h2
    · rw [hR] at h2; cases h2
    · rw [hR] at h3
      have hmn : m - (i + 1) = n := by omega
      cases i with
      | zero =>
        have := h0 rfl
        subst this
        refine ⟨_, gtN (by dsimp only; decide), ?_⟩
        refine ⟨_, addV (z := 32 - (d : Int)) (by (try dsimp only); omega) (by (try dsimp only); omega) (by (try dsimp only); omega), ?_⟩
        by_cases h10 : k = 10
        · have hc : ((k == 10) && ((0 : Nat) == 0)) = true := by rw [h10]; rfl
          rw [hc] at h2
          refine ⟨_, eqT h10, ?_⟩
          refine ⟨_, eqT rfl, ?_⟩
          refine .inl ⟨_, _, callEx IH hg' h2 rfl rfl, ?_⟩
          refine ⟨_, ⟨_, rfl, rfl⟩, ?_⟩
          refine ⟨_, _, AppR.first1 rfl rfl (by decide) rfl rfl rfl (by decide), ?_⟩
          refine ⟨_, addV rfl (by dsimp only; decide) (by dsimp only; decide), ?_⟩
          have ha : acc = [] := List.length_eq_zero_iff.1 hacc
          subst ha
          exact ⟨⟨1, [x], l2⟩, ⟨hlt, rfl, exprP_good _ _ hg' h2, by rw [hmn]; exact h3.symm⟩, by dsimp only; omega, ⟨rfl, rfl, rfl, rfl, rfl, rfl, trivial⟩, rfl, rfl⟩
        · have hc : ((k == 10) && ((0 : Nat) == 0)) = false := by rw [beq_eq_false_iff_ne.2 h10]; rfl
          rw [hc] at h2
          refine ⟨_, eqN h10, ?_⟩
          refine .inl ⟨_, _, callEx IH hg' h2 rfl rfl, ?_⟩
          refine ⟨_, ⟨_, rfl, rfl⟩, ?_⟩
          refine ⟨_, _, AppR.first1 rfl rfl (by decide) rfl rfl rfl (by decide), ?_⟩
          refine ⟨_, addV rfl (by dsimp only; decide) (by dsimp only; decide), ?_⟩
          have ha : acc = [] := List.length_eq_zero_iff.1 hacc
          subst ha
          exact ⟨⟨1, [x], l2⟩, ⟨hlt, rfl, exprP_good _ _ hg' h2, by rw [hmn]; exact h3.symm⟩, by dsimp only; omega, ⟨rfl, rfl, rfl, rfl, rfl, rfl, trivial⟩, rfl, rfl⟩
      | succ j =>
        rw [if_neg (by (try dsimp only); omega)] at h1
        have g1 := signP_good hg' h1
        have hc : ((k == 10) && ((j + 1 : Nat) == 0)) = false := by simp
        rw [hc] at h2
        have he : (acc.map cellsE ++ [cellsE x]) = (acc ++ [x]).map cellsE := by simp
        refine ⟨_, gtT (by (try dsimp only); omega), ?_⟩
        refine .inl ⟨_, _, callSign h1 rfl, ?_⟩
        refine ⟨_, addV (z := 32 - (d : Int)) (by (try dsimp only); omega) (by (try dsimp only); omega) (by (try dsimp only); omega), ?_⟩
        by_cases h10 : k = 10
        · refine ⟨_, eqT h10, ?_⟩
          refine ⟨_, eqN (by (try dsimp only); omega), ?_⟩
          refine .inl ⟨_, _, callEx IH g1 h2 rfl rfl, ?_⟩
          refine ⟨_, ⟨_, rfl, rfl⟩, ?_⟩
          refine ⟨_, _, AppR.more1 (j + 1) rfl rfl (by decide) rfl rfl (by rw [List.length_map, hacc]) (cells_len _) rfl rfl (by (try dsimp only); omega) (by show (j + 1 + 1) * 56 ≤ _; omega), ?_⟩
          refine ⟨_, addV rfl (by (try dsimp only); omega) (by (try dsimp only); omega), ?_⟩
          exact ⟨⟨j + 1 + 1, acc ++ [x], l2⟩, ⟨hlt, by simp [hacc], exprP_good _ _ g1 h2, by rw [hmn]; exact h3.symm⟩, by dsimp only; omega, ⟨rfl, rfl, rfl, by show PV.orow _ _ = PV.orow _ _; rw [he], rfl, rfl, trivial⟩, rfl, rfl⟩
        · refine ⟨_, eqN h10, ?_⟩
          refine .inl ⟨_, _, callEx IH g1 h2 rfl rfl, ?_⟩
          refine ⟨_, ⟨_, rfl, rfl⟩, ?_⟩
          refine ⟨_, _, AppR.more1 (j + 1) rfl rfl (by decide) rfl rfl (by rw [List.length_map, hacc]) (cells_len _) rfl rfl (by (try dsimp only); omega) (by show (j + 1 + 1) * 56 ≤ _; omega), ?_⟩
          refine ⟨_, addV rfl (by (try dsimp only); omega) (by (try dsimp only); omega), ?_⟩
          exact ⟨⟨j + 1 + 1, acc ++ [x], l2⟩, ⟨hlt, by simp [hacc], exprP_good _ _ g1 h2, by rw [hmn]; exact h3.symm⟩, by dsimp only; omega, ⟨rfl, rfl, rfl, by show PV.orow _ _ = PV.orow _ _; rw [he], rfl, rfl, trivial⟩, rfl, rfl⟩
  · refine ⟨_, ltN (by (try dsimp only); omega), ?_⟩
    have him : m - i = 0 := by omega
    rw [him, argsP, pre_ok, List.append_nil] at hR
    obtain ⟨e1, e2⟩ := PR.inj hR
    subst e1; subst e2
    exact ⟨_, rfl, wkA hacc, rfl, .cons (WkL.refl _) rfl (.nil _)⟩
theorem args_pan (hd : d ≤ 31) (IH : ∀ c l, Good l → ExD d c l) {k : Int} {l : List Lx.Tok} {e0 p0 : Int} (hk : (formP k).2.2.1 = (argN k : Int)) (hk3 : argN k ≤ 3) (hg : Good l) (h : argsP (exprP d) (k == 10) (argN k) 0 l = .er e0 p0) :
    OkP E 111 [tkB l] [.ptr 0 0, pI k, pI (31 - (d : Int))] (pan e0 p0) := by
  have hF := Form_ok k
  rw [hk] at hF
  generalize (formP k).1 = w1 at hF
  generalize (formP k).2.1 = w2 at hF
  generalize (formP k).2.2.2 = w4 at hF
  generalize argN k = m at hF hk3 h
  refine OkP.enter hE Tryz.func111 rfl (by decide +kernel) (by kernel_rfl) rfl rfl (Nat.le_of_ble_eq_true rfl) rfl ?_
  refine ⟨_, CallR.mk1 hF rfl rfl, ?_⟩
  refine Loop.run (α := ArgSt) (fun x => x.i ≤ m ∧ x.acc.length = x.i ∧ Good x.l ∧ pre x.acc (argsP (exprP d) (k == 10) (m - x.i) x.i x.l) = .er e0 p0) (fun x => [(0, .ptr 0 0), (1, pI k), (2, pI (31 - (d : Int))), (6, cellA (x.acc.map cellsE) x.i), (19, pI m), (20, pI x.i)])
    (fun x => [tkB x.l]) (fun x => tokA x.i) (fun x => m - x.i) ⟨0, [], l⟩ ⟨Nat.zero_le _, rfl, hg, by rw [Nat.sub_zero, h]; rfl⟩ ⟨⟨rfl, rfl, rfl, rfl, rfl, rfl, trivial⟩, rfl, rfl⟩ ?_
  rintro ⟨i, acc, l'⟩ f ⟨hi, hacc, hg', hR⟩
  dsimp only at hi hacc hg' hR
  rcases Nat.lt_or_ge i m with hlt | hge
  rotate_left
  · have him : m - i = 0 := by omega
    rw [him, argsP, pre_ok] at hR
    cases hR
  refine ⟨_, ltT (by (try dsimp only); omega), ?_⟩
  obtain ⟨n, hn⟩ : ∃ n, m - i = n + 1 := ⟨m - i - 1, by omega⟩
  rw [hn] at hR
  have hmn : m - (i + 1) = n := by omega
  rcases args_step (ex := exprP d) (b := (k == 10)) (n := n) (i := i) (l := l') (acc := acc) with ⟨e, p, hi0, hs, h2⟩ | ⟨l1, u, h1, h0, h2⟩
  · rw [hR] at h2
    obtain ⟨rfl, rfl⟩ := PR.inje h2
    refine ⟨_, gtT (by (try dsimp only); omega), ?_⟩
    refine .inr (.inl ⟨_, panSign hg' hs rfl, ?_⟩)
    exact Wk.refl _
  · cases i with
    | zero =>
      have := h0 rfl
      subst this
      refine ⟨_, gtN (by dsimp only; decide), ?_⟩
      refine ⟨_, addV (z := 32 - (d : Int)) (by (try dsimp only); omega) (by (try dsimp only); omega) (by (try dsimp only); omega), ?_⟩
      by_cases h10 : k = 10
      · have hc : ((k == 10) && ((0 : Nat) == 0)) = true := by rw [h10]; rfl
        rw [hc] at h2
        refine ⟨_, eqT h10, ?_⟩
        refine ⟨_, eqT rfl, ?_⟩
        rcases h2 with ⟨e, p, h2, h3⟩ | ⟨x, l2, h2, h3⟩
        · rw [hR] at h3
          obtain ⟨rfl, rfl⟩ := PR.inje h3
          refine .inr (.inl ⟨_, panEx IH hg' h2 rfl rfl, ?_⟩)
          exact Wk.refl _
        · refine .inl ⟨_, _, callEx IH hg' h2 rfl rfl, ?_⟩
          refine ⟨_, ⟨_, rfl, rfl⟩, ?_⟩
          refine ⟨_, _, AppR.first1 rfl rfl (by decide) rfl rfl rfl (by decide), ?_⟩
          refine ⟨_, addV rfl (by dsimp only; decide) (by dsimp only; decide), ?_⟩
          have ha : acc = [] := List.length_eq_zero_iff.1 hacc
          subst ha
          exact ⟨⟨1, [x], l2⟩, ⟨hlt, rfl, exprP_good _ _ hg' h2, by rw [hmn]; exact h3.symm.trans hR⟩, by dsimp only; omega, ⟨rfl, rfl, rfl, rfl, rfl, rfl, trivial⟩, rfl, rfl⟩
      · have hc : ((k == 10) && ((0 : Nat) == 0)) = false := by rw [beq_eq_false_iff_ne.2 h10]; rfl
        rw [hc] at h2
        refine ⟨_, eqN h10, ?_⟩
        rcases h2 with ⟨e, p, h2, h3⟩ | ⟨x, l2, h2, h3⟩
        · rw [hR] at h3
          obtain ⟨rfl, rfl⟩ := PR.inje h3
          refine .inr (.inl ⟨_, panEx IH hg' h2 rfl rfl, ?_⟩)
          exact Wk.refl _
        · refine .inl ⟨_, _, callEx IH hg' h2 rfl rfl, ?_⟩
          refine ⟨_, ⟨_, rfl, rfl⟩, ?_⟩
          refine ⟨_, _, AppR.first1 rfl rfl (by decide) rfl rfl rfl (by decide), ?_⟩
          refine ⟨_, addV rfl (by dsimp only; decide) (by dsimp only; decide), ?_⟩
          have ha : acc = [] := List.length_eq_zero_iff.1 hacc
          subst ha
          exact ⟨⟨1, [x], l2⟩, ⟨hlt, rfl, exprP_good _ _ hg' h2, by rw [hmn]; exact h3.symm.trans hR⟩, by dsimp only; omega, ⟨rfl, rfl, rfl, rfl, rfl, rfl, trivial⟩, rfl, rfl⟩
    | succ j =>
      rw [if_neg (by (try dsimp only); omega)] at h1
      have g1 := signP_good hg' h1
      have hc : ((k == 10) && ((j + 1 : Nat) == 0)) = false := by simp
      rw [hc] at h2
      refine ⟨_, gtT (by (try dsimp only); omega), ?_⟩
      refine .inl ⟨_, _, callSign h1 rfl, ?_⟩
      refine ⟨_, addV (z := 32 - (d : Int)) (by (try dsimp only); omega) (by (try dsimp only); omega) (by (try dsimp only); omega), ?_⟩
      by_cases h10 : k = 10
      · refine ⟨_, eqT h10, ?_⟩
        refine ⟨_, eqN (by (try dsimp only); omega), ?_⟩
        rcases h2 with ⟨e, p, h2, h3⟩ | ⟨x, l2, h2, h3⟩
        · rw [hR] at h3
          obtain ⟨rfl, rfl⟩ := PR.inje h3
          refine .inr (.inl ⟨_, panEx IH g1 h2 rfl rfl, ?_⟩)
          exact Wk.refl _
        · have he : (acc.map cellsE ++ [cellsE x]) = (acc ++ [x]).map cellsE := by simp
          refine .inl ⟨_, _, callEx IH g1 h2 rfl rfl, ?_⟩
          refine ⟨_, ⟨_, rfl, rfl⟩, ?_⟩
          refine ⟨_, _, AppR.more1 (j + 1) rfl rfl (by decide) rfl rfl (by rw [List.length_map, hacc]) (cells_len _) rfl rfl (by (try dsimp only); omega) (by show (j + 1 + 1) * 56 ≤ _; omega), ?_⟩
          refine ⟨_, addV rfl (by (try dsimp only); omega) (by (try dsimp only); omega), ?_⟩
          exact ⟨⟨j + 1 + 1, acc ++ [x], l2⟩, ⟨hlt, by simp [hacc], exprP_good _ _ g1 h2, by rw [hmn]; exact h3.symm.trans hR⟩, by dsimp only; omega, ⟨rfl, rfl, rfl, by show PV.orow _ _ = PV.orow _ _; rw [he], rfl, rfl, trivial⟩, rfl, rfl⟩
      · refine ⟨_, eqN h10, ?_⟩
        rcases h2 with ⟨e, p, h2, h3⟩ | ⟨x, l2, h2, h3⟩
        · rw [hR] at h3
          obtain ⟨rfl, rfl⟩ := PR.inje h3
          refine .inr (.inl ⟨_, panEx IH g1 h2 rfl rfl, ?_⟩)
          exact Wk.refl _
        · have he : (acc.map cellsE ++ [cellsE x]) = (acc ++ [x]).map cellsE := by simp
          refine .inl ⟨_, _, callEx IH g1 h2 rfl rfl, ?_⟩
          refine ⟨_, ⟨_, rfl, rfl⟩, ?_⟩
          refine ⟨_, _, AppR.more1 (j + 1) rfl rfl (by decide) rfl rfl (by rw [List.length_map, hacc]) (cells_len _) rfl rfl (by (try dsimp only); omega) (by show (j + 1 + 1) * 56 ≤ _; omega), ?_⟩
          refine ⟨_, addV rfl (by (try dsimp only); omega) (by (try dsimp only); omega), ?_⟩
          exact ⟨⟨j + 1 + 1, acc ++ [x], l2⟩, ⟨hlt, by simp [hacc], exprP_good _ _ g1 h2, by rw [hmn]; exact h3.symm.trans hR⟩, by dsimp only; omega, ⟨rfl, rfl, rfl, by show PV.orow _ _ = PV.orow _ _; rw [he], rfl, rfl, trivial⟩, rfl, rfl⟩
end
end Go.Proofs.YtkolnkjdcncmpaaGreatDoor.Pr

/- The parser, in the pure machine: an expression. -/
namespace Go.Proofs.YtkolnkjdcncmpaaGreatDoor.Pr
open Go Go.RowKit Go.Proofs.YtkolnkjdcncmpaaGreatDoor.Pm Go.Proofs.YtkolnkjdcncmpaaGreatDoor.Pl
open Go.Proofs.YtkolnkjdcncmpaaGreatDoor.Lx (cellsT pT rowT rowT_len rowT_get)
set_option linter.unusedVariables false
set_option maxHeartbeats 1000000
theorem arg_facts {k : Int} (h : 1 ≤ k ∧ k ≤ 12) : (formP k).2.2.1 = (argN k : Int) ∧ argN k ≤ 3 := by
  obtain ⟨h0, h1⟩ := h
  have : k = 1 ∨ k = 2 ∨ k = 3 ∨ k = 4 ∨ k = 5 ∨ k = 6 ∨ k = 7 ∨ k = 8 ∨ k = 9 ∨ k = 10 ∨ k = 11 ∨ k = 12 := by omega
  rcases this with rfl | rfl | rfl | rfl | rfl | rfl | rfl | rfl | rfl | rfl | rfl | rfl <;> decide +kernel
theorem word4 (t : Lx.Tok) : isWord t 4 = false := by
  unfold isWord
  rw [show ((wordP 4).toList == (⟨#[]⟩ : ByteArray).toList) = true by decide +kernel]
  simp
theorem begin_range {t : Lx.Tok} {c : Bool} {k : Int} (h : beginK t c = some k) : 1 ≤ k ∧ k ≤ 12 := by
  have := beginK_rng h
  cases c <;> simp [firstK, manyK] at this <;> omega
theorem begin_4 {t : Lx.Tok} {c : Bool} (h : beginK t c = some 4) : t.kind = 3 := by
  unfold beginK at h
  split at h
  · rename_i hc; exact hc.1
  · obtain ⟨j, _, h2, _, h4⟩ := findW_some h
    rw [← h2, word4] at h4; cases h4
theorem begin_word {t : Lx.Tok} {c : Bool} {k : Int} (h : beginK t c = some k) (h4 : k ≠ 4) : t.kind = 1 := by
  unfold beginK at h
  split at h
  · injection h with h; exact absurd h.symm h4
  · obtain ⟨j, _, h2, _, h5⟩ := findW_some h
    exact isWord_kind h5
section
variable {H : List (List PV)} {l : List Lx.Tok}
theorem callBegin {t : Lx.Tok} {r : List Lx.Tok} {c : Bool} {k : Int} (h : beginK t c = some k) (hH : H[0]? = some (tkB (t :: r))) : SCallR E 109 H [.ptr 0 0, pB c] (pI k) (H.set 0 (tkB (t :: r))) :=
  SCallR.one (i := 0) (begins_ok h) (by simp [getL, hH]) rfl rfl rfl rfl rfl
theorem panBegin {t : Lx.Tok} {r : List Lx.Tok} {c : Bool} (h : beginK t c = none) (hH : H[0]? = some (tkB (t :: r))) : SCallP E 109 H [.ptr 0 0, pB c] (pan 80 t.place) :=
  SCallP.of [0] (begins_pan (r := r) h) (Hand.of (by simp [getL, hH]) rfl (by simp) rfl rfl) rfl
theorem callAny {t : Lx.Tok} {r : List Lx.Tok} {kind : Int} (h : t.kind = kind) (hk : kind ≠ 5) (hH : H[0]? = some (tkB (t :: r))) : SCallR E 84 H [.ptr 0 0, pI kind, .c (.fn 85)] (pT t) (H.set 0 (tkB r)) :=
  SCallR.one (i := 0) (take0_ok (any_ok t) kind h hk) (by simp [getL, hH]) rfl rfl rfl rfl rfl
end
theorem expr_zero (c : Bool) (l : List Lx.Tok) (hg : Good l) : ExD 0 c l := by
  obtain ⟨t, r, rfl⟩ := hg.ne
  unfold ExD
  rw [exprP]
  dsimp only
  refine OkP.enter hE Tryz.func83 rfl (by decide +kernel) (by kernel_rfl) rfl rfl (Nat.le_of_ble_eq_true rfl) rfl ?_
  refine ⟨_, geT (by decide), ?_⟩
  refine .inr (.inl ⟨_, callFail (r := r) rfl, ?_⟩)
  exact Wk.refl _
theorem expr_succ (d : Nat) (hd : d ≤ 31) (IH : ∀ c l, Good l → ExD d c l) (c : Bool) (l : List Lx.Tok) (hg : Good l) : ExD (d + 1) c l := by
  obtain ⟨t, r, rfl⟩ := hg.ne
  unfold ExD
  rw [exprP]
  have hwi : 32 - ((d + 1 : Nat) : Int) = 31 - (d : Int) := by omega
  rw [hwi]
  cases hb : beginK t c with
  | none =>
    dsimp only
    refine OkP.enter hE Tryz.func83 rfl (by decide +kernel) (by kernel_rfl) rfl rfl (Nat.le_of_ble_eq_true rfl) rfl ?_
    refine ⟨_, geN (by omega), ?_⟩
    refine .inr (.inl ⟨_, panBegin (r := r) hb rfl, ?_⟩)
    exact Wk.refl _
  | some k =>
    dsimp only
    have hkr := begin_range hb
    by_cases h4 : k = 4
    · subst h4
      rw [if_pos rfl]
      dsimp only
      have h3 := begin_4 hb
      refine Ok.enter hE Tryz.func83 rfl (by decide +kernel) (by kernel_rfl) rfl rfl (Nat.le_of_ble_eq_true rfl) rfl ?_
      refine ⟨_, geN (by omega), ?_⟩
      refine .inl ⟨_, _, callBegin (r := r) hb rfl, ?_⟩
      refine ⟨_, eqT rfl, ?_⟩
      refine .inl ⟨_, _, callAny h3 (by decide) rfl, ?_⟩
      exact ⟨_, rfl, wkE _ _ _, rfl, .cons (WkL.refl _) rfl (.nil _)⟩
    · rw [if_neg h4]
      have h1 := begin_word hb h4
      have hg1 : Good r := hg.tail (by rw [h1]; decide)
      by_cases h12 : k = 1 ∨ k = 2
      · rw [if_pos h12]
        dsimp only
        rcases h12 with rfl | rfl
        · refine Ok.enter hE Tryz.func83 rfl (by decide +kernel) (by kernel_rfl) rfl rfl (Nat.le_of_ble_eq_true rfl) rfl ?_
          refine ⟨_, geN (by omega), ?_⟩
          refine .inl ⟨_, _, callBegin (r := r) hb rfl, ?_⟩
          refine ⟨_, eqN (by decide), ?_⟩
          refine .inl ⟨_, _, callAny h1 (by decide) rfl, ?_⟩
          refine ⟨_, eqT rfl, ?_⟩
          exact ⟨_, rfl, wkE _ _ _, rfl, .cons (WkL.refl _) rfl (.nil _)⟩
        · refine Ok.enter hE Tryz.func83 rfl (by decide +kernel) (by kernel_rfl) rfl rfl (Nat.le_of_ble_eq_true rfl) rfl ?_
          refine ⟨_, geN (by omega), ?_⟩
          refine .inl ⟨_, _, callBegin (r := r) hb rfl, ?_⟩
          refine ⟨_, eqN (by decide), ?_⟩
          refine .inl ⟨_, _, callAny h1 (by decide) rfl, ?_⟩
          refine ⟨_, eqN (by decide), ?_⟩
          refine ⟨_, eqT rfl, ?_⟩
          exact ⟨_, rfl, wkE _ _ _, rfl, .cons (WkL.refl _) rfl (.nil _)⟩
      · rw [if_neg h12]
        have hk1 : k ≠ 1 := fun h => h12 (.inl h)
        have hk2 : k ≠ 2 := fun h => h12 (.inr h)
        obtain ⟨ha, ha3⟩ := arg_facts hkr
        rcases PR.cases (signP openS r) with ⟨u, l1, hs⟩ | ⟨e, p, hs⟩
        rotate_left
        · rw [hs, PR.bind_er]
          dsimp only
          refine OkP.enter hE Tryz.func83 rfl (by decide +kernel) (by kernel_rfl) rfl rfl (Nat.le_of_ble_eq_true rfl) rfl ?_
          refine ⟨_, geN (by omega), ?_⟩
          refine .inl ⟨_, _, callBegin (r := r) hb rfl, ?_⟩
          refine ⟨_, eqN h4, ?_⟩
          refine .inl ⟨_, _, callAny h1 (by decide) rfl, ?_⟩
          refine ⟨_, eqN hk1, ?_⟩
          refine ⟨_, eqN hk2, ?_⟩
          refine .inr (.inl ⟨_, panSign hg1 hs rfl, ?_⟩)
          exact Wk.refl _
        rw [hs, PR.bind_ok]
        have hg2 := signP_good hg1 hs
        rcases PR.cases (argsP (exprP d) (k == 10) (argN k) 0 l1) with ⟨xs, l2, hA⟩ | ⟨e, p, hA⟩
        rotate_left
        · rw [hA, PR.bind_er]
          dsimp only
          have hP := args_pan hd IH ha ha3 hg2 hA
          refine OkP.enter hE Tryz.func83 rfl (by decide +kernel) (by kernel_rfl) rfl rfl (Nat.le_of_ble_eq_true rfl) rfl ?_
          refine ⟨_, geN (by omega), ?_⟩
          refine .inl ⟨_, _, callBegin (r := r) hb rfl, ?_⟩
          refine ⟨_, eqN h4, ?_⟩
          refine .inl ⟨_, _, callAny h1 (by decide) rfl, ?_⟩
          refine ⟨_, eqN hk1, ?_⟩
          refine ⟨_, eqN hk2, ?_⟩
          refine .inl ⟨_, _, callSign hs rfl, ?_⟩
          refine .inr (.inl ⟨_, SCallP.of [0] hP (Hand.of rfl rfl (by simp) rfl rfl) rfl, ?_⟩)
          exact Wk.refl _
        rw [hA, PR.bind_ok]
        have hO := args_ok hd IH ha ha3 hg2 hA
        have hg3 : Good l2 := args_good hg2 hA
        rcases PR.cases (restP k l2) with ⟨⟨n, nm⟩, l3, hR⟩ | ⟨e, p, hR⟩
        rotate_left
        · rw [hR, PR.bind_er]
          dsimp only
          have hP := rest_pan k (encL xs) hg3 hR
          refine OkP.enter hE Tryz.func83 rfl (by decide +kernel) (by kernel_rfl) rfl rfl (Nat.le_of_ble_eq_true rfl) rfl ?_
          refine ⟨_, geN (by omega), ?_⟩
          refine .inl ⟨_, _, callBegin (r := r) hb rfl, ?_⟩
          refine ⟨_, eqN h4, ?_⟩
          refine .inl ⟨_, _, callAny h1 (by decide) rfl, ?_⟩
          refine ⟨_, eqN hk1, ?_⟩
          refine ⟨_, eqN hk2, ?_⟩
          refine .inl ⟨_, _, callSign hs rfl, ?_⟩
          refine .inl ⟨_, _, SCallR.of [0] hO (Hand.of rfl rfl (by simp) rfl rfl) rfl rfl rfl, ?_⟩
          refine .inr (.inl ⟨_, SCallP.of [0, 2] hP (Hand.of rfl rfl (by simp) rfl rfl) rfl, ?_⟩)
          exact Wk.refl _
        rw [hR, PR.bind_ok]
        have hg4 := restP_good hg3 hR
        have hRO := rest_ok k (encL xs) hg3 hR
        rcases PR.cases (signP shutS l3) with ⟨u', l4, hS⟩ | ⟨e, p, hS⟩
        · rw [hS, PR.bind_ok]
          dsimp only
          refine Ok.enter hE Tryz.func83 rfl (by decide +kernel) (by kernel_rfl) rfl rfl (Nat.le_of_ble_eq_true rfl) rfl ?_
          refine ⟨_, geN (by omega), ?_⟩
          refine .inl ⟨_, _, callBegin (r := r) hb rfl, ?_⟩
          refine ⟨_, eqN h4, ?_⟩
          refine .inl ⟨_, _, callAny h1 (by decide) rfl, ?_⟩
          refine ⟨_, eqN hk1, ?_⟩
          refine ⟨_, eqN hk2, ?_⟩
          refine .inl ⟨_, _, callSign hs rfl, ?_⟩
          refine .inl ⟨_, _, SCallR.of [0] hO (Hand.of rfl rfl (by simp) rfl rfl) rfl rfl rfl, ?_⟩
          refine .inl ⟨_, _, SCallR.of [0, 2] hRO (Hand.of rfl rfl (by simp) rfl rfl) rfl rfl rfl, ?_⟩
          refine .inl ⟨_, _, callSign hS rfl, ?_⟩
          exact ⟨_, rfl, Wk.refl _, rfl, .cons (WkL.refl _) rfl (.nil _)⟩
        · rw [hS, PR.bind_er]
          dsimp only
          refine OkP.enter hE Tryz.func83 rfl (by decide +kernel) (by kernel_rfl) rfl rfl (Nat.le_of_ble_eq_true rfl) rfl ?_
          refine ⟨_, geN (by omega), ?_⟩
          refine .inl ⟨_, _, callBegin (r := r) hb rfl, ?_⟩
          refine ⟨_, eqN h4, ?_⟩
          refine .inl ⟨_, _, callAny h1 (by decide) rfl, ?_⟩
          refine ⟨_, eqN hk1, ?_⟩
          refine ⟨_, eqN hk2, ?_⟩
          refine .inl ⟨_, _, callSign hs rfl, ?_⟩
          refine .inl ⟨_, _, SCallR.of [0] hO (Hand.of rfl rfl (by simp) rfl rfl) rfl rfl rfl, ?_⟩
          refine .inl ⟨_, _, SCallR.of [0, 2] hRO (Hand.of rfl rfl (by simp) rfl rfl) rfl rfl rfl, ?_⟩
          refine .inr (.inl ⟨_, panSign hg4 hS rfl, ?_⟩)
          exact Wk.refl _
theorem expr_all : ∀ (d : Nat), d ≤ 32 → ∀ (c : Bool) (l : List Lx.Tok), Good l → ExD d c l
  | 0, _, c, l, h => expr_zero c l h
  | d + 1, hd, c, l, h => expr_succ d (by omega) (expr_all d (by omega)) c l h
end Go.Proofs.YtkolnkjdcncmpaaGreatDoor.Pr

/- The parser, in the pure machine: Parse. -/
namespace Go.Proofs.YtkolnkjdcncmpaaGreatDoor.Pr
open Go Go.RowKit Go.Proofs.YtkolnkjdcncmpaaGreatDoor.Pm Go.Proofs.YtkolnkjdcncmpaaGreatDoor.Pl
open Go.Proofs.YtkolnkjdcncmpaaGreatDoor.Lx (cellsT pT rowT rowT_len rowT_get lexF)
set_option linter.unusedVariables false
set_option maxHeartbeats 1000000
theorem wkTup {ps qs : List PV} (h : WkL ps qs) : Wk (.tup ps) (.tup qs) := by
  intro w ok m tk v hv
  cases hv with
  | tup cs _ hl hh =>
    have := h.rep (w := w) (ok := ok) (m := m) (tk := tk) (vs := cs.toList) ⟨hl, hh⟩
    exact .tup cs _ this.1 this.2
def zE : Ex := ⟨0, 0, e0, []⟩
/-- behind the scanner -/
def finP (l : List Lx.Tok) : Ex × Int × Int := match exprP 32 false l with
  | .er e n => (zE, e, n)
  | .ok x [] => (zE, 0, 0)
  | .ok x (t :: _) => if t.kind = 5 then (x, 0, 0) else (zE, 80, t.place)
def parseP (s : ByteArray) : Ex × Int × Int := if (lexF s).2.1 ≠ 0 then (zE, (lexF s).2.1, (lexF s).2.2) else finP (lexF s).1
@[reducible] def resB (x : List PV) (e n : Int) : List (List PV) := [x, [pI e], [pI n]]
@[reducible] def zB : List PV := [pI 0, pI 0, pS e0, .c .nil]
theorem catch_nilX (x : Ex) (e n : Int) {c : CV} : OkD E 82 (resB [pI x.f0, pI x.f1, pS x.f2, .c c] e n) [.ptr 0 0, .ptr 1 0, .ptr 2 0] .nif (resB [pI x.f0, pI x.f1, pS x.f2, .c c] e n) := by
  refine OkD.enter hE Tryz.func82 rfl (by decide +kernel) rfl rfl rfl rfl (Nat.le_of_ble_eq_true rfl) rfl (by kernel_rfl) rfl rfl (Nat.le_of_ble_eq_true rfl) rfl rfl ?_
  exact ⟨_, rfl, Wk.refl _, rfl, .cons (WkL.refl _) rfl (.cons (WkL.refl _) rfl (.cons (WkL.refl _) rfl (.nil _)))⟩
theorem catch_pan (e' n' e n : Int) : OkD E 82 (resB zB e' n') [.ptr 0 0, .ptr 1 0, .ptr 2 0] (pan e n) (resB zB e n) := by
  refine OkD.enter hE Tryz.func82 rfl (by decide +kernel) rfl rfl rfl rfl (Nat.le_of_ble_eq_true rfl) rfl (by kernel_rfl) rfl rfl (Nat.le_of_ble_eq_true rfl) rfl rfl ?_
  exact ⟨_, rfl, Wk.refl _, rfl, .cons (WkL.refl _) rfl (.cons (WkL.refl _) rfl (.cons (WkL.refl _) rfl (.nil _)))⟩
theorem Good.cons {t : Lx.Tok} {l : List Lx.Tok} (h : Good l) : Good (t :: l) := by
  cases l with
  | nil => exact h.elim
  | cons u r => exact h
theorem scan_good : ∀ (f : Nat) (l : List UInt8) (p : Nat), l.length < f → Lx.tellF (Lx.scanF f l p) = none → Good ((Lx.scanF f l p).map (·.1))
  | 0, l, p, h, _ => by omega
  | f + 1, l, p, h, ht => by
    rw [Lx.scanF] at ht ⊢
    try dsimp only at ht
    try dsimp only
    obtain ⟨m, hm⟩ : ∃ m, l.drop (Lx.runB Lx.blanksB l) = m := ⟨_, rfl⟩
    have hml : m.length ≤ l.length := by rw [← hm, List.length_drop]; omega
    rw [hm] at ht ⊢
    split at ht
    · rename_i hc
      rw [if_pos hc]
      have h2 : (Lx.firstF m).2 = true := by
        cases h2 : (Lx.firstF m).2 with
        | true => rfl
        | false => rw [h2] at ht; simp [Lx.tellF] at ht
      rw [h2] at hc
      show (Lx.firstF m).1.kind = 5
      simpa using hc
    · rename_i hc
      rw [if_neg hc]
      have h2 : (Lx.firstF m).2 = true := by
        cases h2 : (Lx.firstF m).2 with
        | true => rfl
        | false => exact absurd (.inl h2) hc
      have h5 : (Lx.firstF m).1.kind ≠ 5 := fun h => hc (.inr h)
      obtain ⟨f1, f2⟩ := Lx.first_fits m h2 h5
      rw [h2] at ht
      exact Good.cons (scan_good f _ _ (by rw [List.length_drop]; omega) ht)
theorem lex_good {s : ByteArray} (h : (lexF s).2.1 = 0) : Good (lexF s).1 := by
  unfold lexF at h ⊢
  split
  · rename_i hs; rw [if_pos hs] at h; cases h
  · rename_i hs
    rw [if_neg hs] at h
    cases ht : Lx.tellF (Lx.scan s) with
    | some p => rw [ht] at h; cases h
    | none => exact scan_good _ _ _ (by simp) ht
theorem Parse_ok (s : ByteArray) : Ok E 61 [] [pS s] (.tup [pE (parseP s).1, pI (parseP s).2.1, pI (parseP s).2.2]) [] := by
  have hL := Lx.Lex_ok s
  obtain ⟨r, hr⟩ : ∃ r, parseP s = r := ⟨_, rfl⟩
  rw [hr]
  unfold parseP at hr
  have hgood := lex_good (s := s)
  obtain ⟨L, hLs⟩ : ∃ L, lexF s = L := ⟨_, rfl⟩
  rw [hLs] at hL hr hgood
  obtain ⟨toks, le, ln⟩ := L
  dsimp only at hL hr hgood
  have wz : Wk (.agg [.int .i64 0, .int .i64 0, .str e0, .nil]) (pE zE) := wkE _ _ _
  by_cases he : le = 0
  · subst he
    rw [if_neg (by simp)] at hr
    have hg := hgood rfl
    unfold finP at hr
    have hEx := expr_all 32 (by omega) false toks hg
    unfold ExD at hEx
    rcases PR.cases (exprP 32 false toks) with ⟨x, l, hx⟩ | ⟨e, n, hx⟩
    · rw [hx] at hEx hr
      dsimp only at hEx hr
      have hgl := exprP_good 32 false hg hx
      obtain ⟨t, m, rfl⟩ := hgl.ne
      dsimp only at hr
      by_cases h5 : t.kind = 5
      · rw [if_pos h5] at hr
        subst hr
        have hT := take0_end (r := m) (any_ok t) h5
        refine Ok.enterD (g := 82) hE [.p 0 0, .p 1 0, .p 2 0] 3 Tryz.func61 rfl (by decide +kernel) rfl rfl (Nat.le_of_ble_eq_true rfl) rfl rfl ?_
        refine ⟨by kernel_rfl, ?_⟩
        refine ⟨by kernel_rfl, ?_⟩
        refine ⟨_, CallR.mk1 hL rfl rfl, ?_⟩
        refine ⟨by kernel_rfl, ?_⟩
        refine ⟨_, neN rfl, ?_⟩
        refine ⟨_, _, _, _, _, _, _, rfl, rfl, ⟨rfl, rfl, rfl, rfl, rfl, rfl⟩, rfl, by kernel_rfl, rfl, ?_⟩
        refine .inl ⟨_, _, SCallR.of [3] hEx (Hand.of rfl rfl (by simp) rfl rfl) rfl rfl rfl, ?_⟩
        refine .inl ⟨_, _, SCallR.of [3] hT (Hand.of rfl rfl (by simp) rfl rfl) rfl rfl rfl, ?_⟩
        exact ⟨[0, 1, 2], _, _, _, Hand.of rfl rfl (by simp) rfl rfl, catch_nilX x 0 0, rfl, rfl, _, rfl, Wk.refl _, rfl, .nil _⟩
      · rw [if_neg h5] at hr
        subst hr
        have hT := take0_kind (g := 85) (r := m) 5 h5
        refine Ok.enterD (g := 82) hE [.p 0 0, .p 1 0, .p 2 0] 3 Tryz.func61 rfl (by decide +kernel) rfl rfl (Nat.le_of_ble_eq_true rfl) rfl rfl ?_
        refine ⟨by kernel_rfl, ?_⟩
        refine ⟨by kernel_rfl, ?_⟩
        refine ⟨_, CallR.mk1 hL rfl rfl, ?_⟩
        refine ⟨by kernel_rfl, ?_⟩
        refine ⟨_, neN rfl, ?_⟩
        refine ⟨_, _, _, _, _, _, _, rfl, rfl, ⟨rfl, rfl, rfl, rfl, rfl, rfl⟩, rfl, by kernel_rfl, rfl, ?_⟩
        refine .inl ⟨_, _, SCallR.of [3] hEx (Hand.of rfl rfl (by simp) rfl rfl) rfl rfl rfl, ?_⟩
        refine .inr (.inr ⟨_, 3, ⟨[3], _, _, Hand.of rfl rfl (by simp) rfl rfl, hT, rfl, rfl⟩, rfl, ?_⟩)
        exact ⟨rfl, Nat.zero_le _, rfl, [0, 1, 2], _, _, _, Hand.of rfl rfl (by simp) rfl rfl, catch_pan 0 ln 80 t.place, rfl, rfl, _, rfl, wkTup (.cons wz (WkL.refl _)), rfl, .nil _⟩
    · rw [hx] at hEx hr
      dsimp only at hEx hr
      subst hr
      refine Ok.enterD (g := 82) hE [.p 0 0, .p 1 0, .p 2 0] 3 Tryz.func61 rfl (by decide +kernel) rfl rfl (Nat.le_of_ble_eq_true rfl) rfl rfl ?_
      refine ⟨by kernel_rfl, ?_⟩
      refine ⟨by kernel_rfl, ?_⟩
      refine ⟨_, CallR.mk1 hL rfl rfl, ?_⟩
      refine ⟨by kernel_rfl, ?_⟩
      refine ⟨_, neN rfl, ?_⟩
      refine ⟨_, _, _, _, _, _, _, rfl, rfl, ⟨rfl, rfl, rfl, rfl, rfl, rfl⟩, rfl, by kernel_rfl, rfl, ?_⟩
      refine .inr (.inr ⟨_, 3, ⟨[3], _, _, Hand.of rfl rfl (by simp) rfl rfl, hEx, rfl, rfl⟩, rfl, ?_⟩)
      exact ⟨rfl, Nat.zero_le _, rfl, [0, 1, 2], _, _, _, Hand.of rfl rfl (by simp) rfl rfl, catch_pan 0 ln e n, rfl, rfl, _, rfl, wkTup (.cons wz (WkL.refl _)), rfl, .nil _⟩
  · rw [if_pos he] at hr
    subst hr
    refine Ok.enterD (g := 82) hE [.p 0 0, .p 1 0, .p 2 0] 3 Tryz.func61 rfl (by decide +kernel) rfl rfl (Nat.le_of_ble_eq_true rfl) rfl rfl ?_
    refine ⟨by kernel_rfl, ?_⟩
    refine ⟨by kernel_rfl, ?_⟩
    refine ⟨_, CallR.mk1 hL rfl rfl, ?_⟩
    refine ⟨by kernel_rfl, ?_⟩
    refine ⟨_, neT he, ?_⟩
    exact ⟨_, rfl, wkTup (.cons wz (WkL.refl _)), rfl, .nil _⟩
end Go.Proofs.YtkolnkjdcncmpaaGreatDoor.Pr

/- The document's parser, in the pure machine: what it takes, and what begins. -/
namespace Go.Proofs.YtkolnkjdcncmpaaGreatDoor.Pr
open Go Go.RowKit Go.Proofs.YtkolnkjdcncmpaaGreatDoor.Pm Go.Proofs.YtkolnkjdcncmpaaGreatDoor.Pl
open Go.Proofs.YtkolnkjdcncmpaaGreatDoor.Lx (cellsT pT rowT rowT_len rowT_get lexF)
open Go.Proofs.YtkolnkjdcncmpaaGreatDoor.Q (wordL)
set_option linter.unusedVariables false
set_option maxHeartbeats 1000000
/-- where the document's parser stands, and what is wrong -/
structure RS where
  pl : Nat
  e : Int
def zT : Lx.Tok := ⟨0, ⟨#[]⟩, 0, 0⟩
/-! ### what begins -/
end Go.Proofs.YtkolnkjdcncmpaaGreatDoor.Pr

/- The document's parser, in the pure machine: an expression, a text. -/
namespace Go.Proofs.YtkolnkjdcncmpaaGreatDoor.Pr
open Go Go.RowKit Go.Proofs.YtkolnkjdcncmpaaGreatDoor.Pm Go.Proofs.YtkolnkjdcncmpaaGreatDoor.Pl
open Go.Proofs.YtkolnkjdcncmpaaGreatDoor.Lx (cellsT pT rowT rowT_len rowT_get lexF)
open Go.Proofs.YtkolnkjdcncmpaaGreatDoor.Q (wordL)
set_option linter.unusedVariables false
set_option maxHeartbeats 2000000
section
variable (toks : List Lx.Tok)
end
/-! ### there is always a token left -/
def In (toks : List Lx.Tok) (r : RS) : Prop := Good (toks.drop r.pl)
theorem In.get {toks : List Lx.Tok} {r : RS} (h : In toks r) : ∃ t, toks[r.pl]? = some t ∧ toks.getD r.pl zT = t := by
  obtain ⟨t, m, hm⟩ := Good.ne h
  have : toks[r.pl]? = some t := by
    have := congrArg (fun l : List Lx.Tok => l[0]?) hm
    simpa using this
  exact ⟨t, this, by rw [List.getD_eq_getElem?_getD, this]; rfl⟩
theorem In.mk {toks : List Lx.Tok} {p : Nat} {e e' : Int} (h : In toks ⟨p, e⟩) : In toks ⟨p, e'⟩ := h
/-! ### the contract -/
section
variable {toks : List Lx.Tok} {H : List (List PV)}
end
/-- what stands behind the arguments -/
structure ArgS where
  i : Nat
  acc : List Ex
  r : RS
section
variable {toks : List Lx.Tok}
end
end Go.Proofs.YtkolnkjdcncmpaaGreatDoor.Pr

/- The document's Parse; that it tells what the parser tells. -/
namespace Go.Proofs.YtkolnkjdcncmpaaGreatDoor.Pr
open Go Go.RowKit Go.Proofs.YtkolnkjdcncmpaaGreatDoor.Pm Go.Proofs.YtkolnkjdcncmpaaGreatDoor.Pl
open Go.Proofs.YtkolnkjdcncmpaaGreatDoor.Lx (cellsT pT rowT rowT_len rowT_get lexF)
open Go.Proofs.YtkolnkjdcncmpaaGreatDoor.Q (wordL)
set_option linter.unusedVariables false
set_option maxHeartbeats 1000000
theorem lex_few {s : ByteArray} : (lexF s).1.length ≤ 1000000 := by
  unfold lexF
  split
  · simp
  · rename_i hs
    split
    · simp
    · have : ∀ (f : Nat) (l : List UInt8) (p : Nat), (Lx.scanF f l p).length ≤ f := by
        intro f
        induction f with
        | zero => intro l p; simp [Lx.scanF]
        | succ f ih =>
          intro l p
          rw [Lx.scanF]
          try dsimp only
          split
          · simp
          · have := ih (List.drop (Lx.firstF (List.drop (Lx.runB Lx.blanksB l) l)).1.text.size (List.drop (Lx.runB Lx.blanksB l) l)) (p + Lx.runB Lx.blanksB l + (Lx.firstF (List.drop (Lx.runB Lx.blanksB l) l)).1.text.size)
            simp only [List.length_cons]
            omega
      have := this (s.size + 1) s.data.toList 0
      show ((Lx.scan s).map (·.1)).length ≤ _
      rw [List.length_map]
      unfold Lx.scan
      omega
/-! ### the two tell the same -/
structure TokOK (t : Lx.Tok) : Prop where
  word : t.kind = 1 → t.text.data.toList ≠ []
  money : t.kind = 3 → t.n ≤ 1000000000000
  count : t.kind = 2 → t.n ≤ 100000
end Go.Proofs.YtkolnkjdcncmpaaGreatDoor.Pr

/- The two parsers tell the same: in plain words. -/
namespace Go.Proofs.YtkolnkjdcncmpaaGreatDoor.Pr
open Go Go.RowKit Go.Proofs.YtkolnkjdcncmpaaGreatDoor.Pm Go.Proofs.YtkolnkjdcncmpaaGreatDoor.Pl
open Go.Proofs.YtkolnkjdcncmpaaGreatDoor.Lx (cellsT pT rowT rowT_len rowT_get lexF)
open Go.Proofs.YtkolnkjdcncmpaaGreatDoor.Q (wordL)
set_option linter.unusedVariables false
set_option linter.unusedSimpArgs false
set_option maxHeartbeats 1000000
/-! ### steps -/
def Mt {α : Type} (toks : List Lx.Tok) (R : PR α) (a : α) (r : RS) : Prop := match R with
  | .ok b l => a = b ∧ r.e = 0 ∧ toks.drop r.pl = l
  | .er e n => r.e = e ∧ e ≠ 0 ∧ (toks.getD r.pl zT).place = n
theorem Mt.bind {α β : Type} {toks : List Lx.Tok} {R : PR α} {f : α → List Lx.Tok → PR β} {a : α} {b : β} {r1 r2 : RS} (h : Mt toks R a r1) (hd : r1.e ≠ 0 → r2 = r1) (hf : ∀ l, R = .ok a l → r1.e = 0 → toks.drop r1.pl = l → Mt toks (f a l) b r2) : Mt toks (R.bind f) b r2 := by
  cases R with
  | ok a' l =>
    obtain ⟨h1, h2, h3⟩ := h
    subst h1
    exact hf l rfl h2 h3
  | er e n =>
    obtain ⟨h1, h2, h3⟩ := h
    have := hd (by rw [h1]; exact h2)
    subst this
    exact ⟨h1, h2, h3⟩
/-! ### the scanner's tokens -/
end Go.Proofs.YtkolnkjdcncmpaaGreatDoor.Pr

/- Layer 8's helpers (pick, awake), the size of what is parsed, and ParseTells, in the pure machine. -/
namespace Go.Proofs.YtkolnkjdcncmpaaGreatDoor.Pr
open Go Go.RowKit Go.Proofs.YtkolnkjdcncmpaaGreatDoor.Pm Go.Proofs.YtkolnkjdcncmpaaGreatDoor.Pl
open Go.Proofs.YtkolnkjdcncmpaaGreatDoor.Lx (cellsT pT rowT rowT_len rowT_get lexF pkN pkN_eq rowB rowB_get pieceF sz_len sz_getD lawWs signBs nameBs sellerF sliceSV catL)
open Go.Proofs.YtkolnkjdcncmpaaGreatDoor.Q (rngE rngA txtE txtA sameE sameA)
set_option linter.unusedVariables false
set_option maxHeartbeats 1000000
/-! ### what is parsed is small -/
theorem PR.bind_inv {α β : Type} {R : PR α} {f : α → List Lx.Tok → PR β} {b : β} {r : List Lx.Tok} (h : R.bind f = .ok b r) : ∃ a l, R = .ok a l ∧ f a l = .ok b r := by
  cases R with
  | ok a l => exact ⟨a, l, rfl, h⟩
  | er e n => cases h
theorem signP_len {s : ByteArray} {l r : List Lx.Tok} {u : Unit} (h : signP s l = .ok u r) : r.length ≤ l.length := by
  obtain ⟨t, e, -⟩ := signP_ok h; subst e; simp
theorem restP_len {k : Int} {l r : List Lx.Tok} {p : Int × ByteArray} (h : restP k l = .ok p r) : r.length ≤ l.length := by
  unfold restP at h
  have go : ∀ {kind : Int} {pred : Lx.Tok → Bool} {m : List Lx.Tok} {g : Lx.Tok → Int × ByteArray}, ((takeP kind pred m).bind fun t l => .ok (g t) l) = .ok p r → r.length ≤ m.length := by
    intro kind pred m g h
    obtain ⟨t, l1, h1, h2⟩ := PR.bind_inv h
    obtain ⟨-, e⟩ := PR.inj h2
    subst e
    obtain ⟨e, -⟩ := takeP_ok h1
    subst e; simp
  have go2 : ∀ {kind : Int} {pred : Lx.Tok → Bool} {g : Lx.Tok → Int × ByteArray}, ((signP comma l).bind fun _ l => (takeP kind pred l).bind fun t l => .ok (g t) l) = .ok p r → r.length ≤ l.length := by
    intro kind pred g h
    obtain ⟨u, l1, h1, h2⟩ := PR.bind_inv h
    exact Nat.le_trans (go h2) (signP_len h1)
  split at h
  · exact go h
  · split at h
    · exact go2 h
    · split at h
      · exact go2 h
      · split at h
        · exact go h
        · obtain ⟨-, e⟩ := PR.inj h
          subst e
          exact Nat.le_refl _
theorem args_size {d : Nat} (ih : ∀ (c : Bool) {l r : List Lx.Tok} {x : Ex}, exprP d c l = .ok x r → size x + r.length ≤ l.length ∧ deep x ≤ d) (b : Bool) : ∀ (n i : Nat) {l r : List Lx.Tok} {xs : List Ex}, argsP (exprP d) b n i l = .ok xs r → sizeL xs + r.length ≤ l.length ∧ deepL xs ≤ d
  | 0, i, l, r, xs, h => by
    rw [argsP] at h
    obtain ⟨h1, h2⟩ := PR.inj h
    subst h1; subst h2
    exact ⟨by rw [sizeL]; omega, by rw [deepL]; omega⟩
  | n + 1, i, l, r, xs, h => by
    rw [argsP] at h
    obtain ⟨u, l1, h1, h⟩ := PR.bind_inv h
    obtain ⟨x, l2, h2, h⟩ := PR.bind_inv h
    obtain ⟨ys, l3, h3, h⟩ := PR.bind_inv h
    obtain ⟨e1, e2⟩ := PR.inj h
    subst e1; subst e2
    have a1 : l1.length ≤ l.length := by
      split at h1
      · obtain ⟨-, e⟩ := PR.inj h1; subst e; exact Nat.le_refl _
      · exact signP_len h1
    have a2 := ih _ h2
    have a3 := args_size ih b n (i + 1) h3
    exact ⟨by rw [sizeL]; omega, by rw [deepL]; omega⟩
theorem exprP_size : ∀ (d : Nat) (c : Bool) {l r : List Lx.Tok} {x : Ex}, exprP d c l = .ok x r → size x + r.length ≤ l.length ∧ deep x ≤ d
  | d, _, [], r, x, h => by rw [exprP] at h; cases h
  | 0, _, t :: m, r, x, h => by rw [exprP] at h; cases h
  | d + 1, c, t :: m, r, x, h => by
    have ih := @exprP_size d
    rw [exprP] at h
    have leaf : ∀ (k n : Int) (nm : ByteArray), size ⟨k, n, nm, []⟩ + m.length ≤ (t :: m).length ∧ deep ⟨k, n, nm, []⟩ ≤ (d + 1 : Nat) := fun k n nm => by
      rw [size, sizeL, deep, deepL, List.length_cons]; omega
    cases hb : beginK t c with
    | none => rw [hb] at h; cases h
    | some k =>
      rw [hb] at h
      dsimp only at h
      split at h
      · obtain ⟨e1, e2⟩ := PR.inj h; subst e1; subst e2; exact leaf _ _ _
      · split at h
        · obtain ⟨e1, e2⟩ := PR.inj h; subst e1; subst e2; exact leaf _ _ _
        · obtain ⟨u, l1, h1, h⟩ := PR.bind_inv h
          obtain ⟨xs, l2, h2, h⟩ := PR.bind_inv h
          obtain ⟨p, l3, h3, h⟩ := PR.bind_inv h
          obtain ⟨u', l4, h4, h⟩ := PR.bind_inv h
          obtain ⟨e1, e2⟩ := PR.inj h
          subst e1; subst e2
          have b1 := signP_len h1
          have b2 := args_size (@ih) _ _ _ h2
          have b3 := restP_len h3
          have b4 := signP_len h4
          rw [size, deep, List.length_cons]
          omega
theorem parseP_size (s : ByteArray) : size (parseP s).1 ≤ 1000000 ∧ deep (parseP s).1 ≤ 32 := by
  have hf := lex_few (s := s)
  have hz : size zE ≤ 1000000 ∧ deep zE ≤ 32 := by decide
  unfold parseP
  split
  · exact hz
  · unfold finP
    rcases PR.cases (exprP 32 false (lexF s).1) with ⟨x, l, hx⟩ | ⟨e, n, hx⟩
    · have := exprP_size 32 false hx
      rw [hx]
      cases l with
      | nil => exact hz
      | cons t l =>
        dsimp only
        split
        · exact ⟨by show size x ≤ _; omega, by show deep x ≤ _; omega⟩
        · exact hz
    · rw [hx]; exact hz
/-! ### awake -/
end Go.Proofs.YtkolnkjdcncmpaaGreatDoor.Pr
