/- Texts that are merged: PrA, PrB, PrC, PrD, PrE, PrF, PrG, PrH, PrI, PrJ, PrK. -/
import Derived.Test.YtkolnkjdcncmpaaGreatDoorPtAll
import Derived.Test.YtkolnkjdcncmpaaGreatDoorLxAll
import Derived.Test.YtkolnkjdcncmpaaGreatDoorPmBll
import Derived.Test.YtkolnkjdcncmpaaGreatDoorPtBll
/- The parser, in the pure machine: what it takes, where it fails. -/
namespace Go.Proofs.YtkolnkjdcncmpaaGreatDoor.Pr
open Go Go.RowKit Go.Proofs.YtkolnkjdcncmpaaGreatDoor.Pm Go.Proofs.YtkolnkjdcncmpaaGreatDoor.Pl
open Go.Proofs.YtkolnkjdcncmpaaGreatDoor.Lx (cellsT pT rowT rowT_len rowT_get)
set_option linter.unusedVariables false
set_option maxHeartbeats 1000000
/-- the tokens that are left, in their box -/
@[reducible] def tkB (l : List Lx.Tok) : List PV := [.c (.row (rowT l))]
@[reducible] def pan (e n : Int) : PV := .ifc 121 [.int .i64 e, .int .i64 n]
theorem rowT_sz (l : List Lx.Tok) : ∀ x ∈ rowT l, x.length = 4 := by
  intro x hx
  unfold rowT at hx
  obtain ⟨y, -, rfl⟩ := List.mem_map.1 hx
  rfl
theorem fail_pan (t : Lx.Tok) (r : List Lx.Tok) (e : Int) : OkP E 108 [tkB (t :: r)] [.ptr 0 0, pI e] (pan e t.place) := by
  refine OkP.enter hE Tryz.func108 rfl (by decide +kernel) (by kernel_rfl) rfl rfl (Nat.le_of_ble_eq_true rfl) rfl ?_
  refine ⟨_, idxV (j := 0) rfl rfl rfl rfl rfl, ?_⟩
  exact Wk.refl _
theorem callFail {t : Lx.Tok} {r : List Lx.Tok} {e : Int} {H : List (List PV)} (hH : H[0]? = some (tkB (t :: r))) : SCallP E 108 H [.ptr 0 0, pI e] (pan e t.place) :=
  SCallP.of [0] (fail_pan t r e) (Hand.of (by simp [getL, hH]) rfl (by simp) rfl rfl) rfl
section
variable {g : FuncId} {t : Lx.Tok} {r : List Lx.Tok} {b : Bool}
/-- a token that may be -/
theorem take0_ok (hg : Ok E g [] [pT t] (pB true) []) (kind : Int) (h : t.kind = kind) (hk : kind ≠ 5) : Ok E 84 [tkB (t :: r)] [.ptr 0 0, pI kind, .c (.fn g)] (pT t) [tkB r] := by
  refine Ok.enter hE Tryz.func84 rfl (by decide +kernel) (by kernel_rfl) rfl rfl (Nat.le_of_ble_eq_true rfl) rfl ?_
  refine ⟨_, idxV (j := 0) rfl rfl rfl rfl rfl, ?_⟩
  refine ⟨_, neN h, ?_⟩
  refine .inl ⟨_, _, SCallR.none hg rfl rfl, ?_⟩
  refine ⟨_, neT hk, ?_⟩
  refine ⟨_, sliceRV 1 (rowT (t :: r)).length rfl rfl rfl rfl (by simp [rowT_len]) (rowT_sz _), ?_⟩
  refine ⟨_, rfl, Wk.refl _, rfl, .cons (d := tkB r) ?_ rfl (.nil _)⟩
  rw [show ([PV.c (.row (((rowT (t :: r)).take (rowT (t :: r)).length).drop 1))] : List PV) = tkB r by rw [List.take_length]; rfl]
  exact WkL.refl _
theorem take0_end (hg : Ok E g [] [pT t] (pB true) []) (h : t.kind = 5) : Ok E 84 [tkB (t :: r)] [.ptr 0 0, pI 5, .c (.fn g)] (pT t) [tkB (t :: r)] := by
  refine Ok.enter hE Tryz.func84 rfl (by decide +kernel) (by kernel_rfl) rfl rfl (Nat.le_of_ble_eq_true rfl) rfl ?_
  refine ⟨_, idxV (j := 0) rfl rfl rfl rfl rfl, ?_⟩
  refine ⟨_, neN h, ?_⟩
  refine .inl ⟨_, _, SCallR.none hg rfl rfl, ?_⟩
  refine ⟨_, neN rfl, ?_⟩
  exact ⟨_, rfl, Wk.refl _, rfl, .cons (WkL.refl _) rfl (.nil _)⟩
theorem take0_kind (kind : Int) (h : t.kind ≠ kind) : OkP E 84 [tkB (t :: r)] [.ptr 0 0, pI kind, .c (.fn g)] (pan 80 t.place) := by
  refine OkP.enter hE Tryz.func84 rfl (by decide +kernel) (by kernel_rfl) rfl rfl (Nat.le_of_ble_eq_true rfl) rfl ?_
  refine ⟨_, idxV (j := 0) rfl rfl rfl rfl rfl, ?_⟩
  refine ⟨_, neT h, ?_⟩
  refine .inr (.inl ⟨_, callFail (r := r) rfl, ?_⟩)
  exact Wk.refl _
theorem take0_not (hg : Ok E g [] [pT t] (pB false) []) (kind : Int) (h : t.kind = kind) : OkP E 84 [tkB (t :: r)] [.ptr 0 0, pI kind, .c (.fn g)] (pan 80 t.place) := by
  refine OkP.enter hE Tryz.func84 rfl (by decide +kernel) (by kernel_rfl) rfl rfl (Nat.le_of_ble_eq_true rfl) rfl ?_
  refine ⟨_, idxV (j := 0) rfl rfl rfl rfl rfl, ?_⟩
  refine ⟨_, neN h, ?_⟩
  refine .inl ⟨_, _, SCallR.none hg rfl rfl, ?_⟩
  refine .inr (.inl ⟨_, callFail (r := r) rfl, ?_⟩)
  exact Wk.refl _
/-! ### the same, asked by a function that holds a variable -/
theorem take1_ok {bx : List PV} (hb : bx.all PV.closed = true) (hg : Ok E g [bx] [pT t, .ptr 0 0] (pB true) [bx]) (kind : Int) (h : t.kind = kind) (hk : kind ≠ 5) : Ok E 84 [tkB (t :: r), bx] [.ptr 0 0, pI kind, .clos g [] [.p 1 0]] (pT t) [tkB r, bx] := by
  refine Ok.enter hE Tryz.func84 rfl (by decide +kernel) (by kernel_rfl) rfl (by simp [hb]; rfl) (Nat.le_of_ble_eq_true rfl) rfl ?_
  refine ⟨_, idxV (j := 0) rfl rfl rfl rfl rfl, ?_⟩
  refine ⟨_, neN h, ?_⟩
  refine .inl ⟨_, _, SCallR.of [1] hg (Hand.of rfl rfl (by simp) (by simp [hb]) rfl) rfl (by simp [hb]) rfl, ?_⟩
  refine ⟨_, neT hk, ?_⟩
  refine ⟨_, sliceRV 1 (rowT (t :: r)).length rfl rfl rfl rfl (by simp [rowT_len]) (rowT_sz _), ?_⟩
  refine ⟨_, rfl, Wk.refl _, rfl, .cons (d := tkB r) ?_ rfl (.cons (WkL.refl _) hb (.nil _))⟩
  rw [show ([PV.c (.row (((rowT (t :: r)).take (rowT (t :: r)).length).drop 1))] : List PV) = tkB r by rw [List.take_length]; rfl]
  exact WkL.refl _
theorem take1_kind {bx : List PV} (hb : bx.all PV.closed = true) (kind : Int) (h : t.kind ≠ kind) : OkP E 84 [tkB (t :: r), bx] [.ptr 0 0, pI kind, .clos g [] [.p 1 0]] (pan 80 t.place) := by
  refine OkP.enter hE Tryz.func84 rfl (by decide +kernel) (by kernel_rfl) rfl (by simp [hb]; rfl) (Nat.le_of_ble_eq_true rfl) rfl ?_
  refine ⟨_, idxV (j := 0) rfl rfl rfl rfl rfl, ?_⟩
  refine ⟨_, neT h, ?_⟩
  refine .inr (.inl ⟨_, callFail (r := r) rfl, ?_⟩)
  exact Wk.refl _
theorem take1_not {bx : List PV} (hb : bx.all PV.closed = true) (hg : Ok E g [bx] [pT t, .ptr 0 0] (pB false) [bx]) (kind : Int) (h : t.kind = kind) : OkP E 84 [tkB (t :: r), bx] [.ptr 0 0, pI kind, .clos g [] [.p 1 0]] (pan 80 t.place) := by
  refine OkP.enter hE Tryz.func84 rfl (by decide +kernel) (by kernel_rfl) rfl (by simp [hb]; rfl) (Nat.le_of_ble_eq_true rfl) rfl ?_
  refine ⟨_, idxV (j := 0) rfl rfl rfl rfl rfl, ?_⟩
  refine ⟨_, neN h, ?_⟩
  refine .inl ⟨_, _, SCallR.of [1] hg (Hand.of rfl rfl (by simp) (by simp [hb]) rfl) rfl (by simp [hb]) rfl, ?_⟩
  refine .inr (.inl ⟨_, callFail (r := r) rfl, ?_⟩)
  exact Wk.refl _
end
end Go.Proofs.YtkolnkjdcncmpaaGreatDoor.Pr

/- The parser, in the pure machine: signs, the kind that begins. -/
namespace Go.Proofs.YtkolnkjdcncmpaaGreatDoor.Pr
open Go Go.RowKit Go.Proofs.YtkolnkjdcncmpaaGreatDoor.Pm Go.Proofs.YtkolnkjdcncmpaaGreatDoor.Pl
open Go.Proofs.YtkolnkjdcncmpaaGreatDoor.Lx (cellsT pT rowT rowT_len rowT_get)
set_option linter.unusedVariables false
set_option maxHeartbeats 1000000
/-! ### the functions that are asked whether a token may be -/
theorem any_ok (t : Lx.Tok) : Ok E 85 [] [pT t] (pB true) [] := by
  refine Ok.enter hE Tryz.func85 rfl (by decide +kernel) (by kernel_rfl) rfl rfl (Nat.le_of_ble_eq_true rfl) rfl ?_
  exact Ret.mk _ rfl rfl rfl
theorem sign1_ok (t : Lx.Tok) (s : ByteArray) {b : Bool} (hb : (t.text.toList == s.toList) = b) : Ok E 142 [[pS s]] [pT t, .ptr 0 0] (pB b) [[pS s]] := by
  refine Ok.enter hE Tryz.func142 rfl (by decide +kernel) (by kernel_rfl) rfl rfl (Nat.le_of_ble_eq_true rfl) rfl ?_
  refine ⟨_, strEqV (c := b) hb, ?_⟩
  exact ⟨_, rfl, Wk.refl _, rfl, .cons (WkL.refl _) rfl (.nil _)⟩
theorem rest1_ok (t : Lx.Tok) (m : Int) {b : Bool} (hb : decide (t.n ≤ m) = b) : Ok E 143 [[pI m]] [pT t, .ptr 0 0] (pB b) [[pI m]] := by
  refine Ok.enter hE Tryz.func143 rfl (by decide +kernel) (by kernel_rfl) rfl rfl (Nat.le_of_ble_eq_true rfl) rfl ?_
  refine ⟨_, leV (c := b) hb, ?_⟩
  exact ⟨_, rfl, Wk.refl _, rfl, .cons (WkL.refl _) rfl (.nil _)⟩
theorem rest2_ok (t : Lx.Tok) {b : Bool} (hb : Lx.isName t.text = b) : Ok E 144 [] [pT t] (pB b) [] := by
  have hN := Lx.Name_ok t.text
  rw [hb] at hN
  refine Ok.enter hE Tryz.func144 rfl (by decide +kernel) (by kernel_rfl) rfl rfl (Nat.le_of_ble_eq_true rfl) rfl ?_
  refine ⟨_, CallR.mk1 hN rfl rfl, ?_⟩
  exact Ret.mk _ rfl rfl rfl
/-! ### signs -/
section
variable {t : Lx.Tok} {r : List Lx.Tok} {s : ByteArray}
def isSign (t : Lx.Tok) (s : ByteArray) : Bool := (t.kind == 4) && (t.text.toList == s.toList)
theorem sign_ok (h : isSign t s = true) : Ok E 110 [tkB (t :: r)] [.ptr 0 0, pS s] (.tup []) [tkB r] := by
  unfold isSign at h
  rw [Bool.and_eq_true] at h
  have hT := take1_ok (r := r) rfl (sign1_ok t s h.2) 4 (by simpa using h.1) (by decide)
  refine Ok.enter hE Tryz.func110 rfl (by decide +kernel) (by kernel_rfl) rfl rfl (Nat.le_of_ble_eq_true rfl) rfl ?_
  refine .inl ⟨_, _, SCallR.of [0, 1] hT (Hand.of rfl rfl (by simp) rfl rfl) rfl rfl rfl, ?_⟩
  exact ⟨_, rfl, Wk.refl _, rfl, .cons (WkL.refl _) rfl (.nil _)⟩
theorem sign_no (h : isSign t s = false) : OkP E 110 [tkB (t :: r)] [.ptr 0 0, pS s] (pan 80 t.place) := by
  have hT : OkP E 84 [tkB (t :: r), [pS s]] [.ptr 0 0, pI 4, .clos 142 [] [.p 1 0]] (pan 80 t.place) := by
    by_cases hk : t.kind = 4
    · refine take1_not rfl (sign1_ok t s ?_) 4 hk
      unfold isSign at h
      rw [hk] at h
      simpa using h
    · exact take1_kind rfl 4 hk
  refine OkP.enter hE Tryz.func110 rfl (by decide +kernel) (by kernel_rfl) rfl rfl (Nat.le_of_ble_eq_true rfl) rfl ?_
  refine .inr (.inl ⟨_, SCallP.of [0, 1] hT (Hand.of rfl rfl (by simp) rfl rfl) rfl, ?_⟩)
  exact Wk.refl _
end
/-! ### what begins -/
def wordP (k : Int) : ByteArray := (formP k).1
def isWord (t : Lx.Tok) (k : Int) : Bool := (t.kind == 1) && ((t.text.toList == (wordP k).toList) && !((wordP k).toList == (⟨#[]⟩ : ByteArray).toList))
def firstK (cond : Bool) : Int := match cond with
  | true => 11
  | false => 1
def manyK (cond : Bool) : Nat := match cond with
  | true => 2
  | false => 10
def findW (t : Lx.Tok) (lo : Int) : Nat → Option Int
  | 0 => none
  | n + 1 => match isWord t lo with
    | true => some lo
    | false => findW t (lo + 1) n
theorem findW_some {t : Lx.Tok} : ∀ {n : Nat} {lo k : Int}, findW t lo n = some k → ∃ j : Nat, j < n ∧ k = lo + j ∧ (∀ i : Nat, i < j → isWord t (lo + i) = false) ∧ isWord t (lo + j) = true
  | 0, lo, k, h => by simp [findW] at h
  | n + 1, lo, k, h => by
    unfold findW at h
    split at h
    · rename_i hw
      injection h with h; subst h
      exact ⟨0, by omega, by omega, fun i hi => by omega, by simpa using hw⟩
    · rename_i hw
      obtain ⟨j, h1, h2, h3, h4⟩ := findW_some h
      refine ⟨j + 1, by omega, by omega, fun i hi => ?_, by rw [show lo + ((j + 1 : Nat) : Int) = lo + 1 + j by omega]; exact h4⟩
      cases i with
      | zero => simpa using hw
      | succ i => rw [show lo + ((i + 1 : Nat) : Int) = lo + 1 + i by omega]; exact h3 i (by omega)
theorem findW_none {t : Lx.Tok} : ∀ {n : Nat} {lo : Int}, findW t lo n = none → ∀ i : Nat, i < n → isWord t (lo + i) = false
  | 0, lo, h, i, hi => by omega
  | n + 1, lo, h, i, hi => by
    unfold findW at h
    split at h
    · cases h
    · rename_i hw
      cases i with
      | zero => simpa using hw
      | succ i => rw [show lo + ((i + 1 : Nat) : Int) = lo + 1 + i by omega]; exact findW_none h i (by omega)
/-- the kind of what begins here -/
def beginK (t : Lx.Tok) (cond : Bool) : Option Int := if t.kind = 3 ∧ cond = false then some 4 else findW t (firstK cond) (manyK cond)
theorem begins_money {t : Lx.Tok} {r : List Lx.Tok} (h : t.kind = 3) : Ok E 109 [tkB (t :: r)] [.ptr 0 0, pB false] (pI 4) [tkB (t :: r)] := by
  refine Ok.enter hE Tryz.func109 rfl (by decide +kernel) (by kernel_rfl) rfl rfl (Nat.le_of_ble_eq_true rfl) rfl ?_
  refine ⟨_, idxV (j := 0) rfl rfl rfl rfl rfl, ?_⟩
  refine ⟨_, eqT h, ?_⟩
  exact ⟨_, rfl, Wk.refl _, rfl, .cons (WkL.refl _) rfl (.nil _)⟩
theorem isWord_kind {t : Lx.Tok} {k : Int} (h : isWord t k = true) : t.kind = 1 := by
  unfold isWord at h
  rw [Bool.and_eq_true] at h
  simpa using h.1
theorem begins_word {t : Lx.Tok} {r : List Lx.Tok} {cond : Bool} {k : Nat} (hk : k < manyK cond) (hno : ∀ i : Nat, i < k → isWord t (firstK cond + i) = false) (hat : isWord t (firstK cond + k) = true) : Ok E 109 [tkB (t :: r)] [.ptr 0 0, pB cond] (pI (firstK cond + k)) [tkB (t :: r)] := by
  have h1 := isWord_kind hat
  have hw := hat
  unfold isWord at hw
  rw [Bool.and_eq_true, Bool.and_eq_true] at hw
  have loop : ∀ (f : Nat) (lst : Int), lst = firstK cond + manyK cond - 1 → True := fun _ _ _ => trivial
  cases cond
  · refine Ok.enter hE Tryz.func109 rfl (by decide +kernel) (by kernel_rfl) rfl rfl (Nat.le_of_ble_eq_true rfl) rfl ?_
    refine ⟨_, idxV (j := 0) rfl rfl rfl rfl rfl, ?_⟩
    refine ⟨_, eqN (by omega), ?_⟩
    refine Loop.run (α := Nat) (fun j => j ≤ k) (fun j => [(0, .ptr 0 0), (5, .ptr 1 0), (7, pI 10), (8, pI (1 + (j : Int)))]) (fun _ => [tkB (t :: r), [pI t.kind, pS t.text, pI t.n, pI t.place]]) (fun _ => []) (fun j => k - j) 0 (Nat.zero_le _) ⟨⟨rfl, rfl, rfl, rfl, trivial⟩, rfl, rfl⟩ ?_
    intro j f hj
    have hkk : k < 10 := hk
    refine ⟨_, leT (by omega), ?_⟩
    refine ⟨_, CallR.mk1 (Form_ok _) rfl rfl, ?_⟩
    refine ⟨_, eqT h1, ?_⟩
    rcases Nat.lt_or_ge j k with hlt | hge
    · have hn := hno j hlt
      unfold isWord at hn
      rw [h1] at hn
      rw [show ((1 : Int) == 1) = true from rfl, Bool.true_and] at hn
      rcases Bool.eq_false_or_eq_true (t.text.toList == (wordP (firstK false + (j : Int))).toList) with he | he
      · rw [he, Bool.true_and] at hn
        refine ⟨_, strEqV (c := true) he, ?_⟩
        refine ⟨_, strNeV (c := false) hn, ?_⟩
        refine ⟨_, addV (z := 1 + ((j + 1 : Nat) : Int)) (by omega) (by omega) (by omega), ?_⟩
        exact ⟨j + 1, by omega, by omega, ⟨rfl, rfl, rfl, rfl, trivial⟩, rfl, rfl⟩
      · refine ⟨_, strEqV (c := false) he, ?_⟩
        refine ⟨_, addV (z := 1 + ((j + 1 : Nat) : Int)) (by omega) (by omega) (by omega), ?_⟩
        exact ⟨j + 1, by omega, by omega, ⟨rfl, rfl, rfl, rfl, trivial⟩, rfl, rfl⟩
    · have : j = k := by omega
      subst this
      refine ⟨_, strEqV (c := true) hw.2.1, ?_⟩
      refine ⟨_, strNeV (c := true) hw.2.2, ?_⟩
      exact ⟨_, rfl, Wk.refl _, rfl, .cons (WkL.refl _) rfl (.nil _)⟩
  · refine Ok.enter hE Tryz.func109 rfl (by decide +kernel) (by kernel_rfl) rfl rfl (Nat.le_of_ble_eq_true rfl) rfl ?_
    refine ⟨_, idxV (j := 0) rfl rfl rfl rfl rfl, ?_⟩
    refine ⟨_, eqN (by omega), ?_⟩
    refine Loop.run (α := Nat) (fun j => j ≤ k) (fun j => [(0, .ptr 0 0), (5, .ptr 1 0), (7, pI 12), (8, pI (11 + (j : Int)))]) (fun _ => [tkB (t :: r), [pI t.kind, pS t.text, pI t.n, pI t.place]]) (fun _ => []) (fun j => k - j) 0 (Nat.zero_le _) ⟨⟨rfl, rfl, rfl, rfl, trivial⟩, rfl, rfl⟩ ?_
    intro j f hj
    have hkk : k < 2 := hk
    refine ⟨_, leT (by omega), ?_⟩
    refine ⟨_, CallR.mk1 (Form_ok _) rfl rfl, ?_⟩
    refine ⟨_, eqT h1, ?_⟩
    rcases Nat.lt_or_ge j k with hlt | hge
    · have hn := hno j hlt
      unfold isWord at hn
      rw [h1] at hn
      rw [show ((1 : Int) == 1) = true from rfl, Bool.true_and] at hn
      rcases Bool.eq_false_or_eq_true (t.text.toList == (wordP (firstK true + (j : Int))).toList) with he | he
      · rw [he, Bool.true_and] at hn
        refine ⟨_, strEqV (c := true) he, ?_⟩
        refine ⟨_, strNeV (c := false) hn, ?_⟩
        refine ⟨_, addV (z := 11 + ((j + 1 : Nat) : Int)) (by omega) (by omega) (by omega), ?_⟩
        exact ⟨j + 1, by omega, by omega, ⟨rfl, rfl, rfl, rfl, trivial⟩, rfl, rfl⟩
      · refine ⟨_, strEqV (c := false) he, ?_⟩
        refine ⟨_, addV (z := 11 + ((j + 1 : Nat) : Int)) (by omega) (by omega) (by omega), ?_⟩
        exact ⟨j + 1, by omega, by omega, ⟨rfl, rfl, rfl, rfl, trivial⟩, rfl, rfl⟩
    · have : j = k := by omega
      subst this
      refine ⟨_, strEqV (c := true) hw.2.1, ?_⟩
      refine ⟨_, strNeV (c := true) hw.2.2, ?_⟩
      exact ⟨_, rfl, Wk.refl _, rfl, .cons (WkL.refl _) rfl (.nil _)⟩
theorem begins_no {t : Lx.Tok} {r : List Lx.Tok} {cond : Bool} (h3 : ¬ (t.kind = 3 ∧ cond = false)) (hno : ∀ i : Nat, i < manyK cond → isWord t (firstK cond + i) = false) : OkP E 109 [tkB (t :: r)] [.ptr 0 0, pB cond] (pan 80 t.place) := by
  cases cond
  · refine OkP.enter hE Tryz.func109 rfl (by decide +kernel) (by kernel_rfl) rfl rfl (Nat.le_of_ble_eq_true rfl) rfl ?_
    refine ⟨_, idxV (j := 0) rfl rfl rfl rfl rfl, ?_⟩
    refine ⟨_, eqN (by simpa using h3), ?_⟩
    refine Loop.run (α := Nat) (fun j => j ≤ 10) (fun j => [(0, .ptr 0 0), (5, .ptr 1 0), (7, pI 10), (8, pI (1 + (j : Int)))]) (fun _ => [tkB (t :: r), [pI t.kind, pS t.text, pI t.n, pI t.place]]) (fun _ => []) (fun j => 10 - j) 0 (Nat.zero_le _) ⟨⟨rfl, rfl, rfl, rfl, trivial⟩, rfl, rfl⟩ ?_
    intro j f hj
    rcases Nat.lt_or_ge j 10 with hlt | hge
    · have hn := hno j hlt
      refine ⟨_, leT (by omega), ?_⟩
      refine ⟨_, CallR.mk1 (Form_ok _) rfl rfl, ?_⟩
      by_cases h1 : t.kind = 1
      · unfold isWord at hn
        rw [h1] at hn
        rw [show ((1 : Int) == 1) = true from rfl, Bool.true_and] at hn
        refine ⟨_, eqT h1, ?_⟩
        rcases Bool.eq_false_or_eq_true (t.text.toList == (wordP (firstK false + (j : Int))).toList) with he | he
        · rw [he, Bool.true_and] at hn
          refine ⟨_, strEqV (c := true) he, ?_⟩
          refine ⟨_, strNeV (c := false) hn, ?_⟩
          refine ⟨_, addV (z := 1 + ((j + 1 : Nat) : Int)) (by omega) (by omega) (by omega), ?_⟩
          exact ⟨j + 1, by omega, by omega, ⟨rfl, rfl, rfl, rfl, trivial⟩, rfl, rfl⟩
        · refine ⟨_, strEqV (c := false) he, ?_⟩
          refine ⟨_, addV (z := 1 + ((j + 1 : Nat) : Int)) (by omega) (by omega) (by omega), ?_⟩
          exact ⟨j + 1, by omega, by omega, ⟨rfl, rfl, rfl, rfl, trivial⟩, rfl, rfl⟩
      · refine ⟨_, eqN h1, ?_⟩
        refine ⟨_, addV (z := 1 + ((j + 1 : Nat) : Int)) (by omega) (by omega) (by omega), ?_⟩
        exact ⟨j + 1, by omega, by omega, ⟨rfl, rfl, rfl, rfl, trivial⟩, rfl, rfl⟩
    · refine ⟨_, leN (by omega), ?_⟩
      refine .inr (.inl ⟨_, callFail (r := r) rfl, ?_⟩)
      exact Wk.refl _
  · refine OkP.enter hE Tryz.func109 rfl (by decide +kernel) (by kernel_rfl) rfl rfl (Nat.le_of_ble_eq_true rfl) rfl ?_
    refine ⟨_, idxV (j := 0) rfl rfl rfl rfl rfl, ?_⟩
    have key : ∀ b : Bool, (t.kind == 3) = b → True := fun _ _ => trivial
    rcases Bool.eq_false_or_eq_true (t.kind == 3) with h3b | h3b
    · refine ⟨_, eqV (c := true) h3b, ?_⟩
      refine Loop.run (α := Nat) (fun j => j ≤ 2) (fun j => [(0, .ptr 0 0), (5, .ptr 1 0), (7, pI 12), (8, pI (11 + (j : Int)))]) (fun _ => [tkB (t :: r), [pI t.kind, pS t.text, pI t.n, pI t.place]]) (fun _ => []) (fun j => 2 - j) 0 (Nat.zero_le _) ⟨⟨rfl, rfl, rfl, rfl, trivial⟩, rfl, rfl⟩ ?_
      intro j f hj
      rcases Nat.lt_or_ge j 2 with hlt | hge
      · have h1 : t.kind ≠ 1 := by have : t.kind = 3 := by simpa using h3b
                                   omega
        refine ⟨_, leT (by omega), ?_⟩
        refine ⟨_, CallR.mk1 (Form_ok _) rfl rfl, ?_⟩
        refine ⟨_, eqN h1, ?_⟩
        refine ⟨_, addV (z := 11 + ((j + 1 : Nat) : Int)) (by omega) (by omega) (by omega), ?_⟩
        exact ⟨j + 1, by omega, by omega, ⟨rfl, rfl, rfl, rfl, trivial⟩, rfl, rfl⟩
      · refine ⟨_, leN (by omega), ?_⟩
        refine .inr (.inl ⟨_, callFail (r := r) rfl, ?_⟩)
        exact Wk.refl _
    · refine ⟨_, eqV (c := false) h3b, ?_⟩
      refine Loop.run (α := Nat) (fun j => j ≤ 2) (fun j => [(0, .ptr 0 0), (5, .ptr 1 0), (7, pI 12), (8, pI (11 + (j : Int)))]) (fun _ => [tkB (t :: r), [pI t.kind, pS t.text, pI t.n, pI t.place]]) (fun _ => []) (fun j => 2 - j) 0 (Nat.zero_le _) ⟨⟨rfl, rfl, rfl, rfl, trivial⟩, rfl, rfl⟩ ?_
      intro j f hj
      rcases Nat.lt_or_ge j 2 with hlt | hge
      · have hn := hno j hlt
        refine ⟨_, leT (by omega), ?_⟩
        refine ⟨_, CallR.mk1 (Form_ok _) rfl rfl, ?_⟩
        by_cases h1 : t.kind = 1
        · unfold isWord at hn
          rw [h1] at hn
          rw [show ((1 : Int) == 1) = true from rfl, Bool.true_and] at hn
          refine ⟨_, eqT h1, ?_⟩
          rcases Bool.eq_false_or_eq_true (t.text.toList == (wordP (firstK true + (j : Int))).toList) with he | he
          · rw [he, Bool.true_and] at hn
            refine ⟨_, strEqV (c := true) he, ?_⟩
            refine ⟨_, strNeV (c := false) hn, ?_⟩
            refine ⟨_, addV (z := 11 + ((j + 1 : Nat) : Int)) (by omega) (by omega) (by omega), ?_⟩
            exact ⟨j + 1, by omega, by omega, ⟨rfl, rfl, rfl, rfl, trivial⟩, rfl, rfl⟩
          · refine ⟨_, strEqV (c := false) he, ?_⟩
            refine ⟨_, addV (z := 11 + ((j + 1 : Nat) : Int)) (by omega) (by omega) (by omega), ?_⟩
            exact ⟨j + 1, by omega, by omega, ⟨rfl, rfl, rfl, rfl, trivial⟩, rfl, rfl⟩
        · refine ⟨_, eqN h1, ?_⟩
          refine ⟨_, addV (z := 11 + ((j + 1 : Nat) : Int)) (by omega) (by omega) (by omega), ?_⟩
          exact ⟨j + 1, by omega, by omega, ⟨rfl, rfl, rfl, rfl, trivial⟩, rfl, rfl⟩
      · refine ⟨_, leN (by omega), ?_⟩
        refine .inr (.inl ⟨_, callFail (r := r) rfl, ?_⟩)
        exact Wk.refl _
theorem begins_ok {t : Lx.Tok} {r : List Lx.Tok} {cond : Bool} {k : Int} (h : beginK t cond = some k) : Ok E 109 [tkB (t :: r)] [.ptr 0 0, pB cond] (pI k) [tkB (t :: r)] := by
  unfold beginK at h
  split at h
  · rename_i hc
    injection h with h; subst h
    rw [hc.2]
    exact begins_money hc.1
  · obtain ⟨j, h1, rfl, h3, h4⟩ := findW_some h
    exact begins_word h1 h3 h4
theorem begins_pan {t : Lx.Tok} {r : List Lx.Tok} {cond : Bool} (h : beginK t cond = none) : OkP E 109 [tkB (t :: r)] [.ptr 0 0, pB cond] (pan 80 t.place) := by
  unfold beginK at h
  split at h
  · cases h
  · rename_i hc
    exact begins_no hc (findW_none h)
theorem beginK_rng {t : Lx.Tok} {cond : Bool} {k : Int} (h : beginK t cond = some k) : firstK cond ≤ k ∧ k < firstK cond + manyK cond ∧ (k = 4 ∨ isWord t k = true) := by
  unfold beginK at h
  split at h
  · rename_i hc
    injection h with h; subst h
    rw [hc.2]
    exact ⟨by decide, by decide, .inl rfl⟩
  · obtain ⟨j, h1, rfl, h3, h4⟩ := findW_some h
    exact ⟨by omega, by omega, .inr h4⟩
end Go.Proofs.YtkolnkjdcncmpaaGreatDoor.Pr

/- The parser, in plain words; what stands behind the arguments. -/
namespace Go.Proofs.YtkolnkjdcncmpaaGreatDoor.Pr
open Go Go.RowKit Go.Proofs.YtkolnkjdcncmpaaGreatDoor.Pm Go.Proofs.YtkolnkjdcncmpaaGreatDoor.Pl
open Go.Proofs.YtkolnkjdcncmpaaGreatDoor.Lx (cellsT pT rowT rowT_len rowT_get)
set_option linter.unusedVariables false
set_option maxHeartbeats 1000000
/-- what parsing a part tells: that part, and the tokens behind it; or an error and its place -/
inductive PR (α : Type) where
  | ok (a : α) (l : List Lx.Tok)
  | er (e n : Int)
theorem PR.cases {α : Type} (R : PR α) : (∃ a l, R = .ok a l) ∨ ∃ e n, R = .er e n := by
  cases R with
  | ok a l => exact .inl ⟨a, l, rfl⟩
  | er e n => exact .inr ⟨e, n, rfl⟩
theorem PR.inj {α : Type} {a b : α} {l m : List Lx.Tok} (h : PR.ok a l = PR.ok b m) : a = b ∧ l = m := by cases h; exact ⟨rfl, rfl⟩
theorem PR.inje {α : Type} {e n e' n' : Int} (h : (PR.er e n : PR α) = PR.er e' n') : e = e' ∧ n = n' := by cases h; exact ⟨rfl, rfl⟩
def PR.bind {α β : Type} (R : PR α) (f : α → List Lx.Tok → PR β) : PR β := match R with
  | .ok a l => f a l
  | .er e n => .er e n
theorem PR.bind_ok {α β : Type} {a : α} {l : List Lx.Tok} {f : α → List Lx.Tok → PR β} : (PR.ok a l).bind f = f a l := rfl
theorem PR.bind_er {α β : Type} {e n : Int} {f : α → List Lx.Tok → PR β} : (PR.er e n : PR α).bind f = .er e n := rfl
/-- the end stands last -/
def Good : List Lx.Tok → Prop
  | [] => False
  | [t] => t.kind = 5
  | _ :: l => Good l
theorem Good.ne {l : List Lx.Tok} (h : Good l) : ∃ t r, l = t :: r := by
  cases l with
  | nil => exact h.elim
  | cons t r => exact ⟨t, r, rfl⟩
theorem Good.tail {t : Lx.Tok} {r : List Lx.Tok} (h : Good (t :: r)) (hk : t.kind ≠ 5) : Good r := by
  cases r with
  | nil => exact absurd h hk
  | cons u r => exact h
def takeP (kind : Int) (pred : Lx.Tok → Bool) : List Lx.Tok → PR Lx.Tok
  | [] => .er 0 0
  | t :: r => if t.kind = kind ∧ pred t = true then .ok t r else .er 80 t.place
def signP (s : ByteArray) : List Lx.Tok → PR Unit
  | [] => .er 0 0
  | t :: r => if isSign t s = true then .ok () r else .er 80 t.place
def comma : ByteArray := ⟨#[44]⟩
def openS : ByteArray := ⟨#[40]⟩
def shutS : ByteArray := ⟨#[41]⟩
def mostP (k : Int) : Int := (formP k).2.1
/-- the number and the name of an expression, from behind its arguments -/
def restP (k : Int) (l : List Lx.Tok) : PR (Int × ByteArray) :=
  if k = 3 then (takeP 1 (fun t => Lx.isName t.text) l).bind fun t l => .ok (0, t.text) l
  else if k = 5 then (signP comma l).bind fun _ l => (takeP 3 (fun t => decide (t.n ≤ mostP k)) l).bind fun t l => .ok (t.n, e0) l
  else if k = 6 then (signP comma l).bind fun _ l => (takeP 2 (fun t => decide (t.n ≤ mostP k)) l).bind fun t l => .ok (t.n, e0) l
  else if k = 11 then (takeP 2 (fun t => decide (t.n ≤ mostP k)) l).bind fun t l => .ok (t.n, e0) l
  else .ok (0, e0) l
theorem isSign_kind {t : Lx.Tok} {s : ByteArray} (h : isSign t s = true) : t.kind = 4 := by
  unfold isSign at h
  rw [Bool.and_eq_true] at h
  simpa using h.1
theorem takeP_ok {kind : Int} {pred : Lx.Tok → Bool} {l r : List Lx.Tok} {t : Lx.Tok} (h : takeP kind pred l = .ok t r) : l = t :: r ∧ t.kind = kind ∧ pred t = true := by
  cases l with
  | nil => simp [takeP] at h
  | cons u m =>
    rw [takeP] at h
    split at h
    · rename_i hc
      injection h with h1 h2
      subst h1; subst h2
      exact ⟨rfl, hc⟩
    · cases h
theorem takeP_er {kind : Int} {pred : Lx.Tok → Bool} {t : Lx.Tok} {r : List Lx.Tok} {e n : Int} (h : takeP kind pred (t :: r) = .er e n) : e = 80 ∧ n = t.place ∧ (t.kind ≠ kind ∨ (t.kind = kind ∧ pred t = false)) := by
  rw [takeP] at h
  split at h
  · cases h
  · rename_i hc
    injection h with h1 h2
    refine ⟨h1.symm, h2.symm, ?_⟩
    by_cases hk : t.kind = kind
    · exact .inr ⟨hk, by simpa [hk] using hc⟩
    · exact .inl hk
theorem signP_ok {s : ByteArray} {l r : List Lx.Tok} {u : Unit} (h : signP s l = .ok u r) : ∃ t, l = t :: r ∧ isSign t s = true := by
  cases l with
  | nil => simp [signP] at h
  | cons t m =>
    rw [signP] at h
    split at h
    · rename_i hc
      injection h with h1 h2
      subst h2
      exact ⟨t, rfl, hc⟩
    · cases h
theorem signP_er {s : ByteArray} {t : Lx.Tok} {r : List Lx.Tok} {e n : Int} (h : signP s (t :: r) = .er e n) : e = 80 ∧ n = t.place ∧ isSign t s = false := by
  rw [signP] at h
  split at h
  · cases h
  · rename_i hc
    injection h with h1 h2
    exact ⟨h1.symm, h2.symm, by simpa using hc⟩
/-! ### calls of them -/
section
variable {H : List (List PV)} {l : List Lx.Tok}
theorem callSign {s : ByteArray} {r : List Lx.Tok} {u : Unit} (hR : signP s l = .ok u r) (hH : H[0]? = some (tkB l)) : SCallR E 110 H [.ptr 0 0, pS s] (.tup []) (H.set 0 (tkB r)) := by
  obtain ⟨t, rfl, ht⟩ := signP_ok hR
  exact SCallR.one (i := 0) (sign_ok ht) (by simp [getL, hH]) rfl rfl rfl rfl rfl
theorem panSign {s : ByteArray} (hg : Good l) {e n : Int} (hR : signP s l = .er e n) (hH : H[0]? = some (tkB l)) : SCallP E 110 H [.ptr 0 0, pS s] (pan e n) := by
  obtain ⟨t, r, rfl⟩ := hg.ne
  obtain ⟨rfl, rfl, ht⟩ := signP_er hR
  exact SCallP.of [0] (sign_no (r := r) ht) (Hand.of (by simp [getL, hH]) rfl (by simp) rfl rfl) rfl
end
theorem signP_good {s : ByteArray} {l r : List Lx.Tok} {u : Unit} (hg : Good l) (hR : signP s l = .ok u r) : Good r := by
  obtain ⟨t, rfl, ht⟩ := signP_ok hR
  exact hg.tail (by rw [isSign_kind ht]; decide)
theorem takeP_good {kind : Int} {pred : Lx.Tok → Bool} {l r : List Lx.Tok} {t : Lx.Tok} (hk : kind ≠ 5) (hg : Good l) (hR : takeP kind pred l = .ok t r) : Good r := by
  obtain ⟨rfl, h1, -⟩ := takeP_ok hR
  exact hg.tail (by rw [h1]; exact hk)
/-! ### rest -/
@[reducible] def xB (k n : Int) (nm : ByteArray) (a : List (List CV)) : List PV := [pI k, pI n, pS nm, .c (.row a)]
/-- take, asked by 'few' -/
theorem few_ok {kind most : Int} {l r : List Lx.Tok} {t : Lx.Tok} (hk : kind ≠ 5) (h : takeP kind (fun t => decide (t.n ≤ most)) l = .ok t r) : Ok E 84 [tkB l, [pI most]] [.ptr 0 0, pI kind, .clos 143 [] [.p 1 0]] (pT t) [tkB r, [pI most]] := by
  obtain ⟨rfl, h1, h2⟩ := takeP_ok h
  exact take1_ok rfl (rest1_ok t most h2) kind h1 hk
theorem few_no {kind most : Int} {l : List Lx.Tok} (hg : Good l) {e n : Int} (h : takeP kind (fun t => decide (t.n ≤ most)) l = .er e n) : OkP E 84 [tkB l, [pI most]] [.ptr 0 0, pI kind, .clos 143 [] [.p 1 0]] (pan e n) := by
  obtain ⟨t, r, rfl⟩ := hg.ne
  obtain ⟨rfl, rfl, h2 | ⟨h2, h3⟩⟩ := takeP_er h
  · exact take1_kind rfl kind h2
  · exact take1_not rfl (rest1_ok t most h3) kind h2
theorem name_ok {l r : List Lx.Tok} {t : Lx.Tok} (h : takeP 1 (fun t => Lx.isName t.text) l = .ok t r) : Ok E 84 [tkB l] [.ptr 0 0, pI 1, .c (.fn 144)] (pT t) [tkB r] := by
  obtain ⟨rfl, h1, h2⟩ := takeP_ok h
  exact take0_ok (rest2_ok t h2) 1 h1 (by decide)
theorem name_no {l : List Lx.Tok} (hg : Good l) {e n : Int} (h : takeP 1 (fun t => Lx.isName t.text) l = .er e n) : OkP E 84 [tkB l] [.ptr 0 0, pI 1, .c (.fn 144)] (pan e n) := by
  obtain ⟨t, r, rfl⟩ := hg.ne
  obtain ⟨rfl, rfl, h2 | ⟨h2, h3⟩⟩ := takeP_er h
  · exact take0_kind 1 h2
  · exact take0_not (rest2_ok t h3) 1 h2
theorem rest_ok (k : Int) (a : List (List CV)) {l r : List Lx.Tok} (hg : Good l) {n : Int} {nm : ByteArray} (h : restP k l = .ok (n, nm) r) : Ok E 112 [tkB l, xB k 0 e0 a] [.ptr 0 0, .ptr 1 0] (.tup []) [tkB r, xB k n nm a] := by
  obtain ⟨f, hf⟩ : ∃ f, formP k = f := ⟨_, rfl⟩
  have hM : mostP k = f.2.1 := by unfold mostP; rw [hf]
  have hF := Form_ok k
  rw [hf] at hF
  unfold restP at h
  rw [hM] at h
  clear hf hM
  split at h
  · rename_i hk
    subst hk
    rcases PR.cases (takeP 1 (fun t => Lx.isName t.text) l) with ⟨t, m, hT⟩ | ⟨e, p, hT⟩
    · rw [hT, PR.bind_ok] at h
      obtain ⟨h1, h2⟩ := PR.inj h
      obtain ⟨h1, h3⟩ := Prod.mk.inj h1
      subst h1; subst h2; subst h3
      have hN := name_ok hT
      refine Ok.enter hE Tryz.func112 rfl (by decide +kernel) (by kernel_rfl) rfl rfl (Nat.le_of_ble_eq_true rfl) rfl ?_
      refine ⟨_, CallR.mk1 hF rfl rfl, ?_⟩
      refine ⟨_, eqT rfl, ?_⟩
      refine .inl ⟨_, _, SCallR.of [0] hN (Hand.of rfl rfl (by simp) rfl rfl) rfl rfl rfl, ?_⟩
      exact ⟨_, rfl, Wk.refl _, rfl, .cons (WkL.refl _) rfl (.cons (WkL.refl _) rfl (.nil _))⟩
    · rw [hT, PR.bind_er] at h; cases h
  · rename_i hk3
    split at h
    · rename_i hk
      subst hk
      rcases PR.cases (signP comma l) with ⟨u, m, hS⟩ | ⟨e, p, hS⟩
      · rw [hS, PR.bind_ok] at h
        rcases PR.cases (takeP 3 (fun t => decide (t.n ≤ f.2.1)) m) with ⟨t, m2, hT⟩ | ⟨e, p, hT⟩
        · rw [hT, PR.bind_ok] at h
          obtain ⟨h1, h2⟩ := PR.inj h
          obtain ⟨h1, h3⟩ := Prod.mk.inj h1
          subst h1; subst h2; subst h3
          have hN := few_ok (by decide) hT
          refine Ok.enter hE Tryz.func112 rfl (by decide +kernel) (by kernel_rfl) rfl rfl (Nat.le_of_ble_eq_true rfl) rfl ?_
          refine ⟨_, CallR.mk1 hF rfl rfl, ?_⟩
          refine ⟨_, eqN (by decide), ?_⟩
          refine ⟨_, eqT rfl, ?_⟩
          refine .inl ⟨_, _, callSign hS rfl, ?_⟩
          refine .inl ⟨_, _, SCallR.of [0, 2] hN (Hand.of rfl rfl (by simp) rfl rfl) rfl rfl rfl, ?_⟩
          exact ⟨_, rfl, Wk.refl _, rfl, .cons (WkL.refl _) rfl (.cons (WkL.refl _) rfl (.nil _))⟩
        · rw [hT, PR.bind_er] at h; cases h
      · rw [hS, PR.bind_er] at h; cases h
    · rename_i hk5
      split at h
      · rename_i hk
        subst hk
        rcases PR.cases (signP comma l) with ⟨u, m, hS⟩ | ⟨e, p, hS⟩
        · rw [hS, PR.bind_ok] at h
          rcases PR.cases (takeP 2 (fun t => decide (t.n ≤ f.2.1)) m) with ⟨t, m2, hT⟩ | ⟨e, p, hT⟩
          · rw [hT, PR.bind_ok] at h
            obtain ⟨h1, h2⟩ := PR.inj h
            obtain ⟨h1, h3⟩ := Prod.mk.inj h1
            subst h1; subst h2; subst h3
            have hN := few_ok (by decide) hT
            refine Ok.enter hE Tryz.func112 rfl (by decide +kernel) (by kernel_rfl) rfl rfl (Nat.le_of_ble_eq_true rfl) rfl ?_
            refine ⟨_, CallR.mk1 hF rfl rfl, ?_⟩
            refine ⟨_, eqN (by decide), ?_⟩
            refine ⟨_, eqN (by decide), ?_⟩
            refine ⟨_, eqT rfl, ?_⟩
            refine .inl ⟨_, _, callSign hS rfl, ?_⟩
            refine .inl ⟨_, _, SCallR.of [0, 2] hN (Hand.of rfl rfl (by simp) rfl rfl) rfl rfl rfl, ?_⟩
            exact ⟨_, rfl, Wk.refl _, rfl, .cons (WkL.refl _) rfl (.cons (WkL.refl _) rfl (.nil _))⟩
          · rw [hT, PR.bind_er] at h; cases h
        · rw [hS, PR.bind_er] at h; cases h
      · rename_i hk6
        split at h
        · rename_i hk
          subst hk
          rcases PR.cases (takeP 2 (fun t => decide (t.n ≤ f.2.1)) l) with ⟨t, m, hT⟩ | ⟨e, p, hT⟩
          · rw [hT, PR.bind_ok] at h
            obtain ⟨h1, h2⟩ := PR.inj h
            obtain ⟨h1, h3⟩ := Prod.mk.inj h1
            subst h1; subst h2; subst h3
            have hN := few_ok (by decide) hT
            refine Ok.enter hE Tryz.func112 rfl (by decide +kernel) (by kernel_rfl) rfl rfl (Nat.le_of_ble_eq_true rfl) rfl ?_
            refine ⟨_, CallR.mk1 hF rfl rfl, ?_⟩
            refine ⟨_, eqN (by decide), ?_⟩
            refine ⟨_, eqN (by decide), ?_⟩
            refine ⟨_, eqN (by decide), ?_⟩
            refine ⟨_, eqT rfl, ?_⟩
            refine .inl ⟨_, _, SCallR.of [0, 2] hN (Hand.of rfl rfl (by simp) rfl rfl) rfl rfl rfl, ?_⟩
            exact ⟨_, rfl, Wk.refl _, rfl, .cons (WkL.refl _) rfl (.cons (WkL.refl _) rfl (.nil _))⟩
          · rw [hT, PR.bind_er] at h; cases h
        · rename_i hk11
          obtain ⟨h1, h2⟩ := PR.inj h
          obtain ⟨h1, h3⟩ := Prod.mk.inj h1
          subst h1; subst h2; subst h3
          refine Ok.enter hE Tryz.func112 rfl (by decide +kernel) (by kernel_rfl) rfl rfl (Nat.le_of_ble_eq_true rfl) rfl ?_
          refine ⟨_, CallR.mk1 hF rfl rfl, ?_⟩
          refine ⟨_, eqN hk3, ?_⟩
          refine ⟨_, eqN hk5, ?_⟩
          refine ⟨_, eqN hk6, ?_⟩
          refine ⟨_, eqN hk11, ?_⟩
          exact ⟨_, rfl, Wk.refl _, rfl, .cons (WkL.refl _) rfl (.cons (WkL.refl _) rfl (.nil _))⟩
theorem rest_pan (k : Int) (a : List (List CV)) {l : List Lx.Tok} (hg : Good l) {e n : Int} (h : restP k l = .er e n) : OkP E 112 [tkB l, xB k 0 e0 a] [.ptr 0 0, .ptr 1 0] (pan e n) := by
  obtain ⟨f, hf⟩ : ∃ f, formP k = f := ⟨_, rfl⟩
  have hM : mostP k = f.2.1 := by unfold mostP; rw [hf]
  have hF := Form_ok k
  rw [hf] at hF
  unfold restP at h
  rw [hM] at h
  clear hf hM
  split at h
  · rename_i hk
    subst hk
    rcases PR.cases (takeP 1 (fun t => Lx.isName t.text) l) with ⟨t, m, hT⟩ | ⟨e', p, hT⟩
    · rw [hT, PR.bind_ok] at h; cases h
    · rw [hT, PR.bind_er] at h
      obtain ⟨h1, h2⟩ := PR.inje h
      subst h1; subst h2
      have hN := name_no hg hT
      refine OkP.enter hE Tryz.func112 rfl (by decide +kernel) (by kernel_rfl) rfl rfl (Nat.le_of_ble_eq_true rfl) rfl ?_
      refine ⟨_, CallR.mk1 hF rfl rfl, ?_⟩
      refine ⟨_, eqT rfl, ?_⟩
      refine .inr (.inl ⟨_, SCallP.of [0] hN (Hand.of rfl rfl (by simp) rfl rfl) rfl, ?_⟩)
      exact Wk.refl _
  · rename_i hk3
    split at h
    · rename_i hk
      subst hk
      rcases PR.cases (signP comma l) with ⟨u, m, hS⟩ | ⟨e', p, hS⟩
      · rw [hS, PR.bind_ok] at h
        rcases PR.cases (takeP 3 (fun t => decide (t.n ≤ f.2.1)) m) with ⟨t, m2, hT⟩ | ⟨e', p, hT⟩
        · rw [hT, PR.bind_ok] at h; cases h
        · rw [hT, PR.bind_er] at h
          obtain ⟨h1, h2⟩ := PR.inje h
          subst h1; subst h2
          have hN := few_no (signP_good hg hS) hT
          refine OkP.enter hE Tryz.func112 rfl (by decide +kernel) (by kernel_rfl) rfl rfl (Nat.le_of_ble_eq_true rfl) rfl ?_
          refine ⟨_, CallR.mk1 hF rfl rfl, ?_⟩
          refine ⟨_, eqN (by decide), ?_⟩
          refine ⟨_, eqT rfl, ?_⟩
          refine .inl ⟨_, _, callSign hS rfl, ?_⟩
          refine .inr (.inl ⟨_, SCallP.of [0, 2] hN (Hand.of rfl rfl (by simp) rfl rfl) rfl, ?_⟩)
          exact Wk.refl _
      · rw [hS, PR.bind_er] at h
        obtain ⟨h1, h2⟩ := PR.inje h
        subst h1; subst h2
        refine OkP.enter hE Tryz.func112 rfl (by decide +kernel) (by kernel_rfl) rfl rfl (Nat.le_of_ble_eq_true rfl) rfl ?_
        refine ⟨_, CallR.mk1 hF rfl rfl, ?_⟩
        refine ⟨_, eqN (by decide), ?_⟩
        refine ⟨_, eqT rfl, ?_⟩
        refine .inr (.inl ⟨_, panSign hg hS rfl, ?_⟩)
        exact Wk.refl _
    · rename_i hk5
      split at h
      · rename_i hk
        subst hk
        rcases PR.cases (signP comma l) with ⟨u, m, hS⟩ | ⟨e', p, hS⟩
        · rw [hS, PR.bind_ok] at h
          rcases PR.cases (takeP 2 (fun t => decide (t.n ≤ f.2.1)) m) with ⟨t, m2, hT⟩ | ⟨e', p, hT⟩
          · rw [hT, PR.bind_ok] at h; cases h
          · rw [hT, PR.bind_er] at h
            obtain ⟨h1, h2⟩ := PR.inje h
            subst h1; subst h2
            have hN := few_no (signP_good hg hS) hT
            refine OkP.enter hE Tryz.func112 rfl (by decide +kernel) (by kernel_rfl) rfl rfl (Nat.le_of_ble_eq_true rfl) rfl ?_
            refine ⟨_, CallR.mk1 hF rfl rfl, ?_⟩
            refine ⟨_, eqN (by decide), ?_⟩
            refine ⟨_, eqN (by decide), ?_⟩
            refine ⟨_, eqT rfl, ?_⟩
            refine .inl ⟨_, _, callSign hS rfl, ?_⟩
            refine .inr (.inl ⟨_, SCallP.of [0, 2] hN (Hand.of rfl rfl (by simp) rfl rfl) rfl, ?_⟩)
            exact Wk.refl _
        · rw [hS, PR.bind_er] at h
          obtain ⟨h1, h2⟩ := PR.inje h
          subst h1; subst h2
          refine OkP.enter hE Tryz.func112 rfl (by decide +kernel) (by kernel_rfl) rfl rfl (Nat.le_of_ble_eq_true rfl) rfl ?_
          refine ⟨_, CallR.mk1 hF rfl rfl, ?_⟩
          refine ⟨_, eqN (by decide), ?_⟩
          refine ⟨_, eqN (by decide), ?_⟩
          refine ⟨_, eqT rfl, ?_⟩
          refine .inr (.inl ⟨_, panSign hg hS rfl, ?_⟩)
          exact Wk.refl _
      · rename_i hk6
        split at h
        · rename_i hk
          subst hk
          rcases PR.cases (takeP 2 (fun t => decide (t.n ≤ f.2.1)) l) with ⟨t, m, hT⟩ | ⟨e', p, hT⟩
          · rw [hT, PR.bind_ok] at h; cases h
          · rw [hT, PR.bind_er] at h
            obtain ⟨h1, h2⟩ := PR.inje h
            subst h1; subst h2
            have hN := few_no hg hT
            refine OkP.enter hE Tryz.func112 rfl (by decide +kernel) (by kernel_rfl) rfl rfl (Nat.le_of_ble_eq_true rfl) rfl ?_
            refine ⟨_, CallR.mk1 hF rfl rfl, ?_⟩
            refine ⟨_, eqN (by decide), ?_⟩
            refine ⟨_, eqN (by decide), ?_⟩
            refine ⟨_, eqN (by decide), ?_⟩
            refine ⟨_, eqT rfl, ?_⟩
            refine .inr (.inl ⟨_, SCallP.of [0, 2] hN (Hand.of rfl rfl (by simp) rfl rfl) rfl, ?_⟩)
            exact Wk.refl _
        · cases h
theorem restP_good {k : Int} {l r : List Lx.Tok} {p : Int × ByteArray} (hg : Good l) (h : restP k l = .ok p r) : Good r := by
  unfold restP at h
  have go : ∀ {kind : Int} {pred : Lx.Tok → Bool} {m : List Lx.Tok} {g : Lx.Tok → Int × ByteArray}, kind ≠ 5 → Good m → ((takeP kind pred m).bind fun t l => .ok (g t) l) = .ok p r → Good r := by
    intro kind pred m g hk hm h
    rcases PR.cases (takeP kind pred m) with ⟨t, m2, hT⟩ | ⟨e', p', hT⟩
    · rw [hT, PR.bind_ok] at h
      obtain ⟨-, h⟩ := PR.inj h
      subst h
      exact takeP_good hk hm hT
    · rw [hT, PR.bind_er] at h; cases h
  have go2 : ∀ {kind : Int} {pred : Lx.Tok → Bool} {g : Lx.Tok → Int × ByteArray}, kind ≠ 5 → ((signP comma l).bind fun _ l => (takeP kind pred l).bind fun t l => .ok (g t) l) = .ok p r → Good r := by
    intro kind pred g hk h
    rcases PR.cases (signP comma l) with ⟨u, m, hS⟩ | ⟨e', p', hS⟩
    · rw [hS, PR.bind_ok] at h
      exact go hk (signP_good hg hS) h
    · rw [hS, PR.bind_er] at h; cases h
  split at h
  · exact go (by decide) hg h
  · split at h
    · exact go2 (by decide) h
    · split at h
      · exact go2 (by decide) h
      · split at h
        · exact go (by decide) hg h
        · obtain ⟨-, h⟩ := PR.inj h; subst h; exact hg
end Go.Proofs.YtkolnkjdcncmpaaGreatDoor.Pr

/- The parser, in the pure machine: arguments, expressions. -/
namespace Go.Proofs.YtkolnkjdcncmpaaGreatDoor.Pr
open Go Go.RowKit Go.Proofs.YtkolnkjdcncmpaaGreatDoor.Pm Go.Proofs.YtkolnkjdcncmpaaGreatDoor.Pl
open Go.Proofs.YtkolnkjdcncmpaaGreatDoor.Lx (cellsT pT rowT rowT_len rowT_get)
set_option linter.unusedVariables false
set_option maxHeartbeats 1000000
theorem wkOrow {xs : List (List CV)} {k : Nat} : Wk (.orow xs k) (.c (.row xs)) := by
  intro w ok m tk v h
  cases h with
  | orow A len cap _ _ h r hr h1 h2 => exact .c _ _ h
theorem wkA {acc : List Ex} {i : Nat} (h : acc.length = i) : Wk (cellA (acc.map cellsE) i) (.c (.row (encL acc))) := by
  rw [encL_map]
  cases i with
  | zero => rw [List.length_eq_zero_iff.1 h]; exact Wk.nilRow
  | succ i => exact wkOrow
/-- how many arguments a kind has -/
def argN (k : Int) : Nat := (formP k).2.2.1.toNat
/-- the arguments from the i-th on -/
def argsP (ex : Bool → List Lx.Tok → PR Ex) (isIf : Bool) : Nat → Nat → List Lx.Tok → PR (List Ex)
  | 0, _, l => .ok [] l
  | n + 1, i, l => (if i = 0 then .ok () l else signP comma l).bind fun _ l => (ex (isIf && (i == 0)) l).bind fun x l => (argsP ex isIf n (i + 1) l).bind fun xs l => .ok (x :: xs) l
/-- an expression, that may have so many in one another -/
def exprP : Nat → Bool → List Lx.Tok → PR Ex
  | _, _, [] => .er 0 0
  | 0, _, t :: _ => .er 81 t.place
  | d + 1, cond, t :: r => match beginK t cond with
    | none => .er 80 t.place
    | some k =>
      if k = 4 then .ok ⟨4, t.n, e0, []⟩ r
      else if k = 1 ∨ k = 2 then .ok ⟨k, 0, e0, []⟩ r
      else (signP openS r).bind fun _ l => (argsP (exprP d) (k == 10) (argN k) 0 l).bind fun xs l => (restP k l).bind fun p l => (signP shutS l).bind fun _ l => .ok ⟨k, p.1, p.2, xs⟩ l
def ExD (d : Nat) (c : Bool) (l : List Lx.Tok) : Prop := match exprP d c l with
  | .ok x r => Ok E 83 [tkB l] [.ptr 0 0, pI (32 - (d : Int)), pB c] (pE x) [tkB r]
  | .er e n => OkP E 83 [tkB l] [.ptr 0 0, pI (32 - (d : Int)), pB c] (pan e n)
def pre (acc : List Ex) (R : PR (List Ex)) : PR (List Ex) := R.bind fun xs l => .ok (acc ++ xs) l
theorem pre_ok {acc xs : List Ex} {l : List Lx.Tok} : pre acc (.ok xs l) = .ok (acc ++ xs) l := rfl
theorem pre_pre {acc bcc : List Ex} {R : PR (List Ex)} : pre acc (pre bcc R) = pre (acc ++ bcc) R := by
  cases R with
  | ok xs l => simp [pre, PR.bind]
  | er e n => rfl
/-- a round -/
theorem args_step {ex : Bool → List Lx.Tok → PR Ex} {b : Bool} {n i : Nat} {l : List Lx.Tok} {acc : List Ex} :
    (∃ e p, i ≠ 0 ∧ signP comma l = .er e p ∧ pre acc (argsP ex b (n + 1) i l) = .er e p) ∨
    ∃ l1 u, (if i = 0 then PR.ok () l else signP comma l) = .ok u l1 ∧ (i = 0 → l1 = l) ∧ ((∃ e p, ex (b && (i == 0)) l1 = .er e p ∧ pre acc (argsP ex b (n + 1) i l) = .er e p) ∨
      ∃ x l2, ex (b && (i == 0)) l1 = .ok x l2 ∧ pre acc (argsP ex b (n + 1) i l) = pre (acc ++ [x]) (argsP ex b n (i + 1) l2)) := by
  rw [argsP]
  have fin : ∀ l1, (∃ e p, ex (b && (i == 0)) l1 = .er e p ∧ pre acc ((ex (b && (i == 0)) l1).bind fun x l => (argsP ex b n (i + 1) l).bind fun xs l => .ok (x :: xs) l) = .er e p) ∨
      ∃ x l2, ex (b && (i == 0)) l1 = .ok x l2 ∧ pre acc ((ex (b && (i == 0)) l1).bind fun x l => (argsP ex b n (i + 1) l).bind fun xs l => .ok (x :: xs) l) = pre (acc ++ [x]) (argsP ex b n (i + 1) l2) := by
    intro l1
    rcases PR.cases (ex (b && (i == 0)) l1) with ⟨x, l2, hx⟩ | ⟨e, p, hx⟩
    · refine .inr ⟨x, l2, hx, ?_⟩
      rw [hx, PR.bind_ok]
      show pre acc (pre [x] (argsP ex b n (i + 1) l2)) = _
      rw [pre_pre]
    · exact .inl ⟨e, p, hx, by rw [hx]; rfl⟩
  by_cases hi : i = 0
  · rw [if_pos hi]
    exact .inr ⟨l, (), rfl, fun _ => rfl, fin l⟩
  · rw [if_neg hi]
    rcases PR.cases (signP comma l) with ⟨u, l1, hs⟩ | ⟨e, p, hs⟩
    · refine .inr ⟨l1, u, hs, fun h => absurd h hi, ?_⟩
      rw [hs, PR.bind_ok]
      exact fin l1
    · refine .inl ⟨e, p, hi, hs, ?_⟩
      rw [hs]; rfl
theorem args_good' {d : Nat} (ih : ∀ (c : Bool) {l r : List Lx.Tok} {x : Ex}, Good l → exprP d c l = .ok x r → Good r) (b : Bool) : ∀ (n i : Nat) {l r : List Lx.Tok} {xs : List Ex}, Good l → argsP (exprP d) b n i l = .ok xs r → Good r
  | 0, i, l, r, xs, hg, h => by rw [argsP] at h; obtain ⟨-, h⟩ := PR.inj h; subst h; exact hg
  | n + 1, i, l, r, xs, hg, h => by
    rcases args_step (ex := exprP d) (b := b) (n := n) (i := i) (l := l) (acc := []) with ⟨e, p, -, -, h2⟩ | ⟨l1, u, h1, h0, ⟨e, p, -, h2⟩ | ⟨x, l2, h2, h3⟩⟩
    · have h' : pre [] (argsP (exprP d) b (n + 1) i l) = .ok xs r := by rw [h]; rfl
      rw [h'] at h2; cases h2
    · have h' : pre [] (argsP (exprP d) b (n + 1) i l) = .ok xs r := by rw [h]; rfl
      rw [h'] at h2; cases h2
    · have h' : pre [] (argsP (exprP d) b (n + 1) i l) = .ok xs r := by rw [h]; rfl
      have g1 : Good l1 := by
        by_cases hi : i = 0
        · rw [h0 hi]; exact hg
        · rw [if_neg hi] at h1; exact signP_good hg h1
      have g2 := ih _ g1 h2
      rw [h'] at h3
      rcases PR.cases (argsP (exprP d) b n (i + 1) l2) with ⟨ys, l3, h4⟩ | ⟨e, p, h4⟩
      · rw [h4] at h3
        obtain ⟨-, h5⟩ := PR.inj h3
        subst h5
        exact args_good' ih b n (i + 1) g2 h4
      · rw [h4] at h3; cases h3
theorem exprP_good : ∀ (d : Nat) (c : Bool) {l r : List Lx.Tok} {x : Ex}, Good l → exprP d c l = .ok x r → Good r
  | _, _, [], r, x, hg, h => hg.elim
  | 0, _, t :: m, r, x, hg, h => by rw [exprP] at h; cases h
  | d + 1, c, t :: m, r, x, hg, h => by
    have ih := @exprP_good d
    have args := fun (b : Bool) (n i : Nat) {l r : List Lx.Tok} {xs : List Ex} => @args_good' d (@ih) b n i l r xs
    rw [exprP] at h
    cases hb : beginK t c with
    | none => rw [hb] at h; cases h
    | some k =>
      rw [hb] at h
      dsimp only at h
      have hbr := beginK_rng hb
      have hk5 : t.kind ≠ 5 := by
        unfold beginK at hb
        split at hb
        · rename_i hc; rw [hc.1]; decide
        · obtain ⟨j, _, _, _, h4⟩ := findW_some hb
          rw [isWord_kind h4]; decide
      split at h
      · obtain ⟨-, h⟩ := PR.inj h; subst h; exact hg.tail hk5
      · split at h
        · obtain ⟨-, h⟩ := PR.inj h; subst h; exact hg.tail hk5
        · rcases PR.cases (signP openS m) with ⟨u, l1, h1⟩ | ⟨e, p, h1⟩
          · rw [h1, PR.bind_ok] at h
            rcases PR.cases (argsP (exprP d) (k == 10) (argN k) 0 l1) with ⟨xs, l2, h2⟩ | ⟨e, p, h2⟩
            · rw [h2, PR.bind_ok] at h
              rcases PR.cases (restP k l2) with ⟨p, l3, h3⟩ | ⟨e, p, h3⟩
              · rw [h3, PR.bind_ok] at h
                rcases PR.cases (signP shutS l3) with ⟨u', l4, h4⟩ | ⟨e, p, h4⟩
                · rw [h4, PR.bind_ok] at h
                  obtain ⟨-, h⟩ := PR.inj h; subst h
                  exact signP_good (restP_good (args _ _ _ (signP_good (hg.tail hk5) h1) h2) h3) h4
                · rw [h4] at h; cases h
              · rw [h3] at h; cases h
            · rw [h2] at h; cases h
          · rw [h1] at h; cases h
theorem args_good {d : Nat} {b : Bool} {n i : Nat} {l r : List Lx.Tok} {xs : List Ex} (hg : Good l) (h : argsP (exprP d) b n i l = .ok xs r) : Good r := args_good' (fun c {l r x} => exprP_good d c) b n i hg h
/-! ### arguments -/
structure ArgSt where
  i : Nat
  acc : List Ex
  l : List Lx.Tok
section
variable {d : Nat}
theorem callEx {c : Bool} {l r : List Lx.Tok} {x : Ex} (IH : ∀ c l, Good l → ExD d c l) (hg : Good l) (h : exprP d c l = .ok x r) {H : List (List PV)} (hH : H[0]? = some (tkB l)) {n : Int} (hn : n = 32 - (d : Int)) : SCallR E 83 H [.ptr 0 0, pI n, pB c] (pE x) (H.set 0 (tkB r)) := by
  subst hn
  have := IH c l hg
  unfold ExD at this
  rw [h] at this
  exact SCallR.one (i := 0) this (by simp [getL, hH]) rfl rfl rfl rfl rfl
theorem panEx {c : Bool} {l : List Lx.Tok} {e p : Int} (IH : ∀ c l, Good l → ExD d c l) (hg : Good l) (h : exprP d c l = .er e p) {H : List (List PV)} (hH : H[0]? = some (tkB l)) {n : Int} (hn : n = 32 - (d : Int)) : SCallP E 83 H [.ptr 0 0, pI n, pB c] (pan e p) := by
  subst hn
  have := IH c l hg
  unfold ExD at this
  rw [h] at this
  exact SCallP.of [0] this (Hand.of (by simp [getL, hH]) rfl (by simp) rfl rfl) rfl
theorem args_ok (hd : d ≤ 31) (IH : ∀ c l, Good l → ExD d c l) {k : Int} {l r : List Lx.Tok} {xs : List Ex} (hk : (formP k).2.2.1 = (argN k : Int)) (hk3 : argN k ≤ 3) (hg : Good l) (h : argsP (exprP d) (k == 10) (argN k) 0 l = .ok xs r) :
    Ok E 111 [tkB l] [.ptr 0 0, pI k, pI (31 - (d : Int))] (.c (.row (encL xs))) [tkB r] := by
  have hF := Form_ok k
  rw [hk] at hF
  generalize (formP k).1 = w1 at hF
  generalize (formP k).2.1 = w2 at hF
  generalize (formP k).2.2.2 = w4 at hF
  generalize argN k = m at hF hk3 h
  refine Ok.enter hE Tryz.func111 rfl (by decide +kernel) (by kernel_rfl) rfl rfl (Nat.le_of_ble_eq_true rfl) rfl ?_
  refine ⟨_, CallR.mk1 hF rfl rfl, ?_⟩
  refine Loop.run (α := ArgSt) (fun x => x.i ≤ m ∧ x.acc.length = x.i ∧ Good x.l ∧ pre x.acc (argsP (exprP d) (k == 10) (m - x.i) x.i x.l) = .ok xs r) (fun x => [(0, .ptr 0 0), (1, pI k), (2, pI (31 - (d : Int))), (6, cellA (x.acc.map cellsE) x.i), (19, pI m), (20, pI x.i)])
    (fun x => [tkB x.l]) (fun x => tokA x.i) (fun x => m - x.i) ⟨0, [], l⟩ ⟨Nat.zero_le _, rfl, hg, by rw [Nat.sub_zero, h]; rfl⟩ ⟨⟨rfl, rfl, rfl, rfl, rfl, rfl, trivial⟩, rfl, rfl⟩ ?_
  rintro ⟨i, acc, l'⟩ f ⟨hi, hacc, hg', hR⟩
  dsimp only at hi hacc hg' hR
  rcases Nat.lt_or_ge i m with hlt | hge
  · refine ⟨_, ltT (by (try dsimp only); omega), ?_⟩
    obtain ⟨n, hn⟩ : ∃ n, m - i = n + 1 := ⟨m - i - 1, by omega⟩
    rw [hn] at hR
    rcases args_step (ex := exprP d) (b := (k == 10)) (n := n) (i := i) (l := l') (acc := acc) with ⟨e, p, -, -, h2⟩ | ⟨l1, u, h1, h0, ⟨e, p, -, h2⟩ | ⟨x, l2, h2, h3⟩⟩
    · rw [hR] at h2; cases h2
    · rw [hR] at h2; cases h2
    · rw [hR] at h3
      have hmn : m - (i + 1) = n := by omega
      cases i with
      | zero =>
        have := h0 rfl
        subst this
        refine ⟨_, gtN (by dsimp only; decide), ?_⟩
        refine ⟨_, addV (z := 32 - (d : Int)) (by (try dsimp only); omega) (by (try dsimp only); omega) (by (try dsimp only); omega), ?_⟩
        by_cases h10 : k = 10
        · have hc : ((k == 10) && ((0 : Nat) == 0)) = true := by rw [h10]; rfl
          rw [hc] at h2
          refine ⟨_, eqT h10, ?_⟩
          refine ⟨_, eqT rfl, ?_⟩
          refine .inl ⟨_, _, callEx IH hg' h2 rfl rfl, ?_⟩
          refine ⟨_, ⟨_, rfl, rfl⟩, ?_⟩
          refine ⟨_, _, AppR.first1 rfl rfl (by decide) rfl rfl rfl (by decide), ?_⟩
          refine ⟨_, addV rfl (by dsimp only; decide) (by dsimp only; decide), ?_⟩
          have ha : acc = [] := List.length_eq_zero_iff.1 hacc
          subst ha
          exact ⟨⟨1, [x], l2⟩, ⟨hlt, rfl, exprP_good _ _ hg' h2, by rw [hmn]; exact h3.symm⟩, by dsimp only; omega, ⟨rfl, rfl, rfl, rfl, rfl, rfl, trivial⟩, rfl, rfl⟩
        · have hc : ((k == 10) && ((0 : Nat) == 0)) = false := by rw [beq_eq_false_iff_ne.2 h10]; rfl
          rw [hc] at h2
          refine ⟨_, eqN h10, ?_⟩
          refine .inl ⟨_, _, callEx IH hg' h2 rfl rfl, ?_⟩
          refine ⟨_, ⟨_, rfl, rfl⟩, ?_⟩
          refine ⟨_, _, AppR.first1 rfl rfl (by decide) rfl rfl rfl (by decide), ?_⟩
          refine ⟨_, addV rfl (by dsimp only; decide) (by dsimp only; decide), ?_⟩
          have ha : acc = [] := List.length_eq_zero_iff.1 hacc
          subst ha
          exact ⟨⟨1, [x], l2⟩, ⟨hlt, rfl, exprP_good _ _ hg' h2, by rw [hmn]; exact h3.symm⟩, by dsimp only; omega, ⟨rfl, rfl, rfl, rfl, rfl, rfl, trivial⟩, rfl, rfl⟩
      | succ j =>
        rw [if_neg (by (try dsimp only); omega)] at h1
        have g1 := signP_good hg' h1
        have hc : ((k == 10) && ((j + 1 : Nat) == 0)) = false := by simp
        rw [hc] at h2
        have he : (acc.map cellsE ++ [cellsE x]) = (acc ++ [x]).map cellsE := by simp
        refine ⟨_, gtT (by (try dsimp only); omega), ?_⟩
        refine .inl ⟨_, _, callSign h1 rfl, ?_⟩
        refine ⟨_, addV (z := 32 - (d : Int)) (by (try dsimp only); omega) (by (try dsimp only); omega) (by (try dsimp only); omega), ?_⟩
        by_cases h10 : k = 10
        · refine ⟨_, eqT h10, ?_⟩
          refine ⟨_, eqN (by (try dsimp only); omega), ?_⟩
          refine .inl ⟨_, _, callEx IH g1 h2 rfl rfl, ?_⟩
          refine ⟨_, ⟨_, rfl, rfl⟩, ?_⟩
          refine ⟨_, _, AppR.more1 (j + 1) rfl rfl (by decide) rfl rfl (by rw [List.length_map, hacc]) (cells_len _) rfl rfl (by (try dsimp only); omega) (by show (j + 1 + 1) * 56 ≤ _; omega), ?_⟩
          refine ⟨_, addV rfl (by (try dsimp only); omega) (by (try dsimp only); omega), ?_⟩
          exact ⟨⟨j + 1 + 1, acc ++ [x], l2⟩, ⟨hlt, by simp [hacc], exprP_good _ _ g1 h2, by rw [hmn]; exact h3.symm⟩, by dsimp only; omega, ⟨rfl, rfl, rfl, by show PV.orow _ _ = PV.orow _ _; rw [he], rfl, rfl, trivial⟩, rfl, rfl⟩
        · refine ⟨_, eqN h10, ?_⟩
          refine .inl ⟨_, _, callEx IH g1 h2 rfl rfl, ?_⟩
          refine ⟨_, ⟨_, rfl, rfl⟩, ?_⟩
          refine ⟨_, _, AppR.more1 (j + 1) rfl rfl (by decide) rfl rfl (by rw [List.length_map, hacc]) (cells_len _) rfl rfl (by (try dsimp only); omega) (by show (j + 1 + 1) * 56 ≤ _; omega), ?_⟩
          refine ⟨_, addV rfl (by (try dsimp only); omega) (by (try dsimp only); omega), ?_⟩
          exact ⟨⟨j + 1 + 1, acc ++ [x], l2⟩, ⟨hlt, by simp [hacc], exprP_good _ _ g1 h2, by rw [hmn]; exact h3.symm⟩, by dsimp only; omega, ⟨rfl, rfl, rfl, by show PV.orow _ _ = PV.orow _ _; rw [he], rfl, rfl, trivial⟩, rfl, rfl⟩
  · refine ⟨_, ltN (by (try dsimp only); omega), ?_⟩
    have him : m - i = 0 := by omega
    rw [him, argsP, pre_ok, List.append_nil] at hR
    obtain ⟨e1, e2⟩ := PR.inj hR
    subst e1; subst e2
    exact ⟨_, rfl, wkA hacc, rfl, .cons (WkL.refl _) rfl (.nil _)⟩
theorem args_pan (hd : d ≤ 31) (IH : ∀ c l, Good l → ExD d c l) {k : Int} {l : List Lx.Tok} {e0 p0 : Int} (hk : (formP k).2.2.1 = (argN k : Int)) (hk3 : argN k ≤ 3) (hg : Good l) (h : argsP (exprP d) (k == 10) (argN k) 0 l = .er e0 p0) :
    OkP E 111 [tkB l] [.ptr 0 0, pI k, pI (31 - (d : Int))] (pan e0 p0) := by
  have hF := Form_ok k
  rw [hk] at hF
  generalize (formP k).1 = w1 at hF
  generalize (formP k).2.1 = w2 at hF
  generalize (formP k).2.2.2 = w4 at hF
  generalize argN k = m at hF hk3 h
  refine OkP.enter hE Tryz.func111 rfl (by decide +kernel) (by kernel_rfl) rfl rfl (Nat.le_of_ble_eq_true rfl) rfl ?_
  refine ⟨_, CallR.mk1 hF rfl rfl, ?_⟩
  refine Loop.run (α := ArgSt) (fun x => x.i ≤ m ∧ x.acc.length = x.i ∧ Good x.l ∧ pre x.acc (argsP (exprP d) (k == 10) (m - x.i) x.i x.l) = .er e0 p0) (fun x => [(0, .ptr 0 0), (1, pI k), (2, pI (31 - (d : Int))), (6, cellA (x.acc.map cellsE) x.i), (19, pI m), (20, pI x.i)])
    (fun x => [tkB x.l]) (fun x => tokA x.i) (fun x => m - x.i) ⟨0, [], l⟩ ⟨Nat.zero_le _, rfl, hg, by rw [Nat.sub_zero, h]; rfl⟩ ⟨⟨rfl, rfl, rfl, rfl, rfl, rfl, trivial⟩, rfl, rfl⟩ ?_
  rintro ⟨i, acc, l'⟩ f ⟨hi, hacc, hg', hR⟩
  dsimp only at hi hacc hg' hR
  rcases Nat.lt_or_ge i m with hlt | hge
  rotate_left
  · have him : m - i = 0 := by omega
    rw [him, argsP, pre_ok] at hR
    cases hR
  refine ⟨_, ltT (by (try dsimp only); omega), ?_⟩
  obtain ⟨n, hn⟩ : ∃ n, m - i = n + 1 := ⟨m - i - 1, by omega⟩
  rw [hn] at hR
  have hmn : m - (i + 1) = n := by omega
  rcases args_step (ex := exprP d) (b := (k == 10)) (n := n) (i := i) (l := l') (acc := acc) with ⟨e, p, hi0, hs, h2⟩ | ⟨l1, u, h1, h0, h2⟩
  · rw [hR] at h2
    obtain ⟨rfl, rfl⟩ := PR.inje h2
    refine ⟨_, gtT (by (try dsimp only); omega), ?_⟩
    refine .inr (.inl ⟨_, panSign hg' hs rfl, ?_⟩)
    exact Wk.refl _
  · cases i with
    | zero =>
      have := h0 rfl
      subst this
      refine ⟨_, gtN (by dsimp only; decide), ?_⟩
      refine ⟨_, addV (z := 32 - (d : Int)) (by (try dsimp only); omega) (by (try dsimp only); omega) (by (try dsimp only); omega), ?_⟩
      by_cases h10 : k = 10
      · have hc : ((k == 10) && ((0 : Nat) == 0)) = true := by rw [h10]; rfl
        rw [hc] at h2
        refine ⟨_, eqT h10, ?_⟩
        refine ⟨_, eqT rfl, ?_⟩
        rcases h2 with ⟨e, p, h2, h3⟩ | ⟨x, l2, h2, h3⟩
        · rw [hR] at h3
          obtain ⟨rfl, rfl⟩ := PR.inje h3
          refine .inr (.inl ⟨_, panEx IH hg' h2 rfl rfl, ?_⟩)
          exact Wk.refl _
        · refine .inl ⟨_, _, callEx IH hg' h2 rfl rfl, ?_⟩
          refine ⟨_, ⟨_, rfl, rfl⟩, ?_⟩
          refine ⟨_, _, AppR.first1 rfl rfl (by decide) rfl rfl rfl (by decide), ?_⟩
          refine ⟨_, addV rfl (by dsimp only; decide) (by dsimp only; decide), ?_⟩
          have ha : acc = [] := List.length_eq_zero_iff.1 hacc
          subst ha
          exact ⟨⟨1, [x], l2⟩, ⟨hlt, rfl, exprP_good _ _ hg' h2, by rw [hmn]; exact h3.symm.trans hR⟩, by dsimp only; omega, ⟨rfl, rfl, rfl, rfl, rfl, rfl, trivial⟩, rfl, rfl⟩
      · have hc : ((k == 10) && ((0 : Nat) == 0)) = false := by rw [beq_eq_false_iff_ne.2 h10]; rfl
        rw [hc] at h2
        refine ⟨_, eqN h10, ?_⟩
        rcases h2 with ⟨e, p, h2, h3⟩ | ⟨x, l2, h2, h3⟩
        · rw [hR] at h3
          obtain ⟨rfl, rfl⟩ := PR.inje h3
          refine .inr (.inl ⟨_, panEx IH hg' h2 rfl rfl, ?_⟩)
          exact Wk.refl _
        · refine .inl ⟨_, _, callEx IH hg' h2 rfl rfl, ?_⟩
          refine ⟨_, ⟨_, rfl, rfl⟩, ?_⟩
          refine ⟨_, _, AppR.first1 rfl rfl (by decide) rfl rfl rfl (by decide), ?_⟩
          refine ⟨_, addV rfl (by dsimp only; decide) (by dsimp only; decide), ?_⟩
          have ha : acc = [] := List.length_eq_zero_iff.1 hacc
          subst ha
          exact ⟨⟨1, [x], l2⟩, ⟨hlt, rfl, exprP_good _ _ hg' h2, by rw [hmn]; exact h3.symm.trans hR⟩, by dsimp only; omega, ⟨rfl, rfl, rfl, rfl, rfl, rfl, trivial⟩, rfl, rfl⟩
    | succ j =>
      rw [if_neg (by (try dsimp only); omega)] at h1
      have g1 := signP_good hg' h1
      have hc : ((k == 10) && ((j + 1 : Nat) == 0)) = false := by simp
      rw [hc] at h2
      refine ⟨_, gtT (by (try dsimp only); omega), ?_⟩
      refine .inl ⟨_, _, callSign h1 rfl, ?_⟩
      refine ⟨_, addV (z := 32 - (d : Int)) (by (try dsimp only); omega) (by (try dsimp only); omega) (by (try dsimp only); omega), ?_⟩
      by_cases h10 : k = 10
      · refine ⟨_, eqT h10, ?_⟩
        refine ⟨_, eqN (by (try dsimp only); omega), ?_⟩
        rcases h2 with ⟨e, p, h2, h3⟩ | ⟨x, l2, h2, h3⟩
        · rw [hR] at h3
          obtain ⟨rfl, rfl⟩ := PR.inje h3
          refine .inr (.inl ⟨_, panEx IH g1 h2 rfl rfl, ?_⟩)
          exact Wk.refl _
        · have he : (acc.map cellsE ++ [cellsE x]) = (acc ++ [x]).map cellsE := by simp
          refine .inl ⟨_, _, callEx IH g1 h2 rfl rfl, ?_⟩
          refine ⟨_, ⟨_, rfl, rfl⟩, ?_⟩
          refine ⟨_, _, AppR.more1 (j + 1) rfl rfl (by decide) rfl rfl (by rw [List.length_map, hacc]) (cells_len _) rfl rfl (by (try dsimp only); omega) (by show (j + 1 + 1) * 56 ≤ _; omega), ?_⟩
          refine ⟨_, addV rfl (by (try dsimp only); omega) (by (try dsimp only); omega), ?_⟩
          exact ⟨⟨j + 1 + 1, acc ++ [x], l2⟩, ⟨hlt, by simp [hacc], exprP_good _ _ g1 h2, by rw [hmn]; exact h3.symm.trans hR⟩, by dsimp only; omega, ⟨rfl, rfl, rfl, by show PV.orow _ _ = PV.orow _ _; rw [he], rfl, rfl, trivial⟩, rfl, rfl⟩
      · refine ⟨_, eqN h10, ?_⟩
        rcases h2 with ⟨e, p, h2, h3⟩ | ⟨x, l2, h2, h3⟩
        · rw [hR] at h3
          obtain ⟨rfl, rfl⟩ := PR.inje h3
          refine .inr (.inl ⟨_, panEx IH g1 h2 rfl rfl, ?_⟩)
          exact Wk.refl _
        · have he : (acc.map cellsE ++ [cellsE x]) = (acc ++ [x]).map cellsE := by simp
          refine .inl ⟨_, _, callEx IH g1 h2 rfl rfl, ?_⟩
          refine ⟨_, ⟨_, rfl, rfl⟩, ?_⟩
          refine ⟨_, _, AppR.more1 (j + 1) rfl rfl (by decide) rfl rfl (by rw [List.length_map, hacc]) (cells_len _) rfl rfl (by (try dsimp only); omega) (by show (j + 1 + 1) * 56 ≤ _; omega), ?_⟩
          refine ⟨_, addV rfl (by (try dsimp only); omega) (by (try dsimp only); omega), ?_⟩
          exact ⟨⟨j + 1 + 1, acc ++ [x], l2⟩, ⟨hlt, by simp [hacc], exprP_good _ _ g1 h2, by rw [hmn]; exact h3.symm.trans hR⟩, by dsimp only; omega, ⟨rfl, rfl, rfl, by show PV.orow _ _ = PV.orow _ _; rw [he], rfl, rfl, trivial⟩, rfl, rfl⟩
end
end Go.Proofs.YtkolnkjdcncmpaaGreatDoor.Pr

/- The parser, in the pure machine: an expression. -/
namespace Go.Proofs.YtkolnkjdcncmpaaGreatDoor.Pr
open Go Go.RowKit Go.Proofs.YtkolnkjdcncmpaaGreatDoor.Pm Go.Proofs.YtkolnkjdcncmpaaGreatDoor.Pl
open Go.Proofs.YtkolnkjdcncmpaaGreatDoor.Lx (cellsT pT rowT rowT_len rowT_get)
set_option linter.unusedVariables false
set_option maxHeartbeats 1000000
theorem arg_facts {k : Int} (h : 1 ≤ k ∧ k ≤ 12) : (formP k).2.2.1 = (argN k : Int) ∧ argN k ≤ 3 := by
  obtain ⟨h0, h1⟩ := h
  have : k = 1 ∨ k = 2 ∨ k = 3 ∨ k = 4 ∨ k = 5 ∨ k = 6 ∨ k = 7 ∨ k = 8 ∨ k = 9 ∨ k = 10 ∨ k = 11 ∨ k = 12 := by omega
  rcases this with rfl | rfl | rfl | rfl | rfl | rfl | rfl | rfl | rfl | rfl | rfl | rfl <;> decide +kernel
theorem word4 (t : Lx.Tok) : isWord t 4 = false := by
  unfold isWord
  rw [show ((wordP 4).toList == (⟨#[]⟩ : ByteArray).toList) = true by decide +kernel]
  simp
theorem begin_range {t : Lx.Tok} {c : Bool} {k : Int} (h : beginK t c = some k) : 1 ≤ k ∧ k ≤ 12 := by
  have := beginK_rng h
  cases c <;> simp [firstK, manyK] at this <;> omega
theorem begin_4 {t : Lx.Tok} {c : Bool} (h : beginK t c = some 4) : t.kind = 3 := by
  unfold beginK at h
  split at h
  · rename_i hc; exact hc.1
  · obtain ⟨j, _, h2, _, h4⟩ := findW_some h
    rw [← h2, word4] at h4; cases h4
theorem begin_word {t : Lx.Tok} {c : Bool} {k : Int} (h : beginK t c = some k) (h4 : k ≠ 4) : t.kind = 1 := by
  unfold beginK at h
  split at h
  · injection h with h; exact absurd h.symm h4
  · obtain ⟨j, _, h2, _, h5⟩ := findW_some h
    exact isWord_kind h5
section
variable {H : List (List PV)} {l : List Lx.Tok}
theorem callBegin {t : Lx.Tok} {r : List Lx.Tok} {c : Bool} {k : Int} (h : beginK t c = some k) (hH : H[0]? = some (tkB (t :: r))) : SCallR E 109 H [.ptr 0 0, pB c] (pI k) (H.set 0 (tkB (t :: r))) :=
  SCallR.one (i := 0) (begins_ok h) (by simp [getL, hH]) rfl rfl rfl rfl rfl
theorem panBegin {t : Lx.Tok} {r : List Lx.Tok} {c : Bool} (h : beginK t c = none) (hH : H[0]? = some (tkB (t :: r))) : SCallP E 109 H [.ptr 0 0, pB c] (pan 80 t.place) :=
  SCallP.of [0] (begins_pan (r := r) h) (Hand.of (by simp [getL, hH]) rfl (by simp) rfl rfl) rfl
theorem callAny {t : Lx.Tok} {r : List Lx.Tok} {kind : Int} (h : t.kind = kind) (hk : kind ≠ 5) (hH : H[0]? = some (tkB (t :: r))) : SCallR E 84 H [.ptr 0 0, pI kind, .c (.fn 85)] (pT t) (H.set 0 (tkB r)) :=
  SCallR.one (i := 0) (take0_ok (any_ok t) kind h hk) (by simp [getL, hH]) rfl rfl rfl rfl rfl
end
theorem expr_zero (c : Bool) (l : List Lx.Tok) (hg : Good l) : ExD 0 c l := by
  obtain ⟨t, r, rfl⟩ := hg.ne
  unfold ExD
  rw [exprP]
  dsimp only
  refine OkP.enter hE Tryz.func83 rfl (by decide +kernel) (by kernel_rfl) rfl rfl (Nat.le_of_ble_eq_true rfl) rfl ?_
  refine ⟨_, geT (by decide), ?_⟩
  refine .inr (.inl ⟨_, callFail (r := r) rfl, ?_⟩)
  exact Wk.refl _
theorem expr_succ (d : Nat) (hd : d ≤ 31) (IH : ∀ c l, Good l → ExD d c l) (c : Bool) (l : List Lx.Tok) (hg : Good l) : ExD (d + 1) c l := by
  obtain ⟨t, r, rfl⟩ := hg.ne
  unfold ExD
  rw [exprP]
  have hwi : 32 - ((d + 1 : Nat) : Int) = 31 - (d : Int) := by omega
  rw [hwi]
  cases hb : beginK t c with
  | none =>
    dsimp only
    refine OkP.enter hE Tryz.func83 rfl (by decide +kernel) (by kernel_rfl) rfl rfl (Nat.le_of_ble_eq_true rfl) rfl ?_
    refine ⟨_, geN (by omega), ?_⟩
    refine .inr (.inl ⟨_, panBegin (r := r) hb rfl, ?_⟩)
    exact Wk.refl _
  | some k =>
    dsimp only
    have hkr := begin_range hb
    by_cases h4 : k = 4
    · subst h4
      rw [if_pos rfl]
      dsimp only
      have h3 := begin_4 hb
      refine Ok.enter hE Tryz.func83 rfl (by decide +kernel) (by kernel_rfl) rfl rfl (Nat.le_of_ble_eq_true rfl) rfl ?_
      refine ⟨_, geN (by omega), ?_⟩
      refine .inl ⟨_, _, callBegin (r := r) hb rfl, ?_⟩
      refine ⟨_, eqT rfl, ?_⟩
      refine .inl ⟨_, _, callAny h3 (by decide) rfl, ?_⟩
      exact ⟨_, rfl, wkE _ _ _, rfl, .cons (WkL.refl _) rfl (.nil _)⟩
    · rw [if_neg h4]
      have h1 := begin_word hb h4
      have hg1 : Good r := hg.tail (by rw [h1]; decide)
      by_cases h12 : k = 1 ∨ k = 2
      · rw [if_pos h12]
        dsimp only
        rcases h12 with rfl | rfl
        · refine Ok.enter hE Tryz.func83 rfl (by decide +kernel) (by kernel_rfl) rfl rfl (Nat.le_of_ble_eq_true rfl) rfl ?_
          refine ⟨_, geN (by omega), ?_⟩
          refine .inl ⟨_, _, callBegin (r := r) hb rfl, ?_⟩
          refine ⟨_, eqN (by decide), ?_⟩
          refine .inl ⟨_, _, callAny h1 (by decide) rfl, ?_⟩
          refine ⟨_, eqT rfl, ?_⟩
          exact ⟨_, rfl, wkE _ _ _, rfl, .cons (WkL.refl _) rfl (.nil _)⟩
        · refine Ok.enter hE Tryz.func83 rfl (by decide +kernel) (by kernel_rfl) rfl rfl (Nat.le_of_ble_eq_true rfl) rfl ?_
          refine ⟨_, geN (by omega), ?_⟩
          refine .inl ⟨_, _, callBegin (r := r) hb rfl, ?_⟩
          refine ⟨_, eqN (by decide), ?_⟩
          refine .inl ⟨_, _, callAny h1 (by decide) rfl, ?_⟩
          refine ⟨_, eqN (by decide), ?_⟩
          refine ⟨_, eqT rfl, ?_⟩
          exact ⟨_, rfl, wkE _ _ _, rfl, .cons (WkL.refl _) rfl (.nil _)⟩
      · rw [if_neg h12]
        have hk1 : k ≠ 1 := fun h => h12 (.inl h)
        have hk2 : k ≠ 2 := fun h => h12 (.inr h)
        obtain ⟨ha, ha3⟩ := arg_facts hkr
        rcases PR.cases (signP openS r) with ⟨u, l1, hs⟩ | ⟨e, p, hs⟩
        rotate_left
        · rw [hs, PR.bind_er]
          dsimp only
          refine OkP.enter hE Tryz.func83 rfl (by decide +kernel) (by kernel_rfl) rfl rfl (Nat.le_of_ble_eq_true rfl) rfl ?_
          refine ⟨_, geN (by omega), ?_⟩
          refine .inl ⟨_, _, callBegin (r := r) hb rfl, ?_⟩
          refine ⟨_, eqN h4, ?_⟩
          refine .inl ⟨_, _, callAny h1 (by decide) rfl, ?_⟩
          refine ⟨_, eqN hk1, ?_⟩
          refine ⟨_, eqN hk2, ?_⟩
          refine .inr (.inl ⟨_, panSign hg1 hs rfl, ?_⟩)
          exact Wk.refl _
        rw [hs, PR.bind_ok]
        have hg2 := signP_good hg1 hs
        rcases PR.cases (argsP (exprP d) (k == 10) (argN k) 0 l1) with ⟨xs, l2, hA⟩ | ⟨e, p, hA⟩
        rotate_left
        · rw [hA, PR.bind_er]
          dsimp only
          have hP := args_pan hd IH ha ha3 hg2 hA
          refine OkP.enter hE Tryz.func83 rfl (by decide +kernel) (by kernel_rfl) rfl rfl (Nat.le_of_ble_eq_true rfl) rfl ?_
          refine ⟨_, geN (by omega), ?_⟩
          refine .inl ⟨_, _, callBegin (r := r) hb rfl, ?_⟩
          refine ⟨_, eqN h4, ?_⟩
          refine .inl ⟨_, _, callAny h1 (by decide) rfl, ?_⟩
          refine ⟨_, eqN hk1, ?_⟩
          refine ⟨_, eqN hk2, ?_⟩
          refine .inl ⟨_, _, callSign hs rfl, ?_⟩
          refine .inr (.inl ⟨_, SCallP.of [0] hP (Hand.of rfl rfl (by simp) rfl rfl) rfl, ?_⟩)
          exact Wk.refl _
        rw [hA, PR.bind_ok]
        have hO := args_ok hd IH ha ha3 hg2 hA
        have hg3 : Good l2 := args_good hg2 hA
        rcases PR.cases (restP k l2) with ⟨⟨n, nm⟩, l3, hR⟩ | ⟨e, p, hR⟩
        rotate_left
        · rw [hR, PR.bind_er]
          dsimp only
          have hP := rest_pan k (encL xs) hg3 hR
          refine OkP.enter hE Tryz.func83 rfl (by decide +kernel) (by kernel_rfl) rfl rfl (Nat.le_of_ble_eq_true rfl) rfl ?_
          refine ⟨_, geN (by omega), ?_⟩
          refine .inl ⟨_, _, callBegin (r := r) hb rfl, ?_⟩
          refine ⟨_, eqN h4, ?_⟩
          refine .inl ⟨_, _, callAny h1 (by decide) rfl, ?_⟩
          refine ⟨_, eqN hk1, ?_⟩
          refine ⟨_, eqN hk2, ?_⟩
          refine .inl ⟨_, _, callSign hs rfl, ?_⟩
          refine .inl ⟨_, _, SCallR.of [0] hO (Hand.of rfl rfl (by simp) rfl rfl) rfl rfl rfl, ?_⟩
          refine .inr (.inl ⟨_, SCallP.of [0, 2] hP (Hand.of rfl rfl (by simp) rfl rfl) rfl, ?_⟩)
          exact Wk.refl _
        rw [hR, PR.bind_ok]
        have hg4 := restP_good hg3 hR
        have hRO := rest_ok k (encL xs) hg3 hR
        rcases PR.cases (signP shutS l3) with ⟨u', l4, hS⟩ | ⟨e, p, hS⟩
        · rw [hS, PR.bind_ok]
          dsimp only
          refine Ok.enter hE Tryz.func83 rfl (by decide +kernel) (by kernel_rfl) rfl rfl (Nat.le_of_ble_eq_true rfl) rfl ?_
          refine ⟨_, geN (by omega), ?_⟩
          refine .inl ⟨_, _, callBegin (r := r) hb rfl, ?_⟩
          refine ⟨_, eqN h4, ?_⟩
          refine .inl ⟨_, _, callAny h1 (by decide) rfl, ?_⟩
          refine ⟨_, eqN hk1, ?_⟩
          refine ⟨_, eqN hk2, ?_⟩
          refine .inl ⟨_, _, callSign hs rfl, ?_⟩
          refine .inl ⟨_, _, SCallR.of [0] hO (Hand.of rfl rfl (by simp) rfl rfl) rfl rfl rfl, ?_⟩
          refine .inl ⟨_, _, SCallR.of [0, 2] hRO (Hand.of rfl rfl (by simp) rfl rfl) rfl rfl rfl, ?_⟩
          refine .inl ⟨_, _, callSign hS rfl, ?_⟩
          exact ⟨_, rfl, Wk.refl _, rfl, .cons (WkL.refl _) rfl (.nil _)⟩
        · rw [hS, PR.bind_er]
          dsimp only
          refine OkP.enter hE Tryz.func83 rfl (by decide +kernel) (by kernel_rfl) rfl rfl (Nat.le_of_ble_eq_true rfl) rfl ?_
          refine ⟨_, geN (by omega), ?_⟩
          refine .inl ⟨_, _, callBegin (r := r) hb rfl, ?_⟩
          refine ⟨_, eqN h4, ?_⟩
          refine .inl ⟨_, _, callAny h1 (by decide) rfl, ?_⟩
          refine ⟨_, eqN hk1, ?_⟩
          refine ⟨_, eqN hk2, ?_⟩
          refine .inl ⟨_, _, callSign hs rfl, ?_⟩
          refine .inl ⟨_, _, SCallR.of [0] hO (Hand.of rfl rfl (by simp) rfl rfl) rfl rfl rfl, ?_⟩
          refine .inl ⟨_, _, SCallR.of [0, 2] hRO (Hand.of rfl rfl (by simp) rfl rfl) rfl rfl rfl, ?_⟩
          refine .inr (.inl ⟨_, panSign hg4 hS rfl, ?_⟩)
          exact Wk.refl _
theorem expr_all : ∀ (d : Nat), d ≤ 32 → ∀ (c : Bool) (l : List Lx.Tok), Good l → ExD d c l
  | 0, _, c, l, h => expr_zero c l h
  | d + 1, hd, c, l, h => expr_succ d (by omega) (expr_all d (by omega)) c l h
end Go.Proofs.YtkolnkjdcncmpaaGreatDoor.Pr

/- The parser, in the pure machine: Parse. -/
namespace Go.Proofs.YtkolnkjdcncmpaaGreatDoor.Pr
open Go Go.RowKit Go.Proofs.YtkolnkjdcncmpaaGreatDoor.Pm Go.Proofs.YtkolnkjdcncmpaaGreatDoor.Pl
open Go.Proofs.YtkolnkjdcncmpaaGreatDoor.Lx (cellsT pT rowT rowT_len rowT_get lexF)
set_option linter.unusedVariables false
set_option maxHeartbeats 1000000
theorem wkTup {ps qs : List PV} (h : WkL ps qs) : Wk (.tup ps) (.tup qs) := by
  intro w ok m tk v hv
  cases hv with
  | tup cs _ hl hh =>
    have := h.rep (w := w) (ok := ok) (m := m) (tk := tk) (vs := cs.toList) ⟨hl, hh⟩
    exact .tup cs _ this.1 this.2
def zE : Ex := ⟨0, 0, e0, []⟩
/-- behind the scanner -/
def finP (l : List Lx.Tok) : Ex × Int × Int := match exprP 32 false l with
  | .er e n => (zE, e, n)
  | .ok x [] => (zE, 0, 0)
  | .ok x (t :: _) => if t.kind = 5 then (x, 0, 0) else (zE, 80, t.place)
def parseP (s : ByteArray) : Ex × Int × Int := if (lexF s).2.1 ≠ 0 then (zE, (lexF s).2.1, (lexF s).2.2) else finP (lexF s).1
@[reducible] def resB (x : List PV) (e n : Int) : List (List PV) := [x, [pI e], [pI n]]
@[reducible] def zB : List PV := [pI 0, pI 0, pS e0, .c .nil]
theorem catch_nilX (x : Ex) (e n : Int) {c : CV} : OkD E 82 (resB [pI x.f0, pI x.f1, pS x.f2, .c c] e n) [.ptr 0 0, .ptr 1 0, .ptr 2 0] .nif (resB [pI x.f0, pI x.f1, pS x.f2, .c c] e n) := by
  refine OkD.enter hE Tryz.func82 rfl (by decide +kernel) rfl rfl rfl rfl (Nat.le_of_ble_eq_true rfl) rfl (by kernel_rfl) rfl rfl (Nat.le_of_ble_eq_true rfl) rfl rfl ?_
  exact ⟨_, rfl, Wk.refl _, rfl, .cons (WkL.refl _) rfl (.cons (WkL.refl _) rfl (.cons (WkL.refl _) rfl (.nil _)))⟩
theorem catch_pan (e' n' e n : Int) : OkD E 82 (resB zB e' n') [.ptr 0 0, .ptr 1 0, .ptr 2 0] (pan e n) (resB zB e n) := by
  refine OkD.enter hE Tryz.func82 rfl (by decide +kernel) rfl rfl rfl rfl (Nat.le_of_ble_eq_true rfl) rfl (by kernel_rfl) rfl rfl (Nat.le_of_ble_eq_true rfl) rfl rfl ?_
  exact ⟨_, rfl, Wk.refl _, rfl, .cons (WkL.refl _) rfl (.cons (WkL.refl _) rfl (.cons (WkL.refl _) rfl (.nil _)))⟩
theorem Good.cons {t : Lx.Tok} {l : List Lx.Tok} (h : Good l) : Good (t :: l) := by
  cases l with
  | nil => exact h.elim
  | cons u r => exact h
theorem scan_good : ∀ (f : Nat) (l : List UInt8) (p : Nat), l.length < f → Lx.tellF (Lx.scanF f l p) = none → Good ((Lx.scanF f l p).map (·.1))
  | 0, l, p, h, _ => by omega
  | f + 1, l, p, h, ht => by
    rw [Lx.scanF] at ht ⊢
    try dsimp only at ht
    try dsimp only
    obtain ⟨m, hm⟩ : ∃ m, l.drop (Lx.runB Lx.blanksB l) = m := ⟨_, rfl⟩
    have hml : m.length ≤ l.length := by rw [← hm, List.length_drop]; omega
    rw [hm] at ht ⊢
    split at ht
    · rename_i hc
      rw [if_pos hc]
      have h2 : (Lx.firstF m).2 = true := by
        cases h2 : (Lx.firstF m).2 with
        | true => rfl
        | false => rw [h2] at ht; simp [Lx.tellF] at ht
      rw [h2] at hc
      show (Lx.firstF m).1.kind = 5
      simpa using hc
    · rename_i hc
      rw [if_neg hc]
      have h2 : (Lx.firstF m).2 = true := by
        cases h2 : (Lx.firstF m).2 with
        | true => rfl
        | false => exact absurd (.inl h2) hc
      have h5 : (Lx.firstF m).1.kind ≠ 5 := fun h => hc (.inr h)
      obtain ⟨f1, f2⟩ := Lx.first_fits m h2 h5
      rw [h2] at ht
      exact Good.cons (scan_good f _ _ (by rw [List.length_drop]; omega) ht)
theorem lex_good {s : ByteArray} (h : (lexF s).2.1 = 0) : Good (lexF s).1 := by
  unfold lexF at h ⊢
  split
  · rename_i hs; rw [if_pos hs] at h; cases h
  · rename_i hs
    rw [if_neg hs] at h
    cases ht : Lx.tellF (Lx.scan s) with
    | some p => rw [ht] at h; cases h
    | none => exact scan_good _ _ _ (by simp) ht
theorem Parse_ok (s : ByteArray) : Ok E 61 [] [pS s] (.tup [pE (parseP s).1, pI (parseP s).2.1, pI (parseP s).2.2]) [] := by
  have hL := Lx.Lex_ok s
  obtain ⟨r, hr⟩ : ∃ r, parseP s = r := ⟨_, rfl⟩
  rw [hr]
  unfold parseP at hr
  have hgood := lex_good (s := s)
  obtain ⟨L, hLs⟩ : ∃ L, lexF s = L := ⟨_, rfl⟩
  rw [hLs] at hL hr hgood
  obtain ⟨toks, le, ln⟩ := L
  dsimp only at hL hr hgood
  have wz : Wk (.agg [.int .i64 0, .int .i64 0, .str e0, .nil]) (pE zE) := wkE _ _ _
  by_cases he : le = 0
  · subst he
    rw [if_neg (by simp)] at hr
    have hg := hgood rfl
    unfold finP at hr
    have hEx := expr_all 32 (by omega) false toks hg
    unfold ExD at hEx
    rcases PR.cases (exprP 32 false toks) with ⟨x, l, hx⟩ | ⟨e, n, hx⟩
    · rw [hx] at hEx hr
      dsimp only at hEx hr
      have hgl := exprP_good 32 false hg hx
      obtain ⟨t, m, rfl⟩ := hgl.ne
      dsimp only at hr
      by_cases h5 : t.kind = 5
      · rw [if_pos h5] at hr
        subst hr
        have hT := take0_end (r := m) (any_ok t) h5
        refine Ok.enterD (g := 82) hE [.p 0 0, .p 1 0, .p 2 0] 3 Tryz.func61 rfl (by decide +kernel) rfl rfl (Nat.le_of_ble_eq_true rfl) rfl rfl ?_
        refine ⟨by kernel_rfl, ?_⟩
        refine ⟨by kernel_rfl, ?_⟩
        refine ⟨_, CallR.mk1 hL rfl rfl, ?_⟩
        refine ⟨by kernel_rfl, ?_⟩
        refine ⟨_, neN rfl, ?_⟩
        refine ⟨_, _, _, _, _, _, _, rfl, rfl, ⟨rfl, rfl, rfl, rfl, rfl, rfl⟩, rfl, by kernel_rfl, rfl, ?_⟩
        refine .inl ⟨_, _, SCallR.of [3] hEx (Hand.of rfl rfl (by simp) rfl rfl) rfl rfl rfl, ?_⟩
        refine .inl ⟨_, _, SCallR.of [3] hT (Hand.of rfl rfl (by simp) rfl rfl) rfl rfl rfl, ?_⟩
        exact ⟨[0, 1, 2], _, _, _, Hand.of rfl rfl (by simp) rfl rfl, catch_nilX x 0 0, rfl, rfl, _, rfl, Wk.refl _, rfl, .nil _⟩
      · rw [if_neg h5] at hr
        subst hr
        have hT := take0_kind (g := 85) (r := m) 5 h5
        refine Ok.enterD (g := 82) hE [.p 0 0, .p 1 0, .p 2 0] 3 Tryz.func61 rfl (by decide +kernel) rfl rfl (Nat.le_of_ble_eq_true rfl) rfl rfl ?_
        refine ⟨by kernel_rfl, ?_⟩
        refine ⟨by kernel_rfl, ?_⟩
        refine ⟨_, CallR.mk1 hL rfl rfl, ?_⟩
        refine ⟨by kernel_rfl, ?_⟩
        refine ⟨_, neN rfl, ?_⟩
        refine ⟨_, _, _, _, _, _, _, rfl, rfl, ⟨rfl, rfl, rfl, rfl, rfl, rfl⟩, rfl, by kernel_rfl, rfl, ?_⟩
        refine .inl ⟨_, _, SCallR.of [3] hEx (Hand.of rfl rfl (by simp) rfl rfl) rfl rfl rfl, ?_⟩
        refine .inr (.inr ⟨_, 3, ⟨[3], _, _, Hand.of rfl rfl (by simp) rfl rfl, hT, rfl, rfl⟩, rfl, ?_⟩)
        exact ⟨rfl, Nat.zero_le _, rfl, [0, 1, 2], _, _, _, Hand.of rfl rfl (by simp) rfl rfl, catch_pan 0 ln 80 t.place, rfl, rfl, _, rfl, wkTup (.cons wz (WkL.refl _)), rfl, .nil _⟩
    · rw [hx] at hEx hr
      dsimp only at hEx hr
      subst hr
      refine Ok.enterD (g := 82) hE [.p 0 0, .p 1 0, .p 2 0] 3 Tryz.func61 rfl (by decide +kernel) rfl rfl (Nat.le_of_ble_eq_true rfl) rfl rfl ?_
      refine ⟨by kernel_rfl, ?_⟩
      refine ⟨by kernel_rfl, ?_⟩
      refine ⟨_, CallR.mk1 hL rfl rfl, ?_⟩
      refine ⟨by kernel_rfl, ?_⟩
      refine ⟨_, neN rfl, ?_⟩
      refine ⟨_, _, _, _, _, _, _, rfl, rfl, ⟨rfl, rfl, rfl, rfl, rfl, rfl⟩, rfl, by kernel_rfl, rfl, ?_⟩
      refine .inr (.inr ⟨_, 3, ⟨[3], _, _, Hand.of rfl rfl (by simp) rfl rfl, hEx, rfl, rfl⟩, rfl, ?_⟩)
      exact ⟨rfl, Nat.zero_le _, rfl, [0, 1, 2], _, _, _, Hand.of rfl rfl (by simp) rfl rfl, catch_pan 0 ln e n, rfl, rfl, _, rfl, wkTup (.cons wz (WkL.refl _)), rfl, .nil _⟩
  · rw [if_pos he] at hr
    subst hr
    refine Ok.enterD (g := 82) hE [.p 0 0, .p 1 0, .p 2 0] 3 Tryz.func61 rfl (by decide +kernel) rfl rfl (Nat.le_of_ble_eq_true rfl) rfl rfl ?_
    refine ⟨by kernel_rfl, ?_⟩
    refine ⟨by kernel_rfl, ?_⟩
    refine ⟨_, CallR.mk1 hL rfl rfl, ?_⟩
    refine ⟨by kernel_rfl, ?_⟩
    refine ⟨_, neT he, ?_⟩
    exact ⟨_, rfl, wkTup (.cons wz (WkL.refl _)), rfl, .nil _⟩
end Go.Proofs.YtkolnkjdcncmpaaGreatDoor.Pr

/- The document's parser, in the pure machine: what it takes, and what begins. -/
namespace Go.Proofs.YtkolnkjdcncmpaaGreatDoor.Pr
open Go Go.RowKit Go.Proofs.YtkolnkjdcncmpaaGreatDoor.Pm Go.Proofs.YtkolnkjdcncmpaaGreatDoor.Pl
open Go.Proofs.YtkolnkjdcncmpaaGreatDoor.Lx (cellsT pT rowT rowT_len rowT_get lexF)
open Go.Proofs.YtkolnkjdcncmpaaGreatDoor.Q (wordL)
set_option linter.unusedVariables false
set_option maxHeartbeats 1000000
/-- where the document's parser stands, and what is wrong -/
structure RS where
  pl : Nat
  e : Int
@[reducible] def stB (toks : List Lx.Tok) (r : RS) : List PV := [.c (.row (rowT toks)), pI r.pl, pI r.e]
def zT : Lx.Tok := ⟨0, ⟨#[]⟩, 0, 0⟩
def wrS (e x : Int) : Int := if e = 0 then x else e
def badS (t : Lx.Tok) (kind : Int) (s : ByteArray) : Bool := if t.kind ≠ kind then true else (!(s.toList == (⟨#[]⟩ : ByteArray).toList)) && !(t.text.toList == s.toList)
def takeS (toks : List Lx.Tok) (kind : Int) (s : ByteArray) (r : RS) : Lx.Tok × RS :=
  let t := toks.getD r.pl zT
  let e1 := if badS t kind s = true then wrS r.e 80 else r.e
  if e1 ≠ 0 then (zT, ⟨r.pl, e1⟩) else (t, ⟨if kind = 5 then r.pl else r.pl + 1, e1⟩)
theorem rwrong_set (toks : List Lx.Tok) (pl : Nat) (x : Int) : Ok E 92 [stB toks ⟨pl, 0⟩] [.ptr 0 0, pI x] (.tup []) [stB toks ⟨pl, x⟩] := by
  refine Ok.enter hE Tryz.func92 rfl (by decide +kernel) (by kernel_rfl) rfl rfl (Nat.le_of_ble_eq_true rfl) rfl ?_
  refine ⟨_, eqT rfl, ?_⟩
  exact ⟨_, rfl, Wk.refl _, rfl, .cons (WkL.refl _) rfl (.nil _)⟩
theorem rwrong_keep (toks : List Lx.Tok) (pl : Nat) (x : Int) {e : Int} (he : e ≠ 0) : Ok E 92 [stB toks ⟨pl, e⟩] [.ptr 0 0, pI x] (.tup []) [stB toks ⟨pl, e⟩] := by
  refine Ok.enter hE Tryz.func92 rfl (by decide +kernel) (by kernel_rfl) rfl rfl (Nat.le_of_ble_eq_true rfl) rfl ?_
  refine ⟨_, eqN he, ?_⟩
  exact ⟨_, rfl, Wk.refl _, rfl, .cons (WkL.refl _) rfl (.nil _)⟩
theorem rwrong_ok (toks : List Lx.Tok) (r : RS) (x : Int) : Ok E 92 [stB toks r] [.ptr 0 0, pI x] (.tup []) [stB toks ⟨r.pl, wrS r.e x⟩] := by
  obtain ⟨pl, e⟩ := r
  by_cases he : e = 0
  · subst he; exact rwrong_set toks pl x
  · rw [show wrS e x = e from if_neg he]; exact rwrong_keep toks pl x he
theorem rtake_ok {toks : List Lx.Tok} {r : RS} {t : Lx.Tok} (h : toks[r.pl]? = some t) (hN : toks.length ≤ 1000000) (kind : Int) (s : ByteArray) : Ok E 65 [stB toks r] [.ptr 0 0, pI kind, pS s] (pT (takeS toks kind s r).1) [stB toks (takeS toks kind s r).2] := by
  obtain ⟨pl, e⟩ := r
  have h : toks[pl]? = some t := h
  have hpl : pl < toks.length := (List.getElem?_eq_some_iff.1 h).1
  have ht : toks.getD pl zT = t := by rw [List.getD_eq_getElem?_getD, h]; rfl
  have hget := rowT_get h
  obtain ⟨v, hv⟩ : ∃ v, takeS toks kind s ⟨pl, e⟩ = v := ⟨_, rfl⟩
  rw [hv]
  unfold takeS at hv
  dsimp only at hv
  rw [ht] at hv
  by_cases hk : t.kind = kind
  · rcases Bool.eq_false_or_eq_true (s.toList == (⟨#[]⟩ : ByteArray).toList) with h1 | h1
    · have hb : badS t kind s = false := by unfold badS; rw [if_neg (by simp [hk]), h1]; rfl
      rw [hb, if_neg Bool.false_ne_true] at hv
      by_cases he : e = 0
      · subst he
        rw [if_neg (by simp)] at hv
        by_cases h5 : kind = 5
        · rw [if_pos h5] at hv
          subst hv
          refine Ok.enter hE Tryz.func65 rfl (by decide +kernel) (by kernel_rfl) rfl rfl (Nat.le_of_ble_eq_true rfl) rfl ?_
          refine ⟨_, idxV (j := pl) hget rfl rfl rfl rfl, ?_⟩
          refine ⟨_, neN hk, ?_⟩
          refine ⟨_, strNeV (c := false) (by rw [h1]; rfl), ?_⟩
          refine ⟨_, neN rfl, ?_⟩
          refine ⟨_, neN h5, ?_⟩
          exact ⟨_, rfl, Wk.refl _, rfl, .cons (WkL.refl _) rfl (.nil _)⟩
        · rw [if_neg h5] at hv
          subst hv
          refine Ok.enter hE Tryz.func65 rfl (by decide +kernel) (by kernel_rfl) rfl rfl (Nat.le_of_ble_eq_true rfl) rfl ?_
          refine ⟨_, idxV (j := pl) hget rfl rfl rfl rfl, ?_⟩
          refine ⟨_, neN hk, ?_⟩
          refine ⟨_, strNeV (c := false) (by rw [h1]; rfl), ?_⟩
          refine ⟨_, neN rfl, ?_⟩
          refine ⟨_, neT h5, ?_⟩
          refine ⟨_, addV (z := ((pl + 1 : Nat) : Int)) (by dsimp only; omega) (by omega) (by omega), ?_⟩
          exact ⟨_, rfl, Wk.refl _, rfl, .cons (WkL.refl _) rfl (.nil _)⟩
      · rw [if_pos he] at hv
        subst hv
        refine Ok.enter hE Tryz.func65 rfl (by decide +kernel) (by kernel_rfl) rfl rfl (Nat.le_of_ble_eq_true rfl) rfl ?_
        refine ⟨_, idxV (j := pl) hget rfl rfl rfl rfl, ?_⟩
        refine ⟨_, neN hk, ?_⟩
        refine ⟨_, strNeV (c := false) (by rw [h1]; rfl), ?_⟩
        refine ⟨_, neT he, ?_⟩
        exact ⟨_, rfl, Wk.refl _, rfl, .cons (WkL.refl _) rfl (.nil _)⟩
    · rcases Bool.eq_false_or_eq_true (t.text.toList == s.toList) with h2 | h2
      · have hb : badS t kind s = false := by unfold badS; rw [if_neg (by simp [hk]), h1, h2]; rfl
        rw [hb, if_neg Bool.false_ne_true] at hv
        by_cases he : e = 0
        · subst he
          rw [if_neg (by simp)] at hv
          by_cases h5 : kind = 5
          · rw [if_pos h5] at hv
            subst hv
            refine Ok.enter hE Tryz.func65 rfl (by decide +kernel) (by kernel_rfl) rfl rfl (Nat.le_of_ble_eq_true rfl) rfl ?_
            refine ⟨_, idxV (j := pl) hget rfl rfl rfl rfl, ?_⟩
            refine ⟨_, neN hk, ?_⟩
            refine ⟨_, strNeV (c := true) (by rw [h1]; rfl), ?_⟩
            refine ⟨_, strNeV (c := false) (by rw [h2]; rfl), ?_⟩
            refine ⟨_, neN rfl, ?_⟩
            refine ⟨_, neN h5, ?_⟩
            exact ⟨_, rfl, Wk.refl _, rfl, .cons (WkL.refl _) rfl (.nil _)⟩
          · rw [if_neg h5] at hv
            subst hv
            refine Ok.enter hE Tryz.func65 rfl (by decide +kernel) (by kernel_rfl) rfl rfl (Nat.le_of_ble_eq_true rfl) rfl ?_
            refine ⟨_, idxV (j := pl) hget rfl rfl rfl rfl, ?_⟩
            refine ⟨_, neN hk, ?_⟩
            refine ⟨_, strNeV (c := true) (by rw [h1]; rfl), ?_⟩
            refine ⟨_, strNeV (c := false) (by rw [h2]; rfl), ?_⟩
            refine ⟨_, neN rfl, ?_⟩
            refine ⟨_, neT h5, ?_⟩
            refine ⟨_, addV (z := ((pl + 1 : Nat) : Int)) (by dsimp only; omega) (by omega) (by omega), ?_⟩
            exact ⟨_, rfl, Wk.refl _, rfl, .cons (WkL.refl _) rfl (.nil _)⟩
        · rw [if_pos he] at hv
          subst hv
          refine Ok.enter hE Tryz.func65 rfl (by decide +kernel) (by kernel_rfl) rfl rfl (Nat.le_of_ble_eq_true rfl) rfl ?_
          refine ⟨_, idxV (j := pl) hget rfl rfl rfl rfl, ?_⟩
          refine ⟨_, neN hk, ?_⟩
          refine ⟨_, strNeV (c := true) (by rw [h1]; rfl), ?_⟩
          refine ⟨_, strNeV (c := false) (by rw [h2]; rfl), ?_⟩
          refine ⟨_, neT he, ?_⟩
          exact ⟨_, rfl, Wk.refl _, rfl, .cons (WkL.refl _) rfl (.nil _)⟩
      · have hb : badS t kind s = true := by unfold badS; rw [if_neg (by simp [hk]), h1, h2]; rfl
        rw [hb, if_pos rfl] at hv
        by_cases he : e = 0
        · subst he
          rw [show wrS 0 80 = 80 from rfl, if_pos (by decide)] at hv
          subst hv
          refine Ok.enter hE Tryz.func65 rfl (by decide +kernel) (by kernel_rfl) rfl rfl (Nat.le_of_ble_eq_true rfl) rfl ?_
          refine ⟨_, idxV (j := pl) hget rfl rfl rfl rfl, ?_⟩
          refine ⟨_, neN hk, ?_⟩
          refine ⟨_, strNeV (c := true) (by rw [h1]; rfl), ?_⟩
          refine ⟨_, strNeV (c := true) (by rw [h2]; rfl), ?_⟩
          refine .inl ⟨_, _, SCallR.of [0] (rwrong_set toks pl 80) (Hand.of rfl rfl (by simp) rfl rfl) rfl rfl rfl, ?_⟩
          refine ⟨_, neT (by dsimp only; decide), ?_⟩
          exact ⟨_, rfl, Wk.refl _, rfl, .cons (WkL.refl _) rfl (.nil _)⟩
        · rw [show wrS e 80 = e from if_neg he, if_pos he] at hv
          subst hv
          refine Ok.enter hE Tryz.func65 rfl (by decide +kernel) (by kernel_rfl) rfl rfl (Nat.le_of_ble_eq_true rfl) rfl ?_
          refine ⟨_, idxV (j := pl) hget rfl rfl rfl rfl, ?_⟩
          refine ⟨_, neN hk, ?_⟩
          refine ⟨_, strNeV (c := true) (by rw [h1]; rfl), ?_⟩
          refine ⟨_, strNeV (c := true) (by rw [h2]; rfl), ?_⟩
          refine .inl ⟨_, _, SCallR.of [0] (rwrong_keep toks pl 80 he) (Hand.of rfl rfl (by simp) rfl rfl) rfl rfl rfl, ?_⟩
          refine ⟨_, neT he, ?_⟩
          exact ⟨_, rfl, Wk.refl _, rfl, .cons (WkL.refl _) rfl (.nil _)⟩
  · have hb : badS t kind s = true := by unfold badS; rw [if_pos hk]
    rw [hb, if_pos rfl] at hv
    by_cases he : e = 0
    · subst he
      rw [show wrS 0 80 = 80 from rfl, if_pos (by decide)] at hv
      subst hv
      refine Ok.enter hE Tryz.func65 rfl (by decide +kernel) (by kernel_rfl) rfl rfl (Nat.le_of_ble_eq_true rfl) rfl ?_
      refine ⟨_, idxV (j := pl) hget rfl rfl rfl rfl, ?_⟩
      refine ⟨_, neT hk, ?_⟩
      refine .inl ⟨_, _, SCallR.of [0] (rwrong_set toks pl 80) (Hand.of rfl rfl (by simp) rfl rfl) rfl rfl rfl, ?_⟩
      refine ⟨_, neT (by dsimp only; decide), ?_⟩
      exact ⟨_, rfl, Wk.refl _, rfl, .cons (WkL.refl _) rfl (.nil _)⟩
    · rw [show wrS e 80 = e from if_neg he, if_pos he] at hv
      subst hv
      refine Ok.enter hE Tryz.func65 rfl (by decide +kernel) (by kernel_rfl) rfl rfl (Nat.le_of_ble_eq_true rfl) rfl ?_
      refine ⟨_, idxV (j := pl) hget rfl rfl rfl rfl, ?_⟩
      refine ⟨_, neT hk, ?_⟩
      refine .inl ⟨_, _, SCallR.of [0] (rwrong_keep toks pl 80 he) (Hand.of rfl rfl (by simp) rfl rfl) rfl rfl rfl, ?_⟩
      refine ⟨_, neT he, ?_⟩
      exact ⟨_, rfl, Wk.refl _, rfl, .cons (WkL.refl _) rfl (.nil _)⟩
/-! ### what begins -/
def isW (t : Lx.Tok) (c : Bool) (k : Int) : Bool := ((B (wordL k)).toList == t.text.toList) && (isCond k == c)
def findS (t : Lx.Tok) (c : Bool) (lo : Int) : Nat → Int
  | 0 => 0
  | n + 1 => match isW t c lo with
    | true => lo
    | false => findS t c (lo + 1) n
def kindS (t : Lx.Tok) (c : Bool) : Int := if t.kind = 3 ∧ c = false then 4 else if t.kind = 1 then findS t c 1 12 else 0
theorem findS_step (t : Lx.Tok) (c : Bool) : ∀ (n : Nat) (lo : Int), (∃ j : Nat, j < n ∧ findS t c lo n = lo + j ∧ (∀ i : Nat, i < j → isW t c (lo + i) = false) ∧ isW t c (lo + j) = true) ∨ (findS t c lo n = 0 ∧ ∀ i : Nat, i < n → isW t c (lo + i) = false)
  | 0, lo => .inr ⟨rfl, fun i hi => by omega⟩
  | n + 1, lo => by
    rcases Bool.eq_false_or_eq_true (isW t c lo) with h | h
    · refine .inl ⟨0, by omega, by rw [findS, h]; simp, fun i hi => by omega, by simpa using h⟩
    · rcases findS_step t c n (lo + 1) with ⟨j, h1, h2, h3, h4⟩ | ⟨h2, h3⟩
      · refine .inl ⟨j + 1, by omega, ?_, fun i hi => ?_, by rw [show lo + ((j + 1 : Nat) : Int) = lo + 1 + j by omega]; exact h4⟩
        · rw [findS, h]; dsimp only; rw [h2]; omega
        · cases i with
          | zero => simpa using h
          | succ i => rw [show lo + ((i + 1 : Nat) : Int) = lo + 1 + i by omega]; exact h3 i (by omega)
      · refine .inr ⟨by rw [findS, h]; exact h2, fun i hi => ?_⟩
        cases i with
        | zero => simpa using h
        | succ i => rw [show lo + ((i + 1 : Nat) : Int) = lo + 1 + i by omega]; exact h3 i (by omega)
theorem eqBV {c d b : Bool} (h : (c == d) = b) : BinR E 4 .eql (.c (.bool c)) (.c (.bool d)) (.c (.bool b)) := .of (by rw [← h]; rfl)
theorem rkind_ok {toks : List Lx.Tok} {r : RS} {t : Lx.Tok} (h : toks[r.pl]? = some t) (c : Bool) : Ok E 93 [stB toks r] [.ptr 0 0, pB c] (pI (kindS t c)) [stB toks r] := by
  obtain ⟨pl, e⟩ := r
  have h : toks[pl]? = some t := h
  have hget := rowT_get h
  obtain ⟨v, hv⟩ : ∃ v, kindS t c = v := ⟨_, rfl⟩
  rw [hv]
  unfold kindS at hv
  by_cases h3 : t.kind = 3
  · cases c
    · rw [if_pos ⟨h3, rfl⟩] at hv
      subst hv
      refine Ok.enter hE Tryz.func93 rfl (by decide +kernel) (by kernel_rfl) rfl rfl (Nat.le_of_ble_eq_true rfl) rfl ?_
      refine ⟨_, idxV (j := pl) hget rfl rfl rfl rfl, ?_⟩
      refine ⟨_, eqT h3, ?_⟩
      exact ⟨_, rfl, Wk.refl _, rfl, .cons (WkL.refl _) rfl (.nil _)⟩
    · rw [if_neg (by simp), if_neg (by omega)] at hv
      subst hv
      refine Ok.enter hE Tryz.func93 rfl (by decide +kernel) (by kernel_rfl) rfl rfl (Nat.le_of_ble_eq_true rfl) rfl ?_
      refine ⟨_, idxV (j := pl) hget rfl rfl rfl rfl, ?_⟩
      refine ⟨_, eqT h3, ?_⟩
      refine Loop.run (α := Unit) (fun _ => True) (fun _ => [(0, .ptr 0 0), (1, pB true), (5, .ptr 1 0), (6, pI 1)]) (fun _ => [stB toks ⟨pl, e⟩, [pI t.kind, pS t.text, pI t.n, pI t.place]]) (fun _ => []) (fun _ => 0) () trivial ⟨⟨rfl, rfl, rfl, rfl, trivial⟩, rfl, rfl⟩ ?_
      intro _ f _
      refine ⟨_, leT (by decide), ?_⟩
      refine ⟨_, eqN (by omega), ?_⟩
      exact ⟨_, rfl, Wk.refl _, rfl, .cons (WkL.refl _) rfl (.nil _)⟩
  rw [if_neg (fun h => h3 h.1)] at hv
  by_cases h1 : t.kind = 1
  rotate_left
  · rw [if_neg h1] at hv
    subst hv
    refine Ok.enter hE Tryz.func93 rfl (by decide +kernel) (by kernel_rfl) rfl rfl (Nat.le_of_ble_eq_true rfl) rfl ?_
    refine ⟨_, idxV (j := pl) hget rfl rfl rfl rfl, ?_⟩
    refine ⟨_, eqN h3, ?_⟩
    refine Loop.run (α := Unit) (fun _ => True) (fun _ => [(0, .ptr 0 0), (1, pB c), (5, .ptr 1 0), (6, pI 1)]) (fun _ => [stB toks ⟨pl, e⟩, [pI t.kind, pS t.text, pI t.n, pI t.place]]) (fun _ => []) (fun _ => 0) () trivial ⟨⟨rfl, rfl, rfl, rfl, trivial⟩, rfl, rfl⟩ ?_
    intro _ f _
    refine ⟨_, leT (by decide), ?_⟩
    refine ⟨_, eqN h1, ?_⟩
    exact ⟨_, rfl, Wk.refl _, rfl, .cons (WkL.refl _) rfl (.nil _)⟩
  rw [if_pos h1] at hv
  have hst := findS_step t c 12 1
  rw [hv] at hst
  clear hv
  refine Ok.enter hE Tryz.func93 rfl (by decide +kernel) (by kernel_rfl) rfl rfl (Nat.le_of_ble_eq_true rfl) rfl ?_
  refine ⟨_, idxV (j := pl) hget rfl rfl rfl rfl, ?_⟩
  refine ⟨_, eqN h3, ?_⟩
  refine Loop.run (α := Nat) (fun j => j ≤ 12 ∧ ∀ i : Nat, i < j → isW t c (1 + i) = false) (fun j => [(0, .ptr 0 0), (1, pB c), (5, .ptr 1 0), (6, pI (1 + (j : Int)))]) (fun _ => [stB toks ⟨pl, e⟩, [pI t.kind, pS t.text, pI t.n, pI t.place]]) (fun _ => []) (fun j => 12 - j) 0 ⟨Nat.zero_le _, fun i hi => by omega⟩ ⟨⟨rfl, rfl, rfl, rfl, trivial⟩, rfl, rfl⟩ ?_
  rintro j f ⟨hj, hno⟩
  have hn1 : ∀ (hw : isW t c (1 + j) = false), ∀ i : Nat, i < j + 1 → isW t c (1 + i) = false := by
    intro hw i hi
    by_cases hij : i = j
    · subst hij; exact hw
    · exact hno i (by omega)
  rcases Nat.lt_or_ge j 12 with hlt | hge
  · refine ⟨_, leT (by omega), ?_⟩
    refine ⟨_, eqT h1, ?_⟩
    refine ⟨_, CallR.mk1 (rWordK_ok _) rfl rfl, ?_⟩
    rcases Bool.eq_false_or_eq_true ((B (wordL (1 + (j : Int)))).toList == t.text.toList) with hq | hq
    · refine ⟨_, strEqV (c := true) hq, ?_⟩
      refine ⟨_, CallR.mk1 (rCond_ok _) rfl rfl, ?_⟩
      rcases Bool.eq_false_or_eq_true (isCond (1 + (j : Int)) == c) with hc | hc
      · refine ⟨_, eqBV (b := true) hc, ?_⟩
        have hw : isW t c (1 + j) = true := by unfold isW; rw [hq, hc]; rfl
        have hvj : 1 + (j : Int) = v := by
          rcases hst with ⟨k, k1, k2, k3, k4⟩ | ⟨k2, k3⟩
          · rcases Nat.lt_trichotomy j k with hl | hl | hl
            · rw [k3 j hl] at hw; cases hw
            · rw [k2, hl]
            · rw [hno k hl] at k4; cases k4
          · rw [k3 j hlt] at hw; cases hw
        exact ⟨_, rfl, by show Wk (pI (1 + (j : Int))) (pI v); rw [hvj]; exact Wk.refl _, rfl, .cons (WkL.refl _) rfl (.nil _)⟩
      · refine ⟨_, eqBV (b := false) hc, ?_⟩
        have hw : isW t c (1 + j) = false := by unfold isW; rw [hq, hc]; rfl
        refine ⟨_, addV (z := 1 + ((j + 1 : Nat) : Int)) (by omega) (by omega) (by omega), ?_⟩
        exact ⟨j + 1, ⟨hlt, hn1 hw⟩, by omega, ⟨rfl, rfl, rfl, rfl, trivial⟩, rfl, rfl⟩
    · refine ⟨_, strEqV (c := false) hq, ?_⟩
      have hw : isW t c (1 + j) = false := by unfold isW; rw [hq]; rfl
      refine ⟨_, addV (z := 1 + ((j + 1 : Nat) : Int)) (by omega) (by omega) (by omega), ?_⟩
      exact ⟨j + 1, ⟨hlt, hn1 hw⟩, by omega, ⟨rfl, rfl, rfl, rfl, trivial⟩, rfl, rfl⟩
  · have hj12 : j = 12 := by omega
    subst hj12
    have hv0 : v = 0 := by
      rcases hst with ⟨k, k1, k2, k3, k4⟩ | ⟨k2, k3⟩
      · rw [hno k k1] at k4; cases k4
      · exact k2
    refine ⟨_, leN (by omega), ?_⟩
    exact ⟨_, rfl, by show Wk (pI 0) (pI v); rw [hv0]; exact Wk.refl _, rfl, .cons (WkL.refl _) rfl (.nil _)⟩
end Go.Proofs.YtkolnkjdcncmpaaGreatDoor.Pr

/- The document's parser, in the pure machine: an expression, a text. -/
namespace Go.Proofs.YtkolnkjdcncmpaaGreatDoor.Pr
open Go Go.RowKit Go.Proofs.YtkolnkjdcncmpaaGreatDoor.Pm Go.Proofs.YtkolnkjdcncmpaaGreatDoor.Pl
open Go.Proofs.YtkolnkjdcncmpaaGreatDoor.Lx (cellsT pT rowT rowT_len rowT_get lexF)
open Go.Proofs.YtkolnkjdcncmpaaGreatDoor.Q (wordL)
set_option linter.unusedVariables false
set_option maxHeartbeats 2000000
section
variable (toks : List Lx.Tok)
def restS (k : Int) (r : RS) : (Int × ByteArray) × RS :=
  if k = 3 then ((0, (toks.getD r.pl zT).text), (takeS toks 1 e0 ⟨r.pl, if Lx.isName (toks.getD r.pl zT).text = true then r.e else wrS r.e 80⟩).2)
  else if k = 5 then (((takeS toks 3 e0 (takeS toks 4 comma r).2).1.n, e0), (takeS toks 3 e0 (takeS toks 4 comma r).2).2)
  else if k = 6 then (((takeS toks 2 e0 (takeS toks 4 comma r).2).1.n, e0), (takeS toks 2 e0 (takeS toks 4 comma r).2).2)
  else if k = 11 then (((toks.getD r.pl zT).n, e0), (takeS toks 2 e0 ⟨r.pl, if (toks.getD r.pl zT).n > 1000 then wrS r.e 80 else r.e⟩).2)
  else ((0, e0), r)
def commaS (i : Nat) (r : RS) : RS := if i = 0 then r else (takeS toks 4 comma r).2
def argsS (ex : Bool → RS → Ex × RS) (isIf : Bool) : Nat → Nat → RS → List Ex × RS
  | 0, _, r => ([], r)
  | n + 1, i, r => ((ex (isIf && (i == 0)) (commaS toks i r)).1 :: (argsS ex isIf n (i + 1) (ex (isIf && (i == 0)) (commaS toks i r)).2).1, (argsS ex isIf n (i + 1) (ex (isIf && (i == 0)) (commaS toks i r)).2).2)
def exprS : Nat → Bool → RS → Ex × RS
  | 0, _, r => (zE, ⟨r.pl, wrS r.e 81⟩)
  | d + 1, c, r =>
    let k := kindS (toks.getD r.pl zT) c
    let e1 := if k = 0 then wrS r.e 80 else r.e
    if e1 ≠ 0 then (zE, ⟨r.pl, e1⟩)
    else if k = 4 then (⟨4, (takeS toks 3 e0 ⟨r.pl, 0⟩).1.n, e0, []⟩, (takeS toks 3 e0 ⟨r.pl, 0⟩).2)
    else
      let r1 := (takeS toks 1 e0 ⟨r.pl, 0⟩).2
      if k = 1 ∨ k = 2 then (⟨k, 0, e0, []⟩, r1)
      else
        let r2 := (takeS toks 4 openS r1).2
        let A := argsS toks (exprS d) (k == 10) (argsOf k).toNat 0 r2
        let R := restS toks k A.2
        (⟨k, R.1.1, R.1.2, A.1⟩, (takeS toks 4 shutS R.2).2)
end
/-! ### there is always a token left -/
def In (toks : List Lx.Tok) (r : RS) : Prop := Good (toks.drop r.pl)
theorem In.get {toks : List Lx.Tok} {r : RS} (h : In toks r) : ∃ t, toks[r.pl]? = some t ∧ toks.getD r.pl zT = t := by
  obtain ⟨t, m, hm⟩ := Good.ne h
  have : toks[r.pl]? = some t := by
    have := congrArg (fun l : List Lx.Tok => l[0]?) hm
    simpa using this
  exact ⟨t, this, by rw [List.getD_eq_getElem?_getD, this]; rfl⟩
theorem In.mk {toks : List Lx.Tok} {p : Nat} {e e' : Int} (h : In toks ⟨p, e⟩) : In toks ⟨p, e'⟩ := h
theorem takeS_in {toks : List Lx.Tok} {r : RS} (h : In toks r) {kind : Int} (hk : kind ≠ 5) (s : ByteArray) : In toks (takeS toks kind s r).2 := by
  obtain ⟨pl, e⟩ := r
  obtain ⟨t, h1, h2⟩ := h.get
  unfold takeS
  dsimp only at h1 h2 ⊢
  rw [h2]
  rcases Bool.eq_false_or_eq_true (badS t kind s) with hb | hb
  · rw [hb, if_pos rfl]
    have hw : wrS e 80 ≠ 0 := by unfold wrS; split <;> omega
    rw [if_pos hw]
    exact h
  · rw [hb, if_neg Bool.false_ne_true]
    by_cases he : e = 0
    · rw [if_neg (by simpa using he), if_neg hk]
      have htk : t.kind = kind := by
        by_cases hkk : t.kind = kind
        · exact hkk
        · unfold badS at hb; rw [if_pos hkk] at hb; cases hb
      show Good (toks.drop (pl + 1))
      have hd : toks.drop pl = t :: toks.drop (pl + 1) := by
        obtain ⟨hlt, hget⟩ := List.getElem?_eq_some_iff.1 h1
        rw [← hget]; exact List.drop_eq_getElem_cons hlt
      have h : Good (toks.drop pl) := h
      rw [hd] at h
      exact h.tail (by rw [htk]; exact hk)
    · rw [if_pos he]; exact h
theorem commaS_in {toks : List Lx.Tok} {r : RS} (h : In toks r) (i : Nat) : In toks (commaS toks i r) := by
  unfold commaS
  split
  · exact h
  · exact takeS_in h (by decide) _
theorem restS_in {toks : List Lx.Tok} {r : RS} (h : In toks r) (k : Int) : In toks (restS toks k r).2 := by
  obtain ⟨pl, e⟩ := r
  unfold restS
  split
  · exact takeS_in (h.mk) (by decide) _
  · split
    · exact takeS_in (takeS_in h (by decide) _) (by decide) _
    · split
      · exact takeS_in (takeS_in h (by decide) _) (by decide) _
      · split
        · exact takeS_in (h.mk) (by decide) _
        · exact h
theorem argsS_in {toks : List Lx.Tok} {ex : Bool → RS → Ex × RS} (he : ∀ c r, In toks r → In toks (ex c r).2) (b : Bool) : ∀ (n i : Nat) {r : RS}, In toks r → In toks (argsS toks ex b n i r).2
  | 0, i, r, h => h
  | n + 1, i, r, h => argsS_in he b n (i + 1) (he _ _ (commaS_in h i))
theorem exprS_in {toks : List Lx.Tok} : ∀ (d : Nat) (c : Bool) (r : RS), In toks r → In toks (exprS toks d c r).2
  | 0, c, r, h => h
  | d + 1, c, r, h => by
    have h0 : In toks ⟨r.pl, 0⟩ := h
    rw [exprS]
    dsimp only
    generalize kindS (toks.getD r.pl zT) c = k
    generalize (if k = 0 then wrS r.e 80 else r.e) = e1
    split
    · exact h
    · split
      · exact takeS_in (kind := 3) h0 (by decide) _
      · split
        · exact takeS_in (kind := 1) h0 (by decide) _
        · exact takeS_in (kind := 4) (restS_in (argsS_in (exprS_in d) _ _ _ (takeS_in (kind := 4) (takeS_in (kind := 1) h0 (by decide) _) (by decide) _)) _) (by decide) _
/-! ### the contract -/
section
variable {toks : List Lx.Tok} {H : List (List PV)}
theorem callTake {r : RS} (h : In toks r) (hN : toks.length ≤ 1000000) (kind : Int) (s : ByteArray) (hH : H[0]? = some (stB toks r)) : SCallR E 65 H [.ptr 0 0, pI kind, pS s] (pT (takeS toks kind s r).1) (H.set 0 (stB toks (takeS toks kind s r).2)) := by
  obtain ⟨t, h1, -⟩ := h.get
  exact SCallR.one (i := 0) (rtake_ok h1 hN kind s) (by simp [getL, hH]) rfl rfl rfl rfl rfl
theorem callWrong {r : RS} (x : Int) (hH : H[0]? = some (stB toks r)) : SCallR E 92 H [.ptr 0 0, pI x] (.tup []) (H.set 0 (stB toks ⟨r.pl, wrS r.e x⟩)) :=
  SCallR.one (i := 0) (rwrong_ok toks r x) (by simp [getL, hH]) rfl rfl rfl rfl rfl
theorem callKind {r : RS} (h : In toks r) (c : Bool) (hH : H[0]? = some (stB toks r)) : SCallR E 93 H [.ptr 0 0, pB c] (pI (kindS (toks.getD r.pl zT) c)) (H.set 0 (stB toks r)) := by
  obtain ⟨t, h1, h2⟩ := h.get
  rw [h2]
  exact SCallR.one (i := 0) (rkind_ok h1 c) (by simp [getL, hH]) rfl rfl rfl rfl rfl
def RExD (toks : List Lx.Tok) (d : Nat) : Prop := ∀ (c : Bool) (r : RS), In toks r → Ok E 64 [stB toks r] [.ptr 0 0, pI (32 - (d : Int)), pB c] (pE (exprS toks d c r).1) [stB toks (exprS toks d c r).2]
theorem callRex {d : Nat} (IH : RExD toks d) {r : RS} (h : In toks r) (c : Bool) {n : Int} (hn : n = 32 - (d : Int)) (hH : H[0]? = some (stB toks r)) : SCallR E 64 H [.ptr 0 0, pI n, pB c] (pE (exprS toks d c r).1) (H.set 0 (stB toks (exprS toks d c r).2)) := by
  subst hn
  exact SCallR.one (i := 0) (IH c r h) (by simp [getL, hH]) rfl rfl rfl rfl rfl
end
theorem wrS_ne {e x : Int} (hx : x ≠ 0) : wrS e x ≠ 0 := by unfold wrS; split <;> assumption
theorem rexpr_zero (toks : List Lx.Tok) (hN : toks.length ≤ 1000000) : RExD toks 0 := by
  intro c r h
  have hw : wrS (wrS r.e 81) 80 = wrS r.e 81 := if_neg (wrS_ne (by decide))
  have hr1 : In toks ⟨r.pl, wrS r.e 81⟩ := h
  have hne : wrS r.e 81 ≠ 0 := wrS_ne (by decide)
  obtain ⟨pl, e⟩ := r
  dsimp only at hw hne hr1
  refine Ok.enter hE Tryz.func64 rfl (by decide +kernel) (by kernel_rfl) rfl rfl (Nat.le_of_ble_eq_true rfl) rfl ?_
  refine ⟨_, geT (by decide), ?_⟩
  refine .inl ⟨_, _, callWrong 81 rfl, ?_⟩
  refine .inl ⟨_, _, callKind hr1 c rfl, ?_⟩
  by_cases hk : kindS (toks.getD pl zT) c = 0
  · refine ⟨_, eqT hk, ?_⟩
    refine .inl ⟨_, _, callWrong 80 rfl, ?_⟩
    refine ⟨_, neT (by dsimp only; rw [hw]; exact hne), ?_⟩
    refine ⟨_, rfl, wkE _ _ _, rfl, .cons ?_ rfl (.nil _)⟩
    show WkL [_, _, pI (wrS (wrS e 81) 80)] (stB toks ⟨pl, wrS e 81⟩)
    rw [hw]
    exact WkL.refl _
  · refine ⟨_, eqN hk, ?_⟩
    refine ⟨_, neT hne, ?_⟩
    exact ⟨_, rfl, wkE _ _ _, rfl, .cons (WkL.refl _) rfl (.nil _)⟩
/-- what stands behind the arguments -/
structure ArgS where
  i : Nat
  acc : List Ex
  r : RS
theorem kindS_rng (t : Lx.Tok) (c : Bool) : 0 ≤ kindS t c ∧ kindS t c ≤ 12 := by
  unfold kindS
  split
  · omega
  · split
    · rcases findS_step t c 12 1 with ⟨j, h1, h2, -⟩ | ⟨h2, -⟩
      · rw [h2]; omega
      · rw [h2]; omega
    · omega
theorem argsS_step {toks : List Lx.Tok} {ex : Bool → RS → Ex × RS} {b : Bool} {n i : Nat} {r : RS} {acc xs : List Ex} {r3 : RS} (h : (acc ++ (argsS toks ex b (n + 1) i r).1, (argsS toks ex b (n + 1) i r).2) = (xs, r3)) :
    ((acc ++ [(ex (b && (i == 0)) (commaS toks i r)).1]) ++ (argsS toks ex b n (i + 1) (ex (b && (i == 0)) (commaS toks i r)).2).1, (argsS toks ex b n (i + 1) (ex (b && (i == 0)) (commaS toks i r)).2).2) = (xs, r3) := by
  rw [argsS] at h
  rw [← h]
  simp
section
variable {toks : List Lx.Tok}
theorem rexpr_succ (hN : toks.length ≤ 1000000) {d : Nat} (hd : d ≤ 31) (IH : RExD toks d) : RExD toks (d + 1) := by
  intro c r h
  have hwi : 32 - ((d + 1 : Nat) : Int) = 31 - (d : Int) := by omega
  rw [hwi]
  have hkr := kindS_rng (toks.getD r.pl zT) c
  obtain ⟨pl, e⟩ := r
  have hK := callKind (H := [stB toks ⟨pl, e⟩, zB]) h c rfl
  rw [exprS]
  dsimp only at hkr ⊢
  obtain ⟨k, hk⟩ : ∃ k, kindS (toks.getD pl zT) c = k := ⟨_, rfl⟩
  dsimp only at hK
  rw [hk] at hK hkr ⊢
  have h0 : In toks ⟨pl, 0⟩ := h
  by_cases hk0 : k = 0
  · subst hk0
    rw [if_pos rfl, if_pos (wrS_ne (by decide))]
    refine Ok.enter hE Tryz.func64 rfl (by decide +kernel) (by kernel_rfl) rfl rfl (Nat.le_of_ble_eq_true rfl) rfl ?_
    refine ⟨_, geN (by omega), ?_⟩
    refine .inl ⟨_, _, hK, ?_⟩
    refine ⟨_, eqT rfl, ?_⟩
    refine .inl ⟨_, _, callWrong 80 rfl, ?_⟩
    refine ⟨_, neT (wrS_ne (by decide)), ?_⟩
    exact ⟨_, rfl, wkE _ _ _, rfl, .cons (WkL.refl _) rfl (.nil _)⟩
  rw [if_neg hk0]
  by_cases he : e = 0
  rotate_left
  · rw [if_pos he]
    refine Ok.enter hE Tryz.func64 rfl (by decide +kernel) (by kernel_rfl) rfl rfl (Nat.le_of_ble_eq_true rfl) rfl ?_
    refine ⟨_, geN (by omega), ?_⟩
    refine .inl ⟨_, _, hK, ?_⟩
    refine ⟨_, eqN hk0, ?_⟩
    refine ⟨_, neT he, ?_⟩
    exact ⟨_, rfl, wkE _ _ _, rfl, .cons (WkL.refl _) rfl (.nil _)⟩
  subst he
  rw [if_neg (by simp)]
  by_cases hk4 : k = 4
  · subst hk4
    rw [if_pos rfl]
    refine Ok.enter hE Tryz.func64 rfl (by decide +kernel) (by kernel_rfl) rfl rfl (Nat.le_of_ble_eq_true rfl) rfl ?_
    refine ⟨_, geN (by omega), ?_⟩
    refine .inl ⟨_, _, hK, ?_⟩
    refine ⟨_, eqN hk0, ?_⟩
    refine ⟨_, neN rfl, ?_⟩
    refine ⟨_, eqT rfl, ?_⟩
    refine .inl ⟨_, _, callTake h0 hN 3 e0 rfl, ?_⟩
    exact ⟨_, rfl, wkE _ _ _, rfl, .cons (WkL.refl _) rfl (.nil _)⟩
  rw [if_neg hk4]
  have h1 := takeS_in h0 (kind := 1) (by decide) e0
  have hT1 := callTake (H := [stB toks ⟨pl, 0⟩, zB, [pI k, pI 0, pS e0, .c .nil]]) h0 hN 1 e0 rfl
  obtain ⟨r1, hr1⟩ : ∃ r1, (takeS toks 1 e0 ⟨pl, 0⟩).2 = r1 := ⟨_, rfl⟩
  rw [hr1] at h1 hT1 ⊢
  by_cases h12 : k = 1 ∨ k = 2
  · rw [if_pos h12]
    rcases h12 with rfl | rfl
    · refine Ok.enter hE Tryz.func64 rfl (by decide +kernel) (by kernel_rfl) rfl rfl (Nat.le_of_ble_eq_true rfl) rfl ?_
      refine ⟨_, geN (by omega), ?_⟩
      refine .inl ⟨_, _, hK, ?_⟩
      refine ⟨_, eqN hk0, ?_⟩
      refine ⟨_, neN rfl, ?_⟩
      refine ⟨_, eqN hk4, ?_⟩
      refine .inl ⟨_, _, hT1, ?_⟩
      refine ⟨_, eqT rfl, ?_⟩
      exact ⟨_, rfl, wkE _ _ _, rfl, .cons (WkL.refl _) rfl (.nil _)⟩
    · refine Ok.enter hE Tryz.func64 rfl (by decide +kernel) (by kernel_rfl) rfl rfl (Nat.le_of_ble_eq_true rfl) rfl ?_
      refine ⟨_, geN (by omega), ?_⟩
      refine .inl ⟨_, _, hK, ?_⟩
      refine ⟨_, eqN hk0, ?_⟩
      refine ⟨_, neN rfl, ?_⟩
      refine ⟨_, eqN hk4, ?_⟩
      refine .inl ⟨_, _, hT1, ?_⟩
      refine ⟨_, eqN (by decide), ?_⟩
      refine ⟨_, eqT rfl, ?_⟩
      exact ⟨_, rfl, wkE _ _ _, rfl, .cons (WkL.refl _) rfl (.nil _)⟩
  rw [if_neg h12]
  have hk1 : k ≠ 1 := fun h => h12 (.inl h)
  have hk2 : k ≠ 2 := fun h => h12 (.inr h)
  have h2 := takeS_in h1 (kind := 4) (by decide) openS
  have hT2 := callTake (H := [stB toks r1, zB, [pI k, pI 0, pS e0, .c .nil]]) h1 hN 4 openS rfl
  obtain ⟨r2, hr2⟩ : ∃ r2, (takeS toks 4 openS r1).2 = r2 := ⟨_, rfl⟩
  rw [hr2] at h2 hT2 ⊢
  have hin : ∀ c r, In toks r → In toks (exprS toks d c r).2 := fun c r hr => exprS_in d c r hr
  have h3 := argsS_in hin (k == 10) (argsOf k).toNat 0 h2
  obtain ⟨xs, hxs⟩ : ∃ xs, (argsS toks (exprS toks d) (k == 10) (argsOf k).toNat 0 r2).1 = xs := ⟨_, rfl⟩
  obtain ⟨r3, hr3⟩ : ∃ r3, (argsS toks (exprS toks d) (k == 10) (argsOf k).toNat 0 r2).2 = r3 := ⟨_, rfl⟩
  rw [hxs, hr3]
  rw [hr3] at h3
  have hm3 : argsOf k = ((argsOf k).toNat : Int) ∧ (argsOf k).toNat ≤ 3 := by
    have : k = 1 ∨ k = 2 ∨ k = 3 ∨ k = 4 ∨ k = 5 ∨ k = 6 ∨ k = 7 ∨ k = 8 ∨ k = 9 ∨ k = 10 ∨ k = 11 ∨ k = 12 := by omega
    rcases this with rfl | rfl | rfl | rfl | rfl | rfl | rfl | rfl | rfl | rfl | rfl | rfl <;> decide +kernel
  have hAr := Args_ok k
  rw [hm3.1] at hAr
  have hm3 := hm3.2
  generalize (argsOf k).toNat = m at hAr hxs hr3 hm3
  obtain ⟨R, hRS⟩ : ∃ R, restS toks k r3 = R := ⟨_, rfl⟩
  have h4 := restS_in h3 k
  rw [hRS] at h4 ⊢
  obtain ⟨t3, hg3, hd3⟩ := h3.get
  have hget := rowT_get hg3
  unfold restS at hRS
  rw [hd3] at hRS
  refine Ok.enter hE Tryz.func64 rfl (by decide +kernel) (by kernel_rfl) rfl rfl (Nat.le_of_ble_eq_true rfl) rfl ?_
  refine ⟨_, geN (by omega), ?_⟩
  refine .inl ⟨_, _, hK, ?_⟩
  refine ⟨_, eqN hk0, ?_⟩
  refine ⟨_, neN rfl, ?_⟩
  refine ⟨_, eqN hk4, ?_⟩
  refine .inl ⟨_, _, hT1, ?_⟩
  refine ⟨_, eqN hk1, ?_⟩
  refine ⟨_, eqN hk2, ?_⟩
  refine .inl ⟨_, _, hT2, ?_⟩
  refine Loop.run (α := ArgS) (fun x => x.i ≤ m ∧ x.acc.length = x.i ∧ In toks x.r ∧ (x.acc ++ (argsS toks (exprS toks d) (k == 10) (m - x.i) x.i x.r).1, (argsS toks (exprS toks d) (k == 10) (m - x.i) x.i x.r).2) = (xs, r3))
    (fun x => [(0, .ptr 0 0), (1, pI (31 - (d : Int))), (6, .ptr 1 0), (7, .ptr 2 0), (8, pI x.i)]) (fun x => [stB toks x.r, zB, [pI k, pI 0, pS e0, cellA (x.acc.map cellsE) x.i]]) (fun x => tokA x.i) (fun x => m - x.i)
    ⟨0, [], r2⟩ ⟨Nat.zero_le _, rfl, h2, by rw [Nat.sub_zero, ← hxs, ← hr3]; rfl⟩ ⟨⟨rfl, rfl, rfl, rfl, rfl, trivial⟩, rfl, rfl⟩ ?_
  rintro ⟨i, acc, r'⟩ f ⟨hi, hacc, hin', hR⟩
  dsimp only at hi hacc hin' hR
  refine ⟨_, CallR.mk1 hAr rfl rfl, ?_⟩
  rcases Nat.lt_or_ge i m with hlt | hge
  · refine ⟨_, ltT (by (try dsimp only); omega), ?_⟩
    obtain ⟨n, hn⟩ : ∃ n, m - i = n + 1 := ⟨m - i - 1, by omega⟩
    have hmn : m - (i + 1) = n := by omega
    rw [hn] at hR
    have hR2 := argsS_step hR
    cases i with
    | zero =>
      have ha : acc = [] := List.length_eq_zero_iff.1 hacc
      subst ha
      have hc0 : commaS toks 0 r' = r' := rfl
      rw [hc0] at hR2
      refine ⟨_, gtN (by dsimp only; decide), ?_⟩
      refine ⟨_, addV (z := 32 - (d : Int)) (by (try dsimp only); omega) (by omega) (by omega), ?_⟩
      by_cases h10 : k = 10
      · have hc : ((k == 10) && ((0 : Nat) == 0)) = true := by rw [h10]; rfl
        rw [hc] at hR2
        refine ⟨_, eqT h10, ?_⟩
        refine ⟨_, eqT rfl, ?_⟩
        refine ⟨_, _, callRex IH hin' true rfl rfl, ?_⟩
        refine ⟨_, ⟨_, rfl, rfl⟩, ?_⟩
        refine ⟨_, _, AppR.first1 rfl rfl (by decide) rfl rfl rfl (by decide), ?_⟩
        refine ⟨_, addV rfl (by dsimp only; decide) (by dsimp only; decide), ?_⟩
        exact ⟨⟨1, [(exprS toks d true r').1], (exprS toks d true r').2⟩, ⟨hlt, rfl, hin _ _ hin', by rw [hmn]; exact hR2⟩, by dsimp only; omega, ⟨rfl, rfl, rfl, rfl, rfl, trivial⟩, rfl, rfl⟩
      · have hc : ((k == 10) && ((0 : Nat) == 0)) = false := by rw [beq_eq_false_iff_ne.2 h10]; rfl
        rw [hc] at hR2
        refine ⟨_, eqN h10, ?_⟩
        refine ⟨_, _, callRex IH hin' false rfl rfl, ?_⟩
        refine ⟨_, ⟨_, rfl, rfl⟩, ?_⟩
        refine ⟨_, _, AppR.first1 rfl rfl (by decide) rfl rfl rfl (by decide), ?_⟩
        refine ⟨_, addV rfl (by dsimp only; decide) (by dsimp only; decide), ?_⟩
        exact ⟨⟨1, [(exprS toks d false r').1], (exprS toks d false r').2⟩, ⟨hlt, rfl, hin _ _ hin', by rw [hmn]; exact hR2⟩, by dsimp only; omega, ⟨rfl, rfl, rfl, rfl, rfl, trivial⟩, rfl, rfl⟩
    | succ j =>
      have hc : ((k == 10) && ((j + 1 : Nat) == 0)) = false := by simp
      have hcs : commaS toks (j + 1) r' = (takeS toks 4 comma r').2 := if_neg (by omega)
      have g1 := takeS_in hin' (kind := 4) (by decide) comma
      rw [hc, hcs] at hR2
      have he : (acc.map cellsE ++ [cellsE (exprS toks d false (takeS toks 4 comma r').2).1]) = (acc ++ [(exprS toks d false (takeS toks 4 comma r').2).1]).map cellsE := by simp
      refine ⟨_, gtT (by (try dsimp only); omega), ?_⟩
      refine .inl ⟨_, _, callTake hin' hN 4 comma rfl, ?_⟩
      refine ⟨_, addV (z := 32 - (d : Int)) (by (try dsimp only); omega) (by omega) (by omega), ?_⟩
      by_cases h10 : k = 10
      · refine ⟨_, eqT h10, ?_⟩
        refine ⟨_, eqN (by (try dsimp only); omega), ?_⟩
        refine ⟨_, _, callRex IH g1 false rfl rfl, ?_⟩
        refine ⟨_, ⟨_, rfl, rfl⟩, ?_⟩
        refine ⟨_, _, AppR.more1 (j + 1) rfl rfl (by decide) rfl rfl (by rw [List.length_map, hacc]) (cells_len _) rfl rfl (by omega) (by show (j + 1 + 1) * 56 ≤ _; omega), ?_⟩
        refine ⟨_, addV rfl (by (try dsimp only); omega) (by (try dsimp only); omega), ?_⟩
        exact ⟨⟨j + 1 + 1, acc ++ [(exprS toks d false (takeS toks 4 comma r').2).1], (exprS toks d false (takeS toks 4 comma r').2).2⟩, ⟨hlt, by simp [hacc], hin _ _ g1, by rw [hmn]; exact hR2⟩, by dsimp only; omega, ⟨rfl, rfl, rfl, rfl, rfl, trivial⟩, congrArg (fun l => [stB toks _, zB, [pI k, pI 0, pS e0, PV.orow l 0]]) he, rfl⟩
      · refine ⟨_, eqN h10, ?_⟩
        refine ⟨_, _, callRex IH g1 false rfl rfl, ?_⟩
        refine ⟨_, ⟨_, rfl, rfl⟩, ?_⟩
        refine ⟨_, _, AppR.more1 (j + 1) rfl rfl (by decide) rfl rfl (by rw [List.length_map, hacc]) (cells_len _) rfl rfl (by omega) (by show (j + 1 + 1) * 56 ≤ _; omega), ?_⟩
        refine ⟨_, addV rfl (by (try dsimp only); omega) (by (try dsimp only); omega), ?_⟩
        exact ⟨⟨j + 1 + 1, acc ++ [(exprS toks d false (takeS toks 4 comma r').2).1], (exprS toks d false (takeS toks 4 comma r').2).2⟩, ⟨hlt, by simp [hacc], hin _ _ g1, by rw [hmn]; exact hR2⟩, by dsimp only; omega, ⟨rfl, rfl, rfl, rfl, rfl, trivial⟩, congrArg (fun l => [stB toks _, zB, [pI k, pI 0, pS e0, PV.orow l 0]]) he, rfl⟩
  · refine ⟨_, ltN (by (try dsimp only); omega), ?_⟩
    have him : m - i = 0 := by omega
    rw [him] at hR
    have e1 : acc = xs := by have := congrArg Prod.fst hR; simpa [argsS] using this
    have e2 : r' = r3 := by have := congrArg Prod.snd hR; simpa [argsS] using this
    subst e1; subst e2
    cases i with
    | zero =>
      have ha : acc = [] := List.length_eq_zero_iff.1 hacc
      subst ha
      by_cases hk3 : k = 3
      · subst hk3
        rw [if_pos rfl] at hRS
        have hNm := Lx.rName_ok t3.text
        rcases Bool.eq_false_or_eq_true (Lx.isName t3.text) with hb | hb
        · rw [hb] at hNm hRS
          rw [if_pos rfl] at hRS
          subst hRS
          refine ⟨_, eqT rfl, ?_⟩
          refine ⟨_, idxV (j := r'.pl) hget rfl rfl rfl rfl, ?_⟩
          refine ⟨_, CallR.mk1 hNm rfl rfl, ?_⟩
          refine .inl ⟨_, _, callTake h3 hN 1 e0 rfl, ?_⟩
          refine .inl ⟨_, _, callTake h4 hN 4 shutS rfl, ?_⟩
          exact ⟨_, rfl, wkE _ _ _, rfl, .cons (WkL.refl _) rfl (.nil _)⟩
        · rw [hb] at hNm hRS
          rw [if_neg Bool.false_ne_true] at hRS
          subst hRS
          have h3' : In toks ⟨r'.pl, wrS r'.e 80⟩ := h3
          refine ⟨_, eqT rfl, ?_⟩
          refine ⟨_, idxV (j := r'.pl) hget rfl rfl rfl rfl, ?_⟩
          refine ⟨_, CallR.mk1 hNm rfl rfl, ?_⟩
          refine .inl ⟨_, _, callWrong 80 rfl, ?_⟩
          refine .inl ⟨_, _, callTake h3' hN 1 e0 rfl, ?_⟩
          refine .inl ⟨_, _, callTake h4 hN 4 shutS rfl, ?_⟩
          exact ⟨_, rfl, wkE _ _ _, rfl, .cons (WkL.refl _) rfl (.nil _)⟩
      rw [if_neg hk3] at hRS
      by_cases hk5 : k = 5
      · subst hk5
        rw [if_pos rfl] at hRS
        subst hRS
        have g1 := takeS_in h3 (kind := 4) (by decide) comma
        refine ⟨_, eqN (by decide), ?_⟩
        refine ⟨_, eqT rfl, ?_⟩
        refine .inl ⟨_, _, callTake h3 hN 4 comma rfl, ?_⟩
        refine .inl ⟨_, _, callTake g1 hN 3 e0 rfl, ?_⟩
        refine .inl ⟨_, _, callTake h4 hN 4 shutS rfl, ?_⟩
        exact ⟨_, rfl, wkE _ _ _, rfl, .cons (WkL.refl _) rfl (.nil _)⟩
      rw [if_neg hk5] at hRS
      by_cases hk6 : k = 6
      · subst hk6
        rw [if_pos rfl] at hRS
        subst hRS
        have g1 := takeS_in h3 (kind := 4) (by decide) comma
        refine ⟨_, eqN (by decide), ?_⟩
        refine ⟨_, eqN (by decide), ?_⟩
        refine ⟨_, eqT rfl, ?_⟩
        refine .inl ⟨_, _, callTake h3 hN 4 comma rfl, ?_⟩
        refine .inl ⟨_, _, callTake g1 hN 2 e0 rfl, ?_⟩
        refine .inl ⟨_, _, callTake h4 hN 4 shutS rfl, ?_⟩
        exact ⟨_, rfl, wkE _ _ _, rfl, .cons (WkL.refl _) rfl (.nil _)⟩
      rw [if_neg hk6] at hRS
      by_cases hk11 : k = 11
      · subst hk11
        rw [if_pos rfl] at hRS
        by_cases hg : t3.n > 1000
        · rw [if_pos hg] at hRS
          subst hRS
          have h3' : In toks ⟨r'.pl, wrS r'.e 80⟩ := h3
          refine ⟨_, eqN (by decide), ?_⟩
          refine ⟨_, eqN (by decide), ?_⟩
          refine ⟨_, eqN (by decide), ?_⟩
          refine ⟨_, eqT rfl, ?_⟩
          refine ⟨_, idxV (j := r'.pl) hget rfl rfl rfl rfl, ?_⟩
          refine ⟨_, gtT hg, ?_⟩
          refine .inl ⟨_, _, callWrong 80 rfl, ?_⟩
          refine .inl ⟨_, _, callTake h3' hN 2 e0 rfl, ?_⟩
          refine .inl ⟨_, _, callTake h4 hN 4 shutS rfl, ?_⟩
          exact ⟨_, rfl, wkE _ _ _, rfl, .cons (WkL.refl _) rfl (.nil _)⟩
        · rw [if_neg hg] at hRS
          subst hRS
          refine ⟨_, eqN (by decide), ?_⟩
          refine ⟨_, eqN (by decide), ?_⟩
          refine ⟨_, eqN (by decide), ?_⟩
          refine ⟨_, eqT rfl, ?_⟩
          refine ⟨_, idxV (j := r'.pl) hget rfl rfl rfl rfl, ?_⟩
          refine ⟨_, gtN hg, ?_⟩
          refine .inl ⟨_, _, callTake h3 hN 2 e0 rfl, ?_⟩
          refine .inl ⟨_, _, callTake h4 hN 4 shutS rfl, ?_⟩
          exact ⟨_, rfl, wkE _ _ _, rfl, .cons (WkL.refl _) rfl (.nil _)⟩
      rw [if_neg hk11] at hRS
      subst hRS
      refine ⟨_, eqN hk3, ?_⟩
      refine ⟨_, eqN hk5, ?_⟩
      refine ⟨_, eqN hk6, ?_⟩
      refine ⟨_, eqN hk11, ?_⟩
      refine .inl ⟨_, _, callTake h4 hN 4 shutS rfl, ?_⟩
      exact ⟨_, rfl, wkE _ _ _, rfl, .cons (WkL.refl _) rfl (.nil _)⟩
    | succ j =>
      by_cases hk3 : k = 3
      · subst hk3
        rw [if_pos rfl] at hRS
        have hNm := Lx.rName_ok t3.text
        rcases Bool.eq_false_or_eq_true (Lx.isName t3.text) with hb | hb
        · rw [hb] at hNm hRS
          rw [if_pos rfl] at hRS
          subst hRS
          refine ⟨_, eqT rfl, ?_⟩
          refine ⟨_, idxV (j := r'.pl) hget rfl rfl rfl rfl, ?_⟩
          refine ⟨_, CallR.mk1 hNm rfl rfl, ?_⟩
          refine .inl ⟨_, _, callTake h3 hN 1 e0 rfl, ?_⟩
          refine .inl ⟨_, _, callTake h4 hN 4 shutS rfl, ?_⟩
          exact ⟨_, rfl, wkE2 _ _ _ _ rfl, rfl, .cons (WkL.refl _) rfl (.nil _)⟩
        · rw [hb] at hNm hRS
          rw [if_neg Bool.false_ne_true] at hRS
          subst hRS
          have h3' : In toks ⟨r'.pl, wrS r'.e 80⟩ := h3
          refine ⟨_, eqT rfl, ?_⟩
          refine ⟨_, idxV (j := r'.pl) hget rfl rfl rfl rfl, ?_⟩
          refine ⟨_, CallR.mk1 hNm rfl rfl, ?_⟩
          refine .inl ⟨_, _, callWrong 80 rfl, ?_⟩
          refine .inl ⟨_, _, callTake h3' hN 1 e0 rfl, ?_⟩
          refine .inl ⟨_, _, callTake h4 hN 4 shutS rfl, ?_⟩
          exact ⟨_, rfl, wkE2 _ _ _ _ rfl, rfl, .cons (WkL.refl _) rfl (.nil _)⟩
      rw [if_neg hk3] at hRS
      by_cases hk5 : k = 5
      · subst hk5
        rw [if_pos rfl] at hRS
        subst hRS
        have g1 := takeS_in h3 (kind := 4) (by decide) comma
        refine ⟨_, eqN (by decide), ?_⟩
        refine ⟨_, eqT rfl, ?_⟩
        refine .inl ⟨_, _, callTake h3 hN 4 comma rfl, ?_⟩
        refine .inl ⟨_, _, callTake g1 hN 3 e0 rfl, ?_⟩
        refine .inl ⟨_, _, callTake h4 hN 4 shutS rfl, ?_⟩
        exact ⟨_, rfl, wkE2 _ _ _ _ rfl, rfl, .cons (WkL.refl _) rfl (.nil _)⟩
      rw [if_neg hk5] at hRS
      by_cases hk6 : k = 6
      · subst hk6
        rw [if_pos rfl] at hRS
        subst hRS
        have g1 := takeS_in h3 (kind := 4) (by decide) comma
        refine ⟨_, eqN (by decide), ?_⟩
        refine ⟨_, eqN (by decide), ?_⟩
        refine ⟨_, eqT rfl, ?_⟩
        refine .inl ⟨_, _, callTake h3 hN 4 comma rfl, ?_⟩
        refine .inl ⟨_, _, callTake g1 hN 2 e0 rfl, ?_⟩
        refine .inl ⟨_, _, callTake h4 hN 4 shutS rfl, ?_⟩
        exact ⟨_, rfl, wkE2 _ _ _ _ rfl, rfl, .cons (WkL.refl _) rfl (.nil _)⟩
      rw [if_neg hk6] at hRS
      by_cases hk11 : k = 11
      · subst hk11
        rw [if_pos rfl] at hRS
        by_cases hg : t3.n > 1000
        · rw [if_pos hg] at hRS
          subst hRS
          have h3' : In toks ⟨r'.pl, wrS r'.e 80⟩ := h3
          refine ⟨_, eqN (by decide), ?_⟩
          refine ⟨_, eqN (by decide), ?_⟩
          refine ⟨_, eqN (by decide), ?_⟩
          refine ⟨_, eqT rfl, ?_⟩
          refine ⟨_, idxV (j := r'.pl) hget rfl rfl rfl rfl, ?_⟩
          refine ⟨_, gtT hg, ?_⟩
          refine .inl ⟨_, _, callWrong 80 rfl, ?_⟩
          refine .inl ⟨_, _, callTake h3' hN 2 e0 rfl, ?_⟩
          refine .inl ⟨_, _, callTake h4 hN 4 shutS rfl, ?_⟩
          exact ⟨_, rfl, wkE2 _ _ _ _ rfl, rfl, .cons (WkL.refl _) rfl (.nil _)⟩
        · rw [if_neg hg] at hRS
          subst hRS
          refine ⟨_, eqN (by decide), ?_⟩
          refine ⟨_, eqN (by decide), ?_⟩
          refine ⟨_, eqN (by decide), ?_⟩
          refine ⟨_, eqT rfl, ?_⟩
          refine ⟨_, idxV (j := r'.pl) hget rfl rfl rfl rfl, ?_⟩
          refine ⟨_, gtN hg, ?_⟩
          refine .inl ⟨_, _, callTake h3 hN 2 e0 rfl, ?_⟩
          refine .inl ⟨_, _, callTake h4 hN 4 shutS rfl, ?_⟩
          exact ⟨_, rfl, wkE2 _ _ _ _ rfl, rfl, .cons (WkL.refl _) rfl (.nil _)⟩
      rw [if_neg hk11] at hRS
      subst hRS
      refine ⟨_, eqN hk3, ?_⟩
      refine ⟨_, eqN hk5, ?_⟩
      refine ⟨_, eqN hk6, ?_⟩
      refine ⟨_, eqN hk11, ?_⟩
      refine .inl ⟨_, _, callTake h4 hN 4 shutS rfl, ?_⟩
      exact ⟨_, rfl, wkE2 _ _ _ _ rfl, rfl, .cons (WkL.refl _) rfl (.nil _)⟩
end
end Go.Proofs.YtkolnkjdcncmpaaGreatDoor.Pr

/- The document's Parse; that it tells what the parser tells. -/
namespace Go.Proofs.YtkolnkjdcncmpaaGreatDoor.Pr
open Go Go.RowKit Go.Proofs.YtkolnkjdcncmpaaGreatDoor.Pm Go.Proofs.YtkolnkjdcncmpaaGreatDoor.Pl
open Go.Proofs.YtkolnkjdcncmpaaGreatDoor.Lx (cellsT pT rowT rowT_len rowT_get lexF)
open Go.Proofs.YtkolnkjdcncmpaaGreatDoor.Q (wordL)
set_option linter.unusedVariables false
set_option maxHeartbeats 1000000
theorem rexpr_all (toks : List Lx.Tok) (hN : toks.length ≤ 1000000) : ∀ d : Nat, d ≤ 32 → RExD toks d
  | 0, _ => rexpr_zero toks hN
  | d + 1, h => rexpr_succ hN (by omega) (rexpr_all toks hN d (by omega))
def rfinS (toks : List Lx.Tok) : Ex × Int × Int :=
  let y := exprS toks 32 false ⟨0, 0⟩
  let z := takeS toks 5 e0 y.2
  if z.2.e ≠ 0 then (zE, z.2.e, (toks.getD z.2.pl zT).place) else (y.1, 0, 0)
def rParseS (s : ByteArray) : Ex × Int × Int := if (lexF s).2.1 ≠ 0 then (zE, (lexF s).2.1, (lexF s).2.2) else rfinS (lexF s).1
theorem takeS5_in {toks : List Lx.Tok} {r : RS} (h : In toks r) (s : ByteArray) : In toks (takeS toks 5 s r).2 := by
  obtain ⟨pl, e⟩ := r
  have h' : ∀ e', In toks ⟨pl, e'⟩ := fun e' => h
  unfold takeS
  dsimp only
  generalize (if badS (toks.getD pl zT) 5 s = true then wrS e 80 else e) = e1
  split
  · exact h' _
  · rw [if_pos rfl]; exact h' _
theorem lex_few {s : ByteArray} : (lexF s).1.length ≤ 1000000 := by
  unfold lexF
  split
  · simp
  · rename_i hs
    split
    · simp
    · have : ∀ (f : Nat) (l : List UInt8) (p : Nat), (Lx.scanF f l p).length ≤ f := by
        intro f
        induction f with
        | zero => intro l p; simp [Lx.scanF]
        | succ f ih =>
          intro l p
          rw [Lx.scanF]
          try dsimp only
          split
          · simp
          · have := ih (List.drop (Lx.firstF (List.drop (Lx.runB Lx.blanksB l) l)).1.text.size (List.drop (Lx.runB Lx.blanksB l) l)) (p + Lx.runB Lx.blanksB l + (Lx.firstF (List.drop (Lx.runB Lx.blanksB l) l)).1.text.size)
            simp only [List.length_cons]
            omega
      have := this (s.size + 1) s.data.toList 0
      show ((Lx.scan s).map (·.1)).length ≤ _
      rw [List.length_map]
      unfold Lx.scan
      omega
theorem rParse_ok (s : ByteArray) : Ok E 48 [] [pS s] (.tup [pE (rParseS s).1, pI (rParseS s).2.1, pI (rParseS s).2.2]) [] := by
  have hL := Lx.rLex_ok s
  obtain ⟨v, hv⟩ : ∃ v, rParseS s = v := ⟨_, rfl⟩
  rw [hv]
  unfold rParseS at hv
  have hgood := lex_good (s := s)
  have hfew := lex_few (s := s)
  obtain ⟨L, hLs⟩ : ∃ L, lexF s = L := ⟨_, rfl⟩
  rw [hLs] at hL hv hgood hfew
  obtain ⟨toks, le, ln⟩ := L
  dsimp only at hL hv hgood hfew
  have wz : Wk (.agg [.int .i64 0, .int .i64 0, .str e0, .nil]) (pE zE) := wkE _ _ _
  by_cases he : le = 0
  rotate_left
  · rw [if_pos he] at hv
    subst hv
    refine Ok.enter hE Tryz.func48 rfl (by decide +kernel) (by kernel_rfl) rfl rfl (Nat.le_of_ble_eq_true rfl) rfl ?_
    refine ⟨_, CallR.mk1 hL rfl rfl, ?_⟩
    refine ⟨_, neT he, ?_⟩
    exact ⟨_, rfl, wkTup (.cons wz (WkL.refl _)), rfl, .nil _⟩
  subst he
  rw [if_neg (by simp)] at hv
  have hg : In toks ⟨0, 0⟩ := hgood rfl
  unfold rfinS at hv
  dsimp only at hv
  have hEx := rexpr_all toks hfew 32 (by omega) false ⟨0, 0⟩ hg
  have hin := exprS_in 32 false _ hg
  obtain ⟨y, hy⟩ : ∃ y, exprS toks 32 false ⟨0, 0⟩ = y := ⟨_, rfl⟩
  rw [hy] at hv hEx hin
  obtain ⟨x, r⟩ := y
  dsimp only at hv hEx hin
  have h5 := takeS5_in hin e0
  have hT : Ok E 65 [stB toks r] [.ptr 0 0, pI 5, pS e0] (pT (takeS toks 5 e0 r).1) [stB toks (takeS toks 5 e0 r).2] := by
    obtain ⟨t, h1, -⟩ := hin.get
    exact rtake_ok h1 hfew 5 e0
  obtain ⟨z, hz⟩ : ∃ z, takeS toks 5 e0 r = z := ⟨_, rfl⟩
  rw [hz] at hv hT h5
  obtain ⟨tz, pz, ez⟩ := z
  dsimp only at hv hT h5
  obtain ⟨t3, hg3, hd3⟩ := h5.get
  have hget := rowT_get hg3
  dsimp only at hd3
  rw [hd3] at hv
  by_cases hz0 : ez = 0
  · subst hz0
    rw [if_neg (by simp)] at hv
    subst hv
    refine Ok.enter hE Tryz.func48 rfl (by decide +kernel) (by kernel_rfl) rfl rfl (Nat.le_of_ble_eq_true rfl) rfl ?_
    refine ⟨_, CallR.mk1 hL rfl rfl, ?_⟩
    refine ⟨_, neN rfl, ?_⟩
    refine .inl ⟨_, _, SCallR.of [1] hEx (Hand.of rfl rfl (by simp) rfl rfl) rfl rfl rfl, ?_⟩
    refine .inl ⟨_, _, SCallR.of [1] hT (Hand.of rfl rfl (by simp) rfl rfl) rfl rfl rfl, ?_⟩
    refine ⟨_, neN rfl, ?_⟩
    exact ⟨_, rfl, Wk.refl _, rfl, .nil _⟩
  · rw [if_pos hz0] at hv
    subst hv
    refine Ok.enter hE Tryz.func48 rfl (by decide +kernel) (by kernel_rfl) rfl rfl (Nat.le_of_ble_eq_true rfl) rfl ?_
    refine ⟨_, CallR.mk1 hL rfl rfl, ?_⟩
    refine ⟨_, neN rfl, ?_⟩
    refine .inl ⟨_, _, SCallR.of [1] hEx (Hand.of rfl rfl (by simp) rfl rfl) rfl rfl rfl, ?_⟩
    refine .inl ⟨_, _, SCallR.of [1] hT (Hand.of rfl rfl (by simp) rfl rfl) rfl rfl rfl, ?_⟩
    refine ⟨_, neT hz0, ?_⟩
    refine ⟨_, idxV (j := pz) hget rfl rfl rfl rfl, ?_⟩
    exact ⟨_, rfl, wkTup (.cons wz (WkL.refl _)), rfl, .nil _⟩
/-! ### the two tell the same -/
structure TokOK (t : Lx.Tok) : Prop where
  word : t.kind = 1 → t.text.data.toList ≠ []
  money : t.kind = 3 → t.n ≤ 1000000000000
  count : t.kind = 2 → t.n ≤ 100000
end Go.Proofs.YtkolnkjdcncmpaaGreatDoor.Pr

/- The two parsers tell the same: in plain words. -/
namespace Go.Proofs.YtkolnkjdcncmpaaGreatDoor.Pr
open Go Go.RowKit Go.Proofs.YtkolnkjdcncmpaaGreatDoor.Pm Go.Proofs.YtkolnkjdcncmpaaGreatDoor.Pl
open Go.Proofs.YtkolnkjdcncmpaaGreatDoor.Lx (cellsT pT rowT rowT_len rowT_get lexF)
open Go.Proofs.YtkolnkjdcncmpaaGreatDoor.Q (wordL)
set_option linter.unusedVariables false
set_option linter.unusedSimpArgs false
set_option maxHeartbeats 1000000
theorem wordP_eq (k : Int) : wordP k = B (wordL k) := by
  unfold wordP formP wordL
  cases Q.formT k with
  | none => rfl
  | some x => obtain ⟨w, m, a⟩ := x; rfl
theorem isW_eq {t : Lx.Tok} {c : Bool} {k : Int} (ht : TokOK t) (h1 : t.kind = 1) (hc : isCond k = c) : isW t c k = isWord t k := by
  unfold isW isWord
  rw [h1, wordP_eq, hc]
  rw [show (c == c) = true by simp, show ((1 : Int) == 1) = true from rfl, Bool.and_true, Bool.true_and]
  have hne : (t.text.toList == (⟨#[]⟩ : ByteArray).toList) = false := by
    rw [beq_eq_false_iff_ne]
    intro h
    exact ht.word h1 (by rw [← toList_data, h, toList_data])
  rcases Bool.eq_false_or_eq_true (t.text.toList == (B (wordL k)).toList) with h | h
  · have h' := beq_iff_eq.1 h
    rw [h, ← h', hne]
    simp
  · rw [h, Bool.false_and]
    rw [beq_eq_false_iff_ne] at h ⊢
    exact fun h' => h h'.symm
theorem findS_eq {t : Lx.Tok} {c : Bool} : ∀ (n m : Nat) (lo : Int), (∀ i : Nat, i < n → isW t c (lo + i) = isWord t (lo + i)) → findS t c lo (n + m) = match findW t lo n with
    | some k => k
    | none => findS t c (lo + n) m
  | 0, m, lo, h => by rw [findW]; simp
  | n + 1, m, lo, h => by
    have h0 := h 0 (by omega)
    have ih := findS_eq n m (lo + 1) (fun i hi => by have := h (i + 1) (by omega); rw [show lo + ((i + 1 : Nat) : Int) = lo + 1 + i by omega] at this; exact this)
    rw [show n + 1 + m = (n + m) + 1 by omega, findS, findW]
    rw [show lo + ((0 : Nat) : Int) = lo by omega] at h0
    rw [h0]
    cases isWord t lo with
    | true => rfl
    | false => dsimp only; rw [ih, show lo + 1 + (n : Int) = lo + ((n + 1 : Nat) : Int) by omega]
theorem findS_skip {t : Lx.Tok} {c : Bool} : ∀ (n m : Nat) (lo : Int), (∀ i : Nat, i < n → isW t c (lo + i) = false) → findS t c lo (n + m) = findS t c (lo + n) m
  | 0, m, lo, h => by simp
  | n + 1, m, lo, h => by
    have h0 := h 0 (by omega)
    rw [show lo + ((0 : Nat) : Int) = lo by omega] at h0
    rw [show n + 1 + m = (n + m) + 1 by omega, findS, h0]
    dsimp only
    rw [findS_skip n m (lo + 1) (fun i hi => by have := h (i + 1) (by omega); rw [show lo + ((i + 1 : Nat) : Int) = lo + 1 + i by omega] at this; exact this), show lo + 1 + (n : Int) = lo + ((n + 1 : Nat) : Int) by omega]
theorem cond_low {i : Nat} (h : i < 10) : isCond (1 + (i : Int)) = false := by
  unfold isCond
  rw [decide_eq_false (by omega), decide_eq_false (by omega)]; rfl
theorem cond_high {i : Nat} (h : i < 2) : isCond (11 + (i : Int)) = true := by
  unfold isCond
  by_cases h0 : i = 0
  · subst h0; rfl
  · have : i = 1 := by omega
    subst this; rfl
theorem isW_ne {t : Lx.Tok} {c : Bool} {k : Int} (h : isCond k ≠ c) : isW t c k = false := by
  unfold isW
  rw [beq_eq_false_iff_ne.2 h, Bool.and_false]
/-- what begins -/
theorem kind_same {t : Lx.Tok} (ht : TokOK t) (c : Bool) : kindS t c = (beginK t c).getD 0 := by
  unfold kindS beginK
  by_cases h3 : t.kind = 3 ∧ c = false
  · rw [if_pos h3, if_pos h3]; rfl
  · rw [if_neg h3, if_neg h3]
    by_cases h1 : t.kind = 1
    · rw [if_pos h1]
      cases c with
      | false =>
        have e := findS_eq (t := t) (c := false) 10 2 1 fun i hi => isW_eq ht h1 (cond_low hi)
        show findS t false 1 (10 + 2) = _
        rw [e]
        show _ = (findW t 1 10).getD 0
        cases findW t 1 10 with
        | some k => rfl
        | none =>
          have := findS_skip (t := t) (c := false) 2 0 11 fun i hi => isW_ne (by rw [cond_high hi]; decide)
          exact this
      | true =>
        have e := findS_skip (t := t) (c := true) 10 2 1 fun i hi => isW_ne (by rw [cond_low hi]; decide)
        show findS t true 1 (10 + 2) = _
        rw [e]
        have e2 := findS_eq (t := t) (c := true) 2 0 11 fun i hi => isW_eq ht h1 (cond_high hi)
        show findS t true 11 (2 + 0) = (findW t 11 2).getD 0
        rw [e2]
        cases findW t 11 2 <;> rfl
    · rw [if_neg h1]
      have : ∀ (n : Nat) (lo : Int), findW t lo n = none := by
        intro n
        induction n with
        | zero => intro lo; rfl
        | succ n ih =>
          intro lo
          have hw : isWord t lo = false := by
            unfold isWord
            rw [beq_eq_false_iff_ne.2 h1]; rfl
          rw [findW, hw]; exact ih _
      rw [this]; rfl
/-! ### steps -/
def Mt {α : Type} (toks : List Lx.Tok) (R : PR α) (a : α) (r : RS) : Prop := match R with
  | .ok b l => a = b ∧ r.e = 0 ∧ toks.drop r.pl = l
  | .er e n => r.e = e ∧ e ≠ 0 ∧ (toks.getD r.pl zT).place = n
theorem Mt.bind {α β : Type} {toks : List Lx.Tok} {R : PR α} {f : α → List Lx.Tok → PR β} {a : α} {b : β} {r1 r2 : RS} (h : Mt toks R a r1) (hd : r1.e ≠ 0 → r2 = r1) (hf : ∀ l, R = .ok a l → r1.e = 0 → toks.drop r1.pl = l → Mt toks (f a l) b r2) : Mt toks (R.bind f) b r2 := by
  cases R with
  | ok a' l =>
    obtain ⟨h1, h2, h3⟩ := h
    subst h1
    exact hf l rfl h2 h3
  | er e n =>
    obtain ⟨h1, h2, h3⟩ := h
    have := hd (by rw [h1]; exact h2)
    subst this
    exact ⟨h1, h2, h3⟩
theorem takeS_dead {toks : List Lx.Tok} {kind : Int} {s : ByteArray} {r : RS} (h : r.e ≠ 0) : (takeS toks kind s r).2 = r := by
  obtain ⟨pl, e⟩ := r
  have h : e ≠ 0 := h
  unfold takeS
  dsimp only
  have hw : wrS e 80 = e := if_neg h
  rw [hw]
  have : (if badS (toks.getD pl zT) kind s = true then e else e) = e := by split <;> rfl
  rw [this, if_pos h]
theorem drop_facts {toks : List Lx.Tok} {pl : Nat} {t : Lx.Tok} {l : List Lx.Tok} (h : toks.drop pl = t :: l) : toks.getD pl zT = t ∧ toks.drop (pl + 1) = l ∧ t ∈ toks := by
  have h0 : toks[pl]? = some t := by
    have := congrArg (fun l : List Lx.Tok => l[0]?) h
    simpa using this
  refine ⟨by rw [List.getD_eq_getElem?_getD, h0]; rfl, ?_, List.mem_of_getElem? h0⟩
  have := congrArg (List.drop 1) h
  rw [List.drop_drop] at this
  simpa [Nat.add_comm] using this
theorem takeS_live {toks : List Lx.Tok} {kind : Int} {s : ByteArray} {pl : Nat} {t : Lx.Tok} {l : List Lx.Tok} (h : toks.drop pl = t :: l) (hk : kind ≠ 5) : takeS toks kind s ⟨pl, 0⟩ = if badS t kind s = true then (zT, ⟨pl, 80⟩) else (t, ⟨pl + 1, 0⟩) := by
  obtain ⟨h1, h2, -⟩ := drop_facts h
  unfold takeS
  dsimp only
  rw [h1, show wrS 0 80 = 80 from rfl]
  cases badS t kind s with
  | true => rw [if_pos rfl, if_pos (by decide), if_pos rfl]
  | false => rw [if_neg Bool.false_ne_true, if_neg (by simp), if_neg hk]; rfl
theorem bad_sign {t : Lx.Tok} {s : ByteArray} (hs : (s.toList == (⟨#[]⟩ : ByteArray).toList) = false) : badS t 4 s = !isSign t s := by
  unfold badS isSign
  by_cases hk : t.kind = 4
  · rw [if_neg (by simp [hk]), hs, hk]
    simp
  · rw [if_pos hk, beq_eq_false_iff_ne.2 hk]; rfl
theorem bad_any {t : Lx.Tok} {kind : Int} : badS t kind e0 = decide (t.kind ≠ kind) := by
  unfold badS
  by_cases hk : t.kind = kind
  · rw [if_neg (by simp [hk])]
    rw [show ((e0 : ByteArray).toList == (⟨#[]⟩ : ByteArray).toList) = true from beq_iff_eq.2 rfl]
    simp [hk]
  · rw [if_pos hk]; simp [hk]
theorem sign_mt {toks : List Lx.Tok} {s : ByteArray} (hs : (s.toList == (⟨#[]⟩ : ByteArray).toList) = false) {pl : Nat} {l : List Lx.Tok} (hg : Good l) (h : toks.drop pl = l) : Mt toks (signP s l) () (takeS toks 4 s ⟨pl, 0⟩).2 := by
  obtain ⟨t, m, rfl⟩ := hg.ne
  obtain ⟨h1, h2, -⟩ := drop_facts h
  rw [takeS_live h (by decide), bad_sign hs, signP]
  cases isSign t s with
  | true => rw [show (!true) = false from rfl, if_neg Bool.false_ne_true]; exact ⟨rfl, rfl, h2⟩
  | false => rw [show (!false) = true from rfl, if_pos rfl]; exact ⟨rfl, by decide, by rw [show (toks.getD pl zT) = t from h1]⟩
theorem take_mt {toks : List Lx.Tok} {kind : Int} {pred : Lx.Tok → Bool} (hk : kind ≠ 5) {pl : Nat} {l : List Lx.Tok} (hg : Good l) (h : toks.drop pl = l) (hp : ∀ t ∈ toks, t.kind = kind → pred t = true) {β : Type} (g : Lx.Tok → β) : Mt toks ((takeP kind pred l).bind fun t l => .ok (g t) l) (g (takeS toks kind e0 ⟨pl, 0⟩).1) (takeS toks kind e0 ⟨pl, 0⟩).2 := by
  obtain ⟨t, m, rfl⟩ := hg.ne
  obtain ⟨h1, h2, h3⟩ := drop_facts h
  rw [takeS_live h hk, bad_any, takeP]
  by_cases hkk : t.kind = kind
  · rw [if_pos ⟨hkk, hp t h3 hkk⟩, decide_eq_false (by simp [hkk]), if_neg Bool.false_ne_true]
    exact ⟨rfl, rfl, h2⟩
  · rw [if_neg (fun h => hkk h.1), decide_eq_true hkk, if_pos rfl]
    exact ⟨rfl, by decide, by rw [show (toks.getD pl zT) = t from h1]⟩
theorem most_facts : mostP 5 = 1000000000000 ∧ mostP 6 = 100000 ∧ mostP 11 = 1000 := by decide +kernel
theorem comma_ne : ((comma).toList == (⟨#[]⟩ : ByteArray).toList) = false := by decide +kernel
theorem open_ne : ((openS).toList == (⟨#[]⟩ : ByteArray).toList) = false := by decide +kernel
theorem shut_ne : ((shutS).toList == (⟨#[]⟩ : ByteArray).toList) = false := by decide +kernel
theorem rs_eq {r : RS} (h : r.e = 0) : r = ⟨r.pl, 0⟩ := by obtain ⟨pl, e⟩ := r; have h : e = 0 := h; rw [h]
theorem rest_mt {toks : List Lx.Tok} (hT : ∀ t ∈ toks, TokOK t) (k : Int) {pl : Nat} {l : List Lx.Tok} (hg : Good l) (h : toks.drop pl = l) : Mt toks (restP k l) (restS toks k ⟨pl, 0⟩).1 (restS toks k ⟨pl, 0⟩).2 := by
  obtain ⟨m5, m6, m11⟩ := most_facts
  unfold restP restS
  dsimp only
  by_cases h3 : k = 3
  · subst h3
    rw [if_pos rfl, if_pos rfl]
    obtain ⟨t, m, rfl⟩ := hg.ne
    obtain ⟨h1, h2, h4⟩ := drop_facts h
    rw [h1]
    rcases Bool.eq_false_or_eq_true (Lx.isName t.text) with hb | hb
    · rw [hb, if_pos rfl, takeS_live h (by decide), bad_any, takeP, hb]
      by_cases hk : t.kind = 1
      · rw [if_pos ⟨hk, rfl⟩, decide_eq_false (by simp [hk]), if_neg Bool.false_ne_true]
        exact ⟨rfl, rfl, h2⟩
      · rw [if_neg (fun h => hk h.1), decide_eq_true hk, if_pos rfl]
        exact ⟨rfl, by decide, by rw [show (toks.getD pl zT) = t from h1]⟩
    · rw [hb, if_neg Bool.false_ne_true, takeS_dead (by show wrS 0 80 ≠ 0; decide), takeP, hb, if_neg (by simp)]
      exact ⟨rfl, by decide, by rw [show (toks.getD pl zT) = t from h1]⟩
  rw [if_neg h3, if_neg h3]
  have two : ∀ (kind : Int) (pred : Lx.Tok → Bool), kind ≠ 5 → (∀ t ∈ toks, t.kind = kind → pred t = true) → Mt toks ((signP comma l).bind fun _ l => (takeP kind pred l).bind fun t l => .ok (t.n, e0) l) ((takeS toks kind e0 (takeS toks 4 comma ⟨pl, 0⟩).2).1.n, e0) (takeS toks kind e0 (takeS toks 4 comma ⟨pl, 0⟩).2).2 := by
    intro kind pred hk hp
    refine (sign_mt comma_ne hg h).bind (fun hd => takeS_dead hd) fun l1 hl he hdr => ?_
    rw [rs_eq he]
    exact take_mt hk (signP_good hg hl) hdr hp fun t => (t.n, e0)
  by_cases h5 : k = 5
  · subst h5
    rw [if_pos rfl, if_pos rfl]
    exact two 3 _ (by decide) fun t ht hk => decide_eq_true (by rw [m5]; exact (hT t ht).money hk)
  rw [if_neg h5, if_neg h5]
  by_cases h6 : k = 6
  · subst h6
    rw [if_pos rfl, if_pos rfl]
    exact two 2 _ (by decide) fun t ht hk => decide_eq_true (by rw [m6]; exact (hT t ht).count hk)
  rw [if_neg h6, if_neg h6]
  by_cases h11 : k = 11
  · subst h11
    rw [if_pos rfl, if_pos rfl]
    obtain ⟨t, m, rfl⟩ := hg.ne
    obtain ⟨h1, h2, h4⟩ := drop_facts h
    rw [h1, m11]
    by_cases hb : t.n > 1000
    · rw [if_pos hb, takeS_dead (by show wrS 0 80 ≠ 0; decide), takeP, if_neg (by simp; intro _; omega)]
      exact ⟨rfl, by decide, by rw [show (toks.getD pl zT) = t from h1]⟩
    · rw [if_neg hb, takeS_live h (by decide), bad_any, takeP]
      by_cases hk : t.kind = 2
      · rw [if_pos ⟨hk, decide_eq_true (by omega)⟩, decide_eq_false (by simp [hk]), if_neg Bool.false_ne_true]
        exact ⟨rfl, rfl, h2⟩
      · rw [if_neg (fun h => hk h.1), decide_eq_true hk, if_pos rfl]
        exact ⟨rfl, by decide, by rw [show (toks.getD pl zT) = t from h1]⟩
  rw [if_neg h11, if_neg h11]
  exact ⟨rfl, rfl, h⟩
theorem restS_dead {toks : List Lx.Tok} {k : Int} {r : RS} (h : r.e ≠ 0) : (restS toks k r).2 = r := by
  have hw : wrS r.e 80 = r.e := if_neg h
  have h1 : ∀ c : Prop, [Decidable c] → (⟨r.pl, if c then r.e else wrS r.e 80⟩ : RS) = r := by intro c _; rw [hw]; split <;> rfl
  have h2 : ∀ c : Prop, [Decidable c] → (⟨r.pl, if c then wrS r.e 80 else r.e⟩ : RS) = r := by intro c _; rw [hw]; split <;> rfl
  unfold restS
  split
  · rw [h1]; exact takeS_dead h
  · split
    · show (takeS toks 3 e0 (takeS toks 4 comma r).2).2 = r
      rw [takeS_dead (kind := 4) h]; exact takeS_dead h
    · split
      · show (takeS toks 2 e0 (takeS toks 4 comma r).2).2 = r
        rw [takeS_dead (kind := 4) h]; exact takeS_dead h
      · split
        · rw [h2]; exact takeS_dead h
        · rfl
theorem exprS_dead {toks : List Lx.Tok} {d : Nat} {c : Bool} {r : RS} (h : r.e ≠ 0) : (exprS toks d c r).2 = r := by
  cases d with
  | zero => rw [exprS]; show (⟨r.pl, wrS r.e 81⟩ : RS) = r; rw [show wrS r.e 81 = r.e from if_neg h]
  | succ d =>
    rw [exprS]
    dsimp only
    rw [show wrS r.e 80 = r.e from if_neg h]
    have : (if kindS (toks.getD r.pl zT) c = 0 then r.e else r.e) = r.e := by split <;> rfl
    rw [this, if_pos h]
theorem commaS_dead {toks : List Lx.Tok} {i : Nat} {r : RS} (h : r.e ≠ 0) : commaS toks i r = r := by
  unfold commaS
  split
  · rfl
  · exact takeS_dead h
theorem argsS_dead {toks : List Lx.Tok} {d : Nat} {b : Bool} : ∀ {n i : Nat} {r : RS}, r.e ≠ 0 → (argsS toks (exprS toks d) b n i r).2 = r
  | 0, i, r, h => rfl
  | n + 1, i, r, h => by
    show (argsS toks (exprS toks d) b n (i + 1) (exprS toks d (b && (i == 0)) (commaS toks i r)).2).2 = r
    rw [commaS_dead h, exprS_dead h]
    exact argsS_dead h
theorem argN_eq {k : Int} (h : 1 ≤ k ∧ k ≤ 12) : (argsOf k).toNat = argN k := by
  obtain ⟨h0, h1⟩ := h
  have : k = 1 ∨ k = 2 ∨ k = 3 ∨ k = 4 ∨ k = 5 ∨ k = 6 ∨ k = 7 ∨ k = 8 ∨ k = 9 ∨ k = 10 ∨ k = 11 ∨ k = 12 := by omega
  rcases this with rfl | rfl | rfl | rfl | rfl | rfl | rfl | rfl | rfl | rfl | rfl | rfl <;> decide +kernel
theorem args_mt {toks : List Lx.Tok} {d : Nat} (IH : ∀ (c : Bool) (pl : Nat) (l : List Lx.Tok), Good l → toks.drop pl = l → Mt toks (exprP d c l) (exprS toks d c ⟨pl, 0⟩).1 (exprS toks d c ⟨pl, 0⟩).2) (b : Bool) : ∀ (n i pl : Nat) (l : List Lx.Tok), Good l → toks.drop pl = l →
    Mt toks (argsP (exprP d) b n i l) (argsS toks (exprS toks d) b n i ⟨pl, 0⟩).1 (argsS toks (exprS toks d) b n i ⟨pl, 0⟩).2
  | 0, i, pl, l, hg, h => ⟨rfl, rfl, h⟩
  | n + 1, i, pl, l, hg, h => by
    rw [argsP, argsS]
    have h1 : Mt toks (if i = 0 then PR.ok () l else signP comma l) () (commaS toks i ⟨pl, 0⟩) := by
      unfold commaS
      split
      · exact ⟨rfl, rfl, h⟩
      · exact sign_mt comma_ne hg h
    refine h1.bind (fun hd => ?_) fun l1 hl he hdr => ?_
    · rw [exprS_dead hd]; exact argsS_dead hd
    · have g1 : Good l1 := by
        split at hl
        · obtain ⟨-, e⟩ := PR.inj hl; rw [← e]; exact hg
        · exact signP_good hg hl
      rw [rs_eq he]
      refine (IH _ _ _ g1 hdr).bind (fun hd => argsS_dead hd) fun l2 hl2 he2 hdr2 => ?_
      have g2 := exprP_good d _ g1 hl2
      rw [rs_eq he2]
      have := args_mt IH b n (i + 1) _ l2 g2 hdr2
      refine this.bind (fun hd => rfl) fun l3 hl3 he3 hdr3 => ?_
      exact ⟨rfl, he3, hdr3⟩
theorem expr_mt {toks : List Lx.Tok} (hT : ∀ t ∈ toks, TokOK t) : ∀ (d : Nat) (c : Bool) (pl : Nat) (l : List Lx.Tok), Good l → toks.drop pl = l → Mt toks (exprP d c l) (exprS toks d c ⟨pl, 0⟩).1 (exprS toks d c ⟨pl, 0⟩).2
  | 0, c, pl, l, hg, h => by
    obtain ⟨t, m, rfl⟩ := hg.ne
    obtain ⟨h1, h2, h3⟩ := drop_facts h
    rw [exprP, exprS]
    exact ⟨rfl, by decide, by rw [show (toks.getD pl zT) = t from h1]⟩
  | d + 1, c, pl, l, hg, h => by
    obtain ⟨t, m, rfl⟩ := hg.ne
    obtain ⟨h1, h2, h3⟩ := drop_facts h
    have IH := expr_mt hT d
    rw [exprP, exprS]
    dsimp only
    rw [h1, kind_same (hT t h3)]
    cases hb : beginK t c with
    | none =>
      dsimp only
      rw [show (none : Option Int).getD 0 = 0 from rfl, if_pos rfl, show wrS 0 80 = 80 from rfl, if_pos (by decide)]
      exact ⟨rfl, by decide, by rw [show (toks.getD pl zT) = t from h1]⟩
    | some k =>
      dsimp only
      rw [show (some k).getD 0 = k from rfl]
      have hkr := begin_range hb
      rw [if_neg (by omega : ¬ k = 0), if_neg (show ¬ ((0 : Int) ≠ 0) by simp)]
      by_cases h4 : k = 4
      · subst h4
        rw [if_pos rfl, if_pos rfl, takeS_live h (by decide), bad_any, begin_4 hb, decide_eq_false (by simp), if_neg Bool.false_ne_true]
        exact ⟨rfl, rfl, h2⟩
      · rw [if_neg h4, if_neg h4]
        have hk1 := begin_word hb h4
        have hT1 : takeS toks 1 e0 ⟨pl, 0⟩ = (t, ⟨pl + 1, 0⟩) := by rw [takeS_live h (by decide), bad_any, hk1, decide_eq_false (by simp), if_neg Bool.false_ne_true]
        have g1 : Good m := hg.tail (by rw [hk1]; decide)
        rw [hT1]
        dsimp only
        by_cases h12 : k = 1 ∨ k = 2
        · rw [if_pos h12, if_pos h12]
          exact ⟨rfl, rfl, h2⟩
        · rw [if_neg h12, if_neg h12, argN_eq hkr]
          refine (sign_mt open_ne g1 h2).bind (fun hd => ?_) fun l2 hl2 he2 hdr2 => ?_
          · rw [argsS_dead hd, restS_dead hd]; exact takeS_dead hd
          · have g2 := signP_good g1 hl2
            rw [rs_eq he2]
            refine (args_mt IH (k == 10) (argN k) 0 _ l2 g2 hdr2).bind (fun hd => ?_) fun l3 hl3 he3 hdr3 => ?_
            · rw [restS_dead hd]; exact takeS_dead hd
            · have g3 := args_good g2 hl3
              rw [rs_eq he3]
              refine (rest_mt hT k g3 hdr3).bind (fun hd => takeS_dead hd) fun l4 hl4 he4 hdr4 => ?_
              have g4 := restP_good g3 hl4
              rw [rs_eq he4]
              refine (sign_mt shut_ne g4 hdr4).bind (fun hd => rfl) fun l5 hl5 he5 hdr5 => ?_
              exact ⟨rfl, he5, hdr5⟩
theorem fin_same {toks : List Lx.Tok} (hT : ∀ t ∈ toks, TokOK t) (hg : Good toks) : rfinS toks = finP toks := by
  have h := expr_mt hT 32 false 0 toks hg (by simp)
  unfold rfinS finP
  dsimp only
  rcases PR.cases (exprP 32 false toks) with ⟨x, l, hx⟩ | ⟨e, n, hx⟩
  · rw [hx] at h ⊢
    obtain ⟨h1, h2, h3⟩ := h
    have hgl := exprP_good 32 false hg hx
    obtain ⟨t, m, rfl⟩ := hgl.ne
    obtain ⟨d1, d2, d3⟩ := drop_facts h3
    obtain ⟨pl, hr⟩ : ∃ pl, (exprS toks 32 false ⟨0, 0⟩).2 = ⟨pl, 0⟩ := ⟨_, rs_eq h2⟩
    rw [hr] at d1 ⊢
    dsimp only at d1 ⊢
    by_cases h5 : t.kind = 5
    · have hT5 : takeS toks 5 e0 ⟨pl, 0⟩ = (t, ⟨pl, 0⟩) := by
        unfold takeS
        dsimp only
        rw [d1, bad_any, decide_eq_false (by simp [h5]), if_neg Bool.false_ne_true, if_neg (by simp), if_pos rfl]
      rw [hT5, if_pos h5]
      dsimp only
      rw [if_neg (by simp), h1]
    · have hT5 : takeS toks 5 e0 ⟨pl, 0⟩ = (zT, ⟨pl, 80⟩) := by
        unfold takeS
        dsimp only
        rw [d1, bad_any, decide_eq_true h5, if_pos rfl, show wrS 0 80 = 80 from rfl, if_pos (by decide)]
      rw [hT5, if_neg h5]
      dsimp only
      rw [if_pos (by decide), d1]
  · rw [hx] at h ⊢
    obtain ⟨h1, h2, h3⟩ := h
    dsimp only
    have hd : (exprS toks 32 false ⟨0, 0⟩).2.e ≠ 0 := by rw [h1]; exact h2
    rw [takeS_dead hd, if_pos hd, h1, h3]
/-! ### the scanner's tokens -/
theorem part_tok {p : ByteArray} (h : (Lx.partF p).2 = true) : TokOK (Lx.partF p).1 := by
  unfold Lx.partF at h ⊢
  split
  · rename_i hc
    refine ⟨fun _ => ?_, (fun h => by simp at h), (fun h => by simp at h)⟩
    show p.data.toList ≠ []
    intro hp
    have : p = ⟨#[]⟩ := by
      obtain ⟨d⟩ := p
      have : d = #[] := by simpa using hp
      rw [this]
    subst this
    exact absurd hc (by decide +kernel)
  · rename_i hc
    rw [if_neg hc] at h
    split
    · refine ⟨(fun h => by simp at h), (fun h => by simp at h), fun _ => ?_⟩
      show countL p.data.toList 100000 ≤ 100000
      rcases countL_cases p.data.toList 100000 with h | ⟨n, h, -, hn, -⟩
      · rw [h]; decide
      · rw [h]; exact hn
    · rename_i hc2
      rw [if_neg hc2] at h
      refine ⟨(fun h => by simp at h), fun _ => ?_, (fun h => by simp at h)⟩
      show (parseL p.data.toList).1 ≤ 1000000000000
      rcases parseL_cases p.data.toList with h | ⟨a, ha, -, h⟩
      · rw [h]; decide
      · rw [h]; exact ha.2
theorem first_tok {l : List UInt8} (h : (Lx.firstF l).2 = true) : TokOK (Lx.firstF l).1 := by
  cases l with
  | nil => exact ⟨(fun h => by simp [Lx.firstF] at h), (fun h => by simp [Lx.firstF] at h), (fun h => by simp [Lx.firstF] at h)⟩
  | cons c l =>
    rw [Lx.firstF] at h ⊢
    split
    · exact ⟨(fun h => by simp at h), (fun h => by simp at h), (fun h => by simp at h)⟩
    · rename_i hc
      rw [if_neg hc] at h
      exact part_tok h
theorem scan_tok : ∀ (f : Nat) (l : List UInt8) (p : Nat), Lx.tellF (Lx.scanF f l p) = none → ∀ t ∈ (Lx.scanF f l p).map (·.1), TokOK t
  | 0, l, p, _, t, ht => by simp [Lx.scanF] at ht
  | f + 1, l, p, h, t, ht => by
    rw [Lx.scanF] at h ht
    try dsimp only at h ht
    obtain ⟨m, hm⟩ : ∃ m, l.drop (Lx.runB Lx.blanksB l) = m := ⟨_, rfl⟩
    rw [hm] at h ht
    have h2 : (Lx.firstF m).2 = true := by
      cases h2 : (Lx.firstF m).2 with
      | true => rfl
      | false => rw [h2] at h; simp [Lx.tellF] at h
    have hF := first_tok h2
    have hF' : ∀ q : Int, TokOK ⟨(Lx.firstF m).1.kind, (Lx.firstF m).1.text, (Lx.firstF m).1.n, q⟩ := fun q => ⟨hF.word, hF.money, hF.count⟩
    split at ht
    · simp only [List.map_cons, List.map_nil, List.mem_singleton] at ht
      subst ht
      exact hF' _
    · rename_i hc
      rw [if_neg hc, h2] at h
      rw [List.map_cons, List.mem_cons] at ht
      rcases ht with rfl | ht
      · exact hF' _
      · exact scan_tok f _ _ h t ht
theorem lex_tok (s : ByteArray) : ∀ t ∈ (lexF s).1, TokOK t := by
  unfold lexF
  split
  · intro t ht; simp at ht
  · cases h : Lx.tellF (Lx.scan s) with
    | some p => intro t ht; simp at ht
    | none => exact scan_tok _ _ _ h
/-- THE PARSER TELLS WHAT THE DOCUMENT TELLS. -/
theorem parse_same (s : ByteArray) : rParseS s = parseP s := by
  unfold rParseS parseP
  split
  · rfl
  · rename_i h
    exact fin_same (lex_tok s) (lex_good (by simpa using h))
end Go.Proofs.YtkolnkjdcncmpaaGreatDoor.Pr

/- Layer 8's helpers (pick, awake), the size of what is parsed, and ParseTells, in the pure machine. -/
namespace Go.Proofs.YtkolnkjdcncmpaaGreatDoor.Pr
open Go Go.RowKit Go.Proofs.YtkolnkjdcncmpaaGreatDoor.Pm Go.Proofs.YtkolnkjdcncmpaaGreatDoor.Pl
open Go.Proofs.YtkolnkjdcncmpaaGreatDoor.Lx (cellsT pT rowT rowT_len rowT_get lexF pkN pkN_eq rowB rowB_get pieceF sz_len sz_getD lawWs signBs nameBs sellerF sliceSV catL)
open Go.Proofs.YtkolnkjdcncmpaaGreatDoor.Q (rngE rngA txtE txtA sameE sameA)
set_option linter.unusedVariables false
set_option maxHeartbeats 1000000
/-! ### what is parsed is small -/
theorem PR.bind_inv {α β : Type} {R : PR α} {f : α → List Lx.Tok → PR β} {b : β} {r : List Lx.Tok} (h : R.bind f = .ok b r) : ∃ a l, R = .ok a l ∧ f a l = .ok b r := by
  cases R with
  | ok a l => exact ⟨a, l, rfl, h⟩
  | er e n => cases h
theorem signP_len {s : ByteArray} {l r : List Lx.Tok} {u : Unit} (h : signP s l = .ok u r) : r.length ≤ l.length := by
  obtain ⟨t, e, -⟩ := signP_ok h; subst e; simp
theorem restP_len {k : Int} {l r : List Lx.Tok} {p : Int × ByteArray} (h : restP k l = .ok p r) : r.length ≤ l.length := by
  unfold restP at h
  have go : ∀ {kind : Int} {pred : Lx.Tok → Bool} {m : List Lx.Tok} {g : Lx.Tok → Int × ByteArray}, ((takeP kind pred m).bind fun t l => .ok (g t) l) = .ok p r → r.length ≤ m.length := by
    intro kind pred m g h
    obtain ⟨t, l1, h1, h2⟩ := PR.bind_inv h
    obtain ⟨-, e⟩ := PR.inj h2
    subst e
    obtain ⟨e, -⟩ := takeP_ok h1
    subst e; simp
  have go2 : ∀ {kind : Int} {pred : Lx.Tok → Bool} {g : Lx.Tok → Int × ByteArray}, ((signP comma l).bind fun _ l => (takeP kind pred l).bind fun t l => .ok (g t) l) = .ok p r → r.length ≤ l.length := by
    intro kind pred g h
    obtain ⟨u, l1, h1, h2⟩ := PR.bind_inv h
    exact Nat.le_trans (go h2) (signP_len h1)
  split at h
  · exact go h
  · split at h
    · exact go2 h
    · split at h
      · exact go2 h
      · split at h
        · exact go h
        · obtain ⟨-, e⟩ := PR.inj h
          subst e
          exact Nat.le_refl _
theorem args_size {d : Nat} (ih : ∀ (c : Bool) {l r : List Lx.Tok} {x : Ex}, exprP d c l = .ok x r → size x + r.length ≤ l.length ∧ deep x ≤ d) (b : Bool) : ∀ (n i : Nat) {l r : List Lx.Tok} {xs : List Ex}, argsP (exprP d) b n i l = .ok xs r → sizeL xs + r.length ≤ l.length ∧ deepL xs ≤ d
  | 0, i, l, r, xs, h => by
    rw [argsP] at h
    obtain ⟨h1, h2⟩ := PR.inj h
    subst h1; subst h2
    exact ⟨by rw [sizeL]; omega, by rw [deepL]; omega⟩
  | n + 1, i, l, r, xs, h => by
    rw [argsP] at h
    obtain ⟨u, l1, h1, h⟩ := PR.bind_inv h
    obtain ⟨x, l2, h2, h⟩ := PR.bind_inv h
    obtain ⟨ys, l3, h3, h⟩ := PR.bind_inv h
    obtain ⟨e1, e2⟩ := PR.inj h
    subst e1; subst e2
    have a1 : l1.length ≤ l.length := by
      split at h1
      · obtain ⟨-, e⟩ := PR.inj h1; subst e; exact Nat.le_refl _
      · exact signP_len h1
    have a2 := ih _ h2
    have a3 := args_size ih b n (i + 1) h3
    exact ⟨by rw [sizeL]; omega, by rw [deepL]; omega⟩
theorem exprP_size : ∀ (d : Nat) (c : Bool) {l r : List Lx.Tok} {x : Ex}, exprP d c l = .ok x r → size x + r.length ≤ l.length ∧ deep x ≤ d
  | d, _, [], r, x, h => by rw [exprP] at h; cases h
  | 0, _, t :: m, r, x, h => by rw [exprP] at h; cases h
  | d + 1, c, t :: m, r, x, h => by
    have ih := @exprP_size d
    rw [exprP] at h
    have leaf : ∀ (k n : Int) (nm : ByteArray), size ⟨k, n, nm, []⟩ + m.length ≤ (t :: m).length ∧ deep ⟨k, n, nm, []⟩ ≤ (d + 1 : Nat) := fun k n nm => by
      rw [size, sizeL, deep, deepL, List.length_cons]; omega
    cases hb : beginK t c with
    | none => rw [hb] at h; cases h
    | some k =>
      rw [hb] at h
      dsimp only at h
      split at h
      · obtain ⟨e1, e2⟩ := PR.inj h; subst e1; subst e2; exact leaf _ _ _
      · split at h
        · obtain ⟨e1, e2⟩ := PR.inj h; subst e1; subst e2; exact leaf _ _ _
        · obtain ⟨u, l1, h1, h⟩ := PR.bind_inv h
          obtain ⟨xs, l2, h2, h⟩ := PR.bind_inv h
          obtain ⟨p, l3, h3, h⟩ := PR.bind_inv h
          obtain ⟨u', l4, h4, h⟩ := PR.bind_inv h
          obtain ⟨e1, e2⟩ := PR.inj h
          subst e1; subst e2
          have b1 := signP_len h1
          have b2 := args_size (@ih) _ _ _ h2
          have b3 := restP_len h3
          have b4 := signP_len h4
          rw [size, deep, List.length_cons]
          omega
theorem parseP_size (s : ByteArray) : size (parseP s).1 ≤ 1000000 ∧ deep (parseP s).1 ≤ 32 := by
  have hf := lex_few (s := s)
  have hz : size zE ≤ 1000000 ∧ deep zE ≤ 32 := by decide
  unfold parseP
  split
  · exact hz
  · unfold finP
    rcases PR.cases (exprP 32 false (lexF s).1) with ⟨x, l, hx⟩ | ⟨e, n, hx⟩
    · have := exprP_size 32 false hx
      rw [hx]
      cases l with
      | nil => exact hz
      | cons t l =>
        dsimp only
        split
        · exact ⟨by show size x ≤ _; omega, by show deep x ≤ _; omega⟩
        · exact hz
    · rw [hx]; exact hz
/-! ### awake -/
end Go.Proofs.YtkolnkjdcncmpaaGreatDoor.Pr
