/- Texts that are merged: PtE, PtF, PtG, PtH, PtI, PtJ, PtK, PtP, PtM, PtN, PtQ, PtQf, PtQt. -/
import Derived.Test.YtadpifnlkmeifaaDoorPtAll
import Derived.Test.YtadpifnlkmeifaaDoorDecT
/- Names, and what may be, in the pure machine. -/
namespace Go.Proofs.YtadpifnlkmeifaaDoor.Pm
open Go Go.RowKit
set_option linter.unusedVariables false
set_option maxHeartbeats 400000
theorem ba_get (s : ByteArray) (j : Nat) : s[j]? = s.data.toList[j]? := by
  by_cases h : j < s.size
  · have h' : j < s.data.toList.length := by simpa using h
    rw [getElem?_pos s j h, List.getElem?_eq_getElem h']
    rfl
  · rw [getElem?_neg s j h, List.getElem?_eq_none (by simpa using h)]
theorem idxSV {E : Env} {t sz bb : Nat} {zz : List CV} {s : ByteArray} {n : Int} {k : IntKind} (j : Nat) (b : UInt8) (h1 : E.T t = some ⟨.str, sz, zz, bb⟩) (hn : n = (j : Int)) (hb : s.data.toList[j]? = some b) : IdxR E t (pS s) (.c (.int k n)) (.c (.int .u8 b.toNat)) where
  h := by
    subst hn
    unfold indexF
    rw [h1]
    show byteAtF _ _ = _
    unfold byteAtF
    rw [decide_eq_true (Int.natCast_nonneg j)]
    show (match s[(j : Int).toNat]? with
      | some b => some (PV.c (.int .u8 b.toNat))
      | none => none) = _
    rw [Int.toNat_natCast, ba_get, hb]
def inB (set : ByteArray) (c : UInt8) : Bool := decide (Lib.indexByte set.data.toList c ≥ 0)
theorem in_ok (set : ByteArray) (c : UInt8) : Ok E 52 [] [.c (.int .u8 c.toNat), pS set] (pB (inB set c)) [] := by
  have h := IndexByte_ok set c.toNat
  have e : ((c.toNat : Int).toNat.toUInt8) = c := by simp
  rw [e] at h
  refine Ok.enter hE Tryd.func52 rfl (by decide +kernel) (by kernel_rfl) rfl rfl (Nat.le_of_ble_eq_true rfl) rfl ?_
  refine ⟨_, CallR.mk1 h rfl rfl, ?_⟩
  refine ⟨_, geV (c := inB set c) rfl, ?_⟩
  exact Ret.mk _ rfl rfl rfl
def runB (set : ByteArray) : List UInt8 → Nat
  | [] => 0
  | c :: l => if inB set c then runB set l + 1 else 0
theorem run_ok (s set : ByteArray) (hs : s.size ≤ 4611686018427387904) : Ok E 53 [] [pS s, pS set] (pI (runB set s.data.toList)) [] := by
  have hsz : s.data.toList.length = s.size := by simp
  refine Ok.enter hE Tryd.func53 rfl (by decide +kernel) (by kernel_rfl) rfl rfl (Nat.le_of_ble_eq_true rfl) rfl ?_
  refine Loop.run (α := Nat) (fun j => j ≤ s.size ∧ runB set s.data.toList = j + runB set (s.data.toList.drop j)) (fun j => [(0, pS s), (1, pS set), (7, pI s.size), (8, pI j)]) (fun _ => []) (fun _ => []) (fun j => s.size - j) 0 ⟨Nat.zero_le _, by simp⟩ ⟨⟨rfl, rfl, rfl, rfl, trivial⟩, rfl, rfl⟩ ?_
  rintro j f ⟨hj, hr⟩
  by_cases hjl : j < s.size
  · refine ⟨_, ltT (by omega), ?_⟩
    obtain ⟨b, hb⟩ : ∃ b, s.data.toList[j]? = some b := ⟨_, List.getElem?_eq_getElem (by omega)⟩
    have hd : s.data.toList.drop j = b :: s.data.toList.drop (j + 1) := by
      rw [List.drop_eq_getElem_cons (by omega)]
      congr 1
      rw [List.getElem?_eq_getElem (by omega)] at hb
      exact Option.some.inj hb
    rw [hd, runB] at hr
    refine ⟨_, idxSV j b rfl rfl hb, ?_⟩
    have hI := in_ok set b
    rcases Bool.eq_false_or_eq_true (inB set b) with hin | hin
    · rw [hin] at hI
      rw [if_pos hin] at hr
      refine ⟨_, CallR.mk1 hI rfl rfl, ?_⟩
      refine ⟨_, addV rfl (by omega) (by omega), ?_⟩
      exact ⟨j + 1, ⟨hjl, by omega⟩, by omega, ⟨rfl, rfl, rfl, rfl, trivial⟩, rfl, rfl⟩
    · rw [hin] at hI
      rw [if_neg (by rw [hin]; simp)] at hr
      refine ⟨_, CallR.mk1 hI rfl rfl, ?_⟩
      have hv : j = runB set s.data.toList := by omega
      exact Ret.mk _ rfl (congrArg (fun n : Nat => pI n) hv) rfl
  · refine ⟨_, ltN (by omega), ?_⟩
    have hv : s.size = runB set s.data.toList := by
      rw [hr, List.drop_of_length_le (by omega), runB]; omega
    exact Ret.mk _ rfl (congrArg (fun n : Nat => pI n) hv) rfl
def abcB : ByteArray := ⟨#[97, 98, 99, 100, 101, 102, 103, 104, 105, 106, 107, 108, 109, 110, 111, 112, 113, 114, 115, 116, 117, 118, 119, 120, 121, 122]⟩
def abc9B : ByteArray := ⟨#[97, 98, 99, 100, 101, 102, 103, 104, 105, 106, 107, 108, 109, 110, 111, 112, 113, 114, 115, 116, 117, 118, 119, 120, 121, 122, 48, 49, 50, 51, 52, 53, 54, 55, 56, 57]⟩
def isName (s : ByteArray) : Bool := match s.data.toList with
  | [] => false
  | c :: l => decide (s.size ≤ 12) && (inB abcB c && (decide (runB abc9B (c :: l) = s.size) && !(Lib.containsS Q.wordsB s)))
theorem toList_data (s : ByteArray) : s.toList = s.data.toList := Lib.toList_data s
theorem Name_ok (s : ByteArray) : Ok E 36 [] [pS s] (pB (isName s)) [] := by
  have hsz : s.data.toList.length = s.size := by simp
  have hw := Word_ok s
  obtain ⟨v, hv⟩ : ∃ v, isName s = v := ⟨_, rfl⟩
  rw [hv]
  unfold isName at hv
  cases hl : s.data.toList with
  | nil =>
    rw [hl] at hv
    subst hv
    refine Ok.enter hE Tryd.func36 rfl (by decide +kernel) (by kernel_rfl) rfl rfl (Nat.le_of_ble_eq_true rfl) rfl ?_
    refine ⟨_, strNeV (c := false) (by rw [toList_data, toList_data, hl]; rfl), ?_⟩
    exact Ret.mk _ rfl rfl rfl
  | cons c l =>
    rw [hl] at hv
    dsimp only at hv
    refine Ok.enter hE Tryd.func36 rfl (by decide +kernel) (by kernel_rfl) rfl rfl (Nat.le_of_ble_eq_true rfl) rfl ?_
    refine ⟨_, strNeV (c := true) (by rw [toList_data, toList_data, hl]; rfl), ?_⟩
    by_cases h12 : s.size ≤ 12
    · rw [decide_eq_true h12, Bool.true_and] at hv
      refine ⟨_, leT (by omega), ?_⟩
      refine ⟨_, idxSV 0 c rfl rfl (by rw [hl]; rfl), ?_⟩
      have hI := in_ok abcB c
      rcases Bool.eq_false_or_eq_true (inB abcB c) with hin | hin
      · rw [hin] at hv hI
        rw [Bool.true_and] at hv
        refine ⟨_, CallR.mk1 hI rfl rfl, ?_⟩
        have hrun := run_ok s abc9B (by omega)
        rw [hl] at hrun
        refine ⟨_, CallR.mk1 hrun rfl rfl, ?_⟩
        by_cases hrn : runB abc9B (c :: l) = s.size
        · rw [decide_eq_true hrn, Bool.true_and] at hv
          refine ⟨_, eqT (by omega), ?_⟩
          refine ⟨_, CallR.mk1 hw rfl rfl, ?_⟩
          exact Ret.mk _ rfl (congrArg (fun b : Bool => pB b) hv) rfl
        · rw [decide_eq_false hrn] at hv; subst hv
          refine ⟨_, eqN (by omega), ?_⟩
          exact Ret.mk _ rfl rfl rfl
      · rw [hin] at hv hI
        subst hv
        refine ⟨_, CallR.mk1 hI rfl rfl, ?_⟩
        exact Ret.mk _ rfl rfl rfl
    · rw [decide_eq_false h12] at hv; subst hv
      refine ⟨_, leN (by omega), ?_⟩
      exact Ret.mk _ rfl rfl rfl
end Go.Proofs.YtadpifnlkmeifaaDoor.Pm

/- What may be, and is printed, in the pure machine. -/
namespace Go.Proofs.YtadpifnlkmeifaaDoor.Pm
open Go Go.RowKit
set_option linter.unusedVariables false
set_option maxHeartbeats 1000000
def isCond (k : Int) : Bool := decide (k = 11) || decide (k = 12)
theorem cond_ok (k : Int) : Ok E 59 [] [pI k] (pB (isCond k)) [] := by
  obtain ⟨v, hv⟩ : ∃ v, isCond k = v := ⟨_, rfl⟩
  rw [hv]
  unfold isCond at hv
  refine Ok.enter hE Tryd.func59 rfl (by decide +kernel) (by kernel_rfl) rfl rfl (Nat.le_of_ble_eq_true rfl) rfl ?_
  by_cases h : k = 11
  · rw [decide_eq_true h, Bool.true_or] at hv; subst hv
    refine ⟨_, eqT h, ?_⟩
    exact Ret.mk _ rfl rfl rfl
  · rw [decide_eq_false h, Bool.false_or] at hv
    refine ⟨_, eqN h, ?_⟩
    refine ⟨_, eqV (c := v) (by rw [← hv]; rfl), ?_⟩
    exact Ret.mk _ rfl rfl rfl
def isNamed (k : Int) (nm : ByteArray) : Bool := if k = 3 then isName nm else nm.toList == (⟨#[]⟩ : ByteArray).toList
theorem named_ok (x : Ex) : Ok E 60 [] [pE x] (pB (isNamed x.f0 x.f2)) [] := by
  obtain ⟨k, n, nm, l⟩ := x
  show Ok E _ [] [pE ⟨k, n, nm, l⟩] (pB (isNamed k nm)) []
  obtain ⟨v, hv⟩ : ∃ v, isNamed k nm = v := ⟨_, rfl⟩
  rw [hv]
  unfold isNamed at hv
  have hN := Name_ok nm
  refine Ok.enter hE Tryd.func60 rfl (by decide +kernel) (by kernel_rfl) rfl rfl (Nat.le_of_ble_eq_true rfl) rfl ?_
  by_cases h : k = 3
  · rw [if_pos h] at hv
    rw [hv] at hN
    refine ⟨_, eqT h, ?_⟩
    refine ⟨_, CallR.mk1 hN rfl rfl, ?_⟩
    exact Ret.mk _ rfl rfl rfl
  · rw [if_neg h] at hv
    refine ⟨_, eqN h, ?_⟩
    refine ⟨_, strEqV hv, ?_⟩
    exact Ret.mk _ rfl rfl rfl
mutual
def isFine : Int → Bool → Ex → Bool
  | d, c, ⟨k, n, nm, l⟩ => (formP k).2.2.2 && (decide (¬ d < 1) && ((isCond k == c) && (decide (¬ n < 0) && (decide (¬ n > (formP k).2.1) && (decide ((l.length : Int) = (formP k).2.2.1) && (isNamed k nm && fineL (d - 1) (decide (k = 10)) l))))))
def fineL : Int → Bool → List Ex → Bool
  | _, _, [] => true
  | d, c, x :: l => isFine d c x && fineL d false l
end
theorem neBT {E : Env} {c d : Bool} {t sz bb : Nat} {zz : List CV} (h : (!(c == d)) = true) (hT : E.T t = some ⟨.bool, sz, zz, bb⟩ := by rfl) : BinR E t .neq (pB c) (pB d) (pB true) := .of (by
  rw [hT]; cases c <;> cases d <;> simp at h <;> rfl)
theorem neBN {E : Env} {c d : Bool} {t sz bb : Nat} {zz : List CV} (h : (c == d) = true) (hT : E.T t = some ⟨.bool, sz, zz, bb⟩ := by rfl) : BinR E t .neq (pB c) (pB d) (pB false) := .of (by
  rw [hT]; cases c <;> cases d <;> simp at h <;> rfl)
theorem fine_ok : ∀ (x : Ex), Q.rngE x = true → ∀ (d : Int), I64 d → ∀ c : Bool, Ok E 38 [] [pE x, pI d, pB c] (pB (isFine d c x)) []
  | ⟨k, n, nm, l⟩, hr, d, hd, c => by
    obtain ⟨v, hv⟩ : ∃ v, isFine d c ⟨k, n, nm, l⟩ = v := ⟨_, rfl⟩
    rw [hv]
    rw [isFine] at hv
    have hel := enc_len l
    have hlr : l.length < 4611686018427387904 ∧ Q.rngA l = true := by
      rw [Q.rngE, Bool.and_eq_true] at hr
      exact ⟨(of_decide_eq_true hr.1).2, hr.2⟩
    have hF := Form_ok k
    have hC := cond_ok k
    have hN : Ok E _ [] [pE ⟨k, n, nm, l⟩] (pB (isNamed k nm)) [] := named_ok ⟨k, n, nm, l⟩
    obtain ⟨⟨w, m, a, o⟩, hf⟩ : ∃ p, formP k = p := ⟨_, rfl⟩
    rw [hf] at hF hv
    dsimp only at hF hv
    obtain ⟨hd0, hd1⟩ := hd
    cases o with
    | false =>
      have : v = false := by rw [← hv]; rfl
      subst this
      refine Ok.enter hE Tryd.func38 rfl (by decide +kernel) (by kernel_rfl) rfl rfl (Nat.le_of_ble_eq_true rfl) rfl ?_
      refine ⟨_, CallR.mk1 hF rfl rfl, ?_⟩
      exact Ret.mk _ rfl rfl rfl
    | true =>
      rw [Bool.true_and] at hv
      refine Ok.enter hE Tryd.func38 rfl (by decide +kernel) (by kernel_rfl) rfl rfl (Nat.le_of_ble_eq_true rfl) rfl ?_
      refine ⟨_, CallR.mk1 hF rfl rfl, ?_⟩
      by_cases h1 : d < 1
      · rw [decide_eq_false (by omega)] at hv
        have : v = false := hv.symm
        subst this
        refine ⟨_, ltT h1, ?_⟩
        exact Ret.mk _ rfl rfl rfl
      rw [decide_eq_true h1, Bool.true_and] at hv
      refine ⟨_, ltN h1, ?_⟩
      refine ⟨_, CallR.mk1 hC rfl rfl, ?_⟩
      rcases Bool.eq_false_or_eq_true (isCond k == c) with h2 | h2
      rotate_left
      · rw [h2] at hv
        have : v = false := hv.symm
        subst this
        refine ⟨_, neBT (by rw [h2]; rfl), ?_⟩
        exact Ret.mk _ rfl rfl rfl
      rw [h2, Bool.true_and] at hv
      refine ⟨_, neBN h2, ?_⟩
      by_cases h3 : n < 0
      · rw [decide_eq_false (by omega)] at hv
        have : v = false := hv.symm
        subst this
        refine ⟨_, ltT h3, ?_⟩
        exact Ret.mk _ rfl rfl rfl
      rw [decide_eq_true h3, Bool.true_and] at hv
      refine ⟨_, ltN h3, ?_⟩
      by_cases h4 : n > m
      · rw [decide_eq_false (by omega)] at hv
        have : v = false := hv.symm
        subst this
        refine ⟨_, gtT h4, ?_⟩
        exact Ret.mk _ rfl rfl rfl
      rw [decide_eq_true h4, Bool.true_and] at hv
      refine ⟨_, gtN h4, ?_⟩
      by_cases h5 : (l.length : Int) = a
      rotate_left
      · rw [decide_eq_false h5] at hv
        have : v = false := hv.symm
        subst this
        refine ⟨_, neT (by rw [hel]; exact h5), ?_⟩
        exact Ret.mk _ rfl rfl rfl
      rw [decide_eq_true h5, Bool.true_and] at hv
      refine ⟨_, neN (by rw [hel]; exact h5), ?_⟩
      rcases Bool.eq_false_or_eq_true (isNamed k nm) with h6 | h6
      rotate_left
      · rw [h6] at hv hN
        have : v = false := hv.symm
        subst this
        refine ⟨_, CallR.mk1 hN rfl rfl, ?_⟩
        exact Ret.mk _ rfl rfl rfl
      rw [h6] at hv hN
      rw [Bool.true_and] at hv
      refine ⟨_, CallR.mk1 hN rfl rfl, ?_⟩
      refine Loop.cut (α := Nat) (fun j => j ≤ l.length ∧ fineL (d - 1) (decide (k = 10) && Nat.beq j 0) (l.drop j) = v) (fun j => [(1, pI d), (3, .ptr 0 0), (58, .c (.row (encL l))), (59, pI (encL l).length), (60, pI j)]) (fun j => [(cellsE ⟨k, n, nm, l⟩).map .c]) (fun _ => []) (fun j => l.length - j) 0 1 (fun _ => rfl) (fun _ => rfl) (fun _ => rfl)
        ⟨Nat.zero_le _, by rw [← hv, List.drop_zero, show Nat.beq 0 0 = true from rfl, Bool.and_true]⟩ ⟨⟨rfl, rfl, rfl, rfl, rfl, trivial⟩, rfl, rfl⟩ ?_
      rintro j f ⟨hj, hjv⟩
      by_cases hjl : j < l.length
      · obtain ⟨y, hy⟩ : ∃ y, l[j]? = some y := ⟨_, List.getElem?_eq_getElem hjl⟩
        have hry := Q.rngA_mem l hlr.2 y (List.mem_of_getElem? hy)
        have hdr : l.drop j = y :: l.drop (j + 1) := by
          rw [List.drop_eq_getElem_cons hjl]
          congr 1
          rw [List.getElem?_eq_getElem hjl] at hy
          exact Option.some.inj hy
        rw [hdr, fineL] at hjv
        refine ⟨_, ltT (by omega), ?_⟩
        refine ⟨_, idxV (j := j) (enc_get hy) rfl rfl rfl rfl, ?_⟩
        refine ⟨_, subV rfl (by omega) (by omega), ?_⟩
        by_cases h10 : k = 10
        · refine ⟨_, eqT h10, ?_⟩
          by_cases hj0 : j = 0
          · refine ⟨_, eqT (by omega), ?_⟩
            rw [decide_eq_true h10, hj0, show Nat.beq 0 0 = true from rfl, Bool.and_true] at hjv
            rw [← hj0] at hjv
            have hI := fine_ok y hry (d - 1) ⟨by omega, by omega⟩ true
            rcases Bool.eq_false_or_eq_true (isFine (d - 1) true y) with hin | hin
            · rw [hin] at hI hjv
              rw [Bool.true_and] at hjv
              refine ⟨_, CallR.mk1 hI rfl rfl, ?_⟩
              refine ⟨_, addV rfl (by omega) (by omega), ?_⟩
              exact ⟨j + 1, ⟨hjl, by rw [show (decide (k = 10) && Nat.beq (j + 1) 0) = false from Bool.and_false _]; exact hjv⟩, by omega, ⟨rfl, rfl, rfl, rfl, rfl, trivial⟩, ⟨_, rfl⟩, rfl⟩
            · rw [hin] at hI hjv
              refine ⟨_, CallR.mk1 hI rfl rfl, ?_⟩
              exact Ret.mk _ rfl (congrArg (fun b : Bool => pB b) (show false = v from hjv)) rfl
          · refine ⟨_, eqN (by omega), ?_⟩
            rw [show (decide (k = 10) && Nat.beq j 0) = false by
              cases j with
              | zero => exact absurd rfl hj0
              | succ j => exact Bool.and_false _] at hjv
            have hI := fine_ok y hry (d - 1) ⟨by omega, by omega⟩ false
            rcases Bool.eq_false_or_eq_true (isFine (d - 1) false y) with hin | hin
            · rw [hin] at hI hjv
              rw [Bool.true_and] at hjv
              refine ⟨_, CallR.mk1 hI rfl rfl, ?_⟩
              refine ⟨_, addV rfl (by omega) (by omega), ?_⟩
              exact ⟨j + 1, ⟨hjl, by rw [show (decide (k = 10) && Nat.beq (j + 1) 0) = false from Bool.and_false _]; exact hjv⟩, by omega, ⟨rfl, rfl, rfl, rfl, rfl, trivial⟩, ⟨_, rfl⟩, rfl⟩
            · rw [hin] at hI hjv
              refine ⟨_, CallR.mk1 hI rfl rfl, ?_⟩
              exact Ret.mk _ rfl (congrArg (fun b : Bool => pB b) (show false = v from hjv)) rfl
        · refine ⟨_, eqN h10, ?_⟩
          rw [decide_eq_false h10, Bool.false_and] at hjv
          have hI := fine_ok y hry (d - 1) ⟨by omega, by omega⟩ false
          rcases Bool.eq_false_or_eq_true (isFine (d - 1) false y) with hin | hin
          · rw [hin] at hI hjv
            rw [Bool.true_and] at hjv
            refine ⟨_, CallR.mk1 hI rfl rfl, ?_⟩
            refine ⟨_, addV rfl (by omega) (by omega), ?_⟩
            exact ⟨j + 1, ⟨hjl, by rw [show (decide (k = 10) && Nat.beq (j + 1) 0) = false from Bool.and_false _]; exact hjv⟩, by omega, ⟨rfl, rfl, rfl, rfl, rfl, trivial⟩, ⟨_, rfl⟩, rfl⟩
          · rw [hin] at hI hjv
            refine ⟨_, CallR.mk1 hI rfl rfl, ?_⟩
            exact Ret.mk _ rfl (congrArg (fun b : Bool => pB b) (show false = v from hjv)) rfl
      · refine ⟨_, ltN (by omega), ?_⟩
        rw [List.drop_of_length_le (by omega), fineL] at hjv
        exact Ret.mk _ rfl (congrArg (fun b : Bool => pB b) hjv) rfl
termination_by x => SizeOf.sizeOf x
decreasing_by
  all_goals
    have := List.sizeOf_lt_of_mem (List.mem_of_getElem? hy)
    simp only [Go.Proofs.YtadpifnlkmeifaaDoor.Q.S27.mk.sizeOf_spec]
    omega
end Go.Proofs.YtadpifnlkmeifaaDoor.Pm

/- Right, Print, in the pure machine. -/
namespace Go.Proofs.YtadpifnlkmeifaaDoor.Pm
open Go Go.RowKit
set_option linter.unusedVariables false
set_option maxHeartbeats 1000000
/-- what a tree has to fulfil to be looked at (its text is no longer than Go's memory, its count no greater than Go's numbers) -/
structure Fit (x : Ex) : Prop where
  rng : Q.rngE x = true
  size : size x ≤ 9223372036854775807
  ne : Q.txtE x ≠ []
  len : (Q.txtE x).length ≤ 70368744177664
def isRight (x : Ex) : Bool := isFine 32 false x && (decide (size x ≤ 2000) && decide ((Q.txtE x).length ≤ 2000))
theorem Right_ok (x : Ex) (hr : Q.rngE x = true) (hs : size x ≤ 9223372036854775807) (ht : isFine 32 false x = true → size x ≤ 2000 → Fit x) : Ok E 18 [] [pE x] (pB (isRight x)) [] := by
  obtain ⟨v, hv⟩ : ∃ v, isRight x = v := ⟨_, rfl⟩
  rw [hv]
  unfold isRight at hv
  have hF := fine_ok x hr 32 ⟨by omega, by omega⟩ false
  have hS := Size_ok x hs
  obtain ⟨k, n, nm, l⟩ := x
  rcases Bool.eq_false_or_eq_true (isFine 32 false ⟨k, n, nm, l⟩) with h1 | h1
  · rw [h1] at hv hF
    rw [Bool.true_and] at hv
    by_cases h2 : size ⟨k, n, nm, l⟩ ≤ 2000
    · rw [decide_eq_true h2, Bool.true_and] at hv
      have fit := ht h1 h2
      have hT := text_ok ⟨k, n, nm, l⟩ hr fit.ne fit.len
      have hl : (Pl.B (Q.txtE ⟨k, n, nm, l⟩)).size = (Q.txtE ⟨k, n, nm, l⟩).length := rfl
      refine Ok.enter hE Tryd.func18 rfl (by decide +kernel) (by kernel_rfl) rfl rfl (Nat.le_of_ble_eq_true rfl) rfl ?_
      refine ⟨_, CallR.mk1 hF rfl rfl, ?_⟩
      refine ⟨_, CallR.mk1 hS rfl rfl, ?_⟩
      refine ⟨_, leT (by omega), ?_⟩
      refine ⟨_, CallR.mk1 hT rfl rfl, ?_⟩
      refine ⟨_, leV (c := v) (by rw [← hv, hl]; exact decide_eq_decide.2 (by omega)), ?_⟩
      exact Ret.mk _ rfl rfl rfl
    · rw [decide_eq_false h2] at hv
      have : v = false := hv.symm
      subst this
      refine Ok.enter hE Tryd.func18 rfl (by decide +kernel) (by kernel_rfl) rfl rfl (Nat.le_of_ble_eq_true rfl) rfl ?_
      refine ⟨_, CallR.mk1 hF rfl rfl, ?_⟩
      refine ⟨_, CallR.mk1 hS rfl rfl, ?_⟩
      refine ⟨_, leN (by omega), ?_⟩
      exact Ret.mk _ rfl rfl rfl
  · rw [h1] at hv hF
    have : v = false := hv.symm
    subst this
    refine Ok.enter hE Tryd.func18 rfl (by decide +kernel) (by kernel_rfl) rfl rfl (Nat.le_of_ble_eq_true rfl) rfl ?_
    refine ⟨_, CallR.mk1 hF rfl rfl, ?_⟩
    exact Ret.mk _ rfl rfl rfl
end Go.Proofs.YtadpifnlkmeifaaDoor.Pm

/- Cells that may be told otherwise, rows too. -/
namespace Go.Proofs.YtadpifnlkmeifaaDoor.Pm
open Go Go.RowKit
set_option linter.unusedVariables false
mutual
inductive WC : CV → CV → Prop
  | refl (c : CV) : WC c c
  | nilRow : WC .nil (.row [])
  | row {xs ys : List (List CV)} (h : WRows xs ys) : WC (.row xs) (.row ys)
inductive WRows : List (List CV) → List (List CV) → Prop
  | nil : WRows [] []
  | cons {x y : List CV} {xs ys : List (List CV)} (h : WRow x y) (t : WRows xs ys) : WRows (x :: xs) (y :: ys)
inductive WRow : List CV → List CV → Prop
  | nil : WRow [] []
  | cons {c d : CV} {cs ds : List CV} (h : WC c d) (t : WRow cs ds) : WRow (c :: cs) (d :: ds)
end
theorem WRow.length : ∀ {x y : List CV}, WRow x y → x.length = y.length
  | _, _, .nil => rfl
  | _, _, .cons _ t => by simp [t.length]
theorem WRows.length : ∀ {x y : List (List CV)}, WRows x y → x.length = y.length
  | _, _, .nil => rfl
  | _, _, .cons _ t => by simp [t.length]
theorem WRows.sz : ∀ {x y : List (List CV)} {n : Nat}, WRows x y → (∀ r ∈ x, r.length = n) → ∀ r ∈ y, r.length = n
  | _, _, _, .nil, _ => by simp
  | _, _, _, .cons h t, hx => by
    intro r hr
    rcases List.mem_cons.1 hr with rfl | hr
    · rw [← h.length]; exact hx _ (by simp)
    · exact t.sz (fun r hr => hx r (by simp [hr])) r hr
section
variable {w : World} {ok : Nat → Nat → Prop}
mutual
theorem WC.rep : ∀ {c d : CV}, WC c d → ∀ v, RepC w ok v c → RepC w ok v d
  | _, _, .refl _, v, h => h
  | _, _, .nilRow, v, h => h.nil_row
  | _, _, .row hr, v, h => by
    cases h with
    | row A len cap xs sz vs hl hcap hnil hpos hsz hA hg =>
      exact .row A len cap _ sz vs (by rw [hl, hr.length]) hcap hnil hpos (hr.sz hsz) hA (fun i y j d hy hd => hr.rep i y hy j d hd (vs (i * sz + j)) fun x c hx hc => hg i x j c hx hc)
theorem WRows.rep : ∀ {xs ys : List (List CV)}, WRows xs ys → ∀ (i : Nat) (y : List CV), ys[i]? = some y → ∀ (j : Nat) (d : CV), y[j]? = some d → ∀ v, (∀ x c, xs[i]? = some x → x[j]? = some c → RepC w ok v c) → RepC w ok v d
  | _, _, .nil, i, y, hy, _, _, _, _, _ => by simp at hy
  | _, _, .cons h t, i, y, hy, j, d, hd, v, hv => by
    cases i with
    | zero =>
      simp at hy; subst hy
      exact h.rep j d hd v fun c hc => hv _ c rfl hc
    | succ i => exact t.rep i y (by simpa using hy) j d hd v fun x c hx hc => hv x c (by simpa using hx) hc
theorem WRow.rep : ∀ {x y : List CV}, WRow x y → ∀ (j : Nat) (d : CV), y[j]? = some d → ∀ v, (∀ c, x[j]? = some c → RepC w ok v c) → RepC w ok v d
  | _, _, .nil, j, d, hd, _, _ => by simp at hd
  | _, _, .cons h t, j, d, hd, v, hv => by
    cases j with
    | zero =>
      simp at hd; subst hd
      exact h.rep v (hv _ rfl)
    | succ j => exact t.rep j d (by simpa using hd) v fun c hc => hv c (by simpa using hc)
end
end
theorem Wk.aggW {cs ds : List CV} (h : WRow cs ds) : Wk (.agg cs) (.agg ds) := by
  intro w ok m tk v hv
  cases hv with
  | agg vs _ hg => exact .agg vs ds ⟨by rw [hg.1, h.length], fun i v d hv hd => h.rep i d hd v fun c hc => hg.2 i v c hv hc⟩
end Go.Proofs.YtadpifnlkmeifaaDoor.Pm

/- The fixed answers of awake: trees that are named, and how they are told. -/
namespace Go.Proofs.YtadpifnlkmeifaaDoor.Pm
open Go Go.RowKit
set_option linter.unusedVariables false
def lowE : Ex := ⟨1, 0, e0, []⟩
def xE : Ex := ⟨9, 0, e0, [⟨5, 1, e0, [lowE]⟩, ⟨4, 999, e0, []⟩]⟩
def zE : Ex := ⟨0, 0, e0, []⟩
theorem wRow4 {k n : Int} {s : ByteArray} {c d : CV} (h : WC c d) : WRow [.int .i64 k, .int .i64 n, .str s, c] [.int .i64 k, .int .i64 n, .str s, d] :=
  .cons (.refl _) (.cons (.refl _) (.cons (.refl _) (.cons h .nil)))
theorem wk_leaf (k n : Int) (s : ByteArray) : WRow [.int .i64 k, .int .i64 n, .str s, .nil] (cellsE ⟨k, n, s, []⟩) := by
  show WRow _ [_, _, _, .row (encL [])]
  rw [encL_map]
  exact wRow4 .nilRow
theorem wk_node (k n : Int) (s : ByteArray) (l : List Ex) {xs : List (List CV)} (h : WRows xs (l.map cellsE)) : WRow [.int .i64 k, .int .i64 n, .str s, .row xs] (cellsE ⟨k, n, s, l⟩) := by
  show WRow _ [_, _, _, .row (encL l)]
  rw [encL_map]
  exact wRow4 (.row h)
theorem wk_xE : WRow [.int .i64 9, .int .i64 0, .str e0, .row [[.int .i64 5, .int .i64 1, .str e0, .row [[.int .i64 1, .int .i64 0, .str e0, .nil]]], [.int .i64 4, .int .i64 999, .str e0, .nil]]] (cellsE xE) :=
  wk_node _ _ _ _ (.cons (wk_node _ _ _ _ (.cons (wk_leaf _ _ _) .nil)) (.cons (wk_leaf _ _ _) .nil))
theorem x_facts : Q.rngE xE = true ∧ size xE = 4 ∧ deep xE = 3 ∧ (Q.txtE xE).length = 30 ∧ isFine 32 false xE = true := by decide +kernel
theorem z_facts : Q.rngE zE = true ∧ size zE = 1 ∧ isFine 32 false zE = false := by decide +kernel
end Go.Proofs.YtadpifnlkmeifaaDoor.Pm

/- awake, in the pure machine. -/
namespace Go.Proofs.YtadpifnlkmeifaaDoor.Pm
open Go Go.RowKit
set_option linter.unusedVariables false
set_option maxHeartbeats 1000000
end Go.Proofs.YtadpifnlkmeifaaDoor.Pm

/- Facts on trees in plain words: what a strategy of raw numbers is; what fine trees are. -/
namespace Go.Proofs.YtadpifnlkmeifaaDoor.Pm
open Go Go.RowKit Go.Proofs.YtadpifnlkmeifaaDoor.Pl
open Go.Proofs.YtadpifnlkmeifaaDoor.Q (rngE rngA txtE txtA sameE sameA formT wordL moreL sepA)
set_option linter.unusedVariables false
set_option linter.unusedSimpArgs false
/-! ### strategies of raw numbers -/
structure Small (d : Nat) (x : Ex) : Prop where
  rng : Q.rngE x = true
  size : size x ≤ ((4 ^ d : Nat) : Int)
  deep : deep x ≤ d
theorem small_list {d : Nat} : ∀ l : List Ex, (∀ x ∈ l, Small d x) → Q.rngA l = true ∧ sizeL l ≤ ((l.length * 4 ^ d : Nat) : Int) ∧ deepL l ≤ d
  | [], _ => ⟨rfl, by rw [sizeL]; omega, by rw [deepL]; omega⟩
  | x :: l, h => by
    have hx := h x List.mem_cons_self
    obtain ⟨a, b, c⟩ := small_list l fun y hy => h y (List.mem_cons_of_mem _ hy)
    have hs := hx.size
    have hd := hx.deep
    refine ⟨by rw [Q.rngA, hx.rng, a]; rfl, ?_, by rw [deepL]; omega⟩
    rw [sizeL, List.length_cons, Nat.add_mul]
    omega
theorem small_node {d : Nat} {l : List Ex} (hl : l.length ≤ 3) (h : ∀ x ∈ l, Small d x) (k n : Int) (nm : ByteArray) (hn : I64 n) : Small (d + 1) ⟨k, n, nm, l⟩ := by
  obtain ⟨a, b, c⟩ := small_list l h
  obtain ⟨n0, n1⟩ := hn
  refine ⟨?_, ?_, by rw [deep]; omega⟩
  · rw [Q.rngE, a, Bool.and_true]
    exact decide_eq_true ⟨⟨by omega, by omega⟩, by omega⟩
  · rw [size, Nat.pow_succ]
    have hp : 1 ≤ 4 ^ d := Nat.one_le_pow _ _ (by decide)
    have : l.length * 4 ^ d ≤ 3 * 4 ^ d := Nat.mul_le_mul_right _ hl
    omega
theorem small_more {d : Nat} (n : Int) (hn : I64 n) : Small (d + 1) (moreE n) := small_node (l := []) (by simp) (fun x hx => by cases hx) _ _ _ hn
theorem nx_i64 (L : List Int) (n : Int) (hn : 0 < n) (hm : n ≤ 12000) : I64 (nx L n) := by
  have := nx_rng (L := L) hn
  exact ⟨by omega, by omega⟩
theorem finF_small {d : Nat} (k : Int) {l : List Ex} (L : List Int) (hl : l.length ≤ 3) (h : ∀ x ∈ l, Small d x) : Small (d + 1) (finF k l L).1 := by
  unfold finF
  split
  · exact small_node hl h _ _ _ ⟨by decide, by decide⟩
  · split
    · exact small_node hl h _ _ _ (nx_i64 _ _ (by decide) (by decide))
    · split
      · exact small_node hl h _ _ _ (nx_i64 _ _ (by decide) (by decide))
      · exact small_node hl h _ _ _ ⟨by decide, by decide⟩
theorem argsL_mem {g : Bool → List Int → Ex × List Int} {b : Bool} {L : List Int} {m : Nat} {x : Ex} (h : x ∈ argsL g b L m) : ∃ j, j < m ∧ x = xL g b L j := by
  unfold argsL at h
  obtain ⟨j, hj, rfl⟩ := List.mem_map.1 h
  exact ⟨j, List.mem_range.1 hj, rfl⟩
theorem exF_small : ∀ (d : Nat) (c : Bool) (L : List Int), PL L → Small (d + 1) (exF (d + 1) c L).1
  | 0, true, L, h => by
    rw [exF, if_pos rfl]
    exact small_more _ (nx_i64 _ _ (by decide) (by decide))
  | d + 1, true, L, h => by
    rw [exF, if_neg (by omega)]
    split
    · exact small_more _ (nx_i64 _ _ (by decide) (by decide))
    · refine small_node (d := d + 1) (by simp) ?_ _ _ _ ⟨by decide, by decide⟩
      intro x hx
      simp only [List.mem_cons, List.not_mem_nil, or_false] at hx
      rcases hx with rfl | rfl
      · exact exF_small d _ _ h.tail
      · exact exF_small d _ _ (exF_PL _ _ _ h.tail)
  | d, false, L, h => by
    rw [exF]
    have hkr := kindF_rng d L
    have har := argsOf_rng (k := kindF d L) ⟨hkr.1, hkr.2.1⟩
    refine finF_small _ _ (by rw [argsL_len]; omega) ?_
    intro x hx
    obtain ⟨j, hj, rfl⟩ := argsL_mem hx
    cases d with
    | zero =>
      have := argsOf_low (k := kindF 0 L) ⟨hkr.1, hkr.2.2 rfl⟩
      omega
    | succ d => exact exF_small d _ _ (stL_PL (exF_PL _) _ h.tail j)
theorem strat_small (raw : List Int) (h : ∀ a ∈ raw, I64 a) : Small 5 (stratF raw) := exF_small 4 false _ ⟨fun a ha => h a (List.mem_of_mem_take ha), by simp; omega⟩
/-! ### fine trees -/
theorem idx_mem : ∀ (l : List UInt8) (c : UInt8), 0 ≤ Lib.indexByte l c → c ∈ l
  | [], c, h => by simp [Lib.indexByte] at h
  | x :: l, c, h => by
    by_cases hx : (x == c) = true
    · rw [beq_iff_eq] at hx
      subst hx
      exact List.mem_cons_self
    · rw [Lib.indexByte, if_neg hx] at h
      refine List.mem_cons_of_mem _ (idx_mem l c ?_)
      by_cases hm : (Lib.indexByte l c == -1) = true
      · rw [if_pos hm] at h
        exact absurd h (by decide)
      · have := Lib.indexByte_ge l c
        have h2 : Lib.indexByte l c ≠ -1 := by simpa using hm
        generalize Lib.indexByte l c = q at *
        omega
theorem formT_args (k : Int) (w : List UInt8) (m a : Int) (h : formT k = some (w, m, a)) : 0 ≤ a ∧ a ≤ 3 ∧ 0 ≤ m ∧ m ≤ 1000000000000 := by
  unfold formT at h
  split at h
  all_goals first
    | (simp only [Option.some.injEq, Prod.mk.injEq] at h; obtain ⟨_, rfl, rfl⟩ := h; decide)
    | exact absurd h (by simp)
theorem textL_le (n : Int) : (textL n).length ≤ 24 := by
  by_cases h : okA n
  · rw [textL_ok h]
    have := DecT.digs_len (n.natAbs / 100)
    simp only [List.length_append, List.length_cons, List.length_nil]
    split <;> simp <;> omega
  · rw [textL_no h]; simp
theorem textL_ne (n : Int) (h0 : 0 ≤ n) (h1 : n ≤ 1000000000000) : textL n ≠ [] := by
  rw [textL_ok (by unfold okA; omega)]
  simp
theorem intL_le (n : Int) : (intL n).length ≤ 21 := by
  unfold intL
  split
  · have := DecT.digs_len n.natAbs
    simp
    omega
  · have := DecT.digs_len n.toNat
    omega
theorem wordL_le (k : Int) : (wordL k).length ≤ 6 := by
  unfold wordL formT
  split <;> simp
theorem isName_le (s : ByteArray) (h : isName s = true) : s.data.toList.length ≤ 12 := by
  unfold isName at h
  split at h
  · exact absurd h (by simp)
  · rename_i c l hl
    rw [Bool.and_eq_true] at h
    have := of_decide_eq_true h.1
    simpa using this
theorem runB_all (set : ByteArray) : ∀ (l : List UInt8), runB set l = l.length → ∀ c ∈ l, inB set c = true
  | [], _ => by simp
  | x :: l, h => by
    intro c hc
    rw [runB] at h
    split at h
    · rename_i hx
      rcases List.mem_cons.1 hc with rfl | hc
      · exact hx
      · exact runB_all set l (by simpa using h) c hc
    · simp at h
theorem more_le (k n : Int) (nm : ByteArray) (b : Bool) (h : isNamed k nm = true) : (sepA b (moreL k n nm)).length ≤ 26 := by
  unfold moreL
  have h1 := textL_le n
  have h2 := intL_le n
  by_cases h3 : k = 3
  · rw [if_pos h3]
    unfold isNamed at h
    rw [if_pos h3] at h
    have := isName_le nm h
    simp only [sepA, List.length_append, List.length_nil]
    split <;> simp at * <;> omega
  · rw [if_neg h3]
    by_cases h5 : k = 5
    · rw [if_pos h5]
      simp only [sepA, List.length_append, List.length_nil]
      split <;> simp <;> omega
    · rw [if_neg h5]
      by_cases h6 : k = 6 ∨ k = 11
      · rw [if_pos h6]
        simp only [sepA, List.length_append, List.length_nil]
        split <;> simp <;> omega
      · rw [if_neg h6]
        simp [sepA]
theorem fine_open {d : Int} {c : Bool} {k n : Int} {nm : ByteArray} {l : List Ex} (h : isFine d c ⟨k, n, nm, l⟩ = true) : ∃ w m a, formT k = some (w, m, a) ∧ 1 ≤ d ∧ isCond k = c ∧ 0 ≤ n ∧ n ≤ m ∧ m ≤ 1000000000000 ∧ (l.length : Int) = a ∧ a ≤ 3 ∧ isNamed k nm = true ∧ fineL (d - 1) (decide (k = 10)) l = true := by
  rw [isFine] at h
  unfold formP at h
  rcases hF : formT k with _ | ⟨w, m, a⟩
  · rw [hF] at h
    exact absurd h (by simp)
  · rw [hF] at h
    simp only [Bool.and_eq_true, decide_eq_true_eq, beq_iff_eq] at h
    obtain ⟨_, h1, h2, h3, h4, h5, h6, h7⟩ := h
    obtain ⟨_, ha3, _, hm1⟩ := formT_args k w m a hF
    exact ⟨w, m, a, rfl, by omega, h2, by omega, by omega, hm1, h5, ha3, h6, h7⟩
mutual
theorem fine_facts : ∀ (x : Ex) (m : Nat) (c : Bool), isFine (m : Int) c x = true → size x ≤ ((4 ^ m : Nat) : Int) ∧ deep x ≤ m ∧ rngE x = true ∧ txtE x ≠ [] ∧ ((txtE x).length : Int) + 2 ≤ 62 * size x
  | ⟨k, n, nm, l⟩, m, c, h => by
    obtain ⟨w, mm, a, hF, h1, h2, h3, h4, h5, h6, h7, h8, h9⟩ := fine_open h
    obtain ⟨m', rfl⟩ : ∃ m', m = m' + 1 := ⟨m - 1, by omega⟩
    rw [show ((m' + 1 : Nat) : Int) - 1 = (m' : Int) by omega] at h9
    obtain ⟨i1, i0, i2, i3⟩ := fine_factsA l m' (decide (k = 10)) h9
    refine ⟨?_, ?_, ?_, ?_, ?_⟩
    · rw [size, Nat.pow_succ]
      have hp : 1 ≤ 4 ^ m' := Nat.one_le_pow _ _ (by decide)
      have hl : l.length ≤ 3 := by omega
      have : l.length * 4 ^ m' ≤ 3 * 4 ^ m' := Nat.mul_le_mul_right _ hl
      omega
    · rw [deep]; omega
    · rw [rngE, i2, Bool.and_true]
      exact decide_eq_true ⟨⟨by omega, by omega⟩, by omega⟩
    · rw [txtE]
      by_cases k4 : k = 4
      · rw [if_pos k4]; exact textL_ne n h3 (by omega)
      · rw [if_neg k4]
        by_cases k12 : k = 1 ∨ k = 2
        · rw [if_pos k12]
          rcases k12 with rfl | rfl <;> decide
        · rw [if_neg k12]; simp
    · rw [txtE, size]
      have t1 := textL_le n
      have t2 := wordL_le k
      have t3 := more_le k n nm (k == 3 || l.isEmpty) h8
      have t4 := i3 true
      by_cases k4 : k = 4
      · rw [if_pos k4]; omega
      · rw [if_neg k4]
        by_cases k12 : k = 1 ∨ k = 2
        · rw [if_pos k12]; omega
        · rw [if_neg k12]
          by_cases k3 : k = 3
          · rw [if_pos k3]
            simp only [List.length_append, List.length_cons, List.length_nil]
            omega
          · rw [if_neg k3]
            simp only [List.length_append, List.length_cons, List.length_nil]
            omega
theorem fine_factsA : ∀ (l : List Ex) (m : Nat) (c : Bool), fineL (m : Int) c l = true → sizeL l ≤ ((l.length * 4 ^ m : Nat) : Int) ∧ deepL l ≤ m ∧ rngA l = true ∧ ∀ b, ((txtA b l).length : Int) ≤ 62 * sizeL l
  | [], m, c, _ => ⟨by simp [sizeL], by rw [deepL]; omega, rfl, fun b => by simp [txtA, sizeL]⟩
  | x :: l, m, c, h => by
    rw [fineL, Bool.and_eq_true] at h
    obtain ⟨a1, a0, a2, a3, a4⟩ := fine_facts x m c h.1
    obtain ⟨b1, b0, b2, b3⟩ := fine_factsA l m false h.2
    refine ⟨?_, by rw [deepL]; omega, ?_, fun b => ?_⟩
    · rw [sizeL, List.length_cons, Nat.add_mul]; omega
    · rw [rngA, a2, b2]; rfl
    · rw [txtA, sizeL]
      have := b3 false
      simp only [List.length_append]
      split <;> simp <;> omega
end
theorem fit_of {x : Ex} (h : isFine 32 false x = true) (hs : size x ≤ 2000) : Fit x := by
  obtain ⟨a, _, b, c, d⟩ := fine_facts x 32 false h
  exact ⟨b, by omega, c, by omega⟩
theorem right_ok (x : Ex) (hr : rngE x = true) (hs : size x ≤ 9223372036854775807) : Ok E 18 [] [pE x] (pB (isRight x)) [] := Right_ok x hr hs fit_of
theorem right_open {x : Ex} (h : isRight x = true) : isFine 32 false x = true ∧ size x ≤ 2000 ∧ (txtE x).length ≤ 2000 := by
  unfold isRight at h
  rw [Bool.and_eq_true, Bool.and_eq_true] at h
  exact ⟨h.1, of_decide_eq_true h.2.1, of_decide_eq_true h.2.2⟩
end Go.Proofs.YtadpifnlkmeifaaDoor.Pm

/- The document's own answers of layers 2, 6, and words of layer 7, in the pure machine. -/
namespace Go.Proofs.YtadpifnlkmeifaaDoor.Pm
open Go Go.RowKit Go.Proofs.YtadpifnlkmeifaaDoor.Pl
open Go.Proofs.YtadpifnlkmeifaaDoor.Q (rngE rngA txtE txtA sameE sameA formT wordL moreL sepA)
set_option linter.unusedVariables false
set_option maxHeartbeats 1000000
/-! ### layer 2 -/
theorem digs_len (n : Nat) : (digs n).length ≤ 20 := DecT.digs_len n
/-! ### layer 6 -/
end Go.Proofs.YtadpifnlkmeifaaDoor.Pm

/- The statement TreeGrows, in the pure machine. -/
namespace Go.Proofs.YtadpifnlkmeifaaDoor.Pm
open Go Go.RowKit
set_option linter.unusedVariables false
set_option maxHeartbeats 1000000
theorem WRow.refl : ∀ x : List CV, WRow x x
  | [] => .nil
  | _ :: x => .cons (.refl _) (WRow.refl x)
theorem WRows.refl : ∀ x : List (List CV), WRows x x
  | [] => .nil
  | x :: r => .cons (WRow.refl x) (WRows.refl r)
theorem not_right {k n : Int} {nm : ByteArray} {l : List Ex} (h : isCond k = true) : isRight ⟨k, n, nm, l⟩ = false := by
  rcases Bool.eq_false_or_eq_true (isRight ⟨k, n, nm, l⟩) with h1 | h1
  · obtain ⟨w, m, a, _, _, h3, _⟩ := fine_open (right_open h1).1
    rw [h] at h3; cases h3
  · exact h1
end Go.Proofs.YtadpifnlkmeifaaDoor.Pm

/- The statement TreeParts, in the pure machine. -/
namespace Go.Proofs.YtadpifnlkmeifaaDoor.Pm
open Go Go.RowKit Go.Proofs.YtadpifnlkmeifaaDoor.Pl
open Go.Proofs.YtadpifnlkmeifaaDoor.Q (rngE rngA txtE txtA sameE sameA formT wordL moreL sepA)
set_option linter.unusedVariables false
set_option maxHeartbeats 1000000
mutual
theorem fine_mono : ∀ (x : Ex) (d d' : Int) (c : Bool), d ≤ d' → isFine d c x = true → isFine d' c x = true
  | ⟨k, n, nm, l⟩, d, d', c, hd, h => by
    rw [isFine] at h ⊢
    simp only [Bool.and_eq_true, decide_eq_true_eq] at h ⊢
    obtain ⟨h0, h1, h2, h3, h4, h5, h6, h7⟩ := h
    exact ⟨h0, by omega, h2, h3, h4, h5, h6, fineL_mono l _ _ _ (by omega) h7⟩
theorem fineL_mono : ∀ (l : List Ex) (d d' : Int) (c : Bool), d ≤ d' → fineL d c l = true → fineL d' c l = true
  | [], _, _, _, _, _ => by rw [fineL]
  | x :: l, d, d', c, hd, h => by
    rw [fineL, Bool.and_eq_true] at h ⊢
    exact ⟨fine_mono x d d' c hd h.1, fineL_mono l d d' false hd h.2⟩
end
theorem fineL_mem : ∀ (l : List Ex) (d : Int) (c : Bool), fineL d c l = true → ∀ y ∈ l, ∃ c', isFine d c' y = true
  | [], _, _, _, y, hy => by cases hy
  | x :: l, d, c, h, y, hy => by
    rw [fineL, Bool.and_eq_true] at h
    rcases List.mem_cons.1 hy with rfl | hy
    · exact ⟨c, h.1⟩
    · exact fineL_mem l d false h.2 y hy
theorem txtA_mem : ∀ (l : List Ex) (b : Bool), ∀ y ∈ l, (txtE y).length ≤ (txtA b l).length
  | [], _, y, hy => by cases hy
  | x :: l, b, y, hy => by
    rw [txtA, List.length_append, List.length_append]
    rcases List.mem_cons.1 hy with rfl | hy
    · omega
    · have := txtA_mem l false y hy
      omega
theorem sizeL_mem : ∀ (l : List Ex), ∀ y ∈ l, size y ≤ sizeL l ∧ deep y ≤ deepL l
  | [], y, hy => by cases hy
  | x :: l, y, hy => by
    rw [sizeL, deepL]
    have := sizeL_pos l
    have := size_pos x
    rcases List.mem_cons.1 hy with rfl | hy
    · omega
    · have := sizeL_mem l y hy
      omega
/-- what stands in what is right -/
structure PartOK (x : Ex) : Prop where
  fine : ∃ (m : Nat) (c : Bool), m ≤ 32 ∧ isFine m c x = true
  size : size x ≤ 2000
  len : (txtE x).length ≤ 2000
theorem part_of {x : Ex} (h : isRight x = true) : PartOK x := ⟨⟨32, false, Nat.le_refl _, (right_open h).1⟩, (right_open h).2.1, (right_open h).2.2⟩
theorem args_few (k : Int) (w : List UInt8) (m a : Int) (h : formT k = some (w, m, a)) (h4 : k = 4 ∨ k = 1 ∨ k = 2 ∨ k = 3) : a = 0 := by
  rcases h4 with rfl | rfl | rfl | rfl
  all_goals (simp only [formT, Option.some.injEq, Prod.mk.injEq] at h; exact h.2.2.symm)
theorem PartOK.args {x : Ex} (h : PartOK x) : (x.f3.length : Int) ≤ 3 := by
  obtain ⟨k, n, nm, l⟩ := x
  obtain ⟨⟨m, c, hm, hf⟩, _, _⟩ := h
  obtain ⟨w, mm, a, hF, h1, h2, h3, h4, h5, h6, h7, h8, h9⟩ := fine_open hf
  show (l.length : Int) ≤ 3
  omega
theorem PartOK.part {x y : Ex} (h : PartOK x) (hy : y ∈ x.f3) : PartOK y ∧ deep y < deep x ∧ Pm.size y < Pm.size x := by
  obtain ⟨k, n, nm, l⟩ := x
  obtain ⟨⟨m, c, hm, hf⟩, hs, ht⟩ := h
  have hy : y ∈ l := hy
  obtain ⟨w, mm, a, hF, h1, h2, h3, h4, h5, h6, h7, h8, h9⟩ := fine_open hf
  have hlen : 0 < l.length := List.length_pos_of_mem hy
  obtain ⟨c', hc'⟩ := fineL_mem l _ _ h9 y hy
  obtain ⟨e1, e2⟩ := sizeL_mem l y hy
  rw [Pm.size] at hs
  rw [deep, Pm.size]
  have k0 : ¬ (k = 4 ∨ k = 1 ∨ k = 2 ∨ k = 3) := fun hk => by have := args_few k w mm a hF hk; omega
  rw [txtE, if_neg (by omega), if_neg (by omega), if_neg (by omega)] at ht
  simp only [List.length_append] at ht
  have := txtA_mem l true y hy
  refine ⟨⟨⟨m - 1, c', by omega, ?_⟩, by omega, by omega⟩, by omega, by omega⟩
  rw [show ((m - 1 : Nat) : Int) = (m : Int) - 1 by omega]
  exact hc'
theorem PartOK.right {x : Ex} (h : PartOK x) : isRight x = !isCond x.f0 := by
  obtain ⟨k, n, nm, l⟩ := x
  obtain ⟨⟨m, c, hm, hf⟩, hs, ht⟩ := h
  obtain ⟨w, mm, a, hF, h1, h2, h3, _⟩ := fine_open hf
  cases c with
  | true => rw [not_right h2]; show false = !isCond k; rw [h2]; rfl
  | false =>
    show _ = !isCond k
    rw [h2]
    unfold isRight
    rw [fine_mono _ m 32 false (by omega) hf, decide_eq_true hs, decide_eq_true ht]; rfl
theorem PartOK.rng {x : Ex} (h : PartOK x) : rngE x = true := by
  obtain ⟨m, c, hm, hf⟩ := h.fine
  exact (fine_facts x m c hf).2.2.1
end Go.Proofs.YtadpifnlkmeifaaDoor.Pm

/- The document's own answers of layer 7, in the pure machine. -/
namespace Go.Proofs.YtadpifnlkmeifaaDoor.Pm
open Go Go.RowKit Go.Proofs.YtadpifnlkmeifaaDoor.Pl
open Go.Proofs.YtadpifnlkmeifaaDoor.Q (rngE rngA txtE txtA sameE sameA formT wordL moreL sepA)
set_option linter.unusedVariables false
set_option maxHeartbeats 1000000
theorem same_diff {l m : List Ex} (h : l.length ≠ m.length) : sameA l m = false := Q.sameA_len l m h
theorem drop_cons {α : Type} {l : List α} {j : Nat} {y : α} (hy : l[j]? = some y) : l.drop j = y :: l.drop (j + 1) := by
  have hjl := (List.getElem?_eq_some_iff.1 hy).1
  rw [List.drop_eq_getElem_cons hjl]
  congr 1
  rw [List.getElem?_eq_getElem hjl] at hy
  exact Option.some.inj hy
theorem rSame_ok : ∀ (x y : Ex), size x ≤ 9223372036854775807 → Ok E 21 [] [pE x, pE y] (pB (sameE x y)) []
  | ⟨k, n, nm, l⟩, ⟨k', n', nm', l'⟩, h => by
    have h' : 1 + sizeL l ≤ 9223372036854775807 := by rw [size] at h; exact h
    have hll := sizeL_len l
    have hel := enc_len l
    have hel' := enc_len l'
    obtain ⟨v, hv⟩ : ∃ v, sameE ⟨k, n, nm, l⟩ ⟨k', n', nm', l'⟩ = v := ⟨_, rfl⟩
    rw [hv]
    rw [sameE] at hv
    dsimp only at hv
    by_cases h1 : k = k'
    rotate_left
    · rw [show (k == k') = false from beq_eq_false_iff_ne.2 h1, Bool.false_and] at hv
      subst hv
      refine Ok.enter hE Tryd.func21 rfl (by decide +kernel) (by kernel_rfl) rfl rfl (Nat.le_of_ble_eq_true rfl) rfl ?_
      refine ⟨_, neT h1, ?_⟩
      exact Ret.mk _ rfl rfl rfl
    rw [show (k == k') = true from beq_iff_eq.2 h1, Bool.true_and] at hv
    by_cases h2 : n = n'
    rotate_left
    · rw [show (n == n') = false from beq_eq_false_iff_ne.2 h2, Bool.false_and] at hv
      subst hv
      refine Ok.enter hE Tryd.func21 rfl (by decide +kernel) (by kernel_rfl) rfl rfl (Nat.le_of_ble_eq_true rfl) rfl ?_
      refine ⟨_, neN h1, ?_⟩
      refine ⟨_, neT h2, ?_⟩
      exact Ret.mk _ rfl rfl rfl
    rw [show (n == n') = true from beq_iff_eq.2 h2, Bool.true_and] at hv
    rcases Bool.eq_false_or_eq_true (nm.toList == nm'.toList) with h3 | h3
    rotate_left
    · rw [h3, Bool.false_and] at hv
      subst hv
      refine Ok.enter hE Tryd.func21 rfl (by decide +kernel) (by kernel_rfl) rfl rfl (Nat.le_of_ble_eq_true rfl) rfl ?_
      refine ⟨_, neN h1, ?_⟩
      refine ⟨_, neN h2, ?_⟩
      refine ⟨_, strNeV (c := true) (by rw [h3]; rfl), ?_⟩
      exact Ret.mk _ rfl rfl rfl
    rw [h3, Bool.true_and] at hv
    by_cases h4 : l.length = l'.length
    rotate_left
    · rw [same_diff h4] at hv
      subst hv
      refine Ok.enter hE Tryd.func21 rfl (by decide +kernel) (by kernel_rfl) rfl rfl (Nat.le_of_ble_eq_true rfl) rfl ?_
      refine ⟨_, neN h1, ?_⟩
      refine ⟨_, neN h2, ?_⟩
      refine ⟨_, strNeV (c := false) (by rw [h3]; rfl), ?_⟩
      refine ⟨_, neT (by show ((encL l).length : Int) ≠ ((encL l').length : Int); omega), ?_⟩
      exact Ret.mk _ rfl rfl rfl
    refine Ok.enter hE Tryd.func21 rfl (by decide +kernel) (by kernel_rfl) rfl rfl (Nat.le_of_ble_eq_true rfl) rfl ?_
    refine ⟨_, neN h1, ?_⟩
    refine ⟨_, neN h2, ?_⟩
    refine ⟨_, strNeV (c := false) (by rw [h3]; rfl), ?_⟩
    refine ⟨_, neN (by show ((encL l).length : Int) = ((encL l').length : Int); omega), ?_⟩
    refine Loop.cut (α := Nat) (fun j => j ≤ l.length ∧ sameA (l.drop j) (l'.drop j) = v) (fun j => [(2, .ptr 0 0), (3, .ptr 1 0), (5, pI j)]) (fun j => [(cellsE ⟨k, n, nm, l⟩).map .c, (cellsE ⟨k', n', nm', l'⟩).map .c]) (fun _ => []) (fun j => l.length - j) 0 2 (fun _ => rfl) (fun _ => rfl) (fun _ => rfl) ⟨Nat.zero_le _, hv⟩ ⟨⟨rfl, rfl, rfl, trivial⟩, rfl, rfl⟩ ?_
    rintro j f ⟨hj, hjv⟩
    by_cases hjl : j < l.length
    · obtain ⟨y, hy⟩ : ∃ y, l[j]? = some y := ⟨_, List.getElem?_eq_getElem hjl⟩
      obtain ⟨y', hy'⟩ : ∃ y, l'[j]? = some y := ⟨_, List.getElem?_eq_getElem (by omega)⟩
      have hst := sizeL_mem l y (List.mem_of_getElem? hy)
      rw [drop_cons hy, drop_cons hy', sameA] at hjv
      have IH := rSame_ok y y' (by omega)
      refine ⟨_, ltT (by show (j : Int) < ((encL l).length : Int); omega), ?_⟩
      refine ⟨_, idxV (j := j) (enc_get hy) rfl rfl rfl rfl, ?_⟩
      refine ⟨_, idxV (j := j) (enc_get hy') rfl rfl rfl rfl, ?_⟩
      rcases Bool.eq_false_or_eq_true (sameE y y') with he | he
      · rw [he] at hjv IH
        rw [Bool.true_and] at hjv
        refine ⟨_, CallR.mk1 IH rfl rfl, ?_⟩
        refine ⟨_, addV rfl (by omega) (by omega), ?_⟩
        exact ⟨j + 1, ⟨hjl, hjv⟩, by omega, ⟨rfl, rfl, rfl, trivial⟩, ⟨_, rfl⟩, rfl⟩
      · rw [he] at hjv IH
        refine ⟨_, CallR.mk1 IH rfl rfl, ?_⟩
        exact Ret.mk _ rfl (congrArg (fun b : Bool => pB b) (show false = v from hjv)) rfl
    · refine ⟨_, ltN (by show ¬ (j : Int) < ((encL l).length : Int); omega), ?_⟩
      rw [List.drop_of_length_le (by omega), List.drop_of_length_le (by omega)] at hjv
      exact Ret.mk _ rfl (congrArg (fun b : Bool => pB b) (show true = v from hjv)) rfl
termination_by x => SizeOf.sizeOf x
decreasing_by
  have := List.sizeOf_lt_of_mem (List.mem_of_getElem? hy)
  simp only [Go.Proofs.YtadpifnlkmeifaaDoor.Q.S27.mk.sizeOf_spec]
  omega
end Go.Proofs.YtadpifnlkmeifaaDoor.Pm

/- The document's fine, text, Right, Print of layer 7, in the pure machine. -/
namespace Go.Proofs.YtadpifnlkmeifaaDoor.Pm
open Go Go.RowKit Go.Proofs.YtadpifnlkmeifaaDoor.Pl
open Go.Proofs.YtadpifnlkmeifaaDoor.Q (rngE rngA txtE txtA sameE sameA formT wordL moreL sepA)
set_option linter.unusedVariables false
set_option maxHeartbeats 1000000
end Go.Proofs.YtadpifnlkmeifaaDoor.Pm

/- The document's text, Right, Print of layer 7, in the pure machine. -/
namespace Go.Proofs.YtadpifnlkmeifaaDoor.Pm
open Go Go.RowKit Go.Proofs.YtadpifnlkmeifaaDoor.Pl
open Go.Proofs.YtadpifnlkmeifaaDoor.Q (rngE rngA txtE txtA sameE sameA formT wordL moreL sepA)
set_option linter.unusedVariables false
set_option maxHeartbeats 1000000
theorem catB {E : Env} {a b : List UInt8} {ti : Nat} (hb : a.length + b.length ≤ 9223372036854775807) : BinR E ti .add (.c (.str (B a))) (.c (.str (B b))) (.c (.str (B (a ++ b)))) := catV (B_append _ _) (by rw [B_size, B_size]; exact hb)
end Go.Proofs.YtadpifnlkmeifaaDoor.Pm
