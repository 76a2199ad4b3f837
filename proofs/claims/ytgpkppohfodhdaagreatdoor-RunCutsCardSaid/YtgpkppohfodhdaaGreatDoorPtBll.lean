import Derived.Test.YtgpkppohfodhdaaGreatDoorPtAll
import Derived.Test.YtgpkppohfodhdaaGreatDoorDecT
namespace Go.Proofs.YtgpkppohfodhdaaGreatDoor.Pm
open Go Go.RowKit
set_option linter.unusedVariables false
set_option linter.unusedSimpArgs false
set_option maxHeartbeats 400000
theorem ba_get (s : ByteArray) (j : Nat) : s[j]? = s.data.toList[j]? := by
 by_cases h : j < s.size
 ·have h' : j < s.data.toList.length := by simpa using h
  rw [getElem?_pos s j h, List.getElem?_eq_getElem h']
  rfl
 ·rw [getElem?_neg s j h, List.getElem?_eq_none (by simpa using h)]
theorem idxSV {E : Env} {t sz bb : Nat} {zz : List CV} {s : ByteArray} {n : Int} {k : IntKind} (j : Nat) (b : UInt8) (h1 : E.T t = some ⟨.str, sz, zz, bb⟩) (hn : n = (j : Int)) (hb : s.data.toList[j]? = some b) : IdxR E t (pS s) (.c (.int k n)) (.c (.int .u8 b.toNat)) where
 h := by
  subst hn
  unfold indexF
  rw [h1]
  show byteAtF _ _ = _
  unfold byteAtF
  rw [decide_eq_true (Int.natCast_nonneg j)]
  show (match s[(j : Int).toNat]? with
   | some b => some (PV.c (.int .u8 b.toNat))
   | none => none) = _
  rw [Int.toNat_natCast, ba_get, hb]
def inB (set : ByteArray) (c : UInt8) : Bool := decide (Lib.indexByte set.data.toList c ≥ 0)
theorem in_ok (set : ByteArray) (c : UInt8) : Ok E 100 [] [.c (.int .u8 c.toNat), pS set] (pB (inB set c)) [] := by
 have h := IndexByte_ok set c.toNat
 have e : ((c.toNat : Int).toNat.toUInt8) = c := by simp
 rw [e] at h
 refine Ok.enter hE Tryz.func100 rfl (by decide +kernel) (by kernel_rfl) rfl rfl (Nat.le_of_ble_eq_true rfl) rfl ?_
 refine ⟨_, CallR.mk1 h rfl rfl, ?_⟩
 refine ⟨_, geV (c := inB set c) rfl, ?_⟩
 exact Ret.mk _ rfl rfl rfl
def runB (set : ByteArray) : List UInt8 → Nat
 | [] => 0
 | c :: l => if inB set c then runB set l + 1 else 0
theorem run_ok (s set : ByteArray) (hs : s.size ≤ 4611686018427387904) : Ok E 101 [] [pS s, pS set] (pI (runB set s.data.toList)) [] := by
 have hsz : s.data.toList.length = s.size := by simp
 refine Ok.enter hE Tryz.func101 rfl (by decide +kernel) (by kernel_rfl) rfl rfl (Nat.le_of_ble_eq_true rfl) rfl ?_
 refine Loop.run (α := Nat) (fun j => j ≤ s.size ∧ runB set s.data.toList = j + runB set (s.data.toList.drop j)) (fun j => [(0, pS s), (1, pS set), (7, pI s.size), (8, pI j)]) (fun _ => []) (fun _ => []) (fun j => s.size - j) 0 ⟨Nat.zero_le _, by simp⟩ ⟨⟨rfl, rfl, rfl, rfl, trivial⟩, rfl, rfl⟩ ?_
 rintro j f ⟨hj, hr⟩
 by_cases hjl : j < s.size
 ·refine ⟨_, ltT (by omega), ?_⟩
  obtain ⟨b, hb⟩ : ∃ b, s.data.toList[j]? = some b := ⟨_, List.getElem?_eq_getElem (by omega)⟩
  have hd : s.data.toList.drop j = b :: s.data.toList.drop (j + 1) := by
   rw [List.drop_eq_getElem_cons (by omega)]
   congr 1
   rw [List.getElem?_eq_getElem (by omega)] at hb
   exact Option.some.inj hb
  rw [hd, runB] at hr
  refine ⟨_, idxSV j b rfl rfl hb, ?_⟩
  have hI := in_ok set b
  rcases Bool.eq_false_or_eq_true (inB set b) with hin | hin
  ·rw [hin] at hI
   rw [if_pos hin] at hr
   refine ⟨_, CallR.mk1 hI rfl rfl, ?_⟩
   refine ⟨_, addV rfl (by omega) (by omega), ?_⟩
   exact ⟨j + 1, ⟨hjl, by omega⟩, by omega, ⟨rfl, rfl, rfl, rfl, trivial⟩, rfl, rfl⟩
  ·rw [hin] at hI
   rw [if_neg (by rw [hin]; simp)] at hr
   refine ⟨_, CallR.mk1 hI rfl rfl, ?_⟩
   have hv : j = runB set s.data.toList := by omega
   exact Ret.mk _ rfl (congrArg (fun n : Nat => pI n) hv) rfl
 ·refine ⟨_, ltN (by omega), ?_⟩
  have hv : s.size = runB set s.data.toList := by
   rw [hr, List.drop_of_length_le (by omega), runB]; omega
  exact Ret.mk _ rfl (congrArg (fun n : Nat => pI n) hv) rfl
def abcB : ByteArray := ⟨#[97, 98, 99, 100, 101, 102, 103, 104, 105, 106, 107, 108, 109, 110, 111, 112, 113, 114, 115, 116, 117, 118, 119, 120, 121, 122]⟩
def abc9B : ByteArray := ⟨#[97, 98, 99, 100, 101, 102, 103, 104, 105, 106, 107, 108, 109, 110, 111, 112, 113, 114, 115, 116, 117, 118, 119, 120, 121, 122, 48, 49, 50, 51, 52, 53, 54, 55, 56, 57]⟩
def isName (s : ByteArray) : Bool := match s.data.toList with
 | [] => false
 | c :: l => decide (s.size ≤ 12) && (inB abcB c && (decide (runB abc9B (c :: l) = s.size) && !(Lib.containsS Q.wordsB s)))
theorem toList_data (s : ByteArray) : s.toList = s.data.toList := Lib.toList_data s
theorem Name_ok (s : ByteArray) : Ok E 54 [] [pS s] (pB (isName s)) [] := by
 have hsz : s.data.toList.length = s.size := by simp
 have hw := Word_ok s
 obtain ⟨v, hv⟩ : ∃ v, isName s = v := ⟨_, rfl⟩
 rw [hv]
 unfold isName at hv
 cases hl : s.data.toList with
 | nil =>
  rw [hl] at hv
  subst hv
  refine Ok.enter hE Tryz.func54 rfl (by decide +kernel) (by kernel_rfl) rfl rfl (Nat.le_of_ble_eq_true rfl) rfl ?_
  refine ⟨_, strNeV (c := false) (by rw [toList_data, toList_data, hl]; rfl), ?_⟩
  exact Ret.mk _ rfl rfl rfl
 | cons c l =>
  rw [hl] at hv
  dsimp only at hv
  refine Ok.enter hE Tryz.func54 rfl (by decide +kernel) (by kernel_rfl) rfl rfl (Nat.le_of_ble_eq_true rfl) rfl ?_
  refine ⟨_, strNeV (c := true) (by rw [toList_data, toList_data, hl]; rfl), ?_⟩
  by_cases h12 : s.size ≤ 12
  ·rw [decide_eq_true h12, Bool.true_and] at hv
   refine ⟨_, leT (by omega), ?_⟩
   refine ⟨_, idxSV 0 c rfl rfl (by rw [hl]; rfl), ?_⟩
   have hI := in_ok abcB c
   rcases Bool.eq_false_or_eq_true (inB abcB c) with hin | hin
   ·rw [hin] at hv hI
    rw [Bool.true_and] at hv
    refine ⟨_, CallR.mk1 hI rfl rfl, ?_⟩
    have hrun := run_ok s abc9B (by omega)
    rw [hl] at hrun
    refine ⟨_, CallR.mk1 hrun rfl rfl, ?_⟩
    by_cases hrn : runB abc9B (c :: l) = s.size
    ·rw [decide_eq_true hrn, Bool.true_and] at hv
     refine ⟨_, eqT (by omega), ?_⟩
     refine ⟨_, CallR.mk1 hw rfl rfl, ?_⟩
     exact Ret.mk _ rfl (congrArg (fun b : Bool => pB b) hv) rfl
    ·rw [decide_eq_false hrn] at hv; subst hv
     refine ⟨_, eqN (by omega), ?_⟩
     exact Ret.mk _ rfl rfl rfl
   ·rw [hin] at hv hI
    subst hv
    refine ⟨_, CallR.mk1 hI rfl rfl, ?_⟩
    exact Ret.mk _ rfl rfl rfl
  ·rw [decide_eq_false h12] at hv; subst hv
   refine ⟨_, leN (by omega), ?_⟩
   exact Ret.mk _ rfl rfl rfl
end Go.Proofs.YtgpkppohfodhdaaGreatDoor.Pm
namespace Go.Proofs.YtgpkppohfodhdaaGreatDoor.Pm
open Go Go.RowKit
set_option linter.unusedVariables false
set_option linter.unusedSimpArgs false
set_option maxHeartbeats 1000000
def isCond (k : Int) : Bool := decide (k = 11) || decide (k = 12)
theorem cond_ok (k : Int) : Ok E 95 [] [pI k] (pB (isCond k)) [] := by
 obtain ⟨v, hv⟩ : ∃ v, isCond k = v := ⟨_, rfl⟩
 rw [hv]
 unfold isCond at hv
 refine Ok.enter hE Tryz.func95 rfl (by decide +kernel) (by kernel_rfl) rfl rfl (Nat.le_of_ble_eq_true rfl) rfl ?_
 by_cases h : k = 11
 ·rw [decide_eq_true h, Bool.true_or] at hv; subst hv
  refine ⟨_, eqT h, ?_⟩
  exact Ret.mk _ rfl rfl rfl
 ·rw [decide_eq_false h, Bool.false_or] at hv
  refine ⟨_, eqN h, ?_⟩
  refine ⟨_, eqV (c := v) (by rw [← hv]; rfl), ?_⟩
  exact Ret.mk _ rfl rfl rfl
def isNamed (k : Int) (nm : ByteArray) : Bool := if k = 3 then isName nm else nm.toList == (⟨#[]⟩ : ByteArray).toList
theorem named_ok (x : Ex) : Ok E 96 [] [pE x] (pB (isNamed x.f0 x.f2)) [] := by
 obtain ⟨k, n, nm, l⟩ := x
 show Ok E _ [] [pE ⟨k, n, nm, l⟩] (pB (isNamed k nm)) []
 obtain ⟨v, hv⟩ : ∃ v, isNamed k nm = v := ⟨_, rfl⟩
 rw [hv]
 unfold isNamed at hv
 have hN := Name_ok nm
 refine Ok.enter hE Tryz.func96 rfl (by decide +kernel) (by kernel_rfl) rfl rfl (Nat.le_of_ble_eq_true rfl) rfl ?_
 by_cases h : k = 3
 ·rw [if_pos h] at hv
  rw [hv] at hN
  refine ⟨_, eqT h, ?_⟩
  refine ⟨_, CallR.mk1 hN rfl rfl, ?_⟩
  exact Ret.mk _ rfl rfl rfl
 ·rw [if_neg h] at hv
  refine ⟨_, eqN h, ?_⟩
  refine ⟨_, strEqV hv, ?_⟩
  exact Ret.mk _ rfl rfl rfl
mutual
def isFine : Int → Bool → Ex → Bool
 | d, c, ⟨k, n, nm, l⟩ => (formP k).2.2.2 && (decide (¬ d < 1) && ((isCond k == c) && (decide (¬ n < 0) && (decide (¬ n > (formP k).2.1) && (decide ((l.length : Int) = (formP k).2.2.1) && (isNamed k nm && fineL (d - 1) (decide (k = 10)) l))))))
def fineL : Int → Bool → List Ex → Bool
 | _, _, [] => true
 | d, c, x :: l => isFine d c x && fineL d false l
end
theorem neBT {E : Env} {c d : Bool} {t sz bb : Nat} {zz : List CV} (h : (!(c == d)) = true) (hT : E.T t = some ⟨.bool, sz, zz, bb⟩ := by rfl) : BinR E t .neq (pB c) (pB d) (pB true) := .of (by
 rw [hT]; cases c <;> cases d <;> simp at h <;> rfl)
theorem neBN {E : Env} {c d : Bool} {t sz bb : Nat} {zz : List CV} (h : (c == d) = true) (hT : E.T t = some ⟨.bool, sz, zz, bb⟩ := by rfl) : BinR E t .neq (pB c) (pB d) (pB false) := .of (by
 rw [hT]; cases c <;> cases d <;> simp at h <;> rfl)
theorem fine_ok : ∀ (x : Ex), Q.rngE x = true → ∀ (d : Int), I64 d → ∀ c : Bool, Ok E 49 [] [pE x, pI d, pB c] (pB (isFine d c x)) []
 | ⟨k, n, nm, l⟩, hr, d, hd, c => by
  obtain ⟨v, hv⟩ : ∃ v, isFine d c ⟨k, n, nm, l⟩ = v := ⟨_, rfl⟩
  rw [hv]
  rw [isFine] at hv
  have hel := enc_len l
  have hlr : l.length < 4611686018427387904 ∧ Q.rngA l = true := by
   rw [Q.rngE, Bool.and_eq_true] at hr
   exact ⟨(of_decide_eq_true hr.1).2, hr.2⟩
  have hF := Form_ok k
  have hC := cond_ok k
  have hN : Ok E _ [] [pE ⟨k, n, nm, l⟩] (pB (isNamed k nm)) [] := named_ok ⟨k, n, nm, l⟩
  obtain ⟨⟨w, m, a, o⟩, hf⟩ : ∃ p, formP k = p := ⟨_, rfl⟩
  rw [hf] at hF hv
  dsimp only at hF hv
  obtain ⟨hd0, hd1⟩ := hd
  cases o with
  | false =>
   have : v = false := by rw [← hv]; rfl
   subst this
   refine Ok.enter hE Tryz.func49 rfl (by decide +kernel) (by kernel_rfl) rfl rfl (Nat.le_of_ble_eq_true rfl) rfl ?_
   refine ⟨_, CallR.mk1 hF rfl rfl, ?_⟩
   exact Ret.mk _ rfl rfl rfl
  | true =>
   rw [Bool.true_and] at hv
   refine Ok.enter hE Tryz.func49 rfl (by decide +kernel) (by kernel_rfl) rfl rfl (Nat.le_of_ble_eq_true rfl) rfl ?_
   refine ⟨_, CallR.mk1 hF rfl rfl, ?_⟩
   by_cases h1 : d < 1
   ·rw [decide_eq_false (by omega)] at hv
    have : v = false := hv.symm
    subst this
    refine ⟨_, ltT h1, ?_⟩
    exact Ret.mk _ rfl rfl rfl
   rw [decide_eq_true h1, Bool.true_and] at hv
   refine ⟨_, ltN h1, ?_⟩
   refine ⟨_, CallR.mk1 hC rfl rfl, ?_⟩
   rcases Bool.eq_false_or_eq_true (isCond k == c) with h2 | h2
   rotate_left
   ·rw [h2] at hv
    have : v = false := hv.symm
    subst this
    refine ⟨_, neBT (by rw [h2]; rfl), ?_⟩
    exact Ret.mk _ rfl rfl rfl
   rw [h2, Bool.true_and] at hv
   refine ⟨_, neBN h2, ?_⟩
   by_cases h3 : n < 0
   ·rw [decide_eq_false (by omega)] at hv
    have : v = false := hv.symm
    subst this
    refine ⟨_, ltT h3, ?_⟩
    exact Ret.mk _ rfl rfl rfl
   rw [decide_eq_true h3, Bool.true_and] at hv
   refine ⟨_, ltN h3, ?_⟩
   by_cases h4 : n > m
   ·rw [decide_eq_false (by omega)] at hv
    have : v = false := hv.symm
    subst this
    refine ⟨_, gtT h4, ?_⟩
    exact Ret.mk _ rfl rfl rfl
   rw [decide_eq_true h4, Bool.true_and] at hv
   refine ⟨_, gtN h4, ?_⟩
   by_cases h5 : (l.length : Int) = a
   rotate_left
   ·rw [decide_eq_false h5] at hv
    have : v = false := hv.symm
    subst this
    refine ⟨_, neT (by rw [hel]; exact h5), ?_⟩
    exact Ret.mk _ rfl rfl rfl
   rw [decide_eq_true h5, Bool.true_and] at hv
   refine ⟨_, neN (by rw [hel]; exact h5), ?_⟩
   rcases Bool.eq_false_or_eq_true (isNamed k nm) with h6 | h6
   rotate_left
   ·rw [h6] at hv hN
    have : v = false := hv.symm
    subst this
    refine ⟨_, CallR.mk1 hN rfl rfl, ?_⟩
    exact Ret.mk _ rfl rfl rfl
   rw [h6] at hv hN
   rw [Bool.true_and] at hv
   refine ⟨_, CallR.mk1 hN rfl rfl, ?_⟩
   refine Loop.cut (α := Nat) (fun j => j ≤ l.length ∧ fineL (d - 1) (decide (k = 10) && Nat.beq j 0) (l.drop j) = v) (fun j => [(1, pI d), (3, .ptr 0 0), (58, .c (.row (encL l))), (59, pI (encL l).length), (60, pI j)]) (fun j => [(cellsE ⟨k, n, nm, l⟩).map .c]) (fun _ => []) (fun j => l.length - j) 0 1 (fun _ => rfl) (fun _ => rfl) (fun _ => rfl)
    ⟨Nat.zero_le _, by rw [← hv, List.drop_zero, show Nat.beq 0 0 = true from rfl, Bool.and_true]⟩ ⟨⟨rfl, rfl, rfl, rfl, rfl, trivial⟩, rfl, rfl⟩ ?_
   rintro j f ⟨hj, hjv⟩
   by_cases hjl : j < l.length
   ·obtain ⟨y, hy⟩ : ∃ y, l[j]? = some y := ⟨_, List.getElem?_eq_getElem hjl⟩
    have hry := Q.rngA_mem l hlr.2 y (List.mem_of_getElem? hy)
    have hdr : l.drop j = y :: l.drop (j + 1) := by
     rw [List.drop_eq_getElem_cons hjl]
     congr 1
     rw [List.getElem?_eq_getElem hjl] at hy
     exact Option.some.inj hy
    rw [hdr, fineL] at hjv
    refine ⟨_, ltT (by omega), ?_⟩
    refine ⟨_, idxV (j := j) (enc_get hy) rfl rfl rfl rfl, ?_⟩
    refine ⟨_, subV rfl (by omega) (by omega), ?_⟩
    by_cases h10 : k = 10
    ·refine ⟨_, eqT h10, ?_⟩
     by_cases hj0 : j = 0
     ·refine ⟨_, eqT (by omega), ?_⟩
      rw [decide_eq_true h10, hj0, show Nat.beq 0 0 = true from rfl, Bool.and_true] at hjv
      rw [← hj0] at hjv
      have hI := fine_ok y hry (d - 1) ⟨by omega, by omega⟩ true
      rcases Bool.eq_false_or_eq_true (isFine (d - 1) true y) with hin | hin
      ·rw [hin] at hI hjv
       rw [Bool.true_and] at hjv
       refine ⟨_, CallR.mk1 hI rfl rfl, ?_⟩
       refine ⟨_, addV rfl (by omega) (by omega), ?_⟩
       exact ⟨j + 1, ⟨hjl, by rw [show (decide (k = 10) && Nat.beq (j + 1) 0) = false from Bool.and_false _]; exact hjv⟩, by omega, ⟨rfl, rfl, rfl, rfl, rfl, trivial⟩, ⟨_, rfl⟩, rfl⟩
      ·rw [hin] at hI hjv
       refine ⟨_, CallR.mk1 hI rfl rfl, ?_⟩
       exact Ret.mk _ rfl (congrArg (fun b : Bool => pB b) (show false = v from hjv)) rfl
     ·refine ⟨_, eqN (by omega), ?_⟩
      rw [show (decide (k = 10) && Nat.beq j 0) = false by
       cases j with
       | zero => exact absurd rfl hj0
       | succ j => exact Bool.and_false _] at hjv
      have hI := fine_ok y hry (d - 1) ⟨by omega, by omega⟩ false
      rcases Bool.eq_false_or_eq_true (isFine (d - 1) false y) with hin | hin
      ·rw [hin] at hI hjv
       rw [Bool.true_and] at hjv
       refine ⟨_, CallR.mk1 hI rfl rfl, ?_⟩
       refine ⟨_, addV rfl (by omega) (by omega), ?_⟩
       exact ⟨j + 1, ⟨hjl, by rw [show (decide (k = 10) && Nat.beq (j + 1) 0) = false from Bool.and_false _]; exact hjv⟩, by omega, ⟨rfl, rfl, rfl, rfl, rfl, trivial⟩, ⟨_, rfl⟩, rfl⟩
      ·rw [hin] at hI hjv
       refine ⟨_, CallR.mk1 hI rfl rfl, ?_⟩
       exact Ret.mk _ rfl (congrArg (fun b : Bool => pB b) (show false = v from hjv)) rfl
    ·refine ⟨_, eqN h10, ?_⟩
     rw [decide_eq_false h10, Bool.false_and] at hjv
     have hI := fine_ok y hry (d - 1) ⟨by omega, by omega⟩ false
     rcases Bool.eq_false_or_eq_true (isFine (d - 1) false y) with hin | hin
     ·rw [hin] at hI hjv
      rw [Bool.true_and] at hjv
      refine ⟨_, CallR.mk1 hI rfl rfl, ?_⟩
      refine ⟨_, addV rfl (by omega) (by omega), ?_⟩
      exact ⟨j + 1, ⟨hjl, by rw [show (decide (k = 10) && Nat.beq (j + 1) 0) = false from Bool.and_false _]; exact hjv⟩, by omega, ⟨rfl, rfl, rfl, rfl, rfl, trivial⟩, ⟨_, rfl⟩, rfl⟩
     ·rw [hin] at hI hjv
      refine ⟨_, CallR.mk1 hI rfl rfl, ?_⟩
      exact Ret.mk _ rfl (congrArg (fun b : Bool => pB b) (show false = v from hjv)) rfl
   ·refine ⟨_, ltN (by omega), ?_⟩
    rw [List.drop_of_length_le (by omega), fineL] at hjv
    exact Ret.mk _ rfl (congrArg (fun b : Bool => pB b) hjv) rfl
termination_by x => SizeOf.sizeOf x
decreasing_by
 all_goals
  have := List.sizeOf_lt_of_mem (List.mem_of_getElem? hy)
  simp only [Go.Proofs.YtgpkppohfodhdaaGreatDoor.Q.S45.mk.sizeOf_spec]
  omega
end Go.Proofs.YtgpkppohfodhdaaGreatDoor.Pm
namespace Go.Proofs.YtgpkppohfodhdaaGreatDoor.Pm
open Go Go.RowKit
set_option linter.unusedVariables false
set_option linter.unusedSimpArgs false
set_option maxHeartbeats 1000000
structure Fit (x : Ex) : Prop where
 rng : Q.rngE x = true
 size : size x ≤ 9223372036854775807
 ne : Q.txtE x ≠ []
 len : (Q.txtE x).length ≤ 70368744177664
def isRight (x : Ex) : Bool := isFine 32 false x && (decide (size x ≤ 2000) && decide ((Q.txtE x).length ≤ 2000))
theorem Right_ok (x : Ex) (hr : Q.rngE x = true) (hs : size x ≤ 9223372036854775807) (ht : isFine 32 false x = true → size x ≤ 2000 → Fit x) : Ok E 29 [] [pE x] (pB (isRight x)) [] := by
 obtain ⟨v, hv⟩ : ∃ v, isRight x = v := ⟨_, rfl⟩
 rw [hv]
 unfold isRight at hv
 have hF := fine_ok x hr 32 ⟨by omega, by omega⟩ false
 have hS := Size_ok x hs
 obtain ⟨k, n, nm, l⟩ := x
 rcases Bool.eq_false_or_eq_true (isFine 32 false ⟨k, n, nm, l⟩) with h1 | h1
 ·rw [h1] at hv hF
  rw [Bool.true_and] at hv
  by_cases h2 : size ⟨k, n, nm, l⟩ ≤ 2000
  ·rw [decide_eq_true h2, Bool.true_and] at hv
   have fit := ht h1 h2
   have hT := text_ok ⟨k, n, nm, l⟩ hr fit.ne fit.len
   have hl : (Pl.B (Q.txtE ⟨k, n, nm, l⟩)).size = (Q.txtE ⟨k, n, nm, l⟩).length := rfl
   refine Ok.enter hE Tryz.func29 rfl (by decide +kernel) (by kernel_rfl) rfl rfl (Nat.le_of_ble_eq_true rfl) rfl ?_
   refine ⟨_, CallR.mk1 hF rfl rfl, ?_⟩
   refine ⟨_, CallR.mk1 hS rfl rfl, ?_⟩
   refine ⟨_, leT (by omega), ?_⟩
   refine ⟨_, CallR.mk1 hT rfl rfl, ?_⟩
   refine ⟨_, leV (c := v) (by rw [← hv, hl]; exact decide_eq_decide.2 (by omega)), ?_⟩
   exact Ret.mk _ rfl rfl rfl
  ·rw [decide_eq_false h2] at hv
   have : v = false := hv.symm
   subst this
   refine Ok.enter hE Tryz.func29 rfl (by decide +kernel) (by kernel_rfl) rfl rfl (Nat.le_of_ble_eq_true rfl) rfl ?_
   refine ⟨_, CallR.mk1 hF rfl rfl, ?_⟩
   refine ⟨_, CallR.mk1 hS rfl rfl, ?_⟩
   refine ⟨_, leN (by omega), ?_⟩
   exact Ret.mk _ rfl rfl rfl
 ·rw [h1] at hv hF
  have : v = false := hv.symm
  subst this
  refine Ok.enter hE Tryz.func29 rfl (by decide +kernel) (by kernel_rfl) rfl rfl (Nat.le_of_ble_eq_true rfl) rfl ?_
  refine ⟨_, CallR.mk1 hF rfl rfl, ?_⟩
  exact Ret.mk _ rfl rfl rfl
end Go.Proofs.YtgpkppohfodhdaaGreatDoor.Pm
namespace Go.Proofs.YtgpkppohfodhdaaGreatDoor.Pm
open Go Go.RowKit
set_option linter.unusedVariables false
set_option linter.unusedSimpArgs false
mutual
inductive WC : CV → CV → Prop
 | refl (c : CV) : WC c c
 | nilRow : WC .nil (.row [])
 | row {xs ys : List (List CV)} (h : WRows xs ys) : WC (.row xs) (.row ys)
inductive WRows : List (List CV) → List (List CV) → Prop
 | nil : WRows [] []
 | cons {x y : List CV} {xs ys : List (List CV)} (h : WRow x y) (t : WRows xs ys) : WRows (x :: xs) (y :: ys)
inductive WRow : List CV → List CV → Prop
 | nil : WRow [] []
 | cons {c d : CV} {cs ds : List CV} (h : WC c d) (t : WRow cs ds) : WRow (c :: cs) (d :: ds)
end
section
variable {w : World} {ok : Nat → Nat → Prop}
end
end Go.Proofs.YtgpkppohfodhdaaGreatDoor.Pm
namespace Go.Proofs.YtgpkppohfodhdaaGreatDoor.Pm
open Go Go.RowKit
set_option linter.unusedVariables false
set_option linter.unusedSimpArgs false
end Go.Proofs.YtgpkppohfodhdaaGreatDoor.Pm
namespace Go.Proofs.YtgpkppohfodhdaaGreatDoor.Pm
open Go Go.RowKit
set_option linter.unusedVariables false
set_option linter.unusedSimpArgs false
set_option maxHeartbeats 1000000
end Go.Proofs.YtgpkppohfodhdaaGreatDoor.Pm
namespace Go.Proofs.YtgpkppohfodhdaaGreatDoor.Pm
open Go Go.RowKit Go.Proofs.YtgpkppohfodhdaaGreatDoor.Pl
open Go.Proofs.YtgpkppohfodhdaaGreatDoor.Q (rngE rngA txtE txtA sameE sameA formT wordL moreL sepA)
set_option linter.unusedVariables false
set_option linter.unusedSimpArgs false
structure Small (d : Nat) (x : Ex) : Prop where
 rng : Q.rngE x = true
 size : size x ≤ ((4 ^ d : Nat) : Int)
 deep : deep x ≤ d
theorem small_list {d : Nat} : ∀ l : List Ex, (∀ x ∈ l, Small d x) → Q.rngA l = true ∧ sizeL l ≤ ((l.length * 4 ^ d : Nat) : Int) ∧ deepL l ≤ d
 | [], _ => ⟨rfl, by rw [sizeL]; omega, by rw [deepL]; omega⟩
 | x :: l, h => by
  have hx := h x List.mem_cons_self
  obtain ⟨a, b, c⟩ := small_list l fun y hy => h y (List.mem_cons_of_mem _ hy)
  have hs := hx.size
  have hd := hx.deep
  refine ⟨by rw [Q.rngA, hx.rng, a]; rfl, ?_, by rw [deepL]; omega⟩
  rw [sizeL, List.length_cons, Nat.add_mul]
  omega
theorem small_node {d : Nat} {l : List Ex} (hl : l.length ≤ 3) (h : ∀ x ∈ l, Small d x) (k n : Int) (nm : ByteArray) (hn : I64 n) : Small (d + 1) ⟨k, n, nm, l⟩ := by
 obtain ⟨a, b, c⟩ := small_list l h
 obtain ⟨n0, n1⟩ := hn
 refine ⟨?_, ?_, by rw [deep]; omega⟩
 ·rw [Q.rngE, a, Bool.and_true]
  exact decide_eq_true ⟨⟨by omega, by omega⟩, by omega⟩
 ·rw [size, Nat.pow_succ]
  have hp : 1 ≤ 4 ^ d := Nat.one_le_pow _ _ (by decide)
  have : l.length * 4 ^ d ≤ 3 * 4 ^ d := Nat.mul_le_mul_right _ hl
  omega
theorem small_more {d : Nat} (n : Int) (hn : I64 n) : Small (d + 1) (moreE n) := small_node (l := []) (by simp) (fun x hx => by cases hx) _ _ _ hn
theorem nx_i64 (L : List Int) (n : Int) (hn : 0 < n) (hm : n ≤ 12000) : I64 (nx L n) := by
 have := nx_rng (L := L) hn
 exact ⟨by omega, by omega⟩
theorem finF_small {d : Nat} (k : Int) {l : List Ex} (L : List Int) (hl : l.length ≤ 3) (h : ∀ x ∈ l, Small d x) : Small (d + 1) (finF k l L).1 := by
 unfold finF
 split
 ·exact small_node hl h _ _ _ ⟨by decide, by decide⟩
 ·split
  ·exact small_node hl h _ _ _ (nx_i64 _ _ (by decide) (by decide))
  ·split
   ·exact small_node hl h _ _ _ (nx_i64 _ _ (by decide) (by decide))
   ·exact small_node hl h _ _ _ ⟨by decide, by decide⟩
theorem argsL_mem {g : Bool → List Int → Ex × List Int} {b : Bool} {L : List Int} {m : Nat} {x : Ex} (h : x ∈ argsL g b L m) : ∃ j, j < m ∧ x = xL g b L j := by
 unfold argsL at h
 obtain ⟨j, hj, rfl⟩ := List.mem_map.1 h
 exact ⟨j, List.mem_range.1 hj, rfl⟩
theorem exF_small : ∀ (d : Nat) (c : Bool) (L : List Int), PL L → Small (d + 1) (exF (d + 1) c L).1
 | 0, true, L, h => by
  rw [exF, if_pos rfl]
  exact small_more _ (nx_i64 _ _ (by decide) (by decide))
 | d + 1, true, L, h => by
  rw [exF, if_neg (by omega)]
  split
  ·exact small_more _ (nx_i64 _ _ (by decide) (by decide))
  ·refine small_node (d := d + 1) (by simp) ?_ _ _ _ ⟨by decide, by decide⟩
   intro x hx
   simp only [List.mem_cons, List.not_mem_nil, or_false] at hx
   rcases hx with rfl | rfl
   ·exact exF_small d _ _ h.tail
   ·exact exF_small d _ _ (exF_PL _ _ _ h.tail)
 | d, false, L, h => by
  rw [exF]
  have hkr := kindF_rng d L
  have har := argsOf_rng (k := kindF d L) ⟨hkr.1, hkr.2.1⟩
  refine finF_small _ _ (by rw [argsL_len]; omega) ?_
  intro x hx
  obtain ⟨j, hj, rfl⟩ := argsL_mem hx
  cases d with
  | zero =>
   have := argsOf_low (k := kindF 0 L) ⟨hkr.1, hkr.2.2 rfl⟩
   omega
  | succ d => exact exF_small d _ _ (stL_PL (exF_PL _) _ h.tail j)
theorem strat_small (raw : List Int) (h : ∀ a ∈ raw, I64 a) : Small 5 (stratF raw) := exF_small 4 false _ ⟨fun a ha => h a (List.mem_of_mem_take ha), by simp; omega⟩
theorem formT_args (k : Int) (w : List UInt8) (m a : Int) (h : formT k = some (w, m, a)) : 0 ≤ a ∧ a ≤ 3 ∧ 0 ≤ m ∧ m ≤ 1000000000000 := by
 unfold formT at h
 split at h
 all_goals first
  | (simp only [Option.some.injEq, Prod.mk.injEq] at h; obtain ⟨_, rfl, rfl⟩ := h; decide)
  | exact absurd h (by simp)
theorem textL_le (n : Int) : (textL n).length ≤ 24 := by
 by_cases h : okA n
 ·rw [textL_ok h]
  have := DecT.digs_len (n.natAbs / 100)
  simp only [List.length_append, List.length_cons, List.length_nil]
  split <;> simp <;> omega
 ·rw [textL_no h]; simp
theorem textL_ne (n : Int) (h0 : 0 ≤ n) (h1 : n ≤ 1000000000000) : textL n ≠ [] := by
 rw [textL_ok (by unfold okA; omega)]
 simp
theorem intL_le (n : Int) : (intL n).length ≤ 21 := by
 unfold intL
 split
 ·have := DecT.digs_len n.natAbs
  simp
  omega
 ·have := DecT.digs_len n.toNat
  omega
theorem wordL_le (k : Int) : (wordL k).length ≤ 6 := by
 unfold wordL formT
 split <;> simp
theorem isName_le (s : ByteArray) (h : isName s = true) : s.data.toList.length ≤ 12 := by
 unfold isName at h
 split at h
 ·exact absurd h (by simp)
 ·rename_i c l hl
  rw [Bool.and_eq_true] at h
  have := of_decide_eq_true h.1
  simpa using this
theorem more_le (k n : Int) (nm : ByteArray) (b : Bool) (h : isNamed k nm = true) : (sepA b (moreL k n nm)).length ≤ 26 := by
 unfold moreL
 have h1 := textL_le n
 have h2 := intL_le n
 by_cases h3 : k = 3
 ·rw [if_pos h3]
  unfold isNamed at h
  rw [if_pos h3] at h
  have := isName_le nm h
  simp only [sepA, List.length_append, List.length_nil]
  split <;> simp at * <;> omega
 ·rw [if_neg h3]
  by_cases h5 : k = 5
  ·rw [if_pos h5]
   simp only [sepA, List.length_append, List.length_nil]
   split <;> simp <;> omega
  ·rw [if_neg h5]
   by_cases h6 : k = 6 ∨ k = 11
   ·rw [if_pos h6]
    simp only [sepA, List.length_append, List.length_nil]
    split <;> simp <;> omega
   ·rw [if_neg h6]
    simp [sepA]
theorem fine_open {d : Int} {c : Bool} {k n : Int} {nm : ByteArray} {l : List Ex} (h : isFine d c ⟨k, n, nm, l⟩ = true) : ∃ w m a, formT k = some (w, m, a) ∧ 1 ≤ d ∧ isCond k = c ∧ 0 ≤ n ∧ n ≤ m ∧ m ≤ 1000000000000 ∧ (l.length : Int) = a ∧ a ≤ 3 ∧ isNamed k nm = true ∧ fineL (d - 1) (decide (k = 10)) l = true := by
 rw [isFine] at h
 unfold formP at h
 rcases hF : formT k with _ | ⟨w, m, a⟩
 ·rw [hF] at h
  exact absurd h (by simp)
 ·rw [hF] at h
  simp only [Bool.and_eq_true, decide_eq_true_eq, beq_iff_eq] at h
  obtain ⟨_, h1, h2, h3, h4, h5, h6, h7⟩ := h
  obtain ⟨_, ha3, _, hm1⟩ := formT_args k w m a hF
  exact ⟨w, m, a, rfl, by omega, h2, by omega, by omega, hm1, h5, ha3, h6, h7⟩
mutual
theorem fine_facts : ∀ (x : Ex) (m : Nat) (c : Bool), isFine (m : Int) c x = true → size x ≤ ((4 ^ m : Nat) : Int) ∧ deep x ≤ m ∧ rngE x = true ∧ txtE x ≠ [] ∧ ((txtE x).length : Int) + 2 ≤ 62 * size x
 | ⟨k, n, nm, l⟩, m, c, h => by
  obtain ⟨w, mm, a, hF, h1, h2, h3, h4, h5, h6, h7, h8, h9⟩ := fine_open h
  obtain ⟨m', rfl⟩ : ∃ m', m = m' + 1 := ⟨m - 1, by omega⟩
  rw [show ((m' + 1 : Nat) : Int) - 1 = (m' : Int) by omega] at h9
  obtain ⟨i1, i0, i2, i3⟩ := fine_factsA l m' (decide (k = 10)) h9
  refine ⟨?_, ?_, ?_, ?_, ?_⟩
  ·rw [size, Nat.pow_succ]
   have hp : 1 ≤ 4 ^ m' := Nat.one_le_pow _ _ (by decide)
   have hl : l.length ≤ 3 := by omega
   have : l.length * 4 ^ m' ≤ 3 * 4 ^ m' := Nat.mul_le_mul_right _ hl
   omega
  ·rw [deep]; omega
  ·rw [rngE, i2, Bool.and_true]
   exact decide_eq_true ⟨⟨by omega, by omega⟩, by omega⟩
  ·rw [txtE]
   by_cases k4 : k = 4
   ·rw [if_pos k4]; exact textL_ne n h3 (by omega)
   ·rw [if_neg k4]
    by_cases k12 : k = 1 ∨ k = 2
    ·rw [if_pos k12]
     rcases k12 with rfl | rfl <;> decide
    ·rw [if_neg k12]; simp
  ·rw [txtE, size]
   have t1 := textL_le n
   have t2 := wordL_le k
   have t3 := more_le k n nm (k == 3 || l.isEmpty) h8
   have t4 := i3 true
   by_cases k4 : k = 4
   ·rw [if_pos k4]; omega
   ·rw [if_neg k4]
    by_cases k12 : k = 1 ∨ k = 2
    ·rw [if_pos k12]; omega
    ·rw [if_neg k12]
     by_cases k3 : k = 3
     ·rw [if_pos k3]
      simp only [List.length_append, List.length_cons, List.length_nil]
      omega
     ·rw [if_neg k3]
      simp only [List.length_append, List.length_cons, List.length_nil]
      omega
theorem fine_factsA : ∀ (l : List Ex) (m : Nat) (c : Bool), fineL (m : Int) c l = true → sizeL l ≤ ((l.length * 4 ^ m : Nat) : Int) ∧ deepL l ≤ m ∧ rngA l = true ∧ ∀ b, ((txtA b l).length : Int) ≤ 62 * sizeL l
 | [], m, c, _ => ⟨by simp [sizeL], by rw [deepL]; omega, rfl, fun b => by simp [txtA, sizeL]⟩
 | x :: l, m, c, h => by
  rw [fineL, Bool.and_eq_true] at h
  obtain ⟨a1, a0, a2, a3, a4⟩ := fine_facts x m c h.1
  obtain ⟨b1, b0, b2, b3⟩ := fine_factsA l m false h.2
  refine ⟨?_, by rw [deepL]; omega, ?_, fun b => ?_⟩
  ·rw [sizeL, List.length_cons, Nat.add_mul]; omega
  ·rw [rngA, a2, b2]; rfl
  ·rw [txtA, sizeL]
   have := b3 false
   simp only [List.length_append]
   split <;> simp <;> omega
end
theorem fit_of {x : Ex} (h : isFine 32 false x = true) (hs : size x ≤ 2000) : Fit x := by
 obtain ⟨a, _, b, c, d⟩ := fine_facts x 32 false h
 exact ⟨b, by omega, c, by omega⟩
theorem right_ok (x : Ex) (hr : rngE x = true) (hs : size x ≤ 9223372036854775807) : Ok E 29 [] [pE x] (pB (isRight x)) [] := Right_ok x hr hs fit_of
theorem right_open {x : Ex} (h : isRight x = true) : isFine 32 false x = true ∧ size x ≤ 2000 ∧ (txtE x).length ≤ 2000 := by
 unfold isRight at h
 rw [Bool.and_eq_true, Bool.and_eq_true] at h
 exact ⟨h.1, of_decide_eq_true h.2.1, of_decide_eq_true h.2.2⟩
end Go.Proofs.YtgpkppohfodhdaaGreatDoor.Pm
namespace Go.Proofs.YtgpkppohfodhdaaGreatDoor.Pm
open Go Go.RowKit Go.Proofs.YtgpkppohfodhdaaGreatDoor.Pl
open Go.Proofs.YtgpkppohfodhdaaGreatDoor.Q (rngE rngA txtE txtA sameE sameA formT wordL moreL sepA)
set_option linter.unusedVariables false
set_option linter.unusedSimpArgs false
set_option maxHeartbeats 1000000
theorem digs_len (n : Nat) : (digs n).length ≤ 20 := DecT.digs_len n
theorem rdigits_ok (n : Nat) (hn : n ≤ 9223372036854775807) : Ok E 147 [] [pI n] (pS (B (digs n))) [] := by
 have hd := digs_rec n (by omega)
 have IH : ¬ n < 10 → Ok E 147 [] [pI (n / 10 : Nat)] (pS (B (digs (n / 10)))) [] := fun h => rdigits_ok (n / 10) (by omega)
 have hl := digs_len (n / 10)
 have e1 : ((n : Int)).tmod 10 = ((n % 10 : Nat) : Int) := by rw [Int.tmod_eq_emod_of_nonneg (by omega)]; omega
 have e2 : ((n : Int)).tdiv 10 = ((n / 10 : Nat) : Int) := by rw [Int.tdiv_eq_ediv_of_nonneg (by omega)]; omega
 have e3 : UInt8.ofNat (48 + ((n % 10 : Nat) : Int)).toNat = dig n := by
  unfold dig
  congr 1
 refine Ok.enter hE Tryz.func147 rfl (by decide +kernel) (by kernel_rfl) rfl rfl (Nat.le_of_ble_eq_true rfl) rfl ?_
 refine ⟨_, remV (by omega) e1, ?_⟩
 refine ⟨_, addV rfl (by omega) (by omega), ?_⟩
 refine ⟨_, convV (z := 48 + ((n % 10 : Nat) : Int)) rfl rfl (by simp [IntKind.wrap, IntKind.bits, IntKind.signed]; omega), ?_⟩
 refine ⟨_, ⟨_, rfl, rfl⟩, ?_⟩
 refine ⟨_, convBV (l := [dig n]) rfl rfl rfl (by
  show bytesF [[CV.int .u8 (48 + ((n % 10 : Nat) : Int))]] = _
  rw [bytesF, decide_eq_true (by omega)]
  show some [UInt8.ofNat (48 + ((n % 10 : Nat) : Int)).toNat] = _
  rw [e3]), ?_⟩
 by_cases h : n < 10
 ·refine ⟨_, geN (by omega), ?_⟩
  rw [if_pos h] at hd
  exact Ret.mk _ rfl (by show PV.c (.str (B [dig n])) = _; rw [hd]) rfl
 ·rw [if_neg h] at hd
  refine ⟨_, geT (by omega), ?_⟩
  refine ⟨_, quoV (by omega) e2 (by omega) (by omega), ?_⟩
  refine ⟨_, CallR.mk1 (IH h) rfl rfl, ?_⟩
  refine ⟨_, catV (s := B (digs n)) (by rw [hd]; exact B_append _ _) (by rw [B_size]; show _ + 1 ≤ _; omega), ?_⟩
  exact Ret.mk _ rfl rfl rfl
termination_by n
decreasing_by omega
theorem rNumber_ok (n : Int) (h0 : 0 ≤ n) (h1 : n ≤ 9223372036854775807) : Ok E 115 [] [pI n] (pS (B (intL n))) [] := by
 obtain ⟨m, rfl⟩ : ∃ m : Nat, n = m := ⟨n.toNat, by omega⟩
 have hd := rdigits_ok m (by omega)
 have e : intL (m : Int) = digs m := by unfold intL; rw [if_neg (by omega)]; rfl
 rw [e]
 refine Ok.enter hE Tryz.func115 rfl (by decide +kernel) (by kernel_rfl) rfl rfl (Nat.le_of_ble_eq_true rfl) rfl ?_
 refine ⟨_, geT h0, ?_⟩
 refine ⟨_, CallR.mk1 hd rfl rfl, ?_⟩
 exact Ret.mk _ rfl rfl rfl
theorem rText_ok (n : Int) (h0 : 0 ≤ n) (h1 : n ≤ 1000000000000) : Ok E 114 [] [pI n] (pS (B (textL n))) [] := by
 obtain ⟨m, rfl⟩ : ∃ m : Nat, n = m := ⟨n.toNat, by omega⟩
 have hd1 := rdigits_ok (m / 100) (by omega)
 have hd2 := rdigits_ok (m / 10 % 10) (by omega)
 have hd3 := rdigits_ok (m % 10) (by omega)
 have q1 : digs (m / 10 % 10) = [dig (m / 10)] := by rw [digs_one (by omega)]; unfold dig; congr 2; omega
 have q2 : digs (m % 10) = [dig m] := by rw [digs_one (by omega)]; unfold dig; congr 2; omega
 rw [q1] at hd2
 rw [q2] at hd3
 have ht : textL (m : Int) = digs (m / 100) ++ [46, dig (m / 10), dig m] := by
  rw [textL_ok ⟨by omega, h1⟩, if_neg (by omega)]; rfl
 rw [ht]
 have hl := digs_len (m / 100)
 have e1 : ((m : Int)).tdiv 100 = ((m / 100 : Nat) : Int) := by rw [Int.tdiv_eq_ediv_of_nonneg (by omega)]; omega
 have e2 : ((m : Int)).tdiv 10 = ((m / 10 : Nat) : Int) := by rw [Int.tdiv_eq_ediv_of_nonneg (by omega)]; omega
 have e3 : (((m / 10 : Nat) : Int)).tmod 10 = ((m / 10 % 10 : Nat) : Int) := by rw [Int.tmod_eq_emod_of_nonneg (by omega)]; omega
 have e4 : ((m : Int)).tmod 10 = ((m % 10 : Nat) : Int) := by rw [Int.tmod_eq_emod_of_nonneg (by omega)]; omega
 refine Ok.enter hE Tryz.func114 rfl (by decide +kernel) (by kernel_rfl) rfl rfl (Nat.le_of_ble_eq_true rfl) rfl ?_
 refine ⟨_, ltN (by omega), ?_⟩
 refine ⟨_, gtN (by omega), ?_⟩
 refine ⟨_, ltN (by omega), ?_⟩
 refine ⟨_, quoV (by omega) e1 (by omega) (by omega), ?_⟩
 refine ⟨_, CallR.mk1 hd1 rfl rfl, ?_⟩
 refine ⟨_, catV (s := B (digs (m / 100) ++ [46])) (B_append _ _) (by rw [B_size]; show _ + 1 ≤ _; omega), ?_⟩
 refine ⟨_, quoV (by omega) e2 (by omega) (by omega), ?_⟩
 refine ⟨_, remV (by omega) e3, ?_⟩
 refine ⟨_, CallR.mk1 hd2 rfl rfl, ?_⟩
 refine ⟨_, catV (s := B (digs (m / 100) ++ [46, dig (m / 10)])) (by rw [B_append, List.append_assoc]; rfl) (by rw [B_size, B_size]; simp; omega), ?_⟩
 refine ⟨_, remV (by omega) e4, ?_⟩
 refine ⟨_, CallR.mk1 hd3 rfl rfl, ?_⟩
 refine ⟨_, catV (s := B (digs (m / 100) ++ [46, dig (m / 10), dig m])) (by rw [B_append, List.append_assoc]; rfl) (by rw [B_size, B_size]; simp; omega), ?_⟩
 exact Ret.mk _ rfl rfl rfl
def letterB (c : UInt8) : Bool := decide (97 ≤ c.toNat) && decide (c.toNat ≤ 122)
def digitB (c : UInt8) : Bool := decide (48 ≤ c.toNat) && decide (c.toNat ≤ 57)
theorem rletter_ok (c : UInt8) : Ok E 44 [] [.c (.int .u8 c.toNat)] (pB (letterB c)) [] := by
 obtain ⟨v, hv⟩ : ∃ v, letterB c = v := ⟨_, rfl⟩
 rw [hv]
 unfold letterB at hv
 refine Ok.enter hE Tryz.func44 rfl (by decide +kernel) (by kernel_rfl) rfl rfl (Nat.le_of_ble_eq_true rfl) rfl ?_
 by_cases h : 97 ≤ c.toNat
 ·rw [decide_eq_true h, Bool.true_and] at hv
  refine ⟨_, geT (by omega), ?_⟩
  refine ⟨_, leV (c := v) (by rw [← hv]; exact decide_eq_decide.2 (by omega)), ?_⟩
  exact Ret.mk _ rfl rfl rfl
 ·rw [decide_eq_false h, Bool.false_and] at hv
  subst hv
  refine ⟨_, geN (by omega), ?_⟩
  exact Ret.mk _ rfl rfl rfl
theorem rdigit_ok (c : UInt8) : Ok E 46 [] [.c (.int .u8 c.toNat)] (pB (digitB c)) [] := by
 obtain ⟨v, hv⟩ : ∃ v, digitB c = v := ⟨_, rfl⟩
 rw [hv]
 unfold digitB at hv
 refine Ok.enter hE Tryz.func46 rfl (by decide +kernel) (by kernel_rfl) rfl rfl (Nat.le_of_ble_eq_true rfl) rfl ?_
 by_cases h : 48 ≤ c.toNat
 ·rw [decide_eq_true h, Bool.true_and] at hv
  refine ⟨_, geT (by omega), ?_⟩
  refine ⟨_, leV (c := v) (by rw [← hv]; exact decide_eq_decide.2 (by omega)), ?_⟩
  exact Ret.mk _ rfl rfl rfl
 ·rw [decide_eq_false h, Bool.false_and] at hv
  subst hv
  refine ⟨_, geN (by omega), ?_⟩
  exact Ret.mk _ rfl rfl rfl
theorem contains_drop (zs : List ByteArray) (s w : ByteArray) (j : Nat) (h : zs[j]? = some w) : Lib.containsS (zs.drop j) s = ((w.toList == s.toList) || Lib.containsS (zs.drop (j + 1)) s) := by
 have hjl := (List.getElem?_eq_some_iff.1 h).1
 have hd : zs.drop j = w :: zs.drop (j + 1) := by
  rw [List.drop_eq_getElem_cons hjl]
  congr 1
  rw [List.getElem?_eq_getElem hjl] at h
  exact Option.some.inj h
 rw [hd]
 have e : (w.toList == s.toList) = true ↔ s = w := by
  rw [beq_iff_eq, toList_data, toList_data]
  constructor
  ·intro h
   apply ByteArray.ext
   apply Array.ext'
   exact h.symm
  ·intro h; rw [h]
 rw [Bool.eq_iff_iff, Lib.containsS_iff, Bool.or_eq_true, e, Lib.containsS_iff, List.mem_cons]
def wordRow : List (List CV) := Q.wordsB.map fun w => [.str w]
theorem rWord_ok (s : ByteArray) : Ok E 45 [] [pS s] (pB (Lib.containsS Q.wordsB s)) [] := by
 obtain ⟨v, hv⟩ : ∃ v, Lib.containsS Q.wordsB s = v := ⟨_, rfl⟩
 rw [hv]
 have hlen : Q.wordsB.length = 11 := rfl
 have hrow : wordRow.length = 11 := rfl
 refine Ok.enter hE Tryz.func45 rfl (by decide +kernel) (by kernel_rfl) rfl rfl (Nat.le_of_ble_eq_true rfl) rfl ?_
 refine ⟨_, ⟨_, rfl, rfl⟩, ?_⟩
 refine Loop.run (α := Nat) (fun j => j ≤ 11 ∧ Lib.containsS (Q.wordsB.drop j) s = v) (fun j => [(0, pS s), (3, .c (.row wordRow)), (4, pI j)]) (fun _ => []) (fun _ => []) (fun j => 11 - j) 0 ⟨Nat.zero_le _, hv⟩ ⟨⟨rfl, rfl, rfl, trivial⟩, rfl, rfl⟩ ?_
 rintro j f ⟨hj, hjv⟩
 by_cases hjl : j < 11
 ·obtain ⟨w, hw⟩ : ∃ w, Q.wordsB[j]? = some w := ⟨_, List.getElem?_eq_getElem (by omega)⟩
  rw [contains_drop _ _ _ _ hw] at hjv
  have hx : wordRow[j]? = some [.str w] := by unfold wordRow; rw [List.getElem?_map, hw]; rfl
  refine ⟨_, ltT (by rw [hrow]; omega), ?_⟩
  refine ⟨_, idxV (j := j) hx rfl rfl rfl rfl, ?_⟩
  rcases Bool.eq_false_or_eq_true (w.toList == s.toList) with he | he
  ·rw [he, Bool.true_or] at hjv
   refine ⟨_, strEqV he, ?_⟩
   exact Ret.mk _ rfl (congrArg (fun b : Bool => pB b) hjv) rfl
  ·rw [he, Bool.false_or] at hjv
   refine ⟨_, strEqV he, ?_⟩
   refine ⟨_, addV rfl (by omega) (by omega), ?_⟩
   exact ⟨j + 1, ⟨hjl, hjv⟩, by omega, ⟨rfl, rfl, rfl, trivial⟩, rfl, rfl⟩
 ·refine ⟨_, ltN (by rw [hrow]; omega), ?_⟩
  rw [List.drop_of_length_le (by omega)] at hjv
  exact Ret.mk _ rfl (congrArg (fun b : Bool => pB b) (show false = v from hjv)) rfl
theorem in_letter : ∀ c : UInt8, inB abcB c = letterB c := by
 have h : ∀ n : Nat, n < 256 → inB abcB (UInt8.ofNat n) = letterB (UInt8.ofNat n) := by decide +kernel
 intro c
 have := h c.toNat c.toNat_lt
 rwa [UInt8.ofNat_toNat] at this
theorem in_part : ∀ c : UInt8, inB abc9B c = (letterB c || digitB c) := by
 have h : ∀ n : Nat, n < 256 → inB abc9B (UInt8.ofNat n) = (letterB (UInt8.ofNat n) || digitB (UInt8.ofNat n)) := by decide +kernel
 intro c
 have := h c.toNat c.toNat_lt
 rwa [UInt8.ofNat_toNat] at this
theorem run_all (set : ByteArray) : ∀ l : List UInt8, decide (runB set l = l.length) = l.all (inB set)
 | [] => rfl
 | c :: l => by
  rw [List.all_cons, ← run_all set l, runB]
  rcases Bool.eq_false_or_eq_true (inB set c) with h | h
  ·rw [h, if_pos rfl, Bool.true_and]; exact decide_eq_decide.2 (by simp)
  ·rw [h, if_neg (by simp), Bool.false_and]; exact decide_eq_false (by simp)
theorem rName_ok (s : ByteArray) : Ok E 27 [] [pS s] (pB (isName s)) [] := by
 have hsz : s.data.toList.length = s.size := by simp
 have hw := rWord_ok s
 obtain ⟨v, hv⟩ : ∃ v, isName s = v := ⟨_, rfl⟩
 rw [hv]
 unfold isName at hv
 cases hl : s.data.toList with
 | nil =>
  rw [hl] at hv
  subst hv
  refine Ok.enter hE Tryz.func27 rfl (by decide +kernel) (by kernel_rfl) rfl rfl (Nat.le_of_ble_eq_true rfl) rfl ?_
  refine ⟨_, strEqV (c := true) (by rw [toList_data, toList_data, hl]; rfl), ?_⟩
  exact Ret.mk _ rfl rfl rfl
 | cons c l =>
  have hal := run_all abc9B (c :: l)
  rw [← hl] at hal
  rw [hl] at hv
  dsimp only at hv
  rw [← hl, ← hsz, hal, in_letter] at hv
  have h0 := rletter_ok c
  refine Ok.enter hE Tryz.func27 rfl (by decide +kernel) (by kernel_rfl) rfl rfl (Nat.le_of_ble_eq_true rfl) rfl ?_
  refine ⟨_, strEqV (c := false) (by rw [toList_data, toList_data, hl]; rfl), ?_⟩
  by_cases h12 : s.size ≤ 12
  rotate_left
  ·rw [hsz, decide_eq_false h12] at hv
   refine ⟨_, gtT (by omega), ?_⟩
   exact Ret.mk _ rfl (congrArg (fun b : Bool => pB b) (show false = v from hv)) rfl
  rw [hsz, decide_eq_true h12, Bool.true_and] at hv
  refine ⟨_, gtN (by omega), ?_⟩
  refine ⟨_, idxSV 0 c rfl rfl (by rw [hl]; rfl), ?_⟩
  rcases Bool.eq_false_or_eq_true (letterB c) with hin | hin
  rotate_left
  ·rw [hin] at hv h0
   refine ⟨_, CallR.mk1 h0 rfl rfl, ?_⟩
   exact Ret.mk _ rfl (congrArg (fun b : Bool => pB b) (show false = v from hv)) rfl
  rw [hin] at hv h0
  rw [Bool.true_and] at hv
  refine ⟨_, CallR.mk1 h0 rfl rfl, ?_⟩
  rcases Bool.eq_false_or_eq_true (Lib.containsS Q.wordsB s) with hww | hww
  ·rw [hww] at hv hw
   rw [show (!true) = false from rfl, Bool.and_false] at hv
   refine ⟨_, CallR.mk1 hw rfl rfl, ?_⟩
   exact Ret.mk _ rfl (congrArg (fun b : Bool => pB b) hv) rfl
  rw [hww] at hv hw
  rw [show (!false) = true from rfl, Bool.and_true] at hv
  refine ⟨_, CallR.mk1 hw rfl rfl, ?_⟩
  refine Loop.run (α := Nat) (fun j => j ≤ s.size ∧ (s.data.toList.drop j).all (inB abc9B) = v) (fun j => [(0, pS s), (3, pI j)]) (fun _ => []) (fun _ => []) (fun j => s.size - j) 0 ⟨Nat.zero_le _, hv⟩ ⟨⟨rfl, rfl, trivial⟩, rfl, rfl⟩ ?_
  rintro j f ⟨hj, hjv⟩
  by_cases hjl : j < s.size
  ·obtain ⟨b, hb⟩ : ∃ b, s.data.toList[j]? = some b := ⟨_, List.getElem?_eq_getElem (by omega)⟩
   have hd : s.data.toList.drop j = b :: s.data.toList.drop (j + 1) := by
    rw [List.drop_eq_getElem_cons (by omega)]
    congr 1
    rw [List.getElem?_eq_getElem (by omega)] at hb
    exact Option.some.inj hb
   rw [hd, List.all_cons, in_part] at hjv
   have hA := rletter_ok b
   have hD := rdigit_ok b
   refine ⟨_, ltT (by omega), ?_⟩
   refine ⟨_, idxSV j b rfl rfl hb, ?_⟩
   rcases Bool.eq_false_or_eq_true (letterB b) with ha | ha
   ·rw [ha] at hjv hA
    rw [Bool.true_or, Bool.true_and] at hjv
    refine ⟨_, CallR.mk1 hA rfl rfl, ?_⟩
    refine ⟨_, addV rfl (by omega) (by omega), ?_⟩
    exact ⟨j + 1, ⟨hjl, hjv⟩, by omega, ⟨rfl, rfl, trivial⟩, rfl, rfl⟩
   ·rw [ha] at hjv hA
    rw [Bool.false_or] at hjv
    refine ⟨_, CallR.mk1 hA rfl rfl, ?_⟩
    refine ⟨_, idxSV j b rfl rfl hb, ?_⟩
    rcases Bool.eq_false_or_eq_true (digitB b) with hdg | hdg
    ·rw [hdg] at hjv hD
     rw [Bool.true_and] at hjv
     refine ⟨_, CallR.mk1 hD rfl rfl, ?_⟩
     refine ⟨_, addV rfl (by omega) (by omega), ?_⟩
     exact ⟨j + 1, ⟨hjl, hjv⟩, by omega, ⟨rfl, rfl, trivial⟩, rfl, rfl⟩
    ·rw [hdg] at hjv hD
     refine ⟨_, CallR.mk1 hD rfl rfl, ?_⟩
     exact Ret.mk _ rfl (congrArg (fun b : Bool => pB b) (show false = v from hjv)) rfl
  ·refine ⟨_, ltN (by omega), ?_⟩
   rw [List.drop_of_length_le (by omega)] at hjv
   exact Ret.mk _ rfl (congrArg (fun b : Bool => pB b) (show true = v from hjv)) rfl
end Go.Proofs.YtgpkppohfodhdaaGreatDoor.Pm
namespace Go.Proofs.YtgpkppohfodhdaaGreatDoor.Pm
open Go Go.RowKit
set_option linter.unusedVariables false
set_option linter.unusedSimpArgs false
set_option maxHeartbeats 1000000
end Go.Proofs.YtgpkppohfodhdaaGreatDoor.Pm
namespace Go.Proofs.YtgpkppohfodhdaaGreatDoor.Pm
open Go Go.RowKit Go.Proofs.YtgpkppohfodhdaaGreatDoor.Pl
open Go.Proofs.YtgpkppohfodhdaaGreatDoor.Q (rngE rngA txtE txtA sameE sameA formT wordL moreL sepA)
set_option linter.unusedVariables false
set_option linter.unusedSimpArgs false
set_option maxHeartbeats 1000000
theorem fineL_mem : ∀ (l : List Ex) (d : Int) (c : Bool), fineL d c l = true → ∀ y ∈ l, ∃ c', isFine d c' y = true
 | [], _, _, _, y, hy => by cases hy
 | x :: l, d, c, h, y, hy => by
  rw [fineL, Bool.and_eq_true] at h
  rcases List.mem_cons.1 hy with rfl | hy
  ·exact ⟨c, h.1⟩
  ·exact fineL_mem l d false h.2 y hy
theorem sizeL_mem : ∀ (l : List Ex), ∀ y ∈ l, size y ≤ sizeL l ∧ deep y ≤ deepL l
 | [], y, hy => by cases hy
 | x :: l, y, hy => by
  rw [sizeL, deepL]
  have := sizeL_pos l
  have := size_pos x
  rcases List.mem_cons.1 hy with rfl | hy
  ·omega
  ·have := sizeL_mem l y hy
   omega
structure PartOK (x : Ex) : Prop where
 fine : ∃ (m : Nat) (c : Bool), m ≤ 32 ∧ isFine m c x = true
 size : size x ≤ 2000
 len : (txtE x).length ≤ 2000
theorem args_few (k : Int) (w : List UInt8) (m a : Int) (h : formT k = some (w, m, a)) (h4 : k = 4 ∨ k = 1 ∨ k = 2 ∨ k = 3) : a = 0 := by
 rcases h4 with rfl | rfl | rfl | rfl
 all_goals (simp only [formT, Option.some.injEq, Prod.mk.injEq] at h; exact h.2.2.symm)
end Go.Proofs.YtgpkppohfodhdaaGreatDoor.Pm
namespace Go.Proofs.YtgpkppohfodhdaaGreatDoor.Pm
open Go Go.RowKit Go.Proofs.YtgpkppohfodhdaaGreatDoor.Pl
open Go.Proofs.YtgpkppohfodhdaaGreatDoor.Q (rngE rngA txtE txtA sameE sameA formT wordL moreL sepA)
set_option linter.unusedVariables false
set_option linter.unusedSimpArgs false
set_option maxHeartbeats 1000000
theorem rSize_ok : ∀ (x : Ex), size x ≤ 9223372036854775807 → Ok E 69 [] [pE x] (pI (size x)) []
 | ⟨k, n, nm, l⟩, h => by
  have h' : 1 + sizeL l ≤ 9223372036854775807 := by rw [size] at h; exact h
  have hll := sizeL_len l
  have hel := enc_len l
  refine Ok.enter hE Tryz.func69 rfl (by decide +kernel) (by kernel_rfl) rfl rfl (Nat.le_of_ble_eq_true rfl) rfl ?_
  refine Loop.cut (α := Nat) (fun j => j ≤ l.length) (fun j => [(1, .ptr 0 0), (3, pI (1 + sizeL (l.take j))), (4, pI j)]) (fun j => [(cellsE ⟨k, n, nm, l⟩).map .c]) (fun _ => []) (fun j => l.length - j) 0 1 (fun _ => rfl) (fun _ => rfl) (fun _ => rfl) (Nat.zero_le _) ⟨⟨rfl, ?_, rfl, trivial⟩, rfl, rfl⟩ ?_
  ·show PV.c _ = _; rw [List.take_zero, sizeL]; rfl
  intro j f hj
  by_cases hjl : j < l.length
  ·obtain ⟨y, hy⟩ : ∃ y, l[j]? = some y := ⟨_, List.getElem?_eq_getElem hjl⟩
   have hst := sizeL_take l j y hy
   have hle := sizeL_le l (j + 1)
   have hp := sizeL_pos (l.take j)
   have hpy := size_pos y
   refine ⟨_, ltT (by show (j : Int) < ((encL l).length : Int); omega), ?_⟩
   refine ⟨_, idxV (j := j) (enc_get hy) rfl rfl rfl rfl, ?_⟩
   refine ⟨_, CallR.mk1 (rSize_ok y (by omega)) rfl rfl, ?_⟩
   refine ⟨_, addV (z := 1 + sizeL (l.take (j + 1))) (by omega) (by omega) (by omega), ?_⟩
   refine ⟨_, addV rfl (by omega) (by omega), ?_⟩
   exact ⟨j + 1, hjl, by omega, ⟨rfl, rfl, rfl, trivial⟩, ⟨_, rfl⟩, rfl⟩
  ·refine ⟨_, ltN (by show ¬ (j : Int) < ((encL l).length : Int); omega), ?_⟩
   have : j = l.length := by omega
   exact Ret.mk _ rfl (by show PV.c _ = _; rw [this, List.take_length, size]) rfl
termination_by x => SizeOf.sizeOf x
decreasing_by
 have := List.sizeOf_lt_of_mem (List.mem_of_getElem? hy)
 simp only [Go.Proofs.YtgpkppohfodhdaaGreatDoor.Q.S45.mk.sizeOf_spec]
 omega
theorem drop_cons {α : Type} {l : List α} {j : Nat} {y : α} (hy : l[j]? = some y) : l.drop j = y :: l.drop (j + 1) := by
 have hjl := (List.getElem?_eq_some_iff.1 hy).1
 rw [List.drop_eq_getElem_cons hjl]
 congr 1
 rw [List.getElem?_eq_getElem hjl] at hy
 exact Option.some.inj hy
theorem rCond_ok (k : Int) : Ok E 68 [] [pI k] (pB (isCond k)) [] := by
 obtain ⟨v, hv⟩ : ∃ v, isCond k = v := ⟨_, rfl⟩
 rw [hv]
 unfold isCond at hv
 refine Ok.enter hE Tryz.func68 rfl (by decide +kernel) (by kernel_rfl) rfl rfl (Nat.le_of_ble_eq_true rfl) rfl ?_
 by_cases h : k = 11
 ·rw [decide_eq_true h, Bool.true_or] at hv; subst hv
  refine ⟨_, eqT h, ?_⟩
  exact Ret.mk _ rfl rfl rfl
 ·rw [decide_eq_false h, Bool.false_or] at hv
  refine ⟨_, eqN h, ?_⟩
  refine ⟨_, eqV (c := v) (by rw [← hv]; rfl), ?_⟩
  exact Ret.mk _ rfl rfl rfl
def mostF (k : Int) : Int := if k = 4 ∨ k = 5 then 1000000000000 else if k = 6 then 100000 else if k = 11 then 1000 else 0
theorem rmost_ok (k : Int) : Ok E 112 [] [pI k] (pI (mostF k)) [] := by
 obtain ⟨v, hv⟩ : ∃ v, mostF k = v := ⟨_, rfl⟩
 rw [hv]
 unfold mostF at hv
 refine Ok.enter hE Tryz.func112 rfl (by decide +kernel) (by kernel_rfl) rfl rfl (Nat.le_of_ble_eq_true rfl) rfl ?_
 by_cases h4 : k = 4
 ·rw [if_pos (.inl h4)] at hv; subst hv
  refine ⟨_, eqT h4, ?_⟩
  exact Ret.mk _ rfl rfl rfl
 refine ⟨_, eqN h4, ?_⟩
 by_cases h5 : k = 5
 ·rw [if_pos (.inr h5)] at hv; subst hv
  refine ⟨_, eqT h5, ?_⟩
  exact Ret.mk _ rfl rfl rfl
 refine ⟨_, eqN h5, ?_⟩
 rw [if_neg (by omega)] at hv
 by_cases h6 : k = 6
 ·rw [if_pos h6] at hv; subst hv
  refine ⟨_, eqT h6, ?_⟩
  exact Ret.mk _ rfl rfl rfl
 refine ⟨_, eqN h6, ?_⟩
 rw [if_neg h6] at hv
 by_cases h11 : k = 11
 ·rw [if_pos h11] at hv; subst hv
  refine ⟨_, eqT h11, ?_⟩
  exact Ret.mk _ rfl rfl rfl
 refine ⟨_, eqN h11, ?_⟩
 rw [if_neg h11] at hv; subst hv
 exact Ret.mk _ rfl rfl rfl
theorem rWordK_ok (k : Int) : Ok E 113 [] [pI k] (pS (B (wordL k))) [] := by
 rcases Q.form_kinds k with ho | ho
 ·have hw : B (wordL k) = ⟨#[]⟩ := by unfold wordL; rw [Q.formT_out k ho]; rfl
  rw [hw]
  refine Ok.enter hE Tryz.func113 rfl (by decide +kernel) (by kernel_rfl) rfl rfl (Nat.le_of_ble_eq_true rfl) rfl ?_
  refine ⟨_, ⟨_, rfl, rfl⟩, ?_⟩
  by_cases h0 : k < 0
  ·refine ⟨_, ltT h0, ?_⟩
   exact Ret.mk _ rfl rfl rfl
  refine ⟨_, ltN h0, ?_⟩
  by_cases h13 : 13 ≤ k
  ·refine ⟨_, geT h13, ?_⟩
   exact Ret.mk _ rfl rfl rfl
  refine ⟨_, geN (by show ¬ (k ≥ 13); omega), ?_⟩
  have hk : k = 0 := by omega
  subst hk
  refine ⟨_, idxV (j := 0) rfl rfl rfl rfl rfl, ?_⟩
  exact Ret.mk _ rfl rfl rfl
 ·rcases ho with rfl | rfl | rfl | rfl | rfl | rfl | rfl | rfl | rfl | rfl | rfl | rfl
  all_goals
   refine Ok.enter hE Tryz.func113 rfl (by decide +kernel) (by kernel_rfl) rfl rfl (Nat.le_of_ble_eq_true rfl) rfl ?_
   refine ⟨_, ⟨_, rfl, rfl⟩, ?_⟩
   refine ⟨_, ltN (by decide), ?_⟩
   refine ⟨_, geN (by decide), ?_⟩
  ·refine ⟨_, idxV (j := 1) rfl rfl rfl rfl rfl, ?_⟩; exact Ret.mk _ rfl rfl rfl
  ·refine ⟨_, idxV (j := 2) rfl rfl rfl rfl rfl, ?_⟩; exact Ret.mk _ rfl rfl rfl
  ·refine ⟨_, idxV (j := 3) rfl rfl rfl rfl rfl, ?_⟩; exact Ret.mk _ rfl rfl rfl
  ·refine ⟨_, idxV (j := 4) rfl rfl rfl rfl rfl, ?_⟩; exact Ret.mk _ rfl rfl rfl
  ·refine ⟨_, idxV (j := 5) rfl rfl rfl rfl rfl, ?_⟩; exact Ret.mk _ rfl rfl rfl
  ·refine ⟨_, idxV (j := 6) rfl rfl rfl rfl rfl, ?_⟩; exact Ret.mk _ rfl rfl rfl
  ·refine ⟨_, idxV (j := 7) rfl rfl rfl rfl rfl, ?_⟩; exact Ret.mk _ rfl rfl rfl
  ·refine ⟨_, idxV (j := 8) rfl rfl rfl rfl rfl, ?_⟩; exact Ret.mk _ rfl rfl rfl
  ·refine ⟨_, idxV (j := 9) rfl rfl rfl rfl rfl, ?_⟩; exact Ret.mk _ rfl rfl rfl
  ·refine ⟨_, idxV (j := 10) rfl rfl rfl rfl rfl, ?_⟩; exact Ret.mk _ rfl rfl rfl
  ·refine ⟨_, idxV (j := 11) rfl rfl rfl rfl rfl, ?_⟩; exact Ret.mk _ rfl rfl rfl
  ·refine ⟨_, idxV (j := 12) rfl rfl rfl rfl rfl, ?_⟩; exact Ret.mk _ rfl rfl rfl
end Go.Proofs.YtgpkppohfodhdaaGreatDoor.Pm
namespace Go.Proofs.YtgpkppohfodhdaaGreatDoor.Pm
open Go Go.RowKit Go.Proofs.YtgpkppohfodhdaaGreatDoor.Pl
open Go.Proofs.YtgpkppohfodhdaaGreatDoor.Q (rngE rngA txtE txtA sameE sameA formT wordL moreL sepA)
set_option linter.unusedVariables false
set_option linter.unusedSimpArgs false
set_option maxHeartbeats 1000000
theorem form_facts (k : Int) : ((formP k).2.2.2 = true ∧ argsOf k = (formP k).2.2.1 ∧ mostF k = (formP k).2.1) ∨ ((formP k).2.2.2 = false ∧ argsOf k = -1) := by
 rcases Q.form_kinds k with ho | ho
 ·refine .inr ⟨by unfold formP; rw [Q.formT_out k ho], ?_⟩
  unfold argsOf
  rw [if_neg (by omega), if_neg (by omega), if_neg (by omega), if_neg (by omega)]
 ·rcases ho with rfl | rfl | rfl | rfl | rfl | rfl | rfl | rfl | rfl | rfl | rfl | rfl
  all_goals exact .inl ⟨rfl, by decide, by decide⟩
theorem fine_cond (d : Int) (c : Bool) (y : Ex) : isFine d c y = ((isCond y.f0 == c) && isFine d (isCond y.f0) y) := by
 obtain ⟨k, n, nm, l⟩ := y
 show isFine d c ⟨k, n, nm, l⟩ = ((isCond k == c) && isFine d (isCond k) ⟨k, n, nm, l⟩)
 rw [isFine, isFine, beq_self_eq_true]
 generalize (isCond k == c) = p
 cases p <;> simp
theorem rfine_ok : ∀ (x : Ex), rngE x = true → ∀ (d : Int), I64 d → Ok E 67 [] [pE x, pI d] (pB (isFine d (isCond x.f0) x)) []
 | ⟨k, n, nm, l⟩, hr, d, hd => by
  show Ok E _ [] [pE ⟨k, n, nm, l⟩, pI d] (pB (isFine d (isCond k) ⟨k, n, nm, l⟩)) []
  obtain ⟨v, hv⟩ : ∃ v, isFine d (isCond k) ⟨k, n, nm, l⟩ = v := ⟨_, rfl⟩
  rw [hv]
  rw [isFine, beq_self_eq_true, Bool.true_and] at hv
  have hel := enc_len l
  have hlr : l.length < 4611686018427387904 ∧ rngA l = true := by
   rw [rngE, Bool.and_eq_true] at hr
   exact ⟨(of_decide_eq_true hr.1).2, hr.2⟩
  have hA := Args_ok k
  have hM := rmost_ok k
  have hN := rName_ok nm
  obtain ⟨hd0, hd1⟩ := hd
  by_cases h1 : d < 1
  ·have : v = false := by rw [← hv, decide_eq_false (by omega)]; simp
   subst this
   refine Ok.enter hE Tryz.func67 rfl (by decide +kernel) (by kernel_rfl) rfl rfl (Nat.le_of_ble_eq_true rfl) rfl ?_
   refine ⟨_, ltT h1, ?_⟩
   exact Ret.mk _ rfl rfl rfl
  rw [decide_eq_true h1, Bool.true_and] at hv
  by_cases h2 : argsOf k = l.length
  rotate_left
  ·have : v = false := by
    rw [← hv]
    rcases form_facts k with ⟨_, e, _⟩ | ⟨e, _⟩
    ·rw [decide_eq_false (p := (l.length : Int) = (formP k).2.2.1) (by omega)]; simp
    ·rw [e]; rfl
   subst this
   refine Ok.enter hE Tryz.func67 rfl (by decide +kernel) (by kernel_rfl) rfl rfl (Nat.le_of_ble_eq_true rfl) rfl ?_
   refine ⟨_, ltN h1, ?_⟩
   refine ⟨_, CallR.mk1 hA rfl rfl, ?_⟩
   refine ⟨_, neT (by show argsOf k ≠ ((encL l).length : Int); omega), ?_⟩
   exact Ret.mk _ rfl rfl rfl
  have hff := form_facts k
  obtain ⟨f1, f2, f3⟩ : (formP k).2.2.2 = true ∧ argsOf k = (formP k).2.2.1 ∧ mostF k = (formP k).2.1 := by
   rcases hff with h | ⟨_, e⟩
   ·exact h
   ·omega
  rw [f1, Bool.true_and, ← f2, ← f3, decide_eq_true (p := (l.length : Int) = argsOf k) h2.symm, Bool.true_and] at hv
  by_cases h3 : n < 0
  ·have : v = false := by rw [← hv, decide_eq_false (p := ¬ n < 0) (by omega)]; rfl
   subst this
   refine Ok.enter hE Tryz.func67 rfl (by decide +kernel) (by kernel_rfl) rfl rfl (Nat.le_of_ble_eq_true rfl) rfl ?_
   refine ⟨_, ltN h1, ?_⟩
   refine ⟨_, CallR.mk1 hA rfl rfl, ?_⟩
   refine ⟨_, neN (by show argsOf k = ((encL l).length : Int); omega), ?_⟩
   refine ⟨_, ltT h3, ?_⟩
   exact Ret.mk _ rfl rfl rfl
  rw [decide_eq_true (p := ¬ n < 0) h3, Bool.true_and] at hv
  by_cases h4 : n > mostF k
  ·have : v = false := by rw [← hv, decide_eq_false (p := ¬ n > mostF k) (by omega)]; rfl
   subst this
   refine Ok.enter hE Tryz.func67 rfl (by decide +kernel) (by kernel_rfl) rfl rfl (Nat.le_of_ble_eq_true rfl) rfl ?_
   refine ⟨_, ltN h1, ?_⟩
   refine ⟨_, CallR.mk1 hA rfl rfl, ?_⟩
   refine ⟨_, neN (by show argsOf k = ((encL l).length : Int); omega), ?_⟩
   refine ⟨_, ltN h3, ?_⟩
   refine ⟨_, CallR.mk1 hM rfl rfl, ?_⟩
   refine ⟨_, gtT h4, ?_⟩
   exact Ret.mk _ rfl rfl rfl
  rw [decide_eq_true (p := ¬ n > mostF k) h4, Bool.true_and] at hv
  have hem : isName (⟨#[]⟩ : ByteArray) = false := rfl
  by_cases hk3 : k = 3
  ·rcases Bool.eq_false_or_eq_true (nm.toList == (⟨#[]⟩ : ByteArray).toList) with h5 | h5
   ·have hn0 : isName nm = false := by
     rw [beq_iff_eq, toList_data, toList_data] at h5
     have : nm = ⟨#[]⟩ := by apply ByteArray.ext; apply Array.ext'; exact h5
     rw [this]; rfl
    have : v = false := by rw [← hv]; unfold isNamed; rw [if_pos hk3, hn0]; rfl
    subst this
    refine Ok.enter hE Tryz.func67 rfl (by decide +kernel) (by kernel_rfl) rfl rfl (Nat.le_of_ble_eq_true rfl) rfl ?_
    refine ⟨_, ltN h1, ?_⟩
    refine ⟨_, CallR.mk1 hA rfl rfl, ?_⟩
    refine ⟨_, neN (by show argsOf k = ((encL l).length : Int); omega), ?_⟩
    refine ⟨_, ltN h3, ?_⟩
    refine ⟨_, CallR.mk1 hM rfl rfl, ?_⟩
    refine ⟨_, gtN h4, ?_⟩
    refine ⟨_, strNeV (c := false) (by rw [h5]; rfl), ?_⟩
    refine ⟨_, eqT hk3, ?_⟩
    refine ⟨_, neBT rfl, ?_⟩
    exact Ret.mk _ rfl rfl rfl
   ·rcases Bool.eq_false_or_eq_true (isName nm) with h6 | h6
    rotate_left
    ·have : v = false := by rw [← hv]; unfold isNamed; rw [if_pos hk3, h6]; rfl
     subst this
     rw [h6] at hN
     refine Ok.enter hE Tryz.func67 rfl (by decide +kernel) (by kernel_rfl) rfl rfl (Nat.le_of_ble_eq_true rfl) rfl ?_
     refine ⟨_, ltN h1, ?_⟩
     refine ⟨_, CallR.mk1 hA rfl rfl, ?_⟩
     refine ⟨_, neN (by show argsOf k = ((encL l).length : Int); omega), ?_⟩
     refine ⟨_, ltN h3, ?_⟩
     refine ⟨_, CallR.mk1 hM rfl rfl, ?_⟩
     refine ⟨_, gtN h4, ?_⟩
     refine ⟨_, strNeV (c := true) (by rw [h5]; rfl), ?_⟩
     refine ⟨_, eqT hk3, ?_⟩
     refine ⟨_, neBN rfl, ?_⟩
     refine ⟨_, eqT hk3, ?_⟩
     refine ⟨_, CallR.mk1 hN rfl rfl, ?_⟩
     exact Ret.mk _ rfl rfl rfl
    ·have hl0 : l = [] := by
      have : argsOf k = 0 := by rw [hk3]; rfl
      exact List.length_eq_zero_iff.1 (by omega)
     have : v = true := by rw [← hv]; unfold isNamed; rw [if_pos hk3, h6, hl0, fineL]; rfl
     subst this
     rw [h6] at hN
     subst hl0
     refine Ok.enter hE Tryz.func67 rfl (by decide +kernel) (by kernel_rfl) rfl rfl (Nat.le_of_ble_eq_true rfl) rfl ?_
     refine ⟨_, ltN h1, ?_⟩
     refine ⟨_, CallR.mk1 hA rfl rfl, ?_⟩
     refine ⟨_, neN (by show argsOf k = ((encL []).length : Int); omega), ?_⟩
     refine ⟨_, ltN h3, ?_⟩
     refine ⟨_, CallR.mk1 hM rfl rfl, ?_⟩
     refine ⟨_, gtN h4, ?_⟩
     refine ⟨_, strNeV (c := true) (by rw [h5]; rfl), ?_⟩
     refine ⟨_, eqT hk3, ?_⟩
     refine ⟨_, neBN rfl, ?_⟩
     refine ⟨_, eqT hk3, ?_⟩
     refine ⟨_, CallR.mk1 hN rfl rfl, ?_⟩
     refine Loop.cut (α := Unit) (fun _ => True) (fun _ => [(5, pI 0), (2, .ptr 0 0)]) (fun _ => [(cellsE ⟨k, n, nm, []⟩).map .c]) (fun _ => []) (fun _ => 0) () 1 (fun _ => rfl) (fun _ => rfl) (fun _ => rfl) trivial ⟨⟨rfl, rfl, trivial⟩, rfl, rfl⟩ ?_
     intro _ f _
     refine ⟨_, ltN (by show ¬ ((0 : Int) < ((encL []).length : Int)); rw [encL]; decide), ?_⟩
     exact Ret.mk _ rfl rfl rfl
  ·rcases Bool.eq_false_or_eq_true (nm.toList == (⟨#[]⟩ : ByteArray).toList) with h5 | h5
   rotate_left
   ·have : v = false := by rw [← hv]; unfold isNamed; rw [if_neg hk3, h5]; rfl
    subst this
    refine Ok.enter hE Tryz.func67 rfl (by decide +kernel) (by kernel_rfl) rfl rfl (Nat.le_of_ble_eq_true rfl) rfl ?_
    refine ⟨_, ltN h1, ?_⟩
    refine ⟨_, CallR.mk1 hA rfl rfl, ?_⟩
    refine ⟨_, neN (by show argsOf k = ((encL l).length : Int); omega), ?_⟩
    refine ⟨_, ltN h3, ?_⟩
    refine ⟨_, CallR.mk1 hM rfl rfl, ?_⟩
    refine ⟨_, gtN h4, ?_⟩
    refine ⟨_, strNeV (c := true) (by rw [h5]; rfl), ?_⟩
    refine ⟨_, eqN hk3, ?_⟩
    refine ⟨_, neBT rfl, ?_⟩
    exact Ret.mk _ rfl rfl rfl
   unfold isNamed at hv
   rw [if_neg hk3, h5, Bool.true_and] at hv
   refine Ok.enter hE Tryz.func67 rfl (by decide +kernel) (by kernel_rfl) rfl rfl (Nat.le_of_ble_eq_true rfl) rfl ?_
   refine ⟨_, ltN h1, ?_⟩
   refine ⟨_, CallR.mk1 hA rfl rfl, ?_⟩
   refine ⟨_, neN (by show argsOf k = ((encL l).length : Int); omega), ?_⟩
   refine ⟨_, ltN h3, ?_⟩
   refine ⟨_, CallR.mk1 hM rfl rfl, ?_⟩
   refine ⟨_, gtN h4, ?_⟩
   refine ⟨_, strNeV (c := false) (by rw [h5]; rfl), ?_⟩
   refine ⟨_, eqN hk3, ?_⟩
   refine ⟨_, neBN rfl, ?_⟩
   refine ⟨_, eqN hk3, ?_⟩
   refine Loop.cut (α := Nat) (fun j => j ≤ l.length ∧ fineL (d - 1) (decide (k = 10) && Nat.beq j 0) (l.drop j) = v) (fun j => [(1, pI d), (2, .ptr 0 0), (5, pI j)]) (fun j => [(cellsE ⟨k, n, nm, l⟩).map .c]) (fun _ => []) (fun j => l.length - j) 0 1 (fun _ => rfl) (fun _ => rfl) (fun _ => rfl)
    ⟨Nat.zero_le _, by rw [← hv, List.drop_zero, show Nat.beq 0 0 = true from rfl, Bool.and_true]⟩ ⟨⟨rfl, rfl, rfl, trivial⟩, rfl, rfl⟩ ?_
   rintro j f ⟨hj, hjv⟩
   by_cases hjl : j < l.length
   ·obtain ⟨y, hy⟩ : ∃ y, l[j]? = some y := ⟨_, List.getElem?_eq_getElem hjl⟩
    have hry := Q.rngA_mem l hlr.2 y (List.mem_of_getElem? hy)
    rw [drop_cons hy, fineL, fine_cond] at hjv
    have hC := rCond_ok y.f0
    have hI := rfine_ok y hry (d - 1) ⟨by omega, by omega⟩
    refine ⟨_, ltT (by show (j : Int) < ((encL l).length : Int); omega), ?_⟩
    refine ⟨_, idxV (j := j) (enc_get hy) rfl rfl rfl rfl, ?_⟩
    refine ⟨_, CallR.mk1 hC rfl rfl, ?_⟩
    have hnx : ∀ r : Bool, r = v → fineL (d - 1) false (l.drop (j + 1)) = r → fineL (d - 1) (decide (k = 10) && Nat.beq (j + 1) 0) (l.drop (j + 1)) = v := by
     intro r h1 h2
     rw [show (decide (k = 10) && Nat.beq (j + 1) 0) = false from Bool.and_false _, h2, h1]
    by_cases h10 : k = 10
    ·refine ⟨_, eqT h10, ?_⟩
     by_cases hj0 : j = 0
     ·refine ⟨_, eqT (by omega), ?_⟩
      rw [decide_eq_true h10, hj0, show Nat.beq 0 0 = true from rfl, Bool.and_true, ← hj0] at hjv
      rcases Bool.eq_false_or_eq_true (isCond y.f0 == true) with hcy | hcy
      rotate_left
      ·rw [hcy] at hjv
       refine ⟨_, neBT (by rw [hcy]; rfl), ?_⟩
       exact Ret.mk _ rfl (congrArg (fun b : Bool => pB b) (show false = v from hjv)) rfl
      rw [hcy, Bool.true_and] at hjv
      refine ⟨_, neBN hcy, ?_⟩
      refine ⟨_, idxV (j := j) (enc_get hy) rfl rfl rfl rfl, ?_⟩
      refine ⟨_, subV rfl (by omega) (by omega), ?_⟩
      rcases Bool.eq_false_or_eq_true (isFine (d - 1) (isCond y.f0) y) with hin | hin
      ·rw [hin] at hI hjv
       rw [Bool.true_and] at hjv
       refine ⟨_, CallR.mk1 hI rfl rfl, ?_⟩
       refine ⟨_, addV rfl (by omega) (by omega), ?_⟩
       exact ⟨j + 1, ⟨hjl, hnx v rfl hjv⟩, by omega, ⟨rfl, rfl, rfl, trivial⟩, ⟨_, rfl⟩, rfl⟩
      ·rw [hin] at hI hjv
       refine ⟨_, CallR.mk1 hI rfl rfl, ?_⟩
       exact Ret.mk _ rfl (congrArg (fun b : Bool => pB b) (show false = v from hjv)) rfl
     ·refine ⟨_, eqN (by omega), ?_⟩
      rw [show (decide (k = 10) && Nat.beq j 0) = false by
       cases j with
       | zero => exact absurd rfl hj0
       | succ j => exact Bool.and_false _] at hjv
      rcases Bool.eq_false_or_eq_true (isCond y.f0 == false) with hcy | hcy
      rotate_left
      ·rw [hcy] at hjv
       refine ⟨_, neBT (by rw [hcy]; rfl), ?_⟩
       exact Ret.mk _ rfl (congrArg (fun b : Bool => pB b) (show false = v from hjv)) rfl
      rw [hcy, Bool.true_and] at hjv
      refine ⟨_, neBN hcy, ?_⟩
      refine ⟨_, idxV (j := j) (enc_get hy) rfl rfl rfl rfl, ?_⟩
      refine ⟨_, subV rfl (by omega) (by omega), ?_⟩
      rcases Bool.eq_false_or_eq_true (isFine (d - 1) (isCond y.f0) y) with hin | hin
      ·rw [hin] at hI hjv
       rw [Bool.true_and] at hjv
       refine ⟨_, CallR.mk1 hI rfl rfl, ?_⟩
       refine ⟨_, addV rfl (by omega) (by omega), ?_⟩
       exact ⟨j + 1, ⟨hjl, hnx v rfl hjv⟩, by omega, ⟨rfl, rfl, rfl, trivial⟩, ⟨_, rfl⟩, rfl⟩
      ·rw [hin] at hI hjv
       refine ⟨_, CallR.mk1 hI rfl rfl, ?_⟩
       exact Ret.mk _ rfl (congrArg (fun b : Bool => pB b) (show false = v from hjv)) rfl
    ·refine ⟨_, eqN h10, ?_⟩
     rw [decide_eq_false h10, Bool.false_and] at hjv
     rcases Bool.eq_false_or_eq_true (isCond y.f0 == false) with hcy | hcy
     rotate_left
     ·rw [hcy] at hjv
      refine ⟨_, neBT (by rw [hcy]; rfl), ?_⟩
      exact Ret.mk _ rfl (congrArg (fun b : Bool => pB b) (show false = v from hjv)) rfl
     rw [hcy, Bool.true_and] at hjv
     refine ⟨_, neBN hcy, ?_⟩
     refine ⟨_, idxV (j := j) (enc_get hy) rfl rfl rfl rfl, ?_⟩
     refine ⟨_, subV rfl (by omega) (by omega), ?_⟩
     rcases Bool.eq_false_or_eq_true (isFine (d - 1) (isCond y.f0) y) with hin | hin
     ·rw [hin] at hI hjv
      rw [Bool.true_and] at hjv
      refine ⟨_, CallR.mk1 hI rfl rfl, ?_⟩
      refine ⟨_, addV rfl (by omega) (by omega), ?_⟩
      exact ⟨j + 1, ⟨hjl, hnx v rfl hjv⟩, by omega, ⟨rfl, rfl, rfl, trivial⟩, ⟨_, rfl⟩, rfl⟩
     ·rw [hin] at hI hjv
      refine ⟨_, CallR.mk1 hI rfl rfl, ?_⟩
      exact Ret.mk _ rfl (congrArg (fun b : Bool => pB b) (show false = v from hjv)) rfl
   ·refine ⟨_, ltN (by show ¬ (j : Int) < ((encL l).length : Int); omega), ?_⟩
    rw [List.drop_of_length_le (by omega), fineL] at hjv
    exact Ret.mk _ rfl (congrArg (fun b : Bool => pB b) hjv) rfl
termination_by x => SizeOf.sizeOf x
decreasing_by
 all_goals
  have := List.sizeOf_lt_of_mem (List.mem_of_getElem? hy)
  simp only [Go.Proofs.YtgpkppohfodhdaaGreatDoor.Q.S45.mk.sizeOf_spec]
  omega
end Go.Proofs.YtgpkppohfodhdaaGreatDoor.Pm
namespace Go.Proofs.YtgpkppohfodhdaaGreatDoor.Pm
open Go Go.RowKit Go.Proofs.YtgpkppohfodhdaaGreatDoor.Pl
open Go.Proofs.YtgpkppohfodhdaaGreatDoor.Q (rngE rngA txtE txtA sameE sameA formT wordL moreL sepA)
set_option linter.unusedVariables false
set_option linter.unusedSimpArgs false
set_option maxHeartbeats 1000000
theorem catB {E : Env} {a b : List UInt8} {ti : Nat} (hb : a.length + b.length ≤ 9223372036854775807) : BinR E ti .add (.c (.str (B a))) (.c (.str (B b))) (.c (.str (B (a ++ b)))) := catV (B_append _ _) (by rw [B_size, B_size]; exact hb)
theorem rtext_ok : ∀ (x : Ex) (m : Nat) (c : Bool), isFine m c x = true → size x ≤ 1000000000 → Ok E 70 [] [pE x] (pS (B (txtE x))) []
 | ⟨k, n, nm, l⟩, m, c, hf, hs => by
  obtain ⟨w, mm, a, hF, h1, h2, h3, h4, h5, h6, h7, h8, h9⟩ := fine_open hf
  have hlen := (fine_facts _ m c hf).2.2.2.2
  have hel := enc_len l
  have hW := rWordK_ok k
  have hwl := wordL_le k
  by_cases k4 : k = 4
  ·have e : txtE ⟨k, n, nm, l⟩ = textL n := by rw [txtE, if_pos k4]
   rw [e]
   have hT := rText_ok n h3 (by omega)
   refine Ok.enter hE Tryz.func70 rfl (by decide +kernel) (by kernel_rfl) rfl rfl (Nat.le_of_ble_eq_true rfl) rfl ?_
   refine ⟨_, CallR.mk1 hW rfl rfl, ?_⟩
   refine ⟨_, eqT k4, ?_⟩
   refine ⟨_, CallR.mk1 hT rfl rfl, ?_⟩
   exact Ret.mk _ rfl rfl rfl
  by_cases k12 : k = 1 ∨ k = 2
  ·have e : txtE ⟨k, n, nm, l⟩ = wordL k := by rw [txtE, if_neg k4, if_pos k12]
   rw [e]
   refine Ok.enter hE Tryz.func70 rfl (by decide +kernel) (by kernel_rfl) rfl rfl (Nat.le_of_ble_eq_true rfl) rfl ?_
   refine ⟨_, CallR.mk1 hW rfl rfl, ?_⟩
   refine ⟨_, eqN k4, ?_⟩
   by_cases k1 : k = 1
   ·refine ⟨_, eqT k1, ?_⟩
    exact Ret.mk _ rfl rfl rfl
   ·refine ⟨_, eqN k1, ?_⟩
    refine ⟨_, eqT (by show k = 2; omega), ?_⟩
    exact Ret.mk _ rfl rfl rfl
  have hl3 : k = 3 → l = [] := fun hk => by
   have := args_few k w mm a hF (by omega)
   exact List.length_eq_zero_iff.1 (by omega)
  have e : txtE ⟨k, n, nm, l⟩ = wordL k ++ [40] ++ txtA true l ++ sepA (k == 3 || l.isEmpty) (moreL k n nm) ++ [41] := by
   rw [txtE, if_neg k4, if_neg k12]
   by_cases k3 : k = 3
   ·rw [if_pos k3, hl3 k3, txtA]
   ·rw [if_neg k3]
  rw [e] at hlen ⊢
  simp only [List.length_append, List.length_cons, List.length_nil] at hlen
  have hmap : (l.map txtE).length = l.length := List.length_map ..
  have hle : ∀ j, (sepA true ((l.map txtE).take j)).length ≤ (txtA true l).length := fun j => by
   rw [Q.txtA_map]; exact Q.sepA_le true _ j
  refine Ok.enter hE Tryz.func70 rfl (by decide +kernel) (by kernel_rfl) rfl rfl (Nat.le_of_ble_eq_true rfl) rfl ?_
  refine ⟨_, CallR.mk1 hW rfl rfl, ?_⟩
  refine ⟨_, eqN k4, ?_⟩
  refine ⟨_, eqN (by show k ≠ 1; omega), ?_⟩
  refine ⟨_, eqN (by show k ≠ 2; omega), ?_⟩
  refine ⟨_, catB (b := [40]) (by show _ + 1 ≤ _; omega), ?_⟩
  refine Loop.cut (α := Nat) (fun j => j ≤ l.length) (fun j => [(1, .ptr 0 0), (3, pS (B (wordL k ++ [40] ++ sepA true ((l.map txtE).take j)))), (4, pI j)]) (fun j => [(cellsE ⟨k, n, nm, l⟩).map .c]) (fun _ => []) (fun j => l.length - j) 0 1 (fun _ => rfl) (fun _ => rfl) (fun _ => rfl) (Nat.zero_le _) ⟨⟨rfl, ?_, rfl, trivial⟩, rfl, rfl⟩ ?_
  ·show PV.c (.str (B (wordL k ++ [40]))) = _; rw [List.take_zero, sepA, List.append_nil]
  intro j f hj
  by_cases hjl : j < l.length
  ·obtain ⟨y, hy⟩ : ∃ y, l[j]? = some y := ⟨_, List.getElem?_eq_getElem hjl⟩
   have hmem := List.mem_of_getElem? hy
   have hsz := sizeL_mem l y hmem
   have hs2 : 1 + sizeL l ≤ 1000000000 := by rw [size] at hs; exact hs
   obtain ⟨c', hc'⟩ := fineL_mem l _ _ h9 y hmem
   have hy' : (l.map txtE)[j]? = some (txtE y) := by rw [List.getElem?_map, hy]; rfl
   have hst := Q.sepA_take true (l.map txtE) j (txtE y) hy'
   have hb := hle (j + 1)
   have hb0 := hle j
   have IH := rtext_ok y (m - 1) c' (by rw [show ((m - 1 : Nat) : Int) = (m : Int) - 1 by omega]; exact hc') (by omega)
   refine ⟨_, ltT (by show (j : Int) < ((encL l).length : Int); omega), ?_⟩
   by_cases hj0 : j = 0
   ·rw [show (true && (j == 0)) = true by rw [hj0]; rfl, if_pos rfl, List.append_nil] at hst
    rw [hst, List.length_append] at hb
    refine ⟨_, gtN (by omega), ?_⟩
    refine ⟨_, idxV (j := j) (enc_get hy) rfl rfl rfl rfl, ?_⟩
    refine ⟨_, CallR.mk1 IH rfl rfl, ?_⟩
    refine ⟨_, catB (by simp only [List.length_append, List.length_cons, List.length_nil]; omega), ?_⟩
    refine ⟨_, addV rfl (by omega) (by omega), ?_⟩
    exact ⟨j + 1, hjl, by omega, ⟨rfl, by show PV.c (.str (B _)) = PV.c (.str (B _)); rw [hst, List.append_assoc (wordL k ++ [40])], rfl, trivial⟩, ⟨_, rfl⟩, rfl⟩
   ·rw [show (true && (j == 0)) = false by rw [show (j == 0) = false from beq_eq_false_iff_ne.2 hj0]; rfl, if_neg (by simp)] at hst
    rw [hst, List.length_append, List.length_append] at hb
    simp only [List.length_cons, List.length_nil] at hb
    refine ⟨_, gtT (by omega), ?_⟩
    refine ⟨_, catB (b := [44, 32]) (by simp only [List.length_append, List.length_cons, List.length_nil]; omega), ?_⟩
    refine ⟨_, idxV (j := j) (enc_get hy) rfl rfl rfl rfl, ?_⟩
    refine ⟨_, CallR.mk1 IH rfl rfl, ?_⟩
    refine ⟨_, catB (by simp only [List.length_append, List.length_cons, List.length_nil]; omega), ?_⟩
    refine ⟨_, addV rfl (by omega) (by omega), ?_⟩
    exact ⟨j + 1, hjl, by omega, ⟨rfl, by show PV.c (.str (B _)) = PV.c (.str (B _)); rw [hst]; simp only [List.append_assoc], rfl, trivial⟩, ⟨_, rfl⟩, rfl⟩
  ·refine ⟨_, ltN (by show ¬ (j : Int) < ((encL l).length : Int); omega), ?_⟩
   have hjn : j = l.length := by omega
   have htk : sepA true ((l.map txtE).take j) = txtA true l := by rw [hjn, ← hmap, List.take_length, Q.txtA_map]
   obtain ⟨u, hu⟩ : ∃ u, wordL k ++ [40] ++ sepA true ((l.map txtE).take j) = u := ⟨_, rfl⟩
   have hu2 : wordL k ++ [40] ++ txtA true l = u := by rw [← htk]; exact hu
   have hul : u.length + ((sepA (k == 3 || l.isEmpty) (moreL k n nm)).length + 1) ≤ 200000000000 := by
    rw [← hu2]; simp only [List.length_append, List.length_cons, List.length_nil]; omega
   rw [hu2]
   rw [hu]
   clear htk hu hu2 hle hlen hf h9
   by_cases k3 : k = 3
   ·have hm : sepA (k == 3 || l.isEmpty) (moreL k n nm) = nm.data.toList := by
     rw [show (k == 3) = true from beq_iff_eq.2 k3, Bool.true_or]
     unfold moreL
     rw [if_pos k3]
     simp [sepA]
    rw [hm] at hul ⊢
    have hnm : nm = B nm.data.toList := (B_toList' nm).symm
    have hnl : (B u).size + nm.size ≤ 9223372036854775807 := by
     have : nm.data.toList.length = nm.size := by simp
     rw [B_size]; omega
    refine ⟨_, eqT k3, ?_⟩
    refine ⟨_, catV (s := B (u ++ nm.data.toList)) (by rw [← B_append, B_toList']) hnl, ?_⟩
    refine ⟨_, catB (b := [41]) (by simp only [List.length_append, List.length_cons, List.length_nil]; omega), ?_⟩
    exact Ret.mk _ rfl rfl rfl
   refine ⟨_, eqN k3, ?_⟩
   rw [show (k == 3) = false from beq_eq_false_iff_ne.2 k3, Bool.false_or] at hul ⊢
   by_cases k5 : k = 5
   ·have hT := rText_ok n h3 (by omega)
    have hne : l.isEmpty = false := by
     have : a = 1 := by rw [k5] at hF; simp only [formT, Option.some.injEq, Prod.mk.injEq] at hF; omega
     cases l with
     | nil => simp at h6; omega
     | cons y l => rfl
    have hm : sepA l.isEmpty (moreL k n nm) = [44, 32] ++ textL n := by
     rw [hne]; unfold moreL
     rw [if_neg k3, if_pos k5]
     simp [sepA]
    rw [hm] at hul ⊢
    simp only [List.length_append, List.length_cons, List.length_nil] at hul
    refine ⟨_, eqT k5, ?_⟩
    refine ⟨_, catB (b := [44, 32]) (by show _ + 2 ≤ _; omega), ?_⟩
    refine ⟨_, CallR.mk1 hT rfl rfl, ?_⟩
    refine ⟨_, catB (by simp only [List.length_append, List.length_cons, List.length_nil]; omega), ?_⟩
    refine ⟨_, catB (b := [41]) (by simp only [List.length_append, List.length_cons, List.length_nil]; omega), ?_⟩
    exact Ret.mk _ rfl (by show PV.c (.str (B _)) = PV.c (.str (B _)); simp only [List.append_assoc]) rfl
   refine ⟨_, eqN k5, ?_⟩
   have hT := rNumber_ok n h3 (by omega)
   by_cases k6 : k = 6
   ·have hne : l.isEmpty = false := by
     have : a = 1 := by rw [k6] at hF; simp only [formT, Option.some.injEq, Prod.mk.injEq] at hF; omega
     cases l with
     | nil => simp at h6; omega
     | cons y l => rfl
    have hm : sepA l.isEmpty (moreL k n nm) = [44, 32] ++ intL n := by
     rw [hne]; unfold moreL
     rw [if_neg k3, if_neg k5, if_pos (.inl k6)]
     simp [sepA]
    rw [hm] at hul ⊢
    simp only [List.length_append, List.length_cons, List.length_nil] at hul
    refine ⟨_, eqT k6, ?_⟩
    refine ⟨_, catB (b := [44, 32]) (by show _ + 2 ≤ _; omega), ?_⟩
    refine ⟨_, CallR.mk1 hT rfl rfl, ?_⟩
    refine ⟨_, catB (by simp only [List.length_append, List.length_cons, List.length_nil]; omega), ?_⟩
    refine ⟨_, catB (b := [41]) (by simp only [List.length_append, List.length_cons, List.length_nil]; omega), ?_⟩
    exact Ret.mk _ rfl (by show PV.c (.str (B _)) = PV.c (.str (B _)); simp only [List.append_assoc]) rfl
   refine ⟨_, eqN k6, ?_⟩
   by_cases k11 : k = 11
   ·have hne : l.isEmpty = true := by
     have : a = 0 := by rw [k11] at hF; simp only [formT, Option.some.injEq, Prod.mk.injEq] at hF; omega
     cases l with
     | nil => rfl
     | cons y l => simp at h6; omega
    have hm : sepA l.isEmpty (moreL k n nm) = intL n := by
     rw [hne]; unfold moreL
     rw [if_neg k3, if_neg k5, if_pos (.inr k11)]
     simp [sepA]
    rw [hm] at hul ⊢
    refine ⟨_, eqT k11, ?_⟩
    refine ⟨_, CallR.mk1 hT rfl rfl, ?_⟩
    refine ⟨_, catB (by omega), ?_⟩
    refine ⟨_, catB (b := [41]) (by simp only [List.length_append, List.length_cons, List.length_nil]; omega), ?_⟩
    exact Ret.mk _ rfl rfl rfl
   ·refine ⟨_, eqN k11, ?_⟩
    have hm : sepA l.isEmpty (moreL k n nm) = [] := by
     unfold moreL
     rw [if_neg k3, if_neg k5, if_neg (by omega)]
     cases l.isEmpty <;> rfl
    rw [hm] at hul ⊢
    rw [List.append_nil]
    simp only [List.length_nil] at hul
    refine ⟨_, catB (b := [41]) (by show _ + 1 ≤ _; omega), ?_⟩
    exact Ret.mk _ rfl rfl rfl
termination_by x => SizeOf.sizeOf x
decreasing_by
 have := List.sizeOf_lt_of_mem (List.mem_of_getElem? hy)
 simp only [Go.Proofs.YtgpkppohfodhdaaGreatDoor.Q.S45.mk.sizeOf_spec]
 omega
theorem rRight_ok (x : Ex) (hr : rngE x = true) (hs : size x ≤ 9223372036854775807) : Ok E 37 [] [pE x] (pB (isRight x)) [] := by
 obtain ⟨v, hv⟩ : ∃ v, isRight x = v := ⟨_, rfl⟩
 rw [hv]
 unfold isRight at hv
 have hF := rfine_ok x hr 32 ⟨by omega, by omega⟩
 have hC := rCond_ok x.f0
 have hS := rSize_ok x hs
 rcases Bool.eq_false_or_eq_true (isFine 32 (isCond x.f0) x) with h1 | h1
 rotate_left
 ·rw [fine_cond, h1, Bool.and_false] at hv
  rw [h1] at hF
  have : v = false := hv.symm
  subst this
  obtain ⟨k, n, nm, l⟩ := x
  refine Ok.enter hE Tryz.func37 rfl (by decide +kernel) (by kernel_rfl) rfl rfl (Nat.le_of_ble_eq_true rfl) rfl ?_
  refine ⟨_, CallR.mk1 hF rfl rfl, ?_⟩
  exact Ret.mk _ rfl rfl rfl
 rcases Bool.eq_false_or_eq_true (isCond x.f0) with h2 | h2
 ·rw [fine_cond, h2] at hv
  rw [h1] at hF
  rw [h2] at hC
  have : v = false := hv.symm
  subst this
  obtain ⟨k, n, nm, l⟩ := x
  refine Ok.enter hE Tryz.func37 rfl (by decide +kernel) (by kernel_rfl) rfl rfl (Nat.le_of_ble_eq_true rfl) rfl ?_
  refine ⟨_, CallR.mk1 hF rfl rfl, ?_⟩
  refine ⟨_, CallR.mk1 hC rfl rfl, ?_⟩
  exact Ret.mk _ rfl rfl rfl
 have h3 : isFine 32 false x = true := by rw [← h2]; exact h1
 rw [h3, Bool.true_and] at hv
 rw [h1] at hF
 rw [h2] at hC
 by_cases h4 : size x ≤ 2000
 ·rw [decide_eq_true h4, Bool.true_and] at hv
  have hT := rtext_ok x 32 false h3 (by omega)
  have hl : (B (txtE x)).size = (txtE x).length := B_size _
  obtain ⟨k, n, nm, l⟩ := x
  refine Ok.enter hE Tryz.func37 rfl (by decide +kernel) (by kernel_rfl) rfl rfl (Nat.le_of_ble_eq_true rfl) rfl ?_
  refine ⟨_, CallR.mk1 hF rfl rfl, ?_⟩
  refine ⟨_, CallR.mk1 hC rfl rfl, ?_⟩
  refine ⟨_, CallR.mk1 hS rfl rfl, ?_⟩
  refine ⟨_, leT (by omega), ?_⟩
  refine ⟨_, CallR.mk1 hT rfl rfl, ?_⟩
  refine ⟨_, leV (c := v) (by rw [← hv, hl]; exact decide_eq_decide.2 (by omega)), ?_⟩
  exact Ret.mk _ rfl rfl rfl
 ·rw [decide_eq_false h4] at hv
  have : v = false := hv.symm
  subst this
  obtain ⟨k, n, nm, l⟩ := x
  refine Ok.enter hE Tryz.func37 rfl (by decide +kernel) (by kernel_rfl) rfl rfl (Nat.le_of_ble_eq_true rfl) rfl ?_
  refine ⟨_, CallR.mk1 hF rfl rfl, ?_⟩
  refine ⟨_, CallR.mk1 hC rfl rfl, ?_⟩
  refine ⟨_, CallR.mk1 hS rfl rfl, ?_⟩
  refine ⟨_, leN (by omega), ?_⟩
  exact Ret.mk _ rfl rfl rfl
end Go.Proofs.YtgpkppohfodhdaaGreatDoor.Pm
