/- Texts that are merged: PtP, PtQ, PtQf, PtQt, PtW, PtV, PtX. -/
import Derived.Test.YtjnbhdbpajnlgaaDoorPtAll
import Derived.Test.YtjnbhdbpajnlgaaDoorPx1
/- The document's own answers of layers 2, 6, and words of layer 7, in the pure machine. -/
namespace Go.Proofs.YtjnbhdbpajnlgaaDoor.Pm
open Go Go.RowKit Go.Proofs.YtjnbhdbpajnlgaaDoor.Pl
open Go.Proofs.YtjnbhdbpajnlgaaDoor.Q (rngE rngA txtE txtA sameE sameA formT wordL moreL sepA)
set_option linter.unusedVariables false
set_option maxHeartbeats 1000000
/-! ### layer 2 -/
theorem digs_len (n : Nat) : (digs n).length ≤ 20 := DecT.digs_len n
theorem rdigits_ok (n : Nat) (hn : n ≤ 9223372036854775807) : Ok E 78 [] [pI n] (pS (B (digs n))) [] := by
  have hd := digs_rec n (by omega)
  have IH : ¬ n < 10 → Ok E 78 [] [pI (n / 10 : Nat)] (pS (B (digs (n / 10)))) [] := fun h => rdigits_ok (n / 10) (by omega)
  have hl := digs_len (n / 10)
  have e1 : ((n : Int)).tmod 10 = ((n % 10 : Nat) : Int) := by rw [Int.tmod_eq_emod_of_nonneg (by omega)]; omega
  have e2 : ((n : Int)).tdiv 10 = ((n / 10 : Nat) : Int) := by rw [Int.tdiv_eq_ediv_of_nonneg (by omega)]; omega
  have e3 : UInt8.ofNat (48 + ((n % 10 : Nat) : Int)).toNat = dig n := by
    unfold dig
    congr 1
  refine Ok.enter hE Tryd.func78 rfl (by decide +kernel) (by kernel_rfl) rfl rfl (Nat.le_of_ble_eq_true rfl) rfl ?_
  refine ⟨_, remV (by omega) e1, ?_⟩
  refine ⟨_, addV rfl (by omega) (by omega), ?_⟩
  refine ⟨_, convV (z := 48 + ((n % 10 : Nat) : Int)) rfl rfl (by simp [IntKind.wrap, IntKind.bits, IntKind.signed]; omega), ?_⟩
  refine ⟨_, ⟨_, rfl, rfl⟩, ?_⟩
  refine ⟨_, convBV (l := [dig n]) rfl rfl rfl (by
    show bytesF [[CV.int .u8 (48 + ((n % 10 : Nat) : Int))]] = _
    rw [bytesF, decide_eq_true (by omega)]
    show some [UInt8.ofNat (48 + ((n % 10 : Nat) : Int)).toNat] = _
    rw [e3]), ?_⟩
  by_cases h : n < 10
  · refine ⟨_, geN (by omega), ?_⟩
    rw [if_pos h] at hd
    exact Ret.mk _ rfl (by show PV.c (.str (B [dig n])) = _; rw [hd]) rfl
  · rw [if_neg h] at hd
    refine ⟨_, geT (by omega), ?_⟩
    refine ⟨_, quoV (by omega) e2 (by omega) (by omega), ?_⟩
    refine ⟨_, CallR.mk1 (IH h) rfl rfl, ?_⟩
    refine ⟨_, catV (s := B (digs n)) (by rw [hd]; exact B_append _ _) (by rw [B_size]; show _ + 1 ≤ _; omega), ?_⟩
    exact Ret.mk _ rfl rfl rfl
termination_by n
decreasing_by omega
theorem rNumber_ok (n : Int) (h0 : 0 ≤ n) (h1 : n ≤ 9223372036854775807) : Ok E 57 [] [pI n] (pS (B (intL n))) [] := by
  obtain ⟨m, rfl⟩ : ∃ m : Nat, n = m := ⟨n.toNat, by omega⟩
  have hd := rdigits_ok m (by omega)
  have e : intL (m : Int) = digs m := by unfold intL; rw [if_neg (by omega)]; rfl
  rw [e]
  refine Ok.enter hE Tryd.func57 rfl (by decide +kernel) (by kernel_rfl) rfl rfl (Nat.le_of_ble_eq_true rfl) rfl ?_
  refine ⟨_, geT h0, ?_⟩
  refine ⟨_, CallR.mk1 hd rfl rfl, ?_⟩
  exact Ret.mk _ rfl rfl rfl
theorem rText_ok (n : Int) (h0 : 0 ≤ n) (h1 : n ≤ 1000000000000) : Ok E 68 [] [pI n] (pS (B (textL n))) [] := by
  obtain ⟨m, rfl⟩ : ∃ m : Nat, n = m := ⟨n.toNat, by omega⟩
  have hd1 := rdigits_ok (m / 100) (by omega)
  have hd2 := rdigits_ok (m / 10 % 10) (by omega)
  have hd3 := rdigits_ok (m % 10) (by omega)
  have q1 : digs (m / 10 % 10) = [dig (m / 10)] := by rw [digs_one (by omega)]; unfold dig; congr 2; omega
  have q2 : digs (m % 10) = [dig m] := by rw [digs_one (by omega)]; unfold dig; congr 2; omega
  rw [q1] at hd2
  rw [q2] at hd3
  have ht : textL (m : Int) = digs (m / 100) ++ [46, dig (m / 10), dig m] := by
    rw [textL_ok ⟨by omega, h1⟩, if_neg (by omega)]; rfl
  rw [ht]
  have hl := digs_len (m / 100)
  have e1 : ((m : Int)).tdiv 100 = ((m / 100 : Nat) : Int) := by rw [Int.tdiv_eq_ediv_of_nonneg (by omega)]; omega
  have e2 : ((m : Int)).tdiv 10 = ((m / 10 : Nat) : Int) := by rw [Int.tdiv_eq_ediv_of_nonneg (by omega)]; omega
  have e3 : (((m / 10 : Nat) : Int)).tmod 10 = ((m / 10 % 10 : Nat) : Int) := by rw [Int.tmod_eq_emod_of_nonneg (by omega)]; omega
  have e4 : ((m : Int)).tmod 10 = ((m % 10 : Nat) : Int) := by rw [Int.tmod_eq_emod_of_nonneg (by omega)]; omega
  refine Ok.enter hE Tryd.func68 rfl (by decide +kernel) (by kernel_rfl) rfl rfl (Nat.le_of_ble_eq_true rfl) rfl ?_
  refine ⟨_, ltN (by omega), ?_⟩
  refine ⟨_, gtN (by omega), ?_⟩
  refine ⟨_, ltN (by omega), ?_⟩
  refine ⟨_, quoV (by omega) e1 (by omega) (by omega), ?_⟩
  refine ⟨_, CallR.mk1 hd1 rfl rfl, ?_⟩
  refine ⟨_, catV (s := B (digs (m / 100) ++ [46])) (B_append _ _) (by rw [B_size]; show _ + 1 ≤ _; omega), ?_⟩
  refine ⟨_, quoV (by omega) e2 (by omega) (by omega), ?_⟩
  refine ⟨_, remV (by omega) e3, ?_⟩
  refine ⟨_, CallR.mk1 hd2 rfl rfl, ?_⟩
  refine ⟨_, catV (s := B (digs (m / 100) ++ [46, dig (m / 10)])) (by rw [B_append, List.append_assoc]; rfl) (by rw [B_size, B_size]; simp; omega), ?_⟩
  refine ⟨_, remV (by omega) e4, ?_⟩
  refine ⟨_, CallR.mk1 hd3 rfl rfl, ?_⟩
  refine ⟨_, catV (s := B (digs (m / 100) ++ [46, dig (m / 10), dig m])) (by rw [B_append, List.append_assoc]; rfl) (by rw [B_size, B_size]; simp; omega), ?_⟩
  exact Ret.mk _ rfl rfl rfl
/-! ### layer 6 -/
def letterB (c : UInt8) : Bool := decide (97 ≤ c.toNat) && decide (c.toNat ≤ 122)
def digitB (c : UInt8) : Bool := decide (48 ≤ c.toNat) && decide (c.toNat ≤ 57)
theorem rletter_ok (c : UInt8) : Ok E 61 [] [.c (.int .u8 c.toNat)] (pB (letterB c)) [] := by
  obtain ⟨v, hv⟩ : ∃ v, letterB c = v := ⟨_, rfl⟩
  rw [hv]
  unfold letterB at hv
  refine Ok.enter hE Tryd.func61 rfl (by decide +kernel) (by kernel_rfl) rfl rfl (Nat.le_of_ble_eq_true rfl) rfl ?_
  by_cases h : 97 ≤ c.toNat
  · rw [decide_eq_true h, Bool.true_and] at hv
    refine ⟨_, geT (by omega), ?_⟩
    refine ⟨_, leV (c := v) (by rw [← hv]; exact decide_eq_decide.2 (by omega)), ?_⟩
    exact Ret.mk _ rfl rfl rfl
  · rw [decide_eq_false h, Bool.false_and] at hv
    subst hv
    refine ⟨_, geN (by omega), ?_⟩
    exact Ret.mk _ rfl rfl rfl
theorem rdigit_ok (c : UInt8) : Ok E 62 [] [.c (.int .u8 c.toNat)] (pB (digitB c)) [] := by
  obtain ⟨v, hv⟩ : ∃ v, digitB c = v := ⟨_, rfl⟩
  rw [hv]
  unfold digitB at hv
  refine Ok.enter hE Tryd.func62 rfl (by decide +kernel) (by kernel_rfl) rfl rfl (Nat.le_of_ble_eq_true rfl) rfl ?_
  by_cases h : 48 ≤ c.toNat
  · rw [decide_eq_true h, Bool.true_and] at hv
    refine ⟨_, geT (by omega), ?_⟩
    refine ⟨_, leV (c := v) (by rw [← hv]; exact decide_eq_decide.2 (by omega)), ?_⟩
    exact Ret.mk _ rfl rfl rfl
  · rw [decide_eq_false h, Bool.false_and] at hv
    subst hv
    refine ⟨_, geN (by omega), ?_⟩
    exact Ret.mk _ rfl rfl rfl
theorem contains_drop (zs : List ByteArray) (s w : ByteArray) (j : Nat) (h : zs[j]? = some w) : Lib.containsS (zs.drop j) s = ((w.toList == s.toList) || Lib.containsS (zs.drop (j + 1)) s) := by
  have hjl := (List.getElem?_eq_some_iff.1 h).1
  have hd : zs.drop j = w :: zs.drop (j + 1) := by
    rw [List.drop_eq_getElem_cons hjl]
    congr 1
    rw [List.getElem?_eq_getElem hjl] at h
    exact Option.some.inj h
  rw [hd]
  have e : (w.toList == s.toList) = true ↔ s = w := by
    rw [beq_iff_eq, toList_data, toList_data]
    constructor
    · intro h
      apply ByteArray.ext
      apply Array.ext'
      exact h.symm
    · intro h; rw [h]
  rw [Bool.eq_iff_iff, Lib.containsS_iff, Bool.or_eq_true, e, Lib.containsS_iff, List.mem_cons]
def wordRow : List (List CV) := Q.wordsB.map fun w => [.str w]
theorem rWord_ok (s : ByteArray) : Ok E 82 [] [pS s] (pB (Lib.containsS Q.wordsB s)) [] := by
  obtain ⟨v, hv⟩ : ∃ v, Lib.containsS Q.wordsB s = v := ⟨_, rfl⟩
  rw [hv]
  have hlen : Q.wordsB.length = 11 := rfl
  have hrow : wordRow.length = 11 := rfl
  refine Ok.enter hE Tryd.func82 rfl (by decide +kernel) (by kernel_rfl) rfl rfl (Nat.le_of_ble_eq_true rfl) rfl ?_
  refine ⟨_, ⟨_, rfl, rfl⟩, ?_⟩
  refine Loop.run (α := Nat) (fun j => j ≤ 11 ∧ Lib.containsS (Q.wordsB.drop j) s = v) (fun j => [(0, pS s), (3, .c (.row wordRow)), (4, pI j)]) (fun _ => []) (fun _ => []) (fun j => 11 - j) 0 ⟨Nat.zero_le _, hv⟩ ⟨⟨rfl, rfl, rfl, trivial⟩, rfl, rfl⟩ ?_
  rintro j f ⟨hj, hjv⟩
  by_cases hjl : j < 11
  · obtain ⟨w, hw⟩ : ∃ w, Q.wordsB[j]? = some w := ⟨_, List.getElem?_eq_getElem (by omega)⟩
    rw [contains_drop _ _ _ _ hw] at hjv
    have hx : wordRow[j]? = some [.str w] := by unfold wordRow; rw [List.getElem?_map, hw]; rfl
    refine ⟨_, ltT (by rw [hrow]; omega), ?_⟩
    refine ⟨_, idxV (j := j) hx rfl rfl rfl rfl, ?_⟩
    rcases Bool.eq_false_or_eq_true (w.toList == s.toList) with he | he
    · rw [he, Bool.true_or] at hjv
      refine ⟨_, strEqV he, ?_⟩
      exact Ret.mk _ rfl (congrArg (fun b : Bool => pB b) hjv) rfl
    · rw [he, Bool.false_or] at hjv
      refine ⟨_, strEqV he, ?_⟩
      refine ⟨_, addV rfl (by omega) (by omega), ?_⟩
      exact ⟨j + 1, ⟨hjl, hjv⟩, by omega, ⟨rfl, rfl, rfl, trivial⟩, rfl, rfl⟩
  · refine ⟨_, ltN (by rw [hrow]; omega), ?_⟩
    rw [List.drop_of_length_le (by omega)] at hjv
    exact Ret.mk _ rfl (congrArg (fun b : Bool => pB b) (show false = v from hjv)) rfl
theorem in_letter : ∀ c : UInt8, inB abcB c = letterB c := by
  have h : ∀ n : Nat, n < 256 → inB abcB (UInt8.ofNat n) = letterB (UInt8.ofNat n) := by decide +kernel
  intro c
  have := h c.toNat c.toNat_lt
  rwa [UInt8.ofNat_toNat] at this
theorem in_part : ∀ c : UInt8, inB abc9B c = (letterB c || digitB c) := by
  have h : ∀ n : Nat, n < 256 → inB abc9B (UInt8.ofNat n) = (letterB (UInt8.ofNat n) || digitB (UInt8.ofNat n)) := by decide +kernel
  intro c
  have := h c.toNat c.toNat_lt
  rwa [UInt8.ofNat_toNat] at this
theorem run_all (set : ByteArray) : ∀ l : List UInt8, decide (runB set l = l.length) = l.all (inB set)
  | [] => rfl
  | c :: l => by
    rw [List.all_cons, ← run_all set l, runB]
    rcases Bool.eq_false_or_eq_true (inB set c) with h | h
    · rw [h, if_pos rfl, Bool.true_and]; exact decide_eq_decide.2 (by simp)
    · rw [h, if_neg (by simp), Bool.false_and]; exact decide_eq_false (by simp)
theorem rName_ok (s : ByteArray) : Ok E 59 [] [pS s] (pB (isName s)) [] := by
  have hsz : s.data.toList.length = s.size := by simp
  have hw := rWord_ok s
  obtain ⟨v, hv⟩ : ∃ v, isName s = v := ⟨_, rfl⟩
  rw [hv]
  unfold isName at hv
  cases hl : s.data.toList with
  | nil =>
    rw [hl] at hv
    subst hv
    refine Ok.enter hE Tryd.func59 rfl (by decide +kernel) (by kernel_rfl) rfl rfl (Nat.le_of_ble_eq_true rfl) rfl ?_
    refine ⟨_, strEqV (c := true) (by rw [toList_data, toList_data, hl]; rfl), ?_⟩
    exact Ret.mk _ rfl rfl rfl
  | cons c l =>
    have hal := run_all abc9B (c :: l)
    rw [← hl] at hal
    rw [hl] at hv
    dsimp only at hv
    rw [← hl, ← hsz, hal, in_letter] at hv
    have h0 := rletter_ok c
    refine Ok.enter hE Tryd.func59 rfl (by decide +kernel) (by kernel_rfl) rfl rfl (Nat.le_of_ble_eq_true rfl) rfl ?_
    refine ⟨_, strEqV (c := false) (by rw [toList_data, toList_data, hl]; rfl), ?_⟩
    by_cases h12 : s.size ≤ 12
    rotate_left
    · rw [hsz, decide_eq_false h12] at hv
      refine ⟨_, gtT (by omega), ?_⟩
      exact Ret.mk _ rfl (congrArg (fun b : Bool => pB b) (show false = v from hv)) rfl
    rw [hsz, decide_eq_true h12, Bool.true_and] at hv
    refine ⟨_, gtN (by omega), ?_⟩
    refine ⟨_, idxSV 0 c rfl rfl (by rw [hl]; rfl), ?_⟩
    rcases Bool.eq_false_or_eq_true (letterB c) with hin | hin
    rotate_left
    · rw [hin] at hv h0
      refine ⟨_, CallR.mk1 h0 rfl rfl, ?_⟩
      exact Ret.mk _ rfl (congrArg (fun b : Bool => pB b) (show false = v from hv)) rfl
    rw [hin] at hv h0
    rw [Bool.true_and] at hv
    refine ⟨_, CallR.mk1 h0 rfl rfl, ?_⟩
    rcases Bool.eq_false_or_eq_true (Lib.containsS Q.wordsB s) with hww | hww
    · rw [hww] at hv hw
      rw [show (!true) = false from rfl, Bool.and_false] at hv
      refine ⟨_, CallR.mk1 hw rfl rfl, ?_⟩
      exact Ret.mk _ rfl (congrArg (fun b : Bool => pB b) hv) rfl
    rw [hww] at hv hw
    rw [show (!false) = true from rfl, Bool.and_true] at hv
    refine ⟨_, CallR.mk1 hw rfl rfl, ?_⟩
    refine Loop.run (α := Nat) (fun j => j ≤ s.size ∧ (s.data.toList.drop j).all (inB abc9B) = v) (fun j => [(0, pS s), (3, pI j)]) (fun _ => []) (fun _ => []) (fun j => s.size - j) 0 ⟨Nat.zero_le _, hv⟩ ⟨⟨rfl, rfl, trivial⟩, rfl, rfl⟩ ?_
    rintro j f ⟨hj, hjv⟩
    by_cases hjl : j < s.size
    · obtain ⟨b, hb⟩ : ∃ b, s.data.toList[j]? = some b := ⟨_, List.getElem?_eq_getElem (by omega)⟩
      have hd : s.data.toList.drop j = b :: s.data.toList.drop (j + 1) := by
        rw [List.drop_eq_getElem_cons (by omega)]
        congr 1
        rw [List.getElem?_eq_getElem (by omega)] at hb
        exact Option.some.inj hb
      rw [hd, List.all_cons, in_part] at hjv
      have hA := rletter_ok b
      have hD := rdigit_ok b
      refine ⟨_, ltT (by omega), ?_⟩
      refine ⟨_, idxSV j b rfl rfl hb, ?_⟩
      rcases Bool.eq_false_or_eq_true (letterB b) with ha | ha
      · rw [ha] at hjv hA
        rw [Bool.true_or, Bool.true_and] at hjv
        refine ⟨_, CallR.mk1 hA rfl rfl, ?_⟩
        refine ⟨_, addV rfl (by omega) (by omega), ?_⟩
        exact ⟨j + 1, ⟨hjl, hjv⟩, by omega, ⟨rfl, rfl, trivial⟩, rfl, rfl⟩
      · rw [ha] at hjv hA
        rw [Bool.false_or] at hjv
        refine ⟨_, CallR.mk1 hA rfl rfl, ?_⟩
        refine ⟨_, idxSV j b rfl rfl hb, ?_⟩
        rcases Bool.eq_false_or_eq_true (digitB b) with hdg | hdg
        · rw [hdg] at hjv hD
          rw [Bool.true_and] at hjv
          refine ⟨_, CallR.mk1 hD rfl rfl, ?_⟩
          refine ⟨_, addV rfl (by omega) (by omega), ?_⟩
          exact ⟨j + 1, ⟨hjl, hjv⟩, by omega, ⟨rfl, rfl, trivial⟩, rfl, rfl⟩
        · rw [hdg] at hjv hD
          refine ⟨_, CallR.mk1 hD rfl rfl, ?_⟩
          exact Ret.mk _ rfl (congrArg (fun b : Bool => pB b) (show false = v from hjv)) rfl
    · refine ⟨_, ltN (by omega), ?_⟩
      rw [List.drop_of_length_le (by omega)] at hjv
      exact Ret.mk _ rfl (congrArg (fun b : Bool => pB b) (show true = v from hjv)) rfl
end Go.Proofs.YtjnbhdbpajnlgaaDoor.Pm

/- The document's own answers of layer 7, in the pure machine. -/
namespace Go.Proofs.YtjnbhdbpajnlgaaDoor.Pm
open Go Go.RowKit Go.Proofs.YtjnbhdbpajnlgaaDoor.Pl
open Go.Proofs.YtjnbhdbpajnlgaaDoor.Q (rngE rngA txtE txtA sameE sameA formT wordL moreL sepA)
set_option linter.unusedVariables false
set_option maxHeartbeats 1000000
theorem rSize_ok : ∀ (x : Ex), size x ≤ 9223372036854775807 → Ok E 22 [] [pE x] (pI (size x)) []
  | ⟨k, n, nm, l⟩, h => by
    have h' : 1 + sizeL l ≤ 9223372036854775807 := by rw [size] at h; exact h
    have hll := sizeL_len l
    have hel := enc_len l
    refine Ok.enter hE Tryd.func22 rfl (by decide +kernel) (by kernel_rfl) rfl rfl (Nat.le_of_ble_eq_true rfl) rfl ?_
    refine Loop.cut (α := Nat) (fun j => j ≤ l.length) (fun j => [(1, .ptr 0 0), (3, pI (1 + sizeL (l.take j))), (4, pI j)]) (fun j => [(cellsE ⟨k, n, nm, l⟩).map .c]) (fun _ => []) (fun j => l.length - j) 0 1 (fun _ => rfl) (fun _ => rfl) (fun _ => rfl) (Nat.zero_le _) ⟨⟨rfl, ?_, rfl, trivial⟩, rfl, rfl⟩ ?_
    · show PV.c _ = _; rw [List.take_zero, sizeL]; rfl
    intro j f hj
    by_cases hjl : j < l.length
    · obtain ⟨y, hy⟩ : ∃ y, l[j]? = some y := ⟨_, List.getElem?_eq_getElem hjl⟩
      have hst := sizeL_take l j y hy
      have hle := sizeL_le l (j + 1)
      have hp := sizeL_pos (l.take j)
      have hpy := size_pos y
      refine ⟨_, ltT (by show (j : Int) < ((encL l).length : Int); omega), ?_⟩
      refine ⟨_, idxV (j := j) (enc_get hy) rfl rfl rfl rfl, ?_⟩
      refine ⟨_, CallR.mk1 (rSize_ok y (by omega)) rfl rfl, ?_⟩
      refine ⟨_, addV (z := 1 + sizeL (l.take (j + 1))) (by omega) (by omega) (by omega), ?_⟩
      refine ⟨_, addV rfl (by omega) (by omega), ?_⟩
      exact ⟨j + 1, hjl, by omega, ⟨rfl, rfl, rfl, trivial⟩, ⟨_, rfl⟩, rfl⟩
    · refine ⟨_, ltN (by show ¬ (j : Int) < ((encL l).length : Int); omega), ?_⟩
      have : j = l.length := by omega
      exact Ret.mk _ rfl (by show PV.c _ = _; rw [this, List.take_length, size]) rfl
termination_by x => SizeOf.sizeOf x
decreasing_by
  have := List.sizeOf_lt_of_mem (List.mem_of_getElem? hy)
  simp only [Go.Proofs.YtjnbhdbpajnlgaaDoor.Q.S26.mk.sizeOf_spec]
  omega
theorem rDeep_ok : ∀ (x : Ex), size x ≤ 9223372036854775807 → Ok E 24 [] [pE x] (pI (deep x)) []
  | ⟨k, n, nm, l⟩, h => by
    have h' : 1 + sizeL l ≤ 9223372036854775807 := by rw [size] at h; exact h
    have hll := sizeL_len l
    have hel := enc_len l
    refine Ok.enter hE Tryd.func24 rfl (by decide +kernel) (by kernel_rfl) rfl rfl (Nat.le_of_ble_eq_true rfl) rfl ?_
    refine Loop.cut (α := Nat) (fun j => j ≤ l.length) (fun j => [(1, .ptr 0 0), (3, pI (deepL (l.take j))), (4, pI j)]) (fun j => [(cellsE ⟨k, n, nm, l⟩).map .c]) (fun _ => []) (fun j => l.length - j) 0 1 (fun _ => rfl) (fun _ => rfl) (fun _ => rfl) (Nat.zero_le _) ⟨⟨rfl, ?_, rfl, trivial⟩, rfl, rfl⟩ ?_
    · show PV.c _ = _; rw [List.take_zero, deepL]
    intro j f hj
    by_cases hjl : j < l.length
    · obtain ⟨y, hy⟩ : ∃ y, l[j]? = some y := ⟨_, List.getElem?_eq_getElem hjl⟩
      have hst := deepL_take l j y hy
      have hss := sizeL_take l j y hy
      have hle := sizeL_le l (j + 1)
      have hp := sizeL_pos (l.take j)
      refine ⟨_, ltT (by show (j : Int) < ((encL l).length : Int); omega), ?_⟩
      refine ⟨_, idxV (j := j) (enc_get hy) rfl rfl rfl rfl, ?_⟩
      refine ⟨_, CallR.mk1 (rDeep_ok y (by omega)) rfl rfl, ?_⟩
      refine ⟨_, maxV hst.symm, ?_⟩
      refine ⟨_, addV rfl (by omega) (by omega), ?_⟩
      exact ⟨j + 1, hjl, by omega, ⟨rfl, rfl, rfl, trivial⟩, ⟨_, rfl⟩, rfl⟩
    · refine ⟨_, ltN (by show ¬ (j : Int) < ((encL l).length : Int); omega), ?_⟩
      have : j = l.length := by omega
      subst this
      have hd := deepL_le l
      refine ⟨_, addV (z := deep ⟨k, n, nm, l⟩) (by rw [List.take_length, deep]; omega) (by rw [deep]; omega) (by rw [deep]; omega), ?_⟩
      exact Ret.mk _ rfl rfl rfl
termination_by x => SizeOf.sizeOf x
decreasing_by
  have := List.sizeOf_lt_of_mem (List.mem_of_getElem? hy)
  simp only [Go.Proofs.YtjnbhdbpajnlgaaDoor.Q.S26.mk.sizeOf_spec]
  omega
theorem same_diff {l m : List Ex} (h : l.length ≠ m.length) : sameA l m = false := Q.sameA_len l m h
theorem drop_cons {α : Type} {l : List α} {j : Nat} {y : α} (hy : l[j]? = some y) : l.drop j = y :: l.drop (j + 1) := by
  have hjl := (List.getElem?_eq_some_iff.1 hy).1
  rw [List.drop_eq_getElem_cons hjl]
  congr 1
  rw [List.getElem?_eq_getElem hjl] at hy
  exact Option.some.inj hy
theorem rSame_ok : ∀ (x y : Ex), size x ≤ 9223372036854775807 → Ok E 26 [] [pE x, pE y] (pB (sameE x y)) []
  | ⟨k, n, nm, l⟩, ⟨k', n', nm', l'⟩, h => by
    have h' : 1 + sizeL l ≤ 9223372036854775807 := by rw [size] at h; exact h
    have hll := sizeL_len l
    have hel := enc_len l
    have hel' := enc_len l'
    obtain ⟨v, hv⟩ : ∃ v, sameE ⟨k, n, nm, l⟩ ⟨k', n', nm', l'⟩ = v := ⟨_, rfl⟩
    rw [hv]
    rw [sameE] at hv
    dsimp only at hv
    by_cases h1 : k = k'
    rotate_left
    · rw [show (k == k') = false from beq_eq_false_iff_ne.2 h1, Bool.false_and] at hv
      subst hv
      refine Ok.enter hE Tryd.func26 rfl (by decide +kernel) (by kernel_rfl) rfl rfl (Nat.le_of_ble_eq_true rfl) rfl ?_
      refine ⟨_, neT h1, ?_⟩
      exact Ret.mk _ rfl rfl rfl
    rw [show (k == k') = true from beq_iff_eq.2 h1, Bool.true_and] at hv
    by_cases h2 : n = n'
    rotate_left
    · rw [show (n == n') = false from beq_eq_false_iff_ne.2 h2, Bool.false_and] at hv
      subst hv
      refine Ok.enter hE Tryd.func26 rfl (by decide +kernel) (by kernel_rfl) rfl rfl (Nat.le_of_ble_eq_true rfl) rfl ?_
      refine ⟨_, neN h1, ?_⟩
      refine ⟨_, neT h2, ?_⟩
      exact Ret.mk _ rfl rfl rfl
    rw [show (n == n') = true from beq_iff_eq.2 h2, Bool.true_and] at hv
    rcases Bool.eq_false_or_eq_true (nm.toList == nm'.toList) with h3 | h3
    rotate_left
    · rw [h3, Bool.false_and] at hv
      subst hv
      refine Ok.enter hE Tryd.func26 rfl (by decide +kernel) (by kernel_rfl) rfl rfl (Nat.le_of_ble_eq_true rfl) rfl ?_
      refine ⟨_, neN h1, ?_⟩
      refine ⟨_, neN h2, ?_⟩
      refine ⟨_, strNeV (c := true) (by rw [h3]; rfl), ?_⟩
      exact Ret.mk _ rfl rfl rfl
    rw [h3, Bool.true_and] at hv
    by_cases h4 : l.length = l'.length
    rotate_left
    · rw [same_diff h4] at hv
      subst hv
      refine Ok.enter hE Tryd.func26 rfl (by decide +kernel) (by kernel_rfl) rfl rfl (Nat.le_of_ble_eq_true rfl) rfl ?_
      refine ⟨_, neN h1, ?_⟩
      refine ⟨_, neN h2, ?_⟩
      refine ⟨_, strNeV (c := false) (by rw [h3]; rfl), ?_⟩
      refine ⟨_, neT (by show ((encL l).length : Int) ≠ ((encL l').length : Int); omega), ?_⟩
      exact Ret.mk _ rfl rfl rfl
    refine Ok.enter hE Tryd.func26 rfl (by decide +kernel) (by kernel_rfl) rfl rfl (Nat.le_of_ble_eq_true rfl) rfl ?_
    refine ⟨_, neN h1, ?_⟩
    refine ⟨_, neN h2, ?_⟩
    refine ⟨_, strNeV (c := false) (by rw [h3]; rfl), ?_⟩
    refine ⟨_, neN (by show ((encL l).length : Int) = ((encL l').length : Int); omega), ?_⟩
    refine Loop.cut (α := Nat) (fun j => j ≤ l.length ∧ sameA (l.drop j) (l'.drop j) = v) (fun j => [(2, .ptr 0 0), (3, .ptr 1 0), (5, pI j)]) (fun j => [(cellsE ⟨k, n, nm, l⟩).map .c, (cellsE ⟨k', n', nm', l'⟩).map .c]) (fun _ => []) (fun j => l.length - j) 0 2 (fun _ => rfl) (fun _ => rfl) (fun _ => rfl) ⟨Nat.zero_le _, hv⟩ ⟨⟨rfl, rfl, rfl, trivial⟩, rfl, rfl⟩ ?_
    rintro j f ⟨hj, hjv⟩
    by_cases hjl : j < l.length
    · obtain ⟨y, hy⟩ : ∃ y, l[j]? = some y := ⟨_, List.getElem?_eq_getElem hjl⟩
      obtain ⟨y', hy'⟩ : ∃ y, l'[j]? = some y := ⟨_, List.getElem?_eq_getElem (by omega)⟩
      have hst := sizeL_mem l y (List.mem_of_getElem? hy)
      rw [drop_cons hy, drop_cons hy', sameA] at hjv
      have IH := rSame_ok y y' (by omega)
      refine ⟨_, ltT (by show (j : Int) < ((encL l).length : Int); omega), ?_⟩
      refine ⟨_, idxV (j := j) (enc_get hy) rfl rfl rfl rfl, ?_⟩
      refine ⟨_, idxV (j := j) (enc_get hy') rfl rfl rfl rfl, ?_⟩
      rcases Bool.eq_false_or_eq_true (sameE y y') with he | he
      · rw [he] at hjv IH
        rw [Bool.true_and] at hjv
        refine ⟨_, CallR.mk1 IH rfl rfl, ?_⟩
        refine ⟨_, addV rfl (by omega) (by omega), ?_⟩
        exact ⟨j + 1, ⟨hjl, hjv⟩, by omega, ⟨rfl, rfl, rfl, trivial⟩, ⟨_, rfl⟩, rfl⟩
      · rw [he] at hjv IH
        refine ⟨_, CallR.mk1 IH rfl rfl, ?_⟩
        exact Ret.mk _ rfl (congrArg (fun b : Bool => pB b) (show false = v from hjv)) rfl
    · refine ⟨_, ltN (by show ¬ (j : Int) < ((encL l).length : Int); omega), ?_⟩
      rw [List.drop_of_length_le (by omega), List.drop_of_length_le (by omega)] at hjv
      exact Ret.mk _ rfl (congrArg (fun b : Bool => pB b) (show true = v from hjv)) rfl
termination_by x => SizeOf.sizeOf x
decreasing_by
  have := List.sizeOf_lt_of_mem (List.mem_of_getElem? hy)
  simp only [Go.Proofs.YtjnbhdbpajnlgaaDoor.Q.S26.mk.sizeOf_spec]
  omega
theorem rCond_ok (k : Int) : Ok E 47 [] [pI k] (pB (isCond k)) [] := by
  obtain ⟨v, hv⟩ : ∃ v, isCond k = v := ⟨_, rfl⟩
  rw [hv]
  unfold isCond at hv
  refine Ok.enter hE Tryd.func47 rfl (by decide +kernel) (by kernel_rfl) rfl rfl (Nat.le_of_ble_eq_true rfl) rfl ?_
  by_cases h : k = 11
  · rw [decide_eq_true h, Bool.true_or] at hv; subst hv
    refine ⟨_, eqT h, ?_⟩
    exact Ret.mk _ rfl rfl rfl
  · rw [decide_eq_false h, Bool.false_or] at hv
    refine ⟨_, eqN h, ?_⟩
    refine ⟨_, eqV (c := v) (by rw [← hv]; rfl), ?_⟩
    exact Ret.mk _ rfl rfl rfl
def mostF (k : Int) : Int := if k = 4 ∨ k = 5 then 1000000000000 else if k = 6 then 100000 else if k = 11 then 1000 else 0
theorem rmost_ok (k : Int) : Ok E 72 [] [pI k] (pI (mostF k)) [] := by
  obtain ⟨v, hv⟩ : ∃ v, mostF k = v := ⟨_, rfl⟩
  rw [hv]
  unfold mostF at hv
  refine Ok.enter hE Tryd.func72 rfl (by decide +kernel) (by kernel_rfl) rfl rfl (Nat.le_of_ble_eq_true rfl) rfl ?_
  by_cases h4 : k = 4
  · rw [if_pos (.inl h4)] at hv; subst hv
    refine ⟨_, eqT h4, ?_⟩
    exact Ret.mk _ rfl rfl rfl
  refine ⟨_, eqN h4, ?_⟩
  by_cases h5 : k = 5
  · rw [if_pos (.inr h5)] at hv; subst hv
    refine ⟨_, eqT h5, ?_⟩
    exact Ret.mk _ rfl rfl rfl
  refine ⟨_, eqN h5, ?_⟩
  rw [if_neg (by omega)] at hv
  by_cases h6 : k = 6
  · rw [if_pos h6] at hv; subst hv
    refine ⟨_, eqT h6, ?_⟩
    exact Ret.mk _ rfl rfl rfl
  refine ⟨_, eqN h6, ?_⟩
  rw [if_neg h6] at hv
  by_cases h11 : k = 11
  · rw [if_pos h11] at hv; subst hv
    refine ⟨_, eqT h11, ?_⟩
    exact Ret.mk _ rfl rfl rfl
  refine ⟨_, eqN h11, ?_⟩
  rw [if_neg h11] at hv; subst hv
  exact Ret.mk _ rfl rfl rfl
theorem rWordK_ok (k : Int) : Ok E 67 [] [pI k] (pS (B (wordL k))) [] := by
  rcases Q.form_kinds k with ho | ho
  · have hw : B (wordL k) = ⟨#[]⟩ := by unfold wordL; rw [Q.formT_out k ho]; rfl
    rw [hw]
    refine Ok.enter hE Tryd.func67 rfl (by decide +kernel) (by kernel_rfl) rfl rfl (Nat.le_of_ble_eq_true rfl) rfl ?_
    refine ⟨_, ⟨_, rfl, rfl⟩, ?_⟩
    by_cases h0 : k < 0
    · refine ⟨_, ltT h0, ?_⟩
      exact Ret.mk _ rfl rfl rfl
    refine ⟨_, ltN h0, ?_⟩
    by_cases h13 : 13 ≤ k
    · refine ⟨_, geT h13, ?_⟩
      exact Ret.mk _ rfl rfl rfl
    refine ⟨_, geN (by show ¬ (k ≥ 13); omega), ?_⟩
    have hk : k = 0 := by omega
    subst hk
    refine ⟨_, idxV (j := 0) rfl rfl rfl rfl rfl, ?_⟩
    exact Ret.mk _ rfl rfl rfl
  · rcases ho with rfl | rfl | rfl | rfl | rfl | rfl | rfl | rfl | rfl | rfl | rfl | rfl
    all_goals
      refine Ok.enter hE Tryd.func67 rfl (by decide +kernel) (by kernel_rfl) rfl rfl (Nat.le_of_ble_eq_true rfl) rfl ?_
      refine ⟨_, ⟨_, rfl, rfl⟩, ?_⟩
      refine ⟨_, ltN (by decide), ?_⟩
      refine ⟨_, geN (by decide), ?_⟩
    · refine ⟨_, idxV (j := 1) rfl rfl rfl rfl rfl, ?_⟩; exact Ret.mk _ rfl rfl rfl
    · refine ⟨_, idxV (j := 2) rfl rfl rfl rfl rfl, ?_⟩; exact Ret.mk _ rfl rfl rfl
    · refine ⟨_, idxV (j := 3) rfl rfl rfl rfl rfl, ?_⟩; exact Ret.mk _ rfl rfl rfl
    · refine ⟨_, idxV (j := 4) rfl rfl rfl rfl rfl, ?_⟩; exact Ret.mk _ rfl rfl rfl
    · refine ⟨_, idxV (j := 5) rfl rfl rfl rfl rfl, ?_⟩; exact Ret.mk _ rfl rfl rfl
    · refine ⟨_, idxV (j := 6) rfl rfl rfl rfl rfl, ?_⟩; exact Ret.mk _ rfl rfl rfl
    · refine ⟨_, idxV (j := 7) rfl rfl rfl rfl rfl, ?_⟩; exact Ret.mk _ rfl rfl rfl
    · refine ⟨_, idxV (j := 8) rfl rfl rfl rfl rfl, ?_⟩; exact Ret.mk _ rfl rfl rfl
    · refine ⟨_, idxV (j := 9) rfl rfl rfl rfl rfl, ?_⟩; exact Ret.mk _ rfl rfl rfl
    · refine ⟨_, idxV (j := 10) rfl rfl rfl rfl rfl, ?_⟩; exact Ret.mk _ rfl rfl rfl
    · refine ⟨_, idxV (j := 11) rfl rfl rfl rfl rfl, ?_⟩; exact Ret.mk _ rfl rfl rfl
    · refine ⟨_, idxV (j := 12) rfl rfl rfl rfl rfl, ?_⟩; exact Ret.mk _ rfl rfl rfl
end Go.Proofs.YtjnbhdbpajnlgaaDoor.Pm

/- The document's fine, text, Right, Print of layer 7, in the pure machine. -/
namespace Go.Proofs.YtjnbhdbpajnlgaaDoor.Pm
open Go Go.RowKit Go.Proofs.YtjnbhdbpajnlgaaDoor.Pl
open Go.Proofs.YtjnbhdbpajnlgaaDoor.Q (rngE rngA txtE txtA sameE sameA formT wordL moreL sepA)
set_option linter.unusedVariables false
set_option maxHeartbeats 1000000
theorem form_facts (k : Int) : ((formP k).2.2.2 = true ∧ argsOf k = (formP k).2.2.1 ∧ mostF k = (formP k).2.1) ∨ ((formP k).2.2.2 = false ∧ argsOf k = -1) := by
  rcases Q.form_kinds k with ho | ho
  · refine .inr ⟨by unfold formP; rw [Q.formT_out k ho], ?_⟩
    unfold argsOf
    rw [if_neg (by omega), if_neg (by omega), if_neg (by omega), if_neg (by omega)]
  · rcases ho with rfl | rfl | rfl | rfl | rfl | rfl | rfl | rfl | rfl | rfl | rfl | rfl
    all_goals exact .inl ⟨rfl, by decide, by decide⟩
theorem fine_cond (d : Int) (c : Bool) (y : Ex) : isFine d c y = ((isCond y.f0 == c) && isFine d (isCond y.f0) y) := by
  obtain ⟨k, n, nm, l⟩ := y
  show isFine d c ⟨k, n, nm, l⟩ = ((isCond k == c) && isFine d (isCond k) ⟨k, n, nm, l⟩)
  rw [isFine, isFine, beq_self_eq_true]
  generalize (isCond k == c) = p
  cases p <;> simp
theorem rfine_ok : ∀ (x : Ex), rngE x = true → ∀ (d : Int), I64 d → Ok E 46 [] [pE x, pI d] (pB (isFine d (isCond x.f0) x)) []
  | ⟨k, n, nm, l⟩, hr, d, hd => by
    show Ok E _ [] [pE ⟨k, n, nm, l⟩, pI d] (pB (isFine d (isCond k) ⟨k, n, nm, l⟩)) []
    obtain ⟨v, hv⟩ : ∃ v, isFine d (isCond k) ⟨k, n, nm, l⟩ = v := ⟨_, rfl⟩
    rw [hv]
    rw [isFine, beq_self_eq_true, Bool.true_and] at hv
    have hel := enc_len l
    have hlr : l.length < 4611686018427387904 ∧ rngA l = true := by
      rw [rngE, Bool.and_eq_true] at hr
      exact ⟨(of_decide_eq_true hr.1).2, hr.2⟩
    have hA := Args_ok k
    have hM := rmost_ok k
    have hN := rName_ok nm
    obtain ⟨hd0, hd1⟩ := hd
    by_cases h1 : d < 1
    · have : v = false := by rw [← hv, decide_eq_false (by omega)]; simp
      subst this
      refine Ok.enter hE Tryd.func46 rfl (by decide +kernel) (by kernel_rfl) rfl rfl (Nat.le_of_ble_eq_true rfl) rfl ?_
      refine ⟨_, ltT h1, ?_⟩
      exact Ret.mk _ rfl rfl rfl
    rw [decide_eq_true h1, Bool.true_and] at hv
    by_cases h2 : argsOf k = l.length
    rotate_left
    · have : v = false := by
        rw [← hv]
        rcases form_facts k with ⟨_, e, _⟩ | ⟨e, _⟩
        · rw [decide_eq_false (p := (l.length : Int) = (formP k).2.2.1) (by omega)]; simp
        · rw [e]; rfl
      subst this
      refine Ok.enter hE Tryd.func46 rfl (by decide +kernel) (by kernel_rfl) rfl rfl (Nat.le_of_ble_eq_true rfl) rfl ?_
      refine ⟨_, ltN h1, ?_⟩
      refine ⟨_, CallR.mk1 hA rfl rfl, ?_⟩
      refine ⟨_, neT (by show argsOf k ≠ ((encL l).length : Int); omega), ?_⟩
      exact Ret.mk _ rfl rfl rfl
    have hff := form_facts k
    obtain ⟨f1, f2, f3⟩ : (formP k).2.2.2 = true ∧ argsOf k = (formP k).2.2.1 ∧ mostF k = (formP k).2.1 := by
      rcases hff with h | ⟨_, e⟩
      · exact h
      · omega
    rw [f1, Bool.true_and, ← f2, ← f3, decide_eq_true (p := (l.length : Int) = argsOf k) h2.symm, Bool.true_and] at hv
    by_cases h3 : n < 0
    · have : v = false := by rw [← hv, decide_eq_false (p := ¬ n < 0) (by omega)]; rfl
      subst this
      refine Ok.enter hE Tryd.func46 rfl (by decide +kernel) (by kernel_rfl) rfl rfl (Nat.le_of_ble_eq_true rfl) rfl ?_
      refine ⟨_, ltN h1, ?_⟩
      refine ⟨_, CallR.mk1 hA rfl rfl, ?_⟩
      refine ⟨_, neN (by show argsOf k = ((encL l).length : Int); omega), ?_⟩
      refine ⟨_, ltT h3, ?_⟩
      exact Ret.mk _ rfl rfl rfl
    rw [decide_eq_true (p := ¬ n < 0) h3, Bool.true_and] at hv
    by_cases h4 : n > mostF k
    · have : v = false := by rw [← hv, decide_eq_false (p := ¬ n > mostF k) (by omega)]; rfl
      subst this
      refine Ok.enter hE Tryd.func46 rfl (by decide +kernel) (by kernel_rfl) rfl rfl (Nat.le_of_ble_eq_true rfl) rfl ?_
      refine ⟨_, ltN h1, ?_⟩
      refine ⟨_, CallR.mk1 hA rfl rfl, ?_⟩
      refine ⟨_, neN (by show argsOf k = ((encL l).length : Int); omega), ?_⟩
      refine ⟨_, ltN h3, ?_⟩
      refine ⟨_, CallR.mk1 hM rfl rfl, ?_⟩
      refine ⟨_, gtT h4, ?_⟩
      exact Ret.mk _ rfl rfl rfl
    rw [decide_eq_true (p := ¬ n > mostF k) h4, Bool.true_and] at hv
    have hem : isName (⟨#[]⟩ : ByteArray) = false := rfl
    by_cases hk3 : k = 3
    · rcases Bool.eq_false_or_eq_true (nm.toList == (⟨#[]⟩ : ByteArray).toList) with h5 | h5
      · have hn0 : isName nm = false := by
          rw [beq_iff_eq, toList_data, toList_data] at h5
          have : nm = ⟨#[]⟩ := by apply ByteArray.ext; apply Array.ext'; exact h5
          rw [this]; rfl
        have : v = false := by rw [← hv]; unfold isNamed; rw [if_pos hk3, hn0]; rfl
        subst this
        refine Ok.enter hE Tryd.func46 rfl (by decide +kernel) (by kernel_rfl) rfl rfl (Nat.le_of_ble_eq_true rfl) rfl ?_
        refine ⟨_, ltN h1, ?_⟩
        refine ⟨_, CallR.mk1 hA rfl rfl, ?_⟩
        refine ⟨_, neN (by show argsOf k = ((encL l).length : Int); omega), ?_⟩
        refine ⟨_, ltN h3, ?_⟩
        refine ⟨_, CallR.mk1 hM rfl rfl, ?_⟩
        refine ⟨_, gtN h4, ?_⟩
        refine ⟨_, strNeV (c := false) (by rw [h5]; rfl), ?_⟩
        refine ⟨_, eqT hk3, ?_⟩
        refine ⟨_, neBT rfl, ?_⟩
        exact Ret.mk _ rfl rfl rfl
      · rcases Bool.eq_false_or_eq_true (isName nm) with h6 | h6
        rotate_left
        · have : v = false := by rw [← hv]; unfold isNamed; rw [if_pos hk3, h6]; rfl
          subst this
          rw [h6] at hN
          refine Ok.enter hE Tryd.func46 rfl (by decide +kernel) (by kernel_rfl) rfl rfl (Nat.le_of_ble_eq_true rfl) rfl ?_
          refine ⟨_, ltN h1, ?_⟩
          refine ⟨_, CallR.mk1 hA rfl rfl, ?_⟩
          refine ⟨_, neN (by show argsOf k = ((encL l).length : Int); omega), ?_⟩
          refine ⟨_, ltN h3, ?_⟩
          refine ⟨_, CallR.mk1 hM rfl rfl, ?_⟩
          refine ⟨_, gtN h4, ?_⟩
          refine ⟨_, strNeV (c := true) (by rw [h5]; rfl), ?_⟩
          refine ⟨_, eqT hk3, ?_⟩
          refine ⟨_, neBN rfl, ?_⟩
          refine ⟨_, eqT hk3, ?_⟩
          refine ⟨_, CallR.mk1 hN rfl rfl, ?_⟩
          exact Ret.mk _ rfl rfl rfl
        · have hl0 : l = [] := by
            have : argsOf k = 0 := by rw [hk3]; rfl
            exact List.length_eq_zero_iff.1 (by omega)
          have : v = true := by rw [← hv]; unfold isNamed; rw [if_pos hk3, h6, hl0, fineL]; rfl
          subst this
          rw [h6] at hN
          subst hl0
          refine Ok.enter hE Tryd.func46 rfl (by decide +kernel) (by kernel_rfl) rfl rfl (Nat.le_of_ble_eq_true rfl) rfl ?_
          refine ⟨_, ltN h1, ?_⟩
          refine ⟨_, CallR.mk1 hA rfl rfl, ?_⟩
          refine ⟨_, neN (by show argsOf k = ((encL []).length : Int); omega), ?_⟩
          refine ⟨_, ltN h3, ?_⟩
          refine ⟨_, CallR.mk1 hM rfl rfl, ?_⟩
          refine ⟨_, gtN h4, ?_⟩
          refine ⟨_, strNeV (c := true) (by rw [h5]; rfl), ?_⟩
          refine ⟨_, eqT hk3, ?_⟩
          refine ⟨_, neBN rfl, ?_⟩
          refine ⟨_, eqT hk3, ?_⟩
          refine ⟨_, CallR.mk1 hN rfl rfl, ?_⟩
          refine Loop.cut (α := Unit) (fun _ => True) (fun _ => [(5, pI 0), (2, .ptr 0 0)]) (fun _ => [(cellsE ⟨k, n, nm, []⟩).map .c]) (fun _ => []) (fun _ => 0) () 1 (fun _ => rfl) (fun _ => rfl) (fun _ => rfl) trivial ⟨⟨rfl, rfl, trivial⟩, rfl, rfl⟩ ?_
          intro _ f _
          refine ⟨_, ltN (by show ¬ ((0 : Int) < ((encL []).length : Int)); rw [encL]; decide), ?_⟩
          exact Ret.mk _ rfl rfl rfl
    · rcases Bool.eq_false_or_eq_true (nm.toList == (⟨#[]⟩ : ByteArray).toList) with h5 | h5
      rotate_left
      · have : v = false := by rw [← hv]; unfold isNamed; rw [if_neg hk3, h5]; rfl
        subst this
        refine Ok.enter hE Tryd.func46 rfl (by decide +kernel) (by kernel_rfl) rfl rfl (Nat.le_of_ble_eq_true rfl) rfl ?_
        refine ⟨_, ltN h1, ?_⟩
        refine ⟨_, CallR.mk1 hA rfl rfl, ?_⟩
        refine ⟨_, neN (by show argsOf k = ((encL l).length : Int); omega), ?_⟩
        refine ⟨_, ltN h3, ?_⟩
        refine ⟨_, CallR.mk1 hM rfl rfl, ?_⟩
        refine ⟨_, gtN h4, ?_⟩
        refine ⟨_, strNeV (c := true) (by rw [h5]; rfl), ?_⟩
        refine ⟨_, eqN hk3, ?_⟩
        refine ⟨_, neBT rfl, ?_⟩
        exact Ret.mk _ rfl rfl rfl
      unfold isNamed at hv
      rw [if_neg hk3, h5, Bool.true_and] at hv
      refine Ok.enter hE Tryd.func46 rfl (by decide +kernel) (by kernel_rfl) rfl rfl (Nat.le_of_ble_eq_true rfl) rfl ?_
      refine ⟨_, ltN h1, ?_⟩
      refine ⟨_, CallR.mk1 hA rfl rfl, ?_⟩
      refine ⟨_, neN (by show argsOf k = ((encL l).length : Int); omega), ?_⟩
      refine ⟨_, ltN h3, ?_⟩
      refine ⟨_, CallR.mk1 hM rfl rfl, ?_⟩
      refine ⟨_, gtN h4, ?_⟩
      refine ⟨_, strNeV (c := false) (by rw [h5]; rfl), ?_⟩
      refine ⟨_, eqN hk3, ?_⟩
      refine ⟨_, neBN rfl, ?_⟩
      refine ⟨_, eqN hk3, ?_⟩
      refine Loop.cut (α := Nat) (fun j => j ≤ l.length ∧ fineL (d - 1) (decide (k = 10) && Nat.beq j 0) (l.drop j) = v) (fun j => [(1, pI d), (2, .ptr 0 0), (5, pI j)]) (fun j => [(cellsE ⟨k, n, nm, l⟩).map .c]) (fun _ => []) (fun j => l.length - j) 0 1 (fun _ => rfl) (fun _ => rfl) (fun _ => rfl)
        ⟨Nat.zero_le _, by rw [← hv, List.drop_zero, show Nat.beq 0 0 = true from rfl, Bool.and_true]⟩ ⟨⟨rfl, rfl, rfl, trivial⟩, rfl, rfl⟩ ?_
      rintro j f ⟨hj, hjv⟩
      by_cases hjl : j < l.length
      · obtain ⟨y, hy⟩ : ∃ y, l[j]? = some y := ⟨_, List.getElem?_eq_getElem hjl⟩
        have hry := Q.rngA_mem l hlr.2 y (List.mem_of_getElem? hy)
        rw [drop_cons hy, fineL, fine_cond] at hjv
        have hC := rCond_ok y.f0
        have hI := rfine_ok y hry (d - 1) ⟨by omega, by omega⟩
        refine ⟨_, ltT (by show (j : Int) < ((encL l).length : Int); omega), ?_⟩
        refine ⟨_, idxV (j := j) (enc_get hy) rfl rfl rfl rfl, ?_⟩
        refine ⟨_, CallR.mk1 hC rfl rfl, ?_⟩
        have hnx : ∀ r : Bool, r = v → fineL (d - 1) false (l.drop (j + 1)) = r → fineL (d - 1) (decide (k = 10) && Nat.beq (j + 1) 0) (l.drop (j + 1)) = v := by
          intro r h1 h2
          rw [show (decide (k = 10) && Nat.beq (j + 1) 0) = false from Bool.and_false _, h2, h1]
        by_cases h10 : k = 10
        · refine ⟨_, eqT h10, ?_⟩
          by_cases hj0 : j = 0
          · refine ⟨_, eqT (by omega), ?_⟩
            rw [decide_eq_true h10, hj0, show Nat.beq 0 0 = true from rfl, Bool.and_true, ← hj0] at hjv
            rcases Bool.eq_false_or_eq_true (isCond y.f0 == true) with hcy | hcy
            rotate_left
            · rw [hcy] at hjv
              refine ⟨_, neBT (by rw [hcy]; rfl), ?_⟩
              exact Ret.mk _ rfl (congrArg (fun b : Bool => pB b) (show false = v from hjv)) rfl
            rw [hcy, Bool.true_and] at hjv
            refine ⟨_, neBN hcy, ?_⟩
            refine ⟨_, idxV (j := j) (enc_get hy) rfl rfl rfl rfl, ?_⟩
            refine ⟨_, subV rfl (by omega) (by omega), ?_⟩
            rcases Bool.eq_false_or_eq_true (isFine (d - 1) (isCond y.f0) y) with hin | hin
            · rw [hin] at hI hjv
              rw [Bool.true_and] at hjv
              refine ⟨_, CallR.mk1 hI rfl rfl, ?_⟩
              refine ⟨_, addV rfl (by omega) (by omega), ?_⟩
              exact ⟨j + 1, ⟨hjl, hnx v rfl hjv⟩, by omega, ⟨rfl, rfl, rfl, trivial⟩, ⟨_, rfl⟩, rfl⟩
            · rw [hin] at hI hjv
              refine ⟨_, CallR.mk1 hI rfl rfl, ?_⟩
              exact Ret.mk _ rfl (congrArg (fun b : Bool => pB b) (show false = v from hjv)) rfl
          · refine ⟨_, eqN (by omega), ?_⟩
            rw [show (decide (k = 10) && Nat.beq j 0) = false by
              cases j with
              | zero => exact absurd rfl hj0
              | succ j => exact Bool.and_false _] at hjv
            rcases Bool.eq_false_or_eq_true (isCond y.f0 == false) with hcy | hcy
            rotate_left
            · rw [hcy] at hjv
              refine ⟨_, neBT (by rw [hcy]; rfl), ?_⟩
              exact Ret.mk _ rfl (congrArg (fun b : Bool => pB b) (show false = v from hjv)) rfl
            rw [hcy, Bool.true_and] at hjv
            refine ⟨_, neBN hcy, ?_⟩
            refine ⟨_, idxV (j := j) (enc_get hy) rfl rfl rfl rfl, ?_⟩
            refine ⟨_, subV rfl (by omega) (by omega), ?_⟩
            rcases Bool.eq_false_or_eq_true (isFine (d - 1) (isCond y.f0) y) with hin | hin
            · rw [hin] at hI hjv
              rw [Bool.true_and] at hjv
              refine ⟨_, CallR.mk1 hI rfl rfl, ?_⟩
              refine ⟨_, addV rfl (by omega) (by omega), ?_⟩
              exact ⟨j + 1, ⟨hjl, hnx v rfl hjv⟩, by omega, ⟨rfl, rfl, rfl, trivial⟩, ⟨_, rfl⟩, rfl⟩
            · rw [hin] at hI hjv
              refine ⟨_, CallR.mk1 hI rfl rfl, ?_⟩
              exact Ret.mk _ rfl (congrArg (fun b : Bool => pB b) (show false = v from hjv)) rfl
        · refine ⟨_, eqN h10, ?_⟩
          rw [decide_eq_false h10, Bool.false_and] at hjv
          rcases Bool.eq_false_or_eq_true (isCond y.f0 == false) with hcy | hcy
          rotate_left
          · rw [hcy] at hjv
            refine ⟨_, neBT (by rw [hcy]; rfl), ?_⟩
            exact Ret.mk _ rfl (congrArg (fun b : Bool => pB b) (show false = v from hjv)) rfl
          rw [hcy, Bool.true_and] at hjv
          refine ⟨_, neBN hcy, ?_⟩
          refine ⟨_, idxV (j := j) (enc_get hy) rfl rfl rfl rfl, ?_⟩
          refine ⟨_, subV rfl (by omega) (by omega), ?_⟩
          rcases Bool.eq_false_or_eq_true (isFine (d - 1) (isCond y.f0) y) with hin | hin
          · rw [hin] at hI hjv
            rw [Bool.true_and] at hjv
            refine ⟨_, CallR.mk1 hI rfl rfl, ?_⟩
            refine ⟨_, addV rfl (by omega) (by omega), ?_⟩
            exact ⟨j + 1, ⟨hjl, hnx v rfl hjv⟩, by omega, ⟨rfl, rfl, rfl, trivial⟩, ⟨_, rfl⟩, rfl⟩
          · rw [hin] at hI hjv
            refine ⟨_, CallR.mk1 hI rfl rfl, ?_⟩
            exact Ret.mk _ rfl (congrArg (fun b : Bool => pB b) (show false = v from hjv)) rfl
      · refine ⟨_, ltN (by show ¬ (j : Int) < ((encL l).length : Int); omega), ?_⟩
        rw [List.drop_of_length_le (by omega), fineL] at hjv
        exact Ret.mk _ rfl (congrArg (fun b : Bool => pB b) hjv) rfl
termination_by x => SizeOf.sizeOf x
decreasing_by
  all_goals
    have := List.sizeOf_lt_of_mem (List.mem_of_getElem? hy)
    simp only [Go.Proofs.YtjnbhdbpajnlgaaDoor.Q.S26.mk.sizeOf_spec]
    omega
end Go.Proofs.YtjnbhdbpajnlgaaDoor.Pm

/- The document's text, Right, Print of layer 7, in the pure machine. -/
namespace Go.Proofs.YtjnbhdbpajnlgaaDoor.Pm
open Go Go.RowKit Go.Proofs.YtjnbhdbpajnlgaaDoor.Pl
open Go.Proofs.YtjnbhdbpajnlgaaDoor.Q (rngE rngA txtE txtA sameE sameA formT wordL moreL sepA)
set_option linter.unusedVariables false
set_option maxHeartbeats 1000000
theorem catB {a b : List UInt8} {ti : Option TI} (hb : a.length + b.length ≤ 9223372036854775807) : BinR ti .add (.c (.str (B a))) (.c (.str (B b))) (.c (.str (B (a ++ b)))) := catV (B_append _ _) (by rw [B_size, B_size]; exact hb)
theorem rtext_ok : ∀ (x : Ex) (m : Nat) (c : Bool), isFine m c x = true → size x ≤ 1000000000 → Ok E 44 [] [pE x] (pS (B (txtE x))) []
  | ⟨k, n, nm, l⟩, m, c, hf, hs => by
    obtain ⟨w, mm, a, hF, h1, h2, h3, h4, h5, h6, h7, h8, h9⟩ := fine_open hf
    have hlen := (fine_facts _ m c hf).2.2.2.2
    have hel := enc_len l
    have hW := rWordK_ok k
    have hwl := wordL_le k
    by_cases k4 : k = 4
    · have e : txtE ⟨k, n, nm, l⟩ = textL n := by rw [txtE, if_pos k4]
      rw [e]
      have hT := rText_ok n h3 (by omega)
      refine Ok.enter hE Tryd.func44 rfl (by decide +kernel) (by kernel_rfl) rfl rfl (Nat.le_of_ble_eq_true rfl) rfl ?_
      refine ⟨_, CallR.mk1 hW rfl rfl, ?_⟩
      refine ⟨_, eqT k4, ?_⟩
      refine ⟨_, CallR.mk1 hT rfl rfl, ?_⟩
      exact Ret.mk _ rfl rfl rfl
    by_cases k12 : k = 1 ∨ k = 2
    · have e : txtE ⟨k, n, nm, l⟩ = wordL k := by rw [txtE, if_neg k4, if_pos k12]
      rw [e]
      refine Ok.enter hE Tryd.func44 rfl (by decide +kernel) (by kernel_rfl) rfl rfl (Nat.le_of_ble_eq_true rfl) rfl ?_
      refine ⟨_, CallR.mk1 hW rfl rfl, ?_⟩
      refine ⟨_, eqN k4, ?_⟩
      by_cases k1 : k = 1
      · refine ⟨_, eqT k1, ?_⟩
        exact Ret.mk _ rfl rfl rfl
      · refine ⟨_, eqN k1, ?_⟩
        refine ⟨_, eqT (by show k = 2; omega), ?_⟩
        exact Ret.mk _ rfl rfl rfl
    have hl3 : k = 3 → l = [] := fun hk => by
      have := args_few k w mm a hF (by omega)
      exact List.length_eq_zero_iff.1 (by omega)
    have e : txtE ⟨k, n, nm, l⟩ = wordL k ++ [40] ++ txtA true l ++ sepA (k == 3 || l.isEmpty) (moreL k n nm) ++ [41] := by
      rw [txtE, if_neg k4, if_neg k12]
      by_cases k3 : k = 3
      · rw [if_pos k3, hl3 k3, txtA]
      · rw [if_neg k3]
    rw [e] at hlen ⊢
    simp only [List.length_append, List.length_cons, List.length_nil] at hlen
    have hmap : (l.map txtE).length = l.length := List.length_map ..
    have hle : ∀ j, (sepA true ((l.map txtE).take j)).length ≤ (txtA true l).length := fun j => by
      rw [Q.txtA_map]; exact Q.sepA_le true _ j
    refine Ok.enter hE Tryd.func44 rfl (by decide +kernel) (by kernel_rfl) rfl rfl (Nat.le_of_ble_eq_true rfl) rfl ?_
    refine ⟨_, CallR.mk1 hW rfl rfl, ?_⟩
    refine ⟨_, eqN k4, ?_⟩
    refine ⟨_, eqN (by show k ≠ 1; omega), ?_⟩
    refine ⟨_, eqN (by show k ≠ 2; omega), ?_⟩
    refine ⟨_, catB (b := [40]) (by show _ + 1 ≤ _; omega), ?_⟩
    refine Loop.cut (α := Nat) (fun j => j ≤ l.length) (fun j => [(1, .ptr 0 0), (3, pS (B (wordL k ++ [40] ++ sepA true ((l.map txtE).take j)))), (4, pI j)]) (fun j => [(cellsE ⟨k, n, nm, l⟩).map .c]) (fun _ => []) (fun j => l.length - j) 0 1 (fun _ => rfl) (fun _ => rfl) (fun _ => rfl) (Nat.zero_le _) ⟨⟨rfl, ?_, rfl, trivial⟩, rfl, rfl⟩ ?_
    · show PV.c (.str (B (wordL k ++ [40]))) = _; rw [List.take_zero, sepA, List.append_nil]
    intro j f hj
    by_cases hjl : j < l.length
    · obtain ⟨y, hy⟩ : ∃ y, l[j]? = some y := ⟨_, List.getElem?_eq_getElem hjl⟩
      have hmem := List.mem_of_getElem? hy
      have hsz := sizeL_mem l y hmem
      have hs2 : 1 + sizeL l ≤ 1000000000 := by rw [size] at hs; exact hs
      obtain ⟨c', hc'⟩ := fineL_mem l _ _ h9 y hmem
      have hy' : (l.map txtE)[j]? = some (txtE y) := by rw [List.getElem?_map, hy]; rfl
      have hst := Q.sepA_take true (l.map txtE) j (txtE y) hy'
      have hb := hle (j + 1)
      have hb0 := hle j
      have IH := rtext_ok y (m - 1) c' (by rw [show ((m - 1 : Nat) : Int) = (m : Int) - 1 by omega]; exact hc') (by omega)
      refine ⟨_, ltT (by show (j : Int) < ((encL l).length : Int); omega), ?_⟩
      by_cases hj0 : j = 0
      · rw [show (true && (j == 0)) = true by rw [hj0]; rfl, if_pos rfl, List.append_nil] at hst
        rw [hst, List.length_append] at hb
        refine ⟨_, gtN (by omega), ?_⟩
        refine ⟨_, idxV (j := j) (enc_get hy) rfl rfl rfl rfl, ?_⟩
        refine ⟨_, CallR.mk1 IH rfl rfl, ?_⟩
        refine ⟨_, catB (by simp only [List.length_append, List.length_cons, List.length_nil]; omega), ?_⟩
        refine ⟨_, addV rfl (by omega) (by omega), ?_⟩
        exact ⟨j + 1, hjl, by omega, ⟨rfl, by show PV.c (.str (B _)) = PV.c (.str (B _)); rw [hst, List.append_assoc (wordL k ++ [40])], rfl, trivial⟩, ⟨_, rfl⟩, rfl⟩
      · rw [show (true && (j == 0)) = false by rw [show (j == 0) = false from beq_eq_false_iff_ne.2 hj0]; rfl, if_neg (by simp)] at hst
        rw [hst, List.length_append, List.length_append] at hb
        simp only [List.length_cons, List.length_nil] at hb
        refine ⟨_, gtT (by omega), ?_⟩
        refine ⟨_, catB (b := [44, 32]) (by simp only [List.length_append, List.length_cons, List.length_nil]; omega), ?_⟩
        refine ⟨_, idxV (j := j) (enc_get hy) rfl rfl rfl rfl, ?_⟩
        refine ⟨_, CallR.mk1 IH rfl rfl, ?_⟩
        refine ⟨_, catB (by simp only [List.length_append, List.length_cons, List.length_nil]; omega), ?_⟩
        refine ⟨_, addV rfl (by omega) (by omega), ?_⟩
        exact ⟨j + 1, hjl, by omega, ⟨rfl, by show PV.c (.str (B _)) = PV.c (.str (B _)); rw [hst]; simp only [List.append_assoc], rfl, trivial⟩, ⟨_, rfl⟩, rfl⟩
    · refine ⟨_, ltN (by show ¬ (j : Int) < ((encL l).length : Int); omega), ?_⟩
      have hjn : j = l.length := by omega
      have htk : sepA true ((l.map txtE).take j) = txtA true l := by rw [hjn, ← hmap, List.take_length, Q.txtA_map]
      obtain ⟨u, hu⟩ : ∃ u, wordL k ++ [40] ++ sepA true ((l.map txtE).take j) = u := ⟨_, rfl⟩
      have hu2 : wordL k ++ [40] ++ txtA true l = u := by rw [← htk]; exact hu
      have hul : u.length + ((sepA (k == 3 || l.isEmpty) (moreL k n nm)).length + 1) ≤ 200000000000 := by
        rw [← hu2]; simp only [List.length_append, List.length_cons, List.length_nil]; omega
      rw [hu2]
      rw [hu]
      clear htk hu hu2 hle hlen hf h9
      by_cases k3 : k = 3
      · have hm : sepA (k == 3 || l.isEmpty) (moreL k n nm) = nm.data.toList := by
          rw [show (k == 3) = true from beq_iff_eq.2 k3, Bool.true_or]
          unfold moreL
          rw [if_pos k3]
          simp [sepA]
        rw [hm] at hul ⊢
        have hnm : nm = B nm.data.toList := (B_toList' nm).symm
        have hnl : (B u).size + nm.size ≤ 9223372036854775807 := by
          have : nm.data.toList.length = nm.size := by simp
          rw [B_size]; omega
        refine ⟨_, eqT k3, ?_⟩
        refine ⟨_, catV (s := B (u ++ nm.data.toList)) (by rw [← B_append, B_toList']) hnl, ?_⟩
        refine ⟨_, catB (b := [41]) (by simp only [List.length_append, List.length_cons, List.length_nil]; omega), ?_⟩
        exact Ret.mk _ rfl rfl rfl
      refine ⟨_, eqN k3, ?_⟩
      rw [show (k == 3) = false from beq_eq_false_iff_ne.2 k3, Bool.false_or] at hul ⊢
      by_cases k5 : k = 5
      · have hT := rText_ok n h3 (by omega)
        have hne : l.isEmpty = false := by
          have : a = 1 := by rw [k5] at hF; simp only [formT, Option.some.injEq, Prod.mk.injEq] at hF; omega
          cases l with
          | nil => simp at h6; omega
          | cons y l => rfl
        have hm : sepA l.isEmpty (moreL k n nm) = [44, 32] ++ textL n := by
          rw [hne]; unfold moreL
          rw [if_neg k3, if_pos k5]
          simp [sepA]
        rw [hm] at hul ⊢
        simp only [List.length_append, List.length_cons, List.length_nil] at hul
        refine ⟨_, eqT k5, ?_⟩
        refine ⟨_, catB (b := [44, 32]) (by show _ + 2 ≤ _; omega), ?_⟩
        refine ⟨_, CallR.mk1 hT rfl rfl, ?_⟩
        refine ⟨_, catB (by simp only [List.length_append, List.length_cons, List.length_nil]; omega), ?_⟩
        refine ⟨_, catB (b := [41]) (by simp only [List.length_append, List.length_cons, List.length_nil]; omega), ?_⟩
        exact Ret.mk _ rfl (by show PV.c (.str (B _)) = PV.c (.str (B _)); simp only [List.append_assoc]) rfl
      refine ⟨_, eqN k5, ?_⟩
      have hT := rNumber_ok n h3 (by omega)
      by_cases k6 : k = 6
      · have hne : l.isEmpty = false := by
          have : a = 1 := by rw [k6] at hF; simp only [formT, Option.some.injEq, Prod.mk.injEq] at hF; omega
          cases l with
          | nil => simp at h6; omega
          | cons y l => rfl
        have hm : sepA l.isEmpty (moreL k n nm) = [44, 32] ++ intL n := by
          rw [hne]; unfold moreL
          rw [if_neg k3, if_neg k5, if_pos (.inl k6)]
          simp [sepA]
        rw [hm] at hul ⊢
        simp only [List.length_append, List.length_cons, List.length_nil] at hul
        refine ⟨_, eqT k6, ?_⟩
        refine ⟨_, catB (b := [44, 32]) (by show _ + 2 ≤ _; omega), ?_⟩
        refine ⟨_, CallR.mk1 hT rfl rfl, ?_⟩
        refine ⟨_, catB (by simp only [List.length_append, List.length_cons, List.length_nil]; omega), ?_⟩
        refine ⟨_, catB (b := [41]) (by simp only [List.length_append, List.length_cons, List.length_nil]; omega), ?_⟩
        exact Ret.mk _ rfl (by show PV.c (.str (B _)) = PV.c (.str (B _)); simp only [List.append_assoc]) rfl
      refine ⟨_, eqN k6, ?_⟩
      by_cases k11 : k = 11
      · have hne : l.isEmpty = true := by
          have : a = 0 := by rw [k11] at hF; simp only [formT, Option.some.injEq, Prod.mk.injEq] at hF; omega
          cases l with
          | nil => rfl
          | cons y l => simp at h6; omega
        have hm : sepA l.isEmpty (moreL k n nm) = intL n := by
          rw [hne]; unfold moreL
          rw [if_neg k3, if_neg k5, if_pos (.inr k11)]
          simp [sepA]
        rw [hm] at hul ⊢
        refine ⟨_, eqT k11, ?_⟩
        refine ⟨_, CallR.mk1 hT rfl rfl, ?_⟩
        refine ⟨_, catB (by omega), ?_⟩
        refine ⟨_, catB (b := [41]) (by simp only [List.length_append, List.length_cons, List.length_nil]; omega), ?_⟩
        exact Ret.mk _ rfl rfl rfl
      · refine ⟨_, eqN k11, ?_⟩
        have hm : sepA l.isEmpty (moreL k n nm) = [] := by
          unfold moreL
          rw [if_neg k3, if_neg k5, if_neg (by omega)]
          cases l.isEmpty <;> rfl
        rw [hm] at hul ⊢
        rw [List.append_nil]
        simp only [List.length_nil] at hul
        refine ⟨_, catB (b := [41]) (by show _ + 1 ≤ _; omega), ?_⟩
        exact Ret.mk _ rfl rfl rfl
termination_by x => SizeOf.sizeOf x
decreasing_by
  have := List.sizeOf_lt_of_mem (List.mem_of_getElem? hy)
  simp only [Go.Proofs.YtjnbhdbpajnlgaaDoor.Q.S26.mk.sizeOf_spec]
  omega
theorem rRight_ok (x : Ex) (hr : rngE x = true) (hs : size x ≤ 9223372036854775807) : Ok E 20 [] [pE x] (pB (isRight x)) [] := by
  obtain ⟨v, hv⟩ : ∃ v, isRight x = v := ⟨_, rfl⟩
  rw [hv]
  unfold isRight at hv
  have hF := rfine_ok x hr 32 ⟨by omega, by omega⟩
  have hC := rCond_ok x.f0
  have hS := rSize_ok x hs
  rcases Bool.eq_false_or_eq_true (isFine 32 (isCond x.f0) x) with h1 | h1
  rotate_left
  · rw [fine_cond, h1, Bool.and_false] at hv
    rw [h1] at hF
    have : v = false := hv.symm
    subst this
    obtain ⟨k, n, nm, l⟩ := x
    refine Ok.enter hE Tryd.func20 rfl (by decide +kernel) (by kernel_rfl) rfl rfl (Nat.le_of_ble_eq_true rfl) rfl ?_
    refine ⟨_, CallR.mk1 hF rfl rfl, ?_⟩
    exact Ret.mk _ rfl rfl rfl
  rcases Bool.eq_false_or_eq_true (isCond x.f0) with h2 | h2
  · rw [fine_cond, h2] at hv
    rw [h1] at hF
    rw [h2] at hC
    have : v = false := hv.symm
    subst this
    obtain ⟨k, n, nm, l⟩ := x
    refine Ok.enter hE Tryd.func20 rfl (by decide +kernel) (by kernel_rfl) rfl rfl (Nat.le_of_ble_eq_true rfl) rfl ?_
    refine ⟨_, CallR.mk1 hF rfl rfl, ?_⟩
    refine ⟨_, CallR.mk1 hC rfl rfl, ?_⟩
    exact Ret.mk _ rfl rfl rfl
  have h3 : isFine 32 false x = true := by rw [← h2]; exact h1
  rw [h3, Bool.true_and] at hv
  rw [h1] at hF
  rw [h2] at hC
  by_cases h4 : size x ≤ 2000
  · rw [decide_eq_true h4, Bool.true_and] at hv
    have hT := rtext_ok x 32 false h3 (by omega)
    have hl : (B (txtE x)).size = (txtE x).length := B_size _
    obtain ⟨k, n, nm, l⟩ := x
    refine Ok.enter hE Tryd.func20 rfl (by decide +kernel) (by kernel_rfl) rfl rfl (Nat.le_of_ble_eq_true rfl) rfl ?_
    refine ⟨_, CallR.mk1 hF rfl rfl, ?_⟩
    refine ⟨_, CallR.mk1 hC rfl rfl, ?_⟩
    refine ⟨_, CallR.mk1 hS rfl rfl, ?_⟩
    refine ⟨_, leT (by omega), ?_⟩
    refine ⟨_, CallR.mk1 hT rfl rfl, ?_⟩
    refine ⟨_, leV (c := v) (by rw [← hv, hl]; exact decide_eq_decide.2 (by omega)), ?_⟩
    exact Ret.mk _ rfl rfl rfl
  · rw [decide_eq_false h4] at hv
    have : v = false := hv.symm
    subst this
    obtain ⟨k, n, nm, l⟩ := x
    refine Ok.enter hE Tryd.func20 rfl (by decide +kernel) (by kernel_rfl) rfl rfl (Nat.le_of_ble_eq_true rfl) rfl ?_
    refine ⟨_, CallR.mk1 hF rfl rfl, ?_⟩
    refine ⟨_, CallR.mk1 hC rfl rfl, ?_⟩
    refine ⟨_, CallR.mk1 hS rfl rfl, ?_⟩
    refine ⟨_, leN (by omega), ?_⟩
    exact Ret.mk _ rfl rfl rfl
theorem rPrint_ok (x : Ex) (hr : rngE x = true) (hs : size x ≤ 9223372036854775807) : Ok E 18 [] [pE x] (.tup (if isRight x then [pS (B (txtE x)), pI 0] else [pS ⟨#[]⟩, pI 1])) [] := by
  have hR := rRight_ok x hr hs
  have hT : isRight x = true → Ok E 44 [] [pE x] (pS (B (txtE x))) [] := fun h => rtext_ok x 32 false (right_open h).1 (by have := (right_open h).2.1; omega)
  obtain ⟨k, n, nm, l⟩ := x
  rcases Bool.eq_false_or_eq_true (isRight ⟨k, n, nm, l⟩) with h1 | h1
  · have hT := hT h1
    rw [h1] at hR ⊢
    rw [if_pos rfl]
    refine Ok.enter hE Tryd.func18 rfl (by decide +kernel) (by kernel_rfl) rfl rfl (Nat.le_of_ble_eq_true rfl) rfl ?_
    refine ⟨_, CallR.mk1 hR rfl rfl, ?_⟩
    refine ⟨_, CallR.mk1 hT rfl rfl, ?_⟩
    exact Ret.mk _ rfl rfl rfl
  · rw [h1] at hR ⊢
    rw [if_neg (by simp)]
    refine Ok.enter hE Tryd.func18 rfl (by decide +kernel) (by kernel_rfl) rfl rfl (Nat.le_of_ble_eq_true rfl) rfl ?_
    refine ⟨_, CallR.mk1 hR rfl rfl, ?_⟩
    exact Ret.mk _ rfl rfl rfl
end Go.Proofs.YtjnbhdbpajnlgaaDoor.Pm

/- Wild, in the pure machine: all but what writes into a row. -/
namespace Go.Proofs.YtjnbhdbpajnlgaaDoor.Pm
open Go Go.RowKit Go.Proofs.YtjnbhdbpajnlgaaDoor.Pl
open Go.Proofs.YtjnbhdbpajnlgaaDoor.Q (rngE rngA txtE txtA sameE sameA formT wordL moreL sepA)
set_option linter.unusedVariables false
set_option maxHeartbeats 1000000
def cutN (x : Ex) : Nat → Ex
  | 0 => x
  | j + 1 => ⟨6, 1, e0, [cutN x j]⟩
def minN (x : Ex) : Nat → Ex
  | 0 => x
  | j + 1 => ⟨7, 0, e0, [minN x j, minN x j]⟩
def cutC (x : Ex) : Nat → List CV
  | 0 => cellsE x
  | j + 1 => [.int .i64 6, .int .i64 1, .str e0, .row [cutC x j]]
def minC (x : Ex) : Nat → List CV
  | 0 => cellsE x
  | j + 1 => [.int .i64 7, .int .i64 0, .str e0, .row [minC x j, minC x j]]
theorem cutC_eq (x : Ex) : ∀ j, cutC x j = cellsE (cutN x j)
  | 0 => rfl
  | j + 1 => by
    show _ = [CV.int .i64 6, .int .i64 1, .str e0, .row (encL [cutN x j])]
    rw [encL_map, cutC, cutC_eq x j]; rfl
theorem minC_eq (x : Ex) : ∀ j, minC x j = cellsE (minN x j)
  | 0 => rfl
  | j + 1 => by
    show _ = [CV.int .i64 7, .int .i64 0, .str e0, .row (encL [minN x j, minN x j])]
    rw [encL_map, minC, minC_eq x j]; rfl
def nameW (p : Int) : ByteArray := if p = 0 then ⟨#[]⟩ else if p = 1 then ⟨#[105, 102]⟩ else if p = 2 then ⟨#[65]⟩ else if p = 3 then ⟨#[97, 49]⟩ else ⟨#[49, 97]⟩
def wildF (raw : List Int) (what by_ : Int) : Ex :=
  let x := stratF raw
  let q := pk what 10
  if q = 0 then ⟨pk by_ 16 - 1, 0, e0, [x, x]⟩
  else if q = 1 then ⟨9, by_, e0, [x, x]⟩
  else if q = 2 then ⟨9, 0, ⟨#[97]⟩, [x, x]⟩
  else if q = 3 then ⟨9, 0, e0, [x]⟩
  else if q = 4 then ⟨9, 0, e0, [x, ⟨11, 0, e0, []⟩]⟩
  else if q = 5 then ⟨10, 0, e0, [x, x, x]⟩
  else if q = 6 then ⟨3, 0, nameW (pk by_ 5), []⟩
  else if q = 7 then ⟨3 + pk what 4, by_, e0, List.replicate (argsOf (3 + pk what 4)).toNat x⟩
  else if q = 8 then cutN x (pk by_ 36).toNat
  else minN x (pk by_ 7).toNat
theorem wkR {k n : Int} {nm : ByteArray} {l : List Ex} {xs : List (List CV)} (h : xs = l.map cellsE) : Wk (.agg [.int .i64 k, .int .i64 n, .str nm, .row xs]) (pE ⟨k, n, nm, l⟩) := wkE2 k n nm l h
def zE26 : List PV := [pI 0, pI 0, pS e0, .c .nil]
theorem wild_ok (raw : List Int) (h1 : ∀ a ∈ raw, I64 a) (l1 : raw.length ≤ 9223372036854775807) (what by_ : Int) (hw : I64 what) (hb : I64 by_) (h4 : pk what 10 ≠ 4) : Ok E 16 [] [.c (.row (encN raw)), pI what, pI by_] (pE (wildF raw what by_)) [] := by
  have cx := strat_ok raw h1 l1
  obtain ⟨x, ex⟩ : ∃ x, stratF raw = x := ⟨_, rfl⟩
  rw [ex] at cx
  unfold wildF
  rw [ex]
  dsimp only
  have P10 := pick_ok what 10 hw (by decide)
  have P16 := pick_ok by_ 16 hb (by decide)
  have P5 := pick_ok by_ 5 hb (by decide)
  have P4 := pick_ok what 4 hw (by decide)
  have P36 := pick_ok by_ 36 hb (by decide)
  have P7 := pick_ok by_ 7 hb (by decide)
  have r10 := pk_rng (c := what) (n := 10) (by decide)
  have r16 := pk_rng (c := by_) (n := 16) (by decide)
  have r5 := pk_rng (c := by_) (n := 5) (by decide)
  have r4 := pk_rng (c := what) (n := 4) (by decide)
  have r36 := pk_rng (c := by_) (n := 36) (by decide)
  have r7 := pk_rng (c := by_) (n := 7) (by decide)
  obtain ⟨q, hq⟩ : ∃ q, pk what 10 = q := ⟨_, rfl⟩
  rw [hq] at h4 P10 r10 ⊢
  obtain ⟨b0, b1⟩ := hb
  by_cases h0 : q = 0
  · rw [if_pos h0]
    refine Ok.enter hE Tryd.func16 rfl (by decide +kernel) (by kernel_rfl) rfl rfl (Nat.le_of_ble_eq_true rfl) rfl ?_
    refine ⟨_, CallR.mk1 cx rfl rfl, ?_⟩
    refine ⟨_, ⟨_, rfl, rfl⟩, ?_⟩
    refine ⟨_, CallR.mk1 P10 rfl rfl, ?_⟩
    refine ⟨_, eqT h0, ?_⟩
    refine ⟨_, CallR.mk1 P16 rfl rfl, ?_⟩
    refine ⟨_, subV rfl (by omega) (by omega), ?_⟩
    exact ⟨_, rfl, wkR rfl, rfl, .nil _⟩
  rw [if_neg h0]
  by_cases h1' : q = 1
  · rw [if_pos h1']
    refine Ok.enter hE Tryd.func16 rfl (by decide +kernel) (by kernel_rfl) rfl rfl (Nat.le_of_ble_eq_true rfl) rfl ?_
    refine ⟨_, CallR.mk1 cx rfl rfl, ?_⟩
    refine ⟨_, ⟨_, rfl, rfl⟩, ?_⟩
    refine ⟨_, CallR.mk1 P10 rfl rfl, ?_⟩
    refine ⟨_, eqN h0, ?_⟩
    refine ⟨_, eqT h1', ?_⟩
    exact ⟨_, rfl, wkR rfl, rfl, .nil _⟩
  rw [if_neg h1']
  by_cases h2 : q = 2
  · rw [if_pos h2]
    refine Ok.enter hE Tryd.func16 rfl (by decide +kernel) (by kernel_rfl) rfl rfl (Nat.le_of_ble_eq_true rfl) rfl ?_
    refine ⟨_, CallR.mk1 cx rfl rfl, ?_⟩
    refine ⟨_, ⟨_, rfl, rfl⟩, ?_⟩
    refine ⟨_, CallR.mk1 P10 rfl rfl, ?_⟩
    refine ⟨_, eqN h0, ?_⟩
    refine ⟨_, eqN h1', ?_⟩
    refine ⟨_, eqT h2, ?_⟩
    exact ⟨_, rfl, wkR rfl, rfl, .nil _⟩
  rw [if_neg h2]
  by_cases h3 : q = 3
  · rw [if_pos h3]
    refine Ok.enter hE Tryd.func16 rfl (by decide +kernel) (by kernel_rfl) rfl rfl (Nat.le_of_ble_eq_true rfl) rfl ?_
    refine ⟨_, CallR.mk1 cx rfl rfl, ?_⟩
    refine ⟨_, ⟨_, rfl, rfl⟩, ?_⟩
    refine ⟨_, CallR.mk1 P10 rfl rfl, ?_⟩
    refine ⟨_, eqN h0, ?_⟩
    refine ⟨_, eqN h1', ?_⟩
    refine ⟨_, eqN h2, ?_⟩
    refine ⟨_, eqT h3, ?_⟩
    refine ⟨_, sliceRV 0 1 rfl rfl rfl rfl ⟨Nat.zero_le _, Nat.le_of_ble_eq_true rfl⟩ (by intro y hy; simp at hy; subst hy; rfl), ?_⟩
    exact ⟨_, rfl, wkR rfl, rfl, .nil _⟩
  rw [if_neg h3, if_neg h4]
  by_cases h5 : q = 5
  · rw [if_pos h5]
    refine Ok.enter hE Tryd.func16 rfl (by decide +kernel) (by kernel_rfl) rfl rfl (Nat.le_of_ble_eq_true rfl) rfl ?_
    refine ⟨_, CallR.mk1 cx rfl rfl, ?_⟩
    refine ⟨_, ⟨_, rfl, rfl⟩, ?_⟩
    refine ⟨_, CallR.mk1 P10 rfl rfl, ?_⟩
    refine ⟨_, eqN h0, ?_⟩
    refine ⟨_, eqN h1', ?_⟩
    refine ⟨_, eqN h2, ?_⟩
    refine ⟨_, eqN h3, ?_⟩
    refine ⟨_, eqN h4, ?_⟩
    refine ⟨_, eqT h5, ?_⟩
    refine ⟨_, ⟨_, rfl, rfl⟩, ?_⟩
    exact ⟨_, rfl, wkR rfl, rfl, .nil _⟩
  rw [if_neg h5]
  by_cases h6 : q = 6
  · rw [if_pos h6]
    obtain ⟨p, hp⟩ : ∃ p, pk by_ 5 = p := ⟨_, rfl⟩
    rw [hp] at P5 r5 ⊢
    have hpc : p = 0 ∨ p = 1 ∨ p = 2 ∨ p = 3 ∨ p = 4 := by omega
    refine Ok.enter hE Tryd.func16 rfl (by decide +kernel) (by kernel_rfl) rfl rfl (Nat.le_of_ble_eq_true rfl) rfl ?_
    refine ⟨_, CallR.mk1 cx rfl rfl, ?_⟩
    refine ⟨_, ⟨_, rfl, rfl⟩, ?_⟩
    refine ⟨_, CallR.mk1 P10 rfl rfl, ?_⟩
    refine ⟨_, eqN h0, ?_⟩
    refine ⟨_, eqN h1', ?_⟩
    refine ⟨_, eqN h2, ?_⟩
    refine ⟨_, eqN h3, ?_⟩
    refine ⟨_, eqN h4, ?_⟩
    refine ⟨_, eqN h5, ?_⟩
    refine ⟨_, eqT h6, ?_⟩
    refine ⟨_, ⟨_, rfl, rfl⟩, ?_⟩
    refine ⟨_, CallR.mk1 P5 rfl rfl, ?_⟩
    rcases hpc with e | e | e | e | e
    · refine ⟨_, idxV (j := 0) rfl e rfl rfl rfl, ?_⟩
      exact ⟨_, rfl, by rw [e]; exact wkE _ _ _, rfl, .nil _⟩
    · refine ⟨_, idxV (j := 1) rfl e rfl rfl rfl, ?_⟩
      exact ⟨_, rfl, by rw [e]; exact wkE _ _ _, rfl, .nil _⟩
    · refine ⟨_, idxV (j := 2) rfl e rfl rfl rfl, ?_⟩
      exact ⟨_, rfl, by rw [e]; exact wkE _ _ _, rfl, .nil _⟩
    · refine ⟨_, idxV (j := 3) rfl e rfl rfl rfl, ?_⟩
      exact ⟨_, rfl, by rw [e]; exact wkE _ _ _, rfl, .nil _⟩
    · refine ⟨_, idxV (j := 4) rfl e rfl rfl rfl, ?_⟩
      exact ⟨_, rfl, by rw [e]; exact wkE _ _ _, rfl, .nil _⟩
  rw [if_neg h6]
  by_cases h7 : q = 7
  · rw [if_pos h7]
    obtain ⟨k, hk⟩ : ∃ k, 3 + pk what 4 = k := ⟨_, rfl⟩
    rw [hk]
    have hA := Args_ok k
    have hm : argsOf k = 0 ∨ argsOf k = 1 := by
      have : k = 3 ∨ k = 4 ∨ k = 5 ∨ k = 6 := by omega
      rcases this with rfl | rfl | rfl | rfl
      · exact .inl rfl
      · exact .inl rfl
      · exact .inr rfl
      · exact .inr rfl
    refine Ok.enter hE Tryd.func16 rfl (by decide +kernel) (by kernel_rfl) rfl rfl (Nat.le_of_ble_eq_true rfl) rfl ?_
    refine ⟨_, CallR.mk1 cx rfl rfl, ?_⟩
    refine ⟨_, ⟨_, rfl, rfl⟩, ?_⟩
    refine ⟨_, CallR.mk1 P10 rfl rfl, ?_⟩
    refine ⟨_, eqN h0, ?_⟩
    refine ⟨_, eqN h1', ?_⟩
    refine ⟨_, eqN h2, ?_⟩
    refine ⟨_, eqN h3, ?_⟩
    refine ⟨_, eqN h4, ?_⟩
    refine ⟨_, eqN h5, ?_⟩
    refine ⟨_, eqN h6, ?_⟩
    refine ⟨_, eqT h7, ?_⟩
    refine ⟨_, CallR.mk1 P4 rfl rfl, ?_⟩
    refine ⟨_, addV hk (by omega) (by omega), ?_⟩
    refine Loop.run (α := Bool) (fun j => j = true → argsOf k = 1) (fun j => [(6, .ptr 0 0), (7, .ptr 1 0), (8, .ptr 2 0), (9, pI (if j then 1 else 0))]) (fun j => [zE26, (cellsE x).map .c, [pI k, pI by_, pS e0, cellA [cellsE x] j.toNat]]) (fun j => tokA j.toNat) (fun j => if j then 0 else 1) false (fun h => by cases h) ⟨⟨rfl, rfl, rfl, rfl, trivial⟩, rfl, rfl⟩ ?_
    intro j f hj
    cases j with
    | false =>
      refine ⟨_, CallR.mk1 hA rfl rfl, ?_⟩
      rcases hm with hm | hm
      · refine ⟨_, ltN (by rw [hm]; decide), ?_⟩
        exact ⟨_, rfl, by rw [hm]; exact wkE _ _ _, rfl, .nil _⟩
      · refine ⟨_, ltT (by rw [hm]; decide), ?_⟩
        refine ⟨_, ⟨_, rfl, rfl⟩, ?_⟩
        refine ⟨_, _, AppR.first1 rfl rfl (by decide) rfl rfl rfl (by decide), ?_⟩
        refine ⟨_, addV rfl (by decide) (by decide), ?_⟩
        exact ⟨true, fun _ => hm, by decide, ⟨rfl, rfl, rfl, rfl, trivial⟩, rfl, rfl⟩
    | true =>
      have hm1 := hj rfl
      refine ⟨_, CallR.mk1 hA rfl rfl, ?_⟩
      refine ⟨_, ltN (by rw [hm1]; decide), ?_⟩
      exact ⟨_, rfl, by rw [hm1]; exact wkR rfl, rfl, .nil _⟩
  rw [if_neg h7]
  by_cases h8 : q = 8
  · rw [if_pos h8]
    obtain ⟨m, hm⟩ : ∃ m : Nat, pk by_ 36 = m := ⟨(pk by_ 36).toNat, by omega⟩
    rw [hm] at P36 r36 ⊢
    rw [Int.toNat_natCast]
    have hce := cutC_eq x m
    refine Ok.enter hE Tryd.func16 rfl (by decide +kernel) (by kernel_rfl) rfl rfl (Nat.le_of_ble_eq_true rfl) rfl ?_
    refine ⟨_, CallR.mk1 cx rfl rfl, ?_⟩
    refine ⟨_, ⟨_, rfl, rfl⟩, ?_⟩
    refine ⟨_, CallR.mk1 P10 rfl rfl, ?_⟩
    refine ⟨_, eqN h0, ?_⟩
    refine ⟨_, eqN h1', ?_⟩
    refine ⟨_, eqN h2, ?_⟩
    refine ⟨_, eqN h3, ?_⟩
    refine ⟨_, eqN h4, ?_⟩
    refine ⟨_, eqN h5, ?_⟩
    refine ⟨_, eqN h6, ?_⟩
    refine ⟨_, eqN h7, ?_⟩
    refine ⟨_, eqT h8, ?_⟩
    refine Loop.run (α := Nat) (fun j => j ≤ m) (fun j => [(2, pI by_), (6, .ptr 0 0), (7, .ptr 1 0), (8, .ptr 2 0), (10, pI j)]) (fun j => [zE26, (cutC x j).map .c, [pI 9, pI 0, pS e0, .c (.row [cellsE x, cellsE x])]]) (fun _ => []) (fun j => m - j) 0 (Nat.zero_le _) ⟨⟨rfl, rfl, rfl, rfl, rfl, trivial⟩, rfl, rfl⟩ ?_
    intro j f hj
    refine ⟨_, CallR.mk1 P36 rfl rfl, ?_⟩
    by_cases hjm : j < m
    · cases j with
      | zero =>
        refine ⟨_, ltT (by omega), ?_⟩
        refine ⟨_, ⟨_, rfl, rfl⟩, ?_⟩
        refine ⟨_, addV rfl (by omega) (by omega), ?_⟩
        exact ⟨1, hjm, by omega, ⟨rfl, rfl, rfl, rfl, rfl, trivial⟩, rfl, rfl⟩
      | succ j =>
        refine ⟨_, ltT (by omega), ?_⟩
        refine ⟨_, ⟨_, rfl, rfl⟩, ?_⟩
        refine ⟨_, addV rfl (by omega) (by omega), ?_⟩
        exact ⟨j + 1 + 1, hjm, by omega, ⟨rfl, rfl, rfl, rfl, rfl, trivial⟩, rfl, rfl⟩
    · have hjm : j = m := by omega
      subst hjm
      refine ⟨_, ltN (by omega), ?_⟩
      cases j with
      | zero => exact ⟨_, rfl, Wk.refl _, rfl, .nil _⟩
      | succ j =>
        exact ⟨_, rfl, by
          show Wk (.agg (cutC x (j + 1))) (.agg (cellsE (cutN x (j + 1))))
          rw [hce]; exact Wk.refl _, rfl, .nil _⟩
  rw [if_neg h8]
  obtain ⟨m, hm⟩ : ∃ m : Nat, pk by_ 7 = m := ⟨(pk by_ 7).toNat, by omega⟩
  rw [hm] at P7 r7 ⊢
  rw [Int.toNat_natCast]
  have hce := minC_eq x m
  refine Ok.enter hE Tryd.func16 rfl (by decide +kernel) (by kernel_rfl) rfl rfl (Nat.le_of_ble_eq_true rfl) rfl ?_
  refine ⟨_, CallR.mk1 cx rfl rfl, ?_⟩
  refine ⟨_, ⟨_, rfl, rfl⟩, ?_⟩
  refine ⟨_, CallR.mk1 P10 rfl rfl, ?_⟩
  refine ⟨_, eqN h0, ?_⟩
  refine ⟨_, eqN h1', ?_⟩
  refine ⟨_, eqN h2, ?_⟩
  refine ⟨_, eqN h3, ?_⟩
  refine ⟨_, eqN h4, ?_⟩
  refine ⟨_, eqN h5, ?_⟩
  refine ⟨_, eqN h6, ?_⟩
  refine ⟨_, eqN h7, ?_⟩
  refine ⟨_, eqN h8, ?_⟩
  refine Loop.run (α := Nat) (fun j => j ≤ m) (fun j => [(2, pI by_), (6, .ptr 0 0), (7, .ptr 1 0), (8, .ptr 2 0), (11, pI j)]) (fun j => [zE26, (minC x j).map .c, [pI 9, pI 0, pS e0, .c (.row [cellsE x, cellsE x])]]) (fun _ => []) (fun j => m - j) 0 (Nat.zero_le _) ⟨⟨rfl, rfl, rfl, rfl, rfl, trivial⟩, rfl, rfl⟩ ?_
  intro j f hj
  refine ⟨_, CallR.mk1 P7 rfl rfl, ?_⟩
  by_cases hjm : j < m
  · cases j with
    | zero =>
      refine ⟨_, ltT (by omega), ?_⟩
      refine ⟨_, ⟨_, rfl, rfl⟩, ?_⟩
      refine ⟨_, addV rfl (by omega) (by omega), ?_⟩
      exact ⟨1, hjm, by omega, ⟨rfl, rfl, rfl, rfl, rfl, trivial⟩, rfl, rfl⟩
    | succ j =>
      refine ⟨_, ltT (by omega), ?_⟩
      refine ⟨_, ⟨_, rfl, rfl⟩, ?_⟩
      refine ⟨_, addV rfl (by omega) (by omega), ?_⟩
      exact ⟨j + 1 + 1, hjm, by omega, ⟨rfl, rfl, rfl, rfl, rfl, trivial⟩, rfl, rfl⟩
  · have hjm : j = m := by omega
    subst hjm
    refine ⟨_, ltN (by omega), ?_⟩
    cases j with
    | zero => exact ⟨_, rfl, Wk.refl _, rfl, .nil _⟩
    | succ j =>
      exact ⟨_, rfl, by
        show Wk (.agg (minC x (j + 1))) (.agg (cellsE (minN x (j + 1))))
        rw [hce]; exact Wk.refl _, rfl, .nil _⟩
end Go.Proofs.YtjnbhdbpajnlgaaDoor.Pm

/- Wild: the one way that writes into a row, walked by hand. -/
namespace Go.Proofs.YtjnbhdbpajnlgaaDoor.Pm
open Go Go.RowKit Go.Proofs.YtjnbhdbpajnlgaaDoor.Pl Go.Proofs.YtjnbhdbpajnlgaaDoorW.PrintWords Go.Proofs.YtjnbhdbpajnlgaaDoorW.PrintLast Go.Proofs.YtjnbhdbpajnlgaaDoorW.PrintMore
open Go.Proofs.YtjnbhdbpajnlgaaDoor.Q (rngE rngA txtE txtA sameE sameA formT wordL moreL sepA)
set_option linter.unusedVariables false
set_option linter.unusedSimpArgs false
set_option maxHeartbeats 1000000
set_option maxRecDepth 100000
theorem pick_f (c n : Int) (hc : I64 c) (hn : 0 < n) : P.hagglerlaw07_pick.f c n = some (pk c n) := by
  obtain ⟨h0, h1⟩ := hc
  unfold P.hagglerlaw07_pick.f pk
  have hnn : n ≠ 0 := by omega
  by_cases h : c < 0
  · rw [if_pos h, if_pos h, if_neg hnn]
    rw [show wrap64 (c + 1) = c + 1 by unfold wrap64; omega, show wrap64 (-(c + 1)) = -(c + 1) by unfold wrap64; omega]
  · rw [if_neg h, if_neg h, if_neg hnn]
theorem Mem.rebase {E : Env} {w w' : World} {ok ok' : Nat → Nat → Prop} (M : Mem E ⟨w, ok, []⟩ [] [] [] ok' w') : Mem E ⟨w', ok', []⟩ [] [] [] ok' w' where
  inv := M.inv
  os := rfl
  tape := rfl
  output := rfl
  size := Nat.le_refl _
  frame := fun _ _ _ => rfl
  okb := fun b o h => .inl h
  oks := M.oks
  len := rfl
  box := fun i b h => by simp at h
  inj := fun i j b h => by simp at h
  tok := fun t r h => by simp at h
  tinj := fun t u r s g h => by simp at h
  gb := Nat.le_trans M.gb M.size
  tsz := fun t r i h => by simp at h
theorem Mem.stayOk {E : Env} {w w' : World} {ok ok' : Nat → Nat → Prop} (M' : Mem E ⟨w, ok, []⟩ [] [] [] ok' w') (M : Mem E ⟨w, ok, []⟩ [] [] [] ok w) (hk : ∀ b o, ok b o → ok' b o := by exact fun _ _ h => h) : Stay w ok w' ok' :=
  stay_of ok' (fun k hk' _ => M'.frame k hk' (by simp)) M.oks hk
structure Only (g : Nat) (w w' : World) : Prop where
  os : w'.os = w.os
  tape : w'.tape = w.tape
  output : w'.output = w.output
  size : w'.heap.size = w.heap.size
  block : ∀ k, k ≠ g → w'.heap[k]? = w.heap[k]?
theorem Only.set (g j : Nat) (w : World) (u : Value) : Only g w (w.setCell ⟨g, j, none⟩ u) := by
  have h := (Below.refl 0 w).setCell (p := ⟨g, j, none⟩) (Nat.zero_le _) u
  refine ⟨h.os, h.tape, h.output, ?_, fun k hk => Below.heap_setCell _ _ _ _ hk⟩
  simp
theorem Only.trans {g : Nat} {w w' w'' : World} (h : Only g w w') (k : Only g w' w'') : Only g w w'' := ⟨k.os.trans h.os, k.tape.trans h.tape, k.output.trans h.output, k.size.trans h.size, fun i hi => (k.block i hi).trans (h.block i hi)⟩
theorem Only.below {g B : Nat} {w w' : World} (h : Only g w w') (hg : B ≤ g) : Below B w w' := ⟨h.os, h.tape, h.output, Nat.le_of_eq h.size.symm, fun k hk => h.block k (by omega)⟩
section
variable {P : Program} {ops : Array Oper} {rest : List Oper} {o : Oper} {a : Act} {Q : Exit → Act → World → Prop}
theorem store4_ev {W : World} (hgd : o.guard = none) {p : Tmp} (ho : ∃ t v, o.op = .store t (.tmp p) v) (hN : o.dst = none) (g : Nat) {a0 a1 a2 a3 : Value} {ty : TypeId} (u0 u1 u2 u3 : Value)
    (hb : W.heap[g]? = some (.cells #[a0, a1, a2, a3] ty (0, 0)))
    (hrun : (execOp a.eval o).run P W = .ok .skip ((((W.setCell ⟨g, 0, none⟩ u0).setCell ⟨g, 1, none⟩ u1).setCell ⟨g, 2, none⟩ u2).setCell ⟨g, 3, none⟩ u3))
    (h : ∀ w1, w1.heap[g]? = some (.cells #[u0, u1, u2, u3] ty (0, 0)) → Only g W w1 → wpList P ops Q rest a w1) : wpList P ops Q (o :: rest) a W :=
  store_event hgd ho.choose_spec.choose_spec hN hrun fun w' e => by
    subst e
    refine h _ ?_ ((((Only.set g 0 W u0).trans (Only.set g 1 _ u1)).trans (Only.set g 2 _ u2)).trans (Only.set g 3 _ u3))
    exact blk_put (blk_put (blk_put (blk_put hb 0 u0 rfl) 1 u1 rfl) 2 u2 rfl) 3 u3 rfl
theorem store8_ev {W : World} (hgd : o.guard = none) {p : Tmp} (ho : ∃ t v, o.op = .store t (.tmp p) v) (hN : o.dst = none) (g : Nat) {b0 b1 b2 b3 a0 a1 a2 a3 : Value} {ty : TypeId} (u0 u1 u2 u3 : Value)
    (hb : W.heap[g]? = some (.cells #[b0, b1, b2, b3, a0, a1, a2, a3] ty (0, 0)))
    (hrun : (execOp a.eval o).run P W = .ok .skip ((((W.setCell ⟨g, 4, none⟩ u0).setCell ⟨g, 5, none⟩ u1).setCell ⟨g, 6, none⟩ u2).setCell ⟨g, 7, none⟩ u3))
    (h : ∀ w1, w1.heap[g]? = some (.cells #[b0, b1, b2, b3, u0, u1, u2, u3] ty (0, 0)) → Only g W w1 → wpList P ops Q rest a w1) : wpList P ops Q (o :: rest) a W :=
  store_event hgd ho.choose_spec.choose_spec hN hrun fun w' e => by
    subst e
    refine h _ ?_ ((((Only.set g 4 W u0).trans (Only.set g 5 _ u1)).trans (Only.set g 6 _ u2)).trans (Only.set g 7 _ u3))
    exact blk_put (blk_put (blk_put (blk_put hb 4 u0 rfl) 5 u1 rfl) 6 u2 rfl) 7 u3 rfl
theorem gate_st {W : World} {t : TypeId} {v : Operand} (p : Tmp) (_ho : o.op = .store t (.tmp p) v) (h : wpList P ops Q (o :: rest) a W) : wpList P ops Q (o :: rest) a W := h
theorem row_ev {W : World} (hgd : o.guard = none) {N : Tmp} (_hd : o.dst = some N) {cs : Array Value} {t : TypeId} {n : Nat}
    (hrun : (execOp a.eval o).run P W = .ok (.value (.slice (some ⟨W.heap.size, 0, none⟩) n n)) (W.alloc (.cells cs t (0, 0))))
    (h : ∀ g, g = W.heap.size → ∀ w1, w1.heap[g]? = some (.cells cs t (0, 0)) → Below W.heap.size W w1 → wpList P ops Q rest (a.put o.dst (.slice (some ⟨g, 0, none⟩) n n)) w1) : wpList P ops Q (o :: rest) a W :=
  Kd.event_run hgd hrun (h _ rfl _ (blk_new W _) (below_alloc (Below.refl _ _) _))
end
theorem wild4 (raw : List Int) (h1 : ∀ a ∈ raw, I64 a) (l1 : raw.length ≤ 9223372036854775807) (what by_ : Int) (hw : I64 what) (hb : I64 by_) (h4 : pk what 10 = 4) : Ok E 16 [] [.c (.row (encN raw)), pI what, pI by_] (pE ⟨9, 0, e0, [stratF raw, ⟨11, 0, e0, []⟩]⟩) [] := by
  have cx := strat_ok raw h1 l1
  obtain ⟨x, ex⟩ : ∃ x, stratF raw = x := ⟨_, rfl⟩
  rw [ex] at cx ⊢
  have F10 := pick_f what 10 hw (by decide)
  rw [h4] at F10
  refine ⟨⟨_, Tryd.func16, by decide +kernel, by kernel_rfl⟩, fun w ok ms vals M hr => ?_⟩
  have hm : ms = [] := by have := M.len; simpa using this
  subst hm
  match hvl : vals.toList, hr with
  | [v0, v1, v2], hr =>
    have h0 := hr.head
    have hi1 := hr.tail.head.int_inv
    have hi2 := hr.tail.tail.head.int_inv
    subst hi1
    subst hi2
    obtain ⟨A, cap, rfl, hcap⟩ : ∃ A c, v0 = .slice A (encN raw).length c ∧ (encN raw).length ≤ c := by
      cases h0 with
      | c v p h => exact h.row_inv
    have hvals : vals = #[.slice A (encN raw).length cap, .int .i64 what, .int .i64 by_] := by apply Array.ext'; rw [hvl]
    subst hvals
    clear hr hvl
    have CS : ∀ w1 : World, Below w.heap.size w w1 → Calls Tryd.prog 15 #[.slice A (encN raw).length cap] w1 fun e w2 => ∃ A1 c1 ok1, e = .returned (.agg #[.int .i64 x.f0, .int .i64 x.f1, .string x.f2, .slice A1 x.f3.length c1]) ∧ Mem E ⟨w1, ok, []⟩ [] [] [] ok1 w2 ∧ (∀ b o, ok b o → ok1 b o) ∧ RepC w2 ok1 (.slice A1 x.f3.length c1) (.row (encL x.f3)) := by
      intro w1 hb1
      have Ma := M.below hE hb1
      have ha : Rep w1 ok [] [] (.slice A (encN raw).length cap) (.c (.row (encN raw))) := h0.later (Later.of_stay (Ma.stayOk M) [] [])
      refine (cx.2 w1 ok [] #[.slice A (encN raw).length cap] Ma.rebase (.cons ha .nil)).mono ?_
      rintro e w2 ⟨v, ok1, rfl, M1, hk1, hv⟩
      obtain ⟨A1, c1, rfl, hc1, hR1⟩ := agg_inv hv
      exact ⟨A1, c1, ok1, rfl, M1, hk1, hR1⟩
    have HB := Aside0.mk (Below.refl w.heap.size w)
    have CX := Aside0.mk CS
    have HM := Aside0.mk M
    clear CS cx h0 M h1
    show Calls Tryd.prog _ _ _ _
    go_enter Tryd.func16, Tryd.ntmps16
    go_wp2_with (first
      | ((with_reducible refine gate_dst (N := 6) rfl ?_); refine box_event ?hg (N := 6) ?hd (cs := #[.int .i64 0, .int .i64 0, .string (⟨#[]⟩ : ByteArray), .slice none 0 0]) (t := 26) ?hr ?_; (case hd => rfl); (case hg => rfl); (case hr => first | (go_simp; done) | (go_simp; rfl)); intro g0 hg0 w1 b0 hb1; have B0 := Aside0.mk b0; have G0 := Aside0.mk hg0; have HB1 := Aside0.mk hb1; clear b0 hg0 hb1)
      | (go_at_call 15; go_loud (refine (CX.out w1 HB1.out).mono ?_; rintro e w2 ⟨A1, c1, ok1, rfl, M1, hk1, hR1⟩; have HM1 := Aside0.mk M1; have HK1 := Aside0.mk hk1; have HR1 := Aside0.mk hR1; have B02 := Aside0.mk ((M1.frame g0 (blk_lt B0.out) (by simp)).trans B0.out); clear M1 hk1 hR1))
      | ((with_reducible refine gate_dst (N := 7) rfl ?_); refine box_event ?hg (N := 7) ?hd (cs := #[.int .i64 0, .int .i64 0, .string (⟨#[]⟩ : ByteArray), .slice none 0 0]) (t := 26) ?hr ?_; (case hd => rfl); (case hg => rfl); (case hr => first | (go_simp; done) | (go_simp; rfl)); intro g7 hg7 w3 b7 hb3; have B7 := Aside0.mk b7; have G7 := Aside0.mk hg7; have HB3 := Aside0.mk hb3; have B03 := Aside0.mk (blk_below B02.out hb3); clear b7 hg7 hb3; have hcz7_0 : w3.cell? ⟨g7, 0, none⟩ = some (.int .i64 0) := (blk_cell B7.out 0).trans rfl; have hfz7_0 := blk_frozen B7.out 0; have hcz7_1 : w3.cell? ⟨g7, 1, none⟩ = some (.int .i64 0) := (blk_cell B7.out 1).trans rfl; have hfz7_1 := blk_frozen B7.out 1; have hcz7_2 : w3.cell? ⟨g7, 2, none⟩ = some (.string (⟨#[]⟩ : ByteArray)) := (blk_cell B7.out 2).trans rfl; have hfz7_2 := blk_frozen B7.out 2; have hcz7_3 : w3.cell? ⟨g7, 3, none⟩ = some (.slice none 0 0) := (blk_cell B7.out 3).trans rfl; have hfz7_3 := blk_frozen B7.out 3)
      | ((with_reducible refine gate_st 7 rfl ?_); refine store4_ev ?hg (p := 7) ?ho ?hN g7 (.int .i64 x.f0) (.int .i64 x.f1) (.string x.f2) (.slice A1 x.f3.length c1) B7.out ?hr ?_; (case hN => rfl); (case hg => rfl); (case ho => exact ⟨_, _, rfl⟩); (case hr => first | (go_simp; done) | (go_simp; rfl)); intro w4 b7 ho4; have B74 := Aside0.mk b7; have O4 := Aside0.mk ho4; have B04 := Aside0.mk ((ho4.block g0 (by rw [G7.out]; exact Nat.ne_of_lt (blk_lt B02.out))).trans B03.out); clear b7 ho4; clear hcz7_0 hfz7_0 hcz7_1 hfz7_1 hcz7_2 hfz7_2 hcz7_3 hfz7_3; have hcz74_0 : w4.cell? ⟨g7, 0, none⟩ = some (.int .i64 x.f0) := (blk_cell B74.out 0).trans rfl; have hfz74_0 := blk_frozen B74.out 0; have hcz74_1 : w4.cell? ⟨g7, 1, none⟩ = some (.int .i64 x.f1) := (blk_cell B74.out 1).trans rfl; have hfz74_1 := blk_frozen B74.out 1; have hcz74_2 : w4.cell? ⟨g7, 2, none⟩ = some (.string x.f2) := (blk_cell B74.out 2).trans rfl; have hfz74_2 := blk_frozen B74.out 2; have hcz74_3 : w4.cell? ⟨g7, 3, none⟩ = some (.slice A1 x.f3.length c1) := (blk_cell B74.out 3).trans rfl; have hfz74_3 := blk_frozen B74.out 3)
      | ((with_reducible refine gate_dst (N := 16) rfl ?_); refine row_ev ?hg (N := 16) ?hd (cs := #[.int .i64 x.f0, .int .i64 x.f1, .string x.f2, .slice A1 x.f3.length c1, .int .i64 x.f0, .int .i64 x.f1, .string x.f2, .slice A1 x.f3.length c1]) (t := 26) (n := 2) ?hr ?_; (case hd => rfl); (case hg => rfl); (case hr => first | (go_simp; done) | (go_simp; rfl)); intro g16 hg16 w5 b16 hb5; have B16 := Aside0.mk b16; have G16 := Aside0.mk hg16; have HB5 := Aside0.mk hb5; have B05 := Aside0.mk (blk_below B04.out hb5); clear b16 hg16 hb5; clear hcz74_0 hfz74_0 hcz74_1 hfz74_1 hcz74_2 hfz74_2 hcz74_3 hfz74_3)
      | ((with_reducible refine gate_dst (N := 8) rfl ?_); refine box_event ?hg (N := 8) ?hd (cs := #[.int .i64 0, .int .i64 0, .string (⟨#[]⟩ : ByteArray), .slice none 0 0]) (t := 26) ?hr ?_; (case hd => rfl); (case hg => rfl); (case hr => first | (go_simp; done) | (go_simp; rfl)); intro g8 hg8 w6 b8 hb6; have B8 := Aside0.mk b8; have G8 := Aside0.mk hg8; have HB6 := Aside0.mk hb6; have B06 := Aside0.mk (blk_below B05.out hb6); have B166 := Aside0.mk (blk_below B16.out hb6); clear b8 hg8 hb6; have hcz8_0 : w6.cell? ⟨g8, 0, none⟩ = some (.int .i64 0) := (blk_cell B8.out 0).trans rfl; have hfz8_0 := blk_frozen B8.out 0; have hcz8_1 : w6.cell? ⟨g8, 1, none⟩ = some (.int .i64 0) := (blk_cell B8.out 1).trans rfl; have hfz8_1 := blk_frozen B8.out 1; have hcz8_2 : w6.cell? ⟨g8, 2, none⟩ = some (.string (⟨#[]⟩ : ByteArray)) := (blk_cell B8.out 2).trans rfl; have hfz8_2 := blk_frozen B8.out 2; have hcz8_3 : w6.cell? ⟨g8, 3, none⟩ = some (.slice none 0 0) := (blk_cell B8.out 3).trans rfl; have hfz8_3 := blk_frozen B8.out 3)
      | ((with_reducible refine gate_st 8 rfl ?_); refine store4_ev ?hg (p := 8) ?ho ?hN g8 (.int .i64 9) (.int .i64 0) (.string (⟨#[]⟩ : ByteArray)) (.slice (some ⟨g16, 0, none⟩) 2 2) B8.out ?hr ?_; (case hN => rfl); (case hg => rfl); (case ho => exact ⟨_, _, rfl⟩); (case hr => first | (go_simp; done) | (go_simp; rfl)); intro w7 b8 ho7; have B87 := Aside0.mk b8; have O7 := Aside0.mk ho7; have B07 := Aside0.mk ((ho7.block g0 (by rw [G8.out]; exact Nat.ne_of_lt (blk_lt B05.out))).trans B06.out); have B167 := Aside0.mk ((ho7.block g16 (by rw [G8.out]; exact Nat.ne_of_lt (blk_lt B16.out))).trans B166.out); clear b8 ho7; clear hcz8_0 hfz8_0 hcz8_1 hfz8_1 hcz8_2 hfz8_2 hcz8_3 hfz8_3)
      | (go_at_call 27; go_loud (refine (P.hagglerlaw07_pick.calls _ _ _ _ F10).mono ?_; rintro e w8 ⟨rfl, ⟨⟨n1, hw8⟩⟩⟩; have O8 := Aside0.mk hw8; have hh8 : w8.heap = w7.heap := (by rw [hw8] <;> rfl); have B88 := Aside0.mk ((congrArg (fun h : Array Obj => h[g8]?) hh8).trans B87.out); have B168 := Aside0.mk ((congrArg (fun h : Array Obj => h[g16]?) hh8).trans B167.out); have B08 := Aside0.mk ((congrArg (fun h : Array Obj => h[g0]?) hh8).trans B07.out); clear hh8 hw8; have hcz88_0 : w8.cell? ⟨g8, 0, none⟩ = some (.int .i64 9) := (blk_cell B88.out 0).trans rfl; have hfz88_0 := blk_frozen B88.out 0; have hcz88_1 : w8.cell? ⟨g8, 1, none⟩ = some (.int .i64 0) := (blk_cell B88.out 1).trans rfl; have hfz88_1 := blk_frozen B88.out 1; have hcz88_2 : w8.cell? ⟨g8, 2, none⟩ = some (.string (⟨#[]⟩ : ByteArray)) := (blk_cell B88.out 2).trans rfl; have hfz88_2 := blk_frozen B88.out 2; have hcz88_3 : w8.cell? ⟨g8, 3, none⟩ = some (.slice (some ⟨g16, 0, none⟩) 2 2) := (blk_cell B88.out 3).trans rfl; have hfz88_3 := blk_frozen B88.out 3; have hcz168_4 : w8.cell? ⟨g16, 4, none⟩ = some (.int .i64 x.f0) := (blk_cell B168.out 4).trans rfl; have hfz168_4 := blk_frozen B168.out 4; have hcz168_5 : w8.cell? ⟨g16, 5, none⟩ = some (.int .i64 x.f1) := (blk_cell B168.out 5).trans rfl; have hfz168_5 := blk_frozen B168.out 5; have hcz168_6 : w8.cell? ⟨g16, 6, none⟩ = some (.string x.f2) := (blk_cell B168.out 6).trans rfl; have hfz168_6 := blk_frozen B168.out 6; have hcz168_7 : w8.cell? ⟨g16, 7, none⟩ = some (.slice A1 x.f3.length c1) := (blk_cell B168.out 7).trans rfl; have hfz168_7 := blk_frozen B168.out 7))
      | ((with_reducible refine gate_st 55 rfl ?_); refine store8_ev ?hg (p := 55) ?ho ?hN g16 (.int .i64 11) (.int .i64 0) (.string (⟨#[]⟩ : ByteArray)) (.slice none 0 0) B168.out ?hr ?_; (case hN => rfl); (case hg => rfl); (case ho => exact ⟨_, _, rfl⟩); (case hr => first | (go_simp; done) | (go_simp; rfl)); intro w9 b16 ho9; have B169 := Aside0.mk b16; have O9 := Aside0.mk ho9; have B89 := Aside0.mk ((ho9.block g8 (by rw [G8.out]; exact Nat.ne_of_gt (blk_lt B16.out))).trans B88.out); have B09 := Aside0.mk ((ho9.block g0 (by rw [G16.out]; exact Nat.ne_of_lt (blk_lt B04.out))).trans B08.out); clear b16 ho9; clear hcz88_0 hfz88_0 hcz88_1 hfz88_1 hcz88_2 hfz88_2 hcz88_3 hfz88_3; clear hcz168_4 hfz168_4 hcz168_5 hfz168_5 hcz168_6 hfz168_6 hcz168_7 hfz168_7; have hcz89_0 : w9.cell? ⟨g8, 0, none⟩ = some (.int .i64 9) := (blk_cell B89.out 0).trans rfl; have hfz89_0 := blk_frozen B89.out 0; have hcz89_1 : w9.cell? ⟨g8, 1, none⟩ = some (.int .i64 0) := (blk_cell B89.out 1).trans rfl; have hfz89_1 := blk_frozen B89.out 1; have hcz89_2 : w9.cell? ⟨g8, 2, none⟩ = some (.string (⟨#[]⟩ : ByteArray)) := (blk_cell B89.out 2).trans rfl; have hfz89_2 := blk_frozen B89.out 2; have hcz89_3 : w9.cell? ⟨g8, 3, none⟩ = some (.slice (some ⟨g16, 0, none⟩) 2 2) := (blk_cell B89.out 3).trans rfl; have hfz89_3 := blk_frozen B89.out 3; have hcz09_0 : w9.cell? ⟨g0, 0, none⟩ = some (.int .i64 0) := (blk_cell B09.out 0).trans rfl; have hfz09_0 := blk_frozen B09.out 0; have hcz09_1 : w9.cell? ⟨g0, 1, none⟩ = some (.int .i64 0) := (blk_cell B09.out 1).trans rfl; have hfz09_1 := blk_frozen B09.out 1; have hcz09_2 : w9.cell? ⟨g0, 2, none⟩ = some (.string (⟨#[]⟩ : ByteArray)) := (blk_cell B09.out 2).trans rfl; have hfz09_2 := blk_frozen B09.out 2; have hcz09_3 : w9.cell? ⟨g0, 3, none⟩ = some (.slice none 0 0) := (blk_cell B09.out 3).trans rfl; have hfz09_3 := blk_frozen B09.out 3)
      | ((with_reducible refine gate_st 6 rfl ?_); refine store4_ev ?hg (p := 6) ?ho ?hN g0 (.int .i64 9) (.int .i64 0) (.string (⟨#[]⟩ : ByteArray)) (.slice (some ⟨g16, 0, none⟩) 2 2) B09.out ?hr ?_; (case hN => rfl); (case hg => rfl); (case ho => exact ⟨_, _, rfl⟩); (case hr => first | (go_simp; done) | (go_simp; rfl)); intro w10 b0 ho10; have B010 := Aside0.mk b0; have O10 := Aside0.mk ho10; have B1610 := Aside0.mk ((ho10.block g16 (by rw [G16.out]; exact Nat.ne_of_gt (blk_lt B04.out))).trans B169.out); clear b0 ho10; clear hcz89_0 hfz89_0 hcz89_1 hfz89_1 hcz89_2 hfz89_2 hcz89_3 hfz89_3; clear hcz09_0 hfz09_0 hcz09_1 hfz09_1 hcz09_2 hfz09_2 hcz09_3 hfz09_3))
    refine bodyPost_ret (results_cell_row rfl _ _ g0 26 #[.int .i64 9, .int .i64 0, .string (⟨#[]⟩ : ByteArray), .slice (some ⟨g16, 0, none⟩) 2 2] (0, 0) _ rfl B010.out Tryd.underlying26 rfl (by kernel_rfl)) rfl ?_
    have hg0 := G0.out
    have hg7 := G7.out
    have hg16 := G16.out
    have hg8 := G8.out
    have M := HM.out
    have M1 := HM1.out
    have s1 := HB1.out.size
    have l0 := blk_lt B0.out
    have s2 : w1.heap.size ≤ w2.heap.size := M1.size
    have s3 := HB3.out.size
    have s4 := O4.out.size
    have s5 := HB5.out.size
    have s6 := HB6.out.size
    have s7 := O7.out.size
    have s10 := O10.out.size
    have b78 : Below w2.heap.size w7 w8 := by rw [O8.out]; exact ⟨rfl, rfl, rfl, Nat.le_refl _, fun _ _ => rfl⟩
    have b29 : Below w2.heap.size w2 w9 := ((((((HB3.out.trans (O4.out.below (by omega))).trans ⟨HB5.out.os, HB5.out.tape, HB5.out.output, HB5.out.size, fun k hk => HB5.out.block k (by omega)⟩).trans ⟨HB6.out.os, HB6.out.tape, HB6.out.output, HB6.out.size, fun k hk => HB6.out.block k (by omega)⟩).trans (O7.out.below (by omega))).trans b78).trans (O9.out.below (by omega)))
    have s9 := b29.size
    have l16 := blk_lt B169.out
    have far : ∀ k, k < w2.heap.size → k ≠ g0 → w10.heap[k]? = w2.heap[k]? := fun k hk hn => (O10.out.block k hn).trans (b29.block k hk)
    have st : Stay w2 ok1 w10 (fun b o => ok1 b o ∨ b = g16) := stay_of _ (fun k hk ho => far k hk (by
      obtain ⟨o, ho⟩ := ho
      rcases M1.okb k o ho with h | h
      · have h : ok k o := h
        have := M.oks k o h; omega
      · have h : w1.heap.size ≤ k := h
        omega)) M1.oks (fun b o h => .inl h)
    refine ⟨_, fun b o => ok1 b o ∨ b = g16, rfl, ?_, fun b o h => .inl (HK1.out b o h), ?_⟩
    · exact {
        inv := hE.stable w2 w10 M1.inv (by omega) fun b hb => far b (by have : E.P.globals.size ≤ w.heap.size := M.gb; omega) (by have : E.P.globals.size ≤ w.heap.size := M.gb; omega)
        os := O10.out.os.trans (b29.os.trans (M1.os.trans HB1.out.os))
        tape := O10.out.tape.trans (b29.tape.trans (M1.tape.trans HB1.out.tape))
        output := O10.out.output.trans (b29.output.trans (M1.output.trans HB1.out.output))
        size := by show w.heap.size ≤ _; omega
        frame := fun k hk _ => by
          have hk : k < w.heap.size := hk
          exact (far k (by omega) (by omega)).trans ((M1.frame k (by show k < w1.heap.size; omega) (by simp)).trans (HB1.out.block k hk))
        okb := fun b o h => by
          rcases h with h | h
          · rcases M1.okb b o h with h | h
            · exact .inl h
            · exact .inr (by have h : w1.heap.size ≤ b := h; show w.heap.size ≤ b; omega)
          · exact .inr (by show w.heap.size ≤ b; omega)
        oks := fun b o h => by
          rcases h with h | h
          · have := M1.oks b o h; omega
          · omega
        len := rfl
        box := fun i b h => by simp at h
        inj := fun i j b h => by simp at h
        tok := fun t r h => by simp at h
        tinj := fun t u r s g h => by simp at h
        gb := M.gb
        tsz := fun t r i h => by simp at h }
    · have hrow : RepC w10 (fun b o => ok1 b o ∨ b = g16) (.slice (some ⟨g16, 0, none⟩) 2 2) (.row [cellsE x, cellsE ⟨11, 0, e0, []⟩]) := by
        refine .row (some ⟨g16, 0, none⟩) 2 2 _ 4 (fun i => [Value.int .i64 x.f0, .int .i64 x.f1, .string x.f2, .slice A1 x.f3.length c1, .int .i64 11, .int .i64 0, .string ⟨#[]⟩, .slice none 0 0].getD i undef) rfl (Nat.le_refl _) (fun h => by cases h) (by decide) ?_ ?_ ?_
        · intro y hy
          simp only [List.mem_cons, List.not_mem_nil, or_false] at hy
          rcases hy with rfl | rfl <;> rfl
        · intro i hi
          have hi8 : i = 0 ∨ i = 1 ∨ i = 2 ∨ i = 3 ∨ i = 4 ∨ i = 5 ∨ i = 6 ∨ i = 7 := by omega
          rcases hi8 with rfl | rfl | rfl | rfl | rfl | rfl | rfl | rfl
          all_goals exact ⟨_, rfl, .inr rfl, (blk_cell B1610.out _).trans rfl⟩
        · intro i y j c hy hj
          match i with
          | 0 =>
            simp only [List.getElem?_cons_zero, Option.some.injEq] at hy
            subst hy
            match j with
            | 0 => simp at hj; subst hj; exact .int _ _
            | 1 => simp at hj; subst hj; exact .int _ _
            | 2 => simp at hj; subst hj; exact .str _
            | 3 => simp at hj; subst hj; exact HR1.out.stay st
            | j + 4 => simp at hj
          | 1 =>
            simp only [List.getElem?_cons_succ, List.getElem?_cons_zero, Option.some.injEq] at hy
            subst hy
            match j with
            | 0 => simp at hj; subst hj; exact .int _ _
            | 1 => simp at hj; subst hj; exact .int _ _
            | 2 => simp at hj; subst hj; exact .str _
            | 3 => simp at hj; subst hj; rw [encL]; exact RepC.nil.nil_row
            | j + 4 => simp at hj
          | i + 2 => simp at hy
      have hL : RepL (RepC w10 (fun b o => ok1 b o ∨ b = g16)) [.int .i64 9, .int .i64 0, .string (⟨#[]⟩ : ByteArray), .slice (some ⟨g16, 0, none⟩) 2 2] [.int .i64 9, .int .i64 0, .str e0, .row (encL [x, ⟨11, 0, e0, []⟩])] := by
        rw [encL_map]
        exact .cons (.int _ _) (.cons (.int _ _) (.cons (.str _) (.cons hrow .nil)))
      exact .agg _ _ hL
theorem Wild_ok (raw : List Int) (h1 : ∀ a ∈ raw, I64 a) (l1 : raw.length ≤ 9223372036854775807) (what by_ : Int) (hw : I64 what) (hb : I64 by_) : Ok E 16 [] [.c (.row (encN raw)), pI what, pI by_] (pE (wildF raw what by_)) [] := by
  by_cases h4 : pk what 10 = 4
  · have e : wildF raw what by_ = ⟨9, 0, e0, [stratF raw, ⟨11, 0, e0, []⟩]⟩ := by
      unfold wildF
      dsimp only
      rw [h4, if_neg (by decide), if_neg (by decide), if_neg (by decide), if_neg (by decide), if_pos rfl]
    rw [e]
    exact wild4 raw h1 l1 what by_ hw hb h4
  · exact wild_ok raw h1 l1 what by_ hw hb h4
end Go.Proofs.YtjnbhdbpajnlgaaDoor.Pm

/- The statement TreeTells, in the pure machine. -/
namespace Go.Proofs.YtjnbhdbpajnlgaaDoor.Pm
open Go Go.RowKit Go.Proofs.YtjnbhdbpajnlgaaDoor.Pl
open Go.Proofs.YtjnbhdbpajnlgaaDoor.Q (rngE rngA txtE txtA sameE sameA formT wordL moreL sepA)
set_option linter.unusedVariables false
set_option maxHeartbeats 1000000
/-- what may be asked of a tree -/
structure Tame (x : Ex) : Prop where
  rng : rngE x = true
  size : size x ≤ 1000000
theorem tame_node {k n : Int} {nm : ByteArray} {l : List Ex} (hn : I64 n) (hl : l.length < 1000) (h : ∀ x ∈ l, rngE x = true) (hs : sizeL l ≤ 999999) : Tame ⟨k, n, nm, l⟩ := ⟨rng_node hn hl h, by rw [size]; omega⟩
theorem cutN_tame {x : Ex} (h : rngE x = true) : ∀ j, rngE (cutN x j) = true ∧ size (cutN x j) = size x + j
  | 0 => ⟨h, by rw [cutN]; simp⟩
  | j + 1 => by
    obtain ⟨a, b⟩ := cutN_tame h j
    rw [cutN]
    exact ⟨rng_node ⟨by decide, by decide⟩ (by simp) (by simp [a]), by rw [size, sizeL, sizeL]; omega⟩
theorem minN_tame {x : Ex} (h : rngE x = true) : ∀ j, rngE (minN x j) = true ∧ size (minN x j) + 1 = (size x + 1) * 2 ^ j
  | 0 => ⟨h, by rw [minN]; simp⟩
  | j + 1 => by
    obtain ⟨a, b⟩ := minN_tame h j
    rw [minN]
    exact ⟨rng_node ⟨by decide, by decide⟩ (by simp) (by simp [a]), by rw [size, sizeL, sizeL, sizeL, Int.pow_succ, ← Int.mul_assoc]; omega⟩
theorem wild_tame (raw : List Int) (h : ∀ a ∈ raw, I64 a) (what by_ : Int) (hb : I64 by_) : Tame (wildF raw what by_) := by
  have hx := strat_small raw h
  unfold wildF
  obtain ⟨x, ex⟩ : ∃ x, stratF raw = x := ⟨_, rfl⟩
  rw [ex] at hx ⊢
  dsimp only
  have hr := hx.rng
  have hs := hx.size
  have r16 := pk_rng (c := by_) (n := 16) (by decide)
  have r36 := pk_rng (c := by_) (n := 36) (by decide)
  have r7 := pk_rng (c := by_) (n := 7) (by decide)
  have z0 : I64 0 := ⟨by decide, by decide⟩
  have s2 : sizeL [x, x] ≤ 999999 := by rw [sizeL, sizeL, sizeL]; omega
  have r2 : ∀ y ∈ [x, x], rngE y = true := by simp [hr]
  split
  · exact tame_node z0 (by simp) r2 s2
  split
  · exact tame_node hb (by simp) r2 s2
  split
  · exact tame_node z0 (by simp) r2 s2
  split
  · exact tame_node z0 (by simp) (by simp [hr]) (by rw [sizeL, sizeL]; omega)
  split
  · have ez : size ⟨11, 0, e0, []⟩ = 1 := by rw [size, sizeL]; rfl
    refine tame_node z0 (by simp) ?_ (by rw [sizeL, sizeL, sizeL, ez]; omega)
    intro y hy
    simp only [List.mem_cons, List.not_mem_nil, or_false] at hy
    rcases hy with rfl | rfl
    · exact hr
    · exact rng_node z0 (by simp) (fun y hy => by cases hy)
  split
  · exact tame_node z0 (by simp) (by simp [hr]) (by rw [sizeL, sizeL, sizeL, sizeL]; omega)
  split
  · exact tame_node z0 (by simp) (fun y hy => by cases hy) (by rw [sizeL]; decide)
  split
  · have r4 := pk_rng (c := what) (n := 4) (by decide)
    have hm : argsOf (3 + pk what 4) = 0 ∨ argsOf (3 + pk what 4) = 1 := by
      have : 3 + pk what 4 = 3 ∨ 3 + pk what 4 = 4 ∨ 3 + pk what 4 = 5 ∨ 3 + pk what 4 = 6 := by omega
      rcases this with h | h | h | h <;> rw [h] <;> decide
    rcases hm with hm | hm
    · rw [hm]
      exact tame_node hb (by simp) (fun y hy => by cases hy) (by show sizeL [] ≤ _; rw [sizeL]; decide)
    · rw [hm]
      exact tame_node hb (by simp) (by intro y hy; simp at hy; rw [hy]; exact hr) (by show sizeL [x] ≤ _; rw [sizeL, sizeL]; omega)
  split
  · obtain ⟨a, b⟩ := cutN_tame hr (pk by_ 36).toNat
    exact ⟨a, by rw [b]; omega⟩
  · obtain ⟨a, b⟩ := minN_tame hr (pk by_ 7).toNat
    refine ⟨a, ?_⟩
    obtain ⟨m, hm⟩ : ∃ m : Nat, (pk by_ 7).toNat = m := ⟨_, rfl⟩
    rw [hm] at b ⊢
    have hm7 : m ≤ 6 := by omega
    have : ∀ m : Nat, m ≤ 6 → (2 : Int) ^ m ≤ 64 := by decide
    have h2 := this m hm7
    have h3 : (size x + 1) * 2 ^ m ≤ (size x + 1) * 64 := Int.mul_le_mul_of_nonneg_left h2 (by have := size_pos x; omega)
    omega
theorem neSame {t : TI} {v : Int} : BinR (some t) .neq (.c (.int .i64 v)) (.c (.int .i64 v)) (.c (.bool false)) := neN rfl
theorem TreeTells_ok (one : List Int) (h1 : ∀ a ∈ one, I64 a) (l1 : one.length ≤ 17592186043904) (two : List Int) (h2 : ∀ a ∈ two, I64 a) (l2 : two.length ≤ 17592186043904) (what : Int) (hw : I64 what) (by_ : Int) (hb : I64 by_) : Ok E 3 [] [.c (.row (encN one)), .c (.row (encN two)), pI what, pI by_] (pB true) [] := by
  have cy := strat_ok two h2 (by omega)
  have cx := strat_ok one h1 (by omega)
  have c1 := Wild_ok one h1 (by omega) what by_ hw hb
  have c2 := Wild_ok two h2 (by omega) by_ what hb hw
  have ty : Tame (stratF two) := ⟨(strat_small two h2).rng, by have := (strat_small two h2).size; omega⟩
  have t0 : Tame (stratF one) := ⟨(strat_small one h1).rng, by have := (strat_small one h1).size; omega⟩
  have t1 := wild_tame one h1 what by_ hb
  have t2 := wild_tame two h2 by_ what hw
  obtain ⟨y, ey⟩ : ∃ x, stratF two = x := ⟨_, rfl⟩
  obtain ⟨x0, e0'⟩ : ∃ x, stratF one = x := ⟨_, rfl⟩
  obtain ⟨x1, e1⟩ : ∃ x, wildF one what by_ = x := ⟨_, rfl⟩
  obtain ⟨x2, e2⟩ : ∃ x, wildF two by_ what = x := ⟨_, rfl⟩
  rw [ey] at cy ty
  rw [e0'] at cx t0
  rw [e1] at c1 t1
  rw [e2] at c2 t2
  obtain ⟨l, hl⟩ : ∃ l, [x0, x1, x2] = l := ⟨_, rfl⟩
  have hl3 : l.length = 3 := by rw [← hl]; rfl
  have hlt : ∀ x ∈ l, Tame x := by
    rw [← hl]
    intro x hx
    simp only [List.mem_cons, List.not_mem_nil, or_false] at hx
    rcases hx with rfl | rfl | rfl
    · exact t0
    · exact t1
    · exact t2
  have hrow : [cellsE x0, cellsE x1, cellsE x2] = l.map cellsE := by rw [← hl]; rfl
  refine Ok.enter hE Tryd.func3 rfl (by decide +kernel) (by kernel_rfl) rfl rfl (Nat.le_of_ble_eq_true rfl) rfl ?_
  refine ⟨_, CallR.mk1 awake_ok rfl rfl, ?_⟩
  refine ⟨_, CallR.mk1 cy rfl rfl, ?_⟩
  refine ⟨_, CallR.mk1 cx rfl rfl, ?_⟩
  refine ⟨_, CallR.mk1 c1 rfl rfl, ?_⟩
  refine ⟨_, CallR.mk1 c2 rfl rfl, ?_⟩
  refine ⟨_, ⟨_, rfl, rfl⟩, ?_⟩
  refine Loop.cut (α := Nat) (fun j => j ≤ 3) (fun j => [(9, pB true), (10, .ptr 0 0), (30, .c (.row (l.map cellsE))), (31, pI 3), (32, pI j)]) (fun _ => [(cellsE y).map .c]) (fun _ => []) (fun j => 3 - j) 0 1 (fun _ => rfl) (fun _ => rfl) (fun _ => rfl) (Nat.zero_le _) ⟨⟨rfl, rfl, congrArg (fun r : List (List CV) => PV.c (.row r)) hrow, rfl, rfl, trivial⟩, rfl, rfl⟩ ?_
  intro j f hj
  by_cases hjl : j < 3
  rotate_left
  · refine ⟨_, ltN (by omega), ?_⟩
    exact Ret.mk _ rfl rfl rfl
  obtain ⟨x, hx⟩ : ∃ x, l[j]? = some x := ⟨_, List.getElem?_eq_getElem (by omega)⟩
  have tx := hlt x (List.mem_of_getElem? hx)
  have hsx := tx.size
  have hsy := ty.size
  have hx' : (l.map cellsE)[j]? = some (cellsE x) := by rw [List.getElem?_map, hx]; rfl
  have P1 := print_ok x tx.rng (by omega)
  have P2 := rPrint_ok x tx.rng (by omega)
  have R1 := right_ok x tx.rng (by omega)
  have R2 := rRight_ok x tx.rng (by omega)
  have S1 := Size_ok x (by omega)
  have S2 := rSize_ok x (by omega)
  have D1 := Deep_ok x (by omega)
  have D2 := rDeep_ok x (by omega)
  have E1 := Same_ok x y tx.rng ty.rng
  have E2 := rSame_ok x y (by omega)
  have E3 := Same_ok x x tx.rng tx.rng
  rw [same_refl] at E3
  have hbb : ∀ b : Bool, (b == b) = true := fun b => by cases b <;> rfl
  refine ⟨_, ltT (by omega), ?_⟩
  refine ⟨_, idxV (j := j) hx' rfl rfl rfl rfl, ?_⟩
  rcases Bool.eq_false_or_eq_true (isRight x) with hr | hr
  · rw [hr, if_pos rfl] at P1 P2
    refine ⟨_, CallR.mk1 P1 rfl rfl, ?_⟩
    refine ⟨_, CallR.mk1 P2 rfl rfl, ?_⟩
    refine ⟨_, strNeV (c := false) (by rw [show ∀ z : List UInt8, (z == z) = true from fun z => beq_self_eq_true z]; rfl), ?_⟩
    refine ⟨_, neN rfl, ?_⟩
    refine ⟨_, CallR.mk1 R1 rfl rfl, ?_⟩
    refine ⟨_, CallR.mk1 R2 rfl rfl, ?_⟩
    refine ⟨_, neBN (hbb _), ?_⟩
    refine ⟨_, CallR.mk1 S1 rfl rfl, ?_⟩
    refine ⟨_, CallR.mk1 S2 rfl rfl, ?_⟩
    refine ⟨_, neN rfl, ?_⟩
    refine ⟨_, CallR.mk1 D1 rfl rfl, ?_⟩
    refine ⟨_, CallR.mk1 D2 rfl rfl, ?_⟩
    refine ⟨_, neN rfl, ?_⟩
    refine ⟨_, CallR.mk1 E1 rfl rfl, ?_⟩
    refine ⟨_, CallR.mk1 E2 rfl rfl, ?_⟩
    refine ⟨_, neBN (hbb _), ?_⟩
    refine ⟨_, CallR.mk1 E3 rfl rfl, ?_⟩
    refine ⟨_, addV rfl (by omega) (by omega), ?_⟩
    exact ⟨j + 1, hjl, by omega, ⟨rfl, rfl, rfl, rfl, rfl, trivial⟩, ⟨_, rfl⟩, rfl⟩
  · rw [hr, if_neg (by simp)] at P1 P2
    refine ⟨_, CallR.mk1 P1 rfl rfl, ?_⟩
    refine ⟨_, CallR.mk1 P2 rfl rfl, ?_⟩
    refine ⟨_, strNeV (c := false) (by rw [show ∀ z : List UInt8, (z == z) = true from fun z => beq_self_eq_true z]; rfl), ?_⟩
    refine ⟨_, neN rfl, ?_⟩
    refine ⟨_, CallR.mk1 R1 rfl rfl, ?_⟩
    refine ⟨_, CallR.mk1 R2 rfl rfl, ?_⟩
    refine ⟨_, neBN (hbb _), ?_⟩
    refine ⟨_, CallR.mk1 S1 rfl rfl, ?_⟩
    refine ⟨_, CallR.mk1 S2 rfl rfl, ?_⟩
    refine ⟨_, neN rfl, ?_⟩
    refine ⟨_, CallR.mk1 D1 rfl rfl, ?_⟩
    refine ⟨_, CallR.mk1 D2 rfl rfl, ?_⟩
    refine ⟨_, neN rfl, ?_⟩
    refine ⟨_, CallR.mk1 E1 rfl rfl, ?_⟩
    refine ⟨_, CallR.mk1 E2 rfl rfl, ?_⟩
    refine ⟨_, neBN (hbb _), ?_⟩
    refine ⟨_, CallR.mk1 E3 rfl rfl, ?_⟩
    refine ⟨_, addV rfl (by omega) (by omega), ?_⟩
    exact ⟨j + 1, hjl, by omega, ⟨rfl, rfl, rfl, rfl, rfl, trivial⟩, ⟨_, rfl⟩, rfl⟩
end Go.Proofs.YtjnbhdbpajnlgaaDoor.Pm
