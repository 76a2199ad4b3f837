/- Texts that are merged: CpN, CpO, CpP, CpQ, CpR, CpT, CpU, RowD, RowE. -/
import Derived.Test.YtadpifnlkmeifaaDoorCdBll
import Derived.Test.YtadpifnlkmeifaaDoorPmBll
import Derived.Test.YtadpifnlkmeifaaDoorCdAll
import Derived.Test.YtadpifnlkmeifaaDoorPtCll
import Derived.ChangeArms
import Derived.SizedLaws
import Derived.Test.YtadpifnlkmeifaaDoorRows
/- code.Text. -/
namespace Go.Proofs.YtadpifnlkmeifaaDoor.Cd
open Go Go.RowKit Go.Proofs.YtadpifnlkmeifaaDoor.Pm Go.Proofs.YtadpifnlkmeifaaDoor.Pl
set_option linter.unusedVariables false
set_option maxHeartbeats 4000000
set_option maxRecDepth 8000
theorem Number_ok (n : Int) (hn : I64 n) : Ok E 33 [] [pI n] (pS (B (intL n))) [] := by
  refine Ok.ofBelow hE ⟨_, Tryd.func33, by decide +kernel, by kernel_rfl⟩ fun w ok vals hI hr => ?_
  refine ⟨.string (B (intL n)), fun _ => .mkStr _, ?_⟩
  match hv : vals.toList, hr with
  | [v], h =>
    have hvals : vals = #[.int .i64 n] := by apply Array.ext'; rw [hv, h.head.int_inv]
    subst hvals
    exact P.dec_Number.calls n _ w ⟨hI.tab⟩ (DecT.Number_eq n hn.1 hn.2)
def wordsR : List (List CV) := wordsO.map fun w => [.str (B w)]
theorem words_ok : Ok E 30 [] [] (.c (.row wordsR)) [] := by
  refine Ok.enter hE Tryd.func30 rfl (by decide +kernel) (by kernel_rfl) rfl rfl (Nat.le_of_ble_eq_true rfl) rfl ?_
  refine ⟨_, ⟨_, rfl, rfl⟩, ?_⟩
  exact Ret.mk _ rfl rfl rfl
theorem wordsR_get (op : Int) : wordsR[(opW op).toNat]? = some [.str (B (wordO op))] := by
  have h : (opW op).toNat < 14 := by unfold opW; split <;> omega
  have hl : wordsO.length = 14 := rfl
  unfold wordsR wordO
  rw [List.getElem?_map, List.getD_eq_getElem?_getD, List.getElem?_eq_getElem (by omega)]
  rfl
/-- the builder ahead of a round -/
def bldJ : Nat → List UInt8 → List PV
  | 0, _ => bld0
  | _ + 1, s => bldU 0 s
theorem write_first (j : Nat) (s : List UInt8) (hs : j = 0 → s = []) (t : ByteArray) (X : List PV) (hX : X.all (fitB 2) = true) (hn : s.length + t.size ≤ 140737488355328) :
    WCallR E 31 [bldJ j s, X] [.ptr 0 0, .c (.str t)] .undef [bldU 0 (s ++ t.data.toList), X] := by
  have hf : ∀ p : List PV, p.all (fitB 2) = true → ([p, X] : List (List PV)).all (fun d => d.all (fitB 2)) = true := fun p hp => by
    rw [List.all_cons, hp, List.all_cons, hX]; rfl
  cases j with
  | zero =>
    obtain rfl := hs rfl
    refine ⟨[bldF, X], [.ptr 0 0, .c (.str t)], .cons (.cons (Wk.refl _) (.cons (Wk.nilStk _) .nil)) (.cons (WkL.refl _) .nil (StkOK.refl _)) (StkOK.nil2 _ _), hf _ rfl, WkL.refl _, rfl, write_core (c0 := .fresh _) rfl (.inl rfl) hn, hf _ rfl, rfl⟩
  | succ j => exact ⟨[bldU 0 s, X], [.ptr 0 0, .c (.str t)], WkLL.refl _, hf _ rfl, WkL.refl _, rfl, write_core rfl (.inr rfl) hn, hf _ rfl, rfl⟩
theorem write_more (s : List UInt8) (t : ByteArray) (X : List PV) (hX : X.all (fitB 2) = true) (hn : s.length + t.size ≤ 140737488355328) :
    WCallR E 31 [bldU 0 s, X] [.ptr 0 0, .c (.str t)] .undef [bldU 0 (s ++ t.data.toList), X] := by
  have := write_first 1 s (by simp) t X hX hn
  exact this
theorem textC_take (l : List Ins) (j : Nat) (x : Ins) (h : l[j]? = some x) : textC (l.take (j + 1)) = textC (l.take j) ++ lineI x := by
  induction l generalizing j with
  | nil => simp at h
  | cons y l ih =>
    cases j with
    | zero => simp at h; subst h; simp [textC]
    | succ j => simp only [List.take_succ_cons, textC, ih j (by simpa using h), List.append_assoc]
theorem textC_le (l : List Ins) (j : Nat) : (textC (l.take j)).length ≤ (textC l).length := by
  induction l generalizing j with
  | nil => simp
  | cons y l ih =>
    cases j with
    | zero => simp [textC]
    | succ j => have := ih j; simp only [List.take_succ_cons, textC, List.length_append]; omega
theorem textC_ne {l : List Ins} (h : 0 < l.length) : textC l ≠ [] := by
  cases l with
  | nil => simp at h
  | cons y l => rw [textC]; exact lineI_ne y _
end Go.Proofs.YtadpifnlkmeifaaDoor.Cd

/- code.Text: its contract. -/
namespace Go.Proofs.YtadpifnlkmeifaaDoor.Cd
open Go Go.RowKit Go.Proofs.YtadpifnlkmeifaaDoor.Pm Go.Proofs.YtadpifnlkmeifaaDoor.Pl
set_option linter.unusedVariables false
set_option maxHeartbeats 4000000
set_option maxRecDepth 8000
theorem wr_to {s u : List UInt8} {t : ByteArray} {X : List PV} (hX : X.all (fitB 2) = true) (hu : s ++ t.data.toList = u) (hn : u.length ≤ 140737488355328) :
    WCallR E 31 [bldU 0 s, X] [.ptr 0 0, .c (.str t)] .undef [bldU 0 u, X] := by
  subst hu
  exact write_more s t X hX (by rw [List.length_append] at hn; simpa using hn)
theorem wr_fst {j : Nat} {s u : List UInt8} {t : ByteArray} {X : List PV} (hs : j = 0 → s = []) (hX : X.all (fitB 2) = true) (hu : s ++ t.data.toList = u) (hn : u.length ≤ 140737488355328) :
    WCallR E 31 [bldJ j s, X] [.ptr 0 0, .c (.str t)] .undef [bldU 0 u, X] := by
  subst hu
  exact write_first j s hs t X hX (by rw [List.length_append] at hn; simpa using hn)
theorem opW_cases (op : Int) : (op < 0 ∧ opW op = 0) ∨ (0 ≤ op ∧ 14 ≤ op ∧ opW op = 0) ∨ (0 ≤ op ∧ op < 14 ∧ opW op = op) := by unfold opW; split <;> omega
theorem num_ends (op : Int) : hasNum op = decide ((endsF op 0 1).2 > 0) := by
  unfold hasNum endsF
  split
  · rename_i h; rw [decide_eq_true (by omega)]; rfl
  · split
    · rename_i h; rw [decide_eq_true (by omega)]; rfl
    · split
      · rename_i h; rw [decide_eq_true (by omega)]; rfl
      · split
        · rename_i h; rw [decide_eq_true (by omega)]; rfl
        · rw [decide_eq_false (by omega)]; rfl
theorem Text10_ok (l : List Ins) (hl : l.length ≤ 4611686018427387000) (hn : (textC l).length ≤ 140737488355328) (h64 : ∀ x ∈ l, I64 x.n) : Ok E 14 [] [.c (.row (rowI l))] (pS (B (textC l))) [] := by
  have hrl := rowI_len l
  have hwl : ((wordsR.length : Nat) : Int) = 14 := rfl
  refine Ok.enter hE Tryd.func14 rfl (by decide +kernel) (by kernel_rfl) rfl rfl (Nat.le_of_ble_eq_true rfl) rfl ?_
  refine ⟨_, CallR.mk1 words_ok rfl rfl, ?_⟩
  refine Loop.cut (α := Nat) (fun j => j ≤ l.length) (fun j => [(3, .ptr 0 0), (4, .c (.row wordsR)), (11, .c (.row (rowI l))), (12, pI (rowI l).length), (13, pI j)]) (fun j => [bldJ j (textC (l.take j))]) (fun _ => []) (fun j => l.length - j) 0 1 (fun _ => rfl) (fun j => by cases j <;> rfl) (fun _ => rfl) (Nat.zero_le _) ⟨⟨rfl, rfl, rfl, rfl, rfl, trivial⟩, rfl, rfl⟩ ?_
  rintro j f hj
  by_cases hjl : j < l.length
  rotate_left
  · have hje : j = l.length := by omega
    refine ⟨_, ltN (by omega), ?_⟩
    have ht : textC (l.take j) = textC l := by rw [hje, List.take_length]
    rw [ht]
    by_cases h0 : l.length = 0
    · have hj0 : j = 0 := by omega
      subst hj0
      have hl0 : l = [] := List.eq_nil_of_length_eq_zero h0
      subst hl0
      refine .inr (.inr (.inr (.inl ⟨_, _, WCallR.mk1 (string0_core rfl) rfl rfl rfl rfl, ?_⟩)))
      exact ⟨_, rfl, Wk.refl _, rfl, .nil _⟩
    · obtain ⟨k, rfl⟩ : ∃ k, j = k + 1 := ⟨j - 1, by omega⟩
      refine .inr (.inr (.inr (.inl ⟨_, _, WCallR.mk1 (string_core (s := textC l) rfl (textC_ne (by omega))) rfl rfl rfl rfl, ?_⟩)))
      exact ⟨_, rfl, Wk.refl _, rfl, .nil _⟩
  obtain ⟨x, hx⟩ : ∃ x, l[j]? = some x := ⟨_, List.getElem?_eq_getElem hjl⟩
  have hx64 := h64 x (List.mem_of_getElem? hx)
  have hE2 := ends_ok x 0 1 (by omega) (by omega)
  have hN := Number_ok x.n hx64
  have hW := wordsR_get x.op
  obtain ⟨s0, hs0⟩ : ∃ s0, textC (l.take j) = s0 := ⟨_, rfl⟩
  obtain ⟨s3, hs3⟩ : ∃ s3, textC (l.take (j + 1)) = s3 := ⟨_, rfl⟩
  have hle : s3.length ≤ 140737488355328 := by rw [← hs3]; have := textC_le l (j + 1); omega
  have hs03 : s3 = s0 ++ wordO x.op ++ tailI x ++ [10] := by rw [← hs3, textC_take l j x hx, hs0, lineI]; simp
  have hfst : j = 0 → s0 = [] := by rintro rfl; rw [← hs0]; simp [textC]
  have hnum := num_ends x.op
  obtain ⟨op, n, nm⟩ := x
  obtain ⟨⟨lo, hi⟩, hlh⟩ : ∃ p, endsF op 0 1 = p := ⟨_, rfl⟩
  dsimp only at hE2 hN hW hs03 hnum hx64
  rw [hlh] at hE2 hnum
  dsimp only at hE2 hnum
  have hle1 : (s0 ++ wordO op).length ≤ 140737488355328 := by rw [hs03] at hle; simp only [List.length_append] at hle ⊢; omega
  have hle2 : (s0 ++ wordO op ++ tailI ⟨op, n, nm⟩).length ≤ 140737488355328 := by rw [hs03] at hle; simp only [List.length_append] at hle ⊢; omega
  have hbt : ∀ u : List UInt8, (B u).data.toList = u := fun u => rfl
  rw [hs0]
  refine ⟨_, ltT (by omega), ?_⟩
  refine ⟨_, idxV (j := j) (rowI_get hx) rfl rfl rfl rfl, ?_⟩
  rcases opW_cases op with ⟨o1, o2⟩ | ⟨o1, o2, o3⟩ | ⟨o1, o2, o3⟩
  · have ht : tailI ⟨op, n, nm⟩ = [] := by unfold tailI hasNum; dsimp only; rw [if_neg (by omega), if_neg (by simp; omega)]
    rw [ht, List.append_nil] at hs03
    rw [o2] at hW
    refine ⟨_, ltT o1, ?_⟩
    refine ⟨_, idxV (j := 0) hW rfl rfl rfl rfl, ?_⟩
    refine .inr (.inr (.inr (.inl ⟨_, _, wr_fst hfst rfl (by rw [hbt]) hle1, ?_⟩)))
    refine ⟨_, CallR.mk1 hE2 rfl rfl, ?_⟩
    refine ⟨_, eqN (show (0 : Int) ≠ 4 by decide), ?_⟩
    refine ⟨_, gtN (show ¬ (0 : Int) > 0 by decide), ?_⟩
    refine .inr (.inr (.inr (.inl ⟨_, _, wr_to (u := s3) rfl (by rw [hs03]; first | done | rfl) hle, ?_⟩)))
    refine ⟨_, addV rfl (by omega) (by omega), ?_⟩
    exact ⟨j + 1, hjl, by omega, ⟨rfl, rfl, rfl, rfl, rfl, trivial⟩, ⟨_, by rw [hs3]; rfl⟩, rfl⟩
  · have ht : tailI ⟨op, n, nm⟩ = [] := by unfold tailI hasNum; dsimp only; rw [if_neg (by omega), if_neg (by simp; omega)]
    rw [ht, List.append_nil] at hs03
    rw [o3] at hW
    refine ⟨_, ltN (show ¬ op < 0 by omega), ?_⟩
    refine ⟨_, geT (show op ≥ (wordsR.length : Nat) by omega), ?_⟩
    refine ⟨_, idxV (j := 0) hW rfl rfl rfl rfl, ?_⟩
    refine .inr (.inr (.inr (.inl ⟨_, _, wr_fst hfst rfl (by rw [hbt]) hle1, ?_⟩)))
    refine ⟨_, CallR.mk1 hE2 rfl rfl, ?_⟩
    refine ⟨_, eqN (show (0 : Int) ≠ 4 by decide), ?_⟩
    refine ⟨_, gtN (show ¬ (0 : Int) > 0 by decide), ?_⟩
    refine .inr (.inr (.inr (.inl ⟨_, _, wr_to (u := s3) rfl (by rw [hs03]; first | done | rfl) hle, ?_⟩)))
    refine ⟨_, addV rfl (by omega) (by omega), ?_⟩
    exact ⟨j + 1, hjl, by omega, ⟨rfl, rfl, rfl, rfl, rfl, trivial⟩, ⟨_, by rw [hs3]; rfl⟩, rfl⟩
  · rw [o3] at hW
    refine ⟨_, ltN (show ¬ op < 0 by omega), ?_⟩
    refine ⟨_, geN (show ¬ op ≥ (wordsR.length : Nat) by omega), ?_⟩
    refine ⟨_, idxV (j := op.toNat) hW (show op = (op.toNat : Nat) by omega) rfl rfl rfl, ?_⟩
    refine .inr (.inr (.inr (.inl ⟨_, _, wr_fst hfst rfl (by rw [hbt]) hle1, ?_⟩)))
    refine ⟨_, CallR.mk1 hE2 rfl rfl, ?_⟩
    by_cases h4 : op = 4
    · have ht : tailI ⟨op, n, nm⟩ = 32 :: nm.data.toList := by unfold tailI; dsimp only; rw [if_pos h4]
      rw [ht] at hs03 hle2
      have hcat : (⟨#[32]⟩ : ByteArray).size + nm.size ≤ 9223372036854775807 := by
        have e1 : nm.data.toList.length = nm.size := by simp
        have e2 : (⟨#[32]⟩ : ByteArray).size = 1 := rfl
        simp only [List.length_append, List.length_cons] at hle2
        omega
      refine ⟨_, eqT h4, ?_⟩
      refine ⟨_, Lx.catL (x := ⟨#[32]⟩) (y := nm) (s := B (32 :: nm.data.toList)) rfl hcat, ?_⟩
      refine .inr (.inr (.inr (.inl ⟨_, _, wr_to (u := s0 ++ wordO op ++ 32 :: nm.data.toList) rfl (by rw [hbt]) hle2, ?_⟩)))
      refine .inr (.inr (.inr (.inl ⟨_, _, wr_to (u := s3) rfl (by rw [hs03]; first | done | rfl) hle, ?_⟩)))
      refine ⟨_, addV rfl (by omega) (by omega), ?_⟩
      exact ⟨j + 1, hjl, by omega, ⟨rfl, rfl, rfl, rfl, rfl, trivial⟩, ⟨_, by rw [hs3]; rfl⟩, rfl⟩
    · refine ⟨_, eqN h4, ?_⟩
      by_cases h0 : op > 0
      · refine ⟨_, gtT h0, ?_⟩
        by_cases hh : hi > 0
        · rw [decide_eq_true hh] at hnum
          have ht : tailI ⟨op, n, nm⟩ = 32 :: intL n := by unfold tailI; dsimp only; rw [if_neg h4, hnum, if_pos rfl]
          rw [ht] at hs03 hle2
          refine ⟨_, gtT hh, ?_⟩
          refine ⟨_, CallR.mk1 hN rfl rfl, ?_⟩
          refine ⟨_, Lx.catB (a := [32]) (b := intL n) (by simp only [List.length_append, List.length_cons] at hle2; simp; omega), ?_⟩
          refine .inr (.inr (.inr (.inl ⟨_, _, wr_to (u := s0 ++ wordO op ++ 32 :: intL n) rfl (by rw [hbt]; rfl) hle2, ?_⟩)))
          refine .inr (.inr (.inr (.inl ⟨_, _, wr_to (u := s3) rfl (by rw [hs03]; first | done | rfl) hle, ?_⟩)))
          refine ⟨_, addV rfl (by omega) (by omega), ?_⟩
          exact ⟨j + 1, hjl, by omega, ⟨rfl, rfl, rfl, rfl, rfl, trivial⟩, ⟨_, by rw [hs3]; rfl⟩, rfl⟩
        · rw [decide_eq_false hh] at hnum
          have ht : tailI ⟨op, n, nm⟩ = [] := by unfold tailI; dsimp only; rw [if_neg h4, hnum]; rfl
          rw [ht, List.append_nil] at hs03
          refine ⟨_, gtN hh, ?_⟩
          refine .inr (.inr (.inr (.inl ⟨_, _, wr_to (u := s3) rfl (by rw [hs03]; first | done | rfl) hle, ?_⟩)))
          refine ⟨_, addV rfl (by omega) (by omega), ?_⟩
          exact ⟨j + 1, hjl, by omega, ⟨rfl, rfl, rfl, rfl, rfl, trivial⟩, ⟨_, by rw [hs3]; rfl⟩, rfl⟩
      · have hop : op = 0 := by omega
        have ht : tailI ⟨op, n, nm⟩ = [] := by rw [hop]; rfl
        rw [ht, List.append_nil] at hs03
        refine ⟨_, gtN h0, ?_⟩
        refine .inr (.inr (.inr (.inl ⟨_, _, wr_to (u := s3) rfl (by rw [hs03]; first | done | rfl) hle, ?_⟩)))
        refine ⟨_, addV rfl (by omega) (by omega), ?_⟩
        exact ⟨j + 1, hjl, by omega, ⟨rfl, rfl, rfl, rfl, rfl, trivial⟩, ⟨_, by rw [hs3]; rfl⟩, rfl⟩
end Go.Proofs.YtadpifnlkmeifaaDoor.Cd

/- hagglerref10.Text. -/
namespace Go.Proofs.YtadpifnlkmeifaaDoor.Cd
open Go Go.RowKit Go.Proofs.YtadpifnlkmeifaaDoor.Pm Go.Proofs.YtadpifnlkmeifaaDoor.Pl
set_option linter.unusedVariables false
set_option maxHeartbeats 4000000
set_option maxRecDepth 8000
theorem hasNum_cases (op : Int) : (hasNum op = true ∧ (op = 1 ∨ (op ≠ 1 ∧ op = 5) ∨ (op ≠ 1 ∧ op ≠ 5 ∧ op = 6) ∨ (op ≠ 1 ∧ op ≠ 5 ∧ op ≠ 6 ∧ op = 9) ∨ (op ≠ 1 ∧ op ≠ 5 ∧ op ≠ 6 ∧ op ≠ 9 ∧ op = 10) ∨ (op ≠ 1 ∧ op ≠ 5 ∧ op ≠ 6 ∧ op ≠ 9 ∧ op ≠ 10 ∧ op = 12) ∨ (op ≠ 1 ∧ op ≠ 5 ∧ op ≠ 6 ∧ op ≠ 9 ∧ op ≠ 10 ∧ op ≠ 12 ∧ op = 13))) ∨ (hasNum op = false ∧ op ≠ 1 ∧ op ≠ 5 ∧ op ≠ 6 ∧ op ≠ 9 ∧ op ≠ 10 ∧ op ≠ 12 ∧ op ≠ 13) := by
  unfold hasNum
  by_cases h : op = 1 ∨ op = 5 ∨ op = 6 ∨ op = 9 ∨ op = 10 ∨ op = 12 ∨ op = 13
  · rw [decide_eq_true h]; left; exact ⟨rfl, by omega⟩
  · rw [decide_eq_false h]; right; exact ⟨rfl, by omega, by omega, by omega, by omega, by omega, by omega, by omega⟩
theorem catU {E : Env} {ti : Nat} {a u : List UInt8} {y : ByteArray} (h : a ++ y.data.toList = u) (hn : u.length ≤ 140737488355328) : BinR E ti .add (.c (.str (B a))) (.c (.str y)) (.c (.str (B u))) := by
  subst h
  rw [List.length_append] at hn
  have e1 : y.data.toList.length = y.size := by simp
  exact Lx.catL (x := B a) (y := y) rfl (by rw [B_size]; omega)
theorem rText10_ok (l : List Ins) (hl : l.length ≤ 4611686018427387000) (hn : (textC l).length ≤ 140737488355328) (h64 : ∀ x ∈ l, I64 x.n) : Ok E 15 [] [.c (.row (rowI l))] (pS (B (textC l))) [] := by
  have hrl := rowI_len l
  refine Ok.enter hE Tryd.func15 rfl (by decide +kernel) (by kernel_rfl) rfl rfl (Nat.le_of_ble_eq_true rfl) rfl ?_
  refine ⟨_, ⟨_, rfl, rfl⟩, ?_⟩
  refine Loop.run (α := Nat) (fun j => j ≤ l.length) (fun j => [(0, .c (.row (rowI l))), (3, .c (.row wordsR)), (4, .c (.str (B (textC (l.take j))))), (5, pI j)]) (fun j => []) (fun _ => []) (fun j => l.length - j) 0 (Nat.zero_le _) ⟨⟨rfl, rfl, rfl, rfl, trivial⟩, rfl, rfl⟩ ?_
  rintro j f hj
  by_cases hjl : j < l.length
  rotate_left
  · have ht : textC (l.take j) = textC l := by rw [List.take_of_length_le (by omega)]
    refine ⟨_, ltN (by omega), ?_⟩
    rw [ht]
    exact Ret.mk _ rfl rfl rfl
  obtain ⟨x, hx⟩ : ∃ x, l[j]? = some x := ⟨_, List.getElem?_eq_getElem hjl⟩
  have hx64 := h64 x (List.mem_of_getElem? hx)
  have hN := rNumberA_ok x.n hx64
  have hW := wordsR_get x.op
  obtain ⟨s0, hs0⟩ : ∃ s0, textC (l.take j) = s0 := ⟨_, rfl⟩
  obtain ⟨s3, hs3⟩ : ∃ s3, textC (l.take (j + 1)) = s3 := ⟨_, rfl⟩
  have hle : s3.length ≤ 140737488355328 := by rw [← hs3]; have := textC_le l (j + 1); omega
  have hs03 : s3 = s0 ++ wordO x.op ++ tailI x ++ [10] := by rw [← hs3, textC_take l j x hx, hs0, lineI]; simp
  obtain ⟨op, n, nm⟩ := x
  dsimp only at hN hW hs03 hx64
  have hle1 : (s0 ++ wordO op).length ≤ 140737488355328 := by rw [hs03] at hle; simp only [List.length_append] at hle ⊢; omega
  have hle2 : (s0 ++ wordO op ++ tailI ⟨op, n, nm⟩).length ≤ 140737488355328 := by rw [hs03] at hle; simp only [List.length_append] at hle ⊢; omega
  rw [hs0]
  refine ⟨_, ltT (by omega), ?_⟩
  refine ⟨_, idxV (j := j) (rowI_get hx) rfl rfl rfl rfl, ?_⟩
  rcases opW_cases op with ⟨o1, o2⟩ | ⟨o1, o2, o3⟩ | ⟨o1, o2, o3⟩
  · have ht : tailI ⟨op, n, nm⟩ = [] := by unfold tailI hasNum; dsimp only; rw [if_neg (by omega), if_neg (by simp; omega)]
    rw [ht, List.append_nil] at hs03
    rw [o2] at hW
    refine ⟨_, ltT o1, ?_⟩
    refine ⟨_, idxV (j := 0) hW rfl rfl rfl rfl, ?_⟩
    refine ⟨_, catU rfl hle1, ?_⟩
    refine ⟨_, eqN (show (0 : Int) ≠ 1 by decide), ?_⟩
    refine ⟨_, eqN (show (0 : Int) ≠ 5 by decide), ?_⟩
    refine ⟨_, eqN (show (0 : Int) ≠ 6 by decide), ?_⟩
    refine ⟨_, eqN (show (0 : Int) ≠ 9 by decide), ?_⟩
    refine ⟨_, eqN (show (0 : Int) ≠ 10 by decide), ?_⟩
    refine ⟨_, eqN (show (0 : Int) ≠ 12 by decide), ?_⟩
    refine ⟨_, eqN (show (0 : Int) ≠ 13 by decide), ?_⟩
    refine ⟨_, eqN (show (0 : Int) ≠ 4 by decide), ?_⟩
    refine ⟨_, catU (u := s3) (by rw [hs03]; first | done | rfl) hle, ?_⟩
    refine ⟨_, addV rfl (by omega) (by omega), ?_⟩
    exact ⟨j + 1, hjl, by omega, ⟨rfl, rfl, by rw [hs3]; rfl, rfl, trivial⟩, rfl, rfl⟩
  · have ht : tailI ⟨op, n, nm⟩ = [] := by unfold tailI hasNum; dsimp only; rw [if_neg (by omega), if_neg (by simp; omega)]
    rw [ht, List.append_nil] at hs03
    rw [o3] at hW
    refine ⟨_, ltN (show ¬ op < 0 by omega), ?_⟩
    refine ⟨_, gtT (show op > 13 by omega), ?_⟩
    refine ⟨_, idxV (j := 0) hW rfl rfl rfl rfl, ?_⟩
    refine ⟨_, catU rfl hle1, ?_⟩
    refine ⟨_, eqN (show (0 : Int) ≠ 1 by decide), ?_⟩
    refine ⟨_, eqN (show (0 : Int) ≠ 5 by decide), ?_⟩
    refine ⟨_, eqN (show (0 : Int) ≠ 6 by decide), ?_⟩
    refine ⟨_, eqN (show (0 : Int) ≠ 9 by decide), ?_⟩
    refine ⟨_, eqN (show (0 : Int) ≠ 10 by decide), ?_⟩
    refine ⟨_, eqN (show (0 : Int) ≠ 12 by decide), ?_⟩
    refine ⟨_, eqN (show (0 : Int) ≠ 13 by decide), ?_⟩
    refine ⟨_, eqN (show (0 : Int) ≠ 4 by decide), ?_⟩
    refine ⟨_, catU (u := s3) (by rw [hs03]; first | done | rfl) hle, ?_⟩
    refine ⟨_, addV rfl (by omega) (by omega), ?_⟩
    exact ⟨j + 1, hjl, by omega, ⟨rfl, rfl, by rw [hs3]; rfl, rfl, trivial⟩, rfl, rfl⟩
  · rw [o3] at hW
    refine ⟨_, ltN (show ¬ op < 0 by omega), ?_⟩
    refine ⟨_, gtN (show ¬ op > 13 by omega), ?_⟩
    refine ⟨_, idxV (j := op.toNat) hW (show op = (op.toNat : Nat) by omega) rfl rfl rfl, ?_⟩
    refine ⟨_, catU rfl hle1, ?_⟩
    have hle32 : ∀ u : List UInt8, (s0 ++ wordO op ++ 32 :: u).length ≤ 140737488355328 → (s0 ++ wordO op ++ [32]).length ≤ 140737488355328 := fun u h => by simp only [List.length_append, List.length_cons, List.length_nil] at h ⊢; omega
    rcases hasNum_cases op with ⟨q, h⟩ | ⟨q, n1, n5, n6, n9, n10, n12, n13⟩
    · have h4 : op ≠ 4 := by omega
      have ht : tailI ⟨op, n, nm⟩ = 32 :: intL n := by unfold tailI; dsimp only; rw [if_neg h4, q, if_pos rfl]
      rw [ht] at hs03 hle2
      have hl32 := hle32 _ hle2
      rcases h with h | ⟨m1, h⟩ | ⟨m1, m2, h⟩ | ⟨m1, m2, m3, h⟩ | ⟨m1, m2, m3, m4, h⟩ | ⟨m1, m2, m3, m4, m5, h⟩ | ⟨m1, m2, m3, m4, m5, m6, h⟩
      · refine ⟨_, eqT h, ?_⟩
        refine ⟨_, catU (u := s0 ++ wordO op ++ [32]) rfl hl32, ?_⟩
        refine ⟨_, idxV (j := j) (rowI_get hx) rfl rfl rfl rfl, ?_⟩
        refine ⟨_, CallR.mk1 hN rfl rfl, ?_⟩
        refine ⟨_, catU (u := s0 ++ wordO op ++ 32 :: intL n) (by simp [B]) hle2, ?_⟩
        refine ⟨_, catU (u := s3) (by rw [hs03]; first | done | rfl) hle, ?_⟩
        refine ⟨_, addV rfl (by omega) (by omega), ?_⟩
        exact ⟨j + 1, hjl, by omega, ⟨rfl, rfl, by rw [hs3]; rfl, rfl, trivial⟩, rfl, rfl⟩
      · refine ⟨_, eqN m1, ?_⟩
        refine ⟨_, eqT h, ?_⟩
        refine ⟨_, catU (u := s0 ++ wordO op ++ [32]) rfl hl32, ?_⟩
        refine ⟨_, idxV (j := j) (rowI_get hx) rfl rfl rfl rfl, ?_⟩
        refine ⟨_, CallR.mk1 hN rfl rfl, ?_⟩
        refine ⟨_, catU (u := s0 ++ wordO op ++ 32 :: intL n) (by simp [B]) hle2, ?_⟩
        refine ⟨_, catU (u := s3) (by rw [hs03]; first | done | rfl) hle, ?_⟩
        refine ⟨_, addV rfl (by omega) (by omega), ?_⟩
        exact ⟨j + 1, hjl, by omega, ⟨rfl, rfl, by rw [hs3]; rfl, rfl, trivial⟩, rfl, rfl⟩
      · refine ⟨_, eqN m1, ?_⟩
        refine ⟨_, eqN m2, ?_⟩
        refine ⟨_, eqT h, ?_⟩
        refine ⟨_, catU (u := s0 ++ wordO op ++ [32]) rfl hl32, ?_⟩
        refine ⟨_, idxV (j := j) (rowI_get hx) rfl rfl rfl rfl, ?_⟩
        refine ⟨_, CallR.mk1 hN rfl rfl, ?_⟩
        refine ⟨_, catU (u := s0 ++ wordO op ++ 32 :: intL n) (by simp [B]) hle2, ?_⟩
        refine ⟨_, catU (u := s3) (by rw [hs03]; first | done | rfl) hle, ?_⟩
        refine ⟨_, addV rfl (by omega) (by omega), ?_⟩
        exact ⟨j + 1, hjl, by omega, ⟨rfl, rfl, by rw [hs3]; rfl, rfl, trivial⟩, rfl, rfl⟩
      · refine ⟨_, eqN m1, ?_⟩
        refine ⟨_, eqN m2, ?_⟩
        refine ⟨_, eqN m3, ?_⟩
        refine ⟨_, eqT h, ?_⟩
        refine ⟨_, catU (u := s0 ++ wordO op ++ [32]) rfl hl32, ?_⟩
        refine ⟨_, idxV (j := j) (rowI_get hx) rfl rfl rfl rfl, ?_⟩
        refine ⟨_, CallR.mk1 hN rfl rfl, ?_⟩
        refine ⟨_, catU (u := s0 ++ wordO op ++ 32 :: intL n) (by simp [B]) hle2, ?_⟩
        refine ⟨_, catU (u := s3) (by rw [hs03]; first | done | rfl) hle, ?_⟩
        refine ⟨_, addV rfl (by omega) (by omega), ?_⟩
        exact ⟨j + 1, hjl, by omega, ⟨rfl, rfl, by rw [hs3]; rfl, rfl, trivial⟩, rfl, rfl⟩
      · refine ⟨_, eqN m1, ?_⟩
        refine ⟨_, eqN m2, ?_⟩
        refine ⟨_, eqN m3, ?_⟩
        refine ⟨_, eqN m4, ?_⟩
        refine ⟨_, eqT h, ?_⟩
        refine ⟨_, catU (u := s0 ++ wordO op ++ [32]) rfl hl32, ?_⟩
        refine ⟨_, idxV (j := j) (rowI_get hx) rfl rfl rfl rfl, ?_⟩
        refine ⟨_, CallR.mk1 hN rfl rfl, ?_⟩
        refine ⟨_, catU (u := s0 ++ wordO op ++ 32 :: intL n) (by simp [B]) hle2, ?_⟩
        refine ⟨_, catU (u := s3) (by rw [hs03]; first | done | rfl) hle, ?_⟩
        refine ⟨_, addV rfl (by omega) (by omega), ?_⟩
        exact ⟨j + 1, hjl, by omega, ⟨rfl, rfl, by rw [hs3]; rfl, rfl, trivial⟩, rfl, rfl⟩
      · refine ⟨_, eqN m1, ?_⟩
        refine ⟨_, eqN m2, ?_⟩
        refine ⟨_, eqN m3, ?_⟩
        refine ⟨_, eqN m4, ?_⟩
        refine ⟨_, eqN m5, ?_⟩
        refine ⟨_, eqT h, ?_⟩
        refine ⟨_, catU (u := s0 ++ wordO op ++ [32]) rfl hl32, ?_⟩
        refine ⟨_, idxV (j := j) (rowI_get hx) rfl rfl rfl rfl, ?_⟩
        refine ⟨_, CallR.mk1 hN rfl rfl, ?_⟩
        refine ⟨_, catU (u := s0 ++ wordO op ++ 32 :: intL n) (by simp [B]) hle2, ?_⟩
        refine ⟨_, catU (u := s3) (by rw [hs03]; first | done | rfl) hle, ?_⟩
        refine ⟨_, addV rfl (by omega) (by omega), ?_⟩
        exact ⟨j + 1, hjl, by omega, ⟨rfl, rfl, by rw [hs3]; rfl, rfl, trivial⟩, rfl, rfl⟩
      · refine ⟨_, eqN m1, ?_⟩
        refine ⟨_, eqN m2, ?_⟩
        refine ⟨_, eqN m3, ?_⟩
        refine ⟨_, eqN m4, ?_⟩
        refine ⟨_, eqN m5, ?_⟩
        refine ⟨_, eqN m6, ?_⟩
        refine ⟨_, eqT h, ?_⟩
        refine ⟨_, catU (u := s0 ++ wordO op ++ [32]) rfl hl32, ?_⟩
        refine ⟨_, idxV (j := j) (rowI_get hx) rfl rfl rfl rfl, ?_⟩
        refine ⟨_, CallR.mk1 hN rfl rfl, ?_⟩
        refine ⟨_, catU (u := s0 ++ wordO op ++ 32 :: intL n) (by simp [B]) hle2, ?_⟩
        refine ⟨_, catU (u := s3) (by rw [hs03]; first | done | rfl) hle, ?_⟩
        refine ⟨_, addV rfl (by omega) (by omega), ?_⟩
        exact ⟨j + 1, hjl, by omega, ⟨rfl, rfl, by rw [hs3]; rfl, rfl, trivial⟩, rfl, rfl⟩
    · by_cases h4 : op = 4
      · have ht : tailI ⟨op, n, nm⟩ = 32 :: nm.data.toList := by unfold tailI; dsimp only; rw [if_pos h4]
        rw [ht] at hs03 hle2
        have hl32 := hle32 _ hle2
        refine ⟨_, eqN n1, ?_⟩
        refine ⟨_, eqN n5, ?_⟩
        refine ⟨_, eqN n6, ?_⟩
        refine ⟨_, eqN n9, ?_⟩
        refine ⟨_, eqN n10, ?_⟩
        refine ⟨_, eqN n12, ?_⟩
        refine ⟨_, eqN n13, ?_⟩
        refine ⟨_, eqT h4, ?_⟩
        refine ⟨_, catU (u := s0 ++ wordO op ++ [32]) rfl hl32, ?_⟩
        refine ⟨_, idxV (j := j) (rowI_get hx) rfl rfl rfl rfl, ?_⟩
        refine ⟨_, catU (u := s0 ++ wordO op ++ 32 :: nm.data.toList) (by simp) hle2, ?_⟩
        refine ⟨_, catU (u := s3) (by rw [hs03]; first | done | rfl) hle, ?_⟩
        refine ⟨_, addV rfl (by omega) (by omega), ?_⟩
        exact ⟨j + 1, hjl, by omega, ⟨rfl, rfl, by rw [hs3]; rfl, rfl, trivial⟩, rfl, rfl⟩
      · have ht : tailI ⟨op, n, nm⟩ = [] := by unfold tailI; dsimp only; rw [if_neg h4, q]; rfl
        rw [ht, List.append_nil] at hs03
        refine ⟨_, eqN n1, ?_⟩
        refine ⟨_, eqN n5, ?_⟩
        refine ⟨_, eqN n6, ?_⟩
        refine ⟨_, eqN n9, ?_⟩
        refine ⟨_, eqN n10, ?_⟩
        refine ⟨_, eqN n12, ?_⟩
        refine ⟨_, eqN n13, ?_⟩
        refine ⟨_, eqN h4, ?_⟩
        refine ⟨_, catU (u := s3) (by rw [hs03]; first | done | rfl) hle, ?_⟩
        refine ⟨_, addV rfl (by omega) (by omega), ?_⟩
        exact ⟨j + 1, hjl, by omega, ⟨rfl, rfl, by rw [hs3]; rfl, rfl, trivial⟩, rfl, rfl⟩
end Go.Proofs.YtadpifnlkmeifaaDoor.Cd

/- hagglerref10.Compile; hagglerlaw10: pick, many, awake. -/
namespace Go.Proofs.YtadpifnlkmeifaaDoor.Cd
open Go Go.RowKit Go.Proofs.YtadpifnlkmeifaaDoor.Pm Go.Proofs.YtadpifnlkmeifaaDoor.Pl
set_option linter.unusedVariables false
set_option maxHeartbeats 4000000
set_option maxRecDepth 8000
theorem rCompile_ok (x : Ex) (hr : Q.rngE x = true) (hs : size x ≤ 9223372036854775807) : Ok E 12 [] [pE x] (.tup [.c (.row (rowI (compF x))), pI (compE x)]) [] := by
  have hR := rRight_ok x hr hs
  unfold compF compE
  rcases Bool.eq_false_or_eq_true (isRight x) with h | h
  · rw [h, if_pos rfl, if_pos rfl]
    rw [h] at hR
    obtain ⟨hf, h2, -⟩ := right_open h
    have hx := (rcode_ok x 32 false hf 0 (Int.le_refl _) (by have := codeF_small 0 hf h2; omega)).ok
    clear hr hs h hf h2
    refine Ok.enter hE Tryd.func12 rfl (by decide +kernel) (by kernel_rfl) rfl rfl (Nat.le_of_ble_eq_true rfl) rfl ?_
    refine ⟨_, CallR.mk1 hR rfl rfl, ?_⟩
    refine .inl ⟨_, _, SCallR.none hx rfl rfl, ?_⟩
    exact Ret.mk _ rfl rfl rfl
  · rw [h, if_neg (by simp), if_neg (by simp)]
    rw [h] at hR
    refine Ok.enter hE Tryd.func12 rfl (by decide +kernel) (by kernel_rfl) rfl rfl (Nat.le_of_ble_eq_true rfl) rfl ?_
    refine ⟨_, CallR.mk1 hR rfl rfl, ?_⟩
    exact ⟨_, rfl, Wk.tup2 Wk.nilRow, rfl, .nil _⟩
def awL : List Ins := [⟨2, 0, ⟨#[]⟩⟩, ⟨5, 1, ⟨#[]⟩⟩, ⟨9, 4, ⟨#[]⟩⟩, ⟨1, 999, ⟨#[]⟩⟩]
theorem xE_right : isRight xE = true := by
  obtain ⟨x1, x2, x3, x4, x5⟩ := x_facts
  unfold isRight; rw [x5, x2, x4]; rfl
theorem zE_right : isRight zE = false := by
  obtain ⟨z1, z2, z3⟩ := z_facts
  unfold isRight; rw [z3]; rfl
theorem awL_code : codeF xE 0 = awL := by
  simp [xE, lowE, codeF, codesF, opF', Pm.opsL, awL]
  rfl
theorem awL_text : textC awL = [108, 111, 119, 101, 115, 116, 10, 108, 101, 115, 115, 32, 49, 10, 101, 108, 115, 101, 32, 52, 10, 112, 117, 115, 104, 32, 57, 57, 57, 10] := by decide +kernel
theorem aw_comp : compF xE = awL ∧ compE xE = 0 ∧ compF zE = [] ∧ compE zE = 1 := by
  unfold compF compE
  rw [xE_right, zE_right, if_pos rfl, if_pos rfl, if_neg (by simp), if_neg (by simp), awL_code]
  exact ⟨rfl, rfl, rfl, rfl⟩
theorem awL_right : rightF awL = true := by
  rw [← awL_code]
  obtain ⟨hf, h2, -⟩ := right_open xE_right
  exact compiled_right hf h2
theorem aw13 : rightF [⟨13, 0, ⟨#[]⟩⟩] = false := by decide +kernel
theorem aw14 : rightF [⟨14, 0, ⟨#[]⟩⟩] = false := by decide +kernel
theorem awake10_ok : Ok E 8 [] [] (pB true) [] := by
  obtain ⟨x1, x2, -⟩ := x_facts
  obtain ⟨z1, z2, -⟩ := z_facts
  obtain ⟨c1, c2, c3, c4⟩ := aw_comp
  have hC := Compile_ok xE x1 (by rw [x2]; decide)
  have hZ := Compile_ok zE z1 (by rw [z2]; decide)
  rw [c1, c2] at hC
  rw [c3, c4] at hZ
  have hT := Text10_ok awL (by decide) (by rw [awL_text]; decide) (by intro x hx; unfold awL at hx; simp at hx; rcases hx with rfl | rfl | rfl | rfl <;> exact ⟨by decide, by decide⟩)
  rw [awL_text] at hT
  have hR := Right10_ok awL (by decide)
  rw [awL_right] at hR
  have hA := Right10_ok [⟨13, 0, ⟨#[]⟩⟩] (by decide)
  rw [aw13] at hA
  have hB := Right10_ok [⟨14, 0, ⟨#[]⟩⟩] (by decide)
  rw [aw14] at hB
  have wx := Wk.aggW wk_xE
  have wz := Wk.aggW (wk_leaf 0 0 e0)
  refine Ok.enter hE Tryd.func8 rfl (by decide +kernel) (by kernel_rfl) rfl rfl (Nat.le_of_ble_eq_true rfl) rfl ?_
  refine ⟨_, ⟨_, rfl, rfl⟩, ?_⟩
  refine ⟨_, ⟨_, rfl, rfl⟩, ?_⟩
  refine ⟨_, CallR.mkW hC (.cons wx .nil) rfl rfl, ?_⟩
  refine ⟨_, CallR.mkW hZ (.cons wz .nil) rfl rfl, ?_⟩
  refine ⟨_, CallR.mk1 hT rfl rfl, ?_⟩
  refine ⟨_, strEqV (c := true) (by rw [toList_data, toList_data]; decide +kernel), ?_⟩
  refine ⟨_, eqT rfl, ?_⟩
  refine ⟨_, eqT rfl, ?_⟩
  refine ⟨_, CallR.mk1 hR rfl rfl, ?_⟩
  refine ⟨_, ⟨_, rfl, rfl⟩, ?_⟩
  refine ⟨_, CallR.mk1 hA rfl rfl, ?_⟩
  refine ⟨_, ⟨_, rfl, rfl⟩, ?_⟩
  refine ⟨_, CallR.mk1 hB rfl rfl, ?_⟩
  exact Ret.mk _ rfl rfl rfl
end Go.Proofs.YtadpifnlkmeifaaDoor.Cd

/- The statements CodeSize, CodeUnlike, CodeLeads, CodeParts, in the pure machine. -/
namespace Go.Proofs.YtadpifnlkmeifaaDoor.Cd
open Go Go.RowKit Go.Proofs.YtadpifnlkmeifaaDoor.Pm Go.Proofs.YtadpifnlkmeifaaDoor.Pl
set_option linter.unusedVariables false
set_option maxHeartbeats 4000000
set_option maxRecDepth 8000
theorem comp_yes {x : Ex} (h : isRight x = true) : compF x = codeF x 0 ∧ compE x = 0 := by unfold compF compE; rw [h, if_pos rfl, if_pos rfl]; exact ⟨rfl, rfl⟩
theorem comp_no {x : Ex} (h : isRight x = false) : compF x = [] ∧ compE x = 1 := by unfold compF compE; rw [h, if_neg (by simp), if_neg (by simp)]; exact ⟨rfl, rfl⟩
/-- what is known of a strategy -/
structure Str (x : Ex) : Prop where
  rng : Q.rngE x = true
  size : size x ≤ 1000000
theorem str_of (raw : List Int) (h : ∀ a ∈ raw, I64 a) : Str (stratF raw) := by
  have := strat_small raw h
  exact ⟨this.rng, by have := this.size; omega⟩
/-- what is known of what a right one is compiled to -/
structure Cmp (x : Ex) (l : List Ins) : Prop where
  code : codeF x 0 = l
  right : rightF l = true
  len : (l.length : Int) = Pm.size x + manyF x 10
  small : l.length ≤ 4000
  fine : isFine 32 false x = true
theorem cmp_of {x : Ex} (h : isRight x = true) : Cmp x (codeF x 0) := by
  obtain ⟨hf, h2, -⟩ := right_open h
  exact ⟨rfl, compiled_right hf h2, codeF_len x 32 false 0 hf, codeF_small 0 hf h2, hf⟩
/-- texts of compiled code -/
theorem text_small {l : List Ins} {i : Nat} {z : Int} (hz : z ≤ 5000) (h : rightL l i z = true) : (textC l).length ≤ 64 * l.length ∧ ∀ x ∈ l, I64 x.n := by
  induction l generalizing i with
  | nil => simp [textC]
  | cons x l ih =>
    rw [rightL, Bool.and_eq_true] at h
    obtain ⟨a1, a2, a3, a4, a5, a6, a7⟩ := right_facts hz h.1
    obtain ⟨b1, b2⟩ := ih h.2
    refine ⟨?_, fun y hy => ?_⟩
    · have hw : ∀ op : Int, (wordO op).length ≤ 6 := by
        intro op
        unfold wordO
        rw [List.getD_eq_getElem?_getD]
        cases hq : wordsO[(opW op).toNat]? with
        | none => simp
        | some w =>
          have hm := List.mem_of_getElem? hq
          have : ∀ w ∈ wordsO, w.length ≤ 6 := by decide
          exact this w hm
      have hi : (intL x.n).length ≤ 20 := by
        unfold intL
        rw [if_neg (by omega)]
        exact Lx.digs_len _
      have hnm : x.op = 4 → x.nm.data.toList.length ≤ 12 := by
        intro h4
        have := a6 h4
        unfold isName at this
        split at this
        · cases this
        · rename_i c l' hl
          simp only [Bool.and_eq_true, decide_eq_true_eq] at this
          have h12 := this.1
          have e1 : x.nm.data.toList.length = x.nm.size := by simp
          omega
      rw [textC, lineI, List.length_append, List.length_append, List.length_append]
      have := hw x.op
      unfold tailI
      split
      · rename_i h4
        have := hnm h4
        simp only [List.length_cons, List.length_nil]; omega
      · split
        · simp only [List.length_cons, List.length_nil]; omega
        · simp only [List.length_cons, List.length_nil]; omega
    · rcases List.mem_cons.1 hy with rfl | hy
      · exact ⟨by omega, by omega⟩
      · exact b2 y hy
end Go.Proofs.YtadpifnlkmeifaaDoor.Cd

/- The statement CodeParts, in the pure machine. -/
namespace Go.Proofs.YtadpifnlkmeifaaDoor.Cd
open Go Go.RowKit Go.Proofs.YtadpifnlkmeifaaDoor.Pm Go.Proofs.YtadpifnlkmeifaaDoor.Pl
set_option linter.unusedVariables false
set_option maxHeartbeats 4000000
set_option maxRecDepth 8000
end Go.Proofs.YtadpifnlkmeifaaDoor.Cd

/- The statement CodeTells, in the pure machine (where any's text is no longer than a Builder bears). -/
namespace Go.Proofs.YtadpifnlkmeifaaDoor.Cd
open Go Go.RowKit Go.Proofs.YtadpifnlkmeifaaDoor.Pm Go.Proofs.YtadpifnlkmeifaaDoor.Pl
set_option linter.unusedVariables false
set_option maxHeartbeats 4000000
set_option maxRecDepth 8000
/-- all that is asked of a code -/
structure Told (l : List Ins) : Prop where
  same : Ok E 13 [] [.c (.row (rowI l)), .c (.row (rowI l))] (pB true) []
  text : Ok E 14 [] [.c (.row (rowI l))] (pS (B (textC l))) []
  rtext : Ok E 15 [] [.c (.row (rowI l))] (pS (B (textC l))) []
  right : Ok E 16 [] [.c (.row (rowI l))] (pB (rightF l)) []
  rright : Ok E 17 [] [.c (.row (rowI l))] (pB (rightF l)) []
theorem told_of (l : List Ins) (hl : l.length ≤ 4611686018427387000) (hn : (textC l).length ≤ 140737488355328) (h64 : ∀ x ∈ l, I64 x.n) : Told l := by
  refine ⟨?_, Text10_ok l hl hn h64, rText10_ok l hl hn h64, Right10_ok l hl, rRight10_ok l hl rName_ok⟩
  have := Same10_ok l l (by omega)
  rwa [eqIs_refl] at this
theorem told_comp (x : Ex) : Told (compF x) := by
  rcases Bool.eq_false_or_eq_true (isRight x) with h | h
  · rw [(comp_yes h).1]
    have hc := cmp_of h
    have hr := hc.right
    unfold rightF at hr
    rw [Bool.and_eq_true] at hr
    have hl := hc.small
    obtain ⟨a, b⟩ := text_small (z := (codeF x 0).length) (by omega) hr.1
    exact told_of _ (by omega) (by omega) b
  · rw [(comp_no h).1]
    exact told_of [] (by simp) (by simp [textC]) (fun x hx => by cases hx)
theorem CodeTells_ok (raw : List Int) (h1 : ∀ a ∈ raw, I64 a) (l1 : raw.length ≤ 17592186043904) (what : Int) (hw : I64 what) (by_ : Int) (hb : I64 by_) (any : List Ins) (la : any.length ≤ 4611686018427387000) (ht : (textC any).length ≤ 140737488355328) (h64 : ∀ x ∈ any, I64 x.n) :
    Ok E 3 [] [.c (.row (encN raw)), pI what, pI by_, .c (.row (rowI any))] (pB true) [] := by
  have hS := strat_ok raw h1 (by omega)
  have hW := Wild_ok raw h1 (by omega) what by_ hw hb
  obtain ⟨r1, r2⟩ := str_of raw h1
  obtain ⟨s1, s2⟩ := wild_tame raw h1 what by_ hb
  obtain ⟨x, hx⟩ : ∃ x, stratF raw = x := ⟨_, rfl⟩
  obtain ⟨y, hy⟩ : ∃ y, wildF raw what by_ = y := ⟨_, rfl⟩
  rw [hx] at hS r1 r2
  rw [hy] at hW s1 s2
  have hT := told_of any la ht h64
  obtain ⟨b, hb'⟩ : ∃ b, rightF any = b := ⟨_, rfl⟩
  obtain ⟨t1, t2, t3, t4, t5⟩ := hT
  rw [hb'] at t4 t5
  have two : ∀ (j : Nat) (e : Ex), [x, y][j]? = some e → Ok E 11 [] [pE e] (.tup [.c (.row (rowI (compF e))), pI (compE e)]) [] ∧ Ok E 12 [] [pE e] (.tup [.c (.row (rowI (compF e))), pI (compE e)]) [] := by
    intro j e he
    match j, he with
    | 0, he => injection he with he; subst he; exact ⟨Compile_ok _ r1 (by omega), rCompile_ok _ r1 (by omega)⟩
    | 1, he => injection he with he; subst he; exact ⟨Compile_ok _ s1 (by omega), rCompile_ok _ s1 (by omega)⟩
  refine Ok.enter hE Tryd.func3 rfl (by decide +kernel) (by kernel_rfl) rfl rfl (Nat.le_of_ble_eq_true rfl) rfl ?_
  refine ⟨_, CallR.mk1 awake10_ok rfl rfl, ?_⟩
  refine ⟨_, CallR.mk1 hS rfl rfl, ?_⟩
  refine ⟨_, CallR.mk1 hW rfl rfl, ?_⟩
  refine ⟨_, ⟨_, rfl, rfl⟩, ?_⟩
  refine Loop.cut (α := Nat) (fun j => j ≤ 2) (fun j => [(3, .c (.row (rowI any))), (9, pB true), (23, .c (.row [cellsE x, cellsE y])), (24, pI 2), (25, pI j)]) (fun j => []) (fun _ => []) (fun j => 2 - j) 0 0 (fun _ => rfl) (fun _ => rfl) (fun _ => rfl) (Nat.zero_le _) ⟨⟨rfl, rfl, rfl, rfl, rfl, trivial⟩, rfl, rfl⟩ ?_
  rintro j f hj
  by_cases hjl : j < 2
  rotate_left
  · refine ⟨_, ltN (by omega), ?_⟩
    refine ⟨_, CallR.mk1 t4 rfl rfl, ?_⟩
    refine ⟨_, CallR.mk1 t5 rfl rfl, ?_⟩
    refine ⟨_, Lx.eqBT (by cases b <;> rfl), ?_⟩
    refine ⟨_, CallR.mk1 t2 rfl rfl, ?_⟩
    refine ⟨_, CallR.mk1 t3 rfl rfl, ?_⟩
    refine ⟨_, strEqV (c := true) (beq_self_eq_true _), ?_⟩
    exact Ret.mk _ rfl rfl rfl
  obtain ⟨e, he⟩ : ∃ e, [x, y][j]? = some e := ⟨_, List.getElem?_eq_getElem (by show j < 2; exact hjl)⟩
  have hrow : [cellsE x, cellsE y][j]? = some (cellsE e) := by
    match j, he with
    | 0, he => injection he with he; subst he; rfl
    | 1, he => injection he with he; subst he; rfl
  obtain ⟨hC, hD⟩ := two j e he
  obtain ⟨u1, u2, u3, u4, u5⟩ := told_comp e
  obtain ⟨l, hl⟩ : ∃ l, compF e = l := ⟨_, rfl⟩
  obtain ⟨c, hc⟩ : ∃ c, compE e = c := ⟨_, rfl⟩
  rw [hl] at hC hD u1 u2 u3 u4 u5
  rw [hc] at hC hD
  obtain ⟨d, hd⟩ : ∃ d, rightF l = d := ⟨_, rfl⟩
  rw [hd] at u4 u5
  refine ⟨_, ltT (by omega), ?_⟩
  refine ⟨_, idxV (j := j) hrow rfl rfl rfl rfl, ?_⟩
  refine ⟨_, CallR.mk1 hC rfl rfl, ?_⟩
  refine ⟨_, CallR.mk1 hD rfl rfl, ?_⟩
  refine ⟨_, CallR.mk1 u1 rfl rfl, ?_⟩
  refine ⟨_, neN rfl, ?_⟩
  refine ⟨_, CallR.mk1 u2 rfl rfl, ?_⟩
  refine ⟨_, CallR.mk1 u3 rfl rfl, ?_⟩
  refine ⟨_, strNeV (c := false) (by rw [beq_self_eq_true]; rfl), ?_⟩
  refine ⟨_, CallR.mk1 u4 rfl rfl, ?_⟩
  refine ⟨_, CallR.mk1 u5 rfl rfl, ?_⟩
  refine ⟨_, neBN (by cases d <;> rfl), ?_⟩
  refine ⟨_, addV rfl (by omega) (by omega), ?_⟩
  exact ⟨j + 1, hjl, by omega, ⟨rfl, rfl, rfl, rfl, rfl, trivial⟩, ⟨_, rfl⟩, rfl⟩
end Go.Proofs.YtadpifnlkmeifaaDoor.Cd

/- A row's slice of structs of numbers and texts, as a value of the pure machine. -/
namespace Go.Proofs.YtadpifnlkmeifaaDoor.Pm
open Go Go.RowKit Go.ChangeShapes Go.WideShapes
set_option linter.unusedVariables false
/-- a cell that hangs on no memory -/
def LeafV (v : Value) (c : CV) : Prop := ∀ (w : World) (ok : Nat → Nat → Prop), RepC w ok v c
def IsRowS (m : Nat) (w : World) (a : Option Addr) (len cap : Nat) (xs : List (List CV)) : Prop :=
  (a = none ∧ len = 0 ∧ cap = 0 ∧ xs = []) ∨
  ∃ x, a = some x ∧ len ≤ cap ∧ xs.length = len ∧ (∀ y ∈ xs, y.length = m) ∧ ∀ (i j : Nat) (y : List CV) (c : CV), xs[i]? = some y → y[j]? = some c → ∃ v, w.cell? (x.add (i * m + j)) = some v ∧ LeafV v c
theorem IsRowS.rep {m : Nat} {w : World} {a : Option Addr} {len cap : Nat} {xs : List (List CV)} (hm : 0 < m) (h : IsRowS m w a len cap xs) : Rep w (fun b _ => b < w.heap.size) [] [] (.slice a len cap) (.c (.row xs)) := by
  refine .c _ _ ?_
  rcases h with ⟨rfl, rfl, rfl, rfl⟩ | ⟨x, rfl, hlc, hz, hy, hc⟩
  · exact RepC.nil.nil_row
  · have cell : ∀ i, i < len * m → ∃ v, w.cell? (x.add i) = some v := by
      intro i hi
      have hq : i / m < xs.length := by rw [hz]; exact Nat.div_lt_of_lt_mul (by rw [Nat.mul_comm]; exact hi)
      have hr : i % m < m := Nat.mod_lt _ hm
      have hl := hy _ (List.getElem_mem hq)
      obtain ⟨v, hv, -⟩ := hc (i / m) (i % m) xs[i / m] (xs[i / m][i % m]'(by rw [hl]; exact hr)) (List.getElem?_eq_getElem hq) (List.getElem?_eq_getElem _)
      rw [show i / m * m + i % m = i by rw [Nat.mul_comm]; exact Nat.div_add_mod i m] at hv
      exact ⟨v, hv⟩
    refine .row (some x) len cap _ m (fun i => (w.cell? (x.add i)).getD undef) hz.symm hlc (fun h => by cases h) hm hy (fun i hi => ?_) (fun i y j c hi hj => ?_)
    · obtain ⟨v, hv⟩ := cell i hi
      exact ⟨x, rfl, cell_blk hv, by rw [hv]; rfl⟩
    · obtain ⟨v, hv, hl⟩ := hc i j y c hi hj
      rw [hv]
      exact hl _ _
theorem IsRowS.len {m : Nat} {w : World} {a : Option Addr} {len cap k : Nat} {xs : List (List CV)} (h : IsRowS m w a len cap xs) (hl : len ≤ k) : xs.length ≤ k := by
  rcases h with ⟨_, _, _, rfl⟩ | ⟨x, _, _, h, _⟩
  · exact Nat.zero_le _
  · omega
theorem leaf_int (k : IntKind) (n : Int) : LeafV (.int k n) (.int k n) := fun _ _ => .int _ _
theorem leaf_str (s : ByteArray) : LeafV (.string s) (.str s) := fun _ _ => .str _
/-- a slice is no longer than its weight allows -/
theorem sized_len {H : Type} {enc : TypeId × Value → H} {P : Program} {W : World} {base : Nat} {spare : Nat → Bool} {held : Bool} {t e : TypeId} {a : Option Addr} {len cap : Nat} {d : DataW H} {ps : List MemPlace} {ts : List TypeId} {ds : List (DataW H)} {j : Nat}
    (hsz : (DataW.weightsEach P ts ds).all (· ≤ reachBytes) = true) (ht : ts[j]? = some t) (hd : ds[j]? = some d) (hu : P.underlying t = some (.slice e)) {B : Nat} (hB : P.bytesOf e = B)
    (h : DataW.Trod enc P W base spare held t (.slice a len cap) d ps) : len * B ≤ 140737488351232 := by
  obtain ⟨fuel, hf⟩ := h
  rcases DataW.trod_slice hu hf with ⟨h1, -⟩ | ⟨a', len', cap', elems, rest, n, _, h1, hx, hb, hl, hmx, hlen, -⟩
  · simp [Value.cells] at h1
    obtain ⟨rfl, rfl, rfl⟩ := h1
    simp
  · simp [Value.cells] at h1
    obtain ⟨rfl, rfl, rfl⟩ := h1
    obtain ⟨hx, _⟩ := Prod.mk.inj hx
    subst hx
    have z := sized_slice hsz ht hd hu
    rw [hB, List.length_map, List.length_map] at z
    exact Nat.le_trans (Nat.mul_le_mul_right _ (by omega)) z
end Go.Proofs.YtadpifnlkmeifaaDoor.Pm

/- A row's slice of instructions, as a value of the pure machine, and how much its names are. -/
namespace Go.Proofs.YtadpifnlkmeifaaDoor.Pm
open Go Go.RowKit Go.ChangeShapes Go.WideShapes
set_option linter.unusedVariables false
/-- what of an opened slice of structs, if each element opens -/
theorem open_structsR {α : Type} (en : α → List CV) {H : Type} (R : α → DataW H → Prop) {enc : TypeId × Value → H} {P : Program} {w : World} {base : Nat} {spare : Nat → Bool} {held : Bool} {t e : TypeId} {m fuel : Nat} {a : Option Addr} {len cap : Nat} {x : DataW H × List MemPlace}
    (ht : P.underlying t = some (.slice e)) (hm : P.cellsOf e = m) (hen : ∀ o, (en o).length = m)
    (hopen : ∀ (n : Nat) (cs : List Value) (x : DataW H × List MemPlace), DataW.trod enc P w base spare held n e cs = some x → ∃ o : α, (∀ (j : Nat) (c : CV), (en o)[j]? = some c → ∃ v, cs[j]? = some v ∧ LeafV v c) ∧ R o x.1)
    (h : DataW.trod enc P w base spare held fuel t (Value.slice a len cap).cells.toList = some x) : ∃ l : List α, IsRowS m w a len cap (l.map en) ∧ ((l = [] ∧ x.1 = .nil) ∨ ∃ els rest, x.1 = .slice els rest ∧ l.length = els.length ∧ ∀ (i : Nat) (o : α) (d : DataW H), l[i]? = some o → els[i]? = some d → R o d) := by
  rcases DataW.trod_slice ht h with ⟨h1, hx⟩ | ⟨a', len', cap', elems, rest, n, _, h1, hx, hb, hl, hmx, hlen, hel, hsp, hns⟩
  · simp [Value.cells] at h1
    obtain ⟨rfl, rfl, rfl⟩ := h1
    exact ⟨[], .inl ⟨rfl, rfl, rfl, rfl⟩, .inl ⟨rfl, by rw [hx]⟩⟩
  · simp [Value.cells] at h1
    obtain ⟨rfl, rfl, rfl⟩ := h1
    have key : ∀ k : Nat, k < len → ∃ o : α, (∀ (j : Nat) (c : CV), (en o)[j]? = some c → ∃ v, w.cell? (a'.add (k * m + j)) = some v ∧ LeafV v c) ∧ ∀ y, elems[k]? = some y → R o y.1 := by
      intro k hk
      have hE := hel k hk
      obtain ⟨y, hy⟩ : ∃ y, elems[k]? = some y := ⟨_, List.getElem?_eq_getElem (by omega)⟩
      rw [hy, Option.bind_eq_some_iff] at hE
      obtain ⟨cs', hcs, hyt⟩ := hE
      rw [hm] at hcs
      obtain ⟨-, hcl', hcc⟩ := World.cells?_some hcs
      obtain ⟨o, ho, hR⟩ := hopen _ _ _ hyt
      refine ⟨o, fun j c hj => ?_, fun y' hy' => by rw [hy] at hy'; injection hy' with hy'; subst hy'; exact hR⟩
      obtain ⟨v, hv, hlf⟩ := ho j c hj
      have hjm : j < m := by rw [← hen o]; exact (List.getElem?_eq_some_iff.1 hj).1
      refine ⟨v, ?_, hlf⟩
      rw [← add_add _ _ _ (.inr trivial)]
      rw [hcc j hjm]; exact hv
    have all : ∀ k : Nat, k ≤ len → ∃ l : List α, l.length = k ∧ ∀ (i : Nat) (o : α), l[i]? = some o → (∀ (j : Nat) (c : CV), (en o)[j]? = some c → ∃ v, w.cell? (a'.add (i * m + j)) = some v ∧ LeafV v c) ∧ ∀ y, elems[i]? = some y → R o y.1 := by
      intro k
      induction k with
      | zero => exact fun _ => ⟨[], rfl, fun i o h => by simp at h⟩
      | succ k ih =>
        intro hk
        obtain ⟨l, hl1, hl2⟩ := ih (by omega)
        obtain ⟨o, ho⟩ := key k (by omega)
        refine ⟨l ++ [o], by simp [hl1], fun i q hq => ?_⟩
        rcases Nat.lt_or_ge i l.length with hi | hi
        · rw [List.getElem?_append_left hi] at hq
          exact hl2 i q hq
        · rw [List.getElem?_append_right hi] at hq
          have hi0 : i - l.length = 0 := by
            rcases Nat.eq_zero_or_pos (i - l.length) with h | h
            · exact h
            · rw [List.getElem?_eq_none (by simp; omega)] at hq; cases hq
          rw [hi0] at hq
          have hq : some o = some q := hq
          injection hq with hq
          subst hq
          rw [show i = k by omega]
          exact ho
    obtain ⟨l, hl1, hl2⟩ := all len (Nat.le_refl _)
    refine ⟨l, .inr ⟨a', rfl, hl, by rw [List.length_map, hl1], fun y hy => ?_, fun i j y c hi hj => ?_⟩, .inr ⟨_, _, by rw [hx], by rw [hl1, List.length_map, hlen], fun i o d hi hd => ?_⟩⟩
    · obtain ⟨o, -, rfl⟩ := List.mem_map.1 hy
      exact hen o
    · rw [List.getElem?_map] at hi
      cases ho : l[i]? with
      | none => rw [ho] at hi; cases hi
      | some o =>
        rw [ho] at hi
        have hi : some (en o) = some y := hi
        injection hi with hi
        subst hi
        exact (hl2 i o ho).1 j c hj
    · rw [List.getElem?_map] at hd
      cases hy : elems[i]? with
      | none => rw [hy] at hd; cases hd
      | some y =>
        rw [hy] at hd
        have hd : some y.1 = some d := hd
        injection hd with hd; subst hd
        exact (hl2 i o hi).2 y hy
theorem cIns_ : Tryd.prog.cellsOf 44 = 3 := by kernel_rfl
theorem cStr_ : Tryd.prog.cellsOf 9 = 1 := by kernel_rfl
theorem cInt_ : Tryd.prog.cellsOf 3 = 1 := by kernel_rfl
theorem list3 {α : Type} {l : List α} (h : l.length = 3) : ∃ a b c, l = [a, b, c] := by
  match l, h with
  | [a, b, c], _ => exact ⟨a, b, c, rfl⟩
theorem lit_i64 {n : Int} (h : (Lit.int .i64 n).wf = true) : I64 n := by
  have h : IntKind.i64.min ≤ n ∧ n ≤ 9223372036854775807 := by simpa [Lit.wf] using h
  have e1 : IntKind.i64.min = -9223372036854775808 := rfl
  rw [e1] at h
  exact h
def RI {H : Type} (o : Ins) (d : DataW H) : Prop := I64 o.n ∧ o.nm.size + 1 ≤ Rows.uptoBulk d
theorem open_instr {H : Type} {enc : TypeId × Value → H} {w : World} {base : Nat} {spare : Nat → Bool} {held : Bool} (n : Nat) (cs : List Value) (x : DataW H × List MemPlace) (h : DataW.trod enc Tryd.prog w base spare held n 44 cs = some x) :
    ∃ o : Ins, (∀ (j : Nat) (c : CV), (cellsI o)[j]? = some c → ∃ v, cs[j]? = some v ∧ LeafV v c) ∧ RI o x.1 := by
  obtain ⟨xs, n, -, hx, hl, hlen, hat⟩ := DataW.trod_struct Tryd.underlying44 h
  rw [cIns_] at hl
  replace hlen : xs.length = 3 := hlen
  obtain ⟨a0, a1, a2, rfl⟩ := list3 hl
  obtain ⟨x0, x1, x2, rfl⟩ := list3 hlen
  have h0 : DataW.trod enc Tryd.prog w base spare held n 3 (([a0, a1, a2].drop 0).take (Tryd.prog.cellsOf 3)) = some x0 := hat 0 _ rfl
  have h1 : DataW.trod enc Tryd.prog w base spare held n 3 (([a0, a1, a2].drop 1).take (Tryd.prog.cellsOf 3)) = some x1 := hat 1 _ rfl
  have h2 : DataW.trod enc Tryd.prog w base spare held n 9 (([a0, a1, a2].drop 2).take (Tryd.prog.cellsOf 9)) = some x2 := hat 2 _ rfl
  rw [cInt_] at h0 h1
  rw [cStr_] at h2
  obtain ⟨z0, hz0, hx0, -⟩ := DataW.trod_int Tryd.underlying3 h0
  obtain ⟨z1, hz1, hx1, hw1⟩ := DataW.trod_int Tryd.underlying3 h1
  obtain ⟨s, hs, hx2, -⟩ := DataW.trod_string Tryd.underlying9 h2
  replace hz0 : [a0] = [.int .i64 z0] := hz0
  replace hz1 : [a1] = [.int .i64 z1] := hz1
  replace hs : [a2] = [.string s] := hs
  injection hz0 with hz0
  injection hz1 with hz1
  injection hs with hs
  subst hz0; subst hz1; subst hs; subst hx0; subst hx1; subst hx2
  refine ⟨⟨z0, z1, s⟩, fun j c hj => ?_, lit_i64 hw1, ?_⟩
  · match j, hj with
    | 0, hj =>
      have hj : some (CV.int .i64 z0) = some c := hj
      injection hj with hj; subst hj
      exact ⟨_, rfl, leaf_int _ z0⟩
    | 1, hj =>
      have hj : some (CV.int .i64 z1) = some c := hj
      injection hj with hj; subst hj
      exact ⟨_, rfl, leaf_int _ z1⟩
    | 2, hj =>
      have hj : some (CV.str s) = some c := hj
      injection hj with hj; subst hj
      exact ⟨_, rfl, leaf_str s⟩
    | j + 3, hj => cases hj
  · rw [hx]
    show s.size + 1 ≤ Rows.uptoBulk (.agg _)
    simp only [List.map_cons, List.map_nil, Rows.uptoBulk, Rows.uptoBulkAll]
    simp
    omega
theorem open_instrs {H : Type} {enc : TypeId × Value → H} {w : World} {base : Nat} {spare : Nat → Bool} {held : Bool} {fuel : Nat} {a : Option Addr} {len cap : Nat} {x : DataW H × List MemPlace}
    (h : DataW.trod enc Tryd.prog w base spare held fuel 23 (Value.slice a len cap).cells.toList = some x) : ∃ l : List Ins, IsRowS 3 w a len cap (rowI l) ∧ (∀ y ∈ l, I64 y.n) ∧ (l.map fun y => y.nm.size + 1).sum ≤ Rows.uptoBulk x.1 := by
  obtain ⟨l, h1, h2⟩ := open_structsR cellsI RI Tryd.underlying23 cIns_ (fun _ => rfl) open_instr h
  refine ⟨l, h1, ?_⟩
  rcases h2 with ⟨rfl, -⟩ | ⟨els, rest, hx, hl, hR⟩
  · exact ⟨(fun y hy => by cases hy), by simp⟩
  · rw [hx]
    clear hx h1 h
    have key : ∀ (l : List Ins) (els : List (DataW H)), l.length = els.length → (∀ (i : Nat) (o : Ins) (d : DataW H), l[i]? = some o → els[i]? = some d → RI o d) → (∀ y ∈ l, I64 y.n) ∧ (l.map fun y => y.nm.size + 1).sum ≤ Rows.uptoBulkAll els := by
      intro l
      induction l with
      | nil => intro els _ _; exact ⟨(fun y hy => by cases hy), by simp⟩
      | cons o l ih =>
        intro els hl hR
        cases els with
        | nil => simp at hl
        | cons d els =>
          obtain ⟨i1, i2⟩ := ih els (by simpa using hl) (fun i o' d' h1 h2 => hR (i + 1) o' d' (by simpa using h1) (by simpa using h2))
          obtain ⟨r1, r2⟩ := hR 0 o d rfl rfl
          refine ⟨fun y hy => ?_, ?_⟩
          · rcases List.mem_cons.1 hy with rfl | hy
            · exact r1
            · exact i1 y hy
          · rw [List.map_cons, List.sum_cons, Rows.uptoBulkAll]; omega
    obtain ⟨k1, k2⟩ := key l els hl hR
    refine ⟨k1, ?_⟩
    show _ ≤ Rows.uptoBulkAll els + Rows.uptoBulkAll rest + 1
    omega
theorem text_bulk (l : List Ins) : (Pm.textC l).length ≤ 64 * (l.map fun y => y.nm.size + 1).sum := by
  induction l with
  | nil => simp [textC]
  | cons x l ih =>
    have hw : (wordO x.op).length ≤ 6 := by
      unfold wordO
      rw [List.getD_eq_getElem?_getD]
      cases hq : wordsO[(opW x.op).toNat]? with
      | none => simp
      | some w =>
        have hm := List.mem_of_getElem? hq
        have : ∀ w ∈ wordsO, w.length ≤ 6 := by decide
        exact this w hm
    have hi : (Pl.intL x.n).length ≤ 21 := by
      unfold Pl.intL
      split
      · have := Lx.digs_len x.n.natAbs; simp only [List.length_cons]; omega
      · have := Lx.digs_len x.n.toNat; omega
    have e1 : x.nm.data.toList.length = x.nm.size := by simp
    rw [textC, lineI, List.length_append, List.length_append, List.length_append, List.map_cons, List.sum_cons]
    unfold tailI
    split
    · simp only [List.length_cons, List.length_nil]; omega
    · split
      · simp only [List.length_cons, List.length_nil]; omega
      · simp only [List.length_cons, List.length_nil]; omega
end Go.Proofs.YtadpifnlkmeifaaDoor.Pm
