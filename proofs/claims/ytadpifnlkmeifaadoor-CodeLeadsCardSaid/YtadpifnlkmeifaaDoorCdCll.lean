/- Texts that are merged: CpN, CpO, CpP, CpQ, CpR, CpT. -/
import Derived.Test.YtadpifnlkmeifaaDoorCdBll
import Derived.Test.YtadpifnlkmeifaaDoorPmBll
import Derived.Test.YtadpifnlkmeifaaDoorCdAll
import Derived.Test.YtadpifnlkmeifaaDoorPtCll
/- code.Text. -/
namespace Go.Proofs.YtadpifnlkmeifaaDoor.Cd
open Go Go.RowKit Go.Proofs.YtadpifnlkmeifaaDoor.Pm Go.Proofs.YtadpifnlkmeifaaDoor.Pl
set_option linter.unusedVariables false
set_option maxHeartbeats 4000000
set_option maxRecDepth 8000
theorem Number_ok (n : Int) (hn : I64 n) : Ok E 33 [] [pI n] (pS (B (intL n))) [] := by
  refine Ok.ofBelow hE ⟨_, Tryd.func33, by decide +kernel, by kernel_rfl⟩ fun w ok vals hI hr => ?_
  refine ⟨.string (B (intL n)), fun _ => .mkStr _, ?_⟩
  match hv : vals.toList, hr with
  | [v], h =>
    have hvals : vals = #[.int .i64 n] := by apply Array.ext'; rw [hv, h.head.int_inv]
    subst hvals
    exact P.dec_Number.calls n _ w ⟨hI.tab⟩ (DecT.Number_eq n hn.1 hn.2)
def wordsR : List (List CV) := wordsO.map fun w => [.str (B w)]
theorem words_ok : Ok E 30 [] [] (.c (.row wordsR)) [] := by
  refine Ok.enter hE Tryd.func30 rfl (by decide +kernel) (by kernel_rfl) rfl rfl (Nat.le_of_ble_eq_true rfl) rfl ?_
  refine ⟨_, ⟨_, rfl, rfl⟩, ?_⟩
  exact Ret.mk _ rfl rfl rfl
theorem wordsR_get (op : Int) : wordsR[(opW op).toNat]? = some [.str (B (wordO op))] := by
  have h : (opW op).toNat < 14 := by unfold opW; split <;> omega
  have hl : wordsO.length = 14 := rfl
  unfold wordsR wordO
  rw [List.getElem?_map, List.getD_eq_getElem?_getD, List.getElem?_eq_getElem (by omega)]
  rfl
/-- the builder ahead of a round -/
def bldJ : Nat → List UInt8 → List PV
  | 0, _ => bld0
  | _ + 1, s => bldU 0 s
theorem write_first (j : Nat) (s : List UInt8) (hs : j = 0 → s = []) (t : ByteArray) (X : List PV) (hX : X.all (fitB 2) = true) (hn : s.length + t.size ≤ 140737488355328) :
    WCallR E 31 [bldJ j s, X] [.ptr 0 0, .c (.str t)] .undef [bldU 0 (s ++ t.data.toList), X] := by
  have hf : ∀ p : List PV, p.all (fitB 2) = true → ([p, X] : List (List PV)).all (fun d => d.all (fitB 2)) = true := fun p hp => by
    rw [List.all_cons, hp, List.all_cons, hX]; rfl
  cases j with
  | zero =>
    obtain rfl := hs rfl
    refine ⟨[bldF, X], [.ptr 0 0, .c (.str t)], .cons (.cons (Wk.refl _) (.cons (Wk.nilStk _) .nil)) (.cons (WkL.refl _) .nil (StkOK.refl _)) (StkOK.nil2 _ _), hf _ rfl, WkL.refl _, rfl, write_core (c0 := .fresh _) rfl (.inl rfl) hn, hf _ rfl, rfl⟩
  | succ j => exact ⟨[bldU 0 s, X], [.ptr 0 0, .c (.str t)], WkLL.refl _, hf _ rfl, WkL.refl _, rfl, write_core rfl (.inr rfl) hn, hf _ rfl, rfl⟩
theorem write_more (s : List UInt8) (t : ByteArray) (X : List PV) (hX : X.all (fitB 2) = true) (hn : s.length + t.size ≤ 140737488355328) :
    WCallR E 31 [bldU 0 s, X] [.ptr 0 0, .c (.str t)] .undef [bldU 0 (s ++ t.data.toList), X] := by
  have := write_first 1 s (by simp) t X hX hn
  exact this
theorem textC_take (l : List Ins) (j : Nat) (x : Ins) (h : l[j]? = some x) : textC (l.take (j + 1)) = textC (l.take j) ++ lineI x := by
  induction l generalizing j with
  | nil => simp at h
  | cons y l ih =>
    cases j with
    | zero => simp at h; subst h; simp [textC]
    | succ j => simp only [List.take_succ_cons, textC, ih j (by simpa using h), List.append_assoc]
theorem textC_le (l : List Ins) (j : Nat) : (textC (l.take j)).length ≤ (textC l).length := by
  induction l generalizing j with
  | nil => simp
  | cons y l ih =>
    cases j with
    | zero => simp [textC]
    | succ j => have := ih j; simp only [List.take_succ_cons, textC, List.length_append]; omega
theorem textC_ne {l : List Ins} (h : 0 < l.length) : textC l ≠ [] := by
  cases l with
  | nil => simp at h
  | cons y l => rw [textC]; exact lineI_ne y _
end Go.Proofs.YtadpifnlkmeifaaDoor.Cd

/- code.Text: its contract. -/
namespace Go.Proofs.YtadpifnlkmeifaaDoor.Cd
open Go Go.RowKit Go.Proofs.YtadpifnlkmeifaaDoor.Pm Go.Proofs.YtadpifnlkmeifaaDoor.Pl
set_option linter.unusedVariables false
set_option maxHeartbeats 4000000
set_option maxRecDepth 8000
theorem wr_to {s u : List UInt8} {t : ByteArray} {X : List PV} (hX : X.all (fitB 2) = true) (hu : s ++ t.data.toList = u) (hn : u.length ≤ 140737488355328) :
    WCallR E 31 [bldU 0 s, X] [.ptr 0 0, .c (.str t)] .undef [bldU 0 u, X] := by
  subst hu
  exact write_more s t X hX (by rw [List.length_append] at hn; simpa using hn)
theorem wr_fst {j : Nat} {s u : List UInt8} {t : ByteArray} {X : List PV} (hs : j = 0 → s = []) (hX : X.all (fitB 2) = true) (hu : s ++ t.data.toList = u) (hn : u.length ≤ 140737488355328) :
    WCallR E 31 [bldJ j s, X] [.ptr 0 0, .c (.str t)] .undef [bldU 0 u, X] := by
  subst hu
  exact write_first j s hs t X hX (by rw [List.length_append] at hn; simpa using hn)
theorem opW_cases (op : Int) : (op < 0 ∧ opW op = 0) ∨ (0 ≤ op ∧ 14 ≤ op ∧ opW op = 0) ∨ (0 ≤ op ∧ op < 14 ∧ opW op = op) := by unfold opW; split <;> omega
theorem num_ends (op : Int) : hasNum op = decide ((endsF op 0 1).2 > 0) := by
  unfold hasNum endsF
  split
  · rename_i h; rw [decide_eq_true (by omega)]; rfl
  · split
    · rename_i h; rw [decide_eq_true (by omega)]; rfl
    · split
      · rename_i h; rw [decide_eq_true (by omega)]; rfl
      · split
        · rename_i h; rw [decide_eq_true (by omega)]; rfl
        · rw [decide_eq_false (by omega)]; rfl
theorem Text10_ok (l : List Ins) (hl : l.length ≤ 4611686018427387000) (hn : (textC l).length ≤ 140737488355328) (h64 : ∀ x ∈ l, I64 x.n) : Ok E 14 [] [.c (.row (rowI l))] (pS (B (textC l))) [] := by
  have hrl := rowI_len l
  have hwl : ((wordsR.length : Nat) : Int) = 14 := rfl
  refine Ok.enter hE Tryd.func14 rfl (by decide +kernel) (by kernel_rfl) rfl rfl (Nat.le_of_ble_eq_true rfl) rfl ?_
  refine ⟨_, CallR.mk1 words_ok rfl rfl, ?_⟩
  refine Loop.cut (α := Nat) (fun j => j ≤ l.length) (fun j => [(3, .ptr 0 0), (4, .c (.row wordsR)), (11, .c (.row (rowI l))), (12, pI (rowI l).length), (13, pI j)]) (fun j => [bldJ j (textC (l.take j))]) (fun _ => []) (fun j => l.length - j) 0 1 (fun _ => rfl) (fun j => by cases j <;> rfl) (fun _ => rfl) (Nat.zero_le _) ⟨⟨rfl, rfl, rfl, rfl, rfl, trivial⟩, rfl, rfl⟩ ?_
  rintro j f hj
  by_cases hjl : j < l.length
  rotate_left
  · have hje : j = l.length := by omega
    refine ⟨_, ltN (by omega), ?_⟩
    have ht : textC (l.take j) = textC l := by rw [hje, List.take_length]
    rw [ht]
    by_cases h0 : l.length = 0
    · have hj0 : j = 0 := by omega
      subst hj0
      have hl0 : l = [] := List.eq_nil_of_length_eq_zero h0
      subst hl0
      refine .inr (.inr (.inr (.inl ⟨_, _, WCallR.mk1 (string0_core rfl) rfl rfl rfl rfl, ?_⟩)))
      exact ⟨_, rfl, Wk.refl _, rfl, .nil _⟩
    · obtain ⟨k, rfl⟩ : ∃ k, j = k + 1 := ⟨j - 1, by omega⟩
      refine .inr (.inr (.inr (.inl ⟨_, _, WCallR.mk1 (string_core (s := textC l) rfl (textC_ne (by omega))) rfl rfl rfl rfl, ?_⟩)))
      exact ⟨_, rfl, Wk.refl _, rfl, .nil _⟩
  obtain ⟨x, hx⟩ : ∃ x, l[j]? = some x := ⟨_, List.getElem?_eq_getElem hjl⟩
  have hx64 := h64 x (List.mem_of_getElem? hx)
  have hE2 := ends_ok x 0 1 (by omega) (by omega)
  have hN := Number_ok x.n hx64
  have hW := wordsR_get x.op
  obtain ⟨s0, hs0⟩ : ∃ s0, textC (l.take j) = s0 := ⟨_, rfl⟩
  obtain ⟨s3, hs3⟩ : ∃ s3, textC (l.take (j + 1)) = s3 := ⟨_, rfl⟩
  have hle : s3.length ≤ 140737488355328 := by rw [← hs3]; have := textC_le l (j + 1); omega
  have hs03 : s3 = s0 ++ wordO x.op ++ tailI x ++ [10] := by rw [← hs3, textC_take l j x hx, hs0, lineI]; simp
  have hfst : j = 0 → s0 = [] := by rintro rfl; rw [← hs0]; simp [textC]
  have hnum := num_ends x.op
  obtain ⟨op, n, nm⟩ := x
  obtain ⟨⟨lo, hi⟩, hlh⟩ : ∃ p, endsF op 0 1 = p := ⟨_, rfl⟩
  dsimp only at hE2 hN hW hs03 hnum hx64
  rw [hlh] at hE2 hnum
  dsimp only at hE2 hnum
  have hle1 : (s0 ++ wordO op).length ≤ 140737488355328 := by rw [hs03] at hle; simp only [List.length_append] at hle ⊢; omega
  have hle2 : (s0 ++ wordO op ++ tailI ⟨op, n, nm⟩).length ≤ 140737488355328 := by rw [hs03] at hle; simp only [List.length_append] at hle ⊢; omega
  have hbt : ∀ u : List UInt8, (B u).data.toList = u := fun u => rfl
  rw [hs0]
  refine ⟨_, ltT (by omega), ?_⟩
  refine ⟨_, idxV (j := j) (rowI_get hx) rfl rfl rfl rfl, ?_⟩
  rcases opW_cases op with ⟨o1, o2⟩ | ⟨o1, o2, o3⟩ | ⟨o1, o2, o3⟩
  · have ht : tailI ⟨op, n, nm⟩ = [] := by unfold tailI hasNum; dsimp only; rw [if_neg (by omega), if_neg (by simp; omega)]
    rw [ht, List.append_nil] at hs03
    rw [o2] at hW
    refine ⟨_, ltT o1, ?_⟩
    refine ⟨_, idxV (j := 0) hW rfl rfl rfl rfl, ?_⟩
    refine .inr (.inr (.inr (.inl ⟨_, _, wr_fst hfst rfl (by rw [hbt]) hle1, ?_⟩)))
    refine ⟨_, CallR.mk1 hE2 rfl rfl, ?_⟩
    refine ⟨_, eqN (show (0 : Int) ≠ 4 by decide), ?_⟩
    refine ⟨_, gtN (show ¬ (0 : Int) > 0 by decide), ?_⟩
    refine .inr (.inr (.inr (.inl ⟨_, _, wr_to (u := s3) rfl (by rw [hs03]; first | done | rfl) hle, ?_⟩)))
    refine ⟨_, addV rfl (by omega) (by omega), ?_⟩
    exact ⟨j + 1, hjl, by omega, ⟨rfl, rfl, rfl, rfl, rfl, trivial⟩, ⟨_, by rw [hs3]; rfl⟩, rfl⟩
  · have ht : tailI ⟨op, n, nm⟩ = [] := by unfold tailI hasNum; dsimp only; rw [if_neg (by omega), if_neg (by simp; omega)]
    rw [ht, List.append_nil] at hs03
    rw [o3] at hW
    refine ⟨_, ltN (show ¬ op < 0 by omega), ?_⟩
    refine ⟨_, geT (show op ≥ (wordsR.length : Nat) by omega), ?_⟩
    refine ⟨_, idxV (j := 0) hW rfl rfl rfl rfl, ?_⟩
    refine .inr (.inr (.inr (.inl ⟨_, _, wr_fst hfst rfl (by rw [hbt]) hle1, ?_⟩)))
    refine ⟨_, CallR.mk1 hE2 rfl rfl, ?_⟩
    refine ⟨_, eqN (show (0 : Int) ≠ 4 by decide), ?_⟩
    refine ⟨_, gtN (show ¬ (0 : Int) > 0 by decide), ?_⟩
    refine .inr (.inr (.inr (.inl ⟨_, _, wr_to (u := s3) rfl (by rw [hs03]; first | done | rfl) hle, ?_⟩)))
    refine ⟨_, addV rfl (by omega) (by omega), ?_⟩
    exact ⟨j + 1, hjl, by omega, ⟨rfl, rfl, rfl, rfl, rfl, trivial⟩, ⟨_, by rw [hs3]; rfl⟩, rfl⟩
  · rw [o3] at hW
    refine ⟨_, ltN (show ¬ op < 0 by omega), ?_⟩
    refine ⟨_, geN (show ¬ op ≥ (wordsR.length : Nat) by omega), ?_⟩
    refine ⟨_, idxV (j := op.toNat) hW (show op = (op.toNat : Nat) by omega) rfl rfl rfl, ?_⟩
    refine .inr (.inr (.inr (.inl ⟨_, _, wr_fst hfst rfl (by rw [hbt]) hle1, ?_⟩)))
    refine ⟨_, CallR.mk1 hE2 rfl rfl, ?_⟩
    by_cases h4 : op = 4
    · have ht : tailI ⟨op, n, nm⟩ = 32 :: nm.data.toList := by unfold tailI; dsimp only; rw [if_pos h4]
      rw [ht] at hs03 hle2
      have hcat : (⟨#[32]⟩ : ByteArray).size + nm.size ≤ 9223372036854775807 := by
        have e1 : nm.data.toList.length = nm.size := by simp
        have e2 : (⟨#[32]⟩ : ByteArray).size = 1 := rfl
        simp only [List.length_append, List.length_cons] at hle2
        omega
      refine ⟨_, eqT h4, ?_⟩
      refine ⟨_, Lx.catL (x := ⟨#[32]⟩) (y := nm) (s := B (32 :: nm.data.toList)) rfl hcat, ?_⟩
      refine .inr (.inr (.inr (.inl ⟨_, _, wr_to (u := s0 ++ wordO op ++ 32 :: nm.data.toList) rfl (by rw [hbt]) hle2, ?_⟩)))
      refine .inr (.inr (.inr (.inl ⟨_, _, wr_to (u := s3) rfl (by rw [hs03]; first | done | rfl) hle, ?_⟩)))
      refine ⟨_, addV rfl (by omega) (by omega), ?_⟩
      exact ⟨j + 1, hjl, by omega, ⟨rfl, rfl, rfl, rfl, rfl, trivial⟩, ⟨_, by rw [hs3]; rfl⟩, rfl⟩
    · refine ⟨_, eqN h4, ?_⟩
      by_cases h0 : op > 0
      · refine ⟨_, gtT h0, ?_⟩
        by_cases hh : hi > 0
        · rw [decide_eq_true hh] at hnum
          have ht : tailI ⟨op, n, nm⟩ = 32 :: intL n := by unfold tailI; dsimp only; rw [if_neg h4, hnum, if_pos rfl]
          rw [ht] at hs03 hle2
          refine ⟨_, gtT hh, ?_⟩
          refine ⟨_, CallR.mk1 hN rfl rfl, ?_⟩
          refine ⟨_, Lx.catB (a := [32]) (b := intL n) (by simp only [List.length_append, List.length_cons] at hle2; simp; omega), ?_⟩
          refine .inr (.inr (.inr (.inl ⟨_, _, wr_to (u := s0 ++ wordO op ++ 32 :: intL n) rfl (by rw [hbt]; rfl) hle2, ?_⟩)))
          refine .inr (.inr (.inr (.inl ⟨_, _, wr_to (u := s3) rfl (by rw [hs03]; first | done | rfl) hle, ?_⟩)))
          refine ⟨_, addV rfl (by omega) (by omega), ?_⟩
          exact ⟨j + 1, hjl, by omega, ⟨rfl, rfl, rfl, rfl, rfl, trivial⟩, ⟨_, by rw [hs3]; rfl⟩, rfl⟩
        · rw [decide_eq_false hh] at hnum
          have ht : tailI ⟨op, n, nm⟩ = [] := by unfold tailI; dsimp only; rw [if_neg h4, hnum]; rfl
          rw [ht, List.append_nil] at hs03
          refine ⟨_, gtN hh, ?_⟩
          refine .inr (.inr (.inr (.inl ⟨_, _, wr_to (u := s3) rfl (by rw [hs03]; first | done | rfl) hle, ?_⟩)))
          refine ⟨_, addV rfl (by omega) (by omega), ?_⟩
          exact ⟨j + 1, hjl, by omega, ⟨rfl, rfl, rfl, rfl, rfl, trivial⟩, ⟨_, by rw [hs3]; rfl⟩, rfl⟩
      · have hop : op = 0 := by omega
        have ht : tailI ⟨op, n, nm⟩ = [] := by rw [hop]; rfl
        rw [ht, List.append_nil] at hs03
        refine ⟨_, gtN h0, ?_⟩
        refine .inr (.inr (.inr (.inl ⟨_, _, wr_to (u := s3) rfl (by rw [hs03]; first | done | rfl) hle, ?_⟩)))
        refine ⟨_, addV rfl (by omega) (by omega), ?_⟩
        exact ⟨j + 1, hjl, by omega, ⟨rfl, rfl, rfl, rfl, rfl, trivial⟩, ⟨_, by rw [hs3]; rfl⟩, rfl⟩
end Go.Proofs.YtadpifnlkmeifaaDoor.Cd

/- hagglerref10.Text. -/
namespace Go.Proofs.YtadpifnlkmeifaaDoor.Cd
open Go Go.RowKit Go.Proofs.YtadpifnlkmeifaaDoor.Pm Go.Proofs.YtadpifnlkmeifaaDoor.Pl
set_option linter.unusedVariables false
set_option maxHeartbeats 4000000
set_option maxRecDepth 8000
end Go.Proofs.YtadpifnlkmeifaaDoor.Cd

/- hagglerref10.Compile; hagglerlaw10: pick, many, awake. -/
namespace Go.Proofs.YtadpifnlkmeifaaDoor.Cd
open Go Go.RowKit Go.Proofs.YtadpifnlkmeifaaDoor.Pm Go.Proofs.YtadpifnlkmeifaaDoor.Pl
set_option linter.unusedVariables false
set_option maxHeartbeats 4000000
set_option maxRecDepth 8000
theorem pick10_ok (c n : Int) (hc : I64 c) (hn : 0 < n) : Ok E 22 [] [pI c, pI n] (pI (pk c n)) [] := by
  obtain ⟨h0, h1⟩ := hc
  refine Ok.enter hE Tryd.func22 rfl (by decide +kernel) (by kernel_rfl) rfl rfl (Nat.le_of_ble_eq_true rfl) rfl ?_
  by_cases hneg : c < 0
  · refine ⟨_, ltT hneg, ?_⟩
    refine ⟨_, addV rfl (by omega) (by omega), ?_⟩
    refine ⟨_, negV rfl (by omega) (by omega), ?_⟩
    refine ⟨_, remV (by omega) rfl, ?_⟩
    exact Ret.mk _ rfl (by show PV.c _ = _; rw [pk, if_pos hneg]) rfl
  · refine ⟨_, ltN hneg, ?_⟩
    refine ⟨_, remV (by omega) rfl, ?_⟩
    exact Ret.mk _ rfl (by show PV.c _ = _; rw [pk, if_neg hneg]) rfl
theorem manyL_app : ∀ (l m : List Ex) (q : Int), manyL (l ++ m) q = manyL l q + manyL m q
  | [], m, q => by simp [manyL]
  | x :: l, m, q => by rw [List.cons_append, manyL, manyL, manyL_app l m]; omega
theorem manyL_take {l : List Ex} {j : Nat} {x : Ex} (q : Int) (h : l[j]? = some x) : manyL (l.take (j + 1)) q = manyL (l.take j) q + manyF x q := by
  rw [take_snoc h, manyL_app, manyL, manyL]; omega
mutual
theorem many_pos : ∀ (x : Ex) (q : Int), 0 ≤ manyF x q ∧ manyF x q ≤ size x
  | ⟨k, n, nm, l⟩, q => by have := manyL_pos l q; rw [manyF, size]; split <;> omega
theorem manyL_pos : ∀ (l : List Ex) (q : Int), 0 ≤ manyL l q ∧ manyL l q ≤ sizeL l
  | [], q => by simp [manyL, sizeL]
  | x :: l, q => by have := many_pos x q; have := manyL_pos l q; rw [manyL, sizeL]; omega
end
theorem many_ok (q : Int) : ∀ (x : Ex), size x ≤ 9223372036854775807 → Ok E 20 [] [pE x, pI q] (pI (manyF x q)) []
  | ⟨k, n, nm, l⟩, h => by
    have h' : 1 + sizeL l ≤ 9223372036854775807 := by rw [size] at h; exact h
    have hll := sizeL_len l
    have hel := enc_len l
    obtain ⟨z, hz⟩ : ∃ z : Int, (if k = q then 1 else 0) = z := ⟨_, rfl⟩
    have hz1 : 0 ≤ z ∧ z ≤ 1 := by rw [← hz]; split <;> omega
    rw [manyF, hz]
    have main : ∀ (f : Nat → PV), True := fun _ => trivial
    refine Ok.enter hE Tryd.func20 rfl (by decide +kernel) (by kernel_rfl) rfl rfl (Nat.le_of_ble_eq_true rfl) rfl ?_
    by_cases hk : k = q
    · rw [if_pos hk] at hz
      subst hz
      refine ⟨_, eqT hk, ?_⟩
      refine Loop.run (α := Nat) (fun j => j ≤ l.length) (fun j => [(1, pI q), (2, .ptr 0 0), (5, pI (1 + manyL (l.take j) q)), (6, pI j)]) (fun j => [(cellsE ⟨k, n, nm, l⟩).map .c]) (fun _ => []) (fun j => l.length - j) 0 (Nat.zero_le _) ⟨⟨rfl, rfl, ?_, rfl, trivial⟩, rfl, rfl⟩ ?_
      · show PV.c _ = _; rw [List.take_zero, manyL]; rfl
      intro j f hj
      by_cases hjl : j < l.length
      · obtain ⟨y, hy⟩ : ∃ y, l[j]? = some y := ⟨_, List.getElem?_eq_getElem hjl⟩
        have hst := manyL_take q hy
        have hle := sizeL_le l (j + 1)
        have hsy := sizeL_take l j y hy
        have hp := manyL_pos (l.take j) q
        have hp2 := manyL_pos (l.take (j + 1)) q
        have hpy := many_pos y q
        have hps := sizeL_pos (l.take j)
        refine ⟨_, ltT (show (j : Int) < (encL l).length by omega), ?_⟩
        refine ⟨_, idxV (j := j) (enc_get hy) rfl rfl rfl rfl, ?_⟩
        refine ⟨_, CallR.mk1 (many_ok q y (by omega)) rfl rfl, ?_⟩
        refine ⟨_, addV (z := 1 + manyL (l.take (j + 1)) q) (by omega) (by omega) (by omega), ?_⟩
        refine ⟨_, addV rfl (by omega) (by omega), ?_⟩
        exact ⟨j + 1, hjl, by omega, ⟨rfl, rfl, rfl, rfl, trivial⟩, rfl, rfl⟩
      · refine ⟨_, ltN (show ¬ (j : Int) < (encL l).length by omega), ?_⟩
        have : j = l.length := by omega
        exact Ret.mk _ rfl (by show PV.c _ = _; rw [this, List.take_length]) rfl
    · rw [if_neg hk] at hz
      subst hz
      refine ⟨_, eqN hk, ?_⟩
      refine Loop.run (α := Nat) (fun j => j ≤ l.length) (fun j => [(1, pI q), (2, .ptr 0 0), (5, pI (0 + manyL (l.take j) q)), (6, pI j)]) (fun j => [(cellsE ⟨k, n, nm, l⟩).map .c]) (fun _ => []) (fun j => l.length - j) 0 (Nat.zero_le _) ⟨⟨rfl, rfl, ?_, rfl, trivial⟩, rfl, rfl⟩ ?_
      · show PV.c _ = _; rw [List.take_zero, manyL]; rfl
      intro j f hj
      by_cases hjl : j < l.length
      · obtain ⟨y, hy⟩ : ∃ y, l[j]? = some y := ⟨_, List.getElem?_eq_getElem hjl⟩
        have hst := manyL_take q hy
        have hle := sizeL_le l (j + 1)
        have hsy := sizeL_take l j y hy
        have hp := manyL_pos (l.take j) q
        have hp2 := manyL_pos (l.take (j + 1)) q
        have hpy := many_pos y q
        have hps := sizeL_pos (l.take j)
        refine ⟨_, ltT (show (j : Int) < (encL l).length by omega), ?_⟩
        refine ⟨_, idxV (j := j) (enc_get hy) rfl rfl rfl rfl, ?_⟩
        refine ⟨_, CallR.mk1 (many_ok q y (by omega)) rfl rfl, ?_⟩
        refine ⟨_, addV (z := 0 + manyL (l.take (j + 1)) q) (by omega) (by omega) (by omega), ?_⟩
        refine ⟨_, addV rfl (by omega) (by omega), ?_⟩
        exact ⟨j + 1, hjl, by omega, ⟨rfl, rfl, rfl, rfl, trivial⟩, rfl, rfl⟩
      · refine ⟨_, ltN (show ¬ (j : Int) < (encL l).length by omega), ?_⟩
        have : j = l.length := by omega
        exact Ret.mk _ rfl (by show PV.c _ = _; rw [this, List.take_length]) rfl
termination_by x => SizeOf.sizeOf x
decreasing_by
  all_goals
    have := List.sizeOf_lt_of_mem (List.mem_of_getElem? hy)
    simp only [Go.Proofs.YtadpifnlkmeifaaDoor.Q.S27.mk.sizeOf_spec]
    omega
def awL : List Ins := [⟨2, 0, ⟨#[]⟩⟩, ⟨5, 1, ⟨#[]⟩⟩, ⟨9, 4, ⟨#[]⟩⟩, ⟨1, 999, ⟨#[]⟩⟩]
theorem xE_right : isRight xE = true := by
  obtain ⟨x1, x2, x3, x4, x5⟩ := x_facts
  unfold isRight; rw [x5, x2, x4]; rfl
theorem zE_right : isRight zE = false := by
  obtain ⟨z1, z2, z3⟩ := z_facts
  unfold isRight; rw [z3]; rfl
theorem awL_code : codeF xE 0 = awL := by
  simp [xE, lowE, codeF, codesF, opF', Pm.opsL, awL]
  rfl
theorem awL_text : textC awL = [108, 111, 119, 101, 115, 116, 10, 108, 101, 115, 115, 32, 49, 10, 101, 108, 115, 101, 32, 52, 10, 112, 117, 115, 104, 32, 57, 57, 57, 10] := by decide +kernel
theorem aw_comp : compF xE = awL ∧ compE xE = 0 ∧ compF zE = [] ∧ compE zE = 1 := by
  unfold compF compE
  rw [xE_right, zE_right, if_pos rfl, if_pos rfl, if_neg (by simp), if_neg (by simp), awL_code]
  exact ⟨rfl, rfl, rfl, rfl⟩
theorem awL_right : rightF awL = true := by
  rw [← awL_code]
  obtain ⟨hf, h2, -⟩ := right_open xE_right
  exact compiled_right hf h2
theorem aw13 : rightF [⟨13, 0, ⟨#[]⟩⟩] = false := by decide +kernel
theorem aw14 : rightF [⟨14, 0, ⟨#[]⟩⟩] = false := by decide +kernel
theorem awake10_ok : Ok E 8 [] [] (pB true) [] := by
  obtain ⟨x1, x2, -⟩ := x_facts
  obtain ⟨z1, z2, -⟩ := z_facts
  obtain ⟨c1, c2, c3, c4⟩ := aw_comp
  have hC := Compile_ok xE x1 (by rw [x2]; decide)
  have hZ := Compile_ok zE z1 (by rw [z2]; decide)
  rw [c1, c2] at hC
  rw [c3, c4] at hZ
  have hT := Text10_ok awL (by decide) (by rw [awL_text]; decide) (by intro x hx; unfold awL at hx; simp at hx; rcases hx with rfl | rfl | rfl | rfl <;> exact ⟨by decide, by decide⟩)
  rw [awL_text] at hT
  have hR := Right10_ok awL (by decide)
  rw [awL_right] at hR
  have hA := Right10_ok [⟨13, 0, ⟨#[]⟩⟩] (by decide)
  rw [aw13] at hA
  have hB := Right10_ok [⟨14, 0, ⟨#[]⟩⟩] (by decide)
  rw [aw14] at hB
  have wx := Wk.aggW wk_xE
  have wz := Wk.aggW (wk_leaf 0 0 e0)
  refine Ok.enter hE Tryd.func8 rfl (by decide +kernel) (by kernel_rfl) rfl rfl (Nat.le_of_ble_eq_true rfl) rfl ?_
  refine ⟨_, ⟨_, rfl, rfl⟩, ?_⟩
  refine ⟨_, ⟨_, rfl, rfl⟩, ?_⟩
  refine ⟨_, CallR.mkW hC (.cons wx .nil) rfl rfl, ?_⟩
  refine ⟨_, CallR.mkW hZ (.cons wz .nil) rfl rfl, ?_⟩
  refine ⟨_, CallR.mk1 hT rfl rfl, ?_⟩
  refine ⟨_, strEqV (c := true) (by rw [toList_data, toList_data]; decide +kernel), ?_⟩
  refine ⟨_, eqT rfl, ?_⟩
  refine ⟨_, eqT rfl, ?_⟩
  refine ⟨_, CallR.mk1 hR rfl rfl, ?_⟩
  refine ⟨_, ⟨_, rfl, rfl⟩, ?_⟩
  refine ⟨_, CallR.mk1 hA rfl rfl, ?_⟩
  refine ⟨_, ⟨_, rfl, rfl⟩, ?_⟩
  refine ⟨_, CallR.mk1 hB rfl rfl, ?_⟩
  exact Ret.mk _ rfl rfl rfl
end Go.Proofs.YtadpifnlkmeifaaDoor.Cd

/- The statements CodeSize, CodeUnlike, CodeLeads, CodeParts, in the pure machine. -/
namespace Go.Proofs.YtadpifnlkmeifaaDoor.Cd
open Go Go.RowKit Go.Proofs.YtadpifnlkmeifaaDoor.Pm Go.Proofs.YtadpifnlkmeifaaDoor.Pl
set_option linter.unusedVariables false
set_option maxHeartbeats 4000000
set_option maxRecDepth 8000
theorem comp_yes {x : Ex} (h : isRight x = true) : compF x = codeF x 0 ∧ compE x = 0 := by unfold compF compE; rw [h, if_pos rfl, if_pos rfl]; exact ⟨rfl, rfl⟩
theorem comp_no {x : Ex} (h : isRight x = false) : compF x = [] ∧ compE x = 1 := by unfold compF compE; rw [h, if_neg (by simp), if_neg (by simp)]; exact ⟨rfl, rfl⟩
/-- what is known of a strategy -/
structure Str (x : Ex) : Prop where
  rng : Q.rngE x = true
  size : size x ≤ 1000000
theorem str_of (raw : List Int) (h : ∀ a ∈ raw, I64 a) : Str (stratF raw) := by
  have := strat_small raw h
  exact ⟨this.rng, by have := this.size; omega⟩
/-- what is known of what a right one is compiled to -/
structure Cmp (x : Ex) (l : List Ins) : Prop where
  code : codeF x 0 = l
  right : rightF l = true
  len : (l.length : Int) = Pm.size x + manyF x 10
  small : l.length ≤ 4000
  fine : isFine 32 false x = true
theorem cmp_of {x : Ex} (h : isRight x = true) : Cmp x (codeF x 0) := by
  obtain ⟨hf, h2, -⟩ := right_open h
  exact ⟨rfl, compiled_right hf h2, codeF_len x 32 false 0 hf, codeF_small 0 hf h2, hf⟩
theorem CodeSize_ok (raw : List Int) (h1 : ∀ a ∈ raw, I64 a) (l1 : raw.length ≤ 17592186043904) : Ok E 4 [] [.c (.row (encN raw))] (pB true) [] := by
  have hS := strat_ok raw h1 (by omega)
  obtain ⟨r1, r2⟩ := str_of raw h1
  obtain ⟨x, hx⟩ : ∃ x, stratF raw = x := ⟨_, rfl⟩
  rw [hx] at hS r1 r2
  have hC := Compile_ok x r1 (by omega)
  have hR := right_ok x r1 (by omega)
  have hZ := Size_ok x (by omega)
  have hM := many_ok 10 x (by omega)
  rcases Bool.eq_false_or_eq_true (isRight x) with h | h
  · obtain ⟨c1, c2⟩ := comp_yes h
    obtain ⟨q1, q2, q3, q4, q5⟩ := cmp_of h
    rw [c1, c2] at hC
    obtain ⟨l, hl⟩ : ∃ l, codeF x 0 = l := ⟨_, rfl⟩
    rw [hl] at hC q2 q3 q4
    have hW := Right10_ok l (by omega)
    rw [q2] at hW
    have hrl := rowI_len l
    have hm := many_pos x 10
    refine Ok.enter hE Tryd.func4 rfl (by decide +kernel) (by kernel_rfl) rfl rfl (Nat.le_of_ble_eq_true rfl) rfl ?_
    refine ⟨_, CallR.mk1 awake10_ok rfl rfl, ?_⟩
    refine ⟨_, CallR.mk1 hS rfl rfl, ?_⟩
    refine ⟨_, CallR.mk1 hC rfl rfl, ?_⟩
    refine ⟨_, neN rfl, ?_⟩
    refine ⟨_, CallR.mk1 hW rfl rfl, ?_⟩
    refine ⟨_, CallR.mk1 hZ rfl rfl, ?_⟩
    refine ⟨_, CallR.mk1 hM rfl rfl, ?_⟩
    refine ⟨_, addV rfl (by omega) (by omega), ?_⟩
    refine ⟨_, eqT (show ((rowI l).length : Int) = _ by rw [hrl]; exact q3), ?_⟩
    exact Ret.mk _ rfl rfl rfl
  · obtain ⟨c1, c2⟩ := comp_no h
    rw [c1, c2] at hC
    rw [h] at hR
    refine Ok.enter hE Tryd.func4 rfl (by decide +kernel) (by kernel_rfl) rfl rfl (Nat.le_of_ble_eq_true rfl) rfl ?_
    refine ⟨_, CallR.mk1 awake10_ok rfl rfl, ?_⟩
    refine ⟨_, CallR.mk1 hS rfl rfl, ?_⟩
    refine ⟨_, CallR.mk1 hC rfl rfl, ?_⟩
    refine ⟨_, neT (show (1 : Int) ≠ 0 by decide), ?_⟩
    refine ⟨_, CallR.mk1 hR rfl rfl, ?_⟩
    exact Ret.mk _ rfl rfl rfl
/-- texts of compiled code -/
theorem text_small {l : List Ins} {i : Nat} {z : Int} (hz : z ≤ 5000) (h : rightL l i z = true) : (textC l).length ≤ 64 * l.length ∧ ∀ x ∈ l, I64 x.n := by
  induction l generalizing i with
  | nil => simp [textC]
  | cons x l ih =>
    rw [rightL, Bool.and_eq_true] at h
    obtain ⟨a1, a2, a3, a4, a5, a6, a7⟩ := right_facts hz h.1
    obtain ⟨b1, b2⟩ := ih h.2
    refine ⟨?_, fun y hy => ?_⟩
    · have hw : ∀ op : Int, (wordO op).length ≤ 6 := by
        intro op
        unfold wordO
        rw [List.getD_eq_getElem?_getD]
        cases hq : wordsO[(opW op).toNat]? with
        | none => simp
        | some w =>
          have hm := List.mem_of_getElem? hq
          have : ∀ w ∈ wordsO, w.length ≤ 6 := by decide
          exact this w hm
      have hi : (intL x.n).length ≤ 20 := by
        unfold intL
        rw [if_neg (by omega)]
        exact Lx.digs_len _
      have hnm : x.op = 4 → x.nm.data.toList.length ≤ 12 := by
        intro h4
        have := a6 h4
        unfold isName at this
        split at this
        · cases this
        · rename_i c l' hl
          simp only [Bool.and_eq_true, decide_eq_true_eq] at this
          have h12 := this.1
          have e1 : x.nm.data.toList.length = x.nm.size := by simp
          omega
      rw [textC, lineI, List.length_append, List.length_append, List.length_append]
      have := hw x.op
      unfold tailI
      split
      · rename_i h4
        have := hnm h4
        simp only [List.length_cons, List.length_nil]; omega
      · split
        · simp only [List.length_cons, List.length_nil]; omega
        · simp only [List.length_cons, List.length_nil]; omega
    · rcases List.mem_cons.1 hy with rfl | hy
      · exact ⟨by omega, by omega⟩
      · exact b2 y hy
theorem cmp_text {x : Ex} {l : List Ins} (h : Cmp x l) : Ok E 14 [] [.c (.row (rowI l))] (pS (B (textC l))) [] := by
  have hr := h.right
  unfold rightF at hr
  rw [Bool.and_eq_true] at hr
  have := of_decide_eq_true hr.2
  have hl := h.small
  obtain ⟨a, b⟩ := text_small (z := l.length) (by omega) hr.1
  exact Text10_ok l (by omega) (by omega) b
theorem CodeUnlike_ok (one : List Int) (h1 : ∀ a ∈ one, I64 a) (l1 : one.length ≤ 17592186043904) (two : List Int) (h2 : ∀ a ∈ two, I64 a) (l2 : two.length ≤ 17592186043904) : Ok E 5 [] [.c (.row (encN one)), .c (.row (encN two))] (pB true) [] := by
  have hS := strat_ok one h1 (by omega)
  have hT := strat_ok two h2 (by omega)
  obtain ⟨r1, r2⟩ := str_of one h1
  obtain ⟨s1, s2⟩ := str_of two h2
  obtain ⟨x, hx⟩ : ∃ x, stratF one = x := ⟨_, rfl⟩
  obtain ⟨y, hy⟩ : ∃ y, stratF two = y := ⟨_, rfl⟩
  rw [hx] at hS r1 r2
  rw [hy] at hT s1 s2
  have hC := Compile_ok x r1 (by omega)
  have hD := Compile_ok y s1 (by omega)
  have hR := right_ok x r1 (by omega)
  have hQ := right_ok y s1 (by omega)
  rcases Bool.eq_false_or_eq_true (isRight x) with h | h
  · obtain ⟨c1, c2⟩ := comp_yes h
    have hcx := cmp_of h
    rw [c1, c2] at hC
    rcases Bool.eq_false_or_eq_true (isRight y) with g | g
    · obtain ⟨d1, d2⟩ := comp_yes g
      have hcy := cmp_of g
      rw [d1, d2] at hD
      have hsame := same_code hcx.fine hcy.fine
      obtain ⟨l, hl⟩ : ∃ l, codeF x 0 = l := ⟨_, rfl⟩
      obtain ⟨m, hm⟩ : ∃ m, codeF y 0 = m := ⟨_, rfl⟩
      rw [hl] at hC hcx hsame
      rw [hm] at hD hcy hsame
      have hA := Same10_ok l m (by have := hcx.small; omega)
      rw [hsame] at hA
      have hX := cmp_text hcx
      have hY := cmp_text hcy
      have hE7 := rSame_ok x y (by omega)
      obtain ⟨b, hb⟩ : ∃ b, Q.sameE x y = b := ⟨_, rfl⟩
      rw [hb] at hA hE7 hsame
      have htx : ((B (textC l)).toList == (B (textC m)).toList) = b := by
        rw [← hsame, Bool.eq_iff_iff, beq_iff_eq]
        constructor
        · intro h
          have h : textC l = textC m := by
            have := toList_inj h
            have h2 : (B (textC l)).data.toList = (B (textC m)).data.toList := by rw [this]
            exact h2
          rw [right_textC_inj hcx.right hcy.right h]
          exact eqIs_refl _
        · intro h
          rw [eqIs_eq h]
      refine Ok.enter hE Tryd.func5 rfl (by decide +kernel) (by kernel_rfl) rfl rfl (Nat.le_of_ble_eq_true rfl) rfl ?_
      refine ⟨_, CallR.mk1 awake10_ok rfl rfl, ?_⟩
      refine ⟨_, CallR.mk1 hS rfl rfl, ?_⟩
      refine ⟨_, CallR.mk1 hT rfl rfl, ?_⟩
      refine ⟨_, CallR.mk1 hC rfl rfl, ?_⟩
      refine ⟨_, CallR.mk1 hD rfl rfl, ?_⟩
      refine ⟨_, neN rfl, ?_⟩
      refine ⟨_, neN rfl, ?_⟩
      refine ⟨_, CallR.mk1 hE7 rfl rfl, ?_⟩
      refine ⟨_, CallR.mk1 hA rfl rfl, ?_⟩
      refine ⟨_, Lx.eqBT (by cases b <;> rfl), ?_⟩
      refine ⟨_, CallR.mk1 hX rfl rfl, ?_⟩
      refine ⟨_, CallR.mk1 hY rfl rfl, ?_⟩
      refine ⟨_, strEqV htx, ?_⟩
      refine ⟨_, Lx.eqBT (by cases b <;> rfl), ?_⟩
      exact Ret.mk _ rfl rfl rfl
    · obtain ⟨d1, d2⟩ := comp_no g
      rw [d1, d2] at hD
      rw [h] at hR
      rw [g] at hQ
      refine Ok.enter hE Tryd.func5 rfl (by decide +kernel) (by kernel_rfl) rfl rfl (Nat.le_of_ble_eq_true rfl) rfl ?_
      refine ⟨_, CallR.mk1 awake10_ok rfl rfl, ?_⟩
      refine ⟨_, CallR.mk1 hS rfl rfl, ?_⟩
      refine ⟨_, CallR.mk1 hT rfl rfl, ?_⟩
      refine ⟨_, CallR.mk1 hC rfl rfl, ?_⟩
      refine ⟨_, CallR.mk1 hD rfl rfl, ?_⟩
      refine ⟨_, neN rfl, ?_⟩
      refine ⟨_, neT (show (1 : Int) ≠ 0 by decide), ?_⟩
      refine ⟨_, CallR.mk1 hR rfl rfl, ?_⟩
      refine ⟨_, CallR.mk1 hQ rfl rfl, ?_⟩
      exact Ret.mk _ rfl rfl rfl
  · obtain ⟨c1, c2⟩ := comp_no h
    rw [c1, c2] at hC
    rw [h] at hR
    refine Ok.enter hE Tryd.func5 rfl (by decide +kernel) (by kernel_rfl) rfl rfl (Nat.le_of_ble_eq_true rfl) rfl ?_
    refine ⟨_, CallR.mk1 awake10_ok rfl rfl, ?_⟩
    refine ⟨_, CallR.mk1 hS rfl rfl, ?_⟩
    refine ⟨_, CallR.mk1 hT rfl rfl, ?_⟩
    refine ⟨_, CallR.mk1 hC rfl rfl, ?_⟩
    refine ⟨_, CallR.mk1 hD rfl rfl, ?_⟩
    refine ⟨_, neT (show (1 : Int) ≠ 0 by decide), ?_⟩
    refine ⟨_, CallR.mk1 hR rfl rfl, ?_⟩
    exact Ret.mk _ rfl rfl rfl
theorem row_take (l : List Ins) (k : Nat) : rowI (l.take k) = ((rowI l).take k).drop 0 := by simp [rowI, List.map_take]
theorem far_step {l : List Ins} {j k : Nat} {x : Ins} (hx : l[j]? = some x) : (l.take (min k (j + 1))).foldl farS 0 = if j < k then farS ((l.take (min k j)).foldl farS 0) x else (l.take (min k j)).foldl farS 0 := by
  split
  · rw [show min k (j + 1) = j + 1 by omega, show min k j = j by omega, List.take_add_one, hx, List.foldl_append]; rfl
  · rw [show min k (j + 1) = k by omega, show min k j = k by omega]
theorem CodeLeads_ok (raw : List Int) (h1 : ∀ a ∈ raw, I64 a) (l1 : raw.length ≤ 17592186043904) (at_ : Int) (ha : I64 at_) : Ok E 7 [] [.c (.row (encN raw)), pI at_] (pB true) [] := by
  have hS := strat_ok raw h1 (by omega)
  obtain ⟨r1, r2⟩ := str_of raw h1
  obtain ⟨x, hx⟩ : ∃ x, stratF raw = x := ⟨_, rfl⟩
  rw [hx] at hS r1 r2
  have hC := Compile_ok x r1 (by omega)
  have hR := right_ok x r1 (by omega)
  rcases Bool.eq_false_or_eq_true (isRight x) with h | h
  rotate_left
  · obtain ⟨c1, c2⟩ := comp_no h
    rw [c1, c2] at hC
    rw [h] at hR
    refine Ok.enter hE Tryd.func7 rfl (by decide +kernel) (by kernel_rfl) rfl rfl (Nat.le_of_ble_eq_true rfl) rfl ?_
    refine ⟨_, CallR.mk1 awake10_ok rfl rfl, ?_⟩
    refine ⟨_, CallR.mk1 hS rfl rfl, ?_⟩
    refine ⟨_, CallR.mk1 hC rfl rfl, ?_⟩
    refine ⟨_, neT (show (1 : Int) ≠ 0 by decide), ?_⟩
    refine ⟨_, CallR.mk1 hR rfl rfl, ?_⟩
    exact Ret.mk _ rfl rfl rfl
  obtain ⟨c1, c2⟩ := comp_yes h
  have hcx := cmp_of h
  rw [c1, c2] at hC
  obtain ⟨l, hl⟩ : ∃ l, codeF x 0 = l := ⟨_, rfl⟩
  rw [hl] at hC hcx
  have hrl := rowI_len l
  have hsm := hcx.small
  have hP := pick10_ok at_ ((l.length : Int) + 1) ha (by omega)
  have hpk := pk_rng (c := at_) (n := (l.length : Int) + 1) (by omega)
  obtain ⟨k, hk⟩ : ∃ k : Nat, pk at_ ((l.length : Int) + 1) = k := ⟨(pk at_ ((l.length : Int) + 1)).toNat, by omega⟩
  rw [hk] at hP hpk
  have hW := Right10_ok (l.take k) (by simp; omega)
  rw [right_take hcx.right k (by omega), row_take] at hW
  have hlead : ∀ (j : Nat) (y : Ins), l[j]? = some y → isLead y.op = true → (j : Int) < y.n ∧ y.n ≤ l.length := fun j y hy hly => by
    have hr := hcx.right
    unfold rightF at hr
    rw [Bool.and_eq_true] at hr
    have := right_at l 0 l.length hr.1 j y hy
    rw [Nat.zero_add] at this
    exact lead_at this hly
  refine Ok.enter hE Tryd.func7 rfl (by decide +kernel) (by kernel_rfl) rfl rfl (Nat.le_of_ble_eq_true rfl) rfl ?_
  refine ⟨_, CallR.mk1 awake10_ok rfl rfl, ?_⟩
  refine ⟨_, CallR.mk1 hS rfl rfl, ?_⟩
  refine ⟨_, CallR.mk1 hC rfl rfl, ?_⟩
  refine ⟨_, neN rfl, ?_⟩
  refine ⟨_, addV (z := (l.length : Int) + 1) (by rw [hrl]) (by omega) (by omega), ?_⟩
  refine ⟨_, CallR.mk1 hP rfl rfl, ?_⟩
  refine Loop.run (α := Nat) (fun j => j ≤ l.length) (fun j => [(5, pB true), (7, .c (.row (rowI l))), (9, pI k), (10, pI ((l.take (min k j)).foldl farS 0)), (11, pI j)]) (fun j => [(cellsE x).map .c]) (fun _ => []) (fun j => l.length - j) 0 (Nat.zero_le _) ⟨⟨rfl, rfl, rfl, ?_, rfl, trivial⟩, rfl, rfl⟩ ?_
  · rw [Nat.min_zero]; rfl
  rintro j f hj
  by_cases hjl : j < l.length
  rotate_left
  · have hmin : min k j = k := by omega
    rw [hmin]
    obtain ⟨b, hb⟩ : ∃ b, decide ((l.take k).foldl farS 0 ≤ (k : Int)) = b := ⟨_, rfl⟩
    rw [hb] at hW
    refine ⟨_, ltN (by omega), ?_⟩
    refine ⟨_, sliceRV 0 k rfl rfl rfl rfl ⟨Nat.zero_le _, by omega⟩ (rowI_three _), ?_⟩
    refine ⟨_, CallR.mk1 hW rfl rfl, ?_⟩
    refine ⟨_, leV hb, ?_⟩
    refine ⟨_, Lx.eqBT (by cases b <;> rfl), ?_⟩
    exact Ret.mk _ rfl rfl rfl
  obtain ⟨y, hy⟩ : ∃ y, l[j]? = some y := ⟨_, List.getElem?_eq_getElem hjl⟩
  have hst := far_step (k := k) hy
  have hld := hlead j y hy
  obtain ⟨F, hF⟩ : ∃ F, (l.take (min k j)).foldl farS 0 = F := ⟨_, rfl⟩
  rw [hF] at hst ⊢
  obtain ⟨op, n, nm⟩ := y
  rw [show farS F ⟨op, n, nm⟩ = if isLead op then max F n else F from rfl] at hst
  dsimp only at hld
  refine ⟨_, ltT (by omega), ?_⟩
  refine ⟨_, idxV (j := j) (rowI_get hy) rfl rfl rfl rfl, ?_⟩
  have hop : op = 9 ∨ (op ≠ 9 ∧ op = 12) ∨ (op ≠ 9 ∧ op ≠ 12 ∧ op = 13) ∨ (op ≠ 9 ∧ op ≠ 12 ∧ op ≠ 13) := by omega
  rcases hop with o | ⟨m1, o⟩ | ⟨m1, m2, o⟩ | ⟨m1, m2, m3⟩
  · have hl1 : isLead op = true := by unfold isLead; exact decide_eq_true (by omega)
    rw [hl1, if_pos rfl] at hst
    obtain ⟨q1, q2⟩ := hld hl1
    refine ⟨_, eqT o, ?_⟩
    refine ⟨_, idxV (j := j) (rowI_get hy) rfl rfl rfl rfl, ?_⟩
    refine ⟨_, leN (show ¬ n ≤ (j : Int) by omega), ?_⟩
    refine ⟨_, idxV (j := j) (rowI_get hy) rfl rfl rfl rfl, ?_⟩
    refine ⟨_, gtN (show ¬ n > ((rowI l).length : Int) by omega), ?_⟩
    by_cases hjk : j < k
    · rw [if_pos hjk] at hst
      refine ⟨_, ltT (by omega), ?_⟩
      refine ⟨_, idxV (j := j) (rowI_get hy) rfl rfl rfl rfl, ?_⟩
      refine ⟨_, maxV rfl, ?_⟩
      refine ⟨_, addV rfl (by omega) (by omega), ?_⟩
      exact ⟨j + 1, hjl, by omega, ⟨rfl, rfl, rfl, by rw [hst]; rfl, rfl, trivial⟩, rfl, rfl⟩
    · rw [if_neg hjk] at hst
      refine ⟨_, ltN (by omega), ?_⟩
      refine ⟨_, addV rfl (by omega) (by omega), ?_⟩
      exact ⟨j + 1, hjl, by omega, ⟨rfl, rfl, rfl, by rw [hst]; rfl, rfl, trivial⟩, rfl, rfl⟩
  · have hl1 : isLead op = true := by unfold isLead; exact decide_eq_true (by omega)
    rw [hl1, if_pos rfl] at hst
    obtain ⟨q1, q2⟩ := hld hl1
    refine ⟨_, eqN m1, ?_⟩
    refine ⟨_, idxV (j := j) (rowI_get hy) rfl rfl rfl rfl, ?_⟩
    refine ⟨_, eqT o, ?_⟩
    refine ⟨_, idxV (j := j) (rowI_get hy) rfl rfl rfl rfl, ?_⟩
    refine ⟨_, leN (show ¬ n ≤ (j : Int) by omega), ?_⟩
    refine ⟨_, idxV (j := j) (rowI_get hy) rfl rfl rfl rfl, ?_⟩
    refine ⟨_, gtN (show ¬ n > ((rowI l).length : Int) by omega), ?_⟩
    by_cases hjk : j < k
    · rw [if_pos hjk] at hst
      refine ⟨_, ltT (by omega), ?_⟩
      refine ⟨_, idxV (j := j) (rowI_get hy) rfl rfl rfl rfl, ?_⟩
      refine ⟨_, maxV rfl, ?_⟩
      refine ⟨_, addV rfl (by omega) (by omega), ?_⟩
      exact ⟨j + 1, hjl, by omega, ⟨rfl, rfl, rfl, by rw [hst]; rfl, rfl, trivial⟩, rfl, rfl⟩
    · rw [if_neg hjk] at hst
      refine ⟨_, ltN (by omega), ?_⟩
      refine ⟨_, addV rfl (by omega) (by omega), ?_⟩
      exact ⟨j + 1, hjl, by omega, ⟨rfl, rfl, rfl, by rw [hst]; rfl, rfl, trivial⟩, rfl, rfl⟩
  · have hl1 : isLead op = true := by unfold isLead; exact decide_eq_true (by omega)
    rw [hl1, if_pos rfl] at hst
    obtain ⟨q1, q2⟩ := hld hl1
    refine ⟨_, eqN m1, ?_⟩
    refine ⟨_, idxV (j := j) (rowI_get hy) rfl rfl rfl rfl, ?_⟩
    refine ⟨_, eqN m2, ?_⟩
    refine ⟨_, idxV (j := j) (rowI_get hy) rfl rfl rfl rfl, ?_⟩
    refine ⟨_, eqT o, ?_⟩
    refine ⟨_, idxV (j := j) (rowI_get hy) rfl rfl rfl rfl, ?_⟩
    refine ⟨_, leN (show ¬ n ≤ (j : Int) by omega), ?_⟩
    refine ⟨_, idxV (j := j) (rowI_get hy) rfl rfl rfl rfl, ?_⟩
    refine ⟨_, gtN (show ¬ n > ((rowI l).length : Int) by omega), ?_⟩
    by_cases hjk : j < k
    · rw [if_pos hjk] at hst
      refine ⟨_, ltT (by omega), ?_⟩
      refine ⟨_, idxV (j := j) (rowI_get hy) rfl rfl rfl rfl, ?_⟩
      refine ⟨_, maxV rfl, ?_⟩
      refine ⟨_, addV rfl (by omega) (by omega), ?_⟩
      exact ⟨j + 1, hjl, by omega, ⟨rfl, rfl, rfl, by rw [hst]; rfl, rfl, trivial⟩, rfl, rfl⟩
    · rw [if_neg hjk] at hst
      refine ⟨_, ltN (by omega), ?_⟩
      refine ⟨_, addV rfl (by omega) (by omega), ?_⟩
      exact ⟨j + 1, hjl, by omega, ⟨rfl, rfl, rfl, by rw [hst]; rfl, rfl, trivial⟩, rfl, rfl⟩
  · have hl0 : isLead op = false := by unfold isLead; exact decide_eq_false (by omega)
    rw [hl0] at hst
    have hst : (l.take (min k (j + 1))).foldl farS 0 = F := by rw [hst]; split <;> rfl
    refine ⟨_, eqN m1, ?_⟩
    refine ⟨_, idxV (j := j) (rowI_get hy) rfl rfl rfl rfl, ?_⟩
    refine ⟨_, eqN m2, ?_⟩
    refine ⟨_, idxV (j := j) (rowI_get hy) rfl rfl rfl rfl, ?_⟩
    refine ⟨_, eqN m3, ?_⟩
    refine ⟨_, addV rfl (by omega) (by omega), ?_⟩
    exact ⟨j + 1, hjl, by omega, ⟨rfl, rfl, rfl, by rw [hst]; rfl, rfl, trivial⟩, rfl, rfl⟩
end Go.Proofs.YtadpifnlkmeifaaDoor.Cd

/- The statement CodeParts, in the pure machine. -/
namespace Go.Proofs.YtadpifnlkmeifaaDoor.Cd
open Go Go.RowKit Go.Proofs.YtadpifnlkmeifaaDoor.Pm Go.Proofs.YtadpifnlkmeifaaDoor.Pl
set_option linter.unusedVariables false
set_option maxHeartbeats 4000000
set_option maxRecDepth 8000
theorem mv_codes {x y : Ex} (hx : isFine 32 false x = true) (hy : isFine 32 false y = true) : codeF ⟨7, 0, e0, [x, y]⟩ 0 = codeF x 0 ++ (codeF y 0).map (mv (codeF x 0).length) ++ [⟨7, 0, e0⟩] := by
  rw [codeF_leaf _ _ _ _ _ (by decide) (by decide)]
  have := codeF_mv y 32 false 0 (codeF x 0).length hy
  simp only [codesF, List.append_nil]
  rw [this]
  rfl
theorem CodeParts_ok (one : List Int) (h1 : ∀ a ∈ one, I64 a) (l1 : one.length ≤ 17592186043904) (two : List Int) (h2 : ∀ a ∈ two, I64 a) (l2 : two.length ≤ 17592186043904) : Ok E 6 [] [.c (.row (encN one)), .c (.row (encN two))] (pB true) [] := by
  have hS := strat_ok one h1 (by omega)
  have hT := strat_ok two h2 (by omega)
  obtain ⟨r1, r2⟩ := str_of one h1
  obtain ⟨s1, s2⟩ := str_of two h2
  obtain ⟨x, hx⟩ : ∃ x, stratF one = x := ⟨_, rfl⟩
  obtain ⟨y, hy⟩ : ∃ y, stratF two = y := ⟨_, rfl⟩
  rw [hx] at hS r1 r2
  rw [hy] at hT s1 s2
  have hzr : Q.rngE ⟨7, 0, e0, [x, y]⟩ = true := by simp [Q.rngE, Q.rngA, r1, s1]
  have hzs : size ⟨7, 0, e0, [x, y]⟩ ≤ 9223372036854775807 := by rw [size, sizeL, sizeL, sizeL]; omega
  have hC := Compile_ok x r1 (by omega)
  have hD := Compile_ok y s1 (by omega)
  have hZ := Compile_ok ⟨7, 0, e0, [x, y]⟩ hzr hzs
  have hR := right_ok ⟨7, 0, e0, [x, y]⟩ hzr hzs
  have wz : Wk (.agg [.int .i64 7, .int .i64 0, .str e0, .row [cellsE x, cellsE y]]) (pE ⟨7, 0, e0, [x, y]⟩) := wkR rfl
  rcases Bool.eq_false_or_eq_true (isRight ⟨7, 0, e0, [x, y]⟩) with h | h
  rotate_left
  · obtain ⟨c1, c2⟩ := comp_no h
    rw [c1, c2] at hZ
    rw [h] at hR
    refine Ok.enter hE Tryd.func6 rfl (by decide +kernel) (by kernel_rfl) rfl rfl (Nat.le_of_ble_eq_true rfl) rfl ?_
    refine ⟨_, CallR.mk1 awake10_ok rfl rfl, ?_⟩
    refine ⟨_, CallR.mk1 hS rfl rfl, ?_⟩
    refine ⟨_, CallR.mk1 hT rfl rfl, ?_⟩
    refine ⟨_, ⟨_, rfl, rfl⟩, ?_⟩
    refine ⟨_, CallR.mkW hZ (.cons wz .nil) rfl rfl, ?_⟩
    refine ⟨_, CallR.mk1 hC rfl rfl, ?_⟩
    refine ⟨_, CallR.mk1 hD rfl rfl, ?_⟩
    refine ⟨_, neT (show (1 : Int) ≠ 0 by decide), ?_⟩
    refine ⟨_, CallR.mkW hR (.cons wz .nil) rfl rfl, ?_⟩
    exact Ret.mk _ rfl rfl rfl
  obtain ⟨c1, c2⟩ := comp_yes h
  rw [c1, c2] at hZ
  have hcz := cmp_of h
  have hpz := part_of h
  obtain ⟨-, -, -, -, -, -, -, -, -, -, -, -, hfl⟩ := fine_open (right_open h).1
  have hfl : fineL 31 false [x, y] = true := hfl
  simp only [fineL, Bool.and_eq_true] at hfl
  obtain ⟨fx, fy, -⟩ := hfl
  have kx : isRight x = true := by
    rw [(hpz.part (y := x) (by simp)).1.right]
    obtain ⟨k, n, nm, m⟩ := x
    obtain ⟨-, -, -, -, -, hk, -⟩ := fine_open fx
    show (!isCond k) = true
    rw [hk]; rfl
  have ky : isRight y = true := by
    rw [(hpz.part (y := y) (by simp)).1.right]
    obtain ⟨k, n, nm, m⟩ := y
    obtain ⟨-, -, -, -, -, hk, -⟩ := fine_open fy
    show (!isCond k) = true
    rw [hk]; rfl
  obtain ⟨a1, a2⟩ := comp_yes kx
  obtain ⟨b1, b2⟩ := comp_yes ky
  rw [a1, a2] at hC
  rw [b1, b2] at hD
  have hcx := cmp_of kx
  have hcy := cmp_of ky
  have hmv := mv_codes hcx.fine hcy.fine
  obtain ⟨l, hl⟩ : ∃ l, codeF ⟨7, 0, e0, [x, y]⟩ 0 = l := ⟨_, rfl⟩
  obtain ⟨a, hae⟩ : ∃ a, codeF x 0 = a := ⟨_, rfl⟩
  obtain ⟨b, hbe⟩ : ∃ b, codeF y 0 = b := ⟨_, rfl⟩
  rw [hl] at hZ hcz hmv
  rw [hae] at hC hcx hmv
  rw [hbe] at hD hcy hmv
  have ll := rowI_len l
  have la := rowI_len a
  have lb := rowI_len b
  have sa := hcx.small
  have sb := hcy.small
  have slen : l.length = a.length + b.length + 1 := by rw [hmv]; simp; omega
  have hSa := Same10_ok a a (by omega)
  rw [eqIs_refl] at hSa
  have htk : rowI a = ((rowI l).take a.length).drop 0 := by rw [← row_take, hmv, List.append_assoc, List.take_left]
  have hSa : Ok E 13 [] [.c (.row (((rowI l).take a.length).drop 0)), .c (.row (rowI a))] (pB true) [] := by rw [← htk]; exact hSa
  have hlast : l[a.length + b.length]? = some ⟨7, 0, e0⟩ := by
    rw [hmv, List.getElem?_append_right (by simp)]
    simp
  have hmid : ∀ (j : Nat) (w : Ins), b[j]? = some w → l[a.length + j]? = some (mv a.length w) := fun j w hw => by
    have hj := (List.getElem?_eq_some_iff.1 hw).1
    rw [hmv, List.getElem?_append_left (by simp; omega), List.getElem?_append_right (by omega), Nat.add_sub_cancel_left, List.getElem?_map, hw]; rfl
  clear htk hmv hcz hpz fx fy
  refine Ok.enter hE Tryd.func6 rfl (by decide +kernel) (by kernel_rfl) rfl rfl (Nat.le_of_ble_eq_true rfl) rfl ?_
  refine ⟨_, CallR.mk1 awake10_ok rfl rfl, ?_⟩
  refine ⟨_, CallR.mk1 hS rfl rfl, ?_⟩
  refine ⟨_, CallR.mk1 hT rfl rfl, ?_⟩
  refine ⟨_, ⟨_, rfl, rfl⟩, ?_⟩
  refine ⟨_, CallR.mkW hZ (.cons wz .nil) rfl rfl, ?_⟩
  refine ⟨_, CallR.mk1 hC rfl rfl, ?_⟩
  refine ⟨_, CallR.mk1 hD rfl rfl, ?_⟩
  refine ⟨_, neN rfl, ?_⟩
  refine ⟨_, neN rfl, ?_⟩
  refine ⟨_, neN rfl, ?_⟩
  refine ⟨_, addV (z := (a.length + b.length : Nat)) (by rw [la, lb]; omega) (by omega) (by omega), ?_⟩
  refine ⟨_, addV (z := (a.length + b.length + 1 : Nat)) (by omega) (by omega) (by omega), ?_⟩
  refine ⟨_, neN (show ((rowI l).length : Int) = _ by rw [ll, slen]), ?_⟩
  refine ⟨_, sliceRV 0 a.length rfl rfl rfl (by rw [← la]; rfl) ⟨Nat.zero_le _, by omega⟩ (rowI_three _), ?_⟩
  refine ⟨_, CallR.mk1 hSa rfl rfl, ?_⟩
  refine ⟨_, subV (z := (a.length + b.length : Nat)) (by rw [ll]; omega) (by omega) (by omega), ?_⟩
  refine ⟨_, idxV (j := a.length + b.length) (rowI_get hlast) rfl rfl rfl rfl, ?_⟩
  refine ⟨_, insNe ⟨7, 0, e0⟩ ⟨7, 0, e0⟩ (b := false) (by rw [eqI_refl]; rfl), ?_⟩
  refine Loop.cut (α := Nat) (fun j => j ≤ b.length) (fun j => [(5, pB true), (9, .c (.row (rowI l))), (11, .c (.row (rowI a))), (13, .c (.row (rowI b))), (15, pI j)]) (fun j => [(cellsE x).map .c, (cellsE y).map .c, [pI 7, pI 0, .c (.str e0), .c (.row [cellsE x, cellsE y])]]) (fun _ => []) (fun j => b.length - j) 0 3 (fun _ => rfl) (fun _ => rfl) (fun _ => rfl) (Nat.zero_le _) ⟨⟨rfl, rfl, rfl, rfl, rfl, trivial⟩, rfl, rfl⟩ ?_
  rintro j f hj
  by_cases hjl : j < b.length
  rotate_left
  · refine ⟨_, ltN (by omega), ?_⟩
    exact Ret.mk _ rfl rfl rfl
  obtain ⟨w, hw⟩ : ∃ w, b[j]? = some w := ⟨_, List.getElem?_eq_getElem hjl⟩
  have hm := hmid j w hw
  have hwr : isLead w.op = true → (j : Int) < w.n ∧ w.n ≤ b.length := fun hly => by
    have hr := hcy.right
    unfold rightF at hr
    rw [Bool.and_eq_true] at hr
    have := right_at b 0 b.length hr.1 j w hw
    rw [Nat.zero_add] at this
    exact lead_at this hly
  obtain ⟨op, n, nm⟩ := w
  dsimp only at hwr
  refine ⟨_, ltT (by omega), ?_⟩
  refine ⟨_, idxV (j := j) (rowI_get hw) rfl rfl rfl rfl, ?_⟩
  have hop : op = 9 ∨ (op ≠ 9 ∧ op = 12) ∨ (op ≠ 9 ∧ op ≠ 12 ∧ op = 13) ∨ (op ≠ 9 ∧ op ≠ 12 ∧ op ≠ 13) := by omega
  rcases hop with o | ⟨m1, o⟩ | ⟨m1, m2, o⟩ | ⟨m1, m2, m3⟩
  · have hl1 : isLead op = true := by unfold isLead; exact decide_eq_true (by omega)
    obtain ⟨q1, q2⟩ := hwr hl1
    have hmw : mv a.length ⟨op, n, nm⟩ = ⟨op, n + a.length, nm⟩ := by unfold mv; dsimp only; rw [hl1, if_pos rfl]
    rw [hmw] at hm
    refine ⟨_, eqT o, ?_⟩
    refine ⟨_, addV (z := n + a.length) (by rw [la]) (by omega) (by omega), ?_⟩
    refine ⟨_, addV (z := ((a.length + j : Nat) : Int)) (by rw [la]; omega) (by omega) (by omega), ?_⟩
    refine ⟨_, idxV (j := a.length + j) (rowI_get hm) rfl rfl rfl rfl, ?_⟩
    refine ⟨_, insNe ⟨op, n + a.length, nm⟩ ⟨op, n + a.length, nm⟩ (b := false) (by rw [eqI_refl]; rfl), ?_⟩
    refine ⟨_, addV rfl (by omega) (by omega), ?_⟩
    exact ⟨j + 1, hjl, by omega, ⟨rfl, rfl, rfl, rfl, rfl, trivial⟩, ⟨_, rfl⟩, rfl⟩
  · have hl1 : isLead op = true := by unfold isLead; exact decide_eq_true (by omega)
    obtain ⟨q1, q2⟩ := hwr hl1
    have hmw : mv a.length ⟨op, n, nm⟩ = ⟨op, n + a.length, nm⟩ := by unfold mv; dsimp only; rw [hl1, if_pos rfl]
    rw [hmw] at hm
    refine ⟨_, eqN m1, ?_⟩
    refine ⟨_, eqT o, ?_⟩
    refine ⟨_, addV (z := n + a.length) (by rw [la]) (by omega) (by omega), ?_⟩
    refine ⟨_, addV (z := ((a.length + j : Nat) : Int)) (by rw [la]; omega) (by omega) (by omega), ?_⟩
    refine ⟨_, idxV (j := a.length + j) (rowI_get hm) rfl rfl rfl rfl, ?_⟩
    refine ⟨_, insNe ⟨op, n + a.length, nm⟩ ⟨op, n + a.length, nm⟩ (b := false) (by rw [eqI_refl]; rfl), ?_⟩
    refine ⟨_, addV rfl (by omega) (by omega), ?_⟩
    exact ⟨j + 1, hjl, by omega, ⟨rfl, rfl, rfl, rfl, rfl, trivial⟩, ⟨_, rfl⟩, rfl⟩
  · have hl1 : isLead op = true := by unfold isLead; exact decide_eq_true (by omega)
    obtain ⟨q1, q2⟩ := hwr hl1
    have hmw : mv a.length ⟨op, n, nm⟩ = ⟨op, n + a.length, nm⟩ := by unfold mv; dsimp only; rw [hl1, if_pos rfl]
    rw [hmw] at hm
    refine ⟨_, eqN m1, ?_⟩
    refine ⟨_, eqN m2, ?_⟩
    refine ⟨_, eqT o, ?_⟩
    refine ⟨_, addV (z := n + a.length) (by rw [la]) (by omega) (by omega), ?_⟩
    refine ⟨_, addV (z := ((a.length + j : Nat) : Int)) (by rw [la]; omega) (by omega) (by omega), ?_⟩
    refine ⟨_, idxV (j := a.length + j) (rowI_get hm) rfl rfl rfl rfl, ?_⟩
    refine ⟨_, insNe ⟨op, n + a.length, nm⟩ ⟨op, n + a.length, nm⟩ (b := false) (by rw [eqI_refl]; rfl), ?_⟩
    refine ⟨_, addV rfl (by omega) (by omega), ?_⟩
    exact ⟨j + 1, hjl, by omega, ⟨rfl, rfl, rfl, rfl, rfl, trivial⟩, ⟨_, rfl⟩, rfl⟩
  · have hl0 : isLead op = false := by unfold isLead; exact decide_eq_false (by omega)
    have hmw : mv a.length ⟨op, n, nm⟩ = ⟨op, n, nm⟩ := by unfold mv; dsimp only; rw [hl0]; rfl
    rw [hmw] at hm
    refine ⟨_, eqN m1, ?_⟩
    refine ⟨_, eqN m2, ?_⟩
    refine ⟨_, eqN m3, ?_⟩
    refine ⟨_, addV (z := ((a.length + j : Nat) : Int)) (by rw [la]; omega) (by omega) (by omega), ?_⟩
    refine ⟨_, idxV (j := a.length + j) (rowI_get hm) rfl rfl rfl rfl, ?_⟩
    refine ⟨_, insNe ⟨op, n, nm⟩ ⟨op, n, nm⟩ (b := false) (by rw [eqI_refl]; rfl), ?_⟩
    refine ⟨_, addV rfl (by omega) (by omega), ?_⟩
    exact ⟨j + 1, hjl, by omega, ⟨rfl, rfl, rfl, rfl, rfl, trivial⟩, ⟨_, rfl⟩, rfl⟩
end Go.Proofs.YtadpifnlkmeifaaDoor.Cd
