/- Texts that are merged: PtL, PtO, PtW, PtV, PtX. -/
import Derived.Test.YtadpifnlkmeifaaDoorPtBll
import Derived.Test.YtadpifnlkmeifaaDoorPx1
/- Unlike fine trees have unlike texts. -/
namespace Go.Proofs.YtadpifnlkmeifaaDoor.Pm
open Go Go.RowKit Go.Proofs.YtadpifnlkmeifaaDoor.Pl
open Go.Proofs.YtadpifnlkmeifaaDoor.Q (rngE rngA txtE txtA sameE sameA formT wordL moreL sepA)
set_option linter.unusedVariables false
set_option linter.unusedSimpArgs false
def isP (c : UInt8) : Bool := c == 40 || (c == 41 || c == 44)
def Stop (r : List UInt8) : Prop := r = [] ∨ ∃ c t, r = c :: t ∧ isP c = true
theorem kinds_of (k : Int) (w : List UInt8) (m a : Int) (h : formT k = some (w, m, a)) : k = 1 ∨ k = 2 ∨ k = 3 ∨ k = 4 ∨ k = 5 ∨ k = 6 ∨ k = 7 ∨ k = 8 ∨ k = 9 ∨ k = 10 ∨ k = 11 ∨ k = 12 := by
  rcases Q.form_kinds k with ho | ho
  · rw [Q.formT_out k ho] at h
    exact absurd h (by simp)
  · exact ho
end Go.Proofs.YtadpifnlkmeifaaDoor.Pm

/- The statement TreeOnce, in the pure machine. -/
namespace Go.Proofs.YtadpifnlkmeifaaDoor.Pm
open Go Go.RowKit Go.Proofs.YtadpifnlkmeifaaDoor.Pl
open Go.Proofs.YtadpifnlkmeifaaDoor.Q (rngE rngA txtE txtA sameE sameA formT wordL moreL sepA)
set_option linter.unusedVariables false
set_option maxHeartbeats 1000000
end Go.Proofs.YtadpifnlkmeifaaDoor.Pm

/- Wild, in the pure machine: all but what writes into a row. -/
namespace Go.Proofs.YtadpifnlkmeifaaDoor.Pm
open Go Go.RowKit Go.Proofs.YtadpifnlkmeifaaDoor.Pl
open Go.Proofs.YtadpifnlkmeifaaDoor.Q (rngE rngA txtE txtA sameE sameA formT wordL moreL sepA)
set_option linter.unusedVariables false
set_option maxHeartbeats 1000000
def cutN (x : Ex) : Nat → Ex
  | 0 => x
  | j + 1 => ⟨6, 1, e0, [cutN x j]⟩
def minN (x : Ex) : Nat → Ex
  | 0 => x
  | j + 1 => ⟨7, 0, e0, [minN x j, minN x j]⟩
def cutC (x : Ex) : Nat → List CV
  | 0 => cellsE x
  | j + 1 => [.int .i64 6, .int .i64 1, .str e0, .row [cutC x j]]
def minC (x : Ex) : Nat → List CV
  | 0 => cellsE x
  | j + 1 => [.int .i64 7, .int .i64 0, .str e0, .row [minC x j, minC x j]]
theorem cutC_eq (x : Ex) : ∀ j, cutC x j = cellsE (cutN x j)
  | 0 => rfl
  | j + 1 => by
    show _ = [CV.int .i64 6, .int .i64 1, .str e0, .row (encL [cutN x j])]
    rw [encL_map, cutC, cutC_eq x j]; rfl
theorem minC_eq (x : Ex) : ∀ j, minC x j = cellsE (minN x j)
  | 0 => rfl
  | j + 1 => by
    show _ = [CV.int .i64 7, .int .i64 0, .str e0, .row (encL [minN x j, minN x j])]
    rw [encL_map, minC, minC_eq x j]; rfl
def nameW (p : Int) : ByteArray := if p = 0 then ⟨#[]⟩ else if p = 1 then ⟨#[105, 102]⟩ else if p = 2 then ⟨#[65]⟩ else if p = 3 then ⟨#[97, 49]⟩ else ⟨#[49, 97]⟩
def wildF (raw : List Int) (what by_ : Int) : Ex :=
  let x := stratF raw
  let q := pk what 10
  if q = 0 then ⟨pk by_ 16 - 1, 0, e0, [x, x]⟩
  else if q = 1 then ⟨9, by_, e0, [x, x]⟩
  else if q = 2 then ⟨9, 0, ⟨#[97]⟩, [x, x]⟩
  else if q = 3 then ⟨9, 0, e0, [x]⟩
  else if q = 4 then ⟨9, 0, e0, [x, ⟨11, 0, e0, []⟩]⟩
  else if q = 5 then ⟨10, 0, e0, [x, x, x]⟩
  else if q = 6 then ⟨3, 0, nameW (pk by_ 5), []⟩
  else if q = 7 then ⟨3 + pk what 4, by_, e0, List.replicate (argsOf (3 + pk what 4)).toNat x⟩
  else if q = 8 then cutN x (pk by_ 36).toNat
  else minN x (pk by_ 7).toNat
theorem wkR {k n : Int} {nm : ByteArray} {l : List Ex} {xs : List (List CV)} (h : xs = l.map cellsE) : Wk (.agg [.int .i64 k, .int .i64 n, .str nm, .row xs]) (pE ⟨k, n, nm, l⟩) := wkE2 k n nm l h
def zE27 : List PV := [pI 0, pI 0, pS e0, .c .nil]
theorem wild_ok (raw : List Int) (h1 : ∀ a ∈ raw, I64 a) (l1 : raw.length ≤ 9223372036854775807) (what by_ : Int) (hw : I64 what) (hb : I64 by_) (h4 : pk what 10 ≠ 4) : Ok E 10 [] [.c (.row (encN raw)), pI what, pI by_] (pE (wildF raw what by_)) [] := by
  have cx := strat_ok raw h1 l1
  obtain ⟨x, ex⟩ : ∃ x, stratF raw = x := ⟨_, rfl⟩
  rw [ex] at cx
  unfold wildF
  rw [ex]
  dsimp only
  have P10 := pick_ok what 10 hw (by decide)
  have P16 := pick_ok by_ 16 hb (by decide)
  have P5 := pick_ok by_ 5 hb (by decide)
  have P4 := pick_ok what 4 hw (by decide)
  have P36 := pick_ok by_ 36 hb (by decide)
  have P7 := pick_ok by_ 7 hb (by decide)
  have r10 := pk_rng (c := what) (n := 10) (by decide)
  have r16 := pk_rng (c := by_) (n := 16) (by decide)
  have r5 := pk_rng (c := by_) (n := 5) (by decide)
  have r4 := pk_rng (c := what) (n := 4) (by decide)
  have r36 := pk_rng (c := by_) (n := 36) (by decide)
  have r7 := pk_rng (c := by_) (n := 7) (by decide)
  obtain ⟨q, hq⟩ : ∃ q, pk what 10 = q := ⟨_, rfl⟩
  rw [hq] at h4 P10 r10 ⊢
  obtain ⟨b0, b1⟩ := hb
  by_cases h0 : q = 0
  · rw [if_pos h0]
    refine Ok.enter hE Tryd.func10 rfl (by decide +kernel) (by kernel_rfl) rfl rfl (Nat.le_of_ble_eq_true rfl) rfl ?_
    refine ⟨_, CallR.mk1 cx rfl rfl, ?_⟩
    refine ⟨_, ⟨_, rfl, rfl⟩, ?_⟩
    refine ⟨_, CallR.mk1 P10 rfl rfl, ?_⟩
    refine ⟨_, eqT h0, ?_⟩
    refine ⟨_, CallR.mk1 P16 rfl rfl, ?_⟩
    refine ⟨_, subV rfl (by omega) (by omega), ?_⟩
    exact ⟨_, rfl, wkR rfl, rfl, .nil _⟩
  rw [if_neg h0]
  by_cases h1' : q = 1
  · rw [if_pos h1']
    refine Ok.enter hE Tryd.func10 rfl (by decide +kernel) (by kernel_rfl) rfl rfl (Nat.le_of_ble_eq_true rfl) rfl ?_
    refine ⟨_, CallR.mk1 cx rfl rfl, ?_⟩
    refine ⟨_, ⟨_, rfl, rfl⟩, ?_⟩
    refine ⟨_, CallR.mk1 P10 rfl rfl, ?_⟩
    refine ⟨_, eqN h0, ?_⟩
    refine ⟨_, eqT h1', ?_⟩
    exact ⟨_, rfl, wkR rfl, rfl, .nil _⟩
  rw [if_neg h1']
  by_cases h2 : q = 2
  · rw [if_pos h2]
    refine Ok.enter hE Tryd.func10 rfl (by decide +kernel) (by kernel_rfl) rfl rfl (Nat.le_of_ble_eq_true rfl) rfl ?_
    refine ⟨_, CallR.mk1 cx rfl rfl, ?_⟩
    refine ⟨_, ⟨_, rfl, rfl⟩, ?_⟩
    refine ⟨_, CallR.mk1 P10 rfl rfl, ?_⟩
    refine ⟨_, eqN h0, ?_⟩
    refine ⟨_, eqN h1', ?_⟩
    refine ⟨_, eqT h2, ?_⟩
    exact ⟨_, rfl, wkR rfl, rfl, .nil _⟩
  rw [if_neg h2]
  by_cases h3 : q = 3
  · rw [if_pos h3]
    refine Ok.enter hE Tryd.func10 rfl (by decide +kernel) (by kernel_rfl) rfl rfl (Nat.le_of_ble_eq_true rfl) rfl ?_
    refine ⟨_, CallR.mk1 cx rfl rfl, ?_⟩
    refine ⟨_, ⟨_, rfl, rfl⟩, ?_⟩
    refine ⟨_, CallR.mk1 P10 rfl rfl, ?_⟩
    refine ⟨_, eqN h0, ?_⟩
    refine ⟨_, eqN h1', ?_⟩
    refine ⟨_, eqN h2, ?_⟩
    refine ⟨_, eqT h3, ?_⟩
    refine ⟨_, sliceRV 0 1 rfl rfl rfl rfl ⟨Nat.zero_le _, Nat.le_of_ble_eq_true rfl⟩ (by intro y hy; simp at hy; subst hy; rfl), ?_⟩
    exact ⟨_, rfl, wkR rfl, rfl, .nil _⟩
  rw [if_neg h3, if_neg h4]
  by_cases h5 : q = 5
  · rw [if_pos h5]
    refine Ok.enter hE Tryd.func10 rfl (by decide +kernel) (by kernel_rfl) rfl rfl (Nat.le_of_ble_eq_true rfl) rfl ?_
    refine ⟨_, CallR.mk1 cx rfl rfl, ?_⟩
    refine ⟨_, ⟨_, rfl, rfl⟩, ?_⟩
    refine ⟨_, CallR.mk1 P10 rfl rfl, ?_⟩
    refine ⟨_, eqN h0, ?_⟩
    refine ⟨_, eqN h1', ?_⟩
    refine ⟨_, eqN h2, ?_⟩
    refine ⟨_, eqN h3, ?_⟩
    refine ⟨_, eqN h4, ?_⟩
    refine ⟨_, eqT h5, ?_⟩
    refine ⟨_, ⟨_, rfl, rfl⟩, ?_⟩
    exact ⟨_, rfl, wkR rfl, rfl, .nil _⟩
  rw [if_neg h5]
  by_cases h6 : q = 6
  · rw [if_pos h6]
    obtain ⟨p, hp⟩ : ∃ p, pk by_ 5 = p := ⟨_, rfl⟩
    rw [hp] at P5 r5 ⊢
    have hpc : p = 0 ∨ p = 1 ∨ p = 2 ∨ p = 3 ∨ p = 4 := by omega
    refine Ok.enter hE Tryd.func10 rfl (by decide +kernel) (by kernel_rfl) rfl rfl (Nat.le_of_ble_eq_true rfl) rfl ?_
    refine ⟨_, CallR.mk1 cx rfl rfl, ?_⟩
    refine ⟨_, ⟨_, rfl, rfl⟩, ?_⟩
    refine ⟨_, CallR.mk1 P10 rfl rfl, ?_⟩
    refine ⟨_, eqN h0, ?_⟩
    refine ⟨_, eqN h1', ?_⟩
    refine ⟨_, eqN h2, ?_⟩
    refine ⟨_, eqN h3, ?_⟩
    refine ⟨_, eqN h4, ?_⟩
    refine ⟨_, eqN h5, ?_⟩
    refine ⟨_, eqT h6, ?_⟩
    refine ⟨_, ⟨_, rfl, rfl⟩, ?_⟩
    refine ⟨_, CallR.mk1 P5 rfl rfl, ?_⟩
    rcases hpc with e | e | e | e | e
    · refine ⟨_, idxV (j := 0) rfl e rfl rfl rfl, ?_⟩
      exact ⟨_, rfl, by rw [e]; exact wkE _ _ _, rfl, .nil _⟩
    · refine ⟨_, idxV (j := 1) rfl e rfl rfl rfl, ?_⟩
      exact ⟨_, rfl, by rw [e]; exact wkE _ _ _, rfl, .nil _⟩
    · refine ⟨_, idxV (j := 2) rfl e rfl rfl rfl, ?_⟩
      exact ⟨_, rfl, by rw [e]; exact wkE _ _ _, rfl, .nil _⟩
    · refine ⟨_, idxV (j := 3) rfl e rfl rfl rfl, ?_⟩
      exact ⟨_, rfl, by rw [e]; exact wkE _ _ _, rfl, .nil _⟩
    · refine ⟨_, idxV (j := 4) rfl e rfl rfl rfl, ?_⟩
      exact ⟨_, rfl, by rw [e]; exact wkE _ _ _, rfl, .nil _⟩
  rw [if_neg h6]
  by_cases h7 : q = 7
  · rw [if_pos h7]
    obtain ⟨k, hk⟩ : ∃ k, 3 + pk what 4 = k := ⟨_, rfl⟩
    rw [hk]
    have hA := Args_ok k
    have hm : argsOf k = 0 ∨ argsOf k = 1 := by
      have : k = 3 ∨ k = 4 ∨ k = 5 ∨ k = 6 := by omega
      rcases this with rfl | rfl | rfl | rfl
      · exact .inl rfl
      · exact .inl rfl
      · exact .inr rfl
      · exact .inr rfl
    refine Ok.enter hE Tryd.func10 rfl (by decide +kernel) (by kernel_rfl) rfl rfl (Nat.le_of_ble_eq_true rfl) rfl ?_
    refine ⟨_, CallR.mk1 cx rfl rfl, ?_⟩
    refine ⟨_, ⟨_, rfl, rfl⟩, ?_⟩
    refine ⟨_, CallR.mk1 P10 rfl rfl, ?_⟩
    refine ⟨_, eqN h0, ?_⟩
    refine ⟨_, eqN h1', ?_⟩
    refine ⟨_, eqN h2, ?_⟩
    refine ⟨_, eqN h3, ?_⟩
    refine ⟨_, eqN h4, ?_⟩
    refine ⟨_, eqN h5, ?_⟩
    refine ⟨_, eqN h6, ?_⟩
    refine ⟨_, eqT h7, ?_⟩
    refine ⟨_, CallR.mk1 P4 rfl rfl, ?_⟩
    refine ⟨_, addV hk (by omega) (by omega), ?_⟩
    refine Loop.run (α := Bool) (fun j => j = true → argsOf k = 1) (fun j => [(6, .ptr 0 0), (7, .ptr 1 0), (8, .ptr 2 0), (9, pI (if j then 1 else 0))]) (fun j => [zE27, (cellsE x).map .c, [pI k, pI by_, pS e0, cellA [cellsE x] j.toNat]]) (fun j => tokA j.toNat) (fun j => if j then 0 else 1) false (fun h => by cases h) ⟨⟨rfl, rfl, rfl, rfl, trivial⟩, rfl, rfl⟩ ?_
    intro j f hj
    cases j with
    | false =>
      refine ⟨_, CallR.mk1 hA rfl rfl, ?_⟩
      rcases hm with hm | hm
      · refine ⟨_, ltN (by rw [hm]; decide), ?_⟩
        exact ⟨_, rfl, by rw [hm]; exact wkE _ _ _, rfl, .nil _⟩
      · refine ⟨_, ltT (by rw [hm]; decide), ?_⟩
        refine ⟨_, ⟨_, rfl, rfl⟩, ?_⟩
        refine ⟨_, _, AppR.first1 rfl rfl (by decide) rfl rfl rfl (by decide), ?_⟩
        refine ⟨_, addV rfl (by decide) (by decide), ?_⟩
        exact ⟨true, fun _ => hm, by decide, ⟨rfl, rfl, rfl, rfl, trivial⟩, rfl, rfl⟩
    | true =>
      have hm1 := hj rfl
      refine ⟨_, CallR.mk1 hA rfl rfl, ?_⟩
      refine ⟨_, ltN (by rw [hm1]; decide), ?_⟩
      exact ⟨_, rfl, by rw [hm1]; exact wkR rfl, rfl, .nil _⟩
  rw [if_neg h7]
  by_cases h8 : q = 8
  · rw [if_pos h8]
    obtain ⟨m, hm⟩ : ∃ m : Nat, pk by_ 36 = m := ⟨(pk by_ 36).toNat, by omega⟩
    rw [hm] at P36 r36 ⊢
    rw [Int.toNat_natCast]
    have hce := cutC_eq x m
    refine Ok.enter hE Tryd.func10 rfl (by decide +kernel) (by kernel_rfl) rfl rfl (Nat.le_of_ble_eq_true rfl) rfl ?_
    refine ⟨_, CallR.mk1 cx rfl rfl, ?_⟩
    refine ⟨_, ⟨_, rfl, rfl⟩, ?_⟩
    refine ⟨_, CallR.mk1 P10 rfl rfl, ?_⟩
    refine ⟨_, eqN h0, ?_⟩
    refine ⟨_, eqN h1', ?_⟩
    refine ⟨_, eqN h2, ?_⟩
    refine ⟨_, eqN h3, ?_⟩
    refine ⟨_, eqN h4, ?_⟩
    refine ⟨_, eqN h5, ?_⟩
    refine ⟨_, eqN h6, ?_⟩
    refine ⟨_, eqN h7, ?_⟩
    refine ⟨_, eqT h8, ?_⟩
    refine Loop.run (α := Nat) (fun j => j ≤ m) (fun j => [(2, pI by_), (6, .ptr 0 0), (7, .ptr 1 0), (8, .ptr 2 0), (10, pI j)]) (fun j => [zE27, (cutC x j).map .c, [pI 9, pI 0, pS e0, .c (.row [cellsE x, cellsE x])]]) (fun _ => []) (fun j => m - j) 0 (Nat.zero_le _) ⟨⟨rfl, rfl, rfl, rfl, rfl, trivial⟩, rfl, rfl⟩ ?_
    intro j f hj
    refine ⟨_, CallR.mk1 P36 rfl rfl, ?_⟩
    by_cases hjm : j < m
    · cases j with
      | zero =>
        refine ⟨_, ltT (by omega), ?_⟩
        refine ⟨_, ⟨_, rfl, rfl⟩, ?_⟩
        refine ⟨_, addV rfl (by omega) (by omega), ?_⟩
        exact ⟨1, hjm, by omega, ⟨rfl, rfl, rfl, rfl, rfl, trivial⟩, rfl, rfl⟩
      | succ j =>
        refine ⟨_, ltT (by omega), ?_⟩
        refine ⟨_, ⟨_, rfl, rfl⟩, ?_⟩
        refine ⟨_, addV rfl (by omega) (by omega), ?_⟩
        exact ⟨j + 1 + 1, hjm, by omega, ⟨rfl, rfl, rfl, rfl, rfl, trivial⟩, rfl, rfl⟩
    · have hjm : j = m := by omega
      subst hjm
      refine ⟨_, ltN (by omega), ?_⟩
      cases j with
      | zero => exact ⟨_, rfl, Wk.refl _, rfl, .nil _⟩
      | succ j =>
        exact ⟨_, rfl, by
          show Wk (.agg (cutC x (j + 1))) (.agg (cellsE (cutN x (j + 1))))
          rw [hce]; exact Wk.refl _, rfl, .nil _⟩
  rw [if_neg h8]
  obtain ⟨m, hm⟩ : ∃ m : Nat, pk by_ 7 = m := ⟨(pk by_ 7).toNat, by omega⟩
  rw [hm] at P7 r7 ⊢
  rw [Int.toNat_natCast]
  have hce := minC_eq x m
  refine Ok.enter hE Tryd.func10 rfl (by decide +kernel) (by kernel_rfl) rfl rfl (Nat.le_of_ble_eq_true rfl) rfl ?_
  refine ⟨_, CallR.mk1 cx rfl rfl, ?_⟩
  refine ⟨_, ⟨_, rfl, rfl⟩, ?_⟩
  refine ⟨_, CallR.mk1 P10 rfl rfl, ?_⟩
  refine ⟨_, eqN h0, ?_⟩
  refine ⟨_, eqN h1', ?_⟩
  refine ⟨_, eqN h2, ?_⟩
  refine ⟨_, eqN h3, ?_⟩
  refine ⟨_, eqN h4, ?_⟩
  refine ⟨_, eqN h5, ?_⟩
  refine ⟨_, eqN h6, ?_⟩
  refine ⟨_, eqN h7, ?_⟩
  refine ⟨_, eqN h8, ?_⟩
  refine Loop.run (α := Nat) (fun j => j ≤ m) (fun j => [(2, pI by_), (6, .ptr 0 0), (7, .ptr 1 0), (8, .ptr 2 0), (11, pI j)]) (fun j => [zE27, (minC x j).map .c, [pI 9, pI 0, pS e0, .c (.row [cellsE x, cellsE x])]]) (fun _ => []) (fun j => m - j) 0 (Nat.zero_le _) ⟨⟨rfl, rfl, rfl, rfl, rfl, trivial⟩, rfl, rfl⟩ ?_
  intro j f hj
  refine ⟨_, CallR.mk1 P7 rfl rfl, ?_⟩
  by_cases hjm : j < m
  · cases j with
    | zero =>
      refine ⟨_, ltT (by omega), ?_⟩
      refine ⟨_, ⟨_, rfl, rfl⟩, ?_⟩
      refine ⟨_, addV rfl (by omega) (by omega), ?_⟩
      exact ⟨1, hjm, by omega, ⟨rfl, rfl, rfl, rfl, rfl, trivial⟩, rfl, rfl⟩
    | succ j =>
      refine ⟨_, ltT (by omega), ?_⟩
      refine ⟨_, ⟨_, rfl, rfl⟩, ?_⟩
      refine ⟨_, addV rfl (by omega) (by omega), ?_⟩
      exact ⟨j + 1 + 1, hjm, by omega, ⟨rfl, rfl, rfl, rfl, rfl, trivial⟩, rfl, rfl⟩
  · have hjm : j = m := by omega
    subst hjm
    refine ⟨_, ltN (by omega), ?_⟩
    cases j with
    | zero => exact ⟨_, rfl, Wk.refl _, rfl, .nil _⟩
    | succ j =>
      exact ⟨_, rfl, by
        show Wk (.agg (minC x (j + 1))) (.agg (cellsE (minN x (j + 1))))
        rw [hce]; exact Wk.refl _, rfl, .nil _⟩
end Go.Proofs.YtadpifnlkmeifaaDoor.Pm

/- Wild: the one way that writes into a row, walked by hand. -/
namespace Go.Proofs.YtadpifnlkmeifaaDoor.Pm
open Go Go.RowKit Go.Proofs.YtadpifnlkmeifaaDoor.Pl Go.Proofs.YtadpifnlkmeifaaDoorW.PrintWords Go.Proofs.YtadpifnlkmeifaaDoorW.PrintLast Go.Proofs.YtadpifnlkmeifaaDoorW.PrintMore
open Go.Proofs.YtadpifnlkmeifaaDoor.Q (rngE rngA txtE txtA sameE sameA formT wordL moreL sepA)
set_option linter.unusedVariables false
set_option linter.unusedSimpArgs false
set_option maxHeartbeats 1000000
set_option maxRecDepth 100000
theorem pick_f (c n : Int) (hc : I64 c) (hn : 0 < n) : P.hagglerlaw07_pick.f c n = some (pk c n) := by
  obtain ⟨h0, h1⟩ := hc
  unfold P.hagglerlaw07_pick.f pk
  have hnn : n ≠ 0 := by omega
  by_cases h : c < 0
  · rw [if_pos h, if_pos h, if_neg hnn]
    rw [show wrap64 (c + 1) = c + 1 by unfold wrap64; omega, show wrap64 (-(c + 1)) = -(c + 1) by unfold wrap64; omega]
  · rw [if_neg h, if_neg h, if_neg hnn]
theorem Mem.rebase {E : Env} {w w' : World} {ok ok' : Nat → Nat → Prop} (M : Mem E ⟨w, ok, [], []⟩ [] [] [] ok' w') : Mem E ⟨w', ok', [], []⟩ [] [] [] ok' w' where
  inv := M.inv
  os := rfl
  tape := rfl
  output := rfl
  size := Nat.le_refl _
  frame := fun _ _ _ _ => rfl
  okb := fun b o h => .inl h
  oks := M.oks
  len := rfl
  box := fun i b h => by simp at h
  inj := fun i j b h => by simp at h
  tok := fun t r h => by simp at h
  tinj := fun t u r s g h => by simp at h
  gb := Nat.le_trans M.gb M.size
  tsz := fun t r i h => by simp at h
  stk := .nil
theorem Mem.stayOk {E : Env} {w w' : World} {ok ok' : Nat → Nat → Prop} (M' : Mem E ⟨w, ok, [], []⟩ [] [] [] ok' w') (M : Mem E ⟨w, ok, [], []⟩ [] [] [] ok w) (hk : ∀ b o, ok b o → ok' b o := by exact fun _ _ h => h) : Stay w ok w' ok' :=
  stay_of ok' (fun k hk' _ => M'.frame k hk' (by simp) (by simp)) M.oks hk
structure Only (g : Nat) (w w' : World) : Prop where
  os : w'.os = w.os
  tape : w'.tape = w.tape
  output : w'.output = w.output
  size : w'.heap.size = w.heap.size
  block : ∀ k, k ≠ g → w'.heap[k]? = w.heap[k]?
theorem Only.set (g j : Nat) (w : World) (u : Value) : Only g w (w.setCell ⟨g, j, none⟩ u) := by
  have h := (Below.refl 0 w).setCell (p := ⟨g, j, none⟩) (Nat.zero_le _) u
  refine ⟨h.os, h.tape, h.output, ?_, fun k hk => Below.heap_setCell _ _ _ _ hk⟩
  simp
theorem Only.trans {g : Nat} {w w' w'' : World} (h : Only g w w') (k : Only g w' w'') : Only g w w'' := ⟨k.os.trans h.os, k.tape.trans h.tape, k.output.trans h.output, k.size.trans h.size, fun i hi => (k.block i hi).trans (h.block i hi)⟩
theorem Only.below {g B : Nat} {w w' : World} (h : Only g w w') (hg : B ≤ g) : Below B w w' := ⟨h.os, h.tape, h.output, Nat.le_of_eq h.size.symm, fun k hk => h.block k (by omega)⟩
section
variable {P : Program} {ops : Array Oper} {rest : List Oper} {o : Oper} {a : Act} {Q : Exit → Act → World → Prop}
theorem store4_ev {W : World} (hgd : o.guard = none) {p : Tmp} (ho : ∃ t v, o.op = .store t (.tmp p) v) (hN : o.dst = none) (g : Nat) {a0 a1 a2 a3 : Value} {ty : TypeId} (u0 u1 u2 u3 : Value)
    (hb : W.heap[g]? = some (.cells #[a0, a1, a2, a3] ty (0, 0)))
    (hrun : (execOp a.eval o).run P W = .ok .skip ((((W.setCell ⟨g, 0, none⟩ u0).setCell ⟨g, 1, none⟩ u1).setCell ⟨g, 2, none⟩ u2).setCell ⟨g, 3, none⟩ u3))
    (h : ∀ w1, w1.heap[g]? = some (.cells #[u0, u1, u2, u3] ty (0, 0)) → Only g W w1 → wpList P ops Q rest a w1) : wpList P ops Q (o :: rest) a W :=
  store_event hgd ho.choose_spec.choose_spec hN hrun fun w' e => by
    subst e
    refine h _ ?_ ((((Only.set g 0 W u0).trans (Only.set g 1 _ u1)).trans (Only.set g 2 _ u2)).trans (Only.set g 3 _ u3))
    exact blk_put (blk_put (blk_put (blk_put hb 0 u0 rfl) 1 u1 rfl) 2 u2 rfl) 3 u3 rfl
theorem store8_ev {W : World} (hgd : o.guard = none) {p : Tmp} (ho : ∃ t v, o.op = .store t (.tmp p) v) (hN : o.dst = none) (g : Nat) {b0 b1 b2 b3 a0 a1 a2 a3 : Value} {ty : TypeId} (u0 u1 u2 u3 : Value)
    (hb : W.heap[g]? = some (.cells #[b0, b1, b2, b3, a0, a1, a2, a3] ty (0, 0)))
    (hrun : (execOp a.eval o).run P W = .ok .skip ((((W.setCell ⟨g, 4, none⟩ u0).setCell ⟨g, 5, none⟩ u1).setCell ⟨g, 6, none⟩ u2).setCell ⟨g, 7, none⟩ u3))
    (h : ∀ w1, w1.heap[g]? = some (.cells #[b0, b1, b2, b3, u0, u1, u2, u3] ty (0, 0)) → Only g W w1 → wpList P ops Q rest a w1) : wpList P ops Q (o :: rest) a W :=
  store_event hgd ho.choose_spec.choose_spec hN hrun fun w' e => by
    subst e
    refine h _ ?_ ((((Only.set g 4 W u0).trans (Only.set g 5 _ u1)).trans (Only.set g 6 _ u2)).trans (Only.set g 7 _ u3))
    exact blk_put (blk_put (blk_put (blk_put hb 4 u0 rfl) 5 u1 rfl) 6 u2 rfl) 7 u3 rfl
theorem gate_st {W : World} {t : TypeId} {v : Operand} (p : Tmp) (_ho : o.op = .store t (.tmp p) v) (h : wpList P ops Q (o :: rest) a W) : wpList P ops Q (o :: rest) a W := h
theorem row_ev {W : World} (hgd : o.guard = none) {N : Tmp} (_hd : o.dst = some N) {cs : Array Value} {t : TypeId} {n : Nat}
    (hrun : (execOp a.eval o).run P W = .ok (.value (.slice (some ⟨W.heap.size, 0, none⟩) n n)) (W.alloc (.cells cs t (0, 0))))
    (h : ∀ g, g = W.heap.size → ∀ w1, w1.heap[g]? = some (.cells cs t (0, 0)) → Below W.heap.size W w1 → wpList P ops Q rest (a.put o.dst (.slice (some ⟨g, 0, none⟩) n n)) w1) : wpList P ops Q (o :: rest) a W :=
  Kd.event_run hgd hrun (h _ rfl _ (blk_new W _) (below_alloc (Below.refl _ _) _))
end
theorem wild4 (raw : List Int) (h1 : ∀ a ∈ raw, I64 a) (l1 : raw.length ≤ 9223372036854775807) (what by_ : Int) (hw : I64 what) (hb : I64 by_) (h4 : pk what 10 = 4) : Ok E 10 [] [.c (.row (encN raw)), pI what, pI by_] (pE ⟨9, 0, e0, [stratF raw, ⟨11, 0, e0, []⟩]⟩) [] := by
  have cx := strat_ok raw h1 l1
  obtain ⟨x, ex⟩ : ∃ x, stratF raw = x := ⟨_, rfl⟩
  rw [ex] at cx ⊢
  have F10 := pick_f what 10 hw (by decide)
  rw [h4] at F10
  refine ⟨⟨_, Tryd.func10, by decide +kernel, by kernel_rfl⟩, fun w ok ms gs vals hst M hr => ?_⟩
  have hm : ms = [] := by have := M.len; simpa using this
  subst hm
  obtain rfl : gs = [] := hst rfl
  match hvl : vals.toList, hr with
  | [v0, v1, v2], hr =>
    have h0 := hr.head
    have hi1 := hr.tail.head.int_inv
    have hi2 := hr.tail.tail.head.int_inv
    subst hi1
    subst hi2
    obtain ⟨A, cap, rfl, hcap⟩ : ∃ A c, v0 = .slice A (encN raw).length c ∧ (encN raw).length ≤ c := by
      cases h0 with
      | c v p h => exact h.row_inv
    have hvals : vals = #[.slice A (encN raw).length cap, .int .i64 what, .int .i64 by_] := by apply Array.ext'; rw [hvl]
    subst hvals
    clear hr hvl
    have CS : ∀ w1 : World, Below w.heap.size w w1 → Calls Tryd.prog 9 #[.slice A (encN raw).length cap] w1 fun e w2 => ∃ A1 c1 ok1, e = .returned (.agg #[.int .i64 x.f0, .int .i64 x.f1, .string x.f2, .slice A1 x.f3.length c1]) ∧ Mem E ⟨w1, ok, [], []⟩ [] [] [] ok1 w2 ∧ (∀ b o, ok b o → ok1 b o) ∧ RepC w2 ok1 (.slice A1 x.f3.length c1) (.row (encL x.f3)) := by
      intro w1 hb1
      have Ma := M.below hE hb1
      have ha : Rep w1 ok [] [] (.slice A (encN raw).length cap) (.c (.row (encN raw))) := h0.later (Later.of_stay (Ma.stayOk M) [] [])
      refine (cx.2 w1 ok [] [] #[.slice A (encN raw).length cap] (fun _ => rfl) Ma.rebase (.cons ha .nil)).mono ?_
      rintro e w2 ⟨v, ok1, rfl, M1, hk1, hv⟩
      obtain ⟨A1, c1, rfl, hc1, hR1⟩ := agg_inv hv
      exact ⟨A1, c1, ok1, rfl, M1, hk1, hR1⟩
    have HB := Aside0.mk (Below.refl w.heap.size w)
    have CX := Aside0.mk CS
    have HM := Aside0.mk M
    clear CS cx h0 M h1
    show Calls Tryd.prog _ _ _ _
    go_enter Tryd.func10, Tryd.ntmps10
    go_wp2_with (first
      | ((with_reducible refine gate_dst (N := 6) rfl ?_); refine box_event ?hg (N := 6) ?hd (cs := #[.int .i64 0, .int .i64 0, .string (⟨#[]⟩ : ByteArray), .slice none 0 0]) (t := 27) ?hr ?_; (case hd => rfl); (case hg => rfl); (case hr => first | (go_simp; done) | (go_simp; rfl)); intro g0 hg0 w1 b0 hb1; have B0 := Aside0.mk b0; have G0 := Aside0.mk hg0; have HB1 := Aside0.mk hb1; clear b0 hg0 hb1)
      | (go_at_call 9; go_loud (refine (CX.out w1 HB1.out).mono ?_; rintro e w2 ⟨A1, c1, ok1, rfl, M1, hk1, hR1⟩; have HM1 := Aside0.mk M1; have HK1 := Aside0.mk hk1; have HR1 := Aside0.mk hR1; have B02 := Aside0.mk ((M1.frame g0 (blk_lt B0.out) (by simp) (by simp)).trans B0.out); clear M1 hk1 hR1))
      | ((with_reducible refine gate_dst (N := 7) rfl ?_); refine box_event ?hg (N := 7) ?hd (cs := #[.int .i64 0, .int .i64 0, .string (⟨#[]⟩ : ByteArray), .slice none 0 0]) (t := 27) ?hr ?_; (case hd => rfl); (case hg => rfl); (case hr => first | (go_simp; done) | (go_simp; rfl)); intro g7 hg7 w3 b7 hb3; have B7 := Aside0.mk b7; have G7 := Aside0.mk hg7; have HB3 := Aside0.mk hb3; have B03 := Aside0.mk (blk_below B02.out hb3); clear b7 hg7 hb3; have hcz7_0 : w3.cell? ⟨g7, 0, none⟩ = some (.int .i64 0) := (blk_cell B7.out 0).trans rfl; have hfz7_0 := blk_frozen B7.out 0; have hcz7_1 : w3.cell? ⟨g7, 1, none⟩ = some (.int .i64 0) := (blk_cell B7.out 1).trans rfl; have hfz7_1 := blk_frozen B7.out 1; have hcz7_2 : w3.cell? ⟨g7, 2, none⟩ = some (.string (⟨#[]⟩ : ByteArray)) := (blk_cell B7.out 2).trans rfl; have hfz7_2 := blk_frozen B7.out 2; have hcz7_3 : w3.cell? ⟨g7, 3, none⟩ = some (.slice none 0 0) := (blk_cell B7.out 3).trans rfl; have hfz7_3 := blk_frozen B7.out 3)
      | ((with_reducible refine gate_st 7 rfl ?_); refine store4_ev ?hg (p := 7) ?ho ?hN g7 (.int .i64 x.f0) (.int .i64 x.f1) (.string x.f2) (.slice A1 x.f3.length c1) B7.out ?hr ?_; (case hN => rfl); (case hg => rfl); (case ho => exact ⟨_, _, rfl⟩); (case hr => first | (go_simp; done) | (go_simp; rfl)); intro w4 b7 ho4; have B74 := Aside0.mk b7; have O4 := Aside0.mk ho4; have B04 := Aside0.mk ((ho4.block g0 (by rw [G7.out]; exact Nat.ne_of_lt (blk_lt B02.out))).trans B03.out); clear b7 ho4; clear hcz7_0 hfz7_0 hcz7_1 hfz7_1 hcz7_2 hfz7_2 hcz7_3 hfz7_3; have hcz74_0 : w4.cell? ⟨g7, 0, none⟩ = some (.int .i64 x.f0) := (blk_cell B74.out 0).trans rfl; have hfz74_0 := blk_frozen B74.out 0; have hcz74_1 : w4.cell? ⟨g7, 1, none⟩ = some (.int .i64 x.f1) := (blk_cell B74.out 1).trans rfl; have hfz74_1 := blk_frozen B74.out 1; have hcz74_2 : w4.cell? ⟨g7, 2, none⟩ = some (.string x.f2) := (blk_cell B74.out 2).trans rfl; have hfz74_2 := blk_frozen B74.out 2; have hcz74_3 : w4.cell? ⟨g7, 3, none⟩ = some (.slice A1 x.f3.length c1) := (blk_cell B74.out 3).trans rfl; have hfz74_3 := blk_frozen B74.out 3)
      | ((with_reducible refine gate_dst (N := 16) rfl ?_); refine row_ev ?hg (N := 16) ?hd (cs := #[.int .i64 x.f0, .int .i64 x.f1, .string x.f2, .slice A1 x.f3.length c1, .int .i64 x.f0, .int .i64 x.f1, .string x.f2, .slice A1 x.f3.length c1]) (t := 27) (n := 2) ?hr ?_; (case hd => rfl); (case hg => rfl); (case hr => first | (go_simp; done) | (go_simp; rfl)); intro g16 hg16 w5 b16 hb5; have B16 := Aside0.mk b16; have G16 := Aside0.mk hg16; have HB5 := Aside0.mk hb5; have B05 := Aside0.mk (blk_below B04.out hb5); clear b16 hg16 hb5; clear hcz74_0 hfz74_0 hcz74_1 hfz74_1 hcz74_2 hfz74_2 hcz74_3 hfz74_3)
      | ((with_reducible refine gate_dst (N := 8) rfl ?_); refine box_event ?hg (N := 8) ?hd (cs := #[.int .i64 0, .int .i64 0, .string (⟨#[]⟩ : ByteArray), .slice none 0 0]) (t := 27) ?hr ?_; (case hd => rfl); (case hg => rfl); (case hr => first | (go_simp; done) | (go_simp; rfl)); intro g8 hg8 w6 b8 hb6; have B8 := Aside0.mk b8; have G8 := Aside0.mk hg8; have HB6 := Aside0.mk hb6; have B06 := Aside0.mk (blk_below B05.out hb6); have B166 := Aside0.mk (blk_below B16.out hb6); clear b8 hg8 hb6; have hcz8_0 : w6.cell? ⟨g8, 0, none⟩ = some (.int .i64 0) := (blk_cell B8.out 0).trans rfl; have hfz8_0 := blk_frozen B8.out 0; have hcz8_1 : w6.cell? ⟨g8, 1, none⟩ = some (.int .i64 0) := (blk_cell B8.out 1).trans rfl; have hfz8_1 := blk_frozen B8.out 1; have hcz8_2 : w6.cell? ⟨g8, 2, none⟩ = some (.string (⟨#[]⟩ : ByteArray)) := (blk_cell B8.out 2).trans rfl; have hfz8_2 := blk_frozen B8.out 2; have hcz8_3 : w6.cell? ⟨g8, 3, none⟩ = some (.slice none 0 0) := (blk_cell B8.out 3).trans rfl; have hfz8_3 := blk_frozen B8.out 3)
      | ((with_reducible refine gate_st 8 rfl ?_); refine store4_ev ?hg (p := 8) ?ho ?hN g8 (.int .i64 9) (.int .i64 0) (.string (⟨#[]⟩ : ByteArray)) (.slice (some ⟨g16, 0, none⟩) 2 2) B8.out ?hr ?_; (case hN => rfl); (case hg => rfl); (case ho => exact ⟨_, _, rfl⟩); (case hr => first | (go_simp; done) | (go_simp; rfl)); intro w7 b8 ho7; have B87 := Aside0.mk b8; have O7 := Aside0.mk ho7; have B07 := Aside0.mk ((ho7.block g0 (by rw [G8.out]; exact Nat.ne_of_lt (blk_lt B05.out))).trans B06.out); have B167 := Aside0.mk ((ho7.block g16 (by rw [G8.out]; exact Nat.ne_of_lt (blk_lt B16.out))).trans B166.out); clear b8 ho7; clear hcz8_0 hfz8_0 hcz8_1 hfz8_1 hcz8_2 hfz8_2 hcz8_3 hfz8_3)
      | (go_at_call 24; go_loud (refine (P.hagglerlaw07_pick.calls _ _ _ _ F10).mono ?_; rintro e w8 ⟨rfl, ⟨⟨n1, hw8⟩⟩⟩; have O8 := Aside0.mk hw8; have hh8 : w8.heap = w7.heap := (by rw [hw8] <;> rfl); have B88 := Aside0.mk ((congrArg (fun h : Array Obj => h[g8]?) hh8).trans B87.out); have B168 := Aside0.mk ((congrArg (fun h : Array Obj => h[g16]?) hh8).trans B167.out); have B08 := Aside0.mk ((congrArg (fun h : Array Obj => h[g0]?) hh8).trans B07.out); clear hh8 hw8; have hcz88_0 : w8.cell? ⟨g8, 0, none⟩ = some (.int .i64 9) := (blk_cell B88.out 0).trans rfl; have hfz88_0 := blk_frozen B88.out 0; have hcz88_1 : w8.cell? ⟨g8, 1, none⟩ = some (.int .i64 0) := (blk_cell B88.out 1).trans rfl; have hfz88_1 := blk_frozen B88.out 1; have hcz88_2 : w8.cell? ⟨g8, 2, none⟩ = some (.string (⟨#[]⟩ : ByteArray)) := (blk_cell B88.out 2).trans rfl; have hfz88_2 := blk_frozen B88.out 2; have hcz88_3 : w8.cell? ⟨g8, 3, none⟩ = some (.slice (some ⟨g16, 0, none⟩) 2 2) := (blk_cell B88.out 3).trans rfl; have hfz88_3 := blk_frozen B88.out 3; have hcz168_4 : w8.cell? ⟨g16, 4, none⟩ = some (.int .i64 x.f0) := (blk_cell B168.out 4).trans rfl; have hfz168_4 := blk_frozen B168.out 4; have hcz168_5 : w8.cell? ⟨g16, 5, none⟩ = some (.int .i64 x.f1) := (blk_cell B168.out 5).trans rfl; have hfz168_5 := blk_frozen B168.out 5; have hcz168_6 : w8.cell? ⟨g16, 6, none⟩ = some (.string x.f2) := (blk_cell B168.out 6).trans rfl; have hfz168_6 := blk_frozen B168.out 6; have hcz168_7 : w8.cell? ⟨g16, 7, none⟩ = some (.slice A1 x.f3.length c1) := (blk_cell B168.out 7).trans rfl; have hfz168_7 := blk_frozen B168.out 7))
      | ((with_reducible refine gate_st 55 rfl ?_); refine store8_ev ?hg (p := 55) ?ho ?hN g16 (.int .i64 11) (.int .i64 0) (.string (⟨#[]⟩ : ByteArray)) (.slice none 0 0) B168.out ?hr ?_; (case hN => rfl); (case hg => rfl); (case ho => exact ⟨_, _, rfl⟩); (case hr => first | (go_simp; done) | (go_simp; rfl)); intro w9 b16 ho9; have B169 := Aside0.mk b16; have O9 := Aside0.mk ho9; have B89 := Aside0.mk ((ho9.block g8 (by rw [G8.out]; exact Nat.ne_of_gt (blk_lt B16.out))).trans B88.out); have B09 := Aside0.mk ((ho9.block g0 (by rw [G16.out]; exact Nat.ne_of_lt (blk_lt B04.out))).trans B08.out); clear b16 ho9; clear hcz88_0 hfz88_0 hcz88_1 hfz88_1 hcz88_2 hfz88_2 hcz88_3 hfz88_3; clear hcz168_4 hfz168_4 hcz168_5 hfz168_5 hcz168_6 hfz168_6 hcz168_7 hfz168_7; have hcz89_0 : w9.cell? ⟨g8, 0, none⟩ = some (.int .i64 9) := (blk_cell B89.out 0).trans rfl; have hfz89_0 := blk_frozen B89.out 0; have hcz89_1 : w9.cell? ⟨g8, 1, none⟩ = some (.int .i64 0) := (blk_cell B89.out 1).trans rfl; have hfz89_1 := blk_frozen B89.out 1; have hcz89_2 : w9.cell? ⟨g8, 2, none⟩ = some (.string (⟨#[]⟩ : ByteArray)) := (blk_cell B89.out 2).trans rfl; have hfz89_2 := blk_frozen B89.out 2; have hcz89_3 : w9.cell? ⟨g8, 3, none⟩ = some (.slice (some ⟨g16, 0, none⟩) 2 2) := (blk_cell B89.out 3).trans rfl; have hfz89_3 := blk_frozen B89.out 3; have hcz09_0 : w9.cell? ⟨g0, 0, none⟩ = some (.int .i64 0) := (blk_cell B09.out 0).trans rfl; have hfz09_0 := blk_frozen B09.out 0; have hcz09_1 : w9.cell? ⟨g0, 1, none⟩ = some (.int .i64 0) := (blk_cell B09.out 1).trans rfl; have hfz09_1 := blk_frozen B09.out 1; have hcz09_2 : w9.cell? ⟨g0, 2, none⟩ = some (.string (⟨#[]⟩ : ByteArray)) := (blk_cell B09.out 2).trans rfl; have hfz09_2 := blk_frozen B09.out 2; have hcz09_3 : w9.cell? ⟨g0, 3, none⟩ = some (.slice none 0 0) := (blk_cell B09.out 3).trans rfl; have hfz09_3 := blk_frozen B09.out 3)
      | ((with_reducible refine gate_st 6 rfl ?_); refine store4_ev ?hg (p := 6) ?ho ?hN g0 (.int .i64 9) (.int .i64 0) (.string (⟨#[]⟩ : ByteArray)) (.slice (some ⟨g16, 0, none⟩) 2 2) B09.out ?hr ?_; (case hN => rfl); (case hg => rfl); (case ho => exact ⟨_, _, rfl⟩); (case hr => first | (go_simp; done) | (go_simp; rfl)); intro w10 b0 ho10; have B010 := Aside0.mk b0; have O10 := Aside0.mk ho10; have B1610 := Aside0.mk ((ho10.block g16 (by rw [G16.out]; exact Nat.ne_of_gt (blk_lt B04.out))).trans B169.out); clear b0 ho10; clear hcz89_0 hfz89_0 hcz89_1 hfz89_1 hcz89_2 hfz89_2 hcz89_3 hfz89_3; clear hcz09_0 hfz09_0 hcz09_1 hfz09_1 hcz09_2 hfz09_2 hcz09_3 hfz09_3))
    refine bodyPost_ret (results_cell_row rfl _ _ g0 27 #[.int .i64 9, .int .i64 0, .string (⟨#[]⟩ : ByteArray), .slice (some ⟨g16, 0, none⟩) 2 2] (0, 0) _ rfl B010.out Tryd.underlying27 rfl (by kernel_rfl)) rfl ?_
    have hg0 := G0.out
    have hg7 := G7.out
    have hg16 := G16.out
    have hg8 := G8.out
    have M := HM.out
    have M1 := HM1.out
    have s1 := HB1.out.size
    have l0 := blk_lt B0.out
    have s2 : w1.heap.size ≤ w2.heap.size := M1.size
    have s3 := HB3.out.size
    have s4 := O4.out.size
    have s5 := HB5.out.size
    have s6 := HB6.out.size
    have s7 := O7.out.size
    have s10 := O10.out.size
    have b78 : Below w2.heap.size w7 w8 := by rw [O8.out]; exact ⟨rfl, rfl, rfl, Nat.le_refl _, fun _ _ => rfl⟩
    have b29 : Below w2.heap.size w2 w9 := ((((((HB3.out.trans (O4.out.below (by omega))).trans ⟨HB5.out.os, HB5.out.tape, HB5.out.output, HB5.out.size, fun k hk => HB5.out.block k (by omega)⟩).trans ⟨HB6.out.os, HB6.out.tape, HB6.out.output, HB6.out.size, fun k hk => HB6.out.block k (by omega)⟩).trans (O7.out.below (by omega))).trans b78).trans (O9.out.below (by omega)))
    have s9 := b29.size
    have l16 := blk_lt B169.out
    have far : ∀ k, k < w2.heap.size → k ≠ g0 → w10.heap[k]? = w2.heap[k]? := fun k hk hn => (O10.out.block k hn).trans (b29.block k hk)
    have st : Stay w2 ok1 w10 (fun b o => ok1 b o ∨ b = g16) := stay_of _ (fun k hk ho => far k hk (by
      obtain ⟨o, ho⟩ := ho
      rcases M1.okb k o ho with h | h
      · have h : ok k o := h
        have := M.oks k o h; omega
      · have h : w1.heap.size ≤ k := h
        omega)) M1.oks (fun b o h => .inl h)
    refine ⟨_, fun b o => ok1 b o ∨ b = g16, rfl, ?_, fun b o h => .inl (HK1.out b o h), ?_⟩
    · exact {
        inv := hE.stable w2 w10 M1.inv (by omega) fun b hb => far b (by have : E.P.globals.size ≤ w.heap.size := M.gb; omega) (by have : E.P.globals.size ≤ w.heap.size := M.gb; omega)
        os := O10.out.os.trans (b29.os.trans (M1.os.trans HB1.out.os))
        tape := O10.out.tape.trans (b29.tape.trans (M1.tape.trans HB1.out.tape))
        output := O10.out.output.trans (b29.output.trans (M1.output.trans HB1.out.output))
        size := by show w.heap.size ≤ _; omega
        frame := fun k hk _ _ => by
          have hk : k < w.heap.size := hk
          exact (far k (by omega) (by omega)).trans ((M1.frame k (by show k < w1.heap.size; omega) (by simp) (by simp)).trans (HB1.out.block k hk))
        okb := fun b o h => by
          rcases h with h | h
          · rcases M1.okb b o h with h | h
            · exact .inl h
            · exact .inr (by have h : w1.heap.size ≤ b := h; show w.heap.size ≤ b; omega)
          · exact .inr (by show w.heap.size ≤ b; omega)
        oks := fun b o h => by
          rcases h with h | h
          · have := M1.oks b o h; omega
          · omega
        len := rfl
        box := fun i b h => by simp at h
        inj := fun i j b h => by simp at h
        tok := fun t r h => by simp at h
        tinj := fun t u r s g h => by simp at h
        gb := M.gb
        tsz := fun t r i h => by simp at h
        stk := .nil }
    · have hrow : RepC w10 (fun b o => ok1 b o ∨ b = g16) (.slice (some ⟨g16, 0, none⟩) 2 2) (.row [cellsE x, cellsE ⟨11, 0, e0, []⟩]) := by
        refine .row (some ⟨g16, 0, none⟩) 2 2 _ 4 (fun i => [Value.int .i64 x.f0, .int .i64 x.f1, .string x.f2, .slice A1 x.f3.length c1, .int .i64 11, .int .i64 0, .string ⟨#[]⟩, .slice none 0 0].getD i undef) rfl (Nat.le_refl _) (fun h => by cases h) (by decide) ?_ ?_ ?_
        · intro y hy
          simp only [List.mem_cons, List.not_mem_nil, or_false] at hy
          rcases hy with rfl | rfl <;> rfl
        · intro i hi
          have hi8 : i = 0 ∨ i = 1 ∨ i = 2 ∨ i = 3 ∨ i = 4 ∨ i = 5 ∨ i = 6 ∨ i = 7 := by omega
          rcases hi8 with rfl | rfl | rfl | rfl | rfl | rfl | rfl | rfl
          all_goals exact ⟨_, rfl, .inr rfl, (blk_cell B1610.out _).trans rfl⟩
        · intro i y j c hy hj
          match i with
          | 0 =>
            simp only [List.getElem?_cons_zero, Option.some.injEq] at hy
            subst hy
            match j with
            | 0 => simp at hj; subst hj; exact .int _ _
            | 1 => simp at hj; subst hj; exact .int _ _
            | 2 => simp at hj; subst hj; exact .str _
            | 3 => simp at hj; subst hj; exact HR1.out.stay st
            | j + 4 => simp at hj
          | 1 =>
            simp only [List.getElem?_cons_succ, List.getElem?_cons_zero, Option.some.injEq] at hy
            subst hy
            match j with
            | 0 => simp at hj; subst hj; exact .int _ _
            | 1 => simp at hj; subst hj; exact .int _ _
            | 2 => simp at hj; subst hj; exact .str _
            | 3 => simp at hj; subst hj; rw [encL]; exact RepC.nil.nil_row
            | j + 4 => simp at hj
          | i + 2 => simp at hy
      have hL : RepL (RepC w10 (fun b o => ok1 b o ∨ b = g16)) [.int .i64 9, .int .i64 0, .string (⟨#[]⟩ : ByteArray), .slice (some ⟨g16, 0, none⟩) 2 2] [.int .i64 9, .int .i64 0, .str e0, .row (encL [x, ⟨11, 0, e0, []⟩])] := by
        rw [encL_map]
        exact .cons (.int _ _) (.cons (.int _ _) (.cons (.str _) (.cons hrow .nil)))
      exact .agg _ _ hL
theorem Wild_ok (raw : List Int) (h1 : ∀ a ∈ raw, I64 a) (l1 : raw.length ≤ 9223372036854775807) (what by_ : Int) (hw : I64 what) (hb : I64 by_) : Ok E 10 [] [.c (.row (encN raw)), pI what, pI by_] (pE (wildF raw what by_)) [] := by
  by_cases h4 : pk what 10 = 4
  · have e : wildF raw what by_ = ⟨9, 0, e0, [stratF raw, ⟨11, 0, e0, []⟩]⟩ := by
      unfold wildF
      dsimp only
      rw [h4, if_neg (by decide), if_neg (by decide), if_neg (by decide), if_neg (by decide), if_pos rfl]
    rw [e]
    exact wild4 raw h1 l1 what by_ hw hb h4
  · exact wild_ok raw h1 l1 what by_ hw hb h4
end Go.Proofs.YtadpifnlkmeifaaDoor.Pm

/- The statement TreeTells, in the pure machine. -/
namespace Go.Proofs.YtadpifnlkmeifaaDoor.Pm
open Go Go.RowKit Go.Proofs.YtadpifnlkmeifaaDoor.Pl
open Go.Proofs.YtadpifnlkmeifaaDoor.Q (rngE rngA txtE txtA sameE sameA formT wordL moreL sepA)
set_option linter.unusedVariables false
set_option maxHeartbeats 1000000
/-- what may be asked of a tree -/
structure Tame (x : Ex) : Prop where
  rng : rngE x = true
  size : size x ≤ 1000000
theorem tame_node {k n : Int} {nm : ByteArray} {l : List Ex} (hn : I64 n) (hl : l.length < 1000) (h : ∀ x ∈ l, rngE x = true) (hs : sizeL l ≤ 999999) : Tame ⟨k, n, nm, l⟩ := ⟨rng_node hn hl h, by rw [size]; omega⟩
theorem cutN_tame {x : Ex} (h : rngE x = true) : ∀ j, rngE (cutN x j) = true ∧ size (cutN x j) = size x + j
  | 0 => ⟨h, by rw [cutN]; simp⟩
  | j + 1 => by
    obtain ⟨a, b⟩ := cutN_tame h j
    rw [cutN]
    exact ⟨rng_node ⟨by decide, by decide⟩ (by simp) (by simp [a]), by rw [size, sizeL, sizeL]; omega⟩
theorem minN_tame {x : Ex} (h : rngE x = true) : ∀ j, rngE (minN x j) = true ∧ size (minN x j) + 1 = (size x + 1) * 2 ^ j
  | 0 => ⟨h, by rw [minN]; simp⟩
  | j + 1 => by
    obtain ⟨a, b⟩ := minN_tame h j
    rw [minN]
    exact ⟨rng_node ⟨by decide, by decide⟩ (by simp) (by simp [a]), by rw [size, sizeL, sizeL, sizeL, Int.pow_succ, ← Int.mul_assoc]; omega⟩
theorem wild_tame (raw : List Int) (h : ∀ a ∈ raw, I64 a) (what by_ : Int) (hb : I64 by_) : Tame (wildF raw what by_) := by
  have hx := strat_small raw h
  unfold wildF
  obtain ⟨x, ex⟩ : ∃ x, stratF raw = x := ⟨_, rfl⟩
  rw [ex] at hx ⊢
  dsimp only
  have hr := hx.rng
  have hs := hx.size
  have r16 := pk_rng (c := by_) (n := 16) (by decide)
  have r36 := pk_rng (c := by_) (n := 36) (by decide)
  have r7 := pk_rng (c := by_) (n := 7) (by decide)
  have z0 : I64 0 := ⟨by decide, by decide⟩
  have s2 : sizeL [x, x] ≤ 999999 := by rw [sizeL, sizeL, sizeL]; omega
  have r2 : ∀ y ∈ [x, x], rngE y = true := by simp [hr]
  split
  · exact tame_node z0 (by simp) r2 s2
  split
  · exact tame_node hb (by simp) r2 s2
  split
  · exact tame_node z0 (by simp) r2 s2
  split
  · exact tame_node z0 (by simp) (by simp [hr]) (by rw [sizeL, sizeL]; omega)
  split
  · have ez : size ⟨11, 0, e0, []⟩ = 1 := by rw [size, sizeL]; rfl
    refine tame_node z0 (by simp) ?_ (by rw [sizeL, sizeL, sizeL, ez]; omega)
    intro y hy
    simp only [List.mem_cons, List.not_mem_nil, or_false] at hy
    rcases hy with rfl | rfl
    · exact hr
    · exact rng_node z0 (by simp) (fun y hy => by cases hy)
  split
  · exact tame_node z0 (by simp) (by simp [hr]) (by rw [sizeL, sizeL, sizeL, sizeL]; omega)
  split
  · exact tame_node z0 (by simp) (fun y hy => by cases hy) (by rw [sizeL]; decide)
  split
  · have r4 := pk_rng (c := what) (n := 4) (by decide)
    have hm : argsOf (3 + pk what 4) = 0 ∨ argsOf (3 + pk what 4) = 1 := by
      have : 3 + pk what 4 = 3 ∨ 3 + pk what 4 = 4 ∨ 3 + pk what 4 = 5 ∨ 3 + pk what 4 = 6 := by omega
      rcases this with h | h | h | h <;> rw [h] <;> decide
    rcases hm with hm | hm
    · rw [hm]
      exact tame_node hb (by simp) (fun y hy => by cases hy) (by show sizeL [] ≤ _; rw [sizeL]; decide)
    · rw [hm]
      exact tame_node hb (by simp) (by intro y hy; simp at hy; rw [hy]; exact hr) (by show sizeL [x] ≤ _; rw [sizeL, sizeL]; omega)
  split
  · obtain ⟨a, b⟩ := cutN_tame hr (pk by_ 36).toNat
    exact ⟨a, by rw [b]; omega⟩
  · obtain ⟨a, b⟩ := minN_tame hr (pk by_ 7).toNat
    refine ⟨a, ?_⟩
    obtain ⟨m, hm⟩ : ∃ m : Nat, (pk by_ 7).toNat = m := ⟨_, rfl⟩
    rw [hm] at b ⊢
    have hm7 : m ≤ 6 := by omega
    have : ∀ m : Nat, m ≤ 6 → (2 : Int) ^ m ≤ 64 := by decide
    have h2 := this m hm7
    have h3 : (size x + 1) * 2 ^ m ≤ (size x + 1) * 64 := Int.mul_le_mul_of_nonneg_left h2 (by have := size_pos x; omega)
    omega
end Go.Proofs.YtadpifnlkmeifaaDoor.Pm
