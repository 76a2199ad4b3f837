/- What the printed functions of layer 7 come to, in plain words. -/
import Derived.Test.YtjnbhdbpajnlgaaDoorQx4
import Derived.Test.YtjnbhdbpajnlgaaDoorQx6
import Derived.Test.YtjnbhdbpajnlgaaDoorDecT
import Derived.KernelRfl
set_option linter.unusedVariables false
set_option linter.unusedSimpArgs false
namespace Go.Proofs.YtjnbhdbpajnlgaaDoor.TreeF
open Go.RowKit Go.Proofs.YtjnbhdbpajnlgaaDoor.Q Go.Proofs.YtjnbhdbpajnlgaaDoor.Pl Go.Proofs.YtjnbhdbpajnlgaaDoorW.PrintWords Go.Proofs.YtjnbhdbpajnlgaaDoorW.PrintMore

/-- with rounds enough -/
def Soon {α : Type} (f : Nat → Option α) (r : α) : Prop := ∃ K, ∀ k, K ≤ k → f k = some r
theorem Soon.pure {α : Type} (r : α) : Soon (fun _ => some r) r := ⟨0, fun _ _ => rfl⟩
theorem Soon.const {α : Type} {o : Option α} {r : α} (h : o = some r) : Soon (fun _ => o) r := ⟨0, fun _ _ => h⟩
theorem Soon.bind {α β : Type} {f : Nat → Option α} {g : Nat → α → Option β} {a : α} {r : β} (hf : Soon f a) (hg : Soon (fun k => g k a) r) : Soon (fun k => (f k).bind (g k)) r := by
  obtain ⟨K1, h1⟩ := hf
  obtain ⟨K2, h2⟩ := hg
  refine ⟨max K1 K2, fun k hk => ?_⟩
  show (f k).bind (g k) = some r
  rw [h1 k (by omega)]
  exact h2 k (by omega)
theorem Soon.step {α : Type} {f b : Nat → Option α} {r : α} (h : ∀ k, f (k + 1) = b k) (hb : Soon b r) : Soon f r := by
  obtain ⟨K, hK⟩ := hb
  refine ⟨K + 1, fun k hk => ?_⟩
  obtain ⟨k, rfl⟩ : ∃ j, k = j + 1 := ⟨k - 1, by omega⟩
  rw [h]
  exact hK k (by omega)
theorem Soon.congr {α : Type} {f b : Nat → Option α} {r : α} (hb : Soon b r) (h : ∀ k, f k = b k) : Soon f r := by
  obtain ⟨K, hK⟩ := hb
  exact ⟨K, fun k hk => by rw [h]; exact hK k hk⟩
theorem Soon.const' {α : Type} {f : Nat → Option α} {r : α} (h : ∀ k, f k = some r) : Soon f r := ⟨0, fun k _ => h k⟩
theorem Soon.get {α : Type} {f : Nat → Option α} {r : α} (h : Soon f r) : ∃ k, f k = some r := ⟨h.choose, h.choose_spec _ (Nat.le_refl _)⟩
theorem w64 {x : Int} (h0 : -9223372036854775808 ≤ x) (h1 : x ≤ 9223372036854775807) : wrap64 x = x := by unfold wrap64; omega

/-! ### names -/
theorem idx_mem : ∀ (l : List UInt8) (c : UInt8), 0 ≤ Lib.indexByte l c → c ∈ l
  | [], c, h => by simp [Lib.indexByte] at h
  | x :: l, c, h => by
    by_cases hx : (x == c) = true
    · rw [beq_iff_eq] at hx
      subst hx
      exact List.mem_cons_self
    · rw [Lib.indexByte, if_neg hx] at h
      refine List.mem_cons_of_mem _ (idx_mem l c ?_)
      by_cases hm : (Lib.indexByte l c == -1) = true
      · rw [if_pos hm] at h
        exact absurd h (by decide)
      · have := Lib.indexByte_ge l c
        have h2 : Lib.indexByte l c ≠ -1 := by simpa using hm
        generalize Lib.indexByte l c = q at *
        omega
def inE (set : List UInt8) (c : UInt8) : Bool := decide (0 ≤ Lib.indexByte set c)
def runE (set : List UInt8) : List UInt8 → Nat
  | [] => 0
  | c :: l => if inE set c then runE set l + 1 else 0
theorem runE_all (set : List UInt8) : ∀ (l : List UInt8), runE set l = l.length → ∀ c ∈ l, inE set c = true
  | [], _, c, h => by cases h
  | x :: l, h, c, hc => by
    unfold runE at h
    by_cases hx : inE set x = true
    · rw [if_pos hx] at h
      rcases List.mem_cons.1 hc with rfl | hc
      · exact hx
      · exact runE_all set l (by simpa using h) c hc
    · rw [if_neg hx] at h
      simp at h
theorem in_eq (b : UInt8) (set : ByteArray) : lex_in.f (b.toNat : Int) set = some (inE set.data.toList b) := by
  unfold lex_in.f strings_IndexByte.f inE
  simp
theorem bt_at (s : ByteArray) (j : Nat) (b : UInt8) (h : s.data.toList[j]? = some b) : bt s (j : Int) = (b.toNat : Int) := by
  unfold bt
  obtain ⟨hj, he⟩ := List.getElem?_eq_some_iff.1 h
  have hs : j < s.size := by simpa using hj
  rw [dif_pos (by simpa using hs)]
  simp at he
  rw [← he]
  rfl
theorem run_eq (s set : ByteArray) (hs : s.size ≤ 281474976710656) : ∀ (m j : Nat), m + j = s.size → Soon (fun k => lex_run.l0 k s set (s.size : Int) (j : Int)) ((j + runE set.data.toList (s.data.toList.drop j) : Nat) : Int)
  | 0, j, h => by
    refine Soon.step (b := fun k => some (s.size : Int)) (fun k => ?_) ?_
    · rw [lex_run.l0]
      rw [if_neg (by omega)]
    · have : s.data.toList.drop j = [] := List.drop_of_length_le (by simp; omega)
      rw [this]
      refine Soon.const ?_
      simp [runE]
      omega
  | m + 1, j, h => by
    have hj : j < s.data.toList.length := by simp; omega
    have hd := List.drop_eq_getElem_cons hj
    have hb := bt_at s j _ (List.getElem?_eq_getElem hj)
    by_cases hin : inE set.data.toList (s.data.toList[j]) = true
    · have ih := run_eq s set hs m (j + 1) (by omega)
      refine Soon.step (b := fun k => lex_run.l0 k s set (s.size : Int) ((j + 1 : Nat) : Int)) (fun k => ?_) ?_
      · rw [lex_run.l0, if_pos (by omega), if_pos (by omega), if_pos (by omega), hb, in_eq, hin]
        simp only [Option.bind_some, if_true]
        rw [w64 (by omega) (by omega)]
        rfl
      · rw [hd, runE, if_pos hin]
        have e : j + (runE set.data.toList (s.data.toList.drop (j + 1)) + 1) = j + 1 + runE set.data.toList (s.data.toList.drop (j + 1)) := by omega
        rw [e]
        exact ih
    · refine Soon.step (b := fun k => some (j : Int)) (fun k => ?_) ?_
      · rw [lex_run.l0, if_pos (by omega), if_pos (by omega), if_pos (by omega), hb, in_eq]
        simp only [Option.bind_some]
        rw [if_neg hin]
      · rw [hd, runE, if_neg hin]
        exact Soon.pure _
def setA : List UInt8 := [97, 98, 99, 100, 101, 102, 103, 104, 105, 106, 107, 108, 109, 110, 111, 112, 113, 114, 115, 116, 117, 118, 119, 120, 121, 122]
def setN : List UInt8 := [97, 98, 99, 100, 101, 102, 103, 104, 105, 106, 107, 108, 109, 110, 111, 112, 113, 114, 115, 116, 117, 118, 119, 120, 121, 122, 48, 49, 50, 51, 52, 53, 54, 55, 56, 57]
def nameE (s : ByteArray) : Bool := match s.data.toList with
  | [] => false
  | c :: l => decide (s.size ≤ 12) && (inE setA c && (decide (runE setN (c :: l) = s.size) && !(Lib.containsS wordsB s)))
theorem Name_eq (s : ByteArray) : Soon (fun k => lex_Name.f k s) (nameE s) := by
  unfold lex_Name.f nameE
  rcases hl : s.data.toList with _ | ⟨c, l⟩
  · refine Soon.const' (fun k => ?_)
    rw [if_pos (by rw [Lib.toList_data]; exact hl)]
  · have hne : s.toList ≠ ([] : List UInt8) := by rw [Lib.toList_data, hl]; simp
    have hsz : s.size = l.length + 1 := by have := congrArg List.length hl; simpa using this
    by_cases h12 : s.size ≤ 12
    · have hb := bt_at s 0 c (by rw [hl]; rfl)
      have hb' : bt s 0 = (c.toNat : Int) := hb
      have hin := in_eq c ⟨setA.toArray⟩
      by_cases hA : inE setA c = true
      · have hrun := run_eq s ⟨setN.toArray⟩ (by omega) s.size 0 (by omega)
        refine Soon.congr (b := fun k => (lex_run.f k s ⟨setN.toArray⟩).bind fun t171 => if t171 = (s.size : Int) then (lex_Word.f s).bind fun t172 => some (!t172) else some false) ?_ (fun k => ?_)
        · refine Soon.bind (a := ((0 + runE setN (s.data.toList.drop 0) : Nat) : Int)) hrun ?_
          rw [List.drop_zero, hl, Nat.zero_add]
          by_cases hr : runE setN (c :: l) = s.size
          · refine Soon.const ?_
            rw [if_pos (by omega)]
            simp [lex_Word.f, h12, hA, hr]
          · refine Soon.const ?_
            rw [if_neg (by omega)]
            simp [hr]
        · rw [if_neg hne, if_pos (by omega), if_pos (by omega), hb']
          rw [show (⟨#[97, 98, 99, 100, 101, 102, 103, 104, 105, 106, 107, 108, 109, 110, 111, 112, 113, 114, 115, 116, 117, 118, 119, 120, 121, 122]⟩ : ByteArray) = ⟨setA.toArray⟩ from rfl, hin]
          simp only [Option.bind_some]
          rw [if_pos (by simpa using hA)]
          rfl
      · refine Soon.const' (fun k => ?_)
        rw [if_neg hne, if_pos (by omega), if_pos (by omega), hb']
        rw [show (⟨#[97, 98, 99, 100, 101, 102, 103, 104, 105, 106, 107, 108, 109, 110, 111, 112, 113, 114, 115, 116, 117, 118, 119, 120, 121, 122]⟩ : ByteArray) = ⟨setA.toArray⟩ from rfl, hin]
        simp only [Option.bind_some]
        rw [if_neg (by simpa using hA)]
        simp [hA]
    · refine Soon.const' (fun k => ?_)
      rw [if_neg hne, if_neg (by omega)]
      simp [h12]

/-! ### what may be -/
def condE (k : Int) : Bool := k == 11 || k == 12
def namedE (k : Int) (nm : ByteArray) : Bool := if k = 3 then nameE nm else nm.toList == ([] : List UInt8)
mutual
def fineE : Int → Bool → S26 → Bool
  | d, c, ⟨k, n, nm, l⟩ => match formT k with
    | none => false
    | some (_, m, a) => decide (1 ≤ d) && ((condE k == c) && (decide (0 ≤ n ∧ n ≤ m) && (decide ((l.length : Int) = a) && (namedE k nm && fineA (d - 1) (k == 10) l))))
def fineA : Int → Bool → List S26 → Bool
  | _, _, [] => true
  | d, c, x :: l => fineE d c x && fineA d false l
end
theorem named_eq (k n : Int) (nm : ByteArray) (l : List S26) : Soon (fun r => tree_named.f r k n nm l) (namedE k nm) := by
  unfold tree_named.f namedE
  by_cases h : k = 3
  · rw [if_pos h]
    refine Soon.congr (b := fun r => (lex_Name.f r nm).bind fun t => some t) (Soon.bind (Name_eq nm) (Soon.pure _)) (fun r => ?_)
    rw [if_pos h]
  · rw [if_neg h]
    refine Soon.const' (fun r => ?_)
    rw [if_neg h]
theorem cond_eq (k : Int) : tree_condition.f k = some (condE k) := by
  unfold tree_condition.f condE
  by_cases h : k = 11
  · rw [if_pos h, h]; rfl
  · rw [if_neg h, show (k == 11) = false from beq_eq_false_iff_ne.2 h, Bool.false_or]
theorem formT_args (k : Int) (w : List UInt8) (m a : Int) (h : formT k = some (w, m, a)) : 0 ≤ a ∧ a ≤ 3 ∧ 0 ≤ m ∧ m ≤ 1000000000000 := by
  unfold formT at h
  split at h
  all_goals first
    | (simp only [Option.some.injEq, Prod.mk.injEq] at h; obtain ⟨_, rfl, rfl⟩ := h; decide)
    | exact absurd h (by simp)
theorem rd_T26_drop (l : List S26) (j : Nat) (x : S26) (r : List S26) (h : l.drop j = x :: r) : rd_T26 l (j : Int) = x ∧ l.drop (j + 1) = r ∧ j < l.length := by
  have hj : j < l.length := by
    rcases Nat.lt_or_ge j l.length with h' | h'
    · exact h'
    · rw [List.drop_of_length_le h'] at h; cases h
  rw [List.drop_eq_getElem_cons hj] at h
  injection h with h1 h2
  refine ⟨?_, h2, hj⟩
  unfold rd_T26
  rw [Int.toNat_natCast, List.getD_eq_getElem?_getD, List.getElem?_eq_getElem hj, Option.getD_some]
  exact h1
mutual
theorem fine_eq : ∀ (x : S26) (d : Int) (c : Bool), -4611686018427387904 ≤ d → d ≤ 4611686018427387904 → Soon (fun k => tree_fine.f k x.f0 x.f1 x.f2 x.f3 d c) (fineE d c x)
  | ⟨k, n, nm, l⟩, d, c, hd0, hd1 => by
    show Soon (fun r => tree_fine.f r k n nm l d c) _
    have stop : ∀ (b : Nat → Option Bool), (∀ r, b r = tree_fine.j0 r d true k n nm l) → Soon b false := by
      intro b hb
      refine Soon.congr (b := fun r => tree_fine.j0 r d true k n nm l) ?_ hb
      refine Soon.step (b := fun r => some false) (fun r => ?_) (Soon.pure _)
      rw [tree_fine.j0, if_pos rfl]
    rcases hF : formT k with _ | ⟨w, m, a⟩
    · have e : fineE d c ⟨k, n, nm, l⟩ = false := by rw [fineE, hF]
      rw [e]
      refine Soon.step (b := fun r => tree_fine.j0 r d true k n nm l) (fun r => ?_) (stop _ (fun r => rfl))
      rw [tree_fine.f, show tree_Form.f k = some (⟨#[]⟩, 0, 0, false) by rw [tree_Form.f, hF]]
      simp only [Option.bind_some]
      rw [if_neg (by decide)]
    · obtain ⟨ha0, ha3, hm0, hm1⟩ := formT_args k w m a hF
      have e : fineE d c ⟨k, n, nm, l⟩ = (decide (1 ≤ d) && ((condE k == c) && (decide (0 ≤ n ∧ n ≤ m) && (decide ((l.length : Int) = a) && (namedE k nm && fineA (d - 1) (k == 10) l))))) := by rw [fineE, hF]
      rw [e]
      have hform : tree_Form.f k = some (⟨w.toArray⟩, m, a, true) := by rw [tree_Form.f, hF]
      by_cases h1 : 1 ≤ d
      case neg =>
        rw [decide_eq_false h1, Bool.false_and]
        refine Soon.step (b := fun r => tree_fine.j0 r d true k n nm l) (fun r => ?_) (stop _ (fun r => rfl))
        rw [tree_fine.f, hform]
        simp only [Option.bind_some, if_true]
        rw [if_pos (by omega)]
      by_cases h2 : (condE k == c) = true
      case neg =>
        rw [Bool.eq_false_iff.2 h2, Bool.false_and, Bool.and_false]
        refine Soon.step (b := fun r => tree_fine.j0 r d true k n nm l) (fun r => ?_) (stop _ (fun r => rfl))
        rw [tree_fine.f, hform, cond_eq]
        simp only [Option.bind_some, if_true]
        rw [if_neg (by omega), if_pos (by simpa [bne] using h2)]
      by_cases h3 : 0 ≤ n ∧ n ≤ m
      case neg =>
        rw [decide_eq_false h3, Bool.false_and, Bool.and_false, Bool.and_false]
        refine Soon.step (b := fun r => tree_fine.j0 r d true k n nm l) (fun r => ?_) (stop _ (fun r => rfl))
        rw [tree_fine.f, hform, cond_eq]
        simp only [Option.bind_some, if_true]
        rw [if_neg (by omega), if_neg (by simpa [bne] using h2)]
        by_cases h4 : n < 0
        · rw [if_pos h4]
        · rw [if_neg h4, if_pos (by omega)]
      by_cases h5 : (l.length : Int) = a
      case neg =>
        rw [decide_eq_false h5, Bool.false_and, Bool.and_false, Bool.and_false, Bool.and_false]
        refine Soon.step (b := fun r => tree_fine.j0 r d true k n nm l) (fun r => ?_) (stop _ (fun r => rfl))
        rw [tree_fine.f, hform, cond_eq]
        simp only [Option.bind_some, if_true]
        rw [if_neg (by omega), if_neg (by simpa [bne] using h2), if_neg (by omega), if_neg (by omega), if_neg h5]
      have hgo : ∀ r, tree_fine.f (r + 1) k n nm l d c = (tree_named.f r k n nm l).bind fun t => tree_fine.j0 r d (!t) k n nm l := by
        intro r
        rw [tree_fine.f, hform, cond_eq]
        simp only [Option.bind_some, if_true]
        rw [if_neg (by omega), if_neg (by simpa [bne] using h2), if_neg (by omega), if_neg (by omega), if_pos h5]
      refine Soon.step hgo (Soon.bind (named_eq k n nm l) ?_)
      rw [decide_eq_true h1, h2, decide_eq_true h3, decide_eq_true h5]
      simp only [Bool.true_and]
      by_cases h6 : namedE k nm = true
      case neg =>
        rw [Bool.eq_false_iff.2 h6, Bool.false_and]
        exact stop _ (fun r => rfl)
      rw [h6, Bool.true_and]
      refine Soon.step (b := fun r => tree_fine.l0 r d l (l.length : Int) 0 k n nm l) (fun r => ?_) ?_
      · rw [tree_fine.j0, if_neg (by decide)]
      · exact fine_loop k n nm l (by omega) l d 0 (by omega) (by omega) rfl (k == 10) (by simp)
theorem fine_loop (k n : Int) (nm : ByteArray) (l : List S26) (hl : l.length ≤ 3) : ∀ (m : List S26) (d : Int) (j : Nat), 1 ≤ d → d ≤ 4611686018427387904 → l.drop j = m → ∀ (c : Bool), c = (k == 10 && j == 0) → Soon (fun r => tree_fine.l0 r d l (l.length : Int) (j : Int) k n nm l) (fineA (d - 1) c m)
  | [], d, j, _, _, hm, c, _ => by
    have hj : l.length ≤ j := List.drop_eq_nil_iff.1 hm
    refine Soon.step (b := fun r => some true) (fun r => ?_) (by rw [fineA]; exact Soon.pure _)
    rw [tree_fine.l0, if_neg (by omega)]
  | x :: m, d, j, h1, h2, hm, c, hc => by
    obtain ⟨hx, hm2, hj⟩ := rd_T26_drop l j x m hm
    have ih := fine_loop k n nm l hl m d (j + 1) h1 h2 hm2 false (by simp)
    have ihx := fine_eq x (d - 1) c (by omega) (by omega)
    have hgo : ∀ r, tree_fine.l0 (r + 1) d l (l.length : Int) (j : Int) k n nm l = (tree_fine.f r x.f0 x.f1 x.f2 x.f3 (d - 1) c).bind fun t => if t = true then tree_fine.l0 r d l (l.length : Int) ((j + 1 : Nat) : Int) k n nm l else some false := by
      intro r
      rw [tree_fine.l0, if_pos (by omega), if_pos (by omega), if_pos (by omega), hx, w64 (by omega) (by omega), w64 (by omega) (by omega)]
      by_cases hk : k = 10
      · have e : ((j : Int) == 0) = c := by
          rw [hc, hk]
          by_cases hj0 : j = 0
          · subst hj0; rfl
          · have h3 : ((j : Int) == 0) = false := beq_eq_false_iff_ne.2 (by omega)
            have h4 : (j == 0) = false := beq_eq_false_iff_ne.2 hj0
            rw [h3, h4]; rfl
        rw [if_pos hk, e]
        rfl
      · have e : false = c := by rw [hc, show (k == 10) = false from beq_eq_false_iff_ne.2 hk]; rfl
        rw [if_neg hk, e]
        rfl
    refine Soon.step hgo (Soon.bind ihx ?_)
    rw [fineA]
    by_cases hf : fineE (d - 1) c x = true
    · rw [hf, Bool.true_and]
      simp only [if_true]
      exact ih
    · rw [Bool.eq_false_iff.2 hf, Bool.false_and]
      exact Soon.const' (fun r => by simp)
end

/-! ### sizes -/
mutual
def sizeE : S26 → Nat
  | ⟨_, _, _, l⟩ => 1 + sizeA l
def sizeA : List S26 → Nat
  | [] => 0
  | x :: l => sizeE x + sizeA l
end
theorem sizeE_pos : ∀ x, 1 ≤ sizeE x
  | ⟨_, _, _, l⟩ => by rw [sizeE]; omega
theorem sizeA_len : ∀ l : List S26, l.length ≤ sizeA l
  | [] => Nat.le_refl _
  | x :: l => by
    have := sizeE_pos x
    have := sizeA_len l
    rw [sizeA, List.length_cons]
    omega
theorem textL_le (n : Int) : (textL n).length ≤ 24 := by
  by_cases h : okA n
  · rw [textL_ok h]
    have := DecT.digs_len (n.natAbs / 100)
    simp only [List.length_append, List.length_cons, List.length_nil]
    split <;> simp <;> omega
  · rw [textL_no h]; simp
theorem textL_ne (n : Int) (h0 : 0 ≤ n) (h1 : n ≤ 1000000000000) : textL n ≠ [] := by
  rw [textL_ok (by unfold okA; omega)]
  simp
theorem intL_le (n : Int) : (intL n).length ≤ 21 := by
  unfold intL
  split
  · have := DecT.digs_len n.natAbs
    simp
    omega
  · have := DecT.digs_len n.toNat
    omega
theorem wordL_le (k : Int) : (wordL k).length ≤ 6 := by
  unfold wordL formT
  split <;> simp
theorem nameE_le (s : ByteArray) (h : nameE s = true) : s.data.toList.length ≤ 12 := by
  unfold nameE at h
  split at h
  · exact absurd h (by simp)
  · rename_i c l hl
    rw [Bool.and_eq_true] at h
    have := of_decide_eq_true h.1
    simpa using this
theorem more_le (k n : Int) (nm : ByteArray) (b : Bool) (h : namedE k nm = true) : (sepA b (moreL k n nm)).length ≤ 26 := by
  unfold moreL
  have h1 := textL_le n
  have h2 := intL_le n
  by_cases h3 : k = 3
  · rw [if_pos h3]
    unfold namedE at h
    rw [if_pos h3] at h
    have := nameE_le nm h
    simp only [sepA, List.length_append, List.length_nil]
    split <;> simp at * <;> omega
  · rw [if_neg h3]
    by_cases h5 : k = 5
    · rw [if_pos h5]
      simp only [sepA, List.length_append, List.length_nil]
      split <;> simp <;> omega
    · rw [if_neg h5]
      by_cases h6 : k = 6 ∨ k = 11
      · rw [if_pos h6]
        simp only [sepA, List.length_append, List.length_nil]
        split <;> simp <;> omega
      · rw [if_neg h6]
        simp [sepA]
theorem fine_open (d : Int) (c : Bool) (k n : Int) (nm : ByteArray) (l : List S26) (h : fineE d c ⟨k, n, nm, l⟩ = true) : ∃ w m a, formT k = some (w, m, a) ∧ 1 ≤ d ∧ condE k = c ∧ 0 ≤ n ∧ n ≤ m ∧ m ≤ 1000000000000 ∧ (l.length : Int) = a ∧ a ≤ 3 ∧ namedE k nm = true ∧ fineA (d - 1) (k == 10) l = true := by
  rw [fineE] at h
  rcases hF : formT k with _ | ⟨w, m, a⟩
  · rw [hF] at h
    exact absurd h (by simp)
  · rw [hF] at h
    simp only [Bool.and_eq_true, decide_eq_true_eq, beq_iff_eq] at h
    obtain ⟨h1, h2, ⟨h3, h4⟩, h5, h6, h7⟩ := h
    obtain ⟨_, ha3, _, hm1⟩ := formT_args k w m a hF
    exact ⟨w, m, a, rfl, h1, h2, h3, h4, hm1, h5, ha3, h6, h7⟩
mutual
theorem fine_facts : ∀ (x : S26) (m : Nat) (c : Bool), fineE (m : Int) c x = true → sizeE x ≤ 4 ^ m ∧ rngE x = true ∧ txtE x ≠ [] ∧ (txtE x).length + 2 ≤ 62 * sizeE x
  | ⟨k, n, nm, l⟩, m, c, h => by
    obtain ⟨w, mm, a, hF, h1, h2, h3, h4, h5, h6, h7, h8, h9⟩ := fine_open _ c k n nm l h
    obtain ⟨m', rfl⟩ : ∃ m', m = m' + 1 := ⟨m - 1, by omega⟩
    rw [show ((m' + 1 : Nat) : Int) - 1 = (m' : Int) by omega] at h9
    obtain ⟨i1, i2, i3⟩ := fine_factsA l m' (k == 10) h9
    refine ⟨?_, ?_, ?_, ?_⟩
    · rw [sizeE, Nat.pow_succ]
      have hp : 1 ≤ 4 ^ m' := Nat.one_le_pow _ _ (by decide)
      have hl : l.length ≤ 3 := by omega
      have : l.length * 4 ^ m' ≤ 3 * 4 ^ m' := Nat.mul_le_mul_right _ hl
      omega
    · rw [rngE, i2, Bool.and_true]
      exact decide_eq_true ⟨⟨by omega, by omega⟩, by omega⟩
    · rw [txtE]
      by_cases k4 : k = 4
      · rw [if_pos k4]; exact textL_ne n h3 (by omega)
      · rw [if_neg k4]
        by_cases k12 : k = 1 ∨ k = 2
        · rw [if_pos k12]
          rcases k12 with rfl | rfl <;> decide
        · rw [if_neg k12]; simp
    · rw [txtE, sizeE]
      have t1 := textL_le n
      have t2 := wordL_le k
      have t3 := more_le k n nm (k == 3 || l.isEmpty) h8
      by_cases k4 : k = 4
      · rw [if_pos k4]; omega
      · rw [if_neg k4]
        by_cases k12 : k = 1 ∨ k = 2
        · rw [if_pos k12]; omega
        · rw [if_neg k12]
          have t4 := i3 true
          by_cases k3 : k = 3
          · rw [if_pos k3]
            simp only [List.length_append, List.length_cons, List.length_nil]
            omega
          · rw [if_neg k3]
            simp only [List.length_append, List.length_cons, List.length_nil]
            omega
theorem fine_factsA : ∀ (l : List S26) (m : Nat) (c : Bool), fineA (m : Int) c l = true → sizeA l ≤ l.length * 4 ^ m ∧ rngA l = true ∧ ∀ b, (txtA b l).length ≤ 62 * sizeA l
  | [], m, c, _ => ⟨by simp [sizeA], rfl, fun b => by simp [txtA]⟩
  | x :: l, m, c, h => by
    rw [fineA, Bool.and_eq_true] at h
    obtain ⟨a1, a2, a3, a4⟩ := fine_facts x m c h.1
    obtain ⟨b1, b2, b3⟩ := fine_factsA l m false h.2
    refine ⟨?_, ?_, fun b => ?_⟩
    · rw [sizeA, List.length_cons, Nat.add_mul]; omega
    · rw [rngA, a2, b2]; rfl
    · rw [txtA, sizeA]
      have := b3 false
      simp only [List.length_append]
      split <;> simp <;> omega
end

mutual
theorem size_eq : ∀ (x : S26), sizeE x < 4611686018427387904 → Soon (fun r => tree_Size.f r x.f0 x.f1 x.f2 x.f3) (sizeE x : Int)
  | ⟨k, n, nm, l⟩, h => by
    show Soon (fun r => tree_Size.f r k n nm l) _
    rw [sizeE] at h ⊢
    have := size_loop l (by have := sizeA_len l; omega) l 0 1 rfl (by omega)
    refine Soon.step (b := fun r => tree_Size.l0 r 1 l (l.length : Int) 0) (fun r => by rw [tree_Size.f]) ?_
    exact this
theorem size_loop (l : List S26) (hl : l.length < 4611686018427387904) : ∀ (m : List S26) (j s : Nat), l.drop j = m → s + sizeA m < 4611686018427387904 → Soon (fun r => tree_Size.l0 r (s : Int) l (l.length : Int) (j : Int)) ((s + sizeA m : Nat) : Int)
  | [], j, s, hm, hs => by
    have hj : l.length ≤ j := List.drop_eq_nil_iff.1 hm
    refine Soon.step (b := fun r => some (s : Int)) (fun r => ?_) (by rw [sizeA, Nat.add_zero]; exact Soon.pure _)
    rw [tree_Size.l0, if_neg (by omega)]
  | x :: m, j, s, hm, hs => by
    obtain ⟨hx, hm2, hj⟩ := rd_T26_drop l j x m hm
    rw [sizeA] at hs ⊢
    have ihx := size_eq x (by omega)
    have ih := size_loop l hl m (j + 1) (s + sizeE x) hm2 (by omega)
    refine Soon.step (b := fun r => (tree_Size.f r x.f0 x.f1 x.f2 x.f3).bind fun t => tree_Size.l0 r (wrap64 ((s : Int) + t)) l (l.length : Int) (wrap64 ((j : Int) + 1))) (fun r => ?_) ?_
    · rw [tree_Size.l0, if_pos (by omega), if_pos (by omega), if_pos (by omega), hx]
    · refine Soon.bind ihx ?_
      rw [w64 (by omega) (by omega), w64 (by omega) (by omega)]
      rw [show s + (sizeE x + sizeA m) = s + sizeE x + sizeA m by omega]
      exact ih
end
theorem text_eq : ∀ (x : S26), rngE x = true → txtE x ≠ [] → (txtE x).length ≤ 70368744177664 → tree_text.f x.f0 x.f1 x.f2 x.f3 = some (B (txtE x))
  | ⟨k, n, nm, l⟩, h2, h3, h4 => by
    unfold tree_text.f
    exact if_pos ⟨h2, h3, h4⟩
/-- what may be a strategy -/
def rightE (x : S26) : Bool := fineE 32 false x && (decide (sizeE x ≤ 2000) && decide ((txtE x).length ≤ 2000))
theorem fine32 (x : S26) (h : fineE 32 false x = true) : sizeE x ≤ 18446744073709551616 / 1 ∧ rngE x = true ∧ txtE x ≠ [] ∧ (txtE x).length + 2 ≤ 62 * sizeE x := by
  have := fine_facts x 32 false h
  exact ⟨by omega, this.2⟩
mutual
theorem size32 : ∀ (x : S26) (m : Nat) (c : Bool), fineE (m : Int) c x = true → 2 * sizeE x + 1 ≤ 3 ^ (m + 1)
  | ⟨k, n, nm, l⟩, m, c, h => by
    obtain ⟨w, mm, a, hF, h1, h2, h3, h4, h5, h6, h7, h8, h9⟩ := fine_open _ c k n nm l h
    obtain ⟨m', rfl⟩ : ∃ m', m = m' + 1 := ⟨m - 1, by omega⟩
    rw [show ((m' + 1 : Nat) : Int) - 1 = (m' : Int) by omega] at h9
    have i1 := size32A l m' (k == 10) h9
    have hl : l.length ≤ 3 := by omega
    have : l.length * 3 ^ (m' + 1) ≤ 3 * 3 ^ (m' + 1) := Nat.mul_le_mul_right _ hl
    rw [sizeE, Nat.pow_succ]
    have hq : 1 ≤ 3 ^ (m' + 1) := Nat.one_le_pow _ _ (by decide)
    rcases Nat.lt_or_ge l.length 3 with h3' | h3'
    · have : l.length * 3 ^ (m' + 1) ≤ 2 * 3 ^ (m' + 1) := Nat.mul_le_mul_right _ (by omega)
      have hq2 : 3 ≤ 3 ^ (m' + 1) := by rw [Nat.pow_succ]; have := Nat.one_le_pow m' 3 (by decide); omega
      omega
    · omega
theorem size32A : ∀ (l : List S26) (m : Nat) (c : Bool), fineA (m : Int) c l = true → 2 * sizeA l + l.length ≤ l.length * 3 ^ (m + 1)
  | [], m, c, _ => by simp [sizeA]
  | x :: l, m, c, h => by
    rw [fineA, Bool.and_eq_true] at h
    have a1 := size32 x m c h.1
    have b1 := size32A l m false h.2
    rw [sizeA, List.length_cons, Nat.add_mul]
    omega
end
theorem right_eq (x : S26) : Soon (fun r => tree_Right.f r x.f0 x.f1 x.f2 x.f3) (rightE x) := by
  unfold tree_Right.f rightE
  refine Soon.bind (fine_eq x 32 false (by decide) (by decide)) ?_
  by_cases hf : fineE 32 false x = true
  · obtain ⟨_, h2, h3, h4⟩ := fine32 x hf
    have hs := size32 x 32 false hf
    have hs2 : sizeE x < 4611686018427387904 := by
      have : (3 : Nat) ^ (32 + 1) = 5559060566555523 := by decide
      omega
    rw [hf]
    simp only [if_true, Bool.true_and]
    refine Soon.bind (size_eq x hs2) ?_
    by_cases hz : sizeE x ≤ 2000
    · rw [if_pos (by omega), decide_eq_true hz, Bool.true_and]
      refine Soon.const ?_
      have e := text_eq x h2 h3 (by omega)
      rw [e]
      simp only [Option.bind_some, Option.some.injEq]
      rw [B_size]
      congr 1
      simp
      omega
    · rw [if_neg (by omega), decide_eq_false hz]
      exact Soon.pure _
  · rw [Bool.eq_false_iff.2 hf]
    exact Soon.const' (fun r => by simp)
theorem print_eq (x : S26) : Soon (fun r => tree_Print.f r x.f0 x.f1 x.f2 x.f3) (if rightE x then (B (txtE x), 0) else (⟨#[]⟩, 1)) := by
  unfold tree_Print.f
  refine Soon.bind (right_eq x) ?_
  by_cases hr : rightE x = true
  · rw [hr]
    simp only [if_true]
    have hr' := hr
    unfold rightE at hr'
    simp only [Bool.and_eq_true, decide_eq_true_eq] at hr'
    obtain ⟨_, h2, h3, h4⟩ := fine32 x hr'.1
    have e := text_eq x h2 h3 (by omega)
    exact Soon.const (by rw [e]; rfl)
  · rw [Bool.eq_false_iff.2 hr]
    exact Soon.const' (fun r => by simp)
/-! ### the document's Same -/
mutual
theorem same_eq : ∀ (x y : S26), rngE x = true → Soon (fun r => hagglerref07_Same.f r x.f0 x.f1 x.f2 x.f3 y.f0 y.f1 y.f2 y.f3) (sameE x y)
  | ⟨k, n, nm, l⟩, y, h => by
    show Soon (fun r => hagglerref07_Same.f r k n nm l y.f0 y.f1 y.f2 y.f3) _
    have stop : ∀ (b : Nat → Option Bool), (∀ r, b r = hagglerref07_Same.j0 r true k n nm l y.f0 y.f1 y.f2 y.f3) → Soon b false := by
      intro b hb
      refine Soon.congr (b := fun r => hagglerref07_Same.j0 r true k n nm l y.f0 y.f1 y.f2 y.f3) ?_ hb
      refine Soon.step (b := fun r => some false) (fun r => ?_) (Soon.pure _)
      rw [hagglerref07_Same.j0, if_pos rfl]
    rw [rngE, Bool.and_eq_true, decide_eq_true_eq] at h
    rw [sameE]
    by_cases h0 : k = y.f0
    case neg =>
      rw [show (k == y.f0) = false from beq_eq_false_iff_ne.2 h0, Bool.false_and]
      refine Soon.step (b := fun r => hagglerref07_Same.j0 r true k n nm l y.f0 y.f1 y.f2 y.f3) (fun r => ?_) (stop _ (fun r => rfl))
      rw [hagglerref07_Same.f, if_neg h0]
    by_cases h1 : n = y.f1
    case neg =>
      rw [show (n == y.f1) = false from beq_eq_false_iff_ne.2 h1, Bool.false_and, Bool.and_false]
      refine Soon.step (b := fun r => hagglerref07_Same.j0 r true k n nm l y.f0 y.f1 y.f2 y.f3) (fun r => ?_) (stop _ (fun r => rfl))
      rw [hagglerref07_Same.f, if_pos h0, if_neg h1]
    by_cases h2 : nm.toList = y.f2.toList
    case neg =>
      rw [show (nm.toList == y.f2.toList) = false from beq_eq_false_iff_ne.2 h2, Bool.false_and, Bool.and_false, Bool.and_false]
      refine Soon.step (b := fun r => hagglerref07_Same.j0 r true k n nm l y.f0 y.f1 y.f2 y.f3) (fun r => ?_) (stop _ (fun r => rfl))
      rw [hagglerref07_Same.f, if_pos h0, if_pos h1, if_neg h2]
    rw [show (k == y.f0) = true from beq_iff_eq.2 h0, show (n == y.f1) = true from beq_iff_eq.2 h1, show (nm.toList == y.f2.toList) = true from beq_iff_eq.2 h2]
    simp only [Bool.true_and]
    refine Soon.step (b := fun r => hagglerref07_Same.j0 r ((l.length : Int) != (y.f3.length : Int)) k n nm l y.f0 y.f1 y.f2 y.f3) (fun r => ?_) ?_
    · rw [hagglerref07_Same.f, if_pos h0, if_pos h1, if_pos h2]
    · by_cases hlen : l.length = y.f3.length
      · refine Soon.step (b := fun r => hagglerref07_Same.l0 r 0 k n nm l y.f0 y.f1 y.f2 y.f3) (fun r => ?_) ?_
        · rw [hagglerref07_Same.j0, if_neg (by simp [hlen])]
        · exact same_loop k n nm l y h.1.2 hlen h.2 l 0 rfl h.2
      · rw [sameA_len l y.f3 hlen]
        refine Soon.step (b := fun r => some false) (fun r => ?_) (Soon.pure _)
        rw [hagglerref07_Same.j0, if_pos (by simp; omega)]
theorem same_loop (k n : Int) (nm : ByteArray) (l : List S26) (y : S26) (hl : l.length < 4611686018427387904) (hlen : l.length = y.f3.length) (hr : rngA l = true) : ∀ (m : List S26) (j : Nat), l.drop j = m → rngA m = true → Soon (fun r => hagglerref07_Same.l0 r (j : Int) k n nm l y.f0 y.f1 y.f2 y.f3) (sameA m (y.f3.drop j))
  | [], j, hm, _ => by
    have hj : l.length ≤ j := List.drop_eq_nil_iff.1 hm
    have e : y.f3.drop j = [] := List.drop_eq_nil_iff.2 (by omega)
    rw [e]
    refine Soon.step (b := fun r => some true) (fun r => ?_) (Soon.pure _)
    rw [hagglerref07_Same.l0, if_neg (by omega)]
  | x :: m, j, hm, hrm => by
    obtain ⟨hx, hm2, hj⟩ := rd_T26_drop l j x m hm
    have hjm : j < y.f3.length := by omega
    have hd := List.drop_eq_getElem_cons hjm
    obtain ⟨hz, hz2, _⟩ := rd_T26_drop y.f3 j _ _ hd
    rw [rngA, Bool.and_eq_true] at hrm
    have ihx := same_eq x (y.f3[j]) hrm.1
    have ih := same_loop k n nm l y hl hlen hr m (j + 1) hm2 hrm.2
    rw [hd, sameA]
    refine Soon.step (b := fun r => (hagglerref07_Same.f r x.f0 x.f1 x.f2 x.f3 (y.f3[j]).f0 (y.f3[j]).f1 (y.f3[j]).f2 (y.f3[j]).f3).bind fun t => if t = true then hagglerref07_Same.l0 r ((j + 1 : Nat) : Int) k n nm l y.f0 y.f1 y.f2 y.f3 else some false) (fun r => ?_) ?_
    · rw [hagglerref07_Same.l0, if_pos (by omega), if_pos (by omega), if_pos (by omega), hx, hz, w64 (by omega) (by omega)]
      rfl
    · refine Soon.bind ihx ?_
      by_cases hs : sameE x (y.f3[j]) = true
      · rw [hs, Bool.true_and]
        simp only [if_true]
        exact ih
      · rw [Bool.eq_false_iff.2 hs, Bool.false_and]
        exact Soon.const' (fun r => by simp)
end
end Go.Proofs.YtjnbhdbpajnlgaaDoor.TreeF
