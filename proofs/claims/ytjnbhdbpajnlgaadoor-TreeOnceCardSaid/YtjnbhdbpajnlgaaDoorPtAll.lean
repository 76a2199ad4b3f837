/- Texts that are merged: PtA, PtB, PtC, PtD, PtE, PtF, PtG, PtH, PtI, PtJ, PtK, PtL, PtM, PtN, PtO. -/
import Derived.Test.YtjnbhdbpajnlgaaDoorPmAll
import Derived.Test.YtjnbhdbpajnlgaaDoorQx0
import Derived.Test.YtjnbhdbpajnlgaaDoorExtW
import Derived.Test.YtjnbhdbpajnlgaaDoorExtS1
import Derived.Test.YtjnbhdbpajnlgaaDoorDecT
/- Trees of raw numbers, in the pure machine: numbers, names. -/
namespace Go.Proofs.YtjnbhdbpajnlgaaDoor.Pm
open Go
set_option linter.unusedVariables false
set_option maxHeartbeats 400000
abbrev pI (n : Int) : PV := .c (.int .i64 n)
abbrev pB (b : Bool) : PV := .c (.bool b)
abbrev pS (s : ByteArray) : PV := .c (.str s)
/-- a row of numbers -/
def encN (l : List Int) : List (List CV) := l.map fun n => [.int .i64 n]
def pk (c n : Int) : Int := if c < 0 then (-(c + 1)).tmod n else c.tmod n
theorem pk_rng {c n : Int} (hn : 0 < n) : 0 ≤ pk c n ∧ pk c n < n := by
  unfold pk
  split
  · rw [Int.tmod_eq_emod_of_nonneg (by omega)]
    exact ⟨Int.emod_nonneg _ (by omega), Int.emod_lt_of_pos _ hn⟩
  · rw [Int.tmod_eq_emod_of_nonneg (by omega)]
    exact ⟨Int.emod_nonneg _ (by omega), Int.emod_lt_of_pos _ hn⟩
theorem pick_ok (c n : Int) (hc : I64 c) (hn : 0 < n) : Ok E 27 [] [pI c, pI n] (pI (pk c n)) [] := by
  obtain ⟨h0, h1⟩ := hc
  refine Ok.enter hE Tryd.func27 rfl (by decide +kernel) (by kernel_rfl) rfl rfl (Nat.le_of_ble_eq_true rfl) rfl ?_
  by_cases hneg : c < 0
  · refine ⟨_, ltT hneg, ?_⟩
    refine ⟨_, addV rfl (by omega) (by omega), ?_⟩
    refine ⟨_, negV rfl (by omega) (by omega), ?_⟩
    refine ⟨_, remV (by omega) rfl, ?_⟩
    exact Ret.mk _ rfl (by show PV.c _ = _; rw [pk, if_pos hneg]) rfl
  · refine ⟨_, ltN hneg, ?_⟩
    refine ⟨_, remV (by omega) rfl, ?_⟩
    exact Ret.mk _ rfl (by show PV.c _ = _; rw [pk, if_neg hneg]) rfl
theorem pick6_ok (c n : Int) (hc : I64 c) (hn : 0 < n) : Ok E 87 [] [pI c, pI n] (pI (pk c n)) [] := by
  obtain ⟨h0, h1⟩ := hc
  refine Ok.enter hE Tryd.func87 rfl (by decide +kernel) (by kernel_rfl) rfl rfl (Nat.le_of_ble_eq_true rfl) rfl ?_
  by_cases hneg : c < 0
  · refine ⟨_, ltT hneg, ?_⟩
    refine ⟨_, addV rfl (by omega) (by omega), ?_⟩
    refine ⟨_, negV rfl (by omega) (by omega), ?_⟩
    refine ⟨_, remV (by omega) rfl, ?_⟩
    exact Ret.mk _ rfl (by show PV.c _ = _; rw [pk, if_pos hneg]) rfl
  · refine ⟨_, ltN hneg, ?_⟩
    refine ⟨_, remV (by omega) rfl, ?_⟩
    exact Ret.mk _ rfl (by show PV.c _ = _; rw [pk, if_neg hneg]) rfl
/-- the next raw number -/
def nx (L : List Int) (n : Int) : Int := match L with
  | [] => 0
  | a :: _ => pk a n
theorem nx_rng {L : List Int} {n : Int} (hn : 0 < n) : 0 ≤ nx L n ∧ nx L n < n := by
  cases L with
  | nil => exact ⟨Int.le_refl _, hn⟩
  | cons a r => exact pk_rng hn
theorem next_ok (L : List Int) (hL : ∀ a ∈ L, I64 a) (hl : L.length ≤ 100) (n : Int) (hn : 0 < n) : Ok E 64 [[.c (.row (encN L))]] [.ptr 0 0, pI n] (pI (nx L n)) [[.c (.row (encN L.tail))]] := by
  refine Ok.enter hE Tryd.func64 rfl (by decide +kernel) (by kernel_rfl) rfl rfl (Nat.le_of_ble_eq_true rfl) rfl ?_
  cases L with
  | nil =>
    refine ⟨_, eqT rfl, ?_⟩
    exact ⟨_, rfl, Wk.refl _, rfl, .cons (WkL.refl _) rfl (.nil _)⟩
  | cons a r =>
    refine ⟨_, eqN (by simp [encN]; omega), ?_⟩
    refine ⟨_, idxV (j := 0) rfl rfl rfl rfl rfl, ?_⟩
    refine ⟨_, CallR.mk1 (pick_ok a n (hL a (by simp)) hn) rfl rfl, ?_⟩
    refine ⟨_, sliceRV 1 (encN (a :: r)).length rfl rfl rfl rfl (by simp [encN]) (by simp [encN]), ?_⟩
    refine ⟨_, rfl, Wk.refl _, rfl, .cons (d := [.c (.row (encN r))]) ?_ rfl (.nil _)⟩
    rw [show ([PV.c (.row (((encN (a :: r)).take (encN (a :: r)).length).drop 1))] : List PV) = [.c (.row (encN r))] by rw [List.take_length]; rfl]
    exact WkL.refl _
/-- how many arguments a kind has -/
def argsOf (k : Int) : Int := if k = 1 ∨ k = 2 ∨ k = 3 ∨ k = 4 ∨ k = 11 then 0 else if k = 5 ∨ k = 6 then 1 else if k = 7 ∨ k = 8 ∨ k = 9 ∨ k = 12 then 2 else if k = 10 then 3 else -1
theorem Args_ok (k : Int) : Ok E 42 [] [pI k] (pI (argsOf k)) [] := by
  refine Ok.enter hE Tryd.func42 rfl (by decide +kernel) (by kernel_rfl) rfl rfl (Nat.le_of_ble_eq_true rfl) rfl ?_
  by_cases h1 : k = 1
  · subst h1; refine ⟨_, eqT rfl, ?_⟩; exact Ret.mk _ rfl rfl rfl
  refine ⟨_, eqN h1, ?_⟩
  by_cases h2 : k = 2
  · subst h2; refine ⟨_, eqT rfl, ?_⟩; exact Ret.mk _ rfl rfl rfl
  refine ⟨_, eqN h2, ?_⟩
  by_cases h3 : k = 3
  · subst h3; refine ⟨_, eqT rfl, ?_⟩; exact Ret.mk _ rfl rfl rfl
  refine ⟨_, eqN h3, ?_⟩
  by_cases h4 : k = 4
  · subst h4; refine ⟨_, eqT rfl, ?_⟩; exact Ret.mk _ rfl rfl rfl
  refine ⟨_, eqN h4, ?_⟩
  by_cases h11 : k = 11
  · subst h11; refine ⟨_, eqT rfl, ?_⟩; exact Ret.mk _ rfl rfl rfl
  refine ⟨_, eqN h11, ?_⟩
  by_cases h5 : k = 5
  · subst h5; refine ⟨_, eqT rfl, ?_⟩; exact Ret.mk _ rfl rfl rfl
  refine ⟨_, eqN h5, ?_⟩
  by_cases h6 : k = 6
  · subst h6; refine ⟨_, eqT rfl, ?_⟩; exact Ret.mk _ rfl rfl rfl
  refine ⟨_, eqN h6, ?_⟩
  by_cases h7 : k = 7
  · subst h7; refine ⟨_, eqT rfl, ?_⟩; exact Ret.mk _ rfl rfl rfl
  refine ⟨_, eqN h7, ?_⟩
  by_cases h8 : k = 8
  · subst h8; refine ⟨_, eqT rfl, ?_⟩; exact Ret.mk _ rfl rfl rfl
  refine ⟨_, eqN h8, ?_⟩
  by_cases h9 : k = 9
  · subst h9; refine ⟨_, eqT rfl, ?_⟩; exact Ret.mk _ rfl rfl rfl
  refine ⟨_, eqN h9, ?_⟩
  by_cases h12 : k = 12
  · subst h12; refine ⟨_, eqT rfl, ?_⟩; exact Ret.mk _ rfl rfl rfl
  refine ⟨_, eqN h12, ?_⟩
  by_cases h10 : k = 10
  · subst h10; refine ⟨_, eqT rfl, ?_⟩; exact Ret.mk _ rfl rfl rfl
  refine ⟨_, eqN h10, ?_⟩
  exact Ret.mk _ rfl (by show PV.c _ = _; simp [argsOf, *]) rfl
def digB (n : Int) : ByteArray := ⟨#[UInt8.ofNat (48 + n).toNat]⟩
theorem decimal_ok (n : Int) (h0 : 0 ≤ n) (h1 : n < 10) : Ok E 88 [] [pI n] (pS (digB n)) [] := by
  refine Ok.enter hE Tryd.func88 rfl (by decide +kernel) (by kernel_rfl) rfl rfl (Nat.le_of_ble_eq_true rfl) rfl ?_
  have hm : n.tmod 10 = n := by rw [Int.tmod_eq_emod_of_nonneg h0]; omega
  refine ⟨_, remV (by omega) hm, ?_⟩
  refine ⟨_, addV rfl (by omega) (by omega), ?_⟩
  refine ⟨_, convV (z := 48 + n) rfl rfl (by simp [IntKind.wrap, IntKind.bits, IntKind.signed]; omega), ?_⟩
  refine ⟨_, ⟨_, rfl, rfl⟩, ?_⟩
  refine ⟨_, convBV (l := [UInt8.ofNat (48 + n).toNat]) rfl rfl rfl (by
    show bytesF [[CV.int .u8 (48 + n)]] = _
    rw [bytesF, decide_eq_true (by omega)]; rfl), ?_⟩
  refine ⟨_, geN (by omega), ?_⟩
  exact Ret.mk _ rfl rfl rfl
def nameB (k : Int) : ByteArray := match k with
  | 0 => ⟨#[97]⟩
  | 1 => ⟨#[98, 111, 98]⟩
  | 2 => ⟨#[108, 111, 119, 101, 115]⟩
  | 3 => ⟨#[97, 99, 109, 101, 57]⟩
  | 4 => ⟨#[120, 49]⟩
  | _ => ⟨#[101, 108, 115, 101, 101]⟩
def sellerB (n : Int) : ByteArray := nameB ((pk n 60).tmod 6) ++ digB ((pk n 60).tdiv 6)
theorem Seller_ok (n : Int) (hn : I64 n) : Ok E 65 [] [pI n] (pS (sellerB n)) [] := by
  refine Ok.enter hE Tryd.func65 rfl (by decide +kernel) (by kernel_rfl) rfl rfl (Nat.le_of_ble_eq_true rfl) rfl ?_
  refine ⟨_, CallR.mk1 (pick6_ok n 60 hn (by omega)) rfl rfl, ?_⟩
  obtain ⟨h0, h1⟩ := pk_rng (c := n) (n := 60) (by omega)
  have hs : sellerB n = nameB ((pk n 60).tmod 6) ++ digB ((pk n 60).tdiv 6) := rfl
  rw [hs]
  clear hs
  generalize pk n 60 = k at h0 h1 ⊢
  obtain ⟨d, hd⟩ : ∃ d, k.tdiv 6 = d := ⟨_, rfl⟩
  obtain ⟨q, hq⟩ : ∃ q, k.tmod 6 = q := ⟨_, rfl⟩
  rw [hd, hq]
  have hd' : d = k / 6 := by rw [← hd]; exact Int.tdiv_eq_ediv_of_nonneg h0
  have hq' : q = k % 6 := by rw [← hq]; exact Int.tmod_eq_emod_of_nonneg h0
  refine ⟨_, ⟨_, rfl, rfl⟩, ?_⟩
  have : q = 0 ∨ q = 1 ∨ q = 2 ∨ q = 3 ∨ q = 4 ∨ q = 5 := by omega
  rcases this with rfl | rfl | rfl | rfl | rfl | rfl
  · refine ⟨_, remV (by omega) hq, ?_⟩
    refine ⟨_, idxV (j := 0) rfl rfl rfl rfl rfl, ?_⟩
    refine ⟨_, quoV (by omega) hd (by omega) (by omega), ?_⟩
    refine ⟨_, CallR.mk1 (decimal_ok d (by omega) (by omega)) rfl rfl, ?_⟩
    refine ⟨_, catV rfl (by show _ + 1 ≤ _; decide), ?_⟩
    exact Ret.mk _ rfl rfl rfl
  · refine ⟨_, remV (by omega) hq, ?_⟩
    refine ⟨_, idxV (j := 1) rfl rfl rfl rfl rfl, ?_⟩
    refine ⟨_, quoV (by omega) hd (by omega) (by omega), ?_⟩
    refine ⟨_, CallR.mk1 (decimal_ok d (by omega) (by omega)) rfl rfl, ?_⟩
    refine ⟨_, catV rfl (by show _ + 1 ≤ _; decide), ?_⟩
    exact Ret.mk _ rfl rfl rfl
  · refine ⟨_, remV (by omega) hq, ?_⟩
    refine ⟨_, idxV (j := 2) rfl rfl rfl rfl rfl, ?_⟩
    refine ⟨_, quoV (by omega) hd (by omega) (by omega), ?_⟩
    refine ⟨_, CallR.mk1 (decimal_ok d (by omega) (by omega)) rfl rfl, ?_⟩
    refine ⟨_, catV rfl (by show _ + 1 ≤ _; decide), ?_⟩
    exact Ret.mk _ rfl rfl rfl
  · refine ⟨_, remV (by omega) hq, ?_⟩
    refine ⟨_, idxV (j := 3) rfl rfl rfl rfl rfl, ?_⟩
    refine ⟨_, quoV (by omega) hd (by omega) (by omega), ?_⟩
    refine ⟨_, CallR.mk1 (decimal_ok d (by omega) (by omega)) rfl rfl, ?_⟩
    refine ⟨_, catV rfl (by show _ + 1 ≤ _; decide), ?_⟩
    exact Ret.mk _ rfl rfl rfl
  · refine ⟨_, remV (by omega) hq, ?_⟩
    refine ⟨_, idxV (j := 4) rfl rfl rfl rfl rfl, ?_⟩
    refine ⟨_, quoV (by omega) hd (by omega) (by omega), ?_⟩
    refine ⟨_, CallR.mk1 (decimal_ok d (by omega) (by omega)) rfl rfl, ?_⟩
    refine ⟨_, catV rfl (by show _ + 1 ≤ _; decide), ?_⟩
    exact Ret.mk _ rfl rfl rfl
  · refine ⟨_, remV (by omega) hq, ?_⟩
    refine ⟨_, idxV (j := 5) rfl rfl rfl rfl rfl, ?_⟩
    refine ⟨_, quoV (by omega) hd (by omega) (by omega), ?_⟩
    refine ⟨_, CallR.mk1 (decimal_ok d (by omega) (by omega)) rfl rfl, ?_⟩
    refine ⟨_, catV rfl (by show _ + 1 ≤ _; decide), ?_⟩
    exact Ret.mk _ rfl rfl rfl
end Go.Proofs.YtjnbhdbpajnlgaaDoor.Pm

/- Trees of raw numbers, in the pure machine: the trees. -/
namespace Go.Proofs.YtjnbhdbpajnlgaaDoor.Pm
open Go
set_option linter.unusedVariables false
set_option maxHeartbeats 1000000
abbrev Ex := Go.Proofs.YtjnbhdbpajnlgaaDoor.Q.S26
def encL : List Ex → List (List CV)
  | [] => []
  | ⟨k, n, nm, l⟩ :: r => [.int .i64 k, .int .i64 n, .str nm, .row (encL l)] :: encL r
@[reducible] def cellsE (x : Ex) : List CV := [.int .i64 x.f0, .int .i64 x.f1, .str x.f2, .row (encL x.f3)]
@[reducible] def pE (x : Ex) : PV := .agg (cellsE x)
theorem encL_map : ∀ l : List Ex, encL l = l.map cellsE
  | [] => by rw [encL]; rfl
  | ⟨k, n, nm, a⟩ :: r => by rw [encL, encL_map r]; rfl
def e0 : ByteArray := ⟨#[]⟩
def moreE (n : Int) : Ex := ⟨11, n, e0, []⟩
/-- the source's state behind so many arguments -/
def stL (g : Bool → List Int → Ex × List Int) (isIf : Bool) (L : List Int) : Nat → List Int
  | 0 => L
  | j + 1 => (g (isIf && Nat.beq j 0) (stL g isIf L j)).2
def xL (g : Bool → List Int → Ex × List Int) (isIf : Bool) (L : List Int) (j : Nat) : Ex := (g (isIf && Nat.beq j 0) (stL g isIf L j)).1
def argsL (g : Bool → List Int → Ex × List Int) (isIf : Bool) (L : List Int) (m : Nat) : List Ex := (List.range m).map (xL g isIf L)
def kindF (d : Nat) (L : List Int) : Int := if d = 0 then 1 + (1 + nx L 10).tmod 4 else 1 + nx L 10
def finF (kind : Int) (l : List Ex) (L : List Int) : Ex × List Int :=
  if kind = 3 then (⟨kind, 0, sellerB (nx L 60), l⟩, L.tail) else if kind = 4 ∨ kind = 5 then (⟨kind, nx L 3000, e0, l⟩, L.tail) else if kind = 6 then (⟨kind, nx L 12000, e0, l⟩, L.tail) else (⟨kind, 0, e0, l⟩, L)
def exF : Nat → Bool → List Int → Ex × List Int
  | 0, _, L => (moreE 0, L)
  | d + 1, true, L => if d = 0 then (moreE (nx L 7), L.tail) else if nx L 2 = 0 then (moreE (nx L.tail 7), L.tail.tail) else
    (⟨12, 0, e0, [(exF d false L.tail).1, (exF d false (exF d false L.tail).2).1]⟩, (exF d false (exF d false L.tail).2).2)
  | d + 1, false, L => finF (kindF d L) (argsL (exF d) (decide (kindF d L = 10)) L.tail (argsOf (kindF d L)).toNat) (stL (exF d) (decide (kindF d L = 10)) L.tail (argsOf (kindF d L)).toNat)
def PL (L : List Int) : Prop := (∀ a ∈ L, I64 a) ∧ L.length ≤ 100
theorem PL.tail {L : List Int} (h : PL L) : PL L.tail := ⟨fun a ha => h.1 a (List.mem_of_mem_tail ha), by have := h.2; simp; omega⟩
theorem stL_PL {g : Bool → List Int → Ex × List Int} (hg : ∀ c L, PL L → PL (g c L).2) (b : Bool) {L : List Int} (h : PL L) : ∀ j, PL (stL g b L j)
  | 0 => h
  | j + 1 => hg _ _ (stL_PL hg b h j)
theorem finF_PL (k : Int) (l : List Ex) {L : List Int} (h : PL L) : PL (finF k l L).2 := by
  unfold finF
  split
  · exact h.tail
  · split
    · exact h.tail
    · split
      · exact h.tail
      · exact h
theorem exF_PL : ∀ (d : Nat) (c : Bool) (L : List Int), PL L → PL (exF d c L).2
  | 0, _, _, h => h
  | d + 1, true, L, h => by
    unfold exF
    split
    · exact h.tail
    · split
      · exact h.tail.tail
      · exact exF_PL d _ _ (exF_PL d _ _ h.tail)
  | d + 1, false, L, h => by
    unfold exF
    exact finF_PL _ _ (stL_PL (exF_PL d) _ h.tail _)
theorem kindF_rng (d : Nat) (L : List Int) : 1 ≤ kindF d L ∧ kindF d L ≤ 10 ∧ (d = 0 → kindF d L ≤ 4) := by
  have := nx_rng (L := L) (n := 10) (by omega)
  unfold kindF
  split
  · rw [Int.tmod_eq_emod_of_nonneg (by omega)]; omega
  · omega
theorem argsOf_rng {k : Int} (h : 1 ≤ k ∧ k ≤ 10) : 0 ≤ argsOf k ∧ argsOf k ≤ 3 := by
  unfold argsOf
  repeat' split
  all_goals omega
theorem argsOf_low {k : Int} (h : 1 ≤ k ∧ k ≤ 4) : argsOf k = 0 := by
  unfold argsOf
  rw [if_pos (by omega)]
theorem nextOk {L : List Int} (h : PL L) (n : Int) (hn : 0 < n) : Ok E 64 [[.c (.row (encN L))]] [.ptr 0 0, pI n] (pI (nx L n)) [[.c (.row (encN L.tail))]] := next_ok L h.1 h.2 n hn
abbrev srcB (L : List Int) : List PV := [.c (.row (encN L))]
theorem callNext {L : List Int} (h : PL L) {n : Int} (hn : 0 < n) {H : List (List PV)} (hH : H[0]? = some (srcB L)) : SCallR E 64 H [.ptr 0 0, pI n] (pI (nx L n)) (H.set 0 (srcB L.tail)) :=
  SCallR.one (nextOk h n hn) hH ⟨.inr ⟨0, 0, 0, rfl, rfl, rfl⟩, .inl ⟨Wk.refl _, rfl⟩, trivial⟩ (List.mem_cons_self ..) rfl rfl rfl
def ExprOk (d : Nat) : Prop := ∀ (c : Bool) (L : List Int), PL L → Ok E 41 [srcB L] [.ptr 0 0, pI d, pB c] (pE (exF d c L).1) [srcB (exF d c L).2]
theorem callExpr {d : Nat} (hd : ExprOk d) {L : List Int} (h : PL L) {n : Int} (hn : n = d) {c : Bool} {H : List (List PV)} (hH : H[0]? = some (srcB L)) : SCallR E 41 H [.ptr 0 0, pI n, pB c] (pE (exF d c L).1) (H.set 0 (srcB (exF d c L).2)) := by
  subst hn
  exact SCallR.one (hd c L h) hH ⟨.inr ⟨0, 0, 0, rfl, rfl, rfl⟩, .inl ⟨Wk.refl _, rfl⟩, .inl ⟨Wk.refl _, rfl⟩, trivial⟩ (List.mem_cons_self ..) rfl rfl rfl
theorem wkE (k n : Int) (nm : ByteArray) : Wk (.agg [.int .i64 k, .int .i64 n, .str nm, .nil]) (pE ⟨k, n, nm, []⟩) := Wk.aggC (by
  show WkC _ [_, _, _, .row (encL [])]
  rw [encL_map]
  exact .same (.same (.same (.row .nil))))
theorem wkE2 (k n : Int) (nm : ByteArray) (l : List Ex) {xs : List (List CV)} (h : xs = l.map cellsE) : Wk (.agg [.int .i64 k, .int .i64 n, .str nm, .row xs]) (pE ⟨k, n, nm, l⟩) := by
  subst h
  show Wk _ (.agg [_, _, _, .row (encL l)])
  rw [encL_map]
  exact Wk.refl _
theorem expr_cond (d : Nat) (hd : d ≤ 4) (IH : 1 ≤ d → ExprOk d) (L : List Int) (h : PL L) : Ok E 41 [srcB L] [.ptr 0 0, pI (d + 1 : Nat), pB true] (pE (exF (d + 1) true L).1) [srcB (exF (d + 1) true L).2] := by
  refine Ok.enter hE Tryd.func41 rfl (by decide +kernel) (by kernel_rfl) rfl rfl (Nat.le_of_ble_eq_true rfl) rfl ?_
  by_cases h0 : d = 0
  · subst h0
    have e : exF 1 true L = (moreE (nx L 7), L.tail) := by rw [exF, if_pos rfl]
    show wpC E _ (retK E _ (pE (exF 1 true L).1) [srcB (exF 1 true L).2]) _
    rw [e]
    refine ⟨_, ltT (by show (1 : Int) < 2; decide), ?_⟩
    refine ⟨_, _, callNext h (by decide) rfl, ?_⟩
    exact ⟨_, rfl, wkE _ _ _, rfl, .cons (WkL.refl _) rfl (.nil _)⟩
  · refine ⟨_, ltN (by omega), ?_⟩
    refine ⟨_, _, callNext h (by decide) rfl, ?_⟩
    by_cases h2 : nx L 2 = 0
    · have e : exF (d + 1) true L = (moreE (nx L.tail 7), L.tail.tail) := by rw [exF, if_neg h0, if_pos h2]
      rw [e]
      refine ⟨_, eqT h2, ?_⟩
      refine ⟨_, _, callNext h.tail (by decide) rfl, ?_⟩
      exact ⟨_, rfl, wkE _ _ _, rfl, .cons (WkL.refl _) rfl (.nil _)⟩
    · have e : exF (d + 1) true L = (⟨12, 0, e0, [(exF d false L.tail).1, (exF d false (exF d false L.tail).2).1]⟩, (exF d false (exF d false L.tail).2).2) := by rw [exF, if_neg h0, if_neg h2]
      rw [e]
      refine ⟨_, eqN h2, ?_⟩
      refine ⟨_, subV (z := (d : Int)) (by omega) (by omega) (by omega), ?_⟩
      refine ⟨_, _, callExpr (IH (by omega)) h.tail rfl rfl, ?_⟩
      refine ⟨_, subV (z := (d : Int)) (by omega) (by omega) (by omega), ?_⟩
      refine ⟨_, _, callExpr (IH (by omega)) (exF_PL d _ _ h.tail) rfl rfl, ?_⟩
      refine ⟨_, ⟨_, rfl, rfl⟩, ?_⟩
      exact ⟨_, rfl, wkE2 _ _ _ _ rfl, rfl, .cons (WkL.refl _) rfl (.nil _)⟩
def cellA (l : List (List CV)) : Nat → PV
  | 0 => .c .nil
  | _ + 1 => .orow l 0
def tokA : Nat → List (Nat × Nat)
  | 0 => []
  | j + 1 => [(j + 1, 26)]
theorem argsL_succ (g : Bool → List Int → Ex × List Int) (b : Bool) (L : List Int) (j : Nat) : argsL g b L (j + 1) = argsL g b L j ++ [xL g b L j] := by
  unfold argsL
  rw [List.range_succ, List.map_append]; rfl
theorem argsL_len (g : Bool → List Int → Ex × List Int) (b : Bool) (L : List Int) (j : Nat) : (argsL g b L j).length = j := by simp [argsL]
theorem cells_len (l : List Ex) : ∀ x ∈ l.map cellsE, x.length = 4 := by
  intro x hx
  obtain ⟨y, -, rfl⟩ := List.mem_map.1 hx
  rfl
theorem headH {g : Bool → List Int → Ex × List Int} {b c : Bool} {L : List Int} {j : Nat} (ff : stL g b L (j + 1) = (g c (stL g b L j)).2 ∧ argsL g b L (j + 1) = argsL g b L j ++ [(g c (stL g b L j)).1]) (kind : Int) :
    ([srcB (g c (stL g b L j)).2, [pI 0, pI 0, pS e0, .c .nil], [pI kind, pI 0, pS e0, .orow ((argsL g b L j).map cellsE ++ [cellsE (g c (stL g b L j)).1]) 0]] : List (List PV)) = [srcB (stL g b L (j + 1)), [pI 0, pI 0, pS e0, .c .nil], [pI kind, pI 0, pS e0, cellA ((argsL g b L (j + 1)).map cellsE) (j + 1)]] := by
  rw [ff.1, ff.2, List.map_append]; rfl
theorem tokH {l : List Ex} {j : Nat} (h : l.length = j + 1) : [((l.map cellsE).length + 1, 26)] = tokA (j + 1 + 1) := by
  rw [List.length_map, h]; rfl
theorem expr_if (d : Nat) (hd : d ≤ 4) (IH : 1 ≤ d → ExprOk d) (L : List Int) (h : PL L) : Ok E 41 [srcB L] [.ptr 0 0, pI (d + 1 : Nat), pB false] (pE (exF (d + 1) false L).1) [srcB (exF (d + 1) false L).2] := by
  have e : exF (d + 1) false L = finF (kindF d L) (argsL (exF d) (decide (kindF d L = 10)) L.tail (argsOf (kindF d L)).toNat) (stL (exF d) (decide (kindF d L = 10)) L.tail (argsOf (kindF d L)).toNat) := by rw [exF]
  rw [e]
  have hkr := kindF_rng d L
  obtain ⟨kind, hk⟩ : ∃ k, kindF d L = k := ⟨_, rfl⟩
  rw [hk] at hkr ⊢
  have har := argsOf_rng (k := kind) ⟨hkr.1, hkr.2.1⟩
  obtain ⟨m, hm⟩ : ∃ m : Nat, argsOf kind = m := ⟨(argsOf kind).toNat, by omega⟩
  rw [hm] at har ⊢
  rw [Int.toNat_natCast]
  have hnx := nx_rng (L := L) (n := 10) (by omega)
  obtain ⟨b, hb⟩ : ∃ b, decide (kind = 10) = b := ⟨_, rfl⟩
  rw [hb]
  have hP : ∀ j, PL (stL (exF d) b L.tail j) := stL_PL (exF_PL d) b h.tail
  obtain ⟨R, hR⟩ : ∃ R, finF kind (argsL (exF d) b L.tail m) (stL (exF d) b L.tail m) = R := ⟨_, rfl⟩
  rw [hR]
  refine Ok.enter hE Tryd.func41 rfl (by decide +kernel) (by kernel_rfl) rfl rfl (Nat.le_of_ble_eq_true rfl) rfl ?_
  refine ⟨_, _, callNext h (by decide) rfl, ?_⟩
  by_cases hd0 : d = 0
  have hk1 : 1 + (1 + nx L 10).tmod 4 = kind := by rw [← hk, kindF, if_pos hd0]
  have hk2 : (1 + nx L 10).tmod 4 = kind - 1 := by omega
  refine ⟨_, addV rfl (by omega) (by omega), ?_⟩
  refine ⟨_, ltT (by omega), ?_⟩
  refine ⟨_, remV (by omega) hk2, ?_⟩
  refine ⟨_, addV (z := kind) (by omega) (by omega) (by omega), ?_⟩
  rotate_left
  have hk1 : 1 + nx L 10 = kind := by rw [← hk, kindF, if_neg hd0]
  refine ⟨_, addV hk1 (by omega) (by omega), ?_⟩
  refine ⟨_, ltN (by omega), ?_⟩
  all_goals
    refine Loop.run (α := Nat) (fun j => j ≤ m) (fun j => [(0, .ptr 0 0), (1, pI (d + 1 : Nat)), (6, .ptr 1 0), (7, pI kind), (8, .ptr 2 0), (9, pI j)])
      (fun j => [srcB (stL (exF d) b L.tail j), [pI 0, pI 0, pS e0, .c .nil], [pI kind, pI 0, pS e0, cellA ((argsL (exF d) b L.tail j).map cellsE) j]]) tokA (fun j => m - j) 0 (Nat.zero_le _) ⟨⟨rfl, rfl, rfl, rfl, rfl, rfl, trivial⟩, rfl, rfl⟩ ?_
    intro j f hj
    refine ⟨_, CallR.mk1 (Args_ok kind) rfl rfl, ?_⟩
    by_cases hjm : j < m
    · refine ⟨_, ltT (by omega), ?_⟩
      have hd1 : 1 ≤ d := by
        by_cases hd0 : d = 0
        · have := argsOf_low (k := kind) ⟨hkr.1, hkr.2.2 hd0⟩; omega
        · omega
      have fin : ∀ c, (b && Nat.beq j 0) = c → stL (exF d) b L.tail (j + 1) = (exF d c (stL (exF d) b L.tail j)).2 ∧ argsL (exF d) b L.tail (j + 1) = argsL (exF d) b L.tail j ++ [(exF d c (stL (exF d) b L.tail j)).1] := by
        intro c hc
        exact ⟨by rw [stL, hc], by rw [argsL_succ, xL, hc]⟩
      cases j with
      | zero =>
        refine ⟨_, subV (z := (d : Int)) (by omega) (by omega) (by omega), ?_⟩
        by_cases h10 : kind = 10
        · have ff := fin true (by rw [← hb, decide_eq_true h10]; rfl)
          refine ⟨_, eqT h10, ?_⟩
          refine ⟨_, eqT rfl, ?_⟩
          refine ⟨_, _, callExpr (IH hd1) (hP 0) rfl rfl, ?_⟩
          refine ⟨_, ⟨_, rfl, rfl⟩, ?_⟩
          refine ⟨_, _, AppR.first1 rfl rfl (by decide) rfl rfl rfl (by decide), ?_⟩
          refine ⟨_, addV rfl (by decide) (by decide), ?_⟩
          exact ⟨1, hjm, by omega, ⟨rfl, rfl, rfl, rfl, rfl, rfl, trivial⟩, headH ff kind, rfl⟩
        · have ff := fin false (by rw [← hb, decide_eq_false h10]; rfl)
          refine ⟨_, eqN h10, ?_⟩
          refine ⟨_, _, callExpr (IH hd1) (hP 0) rfl rfl, ?_⟩
          refine ⟨_, ⟨_, rfl, rfl⟩, ?_⟩
          refine ⟨_, _, AppR.first1 rfl rfl (by decide) rfl rfl rfl (by decide), ?_⟩
          refine ⟨_, addV rfl (by decide) (by decide), ?_⟩
          exact ⟨1, hjm, by omega, ⟨rfl, rfl, rfl, rfl, rfl, rfl, trivial⟩, headH ff kind, rfl⟩
      | succ j =>
        refine ⟨_, subV (z := (d : Int)) (by omega) (by omega) (by omega), ?_⟩
        by_cases h10 : kind = 10
        · have ff := fin false (by rw [← hb, decide_eq_true h10]; rfl)
          refine ⟨_, eqT h10, ?_⟩
          refine ⟨_, eqN (by omega), ?_⟩
          refine ⟨_, _, callExpr (IH hd1) (hP (j + 1)) rfl rfl, ?_⟩
          refine ⟨_, ⟨_, rfl, rfl⟩, ?_⟩
          refine ⟨_, _, AppR.more1 (j + 1) rfl rfl (by decide) rfl rfl (by rw [List.length_map, argsL_len]) (cells_len _) rfl rfl (by omega) (by show (j + 1 + 1) * 56 ≤ _; omega), ?_⟩
          refine ⟨_, addV rfl (by omega) (by omega), ?_⟩
          exact ⟨j + 1 + 1, hjm, by omega, ⟨rfl, rfl, rfl, rfl, rfl, rfl, trivial⟩, headH ff kind, rfl⟩
        · have ff := fin false (by rw [← hb, decide_eq_false h10]; rfl)
          refine ⟨_, eqN h10, ?_⟩
          refine ⟨_, _, callExpr (IH hd1) (hP (j + 1)) rfl rfl, ?_⟩
          refine ⟨_, ⟨_, rfl, rfl⟩, ?_⟩
          refine ⟨_, _, AppR.more1 (j + 1) rfl rfl (by decide) rfl rfl (by rw [List.length_map, argsL_len]) (cells_len _) rfl rfl (by omega) (by show (j + 1 + 1) * 56 ≤ _; omega), ?_⟩
          refine ⟨_, addV rfl (by omega) (by omega), ?_⟩
          exact ⟨j + 1 + 1, hjm, by omega, ⟨rfl, rfl, rfl, rfl, rfl, rfl, trivial⟩, headH ff kind, rfl⟩
    · refine ⟨_, ltN (by omega), ?_⟩
      have hjm : j = m := by omega
      subst hjm
      have hn1 := nx_rng (L := stL (exF d) b L.tail j) (n := 60) (by omega)
      by_cases h3 : kind = 3
      · have hRe : R = (⟨kind, 0, sellerB (nx (stL (exF d) b L.tail j) 60), argsL (exF d) b L.tail j⟩, (stL (exF d) b L.tail j).tail) := by rw [← hR, finF, if_pos h3]
        subst hRe
        refine ⟨_, eqT h3, ?_⟩
        refine ⟨_, _, callNext (hP j) (by decide) rfl, ?_⟩
        refine ⟨_, CallR.mk1 (Seller_ok _ ⟨by omega, by omega⟩) rfl rfl, ?_⟩
        cases j with
        | zero => exact ⟨_, rfl, wkE _ _ _, rfl, .cons (WkL.refl _) rfl (.nil _)⟩
        | succ j => exact ⟨_, rfl, wkE2 _ _ _ _ rfl, rfl, .cons (WkL.refl _) rfl (.nil _)⟩
      refine ⟨_, eqN h3, ?_⟩
      by_cases h45 : kind = 4 ∨ kind = 5
      · have hRe : R = (⟨kind, nx (stL (exF d) b L.tail j) 3000, e0, argsL (exF d) b L.tail j⟩, (stL (exF d) b L.tail j).tail) := by rw [← hR, finF, if_neg h3, if_pos h45]
        subst hRe
        by_cases h4 : kind = 4
        · refine ⟨_, eqT h4, ?_⟩
          refine ⟨_, _, callNext (hP j) (by decide) rfl, ?_⟩
          cases j with
          | zero => exact ⟨_, rfl, wkE _ _ _, rfl, .cons (WkL.refl _) rfl (.nil _)⟩
          | succ j => exact ⟨_, rfl, wkE2 _ _ _ _ rfl, rfl, .cons (WkL.refl _) rfl (.nil _)⟩
        · refine ⟨_, eqN h4, ?_⟩
          refine ⟨_, eqT (by omega), ?_⟩
          refine ⟨_, _, callNext (hP j) (by decide) rfl, ?_⟩
          cases j with
          | zero => exact ⟨_, rfl, wkE _ _ _, rfl, .cons (WkL.refl _) rfl (.nil _)⟩
          | succ j => exact ⟨_, rfl, wkE2 _ _ _ _ rfl, rfl, .cons (WkL.refl _) rfl (.nil _)⟩
      refine ⟨_, eqN (by omega), ?_⟩
      refine ⟨_, eqN (by omega), ?_⟩
      by_cases h6 : kind = 6
      · have hRe : R = (⟨kind, nx (stL (exF d) b L.tail j) 12000, e0, argsL (exF d) b L.tail j⟩, (stL (exF d) b L.tail j).tail) := by rw [← hR, finF, if_neg h3, if_neg h45, if_pos h6]
        subst hRe
        refine ⟨_, eqT h6, ?_⟩
        refine ⟨_, _, callNext (hP j) (by decide) rfl, ?_⟩
        cases j with
        | zero => exact ⟨_, rfl, wkE _ _ _, rfl, .cons (WkL.refl _) rfl (.nil _)⟩
        | succ j => exact ⟨_, rfl, wkE2 _ _ _ _ rfl, rfl, .cons (WkL.refl _) rfl (.nil _)⟩
      · have hRe : R = (⟨kind, 0, e0, argsL (exF d) b L.tail j⟩, stL (exF d) b L.tail j) := by rw [← hR, finF, if_neg h3, if_neg h45, if_neg h6]
        subst hRe
        refine ⟨_, eqN h6, ?_⟩
        cases j with
        | zero => exact ⟨_, rfl, wkE _ _ _, rfl, .cons (WkL.refl _) rfl (.nil _)⟩
        | succ j => exact ⟨_, rfl, wkE2 _ _ _ _ rfl, rfl, .cons (WkL.refl _) rfl (.nil _)⟩
end Go.Proofs.YtjnbhdbpajnlgaaDoor.Pm

/- Trees in the pure machine: Strategy, Size, Deep, Same. -/
namespace Go.Proofs.YtjnbhdbpajnlgaaDoor.Pm
open Go
set_option linter.unusedVariables false
set_option maxHeartbeats 400000
theorem expr_ok : ∀ d, d ≤ 5 → 1 ≤ d → ExprOk d
  | 0, _, h => by omega
  | d + 1, h5, _ => fun c L h => match c with
    | true => expr_cond d (by omega) (fun h1 => expr_ok d (by omega) h1) L h
    | false => expr_if d (by omega) (fun h1 => expr_ok d (by omega) h1) L h
def stratF (raw : List Int) : Ex := (exF 5 false (raw.take 100)).1
theorem encN_len (l : List Int) : (encN l).length = l.length := by simp [encN]
theorem strat_ok (raw : List Int) (h : ∀ a ∈ raw, I64 a) (hl : raw.length ≤ 9223372036854775807) : Ok E 15 [] [.c (.row (encN raw))] (pE (stratF raw)) [] := by
  have hP : PL (raw.take 100) := ⟨fun a ha => h a (List.mem_of_mem_take ha), by simp; omega⟩
  have IH := expr_ok 5 (by omega) (by omega)
  have hex := IH false _ hP
  refine Ok.enter hE Tryd.func15 rfl (by decide +kernel) (by kernel_rfl) rfl rfl (Nat.le_of_ble_eq_true rfl) rfl ?_
  by_cases hgt : raw.length > 100
  · refine ⟨_, gtT (by rw [encN_len]; omega), ?_⟩
    refine ⟨_, sliceRV 0 100 rfl rfl rfl rfl (by rw [encN_len]; omega) (by intro x hx; simp [encN] at hx; obtain ⟨a, -, rfl⟩ := hx; rfl), ?_⟩
    refine ⟨_, _, SCallR.oneW (i := 1) (off := 0) hex rfl ?_ ⟨.inr ⟨0, 1, 0, rfl, rfl, rfl⟩, .inl ⟨Wk.refl _, rfl⟩, .inl ⟨Wk.refl _, rfl⟩, trivial⟩ (List.mem_cons_self ..) rfl rfl rfl, ?_⟩
    · have e : (encN (raw.take 100)) = ((encN raw).take 100).drop 0 := by simp [encN, List.map_take]
      unfold srcB
      rw [e]
      exact WkL.refl _
    · exact ⟨_, rfl, Wk.refl _, rfl, .nil _⟩
  · refine ⟨_, gtN (by rw [encN_len]; omega), ?_⟩
    refine ⟨_, _, SCallR.oneW (i := 1) (off := 0) hex rfl ?_ ⟨.inr ⟨0, 1, 0, rfl, rfl, rfl⟩, .inl ⟨Wk.refl _, rfl⟩, .inl ⟨Wk.refl _, rfl⟩, trivial⟩ (List.mem_cons_self ..) rfl rfl rfl, ?_⟩
    · rw [List.take_of_length_le (by omega)]
      exact WkL.refl _
    · exact ⟨_, rfl, Wk.refl _, rfl, .nil _⟩
/-! ### counts -/
mutual
def size : Ex → Int
  | ⟨_, _, _, l⟩ => 1 + sizeL l
def sizeL : List Ex → Int
  | [] => 0
  | x :: l => size x + sizeL l
end
mutual
def deep : Ex → Int
  | ⟨_, _, _, l⟩ => 1 + deepL l
def deepL : List Ex → Int
  | [] => 0
  | x :: l => max (deep x) (deepL l)
end
mutual
theorem size_pos : ∀ x : Ex, 0 < size x
  | ⟨_, _, _, l⟩ => by rw [size]; have := sizeL_pos l; omega
theorem sizeL_pos : ∀ l : List Ex, 0 ≤ sizeL l
  | [] => by rw [sizeL]; omega
  | x :: l => by rw [sizeL]; have := size_pos x; have := sizeL_pos l; omega
end
mutual
theorem deep_le : ∀ x : Ex, 0 < deep x ∧ deep x ≤ size x
  | ⟨_, _, _, l⟩ => by rw [deep, size]; have := deepL_le l; omega
theorem deepL_le : ∀ l : List Ex, 0 ≤ deepL l ∧ deepL l ≤ sizeL l
  | [] => by rw [deepL, sizeL]; omega
  | x :: l => by rw [deepL, sizeL]; have := deep_le x; have := deepL_le l; omega
end
theorem sizeL_append (l r : List Ex) : sizeL (l ++ r) = sizeL l + sizeL r := by
  induction l with
  | nil => rw [List.nil_append, sizeL]; omega
  | cons x l ih => rw [List.cons_append, sizeL, sizeL, ih]; omega
theorem deepL_append (l r : List Ex) : deepL (l ++ r) = max (deepL l) (deepL r) := by
  induction l with
  | nil => rw [List.nil_append, deepL]; have := (deepL_le r).1; omega
  | cons x l ih => rw [List.cons_append, deepL, deepL, ih]; omega
theorem take_snoc {l : List Ex} {j : Nat} {x : Ex} (h : l[j]? = some x) : l.take (j + 1) = l.take j ++ [x] := by rw [List.take_add_one, h]; rfl
theorem sizeL_take (l : List Ex) (j : Nat) (x : Ex) (h : l[j]? = some x) : sizeL (l.take (j + 1)) = sizeL (l.take j) + size x := by
  rw [take_snoc h, sizeL_append, sizeL, sizeL]; omega
theorem deepL_take (l : List Ex) (j : Nat) (x : Ex) (h : l[j]? = some x) : deepL (l.take (j + 1)) = max (deepL (l.take j)) (deep x) := by
  rw [take_snoc h, deepL_append, deepL, deepL]
  have := (deep_le x).1
  omega
theorem sizeL_le (l : List Ex) (j : Nat) : sizeL (l.take j) ≤ sizeL l := by
  have := sizeL_append (l.take j) (l.drop j)
  rw [List.take_append_drop] at this
  have := sizeL_pos (l.drop j)
  omega
theorem sizeL_len (l : List Ex) : (l.length : Int) ≤ sizeL l := by
  induction l with
  | nil => rw [sizeL]; simp
  | cons x l ih => rw [sizeL]; have := size_pos x; simp; omega
theorem enc_len (l : List Ex) : (encL l).length = l.length := by rw [encL_map, List.length_map]
theorem enc_get {l : List Ex} {j : Nat} {y : Ex} (hy : l[j]? = some y) : (encL l)[j]? = some (cellsE y) := by rw [encL_map, List.getElem?_map, hy]; rfl
theorem Size_ok : ∀ (x : Ex), size x ≤ 9223372036854775807 → Ok E 21 [] [pE x] (pI (size x)) []
  | ⟨k, n, nm, l⟩, h => by
    have h' : 1 + sizeL l ≤ 9223372036854775807 := by rw [size] at h; exact h
    have hll := sizeL_len l
    have hel := enc_len l
    refine Ok.enter hE Tryd.func21 rfl (by decide +kernel) (by kernel_rfl) rfl rfl (Nat.le_of_ble_eq_true rfl) rfl ?_
    refine Loop.cut (α := Nat) (fun j => j ≤ l.length) (fun j => [(1, .ptr 0 0), (3, pI (1 + sizeL (l.take j))), (7, .c (.row (encL l))), (8, pI (encL l).length), (9, pI j)]) (fun j => [(cellsE ⟨k, n, nm, l⟩).map .c]) (fun _ => []) (fun j => l.length - j) 0 1 (fun _ => rfl) (fun _ => rfl) (fun _ => rfl) (Nat.zero_le _) ⟨⟨rfl, ?_, rfl, rfl, rfl, trivial⟩, rfl, rfl⟩ ?_
    · show PV.c _ = _; rw [List.take_zero, sizeL]; rfl
    intro j f hj
    by_cases hjl : j < l.length
    · obtain ⟨y, hy⟩ : ∃ y, l[j]? = some y := ⟨_, List.getElem?_eq_getElem hjl⟩
      have hst := sizeL_take l j y hy
      have hle := sizeL_le l (j + 1)
      have hp := sizeL_pos (l.take j)
      have hpy := size_pos y
      refine ⟨_, ltT (by omega), ?_⟩
      refine ⟨_, idxV (j := j) (enc_get hy) rfl rfl rfl rfl, ?_⟩
      refine ⟨_, CallR.mk1 (Size_ok y (by omega)) rfl rfl, ?_⟩
      refine ⟨_, addV (z := 1 + sizeL (l.take (j + 1))) (by omega) (by omega) (by omega), ?_⟩
      refine ⟨_, addV rfl (by omega) (by omega), ?_⟩
      exact ⟨j + 1, hjl, by omega, ⟨rfl, rfl, rfl, rfl, rfl, trivial⟩, ⟨_, rfl⟩, rfl⟩
    · refine ⟨_, ltN (by omega), ?_⟩
      have : j = l.length := by omega
      exact Ret.mk _ rfl (by show PV.c _ = _; rw [this, List.take_length, size]) rfl
termination_by x => SizeOf.sizeOf x
decreasing_by
  have := List.sizeOf_lt_of_mem (List.mem_of_getElem? hy)
  simp only [Go.Proofs.YtjnbhdbpajnlgaaDoor.Q.S26.mk.sizeOf_spec]
  omega
theorem deepL_lt (l : List Ex) : deepL l ≤ sizeL l := (deepL_le l).2
theorem Deep_ok : ∀ (x : Ex), size x ≤ 9223372036854775807 → Ok E 23 [] [pE x] (pI (deep x)) []
  | ⟨k, n, nm, l⟩, h => by
    have h' : 1 + sizeL l ≤ 9223372036854775807 := by rw [size] at h; exact h
    have hll := sizeL_len l
    have hel := enc_len l
    refine Ok.enter hE Tryd.func23 rfl (by decide +kernel) (by kernel_rfl) rfl rfl (Nat.le_of_ble_eq_true rfl) rfl ?_
    refine Loop.cut (α := Nat) (fun j => j ≤ l.length) (fun j => [(1, .ptr 0 0), (3, pI (deepL (l.take j))), (7, .c (.row (encL l))), (8, pI (encL l).length), (9, pI j)]) (fun j => [(cellsE ⟨k, n, nm, l⟩).map .c]) (fun _ => []) (fun j => l.length - j) 0 1 (fun _ => rfl) (fun _ => rfl) (fun _ => rfl) (Nat.zero_le _) ⟨⟨rfl, ?_, rfl, rfl, rfl, trivial⟩, rfl, rfl⟩ ?_
    · show PV.c _ = _; rw [List.take_zero, deepL]
    intro j f hj
    by_cases hjl : j < l.length
    · obtain ⟨y, hy⟩ : ∃ y, l[j]? = some y := ⟨_, List.getElem?_eq_getElem hjl⟩
      have hst := deepL_take l j y hy
      have hss := sizeL_take l j y hy
      have hle := sizeL_le l (j + 1)
      have hp := sizeL_pos (l.take j)
      refine ⟨_, ltT (by omega), ?_⟩
      refine ⟨_, idxV (j := j) (enc_get hy) rfl rfl rfl rfl, ?_⟩
      refine ⟨_, CallR.mk1 (Deep_ok y (by omega)) rfl rfl, ?_⟩
      refine ⟨_, maxV hst.symm, ?_⟩
      refine ⟨_, addV rfl (by omega) (by omega), ?_⟩
      exact ⟨j + 1, hjl, by omega, ⟨rfl, rfl, rfl, rfl, rfl, trivial⟩, ⟨_, rfl⟩, rfl⟩
    · refine ⟨_, ltN (by omega), ?_⟩
      have : j = l.length := by omega
      subst this
      have hd := deepL_le l
      refine ⟨_, addV (z := deep ⟨k, n, nm, l⟩) (by rw [List.take_length, deep]; omega) (by rw [deep]; omega) (by rw [deep]; omega), ?_⟩
      exact Ret.mk _ rfl rfl rfl
termination_by x => SizeOf.sizeOf x
decreasing_by
  have := List.sizeOf_lt_of_mem (List.mem_of_getElem? hy)
  simp only [Go.Proofs.YtjnbhdbpajnlgaaDoor.Q.S26.mk.sizeOf_spec]
  omega
end Go.Proofs.YtjnbhdbpajnlgaaDoor.Pm

/- What was walked by hand, as contracts of the pure machine. -/
namespace Go.Proofs.YtjnbhdbpajnlgaaDoor.Pm
open Go Go.RowKit Go.Proofs.YtjnbhdbpajnlgaaDoorW.PrintWords Go.Proofs.YtjnbhdbpajnlgaaDoorW.PrintLast Go.Proofs.YtjnbhdbpajnlgaaDoorW.PrintMore
set_option linter.unusedVariables false
set_option maxHeartbeats 400000
theorem Mem.below {E : Env} (hE : EnvOK E) {w w' : World} {ok : Nat → Nat → Prop} (M : Mem E ⟨w, ok, []⟩ [] [] [] ok w) (hb : Below w.heap.size w w') : Mem E ⟨w, ok, []⟩ [] [] [] ok w' where
  inv := hE.stable w w' M.inv hb.size fun b h => hb.block b (Nat.lt_of_lt_of_le h (hE.glob w M.inv))
  os := hb.os
  tape := hb.tape
  output := hb.output
  size := hb.size
  frame := fun k hk _ => hb.block k hk
  okb := M.okb
  oks := fun b o h => Nat.lt_of_lt_of_le (M.oks b o h) hb.size
  len := rfl
  box := fun i b h => by simp at h
  inj := fun i j b h => by simp at h
  tok := fun t r h => by simp at h
  tinj := fun t u r s g h => by simp at h
  gb := M.gb
  tsz := fun t r i h => by simp at h
theorem Ok.ofBelow {E : Env} (hE : EnvOK E) {f : FuncId} {args : List PV} {r : PV} (hc : Callable E.P f) (h : ∀ (w : World) (ok : Nat → Nat → Prop) (vals : Array Value), E.I w → RepL (Rep w ok [] []) vals.toList args → ∃ v : Value, (∀ w', Rep w' ok [] [] v r) ∧ Calls E.P f vals w fun e w' => e = .returned v ∧ Below w.heap.size w w') : Ok E f [] args r [] := by
  refine ⟨hc, fun w ok ms vals M hr => ?_⟩
  have hm : ms = [] := by have := M.len; simpa using this
  subst hm
  obtain ⟨v, hv, hcall⟩ := h w ok vals M.inv hr
  refine hcall.mono ?_
  rintro e w' ⟨rfl, hb⟩
  exact ⟨v, ok, rfl, M.below hE hb, fun _ _ h => h, hv w'⟩
section
variable {w : World} {ok : Nat → Nat → Prop}
theorem RepC.row_inv {v : Value} {xs : List (List CV)} (h : RepC w ok v (.row xs)) : ∃ A cap, v = .slice A xs.length cap ∧ xs.length ≤ cap := by
  cases h with
  | row A len cap xs sz vs hl hcap hnil hpos hsz hA hr => subst hl; exact ⟨A, cap, rfl, hcap⟩
theorem ok_C : ∀ (s : Nat) (l : List Ex), SizeOf.sizeOf l < s → ∀ A cap, l.length ≤ 9223372036854775807 → Q.rngA l = true → RepC w ok (.slice A l.length cap) (.row (encL l)) → Kd.C Q.k26 w A l.length l := by
  intro s
  induction s with
  | zero => intro l h; omega
  | succ s ih =>
    intro l hs A cap hl hrng h
    obtain ⟨n', xs', hn', hxs', h'⟩ : ∃ n xs, n = l.length ∧ xs = encL l ∧ RepC w ok (.slice A n cap) (.row xs) := ⟨_, _, rfl, rfl, h⟩
    cases h' with
    | row _ len _ xs sz vs hlen hcap hnil hpos hsz hA hr =>
      subst hxs'
      refine ⟨rfl, hl, fun hp => ?_⟩
      have hsz4 : ∀ (j : Nat) (x : Ex), l[j]? = some x → sz = 4 := fun j x hj => by
        have := hsz (cellsE x) (List.mem_of_getElem? (enc_get hj))
        exact this.symm
      have hs4 : sz = 4 := by
        obtain ⟨x, hx⟩ : ∃ x, l[0]? = some x := ⟨_, List.getElem?_eq_getElem hp⟩
        exact hsz4 0 x hx
      subst hs4
      obtain ⟨ad, hAd, -, -⟩ := hA 0 (by omega)
      refine ⟨ad, hAd, fun j x hj => ?_⟩
      have hjl := (List.getElem?_eq_some_iff.1 hj).1
      have hc := hr j (cellsE x) 
      have h3 := hc 3 _ (enc_get hj) rfl
      obtain ⟨A3, c3, hv3, hc3⟩ := h3.row_inv
      rw [enc_len] at hv3 hc3
      have h0 := hc 0 _ (enc_get hj) rfl
      have h1 := hc 1 _ (enc_get hj) rfl
      have h2 := hc 2 _ (enc_get hj) rfl
      have hmem := List.mem_of_getElem? hj
      have hso := List.sizeOf_lt_of_mem hmem
      have hrx := Q.rngA_mem l hrng x hmem
      have hl3 : x.f3.length < 4611686018427387904 ∧ Q.rngA x.f3 = true := by
        obtain ⟨k, n, nm, l3⟩ := x
        rw [Q.rngE, Bool.and_eq_true] at hrx
        exact ⟨(of_decide_eq_true hrx.1).2, hrx.2⟩
      rw [hv3] at h3
      have hk := Q.k26_mk w x hc3 (ih x.f3 (by
        obtain ⟨k, n, nm, l3⟩ := x
        rw [Q.S26.mk.sizeOf_spec] at hso
        show SizeOf.sizeOf l3 < s
        omega) A3 c3 (by omega) hl3.2 h3)
      refine ⟨_, rfl, hk, fun i u hu => ?_⟩
      have hlt : i < 4 := by have := (List.getElem?_eq_some_iff.1 hu).1; simpa using this
      obtain ⟨ad', hAd', -, hcell⟩ := hA (j * 4 + i) (by omega)
      rw [hAd] at hAd'
      injection hAd' with hAd'
      subst hAd'
      show w.cell? (ad.add (j * 4 + i)) = some u
      rw [hcell]
      have hi : i = 0 ∨ i = 1 ∨ i = 2 ∨ i = 3 := by omega
      rcases hi with rfl | rfl | rfl | rfl
      · simp at hu; subst hu
        generalize vs (j * 4 + 0) = y at h0; cases h0; rfl
      · simp at hu; subst hu
        generalize vs (j * 4 + 1) = y at h1; cases h1; rfl
      · simp at hu; subst hu
        generalize vs (j * 4 + 2) = y at h2; cases h2; rfl
      · simp at hu; subst hu
        rw [hv3]
end
theorem one_str {w : World} {ok : Nat → Nat → Prop} {vals : Array Value} {s : ByteArray} (h : RepL (Rep w ok [] []) vals.toList [pS s]) : vals = #[.string s] := by
  apply Array.ext'
  match hv : vals.toList, h with
  | [v], h => rw [h.head.str_inv]
theorem Word_ok (s : ByteArray) : Ok E 81 [] [pS s] (pB (Lib.containsS Q.wordsB s)) [] := by
  refine Ok.ofBelow hE ⟨_, Tryd.func81, by decide +kernel, by kernel_rfl⟩ fun w ok vals hI hr => ?_
  refine ⟨.bool (Lib.containsS Q.wordsB s), fun _ => .mkBool _, ?_⟩
  obtain rfl := one_str hr
  exact Q.lex_Word.calls s _ w rfl
theorem agg_inv {w : World} {ok : Nat → Nat → Prop} {v : Value} {x : Ex} (h : Rep w ok [] [] v (pE x)) : ∃ A c, v = .agg #[.int .i64 x.f0, .int .i64 x.f1, .string x.f2, .slice A x.f3.length c] ∧ x.f3.length ≤ c ∧ RepC w ok (.slice A x.f3.length c) (.row (encL x.f3)) := by
  cases h with
  | agg cs _ h =>
    obtain ⟨hl, hg⟩ := h
    have hl : cs.toList.length = 4 := hl
    match hv : cs.toList, hl with
    | [a, b, c, d], _ =>
      rw [hv] at hg
      have h0 := hg 0 _ _ rfl rfl
      have h1 := hg 1 _ _ rfl rfl
      have h2 := hg 2 _ _ rfl rfl
      have h3 := hg 3 _ _ rfl rfl
      obtain ⟨A, cap, rfl, hc⟩ := h3.row_inv
      rw [enc_len] at h3 hc
      refine ⟨A, cap, ?_, hc, h3⟩
      congr 1
      apply Array.ext'
      rw [hv]
      cases h0; cases h1; cases h2
      rw [enc_len]
theorem rng_len {x : Ex} (h : Q.rngE x = true) : x.f3.length ≤ 9223372036854775807 ∧ Q.rngA x.f3 = true := by
  obtain ⟨k, n, nm, l⟩ := x
  rw [Q.rngE, Bool.and_eq_true] at h
  have := (of_decide_eq_true h.1).2
  exact ⟨by show l.length ≤ _; omega, h.2⟩
theorem text_ok (x : Ex) (hr : Q.rngE x = true) (hne : Q.txtE x ≠ []) (hl : (Q.txtE x).length ≤ 70368744177664) : Ok E 43 [] [pE x] (pS (Pl.B (Q.txtE x))) [] := by
  refine Ok.ofBelow hE ⟨_, Tryd.func43, by decide +kernel, by kernel_rfl⟩ fun w ok vals hI hv => ?_
  refine ⟨.string (Pl.B (Q.txtE x)), fun _ => .mkStr _, ?_⟩
  match hvl : vals.toList, hv with
  | [v], hv =>
    obtain ⟨A, c, rfl, hc, hR⟩ := agg_inv hv.head
    obtain ⟨g1, g2⟩ := rng_len hr
    have hvals : vals = #[.agg #[.int .i64 x.f0, .int .i64 x.f1, .string x.f2, .slice A x.f3.length c]] := by apply Array.ext'; rw [hvl]
    subst hvals
    obtain ⟨k, n, nm, l⟩ := x
    exact Q.tree_text.calls k n nm A c l _ w (ok_C _ _ (Nat.lt_succ_self _) A c g1 g2 hR) hc ⟨hI.tab⟩ (by unfold Q.tree_text.f; exact if_pos ⟨hr, hne, hl⟩)
theorem Same_ok (x y : Ex) (hx : Q.rngE x = true) (hy : Q.rngE y = true) : Ok E 25 [] [pE x, pE y] (pB (Q.sameE x y)) [] := by
  refine Ok.ofBelow hE ⟨_, Tryd.func25, by decide +kernel, by kernel_rfl⟩ fun w ok vals hI hv => ?_
  refine ⟨.bool (Q.sameE x y), fun _ => .mkBool _, ?_⟩
  match hvl : vals.toList, hv with
  | [v, u], hv =>
    obtain ⟨A, c, rfl, hc, hR⟩ := agg_inv hv.head
    obtain ⟨B, d, rfl, hd, hS⟩ := agg_inv hv.tail.head
    obtain ⟨g1, g2⟩ := rng_len hx
    obtain ⟨k1, k2⟩ := rng_len hy
    have hvals : vals = #[.agg #[.int .i64 x.f0, .int .i64 x.f1, .string x.f2, .slice A x.f3.length c], .agg #[.int .i64 y.f0, .int .i64 y.f1, .string y.f2, .slice B y.f3.length d]] := by apply Array.ext'; rw [hvl]
    subst hvals
    obtain ⟨k, n, nm, l⟩ := x
    obtain ⟨k', n', nm', l'⟩ := y
    exact Q.tree_Same.calls k n nm A c l k' n' nm' B d l' _ w (ok_C _ _ (Nat.lt_succ_self _) A c g1 g2 hR) hc (ok_C _ _ (Nat.lt_succ_self _) B d k1 k2 hS) hd (by unfold Q.tree_Same.f; exact if_pos hx)
def formP (k : Int) : ByteArray × Int × Int × Bool := match Q.formT k with
  | some (w, m, a) => (⟨w.toArray⟩, m, a, true)
  | none => (⟨#[]⟩, 0, 0, false)
theorem Form_ok (k : Int) : Ok E 69 [] [pI k] (.tup [pS (formP k).1, pI (formP k).2.1, pI (formP k).2.2.1, pB (formP k).2.2.2]) [] := by
  refine Ok.ofBelow hE ⟨_, Tryd.func69, by decide +kernel, by kernel_rfl⟩ fun w ok vals hI hv => ?_
  refine ⟨.tuple #[.string (formP k).1, .int .i64 (formP k).2.1, .int .i64 (formP k).2.2.1, .bool (formP k).2.2.2], fun w' => .tup _ _ rfl fun i v d hv hd => ?_, ?_⟩
  · match i with
    | 0 => simp at hv hd; subst hv; subst hd; exact .mkStr _
    | 1 => simp at hv hd; subst hv; subst hd; exact .mkInt _ _
    | 2 => simp at hv hd; subst hv; subst hd; exact .mkInt _ _
    | 3 => simp at hv hd; subst hv; subst hd; exact .mkBool _
    | n + 4 => simp at hv
  · match hvl : vals.toList, hv with
    | [v], hv =>
      have hvals : vals = #[.int .i64 k] := by apply Array.ext'; rw [hvl, hv.head.int_inv]
      subst hvals
      refine Q.tree_Form.calls k _ _ _ _ w ?_
      unfold Q.tree_Form.f formP
      cases Q.formT k with
      | none => rfl
      | some p => rfl
theorem IndexByte_ok (s : ByteArray) (b : Int) : Ok E 95 [] [pS s, .c (.int .u8 b)] (pI (Lib.indexByte s.data.toList b.toNat.toUInt8)) [] := by
  refine Ok.ofBelow hE ⟨_, Tryd.func95, by decide +kernel, by kernel_rfl⟩ fun w ok vals hI hv => ?_
  refine ⟨.int .i64 (Lib.indexByte s.data.toList b.toNat.toUInt8), fun _ => .mkInt _ _, ?_⟩
  match hvl : vals.toList, hv with
  | [v, u], hv =>
    have hvals : vals = #[.string s, .int .u8 b] := by apply Array.ext'; rw [hvl, hv.head.str_inv, hv.tail.head.int_inv]
    subst hvals
    refine (Q.strings_IndexByte.calls s b _ w rfl).mono ?_
    rintro e w' ⟨rfl, hd⟩
    exact ⟨rfl, hd.below⟩
end Go.Proofs.YtjnbhdbpajnlgaaDoor.Pm

/- Names, and what may be, in the pure machine. -/
namespace Go.Proofs.YtjnbhdbpajnlgaaDoor.Pm
open Go Go.RowKit
set_option linter.unusedVariables false
set_option maxHeartbeats 400000
theorem ba_get (s : ByteArray) (j : Nat) : s[j]? = s.data.toList[j]? := by
  by_cases h : j < s.size
  · have h' : j < s.data.toList.length := by simpa using h
    rw [getElem?_pos s j h, List.getElem?_eq_getElem h']
    rfl
  · rw [getElem?_neg s j h, List.getElem?_eq_none (by simpa using h)]
theorem idxSV {E : Env} {t sz bb : Nat} {zz : List CV} {s : ByteArray} {n : Int} {k : IntKind} (j : Nat) (b : UInt8) (h1 : E.T t = some ⟨.str, sz, zz, bb⟩) (hn : n = (j : Int)) (hb : s.data.toList[j]? = some b) : IdxR E t (pS s) (.c (.int k n)) (.c (.int .u8 b.toNat)) where
  h := by
    subst hn
    unfold indexF
    rw [h1]
    show byteAtF _ _ = _
    unfold byteAtF
    rw [decide_eq_true (Int.natCast_nonneg j)]
    show (match s[(j : Int).toNat]? with
      | some b => some (PV.c (.int .u8 b.toNat))
      | none => none) = _
    rw [Int.toNat_natCast, ba_get, hb]
def inB (set : ByteArray) (c : UInt8) : Bool := decide (Lib.indexByte set.data.toList c ≥ 0)
theorem in_ok (set : ByteArray) (c : UInt8) : Ok E 79 [] [.c (.int .u8 c.toNat), pS set] (pB (inB set c)) [] := by
  have h := IndexByte_ok set c.toNat
  have e : ((c.toNat : Int).toNat.toUInt8) = c := by simp
  rw [e] at h
  refine Ok.enter hE Tryd.func79 rfl (by decide +kernel) (by kernel_rfl) rfl rfl (Nat.le_of_ble_eq_true rfl) rfl ?_
  refine ⟨_, CallR.mk1 h rfl rfl, ?_⟩
  refine ⟨_, geV (c := inB set c) rfl, ?_⟩
  exact Ret.mk _ rfl rfl rfl
def runB (set : ByteArray) : List UInt8 → Nat
  | [] => 0
  | c :: l => if inB set c then runB set l + 1 else 0
theorem run_ok (s set : ByteArray) (hs : s.size ≤ 4611686018427387904) : Ok E 80 [] [pS s, pS set] (pI (runB set s.data.toList)) [] := by
  have hsz : s.data.toList.length = s.size := by simp
  refine Ok.enter hE Tryd.func80 rfl (by decide +kernel) (by kernel_rfl) rfl rfl (Nat.le_of_ble_eq_true rfl) rfl ?_
  refine Loop.run (α := Nat) (fun j => j ≤ s.size ∧ runB set s.data.toList = j + runB set (s.data.toList.drop j)) (fun j => [(0, pS s), (1, pS set), (7, pI s.size), (8, pI j)]) (fun _ => []) (fun _ => []) (fun j => s.size - j) 0 ⟨Nat.zero_le _, by simp⟩ ⟨⟨rfl, rfl, rfl, rfl, trivial⟩, rfl, rfl⟩ ?_
  rintro j f ⟨hj, hr⟩
  by_cases hjl : j < s.size
  · refine ⟨_, ltT (by omega), ?_⟩
    obtain ⟨b, hb⟩ : ∃ b, s.data.toList[j]? = some b := ⟨_, List.getElem?_eq_getElem (by omega)⟩
    have hd : s.data.toList.drop j = b :: s.data.toList.drop (j + 1) := by
      rw [List.drop_eq_getElem_cons (by omega)]
      congr 1
      rw [List.getElem?_eq_getElem (by omega)] at hb
      exact Option.some.inj hb
    rw [hd, runB] at hr
    refine ⟨_, idxSV j b rfl rfl hb, ?_⟩
    have hI := in_ok set b
    rcases Bool.eq_false_or_eq_true (inB set b) with hin | hin
    · rw [hin] at hI
      rw [if_pos hin] at hr
      refine ⟨_, CallR.mk1 hI rfl rfl, ?_⟩
      refine ⟨_, addV rfl (by omega) (by omega), ?_⟩
      exact ⟨j + 1, ⟨hjl, by omega⟩, by omega, ⟨rfl, rfl, rfl, rfl, trivial⟩, rfl, rfl⟩
    · rw [hin] at hI
      rw [if_neg (by rw [hin]; simp)] at hr
      refine ⟨_, CallR.mk1 hI rfl rfl, ?_⟩
      have hv : j = runB set s.data.toList := by omega
      exact Ret.mk _ rfl (congrArg (fun n : Nat => pI n) hv) rfl
  · refine ⟨_, ltN (by omega), ?_⟩
    have hv : s.size = runB set s.data.toList := by
      rw [hr, List.drop_of_length_le (by omega), runB]; omega
    exact Ret.mk _ rfl (congrArg (fun n : Nat => pI n) hv) rfl
def abcB : ByteArray := ⟨#[97, 98, 99, 100, 101, 102, 103, 104, 105, 106, 107, 108, 109, 110, 111, 112, 113, 114, 115, 116, 117, 118, 119, 120, 121, 122]⟩
def abc9B : ByteArray := ⟨#[97, 98, 99, 100, 101, 102, 103, 104, 105, 106, 107, 108, 109, 110, 111, 112, 113, 114, 115, 116, 117, 118, 119, 120, 121, 122, 48, 49, 50, 51, 52, 53, 54, 55, 56, 57]⟩
def isName (s : ByteArray) : Bool := match s.data.toList with
  | [] => false
  | c :: l => decide (s.size ≤ 12) && (inB abcB c && (decide (runB abc9B (c :: l) = s.size) && !(Lib.containsS Q.wordsB s)))
theorem toList_data (s : ByteArray) : s.toList = s.data.toList := Lib.toList_data s
theorem Name_ok (s : ByteArray) : Ok E 58 [] [pS s] (pB (isName s)) [] := by
  have hsz : s.data.toList.length = s.size := by simp
  have hw := Word_ok s
  obtain ⟨v, hv⟩ : ∃ v, isName s = v := ⟨_, rfl⟩
  rw [hv]
  unfold isName at hv
  cases hl : s.data.toList with
  | nil =>
    rw [hl] at hv
    subst hv
    refine Ok.enter hE Tryd.func58 rfl (by decide +kernel) (by kernel_rfl) rfl rfl (Nat.le_of_ble_eq_true rfl) rfl ?_
    refine ⟨_, strNeV (c := false) (by rw [toList_data, toList_data, hl]; rfl), ?_⟩
    exact Ret.mk _ rfl rfl rfl
  | cons c l =>
    rw [hl] at hv
    dsimp only at hv
    refine Ok.enter hE Tryd.func58 rfl (by decide +kernel) (by kernel_rfl) rfl rfl (Nat.le_of_ble_eq_true rfl) rfl ?_
    refine ⟨_, strNeV (c := true) (by rw [toList_data, toList_data, hl]; rfl), ?_⟩
    by_cases h12 : s.size ≤ 12
    · rw [decide_eq_true h12, Bool.true_and] at hv
      refine ⟨_, leT (by omega), ?_⟩
      refine ⟨_, idxSV 0 c rfl rfl (by rw [hl]; rfl), ?_⟩
      have hI := in_ok abcB c
      rcases Bool.eq_false_or_eq_true (inB abcB c) with hin | hin
      · rw [hin] at hv hI
        rw [Bool.true_and] at hv
        refine ⟨_, CallR.mk1 hI rfl rfl, ?_⟩
        have hrun := run_ok s abc9B (by omega)
        rw [hl] at hrun
        refine ⟨_, CallR.mk1 hrun rfl rfl, ?_⟩
        by_cases hrn : runB abc9B (c :: l) = s.size
        · rw [decide_eq_true hrn, Bool.true_and] at hv
          refine ⟨_, eqT (by omega), ?_⟩
          refine ⟨_, CallR.mk1 hw rfl rfl, ?_⟩
          exact Ret.mk _ rfl (congrArg (fun b : Bool => pB b) hv) rfl
        · rw [decide_eq_false hrn] at hv; subst hv
          refine ⟨_, eqN (by omega), ?_⟩
          exact Ret.mk _ rfl rfl rfl
      · rw [hin] at hv hI
        subst hv
        refine ⟨_, CallR.mk1 hI rfl rfl, ?_⟩
        exact Ret.mk _ rfl rfl rfl
    · rw [decide_eq_false h12] at hv; subst hv
      refine ⟨_, leN (by omega), ?_⟩
      exact Ret.mk _ rfl rfl rfl
end Go.Proofs.YtjnbhdbpajnlgaaDoor.Pm

/- What may be, and is printed, in the pure machine. -/
namespace Go.Proofs.YtjnbhdbpajnlgaaDoor.Pm
open Go Go.RowKit
set_option linter.unusedVariables false
set_option maxHeartbeats 1000000
def isCond (k : Int) : Bool := decide (k = 11) || decide (k = 12)
theorem cond_ok (k : Int) : Ok E 70 [] [pI k] (pB (isCond k)) [] := by
  obtain ⟨v, hv⟩ : ∃ v, isCond k = v := ⟨_, rfl⟩
  rw [hv]
  unfold isCond at hv
  refine Ok.enter hE Tryd.func70 rfl (by decide +kernel) (by kernel_rfl) rfl rfl (Nat.le_of_ble_eq_true rfl) rfl ?_
  by_cases h : k = 11
  · rw [decide_eq_true h, Bool.true_or] at hv; subst hv
    refine ⟨_, eqT h, ?_⟩
    exact Ret.mk _ rfl rfl rfl
  · rw [decide_eq_false h, Bool.false_or] at hv
    refine ⟨_, eqN h, ?_⟩
    refine ⟨_, eqV (c := v) (by rw [← hv]; rfl), ?_⟩
    exact Ret.mk _ rfl rfl rfl
def isNamed (k : Int) (nm : ByteArray) : Bool := if k = 3 then isName nm else nm.toList == (⟨#[]⟩ : ByteArray).toList
theorem named_ok (x : Ex) : Ok E 71 [] [pE x] (pB (isNamed x.f0 x.f2)) [] := by
  obtain ⟨k, n, nm, l⟩ := x
  show Ok E _ [] [pE ⟨k, n, nm, l⟩] (pB (isNamed k nm)) []
  obtain ⟨v, hv⟩ : ∃ v, isNamed k nm = v := ⟨_, rfl⟩
  rw [hv]
  unfold isNamed at hv
  have hN := Name_ok nm
  refine Ok.enter hE Tryd.func71 rfl (by decide +kernel) (by kernel_rfl) rfl rfl (Nat.le_of_ble_eq_true rfl) rfl ?_
  by_cases h : k = 3
  · rw [if_pos h] at hv
    rw [hv] at hN
    refine ⟨_, eqT h, ?_⟩
    refine ⟨_, CallR.mk1 hN rfl rfl, ?_⟩
    exact Ret.mk _ rfl rfl rfl
  · rw [if_neg h] at hv
    refine ⟨_, eqN h, ?_⟩
    refine ⟨_, strEqV hv, ?_⟩
    exact Ret.mk _ rfl rfl rfl
mutual
def isFine : Int → Bool → Ex → Bool
  | d, c, ⟨k, n, nm, l⟩ => (formP k).2.2.2 && (decide (¬ d < 1) && ((isCond k == c) && (decide (¬ n < 0) && (decide (¬ n > (formP k).2.1) && (decide ((l.length : Int) = (formP k).2.2.1) && (isNamed k nm && fineL (d - 1) (decide (k = 10)) l))))))
def fineL : Int → Bool → List Ex → Bool
  | _, _, [] => true
  | d, c, x :: l => isFine d c x && fineL d false l
end
theorem neBT {c d : Bool} {sz bb : Nat} {zz : List CV} (h : (!(c == d)) = true) : BinR (some ⟨.bool, sz, zz, bb⟩) .neq (pB c) (pB d) (pB true) := ⟨by
  cases c <;> cases d <;> simp at h <;> rfl⟩
theorem neBN {c d : Bool} {sz bb : Nat} {zz : List CV} (h : (c == d) = true) : BinR (some ⟨.bool, sz, zz, bb⟩) .neq (pB c) (pB d) (pB false) := ⟨by
  cases c <;> cases d <;> simp at h <;> rfl⟩
theorem fine_ok : ∀ (x : Ex), Q.rngE x = true → ∀ (d : Int), I64 d → ∀ c : Bool, Ok E 45 [] [pE x, pI d, pB c] (pB (isFine d c x)) []
  | ⟨k, n, nm, l⟩, hr, d, hd, c => by
    obtain ⟨v, hv⟩ : ∃ v, isFine d c ⟨k, n, nm, l⟩ = v := ⟨_, rfl⟩
    rw [hv]
    rw [isFine] at hv
    have hel := enc_len l
    have hlr : l.length < 4611686018427387904 ∧ Q.rngA l = true := by
      rw [Q.rngE, Bool.and_eq_true] at hr
      exact ⟨(of_decide_eq_true hr.1).2, hr.2⟩
    have hF := Form_ok k
    have hC := cond_ok k
    have hN : Ok E _ [] [pE ⟨k, n, nm, l⟩] (pB (isNamed k nm)) [] := named_ok ⟨k, n, nm, l⟩
    obtain ⟨⟨w, m, a, o⟩, hf⟩ : ∃ p, formP k = p := ⟨_, rfl⟩
    rw [hf] at hF hv
    dsimp only at hF hv
    obtain ⟨hd0, hd1⟩ := hd
    cases o with
    | false =>
      have : v = false := by rw [← hv]; rfl
      subst this
      refine Ok.enter hE Tryd.func45 rfl (by decide +kernel) (by kernel_rfl) rfl rfl (Nat.le_of_ble_eq_true rfl) rfl ?_
      refine ⟨_, CallR.mk1 hF rfl rfl, ?_⟩
      exact Ret.mk _ rfl rfl rfl
    | true =>
      rw [Bool.true_and] at hv
      refine Ok.enter hE Tryd.func45 rfl (by decide +kernel) (by kernel_rfl) rfl rfl (Nat.le_of_ble_eq_true rfl) rfl ?_
      refine ⟨_, CallR.mk1 hF rfl rfl, ?_⟩
      by_cases h1 : d < 1
      · rw [decide_eq_false (by omega)] at hv
        have : v = false := hv.symm
        subst this
        refine ⟨_, ltT h1, ?_⟩
        exact Ret.mk _ rfl rfl rfl
      rw [decide_eq_true h1, Bool.true_and] at hv
      refine ⟨_, ltN h1, ?_⟩
      refine ⟨_, CallR.mk1 hC rfl rfl, ?_⟩
      rcases Bool.eq_false_or_eq_true (isCond k == c) with h2 | h2
      rotate_left
      · rw [h2] at hv
        have : v = false := hv.symm
        subst this
        refine ⟨_, neBT (by rw [h2]; rfl), ?_⟩
        exact Ret.mk _ rfl rfl rfl
      rw [h2, Bool.true_and] at hv
      refine ⟨_, neBN h2, ?_⟩
      by_cases h3 : n < 0
      · rw [decide_eq_false (by omega)] at hv
        have : v = false := hv.symm
        subst this
        refine ⟨_, ltT h3, ?_⟩
        exact Ret.mk _ rfl rfl rfl
      rw [decide_eq_true h3, Bool.true_and] at hv
      refine ⟨_, ltN h3, ?_⟩
      by_cases h4 : n > m
      · rw [decide_eq_false (by omega)] at hv
        have : v = false := hv.symm
        subst this
        refine ⟨_, gtT h4, ?_⟩
        exact Ret.mk _ rfl rfl rfl
      rw [decide_eq_true h4, Bool.true_and] at hv
      refine ⟨_, gtN h4, ?_⟩
      by_cases h5 : (l.length : Int) = a
      rotate_left
      · rw [decide_eq_false h5] at hv
        have : v = false := hv.symm
        subst this
        refine ⟨_, neT (by rw [hel]; exact h5), ?_⟩
        exact Ret.mk _ rfl rfl rfl
      rw [decide_eq_true h5, Bool.true_and] at hv
      refine ⟨_, neN (by rw [hel]; exact h5), ?_⟩
      rcases Bool.eq_false_or_eq_true (isNamed k nm) with h6 | h6
      rotate_left
      · rw [h6] at hv hN
        have : v = false := hv.symm
        subst this
        refine ⟨_, CallR.mk1 hN rfl rfl, ?_⟩
        exact Ret.mk _ rfl rfl rfl
      rw [h6] at hv hN
      rw [Bool.true_and] at hv
      refine ⟨_, CallR.mk1 hN rfl rfl, ?_⟩
      refine Loop.cut (α := Nat) (fun j => j ≤ l.length ∧ fineL (d - 1) (decide (k = 10) && Nat.beq j 0) (l.drop j) = v) (fun j => [(1, pI d), (3, .ptr 0 0), (58, .c (.row (encL l))), (59, pI (encL l).length), (60, pI j)]) (fun j => [(cellsE ⟨k, n, nm, l⟩).map .c]) (fun _ => []) (fun j => l.length - j) 0 1 (fun _ => rfl) (fun _ => rfl) (fun _ => rfl)
        ⟨Nat.zero_le _, by rw [← hv, List.drop_zero, show Nat.beq 0 0 = true from rfl, Bool.and_true]⟩ ⟨⟨rfl, rfl, rfl, rfl, rfl, trivial⟩, rfl, rfl⟩ ?_
      rintro j f ⟨hj, hjv⟩
      by_cases hjl : j < l.length
      · obtain ⟨y, hy⟩ : ∃ y, l[j]? = some y := ⟨_, List.getElem?_eq_getElem hjl⟩
        have hry := Q.rngA_mem l hlr.2 y (List.mem_of_getElem? hy)
        have hdr : l.drop j = y :: l.drop (j + 1) := by
          rw [List.drop_eq_getElem_cons hjl]
          congr 1
          rw [List.getElem?_eq_getElem hjl] at hy
          exact Option.some.inj hy
        rw [hdr, fineL] at hjv
        refine ⟨_, ltT (by omega), ?_⟩
        refine ⟨_, idxV (j := j) (enc_get hy) rfl rfl rfl rfl, ?_⟩
        refine ⟨_, subV rfl (by omega) (by omega), ?_⟩
        by_cases h10 : k = 10
        · refine ⟨_, eqT h10, ?_⟩
          by_cases hj0 : j = 0
          · refine ⟨_, eqT (by omega), ?_⟩
            rw [decide_eq_true h10, hj0, show Nat.beq 0 0 = true from rfl, Bool.and_true] at hjv
            rw [← hj0] at hjv
            have hI := fine_ok y hry (d - 1) ⟨by omega, by omega⟩ true
            rcases Bool.eq_false_or_eq_true (isFine (d - 1) true y) with hin | hin
            · rw [hin] at hI hjv
              rw [Bool.true_and] at hjv
              refine ⟨_, CallR.mk1 hI rfl rfl, ?_⟩
              refine ⟨_, addV rfl (by omega) (by omega), ?_⟩
              exact ⟨j + 1, ⟨hjl, by rw [show (decide (k = 10) && Nat.beq (j + 1) 0) = false from Bool.and_false _]; exact hjv⟩, by omega, ⟨rfl, rfl, rfl, rfl, rfl, trivial⟩, ⟨_, rfl⟩, rfl⟩
            · rw [hin] at hI hjv
              refine ⟨_, CallR.mk1 hI rfl rfl, ?_⟩
              exact Ret.mk _ rfl (congrArg (fun b : Bool => pB b) (show false = v from hjv)) rfl
          · refine ⟨_, eqN (by omega), ?_⟩
            rw [show (decide (k = 10) && Nat.beq j 0) = false by
              cases j with
              | zero => exact absurd rfl hj0
              | succ j => exact Bool.and_false _] at hjv
            have hI := fine_ok y hry (d - 1) ⟨by omega, by omega⟩ false
            rcases Bool.eq_false_or_eq_true (isFine (d - 1) false y) with hin | hin
            · rw [hin] at hI hjv
              rw [Bool.true_and] at hjv
              refine ⟨_, CallR.mk1 hI rfl rfl, ?_⟩
              refine ⟨_, addV rfl (by omega) (by omega), ?_⟩
              exact ⟨j + 1, ⟨hjl, by rw [show (decide (k = 10) && Nat.beq (j + 1) 0) = false from Bool.and_false _]; exact hjv⟩, by omega, ⟨rfl, rfl, rfl, rfl, rfl, trivial⟩, ⟨_, rfl⟩, rfl⟩
            · rw [hin] at hI hjv
              refine ⟨_, CallR.mk1 hI rfl rfl, ?_⟩
              exact Ret.mk _ rfl (congrArg (fun b : Bool => pB b) (show false = v from hjv)) rfl
        · refine ⟨_, eqN h10, ?_⟩
          rw [decide_eq_false h10, Bool.false_and] at hjv
          have hI := fine_ok y hry (d - 1) ⟨by omega, by omega⟩ false
          rcases Bool.eq_false_or_eq_true (isFine (d - 1) false y) with hin | hin
          · rw [hin] at hI hjv
            rw [Bool.true_and] at hjv
            refine ⟨_, CallR.mk1 hI rfl rfl, ?_⟩
            refine ⟨_, addV rfl (by omega) (by omega), ?_⟩
            exact ⟨j + 1, ⟨hjl, by rw [show (decide (k = 10) && Nat.beq (j + 1) 0) = false from Bool.and_false _]; exact hjv⟩, by omega, ⟨rfl, rfl, rfl, rfl, rfl, trivial⟩, ⟨_, rfl⟩, rfl⟩
          · rw [hin] at hI hjv
            refine ⟨_, CallR.mk1 hI rfl rfl, ?_⟩
            exact Ret.mk _ rfl (congrArg (fun b : Bool => pB b) (show false = v from hjv)) rfl
      · refine ⟨_, ltN (by omega), ?_⟩
        rw [List.drop_of_length_le (by omega), fineL] at hjv
        exact Ret.mk _ rfl (congrArg (fun b : Bool => pB b) hjv) rfl
termination_by x => SizeOf.sizeOf x
decreasing_by
  all_goals
    have := List.sizeOf_lt_of_mem (List.mem_of_getElem? hy)
    simp only [Go.Proofs.YtjnbhdbpajnlgaaDoor.Q.S26.mk.sizeOf_spec]
    omega
end Go.Proofs.YtjnbhdbpajnlgaaDoor.Pm

/- Right, Print, in the pure machine. -/
namespace Go.Proofs.YtjnbhdbpajnlgaaDoor.Pm
open Go Go.RowKit
set_option linter.unusedVariables false
set_option maxHeartbeats 1000000
/-- what a tree has to fulfil to be looked at (its text is no longer than Go's memory, its count no greater than Go's numbers) -/
structure Fit (x : Ex) : Prop where
  rng : Q.rngE x = true
  size : size x ≤ 9223372036854775807
  ne : Q.txtE x ≠ []
  len : (Q.txtE x).length ≤ 70368744177664
def isRight (x : Ex) : Bool := isFine 32 false x && (decide (size x ≤ 2000) && decide ((Q.txtE x).length ≤ 2000))
theorem Right_ok (x : Ex) (hr : Q.rngE x = true) (hs : size x ≤ 9223372036854775807) (ht : isFine 32 false x = true → size x ≤ 2000 → Fit x) : Ok E 19 [] [pE x] (pB (isRight x)) [] := by
  obtain ⟨v, hv⟩ : ∃ v, isRight x = v := ⟨_, rfl⟩
  rw [hv]
  unfold isRight at hv
  have hF := fine_ok x hr 32 ⟨by omega, by omega⟩ false
  have hS := Size_ok x hs
  obtain ⟨k, n, nm, l⟩ := x
  rcases Bool.eq_false_or_eq_true (isFine 32 false ⟨k, n, nm, l⟩) with h1 | h1
  · rw [h1] at hv hF
    rw [Bool.true_and] at hv
    by_cases h2 : size ⟨k, n, nm, l⟩ ≤ 2000
    · rw [decide_eq_true h2, Bool.true_and] at hv
      have fit := ht h1 h2
      have hT := text_ok ⟨k, n, nm, l⟩ hr fit.ne fit.len
      have hl : (Pl.B (Q.txtE ⟨k, n, nm, l⟩)).size = (Q.txtE ⟨k, n, nm, l⟩).length := rfl
      refine Ok.enter hE Tryd.func19 rfl (by decide +kernel) (by kernel_rfl) rfl rfl (Nat.le_of_ble_eq_true rfl) rfl ?_
      refine ⟨_, CallR.mk1 hF rfl rfl, ?_⟩
      refine ⟨_, CallR.mk1 hS rfl rfl, ?_⟩
      refine ⟨_, leT (by omega), ?_⟩
      refine ⟨_, CallR.mk1 hT rfl rfl, ?_⟩
      refine ⟨_, leV (c := v) (by rw [← hv, hl]; exact decide_eq_decide.2 (by omega)), ?_⟩
      exact Ret.mk _ rfl rfl rfl
    · rw [decide_eq_false h2] at hv
      have : v = false := hv.symm
      subst this
      refine Ok.enter hE Tryd.func19 rfl (by decide +kernel) (by kernel_rfl) rfl rfl (Nat.le_of_ble_eq_true rfl) rfl ?_
      refine ⟨_, CallR.mk1 hF rfl rfl, ?_⟩
      refine ⟨_, CallR.mk1 hS rfl rfl, ?_⟩
      refine ⟨_, leN (by omega), ?_⟩
      exact Ret.mk _ rfl rfl rfl
  · rw [h1] at hv hF
    have : v = false := hv.symm
    subst this
    refine Ok.enter hE Tryd.func19 rfl (by decide +kernel) (by kernel_rfl) rfl rfl (Nat.le_of_ble_eq_true rfl) rfl ?_
    refine ⟨_, CallR.mk1 hF rfl rfl, ?_⟩
    exact Ret.mk _ rfl rfl rfl
theorem Print_ok (x : Ex) (hR : Ok E 19 [] [pE x] (pB (isRight x)) []) (hT : isRight x = true → Ok E 43 [] [pE x] (pS (Pl.B (Q.txtE x))) []) : Ok E 17 [] [pE x] (.tup (if isRight x then [pS (Pl.B (Q.txtE x)), pI 0] else [pS ⟨#[]⟩, pI 1])) [] := by
  obtain ⟨k, n, nm, l⟩ := x
  rcases Bool.eq_false_or_eq_true (isRight ⟨k, n, nm, l⟩) with h1 | h1
  · have hT := hT h1
    rw [h1] at hR ⊢
    rw [if_pos rfl]
    refine Ok.enter hE Tryd.func17 rfl (by decide +kernel) (by kernel_rfl) rfl rfl (Nat.le_of_ble_eq_true rfl) rfl ?_
    refine ⟨_, CallR.mk1 hR rfl rfl, ?_⟩
    refine ⟨_, CallR.mk1 hT rfl rfl, ?_⟩
    exact Ret.mk _ rfl rfl rfl
  · rw [h1] at hR ⊢
    rw [if_neg (by simp)]
    refine Ok.enter hE Tryd.func17 rfl (by decide +kernel) (by kernel_rfl) rfl rfl (Nat.le_of_ble_eq_true rfl) rfl ?_
    refine ⟨_, CallR.mk1 hR rfl rfl, ?_⟩
    exact Ret.mk _ rfl rfl rfl
end Go.Proofs.YtjnbhdbpajnlgaaDoor.Pm

/- Cells that may be told otherwise, rows too. -/
namespace Go.Proofs.YtjnbhdbpajnlgaaDoor.Pm
open Go Go.RowKit
set_option linter.unusedVariables false
mutual
inductive WC : CV → CV → Prop
  | refl (c : CV) : WC c c
  | nilRow : WC .nil (.row [])
  | row {xs ys : List (List CV)} (h : WRows xs ys) : WC (.row xs) (.row ys)
inductive WRows : List (List CV) → List (List CV) → Prop
  | nil : WRows [] []
  | cons {x y : List CV} {xs ys : List (List CV)} (h : WRow x y) (t : WRows xs ys) : WRows (x :: xs) (y :: ys)
inductive WRow : List CV → List CV → Prop
  | nil : WRow [] []
  | cons {c d : CV} {cs ds : List CV} (h : WC c d) (t : WRow cs ds) : WRow (c :: cs) (d :: ds)
end
theorem WRow.length : ∀ {x y : List CV}, WRow x y → x.length = y.length
  | _, _, .nil => rfl
  | _, _, .cons _ t => by simp [t.length]
theorem WRows.length : ∀ {x y : List (List CV)}, WRows x y → x.length = y.length
  | _, _, .nil => rfl
  | _, _, .cons _ t => by simp [t.length]
theorem WRows.sz : ∀ {x y : List (List CV)} {n : Nat}, WRows x y → (∀ r ∈ x, r.length = n) → ∀ r ∈ y, r.length = n
  | _, _, _, .nil, _ => by simp
  | _, _, _, .cons h t, hx => by
    intro r hr
    rcases List.mem_cons.1 hr with rfl | hr
    · rw [← h.length]; exact hx _ (by simp)
    · exact t.sz (fun r hr => hx r (by simp [hr])) r hr
section
variable {w : World} {ok : Nat → Nat → Prop}
mutual
theorem WC.rep : ∀ {c d : CV}, WC c d → ∀ v, RepC w ok v c → RepC w ok v d
  | _, _, .refl _, v, h => h
  | _, _, .nilRow, v, h => h.nil_row
  | _, _, .row hr, v, h => by
    cases h with
    | row A len cap xs sz vs hl hcap hnil hpos hsz hA hg =>
      exact .row A len cap _ sz vs (by rw [hl, hr.length]) hcap hnil hpos (hr.sz hsz) hA (fun i y j d hy hd => hr.rep i y hy j d hd (vs (i * sz + j)) fun x c hx hc => hg i x j c hx hc)
theorem WRows.rep : ∀ {xs ys : List (List CV)}, WRows xs ys → ∀ (i : Nat) (y : List CV), ys[i]? = some y → ∀ (j : Nat) (d : CV), y[j]? = some d → ∀ v, (∀ x c, xs[i]? = some x → x[j]? = some c → RepC w ok v c) → RepC w ok v d
  | _, _, .nil, i, y, hy, _, _, _, _, _ => by simp at hy
  | _, _, .cons h t, i, y, hy, j, d, hd, v, hv => by
    cases i with
    | zero =>
      simp at hy; subst hy
      exact h.rep j d hd v fun c hc => hv _ c rfl hc
    | succ i => exact t.rep i y (by simpa using hy) j d hd v fun x c hx hc => hv x c (by simpa using hx) hc
theorem WRow.rep : ∀ {x y : List CV}, WRow x y → ∀ (j : Nat) (d : CV), y[j]? = some d → ∀ v, (∀ c, x[j]? = some c → RepC w ok v c) → RepC w ok v d
  | _, _, .nil, j, d, hd, _, _ => by simp at hd
  | _, _, .cons h t, j, d, hd, v, hv => by
    cases j with
    | zero =>
      simp at hd; subst hd
      exact h.rep v (hv _ rfl)
    | succ j => exact t.rep j d (by simpa using hd) v fun c hc => hv c (by simpa using hc)
end
end
theorem Wk.aggW {cs ds : List CV} (h : WRow cs ds) : Wk (.agg cs) (.agg ds) := by
  intro w ok m tk v hv
  cases hv with
  | agg vs _ hg => exact .agg vs ds ⟨by rw [hg.1, h.length], fun i v d hv hd => h.rep i d hd v fun c hc => hg.2 i v c hv hc⟩
end Go.Proofs.YtjnbhdbpajnlgaaDoor.Pm

/- The fixed answers of awake: trees that are named, and how they are told. -/
namespace Go.Proofs.YtjnbhdbpajnlgaaDoor.Pm
open Go Go.RowKit
set_option linter.unusedVariables false
def lowE : Ex := ⟨1, 0, e0, []⟩
def xE : Ex := ⟨9, 0, e0, [⟨5, 1, e0, [lowE]⟩, ⟨4, 999, e0, []⟩]⟩
def mE : Ex := ⟨11, 0, e0, []⟩
def zE : Ex := ⟨0, 0, e0, []⟩
theorem wRow4 {k n : Int} {s : ByteArray} {c d : CV} (h : WC c d) : WRow [.int .i64 k, .int .i64 n, .str s, c] [.int .i64 k, .int .i64 n, .str s, d] :=
  .cons (.refl _) (.cons (.refl _) (.cons (.refl _) (.cons h .nil)))
theorem wk_leaf (k n : Int) (s : ByteArray) : WRow [.int .i64 k, .int .i64 n, .str s, .nil] (cellsE ⟨k, n, s, []⟩) := by
  show WRow _ [_, _, _, .row (encL [])]
  rw [encL_map]
  exact wRow4 .nilRow
theorem wk_node (k n : Int) (s : ByteArray) (l : List Ex) {xs : List (List CV)} (h : WRows xs (l.map cellsE)) : WRow [.int .i64 k, .int .i64 n, .str s, .row xs] (cellsE ⟨k, n, s, l⟩) := by
  show WRow _ [_, _, _, .row (encL l)]
  rw [encL_map]
  exact wRow4 (.row h)
theorem wk_xE : WRow [.int .i64 9, .int .i64 0, .str e0, .row [[.int .i64 5, .int .i64 1, .str e0, .row [[.int .i64 1, .int .i64 0, .str e0, .nil]]], [.int .i64 4, .int .i64 999, .str e0, .nil]]] (cellsE xE) :=
  wk_node _ _ _ _ (.cons (wk_node _ _ _ _ (.cons (wk_leaf _ _ _) .nil)) (.cons (wk_leaf _ _ _) .nil))
theorem x_facts : Q.rngE xE = true ∧ size xE = 4 ∧ deep xE = 3 ∧ (Q.txtE xE).length = 30 ∧ isFine 32 false xE = true := by decide +kernel
theorem m_facts : Q.rngE mE = true ∧ size mE = 1 ∧ isFine 32 false mE = false := by decide +kernel
theorem z_facts : Q.rngE zE = true ∧ size zE = 1 ∧ isFine 32 false zE = false := by decide +kernel
theorem s_facts : Q.sameE xE xE = true ∧ Q.sameE xE lowE = false ∧ Q.rngE lowE = true := by decide +kernel
end Go.Proofs.YtjnbhdbpajnlgaaDoor.Pm

/- awake, in the pure machine. -/
namespace Go.Proofs.YtjnbhdbpajnlgaaDoor.Pm
open Go Go.RowKit
set_option linter.unusedVariables false
set_option maxHeartbeats 1000000
theorem awake_ok : Ok E 14 [] [] (pB true) [] := by
  obtain ⟨x1, x2, x3, x4, x5⟩ := x_facts
  obtain ⟨m1, m2, m3⟩ := m_facts
  obtain ⟨z1, z2, z3⟩ := z_facts
  obtain ⟨s1, s2, s3⟩ := s_facts
  have fx : Fit xE := ⟨x1, by rw [x2]; decide, (fun h => by rw [h] at x4; exact absurd x4 (by decide)), by rw [x4]; decide⟩
  have rx : isRight xE = true := by unfold isRight; rw [x5, x2, x4]; rfl
  have rm : isRight mE = false := by unfold isRight; rw [m3]; rfl
  have rz : isRight zE = false := by unfold isRight; rw [z3]; rfl
  have hRx := Right_ok xE x1 fx.size fun _ _ => fx
  have hRm := Right_ok mE m1 (by rw [m2]; decide) fun h => by rw [m3] at h; cases h
  have hRz := Right_ok zE z1 (by rw [z2]; decide) fun h => by rw [z3] at h; cases h
  have hPx := Print_ok xE hRx fun _ => text_ok xE x1 fx.ne fx.len
  have hPm := Print_ok mE hRm fun h => by rw [rm] at h; cases h
  rw [rx] at hRx hPx
  rw [rm] at hPm
  rw [rz] at hRz
  rw [if_pos rfl] at hPx
  rw [if_neg (by simp)] at hPm
  have hSz := Size_ok xE fx.size
  have hDp := Deep_ok xE fx.size
  rw [x2] at hSz
  rw [x3] at hDp
  have hSx := Same_ok xE xE x1 x1
  have hSl := Same_ok xE lowE x1 s3
  rw [s1] at hSx
  rw [s2] at hSl
  have wx := Wk.aggW wk_xE
  refine Ok.enter hE Tryd.func14 rfl (by decide +kernel) (by kernel_rfl) rfl rfl (Nat.le_of_ble_eq_true rfl) rfl ?_
  refine ⟨_, ⟨_, rfl, rfl⟩, ?_⟩
  refine ⟨_, ⟨_, rfl, rfl⟩, ?_⟩
  refine ⟨_, CallR.mkW hPx (.cons wx .nil) rfl rfl, ?_⟩
  refine ⟨_, CallR.mkW hPm (.cons (Wk.aggW (wk_leaf 11 0 e0)) .nil) rfl rfl, ?_⟩
  refine ⟨_, strEqV (c := true) (by rw [toList_data, toList_data]; decide +kernel), ?_⟩
  refine ⟨_, eqT rfl, ?_⟩
  refine ⟨_, eqT rfl, ?_⟩
  refine ⟨_, CallR.mkW hSz (.cons wx .nil) rfl rfl, ?_⟩
  refine ⟨_, eqT rfl, ?_⟩
  refine ⟨_, CallR.mkW hDp (.cons wx .nil) rfl rfl, ?_⟩
  refine ⟨_, eqT rfl, ?_⟩
  refine ⟨_, CallR.mkW hSx (.cons wx (.cons wx .nil)) rfl rfl, ?_⟩
  refine ⟨_, CallR.mkW hSl (.cons wx (.cons (Wk.aggW (wk_leaf 1 0 e0)) .nil)) rfl rfl, ?_⟩
  refine ⟨_, CallR.mkW hRx (.cons wx .nil) rfl rfl, ?_⟩
  refine ⟨_, CallR.mkW hRz (.cons (Wk.aggW (wk_leaf 0 0 e0)) .nil) rfl rfl, ?_⟩
  exact Ret.mk _ rfl rfl rfl
end Go.Proofs.YtjnbhdbpajnlgaaDoor.Pm

/- Facts on trees in plain words: what a strategy of raw numbers is; what fine trees are. -/
namespace Go.Proofs.YtjnbhdbpajnlgaaDoor.Pm
open Go Go.RowKit Go.Proofs.YtjnbhdbpajnlgaaDoor.Pl
open Go.Proofs.YtjnbhdbpajnlgaaDoor.Q (rngE rngA txtE txtA sameE sameA formT wordL moreL sepA)
set_option linter.unusedVariables false
set_option linter.unusedSimpArgs false
/-! ### strategies of raw numbers -/
structure Small (d : Nat) (x : Ex) : Prop where
  rng : Q.rngE x = true
  size : size x ≤ ((4 ^ d : Nat) : Int)
  deep : deep x ≤ d
theorem small_list {d : Nat} : ∀ l : List Ex, (∀ x ∈ l, Small d x) → Q.rngA l = true ∧ sizeL l ≤ ((l.length * 4 ^ d : Nat) : Int) ∧ deepL l ≤ d
  | [], _ => ⟨rfl, by rw [sizeL]; omega, by rw [deepL]; omega⟩
  | x :: l, h => by
    have hx := h x List.mem_cons_self
    obtain ⟨a, b, c⟩ := small_list l fun y hy => h y (List.mem_cons_of_mem _ hy)
    have hs := hx.size
    have hd := hx.deep
    refine ⟨by rw [Q.rngA, hx.rng, a]; rfl, ?_, by rw [deepL]; omega⟩
    rw [sizeL, List.length_cons, Nat.add_mul]
    omega
theorem small_node {d : Nat} {l : List Ex} (hl : l.length ≤ 3) (h : ∀ x ∈ l, Small d x) (k n : Int) (nm : ByteArray) (hn : I64 n) : Small (d + 1) ⟨k, n, nm, l⟩ := by
  obtain ⟨a, b, c⟩ := small_list l h
  obtain ⟨n0, n1⟩ := hn
  refine ⟨?_, ?_, by rw [deep]; omega⟩
  · rw [Q.rngE, a, Bool.and_true]
    exact decide_eq_true ⟨⟨by omega, by omega⟩, by omega⟩
  · rw [size, Nat.pow_succ]
    have hp : 1 ≤ 4 ^ d := Nat.one_le_pow _ _ (by decide)
    have : l.length * 4 ^ d ≤ 3 * 4 ^ d := Nat.mul_le_mul_right _ hl
    omega
theorem small_more {d : Nat} (n : Int) (hn : I64 n) : Small (d + 1) (moreE n) := small_node (l := []) (by simp) (fun x hx => by cases hx) _ _ _ hn
theorem nx_i64 (L : List Int) (n : Int) (hn : 0 < n) (hm : n ≤ 12000) : I64 (nx L n) := by
  have := nx_rng (L := L) hn
  exact ⟨by omega, by omega⟩
theorem finF_small {d : Nat} (k : Int) {l : List Ex} (L : List Int) (hl : l.length ≤ 3) (h : ∀ x ∈ l, Small d x) : Small (d + 1) (finF k l L).1 := by
  unfold finF
  split
  · exact small_node hl h _ _ _ ⟨by decide, by decide⟩
  · split
    · exact small_node hl h _ _ _ (nx_i64 _ _ (by decide) (by decide))
    · split
      · exact small_node hl h _ _ _ (nx_i64 _ _ (by decide) (by decide))
      · exact small_node hl h _ _ _ ⟨by decide, by decide⟩
theorem argsL_mem {g : Bool → List Int → Ex × List Int} {b : Bool} {L : List Int} {m : Nat} {x : Ex} (h : x ∈ argsL g b L m) : ∃ j, j < m ∧ x = xL g b L j := by
  unfold argsL at h
  obtain ⟨j, hj, rfl⟩ := List.mem_map.1 h
  exact ⟨j, List.mem_range.1 hj, rfl⟩
theorem exF_small : ∀ (d : Nat) (c : Bool) (L : List Int), PL L → Small (d + 1) (exF (d + 1) c L).1
  | 0, true, L, h => by
    rw [exF, if_pos rfl]
    exact small_more _ (nx_i64 _ _ (by decide) (by decide))
  | d + 1, true, L, h => by
    rw [exF, if_neg (by omega)]
    split
    · exact small_more _ (nx_i64 _ _ (by decide) (by decide))
    · refine small_node (d := d + 1) (by simp) ?_ _ _ _ ⟨by decide, by decide⟩
      intro x hx
      simp only [List.mem_cons, List.not_mem_nil, or_false] at hx
      rcases hx with rfl | rfl
      · exact exF_small d _ _ h.tail
      · exact exF_small d _ _ (exF_PL _ _ _ h.tail)
  | d, false, L, h => by
    rw [exF]
    have hkr := kindF_rng d L
    have har := argsOf_rng (k := kindF d L) ⟨hkr.1, hkr.2.1⟩
    refine finF_small _ _ (by rw [argsL_len]; omega) ?_
    intro x hx
    obtain ⟨j, hj, rfl⟩ := argsL_mem hx
    cases d with
    | zero =>
      have := argsOf_low (k := kindF 0 L) ⟨hkr.1, hkr.2.2 rfl⟩
      omega
    | succ d => exact exF_small d _ _ (stL_PL (exF_PL _) _ h.tail j)
theorem strat_small (raw : List Int) (h : ∀ a ∈ raw, I64 a) : Small 5 (stratF raw) := exF_small 4 false _ ⟨fun a ha => h a (List.mem_of_mem_take ha), by simp; omega⟩
/-! ### fine trees -/
theorem idx_mem : ∀ (l : List UInt8) (c : UInt8), 0 ≤ Lib.indexByte l c → c ∈ l
  | [], c, h => by simp [Lib.indexByte] at h
  | x :: l, c, h => by
    by_cases hx : (x == c) = true
    · rw [beq_iff_eq] at hx
      subst hx
      exact List.mem_cons_self
    · rw [Lib.indexByte, if_neg hx] at h
      refine List.mem_cons_of_mem _ (idx_mem l c ?_)
      by_cases hm : (Lib.indexByte l c == -1) = true
      · rw [if_pos hm] at h
        exact absurd h (by decide)
      · have := Lib.indexByte_ge l c
        have h2 : Lib.indexByte l c ≠ -1 := by simpa using hm
        generalize Lib.indexByte l c = q at *
        omega
theorem formT_args (k : Int) (w : List UInt8) (m a : Int) (h : formT k = some (w, m, a)) : 0 ≤ a ∧ a ≤ 3 ∧ 0 ≤ m ∧ m ≤ 1000000000000 := by
  unfold formT at h
  split at h
  all_goals first
    | (simp only [Option.some.injEq, Prod.mk.injEq] at h; obtain ⟨_, rfl, rfl⟩ := h; decide)
    | exact absurd h (by simp)
theorem textL_le (n : Int) : (textL n).length ≤ 24 := by
  by_cases h : okA n
  · rw [textL_ok h]
    have := DecT.digs_len (n.natAbs / 100)
    simp only [List.length_append, List.length_cons, List.length_nil]
    split <;> simp <;> omega
  · rw [textL_no h]; simp
theorem textL_ne (n : Int) (h0 : 0 ≤ n) (h1 : n ≤ 1000000000000) : textL n ≠ [] := by
  rw [textL_ok (by unfold okA; omega)]
  simp
theorem intL_le (n : Int) : (intL n).length ≤ 21 := by
  unfold intL
  split
  · have := DecT.digs_len n.natAbs
    simp
    omega
  · have := DecT.digs_len n.toNat
    omega
theorem wordL_le (k : Int) : (wordL k).length ≤ 6 := by
  unfold wordL formT
  split <;> simp
theorem isName_le (s : ByteArray) (h : isName s = true) : s.data.toList.length ≤ 12 := by
  unfold isName at h
  split at h
  · exact absurd h (by simp)
  · rename_i c l hl
    rw [Bool.and_eq_true] at h
    have := of_decide_eq_true h.1
    simpa using this
theorem runB_all (set : ByteArray) : ∀ (l : List UInt8), runB set l = l.length → ∀ c ∈ l, inB set c = true
  | [], _ => by simp
  | x :: l, h => by
    intro c hc
    rw [runB] at h
    split at h
    · rename_i hx
      rcases List.mem_cons.1 hc with rfl | hc
      · exact hx
      · exact runB_all set l (by simpa using h) c hc
    · simp at h
theorem more_le (k n : Int) (nm : ByteArray) (b : Bool) (h : isNamed k nm = true) : (sepA b (moreL k n nm)).length ≤ 26 := by
  unfold moreL
  have h1 := textL_le n
  have h2 := intL_le n
  by_cases h3 : k = 3
  · rw [if_pos h3]
    unfold isNamed at h
    rw [if_pos h3] at h
    have := isName_le nm h
    simp only [sepA, List.length_append, List.length_nil]
    split <;> simp at * <;> omega
  · rw [if_neg h3]
    by_cases h5 : k = 5
    · rw [if_pos h5]
      simp only [sepA, List.length_append, List.length_nil]
      split <;> simp <;> omega
    · rw [if_neg h5]
      by_cases h6 : k = 6 ∨ k = 11
      · rw [if_pos h6]
        simp only [sepA, List.length_append, List.length_nil]
        split <;> simp <;> omega
      · rw [if_neg h6]
        simp [sepA]
theorem fine_open {d : Int} {c : Bool} {k n : Int} {nm : ByteArray} {l : List Ex} (h : isFine d c ⟨k, n, nm, l⟩ = true) : ∃ w m a, formT k = some (w, m, a) ∧ 1 ≤ d ∧ isCond k = c ∧ 0 ≤ n ∧ n ≤ m ∧ m ≤ 1000000000000 ∧ (l.length : Int) = a ∧ a ≤ 3 ∧ isNamed k nm = true ∧ fineL (d - 1) (decide (k = 10)) l = true := by
  rw [isFine] at h
  unfold formP at h
  rcases hF : formT k with _ | ⟨w, m, a⟩
  · rw [hF] at h
    exact absurd h (by simp)
  · rw [hF] at h
    simp only [Bool.and_eq_true, decide_eq_true_eq, beq_iff_eq] at h
    obtain ⟨_, h1, h2, h3, h4, h5, h6, h7⟩ := h
    obtain ⟨_, ha3, _, hm1⟩ := formT_args k w m a hF
    exact ⟨w, m, a, rfl, by omega, h2, by omega, by omega, hm1, h5, ha3, h6, h7⟩
mutual
theorem fine_facts : ∀ (x : Ex) (m : Nat) (c : Bool), isFine (m : Int) c x = true → size x ≤ ((4 ^ m : Nat) : Int) ∧ deep x ≤ m ∧ rngE x = true ∧ txtE x ≠ [] ∧ ((txtE x).length : Int) + 2 ≤ 62 * size x
  | ⟨k, n, nm, l⟩, m, c, h => by
    obtain ⟨w, mm, a, hF, h1, h2, h3, h4, h5, h6, h7, h8, h9⟩ := fine_open h
    obtain ⟨m', rfl⟩ : ∃ m', m = m' + 1 := ⟨m - 1, by omega⟩
    rw [show ((m' + 1 : Nat) : Int) - 1 = (m' : Int) by omega] at h9
    obtain ⟨i1, i0, i2, i3⟩ := fine_factsA l m' (decide (k = 10)) h9
    refine ⟨?_, ?_, ?_, ?_, ?_⟩
    · rw [size, Nat.pow_succ]
      have hp : 1 ≤ 4 ^ m' := Nat.one_le_pow _ _ (by decide)
      have hl : l.length ≤ 3 := by omega
      have : l.length * 4 ^ m' ≤ 3 * 4 ^ m' := Nat.mul_le_mul_right _ hl
      omega
    · rw [deep]; omega
    · rw [rngE, i2, Bool.and_true]
      exact decide_eq_true ⟨⟨by omega, by omega⟩, by omega⟩
    · rw [txtE]
      by_cases k4 : k = 4
      · rw [if_pos k4]; exact textL_ne n h3 (by omega)
      · rw [if_neg k4]
        by_cases k12 : k = 1 ∨ k = 2
        · rw [if_pos k12]
          rcases k12 with rfl | rfl <;> decide
        · rw [if_neg k12]; simp
    · rw [txtE, size]
      have t1 := textL_le n
      have t2 := wordL_le k
      have t3 := more_le k n nm (k == 3 || l.isEmpty) h8
      have t4 := i3 true
      by_cases k4 : k = 4
      · rw [if_pos k4]; omega
      · rw [if_neg k4]
        by_cases k12 : k = 1 ∨ k = 2
        · rw [if_pos k12]; omega
        · rw [if_neg k12]
          by_cases k3 : k = 3
          · rw [if_pos k3]
            simp only [List.length_append, List.length_cons, List.length_nil]
            omega
          · rw [if_neg k3]
            simp only [List.length_append, List.length_cons, List.length_nil]
            omega
theorem fine_factsA : ∀ (l : List Ex) (m : Nat) (c : Bool), fineL (m : Int) c l = true → sizeL l ≤ ((l.length * 4 ^ m : Nat) : Int) ∧ deepL l ≤ m ∧ rngA l = true ∧ ∀ b, ((txtA b l).length : Int) ≤ 62 * sizeL l
  | [], m, c, _ => ⟨by simp [sizeL], by rw [deepL]; omega, rfl, fun b => by simp [txtA, sizeL]⟩
  | x :: l, m, c, h => by
    rw [fineL, Bool.and_eq_true] at h
    obtain ⟨a1, a0, a2, a3, a4⟩ := fine_facts x m c h.1
    obtain ⟨b1, b0, b2, b3⟩ := fine_factsA l m false h.2
    refine ⟨?_, by rw [deepL]; omega, ?_, fun b => ?_⟩
    · rw [sizeL, List.length_cons, Nat.add_mul]; omega
    · rw [rngA, a2, b2]; rfl
    · rw [txtA, sizeL]
      have := b3 false
      simp only [List.length_append]
      split <;> simp <;> omega
end
theorem fit_of {x : Ex} (h : isFine 32 false x = true) (hs : size x ≤ 2000) : Fit x := by
  obtain ⟨a, _, b, c, d⟩ := fine_facts x 32 false h
  exact ⟨b, by omega, c, by omega⟩
theorem right_ok (x : Ex) (hr : rngE x = true) (hs : size x ≤ 9223372036854775807) : Ok E 19 [] [pE x] (pB (isRight x)) [] := Right_ok x hr hs fit_of
theorem right_open {x : Ex} (h : isRight x = true) : isFine 32 false x = true ∧ size x ≤ 2000 ∧ (txtE x).length ≤ 2000 := by
  unfold isRight at h
  rw [Bool.and_eq_true, Bool.and_eq_true] at h
  exact ⟨h.1, of_decide_eq_true h.2.1, of_decide_eq_true h.2.2⟩
theorem right_fit {x : Ex} (h : isRight x = true) : Fit x := fit_of (right_open h).1 (right_open h).2.1
theorem print_ok (x : Ex) (hr : rngE x = true) (hs : size x ≤ 9223372036854775807) : Ok E 17 [] [pE x] (.tup (if isRight x then [pS (B (txtE x)), pI 0] else [pS ⟨#[]⟩, pI 1])) [] :=
  Print_ok x (right_ok x hr hs) fun h => text_ok x hr (right_fit h).ne (right_fit h).len
end Go.Proofs.YtjnbhdbpajnlgaaDoor.Pm

/- Unlike fine trees have unlike texts. -/
namespace Go.Proofs.YtjnbhdbpajnlgaaDoor.Pm
open Go Go.RowKit Go.Proofs.YtjnbhdbpajnlgaaDoor.Pl
open Go.Proofs.YtjnbhdbpajnlgaaDoor.Q (rngE rngA txtE txtA sameE sameA formT wordL moreL sepA)
set_option linter.unusedVariables false
set_option linter.unusedSimpArgs false
def isP (c : UInt8) : Bool := c == 40 || (c == 41 || c == 44)
def Free (m : List UInt8) : Prop := ∀ c ∈ m, isP c = false
def Stop (r : List UInt8) : Prop := r = [] ∨ ∃ c t, r = c :: t ∧ isP c = true
theorem split_eq : ∀ (m m' r s : List UInt8), Free m → Free m' → Stop r → Stop s → m ++ r = m' ++ s → m = m' ∧ r = s
  | [], [], r, s, _, _, _, _, h => ⟨rfl, h⟩
  | [], c :: m', r, s, _, hm', hr, _, h => by
    rcases hr with rfl | ⟨d, t, rfl, hd⟩
    · simp at h
    · simp only [List.nil_append, List.cons_append, List.cons.injEq] at h
      rw [h.1, hm' c List.mem_cons_self] at hd
      exact absurd hd (by decide)
  | c :: m, [], r, s, hm, _, _, hs, h => by
    rcases hs with rfl | ⟨d, t, rfl, hd⟩
    · simp at h
    · simp only [List.nil_append, List.cons_append, List.cons.injEq] at h
      rw [← h.1, hm c List.mem_cons_self] at hd
      exact absurd hd (by decide)
  | c :: m, c' :: m', r, s, hm, hm', hr, hs, h => by
    simp only [List.cons_append, List.cons.injEq] at h
    obtain ⟨h1, h2⟩ := split_eq m m' r s (fun x hx => hm x (List.mem_cons_of_mem _ hx)) (fun x hx => hm' x (List.mem_cons_of_mem _ hx)) hr hs h.2
    exact ⟨by rw [h.1, h1], h2⟩
theorem dig_free (n : Nat) : isP (dig n) = false := by
  have h := dig_toNat n
  unfold isP
  have : (dig n) ≠ 40 ∧ (dig n) ≠ 41 ∧ (dig n) ≠ 44 := by
    refine ⟨?_, ?_, ?_⟩ <;> (intro he; rw [he] at h; simp at h; omega)
  simp [this.1, this.2.1, this.2.2]
theorem digs_free (n : Nat) : Free (digs n) := by
  have hp : ∀ (f k : Nat), Free (digF f k) := by
    intro f
    induction f with
    | zero => intro k c hc; simp [digF] at hc
    | succ f ih =>
      intro k c hc
      rw [digF] at hc
      split at hc
      · simp only [List.mem_cons, List.not_mem_nil, or_false] at hc
        rw [hc]; exact dig_free k
      · rw [List.mem_append] at hc
        rcases hc with hc | hc
        · exact ih _ c hc
        · simp only [List.mem_cons, List.not_mem_nil, or_false] at hc
          rw [hc]; exact dig_free k
  exact hp 20 n
theorem text_free (n : Int) (h0 : 0 ≤ n) (h1 : n ≤ 1000000000000) : Free (textL n) := by
  rw [textL_ok (by unfold okA; omega), if_neg (by omega)]
  intro c hc
  simp only [List.nil_append, List.mem_append, List.mem_cons, List.not_mem_nil, or_false] at hc
  rcases hc with hc | rfl | rfl | rfl
  · exact digs_free _ c hc
  · rfl
  · exact dig_free _
  · exact dig_free _
theorem int_free (n : Int) (h0 : 0 ≤ n) : Free (intL n) := by
  unfold intL
  rw [if_neg (by omega)]
  exact digs_free _
theorem abc9_free : ∀ c ∈ abc9B.data.toList, isP c = false := by decide
theorem name_free (s : ByteArray) (h : isName s = true) : Free s.data.toList := by
  intro c hc
  unfold isName at h
  split at h
  · exact absurd h (by simp)
  · rename_i d l hl
    simp only [Bool.and_eq_true, decide_eq_true_eq] at h
    rw [hl] at hc
    have hall := runB_all abc9B (d :: l) (by rw [h.2.2.1]; have := congrArg List.length hl; simpa using this) c hc
    exact abc9_free c (idx_mem _ c (of_decide_eq_true hall))
theorem word_free (k : Int) : Free (wordL k) := by
  unfold wordL formT
  split <;> (intro c hc; revert c; decide)

def kindOfW (l : List UInt8) : Int := if l = wordL 1 then 1 else if l = wordL 2 then 2 else if l = wordL 3 then 3 else if l = wordL 5 then 5 else if l = wordL 6 then 6 else if l = wordL 7 then 7 else if l = wordL 8 then 8 else if l = wordL 9 then 9 else if l = wordL 10 then 10 else if l = wordL 11 then 11 else if l = wordL 12 then 12 else 0
theorem kinds_of (k : Int) (w : List UInt8) (m a : Int) (h : formT k = some (w, m, a)) : k = 1 ∨ k = 2 ∨ k = 3 ∨ k = 4 ∨ k = 5 ∨ k = 6 ∨ k = 7 ∨ k = 8 ∨ k = 9 ∨ k = 10 ∨ k = 11 ∨ k = 12 := by
  rcases Q.form_kinds k with ho | ho
  · rw [Q.formT_out k ho] at h
    exact absurd h (by simp)
  · exact ho
theorem kindW_word (k : Int) (w : List UInt8) (m a : Int) (h : formT k = some (w, m, a)) (h4 : k ≠ 4) : kindOfW (wordL k) = k ∧ ∃ c t, wordL k = c :: t ∧ isD c = false := by
  rcases kinds_of k w m a h with rfl | rfl | rfl | rfl | rfl | rfl | rfl | rfl | rfl | rfl | rfl | rfl
  all_goals first
    | exact absurd rfl h4
    | exact ⟨by decide, _, _, rfl, by decide⟩
theorem text_head (n : Int) (h0 : 0 ≤ n) (h1 : n ≤ 1000000000000) : ∃ c t, textL n = c :: t ∧ isD c = true := by
  rw [textL_ok (by unfold okA; omega), if_neg (by omega), List.nil_append]
  rcases hd : digs (n.natAbs / 100) with _ | ⟨c, t⟩
  · exact absurd hd (digs_ne _)
  · refine ⟨c, t ++ _, rfl, ?_⟩
    have := digs_all' (n.natAbs / 100)
    rw [hd, List.all_cons, Bool.and_eq_true] at this
    exact this.1
def headE (k n : Int) : List UInt8 := if k = 4 then textL n else wordL k
theorem head_kind (k n k' n' : Int) (w w' : List UInt8) (m a m' a' : Int) (hF : formT k = some (w, m, a)) (hF' : formT k' = some (w', m', a')) (h0 : 0 ≤ n) (h1 : n ≤ 1000000000000) (h0' : 0 ≤ n') (h1' : n' ≤ 1000000000000) (h : headE k n = headE k' n') : k = k' := by
  unfold headE at h
  by_cases h4 : k = 4
  · by_cases h4' : k' = 4
    · rw [h4, h4']
    · rw [if_pos h4, if_neg h4'] at h
      obtain ⟨c, t, e, hc⟩ := text_head n h0 h1
      obtain ⟨_, c', t', e', hc'⟩ := kindW_word k' w' m' a' hF' h4'
      rw [e, e'] at h
      injection h with h
      rw [h, hc'] at hc
      exact absurd hc (by decide)
  · by_cases h4' : k' = 4
    · rw [if_neg h4, if_pos h4'] at h
      obtain ⟨c, t, e, hc⟩ := text_head n' h0' h1'
      obtain ⟨_, c', t', e', hc'⟩ := kindW_word k w m a hF h4
      rw [e, e'] at h
      injection h with h
      rw [← h, hc'] at hc
      exact absurd hc (by decide)
    · rw [if_neg h4, if_neg h4'] at h
      rw [← (kindW_word k w m a hF h4).1, h, (kindW_word k' w' m' a' hF' h4').1]
/-- what stands behind the head -/
def bodyE (k n : Int) (nm : ByteArray) (l : List Ex) : List UInt8 := if k = 4 ∨ k = 1 ∨ k = 2 then [] else [40] ++ ((if k = 3 then [] else txtA true l) ++ (sepA (k == 3 || l.isEmpty) (moreL k n nm) ++ [41]))
theorem txt_split (k n : Int) (nm : ByteArray) (l : List Ex) : txtE ⟨k, n, nm, l⟩ = headE k n ++ bodyE k n nm l := by
  rw [txtE]
  unfold headE bodyE
  by_cases h4 : k = 4
  · rw [if_pos h4, if_pos h4, if_pos (.inl h4), List.append_nil]
  · rw [if_neg h4, if_neg h4]
    by_cases h12 : k = 1 ∨ k = 2
    · rw [if_pos h12, if_pos (.inr h12), List.append_nil]
    · have hn : ¬ (k = 4 ∨ k = 1 ∨ k = 2) := by omega
      rw [if_neg h12, if_neg hn]
      simp only [List.append_assoc]
theorem head_free (k n : Int) (h0 : 0 ≤ n) (h1 : n ≤ 1000000000000) : Free (headE k n) := by
  unfold headE
  split
  · exact text_free n h0 h1
  · exact word_free k
theorem body_stop (k n : Int) (nm : ByteArray) (l : List Ex) (r : List UInt8) (hr : Stop r) : Stop (bodyE k n nm l ++ r) := by
  unfold bodyE
  split
  · exact hr
  · exact .inr ⟨40, _, rfl, rfl⟩
theorem most0 (k : Int) (w : List UInt8) (m a : Int) (h : formT k = some (w, m, a)) (h4 : k ≠ 4) (h5 : k ≠ 5) (h6 : k ≠ 6) (h11 : k ≠ 11) : m = 0 := by
  rcases kinds_of k w m a h with rfl | rfl | rfl | rfl | rfl | rfl | rfl | rfl | rfl | rfl | rfl | rfl
  all_goals first
    | exact absurd rfl h4
    | exact absurd rfl h5
    | exact absurd rfl h6
    | exact absurd rfl h11
    | (simp only [formT, Option.some.injEq, Prod.mk.injEq] at h; exact h.2.1.symm)
theorem args0 (k : Int) (w : List UInt8) (m a : Int) (h : formT k = some (w, m, a)) (h4 : k = 4 ∨ k = 1 ∨ k = 2 ∨ k = 3) : a = 0 := by
  rcases h4 with rfl | rfl | rfl | rfl
  all_goals (simp only [formT, Option.some.injEq, Prod.mk.injEq] at h; exact h.2.2.symm)
theorem stop44 (r : List UInt8) : Stop (44 :: r) := .inr ⟨44, r, rfl, rfl⟩
theorem stop41 (r : List UInt8) : Stop (41 :: r) := .inr ⟨41, r, rfl, rfl⟩
theorem int_inj (n n' : Int) (h0 : 0 ≤ n) (h1 : n ≤ 1000000000000) (h0' : 0 ≤ n') (h1' : n' ≤ 1000000000000) (h : intL n = intL n') : n = n' := by
  unfold intL at h
  rw [if_neg (by omega), if_neg (by omega)] at h
  have := digs_inj (n := n.toNat) (m := n'.toNat) (by omega) (by omega) h
  omega
mutual
theorem text_inj : ∀ (x y : Ex) (m : Int) (c c' : Bool) (r s : List UInt8), isFine m c x = true → isFine m c' y = true → Stop r → Stop s → txtE x ++ r = txtE y ++ s → sameE x y = true ∧ r = s
  | ⟨k, n, nm, l⟩, ⟨k', n', nm', l'⟩, mm, c, c', r, s, hx, hy, hr, hs, h => by
    obtain ⟨w, m, a, hF, h1, h2, h3, h4, h5, h6, h7, h8, h9⟩ := fine_open hx
    obtain ⟨w', m', a', hF', h1', h2', h3', h4', h5', h6', h7', h8', h9'⟩ := fine_open hy
    rw [txt_split, txt_split, List.append_assoc, List.append_assoc] at h
    obtain ⟨e1, e2⟩ := split_eq _ _ _ _ (head_free k n h3 (by omega)) (head_free k' n' h3' (by omega)) (body_stop k n nm l r hr) (body_stop k' n' nm' l' s hs) h
    have ek := head_kind k n k' n' w w' m a m' a' hF hF' h3 (by omega) h3' (by omega) e1
    subst ek
    rw [hF] at hF'
    simp only [Option.some.injEq, Prod.mk.injEq] at hF'
    obtain ⟨rfl, rfl, rfl⟩ := hF'
    have hres : ∀ (e3 : n = n') (e4 : nm.toList = nm'.toList) (e5 : sameA l l' = true), sameE ⟨k, n, nm, l⟩ ⟨k, n', nm', l'⟩ = true := by
      intro e3 e4 e5
      rw [sameE, e3, e4, e5]
      simp
    have hnm : k ≠ 3 → nm.toList = nm'.toList := by
      intro h3k
      unfold isNamed at h8 h8'
      rw [if_neg h3k, beq_iff_eq] at h8 h8'
      rw [h8, h8']
    have hll : l.length = l'.length := by omega
    have hl0 : a = 0 → sameA l l' = true := by
      intro ha
      have e : l = [] := List.length_eq_zero_iff.1 (by omega)
      have e' : l' = [] := List.length_eq_zero_iff.1 (by omega)
      rw [e, e']; rfl
    unfold bodyE at e2
    by_cases hk : k = 4 ∨ k = 1 ∨ k = 2
    · rw [if_pos hk, if_pos hk] at e2
      have ha := args0 k w m a hF (by omega)
      refine ⟨hres ?_ (hnm (by omega)) (hl0 ha), by simpa using e2⟩
      by_cases k4 : k = 4
      · unfold headE at e1
        rw [if_pos k4, if_pos k4] at e1
        exact textL_inj (by unfold okA; omega) (by unfold okA; omega) e1
      · have := most0 k w m a hF k4 (by omega) (by omega) (by omega)
        omega
    rw [if_neg hk, if_neg hk] at e2
    simp only [List.append_assoc, List.cons_append, List.nil_append, List.cons.injEq, true_and] at e2
    by_cases k3 : k = 3
    · rw [if_pos k3, if_pos k3] at e2
      have hm3 : moreL k n nm = [nm.data.toList] ∧ moreL k n' nm' = [nm'.data.toList] := by unfold moreL; rw [if_pos k3, if_pos k3]; exact ⟨rfl, rfl⟩
      rw [hm3.1, hm3.2, show (k == 3) = true from beq_iff_eq.2 k3, Bool.true_or, Bool.true_or] at e2
      simp only [sepA, if_true, List.nil_append, List.append_nil] at e2
      unfold isNamed at h8 h8'
      rw [if_pos k3] at h8 h8'
      obtain ⟨q1, q2⟩ := split_eq _ _ _ _ (name_free nm h8) (name_free nm' h8') (stop41 _) (stop41 _) e2
      have hm0 := most0 k w m a hF (by omega) (by omega) (by omega) (by omega)
      refine ⟨hres (by omega) (by rw [Lib.toList_data, Lib.toList_data, q1]) (hl0 (args0 k w m a hF (by omega))), by simpa using q2⟩
    rw [if_neg k3, if_neg k3] at e2
    have hemp : l.isEmpty = l'.isEmpty := by
      cases l <;> cases l' <;> simp at hll ⊢
    rw [show (k == 3) = false from beq_eq_false_iff_ne.2 k3, Bool.false_or, Bool.false_or, ← hemp] at e2
    have hst : ∀ (n0 : Int) (nm0 : ByteArray) (q : List UInt8), l.isEmpty = false → Stop (sepA l.isEmpty (moreL k n0 nm0) ++ (41 :: q)) := by
      intro n0 nm0 q he
      rcases moreL k n0 nm0 with _ | ⟨x0, t0⟩
      · exact stop41 q
      · rw [sepA, he]
        exact stop44 _
    have hlist : sameA l l' = true ∧ sepA l.isEmpty (moreL k n nm) ++ (41 :: r) = sepA l.isEmpty (moreL k n' nm') ++ (41 :: s) := by
      rcases hle : l.isEmpty with _ | _
      · have := list_inj l l' (mm - 1) (decide (k = 10)) (decide (k = 10)) true hll h9 h9' _ _ (hst n nm r hle) (hst n' nm' s hle) e2
        rw [hle] at this
        exact this
      · have e : l = [] := List.isEmpty_iff.1 hle
        have e' : l' = [] := List.length_eq_zero_iff.1 (by rw [← hll, e]; rfl)
        subst e
        subst e'
        simp only [txtA, List.nil_append, List.isEmpty_nil] at e2
        exact ⟨rfl, e2⟩
    obtain ⟨hsame, e3⟩ := hlist
    by_cases k5 : k = 5
    · have hm5 : ∀ n0 nm0, moreL k n0 nm0 = [textL n0] := by intro n0 nm0; unfold moreL; rw [if_neg k3, if_pos k5]
      rw [hm5, hm5] at e3
      simp only [sepA, List.append_nil, List.append_assoc, List.append_cancel_left_eq] at e3
      obtain ⟨q1, q2⟩ := split_eq _ _ _ _ (text_free n h3 (by omega)) (text_free n' h3' (by omega)) (stop41 _) (stop41 _) e3
      exact ⟨hres (textL_inj (by unfold okA; omega) (by unfold okA; omega) q1) (hnm k3) hsame, by simpa using q2⟩
    by_cases k6 : k = 6 ∨ k = 11
    · have hm6 : ∀ n0 nm0, moreL k n0 nm0 = [intL n0] := by intro n0 nm0; unfold moreL; rw [if_neg k3, if_neg k5, if_pos k6]
      rw [hm6, hm6] at e3
      simp only [sepA, List.append_nil, List.append_assoc, List.append_cancel_left_eq] at e3
      obtain ⟨q1, q2⟩ := split_eq _ _ _ _ (int_free n h3) (int_free n' h3') (stop41 _) (stop41 _) e3
      exact ⟨hres (int_inj n n' h3 (by omega) h3' (by omega) q1) (hnm k3) hsame, by simpa using q2⟩
    · have hm7 : ∀ n0 nm0, moreL k n0 nm0 = [] := by intro n0 nm0; unfold moreL; rw [if_neg k3, if_neg k5, if_neg k6]
      rw [hm7, hm7] at e3
      simp only [sepA, List.nil_append, List.cons.injEq, true_and] at e3
      have hm0 := most0 k w m a hF (by omega) k5 (by omega) (by omega)
      exact ⟨hres (by omega) (hnm k3) hsame, e3⟩
theorem list_inj : ∀ (l l' : List Ex) (m : Int) (c c' b : Bool), l.length = l'.length → fineL m c l = true → fineL m c' l' = true → ∀ (r s : List UInt8), Stop r → Stop s → txtA b l ++ r = txtA b l' ++ s → sameA l l' = true ∧ r = s
  | [], [], m, c, c', b, _, _, _, r, s, _, _, h => ⟨rfl, by simpa [txtA] using h⟩
  | [], y :: l', m, c, c', b, hl, _, _, r, s, _, _, h => by simp at hl
  | x :: l, [], m, c, c', b, hl, _, _, r, s, _, _, h => by simp at hl
  | x :: l, y :: l', m, c, c', b, hl, hx, hy, r, s, hr, hs, h => by
    rw [fineL, Bool.and_eq_true] at hx hy
    rw [txtA, txtA] at h
    simp only [List.append_assoc, List.append_cancel_left_eq] at h
    have hst : ∀ (q : List Ex) (t : List UInt8), Stop t → Stop (txtA false q ++ t) := by
      intro q t ht
      cases q with
      | nil => simpa [txtA] using ht
      | cons z q => rw [txtA]; exact stop44 _
    obtain ⟨q1, q2⟩ := text_inj x y m c c' _ _ hx.1 hy.1 (hst l r hr) (hst l' s hs) h
    obtain ⟨q3, q4⟩ := list_inj l l' m false false false (by simpa using hl) hx.2 hy.2 r s hr hs q2
    exact ⟨by rw [sameA, q1, q3]; rfl, q4⟩
end
end Go.Proofs.YtjnbhdbpajnlgaaDoor.Pm

/- The statement TreeGrows, in the pure machine. -/
namespace Go.Proofs.YtjnbhdbpajnlgaaDoor.Pm
open Go Go.RowKit
set_option linter.unusedVariables false
set_option maxHeartbeats 1000000
theorem WRow.refl : ∀ x : List CV, WRow x x
  | [] => .nil
  | _ :: x => .cons (.refl _) (WRow.refl x)
theorem WRows.refl : ∀ x : List (List CV), WRows x x
  | [] => .nil
  | x :: r => .cons (WRow.refl x) (WRows.refl r)
theorem not_right {k n : Int} {nm : ByteArray} {l : List Ex} (h : isCond k = true) : isRight ⟨k, n, nm, l⟩ = false := by
  rcases Bool.eq_false_or_eq_true (isRight ⟨k, n, nm, l⟩) with h1 | h1
  · obtain ⟨w, m, a, _, _, h3, _⟩ := fine_open (right_open h1).1
    rw [h] at h3; cases h3
  · exact h1
theorem rng_node {k n : Int} {nm : ByteArray} {l : List Ex} (hn : I64 n) (hl : l.length < 1000) (h : ∀ x ∈ l, Q.rngE x = true) : Q.rngE ⟨k, n, nm, l⟩ = true := by
  have : ∀ l : List Ex, (∀ x ∈ l, Q.rngE x = true) → Q.rngA l = true := by
    intro l
    induction l with
    | nil => intro _; rfl
    | cons x l ih => intro h; rw [Q.rngA, h x List.mem_cons_self, ih fun y hy => h y (List.mem_cons_of_mem _ hy)]; rfl
  obtain ⟨n0, n1⟩ := hn
  rw [Q.rngE, this l h, Bool.and_true]
  exact decide_eq_true ⟨⟨by omega, by omega⟩, by omega⟩
theorem TreeGrows_ok (one : List Int) (h1 : ∀ a ∈ one, I64 a) (l1 : one.length ≤ 17592186043904) (two : List Int) (h2 : ∀ a ∈ two, I64 a) (l2 : two.length ≤ 17592186043904) : Ok E 5 [] [.c (.row (encN one)), .c (.row (encN two))] (pB true) [] := by
  have hx := strat_small one h1
  have hy := strat_small two h2
  have cx := strat_ok one h1 (by omega)
  have cy := strat_ok two h2 (by omega)
  obtain ⟨x, ex⟩ : ∃ x, stratF one = x := ⟨_, rfl⟩
  obtain ⟨y, ey⟩ : ∃ x, stratF two = x := ⟨_, rfl⟩
  rw [ex] at hx cx
  rw [ey] at hy cy
  have sx := hx.size
  have sy := hy.size
  have px := size_pos x
  have py := size_pos y
  have dx := deep_le x
  have dy := deep_le y
  have dx5 := hx.deep
  have z1 : size ⟨8, 0, e0, [x, y]⟩ = 1 + size x + size y := by rw [size, sizeL, sizeL, sizeL]; omega
  have z2 : deep ⟨8, 0, e0, [x, y]⟩ = 1 + max (deep x) (deep y) := by rw [deep, deepL, deepL, deepL]; omega
  have a1 : size ⟨12, 0, e0, [x, y]⟩ = 1 + size x + size y := by rw [size, sizeL, sizeL, sizeL]; omega
  have w1 : size ⟨10, 0, e0, [⟨12, 0, e0, [x, y]⟩, x, y]⟩ = 2 + 2 * size x + 2 * size y := by rw [size, sizeL, sizeL, sizeL, sizeL, a1]; omega
  have w2 : deep ⟨10, 0, e0, [⟨12, 0, e0, [x, y]⟩, x, y]⟩ = 2 + max (deep x) (deep y) := by rw [deep, deepL, deepL, deepL, deepL, deep, deepL, deepL, deepL]; omega
  have Sx := Size_ok x (by omega)
  have Sy := Size_ok y (by omega)
  have Dx := Deep_ok x (by omega)
  have Dy := Deep_ok y (by omega)
  have Sz := Size_ok ⟨8, 0, e0, [x, y]⟩ (by omega)
  have Dz := Deep_ok ⟨8, 0, e0, [x, y]⟩ (by omega)
  have Sw := Size_ok ⟨10, 0, e0, [⟨12, 0, e0, [x, y]⟩, x, y]⟩ (by omega)
  have Dw := Deep_ok ⟨10, 0, e0, [⟨12, 0, e0, [x, y]⟩, x, y]⟩ (by omega)
  rw [z1] at Sz
  rw [z2] at Dz
  rw [w1] at Sw
  rw [w2] at Dw
  have Ra := right_ok ⟨12, 0, e0, [x, y]⟩ (rng_node ⟨by decide, by decide⟩ (by simp) (by simp [hx.rng, hy.rng])) (by omega)
  rw [not_right (by rfl)] at Ra
  have wz := Wk.aggW (wk_node 8 0 e0 [x, y] (WRows.refl _))
  have wa := wk_node 12 0 e0 [x, y] (WRows.refl _)
  have ww := Wk.aggW (wk_node 10 0 e0 [⟨12, 0, e0, [x, y]⟩, x, y] (.cons wa (WRows.refl _)))
  refine Ok.enter hE Tryd.func5 rfl (by decide +kernel) (by kernel_rfl) rfl rfl (Nat.le_of_ble_eq_true rfl) rfl ?_
  refine ⟨_, CallR.mk1 awake_ok rfl rfl, ?_⟩
  refine ⟨_, CallR.mk1 cx rfl rfl, ?_⟩
  refine ⟨_, CallR.mk1 cy rfl rfl, ?_⟩
  refine ⟨_, ⟨_, rfl, rfl⟩, ?_⟩
  refine ⟨_, ⟨_, rfl, rfl⟩, ?_⟩
  refine ⟨_, ⟨_, rfl, rfl⟩, ?_⟩
  refine ⟨_, CallR.mkW Dz (.cons wz .nil) rfl rfl, ?_⟩
  refine ⟨_, CallR.mk1 Dx rfl rfl, ?_⟩
  refine ⟨_, CallR.mk1 Dy rfl rfl, ?_⟩
  refine ⟨_, maxV rfl, ?_⟩
  refine ⟨_, addV rfl (by omega) (by omega), ?_⟩
  refine ⟨_, eqT rfl, ?_⟩
  refine ⟨_, CallR.mkW Sz (.cons wz .nil) rfl rfl, ?_⟩
  refine ⟨_, CallR.mk1 Sx rfl rfl, ?_⟩
  refine ⟨_, addV rfl (by omega) (by omega), ?_⟩
  refine ⟨_, CallR.mk1 Sy rfl rfl, ?_⟩
  refine ⟨_, addV rfl (by omega) (by omega), ?_⟩
  refine ⟨_, eqT rfl, ?_⟩
  refine ⟨_, CallR.mkW Dw (.cons ww .nil) rfl rfl, ?_⟩
  refine ⟨_, CallR.mk1 Dx rfl rfl, ?_⟩
  refine ⟨_, CallR.mk1 Dy rfl rfl, ?_⟩
  refine ⟨_, maxV rfl, ?_⟩
  refine ⟨_, addV rfl (by omega) (by omega), ?_⟩
  refine ⟨_, eqT rfl, ?_⟩
  refine ⟨_, CallR.mkW Sw (.cons ww .nil) rfl rfl, ?_⟩
  refine ⟨_, CallR.mk1 Sx rfl rfl, ?_⟩
  refine ⟨_, mulV rfl (by omega) (by omega), ?_⟩
  refine ⟨_, addV rfl (by omega) (by omega), ?_⟩
  refine ⟨_, CallR.mk1 Sy rfl rfl, ?_⟩
  refine ⟨_, mulV rfl (by omega) (by omega), ?_⟩
  refine ⟨_, addV rfl (by omega) (by omega), ?_⟩
  refine ⟨_, eqT rfl, ?_⟩
  refine ⟨_, CallR.mk1 Sx rfl rfl, ?_⟩
  refine ⟨_, CallR.mk1 Dx rfl rfl, ?_⟩
  refine ⟨_, geT (by omega), ?_⟩
  refine ⟨_, CallR.mk1 Dx rfl rfl, ?_⟩
  refine ⟨_, leT (by omega), ?_⟩
  refine ⟨_, idxV (j := 0) rfl rfl rfl rfl rfl, ?_⟩
  refine ⟨_, CallR.mkW Ra (.cons (Wk.aggW wa) .nil) rfl rfl, ?_⟩
  exact Ret.mk _ rfl rfl rfl
end Go.Proofs.YtjnbhdbpajnlgaaDoor.Pm

/- The statement TreeParts, in the pure machine. -/
namespace Go.Proofs.YtjnbhdbpajnlgaaDoor.Pm
open Go Go.RowKit Go.Proofs.YtjnbhdbpajnlgaaDoor.Pl
open Go.Proofs.YtjnbhdbpajnlgaaDoor.Q (rngE rngA txtE txtA sameE sameA formT wordL moreL sepA)
set_option linter.unusedVariables false
set_option maxHeartbeats 1000000
mutual
theorem fine_mono : ∀ (x : Ex) (d d' : Int) (c : Bool), d ≤ d' → isFine d c x = true → isFine d' c x = true
  | ⟨k, n, nm, l⟩, d, d', c, hd, h => by
    rw [isFine] at h ⊢
    simp only [Bool.and_eq_true, decide_eq_true_eq] at h ⊢
    obtain ⟨h0, h1, h2, h3, h4, h5, h6, h7⟩ := h
    exact ⟨h0, by omega, h2, h3, h4, h5, h6, fineL_mono l _ _ _ (by omega) h7⟩
theorem fineL_mono : ∀ (l : List Ex) (d d' : Int) (c : Bool), d ≤ d' → fineL d c l = true → fineL d' c l = true
  | [], _, _, _, _, _ => by rw [fineL]
  | x :: l, d, d', c, hd, h => by
    rw [fineL, Bool.and_eq_true] at h ⊢
    exact ⟨fine_mono x d d' c hd h.1, fineL_mono l d d' false hd h.2⟩
end
theorem fineL_mem : ∀ (l : List Ex) (d : Int) (c : Bool), fineL d c l = true → ∀ y ∈ l, ∃ c', isFine d c' y = true
  | [], _, _, _, y, hy => by cases hy
  | x :: l, d, c, h, y, hy => by
    rw [fineL, Bool.and_eq_true] at h
    rcases List.mem_cons.1 hy with rfl | hy
    · exact ⟨c, h.1⟩
    · exact fineL_mem l d false h.2 y hy
theorem txtA_mem : ∀ (l : List Ex) (b : Bool), ∀ y ∈ l, (txtE y).length ≤ (txtA b l).length
  | [], _, y, hy => by cases hy
  | x :: l, b, y, hy => by
    rw [txtA, List.length_append, List.length_append]
    rcases List.mem_cons.1 hy with rfl | hy
    · omega
    · have := txtA_mem l false y hy
      omega
theorem sizeL_mem : ∀ (l : List Ex), ∀ y ∈ l, size y ≤ sizeL l ∧ deep y ≤ deepL l
  | [], y, hy => by cases hy
  | x :: l, y, hy => by
    rw [sizeL, deepL]
    have := sizeL_pos l
    have := size_pos x
    rcases List.mem_cons.1 hy with rfl | hy
    · omega
    · have := sizeL_mem l y hy
      omega
/-- what stands in what is right -/
structure PartOK (x : Ex) : Prop where
  fine : ∃ (m : Nat) (c : Bool), m ≤ 32 ∧ isFine m c x = true
  size : size x ≤ 2000
  len : (txtE x).length ≤ 2000
theorem part_of {x : Ex} (h : isRight x = true) : PartOK x := ⟨⟨32, false, Nat.le_refl _, (right_open h).1⟩, (right_open h).2.1, (right_open h).2.2⟩
theorem args_few (k : Int) (w : List UInt8) (m a : Int) (h : formT k = some (w, m, a)) (h4 : k = 4 ∨ k = 1 ∨ k = 2 ∨ k = 3) : a = 0 := by
  rcases h4 with rfl | rfl | rfl | rfl
  all_goals (simp only [formT, Option.some.injEq, Prod.mk.injEq] at h; exact h.2.2.symm)
theorem PartOK.args {x : Ex} (h : PartOK x) : (x.f3.length : Int) ≤ 3 := by
  obtain ⟨k, n, nm, l⟩ := x
  obtain ⟨⟨m, c, hm, hf⟩, _, _⟩ := h
  obtain ⟨w, mm, a, hF, h1, h2, h3, h4, h5, h6, h7, h8, h9⟩ := fine_open hf
  show (l.length : Int) ≤ 3
  omega
theorem PartOK.part {x y : Ex} (h : PartOK x) (hy : y ∈ x.f3) : PartOK y ∧ deep y < deep x ∧ Pm.size y < Pm.size x := by
  obtain ⟨k, n, nm, l⟩ := x
  obtain ⟨⟨m, c, hm, hf⟩, hs, ht⟩ := h
  have hy : y ∈ l := hy
  obtain ⟨w, mm, a, hF, h1, h2, h3, h4, h5, h6, h7, h8, h9⟩ := fine_open hf
  have hlen : 0 < l.length := List.length_pos_of_mem hy
  obtain ⟨c', hc'⟩ := fineL_mem l _ _ h9 y hy
  obtain ⟨e1, e2⟩ := sizeL_mem l y hy
  rw [Pm.size] at hs
  rw [deep, Pm.size]
  have k0 : ¬ (k = 4 ∨ k = 1 ∨ k = 2 ∨ k = 3) := fun hk => by have := args_few k w mm a hF hk; omega
  rw [txtE, if_neg (by omega), if_neg (by omega), if_neg (by omega)] at ht
  simp only [List.length_append] at ht
  have := txtA_mem l true y hy
  refine ⟨⟨⟨m - 1, c', by omega, ?_⟩, by omega, by omega⟩, by omega, by omega⟩
  rw [show ((m - 1 : Nat) : Int) = (m : Int) - 1 by omega]
  exact hc'
theorem PartOK.right {x : Ex} (h : PartOK x) : isRight x = !isCond x.f0 := by
  obtain ⟨k, n, nm, l⟩ := x
  obtain ⟨⟨m, c, hm, hf⟩, hs, ht⟩ := h
  obtain ⟨w, mm, a, hF, h1, h2, h3, _⟩ := fine_open hf
  cases c with
  | true => rw [not_right h2]; show false = !isCond k; rw [h2]; rfl
  | false =>
    show _ = !isCond k
    rw [h2]
    unfold isRight
    rw [fine_mono _ m 32 false (by omega) hf, decide_eq_true hs, decide_eq_true ht]; rfl
theorem PartOK.rng {x : Ex} (h : PartOK x) : rngE x = true := by
  obtain ⟨m, c, hm, hf⟩ := h.fine
  exact (fine_facts x m c hf).2.2.1
theorem eqBN {c d : Bool} {sz bb : Nat} {zz : List CV} (h : (c == d) = false) : BinR (some ⟨.bool, sz, zz, bb⟩) .eql (pB c) (pB d) (pB false) := ⟨by
  cases c <;> cases d <;> simp at h <;> rfl⟩
theorem bne_self (b : Bool) : ((!b) == b) = false := by cases b <;> rfl
theorem encN_get {l : List Int} {j : Nat} {a : Int} (h : l[j]? = some a) : (encN l)[j]? = some [.int .i64 a] := by
  unfold encN; rw [List.getElem?_map, h]; rfl
theorem TreeParts_ok (raw : List Int) (h1 : ∀ a ∈ raw, I64 a) (l1 : raw.length ≤ 17592186043904) (wh : List Int) (h2 : ∀ a ∈ wh, I64 a) (l2 : wh.length ≤ 17592186043904) : Ok E 6 [] [.c (.row (encN raw)), .c (.row (encN wh))] (pB true) [] := by
  have hx := strat_small raw h1
  have cx := strat_ok raw h1 (by omega)
  obtain ⟨x, ex⟩ : ∃ x, stratF raw = x := ⟨_, rfl⟩
  rw [ex] at hx cx
  have sx := hx.size
  have Rx := right_ok x hx.rng (by omega)
  have Px := print_ok x hx.rng (by omega)
  have hwl := encN_len wh
  rcases Bool.eq_false_or_eq_true (isRight x) with hr | hr
  rotate_left
  · rw [hr] at Rx Px
    rw [if_neg (by simp)] at Px
    refine Ok.enter hE Tryd.func6 rfl (by decide +kernel) (by kernel_rfl) rfl rfl (Nat.le_of_ble_eq_true rfl) rfl ?_
    refine ⟨_, CallR.mk1 awake_ok rfl rfl, ?_⟩
    refine ⟨_, CallR.mk1 cx rfl rfl, ?_⟩
    refine ⟨_, CallR.mk1 Rx rfl rfl, ?_⟩
    refine ⟨_, CallR.mk1 Px rfl rfl, ?_⟩
    refine ⟨_, strEqV (c := true) (beq_self_eq_true _), ?_⟩
    refine ⟨_, eqT rfl, ?_⟩
    exact Ret.mk _ rfl rfl rfl
  · rw [hr] at Rx
    refine Ok.enter hE Tryd.func6 rfl (by decide +kernel) (by kernel_rfl) rfl rfl (Nat.le_of_ble_eq_true rfl) rfl ?_
    refine ⟨_, CallR.mk1 awake_ok rfl rfl, ?_⟩
    refine ⟨_, CallR.mk1 cx rfl rfl, ?_⟩
    refine ⟨_, CallR.mk1 Rx rfl rfl, ?_⟩
    refine Loop.cut (α := Nat × Ex) (fun s => s.1 ≤ 6 ∧ PartOK s.2) (fun s => [(1, .c (.row (encN wh))), (5, pB true), (6, .ptr 0 0), (9, pI s.1)]) (fun s => [(cellsE s.2).map .c]) (fun _ => []) (fun s => 6 - s.1) (0, x) 1 (fun _ => rfl) (fun _ => rfl) (fun _ => rfl) ⟨Nat.zero_le _, part_of hr⟩ ⟨⟨rfl, rfl, rfl, rfl, trivial⟩, rfl, rfl⟩ ?_
    rintro ⟨j, ⟨k, n, nm, l⟩⟩ f ⟨hj, hP⟩
    have hj : j ≤ 6 := hj
    have hP : PartOK ⟨k, n, nm, l⟩ := hP
    have hel := enc_len l
    by_cases c1 : j < wh.length
    rotate_left
    · refine ⟨_, ltN (by omega), ?_⟩
      exact Ret.mk _ rfl rfl rfl
    refine ⟨_, ltT (by omega), ?_⟩
    by_cases c2 : j < 6
    rotate_left
    · refine ⟨_, ltN (by omega), ?_⟩
      exact Ret.mk _ rfl rfl rfl
    refine ⟨_, ltT (by omega), ?_⟩
    by_cases c3 : 0 < l.length
    rotate_left
    · refine ⟨_, gtN (by show ¬ (((encL l).length : Int) > 0); omega), ?_⟩
      exact Ret.mk _ rfl rfl rfl
    refine ⟨_, gtT (by show (((encL l).length : Int) > 0); omega), ?_⟩
    obtain ⟨a, ha⟩ : ∃ a, wh[j]? = some a := ⟨_, List.getElem?_eq_getElem c1⟩
    have hai := h2 a (List.mem_of_getElem? ha)
    refine ⟨_, idxV (j := j) (encN_get ha) rfl rfl rfl rfl, ?_⟩
    have hal := hP.args
    have hal : (l.length : Int) ≤ 3 := hal
    have hpk := pick_ok a (encL l).length hai (by omega)
    have hpr := pk_rng (c := a) (n := (encL l).length) (by omega)
    obtain ⟨p, hp⟩ : ∃ p : Nat, pk a (encL l).length = p := ⟨(pk a (encL l).length).toNat, by omega⟩
    rw [hp] at hpk hpr
    obtain ⟨y, hy⟩ : ∃ y, l[p]? = some y := ⟨_, List.getElem?_eq_getElem (by omega)⟩
    obtain ⟨q1, q2, q3⟩ := hP.part (y := y) (List.mem_of_getElem? hy)
    have qr := q1.right
    have qs := q1.size
    have xs := hP.size
    have Ry := right_ok y q1.rng (by omega)
    have Dy := Deep_ok y (by omega)
    have Sy := Size_ok y (by omega)
    have Dx := Deep_ok ⟨k, n, nm, l⟩ (by omega)
    have Sx := Size_ok ⟨k, n, nm, l⟩ (by omega)
    rw [qr] at Ry
    refine ⟨_, CallR.mk1 hpk rfl rfl, ?_⟩
    refine ⟨_, idxV (j := p) (enc_get hy) rfl rfl rfl rfl, ?_⟩
    by_cases k1 : y.f0 = 11
    · have hc : isCond y.f0 = true := by rw [k1]; rfl
      rw [hc] at Ry
      refine ⟨_, eqT k1, ?_⟩
      refine ⟨_, CallR.mk1 Ry rfl rfl, ?_⟩
      refine ⟨_, eqBN rfl, ?_⟩
      refine ⟨_, CallR.mk1 Dy rfl rfl, ?_⟩
      refine ⟨_, CallR.mk1 Dx rfl rfl, ?_⟩
      refine ⟨_, geN (by omega), ?_⟩
      refine ⟨_, CallR.mk1 Sy rfl rfl, ?_⟩
      refine ⟨_, CallR.mk1 Sx rfl rfl, ?_⟩
      refine ⟨_, geN (by omega), ?_⟩
      refine ⟨_, addV rfl (by omega) (by omega), ?_⟩
      exact ⟨(j + 1, y), ⟨by show j + 1 ≤ 6; omega, q1⟩, by show 6 - (j + 1) < 6 - j; omega, ⟨rfl, rfl, rfl, rfl, trivial⟩, ⟨_, rfl⟩, rfl⟩
    refine ⟨_, eqN k1, ?_⟩
    have hcv : isCond y.f0 = decide (y.f0 = 12) := by unfold isCond; rw [decide_eq_false k1]; rfl
    by_cases k2 : y.f0 = 12
    · have hc : isCond y.f0 = true := by rw [k2]; rfl
      rw [hc] at Ry
      refine ⟨_, eqT k2, ?_⟩
      refine ⟨_, CallR.mk1 Ry rfl rfl, ?_⟩
      refine ⟨_, eqBN rfl, ?_⟩
      refine ⟨_, CallR.mk1 Dy rfl rfl, ?_⟩
      refine ⟨_, CallR.mk1 Dx rfl rfl, ?_⟩
      refine ⟨_, geN (by omega), ?_⟩
      refine ⟨_, CallR.mk1 Sy rfl rfl, ?_⟩
      refine ⟨_, CallR.mk1 Sx rfl rfl, ?_⟩
      refine ⟨_, geN (by omega), ?_⟩
      refine ⟨_, addV rfl (by omega) (by omega), ?_⟩
      exact ⟨(j + 1, y), ⟨by show j + 1 ≤ 6; omega, q1⟩, by show 6 - (j + 1) < 6 - j; omega, ⟨rfl, rfl, rfl, rfl, trivial⟩, ⟨_, rfl⟩, rfl⟩
    · have hc : isCond y.f0 = false := by rw [hcv, decide_eq_false k2]
      rw [hc] at Ry
      refine ⟨_, eqN k2, ?_⟩
      refine ⟨_, CallR.mk1 Ry rfl rfl, ?_⟩
      refine ⟨_, eqBN rfl, ?_⟩
      refine ⟨_, CallR.mk1 Dy rfl rfl, ?_⟩
      refine ⟨_, CallR.mk1 Dx rfl rfl, ?_⟩
      refine ⟨_, geN (by omega), ?_⟩
      refine ⟨_, CallR.mk1 Sy rfl rfl, ?_⟩
      refine ⟨_, CallR.mk1 Sx rfl rfl, ?_⟩
      refine ⟨_, geN (by omega), ?_⟩
      refine ⟨_, addV rfl (by omega) (by omega), ?_⟩
      exact ⟨(j + 1, y), ⟨by show j + 1 ≤ 6; omega, q1⟩, by show 6 - (j + 1) < 6 - j; omega, ⟨rfl, rfl, rfl, rfl, trivial⟩, ⟨_, rfl⟩, rfl⟩
end Go.Proofs.YtjnbhdbpajnlgaaDoor.Pm

/- The statement TreeOnce, in the pure machine. -/
namespace Go.Proofs.YtjnbhdbpajnlgaaDoor.Pm
open Go Go.RowKit Go.Proofs.YtjnbhdbpajnlgaaDoor.Pl
open Go.Proofs.YtjnbhdbpajnlgaaDoor.Q (rngE rngA txtE txtA sameE sameA formT wordL moreL sepA)
set_option linter.unusedVariables false
set_option maxHeartbeats 1000000
mutual
theorem same_refl : ∀ x : Ex, sameE x x = true
  | ⟨k, n, nm, l⟩ => by rw [sameE, sameL_refl l]; simp
theorem sameL_refl : ∀ l : List Ex, sameA l l = true
  | [] => rfl
  | x :: l => by rw [sameA, same_refl x, sameL_refl l]; rfl
end
mutual
theorem same_size : ∀ x y : Ex, sameE x y = true → size x = size y
  | ⟨k, n, nm, l⟩, ⟨k', n', nm', l'⟩, h => by
    rw [sameE] at h
    simp only [Bool.and_eq_true] at h
    rw [size, size, sameL_size l l' h.2.2.2]
theorem sameL_size : ∀ l l' : List Ex, sameA l l' = true → sizeL l = sizeL l'
  | [], [], _ => rfl
  | [], _ :: _, h => by simp [sameA] at h
  | _ :: _, [], h => by simp [sameA] at h
  | x :: l, y :: l', h => by
    rw [sameA, Bool.and_eq_true] at h
    rw [sizeL, sizeL, same_size x y h.1, sameL_size l l' h.2]
end
theorem same_not {x y : Ex} (h : size x ≠ size y) : sameE x y = false := by
  rcases Bool.eq_false_or_eq_true (sameE x y) with h1 | h1
  · exact absurd (same_size x y h1) h
  · exact h1
theorem same_n {k k' n n' : Int} {nm nm' : ByteArray} {l l' : List Ex} (h : k ≠ k' ∨ n ≠ n') : sameE ⟨k, n, nm, l⟩ ⟨k', n', nm', l'⟩ = false := by
  rw [sameE]
  rcases h with h | h
  · rw [show (k == k') = false from beq_eq_false_iff_ne.2 h, Bool.false_and]
  · rw [show (n == n') = false from beq_eq_false_iff_ne.2 h, Bool.false_and, Bool.and_false]
theorem text_ne {x y : Ex} (hx : isRight x = true) (hy : isRight y = true) (h : sameE x y = false) : txtE x ≠ txtE y := by
  intro e
  have := (text_inj x y 32 false false [] [] (right_open hx).1 (right_open hy).1 (.inl rfl) (.inl rfl) (by rw [e])).1
  rw [h] at this; cases this
theorem TreeOnce_ok (raw : List Int) (h1 : ∀ a ∈ raw, I64 a) (l1 : raw.length ≤ 17592186043904) (n : Int) (hn : I64 n) : Ok E 7 [] [.c (.row (encN raw)), pI n] (pB true) [] := by
  have hx := strat_small raw h1
  have cx := strat_ok raw h1 (by omega)
  obtain ⟨x, ex⟩ : ∃ x, stratF raw = x := ⟨_, rfl⟩
  rw [ex] at hx cx
  have sx := hx.size
  have px := size_pos x
  have dx := deep_le x
  have hpk := pick_ok n 3000 hn (by decide)
  have hpr := pk_rng (c := n) (n := 3000) (by decide)
  obtain ⟨q, hq⟩ : ∃ q, pk n 3000 = q := ⟨_, rfl⟩
  rw [hq] at hpk hpr
  obtain ⟨k, hk⟩ : ∃ k, 1 + q = k := ⟨_, rfl⟩
  have ra : rngE ⟨5, k, e0, [x]⟩ = true := rng_node ⟨by omega, by omega⟩ (by simp) (by simp [hx.rng])
  have rb : rngE ⟨5, k - 1, e0, [x]⟩ = true := rng_node ⟨by omega, by omega⟩ (by simp) (by simp [hx.rng])
  have rc : rngE ⟨6, k, e0, [x]⟩ = true := rng_node ⟨by omega, by omega⟩ (by simp) (by simp [hx.rng])
  have sa : size ⟨5, k, e0, [x]⟩ = size x + 1 := by rw [size, sizeL, sizeL]; omega
  have sb : size ⟨5, k - 1, e0, [x]⟩ = size x + 1 := by rw [size, sizeL, sizeL]; omega
  have sc : size ⟨6, k, e0, [x]⟩ = size x + 1 := by rw [size, sizeL, sizeL]; omega
  have da : deep ⟨5, k, e0, [x]⟩ = deep x + 1 := by rw [deep, deepL, deepL]; omega
  have Ra := right_ok _ ra (by omega)
  have Rb := right_ok _ rb (by omega)
  have Rc := right_ok _ rc (by omega)
  have Pa := print_ok _ ra (by omega)
  have Pb := print_ok _ rb (by omega)
  have Pc := print_ok _ rc (by omega)
  have wa := Wk.aggW (wk_node 5 k e0 [x] (WRows.refl _))
  have wb := Wk.aggW (wk_node 5 (k - 1) e0 [x] (WRows.refl _))
  have wc := Wk.aggW (wk_node 6 k e0 [x] (WRows.refl _))
  have Saa := Same_ok _ _ ra ra
  have Sab := Same_ok _ _ ra rb
  have Sba := Same_ok _ _ rb ra
  have Sac := Same_ok _ _ ra rc
  have Sax := Same_ok _ _ ra hx.rng
  have nab : sameE ⟨5, k, e0, [x]⟩ ⟨5, k - 1, e0, [x]⟩ = false := same_n (.inr (by omega))
  have nac : sameE ⟨5, k, e0, [x]⟩ ⟨6, k, e0, [x]⟩ = false := same_n (.inl (by omega))
  rw [same_refl] at Saa
  rw [nab] at Sab
  rw [same_n (.inr (by omega))] at Sba
  rw [nac] at Sac
  rw [same_not (by omega)] at Sax
  have Sza := Size_ok ⟨5, k, e0, [x]⟩ (by omega)
  have Szx := Size_ok x (by omega)
  have Dpa := Deep_ok ⟨5, k, e0, [x]⟩ (by omega)
  have Dpx := Deep_ok x (by omega)
  rw [sa] at Sza
  rw [da] at Dpa
  have tne : ∀ y z : Ex, isRight y = true → isRight z = true → sameE y z = false → ((B (txtE y)).toList == (B (txtE z)).toList) = false := by
    intro y z hy hz h
    rw [toList_data, toList_data, B_toList, B_toList]
    exact beq_eq_false_iff_ne.2 (text_ne hy hz h)
  have tab := fun h1 h2 => tne _ _ h1 h2 nab
  have tac := fun h1 h2 => tne _ _ h1 h2 nac
  obtain ⟨ta, eta⟩ : ∃ t, B (txtE ⟨5, k, e0, [x]⟩) = t := ⟨_, rfl⟩
  obtain ⟨tb, etb⟩ : ∃ t, B (txtE ⟨5, k - 1, e0, [x]⟩) = t := ⟨_, rfl⟩
  obtain ⟨tc, etc⟩ : ∃ t, B (txtE ⟨6, k, e0, [x]⟩) = t := ⟨_, rfl⟩
  rw [eta] at Pa tab tac
  rw [etb] at Pb tab
  rw [etc] at Pc tac
  rcases Bool.eq_false_or_eq_true (isRight ⟨5, k, e0, [x]⟩) with ha | ha <;> rcases Bool.eq_false_or_eq_true (isRight ⟨5, k - 1, e0, [x]⟩) with hb | hb <;> rcases Bool.eq_false_or_eq_true (isRight ⟨6, k, e0, [x]⟩) with hc | hc
  all_goals
    rw [ha] at Ra Pa
    rw [hb] at Rb Pb
    rw [hc] at Rc Pc
    simp only [if_true, Bool.false_eq_true, if_false] at Pa Pb Pc
    refine Ok.enter hE Tryd.func7 rfl (by decide +kernel) (by kernel_rfl) rfl rfl (Nat.le_of_ble_eq_true rfl) rfl ?_
    refine ⟨_, CallR.mk1 awake_ok rfl rfl, ?_⟩
    refine ⟨_, CallR.mk1 cx rfl rfl, ?_⟩
    refine ⟨_, CallR.mk1 hpk rfl rfl, ?_⟩
    refine ⟨_, addV hk (by omega) (by omega), ?_⟩
    refine ⟨_, ⟨_, rfl, rfl⟩, ?_⟩
    refine ⟨_, subV rfl (by omega) (by omega), ?_⟩
    refine ⟨_, ⟨_, rfl, rfl⟩, ?_⟩
    refine ⟨_, ⟨_, rfl, rfl⟩, ?_⟩
    refine ⟨_, CallR.mkW Pa (.cons wa .nil) rfl rfl, ?_⟩
    refine ⟨_, CallR.mkW Pb (.cons wb .nil) rfl rfl, ?_⟩
    refine ⟨_, CallR.mkW Pc (.cons wc .nil) rfl rfl, ?_⟩
  · refine ⟨_, neN (by decide), ?_⟩
    refine ⟨_, neN (by decide), ?_⟩
    refine ⟨_, neN (by decide), ?_⟩
    refine ⟨_, CallR.mkW Saa (.cons wa (.cons wa .nil)) rfl rfl, ?_⟩
    refine ⟨_, CallR.mkW Sab (.cons wa (.cons wb .nil)) rfl rfl, ?_⟩
    refine ⟨_, CallR.mkW Sba (.cons wb (.cons wa .nil)) rfl rfl, ?_⟩
    refine ⟨_, CallR.mkW Sac (.cons wa (.cons wc .nil)) rfl rfl, ?_⟩
    refine ⟨_, CallR.mkW Sax (.cons wa (.cons (Wk.refl _) .nil)) rfl rfl, ?_⟩
    refine ⟨_, strNeV (c := true) (by rw [tab ha hb]; rfl), ?_⟩
    refine ⟨_, strNeV (c := true) (by rw [tac ha hc]; rfl), ?_⟩
    refine ⟨_, CallR.mkW Sza (.cons wa .nil) rfl rfl, ?_⟩
    refine ⟨_, CallR.mk1 Szx rfl rfl, ?_⟩
    refine ⟨_, addV rfl (by omega) (by omega), ?_⟩
    refine ⟨_, eqT rfl, ?_⟩
    refine ⟨_, CallR.mkW Dpa (.cons wa .nil) rfl rfl, ?_⟩
    refine ⟨_, CallR.mk1 Dpx rfl rfl, ?_⟩
    refine ⟨_, addV rfl (by omega) (by omega), ?_⟩
    refine ⟨_, eqT rfl, ?_⟩
    exact Ret.mk _ rfl rfl rfl
  · refine ⟨_, neN (by decide), ?_⟩
    refine ⟨_, neN (by decide), ?_⟩
    refine ⟨_, neT (by decide), ?_⟩
    refine ⟨_, CallR.mkW Ra (.cons wa .nil) rfl rfl, ?_⟩
    refine ⟨_, CallR.mkW Rb (.cons wb .nil) rfl rfl, ?_⟩
    refine ⟨_, CallR.mkW Rc (.cons wc .nil) rfl rfl, ?_⟩
    exact Ret.mk _ rfl rfl rfl
  · refine ⟨_, neN (by decide), ?_⟩
    refine ⟨_, neT (by decide), ?_⟩
    refine ⟨_, CallR.mkW Ra (.cons wa .nil) rfl rfl, ?_⟩
    refine ⟨_, CallR.mkW Rb (.cons wb .nil) rfl rfl, ?_⟩
    exact Ret.mk _ rfl rfl rfl
  · refine ⟨_, neN (by decide), ?_⟩
    refine ⟨_, neT (by decide), ?_⟩
    refine ⟨_, CallR.mkW Ra (.cons wa .nil) rfl rfl, ?_⟩
    refine ⟨_, CallR.mkW Rb (.cons wb .nil) rfl rfl, ?_⟩
    exact Ret.mk _ rfl rfl rfl
  all_goals
    refine ⟨_, neT (by decide), ?_⟩
    refine ⟨_, CallR.mkW Ra (.cons wa .nil) rfl rfl, ?_⟩
    exact Ret.mk _ rfl rfl rfl
end Go.Proofs.YtjnbhdbpajnlgaaDoor.Pm
