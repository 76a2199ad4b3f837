/- Texts that are merged: PtA, PtB, PtC, PtD, PtE, PtF, PtG, PtH, PtI, PtJ, PtK, PtU, PtY. -/
import Derived.Test.YtjnbhdbpajnlgaaDoorPmAll
import Derived.Test.YtjnbhdbpajnlgaaDoorQx0
import Derived.Test.YtjnbhdbpajnlgaaDoorExtW
import Derived.Test.YtjnbhdbpajnlgaaDoorExtS1
import Derived.Test.YtjnbhdbpajnlgaaDoorDecT
import Derived.Test.YtjnbhdbpajnlgaaDoorLxAll
/- Trees of raw numbers, in the pure machine: numbers, names. -/
namespace Go.Proofs.YtjnbhdbpajnlgaaDoor.Pm
open Go
set_option linter.unusedVariables false
set_option maxHeartbeats 400000
abbrev pI (n : Int) : PV := .c (.int .i64 n)
abbrev pB (b : Bool) : PV := .c (.bool b)
abbrev pS (s : ByteArray) : PV := .c (.str s)
/-- a row of numbers -/
def encN (l : List Int) : List (List CV) := l.map fun n => [.int .i64 n]
def pk (c n : Int) : Int := if c < 0 then (-(c + 1)).tmod n else c.tmod n
theorem pk_rng {c n : Int} (hn : 0 < n) : 0 ≤ pk c n ∧ pk c n < n := by
  unfold pk
  split
  · rw [Int.tmod_eq_emod_of_nonneg (by omega)]
    exact ⟨Int.emod_nonneg _ (by omega), Int.emod_lt_of_pos _ hn⟩
  · rw [Int.tmod_eq_emod_of_nonneg (by omega)]
    exact ⟨Int.emod_nonneg _ (by omega), Int.emod_lt_of_pos _ hn⟩
theorem pick_ok (c n : Int) (hc : I64 c) (hn : 0 < n) : Ok E 27 [] [pI c, pI n] (pI (pk c n)) [] := by
  obtain ⟨h0, h1⟩ := hc
  refine Ok.enter hE Tryd.func27 rfl (by decide +kernel) (by kernel_rfl) rfl rfl (Nat.le_of_ble_eq_true rfl) rfl ?_
  by_cases hneg : c < 0
  · refine ⟨_, ltT hneg, ?_⟩
    refine ⟨_, addV rfl (by omega) (by omega), ?_⟩
    refine ⟨_, negV rfl (by omega) (by omega), ?_⟩
    refine ⟨_, remV (by omega) rfl, ?_⟩
    exact Ret.mk _ rfl (by show PV.c _ = _; rw [pk, if_pos hneg]) rfl
  · refine ⟨_, ltN hneg, ?_⟩
    refine ⟨_, remV (by omega) rfl, ?_⟩
    exact Ret.mk _ rfl (by show PV.c _ = _; rw [pk, if_neg hneg]) rfl
theorem pick6_ok (c n : Int) (hc : I64 c) (hn : 0 < n) : Ok E 87 [] [pI c, pI n] (pI (pk c n)) [] := by
  obtain ⟨h0, h1⟩ := hc
  refine Ok.enter hE Tryd.func87 rfl (by decide +kernel) (by kernel_rfl) rfl rfl (Nat.le_of_ble_eq_true rfl) rfl ?_
  by_cases hneg : c < 0
  · refine ⟨_, ltT hneg, ?_⟩
    refine ⟨_, addV rfl (by omega) (by omega), ?_⟩
    refine ⟨_, negV rfl (by omega) (by omega), ?_⟩
    refine ⟨_, remV (by omega) rfl, ?_⟩
    exact Ret.mk _ rfl (by show PV.c _ = _; rw [pk, if_pos hneg]) rfl
  · refine ⟨_, ltN hneg, ?_⟩
    refine ⟨_, remV (by omega) rfl, ?_⟩
    exact Ret.mk _ rfl (by show PV.c _ = _; rw [pk, if_neg hneg]) rfl
/-- the next raw number -/
def nx (L : List Int) (n : Int) : Int := match L with
  | [] => 0
  | a :: _ => pk a n
theorem nx_rng {L : List Int} {n : Int} (hn : 0 < n) : 0 ≤ nx L n ∧ nx L n < n := by
  cases L with
  | nil => exact ⟨Int.le_refl _, hn⟩
  | cons a r => exact pk_rng hn
theorem next_ok (L : List Int) (hL : ∀ a ∈ L, I64 a) (hl : L.length ≤ 100) (n : Int) (hn : 0 < n) : Ok E 64 [[.c (.row (encN L))]] [.ptr 0 0, pI n] (pI (nx L n)) [[.c (.row (encN L.tail))]] := by
  refine Ok.enter hE Tryd.func64 rfl (by decide +kernel) (by kernel_rfl) rfl rfl (Nat.le_of_ble_eq_true rfl) rfl ?_
  cases L with
  | nil =>
    refine ⟨_, eqT rfl, ?_⟩
    exact ⟨_, rfl, Wk.refl _, rfl, .cons (WkL.refl _) rfl (.nil _)⟩
  | cons a r =>
    refine ⟨_, eqN (by simp [encN]; omega), ?_⟩
    refine ⟨_, idxV (j := 0) rfl rfl rfl rfl rfl, ?_⟩
    refine ⟨_, CallR.mk1 (pick_ok a n (hL a (by simp)) hn) rfl rfl, ?_⟩
    refine ⟨_, sliceRV 1 (encN (a :: r)).length rfl rfl rfl rfl (by simp [encN]) (by simp [encN]), ?_⟩
    refine ⟨_, rfl, Wk.refl _, rfl, .cons (d := [.c (.row (encN r))]) ?_ rfl (.nil _)⟩
    rw [show ([PV.c (.row (((encN (a :: r)).take (encN (a :: r)).length).drop 1))] : List PV) = [.c (.row (encN r))] by rw [List.take_length]; rfl]
    exact WkL.refl _
/-- how many arguments a kind has -/
def argsOf (k : Int) : Int := if k = 1 ∨ k = 2 ∨ k = 3 ∨ k = 4 ∨ k = 11 then 0 else if k = 5 ∨ k = 6 then 1 else if k = 7 ∨ k = 8 ∨ k = 9 ∨ k = 12 then 2 else if k = 10 then 3 else -1
theorem Args_ok (k : Int) : Ok E 42 [] [pI k] (pI (argsOf k)) [] := by
  refine Ok.enter hE Tryd.func42 rfl (by decide +kernel) (by kernel_rfl) rfl rfl (Nat.le_of_ble_eq_true rfl) rfl ?_
  by_cases h1 : k = 1
  · subst h1; refine ⟨_, eqT rfl, ?_⟩; exact Ret.mk _ rfl rfl rfl
  refine ⟨_, eqN h1, ?_⟩
  by_cases h2 : k = 2
  · subst h2; refine ⟨_, eqT rfl, ?_⟩; exact Ret.mk _ rfl rfl rfl
  refine ⟨_, eqN h2, ?_⟩
  by_cases h3 : k = 3
  · subst h3; refine ⟨_, eqT rfl, ?_⟩; exact Ret.mk _ rfl rfl rfl
  refine ⟨_, eqN h3, ?_⟩
  by_cases h4 : k = 4
  · subst h4; refine ⟨_, eqT rfl, ?_⟩; exact Ret.mk _ rfl rfl rfl
  refine ⟨_, eqN h4, ?_⟩
  by_cases h11 : k = 11
  · subst h11; refine ⟨_, eqT rfl, ?_⟩; exact Ret.mk _ rfl rfl rfl
  refine ⟨_, eqN h11, ?_⟩
  by_cases h5 : k = 5
  · subst h5; refine ⟨_, eqT rfl, ?_⟩; exact Ret.mk _ rfl rfl rfl
  refine ⟨_, eqN h5, ?_⟩
  by_cases h6 : k = 6
  · subst h6; refine ⟨_, eqT rfl, ?_⟩; exact Ret.mk _ rfl rfl rfl
  refine ⟨_, eqN h6, ?_⟩
  by_cases h7 : k = 7
  · subst h7; refine ⟨_, eqT rfl, ?_⟩; exact Ret.mk _ rfl rfl rfl
  refine ⟨_, eqN h7, ?_⟩
  by_cases h8 : k = 8
  · subst h8; refine ⟨_, eqT rfl, ?_⟩; exact Ret.mk _ rfl rfl rfl
  refine ⟨_, eqN h8, ?_⟩
  by_cases h9 : k = 9
  · subst h9; refine ⟨_, eqT rfl, ?_⟩; exact Ret.mk _ rfl rfl rfl
  refine ⟨_, eqN h9, ?_⟩
  by_cases h12 : k = 12
  · subst h12; refine ⟨_, eqT rfl, ?_⟩; exact Ret.mk _ rfl rfl rfl
  refine ⟨_, eqN h12, ?_⟩
  by_cases h10 : k = 10
  · subst h10; refine ⟨_, eqT rfl, ?_⟩; exact Ret.mk _ rfl rfl rfl
  refine ⟨_, eqN h10, ?_⟩
  exact Ret.mk _ rfl (by show PV.c _ = _; simp [argsOf, *]) rfl
def digB (n : Int) : ByteArray := ⟨#[UInt8.ofNat (48 + n).toNat]⟩
theorem decimal_ok (n : Int) (h0 : 0 ≤ n) (h1 : n < 10) : Ok E 88 [] [pI n] (pS (digB n)) [] := by
  refine Ok.enter hE Tryd.func88 rfl (by decide +kernel) (by kernel_rfl) rfl rfl (Nat.le_of_ble_eq_true rfl) rfl ?_
  have hm : n.tmod 10 = n := by rw [Int.tmod_eq_emod_of_nonneg h0]; omega
  refine ⟨_, remV (by omega) hm, ?_⟩
  refine ⟨_, addV rfl (by omega) (by omega), ?_⟩
  refine ⟨_, convV (z := 48 + n) rfl rfl (by simp [IntKind.wrap, IntKind.bits, IntKind.signed]; omega), ?_⟩
  refine ⟨_, ⟨_, rfl, rfl⟩, ?_⟩
  refine ⟨_, convBV (l := [UInt8.ofNat (48 + n).toNat]) rfl rfl rfl (by
    show bytesF [[CV.int .u8 (48 + n)]] = _
    rw [bytesF, decide_eq_true (by omega)]; rfl), ?_⟩
  refine ⟨_, geN (by omega), ?_⟩
  exact Ret.mk _ rfl rfl rfl
def nameB (k : Int) : ByteArray := match k with
  | 0 => ⟨#[97]⟩
  | 1 => ⟨#[98, 111, 98]⟩
  | 2 => ⟨#[108, 111, 119, 101, 115]⟩
  | 3 => ⟨#[97, 99, 109, 101, 57]⟩
  | 4 => ⟨#[120, 49]⟩
  | _ => ⟨#[101, 108, 115, 101, 101]⟩
def sellerB (n : Int) : ByteArray := nameB ((pk n 60).tmod 6) ++ digB ((pk n 60).tdiv 6)
theorem Seller_ok (n : Int) (hn : I64 n) : Ok E 65 [] [pI n] (pS (sellerB n)) [] := by
  refine Ok.enter hE Tryd.func65 rfl (by decide +kernel) (by kernel_rfl) rfl rfl (Nat.le_of_ble_eq_true rfl) rfl ?_
  refine ⟨_, CallR.mk1 (pick6_ok n 60 hn (by omega)) rfl rfl, ?_⟩
  obtain ⟨h0, h1⟩ := pk_rng (c := n) (n := 60) (by omega)
  have hs : sellerB n = nameB ((pk n 60).tmod 6) ++ digB ((pk n 60).tdiv 6) := rfl
  rw [hs]
  clear hs
  generalize pk n 60 = k at h0 h1 ⊢
  obtain ⟨d, hd⟩ : ∃ d, k.tdiv 6 = d := ⟨_, rfl⟩
  obtain ⟨q, hq⟩ : ∃ q, k.tmod 6 = q := ⟨_, rfl⟩
  rw [hd, hq]
  have hd' : d = k / 6 := by rw [← hd]; exact Int.tdiv_eq_ediv_of_nonneg h0
  have hq' : q = k % 6 := by rw [← hq]; exact Int.tmod_eq_emod_of_nonneg h0
  refine ⟨_, ⟨_, rfl, rfl⟩, ?_⟩
  have : q = 0 ∨ q = 1 ∨ q = 2 ∨ q = 3 ∨ q = 4 ∨ q = 5 := by omega
  rcases this with rfl | rfl | rfl | rfl | rfl | rfl
  · refine ⟨_, remV (by omega) hq, ?_⟩
    refine ⟨_, idxV (j := 0) rfl rfl rfl rfl rfl, ?_⟩
    refine ⟨_, quoV (by omega) hd (by omega) (by omega), ?_⟩
    refine ⟨_, CallR.mk1 (decimal_ok d (by omega) (by omega)) rfl rfl, ?_⟩
    refine ⟨_, catV rfl (by show _ + 1 ≤ _; decide), ?_⟩
    exact Ret.mk _ rfl rfl rfl
  · refine ⟨_, remV (by omega) hq, ?_⟩
    refine ⟨_, idxV (j := 1) rfl rfl rfl rfl rfl, ?_⟩
    refine ⟨_, quoV (by omega) hd (by omega) (by omega), ?_⟩
    refine ⟨_, CallR.mk1 (decimal_ok d (by omega) (by omega)) rfl rfl, ?_⟩
    refine ⟨_, catV rfl (by show _ + 1 ≤ _; decide), ?_⟩
    exact Ret.mk _ rfl rfl rfl
  · refine ⟨_, remV (by omega) hq, ?_⟩
    refine ⟨_, idxV (j := 2) rfl rfl rfl rfl rfl, ?_⟩
    refine ⟨_, quoV (by omega) hd (by omega) (by omega), ?_⟩
    refine ⟨_, CallR.mk1 (decimal_ok d (by omega) (by omega)) rfl rfl, ?_⟩
    refine ⟨_, catV rfl (by show _ + 1 ≤ _; decide), ?_⟩
    exact Ret.mk _ rfl rfl rfl
  · refine ⟨_, remV (by omega) hq, ?_⟩
    refine ⟨_, idxV (j := 3) rfl rfl rfl rfl rfl, ?_⟩
    refine ⟨_, quoV (by omega) hd (by omega) (by omega), ?_⟩
    refine ⟨_, CallR.mk1 (decimal_ok d (by omega) (by omega)) rfl rfl, ?_⟩
    refine ⟨_, catV rfl (by show _ + 1 ≤ _; decide), ?_⟩
    exact Ret.mk _ rfl rfl rfl
  · refine ⟨_, remV (by omega) hq, ?_⟩
    refine ⟨_, idxV (j := 4) rfl rfl rfl rfl rfl, ?_⟩
    refine ⟨_, quoV (by omega) hd (by omega) (by omega), ?_⟩
    refine ⟨_, CallR.mk1 (decimal_ok d (by omega) (by omega)) rfl rfl, ?_⟩
    refine ⟨_, catV rfl (by show _ + 1 ≤ _; decide), ?_⟩
    exact Ret.mk _ rfl rfl rfl
  · refine ⟨_, remV (by omega) hq, ?_⟩
    refine ⟨_, idxV (j := 5) rfl rfl rfl rfl rfl, ?_⟩
    refine ⟨_, quoV (by omega) hd (by omega) (by omega), ?_⟩
    refine ⟨_, CallR.mk1 (decimal_ok d (by omega) (by omega)) rfl rfl, ?_⟩
    refine ⟨_, catV rfl (by show _ + 1 ≤ _; decide), ?_⟩
    exact Ret.mk _ rfl rfl rfl
end Go.Proofs.YtjnbhdbpajnlgaaDoor.Pm

/- Trees of raw numbers, in the pure machine: the trees. -/
namespace Go.Proofs.YtjnbhdbpajnlgaaDoor.Pm
open Go
set_option linter.unusedVariables false
set_option maxHeartbeats 1000000
abbrev Ex := Go.Proofs.YtjnbhdbpajnlgaaDoor.Q.S26
def encL : List Ex → List (List CV)
  | [] => []
  | ⟨k, n, nm, l⟩ :: r => [.int .i64 k, .int .i64 n, .str nm, .row (encL l)] :: encL r
@[reducible] def cellsE (x : Ex) : List CV := [.int .i64 x.f0, .int .i64 x.f1, .str x.f2, .row (encL x.f3)]
@[reducible] def pE (x : Ex) : PV := .agg (cellsE x)
theorem encL_map : ∀ l : List Ex, encL l = l.map cellsE
  | [] => by rw [encL]; rfl
  | ⟨k, n, nm, a⟩ :: r => by rw [encL, encL_map r]; rfl
def e0 : ByteArray := ⟨#[]⟩
def moreE (n : Int) : Ex := ⟨11, n, e0, []⟩
/-- the source's state behind so many arguments -/
def stL (g : Bool → List Int → Ex × List Int) (isIf : Bool) (L : List Int) : Nat → List Int
  | 0 => L
  | j + 1 => (g (isIf && Nat.beq j 0) (stL g isIf L j)).2
def xL (g : Bool → List Int → Ex × List Int) (isIf : Bool) (L : List Int) (j : Nat) : Ex := (g (isIf && Nat.beq j 0) (stL g isIf L j)).1
def argsL (g : Bool → List Int → Ex × List Int) (isIf : Bool) (L : List Int) (m : Nat) : List Ex := (List.range m).map (xL g isIf L)
def kindF (d : Nat) (L : List Int) : Int := if d = 0 then 1 + (1 + nx L 10).tmod 4 else 1 + nx L 10
def finF (kind : Int) (l : List Ex) (L : List Int) : Ex × List Int :=
  if kind = 3 then (⟨kind, 0, sellerB (nx L 60), l⟩, L.tail) else if kind = 4 ∨ kind = 5 then (⟨kind, nx L 3000, e0, l⟩, L.tail) else if kind = 6 then (⟨kind, nx L 12000, e0, l⟩, L.tail) else (⟨kind, 0, e0, l⟩, L)
def exF : Nat → Bool → List Int → Ex × List Int
  | 0, _, L => (moreE 0, L)
  | d + 1, true, L => if d = 0 then (moreE (nx L 7), L.tail) else if nx L 2 = 0 then (moreE (nx L.tail 7), L.tail.tail) else
    (⟨12, 0, e0, [(exF d false L.tail).1, (exF d false (exF d false L.tail).2).1]⟩, (exF d false (exF d false L.tail).2).2)
  | d + 1, false, L => finF (kindF d L) (argsL (exF d) (decide (kindF d L = 10)) L.tail (argsOf (kindF d L)).toNat) (stL (exF d) (decide (kindF d L = 10)) L.tail (argsOf (kindF d L)).toNat)
def PL (L : List Int) : Prop := (∀ a ∈ L, I64 a) ∧ L.length ≤ 100
theorem PL.tail {L : List Int} (h : PL L) : PL L.tail := ⟨fun a ha => h.1 a (List.mem_of_mem_tail ha), by have := h.2; simp; omega⟩
theorem stL_PL {g : Bool → List Int → Ex × List Int} (hg : ∀ c L, PL L → PL (g c L).2) (b : Bool) {L : List Int} (h : PL L) : ∀ j, PL (stL g b L j)
  | 0 => h
  | j + 1 => hg _ _ (stL_PL hg b h j)
theorem finF_PL (k : Int) (l : List Ex) {L : List Int} (h : PL L) : PL (finF k l L).2 := by
  unfold finF
  split
  · exact h.tail
  · split
    · exact h.tail
    · split
      · exact h.tail
      · exact h
theorem exF_PL : ∀ (d : Nat) (c : Bool) (L : List Int), PL L → PL (exF d c L).2
  | 0, _, _, h => h
  | d + 1, true, L, h => by
    unfold exF
    split
    · exact h.tail
    · split
      · exact h.tail.tail
      · exact exF_PL d _ _ (exF_PL d _ _ h.tail)
  | d + 1, false, L, h => by
    unfold exF
    exact finF_PL _ _ (stL_PL (exF_PL d) _ h.tail _)
theorem kindF_rng (d : Nat) (L : List Int) : 1 ≤ kindF d L ∧ kindF d L ≤ 10 ∧ (d = 0 → kindF d L ≤ 4) := by
  have := nx_rng (L := L) (n := 10) (by omega)
  unfold kindF
  split
  · rw [Int.tmod_eq_emod_of_nonneg (by omega)]; omega
  · omega
theorem argsOf_rng {k : Int} (h : 1 ≤ k ∧ k ≤ 10) : 0 ≤ argsOf k ∧ argsOf k ≤ 3 := by
  unfold argsOf
  repeat' split
  all_goals omega
theorem argsOf_low {k : Int} (h : 1 ≤ k ∧ k ≤ 4) : argsOf k = 0 := by
  unfold argsOf
  rw [if_pos (by omega)]
theorem nextOk {L : List Int} (h : PL L) (n : Int) (hn : 0 < n) : Ok E 64 [[.c (.row (encN L))]] [.ptr 0 0, pI n] (pI (nx L n)) [[.c (.row (encN L.tail))]] := next_ok L h.1 h.2 n hn
abbrev srcB (L : List Int) : List PV := [.c (.row (encN L))]
theorem callNext {L : List Int} (h : PL L) {n : Int} (hn : 0 < n) {H : List (List PV)} (hH : H[0]? = some (srcB L)) : SCallR E 64 H [.ptr 0 0, pI n] (pI (nx L n)) (H.set 0 (srcB L.tail)) :=
  SCallR.one (nextOk h n hn) hH ⟨.inr ⟨0, 0, 0, rfl, rfl, rfl⟩, .inl ⟨Wk.refl _, rfl⟩, trivial⟩ (List.mem_cons_self ..) rfl rfl rfl
def ExprOk (d : Nat) : Prop := ∀ (c : Bool) (L : List Int), PL L → Ok E 41 [srcB L] [.ptr 0 0, pI d, pB c] (pE (exF d c L).1) [srcB (exF d c L).2]
theorem callExpr {d : Nat} (hd : ExprOk d) {L : List Int} (h : PL L) {n : Int} (hn : n = d) {c : Bool} {H : List (List PV)} (hH : H[0]? = some (srcB L)) : SCallR E 41 H [.ptr 0 0, pI n, pB c] (pE (exF d c L).1) (H.set 0 (srcB (exF d c L).2)) := by
  subst hn
  exact SCallR.one (hd c L h) hH ⟨.inr ⟨0, 0, 0, rfl, rfl, rfl⟩, .inl ⟨Wk.refl _, rfl⟩, .inl ⟨Wk.refl _, rfl⟩, trivial⟩ (List.mem_cons_self ..) rfl rfl rfl
theorem wkE (k n : Int) (nm : ByteArray) : Wk (.agg [.int .i64 k, .int .i64 n, .str nm, .nil]) (pE ⟨k, n, nm, []⟩) := Wk.aggC (by
  show WkC _ [_, _, _, .row (encL [])]
  rw [encL_map]
  exact .same (.same (.same (.row .nil))))
theorem wkE2 (k n : Int) (nm : ByteArray) (l : List Ex) {xs : List (List CV)} (h : xs = l.map cellsE) : Wk (.agg [.int .i64 k, .int .i64 n, .str nm, .row xs]) (pE ⟨k, n, nm, l⟩) := by
  subst h
  show Wk _ (.agg [_, _, _, .row (encL l)])
  rw [encL_map]
  exact Wk.refl _
theorem expr_cond (d : Nat) (hd : d ≤ 4) (IH : 1 ≤ d → ExprOk d) (L : List Int) (h : PL L) : Ok E 41 [srcB L] [.ptr 0 0, pI (d + 1 : Nat), pB true] (pE (exF (d + 1) true L).1) [srcB (exF (d + 1) true L).2] := by
  refine Ok.enter hE Tryd.func41 rfl (by decide +kernel) (by kernel_rfl) rfl rfl (Nat.le_of_ble_eq_true rfl) rfl ?_
  by_cases h0 : d = 0
  · subst h0
    have e : exF 1 true L = (moreE (nx L 7), L.tail) := by rw [exF, if_pos rfl]
    show wpC E _ (retK E _ (pE (exF 1 true L).1) [srcB (exF 1 true L).2]) _
    rw [e]
    refine ⟨_, ltT (by show (1 : Int) < 2; decide), ?_⟩
    refine ⟨_, _, callNext h (by decide) rfl, ?_⟩
    exact ⟨_, rfl, wkE _ _ _, rfl, .cons (WkL.refl _) rfl (.nil _)⟩
  · refine ⟨_, ltN (by omega), ?_⟩
    refine ⟨_, _, callNext h (by decide) rfl, ?_⟩
    by_cases h2 : nx L 2 = 0
    · have e : exF (d + 1) true L = (moreE (nx L.tail 7), L.tail.tail) := by rw [exF, if_neg h0, if_pos h2]
      rw [e]
      refine ⟨_, eqT h2, ?_⟩
      refine ⟨_, _, callNext h.tail (by decide) rfl, ?_⟩
      exact ⟨_, rfl, wkE _ _ _, rfl, .cons (WkL.refl _) rfl (.nil _)⟩
    · have e : exF (d + 1) true L = (⟨12, 0, e0, [(exF d false L.tail).1, (exF d false (exF d false L.tail).2).1]⟩, (exF d false (exF d false L.tail).2).2) := by rw [exF, if_neg h0, if_neg h2]
      rw [e]
      refine ⟨_, eqN h2, ?_⟩
      refine ⟨_, subV (z := (d : Int)) (by omega) (by omega) (by omega), ?_⟩
      refine ⟨_, _, callExpr (IH (by omega)) h.tail rfl rfl, ?_⟩
      refine ⟨_, subV (z := (d : Int)) (by omega) (by omega) (by omega), ?_⟩
      refine ⟨_, _, callExpr (IH (by omega)) (exF_PL d _ _ h.tail) rfl rfl, ?_⟩
      refine ⟨_, ⟨_, rfl, rfl⟩, ?_⟩
      exact ⟨_, rfl, wkE2 _ _ _ _ rfl, rfl, .cons (WkL.refl _) rfl (.nil _)⟩
def cellA (l : List (List CV)) : Nat → PV
  | 0 => .c .nil
  | _ + 1 => .orow l 0
def tokA : Nat → List (Nat × Nat)
  | 0 => []
  | j + 1 => [(j + 1, 26)]
theorem argsL_succ (g : Bool → List Int → Ex × List Int) (b : Bool) (L : List Int) (j : Nat) : argsL g b L (j + 1) = argsL g b L j ++ [xL g b L j] := by
  unfold argsL
  rw [List.range_succ, List.map_append]; rfl
theorem argsL_len (g : Bool → List Int → Ex × List Int) (b : Bool) (L : List Int) (j : Nat) : (argsL g b L j).length = j := by simp [argsL]
theorem cells_len (l : List Ex) : ∀ x ∈ l.map cellsE, x.length = 4 := by
  intro x hx
  obtain ⟨y, -, rfl⟩ := List.mem_map.1 hx
  rfl
theorem headH {g : Bool → List Int → Ex × List Int} {b c : Bool} {L : List Int} {j : Nat} (ff : stL g b L (j + 1) = (g c (stL g b L j)).2 ∧ argsL g b L (j + 1) = argsL g b L j ++ [(g c (stL g b L j)).1]) (kind : Int) :
    ([srcB (g c (stL g b L j)).2, [pI 0, pI 0, pS e0, .c .nil], [pI kind, pI 0, pS e0, .orow ((argsL g b L j).map cellsE ++ [cellsE (g c (stL g b L j)).1]) 0]] : List (List PV)) = [srcB (stL g b L (j + 1)), [pI 0, pI 0, pS e0, .c .nil], [pI kind, pI 0, pS e0, cellA ((argsL g b L (j + 1)).map cellsE) (j + 1)]] := by
  rw [ff.1, ff.2, List.map_append]; rfl
theorem tokH {l : List Ex} {j : Nat} (h : l.length = j + 1) : [((l.map cellsE).length + 1, 26)] = tokA (j + 1 + 1) := by
  rw [List.length_map, h]; rfl
theorem expr_if (d : Nat) (hd : d ≤ 4) (IH : 1 ≤ d → ExprOk d) (L : List Int) (h : PL L) : Ok E 41 [srcB L] [.ptr 0 0, pI (d + 1 : Nat), pB false] (pE (exF (d + 1) false L).1) [srcB (exF (d + 1) false L).2] := by
  have e : exF (d + 1) false L = finF (kindF d L) (argsL (exF d) (decide (kindF d L = 10)) L.tail (argsOf (kindF d L)).toNat) (stL (exF d) (decide (kindF d L = 10)) L.tail (argsOf (kindF d L)).toNat) := by rw [exF]
  rw [e]
  have hkr := kindF_rng d L
  obtain ⟨kind, hk⟩ : ∃ k, kindF d L = k := ⟨_, rfl⟩
  rw [hk] at hkr ⊢
  have har := argsOf_rng (k := kind) ⟨hkr.1, hkr.2.1⟩
  obtain ⟨m, hm⟩ : ∃ m : Nat, argsOf kind = m := ⟨(argsOf kind).toNat, by omega⟩
  rw [hm] at har ⊢
  rw [Int.toNat_natCast]
  have hnx := nx_rng (L := L) (n := 10) (by omega)
  obtain ⟨b, hb⟩ : ∃ b, decide (kind = 10) = b := ⟨_, rfl⟩
  rw [hb]
  have hP : ∀ j, PL (stL (exF d) b L.tail j) := stL_PL (exF_PL d) b h.tail
  obtain ⟨R, hR⟩ : ∃ R, finF kind (argsL (exF d) b L.tail m) (stL (exF d) b L.tail m) = R := ⟨_, rfl⟩
  rw [hR]
  refine Ok.enter hE Tryd.func41 rfl (by decide +kernel) (by kernel_rfl) rfl rfl (Nat.le_of_ble_eq_true rfl) rfl ?_
  refine ⟨_, _, callNext h (by decide) rfl, ?_⟩
  by_cases hd0 : d = 0
  have hk1 : 1 + (1 + nx L 10).tmod 4 = kind := by rw [← hk, kindF, if_pos hd0]
  have hk2 : (1 + nx L 10).tmod 4 = kind - 1 := by omega
  refine ⟨_, addV rfl (by omega) (by omega), ?_⟩
  refine ⟨_, ltT (by omega), ?_⟩
  refine ⟨_, remV (by omega) hk2, ?_⟩
  refine ⟨_, addV (z := kind) (by omega) (by omega) (by omega), ?_⟩
  rotate_left
  have hk1 : 1 + nx L 10 = kind := by rw [← hk, kindF, if_neg hd0]
  refine ⟨_, addV hk1 (by omega) (by omega), ?_⟩
  refine ⟨_, ltN (by omega), ?_⟩
  all_goals
    refine Loop.run (α := Nat) (fun j => j ≤ m) (fun j => [(0, .ptr 0 0), (1, pI (d + 1 : Nat)), (6, .ptr 1 0), (7, pI kind), (8, .ptr 2 0), (9, pI j)])
      (fun j => [srcB (stL (exF d) b L.tail j), [pI 0, pI 0, pS e0, .c .nil], [pI kind, pI 0, pS e0, cellA ((argsL (exF d) b L.tail j).map cellsE) j]]) tokA (fun j => m - j) 0 (Nat.zero_le _) ⟨⟨rfl, rfl, rfl, rfl, rfl, rfl, trivial⟩, rfl, rfl⟩ ?_
    intro j f hj
    refine ⟨_, CallR.mk1 (Args_ok kind) rfl rfl, ?_⟩
    by_cases hjm : j < m
    · refine ⟨_, ltT (by omega), ?_⟩
      have hd1 : 1 ≤ d := by
        by_cases hd0 : d = 0
        · have := argsOf_low (k := kind) ⟨hkr.1, hkr.2.2 hd0⟩; omega
        · omega
      have fin : ∀ c, (b && Nat.beq j 0) = c → stL (exF d) b L.tail (j + 1) = (exF d c (stL (exF d) b L.tail j)).2 ∧ argsL (exF d) b L.tail (j + 1) = argsL (exF d) b L.tail j ++ [(exF d c (stL (exF d) b L.tail j)).1] := by
        intro c hc
        exact ⟨by rw [stL, hc], by rw [argsL_succ, xL, hc]⟩
      cases j with
      | zero =>
        refine ⟨_, subV (z := (d : Int)) (by omega) (by omega) (by omega), ?_⟩
        by_cases h10 : kind = 10
        · have ff := fin true (by rw [← hb, decide_eq_true h10]; rfl)
          refine ⟨_, eqT h10, ?_⟩
          refine ⟨_, eqT rfl, ?_⟩
          refine ⟨_, _, callExpr (IH hd1) (hP 0) rfl rfl, ?_⟩
          refine ⟨_, ⟨_, rfl, rfl⟩, ?_⟩
          refine ⟨_, _, AppR.first1 rfl rfl (by decide) rfl rfl rfl (by decide), ?_⟩
          refine ⟨_, addV rfl (by decide) (by decide), ?_⟩
          exact ⟨1, hjm, by omega, ⟨rfl, rfl, rfl, rfl, rfl, rfl, trivial⟩, headH ff kind, rfl⟩
        · have ff := fin false (by rw [← hb, decide_eq_false h10]; rfl)
          refine ⟨_, eqN h10, ?_⟩
          refine ⟨_, _, callExpr (IH hd1) (hP 0) rfl rfl, ?_⟩
          refine ⟨_, ⟨_, rfl, rfl⟩, ?_⟩
          refine ⟨_, _, AppR.first1 rfl rfl (by decide) rfl rfl rfl (by decide), ?_⟩
          refine ⟨_, addV rfl (by decide) (by decide), ?_⟩
          exact ⟨1, hjm, by omega, ⟨rfl, rfl, rfl, rfl, rfl, rfl, trivial⟩, headH ff kind, rfl⟩
      | succ j =>
        refine ⟨_, subV (z := (d : Int)) (by omega) (by omega) (by omega), ?_⟩
        by_cases h10 : kind = 10
        · have ff := fin false (by rw [← hb, decide_eq_true h10]; rfl)
          refine ⟨_, eqT h10, ?_⟩
          refine ⟨_, eqN (by omega), ?_⟩
          refine ⟨_, _, callExpr (IH hd1) (hP (j + 1)) rfl rfl, ?_⟩
          refine ⟨_, ⟨_, rfl, rfl⟩, ?_⟩
          refine ⟨_, _, AppR.more1 (j + 1) rfl rfl (by decide) rfl rfl (by rw [List.length_map, argsL_len]) (cells_len _) rfl rfl (by omega) (by show (j + 1 + 1) * 56 ≤ _; omega), ?_⟩
          refine ⟨_, addV rfl (by omega) (by omega), ?_⟩
          exact ⟨j + 1 + 1, hjm, by omega, ⟨rfl, rfl, rfl, rfl, rfl, rfl, trivial⟩, headH ff kind, rfl⟩
        · have ff := fin false (by rw [← hb, decide_eq_false h10]; rfl)
          refine ⟨_, eqN h10, ?_⟩
          refine ⟨_, _, callExpr (IH hd1) (hP (j + 1)) rfl rfl, ?_⟩
          refine ⟨_, ⟨_, rfl, rfl⟩, ?_⟩
          refine ⟨_, _, AppR.more1 (j + 1) rfl rfl (by decide) rfl rfl (by rw [List.length_map, argsL_len]) (cells_len _) rfl rfl (by omega) (by show (j + 1 + 1) * 56 ≤ _; omega), ?_⟩
          refine ⟨_, addV rfl (by omega) (by omega), ?_⟩
          exact ⟨j + 1 + 1, hjm, by omega, ⟨rfl, rfl, rfl, rfl, rfl, rfl, trivial⟩, headH ff kind, rfl⟩
    · refine ⟨_, ltN (by omega), ?_⟩
      have hjm : j = m := by omega
      subst hjm
      have hn1 := nx_rng (L := stL (exF d) b L.tail j) (n := 60) (by omega)
      by_cases h3 : kind = 3
      · have hRe : R = (⟨kind, 0, sellerB (nx (stL (exF d) b L.tail j) 60), argsL (exF d) b L.tail j⟩, (stL (exF d) b L.tail j).tail) := by rw [← hR, finF, if_pos h3]
        subst hRe
        refine ⟨_, eqT h3, ?_⟩
        refine ⟨_, _, callNext (hP j) (by decide) rfl, ?_⟩
        refine ⟨_, CallR.mk1 (Seller_ok _ ⟨by omega, by omega⟩) rfl rfl, ?_⟩
        cases j with
        | zero => exact ⟨_, rfl, wkE _ _ _, rfl, .cons (WkL.refl _) rfl (.nil _)⟩
        | succ j => exact ⟨_, rfl, wkE2 _ _ _ _ rfl, rfl, .cons (WkL.refl _) rfl (.nil _)⟩
      refine ⟨_, eqN h3, ?_⟩
      by_cases h45 : kind = 4 ∨ kind = 5
      · have hRe : R = (⟨kind, nx (stL (exF d) b L.tail j) 3000, e0, argsL (exF d) b L.tail j⟩, (stL (exF d) b L.tail j).tail) := by rw [← hR, finF, if_neg h3, if_pos h45]
        subst hRe
        by_cases h4 : kind = 4
        · refine ⟨_, eqT h4, ?_⟩
          refine ⟨_, _, callNext (hP j) (by decide) rfl, ?_⟩
          cases j with
          | zero => exact ⟨_, rfl, wkE _ _ _, rfl, .cons (WkL.refl _) rfl (.nil _)⟩
          | succ j => exact ⟨_, rfl, wkE2 _ _ _ _ rfl, rfl, .cons (WkL.refl _) rfl (.nil _)⟩
        · refine ⟨_, eqN h4, ?_⟩
          refine ⟨_, eqT (by omega), ?_⟩
          refine ⟨_, _, callNext (hP j) (by decide) rfl, ?_⟩
          cases j with
          | zero => exact ⟨_, rfl, wkE _ _ _, rfl, .cons (WkL.refl _) rfl (.nil _)⟩
          | succ j => exact ⟨_, rfl, wkE2 _ _ _ _ rfl, rfl, .cons (WkL.refl _) rfl (.nil _)⟩
      refine ⟨_, eqN (by omega), ?_⟩
      refine ⟨_, eqN (by omega), ?_⟩
      by_cases h6 : kind = 6
      · have hRe : R = (⟨kind, nx (stL (exF d) b L.tail j) 12000, e0, argsL (exF d) b L.tail j⟩, (stL (exF d) b L.tail j).tail) := by rw [← hR, finF, if_neg h3, if_neg h45, if_pos h6]
        subst hRe
        refine ⟨_, eqT h6, ?_⟩
        refine ⟨_, _, callNext (hP j) (by decide) rfl, ?_⟩
        cases j with
        | zero => exact ⟨_, rfl, wkE _ _ _, rfl, .cons (WkL.refl _) rfl (.nil _)⟩
        | succ j => exact ⟨_, rfl, wkE2 _ _ _ _ rfl, rfl, .cons (WkL.refl _) rfl (.nil _)⟩
      · have hRe : R = (⟨kind, 0, e0, argsL (exF d) b L.tail j⟩, stL (exF d) b L.tail j) := by rw [← hR, finF, if_neg h3, if_neg h45, if_neg h6]
        subst hRe
        refine ⟨_, eqN h6, ?_⟩
        cases j with
        | zero => exact ⟨_, rfl, wkE _ _ _, rfl, .cons (WkL.refl _) rfl (.nil _)⟩
        | succ j => exact ⟨_, rfl, wkE2 _ _ _ _ rfl, rfl, .cons (WkL.refl _) rfl (.nil _)⟩
end Go.Proofs.YtjnbhdbpajnlgaaDoor.Pm

/- Trees in the pure machine: Strategy, Size, Deep, Same. -/
namespace Go.Proofs.YtjnbhdbpajnlgaaDoor.Pm
open Go
set_option linter.unusedVariables false
set_option maxHeartbeats 400000
theorem expr_ok : ∀ d, d ≤ 5 → 1 ≤ d → ExprOk d
  | 0, _, h => by omega
  | d + 1, h5, _ => fun c L h => match c with
    | true => expr_cond d (by omega) (fun h1 => expr_ok d (by omega) h1) L h
    | false => expr_if d (by omega) (fun h1 => expr_ok d (by omega) h1) L h
def stratF (raw : List Int) : Ex := (exF 5 false (raw.take 100)).1
theorem encN_len (l : List Int) : (encN l).length = l.length := by simp [encN]
theorem strat_ok (raw : List Int) (h : ∀ a ∈ raw, I64 a) (hl : raw.length ≤ 9223372036854775807) : Ok E 15 [] [.c (.row (encN raw))] (pE (stratF raw)) [] := by
  have hP : PL (raw.take 100) := ⟨fun a ha => h a (List.mem_of_mem_take ha), by simp; omega⟩
  have IH := expr_ok 5 (by omega) (by omega)
  have hex := IH false _ hP
  refine Ok.enter hE Tryd.func15 rfl (by decide +kernel) (by kernel_rfl) rfl rfl (Nat.le_of_ble_eq_true rfl) rfl ?_
  by_cases hgt : raw.length > 100
  · refine ⟨_, gtT (by rw [encN_len]; omega), ?_⟩
    refine ⟨_, sliceRV 0 100 rfl rfl rfl rfl (by rw [encN_len]; omega) (by intro x hx; simp [encN] at hx; obtain ⟨a, -, rfl⟩ := hx; rfl), ?_⟩
    refine ⟨_, _, SCallR.oneW (i := 1) (off := 0) hex rfl ?_ ⟨.inr ⟨0, 1, 0, rfl, rfl, rfl⟩, .inl ⟨Wk.refl _, rfl⟩, .inl ⟨Wk.refl _, rfl⟩, trivial⟩ (List.mem_cons_self ..) rfl rfl rfl, ?_⟩
    · have e : (encN (raw.take 100)) = ((encN raw).take 100).drop 0 := by simp [encN, List.map_take]
      unfold srcB
      rw [e]
      exact WkL.refl _
    · exact ⟨_, rfl, Wk.refl _, rfl, .nil _⟩
  · refine ⟨_, gtN (by rw [encN_len]; omega), ?_⟩
    refine ⟨_, _, SCallR.oneW (i := 1) (off := 0) hex rfl ?_ ⟨.inr ⟨0, 1, 0, rfl, rfl, rfl⟩, .inl ⟨Wk.refl _, rfl⟩, .inl ⟨Wk.refl _, rfl⟩, trivial⟩ (List.mem_cons_self ..) rfl rfl rfl, ?_⟩
    · rw [List.take_of_length_le (by omega)]
      exact WkL.refl _
    · exact ⟨_, rfl, Wk.refl _, rfl, .nil _⟩
/-! ### counts -/
mutual
def size : Ex → Int
  | ⟨_, _, _, l⟩ => 1 + sizeL l
def sizeL : List Ex → Int
  | [] => 0
  | x :: l => size x + sizeL l
end
mutual
def deep : Ex → Int
  | ⟨_, _, _, l⟩ => 1 + deepL l
def deepL : List Ex → Int
  | [] => 0
  | x :: l => max (deep x) (deepL l)
end
mutual
theorem size_pos : ∀ x : Ex, 0 < size x
  | ⟨_, _, _, l⟩ => by rw [size]; have := sizeL_pos l; omega
theorem sizeL_pos : ∀ l : List Ex, 0 ≤ sizeL l
  | [] => by rw [sizeL]; omega
  | x :: l => by rw [sizeL]; have := size_pos x; have := sizeL_pos l; omega
end
mutual
theorem deep_le : ∀ x : Ex, 0 < deep x ∧ deep x ≤ size x
  | ⟨_, _, _, l⟩ => by rw [deep, size]; have := deepL_le l; omega
theorem deepL_le : ∀ l : List Ex, 0 ≤ deepL l ∧ deepL l ≤ sizeL l
  | [] => by rw [deepL, sizeL]; omega
  | x :: l => by rw [deepL, sizeL]; have := deep_le x; have := deepL_le l; omega
end
theorem sizeL_append (l r : List Ex) : sizeL (l ++ r) = sizeL l + sizeL r := by
  induction l with
  | nil => rw [List.nil_append, sizeL]; omega
  | cons x l ih => rw [List.cons_append, sizeL, sizeL, ih]; omega
theorem deepL_append (l r : List Ex) : deepL (l ++ r) = max (deepL l) (deepL r) := by
  induction l with
  | nil => rw [List.nil_append, deepL]; have := (deepL_le r).1; omega
  | cons x l ih => rw [List.cons_append, deepL, deepL, ih]; omega
theorem take_snoc {l : List Ex} {j : Nat} {x : Ex} (h : l[j]? = some x) : l.take (j + 1) = l.take j ++ [x] := by rw [List.take_add_one, h]; rfl
theorem sizeL_take (l : List Ex) (j : Nat) (x : Ex) (h : l[j]? = some x) : sizeL (l.take (j + 1)) = sizeL (l.take j) + size x := by
  rw [take_snoc h, sizeL_append, sizeL, sizeL]; omega
theorem deepL_take (l : List Ex) (j : Nat) (x : Ex) (h : l[j]? = some x) : deepL (l.take (j + 1)) = max (deepL (l.take j)) (deep x) := by
  rw [take_snoc h, deepL_append, deepL, deepL]
  have := (deep_le x).1
  omega
theorem sizeL_le (l : List Ex) (j : Nat) : sizeL (l.take j) ≤ sizeL l := by
  have := sizeL_append (l.take j) (l.drop j)
  rw [List.take_append_drop] at this
  have := sizeL_pos (l.drop j)
  omega
theorem sizeL_len (l : List Ex) : (l.length : Int) ≤ sizeL l := by
  induction l with
  | nil => rw [sizeL]; simp
  | cons x l ih => rw [sizeL]; have := size_pos x; simp; omega
theorem enc_len (l : List Ex) : (encL l).length = l.length := by rw [encL_map, List.length_map]
theorem enc_get {l : List Ex} {j : Nat} {y : Ex} (hy : l[j]? = some y) : (encL l)[j]? = some (cellsE y) := by rw [encL_map, List.getElem?_map, hy]; rfl
theorem Size_ok : ∀ (x : Ex), size x ≤ 9223372036854775807 → Ok E 21 [] [pE x] (pI (size x)) []
  | ⟨k, n, nm, l⟩, h => by
    have h' : 1 + sizeL l ≤ 9223372036854775807 := by rw [size] at h; exact h
    have hll := sizeL_len l
    have hel := enc_len l
    refine Ok.enter hE Tryd.func21 rfl (by decide +kernel) (by kernel_rfl) rfl rfl (Nat.le_of_ble_eq_true rfl) rfl ?_
    refine Loop.cut (α := Nat) (fun j => j ≤ l.length) (fun j => [(1, .ptr 0 0), (3, pI (1 + sizeL (l.take j))), (7, .c (.row (encL l))), (8, pI (encL l).length), (9, pI j)]) (fun j => [(cellsE ⟨k, n, nm, l⟩).map .c]) (fun _ => []) (fun j => l.length - j) 0 1 (fun _ => rfl) (fun _ => rfl) (fun _ => rfl) (Nat.zero_le _) ⟨⟨rfl, ?_, rfl, rfl, rfl, trivial⟩, rfl, rfl⟩ ?_
    · show PV.c _ = _; rw [List.take_zero, sizeL]; rfl
    intro j f hj
    by_cases hjl : j < l.length
    · obtain ⟨y, hy⟩ : ∃ y, l[j]? = some y := ⟨_, List.getElem?_eq_getElem hjl⟩
      have hst := sizeL_take l j y hy
      have hle := sizeL_le l (j + 1)
      have hp := sizeL_pos (l.take j)
      have hpy := size_pos y
      refine ⟨_, ltT (by omega), ?_⟩
      refine ⟨_, idxV (j := j) (enc_get hy) rfl rfl rfl rfl, ?_⟩
      refine ⟨_, CallR.mk1 (Size_ok y (by omega)) rfl rfl, ?_⟩
      refine ⟨_, addV (z := 1 + sizeL (l.take (j + 1))) (by omega) (by omega) (by omega), ?_⟩
      refine ⟨_, addV rfl (by omega) (by omega), ?_⟩
      exact ⟨j + 1, hjl, by omega, ⟨rfl, rfl, rfl, rfl, rfl, trivial⟩, ⟨_, rfl⟩, rfl⟩
    · refine ⟨_, ltN (by omega), ?_⟩
      have : j = l.length := by omega
      exact Ret.mk _ rfl (by show PV.c _ = _; rw [this, List.take_length, size]) rfl
termination_by x => SizeOf.sizeOf x
decreasing_by
  have := List.sizeOf_lt_of_mem (List.mem_of_getElem? hy)
  simp only [Go.Proofs.YtjnbhdbpajnlgaaDoor.Q.S26.mk.sizeOf_spec]
  omega
theorem deepL_lt (l : List Ex) : deepL l ≤ sizeL l := (deepL_le l).2
theorem Deep_ok : ∀ (x : Ex), size x ≤ 9223372036854775807 → Ok E 23 [] [pE x] (pI (deep x)) []
  | ⟨k, n, nm, l⟩, h => by
    have h' : 1 + sizeL l ≤ 9223372036854775807 := by rw [size] at h; exact h
    have hll := sizeL_len l
    have hel := enc_len l
    refine Ok.enter hE Tryd.func23 rfl (by decide +kernel) (by kernel_rfl) rfl rfl (Nat.le_of_ble_eq_true rfl) rfl ?_
    refine Loop.cut (α := Nat) (fun j => j ≤ l.length) (fun j => [(1, .ptr 0 0), (3, pI (deepL (l.take j))), (7, .c (.row (encL l))), (8, pI (encL l).length), (9, pI j)]) (fun j => [(cellsE ⟨k, n, nm, l⟩).map .c]) (fun _ => []) (fun j => l.length - j) 0 1 (fun _ => rfl) (fun _ => rfl) (fun _ => rfl) (Nat.zero_le _) ⟨⟨rfl, ?_, rfl, rfl, rfl, trivial⟩, rfl, rfl⟩ ?_
    · show PV.c _ = _; rw [List.take_zero, deepL]
    intro j f hj
    by_cases hjl : j < l.length
    · obtain ⟨y, hy⟩ : ∃ y, l[j]? = some y := ⟨_, List.getElem?_eq_getElem hjl⟩
      have hst := deepL_take l j y hy
      have hss := sizeL_take l j y hy
      have hle := sizeL_le l (j + 1)
      have hp := sizeL_pos (l.take j)
      refine ⟨_, ltT (by omega), ?_⟩
      refine ⟨_, idxV (j := j) (enc_get hy) rfl rfl rfl rfl, ?_⟩
      refine ⟨_, CallR.mk1 (Deep_ok y (by omega)) rfl rfl, ?_⟩
      refine ⟨_, maxV hst.symm, ?_⟩
      refine ⟨_, addV rfl (by omega) (by omega), ?_⟩
      exact ⟨j + 1, hjl, by omega, ⟨rfl, rfl, rfl, rfl, rfl, trivial⟩, ⟨_, rfl⟩, rfl⟩
    · refine ⟨_, ltN (by omega), ?_⟩
      have : j = l.length := by omega
      subst this
      have hd := deepL_le l
      refine ⟨_, addV (z := deep ⟨k, n, nm, l⟩) (by rw [List.take_length, deep]; omega) (by rw [deep]; omega) (by rw [deep]; omega), ?_⟩
      exact Ret.mk _ rfl rfl rfl
termination_by x => SizeOf.sizeOf x
decreasing_by
  have := List.sizeOf_lt_of_mem (List.mem_of_getElem? hy)
  simp only [Go.Proofs.YtjnbhdbpajnlgaaDoor.Q.S26.mk.sizeOf_spec]
  omega
end Go.Proofs.YtjnbhdbpajnlgaaDoor.Pm

/- What was walked by hand, as contracts of the pure machine. -/
namespace Go.Proofs.YtjnbhdbpajnlgaaDoor.Pm
open Go Go.RowKit Go.Proofs.YtjnbhdbpajnlgaaDoorW.PrintWords Go.Proofs.YtjnbhdbpajnlgaaDoorW.PrintLast Go.Proofs.YtjnbhdbpajnlgaaDoorW.PrintMore
set_option linter.unusedVariables false
set_option maxHeartbeats 400000
section
variable {w : World} {ok : Nat → Nat → Prop}
theorem RepC.row_inv {v : Value} {xs : List (List CV)} (h : RepC w ok v (.row xs)) : ∃ A cap, v = .slice A xs.length cap ∧ xs.length ≤ cap := by
  cases h with
  | row A len cap xs sz vs hl hcap hnil hpos hsz hA hr => subst hl; exact ⟨A, cap, rfl, hcap⟩
theorem ok_C : ∀ (s : Nat) (l : List Ex), SizeOf.sizeOf l < s → ∀ A cap, l.length ≤ 9223372036854775807 → Q.rngA l = true → RepC w ok (.slice A l.length cap) (.row (encL l)) → Kd.C Q.k26 w A l.length l := by
  intro s
  induction s with
  | zero => intro l h; omega
  | succ s ih =>
    intro l hs A cap hl hrng h
    obtain ⟨n', xs', hn', hxs', h'⟩ : ∃ n xs, n = l.length ∧ xs = encL l ∧ RepC w ok (.slice A n cap) (.row xs) := ⟨_, _, rfl, rfl, h⟩
    cases h' with
    | row _ len _ xs sz vs hlen hcap hnil hpos hsz hA hr =>
      subst hxs'
      refine ⟨rfl, hl, fun hp => ?_⟩
      have hsz4 : ∀ (j : Nat) (x : Ex), l[j]? = some x → sz = 4 := fun j x hj => by
        have := hsz (cellsE x) (List.mem_of_getElem? (enc_get hj))
        exact this.symm
      have hs4 : sz = 4 := by
        obtain ⟨x, hx⟩ : ∃ x, l[0]? = some x := ⟨_, List.getElem?_eq_getElem hp⟩
        exact hsz4 0 x hx
      subst hs4
      obtain ⟨ad, hAd, -, -⟩ := hA 0 (by omega)
      refine ⟨ad, hAd, fun j x hj => ?_⟩
      have hjl := (List.getElem?_eq_some_iff.1 hj).1
      have hc := hr j (cellsE x) 
      have h3 := hc 3 _ (enc_get hj) rfl
      obtain ⟨A3, c3, hv3, hc3⟩ := h3.row_inv
      rw [enc_len] at hv3 hc3
      have h0 := hc 0 _ (enc_get hj) rfl
      have h1 := hc 1 _ (enc_get hj) rfl
      have h2 := hc 2 _ (enc_get hj) rfl
      have hmem := List.mem_of_getElem? hj
      have hso := List.sizeOf_lt_of_mem hmem
      have hrx := Q.rngA_mem l hrng x hmem
      have hl3 : x.f3.length < 4611686018427387904 ∧ Q.rngA x.f3 = true := by
        obtain ⟨k, n, nm, l3⟩ := x
        rw [Q.rngE, Bool.and_eq_true] at hrx
        exact ⟨(of_decide_eq_true hrx.1).2, hrx.2⟩
      rw [hv3] at h3
      have hk := Q.k26_mk w x hc3 (ih x.f3 (by
        obtain ⟨k, n, nm, l3⟩ := x
        rw [Q.S26.mk.sizeOf_spec] at hso
        show SizeOf.sizeOf l3 < s
        omega) A3 c3 (by omega) hl3.2 h3)
      refine ⟨_, rfl, hk, fun i u hu => ?_⟩
      have hlt : i < 4 := by have := (List.getElem?_eq_some_iff.1 hu).1; simpa using this
      obtain ⟨ad', hAd', -, hcell⟩ := hA (j * 4 + i) (by omega)
      rw [hAd] at hAd'
      injection hAd' with hAd'
      subst hAd'
      show w.cell? (ad.add (j * 4 + i)) = some u
      rw [hcell]
      have hi : i = 0 ∨ i = 1 ∨ i = 2 ∨ i = 3 := by omega
      rcases hi with rfl | rfl | rfl | rfl
      · simp at hu; subst hu
        generalize vs (j * 4 + 0) = y at h0; cases h0; rfl
      · simp at hu; subst hu
        generalize vs (j * 4 + 1) = y at h1; cases h1; rfl
      · simp at hu; subst hu
        generalize vs (j * 4 + 2) = y at h2; cases h2; rfl
      · simp at hu; subst hu
        rw [hv3]
end
theorem one_str {w : World} {ok : Nat → Nat → Prop} {vals : Array Value} {s : ByteArray} (h : RepL (Rep w ok [] []) vals.toList [pS s]) : vals = #[.string s] := by
  apply Array.ext'
  match hv : vals.toList, h with
  | [v], h => rw [h.head.str_inv]
theorem Word_ok (s : ByteArray) : Ok E 81 [] [pS s] (pB (Lib.containsS Q.wordsB s)) [] := by
  refine Ok.ofBelow hE ⟨_, Tryd.func81, by decide +kernel, by kernel_rfl⟩ fun w ok vals hI hr => ?_
  refine ⟨.bool (Lib.containsS Q.wordsB s), fun _ => .mkBool _, ?_⟩
  obtain rfl := one_str hr
  exact Q.lex_Word.calls s _ w rfl
theorem agg_inv {w : World} {ok : Nat → Nat → Prop} {v : Value} {x : Ex} (h : Rep w ok [] [] v (pE x)) : ∃ A c, v = .agg #[.int .i64 x.f0, .int .i64 x.f1, .string x.f2, .slice A x.f3.length c] ∧ x.f3.length ≤ c ∧ RepC w ok (.slice A x.f3.length c) (.row (encL x.f3)) := by
  cases h with
  | agg cs _ h =>
    obtain ⟨hl, hg⟩ := h
    have hl : cs.toList.length = 4 := hl
    match hv : cs.toList, hl with
    | [a, b, c, d], _ =>
      rw [hv] at hg
      have h0 := hg 0 _ _ rfl rfl
      have h1 := hg 1 _ _ rfl rfl
      have h2 := hg 2 _ _ rfl rfl
      have h3 := hg 3 _ _ rfl rfl
      obtain ⟨A, cap, rfl, hc⟩ := h3.row_inv
      rw [enc_len] at h3 hc
      refine ⟨A, cap, ?_, hc, h3⟩
      congr 1
      apply Array.ext'
      rw [hv]
      cases h0; cases h1; cases h2
      rw [enc_len]
theorem rng_len {x : Ex} (h : Q.rngE x = true) : x.f3.length ≤ 9223372036854775807 ∧ Q.rngA x.f3 = true := by
  obtain ⟨k, n, nm, l⟩ := x
  rw [Q.rngE, Bool.and_eq_true] at h
  have := (of_decide_eq_true h.1).2
  exact ⟨by show l.length ≤ _; omega, h.2⟩
theorem text_ok (x : Ex) (hr : Q.rngE x = true) (hne : Q.txtE x ≠ []) (hl : (Q.txtE x).length ≤ 70368744177664) : Ok E 43 [] [pE x] (pS (Pl.B (Q.txtE x))) [] := by
  refine Ok.ofBelow hE ⟨_, Tryd.func43, by decide +kernel, by kernel_rfl⟩ fun w ok vals hI hv => ?_
  refine ⟨.string (Pl.B (Q.txtE x)), fun _ => .mkStr _, ?_⟩
  match hvl : vals.toList, hv with
  | [v], hv =>
    obtain ⟨A, c, rfl, hc, hR⟩ := agg_inv hv.head
    obtain ⟨g1, g2⟩ := rng_len hr
    have hvals : vals = #[.agg #[.int .i64 x.f0, .int .i64 x.f1, .string x.f2, .slice A x.f3.length c]] := by apply Array.ext'; rw [hvl]
    subst hvals
    obtain ⟨k, n, nm, l⟩ := x
    exact Q.tree_text.calls k n nm A c l _ w (ok_C _ _ (Nat.lt_succ_self _) A c g1 g2 hR) hc ⟨hI.tab⟩ (by unfold Q.tree_text.f; exact if_pos ⟨hr, hne, hl⟩)
theorem Same_ok (x y : Ex) (hx : Q.rngE x = true) (hy : Q.rngE y = true) : Ok E 25 [] [pE x, pE y] (pB (Q.sameE x y)) [] := by
  refine Ok.ofBelow hE ⟨_, Tryd.func25, by decide +kernel, by kernel_rfl⟩ fun w ok vals hI hv => ?_
  refine ⟨.bool (Q.sameE x y), fun _ => .mkBool _, ?_⟩
  match hvl : vals.toList, hv with
  | [v, u], hv =>
    obtain ⟨A, c, rfl, hc, hR⟩ := agg_inv hv.head
    obtain ⟨B, d, rfl, hd, hS⟩ := agg_inv hv.tail.head
    obtain ⟨g1, g2⟩ := rng_len hx
    obtain ⟨k1, k2⟩ := rng_len hy
    have hvals : vals = #[.agg #[.int .i64 x.f0, .int .i64 x.f1, .string x.f2, .slice A x.f3.length c], .agg #[.int .i64 y.f0, .int .i64 y.f1, .string y.f2, .slice B y.f3.length d]] := by apply Array.ext'; rw [hvl]
    subst hvals
    obtain ⟨k, n, nm, l⟩ := x
    obtain ⟨k', n', nm', l'⟩ := y
    exact Q.tree_Same.calls k n nm A c l k' n' nm' B d l' _ w (ok_C _ _ (Nat.lt_succ_self _) A c g1 g2 hR) hc (ok_C _ _ (Nat.lt_succ_self _) B d k1 k2 hS) hd (by unfold Q.tree_Same.f; exact if_pos hx)
def formP (k : Int) : ByteArray × Int × Int × Bool := match Q.formT k with
  | some (w, m, a) => (⟨w.toArray⟩, m, a, true)
  | none => (⟨#[]⟩, 0, 0, false)
theorem Form_ok (k : Int) : Ok E 69 [] [pI k] (.tup [pS (formP k).1, pI (formP k).2.1, pI (formP k).2.2.1, pB (formP k).2.2.2]) [] := by
  refine Ok.ofBelow hE ⟨_, Tryd.func69, by decide +kernel, by kernel_rfl⟩ fun w ok vals hI hv => ?_
  refine ⟨.tuple #[.string (formP k).1, .int .i64 (formP k).2.1, .int .i64 (formP k).2.2.1, .bool (formP k).2.2.2], fun w' => .tup _ _ rfl fun i v d hv hd => ?_, ?_⟩
  · match i with
    | 0 => simp at hv hd; subst hv; subst hd; exact .mkStr _
    | 1 => simp at hv hd; subst hv; subst hd; exact .mkInt _ _
    | 2 => simp at hv hd; subst hv; subst hd; exact .mkInt _ _
    | 3 => simp at hv hd; subst hv; subst hd; exact .mkBool _
    | n + 4 => simp at hv
  · match hvl : vals.toList, hv with
    | [v], hv =>
      have hvals : vals = #[.int .i64 k] := by apply Array.ext'; rw [hvl, hv.head.int_inv]
      subst hvals
      refine Q.tree_Form.calls k _ _ _ _ w ?_
      unfold Q.tree_Form.f formP
      cases Q.formT k with
      | none => rfl
      | some p => rfl
theorem IndexByte_ok (s : ByteArray) (b : Int) : Ok E 95 [] [pS s, .c (.int .u8 b)] (pI (Lib.indexByte s.data.toList b.toNat.toUInt8)) [] := by
  refine Ok.ofBelow hE ⟨_, Tryd.func95, by decide +kernel, by kernel_rfl⟩ fun w ok vals hI hv => ?_
  refine ⟨.int .i64 (Lib.indexByte s.data.toList b.toNat.toUInt8), fun _ => .mkInt _ _, ?_⟩
  match hvl : vals.toList, hv with
  | [v, u], hv =>
    have hvals : vals = #[.string s, .int .u8 b] := by apply Array.ext'; rw [hvl, hv.head.str_inv, hv.tail.head.int_inv]
    subst hvals
    refine (Q.strings_IndexByte.calls s b _ w rfl).mono ?_
    rintro e w' ⟨rfl, hd⟩
    exact ⟨rfl, hd.below⟩
end Go.Proofs.YtjnbhdbpajnlgaaDoor.Pm

/- Names, and what may be, in the pure machine. -/
namespace Go.Proofs.YtjnbhdbpajnlgaaDoor.Pm
open Go Go.RowKit
set_option linter.unusedVariables false
set_option maxHeartbeats 400000
theorem ba_get (s : ByteArray) (j : Nat) : s[j]? = s.data.toList[j]? := by
  by_cases h : j < s.size
  · have h' : j < s.data.toList.length := by simpa using h
    rw [getElem?_pos s j h, List.getElem?_eq_getElem h']
    rfl
  · rw [getElem?_neg s j h, List.getElem?_eq_none (by simpa using h)]
theorem idxSV {E : Env} {t sz bb : Nat} {zz : List CV} {s : ByteArray} {n : Int} {k : IntKind} (j : Nat) (b : UInt8) (h1 : E.T t = some ⟨.str, sz, zz, bb⟩) (hn : n = (j : Int)) (hb : s.data.toList[j]? = some b) : IdxR E t (pS s) (.c (.int k n)) (.c (.int .u8 b.toNat)) where
  h := by
    subst hn
    unfold indexF
    rw [h1]
    show byteAtF _ _ = _
    unfold byteAtF
    rw [decide_eq_true (Int.natCast_nonneg j)]
    show (match s[(j : Int).toNat]? with
      | some b => some (PV.c (.int .u8 b.toNat))
      | none => none) = _
    rw [Int.toNat_natCast, ba_get, hb]
def inB (set : ByteArray) (c : UInt8) : Bool := decide (Lib.indexByte set.data.toList c ≥ 0)
theorem in_ok (set : ByteArray) (c : UInt8) : Ok E 79 [] [.c (.int .u8 c.toNat), pS set] (pB (inB set c)) [] := by
  have h := IndexByte_ok set c.toNat
  have e : ((c.toNat : Int).toNat.toUInt8) = c := by simp
  rw [e] at h
  refine Ok.enter hE Tryd.func79 rfl (by decide +kernel) (by kernel_rfl) rfl rfl (Nat.le_of_ble_eq_true rfl) rfl ?_
  refine ⟨_, CallR.mk1 h rfl rfl, ?_⟩
  refine ⟨_, geV (c := inB set c) rfl, ?_⟩
  exact Ret.mk _ rfl rfl rfl
def runB (set : ByteArray) : List UInt8 → Nat
  | [] => 0
  | c :: l => if inB set c then runB set l + 1 else 0
theorem run_ok (s set : ByteArray) (hs : s.size ≤ 4611686018427387904) : Ok E 80 [] [pS s, pS set] (pI (runB set s.data.toList)) [] := by
  have hsz : s.data.toList.length = s.size := by simp
  refine Ok.enter hE Tryd.func80 rfl (by decide +kernel) (by kernel_rfl) rfl rfl (Nat.le_of_ble_eq_true rfl) rfl ?_
  refine Loop.run (α := Nat) (fun j => j ≤ s.size ∧ runB set s.data.toList = j + runB set (s.data.toList.drop j)) (fun j => [(0, pS s), (1, pS set), (7, pI s.size), (8, pI j)]) (fun _ => []) (fun _ => []) (fun j => s.size - j) 0 ⟨Nat.zero_le _, by simp⟩ ⟨⟨rfl, rfl, rfl, rfl, trivial⟩, rfl, rfl⟩ ?_
  rintro j f ⟨hj, hr⟩
  by_cases hjl : j < s.size
  · refine ⟨_, ltT (by omega), ?_⟩
    obtain ⟨b, hb⟩ : ∃ b, s.data.toList[j]? = some b := ⟨_, List.getElem?_eq_getElem (by omega)⟩
    have hd : s.data.toList.drop j = b :: s.data.toList.drop (j + 1) := by
      rw [List.drop_eq_getElem_cons (by omega)]
      congr 1
      rw [List.getElem?_eq_getElem (by omega)] at hb
      exact Option.some.inj hb
    rw [hd, runB] at hr
    refine ⟨_, idxSV j b rfl rfl hb, ?_⟩
    have hI := in_ok set b
    rcases Bool.eq_false_or_eq_true (inB set b) with hin | hin
    · rw [hin] at hI
      rw [if_pos hin] at hr
      refine ⟨_, CallR.mk1 hI rfl rfl, ?_⟩
      refine ⟨_, addV rfl (by omega) (by omega), ?_⟩
      exact ⟨j + 1, ⟨hjl, by omega⟩, by omega, ⟨rfl, rfl, rfl, rfl, trivial⟩, rfl, rfl⟩
    · rw [hin] at hI
      rw [if_neg (by rw [hin]; simp)] at hr
      refine ⟨_, CallR.mk1 hI rfl rfl, ?_⟩
      have hv : j = runB set s.data.toList := by omega
      exact Ret.mk _ rfl (congrArg (fun n : Nat => pI n) hv) rfl
  · refine ⟨_, ltN (by omega), ?_⟩
    have hv : s.size = runB set s.data.toList := by
      rw [hr, List.drop_of_length_le (by omega), runB]; omega
    exact Ret.mk _ rfl (congrArg (fun n : Nat => pI n) hv) rfl
def abcB : ByteArray := ⟨#[97, 98, 99, 100, 101, 102, 103, 104, 105, 106, 107, 108, 109, 110, 111, 112, 113, 114, 115, 116, 117, 118, 119, 120, 121, 122]⟩
def abc9B : ByteArray := ⟨#[97, 98, 99, 100, 101, 102, 103, 104, 105, 106, 107, 108, 109, 110, 111, 112, 113, 114, 115, 116, 117, 118, 119, 120, 121, 122, 48, 49, 50, 51, 52, 53, 54, 55, 56, 57]⟩
def isName (s : ByteArray) : Bool := match s.data.toList with
  | [] => false
  | c :: l => decide (s.size ≤ 12) && (inB abcB c && (decide (runB abc9B (c :: l) = s.size) && !(Lib.containsS Q.wordsB s)))
theorem toList_data (s : ByteArray) : s.toList = s.data.toList := Lib.toList_data s
theorem Name_ok (s : ByteArray) : Ok E 58 [] [pS s] (pB (isName s)) [] := by
  have hsz : s.data.toList.length = s.size := by simp
  have hw := Word_ok s
  obtain ⟨v, hv⟩ : ∃ v, isName s = v := ⟨_, rfl⟩
  rw [hv]
  unfold isName at hv
  cases hl : s.data.toList with
  | nil =>
    rw [hl] at hv
    subst hv
    refine Ok.enter hE Tryd.func58 rfl (by decide +kernel) (by kernel_rfl) rfl rfl (Nat.le_of_ble_eq_true rfl) rfl ?_
    refine ⟨_, strNeV (c := false) (by rw [toList_data, toList_data, hl]; rfl), ?_⟩
    exact Ret.mk _ rfl rfl rfl
  | cons c l =>
    rw [hl] at hv
    dsimp only at hv
    refine Ok.enter hE Tryd.func58 rfl (by decide +kernel) (by kernel_rfl) rfl rfl (Nat.le_of_ble_eq_true rfl) rfl ?_
    refine ⟨_, strNeV (c := true) (by rw [toList_data, toList_data, hl]; rfl), ?_⟩
    by_cases h12 : s.size ≤ 12
    · rw [decide_eq_true h12, Bool.true_and] at hv
      refine ⟨_, leT (by omega), ?_⟩
      refine ⟨_, idxSV 0 c rfl rfl (by rw [hl]; rfl), ?_⟩
      have hI := in_ok abcB c
      rcases Bool.eq_false_or_eq_true (inB abcB c) with hin | hin
      · rw [hin] at hv hI
        rw [Bool.true_and] at hv
        refine ⟨_, CallR.mk1 hI rfl rfl, ?_⟩
        have hrun := run_ok s abc9B (by omega)
        rw [hl] at hrun
        refine ⟨_, CallR.mk1 hrun rfl rfl, ?_⟩
        by_cases hrn : runB abc9B (c :: l) = s.size
        · rw [decide_eq_true hrn, Bool.true_and] at hv
          refine ⟨_, eqT (by omega), ?_⟩
          refine ⟨_, CallR.mk1 hw rfl rfl, ?_⟩
          exact Ret.mk _ rfl (congrArg (fun b : Bool => pB b) hv) rfl
        · rw [decide_eq_false hrn] at hv; subst hv
          refine ⟨_, eqN (by omega), ?_⟩
          exact Ret.mk _ rfl rfl rfl
      · rw [hin] at hv hI
        subst hv
        refine ⟨_, CallR.mk1 hI rfl rfl, ?_⟩
        exact Ret.mk _ rfl rfl rfl
    · rw [decide_eq_false h12] at hv; subst hv
      refine ⟨_, leN (by omega), ?_⟩
      exact Ret.mk _ rfl rfl rfl
end Go.Proofs.YtjnbhdbpajnlgaaDoor.Pm

/- What may be, and is printed, in the pure machine. -/
namespace Go.Proofs.YtjnbhdbpajnlgaaDoor.Pm
open Go Go.RowKit
set_option linter.unusedVariables false
set_option maxHeartbeats 1000000
def isCond (k : Int) : Bool := decide (k = 11) || decide (k = 12)
theorem cond_ok (k : Int) : Ok E 70 [] [pI k] (pB (isCond k)) [] := by
  obtain ⟨v, hv⟩ : ∃ v, isCond k = v := ⟨_, rfl⟩
  rw [hv]
  unfold isCond at hv
  refine Ok.enter hE Tryd.func70 rfl (by decide +kernel) (by kernel_rfl) rfl rfl (Nat.le_of_ble_eq_true rfl) rfl ?_
  by_cases h : k = 11
  · rw [decide_eq_true h, Bool.true_or] at hv; subst hv
    refine ⟨_, eqT h, ?_⟩
    exact Ret.mk _ rfl rfl rfl
  · rw [decide_eq_false h, Bool.false_or] at hv
    refine ⟨_, eqN h, ?_⟩
    refine ⟨_, eqV (c := v) (by rw [← hv]; rfl), ?_⟩
    exact Ret.mk _ rfl rfl rfl
def isNamed (k : Int) (nm : ByteArray) : Bool := if k = 3 then isName nm else nm.toList == (⟨#[]⟩ : ByteArray).toList
theorem named_ok (x : Ex) : Ok E 71 [] [pE x] (pB (isNamed x.f0 x.f2)) [] := by
  obtain ⟨k, n, nm, l⟩ := x
  show Ok E _ [] [pE ⟨k, n, nm, l⟩] (pB (isNamed k nm)) []
  obtain ⟨v, hv⟩ : ∃ v, isNamed k nm = v := ⟨_, rfl⟩
  rw [hv]
  unfold isNamed at hv
  have hN := Name_ok nm
  refine Ok.enter hE Tryd.func71 rfl (by decide +kernel) (by kernel_rfl) rfl rfl (Nat.le_of_ble_eq_true rfl) rfl ?_
  by_cases h : k = 3
  · rw [if_pos h] at hv
    rw [hv] at hN
    refine ⟨_, eqT h, ?_⟩
    refine ⟨_, CallR.mk1 hN rfl rfl, ?_⟩
    exact Ret.mk _ rfl rfl rfl
  · rw [if_neg h] at hv
    refine ⟨_, eqN h, ?_⟩
    refine ⟨_, strEqV hv, ?_⟩
    exact Ret.mk _ rfl rfl rfl
mutual
def isFine : Int → Bool → Ex → Bool
  | d, c, ⟨k, n, nm, l⟩ => (formP k).2.2.2 && (decide (¬ d < 1) && ((isCond k == c) && (decide (¬ n < 0) && (decide (¬ n > (formP k).2.1) && (decide ((l.length : Int) = (formP k).2.2.1) && (isNamed k nm && fineL (d - 1) (decide (k = 10)) l))))))
def fineL : Int → Bool → List Ex → Bool
  | _, _, [] => true
  | d, c, x :: l => isFine d c x && fineL d false l
end
theorem neBT {E : Env} {c d : Bool} {t sz bb : Nat} {zz : List CV} (h : (!(c == d)) = true) (hT : E.T t = some ⟨.bool, sz, zz, bb⟩ := by rfl) : BinR E t .neq (pB c) (pB d) (pB true) := .of (by
  rw [hT]; cases c <;> cases d <;> simp at h <;> rfl)
theorem neBN {E : Env} {c d : Bool} {t sz bb : Nat} {zz : List CV} (h : (c == d) = true) (hT : E.T t = some ⟨.bool, sz, zz, bb⟩ := by rfl) : BinR E t .neq (pB c) (pB d) (pB false) := .of (by
  rw [hT]; cases c <;> cases d <;> simp at h <;> rfl)
theorem fine_ok : ∀ (x : Ex), Q.rngE x = true → ∀ (d : Int), I64 d → ∀ c : Bool, Ok E 45 [] [pE x, pI d, pB c] (pB (isFine d c x)) []
  | ⟨k, n, nm, l⟩, hr, d, hd, c => by
    obtain ⟨v, hv⟩ : ∃ v, isFine d c ⟨k, n, nm, l⟩ = v := ⟨_, rfl⟩
    rw [hv]
    rw [isFine] at hv
    have hel := enc_len l
    have hlr : l.length < 4611686018427387904 ∧ Q.rngA l = true := by
      rw [Q.rngE, Bool.and_eq_true] at hr
      exact ⟨(of_decide_eq_true hr.1).2, hr.2⟩
    have hF := Form_ok k
    have hC := cond_ok k
    have hN : Ok E _ [] [pE ⟨k, n, nm, l⟩] (pB (isNamed k nm)) [] := named_ok ⟨k, n, nm, l⟩
    obtain ⟨⟨w, m, a, o⟩, hf⟩ : ∃ p, formP k = p := ⟨_, rfl⟩
    rw [hf] at hF hv
    dsimp only at hF hv
    obtain ⟨hd0, hd1⟩ := hd
    cases o with
    | false =>
      have : v = false := by rw [← hv]; rfl
      subst this
      refine Ok.enter hE Tryd.func45 rfl (by decide +kernel) (by kernel_rfl) rfl rfl (Nat.le_of_ble_eq_true rfl) rfl ?_
      refine ⟨_, CallR.mk1 hF rfl rfl, ?_⟩
      exact Ret.mk _ rfl rfl rfl
    | true =>
      rw [Bool.true_and] at hv
      refine Ok.enter hE Tryd.func45 rfl (by decide +kernel) (by kernel_rfl) rfl rfl (Nat.le_of_ble_eq_true rfl) rfl ?_
      refine ⟨_, CallR.mk1 hF rfl rfl, ?_⟩
      by_cases h1 : d < 1
      · rw [decide_eq_false (by omega)] at hv
        have : v = false := hv.symm
        subst this
        refine ⟨_, ltT h1, ?_⟩
        exact Ret.mk _ rfl rfl rfl
      rw [decide_eq_true h1, Bool.true_and] at hv
      refine ⟨_, ltN h1, ?_⟩
      refine ⟨_, CallR.mk1 hC rfl rfl, ?_⟩
      rcases Bool.eq_false_or_eq_true (isCond k == c) with h2 | h2
      rotate_left
      · rw [h2] at hv
        have : v = false := hv.symm
        subst this
        refine ⟨_, neBT (by rw [h2]; rfl), ?_⟩
        exact Ret.mk _ rfl rfl rfl
      rw [h2, Bool.true_and] at hv
      refine ⟨_, neBN h2, ?_⟩
      by_cases h3 : n < 0
      · rw [decide_eq_false (by omega)] at hv
        have : v = false := hv.symm
        subst this
        refine ⟨_, ltT h3, ?_⟩
        exact Ret.mk _ rfl rfl rfl
      rw [decide_eq_true h3, Bool.true_and] at hv
      refine ⟨_, ltN h3, ?_⟩
      by_cases h4 : n > m
      · rw [decide_eq_false (by omega)] at hv
        have : v = false := hv.symm
        subst this
        refine ⟨_, gtT h4, ?_⟩
        exact Ret.mk _ rfl rfl rfl
      rw [decide_eq_true h4, Bool.true_and] at hv
      refine ⟨_, gtN h4, ?_⟩
      by_cases h5 : (l.length : Int) = a
      rotate_left
      · rw [decide_eq_false h5] at hv
        have : v = false := hv.symm
        subst this
        refine ⟨_, neT (by rw [hel]; exact h5), ?_⟩
        exact Ret.mk _ rfl rfl rfl
      rw [decide_eq_true h5, Bool.true_and] at hv
      refine ⟨_, neN (by rw [hel]; exact h5), ?_⟩
      rcases Bool.eq_false_or_eq_true (isNamed k nm) with h6 | h6
      rotate_left
      · rw [h6] at hv hN
        have : v = false := hv.symm
        subst this
        refine ⟨_, CallR.mk1 hN rfl rfl, ?_⟩
        exact Ret.mk _ rfl rfl rfl
      rw [h6] at hv hN
      rw [Bool.true_and] at hv
      refine ⟨_, CallR.mk1 hN rfl rfl, ?_⟩
      refine Loop.cut (α := Nat) (fun j => j ≤ l.length ∧ fineL (d - 1) (decide (k = 10) && Nat.beq j 0) (l.drop j) = v) (fun j => [(1, pI d), (3, .ptr 0 0), (58, .c (.row (encL l))), (59, pI (encL l).length), (60, pI j)]) (fun j => [(cellsE ⟨k, n, nm, l⟩).map .c]) (fun _ => []) (fun j => l.length - j) 0 1 (fun _ => rfl) (fun _ => rfl) (fun _ => rfl)
        ⟨Nat.zero_le _, by rw [← hv, List.drop_zero, show Nat.beq 0 0 = true from rfl, Bool.and_true]⟩ ⟨⟨rfl, rfl, rfl, rfl, rfl, trivial⟩, rfl, rfl⟩ ?_
      rintro j f ⟨hj, hjv⟩
      by_cases hjl : j < l.length
      · obtain ⟨y, hy⟩ : ∃ y, l[j]? = some y := ⟨_, List.getElem?_eq_getElem hjl⟩
        have hry := Q.rngA_mem l hlr.2 y (List.mem_of_getElem? hy)
        have hdr : l.drop j = y :: l.drop (j + 1) := by
          rw [List.drop_eq_getElem_cons hjl]
          congr 1
          rw [List.getElem?_eq_getElem hjl] at hy
          exact Option.some.inj hy
        rw [hdr, fineL] at hjv
        refine ⟨_, ltT (by omega), ?_⟩
        refine ⟨_, idxV (j := j) (enc_get hy) rfl rfl rfl rfl, ?_⟩
        refine ⟨_, subV rfl (by omega) (by omega), ?_⟩
        by_cases h10 : k = 10
        · refine ⟨_, eqT h10, ?_⟩
          by_cases hj0 : j = 0
          · refine ⟨_, eqT (by omega), ?_⟩
            rw [decide_eq_true h10, hj0, show Nat.beq 0 0 = true from rfl, Bool.and_true] at hjv
            rw [← hj0] at hjv
            have hI := fine_ok y hry (d - 1) ⟨by omega, by omega⟩ true
            rcases Bool.eq_false_or_eq_true (isFine (d - 1) true y) with hin | hin
            · rw [hin] at hI hjv
              rw [Bool.true_and] at hjv
              refine ⟨_, CallR.mk1 hI rfl rfl, ?_⟩
              refine ⟨_, addV rfl (by omega) (by omega), ?_⟩
              exact ⟨j + 1, ⟨hjl, by rw [show (decide (k = 10) && Nat.beq (j + 1) 0) = false from Bool.and_false _]; exact hjv⟩, by omega, ⟨rfl, rfl, rfl, rfl, rfl, trivial⟩, ⟨_, rfl⟩, rfl⟩
            · rw [hin] at hI hjv
              refine ⟨_, CallR.mk1 hI rfl rfl, ?_⟩
              exact Ret.mk _ rfl (congrArg (fun b : Bool => pB b) (show false = v from hjv)) rfl
          · refine ⟨_, eqN (by omega), ?_⟩
            rw [show (decide (k = 10) && Nat.beq j 0) = false by
              cases j with
              | zero => exact absurd rfl hj0
              | succ j => exact Bool.and_false _] at hjv
            have hI := fine_ok y hry (d - 1) ⟨by omega, by omega⟩ false
            rcases Bool.eq_false_or_eq_true (isFine (d - 1) false y) with hin | hin
            · rw [hin] at hI hjv
              rw [Bool.true_and] at hjv
              refine ⟨_, CallR.mk1 hI rfl rfl, ?_⟩
              refine ⟨_, addV rfl (by omega) (by omega), ?_⟩
              exact ⟨j + 1, ⟨hjl, by rw [show (decide (k = 10) && Nat.beq (j + 1) 0) = false from Bool.and_false _]; exact hjv⟩, by omega, ⟨rfl, rfl, rfl, rfl, rfl, trivial⟩, ⟨_, rfl⟩, rfl⟩
            · rw [hin] at hI hjv
              refine ⟨_, CallR.mk1 hI rfl rfl, ?_⟩
              exact Ret.mk _ rfl (congrArg (fun b : Bool => pB b) (show false = v from hjv)) rfl
        · refine ⟨_, eqN h10, ?_⟩
          rw [decide_eq_false h10, Bool.false_and] at hjv
          have hI := fine_ok y hry (d - 1) ⟨by omega, by omega⟩ false
          rcases Bool.eq_false_or_eq_true (isFine (d - 1) false y) with hin | hin
          · rw [hin] at hI hjv
            rw [Bool.true_and] at hjv
            refine ⟨_, CallR.mk1 hI rfl rfl, ?_⟩
            refine ⟨_, addV rfl (by omega) (by omega), ?_⟩
            exact ⟨j + 1, ⟨hjl, by rw [show (decide (k = 10) && Nat.beq (j + 1) 0) = false from Bool.and_false _]; exact hjv⟩, by omega, ⟨rfl, rfl, rfl, rfl, rfl, trivial⟩, ⟨_, rfl⟩, rfl⟩
          · rw [hin] at hI hjv
            refine ⟨_, CallR.mk1 hI rfl rfl, ?_⟩
            exact Ret.mk _ rfl (congrArg (fun b : Bool => pB b) (show false = v from hjv)) rfl
      · refine ⟨_, ltN (by omega), ?_⟩
        rw [List.drop_of_length_le (by omega), fineL] at hjv
        exact Ret.mk _ rfl (congrArg (fun b : Bool => pB b) hjv) rfl
termination_by x => SizeOf.sizeOf x
decreasing_by
  all_goals
    have := List.sizeOf_lt_of_mem (List.mem_of_getElem? hy)
    simp only [Go.Proofs.YtjnbhdbpajnlgaaDoor.Q.S26.mk.sizeOf_spec]
    omega
end Go.Proofs.YtjnbhdbpajnlgaaDoor.Pm

/- Right, Print, in the pure machine. -/
namespace Go.Proofs.YtjnbhdbpajnlgaaDoor.Pm
open Go Go.RowKit
set_option linter.unusedVariables false
set_option maxHeartbeats 1000000
/-- what a tree has to fulfil to be looked at (its text is no longer than Go's memory, its count no greater than Go's numbers) -/
structure Fit (x : Ex) : Prop where
  rng : Q.rngE x = true
  size : size x ≤ 9223372036854775807
  ne : Q.txtE x ≠ []
  len : (Q.txtE x).length ≤ 70368744177664
def isRight (x : Ex) : Bool := isFine 32 false x && (decide (size x ≤ 2000) && decide ((Q.txtE x).length ≤ 2000))
theorem Right_ok (x : Ex) (hr : Q.rngE x = true) (hs : size x ≤ 9223372036854775807) (ht : isFine 32 false x = true → size x ≤ 2000 → Fit x) : Ok E 19 [] [pE x] (pB (isRight x)) [] := by
  obtain ⟨v, hv⟩ : ∃ v, isRight x = v := ⟨_, rfl⟩
  rw [hv]
  unfold isRight at hv
  have hF := fine_ok x hr 32 ⟨by omega, by omega⟩ false
  have hS := Size_ok x hs
  obtain ⟨k, n, nm, l⟩ := x
  rcases Bool.eq_false_or_eq_true (isFine 32 false ⟨k, n, nm, l⟩) with h1 | h1
  · rw [h1] at hv hF
    rw [Bool.true_and] at hv
    by_cases h2 : size ⟨k, n, nm, l⟩ ≤ 2000
    · rw [decide_eq_true h2, Bool.true_and] at hv
      have fit := ht h1 h2
      have hT := text_ok ⟨k, n, nm, l⟩ hr fit.ne fit.len
      have hl : (Pl.B (Q.txtE ⟨k, n, nm, l⟩)).size = (Q.txtE ⟨k, n, nm, l⟩).length := rfl
      refine Ok.enter hE Tryd.func19 rfl (by decide +kernel) (by kernel_rfl) rfl rfl (Nat.le_of_ble_eq_true rfl) rfl ?_
      refine ⟨_, CallR.mk1 hF rfl rfl, ?_⟩
      refine ⟨_, CallR.mk1 hS rfl rfl, ?_⟩
      refine ⟨_, leT (by omega), ?_⟩
      refine ⟨_, CallR.mk1 hT rfl rfl, ?_⟩
      refine ⟨_, leV (c := v) (by rw [← hv, hl]; exact decide_eq_decide.2 (by omega)), ?_⟩
      exact Ret.mk _ rfl rfl rfl
    · rw [decide_eq_false h2] at hv
      have : v = false := hv.symm
      subst this
      refine Ok.enter hE Tryd.func19 rfl (by decide +kernel) (by kernel_rfl) rfl rfl (Nat.le_of_ble_eq_true rfl) rfl ?_
      refine ⟨_, CallR.mk1 hF rfl rfl, ?_⟩
      refine ⟨_, CallR.mk1 hS rfl rfl, ?_⟩
      refine ⟨_, leN (by omega), ?_⟩
      exact Ret.mk _ rfl rfl rfl
  · rw [h1] at hv hF
    have : v = false := hv.symm
    subst this
    refine Ok.enter hE Tryd.func19 rfl (by decide +kernel) (by kernel_rfl) rfl rfl (Nat.le_of_ble_eq_true rfl) rfl ?_
    refine ⟨_, CallR.mk1 hF rfl rfl, ?_⟩
    exact Ret.mk _ rfl rfl rfl
theorem Print_ok (x : Ex) (hR : Ok E 19 [] [pE x] (pB (isRight x)) []) (hT : isRight x = true → Ok E 43 [] [pE x] (pS (Pl.B (Q.txtE x))) []) : Ok E 17 [] [pE x] (.tup (if isRight x then [pS (Pl.B (Q.txtE x)), pI 0] else [pS ⟨#[]⟩, pI 1])) [] := by
  obtain ⟨k, n, nm, l⟩ := x
  rcases Bool.eq_false_or_eq_true (isRight ⟨k, n, nm, l⟩) with h1 | h1
  · have hT := hT h1
    rw [h1] at hR ⊢
    rw [if_pos rfl]
    refine Ok.enter hE Tryd.func17 rfl (by decide +kernel) (by kernel_rfl) rfl rfl (Nat.le_of_ble_eq_true rfl) rfl ?_
    refine ⟨_, CallR.mk1 hR rfl rfl, ?_⟩
    refine ⟨_, CallR.mk1 hT rfl rfl, ?_⟩
    exact Ret.mk _ rfl rfl rfl
  · rw [h1] at hR ⊢
    rw [if_neg (by simp)]
    refine Ok.enter hE Tryd.func17 rfl (by decide +kernel) (by kernel_rfl) rfl rfl (Nat.le_of_ble_eq_true rfl) rfl ?_
    refine ⟨_, CallR.mk1 hR rfl rfl, ?_⟩
    exact Ret.mk _ rfl rfl rfl
end Go.Proofs.YtjnbhdbpajnlgaaDoor.Pm

/- Cells that may be told otherwise, rows too. -/
namespace Go.Proofs.YtjnbhdbpajnlgaaDoor.Pm
open Go Go.RowKit
set_option linter.unusedVariables false
mutual
inductive WC : CV → CV → Prop
  | refl (c : CV) : WC c c
  | nilRow : WC .nil (.row [])
  | row {xs ys : List (List CV)} (h : WRows xs ys) : WC (.row xs) (.row ys)
inductive WRows : List (List CV) → List (List CV) → Prop
  | nil : WRows [] []
  | cons {x y : List CV} {xs ys : List (List CV)} (h : WRow x y) (t : WRows xs ys) : WRows (x :: xs) (y :: ys)
inductive WRow : List CV → List CV → Prop
  | nil : WRow [] []
  | cons {c d : CV} {cs ds : List CV} (h : WC c d) (t : WRow cs ds) : WRow (c :: cs) (d :: ds)
end
theorem WRow.length : ∀ {x y : List CV}, WRow x y → x.length = y.length
  | _, _, .nil => rfl
  | _, _, .cons _ t => by simp [t.length]
theorem WRows.length : ∀ {x y : List (List CV)}, WRows x y → x.length = y.length
  | _, _, .nil => rfl
  | _, _, .cons _ t => by simp [t.length]
theorem WRows.sz : ∀ {x y : List (List CV)} {n : Nat}, WRows x y → (∀ r ∈ x, r.length = n) → ∀ r ∈ y, r.length = n
  | _, _, _, .nil, _ => by simp
  | _, _, _, .cons h t, hx => by
    intro r hr
    rcases List.mem_cons.1 hr with rfl | hr
    · rw [← h.length]; exact hx _ (by simp)
    · exact t.sz (fun r hr => hx r (by simp [hr])) r hr
section
variable {w : World} {ok : Nat → Nat → Prop}
mutual
theorem WC.rep : ∀ {c d : CV}, WC c d → ∀ v, RepC w ok v c → RepC w ok v d
  | _, _, .refl _, v, h => h
  | _, _, .nilRow, v, h => h.nil_row
  | _, _, .row hr, v, h => by
    cases h with
    | row A len cap xs sz vs hl hcap hnil hpos hsz hA hg =>
      exact .row A len cap _ sz vs (by rw [hl, hr.length]) hcap hnil hpos (hr.sz hsz) hA (fun i y j d hy hd => hr.rep i y hy j d hd (vs (i * sz + j)) fun x c hx hc => hg i x j c hx hc)
theorem WRows.rep : ∀ {xs ys : List (List CV)}, WRows xs ys → ∀ (i : Nat) (y : List CV), ys[i]? = some y → ∀ (j : Nat) (d : CV), y[j]? = some d → ∀ v, (∀ x c, xs[i]? = some x → x[j]? = some c → RepC w ok v c) → RepC w ok v d
  | _, _, .nil, i, y, hy, _, _, _, _, _ => by simp at hy
  | _, _, .cons h t, i, y, hy, j, d, hd, v, hv => by
    cases i with
    | zero =>
      simp at hy; subst hy
      exact h.rep j d hd v fun c hc => hv _ c rfl hc
    | succ i => exact t.rep i y (by simpa using hy) j d hd v fun x c hx hc => hv x c (by simpa using hx) hc
theorem WRow.rep : ∀ {x y : List CV}, WRow x y → ∀ (j : Nat) (d : CV), y[j]? = some d → ∀ v, (∀ c, x[j]? = some c → RepC w ok v c) → RepC w ok v d
  | _, _, .nil, j, d, hd, _, _ => by simp at hd
  | _, _, .cons h t, j, d, hd, v, hv => by
    cases j with
    | zero =>
      simp at hd; subst hd
      exact h.rep v (hv _ rfl)
    | succ j => exact t.rep j d (by simpa using hd) v fun c hc => hv c (by simpa using hc)
end
end
theorem Wk.aggW {cs ds : List CV} (h : WRow cs ds) : Wk (.agg cs) (.agg ds) := by
  intro w ok m tk v hv
  cases hv with
  | agg vs _ hg => exact .agg vs ds ⟨by rw [hg.1, h.length], fun i v d hv hd => h.rep i d hd v fun c hc => hg.2 i v c hv hc⟩
end Go.Proofs.YtjnbhdbpajnlgaaDoor.Pm

/- The fixed answers of awake: trees that are named, and how they are told. -/
namespace Go.Proofs.YtjnbhdbpajnlgaaDoor.Pm
open Go Go.RowKit
set_option linter.unusedVariables false
def lowE : Ex := ⟨1, 0, e0, []⟩
def xE : Ex := ⟨9, 0, e0, [⟨5, 1, e0, [lowE]⟩, ⟨4, 999, e0, []⟩]⟩
def mE : Ex := ⟨11, 0, e0, []⟩
def zE : Ex := ⟨0, 0, e0, []⟩
theorem wRow4 {k n : Int} {s : ByteArray} {c d : CV} (h : WC c d) : WRow [.int .i64 k, .int .i64 n, .str s, c] [.int .i64 k, .int .i64 n, .str s, d] :=
  .cons (.refl _) (.cons (.refl _) (.cons (.refl _) (.cons h .nil)))
theorem wk_leaf (k n : Int) (s : ByteArray) : WRow [.int .i64 k, .int .i64 n, .str s, .nil] (cellsE ⟨k, n, s, []⟩) := by
  show WRow _ [_, _, _, .row (encL [])]
  rw [encL_map]
  exact wRow4 .nilRow
theorem wk_node (k n : Int) (s : ByteArray) (l : List Ex) {xs : List (List CV)} (h : WRows xs (l.map cellsE)) : WRow [.int .i64 k, .int .i64 n, .str s, .row xs] (cellsE ⟨k, n, s, l⟩) := by
  show WRow _ [_, _, _, .row (encL l)]
  rw [encL_map]
  exact wRow4 (.row h)
theorem wk_xE : WRow [.int .i64 9, .int .i64 0, .str e0, .row [[.int .i64 5, .int .i64 1, .str e0, .row [[.int .i64 1, .int .i64 0, .str e0, .nil]]], [.int .i64 4, .int .i64 999, .str e0, .nil]]] (cellsE xE) :=
  wk_node _ _ _ _ (.cons (wk_node _ _ _ _ (.cons (wk_leaf _ _ _) .nil)) (.cons (wk_leaf _ _ _) .nil))
theorem x_facts : Q.rngE xE = true ∧ size xE = 4 ∧ deep xE = 3 ∧ (Q.txtE xE).length = 30 ∧ isFine 32 false xE = true := by decide +kernel
theorem m_facts : Q.rngE mE = true ∧ size mE = 1 ∧ isFine 32 false mE = false := by decide +kernel
theorem z_facts : Q.rngE zE = true ∧ size zE = 1 ∧ isFine 32 false zE = false := by decide +kernel
theorem s_facts : Q.sameE xE xE = true ∧ Q.sameE xE lowE = false ∧ Q.rngE lowE = true := by decide +kernel
end Go.Proofs.YtjnbhdbpajnlgaaDoor.Pm

/- awake, in the pure machine. -/
namespace Go.Proofs.YtjnbhdbpajnlgaaDoor.Pm
open Go Go.RowKit
set_option linter.unusedVariables false
set_option maxHeartbeats 1000000
theorem awake_ok : Ok E 14 [] [] (pB true) [] := by
  obtain ⟨x1, x2, x3, x4, x5⟩ := x_facts
  obtain ⟨m1, m2, m3⟩ := m_facts
  obtain ⟨z1, z2, z3⟩ := z_facts
  obtain ⟨s1, s2, s3⟩ := s_facts
  have fx : Fit xE := ⟨x1, by rw [x2]; decide, (fun h => by rw [h] at x4; exact absurd x4 (by decide)), by rw [x4]; decide⟩
  have rx : isRight xE = true := by unfold isRight; rw [x5, x2, x4]; rfl
  have rm : isRight mE = false := by unfold isRight; rw [m3]; rfl
  have rz : isRight zE = false := by unfold isRight; rw [z3]; rfl
  have hRx := Right_ok xE x1 fx.size fun _ _ => fx
  have hRm := Right_ok mE m1 (by rw [m2]; decide) fun h => by rw [m3] at h; cases h
  have hRz := Right_ok zE z1 (by rw [z2]; decide) fun h => by rw [z3] at h; cases h
  have hPx := Print_ok xE hRx fun _ => text_ok xE x1 fx.ne fx.len
  have hPm := Print_ok mE hRm fun h => by rw [rm] at h; cases h
  rw [rx] at hRx hPx
  rw [rm] at hPm
  rw [rz] at hRz
  rw [if_pos rfl] at hPx
  rw [if_neg (by simp)] at hPm
  have hSz := Size_ok xE fx.size
  have hDp := Deep_ok xE fx.size
  rw [x2] at hSz
  rw [x3] at hDp
  have hSx := Same_ok xE xE x1 x1
  have hSl := Same_ok xE lowE x1 s3
  rw [s1] at hSx
  rw [s2] at hSl
  have wx := Wk.aggW wk_xE
  refine Ok.enter hE Tryd.func14 rfl (by decide +kernel) (by kernel_rfl) rfl rfl (Nat.le_of_ble_eq_true rfl) rfl ?_
  refine ⟨_, ⟨_, rfl, rfl⟩, ?_⟩
  refine ⟨_, ⟨_, rfl, rfl⟩, ?_⟩
  refine ⟨_, CallR.mkW hPx (.cons wx .nil) rfl rfl, ?_⟩
  refine ⟨_, CallR.mkW hPm (.cons (Wk.aggW (wk_leaf 11 0 e0)) .nil) rfl rfl, ?_⟩
  refine ⟨_, strEqV (c := true) (by rw [toList_data, toList_data]; decide +kernel), ?_⟩
  refine ⟨_, eqT rfl, ?_⟩
  refine ⟨_, eqT rfl, ?_⟩
  refine ⟨_, CallR.mkW hSz (.cons wx .nil) rfl rfl, ?_⟩
  refine ⟨_, eqT rfl, ?_⟩
  refine ⟨_, CallR.mkW hDp (.cons wx .nil) rfl rfl, ?_⟩
  refine ⟨_, eqT rfl, ?_⟩
  refine ⟨_, CallR.mkW hSx (.cons wx (.cons wx .nil)) rfl rfl, ?_⟩
  refine ⟨_, CallR.mkW hSl (.cons wx (.cons (Wk.aggW (wk_leaf 1 0 e0)) .nil)) rfl rfl, ?_⟩
  refine ⟨_, CallR.mkW hRx (.cons wx .nil) rfl rfl, ?_⟩
  refine ⟨_, CallR.mkW hRz (.cons (Wk.aggW (wk_leaf 0 0 e0)) .nil) rfl rfl, ?_⟩
  exact Ret.mk _ rfl rfl rfl
end Go.Proofs.YtjnbhdbpajnlgaaDoor.Pm

/- Facts on trees in plain words: what a strategy of raw numbers is; what fine trees are. -/
namespace Go.Proofs.YtjnbhdbpajnlgaaDoor.Pm
open Go Go.RowKit Go.Proofs.YtjnbhdbpajnlgaaDoor.Pl
open Go.Proofs.YtjnbhdbpajnlgaaDoor.Q (rngE rngA txtE txtA sameE sameA formT wordL moreL sepA)
set_option linter.unusedVariables false
set_option linter.unusedSimpArgs false
/-! ### strategies of raw numbers -/
structure Small (d : Nat) (x : Ex) : Prop where
  rng : Q.rngE x = true
  size : size x ≤ ((4 ^ d : Nat) : Int)
  deep : deep x ≤ d
theorem small_list {d : Nat} : ∀ l : List Ex, (∀ x ∈ l, Small d x) → Q.rngA l = true ∧ sizeL l ≤ ((l.length * 4 ^ d : Nat) : Int) ∧ deepL l ≤ d
  | [], _ => ⟨rfl, by rw [sizeL]; omega, by rw [deepL]; omega⟩
  | x :: l, h => by
    have hx := h x List.mem_cons_self
    obtain ⟨a, b, c⟩ := small_list l fun y hy => h y (List.mem_cons_of_mem _ hy)
    have hs := hx.size
    have hd := hx.deep
    refine ⟨by rw [Q.rngA, hx.rng, a]; rfl, ?_, by rw [deepL]; omega⟩
    rw [sizeL, List.length_cons, Nat.add_mul]
    omega
theorem small_node {d : Nat} {l : List Ex} (hl : l.length ≤ 3) (h : ∀ x ∈ l, Small d x) (k n : Int) (nm : ByteArray) (hn : I64 n) : Small (d + 1) ⟨k, n, nm, l⟩ := by
  obtain ⟨a, b, c⟩ := small_list l h
  obtain ⟨n0, n1⟩ := hn
  refine ⟨?_, ?_, by rw [deep]; omega⟩
  · rw [Q.rngE, a, Bool.and_true]
    exact decide_eq_true ⟨⟨by omega, by omega⟩, by omega⟩
  · rw [size, Nat.pow_succ]
    have hp : 1 ≤ 4 ^ d := Nat.one_le_pow _ _ (by decide)
    have : l.length * 4 ^ d ≤ 3 * 4 ^ d := Nat.mul_le_mul_right _ hl
    omega
theorem small_more {d : Nat} (n : Int) (hn : I64 n) : Small (d + 1) (moreE n) := small_node (l := []) (by simp) (fun x hx => by cases hx) _ _ _ hn
theorem nx_i64 (L : List Int) (n : Int) (hn : 0 < n) (hm : n ≤ 12000) : I64 (nx L n) := by
  have := nx_rng (L := L) hn
  exact ⟨by omega, by omega⟩
theorem finF_small {d : Nat} (k : Int) {l : List Ex} (L : List Int) (hl : l.length ≤ 3) (h : ∀ x ∈ l, Small d x) : Small (d + 1) (finF k l L).1 := by
  unfold finF
  split
  · exact small_node hl h _ _ _ ⟨by decide, by decide⟩
  · split
    · exact small_node hl h _ _ _ (nx_i64 _ _ (by decide) (by decide))
    · split
      · exact small_node hl h _ _ _ (nx_i64 _ _ (by decide) (by decide))
      · exact small_node hl h _ _ _ ⟨by decide, by decide⟩
theorem argsL_mem {g : Bool → List Int → Ex × List Int} {b : Bool} {L : List Int} {m : Nat} {x : Ex} (h : x ∈ argsL g b L m) : ∃ j, j < m ∧ x = xL g b L j := by
  unfold argsL at h
  obtain ⟨j, hj, rfl⟩ := List.mem_map.1 h
  exact ⟨j, List.mem_range.1 hj, rfl⟩
theorem exF_small : ∀ (d : Nat) (c : Bool) (L : List Int), PL L → Small (d + 1) (exF (d + 1) c L).1
  | 0, true, L, h => by
    rw [exF, if_pos rfl]
    exact small_more _ (nx_i64 _ _ (by decide) (by decide))
  | d + 1, true, L, h => by
    rw [exF, if_neg (by omega)]
    split
    · exact small_more _ (nx_i64 _ _ (by decide) (by decide))
    · refine small_node (d := d + 1) (by simp) ?_ _ _ _ ⟨by decide, by decide⟩
      intro x hx
      simp only [List.mem_cons, List.not_mem_nil, or_false] at hx
      rcases hx with rfl | rfl
      · exact exF_small d _ _ h.tail
      · exact exF_small d _ _ (exF_PL _ _ _ h.tail)
  | d, false, L, h => by
    rw [exF]
    have hkr := kindF_rng d L
    have har := argsOf_rng (k := kindF d L) ⟨hkr.1, hkr.2.1⟩
    refine finF_small _ _ (by rw [argsL_len]; omega) ?_
    intro x hx
    obtain ⟨j, hj, rfl⟩ := argsL_mem hx
    cases d with
    | zero =>
      have := argsOf_low (k := kindF 0 L) ⟨hkr.1, hkr.2.2 rfl⟩
      omega
    | succ d => exact exF_small d _ _ (stL_PL (exF_PL _) _ h.tail j)
theorem strat_small (raw : List Int) (h : ∀ a ∈ raw, I64 a) : Small 5 (stratF raw) := exF_small 4 false _ ⟨fun a ha => h a (List.mem_of_mem_take ha), by simp; omega⟩
/-! ### fine trees -/
theorem idx_mem : ∀ (l : List UInt8) (c : UInt8), 0 ≤ Lib.indexByte l c → c ∈ l
  | [], c, h => by simp [Lib.indexByte] at h
  | x :: l, c, h => by
    by_cases hx : (x == c) = true
    · rw [beq_iff_eq] at hx
      subst hx
      exact List.mem_cons_self
    · rw [Lib.indexByte, if_neg hx] at h
      refine List.mem_cons_of_mem _ (idx_mem l c ?_)
      by_cases hm : (Lib.indexByte l c == -1) = true
      · rw [if_pos hm] at h
        exact absurd h (by decide)
      · have := Lib.indexByte_ge l c
        have h2 : Lib.indexByte l c ≠ -1 := by simpa using hm
        generalize Lib.indexByte l c = q at *
        omega
theorem formT_args (k : Int) (w : List UInt8) (m a : Int) (h : formT k = some (w, m, a)) : 0 ≤ a ∧ a ≤ 3 ∧ 0 ≤ m ∧ m ≤ 1000000000000 := by
  unfold formT at h
  split at h
  all_goals first
    | (simp only [Option.some.injEq, Prod.mk.injEq] at h; obtain ⟨_, rfl, rfl⟩ := h; decide)
    | exact absurd h (by simp)
theorem textL_le (n : Int) : (textL n).length ≤ 24 := by
  by_cases h : okA n
  · rw [textL_ok h]
    have := DecT.digs_len (n.natAbs / 100)
    simp only [List.length_append, List.length_cons, List.length_nil]
    split <;> simp <;> omega
  · rw [textL_no h]; simp
theorem textL_ne (n : Int) (h0 : 0 ≤ n) (h1 : n ≤ 1000000000000) : textL n ≠ [] := by
  rw [textL_ok (by unfold okA; omega)]
  simp
theorem intL_le (n : Int) : (intL n).length ≤ 21 := by
  unfold intL
  split
  · have := DecT.digs_len n.natAbs
    simp
    omega
  · have := DecT.digs_len n.toNat
    omega
theorem wordL_le (k : Int) : (wordL k).length ≤ 6 := by
  unfold wordL formT
  split <;> simp
theorem isName_le (s : ByteArray) (h : isName s = true) : s.data.toList.length ≤ 12 := by
  unfold isName at h
  split at h
  · exact absurd h (by simp)
  · rename_i c l hl
    rw [Bool.and_eq_true] at h
    have := of_decide_eq_true h.1
    simpa using this
theorem runB_all (set : ByteArray) : ∀ (l : List UInt8), runB set l = l.length → ∀ c ∈ l, inB set c = true
  | [], _ => by simp
  | x :: l, h => by
    intro c hc
    rw [runB] at h
    split at h
    · rename_i hx
      rcases List.mem_cons.1 hc with rfl | hc
      · exact hx
      · exact runB_all set l (by simpa using h) c hc
    · simp at h
theorem more_le (k n : Int) (nm : ByteArray) (b : Bool) (h : isNamed k nm = true) : (sepA b (moreL k n nm)).length ≤ 26 := by
  unfold moreL
  have h1 := textL_le n
  have h2 := intL_le n
  by_cases h3 : k = 3
  · rw [if_pos h3]
    unfold isNamed at h
    rw [if_pos h3] at h
    have := isName_le nm h
    simp only [sepA, List.length_append, List.length_nil]
    split <;> simp at * <;> omega
  · rw [if_neg h3]
    by_cases h5 : k = 5
    · rw [if_pos h5]
      simp only [sepA, List.length_append, List.length_nil]
      split <;> simp <;> omega
    · rw [if_neg h5]
      by_cases h6 : k = 6 ∨ k = 11
      · rw [if_pos h6]
        simp only [sepA, List.length_append, List.length_nil]
        split <;> simp <;> omega
      · rw [if_neg h6]
        simp [sepA]
theorem fine_open {d : Int} {c : Bool} {k n : Int} {nm : ByteArray} {l : List Ex} (h : isFine d c ⟨k, n, nm, l⟩ = true) : ∃ w m a, formT k = some (w, m, a) ∧ 1 ≤ d ∧ isCond k = c ∧ 0 ≤ n ∧ n ≤ m ∧ m ≤ 1000000000000 ∧ (l.length : Int) = a ∧ a ≤ 3 ∧ isNamed k nm = true ∧ fineL (d - 1) (decide (k = 10)) l = true := by
  rw [isFine] at h
  unfold formP at h
  rcases hF : formT k with _ | ⟨w, m, a⟩
  · rw [hF] at h
    exact absurd h (by simp)
  · rw [hF] at h
    simp only [Bool.and_eq_true, decide_eq_true_eq, beq_iff_eq] at h
    obtain ⟨_, h1, h2, h3, h4, h5, h6, h7⟩ := h
    obtain ⟨_, ha3, _, hm1⟩ := formT_args k w m a hF
    exact ⟨w, m, a, rfl, by omega, h2, by omega, by omega, hm1, h5, ha3, h6, h7⟩
mutual
theorem fine_facts : ∀ (x : Ex) (m : Nat) (c : Bool), isFine (m : Int) c x = true → size x ≤ ((4 ^ m : Nat) : Int) ∧ deep x ≤ m ∧ rngE x = true ∧ txtE x ≠ [] ∧ ((txtE x).length : Int) + 2 ≤ 62 * size x
  | ⟨k, n, nm, l⟩, m, c, h => by
    obtain ⟨w, mm, a, hF, h1, h2, h3, h4, h5, h6, h7, h8, h9⟩ := fine_open h
    obtain ⟨m', rfl⟩ : ∃ m', m = m' + 1 := ⟨m - 1, by omega⟩
    rw [show ((m' + 1 : Nat) : Int) - 1 = (m' : Int) by omega] at h9
    obtain ⟨i1, i0, i2, i3⟩ := fine_factsA l m' (decide (k = 10)) h9
    refine ⟨?_, ?_, ?_, ?_, ?_⟩
    · rw [size, Nat.pow_succ]
      have hp : 1 ≤ 4 ^ m' := Nat.one_le_pow _ _ (by decide)
      have hl : l.length ≤ 3 := by omega
      have : l.length * 4 ^ m' ≤ 3 * 4 ^ m' := Nat.mul_le_mul_right _ hl
      omega
    · rw [deep]; omega
    · rw [rngE, i2, Bool.and_true]
      exact decide_eq_true ⟨⟨by omega, by omega⟩, by omega⟩
    · rw [txtE]
      by_cases k4 : k = 4
      · rw [if_pos k4]; exact textL_ne n h3 (by omega)
      · rw [if_neg k4]
        by_cases k12 : k = 1 ∨ k = 2
        · rw [if_pos k12]
          rcases k12 with rfl | rfl <;> decide
        · rw [if_neg k12]; simp
    · rw [txtE, size]
      have t1 := textL_le n
      have t2 := wordL_le k
      have t3 := more_le k n nm (k == 3 || l.isEmpty) h8
      have t4 := i3 true
      by_cases k4 : k = 4
      · rw [if_pos k4]; omega
      · rw [if_neg k4]
        by_cases k12 : k = 1 ∨ k = 2
        · rw [if_pos k12]; omega
        · rw [if_neg k12]
          by_cases k3 : k = 3
          · rw [if_pos k3]
            simp only [List.length_append, List.length_cons, List.length_nil]
            omega
          · rw [if_neg k3]
            simp only [List.length_append, List.length_cons, List.length_nil]
            omega
theorem fine_factsA : ∀ (l : List Ex) (m : Nat) (c : Bool), fineL (m : Int) c l = true → sizeL l ≤ ((l.length * 4 ^ m : Nat) : Int) ∧ deepL l ≤ m ∧ rngA l = true ∧ ∀ b, ((txtA b l).length : Int) ≤ 62 * sizeL l
  | [], m, c, _ => ⟨by simp [sizeL], by rw [deepL]; omega, rfl, fun b => by simp [txtA, sizeL]⟩
  | x :: l, m, c, h => by
    rw [fineL, Bool.and_eq_true] at h
    obtain ⟨a1, a0, a2, a3, a4⟩ := fine_facts x m c h.1
    obtain ⟨b1, b0, b2, b3⟩ := fine_factsA l m false h.2
    refine ⟨?_, by rw [deepL]; omega, ?_, fun b => ?_⟩
    · rw [sizeL, List.length_cons, Nat.add_mul]; omega
    · rw [rngA, a2, b2]; rfl
    · rw [txtA, sizeL]
      have := b3 false
      simp only [List.length_append]
      split <;> simp <;> omega
end
theorem fit_of {x : Ex} (h : isFine 32 false x = true) (hs : size x ≤ 2000) : Fit x := by
  obtain ⟨a, _, b, c, d⟩ := fine_facts x 32 false h
  exact ⟨b, by omega, c, by omega⟩
theorem right_ok (x : Ex) (hr : rngE x = true) (hs : size x ≤ 9223372036854775807) : Ok E 19 [] [pE x] (pB (isRight x)) [] := Right_ok x hr hs fit_of
theorem right_open {x : Ex} (h : isRight x = true) : isFine 32 false x = true ∧ size x ≤ 2000 ∧ (txtE x).length ≤ 2000 := by
  unfold isRight at h
  rw [Bool.and_eq_true, Bool.and_eq_true] at h
  exact ⟨h.1, of_decide_eq_true h.2.1, of_decide_eq_true h.2.2⟩
theorem right_fit {x : Ex} (h : isRight x = true) : Fit x := fit_of (right_open h).1 (right_open h).2.1
theorem print_ok (x : Ex) (hr : rngE x = true) (hs : size x ≤ 9223372036854775807) : Ok E 17 [] [pE x] (.tup (if isRight x then [pS (B (txtE x)), pI 0] else [pS ⟨#[]⟩, pI 1])) [] :=
  Print_ok x (right_ok x hr hs) fun h => text_ok x hr (right_fit h).ne (right_fit h).len
end Go.Proofs.YtjnbhdbpajnlgaaDoor.Pm

/- What is printed is scanned, to at least as many tokens as there are expressions. -/
namespace Go.Proofs.YtjnbhdbpajnlgaaDoor.Pm
open Go Go.RowKit Go.Proofs.YtjnbhdbpajnlgaaDoor.Pl
open Go.Proofs.YtjnbhdbpajnlgaaDoor.Q (txtE txtA rngE rngA formT sepA wordL moreL txtA_map)
set_option linter.unusedVariables false
set_option maxHeartbeats 1000000
/-- a text's end, or what no part has -/
def Ends (r : List UInt8) : Prop := r = [] ∨ ∃ c q, r = c :: q ∧ Lx.inB Lx.partsB c = false
/-- so many tokens, whatever stands behind that ends a part -/
def Frag (k : Nat) (t : List UInt8) : Prop := ∀ (g : Nat) (r : List UInt8) (p : Nat), Ends r → ∃ l : List Lx.Tok, l.length = k ∧ Lx.scanF (g + k) (t ++ r) p = Lx.okT l ++ Lx.scanF g r (p + t.length)
/-- so many tokens, whatever stands behind -/
def FragF (k : Nat) (t : List UInt8) : Prop := ∀ (g : Nat) (r : List UInt8) (p : Nat), ∃ l : List Lx.Tok, l.length = k ∧ Lx.scanF (g + k) (t ++ r) p = Lx.okT l ++ Lx.scanF g r (p + t.length)
theorem okT_app (l m : List Lx.Tok) : Lx.okT (l ++ m) = Lx.okT l ++ Lx.okT m := by unfold Lx.okT; rw [List.map_append]
theorem FragF.app {k m : Nat} {a b : List UInt8} (ha : FragF k a) (hb : Frag m b) : Frag (k + m) (a ++ b) := by
  intro g r p hr
  obtain ⟨l1, h1, e1⟩ := ha (g + m) (b ++ r) p
  obtain ⟨l2, h2, e2⟩ := hb g r (p + a.length) hr
  refine ⟨l1 ++ l2, by rw [List.length_append, h1, h2], ?_⟩
  rw [List.append_assoc, show g + (k + m) = g + m + k by omega, e1, e2, okT_app, List.append_assoc, List.length_append, show p + a.length + b.length = p + (a.length + b.length) by omega]
theorem FragF.appF {k m : Nat} {a b : List UInt8} (ha : FragF k a) (hb : FragF m b) : FragF (k + m) (a ++ b) := by
  intro g r p
  obtain ⟨l1, h1, e1⟩ := ha (g + m) (b ++ r) p
  obtain ⟨l2, h2, e2⟩ := hb g r (p + a.length)
  refine ⟨l1 ++ l2, by rw [List.length_append, h1, h2], ?_⟩
  rw [List.append_assoc, show g + (k + m) = g + m + k by omega, e1, e2, okT_app, List.append_assoc, List.length_append, show p + a.length + b.length = p + (a.length + b.length) by omega]
theorem Frag.appF {k m : Nat} {a b : List UInt8} (ha : Frag k a) (hb : FragF m b) (hs : ∀ r, Ends (b ++ r)) : FragF (k + m) (a ++ b) := by
  intro g r p
  obtain ⟨l1, h1, e1⟩ := ha (g + m) (b ++ r) p (hs r)
  obtain ⟨l2, h2, e2⟩ := hb g r (p + a.length)
  refine ⟨l1 ++ l2, by rw [List.length_append, h1, h2], ?_⟩
  rw [List.append_assoc, show g + (k + m) = g + m + k by omega, e1, e2, okT_app, List.append_assoc, List.length_append, show p + a.length + b.length = p + (a.length + b.length) by omega]
/-- one token: a part -/
theorem frag_part {w : List UInt8} {k n : Int} (hw : w ≠ []) (ha : w.all (Lx.inB Lx.partsB) = true) (hf : Lx.firstF w = (⟨k, B w, n, 0⟩, true)) (hk : k ≠ 5) : Frag 1 w := by
  intro g r p hr
  refine ⟨[⟨k, B w, n, (p : Int)⟩], rfl, ?_⟩
  have hf2 : Lx.firstF (w ++ r) = (⟨k, B w, n, 0⟩, true) := by
    rcases hr with rfl | ⟨c, q, rfl, hc⟩
    · rw [List.append_nil]; exact hf
    · rw [Lx.first_stop hw hc]; exact hf
  have hb : Lx.runB Lx.blanksB (w ++ r) = 0 := by
    cases w with
    | nil => exact absurd rfl hw
    | cons c q =>
      rw [List.all_cons, Bool.and_eq_true] at ha
      exact Lx.runB_no _ _ _ (Lx.not_blank ha.1)
  rw [Lx.scanF, hb, List.drop_zero, hf2]
  dsimp only
  rw [if_neg (fun h => h.elim (fun h => by cases h) hk), B_size, List.drop_left]
  rfl
theorem frag_sign {c : UInt8} (hs : Lx.inB Lx.signsB c = true) : FragF 1 [c] := by
  intro g r p
  refine ⟨[⟨4, B [c], 0, (p : Int)⟩], rfl, ?_⟩
  rw [show [c] ++ r = c :: r from rfl, Lx.scanF_sign g c r p (Lx.sign_not_blank hs) hs]
  simp only [Lx.okT, List.map_cons, List.map_nil, List.cons_append, List.nil_append, List.length_cons, List.length_nil, Nat.zero_add]
theorem frag_comma : FragF 1 [44, 32] := by
  intro g r p
  refine ⟨[⟨4, B [44], 0, (p : Int)⟩], rfl, ?_⟩
  have e : ([44, 32] : List UInt8) ++ r = 44 :: ([32] ++ r) := List.cons_append
  have e2 : p + ([44, 32] : List UInt8).length = p + 1 + ([32] : List UInt8).length := by simp only [List.length_cons, List.length_nil]
  rw [e, e2, Lx.scanF_sign _ _ _ _ (by decide +kernel) (by decide +kernel)]
  cases g with
  | zero => simp only [Lx.okT, Lx.scanF, List.map_cons, List.map_nil, List.cons_append, List.nil_append]
  | succ g =>
    rw [Lx.scanF_pre _ _ _ _ (by decide +kernel)]
    simp only [Lx.okT, List.map_cons, List.map_nil, List.cons_append, List.nil_append]
theorem ends_sign {c : UInt8} (h : Lx.inB Lx.partsB c = false) (b r : List UInt8) : Ends (c :: b ++ r) := .inr ⟨c, b ++ r, rfl, h⟩
/-- what stands behind the first argument -/
theorem rest_frag : ∀ (ms : List (List UInt8 × Nat)), (∀ m ∈ ms, Frag m.2 m.1) → ∃ k, (ms.map (·.2)).sum ≤ k ∧ FragF k (sepA false (ms.map (·.1)) ++ [41]) ∧ ∀ r, Ends (sepA false (ms.map (·.1)) ++ [41] ++ r)
  | [], _ => ⟨1, Nat.zero_le _, frag_sign (by decide +kernel), fun r => ends_sign (by decide +kernel) [] r⟩
  | m :: ms, h => by
    obtain ⟨k, hk, hF, hE⟩ := rest_frag ms fun x hx => h x (List.mem_cons_of_mem _ hx)
    have hm := h m List.mem_cons_self
    have e : sepA false ((m :: ms).map (·.1)) ++ [41] = [44, 32] ++ (m.1 ++ (sepA false (ms.map (·.1)) ++ [41])) := by
      rw [List.map_cons, sepA]
      simp
    refine ⟨1 + (m.2 + k), ?_, ?_, fun r => ?_⟩
    · rw [List.map_cons, List.sum_cons]; omega
    · rw [e]; exact frag_comma.appF (hm.appF hF hE)
    · rw [e]; exact ends_sign (by decide +kernel) _ r
theorem args_frag (ms : List (List UInt8 × Nat)) (h : ∀ m ∈ ms, Frag m.2 m.1) : ∃ k, (ms.map (·.2)).sum ≤ k ∧ FragF k (sepA true (ms.map (·.1)) ++ [41]) := by
  cases ms with
  | nil => exact ⟨1, Nat.zero_le _, frag_sign (by decide +kernel)⟩
  | cons m ms =>
    obtain ⟨k, hk, hF, hE⟩ := rest_frag ms fun x hx => h x (List.mem_cons_of_mem _ hx)
    have hm := h m List.mem_cons_self
    have e : sepA true ((m :: ms).map (·.1)) ++ [41] = m.1 ++ (sepA false (ms.map (·.1)) ++ [41]) := by
      rw [List.map_cons, sepA]
      simp
    refine ⟨m.2 + k, ?_, ?_⟩
    · rw [List.map_cons, List.sum_cons]; omega
    · rw [e]; exact hm.appF hF hE
theorem FragF.toFrag {k : Nat} {t : List UInt8} (h : FragF k t) : Frag k t := fun g r p _ => h g r p
/-! ### words, names, numbers -/
theorem word_frag {k : Int} {w : List UInt8} {m a : Int} (h : formT k = some (w, m, a)) (h4 : k ≠ 4) : Frag 1 w := by
  have key : ∀ w : List UInt8, w ≠ [] → w.all (Lx.inB Lx.partsB) = true → Lx.partF (B w) = (⟨1, B w, 0, 0⟩, true) → Frag 1 w := fun w h1 h2 h3 => frag_part h1 h2 (by rw [Lx.first_part h1 h2]; exact h3) (show (1 : Int) ≠ 5 by decide)
  have wd : ∀ w : List UInt8, Lib.containsS L.wordsB (B w) = true → Lx.partF (B w) = (⟨1, B w, 0, 0⟩, true) := fun w h => by unfold Lx.partF; rw [h, Bool.true_or, if_pos rfl]
  unfold formT at h
  split at h <;> first
    | (injection h with h; injection h with h _; subst h; exact key _ (by decide) (by decide +kernel) (wd _ (by decide +kernel)))
    | exact absurd rfl h4
    | cases h
theorem letter_part {c : UInt8} (h : Lx.inB Lx.abc9B c = true) : Lx.inB Lx.partsB c = true := by
  have := Lx.all256 (p := fun c => !(Lx.inB Lx.abc9B c) || Lx.inB Lx.partsB c) (by decide +kernel) c
  rw [h] at this
  simpa using this
theorem name_frag {nm : ByteArray} (h : Lx.isName nm = true) : Frag 1 nm.data.toList := by
  have hn := h
  unfold Lx.isName at h
  cases hl : nm.data.toList with
  | nil => rw [hl] at h; cases h
  | cons c l =>
    rw [hl] at h
    simp only [Bool.and_eq_true, decide_eq_true_eq] at h
    obtain ⟨_, _, h3, _⟩ := h
    have hall := Lx.run_all Lx.abc9B (c :: l)
    have hz : nm.size = (c :: l).length := by rw [← hl]; exact (Lx.sz_len nm).symm
    rw [← hz, decide_eq_true h3] at hall
    have hp : (c :: l).all (Lx.inB Lx.partsB) = true := List.all_eq_true.2 fun x hx => letter_part (List.all_eq_true.1 hall.symm x hx)
    have hB : B (c :: l) = nm := by rw [← hl]; exact B_toList' nm
    refine frag_part (k := 1) (n := 0) (by simp) hp ?_ (show (1 : Int) ≠ 5 by decide)
    rw [Lx.first_part (by simp) hp]
    unfold Lx.partF
    rw [hB, hn, Bool.or_true, if_pos rfl]
theorem money_frag {n : Int} (h0 : 0 ≤ n) (h1 : n ≤ 1000000000000) : Frag 1 (textL n) := by
  obtain ⟨k, rfl⟩ : ∃ k : Nat, n = k := ⟨n.toNat, by omega⟩
  have hf := Lx.first_money k (by omega)
  have hne : textL (k : Int) ≠ [] := Pl.textL_ne (by unfold Pl.okA; omega)
  have hall : (textL (k : Int)).all (Lx.inB Lx.partsB) = true := by
    rw [textL_ok (by unfold Pl.okA; omega), if_neg (by omega), List.nil_append, List.all_append, Lx.digs_parts]
    show (true && (Lx.inB Lx.partsB 46 && (Lx.inB Lx.partsB (dig _) && (Lx.inB Lx.partsB (dig _) && true)))) = true
    rw [Lx.digit_part (dig_isD _), Lx.digit_part (dig_isD _), show Lx.inB Lx.partsB 46 = true by decide +kernel]
    rfl
  exact frag_part hne hall hf (show (3 : Int) ≠ 5 by decide)
theorem count_frag {n : Int} (h0 : 0 ≤ n) (h1 : n ≤ 100000) : Frag 1 (intL n) := by
  obtain ⟨k, rfl⟩ : ∃ k : Nat, n = k := ⟨n.toNat, by omega⟩
  rw [Lx.intL_nat]
  exact frag_part (digs_ne k) (Lx.digs_parts k) (Lx.first_count k (by omega)) (show (2 : Int) ≠ 5 by decide)
theorem runB_same (set : ByteArray) : ∀ l : List UInt8, runB set l = Lx.runB set l
  | [] => rfl
  | c :: l => by
    rw [runB, Lx.runB, runB_same set l]
    rfl
theorem name_same (nm : ByteArray) : isName nm = Lx.isName nm := by
  unfold isName Lx.isName
  cases nm.data.toList with
  | nil => rfl
  | cons c l =>
    dsimp only
    rw [runB_same]
    rfl
theorem named_name (nm : ByteArray) (h : isNamed 3 nm = true) : Lx.isName nm = true := by
  unfold isNamed at h
  rw [if_pos rfl, name_same] at h
  exact h
/-- an expression -/
theorem call_txt (k n : Int) (nm : ByteArray) (l : List Ex) (h4 : k ≠ 4) (h12 : ¬ (k = 1 ∨ k = 2)) (h3 : k = 3 → l = []) : txtE ⟨k, n, nm, l⟩ = wordL k ++ ([40] ++ (sepA true (l.map txtE ++ moreL k n nm) ++ [41])) := by
  rw [txtE, if_neg h4, if_neg h12]
  have key : ∀ (ms : List (List UInt8)) (b : Bool) (l : List (List UInt8)), sepA b (l ++ ms) = sepA b l ++ sepA (b && l.isEmpty) ms := by
    intro ms b l
    induction l generalizing b with
    | nil => simp [sepA]
    | cons x l ih => rw [List.cons_append, sepA, sepA, ih false]; simp
  rw [key, txtA_map]
  have hE : (l.map txtE).isEmpty = l.isEmpty := by cases l <;> rfl
  by_cases hk : k = 3
  · obtain rfl := h3 hk
    subst hk
    simp [sepA]
  · rw [if_neg hk, show (k == 3) = false by simpa using hk, hE]
    simp
theorem sum_len : ∀ (l : List (List UInt8)) , ((l.map fun t => (t, (1 : Nat))).map (·.2)).sum = l.length
  | [] => rfl
  | x :: l => by rw [List.map_cons, List.map_cons, List.sum_cons, sum_len l, List.length_cons]; omega
mutual
theorem expr_frag : ∀ (x : Ex) (d : Int) (c : Bool), isFine d c x = true → ∃ k : Nat, size x ≤ k ∧ Frag k (txtE x)
  | ⟨k, n, nm, l⟩, d, c, h => by
    obtain ⟨w, m, a, hF, h1, h2, h3, h4, h5, h6, h7, h8, h9⟩ := fine_open h
    obtain ⟨ks, hm, hs, hg⟩ := list_frag l (d - 1) _ h9
    by_cases k4 : k = 4
    · subst k4
      have ha : a = 0 := by injection hF with hF; injection hF with _ hF; injection hF with _ hF; exact hF.symm
      have hl : l = [] := List.length_eq_zero_iff.1 (by omega)
      subst hl
      refine ⟨1, by rw [size, sizeL]; decide, ?_⟩
      rw [txtE, if_pos rfl]
      exact money_frag h3 (by omega)
    have hw := word_frag hF k4
    have hwl : wordL k = w := by unfold wordL; rw [hF]; rfl
    by_cases k12 : k = 1 ∨ k = 2
    · have hl : l = [] := by
        refine List.length_eq_zero_iff.1 ?_
        rcases k12 with rfl | rfl <;> (injection hF with hF; injection hF with _ hF; injection hF with _ hF; omega)
      subst hl
      refine ⟨1, by rw [size, sizeL]; decide, ?_⟩
      rw [txtE, if_neg k4, if_pos k12, hwl]
      exact hw
    have hl3 : k = 3 → l = [] := by
      rintro rfl
      refine List.length_eq_zero_iff.1 ?_
      injection hF with hF; injection hF with _ hF; injection hF with _ hF; omega
    have hmore : ∀ t ∈ moreL k n nm, Frag 1 t := by
      intro t ht
      unfold moreL at ht
      split at ht
      · rename_i hk; subst hk
        rw [List.mem_singleton] at ht; subst ht
        exact name_frag (named_name nm h8)
      · split at ht
        · rw [List.mem_singleton] at ht; subst ht
          exact money_frag h3 (by omega)
        · split at ht
          · rename_i hk
            rw [List.mem_singleton] at ht; subst ht
            refine count_frag h3 ?_
            rcases hk with rfl | rfl <;> (injection hF with hF; injection hF with _ hF; injection hF with hF _; omega)
          · cases ht
    obtain ⟨K, hK, hKF⟩ := args_frag (ks ++ (moreL k n nm).map fun t => (t, (1 : Nat))) (by
      intro x hx
      rcases List.mem_append.1 hx with hx | hx
      · exact hg x hx
      · obtain ⟨t, ht, rfl⟩ := List.mem_map.1 hx
        exact hmore t ht)
    have e : (ks ++ (moreL k n nm).map fun t => (t, (1 : Nat))).map (·.1) = l.map txtE ++ moreL k n nm := by
      rw [List.map_append, hm, List.map_map]
      congr 1
      simp [Function.comp_def]
    rw [e] at hKF
    rw [List.map_append, List.sum_append] at hK
    refine ⟨1 + (1 + K), by rw [size]; omega, ?_⟩
    rw [call_txt k n nm l k4 k12 hl3, hwl]
    exact (hw.appF ((frag_sign (c := 40) (by decide +kernel)).appF hKF) fun r => ends_sign (by decide +kernel) _ r).toFrag
theorem list_frag : ∀ (l : List Ex) (d : Int) (c : Bool), fineL d c l = true → ∃ ks : List (List UInt8 × Nat), ks.map (·.1) = l.map txtE ∧ sizeL l ≤ ((ks.map (·.2)).sum : Nat) ∧ ∀ m ∈ ks, Frag m.2 m.1
  | [], d, c, h => ⟨[], rfl, by simp [sizeL], fun m hm => by cases hm⟩
  | x :: l, d, c, h => by
    rw [fineL, Bool.and_eq_true] at h
    obtain ⟨k, h1, h2⟩ := expr_frag x d c h.1
    obtain ⟨ks, h3, h4, h5⟩ := list_frag l d false h.2
    refine ⟨(txtE x, k) :: ks, by rw [List.map_cons, List.map_cons, h3], ?_, ?_⟩
    · rw [sizeL, List.map_cons, List.sum_cons]; omega
    · intro m hm
      rcases List.mem_cons.1 hm with rfl | hm
      · exact h2
      · exact h5 m hm
end
theorem print_scans {x : Ex} (h : isRight x = true) : ∃ l : List Lx.Tok, Lx.lexF (B (txtE x)) = (l, 0, 0) ∧ size x < l.length := by
  obtain ⟨h1, h2, h3⟩ := right_open h
  obtain ⟨k, hk, hF⟩ := expr_frag x 32 false h1
  obtain ⟨l, hl, e⟩ := hF ((txtE x).length + 1) [] 0 (.inl rfl)
  rw [List.append_nil, Lx.scanF_end] at e
  have hs : Lx.scan (B (txtE x)) = Lx.okT l ++ [(⟨5, Lx.e0, 0, ((0 + (txtE x).length : Nat) : Int)⟩, true)] := by
    rw [Lx.scan_eq _ (f := (txtE x).length + 1 + k) (by rw [B_size]; omega), B_toList, e]
  refine ⟨l ++ [⟨5, Lx.e0, 0, ((0 + (txtE x).length : Nat) : Int)⟩], ?_, by rw [List.length_append, List.length_cons, List.length_nil]; omega⟩
  unfold Lx.lexF Lx.toksF
  rw [if_neg (by rw [B_size]; omega), hs, Lx.tell_ok]
  show (List.map _ _, _, _) = _
  rw [List.map_append, Lx.fst_ok]
  rfl
end Go.Proofs.YtjnbhdbpajnlgaaDoor.Pm

/- The statement TreeScans, in the pure machine. -/
namespace Go.Proofs.YtjnbhdbpajnlgaaDoor.Pm
open Go Go.RowKit Go.Proofs.YtjnbhdbpajnlgaaDoor.Pl
open Go.Proofs.YtjnbhdbpajnlgaaDoor.Q (txtE txtA rngE rngA formT)
set_option linter.unusedVariables false
set_option maxHeartbeats 1000000
theorem TreeScans_ok (one : List Int) (h1 : ∀ a ∈ one, I64 a) (l1 : one.length ≤ 17592186043904) : Ok E 13 [] [.c (.row (encN one))] (pB true) [] := by
  have hx := strat_small one h1
  have cx := strat_ok one h1 (by omega)
  obtain ⟨x, ex⟩ : ∃ x, stratF one = x := ⟨_, rfl⟩
  rw [ex] at hx cx
  have sx := hx.size
  have cS := Size_ok x (by omega)
  have cR := right_ok x hx.rng (by omega)
  have cP := print_ok x hx.rng (by omega)
  have law := fun h : isRight x = true => print_scans h
  obtain ⟨k, n, nm, l⟩ := x
  rcases Bool.eq_false_or_eq_true (isRight ⟨k, n, nm, l⟩) with hr | hr
  · rw [hr, if_pos rfl] at cP
    obtain ⟨ts, e1, e2⟩ := law hr
    have cL := Lx.Lex_ok (B (txtE ⟨k, n, nm, l⟩))
    have cM := Lx.rLex_ok (B (txtE ⟨k, n, nm, l⟩))
    have hlen : ts.length ≤ 4611686018427387904 := by
      have h3 := Lx.scanF_len ((B (txtE ⟨k, n, nm, l⟩)).size + 1) (B (txtE ⟨k, n, nm, l⟩)).data.toList 0
      obtain ⟨_, _, h4⟩ := right_open hr
      rcases Lx.lexF_cases (B (txtE ⟨k, n, nm, l⟩)) with h | ⟨p, h⟩ | ⟨_, -, h⟩
      · rw [h] at e1; injection e1 with e1 _; rw [← e1]; exact Nat.zero_le _
      · rw [h] at e1; injection e1 with e1 _; rw [← e1]; exact Nat.zero_le _
      · rw [h] at e1; injection e1 with e1 _
        rw [← e1]
        unfold Lx.toksF Lx.scan
        rw [List.length_map]
        rw [B_size] at h3 ⊢
        omega
    have cE := Lx.rSame_ok ts ts hlen
    rw [Lx.eqToks_refl] at cE
    rw [e1] at cL cM
    obtain ⟨s, hs⟩ : ∃ s, B (txtE ⟨k, n, nm, l⟩) = s := ⟨_, rfl⟩
    rw [hs] at cP cL cM
    have hrl := Lx.rowT_len ts
    obtain ⟨z, hz⟩ : ∃ z, size ⟨k, n, nm, l⟩ = z := ⟨_, rfl⟩
    rw [hz] at cS e2
    refine Ok.enter hE Tryd.func13 rfl (by decide +kernel) (by kernel_rfl) rfl rfl (Nat.le_of_ble_eq_true rfl) rfl ?_
    refine ⟨_, CallR.mk1 awake_ok rfl rfl, ?_⟩
    refine ⟨_, CallR.mk1 cx rfl rfl, ?_⟩
    refine ⟨_, CallR.mk1 cP rfl rfl, ?_⟩
    refine ⟨_, CallR.mk1 cL rfl rfl, ?_⟩
    refine ⟨_, CallR.mk1 cM rfl rfl, ?_⟩
    refine ⟨_, neN rfl, ?_⟩
    refine ⟨_, eqT rfl, ?_⟩
    refine ⟨_, CallR.mk1 cS rfl rfl, ?_⟩
    refine ⟨_, gtT (by show ((Lx.rowT ts).length : Int) > z; omega), ?_⟩
    refine ⟨_, CallR.mk1 cE rfl rfl, ?_⟩
    exact Ret.mk _ rfl rfl rfl
  · rw [hr, if_neg (by simp)] at cP
    rw [hr] at cR
    have cL := Lx.Lex_ok ⟨#[]⟩
    have cM := Lx.rLex_ok ⟨#[]⟩
    refine Ok.enter hE Tryd.func13 rfl (by decide +kernel) (by kernel_rfl) rfl rfl (Nat.le_of_ble_eq_true rfl) rfl ?_
    refine ⟨_, CallR.mk1 awake_ok rfl rfl, ?_⟩
    refine ⟨_, CallR.mk1 cx rfl rfl, ?_⟩
    refine ⟨_, CallR.mk1 cP rfl rfl, ?_⟩
    refine ⟨_, CallR.mk1 cL rfl rfl, ?_⟩
    refine ⟨_, CallR.mk1 cM rfl rfl, ?_⟩
    refine ⟨_, neT (show (1 : Int) ≠ 0 by decide), ?_⟩
    refine ⟨_, CallR.mk1 cR rfl rfl, ?_⟩
    exact Ret.mk _ rfl rfl rfl
end Go.Proofs.YtjnbhdbpajnlgaaDoor.Pm
