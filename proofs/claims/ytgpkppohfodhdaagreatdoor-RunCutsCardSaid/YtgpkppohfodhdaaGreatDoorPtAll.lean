import Derived.Test.YtgpkppohfodhdaaGreatDoorPmBll
import Derived.Test.YtgpkppohfodhdaaGreatDoorQx0
import Derived.Test.YtgpkppohfodhdaaGreatDoorExtW
import Derived.Test.YtgpkppohfodhdaaGreatDoorExtS1
namespace Go.Proofs.YtgpkppohfodhdaaGreatDoor.Pm
open Go
set_option linter.unusedVariables false
set_option linter.unusedSimpArgs false
set_option maxHeartbeats 400000
abbrev pI (n : Int) : PV := .c (.int .i64 n)
abbrev pB (b : Bool) : PV := .c (.bool b)
abbrev pS (s : ByteArray) : PV := .c (.str s)
def encN (l : List Int) : List (List CV) := l.map fun n => [.int .i64 n]
def pk (c n : Int) : Int := if c < 0 then (-(c + 1)).tmod n else c.tmod n
theorem pk_rng {c n : Int} (hn : 0 < n) : 0 ≤ pk c n ∧ pk c n < n := by
 unfold pk
 split
 ·rw [Int.tmod_eq_emod_of_nonneg (by omega)]
  exact ⟨Int.emod_nonneg _ (by omega), Int.emod_lt_of_pos _ hn⟩
 ·rw [Int.tmod_eq_emod_of_nonneg (by omega)]
  exact ⟨Int.emod_nonneg _ (by omega), Int.emod_lt_of_pos _ hn⟩
theorem pick_ok (c n : Int) (hc : I64 c) (hn : 0 < n) : Ok E 93 [] [pI c, pI n] (pI (pk c n)) [] := by
 obtain ⟨h0, h1⟩ := hc
 refine Ok.enter hE Tryz.func93 rfl (by decide +kernel) (by kernel_rfl) rfl rfl (Nat.le_of_ble_eq_true rfl) rfl ?_
 by_cases hneg : c < 0
 ·refine ⟨_, ltT hneg, ?_⟩
  refine ⟨_, addV rfl (by omega) (by omega), ?_⟩
  refine ⟨_, negV rfl (by omega) (by omega), ?_⟩
  refine ⟨_, remV (by omega) rfl, ?_⟩
  exact Ret.mk _ rfl (by show PV.c _ = _; rw [pk, if_pos hneg]) rfl
 ·refine ⟨_, ltN hneg, ?_⟩
  refine ⟨_, remV (by omega) rfl, ?_⟩
  exact Ret.mk _ rfl (by show PV.c _ = _; rw [pk, if_neg hneg]) rfl
theorem pick6_ok (c n : Int) (hc : I64 c) (hn : 0 < n) : Ok E 39 [] [pI c, pI n] (pI (pk c n)) [] := by
 obtain ⟨h0, h1⟩ := hc
 refine Ok.enter hE Tryz.func39 rfl (by decide +kernel) (by kernel_rfl) rfl rfl (Nat.le_of_ble_eq_true rfl) rfl ?_
 by_cases hneg : c < 0
 ·refine ⟨_, ltT hneg, ?_⟩
  refine ⟨_, addV rfl (by omega) (by omega), ?_⟩
  refine ⟨_, negV rfl (by omega) (by omega), ?_⟩
  refine ⟨_, remV (by omega) rfl, ?_⟩
  exact Ret.mk _ rfl (by show PV.c _ = _; rw [pk, if_pos hneg]) rfl
 ·refine ⟨_, ltN hneg, ?_⟩
  refine ⟨_, remV (by omega) rfl, ?_⟩
  exact Ret.mk _ rfl (by show PV.c _ = _; rw [pk, if_neg hneg]) rfl
def nx (L : List Int) (n : Int) : Int := match L with
 | [] => 0
 | a :: _ => pk a n
theorem nx_rng {L : List Int} {n : Int} (hn : 0 < n) : 0 ≤ nx L n ∧ nx L n < n := by
 cases L with
 | nil => exact ⟨Int.le_refl _, hn⟩
 | cons a r => exact pk_rng hn
theorem next_ok (L : List Int) (hL : ∀ a ∈ L, I64 a) (hl : L.length ≤ 100) (n : Int) (hn : 0 < n) : Ok E 47 [[.c (.row (encN L))]] [.ptr 0 0, pI n] (pI (nx L n)) [[.c (.row (encN L.tail))]] := by
 refine Ok.enter hE Tryz.func47 rfl (by decide +kernel) (by kernel_rfl) rfl rfl (Nat.le_of_ble_eq_true rfl) rfl ?_
 cases L with
 | nil =>
  refine ⟨_, eqT rfl, ?_⟩
  exact ⟨_, rfl, Wk.refl _, rfl, .cons (WkL.refl _) rfl (.nil _)⟩
 | cons a r =>
  refine ⟨_, eqN (by simp [encN]; omega), ?_⟩
  refine ⟨_, idxV (j := 0) rfl rfl rfl rfl rfl, ?_⟩
  refine ⟨_, CallR.mk1 (pick_ok a n (hL a (by simp)) hn) rfl rfl, ?_⟩
  refine ⟨_, sliceRV 1 (encN (a :: r)).length rfl rfl rfl rfl (by simp [encN]) (by simp [encN]), ?_⟩
  refine ⟨_, rfl, Wk.refl _, rfl, .cons (d := [.c (.row (encN r))]) ?_ rfl (.nil _)⟩
  rw [show ([PV.c (.row (((encN (a :: r)).take (encN (a :: r)).length).drop 1))] : List PV) = [.c (.row (encN r))] by rw [List.take_length]; rfl]
  exact WkL.refl _
def argsOf (k : Int) : Int := if k = 1 ∨ k = 2 ∨ k = 3 ∨ k = 4 ∨ k = 11 then 0 else if k = 5 ∨ k = 6 then 1 else if k = 7 ∨ k = 8 ∨ k = 9 ∨ k = 12 then 2 else if k = 10 then 3 else -1
theorem Args_ok (k : Int) : Ok E 48 [] [pI k] (pI (argsOf k)) [] := by
 refine Ok.enter hE Tryz.func48 rfl (by decide +kernel) (by kernel_rfl) rfl rfl (Nat.le_of_ble_eq_true rfl) rfl ?_
 by_cases h1 : k = 1
 ·subst h1; refine ⟨_, eqT rfl, ?_⟩; exact Ret.mk _ rfl rfl rfl
 refine ⟨_, eqN h1, ?_⟩
 by_cases h2 : k = 2
 ·subst h2; refine ⟨_, eqT rfl, ?_⟩; exact Ret.mk _ rfl rfl rfl
 refine ⟨_, eqN h2, ?_⟩
 by_cases h3 : k = 3
 ·subst h3; refine ⟨_, eqT rfl, ?_⟩; exact Ret.mk _ rfl rfl rfl
 refine ⟨_, eqN h3, ?_⟩
 by_cases h4 : k = 4
 ·subst h4; refine ⟨_, eqT rfl, ?_⟩; exact Ret.mk _ rfl rfl rfl
 refine ⟨_, eqN h4, ?_⟩
 by_cases h11 : k = 11
 ·subst h11; refine ⟨_, eqT rfl, ?_⟩; exact Ret.mk _ rfl rfl rfl
 refine ⟨_, eqN h11, ?_⟩
 by_cases h5 : k = 5
 ·subst h5; refine ⟨_, eqT rfl, ?_⟩; exact Ret.mk _ rfl rfl rfl
 refine ⟨_, eqN h5, ?_⟩
 by_cases h6 : k = 6
 ·subst h6; refine ⟨_, eqT rfl, ?_⟩; exact Ret.mk _ rfl rfl rfl
 refine ⟨_, eqN h6, ?_⟩
 by_cases h7 : k = 7
 ·subst h7; refine ⟨_, eqT rfl, ?_⟩; exact Ret.mk _ rfl rfl rfl
 refine ⟨_, eqN h7, ?_⟩
 by_cases h8 : k = 8
 ·subst h8; refine ⟨_, eqT rfl, ?_⟩; exact Ret.mk _ rfl rfl rfl
 refine ⟨_, eqN h8, ?_⟩
 by_cases h9 : k = 9
 ·subst h9; refine ⟨_, eqT rfl, ?_⟩; exact Ret.mk _ rfl rfl rfl
 refine ⟨_, eqN h9, ?_⟩
 by_cases h12 : k = 12
 ·subst h12; refine ⟨_, eqT rfl, ?_⟩; exact Ret.mk _ rfl rfl rfl
 refine ⟨_, eqN h12, ?_⟩
 by_cases h10 : k = 10
 ·subst h10; refine ⟨_, eqT rfl, ?_⟩; exact Ret.mk _ rfl rfl rfl
 refine ⟨_, eqN h10, ?_⟩
 exact Ret.mk _ rfl (by show PV.c _ = _; simp [argsOf, *]) rfl
def digB (n : Int) : ByteArray := ⟨#[UInt8.ofNat (48 + n).toNat]⟩
theorem decimal_ok (n : Int) (h0 : 0 ≤ n) (h1 : n < 10) : Ok E 40 [] [pI n] (pS (digB n)) [] := by
 refine Ok.enter hE Tryz.func40 rfl (by decide +kernel) (by kernel_rfl) rfl rfl (Nat.le_of_ble_eq_true rfl) rfl ?_
 have hm : n.tmod 10 = n := by rw [Int.tmod_eq_emod_of_nonneg h0]; omega
 refine ⟨_, remV (by omega) hm, ?_⟩
 refine ⟨_, addV rfl (by omega) (by omega), ?_⟩
 refine ⟨_, convV (z := 48 + n) rfl rfl (by simp [IntKind.wrap, IntKind.bits, IntKind.signed]; omega), ?_⟩
 refine ⟨_, ⟨_, rfl, rfl⟩, ?_⟩
 refine ⟨_, convBV (l := [UInt8.ofNat (48 + n).toNat]) rfl rfl rfl (by
  show bytesF [[CV.int .u8 (48 + n)]] = _
  rw [bytesF, decide_eq_true (by omega)]; rfl), ?_⟩
 refine ⟨_, geN (by omega), ?_⟩
 exact Ret.mk _ rfl rfl rfl
def nameB (k : Int) : ByteArray := match k with
 | 0 => ⟨#[97]⟩
 | 1 => ⟨#[98, 111, 98]⟩
 | 2 => ⟨#[108, 111, 119, 101, 115]⟩
 | 3 => ⟨#[97, 99, 109, 101, 57]⟩
 | 4 => ⟨#[120, 49]⟩
 | _ => ⟨#[101, 108, 115, 101, 101]⟩
def sellerB (n : Int) : ByteArray := nameB ((pk n 60).tmod 6) ++ digB ((pk n 60).tdiv 6)
theorem Seller_ok (n : Int) (hn : I64 n) : Ok E 23 [] [pI n] (pS (sellerB n)) [] := by
 refine Ok.enter hE Tryz.func23 rfl (by decide +kernel) (by kernel_rfl) rfl rfl (Nat.le_of_ble_eq_true rfl) rfl ?_
 refine ⟨_, CallR.mk1 (pick6_ok n 60 hn (by omega)) rfl rfl, ?_⟩
 obtain ⟨h0, h1⟩ := pk_rng (c := n) (n := 60) (by omega)
 have hs : sellerB n = nameB ((pk n 60).tmod 6) ++ digB ((pk n 60).tdiv 6) := rfl
 rw [hs]
 clear hs
 generalize pk n 60 = k at h0 h1 ⊢
 obtain ⟨d, hd⟩ : ∃ d, k.tdiv 6 = d := ⟨_, rfl⟩
 obtain ⟨q, hq⟩ : ∃ q, k.tmod 6 = q := ⟨_, rfl⟩
 rw [hd, hq]
 have hd' : d = k / 6 := by rw [← hd]; exact Int.tdiv_eq_ediv_of_nonneg h0
 have hq' : q = k % 6 := by rw [← hq]; exact Int.tmod_eq_emod_of_nonneg h0
 refine ⟨_, ⟨_, rfl, rfl⟩, ?_⟩
 have : q = 0 ∨ q = 1 ∨ q = 2 ∨ q = 3 ∨ q = 4 ∨ q = 5 := by omega
 rcases this with rfl | rfl | rfl | rfl | rfl | rfl
 ·refine ⟨_, remV (by omega) hq, ?_⟩
  refine ⟨_, idxV (j := 0) rfl rfl rfl rfl rfl, ?_⟩
  refine ⟨_, quoV (by omega) hd (by omega) (by omega), ?_⟩
  refine ⟨_, CallR.mk1 (decimal_ok d (by omega) (by omega)) rfl rfl, ?_⟩
  refine ⟨_, catV rfl (by show _ + 1 ≤ _; decide), ?_⟩
  exact Ret.mk _ rfl rfl rfl
 ·refine ⟨_, remV (by omega) hq, ?_⟩
  refine ⟨_, idxV (j := 1) rfl rfl rfl rfl rfl, ?_⟩
  refine ⟨_, quoV (by omega) hd (by omega) (by omega), ?_⟩
  refine ⟨_, CallR.mk1 (decimal_ok d (by omega) (by omega)) rfl rfl, ?_⟩
  refine ⟨_, catV rfl (by show _ + 1 ≤ _; decide), ?_⟩
  exact Ret.mk _ rfl rfl rfl
 ·refine ⟨_, remV (by omega) hq, ?_⟩
  refine ⟨_, idxV (j := 2) rfl rfl rfl rfl rfl, ?_⟩
  refine ⟨_, quoV (by omega) hd (by omega) (by omega), ?_⟩
  refine ⟨_, CallR.mk1 (decimal_ok d (by omega) (by omega)) rfl rfl, ?_⟩
  refine ⟨_, catV rfl (by show _ + 1 ≤ _; decide), ?_⟩
  exact Ret.mk _ rfl rfl rfl
 ·refine ⟨_, remV (by omega) hq, ?_⟩
  refine ⟨_, idxV (j := 3) rfl rfl rfl rfl rfl, ?_⟩
  refine ⟨_, quoV (by omega) hd (by omega) (by omega), ?_⟩
  refine ⟨_, CallR.mk1 (decimal_ok d (by omega) (by omega)) rfl rfl, ?_⟩
  refine ⟨_, catV rfl (by show _ + 1 ≤ _; decide), ?_⟩
  exact Ret.mk _ rfl rfl rfl
 ·refine ⟨_, remV (by omega) hq, ?_⟩
  refine ⟨_, idxV (j := 4) rfl rfl rfl rfl rfl, ?_⟩
  refine ⟨_, quoV (by omega) hd (by omega) (by omega), ?_⟩
  refine ⟨_, CallR.mk1 (decimal_ok d (by omega) (by omega)) rfl rfl, ?_⟩
  refine ⟨_, catV rfl (by show _ + 1 ≤ _; decide), ?_⟩
  exact Ret.mk _ rfl rfl rfl
 ·refine ⟨_, remV (by omega) hq, ?_⟩
  refine ⟨_, idxV (j := 5) rfl rfl rfl rfl rfl, ?_⟩
  refine ⟨_, quoV (by omega) hd (by omega) (by omega), ?_⟩
  refine ⟨_, CallR.mk1 (decimal_ok d (by omega) (by omega)) rfl rfl, ?_⟩
  refine ⟨_, catV rfl (by show _ + 1 ≤ _; decide), ?_⟩
  exact Ret.mk _ rfl rfl rfl
end Go.Proofs.YtgpkppohfodhdaaGreatDoor.Pm
namespace Go.Proofs.YtgpkppohfodhdaaGreatDoor.Pm
open Go
set_option linter.unusedVariables false
set_option linter.unusedSimpArgs false
set_option maxHeartbeats 1000000
abbrev Ex := Go.Proofs.YtgpkppohfodhdaaGreatDoor.Q.S45
def encL : List Ex → List (List CV)
 | [] => []
 | ⟨k, n, nm, l⟩ :: r => [.int .i64 k, .int .i64 n, .str nm, .row (encL l)] :: encL r
@[reducible] def cellsE (x : Ex) : List CV := [.int .i64 x.f0, .int .i64 x.f1, .str x.f2, .row (encL x.f3)]
@[reducible] def pE (x : Ex) : PV := .agg (cellsE x)
theorem encL_map : ∀ l : List Ex, encL l = l.map cellsE
 | [] => by rw [encL]; rfl
 | ⟨k, n, nm, a⟩ :: r => by rw [encL, encL_map r]; rfl
def e0 : ByteArray := ⟨#[]⟩
def moreE (n : Int) : Ex := ⟨11, n, e0, []⟩
def stL (g : Bool → List Int → Ex × List Int) (isIf : Bool) (L : List Int) : Nat → List Int
 | 0 => L
 | j + 1 => (g (isIf && Nat.beq j 0) (stL g isIf L j)).2
def xL (g : Bool → List Int → Ex × List Int) (isIf : Bool) (L : List Int) (j : Nat) : Ex := (g (isIf && Nat.beq j 0) (stL g isIf L j)).1
def argsL (g : Bool → List Int → Ex × List Int) (isIf : Bool) (L : List Int) (m : Nat) : List Ex := (List.range m).map (xL g isIf L)
def kindF (d : Nat) (L : List Int) : Int := if d = 0 then 1 + (1 + nx L 10).tmod 4 else 1 + nx L 10
def finF (kind : Int) (l : List Ex) (L : List Int) : Ex × List Int :=
 if kind = 3 then (⟨kind, 0, sellerB (nx L 60), l⟩, L.tail) else if kind = 4 ∨ kind = 5 then (⟨kind, nx L 3000, e0, l⟩, L.tail) else if kind = 6 then (⟨kind, nx L 12000, e0, l⟩, L.tail) else (⟨kind, 0, e0, l⟩, L)
def exF : Nat → Bool → List Int → Ex × List Int
 | 0, _, L => (moreE 0, L)
 | d + 1, true, L => if d = 0 then (moreE (nx L 7), L.tail) else if nx L 2 = 0 then (moreE (nx L.tail 7), L.tail.tail) else
  (⟨12, 0, e0, [(exF d false L.tail).1, (exF d false (exF d false L.tail).2).1]⟩, (exF d false (exF d false L.tail).2).2)
 | d + 1, false, L => finF (kindF d L) (argsL (exF d) (decide (kindF d L = 10)) L.tail (argsOf (kindF d L)).toNat) (stL (exF d) (decide (kindF d L = 10)) L.tail (argsOf (kindF d L)).toNat)
def PL (L : List Int) : Prop := (∀ a ∈ L, I64 a) ∧ L.length ≤ 100
theorem PL.tail {L : List Int} (h : PL L) : PL L.tail := ⟨fun a ha => h.1 a (List.mem_of_mem_tail ha), by have := h.2; simp; omega⟩
theorem stL_PL {g : Bool → List Int → Ex × List Int} (hg : ∀ c L, PL L → PL (g c L).2) (b : Bool) {L : List Int} (h : PL L) : ∀ j, PL (stL g b L j)
 | 0 => h
 | j + 1 => hg _ _ (stL_PL hg b h j)
theorem finF_PL (k : Int) (l : List Ex) {L : List Int} (h : PL L) : PL (finF k l L).2 := by
 unfold finF
 split
 ·exact h.tail
 ·split
  ·exact h.tail
  ·split
   ·exact h.tail
   ·exact h
theorem exF_PL : ∀ (d : Nat) (c : Bool) (L : List Int), PL L → PL (exF d c L).2
 | 0, _, _, h => h
 | d + 1, true, L, h => by
  unfold exF
  split
  ·exact h.tail
  ·split
   ·exact h.tail.tail
   ·exact exF_PL d _ _ (exF_PL d _ _ h.tail)
 | d + 1, false, L, h => by
  unfold exF
  exact finF_PL _ _ (stL_PL (exF_PL d) _ h.tail _)
theorem kindF_rng (d : Nat) (L : List Int) : 1 ≤ kindF d L ∧ kindF d L ≤ 10 ∧ (d = 0 → kindF d L ≤ 4) := by
 have := nx_rng (L := L) (n := 10) (by omega)
 unfold kindF
 split
 ·rw [Int.tmod_eq_emod_of_nonneg (by omega)]; omega
 ·omega
theorem argsOf_rng {k : Int} (h : 1 ≤ k ∧ k ≤ 10) : 0 ≤ argsOf k ∧ argsOf k ≤ 3 := by
 unfold argsOf
 repeat' split
 all_goals omega
theorem argsOf_low {k : Int} (h : 1 ≤ k ∧ k ≤ 4) : argsOf k = 0 := by
 unfold argsOf
 rw [if_pos (by omega)]
theorem nextOk {L : List Int} (h : PL L) (n : Int) (hn : 0 < n) : Ok E 47 [[.c (.row (encN L))]] [.ptr 0 0, pI n] (pI (nx L n)) [[.c (.row (encN L.tail))]] := next_ok L h.1 h.2 n hn
abbrev srcB (L : List Int) : List PV := [.c (.row (encN L))]
theorem callNext {L : List Int} (h : PL L) {n : Int} (hn : 0 < n) {H : List (List PV)} (hH : H[0]? = some (srcB L)) : SCallR E 47 H [.ptr 0 0, pI n] (pI (nx L n)) (H.set 0 (srcB L.tail)) :=
 SCallR.one (i := 0) (nextOk h n hn) (by simp [getL, hH]) rfl rfl rfl rfl rfl
def ExprOk (d : Nat) : Prop := ∀ (c : Bool) (L : List Int), PL L → Ok E 28 [srcB L] [.ptr 0 0, pI d, pB c] (pE (exF d c L).1) [srcB (exF d c L).2]
theorem callExpr {d : Nat} (hd : ExprOk d) {L : List Int} (h : PL L) {n : Int} (hn : n = d) {c : Bool} {H : List (List PV)} (hH : H[0]? = some (srcB L)) : SCallR E 28 H [.ptr 0 0, pI n, pB c] (pE (exF d c L).1) (H.set 0 (srcB (exF d c L).2)) := by
 subst hn
 exact SCallR.one (i := 0) (hd c L h) (by simp [getL, hH]) rfl rfl rfl rfl rfl
theorem wkE (k n : Int) (nm : ByteArray) : Wk (.agg [.int .i64 k, .int .i64 n, .str nm, .nil]) (pE ⟨k, n, nm, []⟩) := Wk.aggC (by
 show WkC _ [_, _, _, .row (encL [])]
 rw [encL_map]
 exact .same (.same (.same (.row .nil))))
theorem wkE2 (k n : Int) (nm : ByteArray) (l : List Ex) {xs : List (List CV)} (h : xs = l.map cellsE) : Wk (.agg [.int .i64 k, .int .i64 n, .str nm, .row xs]) (pE ⟨k, n, nm, l⟩) := by
 subst h
 show Wk _ (.agg [_, _, _, .row (encL l)])
 rw [encL_map]
 exact Wk.refl _
theorem expr_cond (d : Nat) (hd : d ≤ 4) (IH : 1 ≤ d → ExprOk d) (L : List Int) (h : PL L) : Ok E 28 [srcB L] [.ptr 0 0, pI (d + 1 : Nat), pB true] (pE (exF (d + 1) true L).1) [srcB (exF (d + 1) true L).2] := by
 refine Ok.enter hE Tryz.func28 rfl (by decide +kernel) (by kernel_rfl) rfl rfl (Nat.le_of_ble_eq_true rfl) rfl ?_
 by_cases h0 : d = 0
 ·subst h0
  have e : exF 1 true L = (moreE (nx L 7), L.tail) := by rw [exF, if_pos rfl]
  show wpC E _ (retK E _ (pE (exF 1 true L).1) [srcB (exF 1 true L).2]) _
  rw [e]
  refine ⟨_, ltT (by show (1 : Int) < 2; decide), ?_⟩
  refine .inl ⟨_, _, callNext h (by decide) rfl, ?_⟩
  exact ⟨_, rfl, wkE _ _ _, rfl, .cons (WkL.refl _) rfl (.nil _)⟩
 ·refine ⟨_, ltN (by omega), ?_⟩
  refine .inl ⟨_, _, callNext h (by decide) rfl, ?_⟩
  by_cases h2 : nx L 2 = 0
  ·have e : exF (d + 1) true L = (moreE (nx L.tail 7), L.tail.tail) := by rw [exF, if_neg h0, if_pos h2]
   rw [e]
   refine ⟨_, eqT h2, ?_⟩
   refine .inl ⟨_, _, callNext h.tail (by decide) rfl, ?_⟩
   exact ⟨_, rfl, wkE _ _ _, rfl, .cons (WkL.refl _) rfl (.nil _)⟩
  ·have e : exF (d + 1) true L = (⟨12, 0, e0, [(exF d false L.tail).1, (exF d false (exF d false L.tail).2).1]⟩, (exF d false (exF d false L.tail).2).2) := by rw [exF, if_neg h0, if_neg h2]
   rw [e]
   refine ⟨_, eqN h2, ?_⟩
   refine ⟨_, subV (z := (d : Int)) (by omega) (by omega) (by omega), ?_⟩
   refine .inl ⟨_, _, callExpr (IH (by omega)) h.tail rfl rfl, ?_⟩
   refine ⟨_, subV (z := (d : Int)) (by omega) (by omega) (by omega), ?_⟩
   refine .inl ⟨_, _, callExpr (IH (by omega)) (exF_PL d _ _ h.tail) rfl rfl, ?_⟩
   refine ⟨_, ⟨_, rfl, rfl⟩, ?_⟩
   exact ⟨_, rfl, wkE2 _ _ _ _ rfl, rfl, .cons (WkL.refl _) rfl (.nil _)⟩
def cellA (l : List (List CV)) : Nat → PV
 | 0 => .c .nil
 | _ + 1 => .orow l 0
def tokA : Nat → List (Nat × Nat)
 | 0 => []
 | j + 1 => [(j + 1, 45)]
theorem argsL_succ (g : Bool → List Int → Ex × List Int) (b : Bool) (L : List Int) (j : Nat) : argsL g b L (j + 1) = argsL g b L j ++ [xL g b L j] := by
 unfold argsL
 rw [List.range_succ, List.map_append]; rfl
theorem argsL_len (g : Bool → List Int → Ex × List Int) (b : Bool) (L : List Int) (j : Nat) : (argsL g b L j).length = j := by simp [argsL]
theorem cells_len (l : List Ex) : ∀ x ∈ l.map cellsE, x.length = 4 := by
 intro x hx
 obtain ⟨y, -, rfl⟩ := List.mem_map.1 hx
 rfl
theorem headH {g : Bool → List Int → Ex × List Int} {b c : Bool} {L : List Int} {j : Nat} (ff : stL g b L (j + 1) = (g c (stL g b L j)).2 ∧ argsL g b L (j + 1) = argsL g b L j ++ [(g c (stL g b L j)).1]) (kind : Int) :
  ([srcB (g c (stL g b L j)).2, [pI 0, pI 0, pS e0, .c .nil], [pI kind, pI 0, pS e0, .orow ((argsL g b L j).map cellsE ++ [cellsE (g c (stL g b L j)).1]) 0]] : List (List PV)) = [srcB (stL g b L (j + 1)), [pI 0, pI 0, pS e0, .c .nil], [pI kind, pI 0, pS e0, cellA ((argsL g b L (j + 1)).map cellsE) (j + 1)]] := by
 rw [ff.1, ff.2, List.map_append]; rfl
theorem expr_if (d : Nat) (hd : d ≤ 4) (IH : 1 ≤ d → ExprOk d) (L : List Int) (h : PL L) : Ok E 28 [srcB L] [.ptr 0 0, pI (d + 1 : Nat), pB false] (pE (exF (d + 1) false L).1) [srcB (exF (d + 1) false L).2] := by
 have e : exF (d + 1) false L = finF (kindF d L) (argsL (exF d) (decide (kindF d L = 10)) L.tail (argsOf (kindF d L)).toNat) (stL (exF d) (decide (kindF d L = 10)) L.tail (argsOf (kindF d L)).toNat) := by rw [exF]
 rw [e]
 have hkr := kindF_rng d L
 obtain ⟨kind, hk⟩ : ∃ k, kindF d L = k := ⟨_, rfl⟩
 rw [hk] at hkr ⊢
 have har := argsOf_rng (k := kind) ⟨hkr.1, hkr.2.1⟩
 obtain ⟨m, hm⟩ : ∃ m : Nat, argsOf kind = m := ⟨(argsOf kind).toNat, by omega⟩
 rw [hm] at har ⊢
 rw [Int.toNat_natCast]
 have hnx := nx_rng (L := L) (n := 10) (by omega)
 obtain ⟨b, hb⟩ : ∃ b, decide (kind = 10) = b := ⟨_, rfl⟩
 rw [hb]
 have hP : ∀ j, PL (stL (exF d) b L.tail j) := stL_PL (exF_PL d) b h.tail
 obtain ⟨R, hR⟩ : ∃ R, finF kind (argsL (exF d) b L.tail m) (stL (exF d) b L.tail m) = R := ⟨_, rfl⟩
 rw [hR]
 refine Ok.enter hE Tryz.func28 rfl (by decide +kernel) (by kernel_rfl) rfl rfl (Nat.le_of_ble_eq_true rfl) rfl ?_
 refine .inl ⟨_, _, callNext h (by decide) rfl, ?_⟩
 by_cases hd0 : d = 0
 have hk1 : 1 + (1 + nx L 10).tmod 4 = kind := by rw [← hk, kindF, if_pos hd0]
 have hk2 : (1 + nx L 10).tmod 4 = kind - 1 := by omega
 refine ⟨_, addV rfl (by omega) (by omega), ?_⟩
 refine ⟨_, ltT (by omega), ?_⟩
 refine ⟨_, remV (by omega) hk2, ?_⟩
 refine ⟨_, addV (z := kind) (by omega) (by omega) (by omega), ?_⟩
 rotate_left
 have hk1 : 1 + nx L 10 = kind := by rw [← hk, kindF, if_neg hd0]
 refine ⟨_, addV hk1 (by omega) (by omega), ?_⟩
 refine ⟨_, ltN (by omega), ?_⟩
 all_goals
  refine Loop.run (α := Nat) (fun j => j ≤ m) (fun j => [(0, .ptr 0 0), (1, pI (d + 1 : Nat)), (6, .ptr 1 0), (7, pI kind), (8, .ptr 2 0), (9, pI j)])
   (fun j => [srcB (stL (exF d) b L.tail j), [pI 0, pI 0, pS e0, .c .nil], [pI kind, pI 0, pS e0, cellA ((argsL (exF d) b L.tail j).map cellsE) j]]) tokA (fun j => m - j) 0 (Nat.zero_le _) ⟨⟨rfl, rfl, rfl, rfl, rfl, rfl, trivial⟩, rfl, rfl⟩ ?_
  intro j f hj
  refine ⟨_, CallR.mk1 (Args_ok kind) rfl rfl, ?_⟩
  by_cases hjm : j < m
  ·refine ⟨_, ltT (by omega), ?_⟩
   have hd1 : 1 ≤ d := by
    by_cases hd0 : d = 0
    ·have := argsOf_low (k := kind) ⟨hkr.1, hkr.2.2 hd0⟩; omega
    ·omega
   have fin : ∀ c, (b && Nat.beq j 0) = c → stL (exF d) b L.tail (j + 1) = (exF d c (stL (exF d) b L.tail j)).2 ∧ argsL (exF d) b L.tail (j + 1) = argsL (exF d) b L.tail j ++ [(exF d c (stL (exF d) b L.tail j)).1] := by
    intro c hc
    exact ⟨by rw [stL, hc], by rw [argsL_succ, xL, hc]⟩
   cases j with
   | zero =>
    refine ⟨_, subV (z := (d : Int)) (by omega) (by omega) (by omega), ?_⟩
    by_cases h10 : kind = 10
    ·have ff := fin true (by rw [← hb, decide_eq_true h10]; rfl)
     refine ⟨_, eqT h10, ?_⟩
     refine ⟨_, eqT rfl, ?_⟩
     refine .inl ⟨_, _, callExpr (IH hd1) (hP 0) rfl rfl, ?_⟩
     refine ⟨_, ⟨_, rfl, rfl⟩, ?_⟩
     refine ⟨_, _, AppR.first1 rfl rfl (by decide) rfl rfl rfl (by decide), ?_⟩
     refine ⟨_, addV rfl (by decide) (by decide), ?_⟩
     exact ⟨1, hjm, by omega, ⟨rfl, rfl, rfl, rfl, rfl, rfl, trivial⟩, headH ff kind, rfl⟩
    ·have ff := fin false (by rw [← hb, decide_eq_false h10]; rfl)
     refine ⟨_, eqN h10, ?_⟩
     refine .inl ⟨_, _, callExpr (IH hd1) (hP 0) rfl rfl, ?_⟩
     refine ⟨_, ⟨_, rfl, rfl⟩, ?_⟩
     refine ⟨_, _, AppR.first1 rfl rfl (by decide) rfl rfl rfl (by decide), ?_⟩
     refine ⟨_, addV rfl (by decide) (by decide), ?_⟩
     exact ⟨1, hjm, by omega, ⟨rfl, rfl, rfl, rfl, rfl, rfl, trivial⟩, headH ff kind, rfl⟩
   | succ j =>
    refine ⟨_, subV (z := (d : Int)) (by omega) (by omega) (by omega), ?_⟩
    by_cases h10 : kind = 10
    ·have ff := fin false (by rw [← hb, decide_eq_true h10]; rfl)
     refine ⟨_, eqT h10, ?_⟩
     refine ⟨_, eqN (by omega), ?_⟩
     refine .inl ⟨_, _, callExpr (IH hd1) (hP (j + 1)) rfl rfl, ?_⟩
     refine ⟨_, ⟨_, rfl, rfl⟩, ?_⟩
     refine ⟨_, _, AppR.more1 (j + 1) rfl rfl (by decide) rfl rfl (by rw [List.length_map, argsL_len]) (cells_len _) rfl rfl (by omega) (by show (j + 1 + 1) * 56 ≤ _; omega), ?_⟩
     refine ⟨_, addV rfl (by omega) (by omega), ?_⟩
     exact ⟨j + 1 + 1, hjm, by omega, ⟨rfl, rfl, rfl, rfl, rfl, rfl, trivial⟩, headH ff kind, rfl⟩
    ·have ff := fin false (by rw [← hb, decide_eq_false h10]; rfl)
     refine ⟨_, eqN h10, ?_⟩
     refine .inl ⟨_, _, callExpr (IH hd1) (hP (j + 1)) rfl rfl, ?_⟩
     refine ⟨_, ⟨_, rfl, rfl⟩, ?_⟩
     refine ⟨_, _, AppR.more1 (j + 1) rfl rfl (by decide) rfl rfl (by rw [List.length_map, argsL_len]) (cells_len _) rfl rfl (by omega) (by show (j + 1 + 1) * 56 ≤ _; omega), ?_⟩
     refine ⟨_, addV rfl (by omega) (by omega), ?_⟩
     exact ⟨j + 1 + 1, hjm, by omega, ⟨rfl, rfl, rfl, rfl, rfl, rfl, trivial⟩, headH ff kind, rfl⟩
  ·refine ⟨_, ltN (by omega), ?_⟩
   have hjm : j = m := by omega
   subst hjm
   have hn1 := nx_rng (L := stL (exF d) b L.tail j) (n := 60) (by omega)
   by_cases h3 : kind = 3
   ·have hRe : R = (⟨kind, 0, sellerB (nx (stL (exF d) b L.tail j) 60), argsL (exF d) b L.tail j⟩, (stL (exF d) b L.tail j).tail) := by rw [← hR, finF, if_pos h3]
    subst hRe
    refine ⟨_, eqT h3, ?_⟩
    refine .inl ⟨_, _, callNext (hP j) (by decide) rfl, ?_⟩
    refine ⟨_, CallR.mk1 (Seller_ok _ ⟨by omega, by omega⟩) rfl rfl, ?_⟩
    cases j with
    | zero => exact ⟨_, rfl, wkE _ _ _, rfl, .cons (WkL.refl _) rfl (.nil _)⟩
    | succ j => exact ⟨_, rfl, wkE2 _ _ _ _ rfl, rfl, .cons (WkL.refl _) rfl (.nil _)⟩
   refine ⟨_, eqN h3, ?_⟩
   by_cases h45 : kind = 4 ∨ kind = 5
   ·have hRe : R = (⟨kind, nx (stL (exF d) b L.tail j) 3000, e0, argsL (exF d) b L.tail j⟩, (stL (exF d) b L.tail j).tail) := by rw [← hR, finF, if_neg h3, if_pos h45]
    subst hRe
    by_cases h4 : kind = 4
    ·refine ⟨_, eqT h4, ?_⟩
     refine .inl ⟨_, _, callNext (hP j) (by decide) rfl, ?_⟩
     cases j with
     | zero => exact ⟨_, rfl, wkE _ _ _, rfl, .cons (WkL.refl _) rfl (.nil _)⟩
     | succ j => exact ⟨_, rfl, wkE2 _ _ _ _ rfl, rfl, .cons (WkL.refl _) rfl (.nil _)⟩
    ·refine ⟨_, eqN h4, ?_⟩
     refine ⟨_, eqT (by omega), ?_⟩
     refine .inl ⟨_, _, callNext (hP j) (by decide) rfl, ?_⟩
     cases j with
     | zero => exact ⟨_, rfl, wkE _ _ _, rfl, .cons (WkL.refl _) rfl (.nil _)⟩
     | succ j => exact ⟨_, rfl, wkE2 _ _ _ _ rfl, rfl, .cons (WkL.refl _) rfl (.nil _)⟩
   refine ⟨_, eqN (by omega), ?_⟩
   refine ⟨_, eqN (by omega), ?_⟩
   by_cases h6 : kind = 6
   ·have hRe : R = (⟨kind, nx (stL (exF d) b L.tail j) 12000, e0, argsL (exF d) b L.tail j⟩, (stL (exF d) b L.tail j).tail) := by rw [← hR, finF, if_neg h3, if_neg h45, if_pos h6]
    subst hRe
    refine ⟨_, eqT h6, ?_⟩
    refine .inl ⟨_, _, callNext (hP j) (by decide) rfl, ?_⟩
    cases j with
    | zero => exact ⟨_, rfl, wkE _ _ _, rfl, .cons (WkL.refl _) rfl (.nil _)⟩
    | succ j => exact ⟨_, rfl, wkE2 _ _ _ _ rfl, rfl, .cons (WkL.refl _) rfl (.nil _)⟩
   ·have hRe : R = (⟨kind, 0, e0, argsL (exF d) b L.tail j⟩, stL (exF d) b L.tail j) := by rw [← hR, finF, if_neg h3, if_neg h45, if_neg h6]
    subst hRe
    refine ⟨_, eqN h6, ?_⟩
    cases j with
    | zero => exact ⟨_, rfl, wkE _ _ _, rfl, .cons (WkL.refl _) rfl (.nil _)⟩
    | succ j => exact ⟨_, rfl, wkE2 _ _ _ _ rfl, rfl, .cons (WkL.refl _) rfl (.nil _)⟩
end Go.Proofs.YtgpkppohfodhdaaGreatDoor.Pm
namespace Go.Proofs.YtgpkppohfodhdaaGreatDoor.Pm
open Go
set_option linter.unusedVariables false
set_option linter.unusedSimpArgs false
set_option maxHeartbeats 400000
theorem expr_ok : ∀ d, d ≤ 5 → 1 ≤ d → ExprOk d
 | 0, _, h => by omega
 | d + 1, h5, _ => fun c L h => match c with
  | true => expr_cond d (by omega) (fun h1 => expr_ok d (by omega) h1) L h
  | false => expr_if d (by omega) (fun h1 => expr_ok d (by omega) h1) L h
def stratF (raw : List Int) : Ex := (exF 5 false (raw.take 100)).1
theorem encN_len (l : List Int) : (encN l).length = l.length := by simp [encN]
theorem strat_ok (raw : List Int) (h : ∀ a ∈ raw, I64 a) (hl : raw.length ≤ 9223372036854775807) : Ok E 19 [] [.c (.row (encN raw))] (pE (stratF raw)) [] := by
 have hP : PL (raw.take 100) := ⟨fun a ha => h a (List.mem_of_mem_take ha), by simp; omega⟩
 have IH := expr_ok 5 (by omega) (by omega)
 have hex := IH false _ hP
 refine Ok.enter hE Tryz.func19 rfl (by decide +kernel) (by kernel_rfl) rfl rfl (Nat.le_of_ble_eq_true rfl) rfl ?_
 by_cases hgt : raw.length > 100
 ·refine ⟨_, gtT (by rw [encN_len]; omega), ?_⟩
  refine ⟨_, sliceRV 0 100 rfl rfl rfl rfl (by rw [encN_len]; omega) (by intro x hx; simp [encN] at hx; obtain ⟨a, -, rfl⟩ := hx; rfl), ?_⟩
  refine .inl ⟨_, _, SCallR.oneW (i := 1) hex rfl ?_ rfl rfl rfl rfl rfl, ?_⟩
  ·have e : (encN (raw.take 100)) = ((encN raw).take 100).drop 0 := by simp [encN, List.map_take]
   unfold srcB
   rw [e]
   exact WkL.refl _
  ·exact ⟨_, rfl, Wk.refl _, rfl, .nil _⟩
 ·refine ⟨_, gtN (by rw [encN_len]; omega), ?_⟩
  refine .inl ⟨_, _, SCallR.oneW (i := 1) hex rfl ?_ rfl rfl rfl rfl rfl, ?_⟩
  ·rw [List.take_of_length_le (by omega)]
   exact WkL.refl _
  ·exact ⟨_, rfl, Wk.refl _, rfl, .nil _⟩
mutual
def size : Ex → Int
 | ⟨_, _, _, l⟩ => 1 + sizeL l
def sizeL : List Ex → Int
 | [] => 0
 | x :: l => size x + sizeL l
end
mutual
def deep : Ex → Int
 | ⟨_, _, _, l⟩ => 1 + deepL l
def deepL : List Ex → Int
 | [] => 0
 | x :: l => max (deep x) (deepL l)
end
mutual
theorem size_pos : ∀ x : Ex, 0 < size x
 | ⟨_, _, _, l⟩ => by rw [size]; have := sizeL_pos l; omega
theorem sizeL_pos : ∀ l : List Ex, 0 ≤ sizeL l
 | [] => by rw [sizeL]; omega
 | x :: l => by rw [sizeL]; have := size_pos x; have := sizeL_pos l; omega
end
theorem sizeL_append (l r : List Ex) : sizeL (l ++ r) = sizeL l + sizeL r := by
 induction l with
 | nil => rw [List.nil_append, sizeL]; omega
 | cons x l ih => rw [List.cons_append, sizeL, sizeL, ih]; omega
theorem take_snoc {l : List Ex} {j : Nat} {x : Ex} (h : l[j]? = some x) : l.take (j + 1) = l.take j ++ [x] := by rw [List.take_add_one, h]; rfl
theorem sizeL_take (l : List Ex) (j : Nat) (x : Ex) (h : l[j]? = some x) : sizeL (l.take (j + 1)) = sizeL (l.take j) + size x := by
 rw [take_snoc h, sizeL_append, sizeL, sizeL]; omega
theorem sizeL_le (l : List Ex) (j : Nat) : sizeL (l.take j) ≤ sizeL l := by
 have := sizeL_append (l.take j) (l.drop j)
 rw [List.take_append_drop] at this
 have := sizeL_pos (l.drop j)
 omega
theorem sizeL_len (l : List Ex) : (l.length : Int) ≤ sizeL l := by
 induction l with
 | nil => rw [sizeL]; simp
 | cons x l ih => rw [sizeL]; have := size_pos x; simp; omega
theorem enc_len (l : List Ex) : (encL l).length = l.length := by rw [encL_map, List.length_map]
theorem enc_get {l : List Ex} {j : Nat} {y : Ex} (hy : l[j]? = some y) : (encL l)[j]? = some (cellsE y) := by rw [encL_map, List.getElem?_map, hy]; rfl
theorem Size_ok : ∀ (x : Ex), size x ≤ 9223372036854775807 → Ok E 50 [] [pE x] (pI (size x)) []
 | ⟨k, n, nm, l⟩, h => by
  have h' : 1 + sizeL l ≤ 9223372036854775807 := by rw [size] at h; exact h
  have hll := sizeL_len l
  have hel := enc_len l
  refine Ok.enter hE Tryz.func50 rfl (by decide +kernel) (by kernel_rfl) rfl rfl (Nat.le_of_ble_eq_true rfl) rfl ?_
  refine Loop.cut (α := Nat) (fun j => j ≤ l.length) (fun j => [(1, .ptr 0 0), (3, pI (1 + sizeL (l.take j))), (7, .c (.row (encL l))), (8, pI (encL l).length), (9, pI j)]) (fun j => [(cellsE ⟨k, n, nm, l⟩).map .c]) (fun _ => []) (fun j => l.length - j) 0 1 (fun _ => rfl) (fun _ => rfl) (fun _ => rfl) (Nat.zero_le _) ⟨⟨rfl, ?_, rfl, rfl, rfl, trivial⟩, rfl, rfl⟩ ?_
  ·show PV.c _ = _; rw [List.take_zero, sizeL]; rfl
  intro j f hj
  by_cases hjl : j < l.length
  ·obtain ⟨y, hy⟩ : ∃ y, l[j]? = some y := ⟨_, List.getElem?_eq_getElem hjl⟩
   have hst := sizeL_take l j y hy
   have hle := sizeL_le l (j + 1)
   have hp := sizeL_pos (l.take j)
   have hpy := size_pos y
   refine ⟨_, ltT (by omega), ?_⟩
   refine ⟨_, idxV (j := j) (enc_get hy) rfl rfl rfl rfl, ?_⟩
   refine ⟨_, CallR.mk1 (Size_ok y (by omega)) rfl rfl, ?_⟩
   refine ⟨_, addV (z := 1 + sizeL (l.take (j + 1))) (by omega) (by omega) (by omega), ?_⟩
   refine ⟨_, addV rfl (by omega) (by omega), ?_⟩
   exact ⟨j + 1, hjl, by omega, ⟨rfl, rfl, rfl, rfl, rfl, trivial⟩, ⟨_, rfl⟩, rfl⟩
  ·refine ⟨_, ltN (by omega), ?_⟩
   have : j = l.length := by omega
   exact Ret.mk _ rfl (by show PV.c _ = _; rw [this, List.take_length, size]) rfl
termination_by x => SizeOf.sizeOf x
decreasing_by
 have := List.sizeOf_lt_of_mem (List.mem_of_getElem? hy)
 simp only [Go.Proofs.YtgpkppohfodhdaaGreatDoor.Q.S45.mk.sizeOf_spec]
 omega
end Go.Proofs.YtgpkppohfodhdaaGreatDoor.Pm
namespace Go.Proofs.YtgpkppohfodhdaaGreatDoor.Pm
open Go Go.RowKit Go.Proofs.YtgpkppohfodhdaaGreatDoorW.PrintWords Go.Proofs.YtgpkppohfodhdaaGreatDoorW.PrintLast Go.Proofs.YtgpkppohfodhdaaGreatDoorW.PrintMore
set_option linter.unusedVariables false
set_option linter.unusedSimpArgs false
set_option maxHeartbeats 400000
theorem Mem.below {E : Env} (hE : EnvOK E) {w w' : World} {ok : Nat → Nat → Prop} (M : Mem E ⟨w, ok, [], []⟩ [] [] [] ok w) (hb : Below w.heap.size w w') : Mem E ⟨w, ok, [], []⟩ [] [] [] ok w' where
 inv := hE.stable w w' M.inv hb.size fun b h => hb.block b (Nat.lt_of_lt_of_le h (hE.glob w M.inv))
 os := hb.os
 tape := hb.tape
 output := hb.output
 size := hb.size
 frame := fun k hk _ _ => hb.block k hk
 okb := M.okb
 oks := fun b o h => Nat.lt_of_lt_of_le (M.oks b o h) hb.size
 len := rfl
 box := fun i b h => by simp at h
 inj := fun i j b h => by simp at h
 tok := fun t r h => by simp at h
 tinj := fun t u r s g h => by simp at h
 gb := M.gb
 tsz := fun t r i h => by simp at h
 stk := .nil
theorem Ok.ofBelow {E : Env} (hE : EnvOK E) {f : FuncId} {args : List PV} {r : PV} (hc : Callable E.P f) (h : ∀ (w : World) (ok : Nat → Nat → Prop) (vals : Array Value), E.I w → RepL (Rep w ok [] []) vals.toList args → ∃ v : Value, (∀ w', Rep w' ok [] [] v r) ∧ Calls E.P f vals w fun e w' => e = .returned v ∧ Below w.heap.size w w') : Ok E f [] args r [] := by
 refine ⟨hc, fun w ok ms gs vals hst M hr => ?_⟩
 have hm : ms = [] := by have := M.len; simpa using this
 subst hm
 obtain rfl : gs = [] := hst rfl
 obtain ⟨v, hv, hcall⟩ := h w ok vals M.inv hr
 refine hcall.mono ?_
 rintro e w' ⟨rfl, hb⟩
 exact ⟨v, ok, rfl, M.below hE hb, fun _ _ h => h, hv w'⟩
section
variable {w : World} {ok : Nat → Nat → Prop}
theorem RepC.row_inv {v : Value} {xs : List (List CV)} (h : RepC w ok v (.row xs)) : ∃ A cap, v = .slice A xs.length cap ∧ xs.length ≤ cap := by
 cases h with
 | row A len cap xs sz vs hl hcap hnil hpos hsz hA hr => subst hl; exact ⟨A, cap, rfl, hcap⟩
theorem ok_C : ∀ (s : Nat) (l : List Ex), SizeOf.sizeOf l < s → ∀ A cap, l.length ≤ 9223372036854775807 → Q.rngA l = true → RepC w ok (.slice A l.length cap) (.row (encL l)) → Kd.C Q.k45 w A l.length l := by
 intro s
 induction s with
 | zero => intro l h; omega
 | succ s ih =>
  intro l hs A cap hl hrng h
  obtain ⟨n', xs', hn', hxs', h'⟩ : ∃ n xs, n = l.length ∧ xs = encL l ∧ RepC w ok (.slice A n cap) (.row xs) := ⟨_, _, rfl, rfl, h⟩
  cases h' with
  | row _ len _ xs sz vs hlen hcap hnil hpos hsz hA hr =>
   subst hxs'
   refine ⟨rfl, hl, fun hp => ?_⟩
   have hsz4 : ∀ (j : Nat) (x : Ex), l[j]? = some x → sz = 4 := fun j x hj => by
    have := hsz (cellsE x) (List.mem_of_getElem? (enc_get hj))
    exact this.symm
   have hs4 : sz = 4 := by
    obtain ⟨x, hx⟩ : ∃ x, l[0]? = some x := ⟨_, List.getElem?_eq_getElem hp⟩
    exact hsz4 0 x hx
   subst hs4
   obtain ⟨ad, hAd, -, -⟩ := hA 0 (by omega)
   refine ⟨ad, hAd, fun j x hj => ?_⟩
   have hjl := (List.getElem?_eq_some_iff.1 hj).1
   have hc := hr j (cellsE x) 
   have h3 := hc 3 _ (enc_get hj) rfl
   obtain ⟨A3, c3, hv3, hc3⟩ := h3.row_inv
   rw [enc_len] at hv3 hc3
   have h0 := hc 0 _ (enc_get hj) rfl
   have h1 := hc 1 _ (enc_get hj) rfl
   have h2 := hc 2 _ (enc_get hj) rfl
   have hmem := List.mem_of_getElem? hj
   have hso := List.sizeOf_lt_of_mem hmem
   have hrx := Q.rngA_mem l hrng x hmem
   have hl3 : x.f3.length < 4611686018427387904 ∧ Q.rngA x.f3 = true := by
    obtain ⟨k, n, nm, l3⟩ := x
    rw [Q.rngE, Bool.and_eq_true] at hrx
    exact ⟨(of_decide_eq_true hrx.1).2, hrx.2⟩
   rw [hv3] at h3
   have hk := Q.k45_mk w x hc3 (ih x.f3 (by
    obtain ⟨k, n, nm, l3⟩ := x
    rw [Q.S45.mk.sizeOf_spec] at hso
    show SizeOf.sizeOf l3 < s
    omega) A3 c3 (by omega) hl3.2 h3)
   refine ⟨_, rfl, hk, fun i u hu => ?_⟩
   have hlt : i < 4 := by have := (List.getElem?_eq_some_iff.1 hu).1; simpa using this
   obtain ⟨ad', hAd', -, hcell⟩ := hA (j * 4 + i) (by omega)
   rw [hAd] at hAd'
   injection hAd' with hAd'
   subst hAd'
   show w.cell? (ad.add (j * 4 + i)) = some u
   rw [hcell]
   have hi : i = 0 ∨ i = 1 ∨ i = 2 ∨ i = 3 := by omega
   rcases hi with rfl | rfl | rfl | rfl
   ·simp at hu; subst hu
    generalize vs (j * 4 + 0) = y at h0; cases h0; rfl
   ·simp at hu; subst hu
    generalize vs (j * 4 + 1) = y at h1; cases h1; rfl
   ·simp at hu; subst hu
    generalize vs (j * 4 + 2) = y at h2; cases h2; rfl
   ·simp at hu; subst hu
    rw [hv3]
end
theorem one_str {w : World} {ok : Nat → Nat → Prop} {vals : Array Value} {s : ByteArray} (h : RepL (Rep w ok [] []) vals.toList [pS s]) : vals = #[.string s] := by
 apply Array.ext'
 match hv : vals.toList, h with
 | [v], h => rw [h.head.str_inv]
theorem Word_ok (s : ByteArray) : Ok E 102 [] [pS s] (pB (Lib.containsS Q.wordsB s)) [] := by
 refine Ok.ofBelow hE ⟨_, Tryz.func102, by decide +kernel, by kernel_rfl⟩ fun w ok vals hI hr => ?_
 refine ⟨.bool (Lib.containsS Q.wordsB s), fun _ => .mkBool _, ?_⟩
 obtain rfl := one_str hr
 exact Q.lex_Word.calls s _ w rfl
theorem agg_inv {w : World} {ok : Nat → Nat → Prop} {v : Value} {x : Ex} (h : Rep w ok [] [] v (pE x)) : ∃ A c, v = .agg #[.int .i64 x.f0, .int .i64 x.f1, .string x.f2, .slice A x.f3.length c] ∧ x.f3.length ≤ c ∧ RepC w ok (.slice A x.f3.length c) (.row (encL x.f3)) := by
 cases h with
 | agg cs _ h =>
  obtain ⟨hl, hg⟩ := h
  have hl : cs.toList.length = 4 := hl
  match hv : cs.toList, hl with
  | [a, b, c, d], _ =>
   rw [hv] at hg
   have h0 := hg 0 _ _ rfl rfl
   have h1 := hg 1 _ _ rfl rfl
   have h2 := hg 2 _ _ rfl rfl
   have h3 := hg 3 _ _ rfl rfl
   obtain ⟨A, cap, rfl, hc⟩ := h3.row_inv
   rw [enc_len] at h3 hc
   refine ⟨A, cap, ?_, hc, h3⟩
   congr 1
   apply Array.ext'
   rw [hv]
   cases h0; cases h1; cases h2
   rw [enc_len]
theorem rng_len {x : Ex} (h : Q.rngE x = true) : x.f3.length ≤ 9223372036854775807 ∧ Q.rngA x.f3 = true := by
 obtain ⟨k, n, nm, l⟩ := x
 rw [Q.rngE, Bool.and_eq_true] at h
 have := (of_decide_eq_true h.1).2
 exact ⟨by show l.length ≤ _; omega, h.2⟩
theorem text_ok (x : Ex) (hr : Q.rngE x = true) (hne : Q.txtE x ≠ []) (hl : (Q.txtE x).length ≤ 70368744177664) : Ok E 51 [] [pE x] (pS (Pl.B (Q.txtE x))) [] := by
 refine Ok.ofBelow hE ⟨_, Tryz.func51, by decide +kernel, by kernel_rfl⟩ fun w ok vals hI hv => ?_
 refine ⟨.string (Pl.B (Q.txtE x)), fun _ => .mkStr _, ?_⟩
 match hvl : vals.toList, hv with
 | [v], hv =>
  obtain ⟨A, c, rfl, hc, hR⟩ := agg_inv hv.head
  obtain ⟨g1, g2⟩ := rng_len hr
  have hvals : vals = #[.agg #[.int .i64 x.f0, .int .i64 x.f1, .string x.f2, .slice A x.f3.length c]] := by apply Array.ext'; rw [hvl]
  subst hvals
  obtain ⟨k, n, nm, l⟩ := x
  exact Q.tree_text.calls k n nm A c l _ w (ok_C _ _ (Nat.lt_succ_self _) A c g1 g2 hR) hc ⟨hI.tab⟩ (by unfold Q.tree_text.f; exact if_pos ⟨hr, hne, hl⟩)
def formP (k : Int) : ByteArray × Int × Int × Bool := match Q.formT k with
 | some (w, m, a) => (⟨w.toArray⟩, m, a, true)
 | none => (⟨#[]⟩, 0, 0, false)
theorem Form_ok (k : Int) : Ok E 94 [] [pI k] (.tup [pS (formP k).1, pI (formP k).2.1, pI (formP k).2.2.1, pB (formP k).2.2.2]) [] := by
 refine Ok.ofBelow hE ⟨_, Tryz.func94, by decide +kernel, by kernel_rfl⟩ fun w ok vals hI hv => ?_
 refine ⟨.tuple #[.string (formP k).1, .int .i64 (formP k).2.1, .int .i64 (formP k).2.2.1, .bool (formP k).2.2.2], fun w' => .tup _ _ rfl fun i v d hv hd => ?_, ?_⟩
 ·match i with
  | 0 => simp at hv hd; subst hv; subst hd; exact .mkStr _
  | 1 => simp at hv hd; subst hv; subst hd; exact .mkInt _ _
  | 2 => simp at hv hd; subst hv; subst hd; exact .mkInt _ _
  | 3 => simp at hv hd; subst hv; subst hd; exact .mkBool _
  | n + 4 => simp at hv
 ·match hvl : vals.toList, hv with
  | [v], hv =>
   have hvals : vals = #[.int .i64 k] := by apply Array.ext'; rw [hvl, hv.head.int_inv]
   subst hvals
   refine Q.tree_Form.calls k _ _ _ _ w ?_
   unfold Q.tree_Form.f formP
   cases Q.formT k with
   | none => rfl
   | some p => rfl
theorem IndexByte_ok (s : ByteArray) (b : Int) : Ok E 134 [] [pS s, .c (.int .u8 b)] (pI (Lib.indexByte s.data.toList b.toNat.toUInt8)) [] := by
 refine Ok.ofBelow hE ⟨_, Tryz.func134, by decide +kernel, by kernel_rfl⟩ fun w ok vals hI hv => ?_
 refine ⟨.int .i64 (Lib.indexByte s.data.toList b.toNat.toUInt8), fun _ => .mkInt _ _, ?_⟩
 match hvl : vals.toList, hv with
 | [v, u], hv =>
  have hvals : vals = #[.string s, .int .u8 b] := by apply Array.ext'; rw [hvl, hv.head.str_inv, hv.tail.head.int_inv]
  subst hvals
  refine (Q.strings_IndexByte.calls s b _ w rfl).mono ?_
  rintro e w' ⟨rfl, hd⟩
  exact ⟨rfl, hd.below⟩
end Go.Proofs.YtgpkppohfodhdaaGreatDoor.Pm
