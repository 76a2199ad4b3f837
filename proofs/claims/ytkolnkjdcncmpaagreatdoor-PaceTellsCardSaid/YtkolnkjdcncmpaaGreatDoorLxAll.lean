/- Texts that are merged: LxA, LxE, LxB, LxC, LxD, LxH, LxI, LxJ, LxF, LxG, LxK, LxL, LxM, LxN, LxQ, LxS0. -/
import Derived.Test.YtkolnkjdcncmpaaGreatDoorPmBll
import Derived.Test.YtkolnkjdcncmpaaGreatDoorPlDec
import Derived.Test.YtkolnkjdcncmpaaGreatDoorWMore
import Derived.Test.YtkolnkjdcncmpaaGreatDoorWLast
import Derived.Test.YtkolnkjdcncmpaaGreatDoorWWords
import Derived.Test.YtkolnkjdcncmpaaGreatDoorShelf
import Derived.WalkSmall
import Derived.Lib.LaidTab
import Derived.Laws.RangeAny
import Derived.Laws.RangeString
import Derived.Lib.AppendIntMem
import Derived.Lib.AtoiErrMem
import Derived.RangeFuncNested
import Derived.RangeFuncBound
import Derived.RangeFuncBox
import Derived.RangeFuncCalls
import Derived.RangeFuncLeaves
import Derived.Shelf.Abstract
import Derived.Shelf.RegionOpen
import Derived.WalkKit
import Derived.OwnWalkIn
import Derived.TacticsInMore
import Derived.LoopNIn
import Derived.LoopIn
import Derived.Maps.AppendAt
/- Layers 2 and 6 in the pure machine: words for use, what the law's own numbers come to, layer 2 as the document has it. -/
namespace Go.Proofs.YtkolnkjdcncmpaaGreatDoor.Lx
open Go Go.RowKit Go.Proofs.YtkolnkjdcncmpaaGreatDoor.Pm Go.Proofs.YtkolnkjdcncmpaaGreatDoor.Pl
set_option linter.unusedVariables false
set_option maxHeartbeats 1000000
abbrev pI (n : Int) : PV := .c (.int .i64 n)
abbrev pB (b : Bool) : PV := .c (.bool b)
abbrev pS (s : ByteArray) : PV := .c (.str s)
/-- a row of numbers -/
def encN (l : List Int) : List (List CV) := l.map fun n => [.int .i64 n]
def pk (c n : Int) : Int := if c < 0 then (-(c + 1)).tmod n else c.tmod n
theorem pk_rng {c n : Int} (hn : 0 < n) : 0 ≤ pk c n ∧ pk c n < n := by
  unfold pk
  split
  · rw [Int.tmod_eq_emod_of_nonneg (by omega)]
    exact ⟨Int.emod_nonneg _ (by omega), Int.emod_lt_of_pos _ hn⟩
  · rw [Int.tmod_eq_emod_of_nonneg (by omega)]
    exact ⟨Int.emod_nonneg _ (by omega), Int.emod_lt_of_pos _ hn⟩
theorem pick_ok (c n : Int) (hc : I64 c) (hn : 0 < n) : Ok E 69 [] [pI c, pI n] (pI (pk c n)) [] := by
  obtain ⟨h0, h1⟩ := hc
  refine Ok.enter hE Tryz.func69 rfl (by decide +kernel) (by kernel_rfl) rfl rfl (Nat.le_of_ble_eq_true rfl) rfl ?_
  by_cases hneg : c < 0
  · refine ⟨_, ltT hneg, ?_⟩
    refine ⟨_, addV rfl (by omega) (by omega), ?_⟩
    refine ⟨_, negV rfl (by omega) (by omega), ?_⟩
    refine ⟨_, remV (by omega) rfl, ?_⟩
    exact Ret.mk _ rfl (by show PV.c _ = _; rw [pk, if_pos hneg]) rfl
  · refine ⟨_, ltN hneg, ?_⟩
    refine ⟨_, remV (by omega) rfl, ?_⟩
    exact Ret.mk _ rfl (by show PV.c _ = _; rw [pk, if_neg hneg]) rfl
theorem _root_.Go.Proofs.YtkolnkjdcncmpaaGreatDoor.Pm.Mem.below {E : Env} (hE : EnvOK E) {w w' : World} {ok : Nat → Nat → Prop} (M : Mem E ⟨w, ok, []⟩ [] [] [] ok w) (hb : Below w.heap.size w w') : Mem E ⟨w, ok, []⟩ [] [] [] ok w' where
  inv := hE.stable w w' M.inv hb.size fun b h => hb.block b (Nat.lt_of_lt_of_le h (hE.glob w M.inv))
  os := hb.os
  tape := hb.tape
  output := hb.output
  size := hb.size
  frame := fun k hk _ => hb.block k hk
  okb := M.okb
  oks := fun b o h => Nat.lt_of_lt_of_le (M.oks b o h) hb.size
  len := rfl
  box := fun i b h => by simp at h
  inj := fun i j b h => by simp at h
  tok := fun t r h => by simp at h
  tinj := fun t u r s g h => by simp at h
  gb := M.gb
  tsz := fun t r i h => by simp at h
theorem _root_.Go.Proofs.YtkolnkjdcncmpaaGreatDoor.Pm.Ok.ofBelow {E : Env} (hE : EnvOK E) {f : FuncId} {args : List PV} {r : PV} (hc : Callable E.P f) (h : ∀ (w : World) (ok : Nat → Nat → Prop) (vals : Array Value), E.I w → RepL (Rep w ok [] []) vals.toList args → ∃ v : Value, (∀ w', Rep w' ok [] [] v r) ∧ Calls E.P f vals w fun e w' => e = .returned v ∧ Below w.heap.size w w') : Ok E f [] args r [] := by
  refine ⟨hc, fun w ok ms vals M hr => ?_⟩
  have hm : ms = [] := by have := M.len; simpa using this
  subst hm
  obtain ⟨v, hv, hcall⟩ := h w ok vals M.inv hr
  refine hcall.mono ?_
  rintro e w' ⟨rfl, hb⟩
  exact ⟨v, ok, rfl, M.below hE hb, fun _ _ h => h, hv w'⟩
/-- what lies where the call began stays; what has come since may be handed back -/
theorem _root_.Go.Proofs.YtkolnkjdcncmpaaGreatDoor.Pm.Ok.ofCalls {E : Env} (hE : EnvOK E) {f : FuncId} {args : List PV} {r : PV} (hc : Callable E.P f) (h : ∀ (w : World) (ok : Nat → Nat → Prop) (vals : Array Value), E.I w → RepL (Rep w ok [] []) vals.toList args → Calls E.P f vals w fun e w' => ∃ v : Value, e = .returned v ∧ Below w.heap.size w w' ∧ Rep w' (fun b o => ok b o ∨ (w.heap.size ≤ b ∧ b < w'.heap.size)) [] [] v r) : Ok E f [] args r [] := by
  refine ⟨hc, fun w ok ms vals M hr => ?_⟩
  have hm : ms = [] := by have := M.len; simpa using this
  subst hm
  refine (h w ok vals M.inv hr).mono ?_
  rintro e w' ⟨v, rfl, hb, hv⟩
  have Mb := M.below hE hb
  exact ⟨v, _, rfl, { Mb with
    okb := fun b o h => h.elim .inl (fun h => .inr h.1)
    oks := fun b o h => h.elim (fun h => Mb.oks b o h) (fun h => h.2)
    box := fun i b h => by simp at h
    tok := fun t r h => by simp at h }, fun _ _ h => .inl h, hv⟩
theorem ba_get (s : ByteArray) (j : Nat) : s[j]? = s.data.toList[j]? := by
  by_cases h : j < s.size
  · have h' : j < s.data.toList.length := by simpa using h
    rw [getElem?_pos s j h, List.getElem?_eq_getElem h']
    rfl
  · rw [getElem?_neg s j h, List.getElem?_eq_none (by simpa using h)]
theorem idxSV {E : Env} {t sz bb : Nat} {zz : List CV} {s : ByteArray} {n : Int} {k : IntKind} (j : Nat) (b : UInt8) (h1 : E.T t = some ⟨.str, sz, zz, bb⟩) (hn : n = (j : Int)) (hb : s.data.toList[j]? = some b) : IdxR E t (pS s) (.c (.int k n)) (.c (.int .u8 b.toNat)) where
  h := by
    subst hn
    unfold indexF
    rw [h1]
    show byteAtF _ _ = _
    unfold byteAtF
    rw [decide_eq_true (Int.natCast_nonneg j)]
    show (match s[(j : Int).toNat]? with
      | some b => some (PV.c (.int .u8 b.toNat))
      | none => none) = _
    rw [Int.toNat_natCast, ba_get, hb]
theorem toList_data (s : ByteArray) : s.toList = s.data.toList := Lib.toList_data s
theorem sz_len (s : ByteArray) : s.data.toList.length = s.size := by simp
theorem neBT {E : Env} {c d : Bool} {t sz bb : Nat} {zz : List CV} (h : (!(c == d)) = true) (hT : E.T t = some ⟨.bool, sz, zz, bb⟩ := by rfl) : BinR E t .neq (pB c) (pB d) (pB true) := .of (by
  rw [hT]; cases c <;> cases d <;> simp at h <;> rfl)
theorem neBN {E : Env} {c d : Bool} {t sz bb : Nat} {zz : List CV} (h : (c == d) = true) (hT : E.T t = some ⟨.bool, sz, zz, bb⟩ := by rfl) : BinR E t .neq (pB c) (pB d) (pB false) := .of (by
  rw [hT]; cases c <;> cases d <;> simp at h <;> rfl)
theorem catB {E : Env} {a b : List UInt8} {ti : Nat} (hb : a.length + b.length ≤ 9223372036854775807) : BinR E ti .add (.c (.str (B a))) (.c (.str (B b))) (.c (.str (B (a ++ b)))) := catV (B_append _ _) (by rw [B_size, B_size]; exact hb)
theorem catL {E : Env} {ti : Nat} {x y : ByteArray} {s : ByteArray} (h : s = B (x.data.toList ++ y.data.toList)) (hb : x.size + y.size ≤ 9223372036854775807) : BinR E ti .add (.c (.str x)) (.c (.str y)) (.c (.str s)) := catV (by
  rw [h, ← B_append, B_toList', B_toList']) hb
theorem sliceSV {E : Env} {t sz bb : Nat} {zz : List CV} {s : ByteArray} {lo hi : Option PV} (l h : Nat) (h1 : E.T t = some ⟨.str, sz, zz, bb⟩) (hlo : bndF 0 lo = some (l : Int)) (hhi : bndF s.size hi = some (h : Int)) (hr : l ≤ h ∧ h ≤ s.size) :
    SliceR E t (.c (.str s)) lo hi (.c (.str (B ((s.data.toList.take h).drop l)))) where
  h := by
    unfold sliceF
    rw [h1]
    dsimp only
    rw [hlo, hhi]
    dsimp only
    rw [show decide ((0 : Int) ≤ l ∧ (l : Int) ≤ h ∧ (h : Int) ≤ s.size) = true by simp; omega]
    dsimp only
    rw [Int.toNat_natCast, Int.toNat_natCast]
    congr 3
    apply ByteArray.ext
    rw [ByteArray.data_extract]
    apply Array.ext'
    simp [B, List.take_drop]
    rw [show l + (h - l) = h by omega]
theorem drop_cons {α : Type} {l : List α} {j : Nat} {y : α} (hy : l[j]? = some y) : l.drop j = y :: l.drop (j + 1) := by
  have hjl := (List.getElem?_eq_some_iff.1 hy).1
  rw [List.drop_eq_getElem_cons hjl]
  congr 1
  rw [List.getElem?_eq_getElem hjl] at hy
  exact Option.some.inj hy
/-! ### layer 2 -/
theorem digs_len (n : Nat) : (digs n).length ≤ 20 := by
  have hp : ∀ (f k : Nat), (digF f k).length ≤ f := by
    intro f
    induction f with
    | zero => intro k; simp [digF]
    | succ f ih =>
      intro k
      rw [digF]
      split
      · simp
      · have := ih (k / 10); simp; omega
  exact hp 20 n
theorem rdigits_ok (n : Nat) (hn : n ≤ 9223372036854775807) : Ok E 105 [] [pI n] (pS (B (digs n))) [] := by
  have hd := digs_rec n (by omega)
  have IH : ¬ n < 10 → Ok E 105 [] [pI (n / 10 : Nat)] (pS (B (digs (n / 10)))) [] := fun h => rdigits_ok (n / 10) (by omega)
  have hl := digs_len (n / 10)
  have e1 : ((n : Int)).tmod 10 = ((n % 10 : Nat) : Int) := by rw [Int.tmod_eq_emod_of_nonneg (by omega)]; omega
  have e2 : ((n : Int)).tdiv 10 = ((n / 10 : Nat) : Int) := by rw [Int.tdiv_eq_ediv_of_nonneg (by omega)]; omega
  have e3 : UInt8.ofNat (48 + ((n % 10 : Nat) : Int)).toNat = dig n := by
    unfold dig
    congr 1
  refine Ok.enter hE Tryz.func105 rfl (by decide +kernel) (by kernel_rfl) rfl rfl (Nat.le_of_ble_eq_true rfl) rfl ?_
  refine ⟨_, remV (by omega) e1, ?_⟩
  refine ⟨_, addV rfl (by omega) (by omega), ?_⟩
  refine ⟨_, convV (z := 48 + ((n % 10 : Nat) : Int)) rfl rfl (by simp [IntKind.wrap, IntKind.bits, IntKind.signed]; omega), ?_⟩
  refine ⟨_, ⟨_, rfl, rfl⟩, ?_⟩
  refine ⟨_, convBV (l := [dig n]) rfl rfl rfl (by
    show bytesF [[CV.int .u8 (48 + ((n % 10 : Nat) : Int))]] = _
    rw [bytesF, decide_eq_true (by omega)]
    show some [UInt8.ofNat (48 + ((n % 10 : Nat) : Int)).toNat] = _
    rw [e3]), ?_⟩
  by_cases h : n < 10
  · refine ⟨_, geN (by omega), ?_⟩
    rw [if_pos h] at hd
    exact Ret.mk _ rfl (by show PV.c (.str (B [dig n])) = _; rw [hd]) rfl
  · rw [if_neg h] at hd
    refine ⟨_, geT (by omega), ?_⟩
    refine ⟨_, quoV (by omega) e2 (by omega) (by omega), ?_⟩
    refine ⟨_, CallR.mk1 (IH h) rfl rfl, ?_⟩
    refine ⟨_, catV (s := B (digs n)) (by rw [hd]; exact B_append _ _) (by rw [B_size]; show _ + 1 ≤ _; omega), ?_⟩
    exact Ret.mk _ rfl rfl rfl
termination_by n
decreasing_by omega
theorem rText_ok (n : Int) (h0 : 0 ≤ n) (h1 : n ≤ 1000000000000) : Ok E 77 [] [pI n] (pS (B (textL n))) [] := by
  obtain ⟨m, rfl⟩ : ∃ m : Nat, n = m := ⟨n.toNat, by omega⟩
  have hd1 := rdigits_ok (m / 100) (by omega)
  have hd2 := rdigits_ok (m / 10 % 10) (by omega)
  have hd3 := rdigits_ok (m % 10) (by omega)
  have q1 : digs (m / 10 % 10) = [dig (m / 10)] := by rw [digs_one (by omega)]; unfold dig; congr 2; omega
  have q2 : digs (m % 10) = [dig m] := by rw [digs_one (by omega)]; unfold dig; congr 2; omega
  rw [q1] at hd2
  rw [q2] at hd3
  have ht : textL (m : Int) = digs (m / 100) ++ [46, dig (m / 10), dig m] := by
    rw [textL_ok ⟨by omega, h1⟩, if_neg (by omega)]; rfl
  rw [ht]
  have hl := digs_len (m / 100)
  have e1 : ((m : Int)).tdiv 100 = ((m / 100 : Nat) : Int) := by rw [Int.tdiv_eq_ediv_of_nonneg (by omega)]; omega
  have e2 : ((m : Int)).tdiv 10 = ((m / 10 : Nat) : Int) := by rw [Int.tdiv_eq_ediv_of_nonneg (by omega)]; omega
  have e3 : (((m / 10 : Nat) : Int)).tmod 10 = ((m / 10 % 10 : Nat) : Int) := by rw [Int.tmod_eq_emod_of_nonneg (by omega)]; omega
  have e4 : ((m : Int)).tmod 10 = ((m % 10 : Nat) : Int) := by rw [Int.tmod_eq_emod_of_nonneg (by omega)]; omega
  refine Ok.enter hE Tryz.func77 rfl (by decide +kernel) (by kernel_rfl) rfl rfl (Nat.le_of_ble_eq_true rfl) rfl ?_
  refine ⟨_, ltN (by omega), ?_⟩
  refine ⟨_, gtN (by omega), ?_⟩
  refine ⟨_, ltN (by omega), ?_⟩
  refine ⟨_, quoV (by omega) e1 (by omega) (by omega), ?_⟩
  refine ⟨_, CallR.mk1 hd1 rfl rfl, ?_⟩
  refine ⟨_, catV (s := B (digs (m / 100) ++ [46])) (B_append _ _) (by rw [B_size]; show _ + 1 ≤ _; omega), ?_⟩
  refine ⟨_, quoV (by omega) e2 (by omega) (by omega), ?_⟩
  refine ⟨_, remV (by omega) e3, ?_⟩
  refine ⟨_, CallR.mk1 hd2 rfl rfl, ?_⟩
  refine ⟨_, catV (s := B (digs (m / 100) ++ [46, dig (m / 10)])) (by rw [B_append, List.append_assoc]; rfl) (by rw [B_size, B_size]; simp; omega), ?_⟩
  refine ⟨_, remV (by omega) e4, ?_⟩
  refine ⟨_, CallR.mk1 hd3 rfl rfl, ?_⟩
  refine ⟨_, catV (s := B (digs (m / 100) ++ [46, dig (m / 10), dig m])) (by rw [B_append, List.append_assoc]; rfl) (by rw [B_size, B_size]; simp; omega), ?_⟩
  exact Ret.mk _ rfl rfl rfl
theorem decimal_ok (n : Nat) (hn : n ≤ 9223372036854775807) : Ok E 70 [] [pI n] (pS (B (digs n))) [] := by
  have hd := digs_rec n (by omega)
  have IH : ¬ n < 10 → Ok E 70 [] [pI (n / 10 : Nat)] (pS (B (digs (n / 10)))) [] := fun h => decimal_ok (n / 10) (by omega)
  have hl := digs_len (n / 10)
  have e1 : ((n : Int)).tmod 10 = ((n % 10 : Nat) : Int) := by rw [Int.tmod_eq_emod_of_nonneg (by omega)]; omega
  have e2 : ((n : Int)).tdiv 10 = ((n / 10 : Nat) : Int) := by rw [Int.tdiv_eq_ediv_of_nonneg (by omega)]; omega
  have e3 : UInt8.ofNat (48 + ((n % 10 : Nat) : Int)).toNat = dig n := by
    unfold dig
    congr 1
  refine Ok.enter hE Tryz.func70 rfl (by decide +kernel) (by kernel_rfl) rfl rfl (Nat.le_of_ble_eq_true rfl) rfl ?_
  refine ⟨_, remV (by omega) e1, ?_⟩
  refine ⟨_, addV rfl (by omega) (by omega), ?_⟩
  refine ⟨_, convV (z := 48 + ((n % 10 : Nat) : Int)) rfl rfl (by simp [IntKind.wrap, IntKind.bits, IntKind.signed]; omega), ?_⟩
  refine ⟨_, ⟨_, rfl, rfl⟩, ?_⟩
  refine ⟨_, convBV (l := [dig n]) rfl rfl rfl (by
    show bytesF [[CV.int .u8 (48 + ((n % 10 : Nat) : Int))]] = _
    rw [bytesF, decide_eq_true (by omega)]
    show some [UInt8.ofNat (48 + ((n % 10 : Nat) : Int)).toNat] = _
    rw [e3]), ?_⟩
  by_cases h : n < 10
  · refine ⟨_, geN (by omega), ?_⟩
    rw [if_pos h] at hd
    exact Ret.mk _ rfl (by show PV.c (.str (B [dig n])) = _; rw [hd]) rfl
  · rw [if_neg h] at hd
    refine ⟨_, geT (by omega), ?_⟩
    refine ⟨_, quoV (by omega) e2 (by omega) (by omega), ?_⟩
    refine ⟨_, CallR.mk1 (IH h) rfl rfl, ?_⟩
    refine ⟨_, catV (s := B (digs n)) (by rw [hd]; exact B_append _ _) (by rw [B_size]; show _ + 1 ≤ _; omega), ?_⟩
    exact Ret.mk _ rfl rfl rfl
termination_by n
decreasing_by omega
end Go.Proofs.YtkolnkjdcncmpaaGreatDoor.Lx

/- Library functions, and functions that range over texts: contracts, by hand. -/
namespace Go.Proofs.YtkolnkjdcncmpaaGreatDoor.L
open Go.RowKit Go.Proofs.YtkolnkjdcncmpaaGreatDoorW.PrintWords Go.Proofs.YtkolnkjdcncmpaaGreatDoorW.PrintLast Go.Proofs.YtkolnkjdcncmpaaGreatDoorW.PrintMore
set_option linter.unusedVariables false
set_option linter.unusedSimpArgs false
attribute [local go_sem] max2_int min2_int max_two min_two max_three min_three max_four min_four

/-- What the library's variables hold, and that they are old. -/
structure LaidW (w : World) : Prop where
  tab : Lib.TabIs Tryz.prog w "internal/strconv.uint64pow10" .u64 Lib.pow10Tab
  synt : ∃ tp p, w.var? Tryz.prog "strconv.ErrSyntax" = some #[.iface tp p]
  rang : ∃ tp p, w.var? Tryz.prog "strconv.ErrRange" = some #[.iface tp p]

theorem var_old {w w' : World} {n : String} {cs : Array Value} (hb : Below w.heap.size w w') (hv : w.var? Tryz.prog n = some cs) : w'.var? Tryz.prog n = some cs := by
  unfold World.var? at hv ⊢
  rcases hg : Tryz.prog.globalNamed n with _ | g
  · rw [hg] at hv
    simp at hv
  · rw [hg] at hv
    simp only [Option.bind_some] at hv ⊢
    rcases Nat.lt_or_ge g w.heap.size with hlt | hge
    · rw [hb.block g hlt]
      exact hv
    · rw [Array.getElem?_eq_none hge] at hv
      simp at hv
theorem LaidW.below {w w' : World} (h : LaidW w) (hb : Below w.heap.size w w') : LaidW w' := by
  obtain ⟨h1, ⟨t2, p2, h2⟩, ⟨t3, p3, h3⟩⟩ := h
  exact ⟨var_old hb h1, ⟨t2, p2, var_old hb h2⟩, ⟨t3, p3, var_old hb h3⟩⟩

/-! ### strconv.Itoa -/
def strconv_Itoa.f (a0 : Int) : Option (ByteArray) := if -9223372036854775808 ≤ a0 ∧ a0 ≤ 9223372036854775807 then some (Pl.B (Pl.intL a0)) else none
theorem strconv_Itoa.calls (a0 : Int) (r : ByteArray) (w : World) (hLd : LaidW w) (h : strconv_Itoa.f a0 = some r) :
    Calls Tryz.prog 168 #[.int .i64 a0] w fun e w' => e = .returned (.string r) ∧ Below w.heap.size w w' := by
  unfold strconv_Itoa.f at h
  by_cases hc : -9223372036854775808 ≤ a0 ∧ a0 ≤ 9223372036854775807
  · rw [if_pos hc] at h
    obtain rfl := Option.some.inj h
    refine (Tryz.strconv_Itoa a0 hc.1 hc.2 w hLd.tab).mono ?_
    rintro e w' ⟨rfl, k, os, rfl⟩
    refine ⟨?_, ?_⟩
    · rw [Pl.intL_eq a0 hc.1 hc.2]; rfl
    · exact Lib.below_grow _ _ (Nat.le_refl _) _ _
  · rw [if_neg hc] at h
    exact absurd h (by simp)

/-! ### strings.TrimPrefix; strings.Cut at one byte, of whatever length the text is -/
def strings_TrimPrefix.f (a0 : ByteArray) (a1 : ByteArray) : Option (ByteArray) := some (Pl.B (Lib.trimPrefix a0.data.toList a1.data.toList))
theorem strings_TrimPrefix.calls (a0 : ByteArray) (a1 : ByteArray) (r : ByteArray) (w : World) (h : strings_TrimPrefix.f a0 a1 = some r) :
    Calls Tryz.prog 178 #[.string a0, .string a1] w fun e w' => e = .returned (.string r) ∧ Drawn0 w w' := by
  obtain rfl := Option.some.inj h
  refine (Tryz.strings_TrimPrefix a0 a1 w).mono ?_
  rintro e w' ⟨rfl, rfl⟩
  exact ⟨rfl, Drawn0.refl _⟩

set_option maxRecDepth 100000 in
theorem slCut (s : ByteArray) (c : UInt8) (w : World) (hsz : s.size ≤ 281474976710656) :
    Calls Tryz.prog 188 #[.string s, .string ⟨#[c]⟩] w fun e w' => e = .returned (.tuple #[.string ⟨(Lib.cut s.data.toList [c]).1.toArray⟩, .string ⟨(Lib.cut s.data.toList [c]).2.1.toArray⟩, .bool (Lib.cut s.data.toList [c]).2.2]) ∧ ∃ n, w' = w.drewN n := by
  have hone : Lib.indexByte s.data.toList c = Lib.indexB s ⟨#[c]⟩ := (Lib.index_one _ _).symm
  rcases Lib.indexB_cases s ⟨#[c]⟩ with hix | ⟨i, hix, hroom⟩
  · obtain ⟨e1, e2, e3⟩ := Lib.cutB_miss s ⟨#[c]⟩ hix
    rw [show ([c] : List UInt8) = (⟨#[c]⟩ : ByteArray).data.toList from rfl, e1, e2, e3]
    go_enter Tryz.func188, Tryz.ntmps188
    go_wp2_with (go_at_call 208; refine (Any.stringslite_Index_one Tryz.lays219 _ _ _).mono ?_; rintro e w' ⟨rfl, rfl⟩; rw [hone, hix])
    go_ret3
    exact ⟨rfl, 0, rfl⟩
  · obtain ⟨e1, e2, e3⟩ := Lib.cutB_hit s ⟨#[c]⟩ i hix
    rw [show ([c] : List UInt8) = (⟨#[c]⟩ : ByteArray).data.toList from rfl, e1, e2, e3]
    have hr : i + 1 ≤ s.size := hroom
    have c1 : (0 : Int) ≤ ↑i := by omega
    have c2 : (↑i : Int) ≤ ↑s.size := by omega
    have c3 : (0 : Int) ≤ ↑i + 1 := by omega
    have c4 : (↑i + 1 : Int) ≤ ↑s.size := by omega
    have c5 : IntKind.i64.wrap ((i : Int) + 1) = (i : Int) + 1 := IntWalk.i64_in _ (by omega)
    go_enter Tryz.func188, Tryz.ntmps188
    go_wp2_with (go_at_call 208; refine (Any.stringslite_Index_one Tryz.lays219 _ _ _).mono ?_; rintro e w' ⟨rfl, rfl⟩; rw [hone, hix])
    go_region
    go_wp2
    go_ret3
    exact ⟨rfl, 1, rfl⟩

def strings_Cut.f (a0 : ByteArray) (a1 : ByteArray) : Option (ByteArray × ByteArray × Bool) :=
  if a1.size = 1 ∧ a0.size ≤ 281474976710656 then some (Pl.B (Lib.cut a0.data.toList a1.data.toList).1, Pl.B (Lib.cut a0.data.toList a1.data.toList).2.1, (Lib.cut a0.data.toList a1.data.toList).2.2) else none
set_option maxRecDepth 100000 in
theorem strings_Cut.calls (a0 : ByteArray) (a1 : ByteArray) (r1 : ByteArray) (r2 : ByteArray) (r3 : Bool) (w : World) (h : strings_Cut.f a0 a1 = some (r1, r2, r3)) :
    Calls Tryz.prog 177 #[.string a0, .string a1] w fun e w' => e = .returned (.tuple #[.string r1, .string r2, .bool r3]) ∧ Drawn0 w w' := by
  unfold strings_Cut.f at h
  by_cases hs : a1.size = 1 ∧ a0.size ≤ 281474976710656
  · rw [if_pos hs] at h
    obtain ⟨hs, hsz⟩ := hs
    have HZ := Aside0.mk hsz
    clear hsz
    obtain ⟨c, rfl⟩ : ∃ c, a1 = ⟨#[c]⟩ := by
      obtain ⟨⟨l⟩⟩ := a1
      rcases l with _ | ⟨c, _ | ⟨d, l⟩⟩
      · simp [ByteArray.size] at hs
      · exact ⟨c, rfl⟩
      · simp [ByteArray.size] at hs
    have h := Option.some.inj h
    simp only [Prod.mk.injEq] at h
    obtain ⟨rfl, rfl, rfl⟩ := h
    go_enter Tryz.func177, Tryz.ntmps177
    go_wp2_with (go_at_call 188; refine (slCut _ _ _ HZ.out).mono ?_; rintro e w' ⟨rfl, n, rfl⟩)
    go_ret3
    exact ⟨rfl, ⟨⟨n, rfl⟩⟩⟩
  · rw [if_neg hs] at h
    exact absurd h (by simp)

/-! ### dec.all: a range over a string -/
def dec_all.f (a0 : ByteArray) : Option (Bool) := some (Pl.allL a0.data.toList)
theorem take_snoc_ (s : ByteArray) (k : Nat) (h : k < s.size) : s.data.toList.take (k + 1) = s.data.toList.take k ++ [s[k]] := by
  rw [List.take_succ_eq_append_getElem (by simpa using h)]; rfl
theorem all_bad (s : ByteArray) (k : Nat) (h : k < s.size) (hd : Pl.isD s[k] = false) : Pl.allL s.data.toList = false := by
  have : s.data.toList.all Pl.isD = false := by
    rw [← List.take_append_drop (k + 1) s.data.toList, take_snoc_ s k h]
    simp [hd]
  simp [Pl.allL, this]
theorem ret_bool {a b : Bool} (h : a = b) : Ending.returned (.bool a) = .returned (.bool b) := by rw [h]
set_option maxHeartbeats 1000000 in
set_option maxRecDepth 100000 in
theorem dec_all.calls (a0 : ByteArray) (r : Bool) (w : World) (h : dec_all.f a0 = some r) :
    Calls Tryz.prog 176 #[.string a0] w fun e w' => e = .returned (.bool r) ∧ Below w.heap.size w w' := by
  obtain rfl := Option.some.inj h
  clear h
  go_enter Tryz.func176, Tryz.ntmps176
  go_wp2
  go_loopw [4] (fun c w' => ∃ pos : Nat, w' = w.iter a0 pos ∧ pos ≤ a0.size ∧ Hid ((a0.data.toList.take pos).all Pl.isD = true)) (fun _ w' => a0.size - w'.iterPos w.heap.size)
  case atStart => exact ⟨0, rfl, Nat.zero_le _, by simp [Hid]⟩
  case round =>
    obtain ⟨pos, rfl, hpos, hall⟩ := hrel
    by_cases hp : pos < a0.size
    · by_cases hd : Pl.isD a0[pos] = true
      · have hd' := of_decide_eq_true hd
        have hnx : ∀ ty, (Instr.next (.pointer (some ⟨w.heap.size, 0, none⟩)) true ty).run Tryz.prog (w.iter a0 pos) = _ := fun ty => run_next_ascii w a0 pos ty hp (by omega)
        have t1 : decide (((a0[pos]'hp).toNat : Int) < 48) = false := decide_eq_false (by omega)
        have t2 : decide ((57 : Int) < ((a0[pos]'hp).toNat : Int)) = false := decide_eq_false (by omega)
        have hall' : Hid ((a0.data.toList.take (pos + 1)).all Pl.isD = true) := by
          have := hall.out
          simp only [Hid]
          rw [take_snoc_ a0 pos hp]
          simp only [List.all_append, this, List.all_cons, List.all_nil, hd, Bool.and_self]
        clear hd hd' hall
        go_wp2
        go_roundw
        case rel => exact ⟨pos + 1, rfl, by omega, hall'⟩
        case measure => simp; omega
      · have hd : Pl.isD a0[pos] = false := by simpa using hd
        have hbad := Lib.hid (all_bad a0 pos hp hd)
        have hd' := of_decide_eq_false hd
        clear hd
        by_cases ha : (a0[pos]'hp).toNat < 128
        · have hnx : ∀ ty, (Instr.next (.pointer (some ⟨w.heap.size, 0, none⟩)) true ty).run Tryz.prog (w.iter a0 pos) = _ := fun ty => run_next_ascii w a0 pos ty hp ha
          by_cases h48 : (a0[pos]'hp).toNat < 48
          · have t1 : decide (((a0[pos]'hp).toNat : Int) < 48) = true := decide_eq_true (by omega)
            clear hd' hall
            go_wp2
            go_ret
            exact ⟨ret_bool hbad.out.symm, (Below.refl _ _).alloc (Nat.le_refl _) _⟩
          · have t1 : decide (((a0[pos]'hp).toNat : Int) < 48) = false := decide_eq_false (by omega)
            have t2 : decide ((57 : Int) < ((a0[pos]'hp).toNat : Int)) = true := decide_eq_true (by omega)
            clear hd' hall
            go_wp2
            go_ret
            exact ⟨ret_bool hbad.out.symm, (Below.refl _ _).alloc (Nat.le_refl _) _⟩
        · obtain ⟨d1, d2⟩ := decode_high a0 pos hp (by omega)
          have hnx : ∀ ty, (Instr.next (.pointer (some ⟨w.heap.size, 0, none⟩)) true ty).run Tryz.prog (w.iter a0 pos) = _ := fun ty => run_next_any w a0 pos ty hp
          have t1 : decide (((Utf8.decode a0 pos).1 : Int) < 48) = false := decide_eq_false (by omega)
          have t2 : decide ((57 : Int) < ((Utf8.decode a0 pos).1 : Int)) = true := decide_eq_true (by omega)
          clear hd' hall
          go_wp2
          go_ret
          exact ⟨ret_bool hbad.out.symm, (Below.refl _ _).alloc (Nat.le_refl _) _⟩
    · have hnx : ∀ ty, (Instr.next (.pointer (some ⟨w.heap.size, 0, none⟩)) true ty).run Tryz.prog (w.iter a0 pos) = _ := fun ty => run_next_end w a0 pos ty hp
      have hgood : Hid (a0.data.toList.all Pl.isD = true) := by
        have := hall.out
        rwa [List.take_of_length_le (by simp; omega)] at this
      clear hall
      go_wp2
      go_ret
      refine ⟨ret_bool ?_, (Below.refl _ _).alloc (Nat.le_refl _) _⟩
      simp [Pl.allL, hgood.out, Lib.toList_data]
      rw [Bool.eq_iff_iff]
      simp

/-! ### dec.Count -/
theorem atoi_any (s : ByteArray) (w : World) (hLd : LaidW w) (hs : s.size ≤ 281474976710656) :
    Calls Tryz.prog 175 #[.string s] w fun e w' => (∃ (v : Int) (ev : Value), e = .returned (.tuple #[.int .i64 v, ev]) ∧ ((ev = .nilIface ∧ Lib.atoiAll s.data.toList = .ok v) ∨ (∃ t p, ev = .iface t p ∧ ∀ v, Lib.atoiAll s.data.toList ≠ .ok v))) ∧ Below w.heap.size w w' := by
  rcases h : Lib.atoiAll s.data.toList with v | _ | _
  · refine (Tryz.strconv_Atoi_ok s (by omega) v h w).mono ?_
    rintro e w' ⟨rfl, hw⟩
    refine ⟨⟨v, _, rfl, .inl ⟨rfl, rfl⟩⟩, ?_⟩
    rcases hw with rfl | ⟨t, rfl⟩
    · exact Below.refl _ _
    · exact Lib.bytesWorld_below _ _ _
  · obtain ⟨tp, p, hv⟩ := hLd.synt
    refine (Any.strconv_Atoi_syntax_var Tryz.laysC172 s hs h tp p w hv).mono ?_
    rintro e w' ⟨n, rfl, _, _, hb⟩
    exact ⟨⟨_, _, rfl, .inr ⟨_, _, rfl, fun v e => by cases e⟩⟩, hb⟩
  · obtain ⟨tp, p, hv⟩ := hLd.rang
    refine (Tryz.strconv_Atoi_range_var s hs h tp p w hv).mono ?_
    rintro e w' ⟨n, rfl, _, _, hb⟩
    exact ⟨⟨_, _, rfl, .inr ⟨_, _, rfl, fun v e => by cases e⟩⟩, hb⟩
theorem atoi_ok (s : ByteArray) (w : World) (hs : s.size ≤ 281474976710656) (v : Int) (h : Lib.atoiAll s.data.toList = .ok v) :
    Calls Tryz.prog 175 #[.string s] w fun e w' => e = .returned (.tuple #[.int .i64 v, .nilIface]) ∧ Below w.heap.size w w' := by
  refine (Tryz.strconv_Atoi_ok s (by omega) v h w).mono ?_
  rintro e w' ⟨rfl, hw⟩
  refine ⟨rfl, ?_⟩
  rcases hw with rfl | ⟨t, rfl⟩
  · exact Below.refl _ _
  · exact Lib.bytesWorld_below _ _ _
theorem atoi_range (s : ByteArray) (w : World) (hLd : LaidW w) (hs : s.size ≤ 281474976710656) (h : Lib.atoiAll s.data.toList = .range) :
    Calls Tryz.prog 175 #[.string s] w fun e w' => (∃ (v : Int) (t : TypeId) (p : Value), e = .returned (.tuple #[.int .i64 v, .iface t p])) ∧ Below w.heap.size w w' := by
  obtain ⟨tp, p, hv⟩ := hLd.rang
  refine (Tryz.strconv_Atoi_range_var s hs h tp p w hv).mono ?_
  rintro e w' ⟨n, rfl, _, _, hb⟩
  exact ⟨⟨_, _, _, rfl⟩, hb⟩
def dec_Count.f (a0 : ByteArray) (a1 : Int) : Option (Int) := if a0.size ≤ 281474976710656 ∧ -9223372036854775808 ≤ a1 ∧ a1 ≤ 9223372036854775807 then some (Pl.countL a0.data.toList a1) else none
set_option maxHeartbeats 1000000 in
set_option maxRecDepth 100000 in
theorem dec_Count.calls (a0 : ByteArray) (a1 : Int) (r : Int) (w : World) (hLd : LaidW w) (h : dec_Count.f a0 a1 = some r) :
    Calls Tryz.prog 164 #[.string a0, .int .i64 a1] w fun e w' => e = .returned (.int .i64 r) ∧ Below w.heap.size w w' := by
  unfold dec_Count.f at h
  by_cases hs : a0.size ≤ 281474976710656 ∧ -9223372036854775808 ≤ a1 ∧ a1 ≤ 9223372036854775807
  · rw [if_pos hs] at h
    obtain rfl := Option.some.inj h
    obtain ⟨hs, hb0, hb1⟩ := hs
    clear h
    have HS := Aside0.mk hs
    have HL := Aside0.mk hLd
    clear hs hLd
    rcases hall : Pl.allL a0.data.toList with _ | _
    · have hno := Aside0.mk (Pl.countL_no (most := a1) hall)
      have ha := Aside0.mk (show dec_all.f a0 = some false by simp [dec_all.f, hall])
      clear hall
      go_enter Tryz.func164, Tryz.ntmps164
      go_wp2_with (go_at_call 175; refine (atoi_any a0 _ HL.out HS.out).mono ?_; rintro e w1 ⟨⟨v, ev, rfl, _⟩, hb1_⟩; have HB1 := Aside0.mk hb1_; clear hb1_)
      go_wp2_with (go_at_call 176; refine (dec_all.calls a0 false _ ha.out).mono ?_; rintro e w2 ⟨rfl, hb2_⟩; have HB2 := Aside0.mk hb2_; clear hb2_)
      go_ret
      exact ⟨by rw [hno.out]; rfl, below_step HB1.out HB2.out⟩
    · have hne : a0.data.toList ≠ [] ∧ a0.data.toList.all Pl.isD = true := by
        simp only [Pl.allL, Bool.and_eq_true, decide_eq_true_eq] at hall
        exact hall
      have ha := Aside0.mk (show dec_all.f a0 = some true by simp [dec_all.f, hall])
      clear hall
      rcases Pl.atoi_digits _ hne.1 hne.2 with ⟨hat, hle⟩ | ⟨hat, hge⟩
      · have hAT := Aside0.mk hat
        clear hat hne
        have hv0 : (0 : Int) ≤ (Pl.val a0.data.toList : Int) := by omega
        obtain ⟨v, hv⟩ : ∃ v : Int, v = (Pl.val a0.data.toList : Int) := ⟨_, rfl⟩
        rw [← hv] at hv0 hle
        have HV := Aside0.mk hv
        clear hv
        obtain ⟨m, hm⟩ : ∃ m : Int, (1000000000000 < a1 ∧ m = 1000000000000) ∨ (a1 ≤ 1000000000000 ∧ m = a1) := by
          rcases Int.lt_or_le 1000000000000 a1 with h | h
          · exact ⟨_, .inl ⟨h, rfl⟩⟩
          · exact ⟨_, .inr ⟨h, rfl⟩⟩
        by_cases h1 : m < v
        · have hno : Aside0 (Pl.countL a0.data.toList a1 = -1) := ⟨Pl.countL_big (by have := HV.out; omega)⟩
          rcases hm with ⟨hm, rfl⟩ | ⟨hm, rfl⟩
          all_goals
            go_enter Tryz.func164, Tryz.ntmps164
            go_wp2_with (go_at_call 175; refine (atoi_ok a0 _ HS.out v (by rw [hAT.out, HV.out])).mono ?_; rintro e w1 ⟨rfl, hb1_⟩; have HB1 := Aside0.mk hb1_; clear hb1_)
            go_wp2_with (go_at_call 176; refine (dec_all.calls a0 true _ ha.out).mono ?_; rintro e w2 ⟨rfl, hb2_⟩; have HB2 := Aside0.mk hb2_; clear hb2_)
            go_ret
            exact ⟨by rw [hno.out]; rfl, below_step HB1.out HB2.out⟩
        · have hI : Aside0 (strconv_Itoa.f v = some (Pl.B (Pl.digs (Pl.val a0.data.toList)))) := ⟨by
            unfold strconv_Itoa.f
            rw [if_pos ⟨by omega, hle⟩, HV.out]
            unfold Pl.intL
            rw [if_neg (by omega), Int.toNat_natCast]⟩
          have h1' : v ≤ m := by omega
          clear h1
          by_cases h2 : Pl.digs (Pl.val a0.data.toList) = a0.data.toList
          · have hyes : Aside0 (Pl.countL a0.data.toList a1 = v) := ⟨by
              rw [HV.out]
              have := HV.out
              exact Pl.countL_yes (by omega) (by omega) h2⟩
            have hI' : Aside0 (strconv_Itoa.f v = some a0) := ⟨by rw [hI.out, h2, Pl.B_toList']⟩
            clear hI h2
            rcases hm with ⟨hm, rfl⟩ | ⟨hm, rfl⟩
            all_goals
              go_enter Tryz.func164, Tryz.ntmps164
              go_wp2_with (go_at_call 175; refine (atoi_ok a0 _ HS.out v (by rw [hAT.out, HV.out])).mono ?_; rintro e w1 ⟨rfl, hb1_⟩; have HB1 := Aside0.mk hb1_; clear hb1_)
              go_wp2_with (go_at_call 176; refine (dec_all.calls a0 true _ ha.out).mono ?_; rintro e w2 ⟨rfl, hb2_⟩; have HB2 := Aside0.mk (below_step HB1.out hb2_); clear hb2_ HB1)
              go_wp2_with (go_at_call 168; refine (strconv_Itoa.calls v a0 _ (HL.out.below HB2.out) hI'.out).mono ?_; rintro e w2 ⟨rfl, hb2_⟩; have HB3 := Aside0.mk (below_step HB2.out hb2_); clear hb2_ HB2)
              go_ret
              exact ⟨by rw [hyes.out]; rfl, HB3.out⟩
          · have hno : Aside0 (Pl.countL a0.data.toList a1 = -1) := ⟨Pl.countL_other h2⟩
            have hne2 : ((Pl.B (Pl.digs (Pl.val a0.data.toList))).toList == a0.toList) = false := by
              rw [Lib.toList_data, Lib.toList_data, Pl.B_toList]
              exact beq_eq_false_iff_ne.2 h2
            obtain ⟨t, ht⟩ : ∃ t, t = Pl.B (Pl.digs (Pl.val a0.data.toList)) := ⟨_, rfl⟩
            rw [← ht] at hI hne2
            clear h2 ht
            rcases hm with ⟨hm, rfl⟩ | ⟨hm, rfl⟩
            all_goals
              go_enter Tryz.func164, Tryz.ntmps164
              go_wp2_with (go_at_call 175; refine (atoi_ok a0 _ HS.out v (by rw [hAT.out, HV.out])).mono ?_; rintro e w1 ⟨rfl, hb1_⟩; have HB1 := Aside0.mk hb1_; clear hb1_)
              go_wp2_with (go_at_call 176; refine (dec_all.calls a0 true _ ha.out).mono ?_; rintro e w2 ⟨rfl, hb2_⟩; have HB2 := Aside0.mk (below_step HB1.out hb2_); clear hb2_ HB1)
              go_wp2_with (go_at_call 168; refine (strconv_Itoa.calls v t _ (HL.out.below HB2.out) hI.out).mono ?_; rintro e w2 ⟨rfl, hb2_⟩; have HB3 := Aside0.mk (below_step HB2.out hb2_); clear hb2_ HB2)
              go_ret
              exact ⟨by rw [hno.out]; rfl, HB3.out⟩
      · have hAT := Aside0.mk hat
        clear hat hne
        have hno : Aside0 (Pl.countL a0.data.toList a1 = -1) := ⟨Pl.countL_big (by omega)⟩
        clear hge
        go_enter Tryz.func164, Tryz.ntmps164
        go_wp2_with (go_at_call 175; refine (atoi_range a0 _ HL.out HS.out hAT.out).mono ?_; rintro e w1 ⟨⟨v, t, p, rfl⟩, hb1_⟩; have HB1 := Aside0.mk hb1_; clear hb1_)
        go_wp2_with (go_at_call 176; refine (dec_all.calls a0 true _ ha.out).mono ?_; rintro e w2 ⟨rfl, hb2_⟩; have HB2 := Aside0.mk hb2_; clear hb2_)
        go_ret
        exact ⟨by rw [hno.out]; rfl, below_step HB1.out HB2.out⟩
  · rw [if_neg hs] at h
    exact absurd h (by simp)

/-! ### words -/
def wordsL : List (List UInt8) := [[108, 111, 119, 101, 115, 116], [115, 101, 99, 111, 110, 100], [102, 114, 111, 109], [108, 101, 115, 115], [99, 117, 116], [109, 105, 110], [109, 97, 120], [101, 108, 115, 101], [105, 102], [109, 111, 114, 101], [97, 98, 111, 118, 101]]
def strings_IndexByte.f (a0 : ByteArray) (a1 : Int) : Option (Int) := some (Lib.indexByte a0.data.toList a1.toNat.toUInt8)
theorem strings_IndexByte.calls (a0 : ByteArray) (a1 : Int) (r : Int) (w : World) (h : strings_IndexByte.f a0 a1 = some r) :
    Calls Tryz.prog 169 #[.string a0, .int .u8 a1] w fun e w' => e = .returned (.int .i64 r) ∧ Drawn0 w w' := by
  obtain rfl := Option.some.inj h
  refine (Tryz.strings_IndexByte a0 a1 w).mono ?_
  rintro e w' ⟨rfl, rfl⟩
  exact ⟨rfl, Drawn0.refl _⟩

def wordsB : List ByteArray := wordsL.map fun l => ⟨l.toArray⟩
theorem words_at (w : World) : ∀ j, j < wordsB.length → (w.alloc (.cells #[.string ⟨#[108, 111, 119, 101, 115, 116]⟩, .string ⟨#[115, 101, 99, 111, 110, 100]⟩, .string ⟨#[102, 114, 111, 109]⟩, .string ⟨#[108, 101, 115, 115]⟩, .string ⟨#[99, 117, 116]⟩, .string ⟨#[109, 105, 110]⟩, .string ⟨#[109, 97, 120]⟩, .string ⟨#[101, 108, 115, 101]⟩, .string ⟨#[105, 102]⟩, .string ⟨#[109, 111, 114, 101]⟩, .string ⟨#[97, 98, 111, 118, 101]⟩] 9)).cell? ⟨w.heap.size, 0 + j, none⟩ = some (.string (wordsB.getD j ByteArray.empty)) := by
  intro j hj
  have hl : wordsB.length = 11 := rfl
  have : j = 0 ∨ j = 1 ∨ j = 2 ∨ j = 3 ∨ j = 4 ∨ j = 5 ∨ j = 6 ∨ j = 7 ∨ j = 8 ∨ j = 9 ∨ j = 10 := by omega
  rcases this with rfl | rfl | rfl | rfl | rfl | rfl | rfl | rfl | rfl | rfl | rfl
  all_goals exact (blk_cell (blk_new w _) _).trans rfl
def lex_Word.f (a0 : ByteArray) : Option (Bool) := some (Lib.containsS wordsB a0)
set_option maxHeartbeats 1000000 in
set_option maxRecDepth 100000 in
theorem lex_Word.calls (a0 : ByteArray) (r : Bool) (w : World) (h : lex_Word.f a0 = some r) :
    Calls Tryz.prog 151 #[.string a0] w fun e w' => e = .returned (.bool r) ∧ Below w.heap.size w w' := by
  obtain rfl := Option.some.inj h
  clear h
  go_enter Tryz.func151, Tryz.ntmps151
  go_wp2_with (go_at_call 170; go_loud (refine (Tryz.slices_Contains_string w.heap.size 0 11 11 wordsB a0 _ (by decide) (by decide) ?hc).mono ?_; (case hc => exact words_at w); rintro e w1 ⟨rfl, rfl⟩))
  go_ret
  exact ⟨rfl, below_alloc (Below.refl _ _) _⟩

end Go.Proofs.YtkolnkjdcncmpaaGreatDoor.L

/- Layer 6, and what it needs of layer 2, in the pure machine. -/
namespace Go.Proofs.YtkolnkjdcncmpaaGreatDoor.Lx
open Go Go.RowKit Go.Proofs.YtkolnkjdcncmpaaGreatDoor.Pm Go.Proofs.YtkolnkjdcncmpaaGreatDoor.Pl
open Go.Proofs.YtkolnkjdcncmpaaGreatDoor.L (wordsL wordsB)
set_option linter.unusedVariables false
set_option maxHeartbeats 1000000
theorem one_str {w : World} {ok : Nat → Nat → Prop} {vals : Array Value} {s : ByteArray} (h : RepL (Rep w ok [] []) vals.toList [pS s]) : vals = #[.string s] := by
  apply Array.ext'
  match hv : vals.toList, h with
  | [v], h => rw [h.head.str_inv]
theorem Word_ok (s : ByteArray) : Ok E 151 [] [pS s] (pB (Lib.containsS wordsB s)) [] := by
  refine Ok.ofBelow hE ⟨_, Tryz.func151, by decide +kernel, by kernel_rfl⟩ fun w ok vals hI hr => ?_
  refine ⟨.bool (Lib.containsS wordsB s), fun _ => .mkBool _, ?_⟩
  obtain rfl := one_str hr
  exact L.lex_Word.calls s _ w rfl
theorem IndexByte_ok (s : ByteArray) (b : Int) : Ok E 169 [] [pS s, .c (.int .u8 b)] (pI (Lib.indexByte s.data.toList b.toNat.toUInt8)) [] := by
  refine Ok.ofBelow hE ⟨_, Tryz.func169, by decide +kernel, by kernel_rfl⟩ fun w ok vals hI hv => ?_
  refine ⟨.int .i64 (Lib.indexByte s.data.toList b.toNat.toUInt8), fun _ => .mkInt _ _, ?_⟩
  match hvl : vals.toList, hv with
  | [v, u], hv =>
    have hvals : vals = #[.string s, .int .u8 b] := by apply Array.ext'; rw [hvl, hv.head.str_inv, hv.tail.head.int_inv]
    subst hvals
    refine (L.strings_IndexByte.calls s b _ w rfl).mono ?_
    rintro e w' ⟨rfl, hd⟩
    exact ⟨rfl, hd.below⟩
theorem laidW {w : World} (h : Inv w) : L.LaidW w := ⟨h.tab, h.synt, h.rang⟩
theorem two_str {w : World} {ok : Nat → Nat → Prop} {vals : Array Value} {s t : ByteArray} (h : RepL (Rep w ok [] []) vals.toList [pS s, pS t]) : vals = #[.string s, .string t] := by
  apply Array.ext'
  match hv : vals.toList, h with
  | [v, u], h => rw [h.head.str_inv, h.tail.head.str_inv]
theorem Count_ok (s : ByteArray) (m : Int) (hs : s.size ≤ 281474976710656) (hm : I64 m) : Ok E 164 [] [pS s, pI m] (pI (countL s.data.toList m)) [] := by
  refine Ok.ofBelow hE ⟨_, Tryz.func164, by decide +kernel, by kernel_rfl⟩ fun w ok vals hI hr => ?_
  refine ⟨.int .i64 (countL s.data.toList m), fun _ => .mkInt _ _, ?_⟩
  match hv : vals.toList, hr with
  | [v, u], h =>
    have hvals : vals = #[.string s, .int .i64 m] := by apply Array.ext'; rw [hv, h.head.str_inv, h.tail.head.int_inv]
    subst hvals
    exact L.dec_Count.calls s m _ w (laidW hI) (by unfold L.dec_Count.f; exact if_pos ⟨hs, hm.1, hm.2⟩)
theorem all_ok (s : ByteArray) : Ok E 176 [] [pS s] (pB (allL s.data.toList)) [] := by
  refine Ok.ofBelow hE ⟨_, Tryz.func176, by decide +kernel, by kernel_rfl⟩ fun w ok vals hI hr => ?_
  refine ⟨.bool (allL s.data.toList), fun _ => .mkBool _, ?_⟩
  obtain rfl := one_str hr
  exact L.dec_all.calls s _ w rfl
theorem Itoa_ok (n : Int) (hn : I64 n) : Ok E 168 [] [pI n] (pS (B (intL n))) [] := by
  refine Ok.ofBelow hE ⟨_, Tryz.func168, by decide +kernel, by kernel_rfl⟩ fun w ok vals hI hr => ?_
  refine ⟨.string (B (intL n)), fun _ => .mkStr _, ?_⟩
  match hv : vals.toList, hr with
  | [v], h =>
    have hvals : vals = #[.int .i64 n] := by apply Array.ext'; rw [hv, h.head.int_inv]
    subst hvals
    exact L.strconv_Itoa.calls n _ w (laidW hI) (by unfold L.strconv_Itoa.f; exact if_pos ⟨hn.1, hn.2⟩)
theorem Trim_ok (s t : ByteArray) : Ok E 178 [] [pS s, pS t] (pS (B (Lib.trimPrefix s.data.toList t.data.toList))) [] := by
  refine Ok.ofBelow hE ⟨_, Tryz.func178, by decide +kernel, by kernel_rfl⟩ fun w ok vals hI hr => ?_
  refine ⟨.string _, fun _ => .mkStr _, ?_⟩
  obtain rfl := two_str hr
  refine (L.strings_TrimPrefix.calls s t _ w rfl).mono ?_
  rintro e w' ⟨rfl, hd⟩
  exact ⟨rfl, hd.below⟩
theorem Cut_ok (s t : ByteArray) (ht : t.size = 1) (hs : s.size ≤ 281474976710656) : Ok E 177 [] [pS s, pS t] (.tup [pS (B (Lib.cut s.data.toList t.data.toList).1), pS (B (Lib.cut s.data.toList t.data.toList).2.1), pB (Lib.cut s.data.toList t.data.toList).2.2]) [] := by
  refine Ok.ofBelow hE ⟨_, Tryz.func177, by decide +kernel, by kernel_rfl⟩ fun w ok vals hI hr => ?_
  refine ⟨.tuple #[.string (B (Lib.cut s.data.toList t.data.toList).1), .string (B (Lib.cut s.data.toList t.data.toList).2.1), .bool (Lib.cut s.data.toList t.data.toList).2.2], fun w' => .tup _ _ rfl fun i v d hv hd => ?_, ?_⟩
  · match i with
    | 0 => simp at hv hd; subst hv; subst hd; exact .mkStr _
    | 1 => simp at hv hd; subst hv; subst hd; exact .mkStr _
    | 2 => simp at hv hd; subst hv; subst hd; exact .mkBool _
    | n + 3 => simp at hv
  · obtain rfl := two_str hr
    refine (L.strings_Cut.calls s t _ _ _ w (by unfold L.strings_Cut.f; exact if_pos ⟨ht, hs⟩)).mono ?_
    rintro e w' ⟨rfl, hd⟩
    exact ⟨rfl, hd.below⟩
def inB (set : ByteArray) (c : UInt8) : Bool := decide (Lib.indexByte set.data.toList c ≥ 0)
theorem in_ok (set : ByteArray) (c : UInt8) : Ok E 150 [] [.c (.int .u8 c.toNat), pS set] (pB (inB set c)) [] := by
  have h := IndexByte_ok set c.toNat
  have e : ((c.toNat : Int).toNat.toUInt8) = c := by simp
  rw [e] at h
  refine Ok.enter hE Tryz.func150 rfl (by decide +kernel) (by kernel_rfl) rfl rfl (Nat.le_of_ble_eq_true rfl) rfl ?_
  refine ⟨_, CallR.mk1 h rfl rfl, ?_⟩
  refine ⟨_, geV (c := inB set c) rfl, ?_⟩
  exact Ret.mk _ rfl rfl rfl
def runB (set : ByteArray) : List UInt8 → Nat
  | [] => 0
  | c :: l => if inB set c then runB set l + 1 else 0
theorem run_ok (s set : ByteArray) (hs : s.size ≤ 4611686018427387904) : Ok E 140 [] [pS s, pS set] (pI (runB set s.data.toList)) [] := by
  have hsz : s.data.toList.length = s.size := by simp
  refine Ok.enter hE Tryz.func140 rfl (by decide +kernel) (by kernel_rfl) rfl rfl (Nat.le_of_ble_eq_true rfl) rfl ?_
  refine Loop.run (α := Nat) (fun j => j ≤ s.size ∧ runB set s.data.toList = j + runB set (s.data.toList.drop j)) (fun j => [(0, pS s), (1, pS set), (7, pI s.size), (8, pI j)]) (fun _ => []) (fun _ => []) (fun j => s.size - j) 0 ⟨Nat.zero_le _, by simp⟩ ⟨⟨rfl, rfl, rfl, rfl, trivial⟩, rfl, rfl⟩ ?_
  rintro j f ⟨hj, hr⟩
  by_cases hjl : j < s.size
  · refine ⟨_, ltT (by omega), ?_⟩
    obtain ⟨b, hb⟩ : ∃ b, s.data.toList[j]? = some b := ⟨_, List.getElem?_eq_getElem (by omega)⟩
    have hd : s.data.toList.drop j = b :: s.data.toList.drop (j + 1) := by
      rw [List.drop_eq_getElem_cons (by omega)]
      congr 1
      rw [List.getElem?_eq_getElem (by omega)] at hb
      exact Option.some.inj hb
    rw [hd, runB] at hr
    refine ⟨_, idxSV j b rfl rfl hb, ?_⟩
    have hI := in_ok set b
    rcases Bool.eq_false_or_eq_true (inB set b) with hin | hin
    · rw [hin] at hI
      rw [if_pos hin] at hr
      refine ⟨_, CallR.mk1 hI rfl rfl, ?_⟩
      refine ⟨_, addV rfl (by omega) (by omega), ?_⟩
      exact ⟨j + 1, ⟨hjl, by omega⟩, by omega, ⟨rfl, rfl, rfl, rfl, trivial⟩, rfl, rfl⟩
    · rw [hin] at hI
      rw [if_neg (by rw [hin]; simp)] at hr
      refine ⟨_, CallR.mk1 hI rfl rfl, ?_⟩
      have hv : j = runB set s.data.toList := by omega
      exact Ret.mk _ rfl (congrArg (fun n : Nat => pI n) hv) rfl
  · refine ⟨_, ltN (by omega), ?_⟩
    have hv : s.size = runB set s.data.toList := by
      rw [hr, List.drop_of_length_le (by omega), runB]; omega
    exact Ret.mk _ rfl (congrArg (fun n : Nat => pI n) hv) rfl
def abcB : ByteArray := ⟨#[97, 98, 99, 100, 101, 102, 103, 104, 105, 106, 107, 108, 109, 110, 111, 112, 113, 114, 115, 116, 117, 118, 119, 120, 121, 122]⟩
def abc9B : ByteArray := ⟨#[97, 98, 99, 100, 101, 102, 103, 104, 105, 106, 107, 108, 109, 110, 111, 112, 113, 114, 115, 116, 117, 118, 119, 120, 121, 122, 48, 49, 50, 51, 52, 53, 54, 55, 56, 57]⟩
def isName (s : ByteArray) : Bool := match s.data.toList with
  | [] => false
  | c :: l => decide (s.size ≤ 12) && (inB abcB c && (decide (runB abc9B (c :: l) = s.size) && !(Lib.containsS wordsB s)))
theorem Name_ok (s : ByteArray) : Ok E 122 [] [pS s] (pB (isName s)) [] := by
  have hsz : s.data.toList.length = s.size := by simp
  have hw := Word_ok s
  obtain ⟨v, hv⟩ : ∃ v, isName s = v := ⟨_, rfl⟩
  rw [hv]
  unfold isName at hv
  cases hl : s.data.toList with
  | nil =>
    rw [hl] at hv
    subst hv
    refine Ok.enter hE Tryz.func122 rfl (by decide +kernel) (by kernel_rfl) rfl rfl (Nat.le_of_ble_eq_true rfl) rfl ?_
    refine ⟨_, strNeV (c := false) (by rw [toList_data, toList_data, hl]; rfl), ?_⟩
    exact Ret.mk _ rfl rfl rfl
  | cons c l =>
    rw [hl] at hv
    dsimp only at hv
    refine Ok.enter hE Tryz.func122 rfl (by decide +kernel) (by kernel_rfl) rfl rfl (Nat.le_of_ble_eq_true rfl) rfl ?_
    refine ⟨_, strNeV (c := true) (by rw [toList_data, toList_data, hl]; rfl), ?_⟩
    by_cases h12 : s.size ≤ 12
    · rw [decide_eq_true h12, Bool.true_and] at hv
      refine ⟨_, leT (by omega), ?_⟩
      refine ⟨_, idxSV 0 c rfl rfl (by rw [hl]; rfl), ?_⟩
      have hI := in_ok abcB c
      rcases Bool.eq_false_or_eq_true (inB abcB c) with hin | hin
      · rw [hin] at hv hI
        rw [Bool.true_and] at hv
        refine ⟨_, CallR.mk1 hI rfl rfl, ?_⟩
        have hrun := run_ok s abc9B (by omega)
        rw [hl] at hrun
        refine ⟨_, CallR.mk1 hrun rfl rfl, ?_⟩
        by_cases hrn : runB abc9B (c :: l) = s.size
        · rw [decide_eq_true hrn, Bool.true_and] at hv
          refine ⟨_, eqT (by omega), ?_⟩
          refine ⟨_, CallR.mk1 hw rfl rfl, ?_⟩
          exact Ret.mk _ rfl (congrArg (fun b : Bool => pB b) hv) rfl
        · rw [decide_eq_false hrn] at hv; subst hv
          refine ⟨_, eqN (by omega), ?_⟩
          exact Ret.mk _ rfl rfl rfl
      · rw [hin] at hv hI
        subst hv
        refine ⟨_, CallR.mk1 hI rfl rfl, ?_⟩
        exact Ret.mk _ rfl rfl rfl
    · rw [decide_eq_false h12] at hv; subst hv
      refine ⟨_, leN (by omega), ?_⟩
      exact Ret.mk _ rfl rfl rfl
/-! ### layer 6 -/
def letterB (c : UInt8) : Bool := decide (97 ≤ c.toNat) && decide (c.toNat ≤ 122)
def digitB (c : UInt8) : Bool := decide (48 ≤ c.toNat) && decide (c.toNat ≤ 57)
theorem rletter_ok (c : UInt8) : Ok E 89 [] [.c (.int .u8 c.toNat)] (pB (letterB c)) [] := by
  obtain ⟨v, hv⟩ : ∃ v, letterB c = v := ⟨_, rfl⟩
  rw [hv]
  unfold letterB at hv
  refine Ok.enter hE Tryz.func89 rfl (by decide +kernel) (by kernel_rfl) rfl rfl (Nat.le_of_ble_eq_true rfl) rfl ?_
  by_cases h : 97 ≤ c.toNat
  · rw [decide_eq_true h, Bool.true_and] at hv
    refine ⟨_, geT (by omega), ?_⟩
    refine ⟨_, leV (c := v) (by rw [← hv]; exact decide_eq_decide.2 (by omega)), ?_⟩
    exact Ret.mk _ rfl rfl rfl
  · rw [decide_eq_false h, Bool.false_and] at hv
    subst hv
    refine ⟨_, geN (by omega), ?_⟩
    exact Ret.mk _ rfl rfl rfl
theorem rdigit_ok (c : UInt8) : Ok E 90 [] [.c (.int .u8 c.toNat)] (pB (digitB c)) [] := by
  obtain ⟨v, hv⟩ : ∃ v, digitB c = v := ⟨_, rfl⟩
  rw [hv]
  unfold digitB at hv
  refine Ok.enter hE Tryz.func90 rfl (by decide +kernel) (by kernel_rfl) rfl rfl (Nat.le_of_ble_eq_true rfl) rfl ?_
  by_cases h : 48 ≤ c.toNat
  · rw [decide_eq_true h, Bool.true_and] at hv
    refine ⟨_, geT (by omega), ?_⟩
    refine ⟨_, leV (c := v) (by rw [← hv]; exact decide_eq_decide.2 (by omega)), ?_⟩
    exact Ret.mk _ rfl rfl rfl
  · rw [decide_eq_false h, Bool.false_and] at hv
    subst hv
    refine ⟨_, geN (by omega), ?_⟩
    exact Ret.mk _ rfl rfl rfl
theorem contains_drop (zs : List ByteArray) (s w : ByteArray) (j : Nat) (h : zs[j]? = some w) : Lib.containsS (zs.drop j) s = ((w.toList == s.toList) || Lib.containsS (zs.drop (j + 1)) s) := by
  have hjl := (List.getElem?_eq_some_iff.1 h).1
  have hd : zs.drop j = w :: zs.drop (j + 1) := by
    rw [List.drop_eq_getElem_cons hjl]
    congr 1
    rw [List.getElem?_eq_getElem hjl] at h
    exact Option.some.inj h
  rw [hd]
  have e : (w.toList == s.toList) = true ↔ s = w := by
    rw [beq_iff_eq, toList_data, toList_data]
    constructor
    · intro h
      apply ByteArray.ext
      apply Array.ext'
      exact h.symm
    · intro h; rw [h]
  rw [Bool.eq_iff_iff, Lib.containsS_iff, Bool.or_eq_true, e, Lib.containsS_iff, List.mem_cons]
def wordRow : List (List CV) := wordsB.map fun w => [.str w]
theorem rWord_ok (s : ByteArray) : Ok E 118 [] [pS s] (pB (Lib.containsS wordsB s)) [] := by
  obtain ⟨v, hv⟩ : ∃ v, Lib.containsS wordsB s = v := ⟨_, rfl⟩
  rw [hv]
  have hlen : wordsB.length = 11 := rfl
  have hrow : wordRow.length = 11 := rfl
  refine Ok.enter hE Tryz.func118 rfl (by decide +kernel) (by kernel_rfl) rfl rfl (Nat.le_of_ble_eq_true rfl) rfl ?_
  refine ⟨_, ⟨_, rfl, rfl⟩, ?_⟩
  refine Loop.run (α := Nat) (fun j => j ≤ 11 ∧ Lib.containsS (wordsB.drop j) s = v) (fun j => [(0, pS s), (3, .c (.row wordRow)), (4, pI j)]) (fun _ => []) (fun _ => []) (fun j => 11 - j) 0 ⟨Nat.zero_le _, hv⟩ ⟨⟨rfl, rfl, rfl, trivial⟩, rfl, rfl⟩ ?_
  rintro j f ⟨hj, hjv⟩
  by_cases hjl : j < 11
  · obtain ⟨w, hw⟩ : ∃ w, wordsB[j]? = some w := ⟨_, List.getElem?_eq_getElem (by omega)⟩
    rw [contains_drop _ _ _ _ hw] at hjv
    have hx : wordRow[j]? = some [.str w] := by unfold wordRow; rw [List.getElem?_map, hw]; rfl
    refine ⟨_, ltT (by rw [hrow]; omega), ?_⟩
    refine ⟨_, idxV (j := j) hx rfl rfl rfl rfl, ?_⟩
    rcases Bool.eq_false_or_eq_true (w.toList == s.toList) with he | he
    · rw [he, Bool.true_or] at hjv
      refine ⟨_, strEqV he, ?_⟩
      exact Ret.mk _ rfl (congrArg (fun b : Bool => pB b) hjv) rfl
    · rw [he, Bool.false_or] at hjv
      refine ⟨_, strEqV he, ?_⟩
      refine ⟨_, addV rfl (by omega) (by omega), ?_⟩
      exact ⟨j + 1, ⟨hjl, hjv⟩, by omega, ⟨rfl, rfl, rfl, trivial⟩, rfl, rfl⟩
  · refine ⟨_, ltN (by rw [hrow]; omega), ?_⟩
    rw [List.drop_of_length_le (by omega)] at hjv
    exact Ret.mk _ rfl (congrArg (fun b : Bool => pB b) (show false = v from hjv)) rfl
theorem in_letter : ∀ c : UInt8, inB abcB c = letterB c := by
  have h : ∀ n : Nat, n < 256 → inB abcB (UInt8.ofNat n) = letterB (UInt8.ofNat n) := by decide +kernel
  intro c
  have := h c.toNat c.toNat_lt
  rwa [UInt8.ofNat_toNat] at this
theorem in_part : ∀ c : UInt8, inB abc9B c = (letterB c || digitB c) := by
  have h : ∀ n : Nat, n < 256 → inB abc9B (UInt8.ofNat n) = (letterB (UInt8.ofNat n) || digitB (UInt8.ofNat n)) := by decide +kernel
  intro c
  have := h c.toNat c.toNat_lt
  rwa [UInt8.ofNat_toNat] at this
theorem run_all (set : ByteArray) : ∀ l : List UInt8, decide (runB set l = l.length) = l.all (inB set)
  | [] => rfl
  | c :: l => by
    rw [List.all_cons, ← run_all set l, runB]
    rcases Bool.eq_false_or_eq_true (inB set c) with h | h
    · rw [h, if_pos rfl, Bool.true_and]; exact decide_eq_decide.2 (by simp)
    · rw [h, if_neg (by simp), Bool.false_and]; exact decide_eq_false (by simp)
theorem rName_ok (s : ByteArray) : Ok E 94 [] [pS s] (pB (isName s)) [] := by
  have hsz : s.data.toList.length = s.size := by simp
  have hw := rWord_ok s
  obtain ⟨v, hv⟩ : ∃ v, isName s = v := ⟨_, rfl⟩
  rw [hv]
  unfold isName at hv
  cases hl : s.data.toList with
  | nil =>
    rw [hl] at hv
    subst hv
    refine Ok.enter hE Tryz.func94 rfl (by decide +kernel) (by kernel_rfl) rfl rfl (Nat.le_of_ble_eq_true rfl) rfl ?_
    refine ⟨_, strEqV (c := true) (by rw [toList_data, toList_data, hl]; rfl), ?_⟩
    exact Ret.mk _ rfl rfl rfl
  | cons c l =>
    have hal := run_all abc9B (c :: l)
    rw [← hl] at hal
    rw [hl] at hv
    dsimp only at hv
    rw [← hl, ← hsz, hal, in_letter] at hv
    have h0 := rletter_ok c
    refine Ok.enter hE Tryz.func94 rfl (by decide +kernel) (by kernel_rfl) rfl rfl (Nat.le_of_ble_eq_true rfl) rfl ?_
    refine ⟨_, strEqV (c := false) (by rw [toList_data, toList_data, hl]; rfl), ?_⟩
    by_cases h12 : s.size ≤ 12
    rotate_left
    · rw [hsz, decide_eq_false h12] at hv
      refine ⟨_, gtT (by omega), ?_⟩
      exact Ret.mk _ rfl (congrArg (fun b : Bool => pB b) (show false = v from hv)) rfl
    rw [hsz, decide_eq_true h12, Bool.true_and] at hv
    refine ⟨_, gtN (by omega), ?_⟩
    refine ⟨_, idxSV 0 c rfl rfl (by rw [hl]; rfl), ?_⟩
    rcases Bool.eq_false_or_eq_true (letterB c) with hin | hin
    rotate_left
    · rw [hin] at hv h0
      refine ⟨_, CallR.mk1 h0 rfl rfl, ?_⟩
      exact Ret.mk _ rfl (congrArg (fun b : Bool => pB b) (show false = v from hv)) rfl
    rw [hin] at hv h0
    rw [Bool.true_and] at hv
    refine ⟨_, CallR.mk1 h0 rfl rfl, ?_⟩
    rcases Bool.eq_false_or_eq_true (Lib.containsS wordsB s) with hww | hww
    · rw [hww] at hv hw
      rw [show (!true) = false from rfl, Bool.and_false] at hv
      refine ⟨_, CallR.mk1 hw rfl rfl, ?_⟩
      exact Ret.mk _ rfl (congrArg (fun b : Bool => pB b) hv) rfl
    rw [hww] at hv hw
    rw [show (!false) = true from rfl, Bool.and_true] at hv
    refine ⟨_, CallR.mk1 hw rfl rfl, ?_⟩
    refine Loop.run (α := Nat) (fun j => j ≤ s.size ∧ (s.data.toList.drop j).all (inB abc9B) = v) (fun j => [(0, pS s), (3, pI j)]) (fun _ => []) (fun _ => []) (fun j => s.size - j) 0 ⟨Nat.zero_le _, hv⟩ ⟨⟨rfl, rfl, trivial⟩, rfl, rfl⟩ ?_
    rintro j f ⟨hj, hjv⟩
    by_cases hjl : j < s.size
    · obtain ⟨b, hb⟩ : ∃ b, s.data.toList[j]? = some b := ⟨_, List.getElem?_eq_getElem (by omega)⟩
      have hd : s.data.toList.drop j = b :: s.data.toList.drop (j + 1) := by
        rw [List.drop_eq_getElem_cons (by omega)]
        congr 1
        rw [List.getElem?_eq_getElem (by omega)] at hb
        exact Option.some.inj hb
      rw [hd, List.all_cons, in_part] at hjv
      have hA := rletter_ok b
      have hD := rdigit_ok b
      refine ⟨_, ltT (by omega), ?_⟩
      refine ⟨_, idxSV j b rfl rfl hb, ?_⟩
      rcases Bool.eq_false_or_eq_true (letterB b) with ha | ha
      · rw [ha] at hjv hA
        rw [Bool.true_or, Bool.true_and] at hjv
        refine ⟨_, CallR.mk1 hA rfl rfl, ?_⟩
        refine ⟨_, addV rfl (by omega) (by omega), ?_⟩
        exact ⟨j + 1, ⟨hjl, hjv⟩, by omega, ⟨rfl, rfl, trivial⟩, rfl, rfl⟩
      · rw [ha] at hjv hA
        rw [Bool.false_or] at hjv
        refine ⟨_, CallR.mk1 hA rfl rfl, ?_⟩
        refine ⟨_, idxSV j b rfl rfl hb, ?_⟩
        rcases Bool.eq_false_or_eq_true (digitB b) with hdg | hdg
        · rw [hdg] at hjv hD
          rw [Bool.true_and] at hjv
          refine ⟨_, CallR.mk1 hD rfl rfl, ?_⟩
          refine ⟨_, addV rfl (by omega) (by omega), ?_⟩
          exact ⟨j + 1, ⟨hjl, hjv⟩, by omega, ⟨rfl, rfl, trivial⟩, rfl, rfl⟩
        · rw [hdg] at hjv hD
          refine ⟨_, CallR.mk1 hD rfl rfl, ?_⟩
          exact Ret.mk _ rfl (congrArg (fun b : Bool => pB b) (show false = v from hjv)) rfl
    · refine ⟨_, ltN (by omega), ?_⟩
      rw [List.drop_of_length_le (by omega)] at hjv
      exact Ret.mk _ rfl (congrArg (fun b : Bool => pB b) (show true = v from hjv)) rfl
end Go.Proofs.YtkolnkjdcncmpaaGreatDoor.Lx

/- Layer 2 and the scanner's first, in the pure machine. -/
namespace Go.Proofs.YtkolnkjdcncmpaaGreatDoor.Lx
open Go Go.RowKit Go.Proofs.YtkolnkjdcncmpaaGreatDoor.Pm Go.Proofs.YtkolnkjdcncmpaaGreatDoor.Pl
open Go.Proofs.YtkolnkjdcncmpaaGreatDoor.L (wordsL wordsB)
set_option linter.unusedVariables false
set_option maxHeartbeats 1000000
theorem within_ok (a lo hi : Int) : Ok E 173 [] [pI a, pI lo, pI hi] (pB (decide (lo ≤ a) && decide (a ≤ hi))) [] := by
  obtain ⟨v, hv⟩ : ∃ v, (decide (lo ≤ a) && decide (a ≤ hi)) = v := ⟨_, rfl⟩
  rw [hv]
  refine Ok.enter hE Tryz.func173 rfl (by decide +kernel) (by kernel_rfl) rfl rfl (Nat.le_of_ble_eq_true rfl) rfl ?_
  by_cases h : lo ≤ a
  · rw [decide_eq_true h, Bool.true_and] at hv
    refine ⟨_, geT h, ?_⟩
    refine ⟨_, leV (c := v) hv, ?_⟩
    exact Ret.mk _ rfl rfl rfl
  · rw [decide_eq_false h, Bool.false_and] at hv
    subst hv
    refine ⟨_, geN (by omega), ?_⟩
    exact Ret.mk _ rfl rfl rfl
theorem MRight_ok (a : Int) : Ok E 167 [] [pI a] (pB (decide (okA a))) [] := by
  have h := within_ok a (-1000000000000) 1000000000000
  have e : (decide ((-1000000000000 : Int) ≤ a) && decide (a ≤ 1000000000000)) = decide (okA a) := by
    unfold okA
    by_cases h1 : (-1000000000000 : Int) ≤ a <;> by_cases h2 : a ≤ (1000000000000 : Int) <;> simp [h1, h2]
  rw [e] at h
  refine Ok.enter hE Tryz.func167 rfl (by decide +kernel) (by kernel_rfl) rfl rfl (Nat.le_of_ble_eq_true rfl) rfl ?_
  refine ⟨_, CallR.mk1 h rfl rfl, ?_⟩
  exact Ret.mk _ rfl rfl rfl
theorem digs_three (r : Nat) (h : r < 100) : digs (100 + r) = [49, dig (r / 10), dig r] := by
  rw [digs_rec _ (by omega), if_neg (by omega), digs_rec _ (by omega), if_neg (by omega), digs_one (by omega)]
  have e1 : dig ((100 + r) / 10 / 10) = 49 := by
    apply UInt8.toNat_inj.1
    rw [dig_toNat]
    simp
    omega
  have e2 : dig ((100 + r) / 10) = dig (r / 10) := by
    apply UInt8.toNat_inj.1
    rw [dig_toNat, dig_toNat]
    omega
  have e3 : dig (100 + r) = dig r := by
    apply UInt8.toNat_inj.1
    rw [dig_toNat, dig_toNat]
    omega
  rw [e1, e2, e3]
  rfl
theorem intL_nat (n : Nat) : intL (n : Int) = digs n := by
  unfold intL
  rw [if_neg (by omega), Int.toNat_natCast]
theorem dText_ok (a : Int) (ha : I64 a) : Ok E 147 [] [pI a] (pS (B (textL a))) [] := by
  have hR := MRight_ok a
  by_cases hok : okA a
  rotate_left
  · rw [decide_eq_false hok] at hR
    rw [textL_no hok]
    refine Ok.enter hE Tryz.func147 rfl (by decide +kernel) (by kernel_rfl) rfl rfl (Nat.le_of_ble_eq_true rfl) rfl ?_
    refine ⟨_, CallR.mk1 hR rfl rfl, ?_⟩
    exact Ret.mk _ rfl rfl rfl
  rw [decide_eq_true hok] at hR
  have hb : -1000000000000 ≤ a ∧ a ≤ 1000000000000 := hok
  obtain ⟨n, hn⟩ : ∃ n : Nat, a.natAbs = n := ⟨_, rfl⟩
  have hnb : n ≤ 1000000000000 := by omega
  have ht := textL_ok hok
  rw [hn] at ht
  have I1 := Itoa_ok ((100 + n % 100 : Nat) : Int) ⟨by omega, by omega⟩
  have I2 := Itoa_ok ((n / 100 : Nat) : Int) ⟨by omega, by omega⟩
  rw [intL_nat, digs_three _ (by omega)] at I1
  rw [intL_nat] at I2
  have e1 : ((n : Int)).tmod 100 = ((n % 100 : Nat) : Int) := by rw [Int.tmod_eq_emod_of_nonneg (by omega)]; omega
  have e2 : ((n : Int)).tdiv 100 = ((n / 100 : Nat) : Int) := by rw [Int.tdiv_eq_ediv_of_nonneg (by omega)]; omega
  have q1 : dig (n % 100 / 10) = dig (n / 10) := by unfold dig; congr 2; omega
  have q2 : dig (n % 100) = dig n := by unfold dig; congr 2; omega
  rw [q1, q2] at I1
  have hl := digs_len (n / 100)
  by_cases hneg : a < 0
  · rw [if_pos hneg] at ht
    rw [ht]
    refine Ok.enter hE Tryz.func147 rfl (by decide +kernel) (by kernel_rfl) rfl rfl (Nat.le_of_ble_eq_true rfl) rfl ?_
    refine ⟨_, CallR.mk1 hR rfl rfl, ?_⟩
    refine ⟨_, ltT hneg, ?_⟩
    refine ⟨_, negV (z := n) (by omega) (by omega) (by omega), ?_⟩
    refine ⟨_, remV (by omega) e1, ?_⟩
    refine ⟨_, addV (z := ((100 + n % 100 : Nat) : Int)) (by omega) (by omega) (by omega), ?_⟩
    refine ⟨_, CallR.mk1 I1 rfl rfl, ?_⟩
    refine ⟨_, quoV (by omega) e2 (by omega) (by omega), ?_⟩
    refine ⟨_, CallR.mk1 I2 rfl rfl, ?_⟩
    refine ⟨_, catB (a := [45]) (by show 1 + _ ≤ _; omega), ?_⟩
    refine ⟨_, catB (b := [46]) (by simp only [List.length_append, List.length_cons, List.length_nil]; omega), ?_⟩
    refine ⟨_, sliceSV 1 3 rfl rfl rfl ⟨by decide, Nat.le_refl _⟩, ?_⟩
    refine ⟨_, catB (b := [dig (n / 10), dig n]) (by simp only [List.length_append, List.length_cons, List.length_nil]; omega), ?_⟩
    exact Ret.mk _ rfl (by show PV.c (.str (B _)) = PV.c (.str (B _)); simp only [List.append_assoc]; rfl) rfl
  · rw [if_neg hneg] at ht
    rw [ht]
    have ea : a = (n : Int) := by omega
    refine Ok.enter hE Tryz.func147 rfl (by decide +kernel) (by kernel_rfl) rfl rfl (Nat.le_of_ble_eq_true rfl) rfl ?_
    refine ⟨_, CallR.mk1 hR rfl rfl, ?_⟩
    refine ⟨_, ltN hneg, ?_⟩
    refine ⟨_, remV (z := ((n % 100 : Nat) : Int)) (by omega) (by rw [ea]; exact e1), ?_⟩
    refine ⟨_, addV (z := ((100 + n % 100 : Nat) : Int)) (by omega) (by omega) (by omega), ?_⟩
    refine ⟨_, CallR.mk1 I1 rfl rfl, ?_⟩
    refine ⟨_, quoV (z := ((n / 100 : Nat) : Int)) (by omega) (by rw [ea]; exact e2) (by omega) (by omega), ?_⟩
    refine ⟨_, CallR.mk1 I2 rfl rfl, ?_⟩
    refine ⟨_, catB (a := []) (by show 0 + _ ≤ _; omega), ?_⟩
    refine ⟨_, catB (b := [46]) (by simp only [List.length_append, List.length_cons, List.length_nil]; omega), ?_⟩
    refine ⟨_, sliceSV 1 3 rfl rfl rfl ⟨by decide, Nat.le_refl _⟩, ?_⟩
    refine ⟨_, catB (b := [dig (n / 10), dig n]) (by simp only [List.length_append, List.length_cons, List.length_nil]; omega), ?_⟩
    exact Ret.mk _ rfl (by show PV.c (.str (B _)) = PV.c (.str (B _)); simp only [List.append_assoc]; rfl) rfl
theorem idxB_first : ∀ (w r : List UInt8), (46 : UInt8) ∉ w → Lib.indexByte (w ++ 46 :: r) 46 = (w.length : Int)
  | [], r, _ => by simp [Lib.indexByte]
  | c :: w, r, h => by
    simp only [List.mem_cons, not_or] at h
    have ih := idxB_first w r h.2
    have hc : (c == 46) = false := beq_eq_false_iff_ne.2 (Ne.symm h.1)
    simp only [List.cons_append, Lib.indexByte, hc, ih]
    simp
    try omega
theorem cut_first (w r : List UInt8) (h : (46 : UInt8) ∉ w) : Lib.cut (w ++ 46 :: r) [46] = (w, r, true) := by
  have e : Lib.index (w ++ 46 :: r) [46] = (w.length : Int) := by rw [Lib.index_one, idxB_first w r h]
  unfold Lib.cut
  simp only [e]
  rw [if_pos (by omega)]
  simp
theorem trim_eq (l : List UInt8) : Lib.trimPrefix l [45] = if l.head? = some 45 then l.tail else l := by
  unfold Lib.trimPrefix Lib.hasPrefix
  cases l with
  | nil => simp
  | cons c l =>
    by_cases h : c = 45
    · subst h; simp
    · have h' : ¬ (45 : UInt8) = c := fun e => h e.symm
      simp [h, h']
def goP (l : List UInt8) : Int × Int :=
  let c := Lib.cut (if l.head? = some 45 then l.tail else l) [46]
  let n := countL c.1 10000000000
  if n < 0 ∨ c.2.1.length ≠ 2 ∨ allL c.2.1 = false then (0, 20) else
  let m := n * 100 + ((c.2.1[0]?.getD 0).toNat - 48 : Int) * 10 + ((c.2.1[1]?.getD 0).toNat - 48 : Int)
  let a := if l.head? = some 45 then -m else m
  if textL a = l then (a, 0) else (0, 20)
theorem countL_nil (m : Int) : countL [] m = -1 := by simp [countL]
theorem two_cases (c : Prop) [Decidable c] (a : Int) {s : List UInt8} (hs : s ≠ []) : (if c then ((0, 20) : Int × Int) else if textL a = s then (a, 0) else (0, 20)) = (0, 20) ∨ ∃ b, okA b ∧ s = textL b := by
  by_cases h : c
  · exact .inl (if_pos h)
  · rw [if_neg h]
    exact step_cases _ hs
theorem goP_eq (l : List UInt8) : goP l = parseL l := by
  refine parseL_unique (f := goP) ?_ ?_ l
  · intro a ha
    unfold goP
    simp only [body_text ha]
    have h46 : (46 : UInt8) ∉ digs (a.natAbs / 100) := by
      intro hm
      have := List.all_eq_true.1 (digs_all' (a.natAbs / 100)) _ hm
      simp [isD] at this
    rw [cut_first _ _ h46]
    have hb : a.natAbs ≤ 1000000000000 := by unfold okA at ha; omega
    have hc := countL_digs (a.natAbs / 100) 10000000000 (by omega) (by omega)
    have hal : allL [dig (a.natAbs / 10), dig a.natAbs] = true := by simp [allL, dig_isD]
    simp only [hc, hal]
    rw [if_neg (by simp; omega)]
    simp only [List.getElem?_cons_zero, List.getElem?_cons_succ, Option.getD_some, dig_toNat]
    have hm : ((a.natAbs / 100 : Nat) : Int) * 100 + (((48 + a.natAbs / 10 % 10 : Nat) : Int) - 48) * 10 + (((48 + a.natAbs % 10 : Nat) : Int) - 48) = a.natAbs := by omega
    rw [hm]
    have ha' : (if (textL a).head? = some 45 then -(a.natAbs : Int) else (a.natAbs : Int)) = a := by
      by_cases hn : a < 0
      · rw [if_pos ((head_text ha).2 hn)]; omega
      · rw [if_neg (fun e => hn ((head_text ha).1 e))]; omega
    rw [ha', if_pos rfl]
  · intro s
    by_cases hs : s = []
    · subst hs
      left
      unfold goP
      simp [Lib.cut, Lib.index, countL_nil]
    · unfold goP
      exact two_cases _ _ hs
theorem cut_len1 (t : List UInt8) : (Lib.cut t [46]).1.length ≤ t.length ∧ (Lib.cut t [46]).2.1.length ≤ t.length := by
  unfold Lib.cut
  split
  · simp
    omega
  · simp
theorem subU {E : Env} {t : Nat} {a b z : Int} (h : a - b = z) (h0 : 0 ≤ z) (h1 : z ≤ 255) : BinR E t .sub (.c (.int .u8 a)) (.c (.int .u8 b)) (.c (.int .u8 z)) := .of (by
  show some (PV.c (.int .u8 (IntKind.u8.wrap (a - b)))) = _
  rw [h]
  congr 3
  simp only [IntKind.wrap, IntKind.bits, IntKind.signed]
  simp
  omega)
theorem conv64 {z : Int} (h0 : -9223372036854775808 ≤ z) (h1 : z ≤ 9223372036854775807) : IntKind.i64.wrap z = z := wrapE h0 h1
theorem countL_nonneg {s : List UInt8} {m : Int} (h : ¬ countL s m < 0) : ∃ n : Nat, countL s m = n ∧ s = digs n ∧ (n : Int) ≤ m ∧ n ≤ 1000000000000 := by
  rcases countL_cases s m with h1 | h1
  · omega
  · exact h1
theorem dParse_ok (s : ByteArray) (hs : s.size ≤ 281474976710656) : Ok E 165 [] [pS s] (.tup [pI (parseL s.data.toList).1, pI (parseL s.data.toList).2]) [] := by
  obtain ⟨l, hl⟩ : ∃ l, s.data.toList = l := ⟨_, rfl⟩
  have hsz := sz_len s
  rw [hl] at hsz ⊢
  rw [← goP_eq l]
  have T1 := Trim_ok s ⟨#[45]⟩
  rw [show (⟨#[45]⟩ : ByteArray).data.toList = [45] from rfl, hl, trim_eq] at T1
  obtain ⟨t, ht⟩ : ∃ t, (if l.head? = some 45 then l.tail else l) = t := ⟨_, rfl⟩
  have htl : t.length ≤ l.length := by
    rw [← ht]; split
    · simp
    · exact Nat.le_refl _
  rw [ht] at T1
  have C1 := Cut_ok (B t) ⟨#[46]⟩ rfl (by rw [B_size]; omega)
  rw [show (⟨#[46]⟩ : ByteArray).data.toList = [46] from rfl, B_toList] at C1
  have hcl := cut_len1 t
  obtain ⟨c, hc⟩ : ∃ c, Lib.cut t [46] = c := ⟨_, rfl⟩
  obtain ⟨whole, rest, found⟩ := c
  rw [hc] at C1 hcl
  dsimp only at C1 hcl
  have K1 := Count_ok (B whole) 10000000000 (by rw [B_size]; omega) ⟨by decide, by decide⟩
  rw [B_toList] at K1
  have A1 := all_ok (B rest)
  rw [B_toList] at A1
  obtain ⟨r, hr⟩ : ∃ r, goP l = r := ⟨_, rfl⟩
  rw [hr]
  unfold goP at hr
  rw [ht, hc] at hr
  dsimp only at hr
  by_cases h1 : countL whole 10000000000 < 0
  · rw [if_pos (.inl h1)] at hr
    subst hr
    refine Ok.enter hE Tryz.func165 rfl (by decide +kernel) (by kernel_rfl) rfl rfl (Nat.le_of_ble_eq_true rfl) rfl ?_
    refine ⟨_, CallR.mk1 T1 rfl rfl, ?_⟩
    refine ⟨_, CallR.mk1 C1 rfl rfl, ?_⟩
    refine ⟨_, CallR.mk1 K1 rfl rfl, ?_⟩
    refine ⟨_, ltT h1, ?_⟩
    exact Ret.mk _ rfl rfl rfl
  obtain ⟨n, en, hdn, hn1, hn2⟩ := countL_nonneg h1
  by_cases h2 : rest.length = 2
  rotate_left
  · rw [if_pos (.inr (.inl h2))] at hr
    subst hr
    refine Ok.enter hE Tryz.func165 rfl (by decide +kernel) (by kernel_rfl) rfl rfl (Nat.le_of_ble_eq_true rfl) rfl ?_
    refine ⟨_, CallR.mk1 T1 rfl rfl, ?_⟩
    refine ⟨_, CallR.mk1 C1 rfl rfl, ?_⟩
    refine ⟨_, CallR.mk1 K1 rfl rfl, ?_⟩
    refine ⟨_, ltN h1, ?_⟩
    refine ⟨_, neT (by rw [B_size]; omega), ?_⟩
    exact Ret.mk _ rfl rfl rfl
  rcases Bool.eq_false_or_eq_true (allL rest) with h3 | h3
  rotate_left
  · rw [if_pos (.inr (.inr h3))] at hr
    subst hr
    rw [h3] at A1
    refine Ok.enter hE Tryz.func165 rfl (by decide +kernel) (by kernel_rfl) rfl rfl (Nat.le_of_ble_eq_true rfl) rfl ?_
    refine ⟨_, CallR.mk1 T1 rfl rfl, ?_⟩
    refine ⟨_, CallR.mk1 C1 rfl rfl, ?_⟩
    refine ⟨_, CallR.mk1 K1 rfl rfl, ?_⟩
    refine ⟨_, ltN h1, ?_⟩
    refine ⟨_, neN (by rw [B_size]; omega), ?_⟩
    refine ⟨_, CallR.mk1 A1 rfl rfl, ?_⟩
    exact Ret.mk _ rfl rfl rfl
  rw [if_neg (by rw [h3]; simp; omega)] at hr
  rw [h3] at A1
  match rest, h2 with
  | [p, q], _ =>
    simp only [allL, List.all_cons, List.all_nil, Bool.and_true, Bool.and_eq_true, isD, decide_eq_true_eq] at h3
    obtain ⟨_, ⟨p0, p1⟩, q0, q1⟩ := h3
    simp only [List.getElem?_cons_zero, List.getElem?_cons_succ, Option.getD_some, en] at hr
    obtain ⟨m, hm⟩ : ∃ m, (n : Int) * 100 + ((p.toNat : Int) - 48) * 10 + ((q.toNat : Int) - 48) = m := ⟨_, rfl⟩
    rw [hm] at hr
    rw [en] at K1
    have hne : l ≠ [] := by
      intro e
      have : t = [] := by rw [← ht, e]; rfl
      have hw : whole = [] := by
        have h0 := hcl.1
        rw [this] at h0
        exact List.length_eq_zero_iff.1 (by simpa using h0)
      rw [hw] at hdn
      exact digs_ne n hdn.symm
    obtain ⟨b, l', hbl⟩ : ∃ b l', l = b :: l' := by
      cases l with
      | nil => exact absurd rfl hne
      | cons b l' => exact ⟨b, l', rfl⟩
    have hb0 : s.data.toList[0]? = some b := by rw [hl, hbl]; rfl
    have hh : l.head? = some 45 ↔ b = 45 := by rw [hbl]; simp
    have hs45 : (b.toNat : Int) = 45 ↔ b = 45 := by
      constructor
      · intro h
        apply UInt8.toNat_inj.1
        show b.toNat = 45
        omega
      · intro h; rw [h]; rfl
    have hbig : -2000000000000 ≤ m ∧ m ≤ 2000000000000 := by omega
    have fin : ∀ a : Int, (if textL a = l then ((a, 0) : Int × Int) else (0, 20)) = r → I64 a → (textL a = l ∧ r = (a, 0)) ∨ (textL a ≠ l ∧ r = (0, 20)) := by
      intro a hr _
      by_cases h : textL a = l
      · rw [if_pos h] at hr; exact .inl ⟨h, hr.symm⟩
      · rw [if_neg h] at hr; exact .inr ⟨h, hr.symm⟩
    have seq : ∀ a : Int, textL a = l → ((B (textL a)).toList == s.toList) = true := by
      intro a h
      rw [toList_data, toList_data, B_toList, hl, h]; exact beq_self_eq_true _
    have sne : ∀ a : Int, textL a ≠ l → ((B (textL a)).toList == s.toList) = false := by
      intro a h
      rw [toList_data, toList_data, B_toList, hl]; exact beq_eq_false_iff_ne.2 h
    by_cases h45 : b = 45
    · rw [if_pos (hh.2 h45)] at hr
      have D1 := dText_ok (-m) ⟨by omega, by omega⟩
      have hf := fin (-m) hr ⟨by omega, by omega⟩
      have sq := seq (-m)
      have sn := sne (-m)
      obtain ⟨u, hu⟩ : ∃ u, B (textL (-m)) = u := ⟨_, rfl⟩
      rw [hu] at D1 sq sn
      refine Ok.enter hE Tryz.func165 rfl (by decide +kernel) (by kernel_rfl) rfl rfl (Nat.le_of_ble_eq_true rfl) rfl ?_
      refine ⟨_, CallR.mk1 T1 rfl rfl, ?_⟩
      refine ⟨_, CallR.mk1 C1 rfl rfl, ?_⟩
      refine ⟨_, CallR.mk1 K1 rfl rfl, ?_⟩
      refine ⟨_, ltN (by omega), ?_⟩
      refine ⟨_, neN rfl, ?_⟩
      refine ⟨_, CallR.mk1 A1 rfl rfl, ?_⟩
      refine ⟨_, mulV rfl (by omega) (by omega), ?_⟩
      refine ⟨_, idxSV 0 p rfl rfl rfl, ?_⟩
      refine ⟨_, subU rfl (by omega) (by omega), ?_⟩
      refine ⟨_, convV rfl rfl (conv64 (by omega) (by omega)), ?_⟩
      refine ⟨_, mulV rfl (by omega) (by omega), ?_⟩
      refine ⟨_, addV rfl (by omega) (by omega), ?_⟩
      refine ⟨_, idxSV 1 q rfl rfl rfl, ?_⟩
      refine ⟨_, subU rfl (by omega) (by omega), ?_⟩
      refine ⟨_, convV rfl rfl (conv64 (by omega) (by omega)), ?_⟩
      refine ⟨_, addV hm (by omega) (by omega), ?_⟩
      refine ⟨_, idxSV 0 b rfl rfl hb0, ?_⟩
      refine ⟨_, eqT (hs45.2 h45), ?_⟩
      refine ⟨_, negV rfl (by omega) (by omega), ?_⟩
      refine ⟨_, CallR.mk1 D1 rfl rfl, ?_⟩
      rcases hf with ⟨e, hr⟩ | ⟨e, hr⟩
      · refine ⟨_, strNeV (c := false) (by rw [sq e]; rfl), ?_⟩
        exact Ret.mk _ rfl (by rw [hr]; rfl) rfl
      · refine ⟨_, strNeV (c := true) (by rw [sn e]; rfl), ?_⟩
        exact Ret.mk _ rfl (by rw [hr]; rfl) rfl
    · rw [if_neg (fun e => h45 (hh.1 e))] at hr
      have D1 := dText_ok m ⟨by omega, by omega⟩
      have hf := fin m hr ⟨by omega, by omega⟩
      have sq := seq m
      have sn := sne m
      obtain ⟨u, hu⟩ : ∃ u, B (textL m) = u := ⟨_, rfl⟩
      rw [hu] at D1 sq sn
      refine Ok.enter hE Tryz.func165 rfl (by decide +kernel) (by kernel_rfl) rfl rfl (Nat.le_of_ble_eq_true rfl) rfl ?_
      refine ⟨_, CallR.mk1 T1 rfl rfl, ?_⟩
      refine ⟨_, CallR.mk1 C1 rfl rfl, ?_⟩
      refine ⟨_, CallR.mk1 K1 rfl rfl, ?_⟩
      refine ⟨_, ltN (by omega), ?_⟩
      refine ⟨_, neN rfl, ?_⟩
      refine ⟨_, CallR.mk1 A1 rfl rfl, ?_⟩
      refine ⟨_, mulV rfl (by omega) (by omega), ?_⟩
      refine ⟨_, idxSV 0 p rfl rfl rfl, ?_⟩
      refine ⟨_, subU rfl (by omega) (by omega), ?_⟩
      refine ⟨_, convV rfl rfl (conv64 (by omega) (by omega)), ?_⟩
      refine ⟨_, mulV rfl (by omega) (by omega), ?_⟩
      refine ⟨_, addV rfl (by omega) (by omega), ?_⟩
      refine ⟨_, idxSV 1 q rfl rfl rfl, ?_⟩
      refine ⟨_, subU rfl (by omega) (by omega), ?_⟩
      refine ⟨_, convV rfl rfl (conv64 (by omega) (by omega)), ?_⟩
      refine ⟨_, addV hm (by omega) (by omega), ?_⟩
      refine ⟨_, idxSV 0 b rfl rfl hb0, ?_⟩
      refine ⟨_, eqN (fun e => h45 (hs45.1 e)), ?_⟩
      refine ⟨_, CallR.mk1 D1 rfl rfl, ?_⟩
      rcases hf with ⟨e, hr⟩ | ⟨e, hr⟩
      · refine ⟨_, strNeV (c := false) (by rw [sq e]; rfl), ?_⟩
        exact Ret.mk _ rfl (by rw [hr]; rfl) rfl
      · refine ⟨_, strNeV (c := true) (by rw [sn e]; rfl), ?_⟩
        exact Ret.mk _ rfl (by rw [hr]; rfl) rfl
end Go.Proofs.YtkolnkjdcncmpaaGreatDoor.Lx

/- The scanner's first token, in the pure machine. -/
namespace Go.Proofs.YtkolnkjdcncmpaaGreatDoor.Lx
open Go Go.RowKit Go.Proofs.YtkolnkjdcncmpaaGreatDoor.Pm Go.Proofs.YtkolnkjdcncmpaaGreatDoor.Pl
open Go.Proofs.YtkolnkjdcncmpaaGreatDoor.L (wordsL wordsB)
set_option linter.unusedVariables false
set_option maxHeartbeats 1000000
structure Tok where
  kind : Int
  text : ByteArray
  n : Int
  place : Int
@[reducible] def cellsT (t : Tok) : List CV := [.int .i64 t.kind, .str t.text, .int .i64 t.n, .int .i64 t.place]
@[reducible] def pT (t : Tok) : PV := .agg (cellsT t)
def e0 : ByteArray := ⟨#[]⟩
def signsB : ByteArray := ⟨#[40, 41, 44]⟩
def partsB : ByteArray := ⟨#[97, 98, 99, 100, 101, 102, 103, 104, 105, 106, 107, 108, 109, 110, 111, 112, 113, 114, 115, 116, 117, 118, 119, 120, 121, 122, 48, 49, 50, 51, 52, 53, 54, 55, 56, 57, 46]⟩
def blanksB : ByteArray := ⟨#[32, 10]⟩
/-- what a run of parts is -/
def partF (p : ByteArray) : Tok × Bool :=
  if (Lib.containsS wordsB p || isName p) = true then (⟨1, p, 0, 0⟩, true)
  else if 0 ≤ countL p.data.toList 100000 then (⟨2, p, countL p.data.toList 100000, 0⟩, true)
  else (⟨3, p, (parseL p.data.toList).1, 0⟩, (parseL p.data.toList).2 == 0)
def firstF : List UInt8 → Tok × Bool
  | [] => (⟨5, e0, 0, 0⟩, true)
  | c :: l => if inB signsB c = true then (⟨4, B [c], 0, 0⟩, true) else partF (B ((c :: l).take (runB partsB (c :: l))))
theorem runB_le (set : ByteArray) : ∀ l : List UInt8, runB set l ≤ l.length
  | [] => Nat.le_refl _
  | c :: l => by
    rw [runB]
    have := runB_le set l
    split
    · simpa using this
    · exact Nat.zero_le _
theorem first_ok (s : ByteArray) (hs : s.size ≤ 281474976710656) : Ok E 141 [] [pS s] (.tup [pT (firstF s.data.toList).1, pB (firstF s.data.toList).2]) [] := by
  have hsz := sz_len s
  have hrun := run_ok s partsB (by omega)
  have hrl := runB_le partsB s.data.toList
  obtain ⟨r, hr⟩ : ∃ r, firstF s.data.toList = r := ⟨_, rfl⟩
  rw [hr]
  cases hl : s.data.toList with
  | nil =>
    rw [hl] at hr
    subst hr
    refine Ok.enter hE Tryz.func141 rfl (by decide +kernel) (by kernel_rfl) rfl rfl (Nat.le_of_ble_eq_true rfl) rfl ?_
    refine ⟨_, strEqV (c := true) (by rw [toList_data, toList_data, hl]; rfl), ?_⟩
    exact Ret.mk _ rfl rfl rfl
  | cons c l =>
    rw [hl, firstF, ← hl] at hr
    have hI := in_ok signsB c
    have hne : ((s.toList == (⟨#[]⟩ : ByteArray).toList) = false) := by rw [toList_data, toList_data, hl]; rfl
    have h0 : s.data.toList[0]? = some c := by rw [hl]; rfl
    have h1 : 1 ≤ s.size := by rw [← hsz, hl]; simp
    have ht1 : B ((s.data.toList.take 1).drop 0) = B [c] := by rw [hl]; rfl
    rcases Bool.eq_false_or_eq_true (inB signsB c) with hin | hin
    · rw [if_pos hin] at hr
      subst hr
      rw [hin] at hI
      refine Ok.enter hE Tryz.func141 rfl (by decide +kernel) (by kernel_rfl) rfl rfl (Nat.le_of_ble_eq_true rfl) rfl ?_
      refine ⟨_, strEqV (c := false) hne, ?_⟩
      refine ⟨_, idxSV 0 c rfl rfl h0, ?_⟩
      refine ⟨_, CallR.mk1 hI rfl rfl, ?_⟩
      refine ⟨_, sliceSV 0 1 rfl rfl rfl ⟨Nat.zero_le _, h1⟩, ?_⟩
      exact Ret.mk _ rfl (by rw [← ht1]; rfl) rfl
    rw [if_neg (by rw [hin]; simp)] at hr
    rw [hin] at hI
    obtain ⟨k, hk⟩ : ∃ k, runB partsB s.data.toList = k := ⟨_, rfl⟩
    rw [hk] at hrun hrl hr
    have hp0 : B ((s.data.toList.take k).drop 0) = B (s.data.toList.take k) := rfl
    obtain ⟨p, hp⟩ : ∃ p, B (s.data.toList.take k) = p := ⟨_, rfl⟩
    rw [hp] at hr
    rw [hp] at hp0
    have hpl : p.size ≤ 281474976710656 := by rw [← hp, B_size, List.length_take]; omega
    have hW := Word_ok p
    have hN := Name_ok p
    have hC := Count_ok p 100000 hpl ⟨by decide, by decide⟩
    have hP := dParse_ok p hpl
    have sl : SliceR E 9 (pS s) none (some (pI k)) (pS p) := by
      have := sliceSV (E := E) (t := 9) (s := s) (lo := none) (hi := some (pI k)) 0 k rfl rfl rfl ⟨Nat.zero_le _, by omega⟩
      rw [hp0] at this
      exact this
    clear hp0 hp hk
    unfold partF at hr
    rcases Bool.eq_false_or_eq_true (Lib.containsS wordsB p) with hw | hw
    · rw [hw, Bool.true_or, if_pos rfl] at hr
      subst hr
      rw [hw] at hW
      refine Ok.enter hE Tryz.func141 rfl (by decide +kernel) (by kernel_rfl) rfl rfl (Nat.le_of_ble_eq_true rfl) rfl ?_
      refine ⟨_, strEqV (c := false) hne, ?_⟩
      refine ⟨_, idxSV 0 c rfl rfl h0, ?_⟩
      refine ⟨_, CallR.mk1 hI rfl rfl, ?_⟩
      refine ⟨_, CallR.mk1 hrun rfl rfl, ?_⟩
      refine ⟨_, sl, ?_⟩
      refine ⟨_, CallR.mk1 hW rfl rfl, ?_⟩
      exact Ret.mk _ rfl rfl rfl
    rw [hw, Bool.false_or] at hr
    rw [hw] at hW
    rcases Bool.eq_false_or_eq_true (isName p) with hn | hn
    · rw [hn, if_pos rfl] at hr
      subst hr
      rw [hn] at hN
      refine Ok.enter hE Tryz.func141 rfl (by decide +kernel) (by kernel_rfl) rfl rfl (Nat.le_of_ble_eq_true rfl) rfl ?_
      refine ⟨_, strEqV (c := false) hne, ?_⟩
      refine ⟨_, idxSV 0 c rfl rfl h0, ?_⟩
      refine ⟨_, CallR.mk1 hI rfl rfl, ?_⟩
      refine ⟨_, CallR.mk1 hrun rfl rfl, ?_⟩
      refine ⟨_, sl, ?_⟩
      refine ⟨_, CallR.mk1 hW rfl rfl, ?_⟩
      refine ⟨_, CallR.mk1 hN rfl rfl, ?_⟩
      exact Ret.mk _ rfl rfl rfl
    rw [hn, if_neg (by simp)] at hr
    rw [hn] at hN
    by_cases hcn : 0 ≤ countL p.data.toList 100000
    · rw [if_pos hcn] at hr
      subst hr
      refine Ok.enter hE Tryz.func141 rfl (by decide +kernel) (by kernel_rfl) rfl rfl (Nat.le_of_ble_eq_true rfl) rfl ?_
      refine ⟨_, strEqV (c := false) hne, ?_⟩
      refine ⟨_, idxSV 0 c rfl rfl h0, ?_⟩
      refine ⟨_, CallR.mk1 hI rfl rfl, ?_⟩
      refine ⟨_, CallR.mk1 hrun rfl rfl, ?_⟩
      refine ⟨_, sl, ?_⟩
      refine ⟨_, CallR.mk1 hW rfl rfl, ?_⟩
      refine ⟨_, CallR.mk1 hN rfl rfl, ?_⟩
      refine ⟨_, CallR.mk1 hC rfl rfl, ?_⟩
      refine ⟨_, geT hcn, ?_⟩
      exact Ret.mk _ rfl rfl rfl
    · rw [if_neg hcn] at hr
      subst hr
      refine Ok.enter hE Tryz.func141 rfl (by decide +kernel) (by kernel_rfl) rfl rfl (Nat.le_of_ble_eq_true rfl) rfl ?_
      refine ⟨_, strEqV (c := false) hne, ?_⟩
      refine ⟨_, idxSV 0 c rfl rfl h0, ?_⟩
      refine ⟨_, CallR.mk1 hI rfl rfl, ?_⟩
      refine ⟨_, CallR.mk1 hrun rfl rfl, ?_⟩
      refine ⟨_, sl, ?_⟩
      refine ⟨_, CallR.mk1 hW rfl rfl, ?_⟩
      refine ⟨_, CallR.mk1 hN rfl rfl, ?_⟩
      refine ⟨_, CallR.mk1 hC rfl rfl, ?_⟩
      refine ⟨_, geN (by omega), ?_⟩
      refine ⟨_, CallR.mk1 hP rfl rfl, ?_⟩
      refine ⟨_, eqV (c := (parseL p.data.toList).2 == 0) rfl, ?_⟩
      exact Ret.mk _ rfl rfl rfl
end Go.Proofs.YtkolnkjdcncmpaaGreatDoor.Lx

/- The scanner's tokens, one after the other: the iterator's contract, walked by hand. -/
namespace Go.Proofs.YtkolnkjdcncmpaaGreatDoor.Lx
open Go Go.RowKit Go.Shelf Go.Proofs.YtkolnkjdcncmpaaGreatDoor.Pm Go.Proofs.YtkolnkjdcncmpaaGreatDoor.Pl
open Go.Proofs.YtkolnkjdcncmpaaGreatDoor.L (wordsL wordsB)
set_option linter.unusedVariables false
set_option linter.unusedSimpArgs false
attribute [local go_sem] Oper.semAt_some
/-- the tokens behind a place, and whether each is one -/
def scanF : Nat → List UInt8 → Nat → List (Tok × Bool)
  | 0, _, _ => []
  | f + 1, l, p =>
    let m := l.drop (runB blanksB l)
    let q := p + runB blanksB l
    let r := firstF m
    if r.2 = false ∨ r.1.kind = 5 then [(⟨r.1.kind, r.1.text, r.1.n, q⟩, r.2)] else (⟨r.1.kind, r.1.text, r.1.n, q⟩, r.2) :: scanF f (m.drop r.1.text.size) (q + r.1.text.size)
def scan (s : ByteArray) : List (Tok × Bool) := scanF (s.size + 1) s.data.toList 0
def encT (x : Tok × Bool) : Array Value := #[.agg #[.int .i64 x.1.kind, .string x.1.text, .int .i64 x.1.n, .int .i64 x.1.place], .bool x.2]
/-- a token that is one, and not the end, has a text -/
theorem first_fits (l : List UInt8) (h1 : (firstF l).2 = true) (h2 : (firstF l).1.kind ≠ 5) : 1 ≤ (firstF l).1.text.size ∧ (firstF l).1.text.size ≤ l.length := by
  cases l with
  | nil => exact absurd rfl h2
  | cons c l =>
    rw [firstF] at h1 h2 ⊢
    split
    · exact ⟨by rw [B_size]; simp, by rw [B_size]; simp⟩
    · rename_i hin
      rw [if_neg hin] at h1
      obtain ⟨p, hp⟩ : ∃ p, (c :: l).take (runB partsB (c :: l)) = p := ⟨_, rfl⟩
      have hpl : p.length ≤ (c :: l).length := by rw [← hp, List.length_take]; omega
      rw [hp] at h1 ⊢
      have htext : (partF (B p)).1.text = B p := by unfold partF; (repeat' split) <;> rfl
      rw [htext, B_size]
      refine ⟨?_, hpl⟩
      cases p with
      | cons d p => simp
      | nil =>
        exfalso
        have e : partF (B []) = (⟨3, B [], (parseL []).1, 0⟩, (parseL []).2 == 0) := by
          unfold partF
          rw [if_neg (by decide +kernel), if_neg (by decide +kernel), B_toList]
        rw [e] at h1
        exact absurd h1 (by decide +kernel)
def outOf (n₀ : Nat) (W : World) : Option Nat := match W.cell? ⟨n₀, 0, none⟩ with
  | some v => v.ownBlock
  | none => none
/-- what a round keeps -/
structure Kept (n₀ : Nat) (W W' : World) : Prop where
  below : Below n₀ W W'
  out : ∀ b, outOf n₀ W' = some b → outOf n₀ W = some b ∨ W.heap.size ≤ b
  same : ∀ (k : Nat) (o : Obj), n₀ + 3 ≤ k → outOf n₀ W ≠ some k → W.heap[k]? = some o → o.isCells = true → W'.heap[k]? = some o
  lt : (∀ b, outOf n₀ W = some b → b < W.heap.size) → ∀ b, outOf n₀ W' = some b → b < W'.heap.size
theorem lt_of_some {W : World} {k : Nat} {o : Obj} (h : W.heap[k]? = some o) : k < W.heap.size := (Array.getElem?_eq_some_iff.1 h).1
theorem Kept.refl (n₀ : Nat) (W : World) : Kept n₀ W W := ⟨Below.refl _ _, fun b h => .inl h, fun k o _ _ h _ => h, fun h => h⟩
theorem Kept.trans {n₀ : Nat} {A B C : World} (h : Kept n₀ A B) (k : Kept n₀ B C) : Kept n₀ A C where
  below := h.below.trans k.below
  out := fun b hb => (k.out b hb).elim (fun e => h.out b e) (fun e => .inr (Nat.le_trans h.below.size e))
  lt := fun hA => k.lt (h.lt hA)
  same := fun i o hi hne ho hc => k.same i o hi (fun e => (h.out i e).elim hne (fun e' => by have := lt_of_some ho; omega)) (h.same i o hi hne ho hc) hc
theorem Kept.put {n₀ B : Nat} (hB : n₀ < B) (W : World) (l : Nat) (o o' : Obj) (hl : B ≤ l) (ho : W.heap[l]? = some o) (hc : o.isCells = false) (hw : o.isWalk = false) : Kept n₀ W (W.putObj l o') := by
  have hg := grownBy_putObj' W l o'
  have hlt := lt_of_some ho
  have hcell : outOf n₀ (W.putObj l o') = outOf n₀ W := by
    have e : (W.putObj l o').heap[n₀]? = W.heap[n₀]? := hg.block n₀ (by omega) (by intro e; injection e with e; omega)
    unfold outOf World.cell?
    rw [e]
  refine ⟨⟨hg.os, hg.tape, hg.output, hg.size, fun k hk => hg.block k (by omega) (by intro e; injection e with e; omega)⟩, fun b hb => .inl (by rw [hcell] at hb; exact hb), fun k u hk hne hu hcu => ?_, fun hA b hb => Nat.lt_of_lt_of_le (hA b (by rw [hcell] at hb; exact hb)) hg.size⟩
  exact (hg.block k (lt_of_some hu) (by
    intro e
    injection e with e
    subst e
    rw [ho] at hu
    injection hu with hu
    subst hu
    rw [hc] at hcu
    cases hcu)).trans hu
theorem grown_of_below {W W' : World} (h : Below W.heap.size W W') (row : Option Nat) : W.grownBy W' row := ⟨h.os, h.tape, h.output, h.size, fun k hk _ => h.block k hk⟩
theorem Ok.runs {f : FuncId} {args : List PV} {r : PV} (h : Ok E f [] args r []) {W : World} (hI : Inv W) {vals : Array Value} (hv : RepL (Rep W (fun _ _ => False) [] []) vals.toList args) : Calls Tryz.prog f vals W fun e W' => (∃ v ok, e = .returned v ∧ Rep W' ok [] [] v r) ∧ Below W.heap.size W W' := by
  refine (h.2 W (fun _ _ => False) [] vals ⟨hI, rfl, rfl, rfl, Nat.le_refl _, fun _ _ _ => rfl, fun b o h => h.elim, fun b o h => h.elim, rfl, fun i b h => by simp at h, fun i j b h => by simp at h, fun t r h => by simp at h, fun t u r s g h => by simp at h, hE.glob W hI, fun t r i h => by simp at h⟩ hv).mono ?_
  rintro e w' ⟨v, ok', rfl, M, _, hr⟩
  exact ⟨⟨v, ok', rfl, hr⟩, M.os, M.tape, M.output, M.size, fun k hk => M.frame k hk (by simp)⟩
theorem _root_.Go.Proofs.YtkolnkjdcncmpaaGreatDoor.Pm.Inv.below {w w' : World} (h : Inv w) (hb : Below Tryz.prog.globals.size w w') : Inv w' := hE.stable w w' h hb.size fun b h => hb.block b h
theorem run_calls (s set : ByteArray) (hs : s.size ≤ 4611686018427387904) (W : World) (hI : Inv W) : Calls Tryz.prog 140 #[.string s, .string set] W fun e W' => e = .returned (.int .i64 (runB set s.data.toList)) ∧ Below W.heap.size W W' := by
  refine (Ok.runs (run_ok s set hs) hI (.cons (.mkStr _) (.cons (.mkStr _) .nil))).mono ?_
  rintro e w' ⟨⟨v, ok, rfl, hr⟩, hb⟩
  exact ⟨by rw [hr.int_inv], hb⟩
theorem first_calls (s : ByteArray) (hs : s.size ≤ 281474976710656) (W : World) (hI : Inv W) : Calls Tryz.prog 141 #[.string s] W fun e W' => e = .returned (.tuple #[.agg #[.int .i64 (firstF s.data.toList).1.kind, .string (firstF s.data.toList).1.text, .int .i64 (firstF s.data.toList).1.n, .int .i64 (firstF s.data.toList).1.place], .bool (firstF s.data.toList).2]) ∧ Below W.heap.size W W' := by
  refine (Ok.runs (first_ok s hs) hI (.cons (.mkStr _) .nil)).mono ?_
  rintro e w' ⟨⟨v, ok, rfl, hr⟩, hb⟩
  refine ⟨?_, hb⟩
  cases hr with
  | tup cs ds hl h =>
    match hcs : cs.toList, hl with
    | [a, b], _ =>
      rw [hcs] at h
      have h1 := h 0 a _ rfl rfl
      have h2 := h 1 b _ rfl rfl
      rw [h2.bool_inv] at hcs
      cases h1 with
      | agg xs _ hx =>
        obtain ⟨hxl, hxg⟩ := hx
        have hxl : xs.toList.length = 4 := hxl
        match hxs : xs.toList, hxl with
        | [x0, x1, x2, x3], _ =>
          rw [hxs] at hxg
          have g0 := hxg 0 _ _ rfl rfl
          have g1 := hxg 1 _ _ rfl rfl
          have g2 := hxg 2 _ _ rfl rfl
          have g3 := hxg 3 _ _ rfl rfl
          cases g0; cases g1; cases g2; cases g3
          congr 2
          apply Array.ext'
          rw [hcs]
          congr 2
          apply Array.ext'
          rw [hxs]
end Go.Proofs.YtkolnkjdcncmpaaGreatDoor.Lx

/- The scanner's tokens, one after the other: the iterator's contract. -/
namespace Go.Proofs.YtkolnkjdcncmpaaGreatDoor.Lx
open Go Go.RowKit Go.Shelf Go.Proofs.YtkolnkjdcncmpaaGreatDoor.Pm Go.Proofs.YtkolnkjdcncmpaaGreatDoor.Pl Go.Proofs.YtkolnkjdcncmpaaGreatDoorW.PrintWords
open Go.Proofs.YtkolnkjdcncmpaaGreatDoor.L (wordsL wordsB)
set_option linter.unusedVariables false
set_option linter.unusedSimpArgs false
attribute [local go_sem] Oper.semAt_some
set_option maxRecDepth 100000 in
set_option maxHeartbeats 2000000 in
theorem iter_in (s : ByteArray) (hs : s.size ≤ 1000000) (n : Nat) (hn : 1 ≤ n) (n₀ : Nat) (w : World) (hI : Pm.Inv w) (hg : Tryz.prog.globals.size ≤ n₀) (hn₀ : n₀ + 3 < w.heap.size)
    (hB : w.heap[n₀ + 3]? = some (.cells #[.string s] 9 (0, 0))) (ho : outOf n₀ w = none) :
    SeqStopsK Fence.wide n Tryz.prog 139 #[.pointer (some ⟨n₀ + 3, 0, none⟩)] encT (Kept n₀) (fun ys => ys = scan s) (fun pre => pre <+: scan s) (scan s).length w := by
  intro l J Jx W hW hJ hJx hY h0
  have hBW : W.heap[n₀ + 3]? = some (.cells #[.string s] 9 (0, 0)) := (hW.block _ (by omega)).trans hB
  have hoW : outOf n₀ W = none := by
    have e : W.heap[n₀]? = w.heap[n₀]? := hW.block n₀ (by omega)
    unfold outOf World.cell? at ho ⊢
    rw [e]; exact ho
  have hIW : Pm.Inv W := hI.below (hW.mono hI.size)
  refine callsIn_of_wp Tryz.func139 rfl trivial ?_ rfl
  simp only [Tryz.ntmps139, List.size_toArray, List.length_cons, List.length_nil, Nat.reduceAdd, Nat.reduceSub, Array.replicate_succ, Array.replicate_zero, List.push_toArray, List.append_toArray, List.nil_append, List.cons_append]
  gi_wp2
  gi_loopw [3] (fun p wr => ∃ (pre rest : List (Tok × Bool)) (q f : Nat), p = .int .i64 (q : Int) ∧ scan s = pre ++ rest ∧ rest = scanF f (s.data.toList.drop q) q ∧ q ≤ s.size ∧ s.size - q < f ∧ J pre wr ∧ Pm.Inv wr ∧ wr.heap[n₀ + 3]? = some (.cells #[.string s] 9 (0, 0)) ∧ W.heap.size ≤ wr.heap.size ∧ (∀ b, outOf n₀ wr = some b → n₀ + 3 < b ∧ b < wr.heap.size))
    (fun p wr => s.size - (intOf p).toNat)
  case atStart =>
    exact ⟨[], scan s, 0, s.size + 1, rfl, rfl, by rw [List.drop_zero]; rfl, Nat.zero_le _, by omega, h0, hIW, hBW, Nat.le_refl _, fun b hb => by rw [hoW] at hb; cases hb⟩
  case round =>
    obtain ⟨pre, rest, q, f, rfl, hx, hrest, hq, hf, hJs, hIs, hBs, hsz, hout⟩ := hrel
    obtain ⟨g, rfl⟩ : ∃ g, f = g + 1 := ⟨f - 1, by omega⟩
    have hl : s.data.toList.length = s.size := sz_len s
    have ext : ∀ i, (s.extract i s.size).data.toList = s.data.toList.drop i := by
      intro i
      rw [ByteArray.data_extract]
      simp
      rw [List.take_of_length_le (by simp)]
    have extz : ∀ i, (s.extract i s.size).size ≤ s.size := by
      intro i
      rw [← sz_len, ext, List.length_drop]; omega
    obtain ⟨b, hb⟩ : ∃ b, runB blanksB (s.data.toList.drop q) = b := ⟨_, rfl⟩
    have hble : b ≤ s.size - q := by
      have := runB_le blanksB (s.data.toList.drop q)
      rw [hb, List.length_drop] at this; omega
    have hdd : (s.data.toList.drop q).drop b = s.data.toList.drop (q + b) := by rw [List.drop_drop]
    obtain ⟨r, hr⟩ : ∃ r, firstF (s.data.toList.drop (q + b)) = r := ⟨_, rfl⟩
    obtain ⟨⟨kind, text, rn, pl⟩, okb⟩ := r
    have hrest2 : rest = if okb = false ∨ kind = 5 then [(⟨kind, text, rn, ((q + b : Nat) : Int)⟩, okb)] else (⟨kind, text, rn, ((q + b : Nat) : Int)⟩, okb) :: scanF g (s.data.toList.drop (q + b + text.size)) (q + b + text.size) := by
      rw [hrest, scanF]
      simp only [hb, hdd, hr, List.drop_drop]
    have CR : ∀ W', Pm.Inv W' → CallsIn Fence.wide (n - 1) Tryz.prog 140 #[.string (s.extract q s.size), .string ⟨#[32, 10]⟩] W' fun e W2 => e = .returned (.int .i64 (b : Int)) ∧ Below W'.heap.size W' W2 := by
      intro W' hI'
      refine callsIn_wide.2 ?_
      have := run_calls (s.extract q s.size) ⟨#[32, 10]⟩ (by have := extz q; omega) W' hI'
      rw [ext] at this
      rw [← hb]
      exact this
    have CF : ∀ W', Pm.Inv W' → CallsIn Fence.wide (n - 1) Tryz.prog 141 #[.string (s.extract (q + b) s.size)] W' fun e W2 => e = .returned (.tuple #[.agg #[.int .i64 kind, .string text, .int .i64 rn, .int .i64 pl], .bool okb]) ∧ Below W'.heap.size W' W2 := by
      intro W' hI'
      refine callsIn_wide.2 ?_
      have := first_calls (s.extract (q + b) s.size) (by have := extz (q + b); omega) W' hI'
      rw [ext, hr] at this
      exact this
    have hc := cell_of_row wr (n₀ + 3) 0 #[.string s] 9 (0, 0) hBs
    have hfz : wr.frozen? ⟨n₀ + 3, 0, none⟩ = false := by simp [World.frozen?, hBs]
    have k1 : (0 : Int) ≤ (q : Int) := by omega
    have k2 : (q : Int) ≤ (s.size : Int) := by omega
    have k3 : (0 : Int) ≤ (q : Int) + (b : Int) := by omega
    have k4 : (q : Int) + (b : Int) ≤ (s.size : Int) := by omega
    have k5 : IntKind.i64.wrap ((q : Int) + (b : Int)) = (q : Int) + (b : Int) := IntWalk.i64_in _ (by omega)
    have k6 : ((q : Int) + (b : Int)).toNat = q + b := by omega
    have hx0 : pre.length < (scan s).length := by rw [hx, hrest2]; split <;> simp
    have ROUND : ∀ W1 W2 : World, Below wr.heap.size wr W1 → Below W1.heap.size W1 W2 → J pre (W2.alloc (.cells #[.int .i64 kind, .string text, .int .i64 rn, .int .i64 ((q : Int) + (b : Int))] 102)) ∧ YieldAt Fence.wide (n - 1) Tryz.prog l #[.agg #[.int .i64 kind, .string text, .int .i64 rn, .int .i64 ((q : Int) + (b : Int))], .bool okb] (W2.alloc (.cells #[.int .i64 kind, .string text, .int .i64 rn, .int .i64 ((q : Int) + (b : Int))] 102)) fun e W' =>
        (e = .returned (.bool true) ∧ J (pre ++ [(⟨kind, text, rn, ((q + b : Nat) : Int)⟩, okb)]) W' ∧ Kept n₀ (W2.alloc (.cells #[.int .i64 kind, .string text, .int .i64 rn, .int .i64 ((q : Int) + (b : Int))] 102)) W') ∨ (e = .returned (.bool false) ∧ Jx (pre ++ [(⟨kind, text, rn, ((q + b : Nat) : Int)⟩, okb)]) W') := by
      intro W1 W2 hb1 hb2
      have hb3 : Below wr.heap.size wr (W2.alloc (.cells #[.int .i64 kind, .string text, .int .i64 rn, .int .i64 ((q : Int) + (b : Int))] 102)) := (hb1.trans (hb2.mono hb1.size)).alloc (by have := hb1.size; have := hb2.size; omega) _
      have hJ3 := hJ pre _ _ none hJs (grown_of_below hb3 none) (fun r e => by cases e)
      refine ⟨hJ3, ?_⟩
      have := hY pre (⟨kind, text, rn, ((q + b : Nat) : Int)⟩, okb) _ hJ3 hx0
      unfold encT at this
      dsimp only at this
      rw [Int.natCast_add] at this
      rw [Int.natCast_add]
      exact this
    have AFTER : ∀ W1 W2 W4 : World, Below wr.heap.size wr W1 → Below W1.heap.size W1 W2 → Kept n₀ (W2.alloc (.cells #[.int .i64 kind, .string text, .int .i64 rn, .int .i64 ((q : Int) + (b : Int))] 102)) W4 →
        W4.heap[W2.heap.size]? = some (.cells #[.int .i64 kind, .string text, .int .i64 rn, .int .i64 ((q : Int) + (b : Int))] 102 (0, 0)) ∧ Pm.Inv W4 ∧ W4.heap[n₀ + 3]? = some (.cells #[.string s] 9 (0, 0)) ∧ W.heap.size ≤ W4.heap.size ∧ ∀ b, outOf n₀ W4 = some b → n₀ + 3 < b ∧ b < W4.heap.size := by
      intro W1 W2 W4 hb1 hb2 hk4
      have z1 := hb1.size
      have z2 := hb2.size
      have z0 := hW.size
      obtain ⟨W3, hW3⟩ : ∃ W3, W2.alloc (.cells #[.int .i64 kind, .string text, .int .i64 rn, .int .i64 ((q : Int) + (b : Int))] 102) = W3 := ⟨_, rfl⟩
      have hnew : W3.heap[W2.heap.size]? = some (.cells #[.int .i64 kind, .string text, .int .i64 rn, .int .i64 ((q : Int) + (b : Int))] 102 (0, 0)) := by rw [← hW3]; exact World.alloc_heap_new _ _
      have hb3 : Below wr.heap.size wr W3 := by rw [← hW3]; exact (hb1.trans (hb2.mono hb1.size)).alloc (by omega) _
      rw [hW3] at hk4
      have z3 := hb3.size
      have z4 := hk4.below.size
      have ho3 : outOf n₀ W3 = outOf n₀ wr := by
        have e : W3.heap[n₀]? = wr.heap[n₀]? := hb3.block n₀ (by omega)
        unfold outOf World.cell?
        rw [e]
      have hlt3 : ∀ b, outOf n₀ W3 = some b → n₀ + 3 < b ∧ b < wr.heap.size := fun b hb => hout b (by rw [← ho3]; exact hb)
      have hBs3 : W3.heap[n₀ + 3]? = some (.cells #[.string s] 9 (0, 0)) := (hb3.block _ (by omega)).trans hBs
      refine ⟨hk4.same _ _ (by omega) (fun e => by have := (hlt3 _ e).2; omega) hnew rfl, (hIs.below (hb3.mono hIs.size)).below (hk4.below.mono hg), hk4.same _ _ (Nat.le_refl _) (fun e => by have := (hlt3 _ e).1; omega) hBs3 rfl, by omega, fun b hb => ⟨?_, hk4.lt (fun b hb => by have := (hlt3 b hb).2; omega) b hb⟩⟩
      rcases hk4.out b hb with h | h
      · exact (hlt3 b h).1
      · omega
    cases okb with
    | false =>
      have hpre : pre ++ [(⟨kind, text, rn, ((q + b : Nat) : Int)⟩, false)] = scan s := by rw [hx, hrest2, if_pos (.inl rfl)]
      gi_wp2_with (first
        | (refine ⟨trivial, ?_⟩; gi_at_call 140; go_loud (refine (CR wr hIs).mono ?_; rintro e W1 ⟨rfl, hb1⟩; have hBs1 := (hb1.block (n₀ + 3) (lt_of_some hBs)).trans hBs; have hI1 : Pm.Inv W1 := hIs.below (hb1.mono hIs.size); have hc1 := cell_of_row W1 (n₀ + 3) 0 #[.string s] 9 (0, 0) hBs1))
        | (refine ⟨trivial, ?_⟩; gi_at_call 141; go_loud (refine (CF W1 hI1).mono ?_; rintro e W2 ⟨rfl, hb2⟩; obtain ⟨hJ3, hR3⟩ := ROUND W1 W2 hb1 hb2; obtain ⟨fn, tmps, assign, body, hy, hR⟩ := hR3)))
      refine hR.mono ?_
      rintro e W4 (⟨rfl, hJ4, hk4⟩ | ⟨rfl, hJx4⟩)
      · gi_wp2
        refine bodyPost_ret (results_none rfl _ _ _) rfl ?_
        exact ⟨⟨_, rfl⟩, .inl ⟨_, hpre, hJ4⟩⟩
      · gi_wp2
        refine bodyPost_ret (results_none rfl _ _ _) rfl ?_
        exact ⟨⟨_, rfl⟩, .inr ⟨_, ⟨[], by rw [List.append_nil]; exact hpre⟩, hJx4⟩⟩
    | true =>
      by_cases h5 : kind = 5
      · subst h5
        have hpre : pre ++ [(⟨5, text, rn, ((q + b : Nat) : Int)⟩, true)] = scan s := by rw [hx, hrest2, if_pos (.inr rfl)]
        gi_wp2_with (first
          | (refine ⟨trivial, ?_⟩; gi_at_call 140; go_loud (refine (CR wr hIs).mono ?_; rintro e W1 ⟨rfl, hb1⟩; have hBs1 := (hb1.block (n₀ + 3) (lt_of_some hBs)).trans hBs; have hI1 : Pm.Inv W1 := hIs.below (hb1.mono hIs.size); have hc1 := cell_of_row W1 (n₀ + 3) 0 #[.string s] 9 (0, 0) hBs1))
          | (refine ⟨trivial, ?_⟩; gi_at_call 141; go_loud (refine (CF W1 hI1).mono ?_; rintro e W2 ⟨rfl, hb2⟩; obtain ⟨hJ3, hR3⟩ := ROUND W1 W2 hb1 hb2; obtain ⟨fn, tmps, assign, body, hy, hR⟩ := hR3)))
        refine hR.mono ?_
        rintro e W4 (⟨rfl, hJ4, hk4⟩ | ⟨rfl, hJx4⟩)
        · obtain ⟨hB4, hI4, hBs4, hsz4, hout4⟩ := AFTER _ _ _ hb1 hb2 hk4
          have hc4 := cell_of_row W4 W2.heap.size 0 #[.int .i64 5, .string text, .int .i64 rn, .int .i64 ((q : Int) + (b : Int))] 102 (0, 0) hB4
          gi_wp2
          refine bodyPost_ret (results_none rfl _ _ _) rfl ?_
          exact ⟨⟨_, rfl⟩, .inl ⟨_, hpre, hJ4⟩⟩
        · gi_wp2
          refine bodyPost_ret (results_none rfl _ _ _) rfl ?_
          exact ⟨⟨_, rfl⟩, .inr ⟨_, ⟨[], by rw [List.append_nil]; exact hpre⟩, hJx4⟩⟩
      · have hcons : rest = (⟨kind, text, rn, ((q + b : Nat) : Int)⟩, true) :: scanF g (s.data.toList.drop (q + b + text.size)) (q + b + text.size) := by rw [hrest2, if_neg (fun h => h.elim (fun h => by cases h) h5)]
        have hne5 : (kind == 5) = false := beq_eq_false_iff_ne.2 h5
        have hne5' : decide (kind = 5) = false := decide_eq_false h5
        obtain ⟨ht1, ht2⟩ : 1 ≤ text.size ∧ q + b + text.size ≤ s.size := by
          have := first_fits (s.data.toList.drop (q + b)) (by rw [hr]) (by rw [hr]; exact h5)
          rw [hr, List.length_drop] at this
          have h2 := this.2
          have h1 := this.1
          dsimp only at h1 h2
          omega
        have k7 : IntKind.i64.wrap ((q : Int) + (b : Int) + (text.size : Int)) = (q : Int) + (b : Int) + (text.size : Int) := IntWalk.i64_in _ (by omega)
        gi_wp2_with (first
          | (refine ⟨trivial, ?_⟩; gi_at_call 140; go_loud (refine (CR wr hIs).mono ?_; rintro e W1 ⟨rfl, hb1⟩; have hBs1 := (hb1.block (n₀ + 3) (lt_of_some hBs)).trans hBs; have hI1 : Pm.Inv W1 := hIs.below (hb1.mono hIs.size); have hc1 := cell_of_row W1 (n₀ + 3) 0 #[.string s] 9 (0, 0) hBs1))
          | (refine ⟨trivial, ?_⟩; gi_at_call 141; go_loud (refine (CF W1 hI1).mono ?_; rintro e W2 ⟨rfl, hb2⟩; obtain ⟨hJ3, hR3⟩ := ROUND W1 W2 hb1 hb2; obtain ⟨fn, tmps, assign, body, hy, hR⟩ := hR3)))
        refine hR.mono ?_
        rintro e W4 (⟨rfl, hJ4, hk4⟩ | ⟨rfl, hJx4⟩)
        · obtain ⟨hB4, hI4, hBs4, hsz4, hout4⟩ := AFTER _ _ _ hb1 hb2 hk4
          have hc4 := cell_of_row W4 W2.heap.size 0 #[.int .i64 kind, .string text, .int .i64 rn, .int .i64 ((q : Int) + (b : Int))] 102 (0, 0) hB4
          have hc5 := cell_of_row W4 W2.heap.size 1 #[.int .i64 kind, .string text, .int .i64 rn, .int .i64 ((q : Int) + (b : Int))] 102 (0, 0) hB4
          gi_wp2
          go_roundw
          case rel => exact ⟨pre ++ [(⟨kind, text, rn, ((q + b : Nat) : Int)⟩, true)], _, q + b + text.size, g, by rw [Int.natCast_add, Int.natCast_add], by rw [hx, hcons]; simp, rfl, ht2, by omega, hJ4, hI4, hBs4, hsz4, hout4⟩
          case measure =>
            show s.size - ((q : Int) + (b : Int) + (text.size : Int)).toNat < s.size - ((q : Int)).toNat
            omega
        · gi_wp2
          refine bodyPost_ret (results_none rfl _ _ _) rfl ?_
          exact ⟨⟨_, rfl⟩, .inr ⟨_, ⟨scanF g (s.data.toList.drop (q + b + text.size)) (q + b + text.size), by rw [hx, hcons, List.append_assoc]; rfl⟩, hJx4⟩⟩
end Go.Proofs.YtkolnkjdcncmpaaGreatDoor.Lx

/- lex.Lex, walked by hand: what it tells. -/
namespace Go.Proofs.YtkolnkjdcncmpaaGreatDoor.Lx
open Go Go.RowKit Go.Shelf Go.Proofs.YtkolnkjdcncmpaaGreatDoor.Pm Go.Proofs.YtkolnkjdcncmpaaGreatDoor.Pl
open Go.Proofs.YtkolnkjdcncmpaaGreatDoor.L (wordsL wordsB)
set_option linter.unusedVariables false
set_option linter.unusedSimpArgs false
attribute [local go_sem] Oper.semAt_some
/-- an append in a round; where the row lies behind it -/
theorem wpListIn_append_at {F : Fence} {n : Nat} {P : Program} (w : World) {ops : Array Oper} {rest : List Oper} {o : Oper} {a : Act} {Q : Exit → Act → World → Prop}
    (hg : o.guard = none) (s x : Operand) (t : TypeId) (hop : o.op = Op.call { callee := Callee.builtin Builtin.append, args := #[s, x], argTypes := #[t, t] })
    (base : Nat) (e : TypeId) (i : TypeInfo) (z : Value) (size bytes : Nat) (h1 : P.underlying t = some (.slice e)) (h2 : P.info? e = some i) (h3 : i.zero = some z) (h4 : i.size = size) (h5 : i.bytes = bytes) (h6 : z.cells.size = size) (h7 : 0 < size)
    (v : Value) (k : Nat) (xs : List Value) (hs : a.eval s = v) (hown : w.ownsRow base e size v k xs) (ad : Addr) (m c : Nat) (news : List Value) (hx : a.eval x = .slice (some ad) m c) (hn : news.length = m * size)
    (hc : ∀ j u, news[j]? = some u → w.cell? (ad.add j) = some u) (h1c : ∀ u ∈ news, u.oneCell' = true) (b1 : k + m ≤ maxLen) (b2 : (k + m) * bytes ≤ 140737488355328) (b3 : base ≤ w.heap.size)
    (hK : ∀ v' w', w'.ownsRow base e size v' (k + m) (xs ++ news) → w.grownBy w' v.ownBlock → (v'.ownBlock = v.ownBlock ∨ v'.ownBlock = some w.heap.size) → wpListIn F n P ops Q rest (a.put o.dst v') w') :
    wpListIn F n P ops Q (o :: rest) a w := by
  refine wpListIn_plain hg fun K hK' => ?_
  obtain ⟨v', w', hrun, r1, r2, _, r3⟩ := run_append_own_at (P := P) w base t o.type e i z size bytes h1 h2 h3 h4 h5 h6 h7 v k xs hown ad m c news hn hc h1c b1 b2 b3
  unfold Oper.wpIn
  refine ⟨?_, ?_⟩
  · simp [Oper.about, hop, resolve, Target.leads, Sem.run_pure]
  · rw [Oper.semAt_plain F _ _ (by rw [hop]; intro c hc'; cases hc')]
    simp [execOp, hop, resolve, invoke, builtin, hs, hx, hrun, Result.andThen]
    exact hK' _ _ (hK v' w' r1 r2 r3)
theorem info_tok : (Tryz.prog.info? 102).map (fun i => (i.zero, i.size, i.bytes)) = some (some (.agg #[.int .i64 0, .string ⟨#[]⟩, .int .i64 0, .int .i64 0]), 4, 40) := by kernel_rfl
def valsT (t : Tok) : List Value := [.int .i64 t.kind, .string t.text, .int .i64 t.n, .int .i64 t.place]
def flatT (l : List (Tok × Bool)) : List Value := l.flatMap fun x => valsT x.1
theorem flatT_len (l : List (Tok × Bool)) : (flatT l).length = l.length * 4 := by
  induction l with
  | nil => rfl
  | cons x l ih => simp [flatT, valsT] at ih ⊢; omega
theorem flatT_snoc (l : List (Tok × Bool)) (x : Tok × Bool) : flatT (l ++ [x]) = flatT l ++ valsT x.1 := by simp [flatT]
theorem scanF_len : ∀ (f : Nat) (l : List UInt8) (p : Nat), (scanF f l p).length ≤ f
  | 0, _, _ => Nat.le_refl _
  | f + 1, l, p => by
    rw [scanF]
    split
    · simp
    · have := scanF_len f ((l.drop (runB blanksB l)).drop (firstF (l.drop (runB blanksB l))).1.text.size) (p + runB blanksB l + (firstF (l.drop (runB blanksB l))).1.text.size)
      simpa using this
theorem scan_pos (s : ByteArray) : ∃ k, (scan s).length = k + 1 := by
  unfold scan
  rw [scanF]
  split
  · exact ⟨0, rfl⟩
  · exact ⟨_, rfl⟩
/-- what is told of the tokens that have come -/
def tellF : List (Tok × Bool) → Option Int
  | [] => none
  | (t, true) :: r => tellF r
  | (t, false) :: _ => some t.place
theorem tellF_snoc : ∀ (l : List (Tok × Bool)) (t : Tok) (b : Bool), tellF l = none → tellF (l ++ [(t, b)]) = if b then none else some t.place
  | [], t, true, _ => rfl
  | [], t, false, _ => rfl
  | (u, true) :: l, t, b, h => tellF_snoc l t b h
  | (u, false) :: l, t, b, h => by cases h
theorem tellF_pre : ∀ (l r : List (Tok × Bool)) (p : Int), tellF l = some p → tellF (l ++ r) = some p
  | [], r, p, h => by cases h
  | (u, true) :: l, r, p, h => tellF_pre l r p h
  | (u, false) :: l, r, p, h => h
theorem Kept.alloc (n₀ : Nat) (W : World) (o : Obj) (h : n₀ < W.heap.size) : Kept n₀ W (W.alloc o) := by
  have e : outOf n₀ (W.alloc o) = outOf n₀ W := by
    unfold outOf World.cell?
    rw [Below.heap_alloc W o n₀ h]
  exact ⟨(Below.refl _ W).alloc (Nat.le_of_lt h) _, fun b hb => .inl (by rw [e] at hb; exact hb), fun k u _ _ hu _ => (Below.heap_alloc W o k (lt_of_some hu)).trans hu, fun hA b hb => by rw [e] at hb; have := hA b hb; simp; omega⟩
def actT (s : ByteArray) (n₀ Bx : Nat) (x : Tok × Bool) : Act :=
  { tmps := #[.string s, undef, .pointer (some ⟨n₀, 0, none⟩), .pointer (some ⟨n₀ + 1, 0, none⟩), .pointer (some ⟨n₀ + 1 + 1, 0, none⟩), .pointer (some ⟨Bx, 0, none⟩), .bool x.2, .string s, .int .i64 (s.size : Int), .bool false, .string s, .func (.func 139) #[] #[.pointer (some ⟨n₀ + 1 + 1 + 1, 0, none⟩)], .agg #[.int .i64 x.1.kind, .string x.1.text, .int .i64 x.1.n, .int .i64 x.1.place], .bool x.2, undef, undef, undef, undef, undef, undef, undef, undef, undef], defers := [] }
structure AxT (s : ByteArray) (n₀ : Nat) (x : Tok × Bool) (a' : Act) (W : World) : Prop where
  h : ∃ Bx, n₀ + 3 < Bx ∧ W.heap[Bx]? = some (.cells #[.int .i64 x.1.kind, .string x.1.text, .int .i64 x.1.n, .int .i64 x.1.place] 102 (0, 0)) ∧ a' = actT s n₀ Bx x
theorem axT_own (s : ByteArray) (n₀ B : Nat) (x : Tok × Bool) (a' : Act) : OwnFrom B (fun (_ : Unit) W => AxT s n₀ x a' W) := by
  rintro _ X Y row ⟨Bx, h1, h2, h3⟩ hg hrow
  refine ⟨Bx, h1, (hg.block Bx (lt_of_some h2) ?_).trans h2, h3⟩
  intro e
  obtain ⟨_, o, ho, hc⟩ := hrow Bx e.symm
  rw [h2] at ho
  injection ho with ho
  subst ho
  cases hc
structure InT (w : World) (pre : List (Tok × Bool)) (W : World) : Prop where
  row : ∃ v, Boxed W w.heap.size 95 v ∧ W.ownsRow w.heap.size 102 4 v pre.length (flatT pre) ∧ True
  e : Boxed W (w.heap.size + 1) 50 (.int .i64 0)
  at_ : Boxed W (w.heap.size + 1 + 1) 3 (.int .i64 0)
  tell : tellF pre = none
  below : Below w.heap.size w W
  big : w.heap.size + 4 ≤ W.heap.size
structure IxT (w : World) (c : Code) (pre : List (Tok × Bool)) (W : World) : Prop where
  ret : c = .ret
  tell : (tellF pre).isSome = true
  row : Boxed W w.heap.size 95 (.slice none 0 0)
  e : Boxed W (w.heap.size + 1) 50 (.int .i64 61)
  at_ : Boxed W (w.heap.size + 1 + 1) 3 (.int .i64 ((tellF pre).getD 0))
  below : Below w.heap.size w W
theorem inT_own (w : World) (B : Nat) (hB : w.heap.size ≤ B) : OwnFrom B (InT w) := by
  intro pre X Y row h hg hrow
  have hr' : ∀ r, row = some r → ∃ o : Obj, X.heap[r]? = some o ∧ o.isCells = false := fun r e => (hrow r e).2
  exact ⟨holdsRow_own w.heap.size w.heap.size 95 102 4 (fun pre : List (Tok × Bool) => pre.length) (fun pre => flatT pre) (fun _ _ => True) pre X Y row h.row hg hr', boxed_own (β := Unit) _ _ (fun _ => .int .i64 0) () X Y row h.e hg hr', boxed_own (β := Unit) _ _ (fun _ => .int .i64 0) () X Y row h.at_ hg hr', h.tell, h.below.trans ⟨hg.os, hg.tape, hg.output, hg.size, fun k hk => hg.block k (by have := h.below.size; omega) (fun e => by have := (hrow k e.symm).1; omega)⟩, Nat.le_trans h.big hg.size⟩
theorem ixT_own (w : World) (B : Nat) (hB : w.heap.size ≤ B) (c : Code) : OwnFrom B (IxT w c) := by
  intro pre X Y row h hg hrow
  have hr' : ∀ r, row = some r → ∃ o : Obj, X.heap[r]? = some o ∧ o.isCells = false := fun r e => (hrow r e).2
  exact ⟨h.ret, h.tell, boxed_own (β := Unit) _ _ (fun _ => .slice none 0 0) () X Y row h.row hg hr', boxed_own (β := Unit) _ _ (fun _ => .int .i64 61) () X Y row h.e hg hr', boxed_own (β := Unit) _ _ (fun _ => .int .i64 ((tellF pre).getD 0)) () X Y row h.at_ hg hr', h.below.trans ⟨hg.os, hg.tape, hg.output, hg.size, fun k hk => hg.block k (by have := h.below.size; omega) (fun e => by have := (hrow k e.symm).1; omega)⟩⟩
set_option maxRecDepth 100000 in
set_option maxHeartbeats 2000000 in
theorem tokens_in (s : ByteArray) (n : Nat) (w : World) : CallsIn Fence.wide n Tryz.prog 107 #[.string s] w fun e w' => e = .returned (.func (.func 139) #[] #[.pointer (some ⟨w.heap.size, 0, none⟩)]) ∧ w' = w.alloc (.cells #[.string s] 9) := by
  refine callsIn_of_wp Tryz.func107 rfl trivial ?_ rfl
  simp only [Tryz.ntmps107, List.size_toArray, List.length_cons, List.length_nil, Nat.reduceAdd, Nat.reduceSub, Array.replicate_succ, Array.replicate_zero, List.push_toArray, List.append_toArray, List.nil_append, List.cons_append]
  gi_wp2
  go_ret
  exact ⟨rfl, rfl⟩
set_option maxRecDepth 100000 in
set_option maxHeartbeats 2000000 in
theorem lex_in (s : ByteArray) (hs : s.size ≤ 2000) (w : World) (hI : Pm.Inv w) : Calls Tryz.prog 81 #[.string s] w fun e W' => (∃ v, (e = .returned (.tuple #[v, .int .i64 0, .int .i64 0]) ∧ tellF (scan s) = none ∧ W'.ownsRow w.heap.size 102 4 v (scan s).length (flatT (scan s))) ∨ (∃ p, tellF (scan s) = some p ∧ e = .returned (.tuple #[.slice none 0 0, .int .i64 61, .int .i64 p]))) ∧ Below w.heap.size w W' := by
  refine (callsIn_wide (n := 5)).1 ?_
  obtain ⟨i0, hi, hz0, hz1, hz2⟩ := info_parts info_tok
  refine callsIn_of_wp_marks Tryz.func81 rfl trivial ?_ rfl
  simp only [Tryz.ntmps81, List.size_toArray, List.length_cons, List.length_nil, Nat.reduceAdd, Nat.reduceSub, Array.replicate_succ, Array.replicate_zero, List.push_toArray, List.append_toArray, List.nil_append, List.cons_append]
  have hgt : decide ((s.size : Int) > 2000) = false := decide_eq_false (by omega)
  have hgt' : decide (2000 < (s.size : Int)) = false := decide_eq_false (by omega)
  gi_wp2_with (refine ⟨trivial, ?_⟩; gi_at_call 107; refine (tokens_in s _ _).mono ?_; rintro e w' ⟨rfl, rfl⟩)
  obtain ⟨w0, hw0⟩ : ∃ w0, (((w.alloc (.cells #[.slice none 0 0] 95)).alloc (.cells #[.int .i64 0] 50)).alloc (.cells #[.int .i64 0] 3)).alloc (.cells #[.string s] 9) = w0 := ⟨_, rfl⟩
  have hB0 : Below w.heap.size w w0 := by
    rw [← hw0]
    exact ((((Below.refl _ w).alloc (Nat.le_refl _) _).alloc (by simp) _).alloc (by simp; omega) _).alloc (by simp; omega) _
  have hsz : w0.heap.size = w.heap.size + 4 := by rw [← hw0]; simp
  have bO : Boxed w0 w.heap.size 95 (.slice none 0 0) := by rw [← hw0]; exact (((Boxed.new w _ _).alloc _).alloc _).alloc _
  have bE : Boxed w0 (w.heap.size + 1) 50 (.int .i64 0) := by
    have := Boxed.new (w.alloc (.cells #[.slice none 0 0] 95)) 50 (.int .i64 0)
    rw [World.size_alloc] at this
    rw [← hw0]; exact (this.alloc _).alloc _
  have bA : Boxed w0 (w.heap.size + 1 + 1) 3 (.int .i64 0) := by
    have := Boxed.new ((w.alloc (.cells #[.slice none 0 0] 95)).alloc (.cells #[.int .i64 0] 50)) 3 (.int .i64 0)
    rw [World.size_alloc, World.size_alloc] at this
    rw [← hw0]; exact this.alloc _
  have bS : Boxed w0 (w.heap.size + 3) 9 (.string s) := by
    have := Boxed.new (((w.alloc (.cells #[.slice none 0 0] 95)).alloc (.cells #[.int .i64 0] 50)).alloc (.cells #[.int .i64 0] 3)) 9 (.string s)
    rw [World.size_alloc, World.size_alloc, World.size_alloc] at this
    rw [← hw0]; exact this
  rw [hw0]
  have hI0 : Pm.Inv w0 := hI.below (hB0.mono hI.size)
  have hout : outOf w.heap.size w0 = none := by unfold outOf; rw [bO.cell]; rfl
  refine wpIn_rangeFunc_ownH (F := Fence.wide) rfl (by omega) (gf := 139) (lb := #[.pointer (some ⟨w.heap.size + 3, 0, none⟩)]) rfl trivial (enters_of Tryz.func139 (by kernel_rfl) rfl)
    (iter_in s (by omega) 4 (by omega) w.heap.size w0 hI0 hI.size (by omega) bS hout) Kept.trans (fun W l o o' hl ho hc hw => Kept.put (B := w0.heap.size) (by omega) W l o o' hl ho hc hw) (Below.refl _ _) (fun _ => rfl)
    (InT w) (IxT w) (inT_own w _ (by omega)) (ixT_own w _ (by omega)) ⟨⟨_, bO, World.ownsRow_nil _ _ _ _, trivial⟩, bE, bA, rfl, hB0, by omega⟩ (AxT s w.heap.size) (axT_own s w.heap.size _) ?assign ?body ?done ?stop
  case assign =>
    rintro l pre ⟨⟨kind, text, rn, pl⟩, okb⟩ W K hi hK
    have hlt := hi.below.size
    dsimp only [encT]
    gi_wp2
    exact hK _ _ ((KeepsOthers.alloc _ _).from _) (Kept.alloc _ _ _ (by have := hi.big; omega)) ((inT_own w _ (Nat.le_refl _)).alloc _ hi) ⟨W.heap.size, by have := hi.big; omega, World.alloc_heap_new _ _, rfl⟩
  case body =>
    rintro l pre ⟨⟨kind, text, rn, pl⟩, okb⟩ a' W hl ⟨r, hr⟩ hIn ⟨Bx, hBx, bX, rfl⟩ hlt
    obtain ⟨⟨v, hv, hrow, _⟩, hE1, hA1, hT, hB, hbig⟩ := hIn
    have hc := hv.cell
    have hfz := hv.frozen
    have hce := hE1.cell
    have hfe := hE1.frozen
    have hca := hA1.cell
    have hfa := hA1.frozen
    have hx0 := cell_of_row W Bx 0 _ 102 (0, 0) bX
    have hx1 := cell_of_row W Bx 1 _ 102 (0, 0) bX
    have hx2 := cell_of_row W Bx 2 _ 102 (0, 0) bX
    have hx3 := cell_of_row W Bx 3 _ 102 (0, 0) bX
    have hne0 : Bx ≠ w.heap.size := by omega
    have hne1 : Bx ≠ w.heap.size + 1 := by omega
    have hne2 : Bx ≠ w.heap.size + 1 + 1 := by omega
    unfold actT
    cases okb with
    | false =>
      have RET : KeepsFrom w0.heap.size W (((W.setCell ⟨w.heap.size, 0, none⟩ (.slice none 0 0)).setCell ⟨w.heap.size + 1, 0, none⟩ (.int .i64 61)).setCell ⟨w.heap.size + 1 + 1, 0, none⟩ (.int .i64 pl)).drew ∧ IxT w .ret (pre ++ [(⟨kind, text, rn, pl⟩, false)]) (((W.setCell ⟨w.heap.size, 0, none⟩ (.slice none 0 0)).setCell ⟨w.heap.size + 1, 0, none⟩ (.int .i64 61)).setCell ⟨w.heap.size + 1 + 1, 0, none⟩ (.int .i64 pl)).drew := by
        have ht := tellF_snoc pre ⟨kind, text, rn, pl⟩ false hT
        have ht : tellF (pre ++ [(⟨kind, text, rn, pl⟩, false)]) = some pl := ht
        refine ⟨((((KeepsOthers.setCell _ _ _).trans (KeepsOthers.setCell _ _ _)).trans (KeepsOthers.setCell _ _ _)).trans (KeepsOthers.drew _)).from _, rfl, by rw [ht]; rfl, ?_, ?_, ?_, ?_⟩
        · exact ((hv.set (.slice none 0 0)).other (by omega) _).other (by omega) _
        · exact ((hE1.other (by omega) _).set (.int .i64 61)).other (by omega) _
        · rw [ht]; exact ((hA1.other (by omega) _).other (by omega) _).set (.int .i64 pl)
        · exact ((((hB.setCell (p := ⟨w.heap.size, 0, none⟩) (Nat.le_refl _) _).setCell (p := ⟨w.heap.size + 1, 0, none⟩) (by show w.heap.size ≤ w.heap.size + 1; omega) _).setCell (p := ⟨w.heap.size + 1 + 1, 0, none⟩) (by show w.heap.size ≤ w.heap.size + 1 + 1; omega) _).drew)
      have hmx : Tryz.prog.follows .mixedOrders = true := by kernel_rfl
      gi_wp2
      gi_region_o
      all_goals gi_wp2
      all_goals (try go_bits)
      all_goals exact RET
    | true =>
      have hlen := scanF_len (s.size + 1) s.data.toList 0
      have hlen : (scan s).length ≤ 2001 := by unfold scan; omega
      gi_wp2_with (gi_at_builtin; go_loud (refine wpListIn_append_at _ rfl _ _ 95 rfl w.heap.size 102 i0 _ 4 40 Tryz.underlying95 hi hz0 hz1 hz2 rfl (by decide) v pre.length (flatT pre) rfl (hrow.alloc _) ⟨W.heap.size, 0, none⟩ 1 1 [.int .i64 kind, .string text, .int .i64 rn, .int .i64 pl] rfl rfl (World.news_of_block (World.alloc_heap_new _ _)) (by simp [Value.oneCell']) (by have := hlen; simp [maxLen]; omega) (by omega) (by have := hB.size; simp; omega) ?_; intro v' w1 hown' hgrow hat; obtain ⟨g', cap', rfl⟩ := ownsRow_succ hown'; obtain ⟨hv1, hv2, hr2, hk2, hb2⟩ := hv.appended (by decide) hrow hB.size (Nat.le_refl _) hown' hgrow; have hc1 := hv1.cell; have hf1 := hv1.frozen))
      have hoW : outOf w.heap.size W = v.ownBlock := by unfold outOf; rw [hc]
      have hoX : outOf w.heap.size (w1.setCell ⟨w.heap.size, 0, none⟩ (.slice (some ⟨g', 0, none⟩) (pre.length + 1) cap')) = some g' := by unfold outOf; rw [hv2.cell]; rfl
      have hsz1 : W.heap.size + 1 ≤ w1.heap.size := by have := hgrow.size; simp at this; omega
      have hszX : (w1.setCell ⟨w.heap.size, 0, none⟩ (.slice (some ⟨g', 0, none⟩) (pre.length + 1) cap')).heap.size = w1.heap.size := by simp
      have hat' : v.ownBlock = some g' ∨ g' = W.heap.size + 1 := by
        rcases hat with h | h
        · exact .inl h.symm
        · refine .inr ?_
          have h : some g' = some (W.alloc _).heap.size := h
          injection h with h
          rw [h]; simp
      have hgX : g' < w1.heap.size := by
        rcases hown'.2 with ⟨h, _⟩ | ⟨g2, c2, cur, h, _, hb3, _⟩
        · cases h
        · injection h with h1
          injection h1 with h1
          injection h1 with h1
          subst h1
          exact lt_of_some hb3
      refine ⟨hk2.from _, ⟨hb2, ?_, ?_, ?_⟩, ⟨⟨_, hv2, by rw [flatT_snoc, List.length_append]; exact hr2, trivial⟩, ?_, ?_, ?_, hB.trans hb2, by rw [hszX]; omega⟩⟩
      · intro b hb
        rw [hoX] at hb
        injection hb with hb
        subst hb
        rw [hoW]
        rcases hat' with h | h
        · exact .inl h
        · exact .inr (by omega)
      · intro k o hk hne ho hco
        rw [hoW] at hne
        have hkl := lt_of_some ho
        rw [Below.heap_setCell _ _ _ _ (by show k ≠ w.heap.size; omega), hgrow.block k (by simp; omega) (fun e => hne e.symm), Below.heap_alloc _ _ _ hkl]
        exact ho
      · intro hA b hb
        rw [hoX] at hb
        injection hb with hb
        subst hb
        rw [hszX]; exact hgX
      · refine Boxed.other ((hE1.alloc _).kept hgrow ?_) (by omega) _
        exact (hE1.not_row (by decide) hrow)
      · refine Boxed.other ((hA1.alloc _).kept hgrow ?_) (by omega) _
        exact (hA1.not_row (by decide) hrow)
      · rw [tellF_snoc _ _ _ hT]; rfl
  case done =>
    rintro D ys W hD rfl ⟨⟨v, hv, hrow, _⟩, hE1, hA1, hT, hB, hbig⟩ hK
    obtain ⟨kk, hkk⟩ := scan_pos s
    obtain ⟨g, cap, hg⟩ : ∃ g cap, v = .slice (some ⟨g, 0, none⟩) (kk + 1) cap := ownsRow_succ (by rw [← hkk]; exact hrow)
    subst hg
    have hc := hv.cell
    have hfz := hv.frozen
    have hce := hE1.cell
    have hfe := hE1.frozen
    have hca := hA1.cell
    have hfa := hA1.frozen
    gi_wp2
    obtain ⟨W3, hW3⟩ : ∃ W3, ((W.setCell ⟨w.heap.size, 0, none⟩ (.slice (some ⟨g, 0, none⟩) (kk + 1) cap)).setCell ⟨w.heap.size + 1, 0, none⟩ (.int .i64 0)).setCell ⟨w.heap.size + 1 + 1, 0, none⟩ (.int .i64 0) = W3 := ⟨_, rfl⟩
    rw [hW3]
    have hK3 : W3.heap[D]? = some (.deferred (some [])) := by
      rw [← hW3]
      exact (((KeepsOthers.setCell _ _ _).trans (KeepsOthers.setCell _ _ _)).trans (KeepsOthers.setCell _ _ _)).same D _ hK rfl
    have v3 : Boxed W3 w.heap.size 95 (.slice (some ⟨g, 0, none⟩) (kk + 1) cap) := by rw [← hW3]; exact ((hv.set _).other (by omega) _).other (by omega) _
    have e3 : Boxed W3 (w.heap.size + 1) 50 (.int .i64 0) := by rw [← hW3]; exact ((hE1.other (by omega) _).set (.int .i64 0)).other (by omega) _
    have a3 : Boxed W3 (w.heap.size + 1 + 1) 3 (.int .i64 0) := by rw [← hW3]; exact ((hA1.other (by omega) _).other (by omega) _).set (.int .i64 0)
    have r3 : W3.ownsRow w.heap.size 102 4 (.slice (some ⟨g, 0, none⟩) (kk + 1) cap) (scan s).length (flatT (scan s)) := by
      have q1 := hrow.kept (grownBy_setCell' W w.heap.size (.slice (some ⟨g, 0, none⟩) (kk + 1) cap)) (.inr (hv.not_row (by decide) hrow).symm)
      have q2 := q1.kept (grownBy_setCell' _ (w.heap.size + 1) (.int .i64 0)) (.inr ((hE1.other (by omega) _).not_row (by decide) q1).symm)
      have q3 := q2.kept (grownBy_setCell' _ (w.heap.size + 1 + 1) (.int .i64 0)) (.inr (((hA1.other (by omega) _).other (by omega) _).not_row (by decide) q2).symm)
      rw [← hW3]; exact q3
    have B3 : Below w.heap.size w W3 := by
      rw [← hW3]
      exact ((hB.setCell (p := ⟨w.heap.size, 0, none⟩) (Nat.le_refl _) _).setCell (p := ⟨w.heap.size + 1, 0, none⟩) (by show w.heap.size ≤ w.heap.size + 1; omega) _).setCell (p := ⟨w.heap.size + 1 + 1, 0, none⟩) (by show w.heap.size ≤ w.heap.size + 1 + 1; omega) _
    refine ⟨by simp, .inl ⟨_, _, rfl, run_takeDeferred hK3, ?_⟩⟩
    have k1 := cell_kept v3.cell (grownBy_putObj' _ D (.deferred none)) (fun r e => by cases e; exact ⟨_, hK3, rfl⟩)
    have k2 := cell_kept e3.cell (grownBy_putObj' _ D (.deferred none)) (fun r e => by cases e; exact ⟨_, hK3, rfl⟩)
    have k3 := cell_kept a3.cell (grownBy_putObj' _ D (.deferred none)) (fun r e => by cases e; exact ⟨_, hK3, rfl⟩)
    refine ⟨.tuple #[.slice (some ⟨g, 0, none⟩) (kk + 1) cap, .int .i64 0, .int .i64 0], ?_, ⟨_, .inl ⟨rfl, hT, ownsRow_putObj r3 _ hK3 rfl⟩⟩, B3.trans (belowK_b (w := w) (Nat.le_refl _) W3 D _ _ (by omega) hK3 rfl rfl)⟩
    simp [results, Tryz.f81, go_sem, k1, k2, k3]
  case stop =>
    rintro D c pre W hD hpre ⟨rfl, ht, hv, hE1, hA1, hB⟩ hK
    have hc := hv.cell
    have hce := hE1.cell
    have hca := hA1.cell
    obtain ⟨p, hp⟩ := Option.isSome_iff_exists.1 ht
    have hp2 : tellF (scan s) = some p := by
      obtain ⟨r, hr⟩ := hpre
      rw [← hr]; exact tellF_pre _ _ _ hp
    rw [hp] at hA1 hca
    gi_wp2
    refine ⟨by simp, .inl ⟨_, _, rfl, run_takeDeferred hK, ?_⟩⟩
    have k1 := cell_kept hv.cell (grownBy_putObj' _ D (.deferred none)) (fun r e => by cases e; exact ⟨_, hK, rfl⟩)
    have k2 := cell_kept hE1.cell (grownBy_putObj' _ D (.deferred none)) (fun r e => by cases e; exact ⟨_, hK, rfl⟩)
    have k3 := cell_kept hA1.cell (grownBy_putObj' _ D (.deferred none)) (fun r e => by cases e; exact ⟨_, hK, rfl⟩)
    refine ⟨.tuple #[.slice none 0 0, .int .i64 61, .int .i64 p], ?_, ⟨.nilIface, .inr ⟨p, hp2, rfl⟩⟩, hB.trans (belowK_b (w := w) (Nat.le_refl _) W D _ _ (by omega) hK rfl rfl)⟩
    simp [results, Tryz.f81, go_sem, k1, k2, k3]
end Go.Proofs.YtkolnkjdcncmpaaGreatDoor.Lx

/- Layer 2 as the document has it: Count, Text, Parse, in the pure machine. -/
namespace Go.Proofs.YtkolnkjdcncmpaaGreatDoor.Lx
open Go Go.RowKit Go.Proofs.YtkolnkjdcncmpaaGreatDoor.Pm Go.Proofs.YtkolnkjdcncmpaaGreatDoor.Pl
open Go.Proofs.YtkolnkjdcncmpaaGreatDoor.L (wordsL wordsB)
set_option linter.unusedVariables false
set_option maxHeartbeats 1000000
theorem countL_len {l : List UInt8} {m : Int} (h : 13 < l.length) : countL l m = -1 := by
  unfold countL; rw [if_neg]; rintro ⟨_, h2, _⟩; omega
theorem countL_zero {l : List UInt8} {m : Int} (h : 1 < l.length) (h0 : l.head? = some 48) : countL l m = -1 := by
  unfold countL
  rw [if_neg]
  rintro ⟨_, _, h3, h4, _, h6⟩
  rcases digs_head (val l) (by omega) with h | h
  · rw [digs_one h] at h4
    rw [← h4] at h0
    have : l.length = 1 := by rw [← h4]; rfl
    omega
  · rw [h4] at h; exact h h0
theorem val_lt (l : List UInt8) (h : l.all isD = true) (hl : l.length ≤ 13) : val l < 10000000000000 := by
  have := pow_lt_of_val l h
  have h2 : 10 ^ l.length ≤ 10 ^ 13 := Nat.pow_le_pow_right (by decide) hl
  omega
theorem isD_iff (c : UInt8) : isD c = true ↔ 48 ≤ c.toNat ∧ c.toNat ≤ 57 := by unfold isD; exact decide_eq_true_iff
theorem all_bad {l : List UInt8} {j : Nat} {b : UInt8} (hb : l[j]? = some b) (h : isD b = false) : allL l = false := by
  unfold allL
  have : l.all isD = false := by
    rw [List.all_eq_false]
    exact ⟨b, List.mem_of_getElem? hb, by rw [h]; simp⟩
  rw [this, Bool.and_false]
theorem rCount_ok (s : ByteArray) (m : Int) (hm : I64 m) : Ok E 119 [] [pS s, pI m] (pI (countL s.data.toList m)) [] := by
  obtain ⟨l, hl⟩ : ∃ l, s.data.toList = l := ⟨_, rfl⟩
  have hsz := sz_len s
  rw [hl] at hsz ⊢
  have hempty : (s.toList == (⟨#[]⟩ : ByteArray).toList) = decide (l = []) := by
    rw [toList_data, toList_data, hl]
    show (l == []) = _
    cases l <;> rfl
  by_cases h0 : l = []
  · subst h0
    refine Ok.enter hE Tryz.func119 rfl (by decide +kernel) (by kernel_rfl) rfl rfl (Nat.le_of_ble_eq_true rfl) rfl ?_
    refine ⟨_, strEqV (c := true) (by rw [hempty]; rfl), ?_⟩
    exact Ret.mk _ rfl rfl rfl
  rw [decide_eq_false h0] at hempty
  by_cases h13 : 13 < l.length
  · rw [countL_len h13]
    refine Ok.enter hE Tryz.func119 rfl (by decide +kernel) (by kernel_rfl) rfl rfl (Nat.le_of_ble_eq_true rfl) rfl ?_
    refine ⟨_, strEqV (c := false) hempty, ?_⟩
    refine ⟨_, gtT (by omega), ?_⟩
    exact Ret.mk _ rfl rfl rfl
  obtain ⟨c, l', hcl⟩ : ∃ c l', l = c :: l' := by
    cases l with
    | nil => exact absurd rfl h0
    | cons c l' => exact ⟨c, l', rfl⟩
  have hc0 : s.data.toList[0]? = some c := by rw [hl, hcl]; rfl
  by_cases hz : 1 < l.length ∧ c.toNat = 48
  · have hh : l.head? = some 48 := by
      rw [hcl]
      show some c = some 48
      rw [show c = 48 from UInt8.toNat_inj.1 hz.2]
    rw [countL_zero hz.1 hh]
    refine Ok.enter hE Tryz.func119 rfl (by decide +kernel) (by kernel_rfl) rfl rfl (Nat.le_of_ble_eq_true rfl) rfl ?_
    refine ⟨_, strEqV (c := false) hempty, ?_⟩
    refine ⟨_, gtN (by omega), ?_⟩
    refine ⟨_, gtT (by omega), ?_⟩
    refine ⟨_, idxSV 0 c rfl rfl hc0, ?_⟩
    refine ⟨_, eqT (by omega), ?_⟩
    exact Ret.mk _ rfl rfl rfl
  have hlp : 1 ≤ l.length := by rw [hcl]; simp
  have hdg : l.all isD = true → digs (val l) = l := fun ha => (digs_val (l.length - 1) l (by omega) (by omega) ha (by
    by_cases h1 : l.length = 1
    · exact .inl (by omega)
    · refine .inr ?_
      intro e
      have e : some c = some (48 : UInt8) := by rw [hcl] at e; exact e
      injection e with e
      have h2 : 1 < l.length := by omega
      exact hz ⟨h2, by rw [e]; rfl⟩)).1
  obtain ⟨v, hv⟩ : ∃ v, countL l m = v := ⟨_, rfl⟩
  rw [hv]
  have LP : ∀ (K : PEx → St → Prop) (f0 : Nat → PV), True := fun _ _ => trivial
  refine Ok.enter hE Tryz.func119 rfl (by decide +kernel) (by kernel_rfl) rfl rfl (Nat.le_of_ble_eq_true rfl) rfl ?_
  refine ⟨_, strEqV (c := false) hempty, ?_⟩
  refine ⟨_, gtN (by omega), ?_⟩
  by_cases h1 : 1 < l.length
  refine ⟨_, gtT (by omega), ?_⟩
  refine ⟨_, idxSV 0 c rfl rfl hc0, ?_⟩
  refine ⟨_, eqN (show (c.toNat : Int) ≠ 48 from fun e => hz ⟨h1, by omega⟩), ?_⟩
  rotate_left
  refine ⟨_, gtN (by omega), ?_⟩
  all_goals
    refine Loop.run (α := Nat) (fun j => j ≤ l.length ∧ (l.take j).all isD = true) (fun j => [(0, pS s), (1, pI m), (5, pI (val (l.take j))), (6, pI j)]) (fun _ => []) (fun _ => []) (fun j => l.length - j) 0 ⟨Nat.zero_le _, rfl⟩ ⟨⟨rfl, rfl, rfl, rfl, trivial⟩, rfl, rfl⟩ ?_
    rintro j f ⟨hj, hja⟩
    by_cases hjl : j < l.length
    · obtain ⟨b, hb⟩ : ∃ b, l[j]? = some b := ⟨_, List.getElem?_eq_getElem hjl⟩
      have hbs : s.data.toList[j]? = some b := by rw [hl]; exact hb
      have htk : l.take (j + 1) = l.take j ++ [b] := by rw [List.take_add_one, hb]; rfl
      have hvl := val_lt (l.take j) hja (by rw [List.length_take]; omega)
      refine ⟨_, ltT (by omega), ?_⟩
      refine ⟨_, idxSV j b rfl rfl hbs, ?_⟩
      by_cases hlo : b.toNat < 48
      · have hbad : v = -1 := by rw [← hv]; exact countL_no (all_bad hb (by unfold isD; exact decide_eq_false (by omega)))
        refine ⟨_, ltT (by omega), ?_⟩
        exact Ret.mk _ rfl (congrArg (fun n : Int => pI n) hbad.symm) rfl
      refine ⟨_, ltN (by omega), ?_⟩
      refine ⟨_, idxSV j b rfl rfl hbs, ?_⟩
      by_cases hhi : 57 < b.toNat
      · have hbad : v = -1 := by rw [← hv]; exact countL_no (all_bad hb (by unfold isD; exact decide_eq_false (by omega)))
        refine ⟨_, gtT (by omega), ?_⟩
        exact Ret.mk _ rfl (congrArg (fun n : Int => pI n) hbad.symm) rfl
      refine ⟨_, gtN (by omega), ?_⟩
      refine ⟨_, mulV rfl (by omega) (by omega), ?_⟩
      refine ⟨_, idxSV j b rfl rfl hbs, ?_⟩
      refine ⟨_, subU rfl (by omega) (by omega), ?_⟩
      refine ⟨_, convV rfl rfl (conv64 (by omega) (by omega)), ?_⟩
      refine ⟨_, addV (z := (val (l.take (j + 1)) : Int)) (by rw [htk, val_snoc]; omega) (by omega) (by rw [htk, val_snoc]; omega), ?_⟩
      refine ⟨_, addV rfl (by omega) (by omega), ?_⟩
      exact ⟨j + 1, ⟨hjl, by rw [htk, List.all_append, hja]; simp; exact (isD_iff b).2 ⟨by omega, by omega⟩⟩, by omega, ⟨rfl, rfl, rfl, rfl, trivial⟩, rfl, rfl⟩
    · have hjn : j = l.length := by omega
      subst hjn
      rw [List.take_length] at hja
      have hvl := val_lt l hja (by omega)
      rw [List.take_length]
      refine ⟨_, ltN (by omega), ?_⟩
      by_cases g1 : (val l : Int) > m
      · have hbad : v = -1 := by rw [← hv]; exact countL_big (.inl (by omega))
        refine ⟨_, gtT g1, ?_⟩
        exact Ret.mk _ rfl (congrArg (fun n : Int => pI n) hbad.symm) rfl
      refine ⟨_, gtN g1, ?_⟩
      by_cases g2 : val l > 1000000000000
      · have hbad : v = -1 := by rw [← hv]; exact countL_big (.inr g2)
        refine ⟨_, gtT (by omega), ?_⟩
        exact Ret.mk _ rfl (congrArg (fun n : Int => pI n) hbad.symm) rfl
      refine ⟨_, gtN (by omega), ?_⟩
      have hgood : v = (val l : Int) := by rw [← hv]; exact countL_yes (by omega) (by omega) (hdg hja)
      exact Ret.mk _ rfl (congrArg (fun n : Int => pI n) hgood.symm) rfl
end Go.Proofs.YtkolnkjdcncmpaaGreatDoor.Lx

/- Layer 2 as the document has it: Text of any amount, Parse, in the pure machine. -/
namespace Go.Proofs.YtkolnkjdcncmpaaGreatDoor.Lx
open Go Go.RowKit Go.Proofs.YtkolnkjdcncmpaaGreatDoor.Pm Go.Proofs.YtkolnkjdcncmpaaGreatDoor.Pl
open Go.Proofs.YtkolnkjdcncmpaaGreatDoor.L (wordsL wordsB)
set_option linter.unusedVariables false
set_option maxHeartbeats 1000000
theorem textL_min {a : Int} (h0 : -1000000000000 ≤ a) (h1 : a < 0) : textL a = 45 :: textL (-a) := by
  rw [textL_ok ⟨h0, by omega⟩, textL_ok (a := -a) ⟨by omega, by omega⟩, if_pos h1, if_neg (by omega), Int.natAbs_neg]
  rfl
theorem textL_len (a : Int) : (textL a).length ≤ 30 := by
  by_cases h : okA a
  · rw [textL_ok h]
    have := digs_len (a.natAbs / 100)
    simp only [List.length_append, List.length_cons, List.length_nil]
    split <;> simp <;> omega
  · rw [textL_no h]; simp
theorem rTextA_ok (a : Int) (ha : I64 a) : Ok E 77 [] [pI a] (pS (B (textL a))) [] := by
  obtain ⟨a0, a1⟩ := ha
  by_cases h1 : a < -1000000000000
  · rw [textL_no (fun h => by have := h.1; omega)]
    refine Ok.enter hE Tryz.func77 rfl (by decide +kernel) (by kernel_rfl) rfl rfl (Nat.le_of_ble_eq_true rfl) rfl ?_
    refine ⟨_, ltT h1, ?_⟩
    exact Ret.mk _ rfl rfl rfl
  by_cases h2 : a > 1000000000000
  · rw [textL_no (fun h => by have := h.2; omega)]
    refine Ok.enter hE Tryz.func77 rfl (by decide +kernel) (by kernel_rfl) rfl rfl (Nat.le_of_ble_eq_true rfl) rfl ?_
    refine ⟨_, ltN h1, ?_⟩
    refine ⟨_, gtT h2, ?_⟩
    exact Ret.mk _ rfl rfl rfl
  by_cases h3 : a < 0
  · have hT := rText_ok (-a) (by omega) (by omega)
    have hl := textL_len (-a)
    rw [textL_min (by omega) h3]
    refine Ok.enter hE Tryz.func77 rfl (by decide +kernel) (by kernel_rfl) rfl rfl (Nat.le_of_ble_eq_true rfl) rfl ?_
    refine ⟨_, ltN h1, ?_⟩
    refine ⟨_, gtN h2, ?_⟩
    refine ⟨_, ltT h3, ?_⟩
    refine ⟨_, negV rfl (by omega) (by omega), ?_⟩
    refine ⟨_, CallR.mk1 hT rfl rfl, ?_⟩
    refine ⟨_, catB (a := [45]) (by show 1 + _ ≤ _; omega), ?_⟩
    exact Ret.mk _ rfl rfl rfl
  · exact rText_ok a (by omega) (by omega)
def bodyP (l : List UInt8) (neg : Bool) (L : List UInt8) : Int × Int := match L.drop (L.length - 3) with
  | [p, c, d] =>
    if p = 46 ∧ isD c = true ∧ isD d = true ∧ 0 ≤ countL (L.take (L.length - 3)) 10000000000 then
      let m := 100 * countL (L.take (L.length - 3)) 10000000000 + 10 * ((c.toNat : Int) - 48) + ((d.toNat : Int) - 48)
      let a := if neg then -m else m
      if textL a = l then (a, 0) else (0, 20)
    else (0, 20)
  | _ => (0, 20)
theorem parseL_neg (l : List UInt8) : parseL (45 :: l) = bodyP (45 :: l) true l := by
  unfold parseL bodyP
  rfl
theorem parseL_pos (b : UInt8) (l : List UInt8) (h : b ≠ 45) : parseL (b :: l) = bodyP (b :: l) false (b :: l) := by
  have e : ((b :: l).head? = some 45) = False := by
    apply propext
    constructor
    · intro e
      have e : some b = some (45 : UInt8) := e
      injection e with e
      exact h e
    · exact False.elim
  unfold parseL bodyP
  simp only [e, if_false, Bool.false_eq_true]
  rfl
theorem bodyP_short {l : List UInt8} {neg : Bool} {L : List UInt8} (h : L.length < 4) : bodyP l neg L = (0, 20) := by
  unfold bodyP
  have e : L.length - 3 = 0 := by omega
  rw [e, List.drop_zero, List.take_zero]
  match L with
  | [p, c, d] =>
    dsimp only
    rw [if_neg]
    rintro ⟨_, _, _, h4⟩
    rw [countL_nil] at h4
    exact absurd h4 (by decide)
  | [] => rfl
  | [_] => rfl
  | [_, _] => rfl
  | _ :: _ :: _ :: _ :: _ => simp at h; omega
theorem last3 {L : List UInt8} (h : ¬ L.length < 4) : ∃ p c d, L.drop (L.length - 3) = [p, c, d] ∧ L[L.length - 3]? = some p ∧ L[L.length - 2]? = some c ∧ L[L.length - 1]? = some d := by
  have hl : (L.drop (L.length - 3)).length = 3 := by rw [List.length_drop]; omega
  match hd : L.drop (L.length - 3), hl with
  | [p, c, d], _ =>
    refine ⟨p, c, d, rfl, ?_, ?_, ?_⟩
    · have := congrArg (·[0]?) hd
      simp only [List.getElem?_drop] at this
      simpa using this
    · have := congrArg (·[1]?) hd
      simp only [List.getElem?_drop] at this
      rw [show L.length - 3 + 1 = L.length - 2 by omega] at this
      simpa using this
    · have := congrArg (·[2]?) hd
      simp only [List.getElem?_drop] at this
      rw [show L.length - 3 + 2 = L.length - 1 by omega] at this
      simpa using this
theorem bodyP_eq {l : List UInt8} {neg : Bool} {L : List UInt8} {p c d : UInt8} (h : L.drop (L.length - 3) = [p, c, d]) : bodyP l neg L = if p = 46 ∧ isD c = true ∧ isD d = true ∧ 0 ≤ countL (L.take (L.length - 3)) 10000000000 then
      (if textL (if neg then -(100 * countL (L.take (L.length - 3)) 10000000000 + 10 * ((c.toNat : Int) - 48) + ((d.toNat : Int) - 48)) else 100 * countL (L.take (L.length - 3)) 10000000000 + 10 * ((c.toNat : Int) - 48) + ((d.toNat : Int) - 48)) = l then (if neg then -(100 * countL (L.take (L.length - 3)) 10000000000 + 10 * ((c.toNat : Int) - 48) + ((d.toNat : Int) - 48)) else 100 * countL (L.take (L.length - 3)) 10000000000 + 10 * ((c.toNat : Int) - 48) + ((d.toNat : Int) - 48), 0) else (0, 20)) else (0, 20) := by
  unfold bodyP; rw [h]
def restV (c d : UInt8) : Nat → Int
  | 0 => 0
  | 1 => (c.toNat : Int) - 48
  | _ => 10 * ((c.toNat : Int) - 48) + ((d.toNat : Int) - 48)
theorem u46 (p : UInt8) : (p.toNat : Int) = 46 ↔ p = 46 := by
  constructor
  · intro h
    apply UInt8.toNat_inj.1
    show p.toNat = 46
    omega
  · intro h; rw [h]; rfl
theorem u45 (p : UInt8) : (p.toNat : Int) = 45 ↔ p = 45 := by
  constructor
  · intro h
    apply UInt8.toNat_inj.1
    show p.toNat = 45
    omega
  · intro h; rw [h]; rfl
theorem rParse_ok (s : ByteArray) (hs : s.size ≤ 4611686018427387904) : Ok E 120 [] [pS s] (.tup [pI (parseL s.data.toList).1, pI (parseL s.data.toList).2]) [] := by
  obtain ⟨l, hl⟩ : ∃ l, s.data.toList = l := ⟨_, rfl⟩
  have hsz := sz_len s
  rw [hl] at hsz ⊢
  cases l with
  | nil =>
    have hp : parseL [] = (0, 20) := rfl
    rw [hp]
    have h0 : s.size = 0 := by rw [← hsz]; rfl
    refine Ok.enter hE Tryz.func120 rfl (by decide +kernel) (by kernel_rfl) rfl rfl (Nat.le_of_ble_eq_true rfl) rfl ?_
    refine ⟨_, strNeV (c := false) (by rw [toList_data, toList_data, hl]; rfl), ?_⟩
    refine ⟨_, ltT (by omega), ?_⟩
    exact Ret.mk _ rfl rfl rfl
  | cons b l' =>
    have hne : (!(s.toList == (⟨#[]⟩ : ByteArray).toList)) = true := by rw [toList_data, toList_data, hl]; rfl
    have hb0 : s.data.toList[0]? = some b := by rw [hl]; rfl
    obtain ⟨r, hr⟩ : ∃ r, parseL (b :: l') = r := ⟨_, rfl⟩
    rw [hr]
    obtain ⟨T, neg, sg, hT, hTl, hsg, hP⟩ : ∃ (T : ByteArray) (neg : Bool) (sg : Int), (T = if b = 45 then B l' else s) ∧ T.size ≤ s.size ∧ (neg = decide (b = 45) ∧ sg = if b = 45 then -1 else 1) ∧ bodyP (b :: l') neg T.data.toList = r := by
      by_cases h45 : b = 45
      · refine ⟨B l', true, -1, by rw [if_pos h45], ?_, ⟨(decide_eq_true h45).symm, by rw [if_pos h45]⟩, ?_⟩
        · rw [B_size, ← hsz]; simp
        · rw [B_toList, ← hr, h45]; exact (parseL_neg l').symm
      · refine ⟨s, false, 1, by rw [if_neg h45], Nat.le_refl _, ⟨(decide_eq_false h45).symm, by rw [if_neg h45]⟩, ?_⟩
        rw [hl, ← hr]; exact (parseL_pos b l' h45).symm
    obtain ⟨L, hL⟩ : ∃ L, T.data.toList = L := ⟨_, rfl⟩
    have hLs := sz_len T
    rw [hL] at hLs hP
    have sl : b = 45 → SliceR E 9 (pS s) (some (pI 1)) none (pS T) := by
      intro h
      have := sliceSV (E := E) (t := 9) (s := s) (lo := some (pI 1)) (hi := none) 1 s.size rfl rfl rfl ⟨by rw [← hsz]; simp, Nat.le_refl _⟩
      rw [hT, if_pos h]
      rw [hl, ← hsz, List.take_length] at this
      exact this
    have hTs : b ≠ 45 → T = s := fun h => by rw [hT, if_neg h]
    have ENTER : ∀ K : Prop, K → K := fun _ h => h
    have step3 : ∃ (v : Bool), v = decide (b = 45) := ⟨_, rfl⟩
    by_cases n4 : L.length < 4
    · rw [bodyP_short n4] at hP
      subst hP
      by_cases h45 : b = 45
      · have sl := sl h45
        clear hT
        refine Ok.enter hE Tryz.func120 rfl (by decide +kernel) (by kernel_rfl) rfl rfl (Nat.le_of_ble_eq_true rfl) rfl ?_
        refine ⟨_, strNeV (c := true) hne, ?_⟩
        refine ⟨_, idxSV 0 b rfl rfl hb0, ?_⟩
        refine ⟨_, eqT ((u45 b).2 h45), ?_⟩
        refine ⟨_, sl, ?_⟩
        refine ⟨_, ltT (by omega), ?_⟩
        exact Ret.mk _ rfl rfl rfl
      · have e := hTs h45
        subst e
        refine Ok.enter hE Tryz.func120 rfl (by decide +kernel) (by kernel_rfl) rfl rfl (Nat.le_of_ble_eq_true rfl) rfl ?_
        refine ⟨_, strNeV (c := true) hne, ?_⟩
        refine ⟨_, idxSV 0 b rfl rfl hb0, ?_⟩
        refine ⟨_, eqN (fun e => h45 ((u45 b).1 e)), ?_⟩
        refine ⟨_, ltT (by omega), ?_⟩
        exact Ret.mk _ rfl rfl rfl
    obtain ⟨p, c, d, hd, gp, gc, gd⟩ := last3 n4
    rw [bodyP_eq hd] at hP
    obtain ⟨whole, hw⟩ : ∃ z, countL (L.take (L.length - 3)) 10000000000 = z := ⟨_, rfl⟩
    rw [hw] at hP
    have hwb : -1 ≤ whole ∧ whole ≤ 10000000000 := by
      rcases countL_cases (L.take (L.length - 3)) 10000000000 with h | ⟨n, h, _, h2, _⟩ <;> omega
    have hC := rCount_ok (B (L.take (L.length - 3))) 10000000000 ⟨by decide, by decide⟩
    rw [B_toList, hw] at hC
    have slw : SliceR E 9 (pS T) none (some (pI ((T.size : Int) - 3))) (pS (B (L.take (L.length - 3)))) := by
      have := sliceSV (E := E) (t := 9) (s := T) (lo := none) (hi := some (pI ((T.size : Int) - 3))) 0 (L.length - 3) rfl rfl (by show some ((T.size : Int) - 3) = _; congr 1; omega) ⟨Nat.zero_le _, by omega⟩
      rw [hL] at this
      exact this
    have gp' : T.data.toList[L.length - 3]? = some p := by rw [hL]; exact gp
    have gc' : T.data.toList[L.length - 2]? = some c := by rw [hL]; exact gc
    have gd' : T.data.toList[L.length - 1]? = some d := by rw [hL]; exact gd
    have hc256 := c.toNat_lt
    have hd256 := d.toNat_lt
    have hm1 : ∀ (x y : UInt8), isD x = true → isD y = true → 0 ≤ restV x y 2 ∧ restV x y 2 ≤ 99 := by
      intro x y hx hy
      have := (isD_iff x).1 hx
      have := (isD_iff y).1 hy
      show 0 ≤ 10 * ((x.toNat : Int) - 48) + ((y.toNat : Int) - 48) ∧ 10 * ((x.toNat : Int) - 48) + ((y.toNat : Int) - 48) ≤ 99
      omega
    have hA : isD c = true → isD d = true → ∃ a, sg * (100 * whole + restV c d 2) = a ∧ -2000000000000 ≤ a ∧ a ≤ 2000000000000 ∧ (if neg then -(100 * whole + 10 * ((c.toNat : Int) - 48) + ((d.toNat : Int) - 48)) else 100 * whole + 10 * ((c.toNat : Int) - 48) + ((d.toNat : Int) - 48)) = a := by
      intro h1 h2
      have := hm1 c d h1 h2
      obtain ⟨hn, hs⟩ := hsg
      refine ⟨_, rfl, ?_⟩
      by_cases h45 : b = 45
      · rw [if_pos h45] at hs
        rw [decide_eq_true h45] at hn
        subst hs hn
        have hr2 : restV c d 2 = 10 * ((c.toNat : Int) - 48) + ((d.toNat : Int) - 48) := rfl
        rw [hr2] at this ⊢
        rw [if_pos rfl]
        omega
      · rw [if_neg h45] at hs
        rw [decide_eq_false h45] at hn
        subst hs hn
        have hr2 : restV c d 2 = 10 * ((c.toNat : Int) - 48) + ((d.toNat : Int) - 48) := rfl
        rw [hr2] at this ⊢
        rw [if_neg (by simp)]
        omega
    have seq : ∀ a : Int, textL a = b :: l' → ((B (textL a)).toList == s.toList) = true := by
      intro a h
      rw [toList_data, toList_data, B_toList, hl, h]; exact beq_self_eq_true _
    have sne : ∀ a : Int, textL a ≠ b :: l' → ((B (textL a)).toList == s.toList) = false := by
      intro a h
      rw [toList_data, toList_data, B_toList, hl]; exact beq_eq_false_iff_ne.2 h
    have hsgb : sg = -1 ∨ sg = 1 := by rw [hsg.2]; split <;> simp
    by_cases h45 : b = 45
    · have sl := sl h45
      have hsg1 : sg = -1 := by rw [hsg.2, if_pos h45]
      subst hsg1
      clear hT hsg hr
      refine Ok.enter hE Tryz.func120 rfl (by decide +kernel) (by kernel_rfl) rfl rfl (Nat.le_of_ble_eq_true rfl) rfl ?_
      refine ⟨_, strNeV (c := true) hne, ?_⟩
      refine ⟨_, idxSV 0 b rfl rfl hb0, ?_⟩
      refine ⟨_, eqT ((u45 b).2 h45), ?_⟩
      refine ⟨_, sl, ?_⟩
      refine ⟨_, ltN (by omega), ?_⟩
      refine ⟨_, subV rfl (by omega) (by omega), ?_⟩
      refine ⟨_, idxSV (L.length - 3) p rfl (by omega) gp', ?_⟩
      by_cases hp46 : p = 46
      rotate_left
      · rw [if_neg (fun h => hp46 h.1)] at hP
        refine ⟨_, neT (fun e => hp46 ((u46 p).1 e)), ?_⟩
        exact Ret.mk _ rfl (by rw [← hP]; rfl) rfl
      refine ⟨_, neN ((u46 p).2 hp46), ?_⟩
      refine ⟨_, subV rfl (by omega) (by omega), ?_⟩
      refine ⟨_, slw, ?_⟩
      refine ⟨_, CallR.mk1 hC rfl rfl, ?_⟩
      refine ⟨_, subV (z := ((L.length - 2 : Nat) : Int)) (by omega) (by omega) (by omega), ?_⟩
      refine Loop.run (α := Nat) (fun j => j ≤ 2 ∧ (1 ≤ j → isD c = true) ∧ (2 ≤ j → isD d = true)) (fun j => [(0, pS s), (4, pI (-1)), (5, pS T), (6, pI whole), (7, pI (restV c d j)), (8, pI ((L.length - 2 + j : Nat) : Int))]) (fun _ => []) (fun _ => []) (fun j => 2 - j) 0 ⟨Nat.zero_le _, fun h => absurd h (by decide), fun h => absurd h (by decide)⟩ ⟨⟨rfl, rfl, rfl, rfl, rfl, rfl, trivial⟩, rfl, rfl⟩ ?_
      rintro j f ⟨hj, hj1, hj2⟩
      have hj3 : j = 0 ∨ j = 1 ∨ j = 2 := by omega
      rcases hj3 with rfl | rfl | rfl
      · refine ⟨_, ltT (by omega), ?_⟩
        refine ⟨_, idxSV (L.length - 2) c rfl rfl gc', ?_⟩
        by_cases hlo : c.toNat < 48
        · rw [if_neg (fun h => by have := (isD_iff c).1 h.2.1; omega)] at hP
          refine ⟨_, ltT (by omega), ?_⟩
          exact Ret.mk _ rfl (by rw [← hP]; rfl) rfl
        refine ⟨_, ltN (by omega), ?_⟩
        refine ⟨_, idxSV (L.length - 2) c rfl rfl gc', ?_⟩
        by_cases hhi : 57 < c.toNat
        · rw [if_neg (fun h => by have := (isD_iff c).1 h.2.1; omega)] at hP
          refine ⟨_, gtT (by omega), ?_⟩
          exact Ret.mk _ rfl (by rw [← hP]; rfl) rfl
        refine ⟨_, gtN (by omega), ?_⟩
        refine ⟨_, mulV (z := 0) rfl (by decide) (by decide), ?_⟩
        refine ⟨_, idxSV (L.length - 2) c rfl rfl gc', ?_⟩
        refine ⟨_, subU rfl (by omega) (by omega), ?_⟩
        refine ⟨_, convV rfl rfl (conv64 (by omega) (by omega)), ?_⟩
        refine ⟨_, addV (z := restV c d 1) (by show 0 + ((c.toNat : Int) - 48) = (c.toNat : Int) - 48; omega) (by show _ ≤ (c.toNat : Int) - 48; omega) (by show (c.toNat : Int) - 48 ≤ _; omega), ?_⟩
        refine ⟨_, addV (z := ((L.length - 2 + 1 : Nat) : Int)) (by omega) (by omega) (by omega), ?_⟩
        exact ⟨1, ⟨by decide, fun _ => (isD_iff c).2 ⟨by omega, by omega⟩, fun h => absurd h (by decide)⟩, by decide, ⟨rfl, rfl, rfl, rfl, rfl, rfl, trivial⟩, rfl, rfl⟩
      · have hcd := (isD_iff c).1 (hj1 (by decide))
        have gd2 : T.data.toList[L.length - 2 + 1]? = some d := by rw [show L.length - 2 + 1 = L.length - 1 by omega]; exact gd'
        refine ⟨_, ltT (by omega), ?_⟩
        refine ⟨_, idxSV (L.length - 2 + 1) d rfl rfl gd2, ?_⟩
        by_cases hlo : d.toNat < 48
        · rw [if_neg (fun h => by have := (isD_iff d).1 h.2.2.1; omega)] at hP
          refine ⟨_, ltT (by omega), ?_⟩
          exact Ret.mk _ rfl (by rw [← hP]; rfl) rfl
        refine ⟨_, ltN (by omega), ?_⟩
        refine ⟨_, idxSV (L.length - 2 + 1) d rfl rfl gd2, ?_⟩
        by_cases hhi : 57 < d.toNat
        · rw [if_neg (fun h => by have := (isD_iff d).1 h.2.2.1; omega)] at hP
          refine ⟨_, gtT (by omega), ?_⟩
          exact Ret.mk _ rfl (by rw [← hP]; rfl) rfl
        refine ⟨_, gtN (by omega), ?_⟩
        refine ⟨_, mulV (z := 10 * ((c.toNat : Int) - 48)) rfl (by omega) (by omega), ?_⟩
        refine ⟨_, idxSV (L.length - 2 + 1) d rfl rfl gd2, ?_⟩
        refine ⟨_, subU rfl (by omega) (by omega), ?_⟩
        refine ⟨_, convV rfl rfl (conv64 (by omega) (by omega)), ?_⟩
        refine ⟨_, addV (z := restV c d 2) rfl (by show _ ≤ 10 * ((c.toNat : Int) - 48) + ((d.toNat : Int) - 48); omega) (by show 10 * ((c.toNat : Int) - 48) + ((d.toNat : Int) - 48) ≤ _; omega), ?_⟩
        refine ⟨_, addV (z := ((L.length - 2 + 2 : Nat) : Int)) (by omega) (by omega) (by omega), ?_⟩
        exact ⟨2, ⟨by decide, fun _ => hj1 (by decide), fun _ => (isD_iff d).2 ⟨by omega, by omega⟩⟩, by decide, ⟨rfl, rfl, rfl, rfl, rfl, rfl, trivial⟩, rfl, rfl⟩
      · have hc1 := hj1 (by decide)
        have hd1 := hj2 (by decide)
        have hr2 := hm1 c d hc1 hd1
        obtain ⟨a, ha1, ha2, ha3, ha4⟩ := hA hc1 hd1
        have hT1 := rTextA_ok a ⟨by omega, by omega⟩
        have sq := seq a
        have sn := sne a
        obtain ⟨u, hu⟩ : ∃ u, B (textL a) = u := ⟨_, rfl⟩
        rw [hu] at hT1 sq sn
        rw [ha4] at hP
        refine ⟨_, ltN (by omega), ?_⟩
        refine ⟨_, mulV rfl (by omega) (by omega), ?_⟩
        refine ⟨_, addV rfl (by omega) (by omega), ?_⟩
        refine ⟨_, mulV ha1 (by omega) (by omega), ?_⟩
        by_cases hw0 : whole < 0
        · rw [if_neg (fun h => by have := h.2.2.2; omega)] at hP
          refine ⟨_, ltT hw0, ?_⟩
          exact Ret.mk _ rfl (by rw [← hP]; rfl) rfl
        rw [if_pos ⟨hp46, hc1, hd1, by omega⟩] at hP
        refine ⟨_, ltN hw0, ?_⟩
        refine ⟨_, CallR.mk1 hT1 rfl rfl, ?_⟩
        by_cases htx : textL a = b :: l'
        · rw [if_pos htx] at hP
          refine ⟨_, strNeV (c := false) (by rw [sq htx]; rfl), ?_⟩
          exact Ret.mk _ rfl (by rw [← hP]; rfl) rfl
        · rw [if_neg htx] at hP
          refine ⟨_, strNeV (c := true) (by rw [sn htx]; rfl), ?_⟩
          exact Ret.mk _ rfl (by rw [← hP]; rfl) rfl
    · have e := hTs h45
      have hsg1 : sg = 1 := by rw [hsg.2, if_neg h45]
      subst hsg1
      clear hT hsg hr
      subst e
      refine Ok.enter hE Tryz.func120 rfl (by decide +kernel) (by kernel_rfl) rfl rfl (Nat.le_of_ble_eq_true rfl) rfl ?_
      refine ⟨_, strNeV (c := true) hne, ?_⟩
      refine ⟨_, idxSV 0 b rfl rfl hb0, ?_⟩
      refine ⟨_, eqN (fun e => h45 ((u45 b).1 e)), ?_⟩
      refine ⟨_, ltN (by omega), ?_⟩
      refine ⟨_, subV rfl (by omega) (by omega), ?_⟩
      refine ⟨_, idxSV (L.length - 3) p rfl (by omega) gp', ?_⟩
      by_cases hp46 : p = 46
      rotate_left
      · rw [if_neg (fun h => hp46 h.1)] at hP
        refine ⟨_, neT (fun e => hp46 ((u46 p).1 e)), ?_⟩
        exact Ret.mk _ rfl (by rw [← hP]; rfl) rfl
      refine ⟨_, neN ((u46 p).2 hp46), ?_⟩
      refine ⟨_, subV rfl (by omega) (by omega), ?_⟩
      refine ⟨_, slw, ?_⟩
      refine ⟨_, CallR.mk1 hC rfl rfl, ?_⟩
      refine ⟨_, subV (z := ((L.length - 2 : Nat) : Int)) (by omega) (by omega) (by omega), ?_⟩
      refine Loop.run (α := Nat) (fun j => j ≤ 2 ∧ (1 ≤ j → isD c = true) ∧ (2 ≤ j → isD d = true)) (fun j => [(0, pS T), (4, pI 1), (5, pS T), (6, pI whole), (7, pI (restV c d j)), (8, pI ((L.length - 2 + j : Nat) : Int))]) (fun _ => []) (fun _ => []) (fun j => 2 - j) 0 ⟨Nat.zero_le _, fun h => absurd h (by decide), fun h => absurd h (by decide)⟩ ⟨⟨rfl, rfl, rfl, rfl, rfl, rfl, trivial⟩, rfl, rfl⟩ ?_
      rintro j f ⟨hj, hj1, hj2⟩
      have hj3 : j = 0 ∨ j = 1 ∨ j = 2 := by omega
      rcases hj3 with rfl | rfl | rfl
      · refine ⟨_, ltT (by omega), ?_⟩
        refine ⟨_, idxSV (L.length - 2) c rfl rfl gc', ?_⟩
        by_cases hlo : c.toNat < 48
        · rw [if_neg (fun h => by have := (isD_iff c).1 h.2.1; omega)] at hP
          refine ⟨_, ltT (by omega), ?_⟩
          exact Ret.mk _ rfl (by rw [← hP]; rfl) rfl
        refine ⟨_, ltN (by omega), ?_⟩
        refine ⟨_, idxSV (L.length - 2) c rfl rfl gc', ?_⟩
        by_cases hhi : 57 < c.toNat
        · rw [if_neg (fun h => by have := (isD_iff c).1 h.2.1; omega)] at hP
          refine ⟨_, gtT (by omega), ?_⟩
          exact Ret.mk _ rfl (by rw [← hP]; rfl) rfl
        refine ⟨_, gtN (by omega), ?_⟩
        refine ⟨_, mulV (z := 0) rfl (by decide) (by decide), ?_⟩
        refine ⟨_, idxSV (L.length - 2) c rfl rfl gc', ?_⟩
        refine ⟨_, subU rfl (by omega) (by omega), ?_⟩
        refine ⟨_, convV rfl rfl (conv64 (by omega) (by omega)), ?_⟩
        refine ⟨_, addV (z := restV c d 1) (by show 0 + ((c.toNat : Int) - 48) = (c.toNat : Int) - 48; omega) (by show _ ≤ (c.toNat : Int) - 48; omega) (by show (c.toNat : Int) - 48 ≤ _; omega), ?_⟩
        refine ⟨_, addV (z := ((L.length - 2 + 1 : Nat) : Int)) (by omega) (by omega) (by omega), ?_⟩
        exact ⟨1, ⟨by decide, fun _ => (isD_iff c).2 ⟨by omega, by omega⟩, fun h => absurd h (by decide)⟩, by decide, ⟨rfl, rfl, rfl, rfl, rfl, rfl, trivial⟩, rfl, rfl⟩
      · have hcd := (isD_iff c).1 (hj1 (by decide))
        have gd2 : T.data.toList[L.length - 2 + 1]? = some d := by rw [show L.length - 2 + 1 = L.length - 1 by omega]; exact gd'
        refine ⟨_, ltT (by omega), ?_⟩
        refine ⟨_, idxSV (L.length - 2 + 1) d rfl rfl gd2, ?_⟩
        by_cases hlo : d.toNat < 48
        · rw [if_neg (fun h => by have := (isD_iff d).1 h.2.2.1; omega)] at hP
          refine ⟨_, ltT (by omega), ?_⟩
          exact Ret.mk _ rfl (by rw [← hP]; rfl) rfl
        refine ⟨_, ltN (by omega), ?_⟩
        refine ⟨_, idxSV (L.length - 2 + 1) d rfl rfl gd2, ?_⟩
        by_cases hhi : 57 < d.toNat
        · rw [if_neg (fun h => by have := (isD_iff d).1 h.2.2.1; omega)] at hP
          refine ⟨_, gtT (by omega), ?_⟩
          exact Ret.mk _ rfl (by rw [← hP]; rfl) rfl
        refine ⟨_, gtN (by omega), ?_⟩
        refine ⟨_, mulV (z := 10 * ((c.toNat : Int) - 48)) rfl (by omega) (by omega), ?_⟩
        refine ⟨_, idxSV (L.length - 2 + 1) d rfl rfl gd2, ?_⟩
        refine ⟨_, subU rfl (by omega) (by omega), ?_⟩
        refine ⟨_, convV rfl rfl (conv64 (by omega) (by omega)), ?_⟩
        refine ⟨_, addV (z := restV c d 2) rfl (by show _ ≤ 10 * ((c.toNat : Int) - 48) + ((d.toNat : Int) - 48); omega) (by show 10 * ((c.toNat : Int) - 48) + ((d.toNat : Int) - 48) ≤ _; omega), ?_⟩
        refine ⟨_, addV (z := ((L.length - 2 + 2 : Nat) : Int)) (by omega) (by omega) (by omega), ?_⟩
        exact ⟨2, ⟨by decide, fun _ => hj1 (by decide), fun _ => (isD_iff d).2 ⟨by omega, by omega⟩⟩, by decide, ⟨rfl, rfl, rfl, rfl, rfl, rfl, trivial⟩, rfl, rfl⟩
      · have hc1 := hj1 (by decide)
        have hd1 := hj2 (by decide)
        have hr2 := hm1 c d hc1 hd1
        obtain ⟨a, ha1, ha2, ha3, ha4⟩ := hA hc1 hd1
        have hT1 := rTextA_ok a ⟨by omega, by omega⟩
        have sq := seq a
        have sn := sne a
        obtain ⟨u, hu⟩ : ∃ u, B (textL a) = u := ⟨_, rfl⟩
        rw [hu] at hT1 sq sn
        rw [ha4] at hP
        refine ⟨_, ltN (by omega), ?_⟩
        refine ⟨_, mulV rfl (by omega) (by omega), ?_⟩
        refine ⟨_, addV rfl (by omega) (by omega), ?_⟩
        refine ⟨_, mulV ha1 (by omega) (by omega), ?_⟩
        by_cases hw0 : whole < 0
        · rw [if_neg (fun h => by have := h.2.2.2; omega)] at hP
          refine ⟨_, ltT hw0, ?_⟩
          exact Ret.mk _ rfl (by rw [← hP]; rfl) rfl
        rw [if_pos ⟨hp46, hc1, hd1, by omega⟩] at hP
        refine ⟨_, ltN hw0, ?_⟩
        refine ⟨_, CallR.mk1 hT1 rfl rfl, ?_⟩
        by_cases htx : textL a = b :: l'
        · rw [if_pos htx] at hP
          refine ⟨_, strNeV (c := false) (by rw [sq htx]; rfl), ?_⟩
          exact Ret.mk _ rfl (by rw [← hP]; rfl) rfl
        · rw [if_neg htx] at hP
          refine ⟨_, strNeV (c := true) (by rw [sn htx]; rfl), ?_⟩
          exact Ret.mk _ rfl (by rw [← hP]; rfl) rfl
end Go.Proofs.YtkolnkjdcncmpaaGreatDoor.Lx

/- lex.Lex as a contract of the pure machine; tokens that are the same; the document's token. -/
namespace Go.Proofs.YtkolnkjdcncmpaaGreatDoor.Lx
open Go Go.RowKit Go.Shelf Go.Proofs.YtkolnkjdcncmpaaGreatDoor.Pm Go.Proofs.YtkolnkjdcncmpaaGreatDoor.Pl
open Go.Proofs.YtkolnkjdcncmpaaGreatDoor.L (wordsL wordsB)
set_option linter.unusedVariables false
set_option maxHeartbeats 1000000
def toksF (s : ByteArray) : List Tok := (scan s).map (·.1)
def lexF (s : ByteArray) : List Tok × Int × Int := if 2000 < s.size then ([], 60, 2000) else match tellF (scan s) with
  | some p => ([], 61, p)
  | none => (toksF s, 0, 0)
def rowT (l : List Tok) : List (List CV) := l.map cellsT
theorem rowT_len (l : List Tok) : (rowT l).length = l.length := by simp [rowT]
theorem flat_get : ∀ (l : List (Tok × Bool)) (i : Nat) (x : Tok × Bool) (j : Nat), l[i]? = some x → j < 4 → (flatT l)[i * 4 + j]? = (valsT x.1)[j]?
  | [], i, x, j, h, _ => by simp at h
  | y :: l, 0, x, j, h, hj => by
    simp at h; subst h
    show (valsT y.1 ++ flatT l)[0 * 4 + j]? = _
    rw [List.getElem?_append_left (by show 0 * 4 + j < 4; omega)]
    congr 1
    omega
  | y :: l, i + 1, x, j, h, hj => by
    have IH := flat_get l i x j (by simpa using h) hj
    show (valsT y.1 ++ flatT l)[(i + 1) * 4 + j]? = _
    rw [List.getElem?_append_right (by show 4 ≤ (i + 1) * 4 + j; omega), ← IH]
    congr 1
    show (i + 1) * 4 + j - 4 = _
    omega
theorem row_of_owns {w' : World} {base : Nat} {ok : Nat → Nat → Prop} {v : Value} {l : List (Tok × Bool)} (h : w'.ownsRow base 102 4 v l.length (flatT l)) (hk : ∀ b o, base ≤ b → b < w'.heap.size → ok b o) : RepC w' ok v (.row (rowT (l.map (·.1)))) := by
  rcases h.2 with ⟨rfl, h0⟩ | ⟨g, cap, cur, rfl, hb, hg, hn, _, _, htk⟩
  · have : l = [] := List.length_eq_zero_iff.1 h0
    subst this
    exact RepC.nil.nil_row
  · have hcell : ∀ i, i < l.length * 4 → w'.cell? ⟨g, i, none⟩ = some ((flatT l).getD i undef) := by
      intro i hi
      rw [cell_of_row w' g i cur _ (0, 0) hg]
      have e : (cur.toList.take (l.length * 4))[i]? = cur.toList[i]? := by rw [List.getElem?_take, if_pos hi]
      rw [htk] at e
      have hl : i < (flatT l).length := by rw [flatT_len]; exact hi
      rw [List.getElem?_eq_getElem hl] at e
      rw [List.getD_eq_getElem?_getD, List.getElem?_eq_getElem hl]
      simpa using e.symm
    refine .row (some ⟨g, 0, none⟩) l.length cap _ 4 (fun i => (flatT l).getD i undef) (by simp [rowT]) hn (fun h => by cases h) (by decide) ?_ ?_ ?_
    · intro x hx
      obtain ⟨t, _, rfl⟩ := List.mem_map.1 hx
      rfl
    · intro i hi
      refine ⟨⟨g, 0, none⟩, rfl, hk _ _ hb (lt_of_some hg), ?_⟩
      rw [addr0]
      exact hcell i hi
    · intro i x j c hx hj
      unfold rowT at hx
      rw [List.getElem?_map, List.getElem?_map] at hx
      cases hl : l[i]? with
      | none => rw [hl] at hx; simp at hx
      | some y =>
        rw [hl] at hx
        simp at hx
        subst hx
        have hj4 : j < 4 := (List.getElem?_eq_some_iff.1 hj).1
        have hf := flat_get l i y j hl hj4
        rw [List.getD_eq_getElem?_getD, hf]
        have : j = 0 ∨ j = 1 ∨ j = 2 ∨ j = 3 := by omega
        rcases this with rfl | rfl | rfl | rfl <;> (simp at hj; subst hj)
        · exact .int _ _
        · exact .str _
        · exact .int _ _
        · exact .int _ _
theorem tup3 {w : World} {ok : Nat → Nat → Prop} {v : Value} {p : CV} {a b : Int} (h : RepC w ok v p) : Rep w ok [] [] (.tuple #[v, .int .i64 a, .int .i64 b]) (.tup [.c p, pI a, pI b]) := by
  refine .tup _ _ rfl fun i v d hv hd => ?_
  match i with
  | 0 => simp at hv hd; subst hv; subst hd; exact .c _ _ h
  | 1 => simp at hv hd; subst hv; subst hd; exact .mkInt _ _
  | 2 => simp at hv hd; subst hv; subst hd; exact .mkInt _ _
  | n + 3 => simp at hv
set_option maxRecDepth 100000 in
set_option maxHeartbeats 2000000 in
theorem lex_long (s : ByteArray) (hs : 2000 < s.size) (w : World) : Calls Tryz.prog 81 #[.string s] w fun e W' => e = .returned (.tuple #[.slice none 0 0, .int .i64 60, .int .i64 2000]) ∧ Below w.heap.size w W' := by
  refine (callsIn_wide (n := 5)).1 ?_
  refine callsIn_of_wp Tryz.func81 rfl trivial ?_ rfl
  simp only [Tryz.ntmps81, List.size_toArray, List.length_cons, List.length_nil, Nat.reduceAdd, Nat.reduceSub, Array.replicate_succ, Array.replicate_zero, List.push_toArray, List.append_toArray, List.nil_append, List.cons_append]
  have hgt : decide ((s.size : Int) > 2000) = true := decide_eq_true (by omega)
  have hgt' : decide (2000 < (s.size : Int)) = true := decide_eq_true (by omega)
  gi_wp2
  have b0 := (((Boxed.new w 95 (.slice none 0 0)).alloc (.cells #[.int .i64 60] 50)).alloc (.cells #[.int .i64 2000] 3)).cell
  have b1 := ((Boxed.new (w.alloc (.cells #[.slice none 0 0] 95)) 50 (.int .i64 60)).alloc (.cells #[.int .i64 2000] 3)).cell
  have b2 := (Boxed.new ((w.alloc (.cells #[.slice none 0 0] 95)).alloc (.cells #[.int .i64 60] 50)) 3 (.int .i64 2000)).cell
  rw [World.size_alloc] at b1
  rw [World.size_alloc, World.size_alloc] at b2
  refine bodyPost_ret (v := .tuple #[.slice none 0 0, .int .i64 60, .int .i64 2000]) ?_ rfl ⟨rfl, (((Below.refl _ w).alloc (Nat.le_refl _) _).alloc (by simp) _).alloc (by simp; omega) _⟩
  simp [results, Tryz.f81, go_sem, b0, b1, b2]
theorem Lex_ok (s : ByteArray) : Ok E 81 [] [pS s] (.tup [.c (.row (rowT (lexF s).1)), pI (lexF s).2.1, pI (lexF s).2.2]) [] := by
  refine Ok.ofCalls hE ⟨_, Tryz.func81, by decide +kernel, by kernel_rfl⟩ fun w ok vals hI hr => ?_
  obtain rfl := one_str hr
  by_cases h : 2000 < s.size
  · have e : lexF s = ([], 60, 2000) := if_pos h
    rw [e]
    refine (lex_long s h w).mono ?_
    rintro e w' ⟨rfl, hb⟩
    exact ⟨_, rfl, hb, tup3 RepC.nil.nil_row⟩
  · refine (lex_in s (by omega) w hI).mono ?_
    rintro e w' ⟨⟨v, h1⟩, hb⟩
    rcases h1 with ⟨rfl, ht, hrow⟩ | ⟨p, ht, rfl⟩
    · have e : lexF s = (toksF s, 0, 0) := by unfold lexF; rw [if_neg h, ht]
      rw [e]
      exact ⟨_, rfl, hb, tup3 (row_of_owns hrow fun b o h1 h2 => .inr ⟨h1, h2⟩)⟩
    · have e : lexF s = ([], 61, p) := by unfold lexF; rw [if_neg h, ht]
      rw [e]
      exact ⟨_, rfl, hb, tup3 RepC.nil.nil_row⟩
/-! ### tokens that are the same -/
theorem rowT_get {l : List Tok} {j : Nat} {y : Tok} (h : l[j]? = some y) : (rowT l)[j]? = some (cellsT y) := by unfold rowT; rw [List.getElem?_map, h]; rfl
/-! ### the document's token -/
theorem rtoken_ok (p : ByteArray) (at_ : Int) (hp : p.size ≤ 4611686018427387904) : Ok E 91 [] [pS p, pI at_] (.tup [pT ⟨(partF p).1.kind, (partF p).1.text, (partF p).1.n, at_⟩, pB (partF p).2]) [] := by
  have hW := rWord_ok p
  have hN := rName_ok p
  have hC := rCount_ok p 100000 ⟨by decide, by decide⟩
  have hP := rParse_ok p hp
  obtain ⟨r, hr⟩ : ∃ r, partF p = r := ⟨_, rfl⟩
  rw [hr]
  unfold partF at hr
  rcases Bool.eq_false_or_eq_true (Lib.containsS wordsB p) with hw | hw
  · rw [hw, Bool.true_or, if_pos rfl] at hr
    subst hr
    rw [hw] at hW
    refine Ok.enter hE Tryz.func91 rfl (by decide +kernel) (by kernel_rfl) rfl rfl (Nat.le_of_ble_eq_true rfl) rfl ?_
    refine ⟨_, CallR.mk1 hW rfl rfl, ?_⟩
    exact Ret.mk _ rfl rfl rfl
  rw [hw, Bool.false_or] at hr
  rw [hw] at hW
  rcases Bool.eq_false_or_eq_true (isName p) with hn | hn
  · rw [hn, if_pos rfl] at hr
    subst hr
    rw [hn] at hN
    refine Ok.enter hE Tryz.func91 rfl (by decide +kernel) (by kernel_rfl) rfl rfl (Nat.le_of_ble_eq_true rfl) rfl ?_
    refine ⟨_, CallR.mk1 hW rfl rfl, ?_⟩
    refine ⟨_, CallR.mk1 hN rfl rfl, ?_⟩
    exact Ret.mk _ rfl rfl rfl
  rw [hn, if_neg (by simp)] at hr
  rw [hn] at hN
  by_cases hcn : 0 ≤ countL p.data.toList 100000
  · rw [if_pos hcn] at hr
    subst hr
    refine Ok.enter hE Tryz.func91 rfl (by decide +kernel) (by kernel_rfl) rfl rfl (Nat.le_of_ble_eq_true rfl) rfl ?_
    refine ⟨_, CallR.mk1 hW rfl rfl, ?_⟩
    refine ⟨_, CallR.mk1 hN rfl rfl, ?_⟩
    refine ⟨_, CallR.mk1 hC rfl rfl, ?_⟩
    refine ⟨_, geT hcn, ?_⟩
    exact Ret.mk _ rfl rfl rfl
  · rw [if_neg hcn] at hr
    subst hr
    refine Ok.enter hE Tryz.func91 rfl (by decide +kernel) (by kernel_rfl) rfl rfl (Nat.le_of_ble_eq_true rfl) rfl ?_
    refine ⟨_, CallR.mk1 hW rfl rfl, ?_⟩
    refine ⟨_, CallR.mk1 hN rfl rfl, ?_⟩
    refine ⟨_, CallR.mk1 hC rfl rfl, ?_⟩
    refine ⟨_, geN (by omega), ?_⟩
    refine ⟨_, CallR.mk1 hP rfl rfl, ?_⟩
    refine ⟨_, eqV (c := (parseL p.data.toList).2 == 0) rfl, ?_⟩
    exact Ret.mk _ rfl rfl rfl
end Go.Proofs.YtkolnkjdcncmpaaGreatDoor.Lx

/- The document's Lex, in the pure machine: it tells what lex.Lex tells. -/
namespace Go.Proofs.YtkolnkjdcncmpaaGreatDoor.Lx
open Go Go.RowKit Go.Proofs.YtkolnkjdcncmpaaGreatDoor.Pm Go.Proofs.YtkolnkjdcncmpaaGreatDoor.Pl
open Go.Proofs.YtkolnkjdcncmpaaGreatDoor.L (wordsL wordsB)
set_option linter.unusedVariables false
set_option maxHeartbeats 1000000
theorem all256 {p : UInt8 → Bool} (h : ∀ n : Nat, n < 256 → p (UInt8.ofNat n) = true) (c : UInt8) : p c = true := by
  have := h c.toNat c.toNat_lt
  rwa [UInt8.ofNat_toNat] at this
theorem in_parts (c : UInt8) : inB partsB c = (letterB c || digitB c || decide (c.toNat = 46)) := by
  have := all256 (p := fun c => inB partsB c == (letterB c || digitB c || decide (c.toNat = 46))) (by decide +kernel) c
  simpa using this
theorem in_blanks (c : UInt8) : inB blanksB c = (decide (c.toNat = 32) || decide (c.toNat = 10)) := by
  have := all256 (p := fun c => inB blanksB c == (decide (c.toNat = 32) || decide (c.toNat = 10))) (by decide +kernel) c
  simpa using this
theorem in_signs (c : UInt8) : inB signsB c = (decide (c.toNat = 40) || (decide (c.toNat = 41) || decide (c.toNat = 44))) := by
  have := all256 (p := fun c => inB signsB c == (decide (c.toNat = 40) || (decide (c.toNat = 41) || decide (c.toNat = 44)))) (by decide +kernel) c
  simpa using this
theorem scanF_blank (f : Nat) (c : UInt8) (l : List UInt8) (i : Nat) (h : inB blanksB c = true) : scanF (f + 1) (c :: l) i = scanF (f + 1) l (i + 1) := by
  rw [scanF, scanF, runB, if_pos h, List.drop_succ_cons, show i + (runB blanksB l + 1) = i + 1 + runB blanksB l by omega]
theorem runB_no (set : ByteArray) (c : UInt8) (l : List UInt8) (h : inB set c = false) : runB set (c :: l) = 0 := by
  rw [runB, if_neg (by rw [h]; simp)]
theorem scanF_sign (f : Nat) (c : UInt8) (l : List UInt8) (i : Nat) (h : inB blanksB c = false) (hs : inB signsB c = true) : scanF (f + 1) (c :: l) i = (⟨4, B [c], 0, i⟩, true) :: scanF f l (i + 1) := by
  rw [scanF, runB_no _ _ _ h, List.drop_zero, Nat.add_zero, firstF, if_pos hs]
  simp only [B_size]
  rw [if_neg (by simp)]
  rfl
theorem partF_kind (p : ByteArray) : (partF p).1.kind ≠ 5 ∧ (partF p).1.text = p := by
  unfold partF
  (repeat' split) <;> first
    | exact ⟨fun h => absurd (show (1 : Int) = 5 from h) (by decide), rfl⟩
    | exact ⟨fun h => absurd (show (2 : Int) = 5 from h) (by decide), rfl⟩
    | exact ⟨fun h => absurd (show (3 : Int) = 5 from h) (by decide), rfl⟩
theorem scanF_part (f : Nat) (c : UInt8) (l : List UInt8) (i : Nat) (h : inB blanksB c = false) (hs : inB signsB c = false) :
    scanF (f + 1) (c :: l) i = if (partF (B ((c :: l).take (runB partsB (c :: l))))).2 = false then [(⟨(partF (B ((c :: l).take (runB partsB (c :: l))))).1.kind, (partF (B ((c :: l).take (runB partsB (c :: l))))).1.text, (partF (B ((c :: l).take (runB partsB (c :: l))))).1.n, i⟩, false)]
      else (⟨(partF (B ((c :: l).take (runB partsB (c :: l))))).1.kind, (partF (B ((c :: l).take (runB partsB (c :: l))))).1.text, (partF (B ((c :: l).take (runB partsB (c :: l))))).1.n, i⟩, true) :: scanF f ((c :: l).drop (runB partsB (c :: l))) (i + runB partsB (c :: l)) := by
  have hF : firstF (c :: l) = partF (B ((c :: l).take (runB partsB (c :: l)))) := by rw [firstF, if_neg (by rw [hs]; simp)]
  rw [scanF, runB_no _ _ _ h, List.drop_zero, Nat.add_zero, hF]
  obtain ⟨k, hk⟩ : ∃ k, runB partsB (c :: l) = k := ⟨_, rfl⟩
  have hkl := runB_le partsB (c :: l)
  rw [hk] at hkl ⊢
  obtain ⟨h5, ht⟩ := partF_kind (B ((c :: l).take k))
  have hsz : (partF (B ((c :: l).take k))).1.text.size = k := by rw [ht, B_size, List.length_take]; omega
  cases hb : (partF (B ((c :: l).take k))).2 with
  | false => rw [if_pos (.inl rfl), if_pos rfl]
  | true =>
    rw [if_neg (fun h => h.elim (fun h => by cases h) h5), if_neg (by simp), hsz]
theorem scanF_end (f i : Nat) : scanF (f + 1) [] i = [(⟨5, e0, 0, i⟩, true)] := by
  rw [scanF, runB, List.drop_nil, Nat.add_zero, firstF, if_pos (.inr rfl)]
def okT (l : List Tok) : List (Tok × Bool) := l.map fun t => (t, true)
theorem tell_ok : ∀ (l : List Tok) (r : List (Tok × Bool)), tellF (okT l ++ r) = tellF r
  | [], r => rfl
  | t :: l, r => by
    show tellF ((t, true) :: (okT l ++ r)) = _
    rw [tellF]; exact tell_ok l r
theorem fst_ok (l : List Tok) : (okT l).map (·.1) = l := by unfold okT; rw [List.map_map]; simp [Function.comp_def]
theorem okT_snoc (l : List Tok) (t : Tok) (r : List (Tok × Bool)) : okT (l ++ [t]) ++ r = okT l ++ ((t, true) :: r) := by simp [okT]
def cellO : List Tok → PV
  | [] => .c .nil
  | a :: l => .orow (rowT (a :: l)) 0
def tokO : List Tok → List (Nat × Nat)
  | [] => []
  | a :: l => [((a :: l).length, 102)]
theorem cellO_snoc (a : Tok) (l : List Tok) (t : Tok) : PV.orow (rowT (a :: l) ++ [cellsT t]) 0 = cellO (a :: l ++ [t]) := by
  show _ = PV.orow (rowT (a :: (l ++ [t]))) 0
  simp [rowT]
theorem tokO_snoc (a : Tok) (l : List Tok) (t : Tok) : [((a :: l).length + 1, 102)] = tokO (a :: l ++ [t]) := by
  show _ = [((a :: (l ++ [t])).length, _)]
  simp
theorem wkTup3 {p q : PV} (h : Wk p q) (a b : PV) : Wk (.tup [p, a, b]) (.tup [q, a, b]) := by
  intro w ok m tk v hv
  cases hv with
  | tup cs ds hl hg =>
    refine .tup cs _ hl fun i u d hu hd => ?_
    match i with
    | 0 =>
      simp at hd; subst hd
      exact h _ _ _ _ _ (hg 0 u p hu rfl)
    | 1 => exact hg 1 u d hu hd
    | 2 => exact hg 2 u d hu hd
    | n + 3 => simp at hd
theorem wkO (xs : List (List CV)) (k : Nat) : Wk (.orow xs k) (.c (.row xs)) := by
  intro w ok m tk v hv
  cases hv with
  | orow A len cap xs k h r hr h1 h2 => exact .c _ _ h
structure LexI (s : ByteArray) (i : Nat) (acc : List Tok) : Prop where
  le : i ≤ s.size
  len : acc.length ≤ i
  scan : ∃ f, s.size - i < f ∧ Lx.scan s = okT acc ++ scanF f (s.data.toList.drop i) i
theorem rowT_sz (l : List Tok) : ∀ x ∈ rowT l, x.length = 4 := by
  intro x hx
  obtain ⟨t, _, rfl⟩ := List.mem_map.1 hx
  rfl
theorem rLex_ok (s : ByteArray) : Ok E 63 [] [pS s] (.tup [.c (.row (rowT (lexF s).1)), pI (lexF s).2.1, pI (lexF s).2.2]) [] := by
  have hsz := sz_len s
  obtain ⟨r, hr⟩ : ∃ r, lexF s = r := ⟨_, rfl⟩
  rw [hr]
  by_cases hbig : 2000 < s.size
  · have e : r = ([], 60, 2000) := by rw [← hr]; exact if_pos hbig
    subst e
    refine Ok.enter hE Tryz.func63 rfl (by decide +kernel) (by kernel_rfl) rfl rfl (Nat.le_of_ble_eq_true rfl) rfl ?_
    refine ⟨_, gtT (by omega), ?_⟩
    exact ⟨_, rfl, wkTup3 Wk.nilRow _ _, rfl, .nil _⟩
  have hr : (match tellF (scan s) with
    | some p => ([], 61, p)
    | none => (toksF s, 0, 0)) = r := by rw [← hr]; exact (if_neg hbig).symm
  refine Ok.enter hE Tryz.func63 rfl (by decide +kernel) (by kernel_rfl) rfl rfl (Nat.le_of_ble_eq_true rfl) rfl ?_
  refine ⟨_, gtN (by omega), ?_⟩
  refine Loop.cut (α := Nat × List Tok) (fun x => LexI s x.1 x.2) (fun x => [(0, pS s), (5, cellO x.2), (6, pI x.1)]) (fun _ => []) (fun x => tokO x.2) (fun x => s.size - x.1) (0, []) 0 (fun _ => rfl) (fun _ => rfl) (by rintro ⟨i, acc⟩; cases acc <;> rfl) ⟨Nat.zero_le _, Nat.le_refl _, s.size + 1, by omega, rfl⟩ ⟨⟨rfl, rfl, rfl, trivial⟩, rfl, rfl⟩ ?_
  rintro ⟨i, acc⟩ f ⟨hi, hal, g, hg, hscan⟩
  have hi : i ≤ s.size := hi
  have hal : acc.length ≤ i := hal
  obtain ⟨g, rfl⟩ : ∃ g', g = g' + 1 := ⟨g - 1, by omega⟩
  have hscan : scan s = okT acc ++ scanF (g + 1) (s.data.toList.drop i) i := hscan
  by_cases hil : i < s.size
  rotate_left
  · have hin : i = s.size := by omega
    rw [List.drop_of_length_le (by omega), scanF_end] at hscan
    have hres : r = (acc ++ [⟨5, e0, 0, i⟩], 0, 0) := by
      rw [← hr, hscan, tell_ok]
      show (toksF s, (0 : Int), (0 : Int)) = _
      unfold toksF
      rw [hscan, List.map_append, fst_ok]; rfl
    subst hres
    refine ⟨_, ltN (by omega), ?_⟩
    cases acc with
    | nil =>
      refine ⟨_, ⟨_, rfl, rfl⟩, ?_⟩
      refine ⟨_, _, AppR.first1 rfl rfl (by decide) rfl rfl rfl (by decide), ?_⟩
      exact ⟨_, rfl, by rw [hin]; exact wkTup3 (wkO _ _) _ _, rfl, .nil _⟩
    | cons a acc =>
      refine ⟨_, ⟨_, rfl, rfl⟩, ?_⟩
      refine ⟨_, _, AppR.more1 (a :: acc).length rfl rfl (by decide) rfl rfl (rowT_len _) (rowT_sz _) rfl rfl (by omega) (by show ((a :: acc).length + 1) * 40 ≤ _; omega), ?_⟩
      exact ⟨_, rfl, by
        have e : rowT (a :: acc ++ [⟨5, e0, 0, (i : Int)⟩]) = rowT (a :: acc) ++ [cellsT ⟨5, e0, 0, (i : Int)⟩] := by simp [rowT]
        show Wk _ (.tup [.c (.row (rowT (a :: acc ++ [⟨5, e0, 0, (i : Int)⟩]))), _, _])
        rw [e, hin]; exact wkTup3 (wkO _ _) _ _, rfl, .nil _⟩
  obtain ⟨c, hc⟩ : ∃ c, s.data.toList[i]? = some c := ⟨_, List.getElem?_eq_getElem (by omega)⟩
  rw [drop_cons hc] at hscan
  refine ⟨_, ltT (by omega), ?_⟩
  refine Loop.run (α := Nat) (fun k => i ≤ k ∧ k ≤ s.size ∧ runB partsB (s.data.toList.drop i) = (k - i) + runB partsB (s.data.toList.drop k)) (fun k => [(0, pS s), (5, cellO acc), (6, pI i), (7, pI k)]) (fun _ => []) (fun _ => tokO acc) (fun k => s.size - k) i ⟨Nat.le_refl _, hi, by omega⟩ ⟨⟨rfl, rfl, rfl, rfl, trivial⟩, rfl, rfl⟩ ?_
  rintro k f2 ⟨hik, hk, hrun⟩
  by_cases hkl : k < s.size
  · obtain ⟨d, hd⟩ : ∃ d, s.data.toList[k]? = some d := ⟨_, List.getElem?_eq_getElem (by omega)⟩
    have hA := rletter_ok d
    have hD := rdigit_ok d
    have hpd := in_parts d
    rw [drop_cons hd, runB] at hrun
    refine ⟨_, ltT (by omega), ?_⟩
    refine ⟨_, idxSV k d rfl rfl hd, ?_⟩
    rcases Bool.eq_false_or_eq_true (letterB d) with h1 | h1
    · rw [h1] at hA hpd
      rw [if_pos (by rw [hpd]; rfl)] at hrun
      refine ⟨_, CallR.mk1 hA rfl rfl, ?_⟩
      refine ⟨_, addV rfl (by omega) (by omega), ?_⟩
      exact ⟨k + 1, ⟨by omega, by omega, by omega⟩, by omega, ⟨rfl, rfl, rfl, rfl, trivial⟩, rfl, rfl⟩
    rw [h1] at hA hpd
    refine ⟨_, CallR.mk1 hA rfl rfl, ?_⟩
    refine ⟨_, idxSV k d rfl rfl hd, ?_⟩
    rcases Bool.eq_false_or_eq_true (digitB d) with h2 | h2
    · rw [h2] at hD hpd
      rw [if_pos (by rw [hpd]; rfl)] at hrun
      refine ⟨_, CallR.mk1 hD rfl rfl, ?_⟩
      refine ⟨_, addV rfl (by omega) (by omega), ?_⟩
      exact ⟨k + 1, ⟨by omega, by omega, by omega⟩, by omega, ⟨rfl, rfl, rfl, rfl, trivial⟩, rfl, rfl⟩
    rw [h2] at hD hpd
    refine ⟨_, CallR.mk1 hD rfl rfl, ?_⟩
    refine ⟨_, idxSV k d rfl rfl hd, ?_⟩
    by_cases h3 : d.toNat = 46
    · rw [decide_eq_true h3] at hpd
      rw [if_pos (by rw [hpd]; rfl)] at hrun
      refine ⟨_, eqT (by omega), ?_⟩
      refine ⟨_, addV rfl (by omega) (by omega), ?_⟩
      exact ⟨k + 1, ⟨by omega, by omega, by omega⟩, by omega, ⟨rfl, rfl, rfl, rfl, trivial⟩, rfl, rfl⟩
    rw [decide_eq_false h3] at hpd
    rw [if_neg (by rw [hpd]; simp)] at hrun
    refine ⟨_, eqN (by omega), ?_⟩
    have hrk : runB partsB (s.data.toList.drop i) = k - i := by omega
    rw [drop_cons hc] at hrk
    have hbl := in_blanks c
    have hsg := in_signs c
    refine ⟨_, idxSV i c rfl rfl hc, ?_⟩
    by_cases b1 : c.toNat = 32
    · rw [decide_eq_true b1, Bool.true_or] at hbl
      rw [scanF_blank _ _ _ _ hbl] at hscan
      refine ⟨_, eqT (by omega), ?_⟩
      refine ⟨_, addV rfl (by omega) (by omega), ?_⟩
      exact ⟨(i + 1, acc), ⟨by show i + 1 ≤ _; omega, by show acc.length ≤ i + 1; omega, g + 1, by show s.size - (i + 1) < g + 1; omega, hscan⟩, by show s.size - (i + 1) < s.size - i; omega, ⟨rfl, rfl, rfl, trivial⟩, ⟨_, rfl⟩, rfl⟩
    refine ⟨_, eqN (by omega), ?_⟩
    refine ⟨_, idxSV i c rfl rfl hc, ?_⟩
    by_cases b2 : c.toNat = 10
    · rw [decide_eq_true b2, Bool.or_true] at hbl
      rw [scanF_blank _ _ _ _ hbl] at hscan
      refine ⟨_, eqT (by omega), ?_⟩
      refine ⟨_, addV rfl (by omega) (by omega), ?_⟩
      exact ⟨(i + 1, acc), ⟨by show i + 1 ≤ _; omega, by show acc.length ≤ i + 1; omega, g + 1, by show s.size - (i + 1) < g + 1; omega, hscan⟩, by show s.size - (i + 1) < s.size - i; omega, ⟨rfl, rfl, rfl, trivial⟩, ⟨_, rfl⟩, rfl⟩
    refine ⟨_, eqN (by omega), ?_⟩
    rw [decide_eq_false b1, decide_eq_false b2] at hbl
    have hbl : inB blanksB c = false := hbl
    have SIGN : inB signsB c = true → SliceR E 9 (pS s) (some (pI i)) (some (pI ((i : Int) + 1))) (pS (B [c])) ∧ scan s = okT (acc ++ [⟨4, B [c], 0, i⟩]) ++ scanF g (s.data.toList.drop (i + 1)) (i + 1) := by
      intro h
      refine ⟨?_, by rw [okT_snoc, hscan, scanF_sign _ _ _ _ hbl h]⟩
      have := sliceSV (E := E) (t := 9) (s := s) (lo := some (pI i)) (hi := some (pI ((i : Int) + 1))) i (i + 1) rfl rfl rfl ⟨by omega, by omega⟩
      have e : (s.data.toList.take (i + 1)).drop i = [c] := by
        rw [List.take_add_one, hc, List.drop_append_of_le_length (by rw [List.length_take]; omega), List.drop_of_length_le (by rw [List.length_take]; omega)]; rfl
      rw [e] at this
      exact this
    refine ⟨_, idxSV i c rfl rfl hc, ?_⟩
    by_cases b3 : c.toNat = 40
    · obtain ⟨sl, hsc⟩ := SIGN (by rw [hsg]; simp [b3])
      refine ⟨_, eqT (by omega), ?_⟩
      cases acc with
      | nil =>
        refine ⟨_, addV rfl (by omega) (by omega), ?_⟩
        refine ⟨_, sl, ?_⟩
        refine ⟨_, ⟨_, rfl, rfl⟩, ?_⟩
        refine ⟨_, _, AppR.first1 rfl rfl (by decide) rfl rfl rfl (by decide), ?_⟩
        refine ⟨_, addV rfl (by omega) (by omega), ?_⟩
        exact ⟨(i + 1, [⟨4, B [c], 0, (i : Int)⟩]), ⟨by show i + 1 ≤ _; omega, by show 1 ≤ i + 1; omega, g, by show s.size - (i + 1) < g; omega, hsc⟩, by show s.size - (i + 1) < s.size - i; omega, ⟨rfl, rfl, rfl, trivial⟩, ⟨_, rfl⟩, rfl⟩
      | cons a acc =>
        refine ⟨_, addV rfl (by omega) (by omega), ?_⟩
        refine ⟨_, sl, ?_⟩
        refine ⟨_, ⟨_, rfl, rfl⟩, ?_⟩
        refine ⟨_, _, AppR.more1 (a :: acc).length rfl rfl (by decide) rfl rfl (rowT_len _) (rowT_sz _) rfl rfl (by omega) (by show ((a :: acc).length + 1) * 40 ≤ _; omega), ?_⟩
        refine ⟨_, addV rfl (by omega) (by omega), ?_⟩
        exact ⟨(i + 1, a :: acc ++ [⟨4, B [c], 0, (i : Int)⟩]), ⟨by show i + 1 ≤ _; omega, by show (a :: acc ++ [_]).length ≤ i + 1; rw [List.length_append]; show (a :: acc).length + 1 ≤ i + 1; omega, g, by show s.size - (i + 1) < g; omega, hsc⟩, by show s.size - (i + 1) < s.size - i; omega, ⟨rfl, (by rw [← cellO_snoc a acc ⟨4, B [c], 0, (i : Int)⟩]; rfl), rfl, trivial⟩, ⟨_, rfl⟩, (by rw [← tokO_snoc a acc ⟨4, B [c], 0, (i : Int)⟩]; rfl)⟩
    refine ⟨_, eqN (by omega), ?_⟩
    refine ⟨_, idxSV i c rfl rfl hc, ?_⟩
    by_cases b4 : c.toNat = 41
    · obtain ⟨sl, hsc⟩ := SIGN (by rw [hsg]; simp [b4])
      refine ⟨_, eqT (by omega), ?_⟩
      cases acc with
      | nil =>
        refine ⟨_, addV rfl (by omega) (by omega), ?_⟩
        refine ⟨_, sl, ?_⟩
        refine ⟨_, ⟨_, rfl, rfl⟩, ?_⟩
        refine ⟨_, _, AppR.first1 rfl rfl (by decide) rfl rfl rfl (by decide), ?_⟩
        refine ⟨_, addV rfl (by omega) (by omega), ?_⟩
        exact ⟨(i + 1, [⟨4, B [c], 0, (i : Int)⟩]), ⟨by show i + 1 ≤ _; omega, by show 1 ≤ i + 1; omega, g, by show s.size - (i + 1) < g; omega, hsc⟩, by show s.size - (i + 1) < s.size - i; omega, ⟨rfl, rfl, rfl, trivial⟩, ⟨_, rfl⟩, rfl⟩
      | cons a acc =>
        refine ⟨_, addV rfl (by omega) (by omega), ?_⟩
        refine ⟨_, sl, ?_⟩
        refine ⟨_, ⟨_, rfl, rfl⟩, ?_⟩
        refine ⟨_, _, AppR.more1 (a :: acc).length rfl rfl (by decide) rfl rfl (rowT_len _) (rowT_sz _) rfl rfl (by omega) (by show ((a :: acc).length + 1) * 40 ≤ _; omega), ?_⟩
        refine ⟨_, addV rfl (by omega) (by omega), ?_⟩
        exact ⟨(i + 1, a :: acc ++ [⟨4, B [c], 0, (i : Int)⟩]), ⟨by show i + 1 ≤ _; omega, by show (a :: acc ++ [_]).length ≤ i + 1; rw [List.length_append]; show (a :: acc).length + 1 ≤ i + 1; omega, g, by show s.size - (i + 1) < g; omega, hsc⟩, by show s.size - (i + 1) < s.size - i; omega, ⟨rfl, (by rw [← cellO_snoc a acc ⟨4, B [c], 0, (i : Int)⟩]; rfl), rfl, trivial⟩, ⟨_, rfl⟩, (by rw [← tokO_snoc a acc ⟨4, B [c], 0, (i : Int)⟩]; rfl)⟩
    refine ⟨_, eqN (by omega), ?_⟩
    refine ⟨_, idxSV i c rfl rfl hc, ?_⟩
    by_cases b5 : c.toNat = 44
    · obtain ⟨sl, hsc⟩ := SIGN (by rw [hsg]; simp [b5])
      refine ⟨_, eqT (by omega), ?_⟩
      cases acc with
      | nil =>
        refine ⟨_, addV rfl (by omega) (by omega), ?_⟩
        refine ⟨_, sl, ?_⟩
        refine ⟨_, ⟨_, rfl, rfl⟩, ?_⟩
        refine ⟨_, _, AppR.first1 rfl rfl (by decide) rfl rfl rfl (by decide), ?_⟩
        refine ⟨_, addV rfl (by omega) (by omega), ?_⟩
        exact ⟨(i + 1, [⟨4, B [c], 0, (i : Int)⟩]), ⟨by show i + 1 ≤ _; omega, by show 1 ≤ i + 1; omega, g, by show s.size - (i + 1) < g; omega, hsc⟩, by show s.size - (i + 1) < s.size - i; omega, ⟨rfl, rfl, rfl, trivial⟩, ⟨_, rfl⟩, rfl⟩
      | cons a acc =>
        refine ⟨_, addV rfl (by omega) (by omega), ?_⟩
        refine ⟨_, sl, ?_⟩
        refine ⟨_, ⟨_, rfl, rfl⟩, ?_⟩
        refine ⟨_, _, AppR.more1 (a :: acc).length rfl rfl (by decide) rfl rfl (rowT_len _) (rowT_sz _) rfl rfl (by omega) (by show ((a :: acc).length + 1) * 40 ≤ _; omega), ?_⟩
        refine ⟨_, addV rfl (by omega) (by omega), ?_⟩
        exact ⟨(i + 1, a :: acc ++ [⟨4, B [c], 0, (i : Int)⟩]), ⟨by show i + 1 ≤ _; omega, by show (a :: acc ++ [_]).length ≤ i + 1; rw [List.length_append]; show (a :: acc).length + 1 ≤ i + 1; omega, g, by show s.size - (i + 1) < g; omega, hsc⟩, by show s.size - (i + 1) < s.size - i; omega, ⟨rfl, (by rw [← cellO_snoc a acc ⟨4, B [c], 0, (i : Int)⟩]; rfl), rfl, trivial⟩, ⟨_, rfl⟩, (by rw [← tokO_snoc a acc ⟨4, B [c], 0, (i : Int)⟩]; rfl)⟩
    refine ⟨_, eqN (by omega), ?_⟩
    have hsn : inB signsB c = false := by rw [hsg, decide_eq_false b3, decide_eq_false b4, decide_eq_false b5]; rfl
    rw [scanF_part _ _ _ _ hbl hsn, hrk] at hscan
    have slp : SliceR E 9 (pS s) (some (pI i)) (some (pI k)) (pS (B ((c :: s.data.toList.drop (i + 1)).take (k - i)))) := by
      have := sliceSV (E := E) (t := 9) (s := s) (lo := some (pI i)) (hi := some (pI k)) i k rfl rfl rfl ⟨by omega, by omega⟩
      rw [← drop_cons hc, ← List.drop_take]
      exact this
    obtain ⟨p, hp⟩ : ∃ p, B ((c :: s.data.toList.drop (i + 1)).take (k - i)) = p := ⟨_, rfl⟩
    rw [hp] at slp hscan
    have hpl : p.size ≤ 4611686018427387904 := by rw [← hp, B_size, List.length_take, List.length_cons, List.length_drop]; omega
    have hTk := rtoken_ok p i hpl
    obtain ⟨⟨⟨kind, text, rn, pl⟩, okb⟩, hpf⟩ : ∃ q, partF p = q := ⟨_, rfl⟩
    rw [hpf] at hTk hscan
    dsimp only at hTk hscan
    refine ⟨_, slp, ?_⟩
    refine ⟨_, CallR.mk1 hTk rfl rfl, ?_⟩
    cases okb with
    | false =>
      rw [if_pos rfl] at hscan
      have hres : r = ([], 61, (i : Int)) := by
        rw [← hr, hscan, tell_ok]; rfl
      subst hres
      exact ⟨_, rfl, wkTup3 Wk.nilRow _ _, rfl, .nil _⟩
    | true =>
      rw [if_neg (by simp)] at hscan
      have hki : i < k := by
        rcases Nat.lt_or_ge i k with h | h
        · exact h
        · exfalso
          have e : p = B [] := by rw [← hp, show k - i = 0 by omega]; rfl
          have e2 : partF (B []) = (⟨3, B [], (parseL []).1, 0⟩, (parseL []).2 == 0) := by
            unfold partF
            rw [if_neg (by decide +kernel), if_neg (by decide +kernel), B_toList]
          rw [e, e2] at hpf
          have h20 : ((parseL []).2 == 0) = true := congrArg (·.2) hpf
          exact absurd h20 (by decide +kernel)
      have hsc2 : scan s = okT (acc ++ [⟨kind, text, rn, (i : Int)⟩]) ++ scanF g (s.data.toList.drop k) k := by
        rw [okT_snoc, hscan, show i + (k - i) = k by omega, ← drop_cons hc, List.drop_drop, show i + (k - i) = k by omega]
      cases acc with
      | nil =>
        refine ⟨_, ⟨_, rfl, rfl⟩, ?_⟩
        refine ⟨_, _, AppR.first1 rfl rfl (by decide) rfl rfl rfl (by decide), ?_⟩
        exact ⟨(k, [⟨kind, text, rn, (i : Int)⟩]), ⟨hk, by show 1 ≤ k; omega, g, by show s.size - k < g; omega, hsc2⟩, by show s.size - k < s.size - i; omega, ⟨rfl, rfl, rfl, trivial⟩, ⟨_, rfl⟩, rfl⟩
      | cons a acc =>
        refine ⟨_, ⟨_, rfl, rfl⟩, ?_⟩
        refine ⟨_, _, AppR.more1 (a :: acc).length rfl rfl (by decide) rfl rfl (rowT_len _) (rowT_sz _) rfl rfl (by omega) (by show ((a :: acc).length + 1) * 40 ≤ _; omega), ?_⟩
        exact ⟨(k, a :: acc ++ [⟨kind, text, rn, (i : Int)⟩]), ⟨hk, by show (a :: acc ++ [_]).length ≤ k; rw [List.length_append]; show (a :: acc).length + 1 ≤ k; omega, g, by show s.size - k < g; omega, hsc2⟩, by show s.size - k < s.size - i; omega, ⟨rfl, (by rw [← cellO_snoc a acc ⟨kind, text, rn, (i : Int)⟩]; rfl), rfl, trivial⟩, ⟨_, rfl⟩, (by rw [← tokO_snoc a acc ⟨kind, text, rn, (i : Int)⟩]; rfl)⟩
  · refine ⟨_, ltN (by omega), ?_⟩
    rw [show s.data.toList.drop k = [] from List.drop_of_length_le (by omega), runB] at hrun
    have hrk : runB partsB (s.data.toList.drop i) = k - i := by omega
    rw [drop_cons hc] at hrk
    have hbl := in_blanks c
    have hsg := in_signs c
    refine ⟨_, idxSV i c rfl rfl hc, ?_⟩
    by_cases b1 : c.toNat = 32
    · rw [decide_eq_true b1, Bool.true_or] at hbl
      rw [scanF_blank _ _ _ _ hbl] at hscan
      refine ⟨_, eqT (by omega), ?_⟩
      refine ⟨_, addV rfl (by omega) (by omega), ?_⟩
      exact ⟨(i + 1, acc), ⟨by show i + 1 ≤ _; omega, by show acc.length ≤ i + 1; omega, g + 1, by show s.size - (i + 1) < g + 1; omega, hscan⟩, by show s.size - (i + 1) < s.size - i; omega, ⟨rfl, rfl, rfl, trivial⟩, ⟨_, rfl⟩, rfl⟩
    refine ⟨_, eqN (by omega), ?_⟩
    refine ⟨_, idxSV i c rfl rfl hc, ?_⟩
    by_cases b2 : c.toNat = 10
    · rw [decide_eq_true b2, Bool.or_true] at hbl
      rw [scanF_blank _ _ _ _ hbl] at hscan
      refine ⟨_, eqT (by omega), ?_⟩
      refine ⟨_, addV rfl (by omega) (by omega), ?_⟩
      exact ⟨(i + 1, acc), ⟨by show i + 1 ≤ _; omega, by show acc.length ≤ i + 1; omega, g + 1, by show s.size - (i + 1) < g + 1; omega, hscan⟩, by show s.size - (i + 1) < s.size - i; omega, ⟨rfl, rfl, rfl, trivial⟩, ⟨_, rfl⟩, rfl⟩
    refine ⟨_, eqN (by omega), ?_⟩
    rw [decide_eq_false b1, decide_eq_false b2] at hbl
    have hbl : inB blanksB c = false := hbl
    have SIGN : inB signsB c = true → SliceR E 9 (pS s) (some (pI i)) (some (pI ((i : Int) + 1))) (pS (B [c])) ∧ scan s = okT (acc ++ [⟨4, B [c], 0, i⟩]) ++ scanF g (s.data.toList.drop (i + 1)) (i + 1) := by
      intro h
      refine ⟨?_, by rw [okT_snoc, hscan, scanF_sign _ _ _ _ hbl h]⟩
      have := sliceSV (E := E) (t := 9) (s := s) (lo := some (pI i)) (hi := some (pI ((i : Int) + 1))) i (i + 1) rfl rfl rfl ⟨by omega, by omega⟩
      have e : (s.data.toList.take (i + 1)).drop i = [c] := by
        rw [List.take_add_one, hc, List.drop_append_of_le_length (by rw [List.length_take]; omega), List.drop_of_length_le (by rw [List.length_take]; omega)]; rfl
      rw [e] at this
      exact this
    refine ⟨_, idxSV i c rfl rfl hc, ?_⟩
    by_cases b3 : c.toNat = 40
    · obtain ⟨sl, hsc⟩ := SIGN (by rw [hsg]; simp [b3])
      refine ⟨_, eqT (by omega), ?_⟩
      cases acc with
      | nil =>
        refine ⟨_, addV rfl (by omega) (by omega), ?_⟩
        refine ⟨_, sl, ?_⟩
        refine ⟨_, ⟨_, rfl, rfl⟩, ?_⟩
        refine ⟨_, _, AppR.first1 rfl rfl (by decide) rfl rfl rfl (by decide), ?_⟩
        refine ⟨_, addV rfl (by omega) (by omega), ?_⟩
        exact ⟨(i + 1, [⟨4, B [c], 0, (i : Int)⟩]), ⟨by show i + 1 ≤ _; omega, by show 1 ≤ i + 1; omega, g, by show s.size - (i + 1) < g; omega, hsc⟩, by show s.size - (i + 1) < s.size - i; omega, ⟨rfl, rfl, rfl, trivial⟩, ⟨_, rfl⟩, rfl⟩
      | cons a acc =>
        refine ⟨_, addV rfl (by omega) (by omega), ?_⟩
        refine ⟨_, sl, ?_⟩
        refine ⟨_, ⟨_, rfl, rfl⟩, ?_⟩
        refine ⟨_, _, AppR.more1 (a :: acc).length rfl rfl (by decide) rfl rfl (rowT_len _) (rowT_sz _) rfl rfl (by omega) (by show ((a :: acc).length + 1) * 40 ≤ _; omega), ?_⟩
        refine ⟨_, addV rfl (by omega) (by omega), ?_⟩
        exact ⟨(i + 1, a :: acc ++ [⟨4, B [c], 0, (i : Int)⟩]), ⟨by show i + 1 ≤ _; omega, by show (a :: acc ++ [_]).length ≤ i + 1; rw [List.length_append]; show (a :: acc).length + 1 ≤ i + 1; omega, g, by show s.size - (i + 1) < g; omega, hsc⟩, by show s.size - (i + 1) < s.size - i; omega, ⟨rfl, (by rw [← cellO_snoc a acc ⟨4, B [c], 0, (i : Int)⟩]; rfl), rfl, trivial⟩, ⟨_, rfl⟩, (by rw [← tokO_snoc a acc ⟨4, B [c], 0, (i : Int)⟩]; rfl)⟩
    refine ⟨_, eqN (by omega), ?_⟩
    refine ⟨_, idxSV i c rfl rfl hc, ?_⟩
    by_cases b4 : c.toNat = 41
    · obtain ⟨sl, hsc⟩ := SIGN (by rw [hsg]; simp [b4])
      refine ⟨_, eqT (by omega), ?_⟩
      cases acc with
      | nil =>
        refine ⟨_, addV rfl (by omega) (by omega), ?_⟩
        refine ⟨_, sl, ?_⟩
        refine ⟨_, ⟨_, rfl, rfl⟩, ?_⟩
        refine ⟨_, _, AppR.first1 rfl rfl (by decide) rfl rfl rfl (by decide), ?_⟩
        refine ⟨_, addV rfl (by omega) (by omega), ?_⟩
        exact ⟨(i + 1, [⟨4, B [c], 0, (i : Int)⟩]), ⟨by show i + 1 ≤ _; omega, by show 1 ≤ i + 1; omega, g, by show s.size - (i + 1) < g; omega, hsc⟩, by show s.size - (i + 1) < s.size - i; omega, ⟨rfl, rfl, rfl, trivial⟩, ⟨_, rfl⟩, rfl⟩
      | cons a acc =>
        refine ⟨_, addV rfl (by omega) (by omega), ?_⟩
        refine ⟨_, sl, ?_⟩
        refine ⟨_, ⟨_, rfl, rfl⟩, ?_⟩
        refine ⟨_, _, AppR.more1 (a :: acc).length rfl rfl (by decide) rfl rfl (rowT_len _) (rowT_sz _) rfl rfl (by omega) (by show ((a :: acc).length + 1) * 40 ≤ _; omega), ?_⟩
        refine ⟨_, addV rfl (by omega) (by omega), ?_⟩
        exact ⟨(i + 1, a :: acc ++ [⟨4, B [c], 0, (i : Int)⟩]), ⟨by show i + 1 ≤ _; omega, by show (a :: acc ++ [_]).length ≤ i + 1; rw [List.length_append]; show (a :: acc).length + 1 ≤ i + 1; omega, g, by show s.size - (i + 1) < g; omega, hsc⟩, by show s.size - (i + 1) < s.size - i; omega, ⟨rfl, (by rw [← cellO_snoc a acc ⟨4, B [c], 0, (i : Int)⟩]; rfl), rfl, trivial⟩, ⟨_, rfl⟩, (by rw [← tokO_snoc a acc ⟨4, B [c], 0, (i : Int)⟩]; rfl)⟩
    refine ⟨_, eqN (by omega), ?_⟩
    refine ⟨_, idxSV i c rfl rfl hc, ?_⟩
    by_cases b5 : c.toNat = 44
    · obtain ⟨sl, hsc⟩ := SIGN (by rw [hsg]; simp [b5])
      refine ⟨_, eqT (by omega), ?_⟩
      cases acc with
      | nil =>
        refine ⟨_, addV rfl (by omega) (by omega), ?_⟩
        refine ⟨_, sl, ?_⟩
        refine ⟨_, ⟨_, rfl, rfl⟩, ?_⟩
        refine ⟨_, _, AppR.first1 rfl rfl (by decide) rfl rfl rfl (by decide), ?_⟩
        refine ⟨_, addV rfl (by omega) (by omega), ?_⟩
        exact ⟨(i + 1, [⟨4, B [c], 0, (i : Int)⟩]), ⟨by show i + 1 ≤ _; omega, by show 1 ≤ i + 1; omega, g, by show s.size - (i + 1) < g; omega, hsc⟩, by show s.size - (i + 1) < s.size - i; omega, ⟨rfl, rfl, rfl, trivial⟩, ⟨_, rfl⟩, rfl⟩
      | cons a acc =>
        refine ⟨_, addV rfl (by omega) (by omega), ?_⟩
        refine ⟨_, sl, ?_⟩
        refine ⟨_, ⟨_, rfl, rfl⟩, ?_⟩
        refine ⟨_, _, AppR.more1 (a :: acc).length rfl rfl (by decide) rfl rfl (rowT_len _) (rowT_sz _) rfl rfl (by omega) (by show ((a :: acc).length + 1) * 40 ≤ _; omega), ?_⟩
        refine ⟨_, addV rfl (by omega) (by omega), ?_⟩
        exact ⟨(i + 1, a :: acc ++ [⟨4, B [c], 0, (i : Int)⟩]), ⟨by show i + 1 ≤ _; omega, by show (a :: acc ++ [_]).length ≤ i + 1; rw [List.length_append]; show (a :: acc).length + 1 ≤ i + 1; omega, g, by show s.size - (i + 1) < g; omega, hsc⟩, by show s.size - (i + 1) < s.size - i; omega, ⟨rfl, (by rw [← cellO_snoc a acc ⟨4, B [c], 0, (i : Int)⟩]; rfl), rfl, trivial⟩, ⟨_, rfl⟩, (by rw [← tokO_snoc a acc ⟨4, B [c], 0, (i : Int)⟩]; rfl)⟩
    refine ⟨_, eqN (by omega), ?_⟩
    have hsn : inB signsB c = false := by rw [hsg, decide_eq_false b3, decide_eq_false b4, decide_eq_false b5]; rfl
    rw [scanF_part _ _ _ _ hbl hsn, hrk] at hscan
    have slp : SliceR E 9 (pS s) (some (pI i)) (some (pI k)) (pS (B ((c :: s.data.toList.drop (i + 1)).take (k - i)))) := by
      have := sliceSV (E := E) (t := 9) (s := s) (lo := some (pI i)) (hi := some (pI k)) i k rfl rfl rfl ⟨by omega, by omega⟩
      rw [← drop_cons hc, ← List.drop_take]
      exact this
    obtain ⟨p, hp⟩ : ∃ p, B ((c :: s.data.toList.drop (i + 1)).take (k - i)) = p := ⟨_, rfl⟩
    rw [hp] at slp hscan
    have hpl : p.size ≤ 4611686018427387904 := by rw [← hp, B_size, List.length_take, List.length_cons, List.length_drop]; omega
    have hTk := rtoken_ok p i hpl
    obtain ⟨⟨⟨kind, text, rn, pl⟩, okb⟩, hpf⟩ : ∃ q, partF p = q := ⟨_, rfl⟩
    rw [hpf] at hTk hscan
    dsimp only at hTk hscan
    refine ⟨_, slp, ?_⟩
    refine ⟨_, CallR.mk1 hTk rfl rfl, ?_⟩
    cases okb with
    | false =>
      rw [if_pos rfl] at hscan
      have hres : r = ([], 61, (i : Int)) := by
        rw [← hr, hscan, tell_ok]; rfl
      subst hres
      exact ⟨_, rfl, wkTup3 Wk.nilRow _ _, rfl, .nil _⟩
    | true =>
      rw [if_neg (by simp)] at hscan
      have hki : i < k := by
        rcases Nat.lt_or_ge i k with h | h
        · exact h
        · exfalso
          have e : p = B [] := by rw [← hp, show k - i = 0 by omega]; rfl
          have e2 : partF (B []) = (⟨3, B [], (parseL []).1, 0⟩, (parseL []).2 == 0) := by
            unfold partF
            rw [if_neg (by decide +kernel), if_neg (by decide +kernel), B_toList]
          rw [e, e2] at hpf
          have h20 : ((parseL []).2 == 0) = true := congrArg (·.2) hpf
          exact absurd h20 (by decide +kernel)
      have hsc2 : scan s = okT (acc ++ [⟨kind, text, rn, (i : Int)⟩]) ++ scanF g (s.data.toList.drop k) k := by
        rw [okT_snoc, hscan, show i + (k - i) = k by omega, ← drop_cons hc, List.drop_drop, show i + (k - i) = k by omega]
      cases acc with
      | nil =>
        refine ⟨_, ⟨_, rfl, rfl⟩, ?_⟩
        refine ⟨_, _, AppR.first1 rfl rfl (by decide) rfl rfl rfl (by decide), ?_⟩
        exact ⟨(k, [⟨kind, text, rn, (i : Int)⟩]), ⟨hk, by show 1 ≤ k; omega, g, by show s.size - k < g; omega, hsc2⟩, by show s.size - k < s.size - i; omega, ⟨rfl, rfl, rfl, trivial⟩, ⟨_, rfl⟩, rfl⟩
      | cons a acc =>
        refine ⟨_, ⟨_, rfl, rfl⟩, ?_⟩
        refine ⟨_, _, AppR.more1 (a :: acc).length rfl rfl (by decide) rfl rfl (rowT_len _) (rowT_sz _) rfl rfl (by omega) (by show ((a :: acc).length + 1) * 40 ≤ _; omega), ?_⟩
        exact ⟨(k, a :: acc ++ [⟨kind, text, rn, (i : Int)⟩]), ⟨hk, by show (a :: acc ++ [_]).length ≤ k; rw [List.length_append]; show (a :: acc).length + 1 ≤ k; omega, g, by show s.size - k < g; omega, hsc2⟩, by show s.size - k < s.size - i; omega, ⟨rfl, (by rw [← cellO_snoc a acc ⟨kind, text, rn, (i : Int)⟩]; rfl), rfl, trivial⟩, ⟨_, rfl⟩, (by rw [← tokO_snoc a acc ⟨kind, text, rn, (i : Int)⟩]; rfl)⟩
end Go.Proofs.YtkolnkjdcncmpaaGreatDoor.Lx

/- The laws' helpers of layer 6, in the pure machine: Seller, Piece, awake. -/
namespace Go.Proofs.YtkolnkjdcncmpaaGreatDoor.Lx
open Go Go.RowKit Go.Proofs.YtkolnkjdcncmpaaGreatDoor.Pm Go.Proofs.YtkolnkjdcncmpaaGreatDoor.Pl
open Go.Proofs.YtkolnkjdcncmpaaGreatDoor.L (wordsL wordsB)
set_option linter.unusedVariables false
set_option maxHeartbeats 1000000
deriving instance DecidableEq for Tok
def pkN (c n : Int) : Nat := (pk c n).toNat
theorem pkN_eq {c n : Int} (hn : 0 < n) : pk c n = (pkN c n : Nat) ∧ (pkN c n : Int) < n := by
  obtain ⟨h0, h1⟩ := pk_rng (c := c) hn
  unfold pkN
  omega
theorem pickN_ok (c n : Int) (hc : I64 c) (hn : 0 < n) : Ok E 69 [] [pI c, pI n] (pI (pkN c n : Nat)) [] := by
  rw [← (pkN_eq hn).1]; exact pick_ok c n hc hn
theorem tmodN (k m : Nat) : (k : Int).tmod (m : Int) = ((k % m : Nat) : Int) := by rw [Int.tmod_eq_emod_of_nonneg (by omega)]; rfl
theorem tdivN (k m : Nat) : (k : Int).tdiv (m : Int) = ((k / m : Nat) : Int) := by rw [Int.tdiv_eq_ediv_of_nonneg (by omega)]; rfl
def nameBs : List ByteArray := [⟨#[97]⟩, ⟨#[98, 111, 98]⟩, ⟨#[108, 111, 119, 101, 115]⟩, ⟨#[97, 99, 109, 101, 57]⟩, ⟨#[120, 49]⟩, ⟨#[101, 108, 115, 101, 101]⟩]
def lawWs : List ByteArray := [⟨#[108, 111, 119, 101, 115, 116]⟩, ⟨#[115, 101, 99, 111, 110, 100]⟩, ⟨#[102, 114, 111, 109]⟩, ⟨#[108, 101, 115, 115]⟩, ⟨#[99, 117, 116]⟩, ⟨#[109, 105, 110]⟩, ⟨#[109, 97, 120]⟩, ⟨#[101, 108, 115, 101]⟩, ⟨#[105, 102]⟩, ⟨#[109, 111, 114, 101]⟩, ⟨#[97, 98, 111, 118, 101]⟩]
def signBs : List ByteArray := [⟨#[40]⟩, ⟨#[41]⟩, ⟨#[44]⟩]
def rowB (l : List ByteArray) : List (List CV) := l.map fun w => [.str w]
theorem rowB_get {l : List ByteArray} {j : Nat} (h : j < l.length) : (rowB l)[j]? = some [.str (l.getD j e0)] := by
  unfold rowB
  rw [List.getElem?_map, List.getElem?_eq_getElem h, List.getD_eq_getElem?_getD, List.getElem?_eq_getElem h]
  rfl
theorem sz_getD {l : List ByteArray} {m : Nat} (h : l.all (fun w => decide (w.size ≤ m)) = true) (j : Nat) : (l.getD j e0).size ≤ m := by
  rw [List.getD_eq_getElem?_getD]
  cases hj : l[j]? with
  | none => exact Nat.zero_le _
  | some w => exact of_decide_eq_true (List.all_eq_true.1 h w (List.mem_of_getElem? hj))
def sellerF (n : Int) : ByteArray := B ((nameBs.getD (pkN n 60 % 6) e0).data.toList ++ digs (pkN n 60 / 6))
theorem Seller_ok (n : Int) (hn : I64 n) : Ok E 50 [] [pI n] (pS (sellerF n)) [] := by
  have hP := pickN_ok n 60 hn (by decide)
  have hlt := (pkN_eq (c := n) (n := 60) (by decide)).2
  obtain ⟨r, hr⟩ : ∃ r, sellerF n = r := ⟨_, rfl⟩
  rw [hr]
  unfold sellerF at hr
  obtain ⟨k, hk⟩ : ∃ k, pkN n 60 = k := ⟨_, rfl⟩
  rw [hk] at hP hlt hr
  have hg := rowB_get (l := nameBs) (j := k % 6) (by show _ < 6; omega)
  have hz := sz_getD (l := nameBs) (m := 6) (by decide) (k % 6)
  have hd := digs_len (k / 6)
  obtain ⟨w, hw⟩ : ∃ w, nameBs.getD (k % 6) e0 = w := ⟨_, rfl⟩
  rw [hw] at hg hz hr
  have hD := decimal_ok (k / 6) (by omega)
  refine Ok.enter hE Tryz.func50 rfl (by decide +kernel) (by kernel_rfl) rfl rfl (Nat.le_of_ble_eq_true rfl) rfl ?_
  refine ⟨_, CallR.mk1 hP rfl rfl, ?_⟩
  refine ⟨_, ⟨_, rfl, rfl⟩, ?_⟩
  refine ⟨_, remV (by decide) (tmodN (k) 6), ?_⟩
  refine ⟨_, idxV (j := k % 6) hg rfl rfl rfl rfl, ?_⟩
  refine ⟨_, quoV (by decide) (tdivN k 6) (by omega) (by omega), ?_⟩
  refine ⟨_, CallR.mk1 hD rfl rfl, ?_⟩
  refine ⟨_, catL (s := r) hr.symm (by rw [B_size]; omega), ?_⟩
  exact Ret.mk _ rfl rfl rfl
def pieceF (kind n : Int) : ByteArray := match pkN kind 5 with
  | 0 => lawWs.getD (pkN n 11) e0
  | 1 => signBs.getD (pkN n 3) e0
  | 2 => B (digs (pkN n 100001))
  | 3 => B (((digs (pkN n 1000000 / 100) ++ [46]) ++ digs (pkN n 1000000 / 10 % 10)) ++ digs (pkN n 1000000 % 10))
  | _ => sellerF n
end Go.Proofs.YtkolnkjdcncmpaaGreatDoor.Lx

/- LexKinds, in the pure machine. -/
namespace Go.Proofs.YtkolnkjdcncmpaaGreatDoor.Lx
open Go Go.RowKit Go.Proofs.YtkolnkjdcncmpaaGreatDoor.Pm Go.Proofs.YtkolnkjdcncmpaaGreatDoor.Pl
open Go.Proofs.YtkolnkjdcncmpaaGreatDoor.L (wordsL wordsB)
set_option linter.unusedVariables false
set_option maxHeartbeats 1000000
end Go.Proofs.YtkolnkjdcncmpaaGreatDoor.Lx

/- What a scan tells of texts that are moved, and of a token alone. -/
namespace Go.Proofs.YtkolnkjdcncmpaaGreatDoor.Lx
open Go Go.RowKit Go.Proofs.YtkolnkjdcncmpaaGreatDoor.Pm Go.Proofs.YtkolnkjdcncmpaaGreatDoor.Pl
open Go.Proofs.YtkolnkjdcncmpaaGreatDoor.L (wordsL wordsB)
set_option linter.unusedVariables false
set_option maxHeartbeats 1000000
theorem runB_app (set : ByteArray) : ∀ (b l : List UInt8), b.all (inB set) = true → runB set (b ++ l) = b.length + runB set l
  | [], l, _ => by simp
  | c :: b, l, h => by
    rw [List.all_cons, Bool.and_eq_true] at h
    rw [List.cons_append, runB, if_pos h.1, runB_app set b l h.2, List.length_cons]
    omega
theorem runB_stop (set : ByteArray) (c : UInt8) (hc : inB set c = false) : ∀ (w r : List UInt8), runB set (w ++ c :: r) = runB set w
  | [], r => by rw [List.nil_append, runB_no set c r hc]; rfl
  | d :: w, r => by
    rw [List.cons_append, runB, runB, runB_stop set c hc w r]
theorem runB_allT (set : ByteArray) : ∀ w : List UInt8, w.all (inB set) = true → runB set w = w.length
  | [], _ => rfl
  | c :: w, h => by
    rw [List.all_cons, Bool.and_eq_true] at h
    rw [runB, if_pos h.1, runB_allT set w h.2, List.length_cons]
theorem scanF_fuel : ∀ (f g : Nat) (l : List UInt8) (p : Nat), l.length < f → l.length < g → scanF f l p = scanF g l p
  | 0, _, l, p, h, _ => by omega
  | _ + 1, 0, l, p, _, h => by omega
  | f + 1, g + 1, l, p, hf, hg => by
    rw [scanF, scanF]
    obtain ⟨b, hb⟩ : ∃ b, runB blanksB l = b := ⟨_, rfl⟩
    rw [hb]
    by_cases hc : (firstF (l.drop b)).2 = false ∨ (firstF (l.drop b)).1.kind = 5
    · rw [if_pos hc, if_pos hc]
    · rw [if_neg hc, if_neg hc]
      have h2 : (firstF (l.drop b)).2 = true := by
        cases h : (firstF (l.drop b)).2 with
        | true => rfl
        | false => exact absurd (.inl h) hc
      obtain ⟨s1, s2⟩ := first_fits _ h2 (fun h => hc (.inr h))
      have hd : (l.drop b).length ≤ l.length := by rw [List.length_drop]; omega
      have hl : ((l.drop b).drop (firstF (l.drop b)).1.text.size).length < l.length := by
        rw [List.length_drop]; omega
      rw [scanF_fuel f g _ _ (by omega) (by omega)]
theorem scan_eq (s : ByteArray) {f : Nat} (h : s.size < f) : scan s = scanF f s.data.toList 0 := by
  unfold scan
  exact scanF_fuel _ _ _ _ (by rw [sz_len]; omega) (by rw [sz_len]; omega)
/-- blanks ahead -/
theorem scanF_pre (f : Nat) (b l : List UInt8) (p : Nat) (hb : b.all (inB blanksB) = true) : scanF (f + 1) (b ++ l) p = scanF (f + 1) l (p + b.length) := by
  rw [scanF, scanF, runB_app _ _ _ hb, List.drop_append, List.drop_of_length_le (by omega), List.nil_append, show b.length + runB blanksB l - b.length = runB blanksB l by omega, show p + (b.length + runB blanksB l) = p + b.length + runB blanksB l by omega]
/-! ### a token alone -/
structure GoodTok (N : Nat) (t : Tok) : Prop where
  h : ∃ m, (firstF m).2 = true ∧ (firstF m).1.kind ≠ 5 ∧ t.kind = (firstF m).1.kind ∧ t.text = (firstF m).1.text ∧ t.n = (firstF m).1.n
  sz : t.text.size ≤ N
theorem not_blank {c : UInt8} (h : inB partsB c = true) : inB blanksB c = false := by
  have := all256 (p := fun c => !(inB partsB c) || !(inB blanksB c)) (by decide +kernel) c
  rw [h] at this
  simpa using this
theorem sign_not_blank {c : UInt8} (h : inB signsB c = true) : inB blanksB c = false := by
  have := all256 (p := fun c => !(inB signsB c) || !(inB blanksB c)) (by decide +kernel) c
  rw [h] at this
  simpa using this
end Go.Proofs.YtkolnkjdcncmpaaGreatDoor.Lx

/- First tokens of digits, amounts and parts. -/
namespace Go.Proofs.YtkolnkjdcncmpaaGreatDoor.Lx
open Go Go.RowKit Go.Proofs.YtkolnkjdcncmpaaGreatDoor.Pm Go.Proofs.YtkolnkjdcncmpaaGreatDoor.Pl
open Go.Proofs.YtkolnkjdcncmpaaGreatDoor.L (wordsL wordsB)
set_option linter.unusedVariables false
set_option maxHeartbeats 1000000
theorem part_not_sign {c : UInt8} (h : inB partsB c = true) : inB signsB c = false := by
  have := all256 (p := fun c => !(inB partsB c) || !(inB signsB c)) (by decide +kernel) c
  rw [h] at this
  simpa using this
theorem digit_part {c : UInt8} (h : isD c = true) : inB partsB c = true := by
  have := all256 (p := fun c => !(isD c) || inB partsB c) (by decide +kernel) c
  rw [h] at this
  simpa using this
theorem digit_letter {c : UInt8} (h : isD c = true) : inB abcB c = false := by
  have := all256 (p := fun c => !(isD c) || !(inB abcB c)) (by decide +kernel) c
  rw [h] at this
  simpa using this
theorem first_part {w : List UInt8} (hw : w ≠ []) (ha : w.all (inB partsB) = true) : firstF w = partF (B w) := by
  cases w with
  | nil => exact absurd rfl hw
  | cons c l =>
    have hc : inB partsB c = true := by rw [List.all_cons, Bool.and_eq_true] at ha; exact ha.1
    rw [firstF, if_neg (by rw [part_not_sign hc]; simp), runB_allT _ _ ha, List.take_length]
theorem first_stop {w : List UInt8} (hw : w ≠ []) {c : UInt8} (hc : inB partsB c = false) (r : List UInt8) : firstF (w ++ c :: r) = firstF w := by
  cases w with
  | nil => exact absurd rfl hw
  | cons d l =>
    have hs := runB_stop partsB c hc (d :: l) r
    rw [List.cons_append] at hs ⊢
    rw [firstF, firstF]
    split
    · rfl
    · rw [hs, ← List.cons_append, List.take_append_of_le_length (runB_le _ _)]
theorem digit_word {c : UInt8} {l : List UInt8} (h : isD c = true) : Lib.containsS wordsB (B (c :: l)) = false ∧ isName (B (c :: l)) = false := by
  constructor
  · cases hc : Lib.containsS wordsB (B (c :: l)) with
    | false => rfl
    | true =>
      exfalso
      have hm := (Lib.containsS_iff _ _).1 hc
      have hall : wordsB.all (fun w => match w.data.toList with
        | [] => true
        | d :: _ => !(isD d)) = true := by decide +kernel
      have := List.all_eq_true.1 hall _ hm
      rw [B_toList] at this
      dsimp only at this
      rw [h] at this
      cases this
  · unfold isName
    rw [B_toList]
    dsimp only
    rw [digit_letter h]
    simp
theorem digs_cons (n : Nat) : ∃ c l, digs n = c :: l ∧ isD c = true := by
  cases h : digs n with
  | nil => exact absurd h (digs_ne n)
  | cons c l =>
    have := digs_all' n
    rw [h, List.all_cons, Bool.and_eq_true] at this
    exact ⟨c, l, rfl, this.1⟩
theorem digs_parts (n : Nat) : (digs n).all (inB partsB) = true := by
  have := digs_all' n
  exact List.all_eq_true.2 fun c hc => digit_part (List.all_eq_true.1 this c hc)
theorem first_count (n : Nat) (h : n ≤ 100000) : firstF (digs n) = (⟨2, B (digs n), n, 0⟩, true) := by
  rw [first_part (digs_ne n) (digs_parts n)]
  obtain ⟨c, l, hd, hc⟩ := digs_cons n
  have hw := digit_word (l := l) hc
  rw [← hd] at hw
  unfold partF
  rw [hw.1, hw.2, if_neg (by simp), B_toList, countL_digs n 100000 (by omega) (by omega), if_pos (by omega)]
theorem first_money (k : Nat) (h : k ≤ 1000000000000) : firstF (textL k) = (⟨3, B (textL k), k, 0⟩, true) := by
  have ht : textL (k : Int) = digs (k / 100) ++ [46, dig (k / 10), dig k] := by
    rw [textL_ok (by unfold okA; omega), if_neg (by omega)]
    simp
  have hall : (textL (k : Int)).all (inB partsB) = true := by
    rw [ht, List.all_append, digs_parts]
    show (true && (inB partsB 46 && (inB partsB (dig (k / 10)) && (inB partsB (dig k) && true)))) = true
    rw [digit_part (dig_isD _), digit_part (dig_isD _), show inB partsB 46 = true by decide +kernel]
    rfl
  have hne : textL (k : Int) ≠ [] := textL_ne (by unfold okA; omega)
  rw [first_part hne hall]
  obtain ⟨c, l, hd, hc⟩ := digs_cons (k / 100)
  have hw := digit_word (l := l ++ [46, dig (k / 10), dig k]) hc
  rw [← List.cons_append, ← hd, ← ht] at hw
  have hcn : countL (textL (k : Int)) 100000 = -1 := by
    refine countL_no (all_bad (j := (digs (k / 100)).length) (b := 46) ?_ (by decide +kernel))
    rw [ht, List.getElem?_append_right (Nat.le_refl _), Nat.sub_self]
    rfl
  unfold partF
  rw [hw.1, hw.2, if_neg (by simp), B_toList, hcn, if_neg (by decide), parseL_text (by unfold okA; omega)]
  rfl
end Go.Proofs.YtkolnkjdcncmpaaGreatDoor.Lx
