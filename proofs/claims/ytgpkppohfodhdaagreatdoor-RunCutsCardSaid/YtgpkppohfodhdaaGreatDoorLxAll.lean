import Derived.Test.YtgpkppohfodhdaaGreatDoorPmBll
import Derived.Test.YtgpkppohfodhdaaGreatDoorPlDec
import Derived.Test.YtgpkppohfodhdaaGreatDoorWAll
import Derived.Test.YtgpkppohfodhdaaGreatDoorShelf
import Derived.WalkSmall
import Derived.Lib.LaidTab
import Derived.Laws.RangeAny
import Derived.Laws.RangeString
import Derived.Lib.AppendIntMem
import Derived.Lib.AtoiErrMem
namespace Go.Proofs.YtgpkppohfodhdaaGreatDoor.Lx
open Go Go.RowKit Go.Proofs.YtgpkppohfodhdaaGreatDoor.Pm Go.Proofs.YtgpkppohfodhdaaGreatDoor.Pl
set_option linter.unusedVariables false
set_option linter.unusedSimpArgs false
set_option maxHeartbeats 1000000
abbrev pI (n : Int) : PV := .c (.int .i64 n)
abbrev pB (b : Bool) : PV := .c (.bool b)
abbrev pS (s : ByteArray) : PV := .c (.str s)
def pk (c n : Int) : Int := if c < 0 then (-(c + 1)).tmod n else c.tmod n
theorem pk_rng {c n : Int} (hn : 0 < n) : 0 ≤ pk c n ∧ pk c n < n := by
 unfold pk
 split
 ·rw [Int.tmod_eq_emod_of_nonneg (by omega)]
  exact ⟨Int.emod_nonneg _ (by omega), Int.emod_lt_of_pos _ hn⟩
 ·rw [Int.tmod_eq_emod_of_nonneg (by omega)]
  exact ⟨Int.emod_nonneg _ (by omega), Int.emod_lt_of_pos _ hn⟩
theorem pick_ok (c n : Int) (hc : I64 c) (hn : 0 < n) : Ok E 39 [] [pI c, pI n] (pI (pk c n)) [] := by
 obtain ⟨h0, h1⟩ := hc
 refine Ok.enter hE Tryz.func39 rfl (by decide +kernel) (by kernel_rfl) rfl rfl (Nat.le_of_ble_eq_true rfl) rfl ?_
 by_cases hneg : c < 0
 ·refine ⟨_, ltT hneg, ?_⟩
  refine ⟨_, addV rfl (by omega) (by omega), ?_⟩
  refine ⟨_, negV rfl (by omega) (by omega), ?_⟩
  refine ⟨_, remV (by omega) rfl, ?_⟩
  exact Ret.mk _ rfl (by show PV.c _ = _; rw [pk, if_pos hneg]) rfl
 ·refine ⟨_, ltN hneg, ?_⟩
  refine ⟨_, remV (by omega) rfl, ?_⟩
  exact Ret.mk _ rfl (by show PV.c _ = _; rw [pk, if_neg hneg]) rfl
theorem _root_.Go.Proofs.YtgpkppohfodhdaaGreatDoor.Pm.Mem.below {E : Env} (hE : EnvOK E) {w w' : World} {ok : Nat → Nat → Prop} (M : Mem E ⟨w, ok, [], []⟩ [] [] [] ok w) (hb : Below w.heap.size w w') : Mem E ⟨w, ok, [], []⟩ [] [] [] ok w' where
 inv := hE.stable w w' M.inv hb.size fun b h => hb.block b (Nat.lt_of_lt_of_le h (hE.glob w M.inv))
 os := hb.os
 tape := hb.tape
 output := hb.output
 size := hb.size
 frame := fun k hk _ _ => hb.block k hk
 okb := M.okb
 oks := fun b o h => Nat.lt_of_lt_of_le (M.oks b o h) hb.size
 len := rfl
 box := fun i b h => by simp at h
 inj := fun i j b h => by simp at h
 tok := fun t r h => by simp at h
 tinj := fun t u r s g h => by simp at h
 gb := M.gb
 tsz := fun t r i h => by simp at h
 stk := .nil
theorem _root_.Go.Proofs.YtgpkppohfodhdaaGreatDoor.Pm.Ok.ofBelow {E : Env} (hE : EnvOK E) {f : FuncId} {args : List PV} {r : PV} (hc : Callable E.P f) (h : ∀ (w : World) (ok : Nat → Nat → Prop) (vals : Array Value), E.I w → RepL (Rep w ok [] []) vals.toList args → ∃ v : Value, (∀ w', Rep w' ok [] [] v r) ∧ Calls E.P f vals w fun e w' => e = .returned v ∧ Below w.heap.size w w') : Ok E f [] args r [] := by
 refine ⟨hc, fun w ok ms gs vals hst M hr => ?_⟩
 have hm : ms = [] := by have := M.len; simpa using this
 subst hm
 obtain rfl : gs = [] := hst rfl
 obtain ⟨v, hv, hcall⟩ := h w ok vals M.inv hr
 refine hcall.mono ?_
 rintro e w' ⟨rfl, hb⟩
 exact ⟨v, ok, rfl, M.below hE hb, fun _ _ h => h, hv w'⟩
theorem ba_get (s : ByteArray) (j : Nat) : s[j]? = s.data.toList[j]? := by
 by_cases h : j < s.size
 ·have h' : j < s.data.toList.length := by simpa using h
  rw [getElem?_pos s j h, List.getElem?_eq_getElem h']
  rfl
 ·rw [getElem?_neg s j h, List.getElem?_eq_none (by simpa using h)]
theorem idxSV {E : Env} {t sz bb : Nat} {zz : List CV} {s : ByteArray} {n : Int} {k : IntKind} (j : Nat) (b : UInt8) (h1 : E.T t = some ⟨.str, sz, zz, bb⟩) (hn : n = (j : Int)) (hb : s.data.toList[j]? = some b) : IdxR E t (pS s) (.c (.int k n)) (.c (.int .u8 b.toNat)) where
 h := by
  subst hn
  unfold indexF
  rw [h1]
  show byteAtF _ _ = _
  unfold byteAtF
  rw [decide_eq_true (Int.natCast_nonneg j)]
  show (match s[(j : Int).toNat]? with
   | some b => some (PV.c (.int .u8 b.toNat))
   | none => none) = _
  rw [Int.toNat_natCast, ba_get, hb]
theorem toList_data (s : ByteArray) : s.toList = s.data.toList := Lib.toList_data s
theorem catL {E : Env} {ti : Nat} {x y : ByteArray} {s : ByteArray} (h : s = B (x.data.toList ++ y.data.toList)) (hb : x.size + y.size ≤ 9223372036854775807) : BinR E ti .add (.c (.str x)) (.c (.str y)) (.c (.str s)) := catV (by
 rw [h, ← B_append, B_toList', B_toList']) hb
theorem drop_cons {α : Type} {l : List α} {j : Nat} {y : α} (hy : l[j]? = some y) : l.drop j = y :: l.drop (j + 1) := by
 have hjl := (List.getElem?_eq_some_iff.1 hy).1
 rw [List.drop_eq_getElem_cons hjl]
 congr 1
 rw [List.getElem?_eq_getElem hjl] at hy
 exact Option.some.inj hy
theorem digs_len (n : Nat) : (digs n).length ≤ 20 := by
 have hp : ∀ (f k : Nat), (digF f k).length ≤ f := by
  intro f
  induction f with
  | zero => intro k; simp [digF]
  | succ f ih =>
   intro k
   rw [digF]
   split
   ·simp
   ·have := ih (k / 10); simp; omega
 exact hp 20 n
theorem rdigits_ok (n : Nat) (hn : n ≤ 9223372036854775807) : Ok E 147 [] [pI n] (pS (B (digs n))) [] := by
 have hd := digs_rec n (by omega)
 have IH : ¬ n < 10 → Ok E 147 [] [pI (n / 10 : Nat)] (pS (B (digs (n / 10)))) [] := fun h => rdigits_ok (n / 10) (by omega)
 have hl := digs_len (n / 10)
 have e1 : ((n : Int)).tmod 10 = ((n % 10 : Nat) : Int) := by rw [Int.tmod_eq_emod_of_nonneg (by omega)]; omega
 have e2 : ((n : Int)).tdiv 10 = ((n / 10 : Nat) : Int) := by rw [Int.tdiv_eq_ediv_of_nonneg (by omega)]; omega
 have e3 : UInt8.ofNat (48 + ((n % 10 : Nat) : Int)).toNat = dig n := by
  unfold dig
  congr 1
 refine Ok.enter hE Tryz.func147 rfl (by decide +kernel) (by kernel_rfl) rfl rfl (Nat.le_of_ble_eq_true rfl) rfl ?_
 refine ⟨_, remV (by omega) e1, ?_⟩
 refine ⟨_, addV rfl (by omega) (by omega), ?_⟩
 refine ⟨_, convV (z := 48 + ((n % 10 : Nat) : Int)) rfl rfl (by simp [IntKind.wrap, IntKind.bits, IntKind.signed]; omega), ?_⟩
 refine ⟨_, ⟨_, rfl, rfl⟩, ?_⟩
 refine ⟨_, convBV (l := [dig n]) rfl rfl rfl (by
  show bytesF [[CV.int .u8 (48 + ((n % 10 : Nat) : Int))]] = _
  rw [bytesF, decide_eq_true (by omega)]
  show some [UInt8.ofNat (48 + ((n % 10 : Nat) : Int)).toNat] = _
  rw [e3]), ?_⟩
 by_cases h : n < 10
 ·refine ⟨_, geN (by omega), ?_⟩
  rw [if_pos h] at hd
  exact Ret.mk _ rfl (by show PV.c (.str (B [dig n])) = _; rw [hd]) rfl
 ·rw [if_neg h] at hd
  refine ⟨_, geT (by omega), ?_⟩
  refine ⟨_, quoV (by omega) e2 (by omega) (by omega), ?_⟩
  refine ⟨_, CallR.mk1 (IH h) rfl rfl, ?_⟩
  refine ⟨_, catV (s := B (digs n)) (by rw [hd]; exact B_append _ _) (by rw [B_size]; show _ + 1 ≤ _; omega), ?_⟩
  exact Ret.mk _ rfl rfl rfl
termination_by n
decreasing_by omega
theorem decimal_ok (n : Nat) (hn : n ≤ 9223372036854775807) : Ok E 40 [] [pI n] (pS (B (digs n))) [] := by
 have hd := digs_rec n (by omega)
 have IH : ¬ n < 10 → Ok E 40 [] [pI (n / 10 : Nat)] (pS (B (digs (n / 10)))) [] := fun h => decimal_ok (n / 10) (by omega)
 have hl := digs_len (n / 10)
 have e1 : ((n : Int)).tmod 10 = ((n % 10 : Nat) : Int) := by rw [Int.tmod_eq_emod_of_nonneg (by omega)]; omega
 have e2 : ((n : Int)).tdiv 10 = ((n / 10 : Nat) : Int) := by rw [Int.tdiv_eq_ediv_of_nonneg (by omega)]; omega
 have e3 : UInt8.ofNat (48 + ((n % 10 : Nat) : Int)).toNat = dig n := by
  unfold dig
  congr 1
 refine Ok.enter hE Tryz.func40 rfl (by decide +kernel) (by kernel_rfl) rfl rfl (Nat.le_of_ble_eq_true rfl) rfl ?_
 refine ⟨_, remV (by omega) e1, ?_⟩
 refine ⟨_, addV rfl (by omega) (by omega), ?_⟩
 refine ⟨_, convV (z := 48 + ((n % 10 : Nat) : Int)) rfl rfl (by simp [IntKind.wrap, IntKind.bits, IntKind.signed]; omega), ?_⟩
 refine ⟨_, ⟨_, rfl, rfl⟩, ?_⟩
 refine ⟨_, convBV (l := [dig n]) rfl rfl rfl (by
  show bytesF [[CV.int .u8 (48 + ((n % 10 : Nat) : Int))]] = _
  rw [bytesF, decide_eq_true (by omega)]
  show some [UInt8.ofNat (48 + ((n % 10 : Nat) : Int)).toNat] = _
  rw [e3]), ?_⟩
 by_cases h : n < 10
 ·refine ⟨_, geN (by omega), ?_⟩
  rw [if_pos h] at hd
  exact Ret.mk _ rfl (by show PV.c (.str (B [dig n])) = _; rw [hd]) rfl
 ·rw [if_neg h] at hd
  refine ⟨_, geT (by omega), ?_⟩
  refine ⟨_, quoV (by omega) e2 (by omega) (by omega), ?_⟩
  refine ⟨_, CallR.mk1 (IH h) rfl rfl, ?_⟩
  refine ⟨_, catV (s := B (digs n)) (by rw [hd]; exact B_append _ _) (by rw [B_size]; show _ + 1 ≤ _; omega), ?_⟩
  exact Ret.mk _ rfl rfl rfl
termination_by n
decreasing_by omega
end Go.Proofs.YtgpkppohfodhdaaGreatDoor.Lx
namespace Go.Proofs.YtgpkppohfodhdaaGreatDoor.L
open Go.RowKit Go.Proofs.YtgpkppohfodhdaaGreatDoorW.PrintWords Go.Proofs.YtgpkppohfodhdaaGreatDoorW.PrintLast Go.Proofs.YtgpkppohfodhdaaGreatDoorW.PrintMore
set_option linter.unusedVariables false
set_option linter.unusedSimpArgs false
attribute [local go_sem] max2_int min2_int max_two min_two max_three min_three max_four min_four
structure LaidW (w : World) : Prop where
 tab : Lib.TabIs Tryz.prog w "internal/strconv.uint64pow10" .u64 Lib.pow10Tab
 synt : ∃ tp p, w.var? Tryz.prog "strconv.ErrSyntax" = some #[.iface tp p]
 rang : ∃ tp p, w.var? Tryz.prog "strconv.ErrRange" = some #[.iface tp p]
def wordsL : List (List UInt8) := [[108, 111, 119, 101, 115, 116], [115, 101, 99, 111, 110, 100], [102, 114, 111, 109], [108, 101, 115, 115], [99, 117, 116], [109, 105, 110], [109, 97, 120], [101, 108, 115, 101], [105, 102], [109, 111, 114, 101], [97, 98, 111, 118, 101]]
def strings_IndexByte.f (a0 : ByteArray) (a1 : Int) : Option (Int) := some (Lib.indexByte a0.data.toList a1.toNat.toUInt8)
theorem strings_IndexByte.calls (a0 : ByteArray) (a1 : Int) (r : Int) (w : World) (h : strings_IndexByte.f a0 a1 = some r) :
  Calls Tryz.prog 134 #[.string a0, .int .u8 a1] w fun e w' => e = .returned (.int .i64 r) ∧ Drawn0 w w' := by
 obtain rfl := Option.some.inj h
 refine (Tryz.strings_IndexByte a0 a1 w).mono ?_
 rintro e w' ⟨rfl, rfl⟩
 exact ⟨rfl, Drawn0.refl _⟩
def wordsB : List ByteArray := wordsL.map fun l => ⟨l.toArray⟩
theorem words_at (w : World) : ∀ j, j < wordsB.length → (w.alloc (.cells #[.string ⟨#[108, 111, 119, 101, 115, 116]⟩, .string ⟨#[115, 101, 99, 111, 110, 100]⟩, .string ⟨#[102, 114, 111, 109]⟩, .string ⟨#[108, 101, 115, 115]⟩, .string ⟨#[99, 117, 116]⟩, .string ⟨#[109, 105, 110]⟩, .string ⟨#[109, 97, 120]⟩, .string ⟨#[101, 108, 115, 101]⟩, .string ⟨#[105, 102]⟩, .string ⟨#[109, 111, 114, 101]⟩, .string ⟨#[97, 98, 111, 118, 101]⟩] 9)).cell? ⟨w.heap.size, 0 + j, none⟩ = some (.string (wordsB.getD j ByteArray.empty)) := by
 intro j hj
 have hl : wordsB.length = 11 := rfl
 have : j = 0 ∨ j = 1 ∨ j = 2 ∨ j = 3 ∨ j = 4 ∨ j = 5 ∨ j = 6 ∨ j = 7 ∨ j = 8 ∨ j = 9 ∨ j = 10 := by omega
 rcases this with rfl | rfl | rfl | rfl | rfl | rfl | rfl | rfl | rfl | rfl | rfl
 all_goals exact (blk_cell (blk_new w _) _).trans rfl
def lex_Word.f (a0 : ByteArray) : Option (Bool) := some (Lib.containsS wordsB a0)
set_option maxHeartbeats 1000000 in
set_option maxRecDepth 100000 in
theorem lex_Word.calls (a0 : ByteArray) (r : Bool) (w : World) (h : lex_Word.f a0 = some r) :
  Calls Tryz.prog 102 #[.string a0] w fun e w' => e = .returned (.bool r) ∧ Below w.heap.size w w' := by
 obtain rfl := Option.some.inj h
 clear h
 go_enter Tryz.func102, Tryz.ntmps102
 go_wp2_with (go_at_call 135; go_loud (refine (Tryz.slices_Contains_string w.heap.size 0 11 11 wordsB a0 _ (by decide) (by decide) ?hc).mono ?_; (case hc => exact words_at w); rintro e w1 ⟨rfl, rfl⟩))
 go_ret
 exact ⟨rfl, below_alloc (Below.refl _ _) _⟩
end Go.Proofs.YtgpkppohfodhdaaGreatDoor.L
namespace Go.Proofs.YtgpkppohfodhdaaGreatDoor.Lx
open Go Go.RowKit Go.Proofs.YtgpkppohfodhdaaGreatDoor.Pm Go.Proofs.YtgpkppohfodhdaaGreatDoor.Pl
open Go.Proofs.YtgpkppohfodhdaaGreatDoor.L (wordsL wordsB)
set_option linter.unusedVariables false
set_option linter.unusedSimpArgs false
set_option maxHeartbeats 1000000
theorem one_str {w : World} {ok : Nat → Nat → Prop} {vals : Array Value} {s : ByteArray} (h : RepL (Rep w ok [] []) vals.toList [pS s]) : vals = #[.string s] := by
 apply Array.ext'
 match hv : vals.toList, h with
 | [v], h => rw [h.head.str_inv]
theorem Word_ok (s : ByteArray) : Ok E 102 [] [pS s] (pB (Lib.containsS wordsB s)) [] := by
 refine Ok.ofBelow hE ⟨_, Tryz.func102, by decide +kernel, by kernel_rfl⟩ fun w ok vals hI hr => ?_
 refine ⟨.bool (Lib.containsS wordsB s), fun _ => .mkBool _, ?_⟩
 obtain rfl := one_str hr
 exact L.lex_Word.calls s _ w rfl
theorem IndexByte_ok (s : ByteArray) (b : Int) : Ok E 134 [] [pS s, .c (.int .u8 b)] (pI (Lib.indexByte s.data.toList b.toNat.toUInt8)) [] := by
 refine Ok.ofBelow hE ⟨_, Tryz.func134, by decide +kernel, by kernel_rfl⟩ fun w ok vals hI hv => ?_
 refine ⟨.int .i64 (Lib.indexByte s.data.toList b.toNat.toUInt8), fun _ => .mkInt _ _, ?_⟩
 match hvl : vals.toList, hv with
 | [v, u], hv =>
  have hvals : vals = #[.string s, .int .u8 b] := by apply Array.ext'; rw [hvl, hv.head.str_inv, hv.tail.head.int_inv]
  subst hvals
  refine (L.strings_IndexByte.calls s b _ w rfl).mono ?_
  rintro e w' ⟨rfl, hd⟩
  exact ⟨rfl, hd.below⟩
def inB (set : ByteArray) (c : UInt8) : Bool := decide (Lib.indexByte set.data.toList c ≥ 0)
theorem in_ok (set : ByteArray) (c : UInt8) : Ok E 100 [] [.c (.int .u8 c.toNat), pS set] (pB (inB set c)) [] := by
 have h := IndexByte_ok set c.toNat
 have e : ((c.toNat : Int).toNat.toUInt8) = c := by simp
 rw [e] at h
 refine Ok.enter hE Tryz.func100 rfl (by decide +kernel) (by kernel_rfl) rfl rfl (Nat.le_of_ble_eq_true rfl) rfl ?_
 refine ⟨_, CallR.mk1 h rfl rfl, ?_⟩
 refine ⟨_, geV (c := inB set c) rfl, ?_⟩
 exact Ret.mk _ rfl rfl rfl
def runB (set : ByteArray) : List UInt8 → Nat
 | [] => 0
 | c :: l => if inB set c then runB set l + 1 else 0
theorem run_ok (s set : ByteArray) (hs : s.size ≤ 4611686018427387904) : Ok E 101 [] [pS s, pS set] (pI (runB set s.data.toList)) [] := by
 have hsz : s.data.toList.length = s.size := by simp
 refine Ok.enter hE Tryz.func101 rfl (by decide +kernel) (by kernel_rfl) rfl rfl (Nat.le_of_ble_eq_true rfl) rfl ?_
 refine Loop.run (α := Nat) (fun j => j ≤ s.size ∧ runB set s.data.toList = j + runB set (s.data.toList.drop j)) (fun j => [(0, pS s), (1, pS set), (7, pI s.size), (8, pI j)]) (fun _ => []) (fun _ => []) (fun j => s.size - j) 0 ⟨Nat.zero_le _, by simp⟩ ⟨⟨rfl, rfl, rfl, rfl, trivial⟩, rfl, rfl⟩ ?_
 rintro j f ⟨hj, hr⟩
 by_cases hjl : j < s.size
 ·refine ⟨_, ltT (by omega), ?_⟩
  obtain ⟨b, hb⟩ : ∃ b, s.data.toList[j]? = some b := ⟨_, List.getElem?_eq_getElem (by omega)⟩
  have hd : s.data.toList.drop j = b :: s.data.toList.drop (j + 1) := by
   rw [List.drop_eq_getElem_cons (by omega)]
   congr 1
   rw [List.getElem?_eq_getElem (by omega)] at hb
   exact Option.some.inj hb
  rw [hd, runB] at hr
  refine ⟨_, idxSV j b rfl rfl hb, ?_⟩
  have hI := in_ok set b
  rcases Bool.eq_false_or_eq_true (inB set b) with hin | hin
  ·rw [hin] at hI
   rw [if_pos hin] at hr
   refine ⟨_, CallR.mk1 hI rfl rfl, ?_⟩
   refine ⟨_, addV rfl (by omega) (by omega), ?_⟩
   exact ⟨j + 1, ⟨hjl, by omega⟩, by omega, ⟨rfl, rfl, rfl, rfl, trivial⟩, rfl, rfl⟩
  ·rw [hin] at hI
   rw [if_neg (by rw [hin]; simp)] at hr
   refine ⟨_, CallR.mk1 hI rfl rfl, ?_⟩
   have hv : j = runB set s.data.toList := by omega
   exact Ret.mk _ rfl (congrArg (fun n : Nat => pI n) hv) rfl
 ·refine ⟨_, ltN (by omega), ?_⟩
  have hv : s.size = runB set s.data.toList := by
   rw [hr, List.drop_of_length_le (by omega), runB]; omega
  exact Ret.mk _ rfl (congrArg (fun n : Nat => pI n) hv) rfl
def abcB : ByteArray := ⟨#[97, 98, 99, 100, 101, 102, 103, 104, 105, 106, 107, 108, 109, 110, 111, 112, 113, 114, 115, 116, 117, 118, 119, 120, 121, 122]⟩
def abc9B : ByteArray := ⟨#[97, 98, 99, 100, 101, 102, 103, 104, 105, 106, 107, 108, 109, 110, 111, 112, 113, 114, 115, 116, 117, 118, 119, 120, 121, 122, 48, 49, 50, 51, 52, 53, 54, 55, 56, 57]⟩
def isName (s : ByteArray) : Bool := match s.data.toList with
 | [] => false
 | c :: l => decide (s.size ≤ 12) && (inB abcB c && (decide (runB abc9B (c :: l) = s.size) && !(Lib.containsS wordsB s)))
theorem Name_ok (s : ByteArray) : Ok E 54 [] [pS s] (pB (isName s)) [] := by
 have hsz : s.data.toList.length = s.size := by simp
 have hw := Word_ok s
 obtain ⟨v, hv⟩ : ∃ v, isName s = v := ⟨_, rfl⟩
 rw [hv]
 unfold isName at hv
 cases hl : s.data.toList with
 | nil =>
  rw [hl] at hv
  subst hv
  refine Ok.enter hE Tryz.func54 rfl (by decide +kernel) (by kernel_rfl) rfl rfl (Nat.le_of_ble_eq_true rfl) rfl ?_
  refine ⟨_, strNeV (c := false) (by rw [toList_data, toList_data, hl]; rfl), ?_⟩
  exact Ret.mk _ rfl rfl rfl
 | cons c l =>
  rw [hl] at hv
  dsimp only at hv
  refine Ok.enter hE Tryz.func54 rfl (by decide +kernel) (by kernel_rfl) rfl rfl (Nat.le_of_ble_eq_true rfl) rfl ?_
  refine ⟨_, strNeV (c := true) (by rw [toList_data, toList_data, hl]; rfl), ?_⟩
  by_cases h12 : s.size ≤ 12
  ·rw [decide_eq_true h12, Bool.true_and] at hv
   refine ⟨_, leT (by omega), ?_⟩
   refine ⟨_, idxSV 0 c rfl rfl (by rw [hl]; rfl), ?_⟩
   have hI := in_ok abcB c
   rcases Bool.eq_false_or_eq_true (inB abcB c) with hin | hin
   ·rw [hin] at hv hI
    rw [Bool.true_and] at hv
    refine ⟨_, CallR.mk1 hI rfl rfl, ?_⟩
    have hrun := run_ok s abc9B (by omega)
    rw [hl] at hrun
    refine ⟨_, CallR.mk1 hrun rfl rfl, ?_⟩
    by_cases hrn : runB abc9B (c :: l) = s.size
    ·rw [decide_eq_true hrn, Bool.true_and] at hv
     refine ⟨_, eqT (by omega), ?_⟩
     refine ⟨_, CallR.mk1 hw rfl rfl, ?_⟩
     exact Ret.mk _ rfl (congrArg (fun b : Bool => pB b) hv) rfl
    ·rw [decide_eq_false hrn] at hv; subst hv
     refine ⟨_, eqN (by omega), ?_⟩
     exact Ret.mk _ rfl rfl rfl
   ·rw [hin] at hv hI
    subst hv
    refine ⟨_, CallR.mk1 hI rfl rfl, ?_⟩
    exact Ret.mk _ rfl rfl rfl
  ·rw [decide_eq_false h12] at hv; subst hv
   refine ⟨_, leN (by omega), ?_⟩
   exact Ret.mk _ rfl rfl rfl
def letterB (c : UInt8) : Bool := decide (97 ≤ c.toNat) && decide (c.toNat ≤ 122)
def digitB (c : UInt8) : Bool := decide (48 ≤ c.toNat) && decide (c.toNat ≤ 57)
theorem rletter_ok (c : UInt8) : Ok E 44 [] [.c (.int .u8 c.toNat)] (pB (letterB c)) [] := by
 obtain ⟨v, hv⟩ : ∃ v, letterB c = v := ⟨_, rfl⟩
 rw [hv]
 unfold letterB at hv
 refine Ok.enter hE Tryz.func44 rfl (by decide +kernel) (by kernel_rfl) rfl rfl (Nat.le_of_ble_eq_true rfl) rfl ?_
 by_cases h : 97 ≤ c.toNat
 ·rw [decide_eq_true h, Bool.true_and] at hv
  refine ⟨_, geT (by omega), ?_⟩
  refine ⟨_, leV (c := v) (by rw [← hv]; exact decide_eq_decide.2 (by omega)), ?_⟩
  exact Ret.mk _ rfl rfl rfl
 ·rw [decide_eq_false h, Bool.false_and] at hv
  subst hv
  refine ⟨_, geN (by omega), ?_⟩
  exact Ret.mk _ rfl rfl rfl
theorem rdigit_ok (c : UInt8) : Ok E 46 [] [.c (.int .u8 c.toNat)] (pB (digitB c)) [] := by
 obtain ⟨v, hv⟩ : ∃ v, digitB c = v := ⟨_, rfl⟩
 rw [hv]
 unfold digitB at hv
 refine Ok.enter hE Tryz.func46 rfl (by decide +kernel) (by kernel_rfl) rfl rfl (Nat.le_of_ble_eq_true rfl) rfl ?_
 by_cases h : 48 ≤ c.toNat
 ·rw [decide_eq_true h, Bool.true_and] at hv
  refine ⟨_, geT (by omega), ?_⟩
  refine ⟨_, leV (c := v) (by rw [← hv]; exact decide_eq_decide.2 (by omega)), ?_⟩
  exact Ret.mk _ rfl rfl rfl
 ·rw [decide_eq_false h, Bool.false_and] at hv
  subst hv
  refine ⟨_, geN (by omega), ?_⟩
  exact Ret.mk _ rfl rfl rfl
theorem contains_drop (zs : List ByteArray) (s w : ByteArray) (j : Nat) (h : zs[j]? = some w) : Lib.containsS (zs.drop j) s = ((w.toList == s.toList) || Lib.containsS (zs.drop (j + 1)) s) := by
 have hjl := (List.getElem?_eq_some_iff.1 h).1
 have hd : zs.drop j = w :: zs.drop (j + 1) := by
  rw [List.drop_eq_getElem_cons hjl]
  congr 1
  rw [List.getElem?_eq_getElem hjl] at h
  exact Option.some.inj h
 rw [hd]
 have e : (w.toList == s.toList) = true ↔ s = w := by
  rw [beq_iff_eq, toList_data, toList_data]
  constructor
  ·intro h
   apply ByteArray.ext
   apply Array.ext'
   exact h.symm
  ·intro h; rw [h]
 rw [Bool.eq_iff_iff, Lib.containsS_iff, Bool.or_eq_true, e, Lib.containsS_iff, List.mem_cons]
def wordRow : List (List CV) := wordsB.map fun w => [.str w]
theorem rWord_ok (s : ByteArray) : Ok E 45 [] [pS s] (pB (Lib.containsS wordsB s)) [] := by
 obtain ⟨v, hv⟩ : ∃ v, Lib.containsS wordsB s = v := ⟨_, rfl⟩
 rw [hv]
 have hlen : wordsB.length = 11 := rfl
 have hrow : wordRow.length = 11 := rfl
 refine Ok.enter hE Tryz.func45 rfl (by decide +kernel) (by kernel_rfl) rfl rfl (Nat.le_of_ble_eq_true rfl) rfl ?_
 refine ⟨_, ⟨_, rfl, rfl⟩, ?_⟩
 refine Loop.run (α := Nat) (fun j => j ≤ 11 ∧ Lib.containsS (wordsB.drop j) s = v) (fun j => [(0, pS s), (3, .c (.row wordRow)), (4, pI j)]) (fun _ => []) (fun _ => []) (fun j => 11 - j) 0 ⟨Nat.zero_le _, hv⟩ ⟨⟨rfl, rfl, rfl, trivial⟩, rfl, rfl⟩ ?_
 rintro j f ⟨hj, hjv⟩
 by_cases hjl : j < 11
 ·obtain ⟨w, hw⟩ : ∃ w, wordsB[j]? = some w := ⟨_, List.getElem?_eq_getElem (by omega)⟩
  rw [contains_drop _ _ _ _ hw] at hjv
  have hx : wordRow[j]? = some [.str w] := by unfold wordRow; rw [List.getElem?_map, hw]; rfl
  refine ⟨_, ltT (by rw [hrow]; omega), ?_⟩
  refine ⟨_, idxV (j := j) hx rfl rfl rfl rfl, ?_⟩
  rcases Bool.eq_false_or_eq_true (w.toList == s.toList) with he | he
  ·rw [he, Bool.true_or] at hjv
   refine ⟨_, strEqV he, ?_⟩
   exact Ret.mk _ rfl (congrArg (fun b : Bool => pB b) hjv) rfl
  ·rw [he, Bool.false_or] at hjv
   refine ⟨_, strEqV he, ?_⟩
   refine ⟨_, addV rfl (by omega) (by omega), ?_⟩
   exact ⟨j + 1, ⟨hjl, hjv⟩, by omega, ⟨rfl, rfl, rfl, trivial⟩, rfl, rfl⟩
 ·refine ⟨_, ltN (by rw [hrow]; omega), ?_⟩
  rw [List.drop_of_length_le (by omega)] at hjv
  exact Ret.mk _ rfl (congrArg (fun b : Bool => pB b) (show false = v from hjv)) rfl
theorem in_letter : ∀ c : UInt8, inB abcB c = letterB c := by
 have h : ∀ n : Nat, n < 256 → inB abcB (UInt8.ofNat n) = letterB (UInt8.ofNat n) := by decide +kernel
 intro c
 have := h c.toNat c.toNat_lt
 rwa [UInt8.ofNat_toNat] at this
theorem in_part : ∀ c : UInt8, inB abc9B c = (letterB c || digitB c) := by
 have h : ∀ n : Nat, n < 256 → inB abc9B (UInt8.ofNat n) = (letterB (UInt8.ofNat n) || digitB (UInt8.ofNat n)) := by decide +kernel
 intro c
 have := h c.toNat c.toNat_lt
 rwa [UInt8.ofNat_toNat] at this
theorem run_all (set : ByteArray) : ∀ l : List UInt8, decide (runB set l = l.length) = l.all (inB set)
 | [] => rfl
 | c :: l => by
  rw [List.all_cons, ← run_all set l, runB]
  rcases Bool.eq_false_or_eq_true (inB set c) with h | h
  ·rw [h, if_pos rfl, Bool.true_and]; exact decide_eq_decide.2 (by simp)
  ·rw [h, if_neg (by simp), Bool.false_and]; exact decide_eq_false (by simp)
theorem rName_ok (s : ByteArray) : Ok E 27 [] [pS s] (pB (isName s)) [] := by
 have hsz : s.data.toList.length = s.size := by simp
 have hw := rWord_ok s
 obtain ⟨v, hv⟩ : ∃ v, isName s = v := ⟨_, rfl⟩
 rw [hv]
 unfold isName at hv
 cases hl : s.data.toList with
 | nil =>
  rw [hl] at hv
  subst hv
  refine Ok.enter hE Tryz.func27 rfl (by decide +kernel) (by kernel_rfl) rfl rfl (Nat.le_of_ble_eq_true rfl) rfl ?_
  refine ⟨_, strEqV (c := true) (by rw [toList_data, toList_data, hl]; rfl), ?_⟩
  exact Ret.mk _ rfl rfl rfl
 | cons c l =>
  have hal := run_all abc9B (c :: l)
  rw [← hl] at hal
  rw [hl] at hv
  dsimp only at hv
  rw [← hl, ← hsz, hal, in_letter] at hv
  have h0 := rletter_ok c
  refine Ok.enter hE Tryz.func27 rfl (by decide +kernel) (by kernel_rfl) rfl rfl (Nat.le_of_ble_eq_true rfl) rfl ?_
  refine ⟨_, strEqV (c := false) (by rw [toList_data, toList_data, hl]; rfl), ?_⟩
  by_cases h12 : s.size ≤ 12
  rotate_left
  ·rw [hsz, decide_eq_false h12] at hv
   refine ⟨_, gtT (by omega), ?_⟩
   exact Ret.mk _ rfl (congrArg (fun b : Bool => pB b) (show false = v from hv)) rfl
  rw [hsz, decide_eq_true h12, Bool.true_and] at hv
  refine ⟨_, gtN (by omega), ?_⟩
  refine ⟨_, idxSV 0 c rfl rfl (by rw [hl]; rfl), ?_⟩
  rcases Bool.eq_false_or_eq_true (letterB c) with hin | hin
  rotate_left
  ·rw [hin] at hv h0
   refine ⟨_, CallR.mk1 h0 rfl rfl, ?_⟩
   exact Ret.mk _ rfl (congrArg (fun b : Bool => pB b) (show false = v from hv)) rfl
  rw [hin] at hv h0
  rw [Bool.true_and] at hv
  refine ⟨_, CallR.mk1 h0 rfl rfl, ?_⟩
  rcases Bool.eq_false_or_eq_true (Lib.containsS wordsB s) with hww | hww
  ·rw [hww] at hv hw
   rw [show (!true) = false from rfl, Bool.and_false] at hv
   refine ⟨_, CallR.mk1 hw rfl rfl, ?_⟩
   exact Ret.mk _ rfl (congrArg (fun b : Bool => pB b) hv) rfl
  rw [hww] at hv hw
  rw [show (!false) = true from rfl, Bool.and_true] at hv
  refine ⟨_, CallR.mk1 hw rfl rfl, ?_⟩
  refine Loop.run (α := Nat) (fun j => j ≤ s.size ∧ (s.data.toList.drop j).all (inB abc9B) = v) (fun j => [(0, pS s), (3, pI j)]) (fun _ => []) (fun _ => []) (fun j => s.size - j) 0 ⟨Nat.zero_le _, hv⟩ ⟨⟨rfl, rfl, trivial⟩, rfl, rfl⟩ ?_
  rintro j f ⟨hj, hjv⟩
  by_cases hjl : j < s.size
  ·obtain ⟨b, hb⟩ : ∃ b, s.data.toList[j]? = some b := ⟨_, List.getElem?_eq_getElem (by omega)⟩
   have hd : s.data.toList.drop j = b :: s.data.toList.drop (j + 1) := by
    rw [List.drop_eq_getElem_cons (by omega)]
    congr 1
    rw [List.getElem?_eq_getElem (by omega)] at hb
    exact Option.some.inj hb
   rw [hd, List.all_cons, in_part] at hjv
   have hA := rletter_ok b
   have hD := rdigit_ok b
   refine ⟨_, ltT (by omega), ?_⟩
   refine ⟨_, idxSV j b rfl rfl hb, ?_⟩
   rcases Bool.eq_false_or_eq_true (letterB b) with ha | ha
   ·rw [ha] at hjv hA
    rw [Bool.true_or, Bool.true_and] at hjv
    refine ⟨_, CallR.mk1 hA rfl rfl, ?_⟩
    refine ⟨_, addV rfl (by omega) (by omega), ?_⟩
    exact ⟨j + 1, ⟨hjl, hjv⟩, by omega, ⟨rfl, rfl, trivial⟩, rfl, rfl⟩
   ·rw [ha] at hjv hA
    rw [Bool.false_or] at hjv
    refine ⟨_, CallR.mk1 hA rfl rfl, ?_⟩
    refine ⟨_, idxSV j b rfl rfl hb, ?_⟩
    rcases Bool.eq_false_or_eq_true (digitB b) with hdg | hdg
    ·rw [hdg] at hjv hD
     rw [Bool.true_and] at hjv
     refine ⟨_, CallR.mk1 hD rfl rfl, ?_⟩
     refine ⟨_, addV rfl (by omega) (by omega), ?_⟩
     exact ⟨j + 1, ⟨hjl, hjv⟩, by omega, ⟨rfl, rfl, trivial⟩, rfl, rfl⟩
    ·rw [hdg] at hjv hD
     refine ⟨_, CallR.mk1 hD rfl rfl, ?_⟩
     exact Ret.mk _ rfl (congrArg (fun b : Bool => pB b) (show false = v from hjv)) rfl
  ·refine ⟨_, ltN (by omega), ?_⟩
   rw [List.drop_of_length_le (by omega)] at hjv
   exact Ret.mk _ rfl (congrArg (fun b : Bool => pB b) (show true = v from hjv)) rfl
end Go.Proofs.YtgpkppohfodhdaaGreatDoor.Lx
namespace Go.Proofs.YtgpkppohfodhdaaGreatDoor.Lx
open Go Go.RowKit Go.Proofs.YtgpkppohfodhdaaGreatDoor.Pm Go.Proofs.YtgpkppohfodhdaaGreatDoor.Pl
open Go.Proofs.YtgpkppohfodhdaaGreatDoor.L (wordsL wordsB)
set_option linter.unusedVariables false
set_option linter.unusedSimpArgs false
set_option maxHeartbeats 1000000
def e0 : ByteArray := ⟨#[]⟩
def pkN (c n : Int) : Nat := (pk c n).toNat
theorem pkN_eq {c n : Int} (hn : 0 < n) : pk c n = (pkN c n : Nat) ∧ (pkN c n : Int) < n := by
 obtain ⟨h0, h1⟩ := pk_rng (c := c) hn
 unfold pkN
 omega
theorem pickN_ok (c n : Int) (hc : I64 c) (hn : 0 < n) : Ok E 39 [] [pI c, pI n] (pI (pkN c n : Nat)) [] := by
 rw [← (pkN_eq hn).1]; exact pick_ok c n hc hn
theorem tmodN (k m : Nat) : (k : Int).tmod (m : Int) = ((k % m : Nat) : Int) := by rw [Int.tmod_eq_emod_of_nonneg (by omega)]; rfl
theorem tdivN (k m : Nat) : (k : Int).tdiv (m : Int) = ((k / m : Nat) : Int) := by rw [Int.tdiv_eq_ediv_of_nonneg (by omega)]; rfl
def nameBs : List ByteArray := [⟨#[97]⟩, ⟨#[98, 111, 98]⟩, ⟨#[108, 111, 119, 101, 115]⟩, ⟨#[97, 99, 109, 101, 57]⟩, ⟨#[120, 49]⟩, ⟨#[101, 108, 115, 101, 101]⟩]
def rowB (l : List ByteArray) : List (List CV) := l.map fun w => [.str w]
theorem rowB_get {l : List ByteArray} {j : Nat} (h : j < l.length) : (rowB l)[j]? = some [.str (l.getD j e0)] := by
 unfold rowB
 rw [List.getElem?_map, List.getElem?_eq_getElem h, List.getD_eq_getElem?_getD, List.getElem?_eq_getElem h]
 rfl
theorem sz_getD {l : List ByteArray} {m : Nat} (h : l.all (fun w => decide (w.size ≤ m)) = true) (j : Nat) : (l.getD j e0).size ≤ m := by
 rw [List.getD_eq_getElem?_getD]
 cases hj : l[j]? with
 | none => exact Nat.zero_le _
 | some w => exact of_decide_eq_true (List.all_eq_true.1 h w (List.mem_of_getElem? hj))
def sellerF (n : Int) : ByteArray := B ((nameBs.getD (pkN n 60 % 6) e0).data.toList ++ digs (pkN n 60 / 6))
theorem Seller_ok (n : Int) (hn : I64 n) : Ok E 23 [] [pI n] (pS (sellerF n)) [] := by
 have hP := pickN_ok n 60 hn (by decide)
 have hlt := (pkN_eq (c := n) (n := 60) (by decide)).2
 obtain ⟨r, hr⟩ : ∃ r, sellerF n = r := ⟨_, rfl⟩
 rw [hr]
 unfold sellerF at hr
 obtain ⟨k, hk⟩ : ∃ k, pkN n 60 = k := ⟨_, rfl⟩
 rw [hk] at hP hlt hr
 have hg := rowB_get (l := nameBs) (j := k % 6) (by show _ < 6; omega)
 have hz := sz_getD (l := nameBs) (m := 6) (by decide) (k % 6)
 have hd := digs_len (k / 6)
 obtain ⟨w, hw⟩ : ∃ w, nameBs.getD (k % 6) e0 = w := ⟨_, rfl⟩
 rw [hw] at hg hz hr
 have hD := decimal_ok (k / 6) (by omega)
 refine Ok.enter hE Tryz.func23 rfl (by decide +kernel) (by kernel_rfl) rfl rfl (Nat.le_of_ble_eq_true rfl) rfl ?_
 refine ⟨_, CallR.mk1 hP rfl rfl, ?_⟩
 refine ⟨_, ⟨_, rfl, rfl⟩, ?_⟩
 refine ⟨_, remV (by decide) (tmodN (k) 6), ?_⟩
 refine ⟨_, idxV (j := k % 6) hg rfl rfl rfl rfl, ?_⟩
 refine ⟨_, quoV (by decide) (tdivN k 6) (by omega) (by omega), ?_⟩
 refine ⟨_, CallR.mk1 hD rfl rfl, ?_⟩
 refine ⟨_, catL (s := r) hr.symm (by rw [B_size]; omega), ?_⟩
 exact Ret.mk _ rfl rfl rfl
end Go.Proofs.YtgpkppohfodhdaaGreatDoor.Lx
