/- Texts that are merged: LxA, LxE, LxB, LxM. -/
import Derived.Test.YtlhplknmcdllfaaDoorPmBll
import Derived.Test.YtlhplknmcdllfaaDoorPlDec
import Derived.Test.YtlhplknmcdllfaaDoorWMore
import Derived.Test.YtlhplknmcdllfaaDoorWLast
import Derived.Test.YtlhplknmcdllfaaDoorWWords
import Derived.Test.YtlhplknmcdllfaaDoorShelf
import Derived.WalkSmall
import Derived.Lib.LaidTab
import Derived.Laws.RangeAny
import Derived.Laws.RangeString
import Derived.Lib.AppendIntMem
import Derived.Lib.AtoiErrMem
/- Layers 2 and 6 in the pure machine: words for use, what the law's own numbers come to, layer 2 as the document has it. -/
namespace Go.Proofs.YtlhplknmcdllfaaDoor.Lx
open Go Go.RowKit Go.Proofs.YtlhplknmcdllfaaDoor.Pm Go.Proofs.YtlhplknmcdllfaaDoor.Pl
set_option linter.unusedVariables false
set_option maxHeartbeats 1000000
abbrev pI (n : Int) : PV := .c (.int .i64 n)
abbrev pB (b : Bool) : PV := .c (.bool b)
abbrev pS (s : ByteArray) : PV := .c (.str s)
/-- a row of numbers -/
def encN (l : List Int) : List (List CV) := l.map fun n => [.int .i64 n]
def pk (c n : Int) : Int := if c < 0 then (-(c + 1)).tmod n else c.tmod n
theorem pk_rng {c n : Int} (hn : 0 < n) : 0 ≤ pk c n ∧ pk c n < n := by
  unfold pk
  split
  · rw [Int.tmod_eq_emod_of_nonneg (by omega)]
    exact ⟨Int.emod_nonneg _ (by omega), Int.emod_lt_of_pos _ hn⟩
  · rw [Int.tmod_eq_emod_of_nonneg (by omega)]
    exact ⟨Int.emod_nonneg _ (by omega), Int.emod_lt_of_pos _ hn⟩
theorem pick_ok (c n : Int) (hc : I64 c) (hn : 0 < n) : Ok E 22 [] [pI c, pI n] (pI (pk c n)) [] := by
  obtain ⟨h0, h1⟩ := hc
  refine Ok.enter hE Tryd.func22 rfl (by decide +kernel) (by kernel_rfl) rfl rfl (Nat.le_of_ble_eq_true rfl) rfl ?_
  by_cases hneg : c < 0
  · refine ⟨_, ltT hneg, ?_⟩
    refine ⟨_, addV rfl (by omega) (by omega), ?_⟩
    refine ⟨_, negV rfl (by omega) (by omega), ?_⟩
    refine ⟨_, remV (by omega) rfl, ?_⟩
    exact Ret.mk _ rfl (by show PV.c _ = _; rw [pk, if_pos hneg]) rfl
  · refine ⟨_, ltN hneg, ?_⟩
    refine ⟨_, remV (by omega) rfl, ?_⟩
    exact Ret.mk _ rfl (by show PV.c _ = _; rw [pk, if_neg hneg]) rfl
theorem _root_.Go.Proofs.YtlhplknmcdllfaaDoor.Pm.Mem.below {E : Env} (hE : EnvOK E) {w w' : World} {ok : Nat → Nat → Prop} (M : Mem E ⟨w, ok, [], []⟩ [] [] [] ok w) (hb : Below w.heap.size w w') : Mem E ⟨w, ok, [], []⟩ [] [] [] ok w' where
  inv := hE.stable w w' M.inv hb.size fun b h => hb.block b (Nat.lt_of_lt_of_le h (hE.glob w M.inv))
  os := hb.os
  tape := hb.tape
  output := hb.output
  size := hb.size
  frame := fun k hk _ _ => hb.block k hk
  okb := M.okb
  oks := fun b o h => Nat.lt_of_lt_of_le (M.oks b o h) hb.size
  len := rfl
  box := fun i b h => by simp at h
  inj := fun i j b h => by simp at h
  tok := fun t r h => by simp at h
  tinj := fun t u r s g h => by simp at h
  gb := M.gb
  tsz := fun t r i h => by simp at h
  stk := .nil
theorem _root_.Go.Proofs.YtlhplknmcdllfaaDoor.Pm.Ok.ofBelow {E : Env} (hE : EnvOK E) {f : FuncId} {args : List PV} {r : PV} (hc : Callable E.P f) (h : ∀ (w : World) (ok : Nat → Nat → Prop) (vals : Array Value), E.I w → RepL (Rep w ok [] []) vals.toList args → ∃ v : Value, (∀ w', Rep w' ok [] [] v r) ∧ Calls E.P f vals w fun e w' => e = .returned v ∧ Below w.heap.size w w') : Ok E f [] args r [] := by
  refine ⟨hc, fun w ok ms gs vals hst M hr => ?_⟩
  have hm : ms = [] := by have := M.len; simpa using this
  subst hm
  obtain rfl : gs = [] := hst rfl
  obtain ⟨v, hv, hcall⟩ := h w ok vals M.inv hr
  refine hcall.mono ?_
  rintro e w' ⟨rfl, hb⟩
  exact ⟨v, ok, rfl, M.below hE hb, fun _ _ h => h, hv w'⟩
theorem ba_get (s : ByteArray) (j : Nat) : s[j]? = s.data.toList[j]? := by
  by_cases h : j < s.size
  · have h' : j < s.data.toList.length := by simpa using h
    rw [getElem?_pos s j h, List.getElem?_eq_getElem h']
    rfl
  · rw [getElem?_neg s j h, List.getElem?_eq_none (by simpa using h)]
theorem idxSV {E : Env} {t sz bb : Nat} {zz : List CV} {s : ByteArray} {n : Int} {k : IntKind} (j : Nat) (b : UInt8) (h1 : E.T t = some ⟨.str, sz, zz, bb⟩) (hn : n = (j : Int)) (hb : s.data.toList[j]? = some b) : IdxR E t (pS s) (.c (.int k n)) (.c (.int .u8 b.toNat)) where
  h := by
    subst hn
    unfold indexF
    rw [h1]
    show byteAtF _ _ = _
    unfold byteAtF
    rw [decide_eq_true (Int.natCast_nonneg j)]
    show (match s[(j : Int).toNat]? with
      | some b => some (PV.c (.int .u8 b.toNat))
      | none => none) = _
    rw [Int.toNat_natCast, ba_get, hb]
theorem toList_data (s : ByteArray) : s.toList = s.data.toList := Lib.toList_data s
theorem neBT {E : Env} {c d : Bool} {t sz bb : Nat} {zz : List CV} (h : (!(c == d)) = true) (hT : E.T t = some ⟨.bool, sz, zz, bb⟩ := by rfl) : BinR E t .neq (pB c) (pB d) (pB true) := .of (by
  rw [hT]; cases c <;> cases d <;> simp at h <;> rfl)
theorem neBN {E : Env} {c d : Bool} {t sz bb : Nat} {zz : List CV} (h : (c == d) = true) (hT : E.T t = some ⟨.bool, sz, zz, bb⟩ := by rfl) : BinR E t .neq (pB c) (pB d) (pB false) := .of (by
  rw [hT]; cases c <;> cases d <;> simp at h <;> rfl)
theorem catL {E : Env} {ti : Nat} {x y : ByteArray} {s : ByteArray} (h : s = B (x.data.toList ++ y.data.toList)) (hb : x.size + y.size ≤ 9223372036854775807) : BinR E ti .add (.c (.str x)) (.c (.str y)) (.c (.str s)) := catV (by
  rw [h, ← B_append, B_toList', B_toList']) hb
/-! ### layer 2 -/
theorem digs_len (n : Nat) : (digs n).length ≤ 20 := by
  have hp : ∀ (f k : Nat), (digF f k).length ≤ f := by
    intro f
    induction f with
    | zero => intro k; simp [digF]
    | succ f ih =>
      intro k
      rw [digF]
      split
      · simp
      · have := ih (k / 10); simp; omega
  exact hp 20 n
theorem decimal_ok (n : Nat) (hn : n ≤ 9223372036854775807) : Ok E 23 [] [pI n] (pS (B (digs n))) [] := by
  have hd := digs_rec n (by omega)
  have IH : ¬ n < 10 → Ok E 23 [] [pI (n / 10 : Nat)] (pS (B (digs (n / 10)))) [] := fun h => decimal_ok (n / 10) (by omega)
  have hl := digs_len (n / 10)
  have e1 : ((n : Int)).tmod 10 = ((n % 10 : Nat) : Int) := by rw [Int.tmod_eq_emod_of_nonneg (by omega)]; omega
  have e2 : ((n : Int)).tdiv 10 = ((n / 10 : Nat) : Int) := by rw [Int.tdiv_eq_ediv_of_nonneg (by omega)]; omega
  have e3 : UInt8.ofNat (48 + ((n % 10 : Nat) : Int)).toNat = dig n := by
    unfold dig
    congr 1
  refine Ok.enter hE Tryd.func23 rfl (by decide +kernel) (by kernel_rfl) rfl rfl (Nat.le_of_ble_eq_true rfl) rfl ?_
  refine ⟨_, remV (by omega) e1, ?_⟩
  refine ⟨_, addV rfl (by omega) (by omega), ?_⟩
  refine ⟨_, convV (z := 48 + ((n % 10 : Nat) : Int)) rfl rfl (by simp [IntKind.wrap, IntKind.bits, IntKind.signed]; omega), ?_⟩
  refine ⟨_, ⟨_, rfl, rfl⟩, ?_⟩
  refine ⟨_, convBV (l := [dig n]) rfl rfl rfl (by
    show bytesF [[CV.int .u8 (48 + ((n % 10 : Nat) : Int))]] = _
    rw [bytesF, decide_eq_true (by omega)]
    show some [UInt8.ofNat (48 + ((n % 10 : Nat) : Int)).toNat] = _
    rw [e3]), ?_⟩
  by_cases h : n < 10
  · refine ⟨_, geN (by omega), ?_⟩
    rw [if_pos h] at hd
    exact Ret.mk _ rfl (by show PV.c (.str (B [dig n])) = _; rw [hd]) rfl
  · rw [if_neg h] at hd
    refine ⟨_, geT (by omega), ?_⟩
    refine ⟨_, quoV (by omega) e2 (by omega) (by omega), ?_⟩
    refine ⟨_, CallR.mk1 (IH h) rfl rfl, ?_⟩
    refine ⟨_, catV (s := B (digs n)) (by rw [hd]; exact B_append _ _) (by rw [B_size]; show _ + 1 ≤ _; omega), ?_⟩
    exact Ret.mk _ rfl rfl rfl
termination_by n
decreasing_by omega
end Go.Proofs.YtlhplknmcdllfaaDoor.Lx

/- Library functions, and functions that range over texts: contracts, by hand. -/
namespace Go.Proofs.YtlhplknmcdllfaaDoor.L
open Go.RowKit Go.Proofs.YtlhplknmcdllfaaDoorW.PrintWords Go.Proofs.YtlhplknmcdllfaaDoorW.PrintLast Go.Proofs.YtlhplknmcdllfaaDoorW.PrintMore
set_option linter.unusedVariables false
set_option linter.unusedSimpArgs false
attribute [local go_sem] max2_int min2_int max_two min_two max_three min_three max_four min_four

/-- What the library's variables hold, and that they are old. -/
structure LaidW (w : World) : Prop where
  tab : Lib.TabIs Tryd.prog w "internal/strconv.uint64pow10" .u64 Lib.pow10Tab
  synt : ∃ tp p, w.var? Tryd.prog "strconv.ErrSyntax" = some #[.iface tp p]
  rang : ∃ tp p, w.var? Tryd.prog "strconv.ErrRange" = some #[.iface tp p]

theorem var_old {w w' : World} {n : String} {cs : Array Value} (hb : Below w.heap.size w w') (hv : w.var? Tryd.prog n = some cs) : w'.var? Tryd.prog n = some cs := by
  unfold World.var? at hv ⊢
  rcases hg : Tryd.prog.globalNamed n with _ | g
  · rw [hg] at hv
    simp at hv
  · rw [hg] at hv
    simp only [Option.bind_some] at hv ⊢
    rcases Nat.lt_or_ge g w.heap.size with hlt | hge
    · rw [hb.block g hlt]
      exact hv
    · rw [Array.getElem?_eq_none hge] at hv
      simp at hv
theorem LaidW.below {w w' : World} (h : LaidW w) (hb : Below w.heap.size w w') : LaidW w' := by
  obtain ⟨h1, ⟨t2, p2, h2⟩, ⟨t3, p3, h3⟩⟩ := h
  exact ⟨var_old hb h1, ⟨t2, p2, var_old hb h2⟩, ⟨t3, p3, var_old hb h3⟩⟩

/-! ### strconv.Itoa -/
def strconv_Itoa.f (a0 : Int) : Option (ByteArray) := if -9223372036854775808 ≤ a0 ∧ a0 ≤ 9223372036854775807 then some (Pl.B (Pl.intL a0)) else none
theorem strconv_Itoa.calls (a0 : Int) (r : ByteArray) (w : World) (hLd : LaidW w) (h : strconv_Itoa.f a0 = some r) :
    Calls Tryd.prog 82 #[.int .i64 a0] w fun e w' => e = .returned (.string r) ∧ Below w.heap.size w w' := by
  unfold strconv_Itoa.f at h
  by_cases hc : -9223372036854775808 ≤ a0 ∧ a0 ≤ 9223372036854775807
  · rw [if_pos hc] at h
    obtain rfl := Option.some.inj h
    refine (Tryd.strconv_Itoa a0 hc.1 hc.2 w hLd.tab).mono ?_
    rintro e w' ⟨rfl, k, os, rfl⟩
    refine ⟨?_, ?_⟩
    · rw [Pl.intL_eq a0 hc.1 hc.2]; rfl
    · exact Lib.below_grow _ _ (Nat.le_refl _) _ _
  · rw [if_neg hc] at h
    exact absurd h (by simp)

/-! ### strings.TrimPrefix; strings.Cut at one byte, of whatever length the text is -/
def strings_TrimPrefix.f (a0 : ByteArray) (a1 : ByteArray) : Option (ByteArray) := some (Pl.B (Lib.trimPrefix a0.data.toList a1.data.toList))
def strings_Cut.f (a0 : ByteArray) (a1 : ByteArray) : Option (ByteArray × ByteArray × Bool) :=
  if a1.size = 1 ∧ a0.size ≤ 281474976710656 then some (Pl.B (Lib.cut a0.data.toList a1.data.toList).1, Pl.B (Lib.cut a0.data.toList a1.data.toList).2.1, (Lib.cut a0.data.toList a1.data.toList).2.2) else none
/-! ### dec.all: a range over a string -/
def dec_all.f (a0 : ByteArray) : Option (Bool) := some (Pl.allL a0.data.toList)
/-! ### dec.Count -/
def dec_Count.f (a0 : ByteArray) (a1 : Int) : Option (Int) := if a0.size ≤ 281474976710656 ∧ -9223372036854775808 ≤ a1 ∧ a1 ≤ 9223372036854775807 then some (Pl.countL a0.data.toList a1) else none
/-! ### words -/
def wordsL : List (List UInt8) := [[108, 111, 119, 101, 115, 116], [115, 101, 99, 111, 110, 100], [102, 114, 111, 109], [108, 101, 115, 115], [99, 117, 116], [109, 105, 110], [109, 97, 120], [101, 108, 115, 101], [105, 102], [109, 111, 114, 101], [97, 98, 111, 118, 101]]
def strings_IndexByte.f (a0 : ByteArray) (a1 : Int) : Option (Int) := some (Lib.indexByte a0.data.toList a1.toNat.toUInt8)
theorem strings_IndexByte.calls (a0 : ByteArray) (a1 : Int) (r : Int) (w : World) (h : strings_IndexByte.f a0 a1 = some r) :
    Calls Tryd.prog 61 #[.string a0, .int .u8 a1] w fun e w' => e = .returned (.int .i64 r) ∧ Drawn0 w w' := by
  obtain rfl := Option.some.inj h
  refine (Tryd.strings_IndexByte a0 a1 w).mono ?_
  rintro e w' ⟨rfl, rfl⟩
  exact ⟨rfl, Drawn0.refl _⟩

def wordsB : List ByteArray := wordsL.map fun l => ⟨l.toArray⟩
theorem words_at (w : World) : ∀ j, j < wordsB.length → (w.alloc (.cells #[.string ⟨#[108, 111, 119, 101, 115, 116]⟩, .string ⟨#[115, 101, 99, 111, 110, 100]⟩, .string ⟨#[102, 114, 111, 109]⟩, .string ⟨#[108, 101, 115, 115]⟩, .string ⟨#[99, 117, 116]⟩, .string ⟨#[109, 105, 110]⟩, .string ⟨#[109, 97, 120]⟩, .string ⟨#[101, 108, 115, 101]⟩, .string ⟨#[105, 102]⟩, .string ⟨#[109, 111, 114, 101]⟩, .string ⟨#[97, 98, 111, 118, 101]⟩] 9)).cell? ⟨w.heap.size, 0 + j, none⟩ = some (.string (wordsB.getD j ByteArray.empty)) := by
  intro j hj
  have hl : wordsB.length = 11 := rfl
  have : j = 0 ∨ j = 1 ∨ j = 2 ∨ j = 3 ∨ j = 4 ∨ j = 5 ∨ j = 6 ∨ j = 7 ∨ j = 8 ∨ j = 9 ∨ j = 10 := by omega
  rcases this with rfl | rfl | rfl | rfl | rfl | rfl | rfl | rfl | rfl | rfl | rfl
  all_goals exact (blk_cell (blk_new w _) _).trans rfl
def lex_Word.f (a0 : ByteArray) : Option (Bool) := some (Lib.containsS wordsB a0)
set_option maxHeartbeats 1000000 in
set_option maxRecDepth 100000 in
theorem lex_Word.calls (a0 : ByteArray) (r : Bool) (w : World) (h : lex_Word.f a0 = some r) :
    Calls Tryd.prog 46 #[.string a0] w fun e w' => e = .returned (.bool r) ∧ Below w.heap.size w w' := by
  obtain rfl := Option.some.inj h
  clear h
  go_enter Tryd.func46, Tryd.ntmps46
  go_wp2_with (go_at_call 62; go_loud (refine (Tryd.slices_Contains_string w.heap.size 0 11 11 wordsB a0 _ (by decide) (by decide) ?hc).mono ?_; (case hc => exact words_at w); rintro e w1 ⟨rfl, rfl⟩))
  go_ret
  exact ⟨rfl, below_alloc (Below.refl _ _) _⟩

end Go.Proofs.YtlhplknmcdllfaaDoor.L

/- Layer 6, and what it needs of layer 2, in the pure machine. -/
namespace Go.Proofs.YtlhplknmcdllfaaDoor.Lx
open Go Go.RowKit Go.Proofs.YtlhplknmcdllfaaDoor.Pm Go.Proofs.YtlhplknmcdllfaaDoor.Pl
open Go.Proofs.YtlhplknmcdllfaaDoor.L (wordsL wordsB)
set_option linter.unusedVariables false
set_option maxHeartbeats 1000000
theorem one_str {w : World} {ok : Nat → Nat → Prop} {vals : Array Value} {s : ByteArray} (h : RepL (Rep w ok [] []) vals.toList [pS s]) : vals = #[.string s] := by
  apply Array.ext'
  match hv : vals.toList, h with
  | [v], h => rw [h.head.str_inv]
theorem Word_ok (s : ByteArray) : Ok E 46 [] [pS s] (pB (Lib.containsS wordsB s)) [] := by
  refine Ok.ofBelow hE ⟨_, Tryd.func46, by decide +kernel, by kernel_rfl⟩ fun w ok vals hI hr => ?_
  refine ⟨.bool (Lib.containsS wordsB s), fun _ => .mkBool _, ?_⟩
  obtain rfl := one_str hr
  exact L.lex_Word.calls s _ w rfl
theorem IndexByte_ok (s : ByteArray) (b : Int) : Ok E 61 [] [pS s, .c (.int .u8 b)] (pI (Lib.indexByte s.data.toList b.toNat.toUInt8)) [] := by
  refine Ok.ofBelow hE ⟨_, Tryd.func61, by decide +kernel, by kernel_rfl⟩ fun w ok vals hI hv => ?_
  refine ⟨.int .i64 (Lib.indexByte s.data.toList b.toNat.toUInt8), fun _ => .mkInt _ _, ?_⟩
  match hvl : vals.toList, hv with
  | [v, u], hv =>
    have hvals : vals = #[.string s, .int .u8 b] := by apply Array.ext'; rw [hvl, hv.head.str_inv, hv.tail.head.int_inv]
    subst hvals
    refine (L.strings_IndexByte.calls s b _ w rfl).mono ?_
    rintro e w' ⟨rfl, hd⟩
    exact ⟨rfl, hd.below⟩
def inB (set : ByteArray) (c : UInt8) : Bool := decide (Lib.indexByte set.data.toList c ≥ 0)
theorem in_ok (set : ByteArray) (c : UInt8) : Ok E 44 [] [.c (.int .u8 c.toNat), pS set] (pB (inB set c)) [] := by
  have h := IndexByte_ok set c.toNat
  have e : ((c.toNat : Int).toNat.toUInt8) = c := by simp
  rw [e] at h
  refine Ok.enter hE Tryd.func44 rfl (by decide +kernel) (by kernel_rfl) rfl rfl (Nat.le_of_ble_eq_true rfl) rfl ?_
  refine ⟨_, CallR.mk1 h rfl rfl, ?_⟩
  refine ⟨_, geV (c := inB set c) rfl, ?_⟩
  exact Ret.mk _ rfl rfl rfl
def runB (set : ByteArray) : List UInt8 → Nat
  | [] => 0
  | c :: l => if inB set c then runB set l + 1 else 0
theorem run_ok (s set : ByteArray) (hs : s.size ≤ 4611686018427387904) : Ok E 45 [] [pS s, pS set] (pI (runB set s.data.toList)) [] := by
  have hsz : s.data.toList.length = s.size := by simp
  refine Ok.enter hE Tryd.func45 rfl (by decide +kernel) (by kernel_rfl) rfl rfl (Nat.le_of_ble_eq_true rfl) rfl ?_
  refine Loop.run (α := Nat) (fun j => j ≤ s.size ∧ runB set s.data.toList = j + runB set (s.data.toList.drop j)) (fun j => [(0, pS s), (1, pS set), (7, pI s.size), (8, pI j)]) (fun _ => []) (fun _ => []) (fun j => s.size - j) 0 ⟨Nat.zero_le _, by simp⟩ ⟨⟨rfl, rfl, rfl, rfl, trivial⟩, rfl, rfl⟩ ?_
  rintro j f ⟨hj, hr⟩
  by_cases hjl : j < s.size
  · refine ⟨_, ltT (by omega), ?_⟩
    obtain ⟨b, hb⟩ : ∃ b, s.data.toList[j]? = some b := ⟨_, List.getElem?_eq_getElem (by omega)⟩
    have hd : s.data.toList.drop j = b :: s.data.toList.drop (j + 1) := by
      rw [List.drop_eq_getElem_cons (by omega)]
      congr 1
      rw [List.getElem?_eq_getElem (by omega)] at hb
      exact Option.some.inj hb
    rw [hd, runB] at hr
    refine ⟨_, idxSV j b rfl rfl hb, ?_⟩
    have hI := in_ok set b
    rcases Bool.eq_false_or_eq_true (inB set b) with hin | hin
    · rw [hin] at hI
      rw [if_pos hin] at hr
      refine ⟨_, CallR.mk1 hI rfl rfl, ?_⟩
      refine ⟨_, addV rfl (by omega) (by omega), ?_⟩
      exact ⟨j + 1, ⟨hjl, by omega⟩, by omega, ⟨rfl, rfl, rfl, rfl, trivial⟩, rfl, rfl⟩
    · rw [hin] at hI
      rw [if_neg (by rw [hin]; simp)] at hr
      refine ⟨_, CallR.mk1 hI rfl rfl, ?_⟩
      have hv : j = runB set s.data.toList := by omega
      exact Ret.mk _ rfl (congrArg (fun n : Nat => pI n) hv) rfl
  · refine ⟨_, ltN (by omega), ?_⟩
    have hv : s.size = runB set s.data.toList := by
      rw [hr, List.drop_of_length_le (by omega), runB]; omega
    exact Ret.mk _ rfl (congrArg (fun n : Nat => pI n) hv) rfl
def abcB : ByteArray := ⟨#[97, 98, 99, 100, 101, 102, 103, 104, 105, 106, 107, 108, 109, 110, 111, 112, 113, 114, 115, 116, 117, 118, 119, 120, 121, 122]⟩
def abc9B : ByteArray := ⟨#[97, 98, 99, 100, 101, 102, 103, 104, 105, 106, 107, 108, 109, 110, 111, 112, 113, 114, 115, 116, 117, 118, 119, 120, 121, 122, 48, 49, 50, 51, 52, 53, 54, 55, 56, 57]⟩
def isName (s : ByteArray) : Bool := match s.data.toList with
  | [] => false
  | c :: l => decide (s.size ≤ 12) && (inB abcB c && (decide (runB abc9B (c :: l) = s.size) && !(Lib.containsS wordsB s)))
theorem Name_ok (s : ByteArray) : Ok E 26 [] [pS s] (pB (isName s)) [] := by
  have hsz : s.data.toList.length = s.size := by simp
  have hw := Word_ok s
  obtain ⟨v, hv⟩ : ∃ v, isName s = v := ⟨_, rfl⟩
  rw [hv]
  unfold isName at hv
  cases hl : s.data.toList with
  | nil =>
    rw [hl] at hv
    subst hv
    refine Ok.enter hE Tryd.func26 rfl (by decide +kernel) (by kernel_rfl) rfl rfl (Nat.le_of_ble_eq_true rfl) rfl ?_
    refine ⟨_, strNeV (c := false) (by rw [toList_data, toList_data, hl]; rfl), ?_⟩
    exact Ret.mk _ rfl rfl rfl
  | cons c l =>
    rw [hl] at hv
    dsimp only at hv
    refine Ok.enter hE Tryd.func26 rfl (by decide +kernel) (by kernel_rfl) rfl rfl (Nat.le_of_ble_eq_true rfl) rfl ?_
    refine ⟨_, strNeV (c := true) (by rw [toList_data, toList_data, hl]; rfl), ?_⟩
    by_cases h12 : s.size ≤ 12
    · rw [decide_eq_true h12, Bool.true_and] at hv
      refine ⟨_, leT (by omega), ?_⟩
      refine ⟨_, idxSV 0 c rfl rfl (by rw [hl]; rfl), ?_⟩
      have hI := in_ok abcB c
      rcases Bool.eq_false_or_eq_true (inB abcB c) with hin | hin
      · rw [hin] at hv hI
        rw [Bool.true_and] at hv
        refine ⟨_, CallR.mk1 hI rfl rfl, ?_⟩
        have hrun := run_ok s abc9B (by omega)
        rw [hl] at hrun
        refine ⟨_, CallR.mk1 hrun rfl rfl, ?_⟩
        by_cases hrn : runB abc9B (c :: l) = s.size
        · rw [decide_eq_true hrn, Bool.true_and] at hv
          refine ⟨_, eqT (by omega), ?_⟩
          refine ⟨_, CallR.mk1 hw rfl rfl, ?_⟩
          exact Ret.mk _ rfl (congrArg (fun b : Bool => pB b) hv) rfl
        · rw [decide_eq_false hrn] at hv; subst hv
          refine ⟨_, eqN (by omega), ?_⟩
          exact Ret.mk _ rfl rfl rfl
      · rw [hin] at hv hI
        subst hv
        refine ⟨_, CallR.mk1 hI rfl rfl, ?_⟩
        exact Ret.mk _ rfl rfl rfl
    · rw [decide_eq_false h12] at hv; subst hv
      refine ⟨_, leN (by omega), ?_⟩
      exact Ret.mk _ rfl rfl rfl
/-! ### layer 6 -/
end Go.Proofs.YtlhplknmcdllfaaDoor.Lx

/- The laws' helpers of layer 6, in the pure machine: Seller, Piece, awake. -/
namespace Go.Proofs.YtlhplknmcdllfaaDoor.Lx
open Go Go.RowKit Go.Proofs.YtlhplknmcdllfaaDoor.Pm Go.Proofs.YtlhplknmcdllfaaDoor.Pl
open Go.Proofs.YtlhplknmcdllfaaDoor.L (wordsL wordsB)
set_option linter.unusedVariables false
set_option maxHeartbeats 1000000
def e0 : ByteArray := ⟨#[]⟩
def pkN (c n : Int) : Nat := (pk c n).toNat
theorem pkN_eq {c n : Int} (hn : 0 < n) : pk c n = (pkN c n : Nat) ∧ (pkN c n : Int) < n := by
  obtain ⟨h0, h1⟩ := pk_rng (c := c) hn
  unfold pkN
  omega
theorem pickN_ok (c n : Int) (hc : I64 c) (hn : 0 < n) : Ok E 22 [] [pI c, pI n] (pI (pkN c n : Nat)) [] := by
  rw [← (pkN_eq hn).1]; exact pick_ok c n hc hn
theorem tmodN (k m : Nat) : (k : Int).tmod (m : Int) = ((k % m : Nat) : Int) := by rw [Int.tmod_eq_emod_of_nonneg (by omega)]; rfl
theorem tdivN (k m : Nat) : (k : Int).tdiv (m : Int) = ((k / m : Nat) : Int) := by rw [Int.tdiv_eq_ediv_of_nonneg (by omega)]; rfl
def nameBs : List ByteArray := [⟨#[97]⟩, ⟨#[98, 111, 98]⟩, ⟨#[108, 111, 119, 101, 115]⟩, ⟨#[97, 99, 109, 101, 57]⟩, ⟨#[120, 49]⟩, ⟨#[101, 108, 115, 101, 101]⟩]
def rowB (l : List ByteArray) : List (List CV) := l.map fun w => [.str w]
theorem rowB_get {l : List ByteArray} {j : Nat} (h : j < l.length) : (rowB l)[j]? = some [.str (l.getD j e0)] := by
  unfold rowB
  rw [List.getElem?_map, List.getElem?_eq_getElem h, List.getD_eq_getElem?_getD, List.getElem?_eq_getElem h]
  rfl
theorem sz_getD {l : List ByteArray} {m : Nat} (h : l.all (fun w => decide (w.size ≤ m)) = true) (j : Nat) : (l.getD j e0).size ≤ m := by
  rw [List.getD_eq_getElem?_getD]
  cases hj : l[j]? with
  | none => exact Nat.zero_le _
  | some w => exact of_decide_eq_true (List.all_eq_true.1 h w (List.mem_of_getElem? hj))
def sellerF (n : Int) : ByteArray := B ((nameBs.getD (pkN n 60 % 6) e0).data.toList ++ digs (pkN n 60 / 6))
theorem Seller_ok (n : Int) (hn : I64 n) : Ok E 13 [] [pI n] (pS (sellerF n)) [] := by
  have hP := pickN_ok n 60 hn (by decide)
  have hlt := (pkN_eq (c := n) (n := 60) (by decide)).2
  obtain ⟨r, hr⟩ : ∃ r, sellerF n = r := ⟨_, rfl⟩
  rw [hr]
  unfold sellerF at hr
  obtain ⟨k, hk⟩ : ∃ k, pkN n 60 = k := ⟨_, rfl⟩
  rw [hk] at hP hlt hr
  have hg := rowB_get (l := nameBs) (j := k % 6) (by show _ < 6; omega)
  have hz := sz_getD (l := nameBs) (m := 6) (by decide) (k % 6)
  have hd := digs_len (k / 6)
  obtain ⟨w, hw⟩ : ∃ w, nameBs.getD (k % 6) e0 = w := ⟨_, rfl⟩
  rw [hw] at hg hz hr
  have hD := decimal_ok (k / 6) (by omega)
  refine Ok.enter hE Tryd.func13 rfl (by decide +kernel) (by kernel_rfl) rfl rfl (Nat.le_of_ble_eq_true rfl) rfl ?_
  refine ⟨_, CallR.mk1 hP rfl rfl, ?_⟩
  refine ⟨_, ⟨_, rfl, rfl⟩, ?_⟩
  refine ⟨_, remV (by decide) (tmodN (k) 6), ?_⟩
  refine ⟨_, idxV (j := k % 6) hg rfl rfl rfl rfl, ?_⟩
  refine ⟨_, quoV (by decide) (tdivN k 6) (by omega) (by omega), ?_⟩
  refine ⟨_, CallR.mk1 hD rfl rfl, ?_⟩
  refine ⟨_, catL (s := r) hr.symm (by rw [B_size]; omega), ?_⟩
  exact Ret.mk _ rfl rfl rfl
end Go.Proofs.YtlhplknmcdllfaaDoor.Lx
