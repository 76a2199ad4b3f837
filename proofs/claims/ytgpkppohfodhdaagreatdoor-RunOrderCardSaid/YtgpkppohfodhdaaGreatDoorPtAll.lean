import Derived.Test.YtgpkppohfodhdaaGreatDoorPmBll
import Derived.Test.YtgpkppohfodhdaaGreatDoorQx0
import Derived.Test.YtgpkppohfodhdaaGreatDoorExtW
import Derived.Test.YtgpkppohfodhdaaGreatDoorExtS1
namespace Go.Proofs.YtgpkppohfodhdaaGreatDoor.Pm
open Go
set_option linter.unusedVariables false
set_option maxHeartbeats 400000
abbrev pI (n : Int) : PV := .c (.int .i64 n)
abbrev pB (b : Bool) : PV := .c (.bool b)
abbrev pS (s : ByteArray) : PV := .c (.str s)
def encN (l : List Int) : List (List CV) := l.map fun n => [.int .i64 n]
def pk (c n : Int) : Int := if c < 0 then (-(c + 1)).tmod n else c.tmod n
theorem pk_rng {c n : Int} (hn : 0 < n) : 0 ≤ pk c n ∧ pk c n < n := by
 unfold pk
 split
 ·rw [Int.tmod_eq_emod_of_nonneg (by omega)]
  exact ⟨Int.emod_nonneg _ (by omega), Int.emod_lt_of_pos _ hn⟩
 ·rw [Int.tmod_eq_emod_of_nonneg (by omega)]
  exact ⟨Int.emod_nonneg _ (by omega), Int.emod_lt_of_pos _ hn⟩
def argsOf (k : Int) : Int := if k = 1 ∨ k = 2 ∨ k = 3 ∨ k = 4 ∨ k = 11 then 0 else if k = 5 ∨ k = 6 then 1 else if k = 7 ∨ k = 8 ∨ k = 9 ∨ k = 12 then 2 else if k = 10 then 3 else -1
theorem Args_ok (k : Int) : Ok E 48 [] [pI k] (pI (argsOf k)) [] := by
 refine Ok.enter hE Tryz.func48 rfl (by decide +kernel) (by kernel_rfl) rfl rfl (Nat.le_of_ble_eq_true rfl) rfl ?_
 by_cases h1 : k = 1
 ·subst h1; refine ⟨_, eqT rfl, ?_⟩; exact Ret.mk _ rfl rfl rfl
 refine ⟨_, eqN h1, ?_⟩
 by_cases h2 : k = 2
 ·subst h2; refine ⟨_, eqT rfl, ?_⟩; exact Ret.mk _ rfl rfl rfl
 refine ⟨_, eqN h2, ?_⟩
 by_cases h3 : k = 3
 ·subst h3; refine ⟨_, eqT rfl, ?_⟩; exact Ret.mk _ rfl rfl rfl
 refine ⟨_, eqN h3, ?_⟩
 by_cases h4 : k = 4
 ·subst h4; refine ⟨_, eqT rfl, ?_⟩; exact Ret.mk _ rfl rfl rfl
 refine ⟨_, eqN h4, ?_⟩
 by_cases h11 : k = 11
 ·subst h11; refine ⟨_, eqT rfl, ?_⟩; exact Ret.mk _ rfl rfl rfl
 refine ⟨_, eqN h11, ?_⟩
 by_cases h5 : k = 5
 ·subst h5; refine ⟨_, eqT rfl, ?_⟩; exact Ret.mk _ rfl rfl rfl
 refine ⟨_, eqN h5, ?_⟩
 by_cases h6 : k = 6
 ·subst h6; refine ⟨_, eqT rfl, ?_⟩; exact Ret.mk _ rfl rfl rfl
 refine ⟨_, eqN h6, ?_⟩
 by_cases h7 : k = 7
 ·subst h7; refine ⟨_, eqT rfl, ?_⟩; exact Ret.mk _ rfl rfl rfl
 refine ⟨_, eqN h7, ?_⟩
 by_cases h8 : k = 8
 ·subst h8; refine ⟨_, eqT rfl, ?_⟩; exact Ret.mk _ rfl rfl rfl
 refine ⟨_, eqN h8, ?_⟩
 by_cases h9 : k = 9
 ·subst h9; refine ⟨_, eqT rfl, ?_⟩; exact Ret.mk _ rfl rfl rfl
 refine ⟨_, eqN h9, ?_⟩
 by_cases h12 : k = 12
 ·subst h12; refine ⟨_, eqT rfl, ?_⟩; exact Ret.mk _ rfl rfl rfl
 refine ⟨_, eqN h12, ?_⟩
 by_cases h10 : k = 10
 ·subst h10; refine ⟨_, eqT rfl, ?_⟩; exact Ret.mk _ rfl rfl rfl
 refine ⟨_, eqN h10, ?_⟩
 exact Ret.mk _ rfl (by show PV.c _ = _; simp [argsOf, *]) rfl
end Go.Proofs.YtgpkppohfodhdaaGreatDoor.Pm
namespace Go.Proofs.YtgpkppohfodhdaaGreatDoor.Pm
open Go
set_option linter.unusedVariables false
set_option maxHeartbeats 1000000
abbrev Ex := Go.Proofs.YtgpkppohfodhdaaGreatDoor.Q.S45
def encL : List Ex → List (List CV)
 | [] => []
 | ⟨k, n, nm, l⟩ :: r => [.int .i64 k, .int .i64 n, .str nm, .row (encL l)] :: encL r
@[reducible] def cellsE (x : Ex) : List CV := [.int .i64 x.f0, .int .i64 x.f1, .str x.f2, .row (encL x.f3)]
@[reducible] def pE (x : Ex) : PV := .agg (cellsE x)
theorem encL_map : ∀ l : List Ex, encL l = l.map cellsE
 | [] => by rw [encL]; rfl
 | ⟨k, n, nm, a⟩ :: r => by rw [encL, encL_map r]; rfl
def e0 : ByteArray := ⟨#[]⟩
end Go.Proofs.YtgpkppohfodhdaaGreatDoor.Pm
namespace Go.Proofs.YtgpkppohfodhdaaGreatDoor.Pm
open Go
set_option linter.unusedVariables false
set_option maxHeartbeats 400000
mutual
def size : Ex → Int
 | ⟨_, _, _, l⟩ => 1 + sizeL l
def sizeL : List Ex → Int
 | [] => 0
 | x :: l => size x + sizeL l
end
mutual
def deep : Ex → Int
 | ⟨_, _, _, l⟩ => 1 + deepL l
def deepL : List Ex → Int
 | [] => 0
 | x :: l => max (deep x) (deepL l)
end
mutual
theorem size_pos : ∀ x : Ex, 0 < size x
 | ⟨_, _, _, l⟩ => by rw [size]; have := sizeL_pos l; omega
theorem sizeL_pos : ∀ l : List Ex, 0 ≤ sizeL l
 | [] => by rw [sizeL]; omega
 | x :: l => by rw [sizeL]; have := size_pos x; have := sizeL_pos l; omega
end
theorem sizeL_append (l r : List Ex) : sizeL (l ++ r) = sizeL l + sizeL r := by
 induction l with
 | nil => rw [List.nil_append, sizeL]; omega
 | cons x l ih => rw [List.cons_append, sizeL, sizeL, ih]; omega
theorem take_snoc {l : List Ex} {j : Nat} {x : Ex} (h : l[j]? = some x) : l.take (j + 1) = l.take j ++ [x] := by rw [List.take_add_one, h]; rfl
theorem sizeL_take (l : List Ex) (j : Nat) (x : Ex) (h : l[j]? = some x) : sizeL (l.take (j + 1)) = sizeL (l.take j) + size x := by
 rw [take_snoc h, sizeL_append, sizeL, sizeL]; omega
theorem sizeL_le (l : List Ex) (j : Nat) : sizeL (l.take j) ≤ sizeL l := by
 have := sizeL_append (l.take j) (l.drop j)
 rw [List.take_append_drop] at this
 have := sizeL_pos (l.drop j)
 omega
theorem sizeL_len (l : List Ex) : (l.length : Int) ≤ sizeL l := by
 induction l with
 | nil => rw [sizeL]; simp
 | cons x l ih => rw [sizeL]; have := size_pos x; simp; omega
theorem enc_len (l : List Ex) : (encL l).length = l.length := by rw [encL_map, List.length_map]
theorem enc_get {l : List Ex} {j : Nat} {y : Ex} (hy : l[j]? = some y) : (encL l)[j]? = some (cellsE y) := by rw [encL_map, List.getElem?_map, hy]; rfl
theorem Size_ok : ∀ (x : Ex), size x ≤ 9223372036854775807 → Ok E 50 [] [pE x] (pI (size x)) []
 | ⟨k, n, nm, l⟩, h => by
  have h' : 1 + sizeL l ≤ 9223372036854775807 := by rw [size] at h; exact h
  have hll := sizeL_len l
  have hel := enc_len l
  refine Ok.enter hE Tryz.func50 rfl (by decide +kernel) (by kernel_rfl) rfl rfl (Nat.le_of_ble_eq_true rfl) rfl ?_
  refine Loop.cut (α := Nat) (fun j => j ≤ l.length) (fun j => [(1, .ptr 0 0), (3, pI (1 + sizeL (l.take j))), (7, .c (.row (encL l))), (8, pI (encL l).length), (9, pI j)]) (fun j => [(cellsE ⟨k, n, nm, l⟩).map .c]) (fun _ => []) (fun j => l.length - j) 0 1 (fun _ => rfl) (fun _ => rfl) (fun _ => rfl) (Nat.zero_le _) ⟨⟨rfl, ?_, rfl, rfl, rfl, trivial⟩, rfl, rfl⟩ ?_
  ·show PV.c _ = _; rw [List.take_zero, sizeL]; rfl
  intro j f hj
  by_cases hjl : j < l.length
  ·obtain ⟨y, hy⟩ : ∃ y, l[j]? = some y := ⟨_, List.getElem?_eq_getElem hjl⟩
   have hst := sizeL_take l j y hy
   have hle := sizeL_le l (j + 1)
   have hp := sizeL_pos (l.take j)
   have hpy := size_pos y
   refine ⟨_, ltT (by omega), ?_⟩
   refine ⟨_, idxV (j := j) (enc_get hy) rfl rfl rfl rfl, ?_⟩
   refine ⟨_, CallR.mk1 (Size_ok y (by omega)) rfl rfl, ?_⟩
   refine ⟨_, addV (z := 1 + sizeL (l.take (j + 1))) (by omega) (by omega) (by omega), ?_⟩
   refine ⟨_, addV rfl (by omega) (by omega), ?_⟩
   exact ⟨j + 1, hjl, by omega, ⟨rfl, rfl, rfl, rfl, rfl, trivial⟩, ⟨_, rfl⟩, rfl⟩
  ·refine ⟨_, ltN (by omega), ?_⟩
   have : j = l.length := by omega
   exact Ret.mk _ rfl (by show PV.c _ = _; rw [this, List.take_length, size]) rfl
termination_by x => SizeOf.sizeOf x
decreasing_by
 have := List.sizeOf_lt_of_mem (List.mem_of_getElem? hy)
 simp only [Go.Proofs.YtgpkppohfodhdaaGreatDoor.Q.S45.mk.sizeOf_spec]
 omega
end Go.Proofs.YtgpkppohfodhdaaGreatDoor.Pm
namespace Go.Proofs.YtgpkppohfodhdaaGreatDoor.Pm
open Go Go.RowKit Go.Proofs.YtgpkppohfodhdaaGreatDoorW.PrintWords Go.Proofs.YtgpkppohfodhdaaGreatDoorW.PrintLast Go.Proofs.YtgpkppohfodhdaaGreatDoorW.PrintMore
set_option linter.unusedVariables false
set_option maxHeartbeats 400000
theorem Mem.below {E : Env} (hE : EnvOK E) {w w' : World} {ok : Nat → Nat → Prop} (M : Mem E ⟨w, ok, [], []⟩ [] [] [] ok w) (hb : Below w.heap.size w w') : Mem E ⟨w, ok, [], []⟩ [] [] [] ok w' where
 inv := hE.stable w w' M.inv hb.size fun b h => hb.block b (Nat.lt_of_lt_of_le h (hE.glob w M.inv))
 os := hb.os
 tape := hb.tape
 output := hb.output
 size := hb.size
 frame := fun k hk _ _ => hb.block k hk
 okb := M.okb
 oks := fun b o h => Nat.lt_of_lt_of_le (M.oks b o h) hb.size
 len := rfl
 box := fun i b h => by simp at h
 inj := fun i j b h => by simp at h
 tok := fun t r h => by simp at h
 tinj := fun t u r s g h => by simp at h
 gb := M.gb
 tsz := fun t r i h => by simp at h
 stk := .nil
theorem Ok.ofBelow {E : Env} (hE : EnvOK E) {f : FuncId} {args : List PV} {r : PV} (hc : Callable E.P f) (h : ∀ (w : World) (ok : Nat → Nat → Prop) (vals : Array Value), E.I w → RepL (Rep w ok [] []) vals.toList args → ∃ v : Value, (∀ w', Rep w' ok [] [] v r) ∧ Calls E.P f vals w fun e w' => e = .returned v ∧ Below w.heap.size w w') : Ok E f [] args r [] := by
 refine ⟨hc, fun w ok ms gs vals hst M hr => ?_⟩
 have hm : ms = [] := by have := M.len; simpa using this
 subst hm
 obtain rfl : gs = [] := hst rfl
 obtain ⟨v, hv, hcall⟩ := h w ok vals M.inv hr
 refine hcall.mono ?_
 rintro e w' ⟨rfl, hb⟩
 exact ⟨v, ok, rfl, M.below hE hb, fun _ _ h => h, hv w'⟩
section
variable {w : World} {ok : Nat → Nat → Prop}
theorem RepC.row_inv {v : Value} {xs : List (List CV)} (h : RepC w ok v (.row xs)) : ∃ A cap, v = .slice A xs.length cap ∧ xs.length ≤ cap := by
 cases h with
 | row A len cap xs sz vs hl hcap hnil hpos hsz hA hr => subst hl; exact ⟨A, cap, rfl, hcap⟩
theorem ok_C : ∀ (s : Nat) (l : List Ex), SizeOf.sizeOf l < s → ∀ A cap, l.length ≤ 9223372036854775807 → Q.rngA l = true → RepC w ok (.slice A l.length cap) (.row (encL l)) → Kd.C Q.k45 w A l.length l := by
 intro s
 induction s with
 | zero => intro l h; omega
 | succ s ih =>
  intro l hs A cap hl hrng h
  obtain ⟨n', xs', hn', hxs', h'⟩ : ∃ n xs, n = l.length ∧ xs = encL l ∧ RepC w ok (.slice A n cap) (.row xs) := ⟨_, _, rfl, rfl, h⟩
  cases h' with
  | row _ len _ xs sz vs hlen hcap hnil hpos hsz hA hr =>
   subst hxs'
   refine ⟨rfl, hl, fun hp => ?_⟩
   have hsz4 : ∀ (j : Nat) (x : Ex), l[j]? = some x → sz = 4 := fun j x hj => by
    have := hsz (cellsE x) (List.mem_of_getElem? (enc_get hj))
    exact this.symm
   have hs4 : sz = 4 := by
    obtain ⟨x, hx⟩ : ∃ x, l[0]? = some x := ⟨_, List.getElem?_eq_getElem hp⟩
    exact hsz4 0 x hx
   subst hs4
   obtain ⟨ad, hAd, -, -⟩ := hA 0 (by omega)
   refine ⟨ad, hAd, fun j x hj => ?_⟩
   have hjl := (List.getElem?_eq_some_iff.1 hj).1
   have hc := hr j (cellsE x) 
   have h3 := hc 3 _ (enc_get hj) rfl
   obtain ⟨A3, c3, hv3, hc3⟩ := h3.row_inv
   rw [enc_len] at hv3 hc3
   have h0 := hc 0 _ (enc_get hj) rfl
   have h1 := hc 1 _ (enc_get hj) rfl
   have h2 := hc 2 _ (enc_get hj) rfl
   have hmem := List.mem_of_getElem? hj
   have hso := List.sizeOf_lt_of_mem hmem
   have hrx := Q.rngA_mem l hrng x hmem
   have hl3 : x.f3.length < 4611686018427387904 ∧ Q.rngA x.f3 = true := by
    obtain ⟨k, n, nm, l3⟩ := x
    rw [Q.rngE, Bool.and_eq_true] at hrx
    exact ⟨(of_decide_eq_true hrx.1).2, hrx.2⟩
   rw [hv3] at h3
   have hk := Q.k45_mk w x hc3 (ih x.f3 (by
    obtain ⟨k, n, nm, l3⟩ := x
    rw [Q.S45.mk.sizeOf_spec] at hso
    show SizeOf.sizeOf l3 < s
    omega) A3 c3 (by omega) hl3.2 h3)
   refine ⟨_, rfl, hk, fun i u hu => ?_⟩
   have hlt : i < 4 := by have := (List.getElem?_eq_some_iff.1 hu).1; simpa using this
   obtain ⟨ad', hAd', -, hcell⟩ := hA (j * 4 + i) (by omega)
   rw [hAd] at hAd'
   injection hAd' with hAd'
   subst hAd'
   show w.cell? (ad.add (j * 4 + i)) = some u
   rw [hcell]
   have hi : i = 0 ∨ i = 1 ∨ i = 2 ∨ i = 3 := by omega
   rcases hi with rfl | rfl | rfl | rfl
   ·simp at hu; subst hu
    generalize vs (j * 4 + 0) = y at h0; cases h0; rfl
   ·simp at hu; subst hu
    generalize vs (j * 4 + 1) = y at h1; cases h1; rfl
   ·simp at hu; subst hu
    generalize vs (j * 4 + 2) = y at h2; cases h2; rfl
   ·simp at hu; subst hu
    rw [hv3]
end
theorem one_str {w : World} {ok : Nat → Nat → Prop} {vals : Array Value} {s : ByteArray} (h : RepL (Rep w ok [] []) vals.toList [pS s]) : vals = #[.string s] := by
 apply Array.ext'
 match hv : vals.toList, h with
 | [v], h => rw [h.head.str_inv]
theorem Word_ok (s : ByteArray) : Ok E 102 [] [pS s] (pB (Lib.containsS Q.wordsB s)) [] := by
 refine Ok.ofBelow hE ⟨_, Tryz.func102, by decide +kernel, by kernel_rfl⟩ fun w ok vals hI hr => ?_
 refine ⟨.bool (Lib.containsS Q.wordsB s), fun _ => .mkBool _, ?_⟩
 obtain rfl := one_str hr
 exact Q.lex_Word.calls s _ w rfl
theorem agg_inv {w : World} {ok : Nat → Nat → Prop} {v : Value} {x : Ex} (h : Rep w ok [] [] v (pE x)) : ∃ A c, v = .agg #[.int .i64 x.f0, .int .i64 x.f1, .string x.f2, .slice A x.f3.length c] ∧ x.f3.length ≤ c ∧ RepC w ok (.slice A x.f3.length c) (.row (encL x.f3)) := by
 cases h with
 | agg cs _ h =>
  obtain ⟨hl, hg⟩ := h
  have hl : cs.toList.length = 4 := hl
  match hv : cs.toList, hl with
  | [a, b, c, d], _ =>
   rw [hv] at hg
   have h0 := hg 0 _ _ rfl rfl
   have h1 := hg 1 _ _ rfl rfl
   have h2 := hg 2 _ _ rfl rfl
   have h3 := hg 3 _ _ rfl rfl
   obtain ⟨A, cap, rfl, hc⟩ := h3.row_inv
   rw [enc_len] at h3 hc
   refine ⟨A, cap, ?_, hc, h3⟩
   congr 1
   apply Array.ext'
   rw [hv]
   cases h0; cases h1; cases h2
   rw [enc_len]
theorem rng_len {x : Ex} (h : Q.rngE x = true) : x.f3.length ≤ 9223372036854775807 ∧ Q.rngA x.f3 = true := by
 obtain ⟨k, n, nm, l⟩ := x
 rw [Q.rngE, Bool.and_eq_true] at h
 have := (of_decide_eq_true h.1).2
 exact ⟨by show l.length ≤ _; omega, h.2⟩
theorem text_ok (x : Ex) (hr : Q.rngE x = true) (hne : Q.txtE x ≠ []) (hl : (Q.txtE x).length ≤ 70368744177664) : Ok E 51 [] [pE x] (pS (Pl.B (Q.txtE x))) [] := by
 refine Ok.ofBelow hE ⟨_, Tryz.func51, by decide +kernel, by kernel_rfl⟩ fun w ok vals hI hv => ?_
 refine ⟨.string (Pl.B (Q.txtE x)), fun _ => .mkStr _, ?_⟩
 match hvl : vals.toList, hv with
 | [v], hv =>
  obtain ⟨A, c, rfl, hc, hR⟩ := agg_inv hv.head
  obtain ⟨g1, g2⟩ := rng_len hr
  have hvals : vals = #[.agg #[.int .i64 x.f0, .int .i64 x.f1, .string x.f2, .slice A x.f3.length c]] := by apply Array.ext'; rw [hvl]
  subst hvals
  obtain ⟨k, n, nm, l⟩ := x
  exact Q.tree_text.calls k n nm A c l _ w (ok_C _ _ (Nat.lt_succ_self _) A c g1 g2 hR) hc ⟨hI.tab⟩ (by unfold Q.tree_text.f; exact if_pos ⟨hr, hne, hl⟩)
def formP (k : Int) : ByteArray × Int × Int × Bool := match Q.formT k with
 | some (w, m, a) => (⟨w.toArray⟩, m, a, true)
 | none => (⟨#[]⟩, 0, 0, false)
theorem Form_ok (k : Int) : Ok E 94 [] [pI k] (.tup [pS (formP k).1, pI (formP k).2.1, pI (formP k).2.2.1, pB (formP k).2.2.2]) [] := by
 refine Ok.ofBelow hE ⟨_, Tryz.func94, by decide +kernel, by kernel_rfl⟩ fun w ok vals hI hv => ?_
 refine ⟨.tuple #[.string (formP k).1, .int .i64 (formP k).2.1, .int .i64 (formP k).2.2.1, .bool (formP k).2.2.2], fun w' => .tup _ _ rfl fun i v d hv hd => ?_, ?_⟩
 ·match i with
  | 0 => simp at hv hd; subst hv; subst hd; exact .mkStr _
  | 1 => simp at hv hd; subst hv; subst hd; exact .mkInt _ _
  | 2 => simp at hv hd; subst hv; subst hd; exact .mkInt _ _
  | 3 => simp at hv hd; subst hv; subst hd; exact .mkBool _
  | n + 4 => simp at hv
 ·match hvl : vals.toList, hv with
  | [v], hv =>
   have hvals : vals = #[.int .i64 k] := by apply Array.ext'; rw [hvl, hv.head.int_inv]
   subst hvals
   refine Q.tree_Form.calls k _ _ _ _ w ?_
   unfold Q.tree_Form.f formP
   cases Q.formT k with
   | none => rfl
   | some p => rfl
theorem IndexByte_ok (s : ByteArray) (b : Int) : Ok E 134 [] [pS s, .c (.int .u8 b)] (pI (Lib.indexByte s.data.toList b.toNat.toUInt8)) [] := by
 refine Ok.ofBelow hE ⟨_, Tryz.func134, by decide +kernel, by kernel_rfl⟩ fun w ok vals hI hv => ?_
 refine ⟨.int .i64 (Lib.indexByte s.data.toList b.toNat.toUInt8), fun _ => .mkInt _ _, ?_⟩
 match hvl : vals.toList, hv with
 | [v, u], hv =>
  have hvals : vals = #[.string s, .int .u8 b] := by apply Array.ext'; rw [hvl, hv.head.str_inv, hv.tail.head.int_inv]
  subst hvals
  refine (Q.strings_IndexByte.calls s b _ w rfl).mono ?_
  rintro e w' ⟨rfl, hd⟩
  exact ⟨rfl, hd.below⟩
end Go.Proofs.YtgpkppohfodhdaaGreatDoor.Pm
