/- Texts that are merged: PtA, PtB, PtC, PtD. -/
import Derived.Test.YtmfdkhnfjbgbhaaDoorPmBll
import Derived.Test.YtmfdkhnfjbgbhaaDoorQx0
import Derived.Test.YtmfdkhnfjbgbhaaDoorExtW
import Derived.Test.YtmfdkhnfjbgbhaaDoorExtS1
/- Trees of raw numbers, in the pure machine: numbers, names. -/
namespace Go.Proofs.YtmfdkhnfjbgbhaaDoor.Pm
open Go
set_option linter.unusedVariables false
set_option maxHeartbeats 400000
abbrev pI (n : Int) : PV := .c (.int .i64 n)
abbrev pB (b : Bool) : PV := .c (.bool b)
abbrev pS (s : ByteArray) : PV := .c (.str s)
def pk (c n : Int) : Int := if c < 0 then (-(c + 1)).tmod n else c.tmod n
theorem pk_rng {c n : Int} (hn : 0 < n) : 0 ≤ pk c n ∧ pk c n < n := by
  unfold pk
  split
  · rw [Int.tmod_eq_emod_of_nonneg (by omega)]
    exact ⟨Int.emod_nonneg _ (by omega), Int.emod_lt_of_pos _ hn⟩
  · rw [Int.tmod_eq_emod_of_nonneg (by omega)]
    exact ⟨Int.emod_nonneg _ (by omega), Int.emod_lt_of_pos _ hn⟩
/-- how many arguments a kind has -/
def argsOf (k : Int) : Int := if k = 1 ∨ k = 2 ∨ k = 3 ∨ k = 4 ∨ k = 11 then 0 else if k = 5 ∨ k = 6 then 1 else if k = 7 ∨ k = 8 ∨ k = 9 ∨ k = 12 then 2 else if k = 10 then 3 else -1
theorem Args_ok (k : Int) : Ok E 35 [] [pI k] (pI (argsOf k)) [] := by
  refine Ok.enter hE Tryd.func35 rfl (by decide +kernel) (by kernel_rfl) rfl rfl (Nat.le_of_ble_eq_true rfl) rfl ?_
  by_cases h1 : k = 1
  · subst h1; refine ⟨_, eqT rfl, ?_⟩; exact Ret.mk _ rfl rfl rfl
  refine ⟨_, eqN h1, ?_⟩
  by_cases h2 : k = 2
  · subst h2; refine ⟨_, eqT rfl, ?_⟩; exact Ret.mk _ rfl rfl rfl
  refine ⟨_, eqN h2, ?_⟩
  by_cases h3 : k = 3
  · subst h3; refine ⟨_, eqT rfl, ?_⟩; exact Ret.mk _ rfl rfl rfl
  refine ⟨_, eqN h3, ?_⟩
  by_cases h4 : k = 4
  · subst h4; refine ⟨_, eqT rfl, ?_⟩; exact Ret.mk _ rfl rfl rfl
  refine ⟨_, eqN h4, ?_⟩
  by_cases h11 : k = 11
  · subst h11; refine ⟨_, eqT rfl, ?_⟩; exact Ret.mk _ rfl rfl rfl
  refine ⟨_, eqN h11, ?_⟩
  by_cases h5 : k = 5
  · subst h5; refine ⟨_, eqT rfl, ?_⟩; exact Ret.mk _ rfl rfl rfl
  refine ⟨_, eqN h5, ?_⟩
  by_cases h6 : k = 6
  · subst h6; refine ⟨_, eqT rfl, ?_⟩; exact Ret.mk _ rfl rfl rfl
  refine ⟨_, eqN h6, ?_⟩
  by_cases h7 : k = 7
  · subst h7; refine ⟨_, eqT rfl, ?_⟩; exact Ret.mk _ rfl rfl rfl
  refine ⟨_, eqN h7, ?_⟩
  by_cases h8 : k = 8
  · subst h8; refine ⟨_, eqT rfl, ?_⟩; exact Ret.mk _ rfl rfl rfl
  refine ⟨_, eqN h8, ?_⟩
  by_cases h9 : k = 9
  · subst h9; refine ⟨_, eqT rfl, ?_⟩; exact Ret.mk _ rfl rfl rfl
  refine ⟨_, eqN h9, ?_⟩
  by_cases h12 : k = 12
  · subst h12; refine ⟨_, eqT rfl, ?_⟩; exact Ret.mk _ rfl rfl rfl
  refine ⟨_, eqN h12, ?_⟩
  by_cases h10 : k = 10
  · subst h10; refine ⟨_, eqT rfl, ?_⟩; exact Ret.mk _ rfl rfl rfl
  refine ⟨_, eqN h10, ?_⟩
  exact Ret.mk _ rfl (by show PV.c _ = _; simp [argsOf, *]) rfl
end Go.Proofs.YtmfdkhnfjbgbhaaDoor.Pm

/- Trees of raw numbers, in the pure machine: the trees. -/
namespace Go.Proofs.YtmfdkhnfjbgbhaaDoor.Pm
open Go
set_option linter.unusedVariables false
set_option maxHeartbeats 1000000
abbrev Ex := Go.Proofs.YtmfdkhnfjbgbhaaDoor.Q.S27
def encL : List Ex → List (List CV)
  | [] => []
  | ⟨k, n, nm, l⟩ :: r => [.int .i64 k, .int .i64 n, .str nm, .row (encL l)] :: encL r
@[reducible] def cellsE (x : Ex) : List CV := [.int .i64 x.f0, .int .i64 x.f1, .str x.f2, .row (encL x.f3)]
@[reducible] def pE (x : Ex) : PV := .agg (cellsE x)
theorem encL_map : ∀ l : List Ex, encL l = l.map cellsE
  | [] => by rw [encL]; rfl
  | ⟨k, n, nm, a⟩ :: r => by rw [encL, encL_map r]; rfl
def e0 : ByteArray := ⟨#[]⟩
def PL (L : List Int) : Prop := (∀ a ∈ L, I64 a) ∧ L.length ≤ 100
theorem PL.tail {L : List Int} (h : PL L) : PL L.tail := ⟨fun a ha => h.1 a (List.mem_of_mem_tail ha), by have := h.2; simp; omega⟩
theorem wkE (k n : Int) (nm : ByteArray) : Wk (.agg [.int .i64 k, .int .i64 n, .str nm, .nil]) (pE ⟨k, n, nm, []⟩) := Wk.aggC (by
  show WkC _ [_, _, _, .row (encL [])]
  rw [encL_map]
  exact .same (.same (.same (.row .nil))))
def cellA (l : List (List CV)) : Nat → PV
  | 0 => .c .nil
  | _ + 1 => .orow l 0
def tokA : Nat → List (Nat × Nat)
  | 0 => []
  | j + 1 => [(j + 1, 27)]
theorem cells_len (l : List Ex) : ∀ x ∈ l.map cellsE, x.length = 4 := by
  intro x hx
  obtain ⟨y, -, rfl⟩ := List.mem_map.1 hx
  rfl
end Go.Proofs.YtmfdkhnfjbgbhaaDoor.Pm

/- Trees in the pure machine: Strategy, Size, Deep, Same. -/
namespace Go.Proofs.YtmfdkhnfjbgbhaaDoor.Pm
open Go
set_option linter.unusedVariables false
set_option maxHeartbeats 400000
/-! ### counts -/
mutual
def size : Ex → Int
  | ⟨_, _, _, l⟩ => 1 + sizeL l
def sizeL : List Ex → Int
  | [] => 0
  | x :: l => size x + sizeL l
end
mutual
def deep : Ex → Int
  | ⟨_, _, _, l⟩ => 1 + deepL l
def deepL : List Ex → Int
  | [] => 0
  | x :: l => max (deep x) (deepL l)
end
mutual
theorem size_pos : ∀ x : Ex, 0 < size x
  | ⟨_, _, _, l⟩ => by rw [size]; have := sizeL_pos l; omega
theorem sizeL_pos : ∀ l : List Ex, 0 ≤ sizeL l
  | [] => by rw [sizeL]; omega
  | x :: l => by rw [sizeL]; have := size_pos x; have := sizeL_pos l; omega
end
theorem sizeL_append (l r : List Ex) : sizeL (l ++ r) = sizeL l + sizeL r := by
  induction l with
  | nil => rw [List.nil_append, sizeL]; omega
  | cons x l ih => rw [List.cons_append, sizeL, sizeL, ih]; omega
theorem take_snoc {l : List Ex} {j : Nat} {x : Ex} (h : l[j]? = some x) : l.take (j + 1) = l.take j ++ [x] := by rw [List.take_add_one, h]; rfl
theorem sizeL_take (l : List Ex) (j : Nat) (x : Ex) (h : l[j]? = some x) : sizeL (l.take (j + 1)) = sizeL (l.take j) + size x := by
  rw [take_snoc h, sizeL_append, sizeL, sizeL]; omega
theorem sizeL_le (l : List Ex) (j : Nat) : sizeL (l.take j) ≤ sizeL l := by
  have := sizeL_append (l.take j) (l.drop j)
  rw [List.take_append_drop] at this
  have := sizeL_pos (l.drop j)
  omega
theorem sizeL_len (l : List Ex) : (l.length : Int) ≤ sizeL l := by
  induction l with
  | nil => rw [sizeL]; simp
  | cons x l ih => rw [sizeL]; have := size_pos x; simp; omega
theorem enc_len (l : List Ex) : (encL l).length = l.length := by rw [encL_map, List.length_map]
theorem enc_get {l : List Ex} {j : Nat} {y : Ex} (hy : l[j]? = some y) : (encL l)[j]? = some (cellsE y) := by rw [encL_map, List.getElem?_map, hy]; rfl
end Go.Proofs.YtmfdkhnfjbgbhaaDoor.Pm

/- What was walked by hand, as contracts of the pure machine. -/
namespace Go.Proofs.YtmfdkhnfjbgbhaaDoor.Pm
open Go Go.RowKit Go.Proofs.YtmfdkhnfjbgbhaaDoorW.PrintWords Go.Proofs.YtmfdkhnfjbgbhaaDoorW.PrintLast Go.Proofs.YtmfdkhnfjbgbhaaDoorW.PrintMore
set_option linter.unusedVariables false
set_option maxHeartbeats 400000
theorem Mem.below {E : Env} (hE : EnvOK E) {w w' : World} {ok : Nat → Nat → Prop} (M : Mem E ⟨w, ok, []⟩ [] [] [] ok w) (hb : Below w.heap.size w w') : Mem E ⟨w, ok, []⟩ [] [] [] ok w' where
  inv := hE.stable w w' M.inv hb.size fun b h => hb.block b (Nat.lt_of_lt_of_le h (hE.glob w M.inv))
  os := hb.os
  tape := hb.tape
  output := hb.output
  size := hb.size
  frame := fun k hk _ => hb.block k hk
  okb := M.okb
  oks := fun b o h => Nat.lt_of_lt_of_le (M.oks b o h) hb.size
  len := rfl
  box := fun i b h => by simp at h
  inj := fun i j b h => by simp at h
  tok := fun t r h => by simp at h
  tinj := fun t u r s g h => by simp at h
  gb := M.gb
  tsz := fun t r i h => by simp at h
theorem Ok.ofBelow {E : Env} (hE : EnvOK E) {f : FuncId} {args : List PV} {r : PV} (hc : Callable E.P f) (h : ∀ (w : World) (ok : Nat → Nat → Prop) (vals : Array Value), E.I w → RepL (Rep w ok [] []) vals.toList args → ∃ v : Value, (∀ w', Rep w' ok [] [] v r) ∧ Calls E.P f vals w fun e w' => e = .returned v ∧ Below w.heap.size w w') : Ok E f [] args r [] := by
  refine ⟨hc, fun w ok ms vals M hr => ?_⟩
  have hm : ms = [] := by have := M.len; simpa using this
  subst hm
  obtain ⟨v, hv, hcall⟩ := h w ok vals M.inv hr
  refine hcall.mono ?_
  rintro e w' ⟨rfl, hb⟩
  exact ⟨v, ok, rfl, M.below hE hb, fun _ _ h => h, hv w'⟩
section
variable {w : World} {ok : Nat → Nat → Prop}
end
theorem one_str {w : World} {ok : Nat → Nat → Prop} {vals : Array Value} {s : ByteArray} (h : RepL (Rep w ok [] []) vals.toList [pS s]) : vals = #[.string s] := by
  apply Array.ext'
  match hv : vals.toList, h with
  | [v], h => rw [h.head.str_inv]
theorem Word_ok (s : ByteArray) : Ok E 40 [] [pS s] (pB (Lib.containsS Q.wordsB s)) [] := by
  refine Ok.ofBelow hE ⟨_, Tryd.func40, by decide +kernel, by kernel_rfl⟩ fun w ok vals hI hr => ?_
  refine ⟨.bool (Lib.containsS Q.wordsB s), fun _ => .mkBool _, ?_⟩
  obtain rfl := one_str hr
  exact Q.lex_Word.calls s _ w rfl
def formP (k : Int) : ByteArray × Int × Int × Bool := match Q.formT k with
  | some (w, m, a) => (⟨w.toArray⟩, m, a, true)
  | none => (⟨#[]⟩, 0, 0, false)
theorem Form_ok (k : Int) : Ok E 30 [] [pI k] (.tup [pS (formP k).1, pI (formP k).2.1, pI (formP k).2.2.1, pB (formP k).2.2.2]) [] := by
  refine Ok.ofBelow hE ⟨_, Tryd.func30, by decide +kernel, by kernel_rfl⟩ fun w ok vals hI hv => ?_
  refine ⟨.tuple #[.string (formP k).1, .int .i64 (formP k).2.1, .int .i64 (formP k).2.2.1, .bool (formP k).2.2.2], fun w' => .tup _ _ rfl fun i v d hv hd => ?_, ?_⟩
  · match i with
    | 0 => simp at hv hd; subst hv; subst hd; exact .mkStr _
    | 1 => simp at hv hd; subst hv; subst hd; exact .mkInt _ _
    | 2 => simp at hv hd; subst hv; subst hd; exact .mkInt _ _
    | 3 => simp at hv hd; subst hv; subst hd; exact .mkBool _
    | n + 4 => simp at hv
  · match hvl : vals.toList, hv with
    | [v], hv =>
      have hvals : vals = #[.int .i64 k] := by apply Array.ext'; rw [hvl, hv.head.int_inv]
      subst hvals
      refine Q.tree_Form.calls k _ _ _ _ w ?_
      unfold Q.tree_Form.f formP
      cases Q.formT k with
      | none => rfl
      | some p => rfl
theorem IndexByte_ok (s : ByteArray) (b : Int) : Ok E 47 [] [pS s, .c (.int .u8 b)] (pI (Lib.indexByte s.data.toList b.toNat.toUInt8)) [] := by
  refine Ok.ofBelow hE ⟨_, Tryd.func47, by decide +kernel, by kernel_rfl⟩ fun w ok vals hI hv => ?_
  refine ⟨.int .i64 (Lib.indexByte s.data.toList b.toNat.toUInt8), fun _ => .mkInt _ _, ?_⟩
  match hvl : vals.toList, hv with
  | [v, u], hv =>
    have hvals : vals = #[.string s, .int .u8 b] := by apply Array.ext'; rw [hvl, hv.head.str_inv, hv.tail.head.int_inv]
    subst hvals
    refine (Q.strings_IndexByte.calls s b _ w rfl).mono ?_
    rintro e w' ⟨rfl, hd⟩
    exact ⟨rfl, hd.below⟩
end Go.Proofs.YtmfdkhnfjbgbhaaDoor.Pm
