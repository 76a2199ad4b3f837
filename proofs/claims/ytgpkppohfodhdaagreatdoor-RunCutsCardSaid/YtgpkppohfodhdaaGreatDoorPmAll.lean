import Derived.Orders
import Derived.Below
import Derived.Laws.Cells
import Derived.Laws.Tables
import Derived.Laws.CopyRow
import Derived.Laws.Entries
import Derived.Laws.IdiomStrings
import Derived.Maps.AppendAt
import Derived.Laws.AppendOwnNone
import Derived.ArgAppend
import Derived.Laws.StructEq
namespace Go.Proofs.YtgpkppohfodhdaaGreatDoor.Pm
open Go Go.RowKit
set_option linter.unusedVariables false
set_option linter.unusedSimpArgs false
inductive CV where
 | int (k : IntKind) (n : Int)
 | bool (b : Bool)
 | str (s : ByteArray)
 | nil
 | row (xs : List (List CV))
 | fn (f : FuncId)
 | mp (es : Array MapEntry) (ck : Nat)
 | lit (v : Value)
inductive AV where
 | p (i off : Nat)
 | c (v : CV)
 | a (cs : List CV)
inductive PV where
 | c (v : CV)
 | agg (cs : List CV)
 | tup (vs : List PV)
 | orow (xs : List (List CV)) (k : Nat)
 | ptr (i off : Nat)
 | iptr (cs : List CV)
 | clos (f : FuncId) (fs cs : List AV)
 | ifc (t : Nat) (cs : List CV)
 | nif
 | full (xs : List (List CV))
 | brow (i n : Nat)
 | stk (e : Nat) (xs : List (List CV))
 | fresh (t : Nat)
 | mclo (fs : List (Int × FuncId)) (i : Nat)
 | undef
instance : Inhabited PV := ⟨.undef⟩
@[reducible] def PV.int (k : IntKind) (n : Int) : PV := .c (.int k n)
@[reducible] def PV.bool (b : Bool) : PV := .c (.bool b)
@[reducible] def PV.str (s : ByteArray) : PV := .c (.str s)
def AV.pv : AV → PV
 | .p i o => .ptr i o
 | .c v => .c v
 | .a cs => .agg cs
def PV.toC : PV → Option CV
 | .c v => some v
 | .orow xs _ => some (.row xs)
 | _ => none
def PV.closed : PV → Bool
 | .c _ | .agg _ | .ifc _ _ | .nif => true
 | .tup vs => vs.all fun
  | .c _ | .agg _ => true
  | _ => false
 | _ => false
def PV.closedB : PV → Bool
 | .stk _ _ | .undef => true
 | p => p.closed
def PV.isStk : PV → Bool
 | .stk _ _ | .fresh _ => true
 | _ => false
def PV.cells : PV → Option (List PV)
 | .c v => some [.c v]
 | .orow xs k => some [.orow xs k]
 | .ptr i o => some [.ptr i o]
 | .clos f fs cs => some [.clos f fs cs]
 | .agg cs => some (cs.map .c)
 | _ => none
structure TokR where
 A : Option Addr
 len : Nat
 cap : Nat
 sz : Nat
 e : TypeId
inductive RepC (w : World) (ok : Nat → Nat → Prop) : Value → CV → Prop
 | int (k : IntKind) (n : Int) : RepC w ok (.int k n) (.int k n)
 | bool (b : Bool) : RepC w ok (.bool b) (.bool b)
 | str (s : ByteArray) : RepC w ok (.string s) (.str s)
 | nil : RepC w ok (.slice none 0 0) .nil
 | fn (f : FuncId) : RepC w ok (.func (.func f) #[] #[]) (.fn f)
 | lit (v : Value) (h : v.oneCell' = true) (h2 : v.cells = #[v]) : RepC w ok v (.lit v)
 | mp (b : Nat) (es : Array MapEntry) (ck : Nat) (hk : ok b 0) (hh : w.heap[b]? = some (.map es ck)) : RepC w ok (.map (some b)) (.mp es ck)
 | row (A : Option Addr) (len cap : Nat) (xs : List (List CV)) (sz : Nat) (vs : Nat → Value) (hl : len = xs.length) (hcap : len ≤ cap) (hnil : A = none → cap = 0) (hpos : 0 < sz) (hsz : ∀ x ∈ xs, x.length = sz)
   (hA : ∀ i : Nat, i < len * sz → ∃ a, A = some a ∧ ok a.block (a.off + i) ∧ w.cell? (a.add i) = some (vs i))
   (h : ∀ (i : Nat) (x : List CV) (j : Nat) (c : CV), xs[i]? = some x → x[j]? = some c → RepC w ok (vs (i * sz + j)) c) : RepC w ok (.slice A len cap) (.row xs)
theorem add_plain' {w : World} {a : Addr} {i : Nat} {v : Value} (h : w.cell? (a.add i) = some v) : a.add i = ⟨a.block, a.off + i, none⟩ := by
 obtain ⟨b, o, s⟩ := a
 unfold Addr.add at h ⊢
 by_cases hi : i = 0
 ·subst hi
  simp at h ⊢
  unfold World.cell? at h
  cases s with
  | none => rfl
  | some _ => dsimp only at h; split at h <;> simp at h
 ·simp [hi]
structure Stay (w : World) (ok : Nat → Nat → Prop) (w' : World) (ok' : Nat → Nat → Prop) : Prop where
 cell : ∀ b o, ok b o → ∀ v : Value, w.cell? ⟨b, o, none⟩ = some v → w'.cell? ⟨b, o, none⟩ = some v
 mp : ∀ b o, ok b o → ∀ (es : Array MapEntry) (ck : Nat), w.heap[b]? = some (.map es ck) → w'.heap[b]? = some (.map es ck)
 ok : ∀ b o, ok b o → ok' b o
theorem Stay.refl (w : World) (ok : Nat → Nat → Prop) : Stay w ok w ok := ⟨fun _ _ _ _ h => h, fun _ _ _ _ _ h => h, fun _ _ h => h⟩
theorem Stay.cell_add {w : World} {ok : Nat → Nat → Prop} {w' : World} {ok' : Nat → Nat → Prop} (L : Stay w ok w' ok') {a : Addr} {i : Nat} {v : Value} (hk : ok a.block (a.off + i)) (h : w.cell? (a.add i) = some v) : w'.cell? (a.add i) = some v := by
 have e := add_plain' h
 rw [e] at h ⊢
 exact L.cell _ _ hk _ h
theorem RepC.stay {w : World} {ok : Nat → Nat → Prop} {w' : World} {ok' : Nat → Nat → Prop} (L : Stay w ok w' ok') {v : Value} {p : CV} (h : RepC w ok v p) : RepC w' ok' v p := by
 induction h with
 | int k n => exact .int k n
 | bool b => exact .bool b
 | str s => exact .str s
 | nil => exact .nil
 | fn f => exact .fn f
 | lit v h h2 => exact .lit v h h2
 | mp b es ck hk hh => exact .mp b es ck (L.ok _ _ hk) (L.mp _ _ hk _ _ hh)
 | row A len cap xs sz vs hl hcap hnil hpos hsz hA _ ih =>
  refine .row A len cap xs sz vs hl hcap hnil hpos hsz (fun i hi => ?_) ih
  obtain ⟨a, ha, hk, hc⟩ := hA i hi
  exact ⟨a, ha, L.ok _ _ hk, L.cell_add hk hc⟩
theorem RepC.oneCell {w : World} {ok : Nat → Nat → Prop} {v : Value} {p : CV} (h : RepC w ok v p) : v.oneCell' = true := by cases h <;> first | rfl | assumption
theorem RepC.nil_row {w : World} {ok : Nat → Nat → Prop} {v : Value} (h : RepC w ok v .nil) : RepC w ok v (.row []) := by
 cases h
 exact .row none 0 0 [] 1 (fun _ => undef) rfl (Nat.le_refl _) (fun _ => rfl) (by decide) (by simp) (fun i hi => by omega) (fun i x j c hx _ => by simp at hx)
def RepL {α : Type} (R : Value → α → Prop) (vs : List Value) (ps : List α) : Prop := vs.length = ps.length ∧ ∀ (i : Nat) (v : Value) (p : α), vs[i]? = some v → ps[i]? = some p → R v p
section
variable {α : Type} {R : Value → α → Prop}
theorem RepL.mono {S : Value → α → Prop} {vs : List Value} {ps : List α} (h : RepL R vs ps) (f : ∀ v p, R v p → S v p) : RepL S vs ps := ⟨h.1, fun i v p hv hp => f _ _ (h.2 i v p hv hp)⟩
theorem RepL.nil : RepL R [] [] := ⟨rfl, fun i v p h _ => by simp at h⟩
theorem RepL.cons {v : Value} {p : α} {vs : List Value} {ps : List α} (h : R v p) (t : RepL R vs ps) : RepL R (v :: vs) (p :: ps) := by
 refine ⟨by simp [t.1], fun i u q hu hq => ?_⟩
 cases i with
 | zero => simp at hu hq; subst hu; subst hq; exact h
 | succ i => exact t.2 i u q (by simpa using hu) (by simpa using hq)
theorem RepL.head {v : Value} {p : α} {vs : List Value} {ps : List α} (h : RepL R (v :: vs) (p :: ps)) : R v p := h.2 0 v p rfl rfl
theorem RepL.tail {v : Value} {p : α} {vs : List Value} {ps : List α} (h : RepL R (v :: vs) (p :: ps)) : RepL R vs ps :=
 ⟨by have := h.1; simpa using this, fun i u q hu hq => h.2 (i + 1) u q (by simpa using hu) (by simpa using hq)⟩
theorem RepL.take {vs : List Value} {ps : List α} (h : RepL R vs ps) (n : Nat) : RepL R (vs.take n) (ps.take n) := by
 refine ⟨by simp [h.1], fun i v p hv hp => ?_⟩
 rw [List.getElem?_take] at hv hp
 split at hv
 ·rename_i hi
  rw [if_pos hi] at hp
  exact h.2 i v p hv hp
 ·simp at hv
theorem RepL.drop {vs : List Value} {ps : List α} (h : RepL R vs ps) (n : Nat) : RepL R (vs.drop n) (ps.drop n) := by
 refine ⟨by simp [h.1], fun i v p hv hp => ?_⟩
 rw [List.getElem?_drop] at hv hp
 exact h.2 (n + i) v p hv hp
theorem RepL.append {vs us : List Value} {ps qs : List α} (h : RepL R vs ps) (g : RepL R us qs) : RepL R (vs ++ us) (ps ++ qs) := by
 refine ⟨by simp [h.1, g.1], fun i v p hv hp => ?_⟩
 by_cases hi : i < vs.length
 ·rw [List.getElem?_append_left hi] at hv
  rw [List.getElem?_append_left (by rw [← h.1]; exact hi)] at hp
  exact h.2 i v p hv hp
 ·rw [List.getElem?_append_right (by omega)] at hv
  rw [List.getElem?_append_right (by rw [← h.1]; omega), ← h.1] at hp
  exact g.2 _ v p hv hp
theorem RepL.get {vs : List Value} {ps : List α} (h : RepL R vs ps) {i : Nat} {p : α} (hp : ps[i]? = some p) : ∃ v, vs[i]? = some v ∧ R v p := by
 have hlt : i < vs.length := by rw [h.1]; exact (List.getElem?_eq_some_iff.1 hp).1
 exact ⟨_, List.getElem?_eq_getElem hlt, h.2 i _ p (List.getElem?_eq_getElem hlt) hp⟩
theorem RepL.all {vs : List Value} {ps : List α} (h : RepL R vs ps) {Q : Value → Prop} (f : ∀ v p, R v p → Q v) : ∀ v ∈ vs, Q v := by
 intro v hv
 obtain ⟨i, hi⟩ := List.mem_iff_getElem?.1 hv
 have hlt : i < ps.length := by rw [← h.1]; exact (List.getElem?_eq_some_iff.1 hi).1
 exact f _ _ (h.2 i v _ hi (List.getElem?_eq_getElem hlt))
end
def mcloE (b : Nat) : List (Int × FuncId) → Nat → List MapEntry
 | [], _ => []
 | (k, f) :: l, n => ⟨.int .i64 k, .func (.func f) #[.pointer (some ⟨b, 0, none⟩)] #[], n⟩ :: mcloE b l (n + 1)
inductive RepA (w : World) (ok : Nat → Nat → Prop) (m : List (Option Nat)) : Value → AV → Prop
 | p (i off b : Nat) (hm : m[i]? = some (some b)) : RepA w ok m (.pointer (some ⟨b, off, none⟩)) (.p i off)
 | c (v : Value) (p : CV) (h : RepC w ok v p) : RepA w ok m v (.c p)
 | a (cs : Array Value) (ds : List CV) (h : RepL (RepC w ok) cs.toList ds) : RepA w ok m (.agg cs) (.a ds)
inductive Rep (w : World) (ok : Nat → Nat → Prop) (m : List (Option Nat)) (tk : List TokR) : Value → PV → Prop
 | c (v : Value) (p : CV) (h : RepC w ok v p) : Rep w ok m tk v (.c p)
 | agg (cs : Array Value) (ds : List CV) (h : RepL (RepC w ok) cs.toList ds) : Rep w ok m tk (.agg cs) (.agg ds)
 | tup (cs : Array Value) (ds : List PV) (hl : cs.toList.length = ds.length) (h : ∀ (i : Nat) (v : Value) (d : PV), cs.toList[i]? = some v → ds[i]? = some d → Rep w ok m tk v d) : Rep w ok m tk (.tuple cs) (.tup ds)
 | orow (A : Option Addr) (len cap : Nat) (xs : List (List CV)) (k : Nat) (h : RepC w ok (.slice A len cap) (.row xs)) (r : TokR) (hr : tk[k]? = some r) (h1 : len ≤ r.len) (h2 : len = r.len → A = r.A ∧ cap = r.cap) : Rep w ok m tk (.slice A len cap) (.orow xs k)
 | ptr (i off b : Nat) (hm : m[i]? = some (some b)) : Rep w ok m tk (.pointer (some ⟨b, off, none⟩)) (.ptr i off)
 | iptr (a : Addr) (cs : List CV) (vs : List Value) (hA : ∀ (j : Nat) (v : Value), vs[j]? = some v → ok a.block (a.off + j) ∧ w.cell? (a.add j) = some v) (h : RepL (RepC w ok) vs cs) : Rep w ok m tk (.pointer (some a)) (.iptr cs)
 | clos (f : FuncId) (fs cs : Array Value) (ps qs : List AV) (h1 : RepL (RepA w ok m) fs.toList ps) (h2 : RepL (RepA w ok m) cs.toList qs) : Rep w ok m tk (.func (.func f) fs cs) (.clos f ps qs)
 | ifc (t : Nat) (cs : Array Value) (ds : List CV) (h : RepL (RepC w ok) cs.toList ds) : Rep w ok m tk (.iface t (.agg cs)) (.ifc t ds)
 | nif : Rep w ok m tk .nilIface .nif
 | full (A : Option Addr) (len : Nat) (xs : List (List CV)) (h : RepC w ok (.slice A len len) (.row xs)) : Rep w ok m tk (.slice A len len) (.full xs)
 | brow (i n b cap : Nat) (hm : m[i]? = some (some b)) (hc : n ≤ cap) : Rep w ok m tk (.slice (some ⟨b, 0, none⟩) n cap) (.brow i n)
 | stk (A : Option Addr) (len cap : Nat) (e : Nat) (xs : List (List CV)) (hl : len = xs.length) : Rep w ok m tk (.slice A len cap) (.stk e xs)
 | fresh (t : Nat) : Rep w ok m tk (.pointer none) (.fresh t)
 | mclo (fs : List (Int × FuncId)) (i b g ck : Nat) (hm : m[i]? = some (some b)) (hk : ok g 0) (hh : w.heap[g]? = some (.map (mcloE b fs 0).toArray ck)) : Rep w ok m tk (.map (some g)) (.mclo fs i)
 | undef (v : Value) : Rep w ok m tk v .undef
structure Later (w : World) (ok : Nat → Nat → Prop) (m : List (Option Nat)) (tk : List TokR) (w' : World) (ok' : Nat → Nat → Prop) (m' : List (Option Nat)) (tk' : List TokR) : Prop where
 stay : Stay w ok w' ok'
 box : ∀ (i b : Nat), m[i]? = some (some b) → m'[i]? = some (some b)
 tok : ∀ (t : Nat) (r : TokR), tk[t]? = some r → ∃ r' : TokR, tk'[t]? = some r' ∧ (r' = r ∨ r.len < r'.len)
theorem RepA.later {w : World} {ok : Nat → Nat → Prop} {m : List (Option Nat)} {w' : World} {ok' : Nat → Nat → Prop} {m' : List (Option Nat)} (S : Stay w ok w' ok') (L : ∀ (i b : Nat), m[i]? = some (some b) → m'[i]? = some (some b)) {v : Value} {p : AV} (h : RepA w ok m v p) : RepA w' ok' m' v p := by
 cases h with
 | p i off b hm => exact .p i off b (L _ _ hm)
 | c v p h => exact .c v p (h.stay S)
 | a cs ds h => exact .a cs ds (h.mono fun _ _ h => h.stay S)
theorem RepA.pv {w : World} {ok : Nat → Nat → Prop} {m : List (Option Nat)} {tk : List TokR} {v : Value} {p : AV} (h : RepA w ok m v p) : Rep w ok m tk v p.pv := by
 cases h with
 | p i off b hm => exact .ptr i off b hm
 | c v p h => exact .c v p h
 | a cs ds h => exact .agg cs ds h
theorem Rep.later {w : World} {ok : Nat → Nat → Prop} {m : List (Option Nat)} {tk : List TokR} {w' : World} {ok' : Nat → Nat → Prop} {m' : List (Option Nat)} {tk' : List TokR} (L : Later w ok m tk w' ok' m' tk')
  {v : Value} {p : PV} (h : Rep w ok m tk v p) : Rep w' ok' m' tk' v p := by
 induction h with
 | c v p h => exact .c v p (h.stay L.stay)
 | agg cs ds h => exact .agg cs ds (h.mono fun _ _ h => h.stay L.stay)
 | tup cs ds hl _ ih => exact .tup cs ds hl ih
 | orow A len cap xs k h r hr h1 h2 =>
  obtain ⟨r', hr', h3⟩ := L.tok k r hr
  refine .orow A len cap xs k (h.stay L.stay) r' hr' ?_ ?_
  ·rcases h3 with rfl | h3
   ·exact h1
   ·omega
  ·rcases h3 with rfl | h3
   ·exact h2
   ·intro h4; omega
 | ptr i off b hm => exact .ptr i off b (L.box _ _ hm)
 | iptr a cs vs hA h => exact .iptr a cs vs (fun j v hj => ⟨L.stay.ok _ _ (hA j v hj).1, L.stay.cell_add (hA j v hj).1 (hA j v hj).2⟩) (h.mono fun _ _ h => h.stay L.stay)
 | clos f fs cs ps qs h1 h2 => exact .clos f fs cs ps qs (h1.mono fun _ _ h => h.later L.stay L.box) (h2.mono fun _ _ h => h.later L.stay L.box)
 | ifc t cs ds h => exact .ifc t cs ds (h.mono fun _ _ h => h.stay L.stay)
 | nif => exact .nif
 | full A len xs h => exact .full A len xs (h.stay L.stay)
 | brow i n b cap hm hc => exact .brow i n b cap (L.box _ _ hm) hc
 | stk A len cap e xs hl => exact .stk A len cap e xs hl
 | fresh t => exact .fresh t
 | mclo fs i b g ck hm hk hh => exact .mclo fs i b g ck (L.box _ _ hm) (L.stay.ok _ _ hk) (L.stay.mp _ _ hk _ _ hh)
 | undef v => exact .undef v
theorem Later.refl (w : World) (ok : Nat → Nat → Prop) (m : List (Option Nat)) (tk : List TokR) : Later w ok m tk w ok m tk := ⟨.refl _ _, fun _ _ h => h, fun _ r h => ⟨r, h, .inl rfl⟩⟩
theorem Later.of_stay {w : World} {ok : Nat → Nat → Prop} {w' : World} {ok' : Nat → Nat → Prop} (h : Stay w ok w' ok') (m : List (Option Nat)) (tk : List TokR) : Later w ok m tk w' ok' m tk := ⟨h, fun _ _ h => h, fun _ r h => ⟨r, h, .inl rfl⟩⟩
section
variable {w : World} {ok : Nat → Nat → Prop} {m : List (Option Nat)} {tk : List TokR}
theorem Rep.closed {v : Value} {p : PV} (h : Rep w ok m tk v p) (hc : p.closed = true) (m' : List (Option Nat)) (tk' : List TokR) : Rep w ok m' tk' v p := by
 have one : ∀ {v : Value} {p : PV}, Rep w ok m tk v p → (match p with | .c _ | .agg _ => true | _ => false) = true → Rep w ok m' tk' v p := by
  intro v p h hc
  cases h with
  | c v p h => exact .c v p h
  | agg cs ds h => exact .agg cs ds h
  | _ => simp at hc
 cases h with
 | c v p h => exact .c v p h
 | agg cs ds h => exact .agg cs ds h
 | tup cs ds hl h => exact .tup cs ds hl (fun i v d hv hd => one (h i v d hv hd) (List.all_eq_true.1 hc d (List.mem_of_getElem? hd)))
 | ifc t cs ds h => exact .ifc t cs ds h
 | nif => exact .nif
 | _ => simp [PV.closed] at hc
theorem Rep.closedB {v : Value} {p : PV} (h : Rep w ok m tk v p) (hc : p.closedB = true) (m' : List (Option Nat)) (tk' : List TokR) : Rep w ok m' tk' v p := by
 cases h with
 | stk A len cap e xs hl => exact .stk A len cap e xs hl
 | undef v => exact .undef v
 | c v p h => exact .c v p h
 | agg cs ds h => exact .agg cs ds h
 | tup cs ds hl h => exact (Rep.tup cs ds hl h).closed hc m' tk'
 | ifc t cs ds h => exact .ifc t cs ds h
 | nif => exact .nif
 | _ => simp [PV.closedB, PV.closed] at hc
theorem Rep.toC {v : Value} {p : PV} {c : CV} (h : Rep w ok m tk v p) (hc : p.toC = some c) : RepC w ok v c := by
 cases h with
 | c v p h => simp [PV.toC] at hc; subst hc; exact h
 | orow A len cap xs k h r hr h1 h2 => simp [PV.toC] at hc; subst hc; exact h
 | _ => simp [PV.toC] at hc
theorem Rep.cells {v : Value} {p : PV} {ps : List PV} (h : Rep w ok m tk v p) (hp : p.cells = some ps) : RepL (Rep w ok m tk) v.cells.toList ps ∧ ∀ u ∈ v.cells.toList, u.oneCell' = true := by
 cases h with
 | c v p h =>
  simp [PV.cells] at hp; subst hp
  have hv : v.cells = #[v] := by cases h <;> first | rfl | assumption
  rw [hv]
  exact ⟨.cons (.c _ _ h) .nil, by simp; exact h.oneCell⟩
 | orow A len cap xs k h r hr h1 h2 => simp [PV.cells] at hp; subst hp; exact ⟨.cons (.orow A len cap xs k h r hr h1 h2) .nil, by simp [Value.cells, Value.oneCell']⟩
 | ptr i off b hm => simp [PV.cells] at hp; subst hp; exact ⟨.cons (.ptr i off b hm) .nil, by simp [Value.cells, Value.oneCell']⟩
 | fresh t => simp [PV.cells] at hp
 | clos f fs cs ps qs h1 h2 => simp [PV.cells] at hp; subst hp; exact ⟨.cons (.clos f fs cs ps qs h1 h2) .nil, by simp [Value.cells, Value.oneCell']⟩
 | agg cs ds h =>
  simp [PV.cells] at hp; subst hp
  refine ⟨⟨by simpa [Value.cells] using h.1, fun i v p hv hp => ?_⟩, h.all fun v p h => h.oneCell⟩
  rw [List.getElem?_map] at hp
  cases hq : ds[i]? with
  | none => simp [hq] at hp
  | some d => simp [hq] at hp; subst hp; exact .c _ _ (h.2 i v d hv hq)
 | _ => simp [PV.cells] at hp
end
end Go.Proofs.YtgpkppohfodhdaaGreatDoor.Pm
namespace Go.Proofs.YtgpkppohfodhdaaGreatDoor.Pm
open Go Go.RowKit
set_option linter.unusedVariables false
set_option linter.unusedSimpArgs false
inductive TK where
 | int (k : IntKind) | bool | str | slice (e : Nat) | array (n e : Nat) | struct (fs : List (Nat × Nat)) | other
structure TI where
 k : TK
 size : Nat
 zero : List CV
 bytes : Nat
def ofValC : Value → Option CV
 | .int k n => some (.int k n)
 | .bool b => some (.bool b)
 | .string s => some (.str s)
 | .slice none 0 0 => some .nil
 | .func (.func f) a b => match a.isEmpty && b.isEmpty with
  | true => some (.fn f)
  | false => none
 | .pointer none => some (.lit (.pointer none))
 | .map none => some (.lit (.map none))
 | .nilFunc => some (.lit .nilFunc)
 | _ => none
def ofVal (v : Value) : PV := match ofValC v with
 | some c => .c c
 | none => .undef
def ofVals : List Value → Option (List CV)
 | [] => some []
 | v :: vs => match ofValC v, ofVals vs with
  | some c, some cs => some (c :: cs)
  | _, _ => none
def kindOf : TypeDesc → TK
 | .int k => .int k
 | .bool => .bool
 | .string => .str
 | .slice e => .slice e
 | .array n e => .array n e
 | .struct fs => .struct (fs.toList.map fun f => (f.offset, f.type))
 | _ => .other
def zOK (k : TK) (z : Value) : Bool := match k with
 | .struct _ => match z with
  | .agg _ => true
  | _ => false
 | _ => true
def tyOf (P : Program) (t : TypeId) : Option TI :=
 match P.info? t, P.underlying t with
 | some i, some d => match i.zero with
  | some z => match ofVals z.cells.toList with
   | some zs => match zOK (kindOf d) z with
    | true => some ⟨kindOf d, i.size, zs, i.bytes⟩
    | false => none
   | none => none
  | none => none
 | _, _ => none
inductive EK where
 | int | bool | str
def fld1 (P : Program) (o : Nat) (f : Field) (k : EK) : Bool := f.name != "_" && f.offset == o && match P.underlying f.type, k with
 | some (.int _), .int => true
 | some .bool, .bool => true
 | some .string, .str => true
 | _, _ => false
def fldOK (P : Program) : Nat → List Field → List EK → Bool
 | _, [], [] => true
 | o, f :: fs, k :: ks => fld1 P o f k && fldOK P (o + 1) fs ks
 | _, _, _ => false
def eqOK (P : Program) (t : TypeId) (ks : List EK) : Bool := !P.stoodInHeld t && !P.eqGuardType P.depth t && match P.underlying t with
 | some (.struct fs) => fldOK P 0 fs.toList ks
 | _ => false
structure Fl where
 pt : Nat → Bool
 ef : Nat → Bool
 bt : Nat → Bool
structure Env where
 P : Program
 T : Nat → Option TI
 pt : Fl
 I : World → Prop
 eqs : Nat → Option (List EK)
structure EnvOK (E : Env) : Prop where
 ty : ∀ t i, E.T t = some i → tyOf E.P t = some i
 mixed : E.P.follows .mixedOrders = true
 glob : ∀ w, E.I w → E.P.globals.size ≤ w.heap.size
 eqs : ∀ t ks, E.eqs t = some ks → eqOK E.P t ks = true
 stable : ∀ w w', E.I w → w.heap.size ≤ w'.heap.size → (∀ b, b < E.P.globals.size → w'.heap[b]? = w.heap[b]?) → E.I w'
def TI.isAgg (i : TI) : Bool := match i.k with
 | .struct _ | .array _ _ => true
 | _ => false
def toCs : List PV → Option (List CV)
 | [] => some []
 | p :: ps => match p.toC, toCs ps with
  | some c, some cs => some (c :: cs)
  | _, _ => none
def ev (sl : Nat → PV) : Operand → PV
 | .tmp t => sl t
 | .const v => ofVal v
 | .func f => .c (.fn f)
 | .global _ => .undef
def cmpF (op : BinOp) (a b : Int) : Option PV := match op with
 | .eql => some (.bool (a == b))
 | .neq => some (.bool (a != b))
 | .lss => some (.bool (decide (a < b)))
 | .leq => some (.bool (decide (a ≤ b)))
 | .gtr => some (.bool (decide (a > b)))
 | .geq => some (.bool (decide (a ≥ b)))
 | _ => none
def intF (op : BinOp) (k : IntKind) (a b : Int) : Option PV := match op with
 | .add => some (.int k (k.wrap (a + b)))
 | .sub => some (.int k (k.wrap (a - b)))
 | .mul => some (.int k (k.wrap (a * b)))
 | .quo => match decide (b = 0) with
  | true => none
  | false => some (.int k (k.wrap (a.tdiv b)))
 | .rem => match decide (b = 0) with
  | true => none
  | false => some (.int k (a.tmod b))
 | .and | .or | .xor | .andNot | .shl | .shr => none
 | op => cmpF op a b
def shF (op : BinOp) (k : IntKind) (a b : Int) : Option PV := match decide (b < 0) with
 | true => none
 | false => match op with
  | .shl => some (.int k (k.wrap (a * 2 ^ (min b.toNat k.bits))))
  | .shr => some (.int k (a.fdiv (2 ^ (min b.toNat k.bits))))
  | _ => none
def strF (op : BinOp) (a b : ByteArray) : Option PV := match op with
 | .add => match decide (a.size + b.size ≤ 9223372036854775807) with
  | true => some (.str (a ++ b))
  | false => none
 | .eql => some (.bool (a.toList == b.toList))
 | .neq => some (.bool (!(a.toList == b.toList)))
 | _ => none
def isSh : BinOp → Bool
 | .shl | .shr => true
 | _ => false
def binF (ti : Option TI) (op : BinOp) (x y : PV) : Option PV := match x, y with
 | .c (.int k a), .c (.int k' b) => match isSh op with
  | true => shF op k a b
  | false => match decide (k = k') with
   | true => intF op k a b
   | false => none
 | .c (.str a), .c (.str b) => strF op a b
 | .c (.bool a), .c (.bool b) => match ti with
  | some ⟨.bool, _, _, _⟩ => match op with
   | .eql => some (.bool (a == b))
   | .neq => some (.bool (!(a == b)))
   | _ => none
  | _ => none
 | _, _ => none
def unF (op : UnOp) (x : PV) : Option PV := match op, x with
 | .neg, .c (.int k n) => some (.int k (k.wrap (0 - n)))
 | .not, .c (.bool b) => some (.bool (!b))
 | _, _ => none
section
variable {w : World} {ok : Nat → Nat → Prop} {m : List (Option Nat)} {tk : List TokR}
theorem Rep.int_inv {v : Value} {k : IntKind} {n : Int} (h : Rep w ok m tk v (.c (.int k n))) : v = .int k n := by cases h with | c _ _ h => cases h; rfl
theorem Rep.bool_inv {v : Value} {b : Bool} (h : Rep w ok m tk v (.c (.bool b))) : v = .bool b := by cases h with | c _ _ h => cases h; rfl
theorem Rep.str_inv {v : Value} {s : ByteArray} (h : Rep w ok m tk v (.c (.str s))) : v = .string s := by cases h with | c _ _ h => cases h; rfl
theorem Rep.tup0_inv {v : Value} (h : Rep w ok m tk v (.tup [])) : v = .tuple #[] := by
  cases h with
  | tup cs ds hl h => have : cs = #[] := by simpa using hl
                      subst this; rfl
theorem Rep.mkInt (k : IntKind) (n : Int) : Rep w ok m tk (.int k n) (.c (.int k n)) := .c _ _ (.int k n)
theorem Rep.mkBool (b : Bool) : Rep w ok m tk (.bool b) (.c (.bool b)) := .c _ _ (.bool b)
theorem Rep.mkStr (s : ByteArray) : Rep w ok m tk (.string s) (.c (.str s)) := .c _ _ (.str s)
theorem repC_ofVal {v : Value} {c : CV} (h : ofValC v = some c) : RepC w ok v c := by
 unfold ofValC at h
 split at h
 ·injection h with h; subst h; exact .int _ _
 ·injection h with h; subst h; exact .bool _
 ·injection h with h; subst h; exact .str _
 ·injection h with h; subst h; exact .nil
 ·rename_i f a b
  split at h
  ·rename_i hab
   injection h with h; subst h
   rw [Bool.and_eq_true, Array.isEmpty_iff, Array.isEmpty_iff] at hab
   obtain ⟨rfl, rfl⟩ := hab
   exact .fn _
  ·cases h
 ·injection h with h; subst h; exact .lit _ rfl rfl
 ·injection h with h; subst h; exact .lit _ rfl rfl
 ·injection h with h; subst h; exact .lit _ rfl rfl
 ·cases h
theorem rep_ofVal (v : Value) : Rep w ok m tk v (ofVal v) := by
 unfold ofVal
 split
 ·rename_i c h; exact .c _ _ (repC_ofVal h)
 ·exact .undef _
theorem repL_ofVals : ∀ {vs : List Value} {cs : List CV}, ofVals vs = some cs → RepL (RepC w ok) vs cs
 | [], cs, h => by simp [ofVals] at h; subst h; exact .nil
 | v :: vs, cs, h => by
  simp only [ofVals] at h
  split at h
  ·rename_i c ds h1 h2
   injection h with h; subst h
   exact .cons (repC_ofVal h1) (repL_ofVals h2)
  ·cases h
theorem repL_toCs : ∀ {vs : List Value} {ps : List PV} {cs : List CV}, RepL (Rep w ok m tk) vs ps → toCs ps = some cs → RepL (RepC w ok) vs cs
 | [], [], cs, h, hc => by simp [toCs] at hc; subst hc; exact .nil
 | [], p :: ps, cs, h, hc => by simp [RepL] at h
 | v :: vs, [], cs, h, hc => by simp [RepL] at h
 | v :: vs, p :: ps, cs, h, hc => by
  simp only [toCs] at hc
  split at hc
  ·rename_i c ds h1 h2
   injection hc with hc; subst hc
   exact .cons (h.head.toC h1) (repL_toCs h.tail h2)
  ·cases hc
theorem ty_parts {E : Env} (hE : EnvOK E) {t : Nat} {i : TI} (h : E.T t = some i) : ∃ (ti : TypeInfo) (d : TypeDesc) (z : Value) (zs : List CV), E.P.info? t = some ti ∧ E.P.underlying t = some d ∧ ti.zero = some z ∧ ofVals z.cells.toList = some zs ∧ i = ⟨kindOf d, ti.size, zs, ti.bytes⟩ := by
 have := hE.ty t i h
 unfold tyOf at this
 split at this
 ·rename_i ti d h1 h2
  split at this
  ·rename_i z hz
   split at this
   ·rename_i zs hzs
    split at this
    ·injection this with this
     exact ⟨ti, d, z, zs, h1, h2, hz, hzs, this.symm⟩
    ·cases this
   ·cases this
  ·cases this
 ·cases this
theorem ty_zagg {E : Env} (hE : EnvOK E) {t : Nat} {i : TI} {fs : List (Nat × Nat)} (h : E.T t = some i) (hk : i.k = .struct fs) {ti : TypeInfo} {z : Value} (h1 : E.P.info? t = some ti) (hz : ti.zero = some z) : ∃ cs, z = .agg cs := by
 have := hE.ty t i h
 unfold tyOf at this
 rw [h1] at this
 split at this
 ·rename_i ti' d e1 h2
  injection e1 with e1; subst e1
  rw [hz] at this
  dsimp only at this
  split at this
  ·split at this
   ·rename_i hzz
    injection this with this
    subst this
    dsimp only at hk
    rw [hk] at hzz
    unfold zOK at hzz
    dsimp only at hzz
    split at hzz
    ·exact ⟨_, rfl⟩
    ·cases hzz
   ·cases this
  ·cases this
 ·cases this
theorem equalIn_bool (n : Nat) {P : Program} {t : TypeId} (hu : P.underlying t = some .bool) (a b : Bool) (w : World) : (Op.equalIn (n + 1) t (.bool a) (.bool b)).run P w = .ok (a == b) w := by
 rw [Op.equalIn.eq_def]
 simp only [Sem.run_bind, run_underlying hu, Result.andThen_ok]
 rfl
theorem equal_bool {P : Program} {t : TypeId} (hu : P.underlying t = some .bool) (a b : Bool) (w : World) : (Op.equal t (.bool a) (.bool b)).run P w = .ok (a == b) w :=
 equalIn_bool 9999 hu a b w
theorem guard_int (op : BinOp) (t : TypeId) (x y : Operand) (P : Program) (a b : Value) (h : (∃ k n, a = .int k n) ∨ (∃ s, a = .string s) ∨ (∃ s, a = .bool s)) : (eqGuard op t x y a b).run P w = .ok () w := by
 rcases h with ⟨k, n, rfl⟩ | ⟨s, rfl⟩ | ⟨s, rfl⟩ <;> (unfold eqGuard; split <;> rfl)
theorem binF_run {E : Env} (hE : EnvOK E) {t : TypeId} {op : BinOp} {x y : Operand} {a b : Value} {p q z : PV} (h : binF (E.T t) op p q = some z) (ha : Rep w ok m tk a p) (hb : Rep w ok m tk b q) :
    ∃ v, (do eqGuard op t x y a b; binOp op t a b : Sem Value).run E.P w = .ok v w ∧ Rep w ok m tk v z := by
  unfold binF at h
  split at h
  · rename_i k n k' n'
    obtain rfl := ha.int_inv
    obtain rfl := hb.int_inv
    simp only [Sem.run_bind, guard_int op t x y E.P (.int k n) (.int k' n') (.inl ⟨k, n, rfl⟩), Result.andThen_ok]
    split at h
    · rename_i hs
      unfold shF at h
      split at h
      · cases h
      · rename_i hn
        have hn' : ¬ n' < 0 := by simpa using hn
        cases op <;> simp [isSh] at hs
        · simp at h
          subst h
          refine ⟨_, ?_, .mkInt _ _⟩
          simp [binOp, Op.shift, hn']
        · simp at h
          subst h
          refine ⟨_, ?_, .mkInt _ _⟩
          simp [binOp, Op.shift, hn']
    · rename_i hs
      split at h
      · rename_i hk
        have hk : k = k' := by simpa using hk
        subst hk
        cases op <;> simp [isSh] at hs
        case quo =>
          simp only [intF] at h
          split at h
          · cases h
          · rename_i h0
            have h0 : ¬ n' = 0 := by simpa using h0
            simp at h
            subst h
            refine ⟨_, ?_, .mkInt _ _⟩
            simp [binOp, Op.intDiv, h0]
        case rem =>
          simp only [intF] at h
          split at h
          · cases h
          · rename_i h0
            have h0 : ¬ n' = 0 := by simpa using h0
            simp at h
            subst h
            refine ⟨_, ?_, .mkInt _ _⟩
            simp [binOp, Op.intDiv, h0]
        all_goals
          simp [intF, cmpF] at h
          try (subst h
               first
                 | exact ⟨.int _ _, by simp [binOp, Op.intArith, Op.intCmp], .mkInt _ _⟩
                 | exact ⟨.bool _, by simp [binOp, Op.intArith, Op.intCmp], .mkBool _⟩)
      · cases h
  · rename_i s s'
    obtain rfl := ha.str_inv
    obtain rfl := hb.str_inv
    simp only [Sem.run_bind, guard_int op t x y E.P (.string s) (.string s') (.inr (.inl ⟨s, rfl⟩)), Result.andThen_ok]
    unfold strF at h
    split at h
    · split at h
      · rename_i hs
        have hs : s.size + s'.size ≤ 9223372036854775807 := by simpa using hs
        simp at h
        subst h
        refine ⟨_, ?_, .mkStr _⟩
        simp only [binOp, Op.stringOp]
        rw [if_neg (by simp [IntKind.max, IntKind.signed, IntKind.bits]; omega)]
        rfl
      · cases h
    · simp at h; subst h; refine ⟨_, ?_, .mkBool _⟩; simp [binOp, Op.stringOp]
    · simp at h; subst h; refine ⟨_, ?_, .mkBool _⟩; simp [binOp, Op.stringOp]
    · cases h
  · rename_i s s'
    obtain rfl := ha.bool_inv
    obtain rfl := hb.bool_inv
    simp only [Sem.run_bind, guard_int op t x y E.P (.bool s) (.bool s') (.inr (.inr ⟨s, rfl⟩)), Result.andThen_ok]
    split at h
    · rename_i ti sz zz bb hT
      obtain ⟨ti, d, z', zs', h1, h2, h3, h5, h4⟩ := ty_parts hE hT
      have hd : d = .bool := by
        cases d <;> simp [kindOf] at h4 <;> rfl
      subst hd
      split at h
      · simp at h
        subst h
        refine ⟨_, ?_, .mkBool _⟩
        simp [binOp, equal_bool h2]
      · simp at h
        subst h
        refine ⟨_, ?_, .mkBool _⟩
        simp [binOp, equal_bool h2]
      · cases h
    · cases h
  · cases h
theorem unF_run {P : Program} {op : UnOp} {a : Value} {p z : PV} (h : unF op p = some z) (ha : Rep w ok m tk a p) :
  ∃ v, (Op.unary op a).run P w = .ok v w ∧ Rep w ok m tk v z := by
 unfold unF at h
 split at h
 ·obtain rfl := ha.int_inv
  simp at h
  subst h
  refine ⟨_, ?_, .mkInt _ _⟩
  simp [Op.unary, Op.intArith]
 ·obtain rfl := ha.bool_inv
  simp at h
  subst h
  refine ⟨_, ?_, .mkBool _⟩
  simp [Op.unary]
 ·cases h
end
end Go.Proofs.YtgpkppohfodhdaaGreatDoor.Pm
namespace Go.Proofs.YtgpkppohfodhdaaGreatDoor.Pm
open Go Go.RowKit
set_option linter.unusedVariables false
set_option linter.unusedSimpArgs false
def toRow : PV → Option (List (List CV))
 | .c (.row xs) => some xs
 | .c .nil => some []
 | .orow xs _ => some xs
 | _ => none
def cellsC : PV → Option (List CV)
 | .c v => some [v]
 | .orow xs _ => some [.row xs]
 | .agg cs => some cs
 | _ => none
def aggF (n off : Nat) (cs : List CV) : Option PV := match decide (off + n ≤ cs.length) with
 | true => some (.agg ((cs.drop off).take n))
 | false => none
def partF (ti : TI) (cs : List CV) (off : Nat) : Option PV := match ti.isAgg with
 | true => aggF ti.size off cs
 | false => match cs[off]? with
  | some c => some (.c c)
  | none => none
def loadF (ti : TI) (H : List (List PV)) (p : PV) : Option PV := match p with
 | .ptr i off => match H[i]? with
  | some cs => match ti.isAgg with
   | true => match decide (off + ti.size ≤ cs.length) with
    | true => match toCs ((cs.drop off).take ti.size) with
     | some ds => some (.agg ds)
     | none => none
    | false => none
   | false => cs[off]?
  | none => none
 | .iptr cs => partF ti cs 0
 | _ => none
def shiftP (p : PV) (n : Nat) : Option PV := match p with
 | .ptr i o => some (.ptr i (o + n))
 | .iptr cs => some (.iptr (cs.drop n))
 | _ => none
def fieldOf (E : Env) (t f : Nat) : Option (Nat × TI) := match E.T t with
 | some ⟨.struct fs, _, _, _⟩ => match fs[f]? with
  | some (off, ft) => match E.T ft with
   | some fi => some (off, fi)
   | none => none
  | none => none
 | _ => none
def fieldAddrF (E : Env) (t f : Nat) (p : PV) : Option PV := match fieldOf E t f with
 | some (off, fi) => match decide (fi.size = 0) with
  | true => none
  | false => shiftP p off
 | none => none
def fieldF (E : Env) (t f : Nat) (p : PV) : Option PV := match fieldOf E t f, p with
 | some (off, fi), .agg cs => partF fi cs off
 | _, _ => none
def rowAtF (n : Int) (sz : Nat) (xs : List (List CV)) : Option PV := match decide (0 ≤ n) with
 | true => match xs[n.toNat]? with
  | some x => match decide (x.length = sz) with
   | true => some (.iptr x)
   | false => none
  | none => none
 | false => none
def indexAddrF (E : Env) (t : Nat) (p q : PV) : Option PV := match E.T t, q with
 | some ⟨.slice e, _, _, _⟩, .c (.int _ n) => match p with
  | .brow i m => match E.T e, decide (0 ≤ n ∧ n < m) with
   | some ei, true => some (.ptr i (n.toNat * ei.size))
   | _, _ => none
  | p => match E.T e, toRow p with
   | some ei, some xs => rowAtF n ei.size xs
   | _, _ => none
 | some ⟨.array k e, _, _, _⟩, .c (.int _ n) => match E.T e, decide (0 ≤ n ∧ n < k) with
  | some ei, true => shiftP p (n.toNat * ei.size)
  | _, _ => none
 | _, _ => none
def byteAtF (n : Int) (s : ByteArray) : Option PV := match decide (0 ≤ n) with
 | true => match s[n.toNat]? with
  | some b => some (.c (.int .u8 b.toNat))
  | none => none
 | false => none
def indexF (E : Env) (t : Nat) (p q : PV) : Option PV := match E.T t, p, q with
 | some ⟨.str, _, _, _⟩, .c (.str s), .c (.int _ n) => byteAtF n s
 | some ⟨.array k e, _, _, _⟩, .agg cs, .c (.int _ n) => match E.T e, decide (0 ≤ n ∧ n < k) with
  | some ei, true => partF ei cs (n.toNat * ei.size)
  | _, _ => none
 | _, _, _ => none
def bndF (d : Nat) : Option PV → Option Int
 | none => some d
 | some (.c (.int _ n)) => some n
 | _ => none
def sliceF (E : Env) (t : Nat) (p : PV) (lo hi : Option PV) : Option PV := match E.T t with
 | some ⟨.str, _, _, _⟩ => match p with
  | .c (.str s) => match bndF 0 lo, bndF s.size hi with
   | some l, some h => match decide (0 ≤ l ∧ l ≤ h ∧ h ≤ s.size) with
    | true => some (.c (.str (s.extract l.toNat h.toNat)))
    | false => none
   | _, _ => none
  | _ => none
 | some ⟨.slice e, _, _, _⟩ => match E.T e, toRow p with
  | some ei, some xs => match bndF 0 lo, bndF xs.length hi with
   | some l, some h => match decide (0 ≤ l ∧ l ≤ h ∧ h ≤ xs.length) with
    | true => match decide (∀ x ∈ xs, x.length = ei.size) with
     | true => some (.c (.row ((xs.take h.toNat).drop l.toNat)))
     | false => none
    | false => none
   | _, _ => none
  | _, _ => none
 | _ => none
def slice3F (E : Env) (t : Nat) (p : PV) (lo : Option PV) (hi mx : PV) : Option PV := match E.T t with
 | some ⟨.slice e, _, _, _⟩ => match E.T e, toRow p with
  | some ei, some xs => match bndF 0 lo, bndF 0 (some hi), bndF 0 (some mx) with
   | some l, some h, some h' => match decide (0 ≤ l ∧ l ≤ h ∧ h ≤ xs.length ∧ h' = h) with
    | true => match decide (∀ x ∈ xs, x.length = ei.size) with
     | true => some (.full ((xs.take h.toNat).drop l.toNat))
     | false => none
    | false => none
   | _, _, _ => none
  | _, _ => none
 | _ => none
def lenF (ti : Option TI) (p : PV) : Option PV := match ti with
 | some ⟨.str, _, _, _⟩ => match p with
  | .c (.str s) => some (.c (.int .i64 s.size))
  | _ => none
 | some ⟨.array n _, _, _, _⟩ => some (.c (.int .i64 n))
 | some ⟨.slice _, _, _, _⟩ => match p with
  | .brow _ n => some (.c (.int .i64 n))
  | .stk _ xs => some (.c (.int .i64 xs.length))
  | p => match toRow p with
   | some xs => some (.c (.int .i64 xs.length))
   | none => none
 | _ => none
def maxG (a : Int) : List PV → Option Int
 | [] => some a
 | .c (.int _ b) :: r => maxG (if b > a then b else a) r
 | _ => none
def minG (a : Int) : List PV → Option Int
 | [] => some a
 | .c (.int _ b) :: r => minG (if b < a then b else a) r
 | _ => none
def maxF : List PV → Option PV
 | .c (.int k a) :: r => match maxG a r with
  | some z => some (.c (.int k z))
  | none => none
 | _ => none
def minF : List PV → Option PV
 | .c (.int k a) :: r => match minG a r with
  | some z => some (.c (.int k z))
  | none => none
 | _ => none
def bytesF : List (List CV) → Option (List UInt8)
 | [] => some []
 | [.int .u8 n] :: r => match decide (0 ≤ n ∧ n < 256), bytesF r with
  | true, some l => some (UInt8.ofNat n.toNat :: l)
  | _, _ => none
 | _ => none
def convF (E : Env) (s d : Nat) (p : PV) : Option PV := match E.T s, E.T d with
 | some _, some ⟨.int k, _, _, _⟩ => match p with
  | .c (.int _ n) => some (.c (.int k (k.wrap n)))
  | _ => none
 | some si, some ⟨.str, _, _, _⟩ => match p with
  | .c (.str x) => some (.c (.str x))
  | .c (.row xs) => match si.k, bytesF xs with
   | .slice e, some l => match E.T e with
    | some ⟨.int .u8, _, _, _⟩ => some (.c (.str ⟨l.toArray⟩))
    | _ => none
   | _, _ => none
  | _ => none
 | _, _ => none
def splice {α : Type} (cs : List α) (off : Nat) (vs : List α) : List α := cs.take off ++ vs ++ cs.drop (off + vs.length)
def fillF (place : Nat → Option (Nat × Nat)) (cs : List CV) : List (Nat × PV) → Option (List CV)
 | [] => some cs
 | (i, p) :: r => match place i, cellsC p with
  | some (off, sz), some vs => match decide (vs.length = sz ∧ off + vs.length ≤ cs.length) with
   | true => fillF place (splice cs off vs) r
   | false => none
  | _, _ => none
def placesF (E : Env) : List (Nat × Nat) → Option (List (Nat × Nat))
 | [] => some []
 | (off, t) :: r => match E.T t, placesF E r with
  | some ti, some l => some ((off, ti.size) :: l)
  | _, _ => none
def buildF (E : Env) (t : Nat) (ps : List (Nat × PV)) : Option PV := match E.T t with
 | some ⟨.struct fs, _, z, _⟩ => match placesF E fs with
  | some pl => match fillF (fun i => pl[i]?) z ps with
   | some cs => some (.agg cs)
   | none => none
  | none => none
 | some ⟨.array _ e, _, z, _⟩ => match E.T e with
  | some ei => match fillF (fun i => some (i * ei.size, ei.size)) z ps with
   | some cs => some (.agg cs)
   | none => none
  | none => none
 | _ => none
def rowsF (sz n : Nat) (xs : List (List CV)) : List (Nat × PV) → Option (List (List CV))
 | [] => some xs
 | (i, p) :: r => match cellsC p with
  | some vs => match decide (vs.length = sz ∧ i < n) with
   | true => rowsF sz n (xs.set i vs) r
   | false => none
  | none => none
def buildSliceF (E : Env) (t n : Nat) (ps : List (Nat × PV)) : Option (List (List CV)) := match E.T t with
 | some ⟨.slice e, _, _, _⟩ => match E.T e with
  | some ei => match decide (0 < ei.size ∧ n * ei.size ≤ 16777216 ∧ ei.zero.length = ei.size) with
   | true => rowsF ei.size n (List.replicate n ei.zero) ps
   | false => none
  | none => none
 | _ => none
section
variable {w : World} {ok : Nat → Nat → Prop} {m : List (Option Nat)} {tk : List TokR}
theorem Rep.toRow {v : Value} {p : PV} {xs : List (List CV)} (h : Rep w ok m tk v p) (hx : toRow p = some xs) : RepC w ok v (.row xs) := by
 cases h with
 | c v p h =>
  cases p <;> simp [Pm.toRow] at hx
  ·subst hx; exact h.nil_row
  ·subst hx; exact h
 | orow A len cap xs k h r hr h1 h2 => simp [Pm.toRow] at hx; subst hx; exact h
 | _ => simp [Pm.toRow] at hx
theorem Rep.cellsC {v : Value} {p : PV} {cs : List CV} (h : Rep w ok m tk v p) (hx : Pm.cellsC p = some cs) : RepL (RepC w ok) v.cells.toList cs := by
 cases h with
 | c v p h =>
  simp [Pm.cellsC] at hx; subst hx
  have hv : v.cells = #[v] := by cases h <;> first | rfl | assumption
  rw [hv]
  exact .cons h .nil
 | orow A len cap xs k h r hr h1 h2 => simp [Pm.cellsC] at hx; subst hx; exact .cons h .nil
 | agg cs ds h => simp [Pm.cellsC] at hx; subst hx; exact h
 | _ => simp [Pm.cellsC] at hx
theorem ty_run {E : Env} (hE : EnvOK E) {t : Nat} {i : TI} (h : E.T t = some i) :
  ∃ d, (underlying t).run E.P w = .ok d w ∧ i.k = kindOf d ∧ (sizeOf t).run E.P w = .ok i.size w ∧ (isAgg t).run E.P w = .ok i.isAgg w ∧ ∃ z : Value, (zeroValue t).run E.P w = .ok z w ∧ RepL (RepC w ok) z.cells.toList i.zero ∧ E.P.underlying t = some d := by
 obtain ⟨ti, d, z, zs, h1, h2, h3, h5, rfl⟩ := ty_parts hE h
 refine ⟨d, run_underlying h2 w, rfl, ?_, ?_, z, ?_, repL_ofVals h5, h2⟩
 ·simp [sizeOf, typeInfo, h1]
 ·simp only [isAgg, Sem.run_bind, run_underlying h2, Result.andThen_ok]
  cases d <;> rfl
 ·simp [zeroValue, typeInfo, h1, h3]
theorem part_run {E : Env} (hE : EnvOK E) {t : Nat} {i : TI} (h : E.T t = some i) {cs : Array Value} {ds : List CV} (hr : RepL (RepC w ok) cs.toList ds) {off : Nat} {z : PV} (hp : partF i ds off = some z) :
  ∃ v, (part t cs off).run E.P w = .ok v w ∧ Rep w ok m tk v z := by
 obtain ⟨d, hu, hk, hs, ha, zv, hz⟩ := ty_run (w := w) (ok := ok) hE h
 unfold partF at hp
 simp only [part, Sem.run_bind, ha, Result.andThen_ok]
 cases hi : i.isAgg with
 | true =>
  simp only [hi, aggF] at hp
  split at hp
  ·rename_i hle
   simp at hp; subst hp
   have hle : off + i.size ≤ ds.length := by simpa using hle
   simp only [if_true, Sem.run_bind, hs, Result.andThen_ok]
   refine ⟨_, rfl, ?_⟩
   refine .agg _ _ ?_
   have : (cs.extract off (off + i.size)).toList = (cs.toList.drop off).take i.size := by simp
   rw [this]
   exact (hr.drop off).take i.size
  ·cases hp
 | false =>
  simp only [hi] at hp
  split at hp
  ·rename_i c hc
   injection hp with hp; subst hp
   obtain ⟨v, hv, hrv⟩ := hr.get hc
   have hv' : cs[off]? = some v := by simpa using hv
   refine ⟨v, ?_, .c _ _ hrv⟩
   simp [hv']
  ·cases hp
theorem add_add (a : Addr) (i j : Nat) (h : a.spot = none ∨ True) : (a.add i).add j = a.add (i + j) := by
 unfold Addr.add
 by_cases hi : i = 0 <;> by_cases hj : j = 0 <;> simp [hi, hj]
 omega
theorem add_block (a : Addr) (i : Nat) : (a.add i).block = a.block ∧ (a.add i).off = a.off + i := by
 unfold Addr.add
 by_cases hi : i = 0 <;> simp [hi]
theorem shift_rep {a : Addr} {p z : PV} {n : Nat} (h : Rep w ok m tk (.pointer (some a)) p) (hz : shiftP p n = some z) : Rep w ok m tk (.pointer (some (a.add n))) z := by
 cases h with
 | ptr i off b hm =>
  simp [shiftP] at hz; subst hz
  have : (⟨b, off, none⟩ : Addr).add n = ⟨b, off + n, none⟩ := by unfold Addr.add; split <;> simp_all
  rw [this]
  exact .ptr i _ b hm
 | iptr a cs vs hA h =>
  simp [shiftP] at hz; subst hz
  refine .iptr _ _ (vs.drop n) (fun j v hj => ?_) (h.drop n)
  rw [List.getElem?_drop] at hj
  have := hA (n + j) v hj
  rw [add_add _ _ _ (.inr trivial), (add_block a n).1, (add_block a n).2, Nat.add_assoc]
  exact this
 | _ => simp [shiftP] at hz
theorem shift_addr {v : Value} {p z : PV} {n : Nat} (h : Rep w ok m tk v p) (hz : shiftP p n = some z) : ∃ a, v = .pointer (some a) := by
 cases h <;> first | exact ⟨_, rfl⟩ | simp [shiftP] at hz
theorem row_at {A : Option Addr} {len cap : Nat} {xs : List (List CV)} (h : RepC w ok (.slice A len cap) (.row xs)) {i : Nat} {x : List CV} (hx : xs[i]? = some x) (hpos : 0 < x.length) :
    len = xs.length ∧ len ≤ cap ∧ ∃ a, A = some a ∧ Rep w ok m tk (.pointer (some (a.add (i * x.length)))) (.iptr x) := by
  cases h with
  | row _ _ _ _ sz vs hl hcap _ hp hsz hA h =>
    have hxl : x.length = sz := hsz x (List.mem_of_getElem? hx)
    have hi : i < xs.length := (List.getElem?_eq_some_iff.1 hx).1
    refine ⟨hl, hcap, ?_⟩
    have hb : i * sz + sz ≤ len * sz := by rw [hl]; calc i * sz + sz = (i + 1) * sz := by rw [Nat.succ_mul]
                                              _ ≤ xs.length * sz := Nat.mul_le_mul_right _ hi
    obtain ⟨a, rfl, -⟩ := hA (i * sz) (by omega)
    refine ⟨a, rfl, ?_⟩
    rw [hxl]
    refine .iptr _ _ ((List.range sz).map fun j => vs (i * sz + j)) (fun j v hj => ?_) ⟨by simp [hxl], fun j v c hv hc => ?_⟩
    · rw [List.getElem?_map] at hj
      have hjs : j < sz := by
        by_cases h' : j < sz
        · exact h'
        · rw [List.getElem?_eq_none (by simp; omega)] at hj; simp at hj
      rw [List.getElem?_range hjs] at hj
      simp at hj; subst hj
      obtain ⟨a', ha', hk, hc⟩ := hA (i * sz + j) (by omega)
      injection ha' with ha'; subst ha'
      rw [add_add _ _ _ (.inr trivial), (add_block a _).1, (add_block a _).2, Nat.add_assoc]
      exact ⟨hk, hc⟩
    · have hjs : j < sz := by have := (List.getElem?_eq_some_iff.1 hc).1; omega
      rw [List.getElem?_map, List.getElem?_range hjs] at hv
      simp at hv; subst hv
      exact h i x j c hx hc
theorem load_iptr {E : Env} (hE : EnvOK E) {t : Nat} {i : TI} (h : E.T t = some i) {a : Addr} {cs : List CV} (hr : Rep w ok m tk (.pointer (some a)) (.iptr cs)) {z : PV} (hp : partF i cs 0 = some z) :
  ∃ v, (loadVar t a).run E.P w = .ok v w ∧ Rep w ok m tk v z := by
 cases hr with
 | iptr a cs vs hA hv =>
  obtain ⟨d, hu, hk, hs, ha, zv, hz⟩ := ty_run (w := w) (ok := ok) hE h
  unfold partF at hp
  simp only [loadVar, Sem.run_bind, ha, Result.andThen_ok]
  cases hi : i.isAgg with
  | true =>
   simp only [hi, aggF] at hp
   split at hp
   ·rename_i hle
    simp at hp; subst hp
    have hle : i.size ≤ cs.length := by simpa using hle
    simp only [if_true, Sem.run_bind, hs, Result.andThen_ok]
    have hlen : (vs.take i.size).length = i.size := by rw [List.length_take, hv.1]; omega
    have e := run_loadCells_list (P := E.P) w a (vs.take i.size) (fun j v hj => by
     rw [List.getElem?_take] at hj
     split at hj
     ·exact (hA j v hj).2
     ·simp at hj)
    rw [hlen] at e
    rw [e]
    refine ⟨_, rfl, .agg _ _ ?_⟩
    simpa using hv.take i.size
   ·cases hp
  | false =>
   simp only [hi] at hp
   split at hp
   ·rename_i c hc
    injection hp with hp; subst hp
    obtain ⟨v, hv1, hrv⟩ := hv.get hc
    have hc0 := (hA 0 v hv1).2
    have ha0 : a.add 0 = a := by unfold Addr.add; simp
    rw [ha0] at hc0
    refine ⟨v, ?_, .c _ _ hrv⟩
    simp [hc0]
   ·cases hp
theorem field_run {E : Env} (hE : EnvOK E) {t f off : Nat} {fi : TI} (h : fieldOf E t f = some (off, fi)) : ∃ (fs : Array Field) (fl : Field), E.P.underlying t = some (.struct fs) ∧ fs[f]? = some fl ∧ fl.offset = off ∧ E.T fl.type = some fi := by
 unfold fieldOf at h
 split at h
 ·rename_i fs sz z b hT
  obtain ⟨ti, d, zv, zs, h1, h2, h3, h5, h4⟩ := ty_parts hE hT
  cases d <;> simp [kindOf] at h4
  rename_i fa
  obtain ⟨hfs, -⟩ := h4
  split at h
  ·rename_i o ft hf
   split at h
   ·rename_i fi' hfi
    injection h with h
    injection h with ha hb
    subst ha; subst hb
    rw [hfs, List.getElem?_map] at hf
    cases hq : fa.toList[f]? with
    | none => simp [hq] at hf
    | some fl =>
     simp [hq] at hf
     refine ⟨fa, fl, h2, by simpa using hq, hf.1, ?_⟩
     rw [hf.2]; exact hfi
   ·cases h
  ·cases h
 ·cases h
theorem fieldAddr_run {E : Env} (hE : EnvOK E) {t f : Nat} {v : Value} {p z : PV} (h : fieldAddrF E t f p = some z) (hv : Rep w ok m tk v p) :
  ∃ u, (Instr.fieldAt t v f).run E.P w = .ok u w ∧ Rep w ok m tk u z := by
 unfold fieldAddrF at h
 split at h
 ·rename_i off fi hf
  split at h
  ·cases h
  ·rename_i h0
   have h0 : ¬ fi.size = 0 := by simpa using h0
   obtain ⟨fs, fl, hu, hfl, ho, hT⟩ := field_run hE hf
   obtain ⟨d, -, -, hs, -, -⟩ := ty_run (w := w) (ok := ok) hE hT
   obtain ⟨a, rfl⟩ := shift_addr hv h
   refine ⟨.pointer (some (a.add off)), ?_, shift_rep hv h⟩
   simp only [Instr.fieldAt, Sem.run_bind, run_underlying hu, Result.andThen_ok, hfl, Instr.sureAddr, Sem.run_pure, fieldPlace, hs, if_neg h0, ho]
 ·cases h
theorem fieldF_run {E : Env} (hE : EnvOK E) {t f : Nat} {v : Value} {p z : PV} (h : fieldF E t f p = some z) (hv : Rep w ok m tk v p) :
  ∃ u, (Instr.field t v f).run E.P w = .ok u w ∧ Rep w ok m tk u z := by
 unfold fieldF at h
 split at h
 ·rename_i off fi cs hf
  obtain ⟨fs, fl, hu, hfl, ho, hT⟩ := field_run hE hf
  cases hv with
  | agg cs' _ hr =>
   obtain ⟨u, h1, h2⟩ := part_run (m := m) (tk := tk) hE hT hr h
   refine ⟨u, ?_, h2⟩
   simp only [Instr.field, Sem.run_bind, run_underlying hu, Result.andThen_ok, hfl, asAgg, Sem.run_pure, ho, h1]
 ·cases h
theorem indexAddr_run {E : Env} (hE : EnvOK E) {t : Nat} {v u : Value} {p q z : PV} (h : indexAddrF E t p q = some z) (hv : Rep w ok m tk v p) (hu : Rep w ok m tk u q) :
  ∃ r, (Instr.indexAt t v u).run E.P w = .ok r w ∧ Rep w ok m tk r z := by
 unfold indexAddrF at h
 split at h
 ·rename_i e sz zz bb k n hT
  obtain rfl := hu.int_inv
  obtain ⟨ti, d, zv, zs, h1, h2, h3, h5, h4⟩ := ty_parts hE hT
  cases d <;> simp [kindOf] at h4
  rename_i e'
  obtain ⟨rfl, -⟩ := h4
  split at h
  ·rename_i i0 m0
   split at h
   ·rename_i ei hei hn
    injection h with h; subst h
    have hn : 0 ≤ n ∧ n < (m0 : Int) := by simpa using hn
    obtain ⟨-, -, -, hs, -, -⟩ := ty_run (w := w) (ok := ok) hE hei
    cases hv with
    | brow _ _ b cap hm hc =>
     have ea : (⟨b, 0, none⟩ : Addr).add (n.toNat * ei.size) = ⟨b, n.toNat * ei.size, none⟩ := by unfold Addr.add; split <;> simp_all
     refine ⟨.pointer (some ⟨b, n.toNat * ei.size, none⟩), ?_, .ptr _ _ b hm⟩
     simp only [Instr.indexAt, asIntOf, Sem.run_bind, Sem.run_pure, Result.andThen_ok, run_underlying h2]
     simp [hn, hs, ea]
   ·cases h
  ·split at h
   ·rename_i ei xs hei hx
    obtain ⟨-, -, -, hs, -, -⟩ := ty_run (w := w) (ok := ok) hE hei
    have hr := hv.toRow hx
    unfold rowAtF at h
    split at h
    ·rename_i hn
     have hn : 0 ≤ n := by simpa using hn
     split at h
     ·rename_i x hxn
      split at h
      ·rename_i hl
       have hl : x.length = ei.size := by simpa using hl
       injection h with h; subst h
       cases hr' : v with
       | slice A len cap =>
        rw [hr'] at hr
        have hsz : 0 < x.length := by
         cases hr with
         | row _ _ _ _ sz vs _ _ _ hp hsz _ _ => rw [hsz x (List.mem_of_getElem? hxn)]; exact hp
        obtain ⟨hlen, hcap, a, rfl, hrep⟩ := row_at (m := m) (tk := tk) hr hxn hsz
        have hi : n.toNat < xs.length := (List.getElem?_eq_some_iff.1 hxn).1
        rw [hl] at hrep
        refine ⟨_, ?_, hrep⟩
        simp only [Instr.indexAt, asIntOf, Sem.run_bind, Sem.run_pure, Result.andThen_ok, run_underlying h2]
        have hc : 0 ≤ n ∧ n < (len : Int) := by omega
        simp [hc, hs]
       | _ => rw [hr'] at hr; cases hr
      ·cases h
     ·cases h
    ·cases h
   ·cases h
 ·rename_i k e sz zz bb k' n hT
  obtain rfl := hu.int_inv
  obtain ⟨ti, d, zv, zs, h1, h2, h3, h5, h4⟩ := ty_parts hE hT
  cases d <;> simp [kindOf] at h4
  rename_i k0 e'
  obtain ⟨⟨rfl, rfl⟩, -⟩ := h4
  split at h
  ·rename_i ei hei hn
   have hn : 0 ≤ n ∧ n < (k : Int) := by simpa using hn
   obtain ⟨-, -, -, hs, -, -⟩ := ty_run (w := w) (ok := ok) hE hei
   obtain ⟨a, rfl⟩ := shift_addr hv h
   refine ⟨.pointer (some (a.add (n.toNat * ei.size))), ?_, shift_rep hv h⟩
   simp only [Instr.indexAt, asIntOf, Sem.run_bind, Sem.run_pure, Result.andThen_ok, run_underlying h2, Instr.sureAddr]
   simp [hn, hs]
  ·cases h
 ·cases h
theorem index_run {E : Env} (hE : EnvOK E) {t : Nat} {v u : Value} {p q z : PV} (h : indexF E t p q = some z) (hv : Rep w ok m tk v p) (hu : Rep w ok m tk u q) :
  ∃ r, (Instr.index t v u).run E.P w = .ok r w ∧ Rep w ok m tk r z := by
 unfold indexF at h
 split at h
 ·rename_i sz zz bb s k n hT
  obtain rfl := hu.int_inv
  obtain rfl := hv.str_inv
  obtain ⟨ti, d, zv, zs, h1, h2, h3, h5, h4⟩ := ty_parts hE hT
  cases d <;> simp [kindOf] at h4
  unfold byteAtF at h
  split at h
  ·rename_i hn
   have hn : 0 ≤ n := by simpa using hn
   split at h
   ·rename_i b hb
    injection h with h; subst h
    refine ⟨_, ?_, .mkInt _ _⟩
    simp only [Instr.index, asIntOf, Sem.run_bind, Sem.run_pure, Result.andThen_ok, run_underlying h2, if_pos hn, hb]
   ·cases h
  ·cases h
 ·rename_i k e sz zz bb cs k' n hT
  obtain rfl := hu.int_inv
  obtain ⟨ti, d, zv, zs, h1, h2, h3, h5, h4⟩ := ty_parts hE hT
  cases d <;> simp [kindOf] at h4
  rename_i k0 e'
  obtain ⟨⟨rfl, rfl⟩, -⟩ := h4
  split at h
  ·rename_i ei hei hn
   have hn : 0 ≤ n ∧ n < (k : Int) := by simpa using hn
   obtain ⟨-, -, -, hs, -, -⟩ := ty_run (w := w) (ok := ok) hE hei
   cases hv with
   | agg cs' _ hr =>
    obtain ⟨r, h6, h7⟩ := part_run (m := m) (tk := tk) hE hei hr h
    refine ⟨r, ?_, h7⟩
    simp only [Instr.index, asIntOf, Sem.run_bind, Sem.run_pure, Result.andThen_ok, run_underlying h2, if_pos hn, hs, h6]
  ·cases h
 ·cases h
end
end Go.Proofs.YtgpkppohfodhdaaGreatDoor.Pm
namespace Go.Proofs.YtgpkppohfodhdaaGreatDoor.Pm
open Go Go.RowKit
set_option linter.unusedVariables false
set_option linter.unusedSimpArgs false
section
variable {w : World} {ok : Nat → Nat → Prop} {m : List (Option Nat)} {tk : List TokR}
def RepO (w : World) (ok : Nat → Nat → Prop) (m : List (Option Nat)) (tk : List TokR) : Option Value → Option PV → Prop
 | none, none => True
 | some v, some p => Rep w ok m tk v p
 | _, _ => False
theorem bound_run {P : Program} {v : Value} {d : Nat} {q : PV} {n : Int} (hv : Rep w ok m tk v q) (hb : bndF d (some q) = some n) (y : Nat) (c : BoundsCode) (h0 : 0 ≤ n) (h1 : n ≤ y) : (Instr.sliceBound v y c).run P w = .ok n.toNat w := by
 unfold bndF at hb
 split at hb
 ·rename_i h; cases h
 ·rename_i k n' h
  injection h with h; subst h
  injection hb with hb; subst hb
  obtain rfl := hv.int_inv
  simp [Instr.sliceBound, asIntOf, h0, h1]
 ·cases hb
theorem bounds_run {P : Program} {s : Bool} {lo hi : Option Value} {plo phi : Option PV} {len cap : Nat} {l h : Int} (hlo : RepO w ok m tk lo plo) (hhi : RepO w ok m tk hi phi) (hl : bndF 0 plo = some l) (hh : bndF len phi = some h)
  (h0 : 0 ≤ l) (h1 : l ≤ h) (h2 : h ≤ len) (hcap : len ≤ cap) : (Instr.sliceBounds s len cap lo hi none).run P w = .ok (l.toNat, h.toNat, cap) w := by
 cases hi with
 | none =>
  cases phi with
  | some _ => exact hhi.elim
  | none =>
   simp [bndF] at hh
   cases lo with
   | none =>
    cases plo with
    | some _ => exact hlo.elim
    | none => simp [bndF] at hl; subst hl; subst hh; simp [Instr.sliceBounds]
   | some v =>
    cases plo with
    | none => exact hlo.elim
    | some q =>
     have := bound_run (P := P) (w := w) hlo hl len (BoundsCode.sliceB) h0 (by omega)
     subst hh
     simp [Instr.sliceBounds, this]
 | some u =>
  cases phi with
  | none => exact hhi.elim
  | some qh =>
   have hb := bound_run (P := P) (w := w) (d := len) hhi hh cap (if s then .sliceAcap else .sliceAlen) (by omega) (by omega)
   cases lo with
   | none =>
    cases plo with
    | some _ => exact hlo.elim
    | none => simp [bndF] at hl; subst hl; simp [Instr.sliceBounds, hb]
   | some v =>
    cases plo with
    | none => exact hlo.elim
    | some q =>
     have := bound_run (P := P) (w := w) hlo hl h.toNat (BoundsCode.sliceB) h0 (by omega)
     simp [Instr.sliceBounds, hb, this]
theorem row_cut {A : Option Addr} {len cap : Nat} {xs : List (List CV)} {sz l h : Nat} (hr : RepC w ok (.slice A len cap) (.row xs)) (hs : ∀ x ∈ xs, x.length = sz) (h1 : l ≤ h) (h2 : h ≤ xs.length) :
  RepC w ok (.slice (if cap = l then A else A.map (·.add (l * sz))) (h - l) (cap - l)) (.row ((xs.take h).drop l)) := by
 cases hr with
 | row _ _ _ _ sz' vs hl hcap hnil hp hsz hA hh =>
  have hnil' : (if cap = l then A else A.map (·.add (l * sz))) = none → cap - l = 0 := by
   intro h0
   split at h0
   ·omega
   ·have : A = none := by cases A <;> simp at h0 ⊢
    rw [hnil this]; omega
  by_cases he : xs = []
  ·subst he
   simp at h2; subst h2
   have : l = 0 := by omega
   subst this
   refine .row _ _ _ _ 1 (fun _ => undef) (by simp) (by omega) hnil' (by decide) (by simp) (fun i hi => by omega) (fun i x j c hx _ => by simp at hx)
  ·obtain ⟨x0, hx0⟩ := List.exists_mem_of_ne_nil xs he
   have e : sz' = sz := by rw [← hsz x0 hx0, hs x0 hx0]
   subst e
   refine .row _ _ _ _ sz' (fun i => vs (l * sz' + i)) (by simp; omega) (by omega) hnil' hp (fun x hx => hsz x (List.mem_of_mem_take (List.mem_of_mem_drop hx))) (fun i hi => ?_) (fun i x j c hx hc => ?_)
   ·have hb : l * sz' + i < len * sz' := by
     have : l * sz' + (h - l) * sz' = h * sz' := by rw [← Nat.add_mul]; congr 1; omega
     have h3 : h * sz' ≤ len * sz' := Nat.mul_le_mul_right _ (by omega)
     omega
    obtain ⟨a, rfl, hk, hc⟩ := hA _ hb
    have hne : cap ≠ l := by
     intro e
     have : h - l = 0 := by omega
     rw [this] at hi; simp at hi
    rw [if_neg hne]
    refine ⟨a.add (l * sz'), rfl, ?_, ?_⟩
    ·rw [(add_block a _).1, (add_block a _).2, Nat.add_assoc]; exact hk
    ·rw [add_add _ _ _ (.inr trivial)]; exact hc
   ·rw [List.getElem?_drop, List.getElem?_take] at hx
    split at hx
    ·have := hh (l + i) x j c hx hc
     rw [Nat.add_mul] at this
     simpa [Nat.add_assoc] using this
    ·simp at hx
theorem slice_run {E : Env} (hE : EnvOK E) {t : Nat} {v : Value} {p z : PV} {lo hi : Option Value} {plo phi : Option PV} (h : sliceF E t p plo phi = some z) (hv : Rep w ok m tk v p) (hlo : RepO w ok m tk lo plo) (hhi : RepO w ok m tk hi phi) :
  ∃ r, (Instr.sliceAt t v lo hi none).run E.P w = .ok r w ∧ Rep w ok m tk r z := by
 unfold sliceF at h
 split at h
 ·rename_i sz zz bb hT
  obtain ⟨ti, d, zv, zs, h1, h2, h3, h5, h4⟩ := ty_parts hE hT
  cases d <;> simp [kindOf] at h4
  split at h
  ·rename_i s
   obtain rfl := hv.str_inv
   split at h
   ·rename_i l hh hl hhh
    split at h
    ·rename_i hc
     have hc : 0 ≤ l ∧ l ≤ hh ∧ hh ≤ s.size := by simpa using hc
     injection h with h; subst h
     have hb := bounds_run (P := E.P) (s := false) hlo hhi hl hhh hc.1 hc.2.1 hc.2.2 (Nat.le_refl _)
     refine ⟨_, ?_, .mkStr _⟩
     simp only [Instr.sliceAt, Instr.slice, Sem.run_bind, run_underlying h2, Result.andThen_ok, hb]
     simp
     rw [hb]
     simp
    ·cases h
   ·cases h
  ·cases h
 ·rename_i e sz zz bb hT
  obtain ⟨ti, d, zv, zs, h1, h2, h3, h5, h4⟩ := ty_parts hE hT
  cases d <;> simp [kindOf] at h4
  rename_i e'
  obtain ⟨rfl, -⟩ := h4
  split at h
  ·rename_i ei xs hei hx
   obtain ⟨-, -, -, hs, -, -⟩ := ty_run (w := w) (ok := ok) hE hei
   have hr := hv.toRow hx
   split at h
   ·rename_i l hh hl hhh
    split at h
    ·rename_i hc
     have hc : 0 ≤ l ∧ l ≤ hh ∧ hh ≤ xs.length := by simpa using hc
     split at h
     ·rename_i hz
      have hz : ∀ x ∈ xs, x.length = ei.size := by simpa using hz
      injection h with h; subst h
      cases hq : v with
      | slice A len cap =>
       rw [hq] at hr
       have hlc : len = xs.length ∧ len ≤ cap := by cases hr with | row _ _ _ _ _ _ a b => exact ⟨a, b⟩
       have hb := bounds_run (P := E.P) (s := true) (len := len) (cap := cap) hlo hhi hl (by rw [hlc.1]; exact hhh) hc.1 hc.2.1 (by rw [hlc.1]; exact hc.2.2) hlc.2
       refine ⟨_, ?_, .c _ _ (row_cut hr hz (l := l.toNat) (h := hh.toNat) (by omega) (by omega))⟩
       simp only [Instr.sliceAt, Instr.slice, Sem.run_bind, run_underlying h2, Result.andThen_ok, hb, hs]
       rfl
      | _ => rw [hq] at hr; cases hr
     ·cases h
    ·cases h
   ·cases h
  ·cases h
 ·cases h
theorem row_clip {A : Option Addr} {len cap : Nat} {xs : List (List CV)} {h : Nat} (hr : RepC w ok (.slice A len cap) (.row xs)) (h2 : h ≤ xs.length) : RepC w ok (.slice A h h) (.row (xs.take h)) := by
 cases hr with
 | row _ _ _ _ sz vs hl hcap hnil hp hsz hA hh =>
  refine .row A h h _ sz vs (by simp; omega) (Nat.le_refl _) (fun e => by have := hnil e; omega) hp (fun x hx => hsz x (List.mem_of_mem_take hx)) (fun i hi => hA i (Nat.lt_of_lt_of_le hi (Nat.mul_le_mul_right _ (by omega)))) (fun i x j c hx hc => ?_)
  rw [List.getElem?_take] at hx
  split at hx
  ·exact hh i x j c hx hc
  ·simp at hx
theorem bounds_run3 {P : Program} {lo : Option Value} {vh vm : Value} {plo : Option PV} {ph pm : PV} {len cap : Nat} {l h : Int} (hlo : RepO w ok m tk lo plo) (hhi : Rep w ok m tk vh ph) (hmx : Rep w ok m tk vm pm) (hl : bndF 0 plo = some l) (hh : bndF 0 (some ph) = some h) (hm : bndF 0 (some pm) = some h)
  (h0 : 0 ≤ l) (h1 : l ≤ h) (h2 : h ≤ len) (hcap : len ≤ cap) : (Instr.sliceBounds true len cap lo (some vh) (some vm)).run P w = .ok (l.toNat, h.toNat, h.toNat) w := by
 have e1 := bound_run (P := P) (w := w) hmx hm cap .slice3Acap (by omega) (by omega)
 have e2 := bound_run (P := P) (w := w) hhi hh h.toNat .slice3B (by omega) (by omega)
 cases lo with
 | none =>
  cases plo with
  | some _ => exact hlo.elim
  | none => simp [bndF] at hl; subst hl; simp [Instr.sliceBounds, e1, e2]
 | some v =>
  cases plo with
  | none => exact hlo.elim
  | some q =>
   have e3 := bound_run (P := P) (w := w) hlo hl h.toNat .slice3C h0 (by omega)
   simp [Instr.sliceBounds, e1, e2, e3]
theorem slice3_run {E : Env} (hE : EnvOK E) {t : Nat} {v vh vm : Value} {p ph pm z : PV} {lo : Option Value} {plo : Option PV} (h : slice3F E t p plo ph pm = some z) (hv : Rep w ok m tk v p) (hlo : RepO w ok m tk lo plo) (hhi : Rep w ok m tk vh ph) (hmx : Rep w ok m tk vm pm) :
  ∃ r, (Instr.sliceAt t v lo (some vh) (some vm)).run E.P w = .ok r w ∧ Rep w ok m tk r z := by
 unfold slice3F at h
 split at h
 ·rename_i e sz zz bb hT
  obtain ⟨ti, d, zv, zs, h1, h2, h3, h5, h4⟩ := ty_parts hE hT
  cases d <;> simp [kindOf] at h4
  rename_i e'
  obtain ⟨rfl, -⟩ := h4
  split at h
  ·rename_i ei xs hei hx
   obtain ⟨-, -, -, hs, -, -⟩ := ty_run (w := w) (ok := ok) hE hei
   have hr := hv.toRow hx
   split at h
   ·rename_i l hh hm hl hhh hmm
    split at h
    ·rename_i hc
     have hc : 0 ≤ l ∧ l ≤ hh ∧ hh ≤ xs.length ∧ hm = hh := by simpa using hc
     obtain ⟨c1, c2, c3, rfl⟩ := hc
     split at h
     ·rename_i hz
      have hz : ∀ x ∈ xs, x.length = ei.size := by simpa using hz
      injection h with h; subst h
      cases hq : v with
      | slice A len cap =>
       rw [hq] at hr
       have hlc : len = xs.length ∧ len ≤ cap := by cases hr with | row _ _ _ _ _ _ a b => exact ⟨a, b⟩
       have hb := bounds_run3 (P := E.P) (len := len) (cap := cap) hlo hhi hmx hl hhh hmm c1 c2 (by rw [hlc.1]; exact c3) hlc.2
       have hcut := row_cut (row_clip hr (h := hm.toNat) (by omega)) (fun x hx => hz x (List.mem_of_mem_take hx)) (l := l.toNat) (h := hm.toNat) (by omega) (by rw [List.length_take]; omega)
       rw [List.take_take, Nat.min_self] at hcut
       refine ⟨_, ?_, .full _ _ _ hcut⟩
       simp only [Instr.sliceAt, Instr.slice, Sem.run_bind, run_underlying h2, Result.andThen_ok, hb, hs]
       rfl
      | _ => rw [hq] at hr; cases hr
     ·cases h
    ·cases h
   ·cases h
  ·cases h
 ·cases h
theorem len_run {E : Env} (hE : EnvOK E) {t : Nat} {ts : Array TypeId} {ty : TypeId} {v : Value} {p z : PV} (ht : ts[0]? = some t) (h : lenF (E.T t) p = some z) (hv : Rep w ok m tk v p) :
  ∃ r, (Builtin.len_ ts ty #[v]).run E.P w = .ok r w ∧ Rep w ok m tk r z := by
 unfold lenF at h
 split at h
 ·rename_i sz zz bb hT
  obtain ⟨ti, d, zv, zs, h1, h2, h3, h5, h4⟩ := ty_parts hE hT
  cases d <;> simp [kindOf] at h4
  split at h
  ·rename_i s
   obtain rfl := hv.str_inv
   injection h with h; subst h
   exact ⟨_, by simp [Builtin.len_, ht, run_underlying h2, goInt], .mkInt _ _⟩
  ·cases h
 ·rename_i n e sz zz bb hT
  obtain ⟨ti, d, zv, zs, h1, h2, h3, h5, h4⟩ := ty_parts hE hT
  cases d <;> simp [kindOf] at h4
  obtain ⟨⟨rfl, rfl⟩, -⟩ := h4
  injection h with h; subst h
  refine ⟨_, ?_, .mkInt _ _⟩
  cases v <;> simp [Builtin.len_, ht, run_underlying h2, goInt]
 ·rename_i e sz zz bb hT
  obtain ⟨ti, d, zv, zs, h1, h2, h3, h5, h4⟩ := ty_parts hE hT
  cases d <;> simp [kindOf] at h4
  split at h
  ·injection h with h; subst h
   cases hv with
   | brow _ _ b cap hm hc => exact ⟨_, by simp [Builtin.len_, ht, run_underlying h2, goInt], .mkInt _ _⟩
  ·injection h with h; subst h
   cases hv with
   | stk A len cap _ _ hl => subst hl; exact ⟨_, by simp [Builtin.len_, ht, run_underlying h2, goInt], .mkInt _ _⟩
  ·split at h
   ·rename_i xs hx
    have hr := hv.toRow hx
    injection h with h; subst h
    cases hq : v with
    | slice A len cap =>
     rw [hq] at hr
     have hlc : len = xs.length := by cases hr with | row _ _ _ _ _ _ a b => exact a
     subst hlc
     exact ⟨_, by simp [Builtin.len_, ht, run_underlying h2, goInt], .mkInt _ _⟩
    | _ => rw [hq] at hr; cases hr
   ·cases h
 ·cases h
theorem maxG_run {P : Program} (k : IntKind) : ∀ (ps : List PV) (vs : List Value) (a z : Int), RepL (Rep w ok m tk) vs ps → maxG a ps = some z → (vs.foldlM Builtin.max2 (.int k a)).run P w = .ok (.int k z) w
 | [], [], a, z, hr, h => by simp [maxG] at h; subst h; simp
 | [], _ :: _, _, _, hr, _ => by simp [RepL] at hr
 | _ :: _, [], _, _, hr, _ => by simp [RepL] at hr
 | p :: ps, v :: vs, a, z, hr, h => by
  unfold maxG at h
  split at h
  ·rename_i he; cases he
  ·rename_i k' b r he
   injection he with h1 h2; subst h1; subst h2
   obtain rfl := hr.head.int_inv
   simp only [List.foldlM_cons, Builtin.max2, Sem.run_bind, Sem.run_pure, Result.andThen_ok]
   exact maxG_run k _ vs _ z hr.tail h
  ·cases h
theorem minG_run {P : Program} (k : IntKind) : ∀ (ps : List PV) (vs : List Value) (a z : Int), RepL (Rep w ok m tk) vs ps → minG a ps = some z → (vs.foldlM Builtin.min2 (.int k a)).run P w = .ok (.int k z) w
 | [], [], a, z, hr, h => by simp [minG] at h; subst h; simp
 | [], _ :: _, _, _, hr, _ => by simp [RepL] at hr
 | _ :: _, [], _, _, hr, _ => by simp [RepL] at hr
 | p :: ps, v :: vs, a, z, hr, h => by
  unfold minG at h
  split at h
  ·rename_i he; cases he
  ·rename_i k' b r he
   injection he with h1 h2; subst h1; subst h2
   obtain rfl := hr.head.int_inv
   simp only [List.foldlM_cons, Builtin.min2, Sem.run_bind, Sem.run_pure, Result.andThen_ok]
   exact minG_run k _ vs _ z hr.tail h
  ·cases h
theorem max_run {P : Program} {ts : Array TypeId} {ty : TypeId} {vs : List Value} {ps : List PV} {z : PV} (h : maxF ps = some z) (hv : RepL (Rep w ok m tk) vs ps) : ∃ r, (Builtin.max_ ts ty vs.toArray).run P w = .ok r w ∧ Rep w ok m tk r z := by
 unfold maxF at h
 split at h
 ·rename_i k a r
  split at h
  ·rename_i z' hz
   injection h with h; subst h
   cases vs with
   | nil => simp [RepL] at hv
   | cons v vs =>
    obtain rfl := hv.head.int_inv
    exact ⟨_, by simpa [Builtin.max_] using maxG_run k _ vs a z' hv.tail hz, .mkInt _ _⟩
  ·cases h
 ·cases h
theorem min_run {P : Program} {ts : Array TypeId} {ty : TypeId} {vs : List Value} {ps : List PV} {z : PV} (h : minF ps = some z) (hv : RepL (Rep w ok m tk) vs ps) : ∃ r, (Builtin.min_ ts ty vs.toArray).run P w = .ok r w ∧ Rep w ok m tk r z := by
 unfold minF at h
 split at h
 ·rename_i k a r
  split at h
  ·rename_i z' hz
   injection h with h; subst h
   cases vs with
   | nil => simp [RepL] at hv
   | cons v vs =>
    obtain rfl := hv.head.int_inv
    exact ⟨_, by simpa [Builtin.min_] using minG_run k _ vs a z' hv.tail hz, .mkInt _ _⟩
  ·cases h
 ·cases h
theorem bytesF_at : ∀ (xs : List (List CV)) (l : List UInt8), bytesF xs = some l → l.length = xs.length ∧ ∀ j (hj : j < l.length), xs[j]? = some [.int .u8 (l[j].toNat : Int)]
 | [], l, h => by simp [bytesF] at h; subst h; exact ⟨rfl, fun j hj => by simp at hj⟩
 | x :: r, l, h => by
  unfold bytesF at h
  split at h
  ·rename_i heq; cases heq
  ·rename_i n r' heq
   injection heq with e1 e2
   subst e1; subst e2
   split at h
   ·rename_i l' hn hr'
    injection h with h; subst h
    obtain ⟨i1, i2⟩ := bytesF_at _ l' hr'
    have hn : 0 ≤ n ∧ n < 256 := by simpa using hn
    refine ⟨by simp [i1], fun j hj => ?_⟩
    cases j with
    | zero =>
     have : ((UInt8.ofNat n.toNat).toNat : Int) = n := by
      have : n.toNat % 256 = n.toNat := by omega
      simp [this]; omega
     show some _ = some _
     rw [List.getElem_cons_zero, this]
    | succ j => simpa using i2 j (by simpa using hj)
   ·cases h
  ·cases h
theorem conv_run {E : Env} (hE : EnvOK E) {s d : Nat} {v : Value} {p z : PV} (h : convF E s d p = some z) (hv : Rep w ok m tk v p) : ∃ r, (convert s d v).run E.P w = .ok r w ∧ Rep w ok m tk r z := by
 unfold convF at h
 split at h
 ·rename_i si k sz zz bb hs hd
  obtain ⟨ti, d', zv, zs, h1, h2, h3, h5, h4⟩ := ty_parts hE hd
  obtain ⟨ti', d'', zv', zs', h1', h2', h3', h5', h4'⟩ := ty_parts hE hs
  cases d' <;> simp [kindOf] at h4
  obtain ⟨rfl, -⟩ := h4
  split at h
  ·obtain rfl := hv.int_inv
   injection h with h; subst h
   exact ⟨_, by simp [convert, run_underlying h2, run_underlying h2', Conv.intToInt], .mkInt _ _⟩
  ·cases h
 ·rename_i si sz zz bb hs hd
  obtain ⟨ti, d', zv, zs, h1, h2, h3, h5, h4⟩ := ty_parts hE hd
  obtain ⟨ti', d'', zv', zs', h1', h2', h3', h5', h4'⟩ := ty_parts hE hs
  cases d' <;> simp [kindOf] at h4
  split at h
  ·obtain rfl := hv.str_inv
   injection h with h; subst h
   exact ⟨_, by simp [convert, run_underlying h2, run_underlying h2'], .mkStr _⟩
  ·rename_i xs
   split at h
   ·rename_i e l hk hb
    split at h
    ·rename_i _ z1 z2 z3 he
     injection h with h; subst h
     obtain ⟨te, de, ze, zse, k1, k2, k3, k5, k4⟩ := ty_parts hE he
     cases de <;> simp [kindOf] at k4
     obtain ⟨rfl, -⟩ := k4
     rw [h4'] at hk
     cases d'' <;> simp [kindOf] at hk
     subst hk
     refine ⟨_, ?_, .mkStr _⟩
     cases hv with
     | c _ _ hv =>
      cases hv with
      | row A len cap _ sz vs hl hcap hnil hpos hsz hA hr =>
       cases A with
       | none =>
        have hc0 := hnil rfl
        have : xs = [] := List.length_eq_zero_iff.1 (by omega)
        subst this
        simp [bytesF] at hb; subst hb
        rw [run_convert_bytes_string w _ _ _ none len cap h2' k2 h2]
        simp [Conv.bytesToString]
        rfl
       | some a =>
        obtain ⟨i1, i2⟩ := bytesF_at xs l hb
        have hlen : len = l.length := by omega
        subst hlen
        refine run_convert_bytes_back w _ _ _ a cap l h2' k2 h2 (fun j hj => ?_)
        have h6 := i2 j hj
        have hs1 : sz = 1 := by have := hsz _ (List.mem_of_getElem? h6); simpa using this.symm
        subst hs1
        obtain ⟨a', ha', -, hcell⟩ := hA j (by omega)
        injection ha' with ha'; subst ha'
        rw [hcell]
        have h7 := hr j _ 0 _ h6 rfl
        simp at h7
        generalize vs j = x at h7
        cases h7
        rfl
    ·cases h
   ·cases h
  ·cases h
 ·cases h
end
end Go.Proofs.YtgpkppohfodhdaaGreatDoor.Pm
namespace Go.Proofs.YtgpkppohfodhdaaGreatDoor.Pm
open Go Go.RowKit
set_option linter.unusedVariables false
set_option linter.unusedSimpArgs false
theorem seg_fold (off : Nat) : ∀ (l : List Value) (k : Nat) (arr : Array Value), off + k + l.length ≤ arr.size →
  ((l.zipIdx k).foldl (fun (cs : Array Value) (x : Value × Nat) => cs.setIfInBounds (off + x.2) x.1) arr).toList = arr.toList.take (off + k) ++ l ++ arr.toList.drop (off + k + l.length)
 | [], k, arr, h => by simp
 | v :: l, k, arr, h => by
  simp only [List.zipIdx_cons, List.foldl_cons]
  rw [seg_fold off l (k + 1) _ (by simp at h ⊢; omega)]
  have e := list_seg_step arr.toList (off + k) v l (by simp at h ⊢; omega)
  simpa [Array.toList_setIfInBounds, Nat.add_assoc] using e
section
variable {w : World} {ok : Nat → Nat → Prop} {m : List (Option Nat)} {tk : List TokR}
theorem RepL.splice {α : Type} {R : Value → α → Prop} {cs us : List Value} {ds ps : List α} (h : RepL R cs ds) (g : RepL R us ps) (off : Nat) : RepL R (Pm.splice cs off us) (Pm.splice ds off ps) := by
 unfold Pm.splice
 rw [g.1]
 exact ((h.take off).append g).append (h.drop _)
theorem fill_step (cells : Array Value) (v : Value) (off : Nat) (h : off + v.cells.size ≤ cells.size) :
  (v.cells.zipIdx.foldl (fun (cs : Array Value) (x : Value × Nat) => cs.setIfInBounds (off + x.2) x.1) cells).toList = splice cells.toList off v.cells.toList := by
 rw [← Array.foldl_toList, Array.toList_zipIdx, seg_fold off _ 0 _ (by simpa using h)]
 simp [splice]
theorem fill_run {place : Nat → Option (Nat × Nat)} : ∀ (ps : List (Nat × PV)) (vs : List (Nat × Value)) (cells : Array Value) (ds cs : List CV), RepL (RepC w ok) cells.toList ds → vs.map (·.1) = ps.map (·.1) → RepL (Rep w ok m tk) (vs.map (·.2)) (ps.map (·.2)) → fillF place ds ps = some cs →
  ∃ out, Instr.fill place cells vs = some out ∧ RepL (RepC w ok) out.toList cs
 | [], [], cells, ds, cs, hr, _, _, h => by simp [fillF] at h; subst h; exact ⟨cells, rfl, hr⟩
 | [], _ :: _, _, _, _, _, h1, _, _ => by simp at h1
 | _ :: _, [], _, _, _, _, h1, _, _ => by simp at h1
 | (i, p) :: ps, (i', v) :: vs, cells, ds, cs, hr, h1, h2, h => by
  simp at h1
  obtain ⟨rfl, h1⟩ := h1
  unfold fillF at h
  split at h
  ·rename_i off sz us hp hu
   split at h
   ·rename_i hc
    have hc : us.length = sz ∧ off + us.length ≤ ds.length := by simpa using hc
    have hv : RepL (RepC w ok) v.cells.toList us := (h2.head).cellsC hu
    have hl : v.cells.size = us.length := by simpa using hv.1
    have hcl : cells.size = ds.length := by simpa using hr.1
    have e := fill_step cells v off (by omega)
    obtain ⟨out, ho, hr'⟩ := fill_run ps vs (v.cells.zipIdx.foldl (fun (cs : Array Value) (x : Value × Nat) => cs.setIfInBounds (off + x.2) x.1) cells) (splice ds off us) cs (by rw [e]; exact hr.splice hv off) h1 h2.tail h
    refine ⟨out, ?_, hr'⟩
    simp only [Instr.fill, hp]
    rw [if_neg (by simp; omega)]
    exact ho
   ·cases h
  ·cases h
theorem places_run {E : Env} (hE : EnvOK E) : ∀ (fs : List Field) (pl : List (Nat × Nat)), placesF E (fs.map fun f => (f.offset, f.type)) = some pl → ∀ w, (fs.mapM (fun f => do pure (f.offset, ← sizeOf f.type) : Field → Sem (Nat × Nat))).run E.P w = .ok pl w
 | [], pl, h, w => by simp [placesF] at h; subst h; simp
 | f :: fs, pl, h, w => by
  simp only [List.map_cons, placesF] at h
  split at h
  ·rename_i ti l hT hl
   injection h with h; subst h
   obtain ⟨-, -, -, hs, -, -⟩ := ty_run (w := w) (ok := fun _ _ => True) hE hT
   have ih := places_run hE fs l hl w
   simp only [List.mapM_cons, Sem.run_bind, hs, Result.andThen_ok, Sem.run_pure, ih]
  ·cases h
theorem build_run {E : Env} (hE : EnvOK E) {t : Nat} {ps : List (Nat × PV)} {vs : Array (Nat × Value)} {z : PV} (h : buildF E t ps = some z) (h1 : vs.toList.map (·.1) = ps.map (·.1)) (h2 : RepL (Rep w ok m tk) (vs.toList.map (·.2)) (ps.map (·.2))) :
  ∃ r, (Instr.build t vs).run E.P w = .ok r w ∧ Rep w ok m tk r z := by
 unfold buildF at h
 split at h
 ·rename_i fs sz zz bb hT
  obtain ⟨d, hu, hk, hs, ha, zv, hz, hzr, -⟩ := ty_run (w := w) (ok := ok) hE hT
  cases d <;> simp [kindOf] at hk
  rename_i fa
  subst hk
  split at h
  ·rename_i pl hpl
   split at h
   ·rename_i cs hcs
    injection h with h; subst h
    have hp := places_run hE fa.toList pl hpl w
    obtain ⟨out, ho, hr⟩ := fill_run ps vs.toList zv.cells zz cs hzr h1 h2 hcs
    refine ⟨.agg out, ?_, .agg _ _ hr⟩
    have hpa : (fa.mapM (fun f => do pure (f.offset, ← sizeOf f.type) : Field → Sem (Nat × Nat))).run E.P w = .ok pl.toArray w := by
     rw [Array.mapM_eq_mapM_toList]
     simp only [Sem.run_map, hp, Result.andThen_ok]
    simp only [Instr.build, Sem.run_bind, hz, Result.andThen_ok, hu, hpa]
    have ho' : Instr.fill (fun x => pl.toArray[x]?) zv.cells vs.toList = some out := by simpa using ho
    rw [ho']
    rfl
   ·cases h
  ·cases h
 ·rename_i n e sz zz bb hT
  obtain ⟨d, hu, hk, hs, ha, zv, hz, hzr, -⟩ := ty_run (w := w) (ok := ok) hE hT
  cases d <;> simp [kindOf] at hk
  obtain ⟨rfl, rfl⟩ := hk
  split at h
  ·rename_i ei hei
   obtain ⟨-, -, -, hse, -, -⟩ := ty_run (w := w) (ok := ok) hE hei
   split at h
   ·rename_i cs hcs
    injection h with h; subst h
    obtain ⟨out, ho, hr⟩ := fill_run ps vs.toList zv.cells zz cs hzr h1 h2 hcs
    refine ⟨.agg out, ?_, .agg _ _ hr⟩
    simp only [Instr.build, Sem.run_bind, hz, Result.andThen_ok, hu, hse, ho]
    rfl
   ·cases h
  ·cases h
 ·cases h
theorem flat_set {sz : Nat} : ∀ (xs : List (List CV)) (i : Nat) (vs : List CV), (∀ x ∈ xs, x.length = sz) → vs.length = sz → i < xs.length → splice xs.flatten (i * sz) vs = (xs.set i vs).flatten
 | [], i, vs, _, _, hi => by simp at hi
 | x :: xs, 0, vs, hx, hv, _ => by
  have : x.length = sz := hx x (by simp)
  simp [splice, hv, ← this]
 | x :: xs, i + 1, vs, hx, hv, hi => by
  have hl : x.length = sz := hx x (by simp)
  have ih := flat_set xs i vs (fun y hy => hx y (by simp [hy])) hv (by simpa using hi)
  unfold splice at ih ⊢
  simp only [List.flatten_cons, List.set_cons_succ, ← ih]
  have e1 : (i + 1) * sz = x.length + i * sz := by rw [Nat.succ_mul, hl, Nat.add_comm]
  rw [e1, Nat.add_assoc, List.take_length_add_append, List.drop_length_add_append]
  simp
theorem flat_length {sz : Nat} : ∀ (xs : List (List CV)), (∀ x ∈ xs, x.length = sz) → xs.flatten.length = xs.length * sz
 | [], _ => by simp
 | x :: xs, hx => by
  have := flat_length xs (fun y hy => hx y (by simp [hy]))
  have hl : x.length = sz := hx x (by simp)
  simp [this, hl, Nat.succ_mul, Nat.add_comm]
theorem flat_get {sz : Nat} : ∀ (xs : List (List CV)) (i j : Nat) (x : List CV) (c : CV), (∀ x ∈ xs, x.length = sz) → xs[i]? = some x → x[j]? = some c → xs.flatten[i * sz + j]? = some c
 | [], i, j, x, c, _, h, _ => by simp at h
 | y :: xs, 0, j, x, c, hx, h, hc => by
  simp at h; subst h
  have : j < y.length := (List.getElem?_eq_some_iff.1 hc).1
  simp [List.getElem?_append_left this, hc]
 | y :: xs, i + 1, j, x, c, hx, h, hc => by
  have hl : y.length = sz := hx y (by simp)
  have ih := flat_get xs i j x c (fun z hz => hx z (by simp [hz])) (by simpa using h) hc
  rw [List.flatten_cons, List.getElem?_append_right (by rw [Nat.succ_mul, hl]; omega)]
  rw [show (i + 1) * sz + j - y.length = i * sz + j by rw [Nat.succ_mul, hl]; omega]
  exact ih
theorem rows_fill {sz n : Nat} : ∀ (ps : List (Nat × PV)) (xs ys : List (List CV)), xs.length = n → (∀ x ∈ xs, x.length = sz) → rowsF sz n xs ps = some ys → fillF (fun i => some (i * sz, sz)) xs.flatten ps = some ys.flatten ∧ ys.length = n ∧ ∀ y ∈ ys, y.length = sz
 | [], xs, ys, hn, hx, h => by simp [rowsF] at h; subst h; exact ⟨rfl, hn, hx⟩
 | (i, p) :: ps, xs, ys, hn, hx, h => by
  unfold rowsF at h
  split at h
  ·rename_i vs hv
   split at h
   ·rename_i hc
    have hc : vs.length = sz ∧ i < n := by simpa using hc
    obtain ⟨h1, h2, h3⟩ := rows_fill ps (xs.set i vs) ys (by simpa using hn) (fun x hm => by
     rcases List.mem_or_eq_of_mem_set hm with hm | rfl
     ·exact hx x hm
     ·exact hc.1) h
    refine ⟨?_, h2, h3⟩
    have hb : i * sz + vs.length ≤ xs.flatten.length := by
     rw [flat_length xs hx, hc.1]
     calc i * sz + sz = (i + 1) * sz := by rw [Nat.succ_mul]
      _ ≤ xs.length * sz := Nat.mul_le_mul_right _ (by omega)
    have hd : decide (vs.length = sz ∧ i * sz + vs.length ≤ xs.flatten.length) = true := by simp [hc.1]; rw [hc.1] at hb; simpa using hb
    unfold fillF
    simp only [hv, hd]
    rw [flat_set xs i vs hx hc.1 (by omega)]
    exact h1
   ·cases h
  ·cases h
theorem zero_cells (n : Nat) (zero : Array Value) (z : List CV) (hz : RepL (RepC w ok) zero.toList z) (hp : 0 < z.length) :
  RepL (RepC w ok) ((Array.range (n * z.length)).map (zero[· % zero.size]!)).toList (List.replicate n z).flatten := by
 have hs : zero.size = z.length := by simpa using hz.1
 have hl : (List.replicate n z).flatten.length = n * z.length := by simp
 refine ⟨by simp [hl], fun i v c hv hc => ?_⟩
 have hi : i < n * z.length := by rw [← hl]; exact (List.getElem?_eq_some_iff.1 hc).1
 have hi2 : i / z.length < n := Nat.div_lt_of_lt_mul (by rw [Nat.mul_comm]; exact hi)
 have hm : i % z.length < z.length := Nat.mod_lt _ hp
 have hc2 := flat_get (sz := z.length) (List.replicate n z) (i / z.length) (i % z.length) z _ (fun x hx => by rw [(List.mem_replicate.1 hx).2]) (by rw [List.getElem?_replicate]; simp [hi2]) (List.getElem?_eq_getElem hm)
 rw [Nat.div_add_mod' i z.length] at hc2
 rw [hc2] at hc
 injection hc with hc; subst hc
 have hv' : v = zero[i % zero.size]! := by
  simp only [Array.toList_map, Array.toList_range, List.getElem?_map, List.getElem?_range hi] at hv
  simpa using hv.symm
 subst hv'
 refine hz.2 (i % z.length) _ _ ?_ (List.getElem?_eq_getElem hm)
 rw [hs]
 have : i % z.length < zero.size := by rw [hs]; exact hm
 simp [this]
theorem buildSlice_run {E : Env} (hE : EnvOK E) {t n : Nat} {ps : List (Nat × PV)} {vs : Array (Nat × Value)} {ys : List (List CV)} (h : buildSliceF E t n ps = some ys) (h1 : vs.toList.map (·.1) = ps.map (·.1)) (h2 : RepL (Rep w ok m tk) (vs.toList.map (·.2)) (ps.map (·.2))) :
  ∃ (out : Array Value) (e : TypeId) (sz : Nat), (Instr.buildSlice t n vs).run E.P w = .ok (.slice (some ⟨w.heap.size, 0, none⟩) n n) (w.alloc (.cells out e)) ∧ RepL (RepC w ok) out.toList ys.flatten ∧ ys.length = n ∧ (∀ y ∈ ys, y.length = sz) ∧ 0 < sz := by
 unfold buildSliceF at h
 split at h
 ·rename_i e sz zz bb hT
  obtain ⟨d, hu, hk, hs, ha, zv, hz, hzr, -⟩ := ty_run (w := w) (ok := ok) hE hT
  cases d <;> simp [kindOf] at hk
  subst hk
  split at h
  ·rename_i ei hei
   obtain ⟨-, -, -, hse, -, ze, hze, hzer, -⟩ := ty_run (w := w) (ok := ok) hE hei
   split at h
   ·rename_i hc
    have hc : 0 < ei.size ∧ n * ei.size ≤ 16777216 ∧ ei.zero.length = ei.size := by simpa using hc
    obtain ⟨h3, h4, h5⟩ := rows_fill ps (List.replicate n ei.zero) ys (by simp) (fun x hx => by rw [(List.mem_replicate.1 hx).2]; exact hc.2.2) h
    have hz0 := zero_cells n ze.cells ei.zero hzer (by omega)
    rw [hc.2.2] at hz0
    obtain ⟨out, ho, hr⟩ := fill_run (m := m) (tk := tk) ps vs.toList _ _ _ hz0 h1 h2 h3
    refine ⟨out, e, ei.size, ?_, hr, h4, h5, hc.1⟩
    simp only [Instr.buildSlice, Sem.run_bind, hu, Result.andThen_ok, hse]
    by_cases hn0 : n * ei.size = 0
    ·have hn : n = 0 := by
      rcases Nat.mul_eq_zero.1 hn0 with h | h
      ·exact h
      ·omega
     subst hn
     have e0 : Array.range 0 = #[] := rfl
     simp only [Nat.zero_mul, e0, Array.map_empty] at ho ⊢
     simp [ho, newRow]
    ·rw [if_neg (by omega), if_neg hn0]
     simp only [Sem.run_bind, hze, Result.andThen_ok, Sem.run_pure, ho]
     simp [newRow]
   ·cases h
  ·cases h
 ·cases h
end
end Go.Proofs.YtgpkppohfodhdaaGreatDoor.Pm
namespace Go.Proofs.YtgpkppohfodhdaaGreatDoor.Pm
open Go Go.RowKit
set_option linter.unusedVariables false
set_option linter.unusedSimpArgs false
structure Base where
 w0 : World
 ok0 : Nat → Nat → Prop
 m0 : List Nat
 g0 : List Nat
def StkAt (H : List (List PV)) (m : List (Option Nat)) (w : World) (i j : Nat) (v : Value) (e : Nat) (xs : List (List CV)) : Prop :=
 ∃ (b : Nat) (cs : List PV) (arr : Array Value) (ty : TypeId), m[i]? = some (some b) ∧ H[i]? = some cs ∧ w.heap[b]? = some (.cells arr ty (0, 0)) ∧ arr.toList[j]? = some v ∧ cs[j]? = some (.stk e xs)
def FrB (cs : List PV) (ty : TypeId) : Prop := ∀ t, cs[0]? = some (.fresh t) → ty = t
def Alone (m : List (Option Nat)) (tk : List TokR) (ok : Nat → Nat → Prop) (g : Nat) : Prop :=
 (∀ o, ¬ ok g o) ∧ (∀ i : Nat, m[i]? ≠ some (some g)) ∧ ∀ (t : Nat) (r : TokR), tk[t]? = some r → (Value.slice r.A r.len r.cap).ownBlock ≠ some g
def OwnR (E : Env) (B : Base) (m : List (Option Nat)) (tk : List TokR) (ok : Nat → Nat → Prop) (w : World) (v : Value) (e : Nat) (xs : List (List CV)) : Prop :=
 ∃ (sz : Nat) (us : List Value), w.ownsRow E.P.globals.size e sz v xs.length us ∧ RepL (RepC w ok) us xs.flatten ∧ (∀ x ∈ xs, x.length = sz) ∧ (∀ ei, E.T e = some ei → sz = ei.size) ∧
  ∀ g, v.ownBlock = some g → Alone m tk ok g ∧ (g ∈ B.g0 ∨ B.w0.heap.size ≤ g)
structure Stks (E : Env) (B : Base) (H : List (List PV)) (m : List (Option Nat)) (tk : List TokR) (ok : Nat → Nat → Prop) (w : World) : Prop where
 own : ∀ i j v e xs, StkAt H m w i j v e xs → OwnR E B m tk ok w v e xs
 inj : ∀ i j v e xs i' j' v' e' xs' g, StkAt H m w i j v e xs → StkAt H m w i' j' v' e' xs' → v.ownBlock = some g → v'.ownBlock = some g → i = i' ∧ j = j'
def Spare (B : Base) (m : List (Option Nat)) (ok : Nat → Nat → Prop) (w : World) (r : TokR) : Prop :=
 (∃ xs : List Value, w.ownsRow B.w0.heap.size r.e r.sz (.slice r.A r.len r.cap) r.len xs) ∧ ∀ g, (Value.slice r.A r.len r.cap).ownBlock = some g → (∀ i, r.len * r.sz ≤ i → ¬ ok g i) ∧ ∀ i : Nat, m[i]? ≠ some (some g)
structure Mem (E : Env) (B : Base) (H : List (List PV)) (m : List (Option Nat)) (tk : List TokR) (ok : Nat → Nat → Prop) (w : World) : Prop where
 inv : E.I w
 os : w.os = B.w0.os
 tape : w.tape = B.w0.tape
 output : w.output = B.w0.output
 size : B.w0.heap.size ≤ w.heap.size
 frame : ∀ k, k < B.w0.heap.size → k ∉ B.m0 → k ∉ B.g0 → w.heap[k]? = B.w0.heap[k]?
 okb : ∀ b o, ok b o → B.ok0 b o ∨ B.w0.heap.size ≤ b
 oks : ∀ b o, ok b o → b < w.heap.size
 len : m.length = H.length
 box : ∀ (i b : Nat), m[i]? = some (some b) → ∃ (cs : List PV) (arr : Array Value) (ty : TypeId), H[i]? = some cs ∧ w.heap[b]? = some (.cells arr ty (0, 0)) ∧ RepL (Rep w ok m tk) arr.toList cs ∧
  (∀ o, ¬ ok b o) ∧ E.P.globals.size ≤ b ∧ (b ∈ B.m0 ∨ B.w0.heap.size ≤ b) ∧ FrB cs ty
 inj : ∀ (i j b : Nat), m[i]? = some (some b) → m[j]? = some (some b) → i = j
 tok : ∀ (t : Nat) (r : TokR), tk[t]? = some r → Spare B m ok w r
 tinj : ∀ (t u : Nat) (r s : TokR) (g : Nat), tk[t]? = some r → tk[u]? = some s → (Value.slice r.A r.len r.cap).ownBlock = some g → (Value.slice s.A s.len s.cap).ownBlock = some g → t = u
 gb : E.P.globals.size ≤ B.w0.heap.size
 tsz : ∀ (t : Nat) (r : TokR) (i : TI), tk[t]? = some r → E.T r.e = some i → r.sz = i.size
 stk : Stks E B H m tk ok w
section
variable {E : Env} {B : Base} {H : List (List PV)} {m : List (Option Nat)} {tk : List TokR} {ok : Nat → Nat → Prop} {w : World}
theorem own_move {base e sz : Nat} {v : Value} {n : Nat} {us : List Value} {w' : World} (h : w.ownsRow base e sz v n us) (hb : ∀ g, v.ownBlock = some g → w'.heap[g]? = w.heap[g]?) : w'.ownsRow base e sz v n us := by
 refine ⟨h.1, ?_⟩
 rcases h.2 with hn | ⟨g, cap, cur, rfl, hbg, hgg, rest⟩
 ·exact .inl hn
 ·exact .inr ⟨g, cap, cur, rfl, hbg, by rw [hb g rfl]; exact hgg, rest⟩
theorem Stks.keep (S : Stks E B H m tk ok w) {H' : List (List PV)} {m' : List (Option Nat)} {tk' : List TokR} {ok' : Nat → Nat → Prop} {w' : World} (hat : ∀ i j v e xs, StkAt H' m' w' i j v e xs → StkAt H m w i j v e xs) (hst : Stay w ok w' ok')
  (hb : ∀ g, g < w.heap.size → Alone m tk ok g → w'.heap[g]? = w.heap[g]? ∧ Alone m' tk' ok' g) : Stks E B H' m' tk' ok' w' := by
 refine ⟨fun i j v e xs h => ?_, fun i j v e xs i' j' v' e' xs' g h h' => S.inj i j v e xs i' j' v' e' xs' g (hat _ _ _ _ _ h) (hat _ _ _ _ _ h')⟩
 obtain ⟨sz, us, ho, hr, hx, ht, hg⟩ := S.own i j v e xs (hat _ _ _ _ _ h)
 refine ⟨sz, us, own_move ho fun g hgb => (hb g (ho.lt g hgb).2 (hg g hgb).1).1, hr.mono fun _ _ h => h.stay hst, hx, ht, fun g hgb => ⟨(hb g (ho.lt g hgb).2 (hg g hgb).1).2, (hg g hgb).2⟩⟩
theorem Stks.none (hn : ∀ i j v e xs, ¬ StkAt H m w i j v e xs) : Stks E B H m tk ok w := ⟨fun i j v e xs h => absurd h (hn _ _ _ _ _), fun i j v e xs i' j' v' e' xs' g h => absurd h (hn _ _ _ _ _)⟩
theorem StkAt.nil {i j : Nat} {v : Value} {e : Nat} {xs : List (List CV)} : ¬ StkAt [] [] w i j v e xs := by
 rintro ⟨b, cs, arr, ty, h, -⟩
 simp at h
theorem Stks.nil : Stks E B [] [] tk ok w := .none fun _ _ _ _ _ => StkAt.nil
theorem Alone.mono {m' : List (Option Nat)} {tk' : List TokR} {ok' : Nat → Nat → Prop} {g : Nat} (h : Alone m tk ok g) (h1 : ∀ o, ok' g o → ok g o) (h2 : ∀ i : Nat, m'[i]? = some (some g) → ∃ j : Nat, m[j]? = some (some g)) (h3 : ∀ (t : Nat) (r : TokR), tk'[t]? = some r → (Value.slice r.A r.len r.cap).ownBlock = some g → ∃ (u : Nat) (s : TokR), tk[u]? = some s ∧ (Value.slice s.A s.len s.cap).ownBlock = some g) : Alone m' tk' ok' g :=
 ⟨fun o ho => h.1 o (h1 o ho), fun i hi => by obtain ⟨j, hj⟩ := h2 i hi; exact h.2.1 j hj, fun t r hr hg => by obtain ⟨u, s, hs, hsg⟩ := h3 t r hr hg; exact h.2.2 u s hs hsg⟩
theorem blk_lt' {w : World} {b : Nat} {o : Obj} (h : w.heap[b]? = some o) : b < w.heap.size := (Array.getElem?_eq_some_iff.1 h).1
theorem alloc_old (w : World) (o : Obj) (k : Nat) (h : k < w.heap.size) : (w.alloc o).heap[k]? = w.heap[k]? := Below.heap_alloc w o k h
theorem alloc_new (w : World) (o : Obj) : (w.alloc o).heap[w.heap.size]? = some o := by show (w.heap.push o)[w.heap.size]? = some o; simp
theorem alloc_size (w : World) (o : Obj) : (w.alloc o).heap.size = w.heap.size + 1 := by show (w.heap.push o).size = _; simp
theorem stay_of (ok' : Nat → Nat → Prop) {w' : World} (h : ∀ k, k < w.heap.size → (∃ o, ok k o) → w'.heap[k]? = w.heap[k]?) (hs : ∀ b o, ok b o → b < w.heap.size) (hk : ∀ b o, ok b o → ok' b o) : Stay w ok w' ok' :=
 ⟨fun b o hb v hv => by rw [World.cell?_of_block (w := w) (h b (hs b o hb) ⟨o, hb⟩)]; exact hv, fun b o hb es ck he => by rw [h b (hs b o hb) ⟨o, hb⟩]; exact he, hk⟩
theorem Mem.stay_alloc (M : Mem E B H m tk ok w) (o : Obj) (ok' : Nat → Nat → Prop) (hk : ∀ b o, ok b o → ok' b o) : Stay w ok (w.alloc o) ok' := stay_of ok' (fun k hk _ => alloc_old w o k hk) M.oks hk
theorem Mem.inv_of (hE : EnvOK E) (M : Mem E B H m tk ok w) {w' : World} (hs : w.heap.size ≤ w'.heap.size) (h : ∀ b, b < E.P.globals.size → w'.heap[b]? = w.heap[b]?) : E.I w' := hE.stable w w' M.inv hs h
theorem Spare.keep {m' : List (Option Nat)} {ok' : Nat → Nat → Prop} {w' : World} {row : Option Nat} {r : TokR} (h : Spare B m ok w r) (hg : w.grownBy w' row) (hne : ∀ g, (Value.slice r.A r.len r.cap).ownBlock = some g → row ≠ some g)
  (hok : ∀ g i, (Value.slice r.A r.len r.cap).ownBlock = some g → g < w.heap.size → ¬ ok g i → ¬ ok' g i) (hm : ∀ g, (Value.slice r.A r.len r.cap).ownBlock = some g → g < w.heap.size → (∀ i : Nat, m[i]? ≠ some (some g)) → ∀ i : Nat, m'[i]? ≠ some (some g)) : Spare B m' ok' w' r := by
 obtain ⟨⟨xs, ho⟩, h2⟩ := h
 refine ⟨⟨xs, ho.kept hg ?_⟩, fun g hgb => ?_⟩
 ·cases hb : (Value.slice r.A r.len r.cap).ownBlock with
  | none => exact .inl rfl
  | some g => exact .inr (Ne.symm (hne g hb))
 ·have hlt := (ho.lt g hgb).2
  exact ⟨fun i hi => hok g i hgb hlt ((h2 g hgb).1 i hi), hm g hgb hlt (h2 g hgb).2⟩
theorem Spare.lt {r : TokR} (h : Spare B m ok w r) {g : Nat} (hg : (Value.slice r.A r.len r.cap).ownBlock = some g) : g < w.heap.size := by
 obtain ⟨⟨xs, ho⟩, -⟩ := h
 exact (ho.lt g hg).2
theorem grown_draw (w : World) (n : Nat) (row : Option Nat) : w.grownBy { w with drawn := n } row := ⟨rfl, rfl, rfl, Nat.le_refl _, fun _ _ _ => rfl⟩
theorem grown_setRow (w : World) (b : Nat) (cs : Array Value) : w.grownBy (w.setRow b cs) (some b) := ⟨rfl, rfl, rfl, by simp, fun k _ hk => setRow_other w b k cs (by rintro rfl; exact hk rfl)⟩
theorem Mem.drew (hE : EnvOK E) (M : Mem E B H m tk ok w) (n : Nat) : Mem E B H m tk ok { w with drawn := n } :=
  have L : Later w ok m tk { w with drawn := n } ok m tk := .of_stay (⟨fun _ _ _ _ h => h, fun _ _ _ _ _ h => h, fun _ _ h => h⟩ : Stay w ok { w with drawn := n } ok) m tk
  ⟨M.inv_of hE (Nat.le_refl _) (fun _ _ => rfl), M.os, M.tape, M.output, M.size, M.frame, M.okb, M.oks, M.len,
   fun i b h => by obtain ⟨cs, arr, ty, h1, h2, h3, h4⟩ := M.box i b h; exact ⟨cs, arr, ty, h1, h2, h3.mono fun _ _ h => h.later L, h4⟩, M.inj,
   fun t r h => (M.tok t r h).keep (grown_draw w n none) (by simp) (fun _ _ _ _ h => h) (fun _ _ _ h => h), M.tinj, M.gb, M.tsz,
   M.stk.keep (fun _ _ _ _ _ h => h) L.stay fun g _ h => ⟨rfl, h⟩⟩
theorem Later.drew (w : World) (ok : Nat → Nat → Prop) (m : List (Option Nat)) (tk : List TokR) (n : Nat) : Later w ok m tk { w with drawn := n } ok m tk := .of_stay (⟨fun _ _ _ _ h => h, fun _ _ _ _ _ h => h, fun _ _ h => h⟩ : Stay w ok { w with drawn := n } ok) m tk
theorem Mem.row (hE : EnvOK E) (M : Mem E B H m tk ok w) (out : Array Value) (e : TypeId) :
  Mem E B H m tk (fun b o => ok b o ∨ b = w.heap.size) (w.alloc (.cells out e)) ∧ Later w ok m tk (w.alloc (.cells out e)) (fun b o => ok b o ∨ b = w.heap.size) m tk := by
 have S := M.stay_alloc (.cells out e) (fun b o => ok b o ∨ b = w.heap.size) (fun b o h => .inl h)
 have L := Later.of_stay S m tk
 have hg := hE.glob w M.inv
 refine ⟨⟨M.inv_of hE (by rw [alloc_size]; omega) (fun b hb => alloc_old w _ b (by omega)), M.os, M.tape, M.output, by have := M.size; rw [alloc_size]; omega, fun k hk hn hn' => ?_, fun b o h => ?_, fun b o h => ?_, M.len, fun i b h => ?_, M.inj, fun t r h => ?_, M.tinj, M.gb, M.tsz, ?_⟩, L⟩
 ·rw [alloc_old w _ k (by have := M.size; omega)]; exact M.frame k hk hn hn'
 ·rcases h with h | rfl
  ·exact M.okb b o h
  ·exact .inr M.size
 ·rcases h with h | rfl
  ·have := M.oks b o h; rw [alloc_size]; omega
  ·rw [alloc_size]; omega
 ·obtain ⟨cs, arr, ty, h1, h2, h3, h4, h5⟩ := M.box i b h
  have hb := blk_lt' h2
  refine ⟨cs, arr, ty, h1, by rw [alloc_old w _ b hb]; exact h2, h3.mono fun _ _ h => h.later L, fun o hk => ?_, h5⟩
  rcases hk with hk | rfl
  ·exact h4 o hk
  ·omega
 ·refine (M.tok t r h).keep (World.grownBy_alloc w _ none) (by simp) (fun g i hg hlt hn hk => ?_) (fun _ _ _ h => h)
  rcases hk with hk | hk
  ·exact hn hk
  ·omega
 ·refine M.stk.keep (fun i j v e xs h => ?_) S fun g hg h => ⟨alloc_old w _ g hg, h.mono (fun o ho => ?_) (fun i hi => ⟨i, hi⟩) (fun t r hr hg => ⟨t, r, hr, hg⟩)⟩
  ·obtain ⟨b, cs, arr, ty, h1, h2, h3, h4, h5⟩ := h
   obtain ⟨_, _, _, -, g2, -⟩ := M.box i b h1
   exact ⟨b, cs, arr, ty, h1, h2, by rw [alloc_old w _ b (blk_lt' g2)] at h3; exact h3, h4, h5⟩
  ·rcases ho with ho | rfl
   ·exact ho
   ·omega
theorem Mem.newBox (hE : EnvOK E) (M : Mem E B H m tk ok w) {H' : List (List PV)} {m' : List (Option Nat)} (id : Nat) (cs : List PV) (arr : Array Value) (ty : TypeId) (hl : m'.length = H'.length)
  (hid : m'[id]? = some (some w.heap.size)) (hcs : H'[id]? = some cs) (hnone : ∀ b, m[id]? ≠ some (some b)) (hm : ∀ (i : Nat), i ≠ id → m'[i]? = m[i]? ∨ (m[i]? = none ∧ ∀ b, m'[i]? ≠ some (some b))) (hH : ∀ (i : Nat) b, i ≠ id → m[i]? = some (some b) → H'[i]? = H[i]?)
  (hr : RepL (Rep w ok m tk) arr.toList cs) (hns : ∀ p ∈ cs, ∀ e xs, p ≠ .stk e xs) (hfr : FrB cs ty) :
  Mem E B H' m' tk ok (w.alloc (.cells arr ty)) ∧ Later w ok m tk (w.alloc (.cells arr ty)) ok m' tk := by
 have S := M.stay_alloc (.cells arr ty) ok (fun b o h => h)
 have L : Later w ok m tk (w.alloc (.cells arr ty)) ok m' tk := by
  refine ⟨S, fun i b h => ?_, fun t r h => ⟨r, h, .inl rfl⟩⟩
  have hi : i ≠ id := by rintro rfl; exact hnone b h
  rcases hm i hi with h' | h'
  ·rw [h']; exact h
  ·rw [h'.1] at h; cases h
 have hg := hE.glob w M.inv
 have hnew : ∀ i b, m'[i]? = some (some b) → (i = id ∧ b = w.heap.size) ∨ (i ≠ id ∧ m[i]? = some (some b)) := by
  intro i b h
  by_cases hi : i = id
  ·subst hi; rw [hid] at h; injection h with h; injection h with h; exact .inl ⟨rfl, h.symm⟩
  ·rcases hm i hi with h' | h'
   ·exact .inr ⟨hi, by rw [← h']; exact h⟩
   ·exact absurd h (h'.2 b)
 refine ⟨⟨M.inv_of hE (by rw [alloc_size]; omega) (fun b hb => alloc_old w _ b (by omega)), M.os, M.tape, M.output, by have := M.size; rw [alloc_size]; omega, fun k hk hn hn' => ?_, M.okb, fun b o h => by have := M.oks b o h; rw [alloc_size]; omega, hl, fun i b h => ?_, fun i j b h1 h2 => ?_, fun t r h => ?_, M.tinj, M.gb, M.tsz, ?_⟩, L⟩
 ·rw [alloc_old w _ k (by have := M.size; omega)]; exact M.frame k hk hn hn'
 ·rcases hnew i b h with ⟨rfl, rfl⟩ | ⟨hi, h⟩
  ·exact ⟨cs, arr, ty, hcs, alloc_new w _, hr.mono fun _ _ h => h.later L, fun o hk => by have := M.oks _ _ hk; omega, hg, .inr M.size, hfr⟩
  ·obtain ⟨ds, arr', ty', h1, h2, h3, h4⟩ := M.box i b h
   exact ⟨ds, arr', ty', by rw [hH i b hi h]; exact h1, by rw [alloc_old w _ b (blk_lt' h2)]; exact h2, h3.mono fun _ _ h => h.later L, h4⟩
 ·rcases hnew i b h1 with ⟨rfl, rfl⟩ | ⟨hi, h1⟩ <;> rcases hnew j _ h2 with ⟨rfl, hb⟩ | ⟨hj, h2⟩
  ·rfl
  ·obtain ⟨ds, arr', ty', -, h5, -⟩ := M.box j _ h2; have := blk_lt' h5; omega
  ·subst hb; obtain ⟨ds, arr', ty', -, h5, -⟩ := M.box i _ h1; have := blk_lt' h5; omega
  ·exact M.inj i j b h1 h2
 ·refine (M.tok t r h).keep (World.grownBy_alloc w _ none) (by simp) (fun _ _ _ _ h => h) (fun g hg hlt hn i hi => ?_)
  rcases hnew i g hi with ⟨_, h⟩ | ⟨_, hi⟩
  ·omega
  ·exact hn i hi
 ·refine M.stk.keep (fun i j v e xs h => ?_) S fun g hg h => ⟨alloc_old w _ g hg, h.mono (fun o ho => ho) (fun i hi => ?_) (fun t r hr hg => ⟨t, r, hr, hg⟩)⟩
  ·obtain ⟨b, ds, arr', ty', h1, h2, h3, h4, h5⟩ := h
   rcases hnew i b h1 with ⟨rfl, rfl⟩ | ⟨hi, h1⟩
   ·rw [hcs] at h2
    injection h2 with h2; subst h2
    have := hns _ (List.mem_of_getElem? h5)
    exact absurd rfl (this _ _)
   ·obtain ⟨_, _, _, -, g2, -⟩ := M.box i b h1
    exact ⟨b, ds, arr', ty', h1, by rw [← hH i b hi h1]; exact h2, by rw [alloc_old w _ b (blk_lt' g2)] at h3; exact h3, h4, h5⟩
  ·rcases hnew i g hi with ⟨_, h⟩ | ⟨_, hi⟩
   ·omega
   ·exact ⟨i, hi⟩
theorem splice_at {α : Type} {cs us : List α} {off j : Nat} {x : α} (hl : off + us.length ≤ cs.length) (h : (splice cs off us)[j]? = some x) : x ∈ us ∨ (cs[j]? = some x ∧ ¬ (off ≤ j ∧ j < off + us.length)) := by
 unfold splice at h
 rcases Nat.lt_or_ge j off with h1 | h1
 ·rw [List.append_assoc, List.getElem?_append_left (by rw [List.length_take]; omega), List.getElem?_take_of_lt h1] at h
  exact .inr ⟨h, by omega⟩
 ·rcases Nat.lt_or_ge j (off + us.length) with h2 | h2
  ·rw [List.append_assoc, List.getElem?_append_right (by rw [List.length_take]; omega), List.getElem?_append_left (by rw [List.length_take]; omega)] at h
   exact .inl (List.mem_of_getElem? h)
  ·rw [List.getElem?_append_right (by rw [List.length_append, List.length_take]; omega), List.getElem?_drop] at h
   refine .inr ⟨?_, by omega⟩
   rw [List.length_append, List.length_take] at h
   rw [← h]; congr 1; omega
theorem splice_off {α : Type} {cs us : List α} {off j : Nat} (hl : off + us.length ≤ cs.length) (h : ¬ (off ≤ j ∧ j < off + us.length)) : (splice cs off us)[j]? = cs[j]? := by
 unfold splice
 rcases Nat.lt_or_ge j off with h1 | h1
 ·rw [List.append_assoc, List.getElem?_append_left (by rw [List.length_take]; omega), List.getElem?_take_of_lt h1]
 ·rw [List.getElem?_append_right (by rw [List.length_append, List.length_take]; omega), List.getElem?_drop]
  congr 1
  rw [List.length_append, List.length_take]; omega
theorem FrB.splice {cs us : List PV} {ty : TypeId} {off : Nat} (h : FrB cs ty) (hns : ∀ p ∈ us, p.isStk = false) : FrB (splice cs off us) ty := by
 intro t ht
 unfold Pm.splice at ht
 by_cases h0 : off = 0
 ·subst h0
  cases us with
  | nil => exact h t (by simpa using ht)
  | cons u us =>
   simp at ht
   have := hns u List.mem_cons_self
   rw [ht] at this
   cases this
 ·rw [List.append_assoc, List.getElem?_append] at ht
  cases cs with
  | nil =>
   simp at ht
   cases us with
   | nil => simp at ht
   | cons u us =>
    simp at ht
    have := hns u List.mem_cons_self
    rw [ht] at this
    cases this
  | cons c cs =>
   refine h t ?_
   have hl : 0 < (List.take off (c :: cs)).length := by simp; omega
   rw [if_pos hl, List.getElem?_take_of_lt (by omega)] at ht
   exact ht
theorem FrB.none {cs : List PV} {ty : TypeId} (h : ∀ p ∈ cs, p.isStk = false) : FrB cs ty := fun t ht => by
 have := h _ (List.mem_of_getElem? ht)
 cases this
theorem isStk_ne {cs : List PV} (h : ∀ p ∈ cs, p.isStk = false) : ∀ p ∈ cs, ∀ e xs, p ≠ .stk e xs := fun p hp e xs he => by
 have := h p hp
 rw [he] at this
 cases this
theorem Mem.store (hE : EnvOK E) (M : Mem E B H m tk ok w) {i off b : Nat} {cs us : List PV} {arr : Array Value} {ty : TypeId} {vs : List Value} (hm : m[i]? = some (some b)) (hcs : H[i]? = some cs) (hw : w.heap[b]? = some (.cells arr ty (0, 0)))
  (hr : RepL (Rep w ok m tk) vs us) (hns : ∀ p ∈ us, p.isStk = false) (hfit : off + us.length ≤ cs.length) :
  Mem E B (H.set i (splice cs off us)) m tk ok (w.setRow b (splice arr.toList off vs).toArray) ∧ Later w ok m tk (w.setRow b (splice arr.toList off vs).toArray) ok m tk := by
 obtain ⟨cs', arr', ty', h1, h2, h3, h4, h5, h6⟩ := M.box i b hm
 rw [hcs] at h1; injection h1 with h1; subst h1
 rw [hw] at h2; injection h2 with h2; injection h2 with h2 h2'; subst h2; subst h2'
 have S : Stay w ok (w.setRow b (splice arr.toList off vs).toArray) ok := stay_of ok (fun k hk ⟨o, ho⟩ => setRow_other w b k _ (by rintro rfl; exact h4 o ho)) M.oks (fun b o h => h)
 have L := Later.of_stay S m tk
 have hbs := blk_lt' hw
 refine ⟨⟨M.inv_of hE (by simp) (fun k hk => setRow_other w b k _ (by omega)), M.os, M.tape, M.output, by simpa using M.size, fun k hk hn hn' => ?_, M.okb, fun b' o h => by simpa using M.oks b' o h, by simpa using M.len, fun j b' h => ?_, M.inj, fun t r h => ?_, M.tinj, M.gb, M.tsz, ?_⟩, L⟩
 ·rw [setRow_other w b k _ ?_]
  ·exact M.frame k hk hn hn'
  ·rintro rfl
   rcases h6.1 with h6 | h6
   ·exact hn h6
   ·omega
 ·by_cases hj : j = i
  ·subst hj
   rw [hm] at h; injection h with h; injection h with h; subst h
   refine ⟨splice cs off us, _, ty, ?_, setRow_heap w _ arr _ ty (0, 0) hw, ?_, h4, h5, h6.1, h6.2.splice hns⟩
   ·rw [List.getElem?_set_self (List.getElem?_eq_some_iff.1 hcs).1]
   ·simpa using (h3.splice hr off).mono fun _ _ h => h.later L
  ·obtain ⟨ds, arr', ty', g1, g2, g3, g4⟩ := M.box j b' h
   have hne : b' ≠ b := by rintro rfl; exact hj (M.inj j i _ h hm)
   exact ⟨ds, arr', ty', by rw [List.getElem?_set_ne (Ne.symm hj)]; exact g1, by rw [setRow_other w b b' _ hne]; exact g2, g3.mono fun _ _ h => h.later L, g4⟩
 ·refine (M.tok t r h).keep (grown_setRow w b _) (fun g hg h' => ?_) (fun _ _ _ _ h => h) (fun _ _ _ h => h)
  injection h' with h'; subst h'
  exact ((M.tok t r h).2 b hg).2 i hm
 ·refine M.stk.keep (fun k j v e xs h => ?_) S fun g hg h => ⟨setRow_other w b g _ (by rintro rfl; exact h.2.1 i hm), h⟩
  obtain ⟨b', ds, arr', ty', q1, q2, q3, q4, q5⟩ := h
  by_cases hk : k = i
  ·subst hk
   rw [hm] at q1
   injection q1 with q1; injection q1 with q1; subst q1
   rw [List.getElem?_set_self (List.getElem?_eq_some_iff.1 hcs).1] at q2
   injection q2 with q2; subst q2
   rw [setRow_heap w _ arr _ ty (0, 0) hw] at q3
   injection q3 with q3; injection q3 with q3 _; subst q3
   rcases splice_at hfit q5 with h | ⟨h, hno⟩
   ·have := hns _ h; cases this
   ·have hal : arr.toList.length = cs.length := h3.1
    rw [List.toList_toArray, splice_off (by rw [hr.1, hal]; exact hfit) (by rw [hr.1]; exact hno)] at q4
    exact ⟨b, cs, arr, ty, hm, hcs, hw, q4, h⟩
  ·rw [List.getElem?_set_ne (Ne.symm hk)] at q2
   have hne : b' ≠ b := by rintro rfl; exact hk (M.inj k i _ q1 hm)
   rw [setRow_other w b b' _ hne] at q3
   exact ⟨b', ds, arr', ty', q1, q2, q3, q4, q5⟩
theorem box_load (hE : EnvOK E) (M : Mem E B H m tk ok w) {t : Nat} {ti : TI} (hT : E.T t = some ti) {a : Addr} {i off : Nat} (hr : Rep w ok m tk (.pointer (some a)) (.ptr i off)) {z : PV} (hz : loadF ti H (.ptr i off) = some z) :
  ∃ v, (loadVar t a).run E.P w = .ok v w ∧ Rep w ok m tk v z := by
 cases hr with
 | ptr _ _ b hm =>
  obtain ⟨cs, arr, ty, h1, h2, h3, -⟩ := M.box i b hm
  obtain ⟨d, hu, hk, hs, ha, zv, hzv⟩ := ty_run (w := w) (ok := ok) hE hT
  simp only [loadF, h1] at hz
  have hadd : ∀ j, (⟨b, off, none⟩ : Addr).add j = ⟨b, off + j, none⟩ := by intro j; unfold Addr.add; split <;> simp_all
  have hcell : ∀ j, w.cell? ⟨b, j, none⟩ = arr.toList[j]? := by intro j; simp [World.cell?, h2]
  simp only [loadVar, Sem.run_bind, ha, Result.andThen_ok]
  cases hi : ti.isAgg with
  | true =>
   simp only [hi] at hz
   split at hz
   ·rename_i hle
    split at hz
    ·rename_i ds hds
     injection hz with hz; subst hz
     have hle : off + ti.size ≤ cs.length := by simpa using hle
     simp only [if_true, Sem.run_bind, hs, Result.andThen_ok]
     have hlen : ((arr.toList.drop off).take ti.size).length = ti.size := by rw [List.length_take, List.length_drop, h3.1]; omega
     have e := run_loadCells_list (P := E.P) w ⟨b, off, none⟩ ((arr.toList.drop off).take ti.size) (fun j v hj => by
      rw [List.getElem?_take] at hj
      split at hj
      ·rw [hadd, hcell]; rw [List.getElem?_drop] at hj; exact hj
      ·simp at hj)
     rw [hlen] at e
     rw [e]
     exact ⟨_, rfl, .agg _ _ (by simpa using repL_toCs ((h3.drop off).take ti.size) hds)⟩
    ·cases hz
   ·cases hz
  | false =>
   simp only [hi] at hz
   obtain ⟨v, hv, hrv⟩ := h3.get hz
   refine ⟨v, ?_, hrv⟩
   simp [hcell off, hv]
end
end Go.Proofs.YtgpkppohfodhdaaGreatDoor.Pm
namespace Go.Proofs.YtgpkppohfodhdaaGreatDoor.Pm
open Go Go.RowKit
set_option linter.unusedVariables false
set_option linter.unusedSimpArgs false
theorem addr0 (b o : Nat) : (⟨b, 0, none⟩ : Addr).add o = ⟨b, o, none⟩ := by unfold Addr.add; split <;> simp_all
theorem app_core {P : Program} {w : World} {base t ty e : Nat} {i : TypeInfo} {z : Value} {n m c cap : Nat} {A : Option Addr} {xs news : List Value} {a : Addr} (ht : P.underlying t = some (.slice e)) (hi : P.info? e = some i) (hz : i.zero = some z) (hzs : z.cells.size = i.size) (hsz : 0 < i.size)
  (hown : w.ownsRow base e i.size (.slice A n cap) n xs) (hl : news.length = m * i.size) (hnews : ∀ (j : Nat) (u : Value), news[j]? = some u → w.cell? (a.add j) = some u) (h1 : ∀ u ∈ news, u.oneCell' = true)
  (h63 : n + m ≤ maxLen) (hbytes : (n + m) * i.bytes ≤ 140737488355328) (hbase : base ≤ w.heap.size) :
  ∃ v' w', (Builtin.append_ #[t, t] ty #[.slice A n cap, .slice (some a) m c]).run P w = .ok v' w' ∧ w'.ownsRow base e i.size v' (n + m) (xs ++ news) ∧ w.grownBy w' (Value.slice A n cap).ownBlock ∧
   (v'.ownBlock = (Value.slice A n cap).ownBlock ∨ (v'.ownBlock = some w.heap.size ∧ ∀ k, k < w.heap.size → w'.heap[k]? = w.heap[k]?)) := by
 obtain ⟨v', w', hr, ho, hg, -, hb⟩ := run_append_own_at (P := P) w base t ty e i z i.size i.bytes ht hi hz rfl rfl hzs hsz _ n xs hown a m c news hl hnews h1 h63 hbytes hbase
 refine ⟨v', w', hr, ho, hg, ?_⟩
 rcases hb with hb | hb
 ·exact .inl hb
 ·refine .inr ⟨hb, ?_⟩
  have hsmall : n + m ≤ 9223372036854775807 := by simp only [maxLen] at h63; omega
  have fresh : ∀ o : Obj, w' = w.drew.alloc o → ∀ k, k < w.heap.size → w'.heap[k]? = w.heap[k]? := by
   intro o e k hk
   rw [e]
   exact alloc_old w.drew o k hk
  rcases hown.2 with ⟨hv, rfl⟩ | ⟨g, cap', cur, hv, hbg, hgg, hnc, hcm, hcs, htake⟩
  ·injection hv with hA _ hc
   subst hA; subst hc
   by_cases hm : m = 0
   ·subst hm
    rcases ho.2 with ⟨hv', _⟩ | ⟨g, cap', cur, rfl, _, hgg, _⟩
    ·subst hv'; cases hb
    ·have : (Builtin.append_ #[t, t] ty #[.slice none 0 0, .slice (some a) 0 c]).run P w = .ok (.slice none 0 0) w := by
      simp [Builtin.append_, run_underlying ht, sizeOf, typeInfo, hi, Builtin.lenOf, Builtin.firstCells, loadCells, loadCellsFrom]
     rw [this] at hr
     injection hr with hr _
     cases hr
   ·have h2 := run_append_nil (P := P) w t ty e i z ht hi hz a m c news hl hnews (by omega) (by omega) (by have hb := hbytes; simp only [Nat.zero_add] at hb; omega)
    rw [h2] at hr
    injection hr with _ hr
    exact fresh _ hr.symm
  ·injection hv with hA _ hc
   subst hA; subst hc
   by_cases hroom : n + m ≤ cap
   ·have hfit : n * i.size + news.length ≤ cur.size := by rw [hl, hcs, ← Nat.add_mul]; exact Nat.mul_le_mul_right _ hroom
    have h2 := run_append_room (P := P) w t ty e i ht hi g n cap cur hgg a m c news hl hnews h1 hroom hfit
    rw [h2] at hr
    injection hr with hr _
    rw [← hr] at hb
    injection hb with hb
    have := blk_lt' hgg
    dsimp only at hb
    omega
   ·have holds : ∀ (j : Nat) (u : Value), xs[j]? = some u → w.cell? ((⟨g, 0, none⟩ : Addr).add j) = some u := hown.cells (g := g) rfl
    have h2 := run_append_grow (P := P) w t ty e i z ht hi hz ⟨g, 0, none⟩ n cap xs hown.1 holds a m c news hl hnews (by omega) (by omega) (growslice_fits (by omega) hbytes)
    rw [h2] at hr
    injection hr with _ hr
    exact fresh _ hr.symm
section
variable {E : Env} {B : Base} {H : List (List PV)} {m : List (Option Nat)} {tk : List TokR} {ok : Nat → Nat → Prop} {w : World}
theorem row_flat {A : Option Addr} {len cap sz : Nat} {xs : List (List CV)} (h : RepC w ok (.slice A len cap) (.row xs)) (hs : ∀ x ∈ xs, x.length = sz) (hp : 0 < sz) :
  len = xs.length ∧ len ≤ cap ∧ (A = none → cap = 0) ∧ ∃ vs : List Value, RepL (RepC w ok) vs xs.flatten ∧ ∀ a, A = some a → ∀ (j : Nat) (v : Value), vs[j]? = some v → ok a.block (a.off + j) ∧ w.cell? (a.add j) = some v := by
 cases h with
 | row _ _ _ _ sz' vs hl hcap hnil hpos hsz hA h =>
  refine ⟨hl, hcap, hnil, ?_⟩
  have hfl := flat_length xs hsz
  refine ⟨(List.range (len * sz')).map vs, ⟨by rw [List.length_map, List.length_range, hfl, hl], fun k v c hv hc => ?_⟩, fun a ha j v hv => ?_⟩
  ·have hk : k < len * sz' := by
    by_cases h' : k < len * sz'
    ·exact h'
    ·rw [List.getElem?_eq_none (by simp; omega)] at hv; cases hv
   rw [List.getElem?_map, List.getElem?_range hk] at hv
   simp at hv; subst hv
   have hi : k / sz' < xs.length := Nat.div_lt_of_lt_mul (by rw [Nat.mul_comm, ← hl]; exact hk)
   have hj : k % sz' < sz' := Nat.mod_lt _ hpos
   have hxl : (xs[k / sz']).length = sz' := hsz _ (List.getElem_mem hi)
   have hf := flat_get xs (k / sz') (k % sz') _ _ hsz (List.getElem?_eq_getElem hi) (List.getElem?_eq_getElem (by rw [hxl]; exact hj))
   rw [Nat.div_add_mod' k sz'] at hf
   rw [hf] at hc
   injection hc with hc; subst hc
   have := h (k / sz') _ (k % sz') _ (List.getElem?_eq_getElem hi) (List.getElem?_eq_getElem (by rw [hxl]; exact hj))
   rw [Nat.div_add_mod' k sz'] at this
   exact this
  ·have hk : j < len * sz' := by
    by_cases h' : j < len * sz'
    ·exact h'
    ·rw [List.getElem?_eq_none (by simp; omega)] at hv; cases hv
   rw [List.getElem?_map, List.getElem?_range hk] at hv
   simp at hv; subst hv
   obtain ⟨a', ha', h1, h2⟩ := hA j hk
   rw [ha] at ha'
   injection ha' with ha'; subst ha'
   exact ⟨h1, h2⟩
theorem own_vals {A : Option Addr} {n cap base e sz : Nat} {vals : List Value} {xs : List (List CV)} (hown : w.ownsRow base e sz (.slice A n cap) n vals) (hr : RepC w ok (.slice A n cap) (.row xs)) (hs : ∀ x ∈ xs, x.length = sz) (hp : 0 < sz) : RepL (RepC w ok) vals xs.flatten := by
 obtain ⟨h1, h2, h3, vs, hv, hc⟩ := row_flat hr hs hp
 have hfl := flat_length xs hs
 have hlen : vals.length = xs.flatten.length := by rw [hown.1, hfl, h1]
 refine ⟨hlen, fun i v c hi hf => ?_⟩
 obtain ⟨u, hu, hru⟩ := hv.get hf
 rcases hown.2 with ⟨he, h0⟩ | ⟨g, cap', cur, he, _⟩
 ·have hl := hown.1
  rw [h0] at hl
  have : vals = [] := List.eq_nil_of_length_eq_zero (by simpa using hl)
  rw [this] at hi; simp at hi
 ·have hA : A = some ⟨g, 0, none⟩ := by injection he
  have g1 := (hc _ hA i u hu).2
  have g2 := hown.cells (g := g) (by rw [hA]; rfl) i v hi
  rw [g1] at g2
  injection g2 with g2; subst g2
  exact hru
theorem append_nothing {P : Program} {t ty e base : Nat} {i : TypeInfo} (ht : P.underlying t = some (.slice e)) (hi : P.info? e = some i) {A : Option Addr} {n cap : Nat} {vals : List Value} (hown : w.ownsRow base e i.size (.slice A n cap) n vals) {u : Value} (hu : RepC w ok u (.row [])) :
  (Builtin.append_ #[t, t] ty #[.slice A n cap, u]).run P w = .ok (.slice A n cap) w := by
 cases hu with
 | row B len c _ sz vs hl hcap hnil hpos hsz hA h =>
  have hl0 : len = 0 := hl
  subst hl0
  have hf : (Builtin.firstCells i.size 0 (.slice B 0 c)).run P w = .ok #[] w := by
   cases B with
   | none => simp [Builtin.firstCells]
   | some b => simp [Builtin.firstCells, loadCells, loadCellsFrom]
  rcases hown.2 with ⟨he, h0⟩ | ⟨g, cap', cur, he, _, _, hnc, _⟩
  ·injection he with h1 h2 h3
   subst h1; subst h2; subst h3
   simp [Builtin.append_, run_underlying ht, sizeOf, typeInfo, hi, Builtin.lenOf, hf]
  ·injection he with h1 h2 h3
   subst h1; subst h3
   simp [Builtin.append_, run_underlying ht, sizeOf, typeInfo, hi, Builtin.lenOf, hnc, hf, storeCells]
def TokR.val (r : TokR) : Value := .slice r.A r.len r.cap
theorem Mem.app (hE : EnvOK E) (M : Mem E B H m tk ok w) {t e ty sz bb : Nat} {zz : List CV} {ei : TI} (hT : E.T t = some ⟨.slice e, sz, zz, bb⟩) (hTe : E.T e = some ei) (hp : 0 < ei.size) (hzl : ei.zero.length = ei.size) {r0 : TokR} {xs ys : List (List CV)} {u : Value} (k : Nat)
  (hsp : Spare B m ok w r0) (he : r0.e = e) (hz : r0.sz = ei.size) (hn : r0.len = xs.length) (hr : RepC w ok r0.val (.row xs)) (hx : ∀ x ∈ xs, x.length = ei.size)
  (hu : RepC w ok u (.row ys)) (hy : ∀ y ∈ ys, y.length = ei.size) (h63 : xs.length + ys.length ≤ 9223372036854775807) (hbytes : (xs.length + ys.length) * ei.bytes ≤ 140737488355328)
  (hother : ∀ (j : Nat) (r : TokR), j ≠ k → tk[j]? = some r → ∀ g, r.val.ownBlock = some g → r0.val.ownBlock ≠ some g) (hk : (tk[k]? = none ∧ r0.val.ownBlock = none) ∨ tk[k]? = some r0) :
  ∃ v' w' r', (Builtin.append_ #[t, t] ty #[r0.val, u]).run E.P w = .ok v' w' ∧ r'.len = xs.length + ys.length ∧ r'.e = e ∧ ∀ tk' : List TokR, tk'[k]? = some r' → (∀ j, j ≠ k → tk'[j]? = tk[j]?) →
   ∃ ok', Mem E B H m tk' ok' w' ∧ Later w ok m tk w' ok' m tk' ∧ Rep w' ok' m tk' v' (.orow (xs ++ ys) k) := by
 obtain ⟨ti, d, zv, zs, g1, g2, g3, g5, g4⟩ := ty_parts hE hT
 obtain ⟨ti', d', zv', zs', g1', g2', g3', g5', g4'⟩ := ty_parts hE hTe
 cases d <;> simp [kindOf] at g4
 obtain ⟨rfl, -⟩ := g4
 have hsize : ti'.size = ei.size := by rw [g4']
 have hbt : ti'.bytes = ei.bytes := by rw [g4']
 subst he
 have hown0 : ∀ g, Alone m tk ok g → r0.val.ownBlock ≠ some g := by
  intro g hg e
  rcases hk with ⟨-, hk⟩ | hk
  ·rw [hk] at e; cases e
  ·exact hg.2.2 k r0 hk e
 by_cases hys : ys = []
 ·subst hys
  obtain ⟨⟨vals, hown⟩, hsp2⟩ := id hsp
  rw [hz, ← hsize] at hown
  refine ⟨r0.val, w, r0, append_nothing (ty := ty) g2 g1' hown hu, by simpa using hn, rfl, fun tk' h1 h2 => ⟨ok, ?_⟩⟩
  have L : Later w ok m tk w ok m tk' := by
   refine ⟨.refl _ _, fun _ _ h => h, fun j r hj => ?_⟩
   by_cases hjk : j = k
   ·subst hjk
    rcases hk with ⟨hk, -⟩ | hk
    ·rw [hk] at hj; cases hj
    ·rw [hk] at hj; injection hj with hj; subst hj; exact ⟨_, h1, .inl rfl⟩
   ·exact ⟨r, by rw [h2 j hjk]; exact hj, .inl rfl⟩
  refine ⟨⟨M.inv, M.os, M.tape, M.output, M.size, M.frame, M.okb, M.oks, M.len, fun i b h => ?_, M.inj, fun j r hj => ?_, fun i j r s g hi hj hr hs => ?_, M.gb, fun j r i hj hi => ?_, ?_⟩, L, ?_⟩
  ·obtain ⟨cs, arr, ty, q1, q2, q3, q4⟩ := M.box i b h
   exact ⟨cs, arr, ty, q1, q2, q3.mono fun _ _ h => h.later L, q4⟩
  ·by_cases hjk : j = k
   ·subst hjk; rw [h1] at hj; injection hj with hj; subst hj; exact hsp
   ·rw [h2 j hjk] at hj; exact M.tok j r hj
  ·by_cases hik : i = k <;> by_cases hjk : j = k
   ·omega
   ·subst hik; rw [h1] at hi; injection hi with hi; subst hi
    rw [h2 j hjk] at hj
    exact absurd hr (hother j s hjk hj g hs)
   ·subst hjk; rw [h1] at hj; injection hj with hj; subst hj
    rw [h2 i hik] at hi
    exact absurd hs (hother i r hik hi g hr)
   ·rw [h2 i hik] at hi; rw [h2 j hjk] at hj; exact M.tinj i j r s g hi hj hr hs
  ·by_cases hjk : j = k
   ·subst hjk; rw [h1] at hj; injection hj with hj; subst hj
    rw [hTe] at hi; injection hi with hi; subst hi; exact hz
   ·rw [h2 j hjk] at hj; exact M.tsz j r i hj hi
  ·refine M.stk.keep (fun _ _ _ _ _ h => h) L.stay fun g hg h => ⟨rfl, h.1, h.2.1, fun t r hr e => ?_⟩
   by_cases hjk : t = k
   ·subst hjk; rw [h1] at hr; injection hr with hr; subst hr; exact hown0 g h e
   ·rw [h2 t hjk] at hr; exact h.2.2 t r hr e
  ·rw [List.append_nil]
   exact .orow _ _ _ _ _ hr r0 h1 (Nat.le_refl _) (fun _ => ⟨rfl, rfl⟩)
 ·obtain ⟨⟨vals, hown⟩, hsp2⟩ := id hsp
  have hvals := own_vals (hz ▸ hown) hr hx hp
  cases hq : u with
  | slice UB ml uc =>
   rw [hq] at hu
   obtain ⟨k1, k2, k3, news, hnews, hcells⟩ := row_flat hu hy hp
   subst k1
   have hyl : 0 < ys.length := by
    cases ys with
    | nil => exact absurd rfl hys
    | cons _ _ => simp
   cases UB with
   | none => have := k3 rfl; omega
   | some a =>
    have hnl : news.length = ys.length * ti'.size := by rw [hnews.1, flat_length ys hy, hsize]
    rw [hz, ← hsize] at hown
    rw [hn] at hown
    have hzz : zv'.cells.size = ti'.size := by
     have h := (repL_ofVals (w := w) (ok := ok) g5').1
     have : ei.zero = zs' := by rw [g4']
     rw [hsize, ← hzl, this, ← h]
     simp
    obtain ⟨v', w', hrun, ho, hg, hb⟩ := app_core (P := E.P) (w := w) (ty := ty) (c := uc) (a := a) (m := ys.length) g2 g1' g3' hzz (by rw [hsize]; exact hp) hown hnl (fun j v hj => (hcells a rfl j v hj).2) (fun v hv => (hnews.all fun v p h => h.oneCell) v hv) h63 (by rw [hbt]; exact hbytes) M.size
    have hv' : ∃ (g' cap' : Nat), v' = .slice (some ⟨g', 0, none⟩) (xs.length + ys.length) cap' ∧ xs.length + ys.length ≤ cap' := by
     rcases ho.2 with ⟨_, h0⟩ | ⟨g', cap', cur, hv, _, _, hle, _⟩
     ·omega
     ·exact ⟨g', cap', hv, hle⟩
    obtain ⟨g', cap', rfl, hle⟩ := hv'
    have hown' : (Value.slice (some ⟨g', 0, none⟩) (xs.length + ys.length) cap').ownBlock = some g' := rfl
    have hlt' := ho.lt g' rfl
    rw [show (Value.slice r0.A xs.length r0.cap).ownBlock = r0.val.ownBlock by unfold TokR.val; rw [hn]] at hg hb
    have hlen1 : vals.length = xs.length * ti'.size := hown.1
    -- a block that is not the row's own is as it was
    have hkeep : ∀ b, b < w.heap.size → r0.val.ownBlock ≠ some b → w'.heap[b]? = w.heap[b]? := fun b hb' hne => hg.block b hb' (Ne.symm hne)
    have hsp3 : ∀ g, r0.val.ownBlock = some g → (∀ i, xs.length * ti'.size ≤ i → ¬ ok g i) ∧ ∀ i : Nat, m[i]? ≠ some (some g) := by
     intro g hgb
     have := hsp2 g hgb
     rw [hn, hz, ← hsize] at this
     exact this
    have hnew : ∀ b, b < w.heap.size → r0.val.ownBlock ≠ some b → g' ≠ b := by
     intro b hb' hne e
     subst e
     rcases hb with h | ⟨h, -⟩
     ·exact hne (h.symm.trans hown')
     ·rw [hown'] at h; injection h with h; omega
    refine ⟨_, w', ⟨some ⟨g', 0, none⟩, xs.length + ys.length, cap', ei.size, r0.e⟩, by unfold TokR.val; rw [hn]; exact hrun, rfl, rfl, fun tk' h1 h2 => ?_⟩
    refine ⟨fun b o => ok b o ∨ (b = g' ∧ o < (xs.length + ys.length) * ti'.size), ?_⟩
    have S : Stay w ok w' (fun b o => ok b o ∨ (b = g' ∧ o < (xs.length + ys.length) * ti'.size)) := by
     refine ⟨fun b o hbo v hv => ?_, fun b o hbo es ck he => ?_, fun b o h => .inl h⟩
     rotate_left
     ·by_cases hbg : r0.val.ownBlock = some b
      ·exfalso
       unfold TokR.val at hbg
       rw [hn] at hbg
       rcases hown.2 with ⟨h, -⟩ | ⟨g0, c0, cu0, h, -, hh, -⟩
       ·rw [h] at hbg; cases hbg
       ·rw [h] at hbg
        injection hbg with hbg
        rw [← hbg, hh] at he
        cases he
      ·rw [hkeep b (M.oks b o hbo) hbg]; exact he
     have hbl := M.oks b o hbo
     by_cases hbg : r0.val.ownBlock = some b
     ·rcases hb with h | ⟨-, h⟩
      ·have hgb : g' = b := by rw [hown', hbg] at h; injection h
       subst hgb
       have hol : o < xs.length * ti'.size := by
        by_cases h' : o < xs.length * ti'.size
        ·exact h'
        ·exact absurd hbo ((hsp3 _ hbg).1 o (by omega))
       have hvo := List.getElem?_eq_getElem (show o < vals.length by omega)
       have c1 := hown.cells (g := g') (by unfold TokR.val at hbg; rw [hn] at hbg; exact hbg) o _ hvo
       have c2 := ho.cells (g := g') rfl o _ (by rw [List.getElem?_append_left (by omega)]; exact hvo)
       rw [addr0] at c1 c2
       rw [c1] at hv
       rw [c2, ← hv]
      ·rw [World.cell?_of_block (w := w) (h b hbl)]; exact hv
     ·rw [World.cell?_of_block (w := w) (hkeep b hbl hbg)]; exact hv
    have L : Later w ok m tk w' (fun b o => ok b o ∨ (b = g' ∧ o < (xs.length + ys.length) * ti'.size)) m tk' := by
     refine ⟨S, fun _ _ h => h, fun j r hj => ?_⟩
     by_cases hjk : j = k
     ·subst hjk
      rcases hk with ⟨hk, -⟩ | hk
      ·rw [hk] at hj; cases hj
      ·rw [hk] at hj; injection hj with hj; subst hj
       exact ⟨_, h1, .inr (by rw [hn]; show xs.length < xs.length + ys.length; omega)⟩
     ·exact ⟨r, by rw [h2 j hjk]; exact hj, .inl rfl⟩
    have hglob : ∀ b, b < B.w0.heap.size → b < w.heap.size ∧ r0.val.ownBlock ≠ some b := by
     intro b hb'
     have := M.size
     refine ⟨by omega, fun e => ?_⟩
     have := (hown.lt b (by unfold TokR.val at e; rw [hn] at e; exact e)).1
     omega
    refine ⟨⟨M.inv_of hE hg.size (fun b hb' => ?_), hg.os.trans M.os, hg.tape.trans M.tape, hg.output.trans M.output, Nat.le_trans M.size hg.size, fun b hb' hne hne' => ?_, fun b o h => ?_, fun b o h => ?_, M.len, fun i b h => ?_, M.inj, fun j r hj => ?_, fun i j r s g hi hj hr' hs => ?_, M.gb, fun j r i hj hi => ?_, ?_⟩, L, ?_⟩
    ·obtain ⟨q1, q2⟩ := hglob b (by have := M.gb; omega)
     exact hkeep b q1 q2
    ·obtain ⟨q1, q2⟩ := hglob b hb'
     rw [hkeep b q1 q2]; exact M.frame b hb' hne hne'
    ·rcases h with h | ⟨rfl, -⟩
     ·exact M.okb b o h
     ·exact .inr hlt'.1
    ·rcases h with h | ⟨rfl, -⟩
     ·exact Nat.lt_of_lt_of_le (M.oks b o h) hg.size
     ·exact hlt'.2
    ·obtain ⟨cs, arr, ty', q1, q2, q3, q4, q5⟩ := M.box i b h
     have hbl := blk_lt' q2
     have hne : r0.val.ownBlock ≠ some b := fun e => (hsp3 b e).2 i h
     refine ⟨cs, arr, ty', q1, by rw [hkeep b hbl hne]; exact q2, q3.mono fun _ _ h => h.later L, fun o hk' => ?_, q5⟩
     rcases hk' with hk' | ⟨rfl, -⟩
     ·exact q4 o hk'
     ·exact hnew _ hbl hne rfl
    ·by_cases hjk : j = k
     ·subst hjk; rw [h1] at hj; injection hj with hj; subst hj
      refine ⟨⟨vals ++ news, hsize ▸ ho⟩, fun g hgb => ?_⟩
      have : g = g' := by injection hgb with hgb; exact hgb.symm
      subst this
      refine ⟨fun i hi h => ?_, fun i h => ?_⟩
      ·rcases h with h | ⟨-, h⟩
       ·rcases hb with h' | ⟨h', -⟩
        ·refine (hsp3 g (h'.symm.trans hown')).1 i ?_ h
         have hi : (xs.length + ys.length) * ei.size ≤ i := hi
         rw [hsize]
         rw [Nat.add_mul] at hi
         omega
        ·rw [hown'] at h'; injection h' with h'
         have := M.oks g i h
         omega
       ·have hi : (xs.length + ys.length) * ei.size ≤ i := hi
        rw [hsize] at h
        omega
      ·obtain ⟨cs, arr, ty', q1, q2, -⟩ := M.box i g h
       rcases hb with h' | ⟨h', -⟩
       ·exact (hsp3 g (h'.symm.trans hown')).2 i h
       ·rw [hown'] at h'; injection h' with h'
        have := blk_lt' q2
        omega
     ·rw [h2 j hjk] at hj
      refine (M.tok j r hj).keep hg (fun g hgb e => hother j r hjk hj g hgb e) (fun g i hgb hlt hn' h => ?_) (fun _ _ _ h => h)
      rcases h with h | ⟨rfl, -⟩
      ·exact hn' h
      ·exact hnew _ hlt (hother j r hjk hj _ hgb) rfl
    ·by_cases hik : i = k <;> by_cases hjk : j = k
     ·omega
     ·subst hik; rw [h1] at hi; injection hi with hi; subst hi
      rw [h2 j hjk] at hj
      have : g = g' := by injection hr' with hr'; exact hr'.symm
      subst this
      exact absurd rfl (hnew g ((M.tok j s hj).lt hs) (hother j s hjk hj g hs))
     ·subst hjk; rw [h1] at hj; injection hj with hj; subst hj
      rw [h2 i hik] at hi
      have : g = g' := by injection hs with hs; exact hs.symm
      subst this
      exact absurd rfl (hnew g ((M.tok i r hi).lt hr') (hother i r hik hi g hr'))
     ·rw [h2 i hik] at hi; rw [h2 j hjk] at hj; exact M.tinj i j r s g hi hj hr' hs
    ·by_cases hjk : j = k
     ·subst hjk; rw [h1] at hj; injection hj with hj; subst hj
      have hi : E.T r0.e = some i := hi
      rw [hTe] at hi; injection hi with hi; subst hi; rfl
     ·rw [h2 j hjk] at hj; exact M.tsz j r i hj hi
    ·refine M.stk.keep (fun q j v e xs h => ?_) S fun g hg h => ⟨hkeep g hg (hown0 g h), fun o ho => ?_, h.2.1, fun t r hr e => ?_⟩
     ·obtain ⟨b, cs, arr, ty', q1, q2, q3, q4, q5⟩ := h
      obtain ⟨_, _, _, -, g2, -⟩ := M.box q b q1
      have hne : r0.val.ownBlock ≠ some b := fun e => (hsp3 b e).2 q q1
      exact ⟨b, cs, arr, ty', q1, q2, by rw [hkeep b (blk_lt' g2) hne] at q3; exact q3, q4, q5⟩
     ·rcases ho with ho | ⟨rfl, -⟩
      ·exact h.1 o ho
      ·exact hnew _ hg (hown0 _ h) rfl
     ·by_cases hjk : t = k
      ·subst hjk; rw [h1] at hr; injection hr with hr; subst hr
       injection e with e
       exact hnew g hg (hown0 g h) e
      ·rw [h2 t hjk] at hr; exact h.2.2 t r hr e
    ·have hall : RepL (RepC w' (fun b o => ok b o ∨ (b = g' ∧ o < (xs.length + ys.length) * ti'.size))) (vals ++ news) (xs ++ ys).flatten := by
      rw [List.flatten_append]
      exact (hvals.mono fun _ _ h => h.stay S).append (hnews.mono fun _ _ h => h.stay S)
     have hxy : ∀ x ∈ xs ++ ys, x.length = ti'.size := by
      intro x hm
      rw [hsize]
      rcases List.mem_append.1 hm with hm | hm
      ·exact hx x hm
      ·exact hy x hm
     have hrow : RepC w' (fun b o => ok b o ∨ (b = g' ∧ o < (xs.length + ys.length) * ti'.size)) (.slice (some ⟨g', 0, none⟩) (xs.length + ys.length) cap') (.row (xs ++ ys)) := by
      refine .row _ _ _ _ ti'.size (fun i => (vals ++ news).getD i undef) (by simp) hle (fun h => by cases h) (by rw [hsize]; exact hp) hxy (fun i hi => ?_) (fun i x j c hxi hc => ?_)
      ·have hil : i < (vals ++ news).length := by rw [ho.1]; exact hi
       refine ⟨_, rfl, .inr ⟨rfl, by simpa using hi⟩, ?_⟩
       rw [ho.cells (g := g') rfl i _ (List.getElem?_eq_getElem hil)]
       simp [List.getD, List.getElem?_eq_getElem hil]
      ·obtain ⟨v, q1, q2⟩ := hall.get (flat_get _ i j x c hxy hxi hc)
       rw [show (vals ++ news).getD (i * ti'.size + j) undef = v by simp only [List.getD, q1]; rfl]
       exact q2
     exact .orow _ _ _ _ _ hrow _ h1 (Nat.le_refl _) (fun _ => ⟨rfl, rfl⟩)
  | _ => rw [hq] at hu; cases hu
theorem Mem.appF (hE : EnvOK E) (M : Mem E B H m tk ok w) {t e ty sz bb : Nat} {zz : List CV} {ei : TI} (hT : E.T t = some ⟨.slice e, sz, zz, bb⟩) (hTe : E.T e = some ei) (hp : 0 < ei.size) (hzl : ei.zero.length = ei.size) {A : Option Addr} {n : Nat} {xs ys : List (List CV)} {u : Value} (k : Nat)
  (hr : RepC w ok (.slice A n n) (.row xs)) (hx : ∀ x ∈ xs, x.length = ei.size)
  (hu : RepC w ok u (.row ys)) (hy : ∀ y ∈ ys, y.length = ei.size) (hys : ys ≠ []) (h63 : xs.length + ys.length ≤ 9223372036854775807) (hbytes : (xs.length + ys.length) * ei.bytes ≤ 140737488355328)
  (hk : tk[k]? = none) :
  ∃ v' w' r', (Builtin.append_ #[t, t] ty #[.slice A n n, u]).run E.P w = .ok v' w' ∧ r'.len = xs.length + ys.length ∧ r'.e = e ∧ ∀ tk' : List TokR, tk'[k]? = some r' → (∀ j, j ≠ k → tk'[j]? = tk[j]?) →
   ∃ ok', Mem E B H m tk' ok' w' ∧ Later w ok m tk w' ok' m tk' ∧ Rep w' ok' m tk' v' (.orow (xs ++ ys) k) := by
 obtain ⟨j1, j2, j3, olds, holds, hcells0⟩ := row_flat hr hx hp
 subst j1
 cases A with
 | none =>
  have h0 := j3 rfl
  have hxs : xs = [] := List.eq_nil_of_length_eq_zero h0
  subst hxs
  exact M.app hE (ty := ty) hT hTe hp hzl (r0 := ⟨none, 0, 0, ei.size, e⟩) k ⟨⟨[], World.ownsRow_nil _ _ _ _⟩, fun g hg => by cases hg⟩ rfl rfl rfl hr hx hu hy h63 hbytes (fun j r _ _ g _ hg => by cases hg) (.inl ⟨hk, rfl⟩)
 | some b0 =>
  obtain ⟨ti, d, zv, zs, g1, g2, g3, g5, g4⟩ := ty_parts hE hT
  obtain ⟨ti', d', zv', zs', g1', g2', g3', g5', g4'⟩ := ty_parts hE hTe
  cases d <;> simp [kindOf] at g4
  obtain ⟨rfl, -⟩ := g4
  have hsize : ti'.size = ei.size := by rw [g4']
  have hbt : ti'.bytes = ei.bytes := by rw [g4']
  cases hq : u with
  | slice UB ml uc =>
   rw [hq] at hu
   obtain ⟨k1, k2, k3, news, hnews, hcells⟩ := row_flat hu hy hp
   subst k1
   have hyl : 0 < ys.length := by
    cases ys with
    | nil => exact absurd rfl hys
    | cons _ _ => simp
   cases UB with
   | none => have := k3 rfl; omega
   | some a =>
    have hnl : news.length = ys.length * ti'.size := by rw [hnews.1, flat_length ys hy, hsize]
    have hol : olds.length = xs.length * ti'.size := by rw [holds.1, flat_length xs hx, hsize]
    have hzz : zv'.cells.size = ti'.size := by
     have h := (repL_ofVals (w := w) (ok := ok) g5').1
     have : ei.zero = zs' := by rw [g4']
     rw [hsize, ← hzl, this, ← h]
     simp
    obtain ⟨v', w', hrun, ho, hg⟩ := run_append_arg_grows (P := E.P) w t ty e ti' zv' ti'.size ti'.bytes g2 g1' g3' rfl rfl hzz (by rw [hsize]; exact hp) b0 xs.length xs.length olds hol (fun j v hj => (hcells0 b0 rfl j v hj).2) a ys.length uc news hnl (fun j v hj => (hcells a rfl j v hj).2) (by omega) h63 (by rw [hbt]; exact hbytes)
    have hv' : ∃ (g' cap' : Nat), v' = .slice (some ⟨g', 0, none⟩) (xs.length + ys.length) cap' ∧ xs.length + ys.length ≤ cap' := by
     rcases ho.2 with ⟨_, h0⟩ | ⟨g', cap', cur, hv, _, _, hle, _⟩
     ·omega
     ·exact ⟨g', cap', hv, hle⟩
    obtain ⟨g', cap', rfl, hle⟩ := hv'
    have hlt' := ho.lt g' rfl
    have ho' : w'.ownsRow B.w0.heap.size e ti'.size (.slice (some ⟨g', 0, none⟩) (xs.length + ys.length) cap') (xs.length + ys.length) (olds ++ news) := by
     refine ⟨ho.1, ?_⟩
     rcases ho.2 with h | ⟨g, cap, cur, h1, h2, h3⟩
     ·exact .inl h
     ·exact .inr ⟨g, cap, cur, h1, Nat.le_trans M.size h2, h3⟩
    have hkeep : ∀ b, b < w.heap.size → w'.heap[b]? = w.heap[b]? := fun b hb' => hg.block b hb' (by simp)
    have hnew : ∀ b, b < w.heap.size → g' ≠ b := by
     intro b hb' e
     subst e
     have := hlt'.1
     omega
    refine ⟨_, w', ⟨some ⟨g', 0, none⟩, xs.length + ys.length, cap', ei.size, e⟩, hrun, rfl, rfl, fun tk' h1 h2 => ?_⟩
    refine ⟨fun b o => ok b o ∨ (b = g' ∧ o < (xs.length + ys.length) * ti'.size), ?_⟩
    have S : Stay w ok w' (fun b o => ok b o ∨ (b = g' ∧ o < (xs.length + ys.length) * ti'.size)) :=
     stay_of _ (fun k h _ => hkeep k h) M.oks (fun b o h => .inl h)
    have L : Later w ok m tk w' (fun b o => ok b o ∨ (b = g' ∧ o < (xs.length + ys.length) * ti'.size)) m tk' := by
     refine ⟨S, fun _ _ h => h, fun j r hj => ?_⟩
     by_cases hjk : j = k
     ·subst hjk; rw [hk] at hj; cases hj
     ·exact ⟨r, by rw [h2 j hjk]; exact hj, .inl rfl⟩
    have hglob : ∀ b, b < B.w0.heap.size → b < w.heap.size := fun b hb' => by have := M.size; omega
    refine ⟨⟨M.inv_of hE hg.size (fun b hb' => hkeep b (hglob b (by have := M.gb; omega))), hg.os.trans M.os, hg.tape.trans M.tape, hg.output.trans M.output, Nat.le_trans M.size hg.size, fun b hb' hne hne' => ?_, fun b o h => ?_, fun b o h => ?_, M.len, fun i b h => ?_, M.inj, fun j r hj => ?_, fun i j r s g hi hj hr' hs => ?_, M.gb, fun j r i hj hi => ?_, ?_⟩, L, ?_⟩
    ·rw [hkeep b (hglob b hb')]; exact M.frame b hb' hne hne'
    ·rcases h with h | ⟨rfl, -⟩
     ·exact M.okb b o h
     ·exact .inr (Nat.le_trans M.size hlt'.1)
    ·rcases h with h | ⟨rfl, -⟩
     ·exact Nat.lt_of_lt_of_le (M.oks b o h) hg.size
     ·exact hlt'.2
    ·obtain ⟨cs, arr, ty', q1, q2, q3, q4, q5⟩ := M.box i b h
     have hbl := blk_lt' q2
     refine ⟨cs, arr, ty', q1, by rw [hkeep b hbl]; exact q2, q3.mono fun _ _ h => h.later L, fun o hk' => ?_, q5⟩
     rcases hk' with hk' | ⟨rfl, -⟩
     ·exact q4 o hk'
     ·exact hnew _ hbl rfl
    ·by_cases hjk : j = k
     ·subst hjk; rw [h1] at hj; injection hj with hj; subst hj
      refine ⟨⟨olds ++ news, hsize ▸ ho'⟩, fun g hgb => ?_⟩
      have : g = g' := by injection hgb with hgb; exact hgb.symm
      subst this
      refine ⟨fun i hi h => ?_, fun i h => ?_⟩
      ·rcases h with h | ⟨-, h⟩
       ·have := M.oks g i h
        have := hlt'.1
        omega
       ·have hi : (xs.length + ys.length) * ei.size ≤ i := hi
        rw [hsize] at h
        omega
      ·obtain ⟨cs, arr, ty', q1, q2, -⟩ := M.box i g h
       have := blk_lt' q2
       have := hlt'.1
       omega
     ·rw [h2 j hjk] at hj
      refine (M.tok j r hj).keep hg (fun g hgb e => by cases e) (fun g i hgb hlt hn' h => ?_) (fun _ _ _ h => h)
      rcases h with h | ⟨rfl, -⟩
      ·exact hn' h
      ·exact hnew _ hlt rfl
    ·by_cases hik : i = k <;> by_cases hjk : j = k
     ·omega
     ·subst hik; rw [h1] at hi; injection hi with hi; subst hi
      rw [h2 j hjk] at hj
      have : g = g' := by injection hr' with hr'; exact hr'.symm
      subst this
      exact absurd rfl (hnew g ((M.tok j s hj).lt hs))
     ·subst hjk; rw [h1] at hj; injection hj with hj; subst hj
      rw [h2 i hik] at hi
      have : g = g' := by injection hs with hs; exact hs.symm
      subst this
      exact absurd rfl (hnew g ((M.tok i r hi).lt hr'))
     ·rw [h2 i hik] at hi; rw [h2 j hjk] at hj; exact M.tinj i j r s g hi hj hr' hs
    ·by_cases hjk : j = k
     ·subst hjk; rw [h1] at hj; injection hj with hj; subst hj
      have hi : E.T e = some i := hi
      rw [hTe] at hi; injection hi with hi; subst hi; rfl
     ·rw [h2 j hjk] at hj; exact M.tsz j r i hj hi
    ·refine M.stk.keep (fun q j v e xs h => ?_) S fun g hg h => ⟨hkeep g hg, fun o ho => ?_, h.2.1, fun t r hr e => ?_⟩
     ·obtain ⟨b, cs, arr, ty', q1, q2, q3, q4, q5⟩ := h
      obtain ⟨_, _, _, -, g2, -⟩ := M.box q b q1
      exact ⟨b, cs, arr, ty', q1, q2, by rw [hkeep b (blk_lt' g2)] at q3; exact q3, q4, q5⟩
     ·rcases ho with ho | ⟨rfl, -⟩
      ·exact h.1 o ho
      ·exact hnew _ hg rfl
     ·by_cases hjk : t = k
      ·subst hjk; rw [h1] at hr; injection hr with hr; subst hr
       injection e with e
       exact hnew g hg e
      ·rw [h2 t hjk] at hr; exact h.2.2 t r hr e
    ·have hall : RepL (RepC w' (fun b o => ok b o ∨ (b = g' ∧ o < (xs.length + ys.length) * ti'.size))) (olds ++ news) (xs ++ ys).flatten := by
      rw [List.flatten_append]
      exact (holds.mono fun _ _ h => h.stay S).append (hnews.mono fun _ _ h => h.stay S)
     have hxy : ∀ x ∈ xs ++ ys, x.length = ti'.size := by
      intro x hm
      rw [hsize]
      rcases List.mem_append.1 hm with hm | hm
      ·exact hx x hm
      ·exact hy x hm
     have hrow : RepC w' (fun b o => ok b o ∨ (b = g' ∧ o < (xs.length + ys.length) * ti'.size)) (.slice (some ⟨g', 0, none⟩) (xs.length + ys.length) cap') (.row (xs ++ ys)) := by
      refine .row _ _ _ _ ti'.size (fun i => (olds ++ news).getD i undef) (by simp) hle (fun h => by cases h) (by rw [hsize]; exact hp) hxy (fun i hi => ?_) (fun i x j c hxi hc => ?_)
      ·have hil : i < (olds ++ news).length := by rw [ho.1]; exact hi
       refine ⟨_, rfl, .inr ⟨rfl, by simpa using hi⟩, ?_⟩
       rw [ho.cells (g := g') rfl i _ (List.getElem?_eq_getElem hil)]
       simp [List.getD, List.getElem?_eq_getElem hil]
      ·obtain ⟨v, q1, q2⟩ := hall.get (flat_get _ i j x c hxy hxi hc)
       rw [show (olds ++ news).getD (i * ti'.size + j) undef = v by simp only [List.getD, q1]; rfl]
       exact q2
     exact .orow _ _ _ _ _ hrow _ h1 (Nat.le_refl _) (fun _ => ⟨rfl, rfl⟩)
  | _ => rw [hq] at hu; cases hu
def StkOK (c d : List PV) : Prop := ∀ (j : Nat) (q : PV), d[j]? = some q → q.isStk = true → c[j]? = some q ∨ (c[j]? = some (.c .nil) ∧ ∃ e, q = .stk e [])
theorem StkOK.refl (c : List PV) : StkOK c c := fun _ _ h _ => .inl h
theorem FrB.stk {c d : List PV} {ty : TypeId} (h : FrB c ty) (hs : StkOK c d) : FrB d ty := fun t ht => by
 rcases hs 0 _ ht rfl with q | ⟨-, e, q⟩
 ·exact h t q
 ·cases q
theorem FrB.closedB {d : List PV} {ty : TypeId} (h : d.all PV.closedB = true) : FrB d ty := fun t ht => by
 have := List.all_eq_true.1 h _ (List.mem_of_getElem? ht)
 cases this
theorem StkOK.none {c d : List PV} (h : (d.any PV.isStk) = false) : StkOK c d := fun j q hq hs => by
 rw [List.any_eq_false] at h
 exact absurd hs (h q (List.mem_of_getElem? hq))
theorem ex_list (P : Nat → Prop) (n : Nat) (h : ∀ g, P g → g < n) : ∃ gs : List Nat, ∀ g, g ∈ gs ↔ P g := by
 classical
 exact ⟨(List.range n).filter (fun g => decide (P g)), fun g => by simp; exact fun hp => h g hp⟩
theorem own_nil (e : Nat) : OwnR E B m tk ok w (.slice none 0 0) e [] := by
 obtain ⟨sz, hsz⟩ : ∃ sz, ∀ ei, E.T e = some ei → sz = ei.size := by
  cases h : E.T e with
  | none => exact ⟨0, fun ei h => by cases h⟩
  | some ei => exact ⟨ei.size, fun ej h => by injection h with h; rw [h]⟩
 exact ⟨sz, [], World.ownsRow_nil _ _ _ _, .nil, fun x hx => (by cases hx), hsz, fun g hg => by cases hg⟩
theorem Mem.entryS (M : Mem E B H m tk ok w) {ids ms : List Nat} {bs : List (List PV)} (hl : ms.length = ids.length) (hbl : bs.length = ids.length) (hnd : ids.Nodup) (hms : ∀ (k i b : Nat), ids[k]? = some i → ms[k]? = some b → m[i]? = some (some b))
  (hbs : ∀ (k i : Nat) (cs : List PV), ids[k]? = some i → H[i]? = some cs → ∃ d, bs[k]? = some d ∧ (∀ (vs : List Value) (w : World) (ok : Nat → Nat → Prop) (m : List (Option Nat)) (tk : List TokR), RepL (Rep w ok m tk) vs cs → RepL (Rep w ok m tk) vs d) ∧ d.all PV.closedB = true ∧ StkOK cs d) :
  ∃ gs : List Nat, Mem E ⟨w, ok, ms, gs⟩ bs (ms.map some) [] ok w ∧ (∀ g ∈ gs, ∃ i j v e xs, i ∈ ids ∧ StkAt H m w i j v e xs ∧ v.ownBlock = some g) ∧ ∀ g ∈ gs, ∃ k j v e xs, StkAt bs (ms.map some) w k j v e xs := by
 have hmm : ∀ (k b : Nat), (ms.map some)[k]? = some (some b) → ∃ i, ids[k]? = some i ∧ ms[k]? = some b ∧ m[i]? = some (some b) := by
  intro k b h
  rw [List.getElem?_map] at h
  cases hq : ms[k]? with
  | none => simp [hq] at h
  | some b' =>
   simp [hq] at h; subst h
   have hk : k < ids.length := by rw [← hl]; exact (List.getElem?_eq_some_iff.1 hq).1
   exact ⟨_, List.getElem?_eq_getElem hk, rfl, hms k _ _ (List.getElem?_eq_getElem hk) hq⟩
 have back : ∀ k j v e xs, StkAt bs (ms.map some) w k j v e xs → ∃ i, ids[k]? = some i ∧ (StkAt H m w i j v e xs ∨ (v = .slice none 0 0 ∧ xs = [])) := by
  rintro k j v e xs ⟨b, ds, arr, ty, h1, h2, h3, h4, h5⟩
  obtain ⟨i, q1, q2, q3⟩ := hmm k b h1
  obtain ⟨cs, arr', ty', g1, g2, g3, -⟩ := M.box i b q3
  obtain ⟨d, e1, -, -, e2⟩ := hbs k i cs q1 g1
  rw [e1] at h2
  injection h2 with h2; subst h2
  rw [g2] at h3
  injection h3 with h3; injection h3 with h3 h3'; subst h3; subst h3'
  refine ⟨i, q1, ?_⟩
  rcases e2 j _ h5 rfl with h | ⟨h, e', he⟩
  ·exact .inl ⟨b, cs, _, _, q3, g1, g2, h4, h⟩
  ·injection he with he1 he2
   have hr := g3.2 j _ _ h4 h
   refine .inr ⟨?_, he2⟩
   cases hr with
   | c v p hc => cases hc; rfl
 obtain ⟨gs, hg⟩ := ex_list (fun g => ∃ k j v e xs, StkAt bs (ms.map some) w k j v e xs ∧ v.ownBlock = some g) w.heap.size (by
  rintro g ⟨k, j, v, e, xs, h1, h2⟩
  obtain ⟨i, q1, q2⟩ := back k j v e xs h1
  rcases q2 with q2 | ⟨rfl, -⟩
  ·obtain ⟨_, _, ho, _⟩ := M.stk.own i j v e xs q2
   exact (ho.lt g h2).2
  ·cases h2)
 refine ⟨gs, ?_, fun g h => ?_, fun g h => by obtain ⟨k, j, v, e, xs, h1, -⟩ := (hg g).1 h; exact ⟨k, j, v, e, xs, h1⟩⟩
 rotate_left
 ·obtain ⟨k, j, v, e, xs, h1, h2⟩ := (hg g).1 h
  obtain ⟨i, q1, q2⟩ := back k j v e xs h1
  rcases q2 with q2 | ⟨rfl, -⟩
  ·exact ⟨i, j, v, e, xs, List.mem_of_getElem? q1, q2, h2⟩
  ·cases h2
 refine ⟨M.inv, rfl, rfl, rfl, Nat.le_refl _, fun _ _ _ _ => rfl, fun _ _ h => .inl h, M.oks, by simp [hl, hbl], fun k b h => ?_, fun k j b h1 h2 => ?_, fun t r h => by simp at h, fun t u r s a h => by simp at h, ?_, fun t r i h => by simp at h, ⟨fun k j v e xs h => ?_, fun k j v e xs k' j' v' e' xs' g h h' hb hb' => ?_⟩⟩
 ·obtain ⟨i, h1, h2, h3⟩ := hmm k b h
  obtain ⟨cs, arr, ty, g1, g2, g3, g4, g5, g6⟩ := M.box i b h3
  obtain ⟨d, h4, h5, h6, -⟩ := hbs k i cs h1 g1
  have hr := h5 _ _ _ _ _ g3
  exact ⟨d, arr, ty, h4, g2, ⟨hr.1, fun j v p hv hp => (hr.2 j v p hv hp).closedB (List.all_eq_true.1 h6 p (List.mem_of_getElem? hp)) _ _⟩, g4, g5, .inl (List.mem_of_getElem? h2), FrB.closedB h6⟩
 ·obtain ⟨i, q1, q2, q3⟩ := hmm k b h1
  obtain ⟨i', r1, r2, r3⟩ := hmm j b h2
  have := M.inj i i' b q3 r3
  subst this
  obtain ⟨hk, ek⟩ := List.getElem?_eq_some_iff.1 q1
  obtain ⟨hj, ej⟩ := List.getElem?_eq_some_iff.1 r1
  exact (List.getElem_inj hnd).1 (ek.trans ej.symm)
 ·have := M.gb; have := M.size; show E.P.globals.size ≤ w.heap.size; omega
 ·obtain ⟨i, q1, q2⟩ := back k j v e xs h
  rcases q2 with q2 | ⟨rfl, rfl⟩
  ·obtain ⟨sz, us, ho, hr, hx, ht, hgb⟩ := M.stk.own i j v e xs q2
   refine ⟨sz, us, ho, hr, hx, ht, fun g hb => ⟨(hgb g hb).1.mono (fun o ho => ho) (fun i hi => ?_) (fun t r hr _ => by simp at hr), .inl ((hg g).2 ⟨k, j, v, e, xs, h, hb⟩)⟩⟩
   obtain ⟨i', -, -, h3⟩ := hmm i g hi
   exact ⟨i', h3⟩
  ·exact own_nil e
 ·obtain ⟨i, q1, q2⟩ := back k j v e xs h
  obtain ⟨i', r1, r2⟩ := back k' j' v' e' xs' h'
  rcases q2 with q2 | ⟨rfl, -⟩
  ·rcases r2 with r2 | ⟨rfl, -⟩
   ·obtain ⟨ei, ej⟩ := M.stk.inj i j v e xs i' j' v' e' xs' g q2 r2 hb hb'
    subst ei
    obtain ⟨hk, ek⟩ := List.getElem?_eq_some_iff.1 q1
    obtain ⟨hj, ek'⟩ := List.getElem?_eq_some_iff.1 r1
    exact ⟨(List.getElem_inj hnd).1 (ek.trans ek'.symm), ej⟩
   ·cases hb'
  ·cases hb
def setL (H : List (List PV)) : List Nat → List (List PV) → List (List PV)
 | i :: ids, b :: bs => setL (H.set i b) ids bs
 | _, _ => H
theorem setL_length : ∀ (ids : List Nat) (bs H : List (List PV)), (setL H ids bs).length = H.length
 | [], _, _ => by unfold setL; rfl
 | _ :: _, [], _ => by unfold setL; rfl
 | i :: ids, b :: bs, H => by unfold setL; rw [setL_length ids bs]; simp
theorem setL_other : ∀ (ids : List Nat) (bs H : List (List PV)) (j : Nat), j ∉ ids → (setL H ids bs)[j]? = H[j]?
 | [], _, _, _, _ => by unfold setL; rfl
 | _ :: _, [], _, _, _ => by unfold setL; rfl
 | i :: ids, b :: bs, H, j, h => by
  unfold setL
  rw [setL_other ids bs _ j (fun h' => h (by simp [h'])), List.getElem?_set_ne (fun e => h (by simp [e]))]
theorem setL_at : ∀ (ids : List Nat) (bs H : List (List PV)) (k j : Nat) (b : List PV), ids.Nodup → ids[k]? = some j → bs[k]? = some b → j < H.length → (setL H ids bs)[j]? = some b
 | [], _, _, _, _, _, _, h, _, _ => by simp at h
 | _ :: _, [], _, _, _, _, _, _, h, _ => by simp at h
 | i :: ids, c :: bs, H, 0, j, b, hn, h, hb, hl => by
  simp at h hb; subst h; subst hb
  unfold setL
  rw [setL_other ids bs _ _ (List.nodup_cons.1 hn).1, List.getElem?_set_self hl]
 | i :: ids, c :: bs, H, k + 1, j, b, hn, h, hb, hl => by
  unfold setL
  exact setL_at ids bs _ k j b (List.nodup_cons.1 hn).2 (by simpa using h) (by simpa using hb) (by simpa using hl)
theorem Mem.backS (M : Mem E B H m tk ok w) {w' : World} {ok' : Nat → Nat → Prop} {ids ms gs : List Nat} {bs : List (List PV)} (hl : ms.length = ids.length) (hbl : bs.length = ids.length) (hnd : ids.Nodup) (hms : ∀ (k i b : Nat), ids[k]? = some i → ms[k]? = some b → m[i]? = some (some b)) (hids : ∀ i ∈ ids, i < H.length)
  (hcl : bs.all (fun d => d.all PV.closedB) = true) (M' : Mem E ⟨w, ok, ms, gs⟩ bs (ms.map some) [] ok' w') (hgs : ∀ g ∈ gs, ∃ i j v e xs, i ∈ ids ∧ StkAt H m w i j v e xs ∧ v.ownBlock = some g) (hk : ∀ b o, ok b o → ok' b o) : Mem E B (setL H ids bs) m tk ok' w' ∧ Later w ok m tk w' ok' m tk := by
 have inms : ∀ b, b ∈ ms → ∃ (k i : Nat), ids[k]? = some i ∧ ms[k]? = some b ∧ m[i]? = some (some b) := by
  intro b hb
  obtain ⟨k, hk⟩ := List.mem_iff_getElem?.1 hb
  have hk' : k < ids.length := by rw [← hl]; exact (List.getElem?_eq_some_iff.1 hk).1
  exact ⟨k, _, List.getElem?_eq_getElem hk', hk, hms k _ _ (List.getElem?_eq_getElem hk') hk⟩
 have hf : ∀ k, k < w.heap.size → k ∉ ms → k ∉ gs → w'.heap[k]? = w.heap[k]? := fun k h h' h'' => M'.frame k h h' h''
 have hga : ∀ g ∈ gs, Alone m tk ok g ∧ (g ∈ B.g0 ∨ B.w0.heap.size ≤ g) ∧ g < w.heap.size := by
  intro g hg
  obtain ⟨i, j, v, e, xs, -, h1, h2⟩ := hgs g hg
  obtain ⟨sz, us, ho, -, -, -, hgb⟩ := M.stk.own i j v e xs h1
  exact ⟨(hgb g h2).1, (hgb g h2).2, (ho.lt g h2).2⟩
 have S : Stay w ok w' ok' := stay_of ok' (fun k h ⟨o, ho⟩ => hf k h (fun hm => by
  obtain ⟨_, i, _, _, h3⟩ := inms k hm
  obtain ⟨_, _, _, _, _, _, g4, _⟩ := M.box i k h3
  exact g4 o ho) (fun hg => (hga k hg).1.1 o ho)) M.oks hk
 have L := Later.of_stay S m tk
 have hno : ∀ b o, b < w.heap.size → ¬ ok b o → ¬ ok' b o := by
  intro b o hb hn h
  rcases M'.okb b o h with h | h
  ·exact hn h
  ·have h : w.heap.size ≤ b := h
   omega
 have hg : w.grownBy w' none ∨ True := .inr trivial
 refine ⟨⟨M'.inv, M'.os.trans M.os, M'.tape.trans M.tape, M'.output.trans M.output, Nat.le_trans M.size M'.size, fun k h1 h2 h2' => ?_, fun b o h => ?_, M'.oks, by rw [setL_length]; exact M.len, fun i b h => ?_, M.inj, fun t r h => ?_, M.tinj, M.gb, M.tsz, ?_⟩, L⟩
 ·rw [hf k (by have := M.size; omega) (fun hm => by
   obtain ⟨_, i, _, _, h3⟩ := inms k hm
   obtain ⟨_, _, _, _, _, _, _, _, g6⟩ := M.box i k h3
   rcases g6.1 with g6 | g6
   ·exact h2 g6
   ·omega) (fun hg => by
   rcases (hga k hg).2.1 with g6 | g6
   ·exact h2' g6
   ·omega)]
  exact M.frame k h1 h2 h2'
 ·rcases M'.okb b o h with h | h
  ·exact M.okb b o h
  ·exact .inr (Nat.le_trans M.size h)
 ·obtain ⟨cs, arr, ty, h1, h2, h3, h4, h5⟩ := M.box i b h
  by_cases hi : i ∈ ids
  ·obtain ⟨k, hki⟩ := List.mem_iff_getElem?.1 hi
   have hk' : k < ms.length := by rw [hl]; exact (List.getElem?_eq_some_iff.1 hki).1
   have hkb : ms[k]? = some ms[k] := List.getElem?_eq_getElem hk'
   have hb : m[i]? = some (some ms[k]) := hms k i _ hki hkb
   rw [h] at hb
   injection hb with hb; injection hb with hb
   rw [← hb] at hkb
   obtain ⟨ds, arr', ty', q1, q2, q3, -⟩ := M'.box k b (by rw [List.getElem?_map, hkb]; rfl)
   refine ⟨ds, arr', ty', setL_at ids bs H k i ds hnd hki q1 (hids i hi), q2, ?_, fun o => hno b o (blk_lt' h2) (h4 o), h5.1, h5.2.1, FrB.closedB (List.all_eq_true.1 hcl ds (List.mem_of_getElem? q1))⟩
   have hdc := List.all_eq_true.1 hcl ds (List.mem_of_getElem? q1)
   exact ⟨q3.1, fun j v p hv hp => (q3.2 j v p hv hp).closedB (List.all_eq_true.1 hdc p (List.mem_of_getElem? hp)) _ _⟩
  ·have hb : b ∉ ms := by
    intro hm
    obtain ⟨k, i', q1, q2, q3⟩ := inms b hm
    have := M.inj i i' b h q3
    subst this
    exact hi (List.mem_of_getElem? q1)
   exact ⟨cs, arr, ty, by rw [setL_other ids bs H i hi]; exact h1, by rw [hf b (blk_lt' h2) hb (fun hg => (hga b hg).1.2.1 i h)]; exact h2, h3.mono fun _ _ h => h.later L, fun o => hno b o (blk_lt' h2) (h4 o), h5⟩
 ·obtain ⟨⟨xs, ho⟩, hsp⟩ := M.tok t r h
  refine ⟨⟨xs, ho.1, ?_⟩, fun g hgb => ⟨fun i hi => hno g _ (ho.lt g hgb).2 ((hsp g hgb).1 i hi), (hsp g hgb).2⟩⟩
  rcases ho.2 with hn | ⟨g, cap, cur, he, hb, hgg, rest⟩
  ·exact .inl hn
  ·refine .inr ⟨g, cap, cur, he, hb, ?_, rest⟩
   rw [hf g (blk_lt' hgg) (fun hm => by
    obtain ⟨_, i, _, _, h3⟩ := inms g hm
    have : (Value.slice r.A r.len r.cap).ownBlock = some g := by rw [he]; rfl
    exact (hsp g this).2 i h3) (fun hg => (hga g hg).1.2.2 t r h (by rw [he]; rfl))]
   exact hgg
 ·have split : ∀ i j v e xs, StkAt (setL H ids bs) m w' i j v e xs → (∃ k, ids[k]? = some i ∧ StkAt bs (ms.map some) w' k j v e xs) ∨ (i ∉ ids ∧ StkAt H m w i j v e xs) := by
   rintro i j v e xs ⟨b, cs, arr, ty, h1, h2, h3, h4, h5⟩
   by_cases hi : i ∈ ids
   ·obtain ⟨k, hki⟩ := List.mem_iff_getElem?.1 hi
    have hk' : k < ms.length := by rw [hl]; exact (List.getElem?_eq_some_iff.1 hki).1
    have hkb : ms[k]? = some ms[k] := List.getElem?_eq_getElem hk'
    have hb : m[i]? = some (some ms[k]) := hms k i _ hki hkb
    rw [h1] at hb
    injection hb with hb; injection hb with hb
    rw [← hb] at hkb
    have hmk : (ms.map some)[k]? = some (some b) := by rw [List.getElem?_map, hkb]; rfl
    obtain ⟨ds, arr', ty', q1, q2, -⟩ := M'.box k b hmk
    have := setL_at ids bs H k i ds hnd hki q1 (hids i hi)
    rw [this] at h2
    injection h2 with h2; subst h2
    exact .inl ⟨k, hki, b, ds, arr, ty, hmk, q1, h3, h4, h5⟩
   ·rw [setL_other ids bs H i hi] at h2
    obtain ⟨_, _, _, _, g2, _⟩ := M.box i b h1
    have hb : b ∉ ms := by
     intro hm
     obtain ⟨k, i', q1, q2, q3⟩ := inms b hm
     have := M.inj i i' b h1 q3
     subst this
     exact hi (List.mem_of_getElem? q1)
    rw [hf b (blk_lt' g2) hb (fun hg => (hga b hg).1.2.1 i h1)] at h3
    exact .inr ⟨hi, b, cs, arr, ty, h1, h2, h3, h4, h5⟩
  have inG : ∀ i j v e xs g, i ∉ ids → StkAt H m w i j v e xs → v.ownBlock = some g → g ∉ gs := by
   intro i j v e xs g hi h1 h2 hg
   obtain ⟨i', j', v', e', xs', h3, h4, h5⟩ := hgs g hg
   obtain ⟨rfl, -⟩ := M.stk.inj i j v e xs i' j' v' e' xs' g h1 h4 h2 h5
   exact hi h3
  have inS : ∀ k j v e xs g, StkAt bs (ms.map some) w' k j v e xs → v.ownBlock = some g → g ∈ gs ∨ w.heap.size ≤ g := by
   intro k j v e xs g h1 h2
   obtain ⟨_, _, _, _, _, _, hgb⟩ := M'.stk.own k j v e xs h1
   exact (hgb g h2).2
  refine ⟨fun i j v e xs h => ?_, fun i j v e xs i' j' v' e' xs' g h h' hb hb' => ?_⟩
  ·rcases split i j v e xs h with ⟨k, h1, h2⟩ | ⟨hi, h2⟩
   ·obtain ⟨sz, us, ho, hr, hx, ht, hgb⟩ := M'.stk.own k j v e xs h2
    refine ⟨sz, us, ho, hr, hx, ht, fun g hb => ?_⟩
    obtain ⟨⟨a1, -, -⟩, a4⟩ := hgb g hb
    have a4 : g ∈ gs ∨ w.heap.size ≤ g := a4
    refine ⟨⟨a1, fun i' hi' => ?_, fun t r hr hg' => ?_⟩, ?_⟩
    ·rcases a4 with a4 | a4
     ·exact (hga g a4).1.2.1 i' hi'
     ·obtain ⟨_, _, _, _, g2, _⟩ := M.box i' g hi'
      have := blk_lt' g2
      omega
    ·rcases a4 with a4 | a4
     ·exact (hga g a4).1.2.2 t r hr hg'
     ·have := (M.tok t r hr).lt hg'
      omega
    ·rcases a4 with a4 | a4
     ·exact (hga g a4).2.1
     ·exact .inr (Nat.le_trans M.size a4)
   ·obtain ⟨sz, us, ho, hr, hx, ht, hgb⟩ := M.stk.own i j v e xs h2
    refine ⟨sz, us, own_move ho fun g hb => ?_, hr.mono fun _ _ h => h.stay S, hx, ht, fun g hb => ⟨⟨fun o => hno g o (ho.lt g hb).2 ((hgb g hb).1.1 o), (hgb g hb).1.2⟩, (hgb g hb).2⟩⟩
    refine hf g (ho.lt g hb).2 (fun hm => ?_) (inG i j v e xs g hi h2 hb)
    obtain ⟨_, i', _, _, q3⟩ := inms g hm
    exact (hgb g hb).1.2.1 i' q3
  ·rcases split i j v e xs h with ⟨k, h1, h2⟩ | ⟨hi, h2⟩ <;> rcases split i' j' v' e' xs' h' with ⟨k', h1', h2'⟩ | ⟨hi', h2'⟩
   ·obtain ⟨rfl, ej⟩ := M'.stk.inj k j v e xs k' j' v' e' xs' g h2 h2' hb hb'
    rw [h1] at h1'
    injection h1' with h1'
    exact ⟨h1', ej⟩
   ·exfalso
    obtain ⟨_, _, ho, _⟩ := M.stk.own i' j' v' e' xs' h2'
    have := (ho.lt g hb').2
    rcases inS k j v e xs g h2 hb with h | h
    ·exact inG i' j' v' e' xs' g hi' h2' hb' h
    ·omega
   ·exfalso
    obtain ⟨_, _, ho, _⟩ := M.stk.own i j v e xs h2
    have := (ho.lt g hb).2
    rcases inS k' j' v' e' xs' g h2' hb' with h | h
    ·exact inG i j v e xs g hi h2 hb h
    ·omega
   ·exact M.stk.inj i j v e xs i' j' v' e' xs' g h2 h2' hb hb'
def fitA (n : Nat) : AV → Bool
 | .p i _ => decide (i < n)
 | _ => true
def fitB (n : Nat) : PV → Bool
 | .ptr i _ => decide (i < n)
 | .clos _ a b => (a ++ b).all (fitA n)
 | .fresh _ => true
 | .mclo _ i => decide (i < n)
 | p => p.closedB
theorem RepA.fit {m' : List (Option Nat)} {n : Nat} (hm : ∀ (i b : Nat), i < n → m[i]? = some (some b) → m'[i]? = some (some b)) {v : Value} {p : AV} (h : RepA w ok m v p) (hf : fitA n p = true) : RepA w ok m' v p := by
 cases h with
 | p i off b hb => exact .p i off b (hm i b (of_decide_eq_true hf) hb)
 | c v p h => exact .c v p h
 | a cs ds h => exact .a cs ds h
theorem Rep.fit {m' : List (Option Nat)} {n : Nat} (tk' : List TokR) (hm : ∀ (i b : Nat), i < n → m[i]? = some (some b) → m'[i]? = some (some b)) {v : Value} {p : PV} (h : Rep w ok m tk v p) (hf : fitB n p = true) : Rep w ok m' tk' v p := by
 cases h with
 | ptr i off b hb => exact .ptr i off b (hm i b (of_decide_eq_true hf) hb)
 | clos f fs cs ps qs h1 h2 =>
  have hf : (ps ++ qs).all (fitA n) = true := hf
  rw [List.all_eq_true] at hf
  exact .clos f fs cs ps qs ⟨h1.1, fun i v p hv hp => (h1.2 i v p hv hp).fit hm (hf p (List.mem_append_left _ (List.mem_of_getElem? hp)))⟩ ⟨h2.1, fun i v p hv hp => (h2.2 i v p hv hp).fit hm (hf p (List.mem_append_right _ (List.mem_of_getElem? hp)))⟩
 | c v p h => exact .c v p h
 | agg cs ds h => exact .agg cs ds h
 | tup cs ds hl h => exact (Rep.tup cs ds hl h).closedB hf m' tk'
 | ifc t cs ds h => exact .ifc t cs ds h
 | nif => exact .nif
 | stk A len cap e xs hl => exact .stk A len cap e xs hl
 | undef v => exact .undef v
 | fresh t => exact .fresh t
 | mclo fs i b g ck hb hk hh => exact .mclo fs i b g ck (hm i b (of_decide_eq_true hf) hb) hk hh
 | _ => simp [fitB, PV.closedB, PV.closed] at hf
theorem all_some : ∀ {m : List (Option Nat)} {N : Nat}, m.length = N → (∀ i, i < N → ∃ b, m[i]? = some (some b)) → ∃ ms : List Nat, m = ms.map some
 | [], _, _, _ => ⟨[], rfl⟩
 | x :: m, N, hl, h => by
  obtain ⟨b, hb⟩ := h 0 (by rw [← hl]; simp)
  obtain ⟨ms, hms⟩ := all_some (m := m) (N := m.length) rfl (fun i hi => by
   obtain ⟨b, hb⟩ := h (i + 1) (by rw [← hl]; simp; exact hi)
   exact ⟨b, by simpa using hb⟩)
  simp at hb
  exact ⟨b :: ms, by rw [hb, hms]; rfl⟩
theorem map_some_at {ms : List Nat} {i b : Nat} (h : (ms.map some)[i]? = some (some b)) : ms[i]? = some b := by
 rw [List.getElem?_map] at h
 cases hq : ms[i]? with
 | none => rw [hq] at h; cases h
 | some c => rw [hq] at h; simp at h; rw [h]
theorem Mem.entryW {ms : List Nat} (M : Mem E B H (ms.map some) tk ok w) {bs : List (List PV)} (hbl : bs.length = H.length)
  (hbs : ∀ (i : Nat) (cs : List PV), H[i]? = some cs → ∃ d, bs[i]? = some d ∧ (∀ (vs : List Value) (w : World) (ok : Nat → Nat → Prop) (m : List (Option Nat)) (tk : List TokR), RepL (Rep w ok m tk) vs cs → RepL (Rep w ok m tk) vs d) ∧ d.all (fitB bs.length) = true ∧ StkOK cs d) :
  ∃ gs : List Nat, Mem E ⟨w, ok, ms, gs⟩ bs (ms.map some) [] ok w ∧ ∀ g ∈ gs, ∃ i j v e xs, StkAt H (ms.map some) w i j v e xs ∧ v.ownBlock = some g := by
 have hml : ms.length = H.length := by have := M.len; rwa [List.length_map] at this
 have back : ∀ k j v e xs, StkAt bs (ms.map some) w k j v e xs → StkAt H (ms.map some) w k j v e xs ∨ (v = .slice none 0 0 ∧ xs = []) := by
  rintro k j v e xs ⟨b, ds, arr, ty, h1, h2, h3, h4, h5⟩
  obtain ⟨cs, arr', ty', g1, g2, g3, -⟩ := M.box k b h1
  obtain ⟨d, e1, -, -, e2⟩ := hbs k cs g1
  rw [e1] at h2
  injection h2 with h2; subst h2
  rw [g2] at h3
  injection h3 with h3; injection h3 with h3 h3'; subst h3; subst h3'
  rcases e2 j _ h5 rfl with h | ⟨h, e', he⟩
  ·exact .inl ⟨b, cs, _, _, h1, g1, g2, h4, h⟩
  ·injection he with he1 he2
   have hr := g3.2 j _ _ h4 h
   refine .inr ⟨?_, he2⟩
   cases hr with
   | c v p hc => cases hc; rfl
 obtain ⟨gs, hg⟩ := ex_list (fun g => ∃ k j v e xs, StkAt bs (ms.map some) w k j v e xs ∧ v.ownBlock = some g) w.heap.size (by
  rintro g ⟨k, j, v, e, xs, h1, h2⟩
  rcases back k j v e xs h1 with q2 | ⟨rfl, -⟩
  ·obtain ⟨_, _, ho, _⟩ := M.stk.own k j v e xs q2
   exact (ho.lt g h2).2
  ·cases h2)
 refine ⟨gs, ?_, fun g h => ?_⟩
 rotate_left
 ·obtain ⟨k, j, v, e, xs, h1, h2⟩ := (hg g).1 h
  rcases back k j v e xs h1 with q2 | ⟨rfl, -⟩
  ·exact ⟨k, j, v, e, xs, q2, h2⟩
  ·cases h2
 refine ⟨M.inv, rfl, rfl, rfl, Nat.le_refl _, fun _ _ _ _ => rfl, fun _ _ h => .inl h, M.oks, by rw [List.length_map, hml, hbl], fun i b h => ?_, M.inj, fun t r h => by simp at h, fun t u r s a h => by simp at h, ?_, fun t r i h => by simp at h, ⟨fun k j v e xs h => ?_, fun k j v e xs k' j' v' e' xs' g h h' hb hb' => ?_⟩⟩
 ·obtain ⟨cs, arr, ty, g1, g2, g3, g4, g5, g6⟩ := M.box i b h
  obtain ⟨d, h4, h5, h6, h7⟩ := hbs i cs g1
  have hr := h5 _ _ _ _ _ g3
  exact ⟨d, arr, ty, h4, g2, ⟨hr.1, fun j v p hv hp => (hr.2 j v p hv hp).fit [] (fun _ _ _ h => h) (List.all_eq_true.1 h6 p (List.mem_of_getElem? hp))⟩, g4, g5, .inl (List.mem_of_getElem? (map_some_at h)), g6.2.stk h7⟩
 ·have := M.gb; have := M.size; show E.P.globals.size ≤ w.heap.size; omega
 ·rcases back k j v e xs h with q2 | ⟨rfl, rfl⟩
  ·obtain ⟨sz, us, ho, hr, hx, ht, hgb⟩ := M.stk.own k j v e xs q2
   exact ⟨sz, us, ho, hr, hx, ht, fun g hb => ⟨⟨(hgb g hb).1.1, (hgb g hb).1.2.1, fun t r hr => by simp at hr⟩, .inl ((hg g).2 ⟨k, j, v, e, xs, h, hb⟩)⟩⟩
  ·exact own_nil e
 ·rcases back k j v e xs h with q2 | ⟨rfl, -⟩
  ·rcases back k' j' v' e' xs' h' with r2 | ⟨rfl, -⟩
   ·exact M.stk.inj k j v e xs k' j' v' e' xs' g q2 r2 hb hb'
   ·cases hb'
  ·cases hb
theorem Mem.backW {ms ns gs : List Nat} (M : Mem E B H (ms.map some) tk ok w) {w' : World} {ok' : Nat → Nat → Prop} {H' : List (List PV)} (M' : Mem E ⟨w, ok, ms, gs⟩ H' ((ms ++ ns).map some) [] ok' w') (hf' : H'.all (fun d => d.all (fitB H'.length)) = true)
  (hgs : ∀ g ∈ gs, ∃ i j v e xs, StkAt H (ms.map some) w i j v e xs ∧ v.ownBlock = some g) (hk : ∀ b o, ok b o → ok' b o) : Mem E B H' ((ms ++ ns).map some) tk ok' w' ∧ Later w ok (ms.map some) tk w' ok' ((ms ++ ns).map some) tk := by
 have inms : ∀ b, b ∈ ms → ∃ i : Nat, (ms.map some)[i]? = some (some b) := by
  intro b hb
  obtain ⟨k, hk⟩ := List.mem_iff_getElem?.1 hb
  exact ⟨k, by rw [List.getElem?_map, hk]; rfl⟩
 have hga : ∀ g ∈ gs, Alone (ms.map some) tk ok g ∧ (g ∈ B.g0 ∨ B.w0.heap.size ≤ g) ∧ g < w.heap.size := by
  intro g hg
  obtain ⟨i, j, v, e, xs, h1, h2⟩ := hgs g hg
  obtain ⟨sz, us, ho, -, -, -, hgb⟩ := M.stk.own i j v e xs h1
  exact ⟨(hgb g h2).1, (hgb g h2).2, (ho.lt g h2).2⟩
 have hf : ∀ k, k < w.heap.size → k ∉ ms → k ∉ gs → w'.heap[k]? = w.heap[k]? := fun k h h' h'' => M'.frame k h h' h''
 have S : Stay w ok w' ok' := stay_of ok' (fun k h ⟨o, ho⟩ => hf k h (fun hm => by
  obtain ⟨i, h3⟩ := inms k hm
  obtain ⟨_, _, _, _, _, _, g4, _⟩ := M.box i k h3
  exact g4 o ho) (fun hg => (hga k hg).1.1 o ho)) M.oks hk
 have hpre : ∀ (i b : Nat), (ms.map some)[i]? = some (some b) → ((ms ++ ns).map some)[i]? = some (some b) := by
  intro i b h
  rw [List.map_append, List.getElem?_append_left (List.getElem?_eq_some_iff.1 h).1]; exact h
 have L : Later w ok (ms.map some) tk w' ok' ((ms ++ ns).map some) tk := ⟨S, hpre, fun t r h => ⟨r, h, .inl rfl⟩⟩
 have hno : ∀ b o, b < w.heap.size → ¬ ok b o → ¬ ok' b o := by
  intro b o hb hn h
  rcases M'.okb b o h with h | h
  ·exact hn h
  ·have h : w.heap.size ≤ b := h
   omega
 refine ⟨⟨M'.inv, M'.os.trans M.os, M'.tape.trans M.tape, M'.output.trans M.output, Nat.le_trans M.size M'.size, fun k h1 h2 h2' => ?_, fun b o h => ?_, M'.oks, M'.len, fun i b h => ?_, M'.inj, fun t r h => ?_, M.tinj, M.gb, M.tsz, ⟨fun i j v e xs h => ?_, M'.stk.inj⟩⟩, L⟩
 ·rw [hf k (by have := M.size; omega) (fun hm => by
   obtain ⟨i, h3⟩ := inms k hm
   obtain ⟨_, _, _, _, _, _, _, _, g6⟩ := M.box i k h3
   rcases g6.1 with g6 | g6
   ·exact h2 g6
   ·omega) (fun hg => by
   rcases (hga k hg).2.1 with g6 | g6
   ·exact h2' g6
   ·omega)]
  exact M.frame k h1 h2 h2'
 ·rcases M'.okb b o h with h | h
  ·exact M.okb b o h
  ·exact .inr (Nat.le_trans M.size h)
 ·obtain ⟨cs, arr, ty, g1, g2, g3, g4, g5, g6⟩ := M'.box i b h
  have hd := List.all_eq_true.1 hf' cs (List.mem_of_getElem? g1)
  refine ⟨cs, arr, ty, g1, g2, ⟨g3.1, fun j v p hv hp => (g3.2 j v p hv hp).fit tk (fun _ _ _ h => h) (List.all_eq_true.1 hd p (List.mem_of_getElem? hp))⟩, g4, g5, ?_, g6.2⟩
  rcases g6.1 with g6 | g6
  ·obtain ⟨k, h3⟩ := inms b g6
   obtain ⟨_, _, _, _, _, _, _, _, q6⟩ := M.box k b h3
   exact q6.1
  ·exact .inr (Nat.le_trans M.size g6)
 ·obtain ⟨⟨xs, ho⟩, hsp⟩ := M.tok t r h
  have hlt : ∀ g, (Value.slice r.A r.len r.cap).ownBlock = some g → g < w.heap.size := fun g hg => (ho.lt g hg).2
  refine ⟨⟨xs, own_move ho fun g hg => hf g (hlt g hg) (fun hm => ?_) (fun hgg => (hga g hgg).1.2.2 t r h hg)⟩, fun g hgb => ⟨fun i hi => hno g _ (hlt g hgb) ((hsp g hgb).1 i hi), fun i hi => ?_⟩⟩
  ·obtain ⟨i, h3⟩ := inms g hm
   exact (hsp g hg).2 i h3
  ·obtain ⟨_, _, _, _, _, _, _, _, q6⟩ := M'.box i g hi
   rcases q6 with q6 | q6
   ·obtain ⟨k, h3⟩ := inms g q6
    exact (hsp g hgb).2 k h3
   ·have := hlt g hgb
    have q6 : w.heap.size ≤ g := q6
    omega
 ·obtain ⟨sz, us, ho, hr, hx, ht, hgb⟩ := M'.stk.own i j v e xs h
  refine ⟨sz, us, ho, hr, hx, ht, fun g hb => ?_⟩
  obtain ⟨⟨a1, a2, -⟩, a4⟩ := hgb g hb
  have a4 : g ∈ gs ∨ w.heap.size ≤ g := a4
  refine ⟨⟨a1, a2, fun t r hr hg' => ?_⟩, ?_⟩
  ·rcases a4 with a4 | a4
   ·exact (hga g a4).1.2.2 t r hr hg'
   ·have := (M.tok t r hr).lt hg'
    omega
  ·rcases a4 with a4 | a4
   ·exact (hga g a4).2.1
   ·exact .inr (Nat.le_trans M.size a4)
end
end Go.Proofs.YtgpkppohfodhdaaGreatDoor.Pm
namespace Go.Proofs.YtgpkppohfodhdaaGreatDoor.Pm
open Go Go.RowKit
set_option linter.unusedVariables false
set_option linter.unusedSimpArgs false
def eqC (k : EK) (a b : CV) : Option Bool := match k, a, b with
 | .int, .int k a, .int k' b => match decide (k = k') with
  | true => some (a == b)
  | false => none
 | .bool, .bool a, .bool b => some (a == b)
 | .str, .str a, .str b => some (a.toList == b.toList)
 | _, _, _ => none
def eqCs : List EK → List CV → List CV → Option Bool
 | [], [], [] => some true
 | k :: ks, a :: aas, b :: bs => match eqC k a b with
  | some p => match eqCs ks aas bs with
   | some q => some (p && q)
   | none => none
  | none => none
 | _, _, _ => none
def eqAggF (ks : Option (List EK)) (op : BinOp) (x y : PV) : Option PV := match ks, x, y with
 | some ks, .agg aas, .agg bs => match eqCs ks aas bs with
  | some p => match op with
   | .eql => some (.c (.bool p))
   | .neq => some (.c (.bool (!p)))
   | _ => none
  | none => none
 | _, _, _ => none
def binE (E : Env) (t : Nat) (op : BinOp) (x y : PV) : Option PV := match binF (E.T t) op x y with
 | some z => some z
 | none => eqAggF (E.eqs t) op x y
section
variable {P : Program} {w : World} {ok : Nat → Nat → Prop} {m : List (Option Nat)} {tk : List TokR}
theorem part_one {t : TypeId} {d : TypeDesc} (hu : P.underlying t = some d) (hd : (∃ k, d = .int k) ∨ d = .bool ∨ d = .string) {cs : Array Value} {o : Nat} {v : Value} (hv : cs[o]? = some v) : (part t cs o).run P w = .ok v w := by
 have ha : (isAgg t).run P w = .ok false w := by
  simp only [isAgg, Sem.run_bind, run_underlying hu, Result.andThen_ok]
  rcases hd with ⟨k, rfl⟩ | rfl | rfl <;> rfl
 simp only [part, Sem.run_bind, ha, Result.andThen_ok]
 simp [hv]
theorem fld_one {d : Nat} {f : Field} {o : Nat} {k : EK} {xs ys : Array Value} {a b : Value} {ca cb : CV} {r : Bool} (hf : fld1 P o f k = true) (ha : xs[o]? = some a) (hb : ys[o]? = some b) (ra : RepC w ok a ca) (rb : RepC w ok b cb) (he : eqC k ca cb = some r) :
  f.name ≠ "_" ∧ (part f.type xs f.offset).run P w = .ok a w ∧ (part f.type ys f.offset).run P w = .ok b w ∧ (Op.equalIn (d + 1) f.type a b).run P w = .ok r w := by
 unfold fld1 at hf
 simp only [Bool.and_eq_true, bne_iff_ne, beq_iff_eq] at hf
 obtain ⟨⟨h1, h2⟩, h3⟩ := hf
 subst h2
 refine ⟨h1, ?_⟩
 split at h3
 ·rename_i kk hu
  unfold eqC at he
  split at he
  ·split at he
   ·rename_i hk
    have hk := of_decide_eq_true hk
    subst hk
    injection he with he
    subst he
    cases ra; cases rb
    exact ⟨part_one hu (.inl ⟨_, rfl⟩) ha, part_one hu (.inl ⟨_, rfl⟩) hb, run_equalIn_int w d _ _ _ _ _ hu⟩
   ·cases he
  all_goals simp_all
 ·rename_i hu
  unfold eqC at he
  split at he
  ·simp_all
  ·injection he with he
   subst he
   cases ra; cases rb
   exact ⟨part_one hu (.inr (.inl rfl)) ha, part_one hu (.inr (.inl rfl)) hb, run_equalIn_bool' w d _ _ _ hu⟩
  all_goals simp_all
 ·rename_i hu
  unfold eqC at he
  split at he
  ·simp_all
  ·simp_all
  ·injection he with he
   subst he
   cases ra; cases rb
   exact ⟨part_one hu (.inr (.inr rfl)) ha, part_one hu (.inr (.inr rfl)) hb, run_equalIn_string w d _ _ _ hu⟩
  ·simp_all
 ·cases h3
theorem flds_run (d : Nat) (xs ys : Array Value) : ∀ (fs : List Field) (ks : List EK) (o : Nat) (aas bs : List CV) (r : Bool), fldOK P o fs ks = true → RepL (RepC w ok) (xs.toList.drop o) aas → RepL (RepC w ok) (ys.toList.drop o) bs → eqCs ks aas bs = some r → (Op.eqFields (d + 1) xs ys fs).run P w = .ok r w
 | [], [], o, aas, bs, r, _, ha, hb, he => by
  have : r = true := by
   cases aas <;> cases bs <;> simp [eqCs] at he <;> exact he
  subst this
  simp [Op.eqFields]
 | [], _ :: _, _, _, _, _, h, _, _, _ => by simp [fldOK] at h
 | _ :: _, [], _, _, _, _, h, _, _, _ => by simp [fldOK] at h
 | f :: fs, k :: ks, o, aas, bs, r, h, ha, hb, he => by
  rw [fldOK, Bool.and_eq_true] at h
  cases aas with
  | nil => simp [eqCs] at he
  | cons a aas =>
   cases bs with
   | nil => simp [eqCs] at he
   | cons b bs =>
    have he' : (match eqC k a b with
     | some p => match eqCs ks aas bs with
      | some q => some (p && q)
      | none => none
     | none => none) = some r := he
    obtain ⟨va, hva, ra⟩ := ha.get (i := 0) (p := a) rfl
    obtain ⟨vb, hvb, rb⟩ := hb.get (i := 0) (p := b) rfl
    rw [List.getElem?_drop, Nat.add_zero] at hva hvb
    have hva' : xs[o]? = some va := by simpa using hva
    have hvb' : ys[o]? = some vb := by simpa using hvb
    have ta : RepL (RepC w ok) (xs.toList.drop (o + 1)) aas := by
     have := ha.drop 1
     rwa [List.drop_drop, List.drop_one, List.tail_cons] at this
    have tb : RepL (RepC w ok) (ys.toList.drop (o + 1)) bs := by
     have := hb.drop 1
     rwa [List.drop_drop, List.drop_one, List.tail_cons] at this
    cases hp : eqC k a b with
    | none => rw [hp] at he'; cases he'
    | some p =>
     rw [hp] at he'
     cases hq : eqCs ks aas bs with
     | none => rw [hq] at he'; cases he'
     | some q =>
      rw [hq] at he'
      injection he' with he'
      subst he'
      obtain ⟨g1, g2, g3, g4⟩ := fld_one (d := d) h.1 hva' hvb' ra rb hp
      have IH := flds_run d xs ys fs ks (o + 1) aas bs q h.2 ta tb hq
      rw [Op.eqFields, if_pos g1]
      simp only [Sem.run_bind, g2, g3, g4, Result.andThen_ok]
      cases p
      ·simp
      ·simpa using IH
theorem eqAgg_run {E : Env} (hE : EnvOK E) {t : TypeId} {op : BinOp} {x y : Operand} {a b : Value} {p q z : PV} (h : eqAggF (E.eqs t) op p q = some z) (ha : Rep w ok m tk a p) (hb : Rep w ok m tk b q) :
  ∃ v, (do eqGuard op t x y a b; binOp op t a b : Sem Value).run E.P w = .ok v w ∧ Rep w ok m tk v z := by
 unfold eqAggF at h
 split at h
 ·rename_i ks aas bs hk
  have hok := hE.eqs t ks hk
  unfold eqOK at hok
  simp only [Bool.and_eq_true, Bool.not_eq_true'] at hok
  obtain ⟨⟨h1, h2⟩, h3⟩ := hok
  split at h3
  ·rename_i fs hu
   cases ha with
   | agg xs _ hra =>
    cases hb with
    | agg ys _ hrb =>
     split at h
     ·rename_i r hr
      have hf : E.P.fieldsOf t = fs := by simp [Program.fieldsOf, hu]
      have hrun : (Op.equalIn 10000 t (.agg xs) (.agg ys)).run E.P w = .ok r w := by
       rw [run_equalIn_struct w 9999 t xs ys (by rw [hf]; exact hu) h1, hf]
       exact flds_run 9998 xs ys fs.toList ks 0 aas bs r h3 (by simpa using hra) (by simpa using hrb) hr
      simp only [Sem.run_bind, run_eqGuard_agg w op t x y xs ys h2, Result.andThen_ok]
      split at h
      ·injection h with h
       subst h
       exact ⟨.bool r, by rw [run_eql_struct, hrun]; rfl, .mkBool _⟩
      ·injection h with h
       subst h
       exact ⟨.bool (!r), by rw [run_neq_struct, hrun]; rfl, .mkBool _⟩
      ·cases h
     ·cases h
  ·cases h3
 ·cases h
theorem binE_run {E : Env} (hE : EnvOK E) {t : TypeId} {op : BinOp} {x y : Operand} {a b : Value} {p q z : PV} (h : binE E t op p q = some z) (ha : Rep w ok m tk a p) (hb : Rep w ok m tk b q) :
  ∃ v, (do eqGuard op t x y a b; binOp op t a b : Sem Value).run E.P w = .ok v w ∧ Rep w ok m tk v z := by
 unfold binE at h
 split at h
 ·rename_i z' hz
  injection h with h
  subst h
  exact binF_run hE hz ha hb
 ·exact eqAgg_run hE h ha hb
end
end Go.Proofs.YtgpkppohfodhdaaGreatDoor.Pm
namespace Go.Proofs.YtgpkppohfodhdaaGreatDoor.Pm
open Go Go.RowKit
set_option linter.unusedVariables false
set_option linter.unusedSimpArgs false
def Wk (p q : PV) : Prop := ∀ (w : World) (ok : Nat → Nat → Prop) (m : List (Option Nat)) (tk : List TokR) (v : Value), Rep w ok m tk v p → Rep w ok m tk v q
theorem Wk.refl (p : PV) : Wk p p := fun _ _ _ _ _ h => h
inductive WkL : List PV → List PV → Prop
 | nil : WkL [] []
 | cons {p q : PV} {ps qs : List PV} (h : Wk p q) (t : WkL ps qs) : WkL (p :: ps) (q :: qs)
theorem WkL.refl : ∀ ps : List PV, WkL ps ps
 | [] => .nil
 | p :: ps => .cons (Wk.refl p) (WkL.refl ps)
theorem WkL.rep {w : World} {ok : Nat → Nat → Prop} {m : List (Option Nat)} {tk : List TokR} {ps qs : List PV} (h : WkL ps qs) : ∀ {vs : List Value}, RepL (Rep w ok m tk) vs ps → RepL (Rep w ok m tk) vs qs := by
 induction h with
 | nil => exact fun h => h
 | cons hp _ ih =>
  intro vs hr
  cases vs with
  | nil => simp [RepL] at hr
  | cons v vs => exact .cons (hp _ _ _ _ _ hr.head) (ih hr.tail)
def Callable (P : Program) (f : FuncId) : Prop := ∃ fn, P.funcs[f]? = some fn ∧ (fn.name == "runtime.NumGoroutine") = false ∧ fn.body.isNone = false
def stkB (bs : List (List PV)) : Bool := bs.any fun d => d.any PV.isStk
def Ok (E : Env) (f : FuncId) (bs : List (List PV)) (args : List PV) (r : PV) (bs' : List (List PV)) : Prop :=
 Callable E.P f ∧ ∀ (w : World) (ok : Nat → Nat → Prop) (ms gs : List Nat) (vals : Array Value), (stkB bs = false → gs = []) → Mem E ⟨w, ok, ms, gs⟩ bs (ms.map some) [] ok w → RepL (Rep w ok (ms.map some) []) vals.toList args →
  Calls E.P f vals w fun e w' => ∃ v ok', e = .returned v ∧ Mem E ⟨w, ok, ms, gs⟩ bs' (ms.map some) [] ok' w' ∧ (∀ b o, ok b o → ok' b o) ∧ Rep w' ok' (ms.map some) [] v r
theorem Stks.noB {E : Env} {B : Base} {H : List (List PV)} {m : List (Option Nat)} {tk : List TokR} {ok : Nat → Nat → Prop} {w : World} (h : stkB H = false) : Stks E B H m tk ok w := .none fun i j v e xs => by
 rintro ⟨b, cs, arr, ty, -, h2, -, -, h5⟩
 unfold stkB at h
 rw [List.any_eq_false] at h
 exact h cs (List.mem_of_getElem? h2) (List.any_eq_true.2 ⟨_, List.mem_of_getElem? h5, rfl⟩)
def OkP (E : Env) (f : FuncId) (bs : List (List PV)) (args : List PV) (p : PV) : Prop :=
 Callable E.P f ∧ ∀ (w : World) (ok : Nat → Nat → Prop) (ms gs : List Nat) (vals : Array Value), (stkB bs = false → gs = []) → Mem E ⟨w, ok, ms, gs⟩ bs (ms.map some) [] ok w → RepL (Rep w ok (ms.map some) []) vals.toList args →
  Calls E.P f vals w fun e w' => ∃ v ok', e = .panicked [{ v, recovered := false }] ∧ Mem E ⟨w, ok, ms, gs⟩ [] [] [] ok' w' ∧ (∀ b o, ok b o → ok' b o) ∧ Rep w' ok' [] [] v p
structure St where
 sl : Nat → PV
 H : List (List PV)
 T : List (Nat × Nat)
def upd (f : Nat → PV) (d : Option Nat) (v : PV) : Nat → PV := match d with
 | none => f
 | some d => fun t => match Nat.beq t d with
  | true => v
  | false => f t
def PV.av : PV → Option AV
 | .ptr i o => some (.p i o)
 | .c v => some (.c v)
 | .agg cs => some (.a cs)
 | _ => none
def avsF : List PV → Option (List AV)
 | [] => some []
 | p :: r => match p.av, avsF r with
  | some a, some l => some (a :: l)
  | _, _ => none
def assertF (t : Nat) (ti : TI) : PV → Option PV
 | .ifc u cs => match ti.k with
  | .struct _ => match Nat.beq u t with
   | true => some (.tup [.agg cs, .bool true])
   | false => some (.tup [.agg ti.zero, .bool false])
  | _ => none
 | .nif => match ti.k with
  | .struct _ => some (.tup [.agg ti.zero, .bool false])
  | _ => none
 | _ => none
def closF (f : FuncId) (a b : List PV) : Option PV := match a, b with
 | [], [] => some (.c (.fn f))
 | a, b => match avsF a, avsF b with
  | some ps, some qs => some (.clos f ps qs)
  | _, _ => none
def calleeF : PV → Option (FuncId × List PV × List PV)
 | .c (.fn f) => some (f, [], [])
 | .clos f fs cs => some (f, fs.map AV.pv, cs.map AV.pv)
 | _ => none
def opF (E : Env) (H : List (List PV)) (sl : Nat → PV) (op : Op) : Option PV := match op with
 | .move x => some (ev sl x)
 | .assign x => some (ev sl x)
 | .nilCheck x => match ev sl x with
  | .ptr i o => some (.ptr i o)
  | .iptr cs => some (.iptr cs)
  | _ => none
 | .pick c a b => match ev sl c with
  | .c (.bool true) => some (ev sl a)
  | .c (.bool false) => some (ev sl b)
  | _ => none
 | .build t ps => buildF E t (ps.toList.map fun p => (p.1, ev sl p.2))
 | .load t x => match E.T t with
  | some ti => loadF ti H (ev sl x)
  | none => none
 | .binOp o t x y _ => binE E t o (ev sl x) (ev sl y)
 | .unOp o _ x => unF o (ev sl x)
 | .convert s d x => convF E s d (ev sl x)
 | .slice t x lo hi none => sliceF E t (ev sl x) (lo.map (ev sl)) (hi.map (ev sl))
 | .slice t x lo (some hi) (some mx) => slice3F E t (ev sl x) (lo.map (ev sl)) (ev sl hi) (ev sl mx)
 | .fieldAddr t x f => fieldAddrF E t f (ev sl x)
 | .field t x f => fieldF E t f (ev sl x)
 | .indexAddr t x i => indexAddrF E t (ev sl x) (ev sl i)
 | .index t x i => indexF E t (ev sl x) (ev sl i)
 | .extract x i => match ev sl x with
  | .tup vs => vs[i]?
  | _ => none
 | .makeFunc fn fs cs => match fn with
  | .func f => closF f (fs.toList.map (ev sl)) (cs.toList.map (ev sl))
  | _ => none
 | .makeInterface t x => match E.T t, ev sl x with
  | some ⟨.struct _, _, _, _⟩, .agg cs => some (.ifc t cs)
  | _, _ => none
 | .typeAssert x _ t true => match E.T t with
  | some ti => assertF t ti (ev sl x)
  | none => none
 | .call c => match c.callee with
  | .builtin .len => match c.args.toList, c.argTypes[0]? with
   | [x], some t => lenF (E.T t) (ev sl x)
   | _, _ => none
  | .builtin .max => maxF (c.args.toList.map (ev sl))
  | .builtin .min => minF (c.args.toList.map (ev sl))
  | _ => none
 | _ => none
inductive Cls where
 | val | alloc | eff
 deriving DecidableEq
def effC (F : Fl) (x : Operand) (ts : List Nat) : Bool := match x with
 | .func f => match F.ef f with
  | true => true
  | false => ts.any F.pt
 | _ => true
def clsOf (F : Fl) : Op → Cls
 | .alloc _ | .box _ _ => .alloc
 | .store _ _ _ => .eff
 | .panic _ => .eff
 | .call c => match c.callee with
  | .builtin .append => .eff
  | .value x => match effC F x c.argTypes.toList with
   | true => .eff
   | false => .val
  | _ => .val
 | _ => .val
def LookF (E : Env) (t : Nat) (es : Array MapEntry) (ck : Nat) (n z : Int) : Prop := ∀ (w : World) (b : Nat), w.heap[b]? = some (.map es ck) → (Instr.lookup t (.map (some b)) (.int .i64 n) false).run E.P w = .ok (.int .i64 z) w
def LookM (E : Env) (t : Nat) (fs : List (Int × FuncId)) (n : Int) (f : FuncId) : Prop := ∀ (w : World) (g b ck : Nat), w.heap[g]? = some (.map (mcloE b fs 0).toArray ck) → (Instr.lookup t (.map (some g)) (.int .i64 n) false).run E.P w = .ok (.func (.func f) #[.pointer (some ⟨b, 0, none⟩)] #[]) w
def VR0 (E : Env) (sl : Nat → PV) (H : List (List PV)) (op : Op) (v : PV) : Prop := match op with
 | .buildSlice t n ps => ∃ ys, buildSliceF E t n (ps.toList.map fun p => (p.1, ev sl p.2)) = some ys ∧ v = .c (.row ys)
 | .lookup t x k false => (∃ es ck n z, ev sl x = .c (.mp es ck) ∧ ev sl k = .c (.int .i64 n) ∧ LookF E t es ck n z ∧ v = .c (.int .i64 z)) ∨ ∃ fs i n f, ev sl x = .mclo fs i ∧ ev sl k = .c (.int .i64 n) ∧ LookM E t fs n f ∧ v = .clos f [.p i 0] []
 | .call c => match c.callee with
  | .value x => match ev sl x with
   | .c (.fn f) => ∃ args, WkL (c.args.toList.map (ev sl)) args ∧ args.all PV.closed = true ∧ Ok E f [] args v [] ∧ v.closed = true
   | _ => False
  | _ => opF E H sl (.call c) = some v
 | op => opF E H sl op = some v
structure BinR (E : Env) (t : Nat) (op : BinOp) (x y z : PV) : Prop where
 h : binE E t op x y = some z
structure UnR (op : UnOp) (x z : PV) : Prop where
 h : unF op x = some z
structure ConvR (E : Env) (s d : Nat) (x z : PV) : Prop where
 h : convF E s d x = some z
structure SliceR (E : Env) (t : Nat) (x : PV) (lo hi : Option PV) (z : PV) : Prop where
 h : sliceF E t x lo hi = some z
structure Slice3R (E : Env) (t : Nat) (x : PV) (lo : Option PV) (hi mx z : PV) : Prop where
 h : slice3F E t x lo hi mx = some z
structure IdxAR (E : Env) (t : Nat) (x i z : PV) : Prop where
 h : indexAddrF E t x i = some z
structure IdxR (E : Env) (t : Nat) (x i z : PV) : Prop where
 h : indexF E t x i = some z
structure CallR (E : Env) (f : FuncId) (ps : List PV) (r : PV) : Prop where
 h : ∃ args, WkL ps args ∧ args.all PV.closed = true ∧ Ok E f [] args r [] ∧ r.closed = true
def VR (E : Env) (sl : Nat → PV) (H : List (List PV)) (op : Op) (v : PV) : Prop := match op with
 | .binOp o t x y _ => BinR E t o (ev sl x) (ev sl y) v
 | .unOp o _ x => UnR o (ev sl x) v
 | .convert s d x => ConvR E s d (ev sl x) v
 | .slice t x lo hi none => SliceR E t (ev sl x) (lo.map (ev sl)) (hi.map (ev sl)) v
 | .slice t x lo (some hi) (some mx) => Slice3R E t (ev sl x) (lo.map (ev sl)) (ev sl hi) (ev sl mx) v
 | .indexAddr t x i => IdxAR E t (ev sl x) (ev sl i) v
 | .index t x i => IdxR E t (ev sl x) (ev sl i) v
 | .call c => match c.callee with
  | .value x => match ev sl x with
   | .c (.fn f) => CallR E f (c.args.toList.map (ev sl)) v
   | _ => False
  | _ => VR0 E sl H (.call c) v
 | op => VR0 E sl H op v
theorem VR_iff {E : Env} {sl : Nat → PV} {H : List (List PV)} {op : Op} {v : PV} : VR E sl H op v ↔ VR0 E sl H op v := by
 cases op <;> try exact Iff.rfl
 case binOp => exact ⟨fun h => h.h, fun h => ⟨h⟩⟩
 case unOp => exact ⟨fun h => h.h, fun h => ⟨h⟩⟩
 case convert => exact ⟨fun h => h.h, fun h => ⟨h⟩⟩
 case slice t x lo hi mx => cases mx <;> cases hi <;> first | exact ⟨fun h => h.h, fun h => ⟨h⟩⟩ | exact Iff.rfl
 case indexAddr => exact ⟨fun h => h.h, fun h => ⟨h⟩⟩
 case index => exact ⟨fun h => h.h, fun h => ⟨h⟩⟩
 case call c =>
  obtain ⟨ce, args, ts⟩ := c
  cases ce <;> try exact Iff.rfl
  rename_i x
  simp only [VR, VR0]
  split
  ·exact ⟨fun h => h.h, fun h => ⟨h⟩⟩
  ·exact Iff.rfl
structure AppR (E : Env) (T : List (Nat × Nat)) (t : Nat) (p q z : PV) (T' : List (Nat × Nat)) : Prop where
 h : ∃ (e sz bb : Nat) (zz : List CV) (ei : TI) (xs ys : List (List CV)) (k : Nat), E.T t = some ⟨.slice e, sz, zz, bb⟩ ∧ E.T e = some ei ∧ 0 < ei.size ∧ ei.zero.length = ei.size ∧ toRow q = some ys ∧ (∀ x ∈ xs, x.length = ei.size) ∧ (∀ y ∈ ys, y.length = ei.size) ∧
  xs.length + ys.length ≤ 9223372036854775807 ∧ (xs.length + ys.length) * ei.bytes ≤ 140737488355328 ∧ z = .orow (xs ++ ys) k ∧
  ((p = .full xs ∧ ys ≠ [] ∧ k = T.length ∧ T' = T ++ [(xs.length + ys.length, e)]) ∨ (p = .c .nil ∧ xs = [] ∧ k = T.length ∧ T' = T ++ [(ys.length, e)]) ∨ (p = .orow xs k ∧ T[k]? = some (xs.length, e) ∧ T' = T.set k (xs.length + ys.length, e)))
def idxN : List Nat → Nat → Nat → Option Nat
 | [], _, _ => none
 | j :: ids, i, k => match Nat.beq i j with
  | true => some k
  | false => idxN ids i (k + 1)
def avArg (ids : List Nat) : AV → Option AV
 | .p i o => match idxN ids i 0 with
  | some k => some (.p k o)
  | none => none
 | a => some a
def avsArg (ids : List Nat) : List AV → Option (List AV)
 | [] => some []
 | a :: r => match avArg ids a, avsArg ids r with
  | some b, some l => some (b :: l)
  | _, _ => none
def pvArg (ids : List Nat) : PV → Option PV
 | .c v => some (.c v)
 | .agg cs => some (.agg cs)
 | .ifc t cs => some (.ifc t cs)
 | .nif => some .nif
 | .ptr i o => match idxN ids i 0 with
  | some k => some (.ptr k o)
  | none => none
 | .clos f a b => match avsArg ids a, avsArg ids b with
  | some a', some b' => some (.clos f a' b')
  | _, _ => none
 | _ => none
def argsF (ids : List Nat) : List PV → Option (List PV)
 | [] => some []
 | p :: r => match pvArg ids p, argsF ids r with
  | some q, some l => some (q :: l)
  | _, _ => none
def getL (H : List (List PV)) : List Nat → Option (List (List PV))
 | [] => some []
 | i :: ids => match H[i]?, getL H ids with
  | some c, some l => some (c :: l)
  | _, _ => none
inductive WkLL : List (List PV) → List (List PV) → Prop
 | nil : WkLL [] []
 | cons {c d : List PV} {cs ds : List (List PV)} (h : WkL c d) (t : WkLL cs ds) (hk : StkOK c d := by first | exact StkOK.refl _ | exact StkOK.none rfl) : WkLL (c :: cs) (d :: ds)
theorem WkLL.refl : ∀ cs : List (List PV), WkLL cs cs
 | [] => .nil
 | c :: cs => .cons (WkL.refl c) (WkLL.refl cs) (StkOK.refl c)
def hasA (i : Nat) : AV → Bool
 | .p k _ => Nat.beq k i
 | _ => false
def hasP (i : Nat) : PV → Bool
 | .ptr k _ => Nat.beq k i
 | .brow k _ => Nat.beq k i
 | .mclo _ k => Nat.beq k i
 | .clos _ a b => (a ++ b).any (hasA i)
 | _ => false
structure Hand (H : List (List PV)) (ps : List PV) (ids : List Nat) (bs : List (List PV)) (args : List PV) : Prop where
 h : ∃ (cs : List (List PV)) (qs : List PV), ids.Nodup ∧ getL H ids = some cs ∧ WkLL cs bs ∧ bs.all (fun d => d.all PV.closedB) = true ∧ WkL ps qs ∧ argsF ids qs = some args ∧ (ids.all fun i => ps.any (hasP i)) = true
structure SCallR (E : Env) (f : FuncId) (H : List (List PV)) (ps : List PV) (r : PV) (H' : List (List PV)) : Prop where
 h : ∃ (ids : List Nat) (bs bs' : List (List PV)) (args : List PV), Hand H ps ids bs args ∧ bs'.length = ids.length ∧ bs'.all (fun d => d.all PV.closedB) = true ∧ Ok E f bs args r bs' ∧ r.closed = true ∧ H' = setL H ids bs'
structure SCallPj (E : Env) (f : FuncId) (H : List (List PV)) (ps : List PV) (p : PV) (j : Nat) : Prop where
 h : ∃ (ids : List Nat) (bs : List (List PV)) (args : List PV), Hand H ps ids bs args ∧ OkP E f bs args p ∧ p.closed = true ∧ (ids.all fun i => Nat.ble j i) = true
abbrev SCallP (E : Env) (f : FuncId) (H : List (List PV)) (ps : List PV) (p : PV) : Prop := SCallPj E f H ps p 0
def OkW (E : Env) (f : FuncId) (H : List (List PV)) (args : List PV) (r : PV) (H' : List (List PV)) : Prop :=
 Callable E.P f ∧ ∀ (w : World) (ok : Nat → Nat → Prop) (ms gs : List Nat) (vals : Array Value), Mem E ⟨w, ok, ms, gs⟩ H (ms.map some) [] ok w → RepL (Rep w ok (ms.map some) []) vals.toList args →
  Calls E.P f vals w fun e w' => ∃ v ok' ns, e = .returned v ∧ Mem E ⟨w, ok, ms, gs⟩ H' ((ms ++ ns).map some) [] ok' w' ∧ (∀ b o, ok b o → ok' b o) ∧ Rep w' ok' ((ms ++ ns).map some) [] v r
structure WCallR (E : Env) (f : FuncId) (H : List (List PV)) (ps : List PV) (r : PV) (H' : List (List PV)) : Prop where
 h : ∃ (H0 : List (List PV)) (args : List PV), WkLL H H0 ∧ H0.all (fun d => d.all (fitB H0.length)) = true ∧ WkL ps args ∧ args.all (fitB H0.length) = true ∧ OkW E f H0 args r H' ∧ H'.all (fun d => d.all (fitB H'.length)) = true ∧ fitB H'.length r = true
def OkO (E : Env) (f : FuncId) (args : List PV) (xs : List (List CV)) (e : Nat) : Prop :=
 Callable E.P f ∧ ∀ (w : World) (ok : Nat → Nat → Prop) (vals : Array Value), Mem E ⟨w, ok, [], []⟩ [] [] [] ok w → RepL (Rep w ok [] []) vals.toList args →
  Calls E.P f vals w fun en w' => ∃ v ok' r, en = .returned v ∧ Mem E ⟨w, ok, [], []⟩ [] [] [r] ok' w' ∧ (∀ b o, ok b o → ok' b o) ∧ Rep w' ok' [] [r] v (.orow xs 0) ∧ r.e = e ∧ r.len = xs.length
structure OCallR (E : Env) (f : FuncId) (ps : List PV) (xs : List (List CV)) (e : Nat) : Prop where
 h : ∃ args, WkL ps args ∧ args.all PV.closed = true ∧ OkO E f args xs e
def dead : St := ⟨fun _ => .undef, [], []⟩
def zeroB (F : Fl) (t : Nat) (z : List CV) : List PV := match F.bt t with
 | true => match z with
  | .lit (.pointer none) :: r => .fresh t :: r.map .c
  | z => z.map .c
 | false => z.map .c
def newBoxF (E : Env) (sl : Nat → PV) : Op → Option (List PV)
 | .alloc t => match E.T t with
  | some ti => some (zeroB E.pt t ti.zero)
  | none => none
 | .box _ x => (ev sl x).cells
 | _ => none
def storeR (E : Env) (H : List (List PV)) (t : Nat) (p q : PV) : Option (Nat × List PV) := match E.T t, p, q.cells with
 | some ti, .ptr i off, some us => match H[i]? with
  | some cs => match decide (us.length = ti.size ∧ off + us.length ≤ cs.length) with
   | true => some (i, splice cs off us)
   | false => none
  | none => none
 | _, _, _ => none
def storeF (E : Env) (s : St) (t : Nat) (p q : PV) : Option (List (List PV)) := match E.T t, p, q.cells with
 | some ti, .ptr i off, some us => match s.H[i]? with
  | some cs => match decide (us.length = ti.size ∧ off + us.length ≤ cs.length) with
   | true => some (s.H.set i (splice cs off us))
   | false => none
  | none => none
 | _, _, _ => none
theorem storeF_eq (E : Env) (s : St) (t : Nat) (p q : PV) : storeF E s t p q = match storeR E s.H t p q with
 | some (i, row) => some (s.H.set i row)
 | none => none := by
 unfold storeF storeR
 cases E.T t <;> cases p <;> cases q.cells <;> try rfl
 rename_i i off us
 dsimp only
 cases s.H[i]? with
 | none => rfl
 | some cs =>
  dsimp only
  cases decide (us.length = _ ∧ off + us.length ≤ cs.length) <;> rfl
def forceS {α : Type} (l : List α) : (List α → Prop) → Prop := List.rec (motive := fun _ => (List α → Prop) → Prop) (fun K => K []) (fun p _ ih K => ih fun r => K (p :: r)) l
theorem forceS_eq {α : Type} (l : List α) : ∀ K : List α → Prop, forceS l K = K l := by
 induction l with
 | nil => intro K; rfl
 | cons p l ih => intro K; exact ih _
def forceN (n : Nat) : (Nat → Prop) → Prop := Nat.rec (motive := fun _ => (Nat → Prop) → Prop) (fun K => K 0) (fun _ ih K => ih fun m => K (Nat.succ m)) n
theorem forceN_eq (n : Nat) : ∀ K : Nat → Prop, forceN n K = K n := by
 induction n with
 | zero => intro K; rfl
 | succ n ih => intro K; exact ih _
def isTriv : Op → Bool
 | .move _ | .assign _ | .nilCheck _ | .pick _ _ _ | .load _ _ | .fieldAddr _ _ _ | .field _ _ _ | .extract _ _ | .build _ _ | .unOp .not _ _ | .makeFunc _ _ _ | .makeInterface _ _ | .typeAssert _ _ _ _ => true
 | .call c => match c.callee with
  | .builtin .len => true
  | _ => false
 | _ => false
def forceP (v : PV) (K : PV → Prop) : Prop := match v with
 | .c c => K (.c c)
 | .agg cs => K (.agg cs)
 | .tup vs => K (.tup vs)
 | .orow xs k => K (.orow xs k)
 | .ptr i o => K (.ptr i o)
 | .iptr cs => K (.iptr cs)
 | .clos f a b => K (.clos f a b)
 | .ifc t cs => K (.ifc t cs)
 | .nif => K .nif
 | .full xs => K (.full xs)
 | .brow i n => K (.brow i n)
 | .stk e xs => K (.stk e xs)
 | .fresh t => K (.fresh t)
 | .mclo fs i => K (.mclo fs i)
 | .undef => K .undef
theorem forceP_iff {v : PV} {K : PV → Prop} : forceP v K ↔ K v := by cases v <;> exact Iff.rfl
def lowA (n : Nat) : AV → Bool
 | .p i _ => decide (i < n)
 | _ => true
def lowP (n : Nat) : PV → Bool
 | .ptr i _ => Nat.blt i n
 | .brow i _ => Nat.blt i n
 | .mclo _ i => Nat.blt i n
 | .clos _ a b => (a ++ b).all (lowA n)
 | _ => true
def cutP (n : Nat) : PV → PV
 | .ptr i o => match Nat.blt i n with
  | true => .ptr i o
  | false => .undef
 | .brow i o => match Nat.blt i n with
  | true => .brow i o
  | false => .undef
 | .mclo fs i => match Nat.blt i n with
  | true => .mclo fs i
  | false => .undef
 | .clos f a b => match (a ++ b).all (lowA n) with
  | true => .clos f a b
  | false => .undef
 | p => p
def cutSt (n : Nat) (s : St) : St := ⟨fun t => cutP n (s.sl t), s.H.take n, s.T⟩
def keepOK (H : List (List PV)) (n : Nat) : Bool := Nat.ble n H.length && (H.take n).all fun cs => cs.all (lowP n)
def CallK (kp : Option (PV → St → Prop)) (s : St) (R : PV → List (List PV) → Prop) (P : PV → Nat → Prop) (N : PV → List (List PV) → Prop) (O : List (List CV) → Nat → Prop) (K : PV → List (List PV) → List (Nat × Nat) → Prop) : Prop := match kp with
 | none => ∃ r H', R r H' ∧ K r H' s.T
 | some Kp => (∃ r H', R r H' ∧ K r H' s.T) ∨ (∃ p, P p 0 ∧ Kp p dead) ∨ (∃ p j, P p j ∧ keepOK s.H j = true ∧ Kp p (cutSt j s)) ∨ (∃ r H', N r H' ∧ K r H' s.T) ∨ ∃ xs e, O xs e ∧ K (.orow xs s.T.length) s.H (s.T ++ [(xs.length, e)])
def panF (kp : Option (PV → St → Prop)) (p : PV) : Prop := match kp, p with
 | some Kp, .ifc t cs => Kp (.ifc t cs) dead
 | _, _ => False
def wpOp (E : Env) (kp : Option (PV → St → Prop)) (s : St) (op : Op) (K : PV → List (List PV) → List (Nat × Nat) → Prop) : Prop := match s with
 | ⟨sl, H, T⟩ => match clsOf E.pt op with
  | .alloc => match newBoxF E sl op with
   | some cs => forceN H.length fun n => forceS (H ++ [cs]) fun H2 => K (.ptr n 0) H2 T
   | none => False
  | .eff => match op with
   | .store t a x => match storeR E H t (ev sl a) (ev sl x) with
    | some (i, row) => forceS row fun row => forceS (H.set i row) fun H2 => K (.tup []) H2 T
    | none => False
   | .panic x => panF kp (ev sl x)
   | .call c => match c.callee with
    | .builtin .append => match c.args.toList, c.argTypes.toList with
     | [x, y], [t, t'] => match Nat.beq t t' with
      | true => ∃ z T', AppR E T t (ev sl x) (ev sl y) z T' ∧ K z H T'
      | false => False
     | _, _ => False
    | .value x => match calleeF (ev sl x) with
     | some (f, a, b) => CallK kp ⟨sl, H, T⟩ (SCallR E f H (a ++ c.args.toList.map (ev sl) ++ b)) (SCallPj E f H (a ++ c.args.toList.map (ev sl) ++ b)) (WCallR E f H (a ++ c.args.toList.map (ev sl) ++ b)) (OCallR E f (a ++ c.args.toList.map (ev sl) ++ b)) K
     | none => False
    | _ => False
   | _ => False
  | .val => match isTriv op with
   | true => match opF E H sl op with
    | some v => forceP v fun v => K v H T
    | none => False
   | false => ∃ v, VR E sl H op v ∧ K v H T
def gd (all : Array Oper) (sl : Nat → PV) (o : Oper) : Option Bool := match o.guard with
 | none => some true
 | some (j, want) => match (all[j]?).bind (·.dst) with
  | some t => match sl t with
   | .c (.bool b) => some (b == want)
   | .tup [] => some false
   | _ => none
  | none => some false
def edge (o : Oper) (j : Nat) : Bool := o.after.toList.any fun e => Region.binds .any e && Nat.beq e.on j
def reach (all : Array Oper) : Nat → Nat → Nat → Bool
 | 0, _, _ => false
 | k + 1, i, j => (all.getD i default).after.toList.any fun e => Region.binds .any e && (Nat.beq e.on j || (Nat.blt j e.on && reach all k e.on j))
def eqNs : List Nat → List Nat → Bool
 | [], [] => true
 | a :: l, b :: m => match Nat.beq a b with
  | true => eqNs l m
  | false => false
 | _, _ => false
def idxD : List Oper → Option Nat → List Nat → Nat → Nat
 | [], _, _, n => n
 | o :: l, d, e, n => match o.dst, d with
  | some a, some b => match Nat.beq a b with
   | true => n
   | false => idxD l d e (n + 1)
  | none, none => match eqNs (o.after.toList.map (·.on)) e with
   | true => n
   | false => idxD l d e (n + 1)
  | _, _ => idxD l d e (n + 1)
def idxO (all : Array Oper) (o : Oper) : Nat := idxD all.toList o.dst (o.after.toList.map (·.on)) 0
def isCallV : Op → Bool
 | .call c => match c.callee with
  | .value _ => true
  | _ => false
 | _ => false
def isStore : Op → Bool
 | .store _ _ _ => true
 | _ => false
def isApp : Op → Bool
 | .call c => match c.callee with
  | .builtin .append => true
  | _ => false
 | _ => false
def loadT : Op → Option Nat
 | .load _ (.tmp t) => some t
 | _ => none
def freeL (all : Array Oper) (o : Oper) : List Nat :=
 (List.range (idxO all o)).filterMap fun j => match loadT (all.getD j default).op with
  | some t => match reach all all.size (idxO all o) j with
   | true => none
   | false => some t
  | none => none
def sepT (sl : Nat → PV) (ps : List PV) (t : Nat) : Bool := match sl t with
 | .ptr i _ => ps.all fun p => !hasP i p
 | _ => true
def psOf (sl : Nat → PV) (x : Operand) (args : List Operand) : List PV := match calleeF (ev sl x) with
 | some (_, a, b) => a ++ args.map (ev sl) ++ b
 | none => []
def handsOf (sl : Nat → PV) : Op → List PV
 | .store _ a _ => [ev sl a]
 | .call c => match c.callee with
  | .value x => psOf sl x c.args.toList
  | _ => []
 | _ => []
def sepB (F : Fl) (all : Array Oper) (sl : Nat → PV) (o : Oper) : Bool := match clsOf F o.op with
 | .eff => match freeL all o with
  | [] => true
  | l => l.all fun t => sepT sl (handsOf sl o.op) t
 | _ => true
def sepK (kp : Option (PV → St → Prop)) (F : Fl) (all : Array Oper) (sl : Nat → PV) (o : Oper) : Bool := match kp with
 | none => sepB F all sl o
 | some _ => true
def wpL (E : Env) (kp : Option (PV → St → Prop)) (all : Array Oper) (l : List Oper) (K : St → Prop) : St → Prop := List.rec (motive := fun _ => St → Prop) K (fun o _ ih s => match s with
  | ⟨sl, H, T⟩ => match sepK kp E.pt all sl o with
   | true => match gd all sl o with
    | some true => wpOp E kp ⟨sl, H, T⟩ o.op fun v H' T' => ih ⟨upd sl o.dst v, H', T'⟩
    | some false => ih ⟨upd sl o.dst (.tup []), H, T⟩
    | none => False
   | false => False) l
def lastB (F : Fl) (all : Array Oper) (o : Oper) : Bool := match o.dst with
 | none => false
 | some d => (List.range all.size).any fun i => (match (all.getD i default).dst with
   | some t => Nat.beq t d
   | none => false) && ((List.range all.size).all fun k => (Nat.beq k i || match (all.getD k default).dst with
    | some t => !Nat.beq t d
    | none => true) && match Nat.blt k i with
    | true => match clsOf F (all.getD k default).op with
     | .eff => false
     | _ => true
    | false => Nat.beq k i || reach all all.size k i)
def wpOpD (E : Env) (Kp : PV → St → Prop) (all : Array Oper) (o : Oper) (s : St) (K : PV → List (List PV) → List (Nat × Nat) → Prop) : Prop := match s with
 | ⟨sl, H, T⟩ => match clsOf E.pt o.op with
  | .eff => match o.op with
   | .call c => match c.callee with
    | .value x => match calleeF (ev sl x) with
     | some (f, a, b) => (∃ r H', SCallR E f H (a ++ c.args.toList.map (ev sl) ++ b) r H' ∧ K r H' T) ∨ ∃ p, SCallPj E f H (a ++ c.args.toList.map (ev sl) ++ b) p 0 ∧ lastB E.pt all o = true ∧ Kp p dead
     | none => False
    | _ => wpOp E none ⟨sl, H, T⟩ o.op K
   | _ => wpOp E none ⟨sl, H, T⟩ o.op K
  | _ => wpOp E none ⟨sl, H, T⟩ o.op K
def wpLD (E : Env) (Kp : PV → St → Prop) (all : Array Oper) (l : List Oper) (K : St → Prop) : St → Prop := List.rec (motive := fun _ => St → Prop) K (fun o _ ih s => match s with
  | ⟨sl, H, T⟩ => match sepB E.pt all sl o with
   | true => match gd all sl o with
    | some true => wpOpD E Kp all o ⟨sl, H, T⟩ fun v H' T' => ih ⟨upd sl o.dst v, H', T'⟩
    | some false => ih ⟨upd sl o.dst (.tup []), H, T⟩
    | none => False
   | false => False) l
theorem wpOp_def {E : Env} {kp : Option (PV → St → Prop)} {s : St} {op : Op} {K : PV → List (List PV) → List (Nat × Nat) → Prop} : wpOp E kp s op K = (match clsOf E.pt op with
 | .alloc => match newBoxF E s.sl op with
  | some cs => K (.ptr s.H.length 0) (s.H ++ [cs]) s.T
  | none => False
 | .eff => match op with
  | .store t a x => match storeF E s t (ev s.sl a) (ev s.sl x) with
   | some H => K (.tup []) H s.T
   | none => False
  | .panic x => panF kp (ev s.sl x)
  | .call c => match c.callee with
   | .builtin .append => match c.args.toList, c.argTypes.toList with
    | [x, y], [t, t'] => match Nat.beq t t' with
     | true => ∃ z T', AppR E s.T t (ev s.sl x) (ev s.sl y) z T' ∧ K z s.H T'
     | false => False
    | _, _ => False
   | .value x => match calleeF (ev s.sl x) with
    | some (f, a, b) => CallK kp s (SCallR E f s.H (a ++ c.args.toList.map (ev s.sl) ++ b)) (SCallPj E f s.H (a ++ c.args.toList.map (ev s.sl) ++ b)) (WCallR E f s.H (a ++ c.args.toList.map (ev s.sl) ++ b)) (OCallR E f (a ++ c.args.toList.map (ev s.sl) ++ b)) K
    | none => False
   | _ => False
  | _ => False
 | .val => match isTriv op with
  | true => match opF E s.H s.sl op with
   | some v => forceP v fun v => K v s.H s.T
   | none => False
  | false => ∃ v, VR E s.sl s.H op v ∧ K v s.H s.T) := by
 obtain ⟨sl, H, T⟩ := s
 unfold wpOp
 dsimp only
 cases hc : clsOf E.pt op with
 | alloc =>
  dsimp only
  cases newBoxF E sl op with
  | none => rfl
  | some cs =>
   dsimp only
   rw [forceN_eq, forceS_eq]
 | val => rfl
 | eff =>
  cases op <;> try rfl
  rename_i t a x
  dsimp only
  rw [storeF_eq]
  dsimp only
  cases storeR E H t (ev sl a) (ev sl x) with
  | none => rfl
  | some r => obtain ⟨i, row⟩ := r; dsimp only; rw [forceS_eq, forceS_eq]
theorem CallK.mono {kp : Option (PV → St → Prop)} {s : St} {R N : PV → List (List PV) → Prop} {P : PV → Nat → Prop} {O : List (List CV) → Nat → Prop} {K K' : PV → List (List PV) → List (Nat × Nat) → Prop} (h : CallK kp s R P N O K) (f : ∀ r H T, K r H T → K' r H T) : CallK kp s R P N O K' := by
 cases kp with
 | none => obtain ⟨r, H', hr, hk⟩ := h; exact ⟨r, H', hr, f _ _ _ hk⟩
 | some Kp =>
  rcases h with ⟨r, H', hr, hk⟩ | h | h | ⟨r, H', hr, hk⟩ | ⟨xs, e, hr, hk⟩
  ·exact .inl ⟨r, H', hr, f _ _ _ hk⟩
  ·exact .inr (.inl h)
  ·exact .inr (.inr (.inl h))
  ·exact .inr (.inr (.inr (.inl ⟨r, H', hr, f _ _ _ hk⟩)))
  ·exact .inr (.inr (.inr (.inr ⟨xs, e, hr, f _ _ _ hk⟩)))
theorem wpOp_mono {E : Env} {kp : Option (PV → St → Prop)} {s : St} {op : Op} {K K' : PV → List (List PV) → List (Nat × Nat) → Prop} (h : wpOp E kp s op K) (f : ∀ v H T, K v H T → K' v H T) : wpOp E kp s op K' := by
 rw [wpOp_def] at h ⊢
 obtain ⟨sl, H, T⟩ := s
 dsimp only at h ⊢
 (repeat' split at h) <;> first | exact h | exact h.mono fun _ _ _ h => f _ _ _ h | exact f _ _ _ h | exact h.elim | exact forceP_iff.2 (f _ _ _ (forceP_iff.1 h)) | (obtain ⟨v, hv, hk⟩ := h; exact ⟨v, hv, f _ _ _ hk⟩) | (obtain ⟨v, T', hv, hk⟩ := h; exact ⟨v, T', hv, f _ _ _ hk⟩)
theorem wpOp_ex {E : Env} {s : St} {op : Op} {K : PV → List (List PV) → List (Nat × Nat) → Prop} (h : wpOp E none s op K) : ∃ u H T, wpOp E none s op (fun a b c => a = u ∧ b = H ∧ c = T) ∧ K u H T := by
 simp only [wpOp_def] at h ⊢
 obtain ⟨sl, H, T⟩ := s
 dsimp only at h ⊢
 (repeat' split at h) <;> first | (unfold panF at h; exact h.elim) | exact h.elim | exact ⟨_, _, _, forceP_iff.2 ⟨rfl, rfl, rfl⟩, forceP_iff.1 h⟩ | exact ⟨_, _, _, ⟨rfl, rfl, rfl⟩, h⟩ | (obtain ⟨v, hv, hk⟩ := h; exact ⟨_, _, _, ⟨v, hv, rfl, rfl, rfl⟩, hk⟩) | (obtain ⟨v, T', hv, hk⟩ := h; exact ⟨_, _, _, ⟨v, T', hv, rfl, rfl, rfl⟩, hk⟩)
theorem isTriv_val {E : Env} {sl : Nat → PV} {H : List (List PV)} {op : Op} {v : PV} (ht : isTriv op = true) (h : opF E H sl op = some v) : VR0 E sl H op v := by
 cases op <;> simp [isTriv] at ht <;> first | exact h | skip
 rename_i c
 obtain ⟨ce, xas, ts⟩ := c
 cases ce <;> simp at ht
 exact h
theorem VR0_opF {E : Env} {sl : Nat → PV} {H : List (List PV)} {op : Op} {v : PV} (ht : isTriv op = true) (h : VR0 E sl H op v) : opF E H sl op = some v := by
 cases op <;> simp [isTriv] at ht <;> first | exact h | skip
 rename_i c
 obtain ⟨ce, xas, ts⟩ := c
 cases ce <;> simp at ht
 exact h
theorem wpOp_val {E : Env} {kp : Option (PV → St → Prop)} {s : St} {op : Op} {K : PV → List (List PV) → List (Nat × Nat) → Prop} (hc : clsOf E.pt op = .val) : wpOp E kp s op K ↔ ∃ v, VR0 E s.sl s.H op v ∧ K v s.H s.T := by
 rw [wpOp_def]
 obtain ⟨sl, H, T⟩ := s
 rw [hc]
 dsimp only
 cases ht : isTriv op with
 | true =>
  dsimp only
  constructor
  ·intro h
   split at h
   ·rename_i v hv; exact ⟨v, isTriv_val ht hv, forceP_iff.1 h⟩
   ·exact h.elim
  ·rintro ⟨v, hv, hk⟩
   rw [VR0_opF ht hv]
   exact forceP_iff.2 hk
 | false => exact ⟨fun ⟨v, hv, hk⟩ => ⟨v, VR_iff.1 hv, hk⟩, fun ⟨v, hv, hk⟩ => ⟨v, VR_iff.2 hv, hk⟩⟩
def Agree (op : Op) (sl sl' : Nat → PV) : Prop := ∀ x ∈ op.operands, ev sl x = ev sl' x
theorem ev_list {sl sl' : Nat → PV} {l : List Operand} (h : ∀ x ∈ l, ev sl x = ev sl' x) : l.map (ev sl) = l.map (ev sl') := List.map_congr_left h
theorem ev_parts {sl sl' : Nat → PV} {l : List (Nat × Operand)} (h : ∀ x ∈ l.map (·.2), ev sl x = ev sl' x) : (l.map fun p => (p.1, ev sl p.2)) = l.map fun p => (p.1, ev sl' p.2) :=
 List.map_congr_left fun p hp => by rw [h p.2 (List.mem_map.2 ⟨p, hp, rfl⟩)]
theorem opF_agree {E : Env} {H : List (List PV)} {op : Op} {sl sl' : Nat → PV} (h : Agree op sl sl') : opF E H sl op = opF E H sl' op := by
 cases op <;> simp only [Agree, Op.operands] at h <;> try (simp_all [opF]; done)
 case build t ps => simp only [opF]; rw [ev_parts (sl := sl) (sl' := sl') (fun x hx => h x (by simpa using hx))]
 case slice t x lo hi mx =>
  cases mx with
  | some mx =>
   cases hi with
   | none => rfl
   | some hi =>
    simp only [opF]
    have hx := h x (by simp)
    have hi' := h hi (by simp)
    have hm := h mx (by simp)
    cases lo <;> simp_all
  | none =>
   simp only [opF]
   have hx := h x (by simp)
   cases lo <;> cases hi <;> simp_all
 case typeAssert x u t b => cases b <;> simp only [opF]; rw [h x (by simp)]
 case makeFunc fn fs cs =>
  simp only [opF]
  rw [ev_list (l := fs.toList) (fun x hx => h x (by simp; exact .inl (by simpa using hx))), ev_list (l := cs.toList) (fun x hx => h x (by simp; exact .inr (by simpa using hx)))]
 case call c =>
  have hc : ∀ x ∈ c.args.toList, ev sl x = ev sl' x := fun x hx => h x (by simp [Call.operands]; exact .inr (by simpa using hx))
  have e := ev_list hc
  simp only [opF]
  split
  ·split
   ·rename_i x t hx _
    rw [hx] at hc
    rw [hc x (by simp)]
   ·rfl
  ·rw [e]
  ·rw [e]
  ·rfl
theorem VR0_agree {E : Env} {H : List (List PV)} {op : Op} {sl sl' : Nat → PV} (h : Agree op sl sl') (v : PV) : VR0 E sl H op v ↔ VR0 E sl' H op v := by
 cases op <;> try (simp only [VR0]; rw [opF_agree h]; done)
 case buildSlice t n ps => simp only [VR0]; rw [ev_parts (sl := sl) (sl' := sl') (fun x hx => h x (by simpa [Op.operands] using hx))]
 case lookup t x k b =>
  cases b with
  | true => simp only [VR0]; rw [opF_agree h]
  | false => simp only [VR0]; rw [h x (by simp [Op.operands]), h k (by simp [Op.operands])]
 case call c =>
  have hc : ∀ x ∈ c.args.toList, ev sl x = ev sl' x := fun x hx => h x (by simp [Op.operands, Call.operands]; exact .inr (by simpa using hx))
  have e := ev_list hc
  simp only [VR0]
  split
  ·rename_i x hx
   rw [h x (by simp [Op.operands, Call.operands, hx]), e]
  ·rw [opF_agree h]
theorem newBox_agree {E : Env} {op : Op} {sl sl' : Nat → PV} (h : Agree op sl sl') : newBoxF E sl op = newBoxF E sl' op := by
 cases op <;> simp only [newBoxF, Agree, Op.operands] at h ⊢
 rw [h _ (by simp)]
theorem loadF_more {ti : TI} {H : List (List PV)} {p z : PV} (cs : List PV) (h : loadF ti H p = some z) : loadF ti (H ++ [cs]) p = some z := by
 unfold loadF at h ⊢
 cases p <;> try exact h
 rename_i i off
 dsimp only at h ⊢
 cases hi : H[i]? with
 | none => simp [hi] at h
 | some ds =>
  rw [List.getElem?_append_left (List.getElem?_eq_some_iff.1 hi).1, hi]
  rw [hi] at h
  exact h
theorem loadF_less {ti : TI} {H : List (List PV)} {p z : PV} {cs : List PV} (h : loadF ti (H ++ [cs]) p = some z) (hp : ∀ i off, p = .ptr i off → i < H.length) : loadF ti H p = some z := by
 unfold loadF at h ⊢
 cases p <;> try exact h
 rename_i i off
 dsimp only at h ⊢
 rw [List.getElem?_append_left (hp i off rfl)] at h
 exact h
theorem VR0_more {E : Env} {H : List (List PV)} {op : Op} {sl : Nat → PV} (cs : List PV) {v : PV} (h : VR0 E sl H op v) : VR0 E sl (H ++ [cs]) op v := by
 cases op <;> try exact h
 case load t x =>
  simp only [VR0, opF] at h ⊢
  split at h
  ·exact loadF_more cs h
  ·cases h
 case lookup t x k b => cases b <;> exact h
 case slice t x lo hi mx => cases mx <;> cases hi <;> exact h
 case typeAssert x u t b => cases b <;> exact h
theorem VR0_less {E : Env} {H : List (List PV)} {op : Op} {sl : Nat → PV} {cs : List PV} {v : PV} (h : VR0 E sl (H ++ [cs]) op v) (hp : ∀ x ∈ op.operands, ∀ i off, ev sl x = .ptr i off → i < H.length) : VR0 E sl H op v := by
 cases op <;> try exact h
 case load t x =>
  simp only [VR0, opF] at h ⊢
  split at h
  ·exact loadF_less h (hp x (by simp [Op.operands]))
  ·cases h
 case typeAssert x u t b => cases b <;> exact h
 case lookup t x k b => cases b <;> exact h
 case slice t x lo hi mx => cases mx <;> cases hi <;> exact h
end Go.Proofs.YtgpkppohfodhdaaGreatDoor.Pm
namespace Go.Proofs.YtgpkppohfodhdaaGreatDoor.Pm
open Go Go.RowKit
set_option linter.unusedVariables false
set_option linter.unusedSimpArgs false
abbrev ALt := lowA
def PLt (n : Nat) : PV → Prop
 | .ptr i _ => i < n
 | .brow i _ => i < n
 | .tup vs => (PV.tup vs).closed = true
 | .clos _ a b => (a ++ b).all (ALt n) = true
 | .mclo _ i => i < n
 | _ => True
theorem ALt.mono {n k : Nat} (h : n ≤ k) {l : List AV} (hl : l.all (ALt n) = true) : l.all (ALt k) = true := by
 rw [List.all_eq_true] at hl ⊢
 intro a ha
 have := hl a ha
 cases a <;> simp [lowA] at this ⊢
 omega
structure WF (s : St) : Prop where
 sl : ∀ t, PLt s.H.length (s.sl t)
 H : ∀ cs ∈ s.H, ∀ p ∈ cs, PLt s.H.length p
theorem PLt.mono {n k : Nat} (h : n ≤ k) {p : PV} (hp : PLt n p) : PLt k p := by
 cases p <;> simp only [PLt] at hp ⊢
 ·exact hp
 ·omega
 ·exact ALt.mono h hp
 ·omega
 ·omega
theorem av_PLt {n : Nat} : ∀ {l : List PV} {avl : List AV}, (∀ p ∈ l, PLt n p) → avsF l = some avl → avl.all (ALt n) = true
 | [], avl, _, h => by simp [avsF] at h; subst h; rfl
 | p :: l, avl, hp, h => by
  simp only [avsF] at h
  split at h
  ·rename_i a r h1 h2
   injection h with h; subst h
   have h3 := av_PLt (fun q hq => hp q (by simp [hq])) h2
   have h4 := hp p (by simp)
   rw [List.all_cons, h3, Bool.and_true]
   cases p <;> simp [PV.av] at h1 <;> subst h1
   ·rfl
   ·rfl
   ·exact decide_eq_true h4
  ·cases h
theorem ev_PLt {s : St} (hw : WF s) (x : Operand) : PLt s.H.length (ev s.sl x) := by
 cases x with
 | tmp t => exact hw.sl t
 | const v => simp only [ev, ofVal]; split <;> trivial
 | global g => trivial
 | func f => trivial
theorem shift_PLt {n k : Nat} {p z : PV} (hp : PLt n p) (h : shiftP p k = some z) : PLt n z := by
 cases p <;> simp [shiftP] at h <;> subst h
 ·exact hp
 ·trivial
theorem partF_PLt {n : Nat} {ti : TI} {cs : List CV} {k : Nat} {z : PV} (h : partF ti cs k = some z) : PLt n z := by
 unfold partF aggF at h
 (repeat' split at h) <;> first | (injection h with h; subst h; trivial) | cases h
theorem closed_PLt {n : Nat} {p : PV} (h : p.closed = true) : PLt n p := by
 cases p <;> first | exact h | trivial | simp [PV.closed] at h
theorem closedB_PLt {n : Nat} {p : PV} (h : p.closedB = true) : PLt n p := by
 cases p <;> first | trivial | exact closed_PLt h
theorem loadF_PLt {s : St} (hw : WF s) {ti : TI} {p z : PV} (h : loadF ti s.H p = some z) : PLt s.H.length z := by
 unfold loadF at h
 split at h
 ·split at h
  ·rename_i cs hcs
   split at h
   ·(repeat' split at h) <;> first | (injection h with h; subst h; trivial) | cases h
   ·exact hw.H cs (List.mem_of_getElem? hcs) z (List.mem_of_getElem? h)
  ·cases h
 ·exact partF_PLt h
 ·cases h
theorem binF_PLt {n : Nat} {ti : Option TI} {op : BinOp} {p q z : PV} (h : binF ti op p q = some z) : PLt n z := by
 unfold binF shF intF cmpF strF at h
 (repeat' split at h) <;> first | (injection h with h; subst h; trivial) | cases h
theorem binE_PLt {E : Env} {n t : Nat} {op : BinOp} {p q z : PV} (h : binE E t op p q = some z) : PLt n z := by
 unfold binE at h
 split at h
 ·rename_i z' hz
  injection h with h; subst h
  exact binF_PLt hz
 ·unfold eqAggF at h
  (repeat' split at h) <;> first | (injection h with h; subst h; trivial) | cases h
theorem VR0_PLt {E : Env} {s : St} (hw : WF s) {op : Op} {v : PV} (h : VR0 E s.sl s.H op v) : PLt s.H.length v := by
 cases op <;> try (simp only [VR0, opF] at h; cases h; done)
 case move x => simp only [VR0, opF] at h; injection h with h; subst h; exact ev_PLt hw x
 case assign x => simp only [VR0, opF] at h; injection h with h; subst h; exact ev_PLt hw x
 case nilCheck x =>
  simp only [VR0, opF] at h
  have := ev_PLt hw x
  split at h
  ·rename_i i o he
   injection h with h; subst h
   rw [he] at this; exact this
  ·injection h with h; subst h; trivial
  ·cases h
 case pick c a b =>
  simp only [VR0, opF] at h
  split at h
  ·injection h with h; subst h; exact ev_PLt hw a
  ·injection h with h; subst h; exact ev_PLt hw b
  ·cases h
 case build t ps =>
  simp only [VR0, opF, buildF] at h
  (repeat' split at h) <;> first | (injection h with h; subst h; trivial) | cases h
 case buildSlice t n ps => obtain ⟨ys, -, rfl⟩ := h; trivial
 case lookup t x k b =>
  cases b with
  | true => simp only [VR0, opF] at h; cases h
  | false =>
   rcases h with ⟨es, ck, n, z, -, -, -, rfl⟩ | ⟨fs, i, n, f, h1, -, -, rfl⟩
   ·trivial
   ·have hi := ev_PLt hw x
    rw [h1] at hi
    have hi : i < s.H.length := hi
    show ([AV.p i 0] ++ []).all (ALt s.H.length) = true
    simp [lowA, hi]
 case load t x =>
  simp only [VR0, opF] at h
  split at h
  ·exact loadF_PLt hw h
  ·cases h
 case binOp o t x y u => simp only [VR0, opF] at h; exact binE_PLt h
 case unOp o t x =>
  simp only [VR0, opF, unF] at h
  (repeat' split at h) <;> first | (injection h with h; subst h; trivial) | cases h
 case convert a b x =>
  simp only [VR0, opF, convF] at h
  (repeat' split at h) <;> first | (injection h with h; subst h; trivial) | cases h
 case slice t x lo hi mx =>
  cases mx with
  | some _ =>
   cases hi with
   | none => cases h
   | some _ =>
    simp only [VR0, opF, slice3F] at h
    (repeat' split at h) <;> first | (injection h with h; subst h; trivial) | cases h
  | none =>
   simp only [VR0, opF, sliceF] at h
   (repeat' split at h) <;> first | (injection h with h; subst h; trivial) | cases h
 case fieldAddr t x f =>
  simp only [VR0, opF, fieldAddrF] at h
  (repeat' split at h) <;> first | exact shift_PLt (ev_PLt hw x) h | cases h
 case field t x f =>
  simp only [VR0, opF, fieldF] at h
  (repeat' split at h) <;> first | exact partF_PLt h | cases h
 case indexAddr t x i =>
  simp only [VR0, opF, indexAddrF, rowAtF] at h
  have hx := ev_PLt hw x
  (repeat' split at h) <;> first | exact shift_PLt hx h | (rename_i hb _ _ _ _ _; rw [hb] at hx; injection h with h; subst h; exact hx) | (injection h with h; subst h; trivial) | cases h
 case index t x i =>
  simp only [VR0, opF, indexF, byteAtF] at h
  (repeat' split at h) <;> first | exact partF_PLt h | (injection h with h; subst h; trivial) | cases h
 case extract x i =>
  simp only [VR0, opF] at h
  split at h
  ·rename_i vs hv
   have := ev_PLt hw x
   rw [hv] at this
   have := List.all_eq_true.1 this v (List.mem_of_getElem? h)
   cases v <;> first | trivial | simp at this
  ·cases h
 case makeFunc fn fs cs =>
  simp only [VR0, opF] at h
  split at h
  ·unfold closF at h
   split at h
   ·injection h with h; subst h; trivial
   ·split at h
    ·rename_i ps qs h1 h2
     injection h with h; subst h
     show (ps ++ qs).all _ = true
     rw [List.all_append, av_PLt (n := s.H.length) (fun p hp => by obtain ⟨x, -, rfl⟩ := List.mem_map.1 hp; exact ev_PLt hw x) h1, av_PLt (n := s.H.length) (fun p hp => by obtain ⟨x, -, rfl⟩ := List.mem_map.1 hp; exact ev_PLt hw x) h2]
     rfl
    ·cases h
  ·cases h
 case makeInterface t x =>
  simp only [VR0, opF] at h
  (repeat' split at h) <;> first | (injection h with h; subst h; trivial) | cases h
 case typeAssert x u t b =>
  cases b with
  | false => simp only [VR0, opF] at h; cases h
  | true =>
   simp only [VR0, opF] at h
   split at h
   ·unfold assertF at h
    (repeat' split at h) <;> first | (injection h with h; subst h; rfl) | cases h
   ·cases h
 case call c =>
  simp only [VR0] at h
  split at h
  ·split at h
   ·obtain ⟨args, -, -, -, h⟩ := h; exact closed_PLt h
   ·exact h.elim
  ·simp only [opF, lenF, maxF, minF] at h
   (repeat' split at h) <;> first | (injection h with h; subst h; trivial) | cases h
def step (E : Env) (kp : Option (PV → St → Prop)) (all : Array Oper) (o : Oper) (s : St) (K : St → Prop) : Prop := match gd all s.sl o with
 | some true => wpOp E kp s o.op fun v H T => K ⟨upd s.sl o.dst v, H, T⟩
 | some false => K ⟨upd s.sl o.dst (.tup []), s.H, s.T⟩
 | none => False
theorem wpL_cons {E : Env} {kp : Option (PV → St → Prop)} {all : Array Oper} {o : Oper} {rest : List Oper} {K : St → Prop} {s : St} : wpL E kp all (o :: rest) K s ↔ sepK kp E.pt all s.sl o = true ∧ step E kp all o s (wpL E kp all rest K) := by
 obtain ⟨sl, H, T⟩ := s
 show (match sepK kp E.pt all sl o with
  | true => step E kp all o ⟨sl, H, T⟩ (wpL E kp all rest K)
  | false => False) ↔ sepK kp E.pt all sl o = true ∧ _
 cases sepK kp E.pt all sl o
 ·exact ⟨fun h => h.elim, fun h => absurd h.1 (by simp)⟩
 ·exact ⟨fun h => ⟨rfl, h⟩, fun h => h.2⟩
def SR (E : Env) (all : Array Oper) (o : Oper) (s : St) (v : PV) (add : List (List PV)) : Prop :=
 (gd all s.sl o = some false ∧ v = .tup [] ∧ add = []) ∨ (gd all s.sl o = some true ∧ clsOf E.pt o.op = .val ∧ VR0 E s.sl s.H o.op v ∧ add = []) ∨
 (gd all s.sl o = some true ∧ clsOf E.pt o.op = .alloc ∧ ∃ cs, newBoxF E s.sl o.op = some cs ∧ v = .ptr s.H.length 0 ∧ add = [cs])
theorem step_SR {E : Env} {all : Array Oper} {o : Oper} {s : St} {K : St → Prop} (hc : clsOf E.pt o.op ≠ .eff) : step E none all o s K ↔ ∃ v add, SR E all o s v add ∧ K ⟨upd s.sl o.dst v, s.H ++ add, s.T⟩ := by
 unfold step
 constructor
 ·intro h
  split at h
  ·rename_i hg
   cases hk : clsOf E.pt o.op with
   | val =>
    obtain ⟨v, hv, hK⟩ := (wpOp_val hk).1 h
    exact ⟨v, [], .inr (.inl ⟨hg, hk, hv, rfl⟩), by simpa using hK⟩
   | alloc =>
    rw [wpOp_def] at h
    rw [hk] at h
    dsimp only at h
    split at h
    ·rename_i cs hcs
     exact ⟨_, [cs], .inr (.inr ⟨hg, hk, cs, hcs, rfl, rfl⟩), h⟩
    ·exact h.elim
   | eff => exact absurd hk hc
  ·rename_i hg
   exact ⟨_, [], .inl ⟨hg, rfl, rfl⟩, by simpa using h⟩
  ·exact h.elim
 ·rintro ⟨v, add, h | h | h, hK⟩
  ·obtain ⟨hg, rfl, rfl⟩ := h
   rw [hg]
   simpa using hK
  ·obtain ⟨hg, hk, hv, rfl⟩ := h
   rw [hg]
   exact (wpOp_val hk).2 ⟨v, hv, by simpa using hK⟩
  ·obtain ⟨hg, hk, cs, hcs, rfl, rfl⟩ := h
   rw [hg]
   show wpOp E none s o.op _
   rw [wpOp_def]
   rw [hk]
   dsimp only
   rw [hcs]
   exact hK
theorem upd_other {f : Nat → PV} {d : Option Nat} {v : PV} {t : Nat} (h : d ≠ some t) : upd f d v t = f t := by
 unfold upd
 cases d with
 | none => rfl
 | some d =>
  dsimp only
  cases hb : Nat.beq t d with
  | true => exact absurd (by rw [Nat.eq_of_beq_eq_true hb]) h
  | false => rfl
theorem upd_same {f : Nat → PV} {d : Nat} {v : PV} : upd f (some d) v d = v := by
 unfold upd
 dsimp only
 rw [Nat.beq_refl]
theorem ev_upd {f : Nat → PV} {d : Option Nat} {v : PV} {x : Operand} (h : ∀ t, d = some t → x ≠ .tmp t) : ev (upd f d v) x = ev f x := by
 cases x with
 | tmp t => exact upd_other (fun e => h t e rfl)
 | _ => rfl
theorem upd_comm {f : Nat → PV} {d e : Option Nat} {v u : PV} (h : ∀ t, d = some t → e ≠ some t) : upd (upd f d v) e u = upd (upd f e u) d v := by
 cases d with
 | none => rfl
 | some d =>
  cases e with
  | none => rfl
  | some e =>
   have hne : d ≠ e := fun he => h d rfl (by rw [he])
   funext t
   by_cases h1 : t = d
   ·subst h1
    rw [upd_same, upd_other (by simpa using Ne.symm hne), upd_same]
   ·by_cases h2 : t = e
    ·subst h2
     rw [upd_same, upd_other (by simpa using hne), upd_same]
    ·rw [upd_other (by simpa using Ne.symm h2), upd_other (by simpa using Ne.symm h1), upd_other (by simpa using Ne.symm h1), upd_other (by simpa using Ne.symm h2)]
theorem agree_upd {all : Array Oper} {o : Oper} {f : Nat → PV} {d : Option Nat} {v : PV} (h : ∀ t, d = some t → t ∉ o.looksAt all) : Agree o.op (upd f d v) f := by
 intro x hx
 refine ev_upd fun t ht hxt => h t ht ?_
 subst hxt
 exact List.mem_append_left _ (List.mem_filterMap.2 ⟨.tmp t, by simpa using hx, rfl⟩)
theorem gd_upd {all : Array Oper} {o : Oper} {f : Nat → PV} {d : Option Nat} {v : PV} (h : ∀ t, d = some t → t ∉ o.looksAt all) : gd all (upd f d v) o = gd all f o := by
 unfold gd
 cases hg : o.guard with
 | none => rfl
 | some gw =>
  obtain ⟨j, want⟩ := gw
  dsimp only
  cases ht : (all[j]?).bind (·.dst) with
  | none => rfl
  | some t =>
   dsimp only
   rw [upd_other]
   intro e
   exact h t e (by simp [Oper.looksAt, hg, ht])
def tame (pt : Fl) (x y : Oper) : Bool := (clsOf pt x.op != .eff) && (clsOf pt y.op != .eff) && !((clsOf pt x.op == .alloc) && (clsOf pt y.op == .alloc))
def isLoad : Op → Bool
 | .load _ _ => true
 | _ => false
def compat (pt : Fl) (all : Array Oper) (j i : Nat) : Bool := match clsOf pt (all.getD j default).op, clsOf pt (all.getD i default).op with
 | .eff, .val => ((freeL all (all.getD j default)).all fun t => (all.getD i default).dst != some t) && (!isLoad (all.getD i default).op || isApp (all.getD j default).op)
 | .val, .eff => match isLoad (all.getD j default).op with
  | false => true
  | true => isApp (all.getD i default).op || match loadT (all.getD j default).op with
   | some t => (isCallV (all.getD i default).op || isStore (all.getD i default).op) && ((freeL all (all.getD i default)).any fun u => Nat.beq u t) && (List.range all.size).all fun k => Nat.blt k j || Nat.ble i k || (all.getD k default).dst != some t
   | none => false
 | .eff, _ => false
 | _, .eff => false
 | _, _ => tame pt (all.getD j default) (all.getD i default)
theorem wf_upd {s : St} {H : List (List PV)} {T : List (Nat × Nat)} {d : Option Nat} {v : PV} (hw : WF s) (hle : s.H.length ≤ H.length) (hH : ∀ cs ∈ H, ∀ p ∈ cs, PLt H.length p) (hv : PLt H.length v) : WF ⟨upd s.sl d v, H, T⟩ := by
 refine ⟨fun t => ?_, hH⟩
 cases hd : d with
 | none => exact (hw.sl t).mono hle
 | some d =>
  by_cases ht : t = d
  ·subst ht; dsimp only; rw [upd_same]; exact hv
  ·dsimp only; rw [upd_other (by simpa using Ne.symm ht)]; exact (hw.sl t).mono hle
theorem cells_PLt {n : Nat} {p : PV} {cs : List PV} (hp : PLt n p) (h : p.cells = some cs) : ∀ q ∈ cs, PLt n q := by
 intro q hq
 cases p <;> simp [PV.cells] at h <;> subst h <;> simp at hq
 ·subst hq; exact hp
 ·obtain ⟨c, -, rfl⟩ := hq; trivial
 ·subst hq; exact hp
 ·subst hq; exact hp
 ·subst hq; exact hp
theorem zeroB_cases (F : Fl) (t : Nat) (z : List CV) : zeroB F t z = z.map .c ∨ ∃ r, z = .lit (.pointer none) :: r ∧ zeroB F t z = .fresh t :: r.map .c := by
 unfold zeroB
 cases F.bt t with
 | false => exact .inl rfl
 | true =>
  dsimp only
  split
  ·exact .inr ⟨_, rfl, rfl⟩
  ·exact .inl rfl
theorem zeroB_mem {F : Fl} {t : Nat} {z : List CV} {q : PV} (h : q ∈ zeroB F t z) : (∃ c, q = .c c) ∨ ∃ t, q = .fresh t := by
 rcases zeroB_cases F t z with e | ⟨r, -, e⟩ <;> rw [e] at h
 ·obtain ⟨c, -, rfl⟩ := List.mem_map.1 h; exact .inl ⟨c, rfl⟩
 ·rcases List.mem_cons.1 h with rfl | h
  ·exact .inr ⟨t, rfl⟩
  ·obtain ⟨c, -, rfl⟩ := List.mem_map.1 h; exact .inl ⟨c, rfl⟩
theorem newBox_PLt {E : Env} {s : St} (hw : WF s) {op : Op} {cs : List PV} (h : newBoxF E s.sl op = some cs) : ∀ q ∈ cs, PLt s.H.length q := by
 unfold newBoxF at h
 split at h
 ·split at h
  ·injection h with h; subst h
   intro q hq
   rcases zeroB_mem hq with ⟨c, rfl⟩ | ⟨t, rfl⟩ <;> trivial
  ·cases h
 ·exact cells_PLt (ev_PLt hw _) h
 ·cases h
theorem SR_wf {E : Env} {all : Array Oper} {o : Oper} {s : St} {v : PV} {add : List (List PV)} (hw : WF s) (h : SR E all o s v add) : WF ⟨upd s.sl o.dst v, s.H ++ add, s.T⟩ := by
 have hle : s.H.length ≤ (s.H ++ add).length := by simp
 have hv : PLt (s.H ++ add).length v ∧ ∀ cs ∈ add, ∀ p ∈ cs, PLt (s.H ++ add).length p := by
  rcases h with ⟨-, rfl, rfl⟩ | ⟨-, -, h, rfl⟩ | ⟨-, -, cs, hcs, rfl, rfl⟩
  ·exact ⟨rfl, by simp⟩
  ·exact ⟨(VR0_PLt hw h).mono hle, by simp⟩
  ·refine ⟨by simp [PLt], ?_⟩
   intro ds hds p hp
   simp at hds; subst hds
   exact (newBox_PLt hw hcs p hp).mono hle
 refine wf_upd hw hle (fun cs hcs p hp => ?_) hv.1
 rcases List.mem_append.1 hcs with h | h
 ·exact (hw.H cs h p hp).mono hle
 ·exact hv.2 cs h p hp
theorem swap {E : Env} {all : Array Oper} {x y : Oper} {s : St} {K : St → Prop} (hw : WF s) (hap : Oper.apart all x y = true) (hc : tame E.pt x y = true) (h : step E none all x s fun s => step E none all y s K) : step E none all y s fun s => step E none all x s K := by
 obtain ⟨a1, a2, a3⟩ := Oper.apart_spec hap
 simp only [tame, Bool.and_eq_true, bne_iff_ne, ne_eq, Bool.not_eq_true', Bool.and_eq_false_iff, beq_eq_false_iff_ne] at hc
 obtain ⟨⟨hx, hy⟩, hxy⟩ := hc
 obtain ⟨v, add, hv, h⟩ := (step_SR hx).1 h
 obtain ⟨u, bdd, hu, h⟩ := (step_SR hy).1 h
 refine (step_SR hy).2 ⟨u, bdd, ?_, (step_SR hx).2 ⟨v, add, ?_, ?_⟩⟩
 ·-- y told ahead of x
  simp only [SR, gd_upd (all := all) (o := y) (f := s.sl) (v := v) a1] at hu
  rcases hu with ⟨g, rfl, rfl⟩ | ⟨g, k, r, rfl⟩ | ⟨g, k, cs, r, hu, rfl⟩
  ·exact .inl ⟨g, rfl, rfl⟩
  ·refine .inr (.inl ⟨g, k, ?_, rfl⟩)
   rw [VR0_agree (agree_upd (all := all) (o := y) a1)] at r
   rcases hv with ⟨-, -, rfl⟩ | ⟨-, -, -, rfl⟩ | ⟨-, -, ds, -, -, rfl⟩
   ·simpa using r
   ·simpa using r
   ·refine VR0_less r fun z hz i off hev => ?_
    have := ev_PLt hw z
    rw [hev] at this
    exact this
  ·refine .inr (.inr ⟨g, k, cs, ?_, ?_, rfl⟩)
   ·rw [newBox_agree (agree_upd (all := all) (o := y) a1)] at r; exact r
   ·rcases hv with ⟨-, -, rfl⟩ | ⟨-, -, -, rfl⟩ | ⟨-, k', -⟩
    ·simpa using hu
    ·simpa using hu
    ·rcases hxy with h1 | h1
     ·exact absurd k' h1
     ·exact absurd k h1
 ·-- x told behind y
  simp only [SR, gd_upd (all := all) (o := x) (f := s.sl) (v := u) a3]
  rcases hv with ⟨g, rfl, rfl⟩ | ⟨g, k, r, rfl⟩ | ⟨g, k, cs, r, hv, rfl⟩
  ·exact .inl ⟨g, rfl, rfl⟩
  ·refine .inr (.inl ⟨g, k, ?_, rfl⟩)
   rw [VR0_agree (agree_upd (all := all) (o := x) a3)]
   rcases hu with ⟨-, -, rfl⟩ | ⟨-, -, -, rfl⟩ | ⟨-, -, ds, -, -, rfl⟩
   ·simpa using r
   ·simpa using r
   ·exact VR0_more ds r
  ·refine .inr (.inr ⟨g, k, cs, ?_, ?_, rfl⟩)
   ·rw [newBox_agree (agree_upd (all := all) (o := x) a3)]; exact r
   ·rcases hu with ⟨-, -, rfl⟩ | ⟨-, -, -, rfl⟩ | ⟨-, k', -⟩
    ·simpa using hv
    ·simpa using hv
    ·rcases hxy with h1 | h1
     ·exact absurd k h1
     ·exact absurd k' h1
 ·have e1 : upd (upd s.sl y.dst u) x.dst v = upd (upd s.sl x.dst v) y.dst u := (upd_comm (fun t ht => a2 t ht)).symm
  have e2 : (s.H ++ bdd) ++ add = (s.H ++ add) ++ bdd := by
   rcases hv with ⟨-, -, rfl⟩ | ⟨-, -, -, rfl⟩ | ⟨-, k, ds, -, -, rfl⟩
   ·simp
   ·simp
   ·rcases hu with ⟨-, -, rfl⟩ | ⟨-, -, -, rfl⟩ | ⟨-, k', -⟩
    ·simp
    ·simp
    ·rcases hxy with h1 | h1
     ·exact absurd k h1
     ·exact absurd k' h1
  show K ⟨upd (upd s.sl y.dst u) x.dst v, (s.H ++ bdd) ++ add, s.T⟩
  rw [e1, e2]
  exact h
theorem step_wf {E : Env} {all : Array Oper} {x : Oper} {s : St} {K : St → Prop} (hw : WF s) (hc : clsOf E.pt x.op ≠ .eff) (h : step E none all x s K) : step E none all x s fun s' => WF s' ∧ K s' := by
 obtain ⟨v, add, hv, h⟩ := (step_SR hc).1 h
 exact (step_SR hc).2 ⟨v, add, hv, SR_wf hw hv, h⟩
theorem step_mono {E : Env} {kp : Option (PV → St → Prop)} {all : Array Oper} {x : Oper} {s : St} {K K' : St → Prop} (h : step E kp all x s K) (f : ∀ s, K s → K' s) : step E kp all x s K' := by
 unfold step at h ⊢
 split at h
 ·exact wpOp_mono h fun v H T hk => f _ hk
 ·exact f _ h
 ·exact h.elim
def ER (E : Env) (all : Array Oper) (o : Oper) (s : St) (u : PV) (H : List (List PV)) (T : List (Nat × Nat)) : Prop :=
 (gd all s.sl o = some false ∧ u = .tup [] ∧ H = s.H ∧ T = s.T) ∨ (gd all s.sl o = some true ∧ wpOp E none s o.op fun a b c => a = u ∧ b = H ∧ c = T)
theorem step_ER {E : Env} {all : Array Oper} {o : Oper} {s : St} {K : St → Prop} : step E none all o s K ↔ ∃ u H T, ER E all o s u H T ∧ K ⟨upd s.sl o.dst u, H, T⟩ := by
 unfold step
 constructor
 ·intro h
  split at h
  ·rename_i hg
   obtain ⟨u, H, T, h1, h2⟩ := wpOp_ex h
   exact ⟨u, H, T, .inr ⟨hg, h1⟩, h2⟩
  ·rename_i hg
   exact ⟨_, _, _, .inl ⟨hg, rfl, rfl, rfl⟩, h⟩
  ·exact h.elim
 ·rintro ⟨u, H, T, ⟨hg, rfl, rfl, rfl⟩ | ⟨hg, h1⟩, h⟩
  ·rw [hg]; exact h
  ·rw [hg]
   refine wpOp_mono h1 ?_
   rintro v H' T' ⟨rfl, rfl, rfl⟩
   exact h
theorem step_ex {E : Env} {all : Array Oper} {o : Oper} {s : St} {K : St → Prop} (h : step E none all o s K) : ∃ s1, K s1 ∧ ∀ t, o.dst ≠ some t → s1.sl t = s.sl t := by
 obtain ⟨u, H, T, -, hK⟩ := step_ER.1 h
 exact ⟨_, hK, fun t ht => upd_other ht⟩
theorem eff_agree {E : Env} {sl sl' : Nat → PV} {H : List (List PV)} {T : List (Nat × Nat)} {op : Op} {K : PV → List (List PV) → List (Nat × Nat) → Prop} (ha : Agree op sl sl') (hc : clsOf E.pt op = .eff) (h : wpOp E none ⟨sl, H, T⟩ op K) : wpOp E none ⟨sl', H, T⟩ op K := by
 cases op <;> simp only [clsOf] at hc <;> try (cases hc; done)
 case store t a x =>
  have e1 := ha a (by simp [Op.operands])
  have e2 := ha x (by simp [Op.operands])
  rw [wpOp_def] at h ⊢
  simp only [clsOf, storeF] at h ⊢
  rw [← e1, ← e2]
  exact h
 case panic x =>
  rw [wpOp_def] at h
  simp only [clsOf, panF] at h
 case call c =>
  have e := ev_list (l := c.args.toList) (fun x hx => ha x (by simp [Op.operands, Call.operands]; exact .inr (by simpa using hx)))
  have e2 : ∀ x, c.callee = .value x → ev sl x = ev sl' x := fun x hx => ha x (by simp [Op.operands, Call.operands, hx])
  have e3 : ∀ x y, c.args.toList = [x, y] → ev sl x = ev sl' x ∧ ev sl y = ev sl' y := by
   intro x y hxy
   rw [hxy] at e
   simpa using e
  have hc' : clsOf E.pt (.call c) = .eff := by simp only [clsOf]; exact hc
  rw [wpOp_def] at h ⊢
  rw [hc'] at h ⊢
  dsimp only at h ⊢
  split at h
  ·split at h
   ·rename_i x y t t' hxy _
    rw [← (e3 x y hxy).1, ← (e3 x y hxy).2]
    exact h
   ·exact h.elim
  ·rename_i x hx
   rw [← e2 x hx, ← e]
   exact h
  ·exact h.elim
theorem app_H {E : Env} {s : St} {op : Op} {u : PV} {H : List (List PV)} {T : List (Nat × Nat)} (ha : isApp op = true) (h : wpOp E none s op fun a b c => a = u ∧ b = H ∧ c = T) : H = s.H := by
 cases op <;> simp [isApp] at ha
 rename_i c
 obtain ⟨ce, args, ts⟩ := c
 cases ce <;> simp at ha
 rename_i b
 cases b <;> simp at ha
 rw [wpOp_def] at h
 simp only [clsOf] at h
 split at h
 ·split at h
  ·obtain ⟨z, T', -, -, rfl, -⟩ := h; rfl
  ·exact h.elim
 ·exact h.elim
theorem eff_H {E : Env} {s : St} {op : Op} {u : PV} {H : List (List PV)} {T : List (Nat × Nat)} (ha : (isCallV op || isStore op) = true) (hc : clsOf E.pt op = .eff) (h : wpOp E none s op fun a b d => a = u ∧ b = H ∧ d = T) (k : Nat) (hk : ((handsOf s.sl op).all fun p => !hasP k p) = true) : H[k]? = s.H[k]? := by
 cases op <;> simp [isCallV, isStore] at ha
 case store t a x =>
  rw [wpOp_def] at h
  rw [hc] at h
  dsimp only at h
  split at h
  ·rename_i H' hst
   obtain ⟨-, rfl, -⟩ := h
   unfold storeF at hst
   split at hst
   ·rename_i ti i off us hti hp hq
    split at hst
    ·split at hst
     ·injection hst with hst; subst hst
      have hki : i ≠ k := by
       rintro rfl
       simp only [handsOf, hp, List.all_cons, hasP, Nat.beq_refl] at hk
       cases hk
      rw [List.getElem?_set_ne hki]
     ·cases hst
    ·cases hst
   ·cases hst
  ·exact h.elim
 case call c =>
 obtain ⟨ce, args, ts⟩ := c
 cases ce <;> simp at ha
 rename_i x
 rw [wpOp_def] at h
 rw [hc] at h
 dsimp only at h
 simp only [handsOf, psOf] at hk
 split at h
 ·rename_i f a b hf
  rw [hf] at hk
  dsimp only at hk
  obtain ⟨r, H', hS, -, rfl, -⟩ := h
  obtain ⟨ids, bs, bs', args', hH, h3, h6, hO, hrc, rfl⟩ := hS.h
  obtain ⟨cs, qs, -, -, -, -, -, -, hp⟩ := hH.h
  refine setL_other ids bs' s.H k fun hm => ?_
  have h1 := List.all_eq_true.1 hp k hm
  obtain ⟨p, hpm, hpp⟩ := List.any_eq_true.1 h1
  have h2 := List.all_eq_true.1 hk p hpm
  rw [hpp] at h2
  cases h2
 ·exact h.elim
theorem setL_mem : ∀ (ids : List Nat) (bs H : List (List PV)) (cs : List PV), cs ∈ setL H ids bs → cs ∈ H ∨ cs ∈ bs
 | [], _, _, _, h => by unfold setL at h; exact .inl h
 | _ :: _, [], _, _, h => by unfold setL at h; exact .inl h
 | i :: ids, b :: bs, H, cs, h => by
  unfold setL at h
  rcases setL_mem ids bs _ cs h with h | h
  ·rcases List.mem_or_eq_of_mem_set h with h | rfl
   ·exact .inl h
   ·exact .inr (by simp)
  ·exact .inr (by simp [h])
theorem ER_wf {E : Env} {all : Array Oper} {o : Oper} {s : St} {u : PV} {H : List (List PV)} {T : List (Nat × Nat)} (hw : WF s) (hc : clsOf E.pt o.op = .eff) (h : ER E all o s u H T) : WF ⟨upd s.sl o.dst u, H, T⟩ := by
 rcases h with ⟨-, rfl, rfl, rfl⟩ | ⟨-, h⟩
 ·exact wf_upd hw (Nat.le_refl _) hw.H rfl
 ·generalize o.op = op at hc h
  rw [wpOp_def] at h
  rw [hc] at h
  dsimp only at h
  split at h
  ·split at h
   ·rename_i x y H' hst
    obtain ⟨rfl, rfl, rfl⟩ := h
    unfold storeF at hst
    split at hst
    ·rename_i ti i off us hti hp hq
     split at hst
     ·rename_i cs hcs
      split at hst
      ·rename_i hle
       injection hst with hst; subst hst
       refine wf_upd hw (by simp) (fun ds hds p hp => ?_) rfl
       rw [List.length_set]
       rcases List.mem_or_eq_of_mem_set hds with h' | rfl
       ·exact hw.H ds h' p hp
       ·unfold splice at hp
        rcases List.mem_append.1 hp with hp | hp
        ·rcases List.mem_append.1 hp with hp | hp
         ·exact hw.H cs (List.mem_of_getElem? hcs) p (List.mem_of_mem_take hp)
         ·exact cells_PLt (ev_PLt hw _) hq p hp
        ·exact hw.H cs (List.mem_of_getElem? hcs) p (List.mem_of_mem_drop hp)
      ·cases hst
     ·cases hst
    ·cases hst
   ·exact h.elim
  ·exact h.elim
  ·split at h
   ·split at h
    ·split at h
     ·obtain ⟨z, T', hA, rfl, rfl, rfl⟩ := h
      obtain ⟨e, sz, bb, zz, ei, xs, ys, k, h1, h2, h3, h4, h5, h6, h7, h8, h9, rfl, h10⟩ := hA.h
      exact wf_upd hw (Nat.le_refl _) hw.H trivial
     ·exact h.elim
    ·exact h.elim
   ·split at h
    ·obtain ⟨r, H', hS, rfl, rfl, rfl⟩ := h
     obtain ⟨ids, bs, bs', args', hH, h3, h6, hO, hrc, rfl⟩ := hS.h
     refine wf_upd hw (by rw [setL_length]; exact Nat.le_refl _) (fun cs hcs p hp => ?_) (closed_PLt hrc)
     rw [setL_length]
     rcases setL_mem _ _ _ _ hcs with h' | h'
     ·exact hw.H cs h' p hp
     ·exact closedB_PLt (List.all_eq_true.1 (List.all_eq_true.1 h6 cs h') p hp)
    ·exact h.elim
   ·exact h.elim
  ·exact h.elim
theorem step_wf' {E : Env} {all : Array Oper} {x : Oper} {s : St} {K : St → Prop} (hw : WF s) (h : step E none all x s K) : step E none all x s fun s' => WF s' ∧ K s' := by
 by_cases hc : clsOf E.pt x.op = .eff
 ·obtain ⟨u, H, T, h1, h2⟩ := step_ER.1 h
  exact step_ER.2 ⟨u, H, T, h1, ER_wf hw hc h1, h2⟩
 ·exact step_wf hw hc h
theorem VR0_H {E : Env} {sl : Nat → PV} {H H' : List (List PV)} {op : Op} {v : PV} (hl : isLoad op = false ∨ H' = H ∨ ∃ t, loadT op = some t ∧ ∀ k off, sl t = .ptr k off → H'[k]? = H[k]?) (h : VR0 E sl H op v) : VR0 E sl H' op v := by
 rcases hl with hl | rfl | ⟨t, ht, hk⟩
 ·cases op <;> first | exact h | (simp [isLoad] at hl; done) | skip
  ·rename_i hi mx; cases mx <;> cases hi <;> exact h
  ·rename_i b; cases b <;> exact h
  ·rename_i b; cases b <;> exact h
 ·exact h
 ·cases op <;> simp [loadT] at ht
  rename_i ty x
  cases x <;> simp at ht
  have ht := ht.symm
  subst ht
  simp only [VR0, opF, ev] at h ⊢
  split at h
  ·unfold loadF at h ⊢
   cases hs : sl t <;> rw [hs] at h <;> try exact h
   rename_i k off
   dsimp only at h ⊢
   rw [hk k off hs]
   exact h
  ·cases h
theorem swap_eff {E : Env} {all : Array Oper} {x y : Oper} {s : St} {K : St → Prop} (hap : Oper.apart all x y = true) (hx : clsOf E.pt x.op = .val) (hy : clsOf E.pt y.op = .eff)
  (hH : ∀ u H T, ER E all y s u H T → isLoad x.op = false ∨ H = s.H ∨ ∃ t, loadT x.op = some t ∧ ∀ k off, s.sl t = .ptr k off → H[k]? = s.H[k]?) (h : step E none all x s fun s => step E none all y s K) : step E none all y s fun s => step E none all x s K := by
 obtain ⟨a1, a2, a3⟩ := Oper.apart_spec hap
 obtain ⟨v, add, hv, h⟩ := (step_SR (by rw [hx]; simp)).1 h
 have hadd : add = [] := by
  rcases hv with ⟨-, -, rfl⟩ | ⟨-, -, -, rfl⟩ | ⟨-, k, -⟩
  ·rfl
  ·rfl
  ·rw [hx] at k; cases k
 subst hadd
 obtain ⟨u, H, T, hu, h⟩ := step_ER.1 h
 have hu' : ER E all y s u H T := by
  simp only [ER, gd_upd (all := all) (o := y) (f := s.sl) (v := v) a1, List.append_nil] at hu
  rcases hu with ⟨g, r⟩ | ⟨g, r⟩
  ·exact .inl ⟨g, r⟩
  ·exact .inr ⟨g, eff_agree (agree_upd (all := all) (o := y) a1) hy r⟩
 refine step_ER.2 ⟨u, H, T, hu', (step_SR (by rw [hx]; simp)).2 ⟨v, [], ?_, ?_⟩⟩
 ·simp only [SR, gd_upd (all := all) (o := x) (f := s.sl) (v := u) a3]
  rcases hv with ⟨g, rfl, -⟩ | ⟨g, k, r, -⟩ | ⟨-, k, -⟩
  ·exact .inl ⟨g, rfl, trivial⟩
  ·refine .inr (.inl ⟨g, k, ?_, trivial⟩)
   rw [VR0_agree (agree_upd (all := all) (o := x) a3)]
   exact VR0_H (hH u H T hu') r
  ·rw [hx] at k; cases k
 ·have e1 : upd (upd s.sl y.dst u) x.dst v = upd (upd s.sl x.dst v) y.dst u := (upd_comm (fun t ht => a2 t ht)).symm
  simp only [List.append_nil] at h ⊢
  rw [e1]
  exact h
theorem swap_val {E : Env} {all : Array Oper} {x y : Oper} {s : St} {K : St → Prop} (hap : Oper.apart all x y = true) (hx : clsOf E.pt x.op = .eff) (hy : clsOf E.pt y.op = .val) (hH : isLoad y.op = false ∨ isApp x.op = true)
  (h : step E none all x s fun s => step E none all y s K) : step E none all y s fun s => step E none all x s K := by
 obtain ⟨a1, a2, a3⟩ := Oper.apart_spec hap
 obtain ⟨u, H, T, hu, h⟩ := step_ER.1 h
 obtain ⟨v, add, hv, h⟩ := (step_SR (by rw [hy]; simp)).1 h
 have hadd : add = [] := by
  rcases hv with ⟨-, -, rfl⟩ | ⟨-, -, -, rfl⟩ | ⟨-, k, -⟩
  ·rfl
  ·rfl
  ·rw [hy] at k; cases k
 subst hadd
 refine (step_SR (by rw [hy]; simp)).2 ⟨v, [], ?_, step_ER.2 ⟨u, H, T, ?_, ?_⟩⟩
 ·simp only [SR, gd_upd (all := all) (o := y) (f := s.sl) (v := u) a1] at hv
  rcases hv with ⟨g, rfl, -⟩ | ⟨g, k, r, -⟩ | ⟨-, k, -⟩
  ·exact .inl ⟨g, rfl, rfl⟩
  ·refine .inr (.inl ⟨g, k, ?_, rfl⟩)
   rw [VR0_agree (agree_upd (all := all) (o := y) a1)] at r
   refine VR0_H ?_ r
   rcases hH with hH | hH
   ·exact .inl hH
   ·refine .inr (.inl ?_)
    rcases hu with ⟨-, -, rfl, -⟩ | ⟨-, hu⟩
    ·rfl
    ·exact (app_H hH hu).symm
  ·rw [hy] at k; cases k
 ·simp only [ER, gd_upd (all := all) (o := x) (f := s.sl) (v := v) a3, List.append_nil]
  rcases hu with ⟨g, r⟩ | ⟨g, r⟩
  ·exact .inl ⟨g, r⟩
  ·refine .inr ⟨g, eff_agree (fun z hz => ((agree_upd (all := all) (o := x) (f := s.sl) (v := v) a3) z hz).symm) hx r⟩
 ·have e1 : upd (upd s.sl y.dst v) x.dst u = upd (upd s.sl x.dst u) y.dst v := (upd_comm (fun t ht => a2 t ht)).symm
  simp only [List.append_nil] at h ⊢
  rw [e1]
  exact h
theorem sepB_triv {pt : Fl} {all : Array Oper} {sl : Nat → PV} {o : Oper} (h : clsOf pt o.op ≠ .eff) : sepB pt all sl o = true := by
 unfold sepB
 split
 ·rename_i h'; exact absurd h' h
 ·rfl
theorem sepB_iff {pt : Fl} {all : Array Oper} {sl : Nat → PV} {o : Oper} (h : clsOf pt o.op = .eff) : sepB pt all sl o = true ↔ ∀ t ∈ freeL all o, sepT sl (handsOf sl o.op) t = true := by
 unfold sepB
 rw [h]
 dsimp only
 split
 ·rename_i h0; rw [h0]; simp
 ·rw [List.all_eq_true]
theorem psOf_eq {sl sl' : Nat → PV} {x : Operand} {l : List Operand} (hx : ev sl x = ev sl' x) (hl : ∀ y ∈ l, ev sl y = ev sl' y) : psOf sl x l = psOf sl' x l := by
 unfold psOf
 rw [hx, ev_list hl]
theorem hands_eq {sl sl' : Nat → PV} {op : Op} (h : ∀ z ∈ op.operands, ev sl z = ev sl' z) : handsOf sl op = handsOf sl' op := by
 cases op <;> try rfl
 case store t a x => simp only [handsOf]; rw [h a (by simp [Op.operands])]
 case call c =>
  simp only [handsOf]
  split
  ·rename_i x hx
   exact psOf_eq (h x (by simp [Op.operands, Call.operands, hx])) (fun z hz => h z (by simp [Op.operands, Call.operands]; exact .inr (by simpa using hz)))
  ·rfl
theorem sepB_upd {pt : Fl} {all : Array Oper} {sl : Nat → PV} {o : Oper} {d : Option Nat} {v : PV} (ha : ∀ t, d = some t → t ∉ o.looksAt all) (hf : ∀ t ∈ freeL all o, d ≠ some t) (h : sepB pt all sl o = true) : sepB pt all (upd sl d v) o = true := by
 by_cases hc : clsOf pt o.op = .eff
 ·rw [sepB_iff hc] at h ⊢
  intro t ht
  have := h t ht
  rw [hands_eq (fun z hz => agree_upd (all := all) (o := o) (f := sl) (v := v) ha z hz)]
  unfold sepT at this ⊢
  rw [upd_other (hf t ht)]
  exact this
 ·exact sepB_triv hc
theorem sep_back {E : Env} {all : Array Oper} {y : Oper} {rest : List Oper} {K : St → Prop} {t : Nat} (hye : clsOf E.pt y.op = .eff) (ht : t ∈ freeL all y) :
  ∀ (l : List Oper) (s : St), (∀ x ∈ l, Oper.apart all x y = true ∧ x.dst ≠ some t) → wpL E none all (l ++ y :: rest) K s → sepT s.sl (handsOf s.sl y.op) t = true
 | [], s, _, h => (sepB_iff hye).1 (wpL_cons.1 h).1 t ht
 | x :: l, s, hl, h => by
  obtain ⟨s1, h1, h2⟩ := step_ex (wpL_cons.1 h).2
  have := sep_back hye ht l s1 (fun z hz => hl z (by simp [hz])) h1
  obtain ⟨a1, a2, a3⟩ := Oper.apart_spec (hl x (by simp)).1
  have eo : ∀ z ∈ y.op.operands, ev s1.sl z = ev s.sl z := by
   intro z hz
   cases z with
   | tmp u =>
    refine h2 u fun e => a1 u e ?_
    exact List.mem_append_left _ (List.mem_filterMap.2 ⟨.tmp u, by simpa using hz, rfl⟩)
   | _ => rfl
  rw [hands_eq eo] at this
  unfold sepT at this ⊢
  rw [h2 t (hl x (by simp)).2] at this
  exact this
theorem bubble {E : Env} {all : Array Oper} {i : Nat} {rest : List Oper} {K : St → Prop} (hi : i < all.size) : ∀ (l : List Nat) (s : St), WF s → l.Pairwise (· < ·) → (∀ j ∈ l, j < i ∧ Oper.apart all (all.getD j default) (all.getD i default) = true ∧ compat E.pt all j i = true) →
  wpL E none all ((l.map fun j => all.getD j default) ++ all.getD i default :: rest) K s → step E none all (all.getD i default) s (wpL E none all ((l.map fun j => all.getD j default) ++ rest) K)
 | [], s, _, _, _, h => (wpL_cons.1 h).2
 | j :: l, s, hw, hp, hl, h => by
  obtain ⟨hji, hap, hc⟩ := hl j (by simp)
  obtain ⟨hlt, hp'⟩ := List.pairwise_cons.1 hp
  obtain ⟨a1, a2, a3⟩ := Oper.apart_spec hap
  obtain ⟨hsx, hx⟩ := wpL_cons.1 h
  have ih : ∀ s', WF s' → wpL E none all ((l.map fun j => all.getD j default) ++ all.getD i default :: rest) K s' → step E none all (all.getD i default) s' (wpL E none all ((l.map fun j => all.getD j default) ++ rest) K) :=
   fun s' hw' h' => bubble hi l s' hw' hp' (fun k hk => hl k (by simp [hk])) h'
  have h2 : step E none all (all.getD j default) s fun s' => step E none all (all.getD i default) s' (wpL E none all ((l.map fun j => all.getD j default) ++ rest) K) := step_mono (step_wf' hw hx) fun s' ⟨hw', h⟩ => ih s' hw' h
  have triv : clsOf E.pt (all.getD j default).op ≠ .eff → step E none all (all.getD i default) s (fun s' => step E none all (all.getD j default) s' (wpL E none all ((l.map fun j => all.getD j default) ++ rest) K)) → step E none all (all.getD i default) s (wpL E none all (((j :: l).map fun j => all.getD j default) ++ rest) K) :=
   fun hne h => step_mono h fun s' h => wpL_cons.2 ⟨sepB_triv hne, h⟩
  unfold compat at hc
  cases hcx : clsOf E.pt (all.getD j default).op <;> cases hcy : clsOf E.pt (all.getD i default).op <;> rw [hcx, hcy] at hc <;> dsimp only at hc
  case eff.val =>
   rw [Bool.and_eq_true] at hc
   have hH : isLoad (all.getD i default).op = false ∨ isApp (all.getD j default).op = true := by
    have := hc.2
    rw [Bool.or_eq_true, Bool.not_eq_true'] at this
    exact this
   have h3 := swap_val hap hcx hcy hH h2
   obtain ⟨u, H, T, h4, h5⟩ := step_ER.1 h3
   refine step_ER.2 ⟨u, H, T, h4, wpL_cons.2 ⟨?_, h5⟩⟩
   refine sepB_upd a3 (fun t ht => ?_) hsx
   simpa using List.all_eq_true.1 hc.1 t ht
  case val.eff =>
   refine triv (by rw [hcx]; simp) ?_
   cases hld : isLoad (all.getD j default).op with
   | false => exact swap_eff hap hcx hcy (fun _ _ _ _ => .inl hld) h2
   | true =>
    rw [hld] at hc
    dsimp only at hc
    rw [Bool.or_eq_true] at hc
    rcases hc with hc | hc
    ·refine swap_eff hap hcx hcy (fun u H T he => .inr (.inl ?_)) h2
     rcases he with ⟨-, -, rfl, -⟩ | ⟨-, he⟩
     ·rfl
     ·exact app_H hc he
    ·split at hc
     ·rename_i t ht
      simp only [Bool.and_eq_true] at hc
      obtain ⟨⟨hv, hf⟩, hr⟩ := hc
      obtain ⟨t', ht', hb⟩ := List.any_eq_true.1 hf
      have hb := Nat.eq_of_beq_eq_true hb
      subst hb
      have hwr : ∀ k, j ≤ k → k < i → (all.getD k default).dst ≠ some t' := by
       intro k h1 h2
       have := List.all_eq_true.1 hr k (List.mem_range.2 (by omega))
       simp only [Bool.or_eq_true, bne_iff_ne, ne_eq] at this
       rcases this with (h | h) | h
       ·have := Nat.blt_eq.mp h; omega
       ·have := Nat.ble_eq.mp h; omega
       ·exact h
      have hQ : sepT s.sl (handsOf s.sl (all.getD i default).op) t' = true := by
       refine sep_back (E := E) (K := K) (rest := rest) hcy ht' ((j :: l).map fun j => all.getD j default) s (fun z hz => ?_) h
       obtain ⟨k, hk, rfl⟩ := List.mem_map.1 hz
       refine ⟨(hl k hk).2.1, hwr k ?_ (hl k hk).1⟩
       rcases List.mem_cons.1 hk with rfl | hk
       ·exact Nat.le_refl _
       ·exact Nat.le_of_lt (hlt k hk)
      refine swap_eff hap hcx hcy (fun u H T he => .inr (.inr ⟨t', ht, fun k off hk => ?_⟩)) h2
      rcases he with ⟨-, -, rfl, -⟩ | ⟨-, he⟩
      ·rfl
      ·refine eff_H hv hcy he k ?_
       unfold sepT at hQ
       rw [hk] at hQ
       exact hQ
     ·cases hc
  case val.val => exact triv (by rw [hcx]; simp) (swap hw hap hc h2)
  case val.alloc => exact triv (by rw [hcx]; simp) (swap hw hap hc h2)
  case alloc.val => exact triv (by rw [hcx]; simp) (swap hw hap hc h2)
  case alloc.alloc => exact triv (by rw [hcx]; simp) (swap hw hap hc h2)
  all_goals cases hc
end Go.Proofs.YtgpkppohfodhdaaGreatDoor.Pm
