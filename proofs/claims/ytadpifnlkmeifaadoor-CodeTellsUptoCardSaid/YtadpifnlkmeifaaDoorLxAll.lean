/- Texts that are merged: LxA. -/
import Derived.Test.YtadpifnlkmeifaaDoorPmBll
import Derived.Test.YtadpifnlkmeifaaDoorPlDec
/- Layers 2 and 6 in the pure machine: words for use, what the law's own numbers come to, layer 2 as the document has it. -/
namespace Go.Proofs.YtadpifnlkmeifaaDoor.Lx
open Go Go.RowKit Go.Proofs.YtadpifnlkmeifaaDoor.Pm Go.Proofs.YtadpifnlkmeifaaDoor.Pl
set_option linter.unusedVariables false
set_option maxHeartbeats 1000000
abbrev pI (n : Int) : PV := .c (.int .i64 n)
abbrev pB (b : Bool) : PV := .c (.bool b)
abbrev pS (s : ByteArray) : PV := .c (.str s)
/-- a row of numbers -/
def encN (l : List Int) : List (List CV) := l.map fun n => [.int .i64 n]
def pk (c n : Int) : Int := if c < 0 then (-(c + 1)).tmod n else c.tmod n
theorem pk_rng {c n : Int} (hn : 0 < n) : 0 ≤ pk c n ∧ pk c n < n := by
  unfold pk
  split
  · rw [Int.tmod_eq_emod_of_nonneg (by omega)]
    exact ⟨Int.emod_nonneg _ (by omega), Int.emod_lt_of_pos _ hn⟩
  · rw [Int.tmod_eq_emod_of_nonneg (by omega)]
    exact ⟨Int.emod_nonneg _ (by omega), Int.emod_lt_of_pos _ hn⟩
theorem pick_ok (c n : Int) (hc : I64 c) (hn : 0 < n) : Ok E 62 [] [pI c, pI n] (pI (pk c n)) [] := by
  obtain ⟨h0, h1⟩ := hc
  refine Ok.enter hE Tryd.func62 rfl (by decide +kernel) (by kernel_rfl) rfl rfl (Nat.le_of_ble_eq_true rfl) rfl ?_
  by_cases hneg : c < 0
  · refine ⟨_, ltT hneg, ?_⟩
    refine ⟨_, addV rfl (by omega) (by omega), ?_⟩
    refine ⟨_, negV rfl (by omega) (by omega), ?_⟩
    refine ⟨_, remV (by omega) rfl, ?_⟩
    exact Ret.mk _ rfl (by show PV.c _ = _; rw [pk, if_pos hneg]) rfl
  · refine ⟨_, ltN hneg, ?_⟩
    refine ⟨_, remV (by omega) rfl, ?_⟩
    exact Ret.mk _ rfl (by show PV.c _ = _; rw [pk, if_neg hneg]) rfl
theorem _root_.Go.Proofs.YtadpifnlkmeifaaDoor.Pm.Mem.below {E : Env} (hE : EnvOK E) {w w' : World} {ok : Nat → Nat → Prop} (M : Mem E ⟨w, ok, [], []⟩ [] [] [] ok w) (hb : Below w.heap.size w w') : Mem E ⟨w, ok, [], []⟩ [] [] [] ok w' where
  inv := hE.stable w w' M.inv hb.size fun b h => hb.block b (Nat.lt_of_lt_of_le h (hE.glob w M.inv))
  os := hb.os
  tape := hb.tape
  output := hb.output
  size := hb.size
  frame := fun k hk _ _ => hb.block k hk
  okb := M.okb
  oks := fun b o h => Nat.lt_of_lt_of_le (M.oks b o h) hb.size
  len := rfl
  box := fun i b h => by simp at h
  inj := fun i j b h => by simp at h
  tok := fun t r h => by simp at h
  tinj := fun t u r s g h => by simp at h
  gb := M.gb
  tsz := fun t r i h => by simp at h
  stk := .nil
theorem _root_.Go.Proofs.YtadpifnlkmeifaaDoor.Pm.Ok.ofBelow {E : Env} (hE : EnvOK E) {f : FuncId} {args : List PV} {r : PV} (hc : Callable E.P f) (h : ∀ (w : World) (ok : Nat → Nat → Prop) (vals : Array Value), E.I w → RepL (Rep w ok [] []) vals.toList args → ∃ v : Value, (∀ w', Rep w' ok [] [] v r) ∧ Calls E.P f vals w fun e w' => e = .returned v ∧ Below w.heap.size w w') : Ok E f [] args r [] := by
  refine ⟨hc, fun w ok ms gs vals hst M hr => ?_⟩
  have hm : ms = [] := by have := M.len; simpa using this
  subst hm
  obtain rfl : gs = [] := hst rfl
  obtain ⟨v, hv, hcall⟩ := h w ok vals M.inv hr
  refine hcall.mono ?_
  rintro e w' ⟨rfl, hb⟩
  exact ⟨v, ok, rfl, M.below hE hb, fun _ _ h => h, hv w'⟩
theorem ba_get (s : ByteArray) (j : Nat) : s[j]? = s.data.toList[j]? := by
  by_cases h : j < s.size
  · have h' : j < s.data.toList.length := by simpa using h
    rw [getElem?_pos s j h, List.getElem?_eq_getElem h']
    rfl
  · rw [getElem?_neg s j h, List.getElem?_eq_none (by simpa using h)]
theorem idxSV {E : Env} {t sz bb : Nat} {zz : List CV} {s : ByteArray} {n : Int} {k : IntKind} (j : Nat) (b : UInt8) (h1 : E.T t = some ⟨.str, sz, zz, bb⟩) (hn : n = (j : Int)) (hb : s.data.toList[j]? = some b) : IdxR E t (pS s) (.c (.int k n)) (.c (.int .u8 b.toNat)) where
  h := by
    subst hn
    unfold indexF
    rw [h1]
    show byteAtF _ _ = _
    unfold byteAtF
    rw [decide_eq_true (Int.natCast_nonneg j)]
    show (match s[(j : Int).toNat]? with
      | some b => some (PV.c (.int .u8 b.toNat))
      | none => none) = _
    rw [Int.toNat_natCast, ba_get, hb]
theorem toList_data (s : ByteArray) : s.toList = s.data.toList := Lib.toList_data s
theorem neBT {E : Env} {c d : Bool} {t sz bb : Nat} {zz : List CV} (h : (!(c == d)) = true) (hT : E.T t = some ⟨.bool, sz, zz, bb⟩ := by rfl) : BinR E t .neq (pB c) (pB d) (pB true) := .of (by
  rw [hT]; cases c <;> cases d <;> simp at h <;> rfl)
theorem neBN {E : Env} {c d : Bool} {t sz bb : Nat} {zz : List CV} (h : (c == d) = true) (hT : E.T t = some ⟨.bool, sz, zz, bb⟩ := by rfl) : BinR E t .neq (pB c) (pB d) (pB false) := .of (by
  rw [hT]; cases c <;> cases d <;> simp at h <;> rfl)
theorem eqBT {E : Env} {c d : Bool} {t sz bb : Nat} {zz : List CV} (h : (c == d) = true) (hT : E.T t = some ⟨.bool, sz, zz, bb⟩ := by rfl) : BinR E t .eql (pB c) (pB d) (pB true) := .of (by
  rw [hT]; cases c <;> cases d <;> simp at h <;> rfl)
theorem catB {E : Env} {a b : List UInt8} {ti : Nat} (hb : a.length + b.length ≤ 9223372036854775807) : BinR E ti .add (.c (.str (B a))) (.c (.str (B b))) (.c (.str (B (a ++ b)))) := catV (B_append _ _) (by rw [B_size, B_size]; exact hb)
theorem catL {E : Env} {ti : Nat} {x y : ByteArray} {s : ByteArray} (h : s = B (x.data.toList ++ y.data.toList)) (hb : x.size + y.size ≤ 9223372036854775807) : BinR E ti .add (.c (.str x)) (.c (.str y)) (.c (.str s)) := catV (by
  rw [h, ← B_append, B_toList', B_toList']) hb
theorem drop_cons {α : Type} {l : List α} {j : Nat} {y : α} (hy : l[j]? = some y) : l.drop j = y :: l.drop (j + 1) := by
  have hjl := (List.getElem?_eq_some_iff.1 hy).1
  rw [List.drop_eq_getElem_cons hjl]
  congr 1
  rw [List.getElem?_eq_getElem hjl] at hy
  exact Option.some.inj hy
/-! ### layer 2 -/
theorem digs_len (n : Nat) : (digs n).length ≤ 20 := by
  have hp : ∀ (f k : Nat), (digF f k).length ≤ f := by
    intro f
    induction f with
    | zero => intro k; simp [digF]
    | succ f ih =>
      intro k
      rw [digF]
      split
      · simp
      · have := ih (k / 10); simp; omega
  exact hp 20 n
theorem rdigits_ok (n : Nat) (hn : n ≤ 9223372036854775807) : Ok E 51 [] [pI n] (pS (B (digs n))) [] := by
  have hd := digs_rec n (by omega)
  have IH : ¬ n < 10 → Ok E 51 [] [pI (n / 10 : Nat)] (pS (B (digs (n / 10)))) [] := fun h => rdigits_ok (n / 10) (by omega)
  have hl := digs_len (n / 10)
  have e1 : ((n : Int)).tmod 10 = ((n % 10 : Nat) : Int) := by rw [Int.tmod_eq_emod_of_nonneg (by omega)]; omega
  have e2 : ((n : Int)).tdiv 10 = ((n / 10 : Nat) : Int) := by rw [Int.tdiv_eq_ediv_of_nonneg (by omega)]; omega
  have e3 : UInt8.ofNat (48 + ((n % 10 : Nat) : Int)).toNat = dig n := by
    unfold dig
    congr 1
  refine Ok.enter hE Tryd.func51 rfl (by decide +kernel) (by kernel_rfl) rfl rfl (Nat.le_of_ble_eq_true rfl) rfl ?_
  refine ⟨_, remV (by omega) e1, ?_⟩
  refine ⟨_, addV rfl (by omega) (by omega), ?_⟩
  refine ⟨_, convV (z := 48 + ((n % 10 : Nat) : Int)) rfl rfl (by simp [IntKind.wrap, IntKind.bits, IntKind.signed]; omega), ?_⟩
  refine ⟨_, ⟨_, rfl, rfl⟩, ?_⟩
  refine ⟨_, convBV (l := [dig n]) rfl rfl rfl (by
    show bytesF [[CV.int .u8 (48 + ((n % 10 : Nat) : Int))]] = _
    rw [bytesF, decide_eq_true (by omega)]
    show some [UInt8.ofNat (48 + ((n % 10 : Nat) : Int)).toNat] = _
    rw [e3]), ?_⟩
  by_cases h : n < 10
  · refine ⟨_, geN (by omega), ?_⟩
    rw [if_pos h] at hd
    exact Ret.mk _ rfl (by show PV.c (.str (B [dig n])) = _; rw [hd]) rfl
  · rw [if_neg h] at hd
    refine ⟨_, geT (by omega), ?_⟩
    refine ⟨_, quoV (by omega) e2 (by omega) (by omega), ?_⟩
    refine ⟨_, CallR.mk1 (IH h) rfl rfl, ?_⟩
    refine ⟨_, catV (s := B (digs n)) (by rw [hd]; exact B_append _ _) (by rw [B_size]; show _ + 1 ≤ _; omega), ?_⟩
    exact Ret.mk _ rfl rfl rfl
termination_by n
decreasing_by omega
theorem rText_ok (n : Int) (h0 : 0 ≤ n) (h1 : n ≤ 1000000000000) : Ok E 67 [] [pI n] (pS (B (textL n))) [] := by
  obtain ⟨m, rfl⟩ : ∃ m : Nat, n = m := ⟨n.toNat, by omega⟩
  have hd1 := rdigits_ok (m / 100) (by omega)
  have hd2 := rdigits_ok (m / 10 % 10) (by omega)
  have hd3 := rdigits_ok (m % 10) (by omega)
  have q1 : digs (m / 10 % 10) = [dig (m / 10)] := by rw [digs_one (by omega)]; unfold dig; congr 2; omega
  have q2 : digs (m % 10) = [dig m] := by rw [digs_one (by omega)]; unfold dig; congr 2; omega
  rw [q1] at hd2
  rw [q2] at hd3
  have ht : textL (m : Int) = digs (m / 100) ++ [46, dig (m / 10), dig m] := by
    rw [textL_ok ⟨by omega, h1⟩, if_neg (by omega)]; rfl
  rw [ht]
  have hl := digs_len (m / 100)
  have e1 : ((m : Int)).tdiv 100 = ((m / 100 : Nat) : Int) := by rw [Int.tdiv_eq_ediv_of_nonneg (by omega)]; omega
  have e2 : ((m : Int)).tdiv 10 = ((m / 10 : Nat) : Int) := by rw [Int.tdiv_eq_ediv_of_nonneg (by omega)]; omega
  have e3 : (((m / 10 : Nat) : Int)).tmod 10 = ((m / 10 % 10 : Nat) : Int) := by rw [Int.tmod_eq_emod_of_nonneg (by omega)]; omega
  have e4 : ((m : Int)).tmod 10 = ((m % 10 : Nat) : Int) := by rw [Int.tmod_eq_emod_of_nonneg (by omega)]; omega
  refine Ok.enter hE Tryd.func67 rfl (by decide +kernel) (by kernel_rfl) rfl rfl (Nat.le_of_ble_eq_true rfl) rfl ?_
  refine ⟨_, ltN (by omega), ?_⟩
  refine ⟨_, gtN (by omega), ?_⟩
  refine ⟨_, ltN (by omega), ?_⟩
  refine ⟨_, quoV (by omega) e1 (by omega) (by omega), ?_⟩
  refine ⟨_, CallR.mk1 hd1 rfl rfl, ?_⟩
  refine ⟨_, catV (s := B (digs (m / 100) ++ [46])) (B_append _ _) (by rw [B_size]; show _ + 1 ≤ _; omega), ?_⟩
  refine ⟨_, quoV (by omega) e2 (by omega) (by omega), ?_⟩
  refine ⟨_, remV (by omega) e3, ?_⟩
  refine ⟨_, CallR.mk1 hd2 rfl rfl, ?_⟩
  refine ⟨_, catV (s := B (digs (m / 100) ++ [46, dig (m / 10)])) (by rw [B_append, List.append_assoc]; rfl) (by rw [B_size, B_size]; simp; omega), ?_⟩
  refine ⟨_, remV (by omega) e4, ?_⟩
  refine ⟨_, CallR.mk1 hd3 rfl rfl, ?_⟩
  refine ⟨_, catV (s := B (digs (m / 100) ++ [46, dig (m / 10), dig m])) (by rw [B_append, List.append_assoc]; rfl) (by rw [B_size, B_size]; simp; omega), ?_⟩
  exact Ret.mk _ rfl rfl rfl
theorem decimal_ok (n : Nat) (hn : n ≤ 9223372036854775807) : Ok E 63 [] [pI n] (pS (B (digs n))) [] := by
  have hd := digs_rec n (by omega)
  have IH : ¬ n < 10 → Ok E 63 [] [pI (n / 10 : Nat)] (pS (B (digs (n / 10)))) [] := fun h => decimal_ok (n / 10) (by omega)
  have hl := digs_len (n / 10)
  have e1 : ((n : Int)).tmod 10 = ((n % 10 : Nat) : Int) := by rw [Int.tmod_eq_emod_of_nonneg (by omega)]; omega
  have e2 : ((n : Int)).tdiv 10 = ((n / 10 : Nat) : Int) := by rw [Int.tdiv_eq_ediv_of_nonneg (by omega)]; omega
  have e3 : UInt8.ofNat (48 + ((n % 10 : Nat) : Int)).toNat = dig n := by
    unfold dig
    congr 1
  refine Ok.enter hE Tryd.func63 rfl (by decide +kernel) (by kernel_rfl) rfl rfl (Nat.le_of_ble_eq_true rfl) rfl ?_
  refine ⟨_, remV (by omega) e1, ?_⟩
  refine ⟨_, addV rfl (by omega) (by omega), ?_⟩
  refine ⟨_, convV (z := 48 + ((n % 10 : Nat) : Int)) rfl rfl (by simp [IntKind.wrap, IntKind.bits, IntKind.signed]; omega), ?_⟩
  refine ⟨_, ⟨_, rfl, rfl⟩, ?_⟩
  refine ⟨_, convBV (l := [dig n]) rfl rfl rfl (by
    show bytesF [[CV.int .u8 (48 + ((n % 10 : Nat) : Int))]] = _
    rw [bytesF, decide_eq_true (by omega)]
    show some [UInt8.ofNat (48 + ((n % 10 : Nat) : Int)).toNat] = _
    rw [e3]), ?_⟩
  by_cases h : n < 10
  · refine ⟨_, geN (by omega), ?_⟩
    rw [if_pos h] at hd
    exact Ret.mk _ rfl (by show PV.c (.str (B [dig n])) = _; rw [hd]) rfl
  · rw [if_neg h] at hd
    refine ⟨_, geT (by omega), ?_⟩
    refine ⟨_, quoV (by omega) e2 (by omega) (by omega), ?_⟩
    refine ⟨_, CallR.mk1 (IH h) rfl rfl, ?_⟩
    refine ⟨_, catV (s := B (digs n)) (by rw [hd]; exact B_append _ _) (by rw [B_size]; show _ + 1 ≤ _; omega), ?_⟩
    exact Ret.mk _ rfl rfl rfl
termination_by n
decreasing_by omega
end Go.Proofs.YtadpifnlkmeifaaDoor.Lx
