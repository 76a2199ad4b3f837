/- Library functions, and functions that range over texts: contracts, by hand. -/
import Derived.Test.YtjnbhdbpajnlgaaDoorWMore
import Derived.Test.YtjnbhdbpajnlgaaDoorWLast
import Derived.Test.YtjnbhdbpajnlgaaDoorWWords
import Derived.Test.YtjnbhdbpajnlgaaDoorShelf
import Derived.Test.YtjnbhdbpajnlgaaDoorShelf2
import Derived.Test.YtjnbhdbpajnlgaaDoorPlDec
import Derived.WalkSmall
import Derived.Lib.LaidTab
import Derived.Laws.RangeAny
import Derived.Laws.RangeString
import Derived.Lib.AppendIntMem
import Derived.Lib.AtoiErrMem
namespace Go.Proofs.YtjnbhdbpajnlgaaDoor.L
open Go.RowKit Go.Proofs.YtjnbhdbpajnlgaaDoorW.PrintWords Go.Proofs.YtjnbhdbpajnlgaaDoorW.PrintLast Go.Proofs.YtjnbhdbpajnlgaaDoorW.PrintMore
set_option linter.unusedVariables false
set_option linter.unusedSimpArgs false
attribute [local go_sem] max2_int min2_int max_two min_two max_three min_three max_four min_four

/-- What the library's variables hold, and that they are old. -/
structure LaidW (w : World) : Prop where
  tab : Lib.TabIs Tryd.prog w "internal/strconv.uint64pow10" .u64 Lib.pow10Tab
  synt : ∃ tp p, w.var? Tryd.prog "strconv.ErrSyntax" = some #[.iface tp p]
  rang : ∃ tp p, w.var? Tryd.prog "strconv.ErrRange" = some #[.iface tp p]

theorem var_old {w w' : World} {n : String} {cs : Array Value} (hb : Below w.heap.size w w') (hv : w.var? Tryd.prog n = some cs) : w'.var? Tryd.prog n = some cs := by
  unfold World.var? at hv ⊢
  rcases hg : Tryd.prog.globalNamed n with _ | g
  · rw [hg] at hv
    simp at hv
  · rw [hg] at hv
    simp only [Option.bind_some] at hv ⊢
    rcases Nat.lt_or_ge g w.heap.size with hlt | hge
    · rw [hb.block g hlt]
      exact hv
    · rw [Array.getElem?_eq_none hge] at hv
      simp at hv
theorem LaidW.below {w w' : World} (h : LaidW w) (hb : Below w.heap.size w w') : LaidW w' := by
  obtain ⟨h1, ⟨t2, p2, h2⟩, ⟨t3, p3, h3⟩⟩ := h
  exact ⟨var_old hb h1, ⟨t2, p2, var_old hb h2⟩, ⟨t3, p3, var_old hb h3⟩⟩

/-! ### strconv.Itoa -/
def strconv_Itoa.f (a0 : Int) : Option (ByteArray) := if -9223372036854775808 ≤ a0 ∧ a0 ≤ 9223372036854775807 then some (Pl.B (Pl.intL a0)) else none
theorem strconv_Itoa.calls (a0 : Int) (r : ByteArray) (w : World) (hLd : LaidW w) (h : strconv_Itoa.f a0 = some r) :
    Calls Tryd.prog 77 #[.int .i64 a0] w fun e w' => e = .returned (.string r) ∧ Below w.heap.size w w' := by
  unfold strconv_Itoa.f at h
  by_cases hc : -9223372036854775808 ≤ a0 ∧ a0 ≤ 9223372036854775807
  · rw [if_pos hc] at h
    obtain rfl := Option.some.inj h
    refine (Tryd.strconv_Itoa a0 hc.1 hc.2 w hLd.tab).mono ?_
    rintro e w' ⟨rfl, k, os, rfl⟩
    refine ⟨?_, ?_⟩
    · rw [Pl.intL_eq a0 hc.1 hc.2]; rfl
    · exact Lib.below_grow _ _ (Nat.le_refl _) _ _
  · rw [if_neg hc] at h
    exact absurd h (by simp)

/-! ### strings.TrimPrefix; strings.Cut at one byte, of whatever length the text is -/
def strings_TrimPrefix.f (a0 : ByteArray) (a1 : ByteArray) : Option (ByteArray) := some (Pl.B (Lib.trimPrefix a0.data.toList a1.data.toList))
theorem strings_TrimPrefix.calls (a0 : ByteArray) (a1 : ByteArray) (r : ByteArray) (w : World) (h : strings_TrimPrefix.f a0 a1 = some r) :
    Calls Tryd.prog 106 #[.string a0, .string a1] w fun e w' => e = .returned (.string r) ∧ Drawn0 w w' := by
  obtain rfl := Option.some.inj h
  refine (Tryd.strings_TrimPrefix a0 a1 w).mono ?_
  rintro e w' ⟨rfl, rfl⟩
  exact ⟨rfl, Drawn0.refl _⟩

set_option maxRecDepth 100000 in
theorem slCut (s : ByteArray) (c : UInt8) (w : World) (hsz : s.size ≤ 281474976710656) :
    Calls Tryd.prog 115 #[.string s, .string ⟨#[c]⟩] w fun e w' => e = .returned (.tuple #[.string ⟨(Lib.cut s.data.toList [c]).1.toArray⟩, .string ⟨(Lib.cut s.data.toList [c]).2.1.toArray⟩, .bool (Lib.cut s.data.toList [c]).2.2]) ∧ ∃ n, w' = w.drewN n := by
  have hone : Lib.indexByte s.data.toList c = Lib.indexB s ⟨#[c]⟩ := (Lib.index_one _ _).symm
  rcases Lib.indexB_cases s ⟨#[c]⟩ with hix | ⟨i, hix, hroom⟩
  · obtain ⟨e1, e2, e3⟩ := Lib.cutB_miss s ⟨#[c]⟩ hix
    rw [show ([c] : List UInt8) = (⟨#[c]⟩ : ByteArray).data.toList from rfl, e1, e2, e3]
    go_enter Tryd.func115, Tryd.ntmps115
    go_wp2_with (go_at_call 127; refine (Any.stringslite_Index_one Tryd.lays219 _ _ _).mono ?_; rintro e w' ⟨rfl, rfl⟩; rw [hone, hix])
    go_ret3
    exact ⟨rfl, 0, rfl⟩
  · obtain ⟨e1, e2, e3⟩ := Lib.cutB_hit s ⟨#[c]⟩ i hix
    rw [show ([c] : List UInt8) = (⟨#[c]⟩ : ByteArray).data.toList from rfl, e1, e2, e3]
    have hr : i + 1 ≤ s.size := hroom
    have c1 : (0 : Int) ≤ ↑i := by omega
    have c2 : (↑i : Int) ≤ ↑s.size := by omega
    have c3 : (0 : Int) ≤ ↑i + 1 := by omega
    have c4 : (↑i + 1 : Int) ≤ ↑s.size := by omega
    have c5 : IntKind.i64.wrap ((i : Int) + 1) = (i : Int) + 1 := IntWalk.i64_in _ (by omega)
    go_enter Tryd.func115, Tryd.ntmps115
    go_wp2_with (go_at_call 127; refine (Any.stringslite_Index_one Tryd.lays219 _ _ _).mono ?_; rintro e w' ⟨rfl, rfl⟩; rw [hone, hix])
    go_region
    go_wp2
    go_ret3
    exact ⟨rfl, 1, rfl⟩

def strings_Cut.f (a0 : ByteArray) (a1 : ByteArray) : Option (ByteArray × ByteArray × Bool) :=
  if a1.size = 1 ∧ a0.size ≤ 281474976710656 then some (Pl.B (Lib.cut a0.data.toList a1.data.toList).1, Pl.B (Lib.cut a0.data.toList a1.data.toList).2.1, (Lib.cut a0.data.toList a1.data.toList).2.2) else none
set_option maxRecDepth 100000 in
theorem strings_Cut.calls (a0 : ByteArray) (a1 : ByteArray) (r1 : ByteArray) (r2 : ByteArray) (r3 : Bool) (w : World) (h : strings_Cut.f a0 a1 = some (r1, r2, r3)) :
    Calls Tryd.prog 105 #[.string a0, .string a1] w fun e w' => e = .returned (.tuple #[.string r1, .string r2, .bool r3]) ∧ Drawn0 w w' := by
  unfold strings_Cut.f at h
  by_cases hs : a1.size = 1 ∧ a0.size ≤ 281474976710656
  · rw [if_pos hs] at h
    obtain ⟨hs, hsz⟩ := hs
    have HZ := Aside0.mk hsz
    clear hsz
    obtain ⟨c, rfl⟩ : ∃ c, a1 = ⟨#[c]⟩ := by
      obtain ⟨⟨l⟩⟩ := a1
      rcases l with _ | ⟨c, _ | ⟨d, l⟩⟩
      · simp [ByteArray.size] at hs
      · exact ⟨c, rfl⟩
      · simp [ByteArray.size] at hs
    have h := Option.some.inj h
    simp only [Prod.mk.injEq] at h
    obtain ⟨rfl, rfl, rfl⟩ := h
    go_enter Tryd.func105, Tryd.ntmps105
    go_wp2_with (go_at_call 115; refine (slCut _ _ _ HZ.out).mono ?_; rintro e w' ⟨rfl, n, rfl⟩)
    go_ret3
    exact ⟨rfl, ⟨⟨n, rfl⟩⟩⟩
  · rw [if_neg hs] at h
    exact absurd h (by simp)

/-! ### dec.all: a range over a string -/
def dec_all.f (a0 : ByteArray) : Option (Bool) := some (Pl.allL a0.data.toList)
theorem take_snoc_ (s : ByteArray) (k : Nat) (h : k < s.size) : s.data.toList.take (k + 1) = s.data.toList.take k ++ [s[k]] := by
  rw [List.take_succ_eq_append_getElem (by simpa using h)]; rfl
theorem all_bad (s : ByteArray) (k : Nat) (h : k < s.size) (hd : Pl.isD s[k] = false) : Pl.allL s.data.toList = false := by
  have : s.data.toList.all Pl.isD = false := by
    rw [← List.take_append_drop (k + 1) s.data.toList, take_snoc_ s k h]
    simp [hd]
  simp [Pl.allL, this]
theorem ret_bool {a b : Bool} (h : a = b) : Ending.returned (.bool a) = .returned (.bool b) := by rw [h]
set_option maxHeartbeats 1000000 in
set_option maxRecDepth 100000 in
theorem dec_all.calls (a0 : ByteArray) (r : Bool) (w : World) (h : dec_all.f a0 = some r) :
    Calls Tryd.prog 104 #[.string a0] w fun e w' => e = .returned (.bool r) ∧ Below w.heap.size w w' := by
  obtain rfl := Option.some.inj h
  clear h
  go_enter Tryd.func104, Tryd.ntmps104
  go_wp2
  go_loopw [4] (fun c w' => ∃ pos : Nat, w' = w.iter a0 pos ∧ pos ≤ a0.size ∧ Hid ((a0.data.toList.take pos).all Pl.isD = true)) (fun _ w' => a0.size - w'.iterPos w.heap.size)
  case atStart => exact ⟨0, rfl, Nat.zero_le _, by simp [Hid]⟩
  case round =>
    obtain ⟨pos, rfl, hpos, hall⟩ := hrel
    by_cases hp : pos < a0.size
    · by_cases hd : Pl.isD a0[pos] = true
      · have hd' := of_decide_eq_true hd
        have hnx : ∀ ty, (Instr.next (.pointer (some ⟨w.heap.size, 0, none⟩)) true ty).run Tryd.prog (w.iter a0 pos) = _ := fun ty => run_next_ascii w a0 pos ty hp (by omega)
        have t1 : decide (((a0[pos]'hp).toNat : Int) < 48) = false := decide_eq_false (by omega)
        have t2 : decide ((57 : Int) < ((a0[pos]'hp).toNat : Int)) = false := decide_eq_false (by omega)
        have hall' : Hid ((a0.data.toList.take (pos + 1)).all Pl.isD = true) := by
          have := hall.out
          simp only [Hid]
          rw [take_snoc_ a0 pos hp]
          simp only [List.all_append, this, List.all_cons, List.all_nil, hd, Bool.and_self]
        clear hd hd' hall
        go_wp2
        go_roundw
        case rel => exact ⟨pos + 1, rfl, by omega, hall'⟩
        case measure => simp; omega
      · have hd : Pl.isD a0[pos] = false := by simpa using hd
        have hbad := Lib.hid (all_bad a0 pos hp hd)
        have hd' := of_decide_eq_false hd
        clear hd
        by_cases ha : (a0[pos]'hp).toNat < 128
        · have hnx : ∀ ty, (Instr.next (.pointer (some ⟨w.heap.size, 0, none⟩)) true ty).run Tryd.prog (w.iter a0 pos) = _ := fun ty => run_next_ascii w a0 pos ty hp ha
          by_cases h48 : (a0[pos]'hp).toNat < 48
          · have t1 : decide (((a0[pos]'hp).toNat : Int) < 48) = true := decide_eq_true (by omega)
            clear hd' hall
            go_wp2
            go_ret
            exact ⟨ret_bool hbad.out.symm, (Below.refl _ _).alloc (Nat.le_refl _) _⟩
          · have t1 : decide (((a0[pos]'hp).toNat : Int) < 48) = false := decide_eq_false (by omega)
            have t2 : decide ((57 : Int) < ((a0[pos]'hp).toNat : Int)) = true := decide_eq_true (by omega)
            clear hd' hall
            go_wp2
            go_ret
            exact ⟨ret_bool hbad.out.symm, (Below.refl _ _).alloc (Nat.le_refl _) _⟩
        · obtain ⟨d1, d2⟩ := decode_high a0 pos hp (by omega)
          have hnx : ∀ ty, (Instr.next (.pointer (some ⟨w.heap.size, 0, none⟩)) true ty).run Tryd.prog (w.iter a0 pos) = _ := fun ty => run_next_any w a0 pos ty hp
          have t1 : decide (((Utf8.decode a0 pos).1 : Int) < 48) = false := decide_eq_false (by omega)
          have t2 : decide ((57 : Int) < ((Utf8.decode a0 pos).1 : Int)) = true := decide_eq_true (by omega)
          clear hd' hall
          go_wp2
          go_ret
          exact ⟨ret_bool hbad.out.symm, (Below.refl _ _).alloc (Nat.le_refl _) _⟩
    · have hnx : ∀ ty, (Instr.next (.pointer (some ⟨w.heap.size, 0, none⟩)) true ty).run Tryd.prog (w.iter a0 pos) = _ := fun ty => run_next_end w a0 pos ty hp
      have hgood : Hid (a0.data.toList.all Pl.isD = true) := by
        have := hall.out
        rwa [List.take_of_length_le (by simp; omega)] at this
      clear hall
      go_wp2
      go_ret
      refine ⟨ret_bool ?_, (Below.refl _ _).alloc (Nat.le_refl _) _⟩
      simp [Pl.allL, hgood.out, Lib.toList_data]
      rw [Bool.eq_iff_iff]
      simp

/-! ### dec.Count -/
theorem atoi_any (s : ByteArray) (w : World) (hLd : LaidW w) (hs : s.size ≤ 281474976710656) :
    Calls Tryd.prog 103 #[.string s] w fun e w' => (∃ (v : Int) (ev : Value), e = .returned (.tuple #[.int .i64 v, ev]) ∧ ((ev = .nilIface ∧ Lib.atoiAll s.data.toList = .ok v) ∨ (∃ t p, ev = .iface t p ∧ ∀ v, Lib.atoiAll s.data.toList ≠ .ok v))) ∧ Below w.heap.size w w' := by
  rcases h : Lib.atoiAll s.data.toList with v | _ | _
  · refine (Tryd.strconv_Atoi_ok s (by omega) v h w).mono ?_
    rintro e w' ⟨rfl, hw⟩
    refine ⟨⟨v, _, rfl, .inl ⟨rfl, rfl⟩⟩, ?_⟩
    rcases hw with rfl | ⟨t, rfl⟩
    · exact Below.refl _ _
    · exact Lib.bytesWorld_below _ _ _
  · obtain ⟨tp, p, hv⟩ := hLd.synt
    refine (Any.strconv_Atoi_syntax_var Tryd.laysC172 s hs h tp p w hv).mono ?_
    rintro e w' ⟨n, rfl, _, _, hb⟩
    exact ⟨⟨_, _, rfl, .inr ⟨_, _, rfl, fun v e => by cases e⟩⟩, hb⟩
  · obtain ⟨tp, p, hv⟩ := hLd.rang
    refine (Tryd.strconv_Atoi_range_var s hs h tp p w hv).mono ?_
    rintro e w' ⟨n, rfl, _, _, hb⟩
    exact ⟨⟨_, _, rfl, .inr ⟨_, _, rfl, fun v e => by cases e⟩⟩, hb⟩
theorem atoi_ok (s : ByteArray) (w : World) (hs : s.size ≤ 281474976710656) (v : Int) (h : Lib.atoiAll s.data.toList = .ok v) :
    Calls Tryd.prog 103 #[.string s] w fun e w' => e = .returned (.tuple #[.int .i64 v, .nilIface]) ∧ Below w.heap.size w w' := by
  refine (Tryd.strconv_Atoi_ok s (by omega) v h w).mono ?_
  rintro e w' ⟨rfl, hw⟩
  refine ⟨rfl, ?_⟩
  rcases hw with rfl | ⟨t, rfl⟩
  · exact Below.refl _ _
  · exact Lib.bytesWorld_below _ _ _
theorem atoi_range (s : ByteArray) (w : World) (hLd : LaidW w) (hs : s.size ≤ 281474976710656) (h : Lib.atoiAll s.data.toList = .range) :
    Calls Tryd.prog 103 #[.string s] w fun e w' => (∃ (v : Int) (t : TypeId) (p : Value), e = .returned (.tuple #[.int .i64 v, .iface t p])) ∧ Below w.heap.size w w' := by
  obtain ⟨tp, p, hv⟩ := hLd.rang
  refine (Tryd.strconv_Atoi_range_var s hs h tp p w hv).mono ?_
  rintro e w' ⟨n, rfl, _, _, hb⟩
  exact ⟨⟨_, _, _, rfl⟩, hb⟩
def dec_Count.f (a0 : ByteArray) (a1 : Int) : Option (Int) := if a0.size ≤ 281474976710656 ∧ -9223372036854775808 ≤ a1 ∧ a1 ≤ 9223372036854775807 then some (Pl.countL a0.data.toList a1) else none
set_option maxHeartbeats 1000000 in
set_option maxRecDepth 100000 in
theorem dec_Count.calls (a0 : ByteArray) (a1 : Int) (r : Int) (w : World) (hLd : LaidW w) (h : dec_Count.f a0 a1 = some r) :
    Calls Tryd.prog 97 #[.string a0, .int .i64 a1] w fun e w' => e = .returned (.int .i64 r) ∧ Below w.heap.size w w' := by
  unfold dec_Count.f at h
  by_cases hs : a0.size ≤ 281474976710656 ∧ -9223372036854775808 ≤ a1 ∧ a1 ≤ 9223372036854775807
  · rw [if_pos hs] at h
    obtain rfl := Option.some.inj h
    obtain ⟨hs, hb0, hb1⟩ := hs
    clear h
    have HS := Aside0.mk hs
    have HL := Aside0.mk hLd
    clear hs hLd
    rcases hall : Pl.allL a0.data.toList with _ | _
    · have hno := Aside0.mk (Pl.countL_no (most := a1) hall)
      have ha := Aside0.mk (show dec_all.f a0 = some false by simp [dec_all.f, hall])
      clear hall
      go_enter Tryd.func97, Tryd.ntmps97
      go_wp2_with (go_at_call 103; refine (atoi_any a0 _ HL.out HS.out).mono ?_; rintro e w1 ⟨⟨v, ev, rfl, _⟩, hb1_⟩; have HB1 := Aside0.mk hb1_; clear hb1_)
      go_wp2_with (go_at_call 104; refine (dec_all.calls a0 false _ ha.out).mono ?_; rintro e w2 ⟨rfl, hb2_⟩; have HB2 := Aside0.mk hb2_; clear hb2_)
      go_ret
      exact ⟨by rw [hno.out]; rfl, below_step HB1.out HB2.out⟩
    · have hne : a0.data.toList ≠ [] ∧ a0.data.toList.all Pl.isD = true := by
        simp only [Pl.allL, Bool.and_eq_true, decide_eq_true_eq] at hall
        exact hall
      have ha := Aside0.mk (show dec_all.f a0 = some true by simp [dec_all.f, hall])
      clear hall
      rcases Pl.atoi_digits _ hne.1 hne.2 with ⟨hat, hle⟩ | ⟨hat, hge⟩
      · have hAT := Aside0.mk hat
        clear hat hne
        have hv0 : (0 : Int) ≤ (Pl.val a0.data.toList : Int) := by omega
        obtain ⟨v, hv⟩ : ∃ v : Int, v = (Pl.val a0.data.toList : Int) := ⟨_, rfl⟩
        rw [← hv] at hv0 hle
        have HV := Aside0.mk hv
        clear hv
        obtain ⟨m, hm⟩ : ∃ m : Int, (1000000000000 < a1 ∧ m = 1000000000000) ∨ (a1 ≤ 1000000000000 ∧ m = a1) := by
          rcases Int.lt_or_le 1000000000000 a1 with h | h
          · exact ⟨_, .inl ⟨h, rfl⟩⟩
          · exact ⟨_, .inr ⟨h, rfl⟩⟩
        by_cases h1 : m < v
        · have hno : Aside0 (Pl.countL a0.data.toList a1 = -1) := ⟨Pl.countL_big (by have := HV.out; omega)⟩
          rcases hm with ⟨hm, rfl⟩ | ⟨hm, rfl⟩
          all_goals
            go_enter Tryd.func97, Tryd.ntmps97
            go_wp2_with (go_at_call 103; refine (atoi_ok a0 _ HS.out v (by rw [hAT.out, HV.out])).mono ?_; rintro e w1 ⟨rfl, hb1_⟩; have HB1 := Aside0.mk hb1_; clear hb1_)
            go_wp2_with (go_at_call 104; refine (dec_all.calls a0 true _ ha.out).mono ?_; rintro e w2 ⟨rfl, hb2_⟩; have HB2 := Aside0.mk hb2_; clear hb2_)
            go_ret
            exact ⟨by rw [hno.out]; rfl, below_step HB1.out HB2.out⟩
        · have hI : Aside0 (strconv_Itoa.f v = some (Pl.B (Pl.digs (Pl.val a0.data.toList)))) := ⟨by
            unfold strconv_Itoa.f
            rw [if_pos ⟨by omega, hle⟩, HV.out]
            unfold Pl.intL
            rw [if_neg (by omega), Int.toNat_natCast]⟩
          have h1' : v ≤ m := by omega
          clear h1
          by_cases h2 : Pl.digs (Pl.val a0.data.toList) = a0.data.toList
          · have hyes : Aside0 (Pl.countL a0.data.toList a1 = v) := ⟨by
              rw [HV.out]
              have := HV.out
              exact Pl.countL_yes (by omega) (by omega) h2⟩
            have hI' : Aside0 (strconv_Itoa.f v = some a0) := ⟨by rw [hI.out, h2, Pl.B_toList']⟩
            clear hI h2
            rcases hm with ⟨hm, rfl⟩ | ⟨hm, rfl⟩
            all_goals
              go_enter Tryd.func97, Tryd.ntmps97
              go_wp2_with (go_at_call 103; refine (atoi_ok a0 _ HS.out v (by rw [hAT.out, HV.out])).mono ?_; rintro e w1 ⟨rfl, hb1_⟩; have HB1 := Aside0.mk hb1_; clear hb1_)
              go_wp2_with (go_at_call 104; refine (dec_all.calls a0 true _ ha.out).mono ?_; rintro e w2 ⟨rfl, hb2_⟩; have HB2 := Aside0.mk (below_step HB1.out hb2_); clear hb2_ HB1)
              go_wp2_with (go_at_call 77; refine (strconv_Itoa.calls v a0 _ (HL.out.below HB2.out) hI'.out).mono ?_; rintro e w2 ⟨rfl, hb2_⟩; have HB3 := Aside0.mk (below_step HB2.out hb2_); clear hb2_ HB2)
              go_ret
              exact ⟨by rw [hyes.out]; rfl, HB3.out⟩
          · have hno : Aside0 (Pl.countL a0.data.toList a1 = -1) := ⟨Pl.countL_other h2⟩
            have hne2 : ((Pl.B (Pl.digs (Pl.val a0.data.toList))).toList == a0.toList) = false := by
              rw [Lib.toList_data, Lib.toList_data, Pl.B_toList]
              exact beq_eq_false_iff_ne.2 h2
            obtain ⟨t, ht⟩ : ∃ t, t = Pl.B (Pl.digs (Pl.val a0.data.toList)) := ⟨_, rfl⟩
            rw [← ht] at hI hne2
            clear h2 ht
            rcases hm with ⟨hm, rfl⟩ | ⟨hm, rfl⟩
            all_goals
              go_enter Tryd.func97, Tryd.ntmps97
              go_wp2_with (go_at_call 103; refine (atoi_ok a0 _ HS.out v (by rw [hAT.out, HV.out])).mono ?_; rintro e w1 ⟨rfl, hb1_⟩; have HB1 := Aside0.mk hb1_; clear hb1_)
              go_wp2_with (go_at_call 104; refine (dec_all.calls a0 true _ ha.out).mono ?_; rintro e w2 ⟨rfl, hb2_⟩; have HB2 := Aside0.mk (below_step HB1.out hb2_); clear hb2_ HB1)
              go_wp2_with (go_at_call 77; refine (strconv_Itoa.calls v t _ (HL.out.below HB2.out) hI.out).mono ?_; rintro e w2 ⟨rfl, hb2_⟩; have HB3 := Aside0.mk (below_step HB2.out hb2_); clear hb2_ HB2)
              go_ret
              exact ⟨by rw [hno.out]; rfl, HB3.out⟩
      · have hAT := Aside0.mk hat
        clear hat hne
        have hno : Aside0 (Pl.countL a0.data.toList a1 = -1) := ⟨Pl.countL_big (by omega)⟩
        clear hge
        go_enter Tryd.func97, Tryd.ntmps97
        go_wp2_with (go_at_call 103; refine (atoi_range a0 _ HL.out HS.out hAT.out).mono ?_; rintro e w1 ⟨⟨v, t, p, rfl⟩, hb1_⟩; have HB1 := Aside0.mk hb1_; clear hb1_)
        go_wp2_with (go_at_call 104; refine (dec_all.calls a0 true _ ha.out).mono ?_; rintro e w2 ⟨rfl, hb2_⟩; have HB2 := Aside0.mk hb2_; clear hb2_)
        go_ret
        exact ⟨by rw [hno.out]; rfl, below_step HB1.out HB2.out⟩
  · rw [if_neg hs] at h
    exact absurd h (by simp)

/-! ### words -/
def wordsL : List (List UInt8) := [[108, 111, 119, 101, 115, 116], [115, 101, 99, 111, 110, 100], [102, 114, 111, 109], [108, 101, 115, 115], [99, 117, 116], [109, 105, 110], [109, 97, 120], [101, 108, 115, 101], [105, 102], [109, 111, 114, 101], [97, 98, 111, 118, 101]]
def strings_IndexByte.f (a0 : ByteArray) (a1 : Int) : Option (Int) := some (Lib.indexByte a0.data.toList a1.toNat.toUInt8)
theorem strings_IndexByte.calls (a0 : ByteArray) (a1 : Int) (r : Int) (w : World) (h : strings_IndexByte.f a0 a1 = some r) :
    Calls Tryd.prog 95 #[.string a0, .int .u8 a1] w fun e w' => e = .returned (.int .i64 r) ∧ Drawn0 w w' := by
  obtain rfl := Option.some.inj h
  refine (Tryd.strings_IndexByte a0 a1 w).mono ?_
  rintro e w' ⟨rfl, rfl⟩
  exact ⟨rfl, Drawn0.refl _⟩

def wordsB : List ByteArray := wordsL.map fun l => ⟨l.toArray⟩
theorem words_at (w : World) : ∀ j, j < wordsB.length → (w.alloc (.cells #[.string ⟨#[108, 111, 119, 101, 115, 116]⟩, .string ⟨#[115, 101, 99, 111, 110, 100]⟩, .string ⟨#[102, 114, 111, 109]⟩, .string ⟨#[108, 101, 115, 115]⟩, .string ⟨#[99, 117, 116]⟩, .string ⟨#[109, 105, 110]⟩, .string ⟨#[109, 97, 120]⟩, .string ⟨#[101, 108, 115, 101]⟩, .string ⟨#[105, 102]⟩, .string ⟨#[109, 111, 114, 101]⟩, .string ⟨#[97, 98, 111, 118, 101]⟩] 9)).cell? ⟨w.heap.size, 0 + j, none⟩ = some (.string (wordsB.getD j ByteArray.empty)) := by
  intro j hj
  have hl : wordsB.length = 11 := rfl
  have : j = 0 ∨ j = 1 ∨ j = 2 ∨ j = 3 ∨ j = 4 ∨ j = 5 ∨ j = 6 ∨ j = 7 ∨ j = 8 ∨ j = 9 ∨ j = 10 := by omega
  rcases this with rfl | rfl | rfl | rfl | rfl | rfl | rfl | rfl | rfl | rfl | rfl
  all_goals exact (blk_cell (blk_new w _) _).trans rfl
def lex_Word.f (a0 : ByteArray) : Option (Bool) := some (Lib.containsS wordsB a0)
set_option maxHeartbeats 1000000 in
set_option maxRecDepth 100000 in
theorem lex_Word.calls (a0 : ByteArray) (r : Bool) (w : World) (h : lex_Word.f a0 = some r) :
    Calls Tryd.prog 81 #[.string a0] w fun e w' => e = .returned (.bool r) ∧ Below w.heap.size w w' := by
  obtain rfl := Option.some.inj h
  clear h
  go_enter Tryd.func81, Tryd.ntmps81
  go_wp2_with (go_at_call 96; go_loud (refine (Tryd.slices_Contains_string w.heap.size 0 11 11 wordsB a0 _ (by decide) (by decide) ?hc).mono ?_; (case hc => exact words_at w); rintro e w1 ⟨rfl, rfl⟩))
  go_ret
  exact ⟨rfl, below_alloc (Below.refl _ _) _⟩

end Go.Proofs.YtjnbhdbpajnlgaaDoor.L
