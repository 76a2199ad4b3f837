import Derived.Test.YtgpkppohfodhdaaGreatDoorExtT
namespace Go.Proofs.YtgpkppohfodhdaaGreatDoor.Q
open Go.RowKit Go.Proofs.YtgpkppohfodhdaaGreatDoorW.PrintWords Go.Proofs.YtgpkppohfodhdaaGreatDoorW.PrintLast Go.Proofs.YtgpkppohfodhdaaGreatDoorW.PrintMore
open Go.Proofs.YtgpkppohfodhdaaGreatDoor.BuilderT (KeepT)
set_option linter.unusedVariables false
set_option linter.unusedSimpArgs false
attribute [local go_sem] max2_int min2_int max_two min_two max_three min_three max_four min_four
abbrev LaidW := P.LaidW
theorem Wr.store4 {B b : Nat} {acc : List UInt8} {w w1 : World} {g : Nat} {t : TypeId} {a0 a1 a2 a3 : Value} (h : Wr B b acc w w1) (hB : B ≤ w.heap.size) (hg : w1.heap[g]? = some (.cells #[a0, a1, a2, a3] t (0, 0))) (hw : w.heap.size ≤ g) (h1 : t ≠ 133) (h2 : t ≠ 5) (u0 u1 u2 u3 : Value) :
    Wr B b acc w ((((w1.setCell ⟨g, 0, none⟩ u0).setCell ⟨g, 1, none⟩ u1).setCell ⟨g, 2, none⟩ u2).setCell ⟨g, 3, none⟩ u3) ∧ ((((w1.setCell ⟨g, 0, none⟩ u0).setCell ⟨g, 1, none⟩ u1).setCell ⟨g, 2, none⟩ u2).setCell ⟨g, 3, none⟩ u3).heap[g]? = some (.cells #[u0, u1, u2, u3] t (0, 0)) := by
  have e0 := blk_set hg 0 u0
  have e1 := blk_set e0 1 u1
  have e2 := blk_set e1 2 u2
  have e3 := blk_set e2 3 u3
  exact ⟨(((h.set hB hg hw h1 h2 0 u0).set hB e0 hw h1 h2 1 u1).set hB e1 hw h1 h2 2 u2).set hB e2 hw h1 h2 3 u3, e3⟩
def PrintOK (y : S45) : Prop := ∀ (A : Option Addr) (c : Nat) (B b : Nat) (acc : List UInt8) (w0 w : World), Kd.C k45 w0 A y.f3.length y.f3 → y.f3.length ≤ c → Below w0.heap.size w0 w → w0.heap.size ≤ B → IsB B b acc w → B ≤ w.heap.size → LaidW w0 → acc.length + (txtE y).length ≤ 70368744177664 →
  Calls Tryz.prog 97 #[.pointer (some ⟨b, 0, none⟩), .agg #[.int .i64 y.f0, .int .i64 y.f1, .string y.f2, .slice A y.f3.length c]] w fun e w' => e = .returned (.tuple #[]) ∧ Wr B b (acc ++ txtE y) w w'
theorem rd_mem (l : List S45) (j : Nat) (h : j < l.length) : rd_T45 l (j : Int) ∈ l ∧ (l.map txtE)[j]? = some (txtE (rd_T45 l (j : Int))) := by
  unfold rd_T45
  rw [Int.toNat_natCast, List.getD_eq_getElem?_getD, List.getElem?_eq_getElem h, Option.getD_some]
  exact ⟨List.getElem_mem h, by simp [List.getElem?_eq_getElem h]⟩
set_option maxHeartbeats 600000 in
set_option maxRecDepth 100000 in
theorem call_calls (word : ByteArray) (l : List S45) (IH : ∀ y ∈ l, PrintOK y) (A : Option Addr) (c : Nat) (ml : List (List UInt8)) (M : Option Addr) (mc : Nat) (B b : Nat) (acc : List UInt8) (w0 w : World)
    (hr : Kd.C k45 w0 A l.length l) (hc : l.length ≤ c) (hbel : Below w0.heap.size w0 w) (hB0 : w0.heap.size ≤ B) (hbld : IsB B b acc w) (hB : B ≤ w.heap.size) (hLd : LaidW w0)
    (hm : ∀ j m, ml[j]? = some m → ∃ ad, M = some ad ∧ ∀ w', KeepT w w' → w'.cell? (ad.add j) = some (.string ⟨m.toArray⟩))
    (hmc : ml.length ≤ mc) (hmc2 : ml.length ≤ 1)
    (hl : acc.length + word.size + 2 + (sepA true (l.map txtE)).length + (sepA l.isEmpty ml).length ≤ 70368744177664) (hll : l.length < 4611686018427387904) :
    Calls Tryz.prog 132 #[.pointer (some ⟨b, 0, none⟩), .string word, .slice A l.length c, .slice M ml.length mc] w fun e w' => e = .returned (.tuple #[]) ∧ Wr B b (acc ++ word.data.toList ++ [40] ++ sepA true (l.map txtE) ++ sepA l.isEmpty ml ++ [41]) w w' := by
  have hs : word.size + 1 ≤ 9223372036854775807 := by omega
  have hs0 := eq_true hs
  have hs1 : decide (word.size + 1 ≤ 9223372036854775807) = true := decide_eq_true hs
  have hs2 : (9223372036854775807 < word.size + 1) = False := eq_false (Nat.not_lt.2 hs)
  have HR := Aside0.mk hr
  have HBEL := Aside0.mk hbel
  have HLD := Aside0.mk hLd
  have HM := Aside0.mk hm
  have HL := Aside0.mk hl
  have HLL := Aside0.mk hll
  have HB1 := Aside0.mk hB
  have HB00 := Aside0.mk hB0
  have HMC := Aside0.mk hmc2
  have W0 := Aside0.mk (Wr.refl hbld)
  have IH' := Aside0.mk IH
  clear hr hbel hLd hm hl hll hB hB0 hbld IH hs hmc2
  go_enter Tryz.func132, Tryz.ntmps132
  go_wp2_with (go_at_call 130; go_loud (refine (WriteString_calls B b acc _ _ W0.out.bld HB1.out ?szz).mono ?_; (case szz => have := HL.out; rw [ByteArray.size_append, show (⟨#[40]⟩ : ByteArray).size = 1 from rfl]; omega); rintro e w1 ⟨rfl, hw1⟩; have W1 := Aside0.mk hw1; clear hw1))
  go_loopg [20] l.length (fun kq v20 w' => ∃ j : Nat, v20 = .int .i64 (j : Int) ∧ Aside0 (kq + j = l.length) ∧ Aside0 (Wr B b (acc ++ word.data.toList ++ [40] ++ sepA true ((l.map txtE).take j)) w w'))
  case atStart =>
    refine ⟨0, rfl, ⟨by omega⟩, ⟨?_⟩⟩
    have := W1.out
    simp only [ByteArray.data_append, Array.toList_append] at this
    simpa [sepA] using this
  case round =>
    obtain ⟨j, rfl, HK, HW⟩ := hrel
    clear W1
    cases gk with
    | zero =>
      have hj : j = l.length := by have := HK.out; omega
      subst hj
      have HW2 : Aside0 (Wr B b (acc ++ word.data.toList ++ [40] ++ sepA true (l.map txtE)) w wr) := ⟨by have := HW.out; rwa [List.take_of_length_le (by simp)] at this⟩
      clear HW
      have hws : word.data.toList.length = word.size := by simp
      have HLN : Aside0 ((acc ++ word.data.toList ++ [40] ++ sepA true (l.map txtE)).length + 1 + (sepA l.isEmpty ml).length ≤ 70368744177664) := ⟨by have := HL.out; simp only [List.length_append, List.length_cons, List.length_nil]; omega⟩
      clear hws
      obtain ⟨a2, ha2⟩ : ∃ a2, a2 = acc ++ word.data.toList ++ [40] ++ sepA true (l.map txtE) := ⟨_, rfl⟩
      rw [← ha2] at HW2 HLN
      have HA2 := Aside0.mk ha2
      clear ha2 HL
      have c1 : decide ((l.length : Int) < (l.length : Int)) = false := decide_eq_false (by omega)
      go_wp2
      go_loopg [37] ml.length (fun kq v37 w' => ∃ j : Nat, v37 = .int .i64 (j : Int) ∧ Aside0 (kq + j = ml.length) ∧ Aside0 (Wr B b (a2 ++ sepA l.isEmpty (ml.take j)) w w'))
      case atStart => exact ⟨0, rfl, ⟨by omega⟩, ⟨by simpa [sepA] using HW2.out⟩⟩
      case round =>
        obtain ⟨j, rfl, HK2, HW⟩ := hrel
        clear HW2
        cases gk with
        | zero =>
          have hj : j = ml.length := by have := HK2.out; omega
          subst hj
          have HW2 : Aside0 (Wr B b (a2 ++ sepA l.isEmpty ml) w wr) := ⟨by have := HW.out; rwa [List.take_of_length_le (Nat.le_refl _)] at this⟩
          clear HW
          have hbnd : Aside0 ((a2 ++ sepA l.isEmpty ml).length + 1 ≤ 70368744177664) := ⟨by have := HLN.out; simp only [List.length_append]; omega⟩
          have c2 : decide ((ml.length : Int) < (ml.length : Int)) = false := decide_eq_false (by omega)
          go_wp2_with (go_at_call 130; go_loud (refine (WriteString_calls B b _ _ _ HW2.out.bld ?s1 ?s2).mono ?_; (case s1 => exact Nat.le_trans HB1.out HW2.out.siz); (case s2 => have := hbnd.out; rw [show (⟨#[41]⟩ : ByteArray).size = 1 from rfl]; omega); rintro e w9 ⟨rfl, hw9⟩; have W9 := Aside0.mk (HW2.out.then hw9); clear hw9))
          go_end0
          exact ⟨rfl, by rw [← HA2.out]; exact W9.out⟩
        | succ k1 =>
          have hj : j < ml.length := by have := HK2.out; omega
          obtain ⟨m, hm⟩ : ∃ m, ml[j]? = some m := ⟨_, List.getElem?_eq_getElem hj⟩
          obtain ⟨ad2, rfl, hcell⟩ := HM.out j m hm
          have hc37 := hcell wr HW.out.keep
          have hst := Aside0.mk (sepA_take l.isEmpty ml j m hm)
          have hle := Aside0.mk (sepA_le l.isEmpty ml (j + 1))
          have hj0 : j = 0 := by have := HMC.out; omega
          have hsucc : Aside0 ((((j + 1 : Nat)) : Int) = wrap64 ((j : Int) + 1)) := ⟨by unfold wrap64; omega⟩
          have c2 : decide ((j : Int) < (ml.length : Int)) = true := decide_eq_true (by omega)
          have p1 : ((0 : Int) ≤ (j : Int)) = True := eq_true (by omega)
          have p2 : ((j : Int) < (ml.length : Int)) = True := eq_true (by omega)
          obtain ⟨i, hi⟩ : ∃ i, i = (j : Int) := ⟨_, rfl⟩
          rw [show ad2.add j = ad2.add i.toNat by rw [hi, Int.toNat_natCast]] at hc37
          have hwl : wrap64 ((j : Int) + (l.length : Int)) = (l.length : Int) := by have := HLL.out; unfold wrap64; omega
          rw [← hi] at hsucc c2 p1 p2 hwl
          have hWL := Aside0.mk hwl
          obtain ⟨a3, ha3⟩ : ∃ a3, a3 = a2 ++ sepA l.isEmpty (ml.take j) := ⟨_, rfl⟩
          rw [← ha3] at HW
          have hie : l.isEmpty = decide (l.length = 0) := by cases l <;> simp
          by_cases hl0 : l.length = 0
          · have c3 : decide (wrap64 (i + (l.length : Int)) > 0) = false := decide_eq_false (by rw [hWL.out]; omega)
            have c4 : decide (0 < wrap64 (i + (l.length : Int))) = false := decide_eq_false (by rw [hWL.out]; omega)
            rw [show (l.isEmpty && (j == 0)) = true by simp [hie, hl0, hj0], if_pos rfl, List.append_nil] at hst
            have hfin : Aside0 (a2 ++ sepA l.isEmpty (ml.take (j + 1)) = a3 ++ m) := ⟨by rw [hst.out, ha3]; simp⟩
            have hbnd : Aside0 (a3.length + m.length ≤ 70368744177664) := ⟨by have h1 := congrArg List.length hst.out; have h2 := hle.out; have h3 := HLN.out; have h4 := congrArg List.length ha3; simp only [List.length_append, List.length_cons, List.length_nil] at *; omega⟩
            have HI := Aside0.mk hi
            have HL0 := Aside0.mk hl0
            clear hj hm hcell hst hle hj0 hwl ha3 hie hl0
            rw [← hi]
            clear hi
            go_wp2_with (go_at_call 130; go_loud (refine (WriteString_calls B b _ _ _ HW.out.bld ?s1 ?s2).mono ?_; (case s1 => exact Nat.le_trans HB1.out HW.out.siz); (case s2 => have := hbnd.out; rw [show (⟨m.toArray⟩ : ByteArray).size = m.length by simp [ByteArray.size]]; omega); rintro e w9 ⟨rfl, hw9⟩; have W9 := Aside0.mk (HW.out.then hw9); clear hw9))
            go_roundg k1
            case measure => omega
            case rel => exact ⟨j + 1, by rw [hsucc.out], ⟨by have := HK2.out; omega⟩, ⟨by rw [hfin.out]; exact W9.out⟩⟩
          · have c3 : decide (wrap64 (i + (l.length : Int)) > 0) = true := decide_eq_true (by rw [hWL.out]; omega)
            have c4 : decide (0 < wrap64 (i + (l.length : Int))) = true := decide_eq_true (by rw [hWL.out]; omega)
            rw [show (l.isEmpty && (j == 0)) = false by simp [hie, hl0], if_neg (by decide)] at hst
            have hfin : Aside0 (a2 ++ sepA l.isEmpty (ml.take (j + 1)) = a3 ++ [44, 32] ++ m) := ⟨by rw [hst.out, ha3]; simp⟩
            have hbnd : Aside0 (a3.length + 2 + m.length ≤ 70368744177664) := ⟨by have h1 := congrArg List.length hst.out; have h2 := hle.out; have h3 := HLN.out; have h4 := congrArg List.length ha3; simp only [List.length_append, List.length_cons, List.length_nil] at *; omega⟩
            have HI := Aside0.mk hi
            have HL0 := Aside0.mk hl0
            clear hj hm hcell hst hle hj0 hwl ha3 hie hl0
            rw [← hi]
            clear hi
            go_wp2_with (first
              | (go_at_call 130; (refine (WriteString_calls B b _ ⟨m.toArray⟩ _ W9.out.bld ?s1 ?s2).mono ?_; (case s1 => exact Nat.le_trans HB1.out W9.out.siz); (case s2 => have := hbnd.out; rw [show (⟨m.toArray⟩ : ByteArray).size = m.length by simp [ByteArray.size]]; simp only [List.length_append, List.length_cons, List.length_nil]; omega); rintro e w10 ⟨rfl, hw9⟩; have W10 := Aside0.mk (W9.out.then hw9); clear hw9))
              | (go_at_call 130; (refine (WriteString_calls B b _ ⟨#[44, 32]⟩ _ HW.out.bld ?s1 ?s2).mono ?_; (case s1 => exact Nat.le_trans HB1.out HW.out.siz); (case s2 => have := hbnd.out; rw [show (⟨#[44, 32]⟩ : ByteArray).size = 2 from rfl]; omega); rintro e w9 ⟨rfl, hw9⟩; have W9 : Aside0 (Wr B b (a3 ++ [44, 32]) w w9) := ⟨HW.out.then hw9⟩; clear hw9)))
            go_roundg k1
            case measure => omega
            case rel => exact ⟨j + 1, by rw [hsucc.out], ⟨by have := HK2.out; omega⟩, ⟨by rw [hfin.out]; exact W10.out⟩⟩
    | succ k1 =>
      have hj : j < l.length := by have := HK.out; omega
      obtain ⟨hmem, hget⟩ := rd_mem l j hj
      obtain ⟨ad, A3, c3, he, hx0, hx1, hx2, hx3, hl3, hi3⟩ := at_T45 HR.out (j : Int) (by omega) (by omega)
      cases he
      have HB := Aside0.mk (below_weaken HBEL.out HB00.out HW.out.bel)
      replace hx0 := (HB.out.cell (World.block_lt_of_cell? w0 _ hx0)).trans hx0
      replace hx1 := (HB.out.cell (World.block_lt_of_cell? w0 _ hx1)).trans hx1
      replace hx2 := (HB.out.cell (World.block_lt_of_cell? w0 _ hx2)).trans hx2
      replace hx3 := (HB.out.cell (World.block_lt_of_cell? w0 _ hx3)).trans hx3
      have hst := Aside0.mk (sepA_take true (l.map txtE) j _ hget)
      have hle := Aside0.mk (sepA_le true (l.map txtE) (j + 1))
      have OK := Aside0.mk (IH'.out _ hmem)
      have HI3 := Aside0.mk hi3
      have HL3 := Aside0.mk hl3
      have HJ := Aside0.mk hj
      have hsucc : Aside0 ((((j + 1 : Nat)) : Int) = wrap64 ((j : Int) + 1)) := ⟨by have := HLL.out; have := HJ.out; unfold wrap64; omega⟩
      have c1 : decide ((j : Int) < (l.length : Int)) = true := decide_eq_true (by omega)
      have p1 : (0 : Int) ≤ (j : Int) := by omega
      have p2 : (j : Int) < (l.length : Int) := by omega
      replace p1 := eq_true p1
      replace p2 := eq_true p2
      obtain ⟨y, hy⟩ : ∃ y, y = rd_T45 l (j : Int) := ⟨_, rfl⟩
      rw [← hy] at hx0 hx1 hx2 hx3 HI3 HL3 OK hst
      obtain ⟨i, hi⟩ : ∃ i, i = (j : Int) := ⟨_, rfl⟩
      rw [← hi] at hx0 hx1 hx2 hx3 hsucc c1 p1 p2 
      clear hmem hget hi3 hl3 hj
      have hws : word.data.toList.length = word.size := by simp
      obtain ⟨a1, ha1⟩ : ∃ a1, a1 = acc ++ word.data.toList ++ [40] ++ sepA true ((l.map txtE).take j) := ⟨_, rfl⟩
      rw [← ha1] at HW
      by_cases hj0 : j = 0
      · have c2 : decide (i > 0) = false := decide_eq_false (by omega)
        have c3' : decide (0 < i) = false := decide_eq_false (by omega)
        have e0 : ((true : Bool) && (j == 0)) = true := by simp [hj0]
        rw [e0, if_pos rfl, List.append_nil] at hst
        have hfin : Aside0 (acc ++ word.data.toList ++ [40] ++ sepA true ((l.map txtE).take (j + 1)) = a1 ++ txtE y) := ⟨by rw [hst.out, ha1]; simp⟩
        have hbnd : Aside0 (a1.length + (txtE y).length ≤ 70368744177664) := ⟨by have h1 := congrArg List.length hst.out; have h2 := hle.out; have h3 := HL.out; have h4 := congrArg List.length ha1; simp only [List.length_append, List.length_cons, List.length_nil] at *; omega⟩
        have HI := Aside0.mk hi
        clear e0 hj0 hy hws ha1 hst hle
        rw [← hi]
        clear hi
        go_wp2_with (first
          | ((with_reducible refine gate_dst (N := 9) rfl ?_); refine box_event ?hg (N := 9) ?hd (cs := #[.int .i64 0, .int .i64 0, .string (⟨#[]⟩ : ByteArray), .slice none 0 0]) (t := 45) ?hr ?_; (case hd => rfl); (case hg => rfl); (case hr => first | (go_simp; done) | (go_simp; rfl)); intro gb hg w8 hbox hb; have BK := Aside0.mk hbox; have W8 := Aside0.mk (HW.out.below HB1.out hb); have GE := Aside0.mk (show w.heap.size ≤ gb by rw [hg]; exact HW.out.siz); clear hb hbox hg; have hcz0 : w8.cell? ⟨gb, 0, none⟩ = some (.int .i64 0) := (blk_cell BK.out 0).trans rfl; have hcz1 : w8.cell? ⟨gb, 1, none⟩ = some (.int .i64 0) := (blk_cell BK.out 1).trans rfl; have hcz2 : w8.cell? ⟨gb, 2, none⟩ = some (.string (⟨#[]⟩ : ByteArray)) := (blk_cell BK.out 2).trans rfl; have hcz3 : w8.cell? ⟨gb, 3, none⟩ = some (.slice none 0 0) := (blk_cell BK.out 3).trans rfl; have hfz0 := blk_frozen BK.out 0; have hfz1 := blk_frozen BK.out 1; have hfz2 := blk_frozen BK.out 2; have hfz3 := blk_frozen BK.out 3; have HS := Aside0.mk (W8.out.store4 HB1.out BK.out GE.out (by decide) (by decide) (.int .i64 y.f0) (.int .i64 y.f1) (.string y.f2) (.slice A3 y.f3.length c3)))
          | (go_at_call 97; go_loud (refine (OK.out A3 c3 B b _ w0 _ HI3.out HL3.out ?b1 HB00.out HS.out.1.bld ?b2 HLD.out ?b3).mono ?_; (case b1 => exact below_weaken HBEL.out HB00.out HS.out.1.bel); (case b2 => exact Nat.le_trans HB1.out HS.out.1.siz); (case b3 => have := hbnd.out; (try simp only [List.length_append, List.length_cons, List.length_nil]); omega); rintro e w10 ⟨rfl, hw10⟩; have W10 := Aside0.mk (HS.out.1.then hw10); clear hw10)))
        go_roundg k1
        case measure => omega
        case rel => exact ⟨j + 1, by rw [hsucc.out], ⟨by have := HK.out; omega⟩, ⟨by rw [hfin.out]; exact W10.out⟩⟩
      · have c2 : decide (i > 0) = true := decide_eq_true (by omega)
        have c3' : decide (0 < i) = true := decide_eq_true (by omega)
        have e0 : ((true : Bool) && (j == 0)) = false := by simp [hj0]
        rw [e0, if_neg (by decide)] at hst
        have hfin : Aside0 (acc ++ word.data.toList ++ [40] ++ sepA true ((l.map txtE).take (j + 1)) = a1 ++ [44, 32] ++ txtE y) := ⟨by rw [hst.out, ha1]; simp⟩
        have hbnd : Aside0 (a1.length + 2 + (txtE y).length ≤ 70368744177664) := ⟨by have h1 := congrArg List.length hst.out; have h2 := hle.out; have h3 := HL.out; have h4 := congrArg List.length ha1; simp only [List.length_append, List.length_cons, List.length_nil] at *; omega⟩
        have HI := Aside0.mk hi
        clear e0 hj0 hy hws ha1 hst hle
        rw [← hi]
        clear hi
        go_wp2_with (first
          | ((with_reducible refine gate_dst (N := 9) rfl ?_); refine box_event ?hg (N := 9) ?hd (cs := #[.int .i64 0, .int .i64 0, .string (⟨#[]⟩ : ByteArray), .slice none 0 0]) (t := 45) ?hr ?_; (case hd => rfl); (case hg => rfl); (case hr => first | (go_simp; done) | (go_simp; rfl)); intro gb hg w8 hbox hb; have BK := Aside0.mk hbox; have W8 := Aside0.mk (HW.out.below HB1.out hb); have GE := Aside0.mk (show w.heap.size ≤ gb by rw [hg]; exact HW.out.siz); clear hb hbox hg; have hcz0 : w8.cell? ⟨gb, 0, none⟩ = some (.int .i64 0) := (blk_cell BK.out 0).trans rfl; have hcz1 : w8.cell? ⟨gb, 1, none⟩ = some (.int .i64 0) := (blk_cell BK.out 1).trans rfl; have hcz2 : w8.cell? ⟨gb, 2, none⟩ = some (.string (⟨#[]⟩ : ByteArray)) := (blk_cell BK.out 2).trans rfl; have hcz3 : w8.cell? ⟨gb, 3, none⟩ = some (.slice none 0 0) := (blk_cell BK.out 3).trans rfl; have hfz0 := blk_frozen BK.out 0; have hfz1 := blk_frozen BK.out 1; have hfz2 := blk_frozen BK.out 2; have hfz3 := blk_frozen BK.out 3; have HS := Aside0.mk (W8.out.store4 HB1.out BK.out GE.out (by decide) (by decide) (.int .i64 y.f0) (.int .i64 y.f1) (.string y.f2) (.slice A3 y.f3.length c3)))
          | (go_at_call 130; go_loud (refine (WriteString_calls B b _ _ _ HS.out.1.bld ?s1 ?s2).mono ?_; (case s1 => exact Nat.le_trans HB1.out HS.out.1.siz); (case s2 => have := hbnd.out; rw [show (⟨#[44, 32]⟩ : ByteArray).size = 2 from rfl]; omega); rintro e w9 ⟨rfl, hw9⟩; have W9 : Aside0 (Wr B b (a1 ++ [44, 32]) w w9) := ⟨HS.out.1.then hw9⟩; have BK9 := Aside0.mk (hw9.keep _ _ _ HS.out.2 (by decide) (by decide)); clear hw9; have hdz0 : w9.cell? ⟨gb, 0, none⟩ = some (.int .i64 y.f0) := (blk_cell BK9.out 0).trans rfl; have hdz1 : w9.cell? ⟨gb, 1, none⟩ = some (.int .i64 y.f1) := (blk_cell BK9.out 1).trans rfl; have hdz2 : w9.cell? ⟨gb, 2, none⟩ = some (.string y.f2) := (blk_cell BK9.out 2).trans rfl; have hdz3 : w9.cell? ⟨gb, 3, none⟩ = some (.slice A3 y.f3.length c3) := (blk_cell BK9.out 3).trans rfl))
          | (go_at_call 97; go_loud (refine (OK.out A3 c3 B b _ w0 _ HI3.out HL3.out ?b1 HB00.out W9.out.bld ?b2 HLD.out ?b3).mono ?_; (case b1 => exact below_weaken HBEL.out HB00.out W9.out.bel); (case b2 => exact Nat.le_trans HB1.out W9.out.siz); (case b3 => have := hbnd.out; (try simp only [List.length_append, List.length_cons, List.length_nil]); omega); rintro e w10 ⟨rfl, hw10⟩; have W10 := Aside0.mk (W9.out.then hw10); clear hw10)))
        go_roundg k1
        case measure => omega
        case rel => exact ⟨j + 1, by rw [hsucc.out], ⟨by have := HK.out; omega⟩, ⟨by rw [hfin.out]; exact W10.out⟩⟩
end Go.Proofs.YtgpkppohfodhdaaGreatDoor.Q
