/- lex.Word, strings.IndexByte, tree.Same: contracts in the print's own form. -/
import Derived.Test.YtmfdkhnfjbgbhaaGreatDoorPlTree
import Derived.Test.YtmfdkhnfjbgbhaaGreatDoorShelf
import Derived.WalkSmall
namespace Go.Proofs.YtmfdkhnfjbgbhaaGreatDoor.Q
open Go.RowKit Go.Proofs.YtmfdkhnfjbgbhaaGreatDoorW.PrintWords Go.Proofs.YtmfdkhnfjbgbhaaGreatDoorW.PrintLast Go.Proofs.YtmfdkhnfjbgbhaaGreatDoorW.PrintMore
set_option linter.unusedVariables false
set_option linter.unusedSimpArgs false
attribute [local go_sem] max2_int min2_int max_two min_two max_three min_three max_four min_four

def strings_IndexByte.f (a0 : ByteArray) (a1 : Int) : Option (Int) := some (Lib.indexByte a0.data.toList a1.toNat.toUInt8)
theorem strings_IndexByte.calls (a0 : ByteArray) (a1 : Int) (r : Int) (w : World) (h : strings_IndexByte.f a0 a1 = some r) :
    Calls Tryz.prog 89 #[.string a0, .int .u8 a1] w fun e w' => e = .returned (.int .i64 r) ∧ Drawn0 w w' := by
  obtain rfl := Option.some.inj h
  refine (Tryz.strings_IndexByte a0 a1 w).mono ?_
  rintro e w' ⟨rfl, rfl⟩
  exact ⟨rfl, Drawn0.refl _⟩

def wordsB : List ByteArray := wordsL.map fun l => ⟨l.toArray⟩
theorem words_at (w : World) : ∀ j, j < wordsB.length → (w.alloc (.cells #[.string ⟨#[108, 111, 119, 101, 115, 116]⟩, .string ⟨#[115, 101, 99, 111, 110, 100]⟩, .string ⟨#[102, 114, 111, 109]⟩, .string ⟨#[108, 101, 115, 115]⟩, .string ⟨#[99, 117, 116]⟩, .string ⟨#[109, 105, 110]⟩, .string ⟨#[109, 97, 120]⟩, .string ⟨#[101, 108, 115, 101]⟩, .string ⟨#[105, 102]⟩, .string ⟨#[109, 111, 114, 101]⟩, .string ⟨#[97, 98, 111, 118, 101]⟩] 9)).cell? ⟨w.heap.size, 0 + j, none⟩ = some (.string (wordsB.getD j ByteArray.empty)) := by
  intro j hj
  have hl : wordsB.length = 11 := rfl
  have : j = 0 ∨ j = 1 ∨ j = 2 ∨ j = 3 ∨ j = 4 ∨ j = 5 ∨ j = 6 ∨ j = 7 ∨ j = 8 ∨ j = 9 ∨ j = 10 := by omega
  rcases this with rfl | rfl | rfl | rfl | rfl | rfl | rfl | rfl | rfl | rfl | rfl
  all_goals exact (blk_cell (blk_new w _) _).trans rfl
def lex_Word.f (a0 : ByteArray) : Option (Bool) := some (Lib.containsS wordsB a0)
set_option maxHeartbeats 1000000 in
set_option maxRecDepth 100000 in
theorem lex_Word.calls (a0 : ByteArray) (r : Bool) (w : World) (h : lex_Word.f a0 = some r) :
    Calls Tryz.prog 83 #[.string a0] w fun e w' => e = .returned (.bool r) ∧ Below w.heap.size w w' := by
  obtain rfl := Option.some.inj h
  clear h
  go_enter Tryz.func83, Tryz.ntmps83
  go_wp2_with (go_at_call 90; go_loud (refine (Tryz.slices_Contains_string w.heap.size 0 11 11 wordsB a0 _ (by decide) (by decide) ?hc).mono ?_; (case hc => exact words_at w); rintro e w1 ⟨rfl, rfl⟩))
  go_ret
  exact ⟨rfl, below_alloc (Below.refl _ _) _⟩

/-! ### tree.Same -/
def SameOK (x : S30) : Prop := ∀ (y : S30) (A : Option Addr) (c : Nat) (B : Option Addr) (d : Nat) (w : World), Kd.C k30 w A x.f3.length x.f3 → x.f3.length ≤ c → Kd.C k30 w B y.f3.length y.f3 → y.f3.length ≤ d →
  Calls Tryz.prog 20 #[.agg #[.int .i64 x.f0, .int .i64 x.f1, .string x.f2, .slice A x.f3.length c], .agg #[.int .i64 y.f0, .int .i64 y.f1, .string y.f2, .slice B y.f3.length d]] w fun e w' => e = .returned (.bool (sameE x y)) ∧ Below w.heap.size w w'
theorem below4 {B g : Nat} {w w1 : World} (h : Below B w w1) (hg : B ≤ g) (u0 u1 u2 u3 : Value) : Below B w ((((w1.setCell ⟨g, 0, none⟩ u0).setCell ⟨g, 1, none⟩ u1).setCell ⟨g, 2, none⟩ u2).setCell ⟨g, 3, none⟩ u3) :=
  (((h.setCell (p := ⟨g, 0, none⟩) hg u0).setCell (p := ⟨g, 1, none⟩) hg u1).setCell (p := ⟨g, 2, none⟩) hg u2).setCell (p := ⟨g, 3, none⟩) hg u3
theorem blk4 {w1 : World} {g : Nat} {t : TypeId} {a0 a1 a2 a3 : Value} (hg : w1.heap[g]? = some (.cells #[a0, a1, a2, a3] t (0, 0))) (u0 u1 u2 u3 : Value) :
    ((((w1.setCell ⟨g, 0, none⟩ u0).setCell ⟨g, 1, none⟩ u1).setCell ⟨g, 2, none⟩ u2).setCell ⟨g, 3, none⟩ u3).heap[g]? = some (.cells #[u0, u1, u2, u3] t (0, 0)) := by
  have e0 := blk_set hg 0 u0
  have e1 := blk_set e0 1 u1
  have e2 := blk_set e1 2 u2
  have e3 := blk_set e2 3 u3
  exact e3
theorem rd_mem' (l : List S30) (j : Nat) (h : j < l.length) : rd_T30 l (j : Int) ∈ l ∧ l.drop j = rd_T30 l (j : Int) :: l.drop (j + 1) := by
  unfold rd_T30
  rw [Int.toNat_natCast, List.getD_eq_getElem?_getD, List.getElem?_eq_getElem h, Option.getD_some]
  exact ⟨List.getElem_mem h, by rw [List.drop_eq_getElem_cons h]⟩
set_option maxHeartbeats 1000000 in
set_option maxRecDepth 100000 in
theorem eq_calls (l m : List S30) (IH : ∀ x ∈ l, SameOK x) (hll : l.length < 4611686018427387904) (A : Option Addr) (c : Nat) (B : Option Addr) (d : Nat) (w : World) (hr : Kd.C k30 w A l.length l) (hc : l.length ≤ c) (hr1 : Kd.C k30 w B m.length m) (hc1 : m.length ≤ d) :
    Calls Tryz.prog 41 #[.slice A l.length c, .slice B m.length d, .func (.func 20) #[] #[]] w fun e w' => e = .returned (.bool (sameA l m)) ∧ Below w.heap.size w w' := by
  have HR := Aside0.mk hr
  have HR1 := Aside0.mk hr1
  have HLL := Aside0.mk hll
  have IH' := Aside0.mk IH
  have HB := Aside0.mk (Below.refl w.heap.size w)
  clear hr hr1 hll IH
  by_cases hlen : l.length = m.length
  · rw [← hlen]
    have HLEN := Aside0.mk hlen
    clear hlen
    go_enter Tryz.func41, Tryz.ntmps41
    go_wp2
    go_loopg [17] l.length (fun kq v17 w' => ∃ j : Nat, v17 = .int .i64 (j : Int) ∧ Aside0 (kq + j = l.length) ∧ Aside0 (sameA (l.drop j) (m.drop j) = sameA l m) ∧ Aside0 (Below w.heap.size w w'))
    case atStart => exact ⟨0, rfl, ⟨by omega⟩, ⟨rfl⟩, HB⟩
    case round =>
      clear HB
      obtain ⟨j, rfl, HK, HS, HB⟩ := hrel
      cases gk with
      | zero =>
        have hj : j = l.length := by have := HK.out; omega
        have hfin : Aside0 (sameA l m = true) := ⟨by rw [← HS.out, hj, List.drop_length, HLEN.out, List.drop_length]; rfl⟩
        have c1 : decide ((j : Int) < (l.length : Int)) = false := decide_eq_false (by omega)
        obtain ⟨i, hi⟩ : ∃ i, i = (j : Int) := ⟨_, rfl⟩
        rw [← hi] at c1
        have HI := Aside0.mk hi
        rw [← hi]
        clear hj HS hi
        go_wp2
        go_ret
        exact ⟨by rw [hfin.out]; rfl, HB.out⟩
      | succ k1 =>
        have hj : j < l.length := by have := HK.out; omega
        have hjm : j < m.length := by have := HLEN.out; omega
        obtain ⟨hmem, hdr⟩ := rd_mem' l j hj
        obtain ⟨-, hdr1⟩ := rd_mem' m j hjm
        obtain ⟨ad, A3, c3, he, hx0, hx1, hx2, hx3, hl3, hi3⟩ := at_T30 HR.out (j : Int) (by omega) (by omega)
        cases he
        obtain ⟨bd, B3, d3, he, hy0, hy1, hy2, hy3, hl4, hi4⟩ := at_T30 HR1.out (j : Int) (by omega) (by omega)
        cases he
        replace hx0 := (HB.out.cell (World.block_lt_of_cell? w _ hx0)).trans hx0
        replace hx1 := (HB.out.cell (World.block_lt_of_cell? w _ hx1)).trans hx1
        replace hx2 := (HB.out.cell (World.block_lt_of_cell? w _ hx2)).trans hx2
        replace hx3 := (HB.out.cell (World.block_lt_of_cell? w _ hx3)).trans hx3
        have OK := Aside0.mk (IH'.out _ hmem)
        have HI3 := Aside0.mk hi3
        have HL3 := Aside0.mk hl3
        have HI4 := Aside0.mk hi4
        have HL4 := Aside0.mk hl4
        have HJ := Aside0.mk hj
        have hsucc : Aside0 ((((j + 1 : Nat)) : Int) = wrap64 ((j : Int) + 1)) := ⟨by have := HLL.out; have := HJ.out; unfold wrap64; omega⟩
        have c1 : decide ((j : Int) < (l.length : Int)) = true := decide_eq_true (by omega)
        have p1 : ((0 : Int) ≤ (j : Int)) = True := eq_true (by omega)
        have p2 : ((j : Int) < (l.length : Int)) = True := eq_true (by omega)
        obtain ⟨x, hx⟩ : ∃ x, x = rd_T30 l (j : Int) := ⟨_, rfl⟩
        obtain ⟨y, hy⟩ : ∃ y, y = rd_T30 m (j : Int) := ⟨_, rfl⟩
        rw [← hx] at hx0 hx1 hx2 hx3 HI3 HL3 OK hdr
        rw [← hy] at hy0 hy1 hy2 hy3 HI4 HL4 hdr1
        have hst : Aside0 (sameA l m = (sameE x y && sameA (l.drop (j + 1)) (m.drop (j + 1)))) := ⟨by rw [← HS.out, hdr, hdr1]; rfl⟩
        obtain ⟨i, hi⟩ : ∃ i, i = (j : Int) := ⟨_, rfl⟩
        rw [← hi] at hx0 hx1 hx2 hx3 hy0 hy1 hy2 hy3 hsucc c1 p1 p2
        have HI := Aside0.mk hi
        clear hmem hdr hdr1 hi3 hl3 hi4 hl4 hj hjm hx hy HS
        rw [← hi]
        clear hi
        rcases hsm : sameE x y with _ | _
        all_goals
          go_upto_region 6 with (first
            | ((with_reducible refine gate_dst (N := 8) rfl ?_); refine box_event ?hg (N := 8) ?hd (cs := #[.int .i64 0, .int .i64 0, .string (⟨#[]⟩ : ByteArray), .slice none 0 0]) (t := 30) ?hr ?_; (case hd => rfl); (case hg => rfl); (case hr => first | (go_simp; done) | (go_simp; rfl)); intro gb hg w8 hbox hb; have BK := Aside0.mk hbox; have HB8 := Aside0.mk (below_step HB.out hb); have GE := Aside0.mk (show w.heap.size ≤ gb by rw [hg]; exact HB.out.size); clear hb hbox hg; have hcz0 : w8.cell? ⟨gb, 0, none⟩ = some (.int .i64 0) := (blk_cell BK.out 0).trans rfl; have hcz1 : w8.cell? ⟨gb, 1, none⟩ = some (.int .i64 0) := (blk_cell BK.out 1).trans rfl; have hcz2 : w8.cell? ⟨gb, 2, none⟩ = some (.string (⟨#[]⟩ : ByteArray)) := (blk_cell BK.out 2).trans rfl; have hcz3 : w8.cell? ⟨gb, 3, none⟩ = some (.slice none 0 0) := (blk_cell BK.out 3).trans rfl; have hfz0 := blk_frozen BK.out 0; have hfz1 := blk_frozen BK.out 1; have hfz2 := blk_frozen BK.out 2; have hfz3 := blk_frozen BK.out 3; have BKC := Aside0.mk (blk4 BK.out (.int .i64 x.f0) (.int .i64 x.f1) (.string x.f2) (.slice A3 x.f3.length c3)); have HBC := Aside0.mk (below4 HB8.out GE.out (.int .i64 x.f0) (.int .i64 x.f1) (.string x.f2) (.slice A3 x.f3.length c3))))
          generalize ((((w8.setCell ⟨gb, 0, none⟩ (.int .i64 x.f0)).setCell ⟨gb, 1, none⟩ (.int .i64 x.f1)).setCell ⟨gb, 2, none⟩ (.string x.f2)).setCell ⟨gb, 3, none⟩ (.slice A3 x.f3.length c3)) = wc at BKC HBC ⊢
          clear hcz0 hcz1 hcz2 hcz3 hfz0 hfz1 hfz2 hfz3 hx0 hx1 hx2 hx3
          replace hy0 := (HBC.out.cell (World.block_lt_of_cell? w _ hy0)).trans hy0
          replace hy1 := (HBC.out.cell (World.block_lt_of_cell? w _ hy1)).trans hy1
          replace hy2 := (HBC.out.cell (World.block_lt_of_cell? w _ hy2)).trans hy2
          replace hy3 := (HBC.out.cell (World.block_lt_of_cell? w _ hy3)).trans hy3
          have hez0 : (wc.alloc (.cells #[.int .i64 y.f0, .int .i64 y.f1, .string y.f2, .slice B3 y.f3.length d3] 30)).cell? ⟨gb, 0, none⟩ = some (.int .i64 x.f0) := (blk_cell (blk_alloc BKC.out _) 0).trans rfl
          have hfz0 : (wc.alloc (.cells #[.int .i64 y.f0, .int .i64 y.f1, .string y.f2, .slice B3 y.f3.length d3] 30)).cell? ⟨wc.heap.size, 0, none⟩ = some (.int .i64 y.f0) := (blk_cell (blk_new wc _) 0).trans rfl
          have hez1 : (wc.alloc (.cells #[.int .i64 y.f0, .int .i64 y.f1, .string y.f2, .slice B3 y.f3.length d3] 30)).cell? ⟨gb, 1, none⟩ = some (.int .i64 x.f1) := (blk_cell (blk_alloc BKC.out _) 1).trans rfl
          have hfz1 : (wc.alloc (.cells #[.int .i64 y.f0, .int .i64 y.f1, .string y.f2, .slice B3 y.f3.length d3] 30)).cell? ⟨wc.heap.size, 1, none⟩ = some (.int .i64 y.f1) := (blk_cell (blk_new wc _) 1).trans rfl
          have hez2 : (wc.alloc (.cells #[.int .i64 y.f0, .int .i64 y.f1, .string y.f2, .slice B3 y.f3.length d3] 30)).cell? ⟨gb, 2, none⟩ = some (.string x.f2) := (blk_cell (blk_alloc BKC.out _) 2).trans rfl
          have hfz2 : (wc.alloc (.cells #[.int .i64 y.f0, .int .i64 y.f1, .string y.f2, .slice B3 y.f3.length d3] 30)).cell? ⟨wc.heap.size, 2, none⟩ = some (.string y.f2) := (blk_cell (blk_new wc _) 2).trans rfl
          have hez3 : (wc.alloc (.cells #[.int .i64 y.f0, .int .i64 y.f1, .string y.f2, .slice B3 y.f3.length d3] 30)).cell? ⟨gb, 3, none⟩ = some (.slice A3 x.f3.length c3) := (blk_cell (blk_alloc BKC.out _) 3).trans rfl
          have hfz3 : (wc.alloc (.cells #[.int .i64 y.f0, .int .i64 y.f1, .string y.f2, .slice B3 y.f3.length d3] 30)).cell? ⟨wc.heap.size, 3, none⟩ = some (.slice B3 y.f3.length d3) := (blk_cell (blk_new wc _) 3).trans rfl
          have HBD := Aside0.mk (below_alloc HBC.out (.cells #[.int .i64 y.f0, .int .i64 y.f1, .string y.f2, .slice B3 y.f3.length d3] 30))
          go_wp2_with (first
            | (go_at_call 20; go_loud (refine (OK.out y A3 c3 B3 d3 _ (Kd.C_below HI3.out HBD.out) HL3.out (Kd.C_below HI4.out HBD.out) HL4.out).mono ?_; rw [hsm]; rintro e w10 ⟨rfl, hb⟩; have HB10 := Aside0.mk (below_step HBD.out hb); clear hb)))
        · go_ret
          exact ⟨by rw [hst.out, hsm]; rfl, HB10.out⟩
        · go_roundg k1
          case measure => omega
          case rel => exact ⟨j + 1, by rw [hsucc.out], ⟨by have := HK.out; omega⟩, ⟨by rw [hst.out, hsm]; rfl⟩, HB10⟩
  · have hne : ((l.length : Int) != (m.length : Int)) = true := by simp; omega
    rw [sameA_len l m hlen]
    go_enter Tryz.func41, Tryz.ntmps41
    go_wp2
    go_ret
    exact ⟨rfl, HB.out⟩
set_option maxHeartbeats 1000000 in
set_option maxRecDepth 100000 in
theorem same_walk (k n : Int) (nm : ByteArray) (l : List S30) (IH : ∀ y ∈ l, SameOK y) (hll : l.length < 4611686018427387904) : SameOK ⟨k, n, nm, l⟩ := by
  intro y A c B d w hr hc hr1 hc1
  have HR := Aside0.mk hr
  have HR1 := Aside0.mk hr1
  have HC := Aside0.mk hc
  have HC1 := Aside0.mk hc1
  have HLL := Aside0.mk hll
  have IH' := Aside0.mk IH
  clear hr hr1 hc hc1 hll IH
  have hres : sameE ⟨k, n, nm, l⟩ y = (k == y.f0 && (n == y.f1 && (nm.toList == y.f2.toList && sameA l y.f3))) := rfl
  rcases h0 : (k == y.f0) with _ | _
  · have HF : Aside0 (sameE ⟨k, n, nm, l⟩ y = false) := ⟨by rw [hres, h0]; rfl⟩
    clear hres
    · rw [HF.out]
      go_enter Tryz.func20, Tryz.ntmps20
      go_wp2_with (first
        | ((with_reducible refine gate_dst (N := 2) rfl ?_); refine box_event ?hg (N := 2) ?hd (cs := #[.int .i64 k, .int .i64 n, .string nm, .slice A l.length c]) (t := 30) ?hr ?_; (case hd => rfl); (case hg => rfl); (case hr => first | (go_simp; done) | (go_simp; rfl)); intro ga hg w1 hbox hb; have BA := Aside0.mk hbox; have HB1 := Aside0.mk hb; clear hb hbox hg)
        | ((with_reducible refine gate_dst (N := 3) rfl ?_); refine box_event ?hg (N := 3) ?hd (cs := #[.int .i64 y.f0, .int .i64 y.f1, .string y.f2, .slice B y.f3.length d]) (t := 30) ?hr ?_; (case hd => rfl); (case hg => rfl); (case hr => first | (go_simp; done) | (go_simp; rfl)); intro gb hg w2 hbox hb; have BB := Aside0.mk hbox; have HB2 := Aside0.mk (below_step HB1.out hb); have BA2 := Aside0.mk (blk_below BA.out hb); clear hb hbox hg; have ha0 : w2.cell? ⟨ga, 0, none⟩ = some (.int .i64 k) := (blk_cell BA2.out 0).trans rfl; have hb0 : w2.cell? ⟨gb, 0, none⟩ = some (.int .i64 y.f0) := (blk_cell BB.out 0).trans rfl; have ha1 : w2.cell? ⟨ga, 1, none⟩ = some (.int .i64 n) := (blk_cell BA2.out 1).trans rfl; have hb1 : w2.cell? ⟨gb, 1, none⟩ = some (.int .i64 y.f1) := (blk_cell BB.out 1).trans rfl; have ha2 : w2.cell? ⟨ga, 2, none⟩ = some (.string nm) := (blk_cell BA2.out 2).trans rfl; have hb2 : w2.cell? ⟨gb, 2, none⟩ = some (.string y.f2) := (blk_cell BB.out 2).trans rfl; have ha3 : w2.cell? ⟨ga, 3, none⟩ = some (.slice A l.length c) := (blk_cell BA2.out 3).trans rfl; have hb3 : w2.cell? ⟨gb, 3, none⟩ = some (.slice B y.f3.length d) := (blk_cell BB.out 3).trans rfl))
      go_ret
      exact ⟨rfl, HB2.out⟩
  rcases h1 : (n == y.f1) with _ | _
  · have HF : Aside0 (sameE ⟨k, n, nm, l⟩ y = false) := ⟨by rw [hres, h0, h1]; rfl⟩
    clear hres
    · rw [HF.out]
      go_enter Tryz.func20, Tryz.ntmps20
      go_wp2_with (first
        | ((with_reducible refine gate_dst (N := 2) rfl ?_); refine box_event ?hg (N := 2) ?hd (cs := #[.int .i64 k, .int .i64 n, .string nm, .slice A l.length c]) (t := 30) ?hr ?_; (case hd => rfl); (case hg => rfl); (case hr => first | (go_simp; done) | (go_simp; rfl)); intro ga hg w1 hbox hb; have BA := Aside0.mk hbox; have HB1 := Aside0.mk hb; clear hb hbox hg)
        | ((with_reducible refine gate_dst (N := 3) rfl ?_); refine box_event ?hg (N := 3) ?hd (cs := #[.int .i64 y.f0, .int .i64 y.f1, .string y.f2, .slice B y.f3.length d]) (t := 30) ?hr ?_; (case hd => rfl); (case hg => rfl); (case hr => first | (go_simp; done) | (go_simp; rfl)); intro gb hg w2 hbox hb; have BB := Aside0.mk hbox; have HB2 := Aside0.mk (below_step HB1.out hb); have BA2 := Aside0.mk (blk_below BA.out hb); clear hb hbox hg; have ha0 : w2.cell? ⟨ga, 0, none⟩ = some (.int .i64 k) := (blk_cell BA2.out 0).trans rfl; have hb0 : w2.cell? ⟨gb, 0, none⟩ = some (.int .i64 y.f0) := (blk_cell BB.out 0).trans rfl; have ha1 : w2.cell? ⟨ga, 1, none⟩ = some (.int .i64 n) := (blk_cell BA2.out 1).trans rfl; have hb1 : w2.cell? ⟨gb, 1, none⟩ = some (.int .i64 y.f1) := (blk_cell BB.out 1).trans rfl; have ha2 : w2.cell? ⟨ga, 2, none⟩ = some (.string nm) := (blk_cell BA2.out 2).trans rfl; have hb2 : w2.cell? ⟨gb, 2, none⟩ = some (.string y.f2) := (blk_cell BB.out 2).trans rfl; have ha3 : w2.cell? ⟨ga, 3, none⟩ = some (.slice A l.length c) := (blk_cell BA2.out 3).trans rfl; have hb3 : w2.cell? ⟨gb, 3, none⟩ = some (.slice B y.f3.length d) := (blk_cell BB.out 3).trans rfl))
      go_ret
      exact ⟨rfl, HB2.out⟩
  rcases h2 : (nm.toList == y.f2.toList) with _ | _
  · have HF : Aside0 (sameE ⟨k, n, nm, l⟩ y = false) := ⟨by rw [hres, h0, h1, h2]; rfl⟩
    clear hres
    · rw [HF.out]
      go_enter Tryz.func20, Tryz.ntmps20
      go_wp2_with (first
        | ((with_reducible refine gate_dst (N := 2) rfl ?_); refine box_event ?hg (N := 2) ?hd (cs := #[.int .i64 k, .int .i64 n, .string nm, .slice A l.length c]) (t := 30) ?hr ?_; (case hd => rfl); (case hg => rfl); (case hr => first | (go_simp; done) | (go_simp; rfl)); intro ga hg w1 hbox hb; have BA := Aside0.mk hbox; have HB1 := Aside0.mk hb; clear hb hbox hg)
        | ((with_reducible refine gate_dst (N := 3) rfl ?_); refine box_event ?hg (N := 3) ?hd (cs := #[.int .i64 y.f0, .int .i64 y.f1, .string y.f2, .slice B y.f3.length d]) (t := 30) ?hr ?_; (case hd => rfl); (case hg => rfl); (case hr => first | (go_simp; done) | (go_simp; rfl)); intro gb hg w2 hbox hb; have BB := Aside0.mk hbox; have HB2 := Aside0.mk (below_step HB1.out hb); have BA2 := Aside0.mk (blk_below BA.out hb); clear hb hbox hg; have ha0 : w2.cell? ⟨ga, 0, none⟩ = some (.int .i64 k) := (blk_cell BA2.out 0).trans rfl; have hb0 : w2.cell? ⟨gb, 0, none⟩ = some (.int .i64 y.f0) := (blk_cell BB.out 0).trans rfl; have ha1 : w2.cell? ⟨ga, 1, none⟩ = some (.int .i64 n) := (blk_cell BA2.out 1).trans rfl; have hb1 : w2.cell? ⟨gb, 1, none⟩ = some (.int .i64 y.f1) := (blk_cell BB.out 1).trans rfl; have ha2 : w2.cell? ⟨ga, 2, none⟩ = some (.string nm) := (blk_cell BA2.out 2).trans rfl; have hb2 : w2.cell? ⟨gb, 2, none⟩ = some (.string y.f2) := (blk_cell BB.out 2).trans rfl; have ha3 : w2.cell? ⟨ga, 3, none⟩ = some (.slice A l.length c) := (blk_cell BA2.out 3).trans rfl; have hb3 : w2.cell? ⟨gb, 3, none⟩ = some (.slice B y.f3.length d) := (blk_cell BB.out 3).trans rfl))
      go_ret
      exact ⟨rfl, HB2.out⟩
  · have HF : Aside0 (sameE ⟨k, n, nm, l⟩ y = sameA l y.f3) := ⟨by rw [hres, h0, h1, h2]; rfl⟩
    clear hres
    · rw [HF.out]
      go_enter Tryz.func20, Tryz.ntmps20
      go_wp2_with (first
        | ((with_reducible refine gate_dst (N := 2) rfl ?_); refine box_event ?hg (N := 2) ?hd (cs := #[.int .i64 k, .int .i64 n, .string nm, .slice A l.length c]) (t := 30) ?hr ?_; (case hd => rfl); (case hg => rfl); (case hr => first | (go_simp; done) | (go_simp; rfl)); intro ga hg w1 hbox hb; have BA := Aside0.mk hbox; have HB1 := Aside0.mk hb; clear hb hbox hg)
        | ((with_reducible refine gate_dst (N := 3) rfl ?_); refine box_event ?hg (N := 3) ?hd (cs := #[.int .i64 y.f0, .int .i64 y.f1, .string y.f2, .slice B y.f3.length d]) (t := 30) ?hr ?_; (case hd => rfl); (case hg => rfl); (case hr => first | (go_simp; done) | (go_simp; rfl)); intro gb hg w2 hbox hb; have BB := Aside0.mk hbox; have HB2 := Aside0.mk (below_step HB1.out hb); have BA2 := Aside0.mk (blk_below BA.out hb); clear hb hbox hg; have ha0 : w2.cell? ⟨ga, 0, none⟩ = some (.int .i64 k) := (blk_cell BA2.out 0).trans rfl; have hb0 : w2.cell? ⟨gb, 0, none⟩ = some (.int .i64 y.f0) := (blk_cell BB.out 0).trans rfl; have ha1 : w2.cell? ⟨ga, 1, none⟩ = some (.int .i64 n) := (blk_cell BA2.out 1).trans rfl; have hb1 : w2.cell? ⟨gb, 1, none⟩ = some (.int .i64 y.f1) := (blk_cell BB.out 1).trans rfl; have ha2 : w2.cell? ⟨ga, 2, none⟩ = some (.string nm) := (blk_cell BA2.out 2).trans rfl; have hb2 : w2.cell? ⟨gb, 2, none⟩ = some (.string y.f2) := (blk_cell BB.out 2).trans rfl; have ha3 : w2.cell? ⟨ga, 3, none⟩ = some (.slice A l.length c) := (blk_cell BA2.out 3).trans rfl; have hb3 : w2.cell? ⟨gb, 3, none⟩ = some (.slice B y.f3.length d) := (blk_cell BB.out 3).trans rfl)
        | (go_at_call 41; go_loud (refine (eq_calls l y.f3 IH'.out HLL.out A c B d _ (Kd.C_below HR.out HB2.out) HC.out (Kd.C_below HR1.out HB2.out) HC1.out).mono ?_; rintro e w3 ⟨rfl, hb⟩; have HB3 := Aside0.mk (below_step HB2.out hb); clear hb)))
      go_ret
      exact ⟨rfl, HB3.out⟩
theorem same_ok : ∀ (s : Nat) (x : S30), SizeOf.sizeOf x < s → rngE x = true → SameOK x
  | 0, x, h, _ => absurd h (Nat.not_lt_zero _)
  | s + 1, ⟨k, n, nm, l⟩, h, hr => by
    have IH : ∀ y ∈ l, SameOK y := by
      intro y hy
      refine same_ok s y ?_ ?_
      · have := List.sizeOf_lt_of_mem hy
        rw [S30.mk.sizeOf_spec] at h
        omega
      · rw [rngE, Bool.and_eq_true] at hr
        exact rngA_mem l hr.2 y hy
    have hn : l.length < 4611686018427387904 := by
      rw [rngE, Bool.and_eq_true] at hr
      exact (of_decide_eq_true hr.1).2
    intro y A c B d w h1 h2 h3 h4
    exact same_walk k n nm l IH hn y A c B d w h1 h2 h3 h4
def tree_Same.f (a0_0 : Int) (a0_1 : Int) (a0_2 : ByteArray) (l0_3 : List (S30)) (a1_0 : Int) (a1_1 : Int) (a1_2 : ByteArray) (l1_3 : List (S30)) : Option (Bool) :=
  if rngE ⟨a0_0, a0_1, a0_2, l0_3⟩ = true then some (sameE ⟨a0_0, a0_1, a0_2, l0_3⟩ ⟨a1_0, a1_1, a1_2, l1_3⟩) else none
theorem tree_Same.calls (a0_0 : Int) (a0_1 : Int) (a0_2 : ByteArray) (A0_3 : Option Addr) (c0_3 : Nat) (l0_3 : List (S30)) (a1_0 : Int) (a1_1 : Int) (a1_2 : ByteArray) (A1_3 : Option Addr) (c1_3 : Nat) (l1_3 : List (S30)) (r : Bool) (w : World) (hr0_3 : Kd.C k30 w A0_3 l0_3.length l0_3) (hc0_3 : l0_3.length ≤ c0_3) (hr1_3 : Kd.C k30 w A1_3 l1_3.length l1_3) (hc1_3 : l1_3.length ≤ c1_3) (h : tree_Same.f a0_0 a0_1 a0_2 l0_3 a1_0 a1_1 a1_2 l1_3 = some r) :
    Calls Tryz.prog 20 #[.agg #[.int .i64 a0_0, .int .i64 a0_1, .string a0_2, .slice A0_3 l0_3.length c0_3], .agg #[.int .i64 a1_0, .int .i64 a1_1, .string a1_2, .slice A1_3 l1_3.length c1_3]] w fun e w' => e = .returned (.bool r) ∧ Below w.heap.size w w' := by
  unfold tree_Same.f at h
  by_cases hh : rngE ⟨a0_0, a0_1, a0_2, l0_3⟩ = true
  · rw [if_pos hh] at h
    obtain rfl := Option.some.inj h
    exact same_ok _ _ (Nat.lt_succ_self _) hh ⟨a1_0, a1_1, a1_2, l1_3⟩ A0_3 c0_3 A1_3 c1_3 w hr0_3 hc0_3 hr1_3 hc1_3
  · rw [if_neg hh] at h
    exact absurd h (by simp)
end Go.Proofs.YtmfdkhnfjbgbhaaGreatDoor.Q
