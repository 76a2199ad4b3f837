import Derived.Test.YtgpkppohfodhdaaGreatDoorExtU
import Derived.Deep.RegionHeld3
namespace Go.Proofs.YtgpkppohfodhdaaGreatDoor.Q
open Go.RowKit Go.Proofs.YtgpkppohfodhdaaGreatDoorW.PrintWords Go.Proofs.YtgpkppohfodhdaaGreatDoorW.PrintLast Go.Proofs.YtgpkppohfodhdaaGreatDoorW.PrintMore
open Go.Proofs.YtgpkppohfodhdaaGreatDoor.BuilderT (KeepT)
set_option linter.unusedVariables false
set_option linter.unusedSimpArgs false
attribute [local go_sem] max2_int min2_int max_two min_two max_three min_three max_four min_four
theorem form_word (k : Int) : ∃ m a ok, tree_Form.f k = some (⟨(wordL k).toArray⟩, m, a, ok) := by
  unfold tree_Form.f wordL
  rcases formT k with _ | ⟨x, m, a⟩
  · exact ⟨0, 0, false, rfl⟩
  · exact ⟨m, a, true, rfl⟩
theorem hm_one (w : World) (g : Nat) (m : List UInt8) (s : ByteArray) (hs : s = ⟨m.toArray⟩) (hg : w.heap[g]? = some (.cells #[.string s] 9 (0, 0))) : ∀ j x, [m][j]? = some x → ∃ ad, some (⟨g, 0, none⟩ : Addr) = some ad ∧ ∀ w', KeepT w w' → w'.cell? (ad.add j) = some (.string ⟨x.toArray⟩) := by
  subst hs
  intro j x hx
  match j, hx with
  | 0, hx =>
    obtain rfl : m = x := by simpa using hx
    refine ⟨_, rfl, fun w' hk => ?_⟩
    rw [show (⟨g, 0, none⟩ : Addr).add 0 = ⟨g, 0, none⟩ from rfl]
    exact (blk_cell (hk g _ _ hg (by decide) (by decide)) 0).trans rfl
  | j + 1, hx => simp at hx
set_option maxHeartbeats 1000000 in
set_option maxRecDepth 100000 in
theorem print_word1 (n : Int) (nm : ByteArray) (l : List S45) (A : Option Addr) (c : Nat) (B b : Nat) (acc : List UInt8) (w0 w : World) (hr : Kd.C k45 w0 A l.length l) (hc : l.length ≤ c) (hbel : Below w0.heap.size w0 w) (hB0 : w0.heap.size ≤ B) (hbld : IsB B b acc w) (hB : B ≤ w.heap.size) (hLd : LaidW w0) (hl : acc.length + (wordL 1).length ≤ 70368744177664) :
  Calls Tryz.prog 97 #[.pointer (some ⟨b, 0, none⟩), .agg #[.int .i64 1, .int .i64 n, .string nm, .slice A l.length c]] w fun e w' => e = .returned (.tuple #[]) ∧ Wr B b (acc ++ wordL 1) w w' := by
  have HR := Aside0.mk hr
  have HBEL := Aside0.mk hbel
  have HLD := Aside0.mk hLd
  have HL := Aside0.mk hl
  have HB1 := Aside0.mk hB
  have HB00 := Aside0.mk hB0
  have HC := Aside0.mk hc
  have W0 := Aside0.mk (Wr.refl hbld)
  obtain ⟨m_, a_, ok_, hF⟩ := form_word 1
  have HF := Aside0.mk hF
  clear hr hbel hLd hl hB hB0 hbld hF hc
  go_enter Tryz.func97, Tryz.ntmps97
  go_wp2_with (first
    | ((with_reducible refine gate_dst (N := 3) rfl ?_); refine box_event ?hg (N := 3) ?hd (cs := #[.int .i64 1, .int .i64 n, .string nm, .slice A l.length c]) (t := 45) ?hr ?_; (case hd => rfl); (case hg => rfl); (case hr => first | (go_simp; done) | (go_simp; rfl)); intro gb hg w8 hbox hb; have BK := Aside0.mk hbox; have W8 := Aside0.mk (W0.out.below HB1.out hb); have GE := Aside0.mk (show w.heap.size ≤ gb by rw [hg]; exact Nat.le_refl _); clear hb hbox hg; have hcz0 : w8.cell? ⟨gb, 0, none⟩ = some (.int .i64 1) := (blk_cell BK.out 0).trans rfl)
    | (go_at_call 94; refine (tree_Form.calls 1 _ _ _ _ _ HF.out).mono ?_; rintro e w9 ⟨rfl, hb⟩; have W9 := Aside0.mk (W8.out.below HB1.out hb); have BK9 := Aside0.mk (blk_below BK.out hb); clear hb; have hdz0 : w9.cell? ⟨gb, 0, none⟩ = some (.int .i64 1) := (blk_cell BK9.out 0).trans rfl; have hdz1 : w9.cell? ⟨gb, 1, none⟩ = some (.int .i64 n) := (blk_cell BK9.out 1).trans rfl; have hdz2 : w9.cell? ⟨gb, 2, none⟩ = some (.string nm) := (blk_cell BK9.out 2).trans rfl; have hdz3 : w9.cell? ⟨gb, 3, none⟩ = some (.slice A l.length c) := (blk_cell BK9.out 3).trans rfl)
    | (go_at_call 130; go_loud (refine (WriteString_calls B b acc ⟨(wordL 1).toArray⟩ _ W9.out.bld ?s1 ?s2).mono ?_; (case s1 => exact Nat.le_trans HB1.out W9.out.siz); (case s2 => have := HL.out; rw [show (⟨(wordL 1).toArray⟩ : ByteArray).size = (wordL 1).length by simp [ByteArray.size]]; omega); rintro e w10 ⟨rfl, hw9⟩; have W10 := Aside0.mk (W9.out.then hw9); clear hw9)))
  go_end0
  exact ⟨rfl, W10.out⟩
set_option maxHeartbeats 1000000 in
set_option maxRecDepth 100000 in
theorem print_word2 (n : Int) (nm : ByteArray) (l : List S45) (A : Option Addr) (c : Nat) (B b : Nat) (acc : List UInt8) (w0 w : World) (hr : Kd.C k45 w0 A l.length l) (hc : l.length ≤ c) (hbel : Below w0.heap.size w0 w) (hB0 : w0.heap.size ≤ B) (hbld : IsB B b acc w) (hB : B ≤ w.heap.size) (hLd : LaidW w0) (hl : acc.length + (wordL 2).length ≤ 70368744177664) :
  Calls Tryz.prog 97 #[.pointer (some ⟨b, 0, none⟩), .agg #[.int .i64 2, .int .i64 n, .string nm, .slice A l.length c]] w fun e w' => e = .returned (.tuple #[]) ∧ Wr B b (acc ++ wordL 2) w w' := by
  have HR := Aside0.mk hr
  have HBEL := Aside0.mk hbel
  have HLD := Aside0.mk hLd
  have HL := Aside0.mk hl
  have HB1 := Aside0.mk hB
  have HB00 := Aside0.mk hB0
  have HC := Aside0.mk hc
  have W0 := Aside0.mk (Wr.refl hbld)
  obtain ⟨m_, a_, ok_, hF⟩ := form_word 2
  have HF := Aside0.mk hF
  clear hr hbel hLd hl hB hB0 hbld hF hc
  go_enter Tryz.func97, Tryz.ntmps97
  go_wp2_with (first
    | ((with_reducible refine gate_dst (N := 3) rfl ?_); refine box_event ?hg (N := 3) ?hd (cs := #[.int .i64 2, .int .i64 n, .string nm, .slice A l.length c]) (t := 45) ?hr ?_; (case hd => rfl); (case hg => rfl); (case hr => first | (go_simp; done) | (go_simp; rfl)); intro gb hg w8 hbox hb; have BK := Aside0.mk hbox; have W8 := Aside0.mk (W0.out.below HB1.out hb); have GE := Aside0.mk (show w.heap.size ≤ gb by rw [hg]; exact Nat.le_refl _); clear hb hbox hg; have hcz0 : w8.cell? ⟨gb, 0, none⟩ = some (.int .i64 2) := (blk_cell BK.out 0).trans rfl)
    | (go_at_call 94; refine (tree_Form.calls 2 _ _ _ _ _ HF.out).mono ?_; rintro e w9 ⟨rfl, hb⟩; have W9 := Aside0.mk (W8.out.below HB1.out hb); have BK9 := Aside0.mk (blk_below BK.out hb); clear hb; have hdz0 : w9.cell? ⟨gb, 0, none⟩ = some (.int .i64 2) := (blk_cell BK9.out 0).trans rfl; have hdz1 : w9.cell? ⟨gb, 1, none⟩ = some (.int .i64 n) := (blk_cell BK9.out 1).trans rfl; have hdz2 : w9.cell? ⟨gb, 2, none⟩ = some (.string nm) := (blk_cell BK9.out 2).trans rfl; have hdz3 : w9.cell? ⟨gb, 3, none⟩ = some (.slice A l.length c) := (blk_cell BK9.out 3).trans rfl)
    | (go_at_call 130; go_loud (refine (WriteString_calls B b acc ⟨(wordL 2).toArray⟩ _ W9.out.bld ?s1 ?s2).mono ?_; (case s1 => exact Nat.le_trans HB1.out W9.out.siz); (case s2 => have := HL.out; rw [show (⟨(wordL 2).toArray⟩ : ByteArray).size = (wordL 2).length by simp [ByteArray.size]]; omega); rintro e w10 ⟨rfl, hw9⟩; have W10 := Aside0.mk (W9.out.then hw9); clear hw9)))
  go_end0
  exact ⟨rfl, W10.out⟩
set_option maxHeartbeats 1000000 in
set_option maxRecDepth 100000 in
theorem print_fixed (n : Int) (nm : ByteArray) (l : List S45) (A : Option Addr) (c : Nat) (B b : Nat) (acc : List UInt8) (w0 w : World) (hr : Kd.C k45 w0 A l.length l) (hc : l.length ≤ c) (hbel : Below w0.heap.size w0 w) (hB0 : w0.heap.size ≤ B) (hbld : IsB B b acc w) (hB : B ≤ w.heap.size) (hLd : LaidW w0) (hl : acc.length + (Pl.textL n).length ≤ 70368744177664) :
  Calls Tryz.prog 97 #[.pointer (some ⟨b, 0, none⟩), .agg #[.int .i64 4, .int .i64 n, .string nm, .slice A l.length c]] w fun e w' => e = .returned (.tuple #[]) ∧ Wr B b (acc ++ Pl.textL n) w w' := by
  have HR := Aside0.mk hr
  have HBEL := Aside0.mk hbel
  have HLD := Aside0.mk hLd
  have HL := Aside0.mk hl
  have HB1 := Aside0.mk hB
  have HB00 := Aside0.mk hB0
  have HC := Aside0.mk hc
  have W0 := Aside0.mk (Wr.refl hbld)
  obtain ⟨m_, a_, ok_, hF⟩ := form_word 4
  have HF := Aside0.mk hF
  clear hr hbel hLd hl hB hB0 hbld hF hc
  go_enter Tryz.func97, Tryz.ntmps97
  go_wp2_with (first
    | ((with_reducible refine gate_dst (N := 3) rfl ?_); refine box_event ?hg (N := 3) ?hd (cs := #[.int .i64 4, .int .i64 n, .string nm, .slice A l.length c]) (t := 45) ?hr ?_; (case hd => rfl); (case hg => rfl); (case hr => first | (go_simp; done) | (go_simp; rfl)); intro gb hg w8 hbox hb; have BK := Aside0.mk hbox; have W8 := Aside0.mk (W0.out.below HB1.out hb); have GE := Aside0.mk (show w.heap.size ≤ gb by rw [hg]; exact Nat.le_refl _); clear hb hbox hg; have hcz0 : w8.cell? ⟨gb, 0, none⟩ = some (.int .i64 4) := (blk_cell BK.out 0).trans rfl)
    | (go_at_call 94; refine (tree_Form.calls 4 _ _ _ _ _ HF.out).mono ?_; rintro e w9 ⟨rfl, hb⟩; have W9 := Aside0.mk (W8.out.below HB1.out hb); have BK9 := Aside0.mk (blk_below BK.out hb); clear hb; have hdz0 : w9.cell? ⟨gb, 0, none⟩ = some (.int .i64 4) := (blk_cell BK9.out 0).trans rfl; have hdz1 : w9.cell? ⟨gb, 1, none⟩ = some (.int .i64 n) := (blk_cell BK9.out 1).trans rfl; have hdz2 : w9.cell? ⟨gb, 2, none⟩ = some (.string nm) := (blk_cell BK9.out 2).trans rfl; have hdz3 : w9.cell? ⟨gb, 3, none⟩ = some (.slice A l.length c) := (blk_cell BK9.out 3).trans rfl))
  have W9d := Aside0.mk (W9.out.drewN 1)
  go_region_held3 (fun w' => w'.cell? ⟨gb, 1, none⟩ = some (.int .i64 n)) (first | go_keep | exact (hb.cell (World.block_lt_of_cell? _ _ (by assumption))).trans (by assumption) | exact (blk_cell (hw9.keep _ _ _ BK10.out (by decide) (by decide)) 1).trans rfl)
    (first
      | (go_at_call 131; refine (P.dec_Text.calls n _ _ (HLD.out.below ?hx) (DecT.Text_eq n)).mono ?_; (case hx => exact below_weaken HBEL.out HB00.out W9d.out.bel); rintro e w10 ⟨rfl, hb⟩; have W10 := Aside0.mk (W9d.out.below HB1.out hb); have BK10 := Aside0.mk (blk_below (blk_drewN BK9.out 1) hb))
      | (go_at_call 130; refine (WriteString_calls B b acc (Pl.B (Pl.textL n)) _ W10.out.bld ?s1 ?s2).mono ?_; (case s1 => exact Nat.le_trans HB1.out W10.out.siz); (case s2 => have := HL.out; rw [Pl.B_size]; omega); rintro e w11 ⟨rfl, hw9⟩; have W11 := Aside0.mk (W10.out.then hw9)))
  all_goals
    go_wp2
    go_end0
    exact ⟨rfl, W11.out⟩
set_option maxHeartbeats 1000000 in
set_option maxRecDepth 100000 in
theorem print_from (n : Int) (nm : ByteArray) (l : List S45) (A : Option Addr) (c : Nat) (B b : Nat) (acc : List UInt8) (w0 w : World) (hr : Kd.C k45 w0 A l.length l) (hc : l.length ≤ c) (hbel : Below w0.heap.size w0 w) (hB0 : w0.heap.size ≤ B) (hbld : IsB B b acc w) (hB : B ≤ w.heap.size) (hLd : LaidW w0) (hl : acc.length + ((wordL 3).length + 2 + nm.data.toList.length) ≤ 70368744177664) :
  Calls Tryz.prog 97 #[.pointer (some ⟨b, 0, none⟩), .agg #[.int .i64 3, .int .i64 n, .string nm, .slice A l.length c]] w fun e w' => e = .returned (.tuple #[]) ∧ Wr B b (acc ++ ((wordL 3) ++ [40] ++ sepA true [nm.data.toList] ++ [41])) w w' := by
  have HR := Aside0.mk hr
  have HBEL := Aside0.mk hbel
  have HLD := Aside0.mk hLd
  have HL := Aside0.mk hl
  have HB1 := Aside0.mk hB
  have HB00 := Aside0.mk hB0
  have HC := Aside0.mk hc
  have W0 := Aside0.mk (Wr.refl hbld)
  obtain ⟨m_, a_, ok_, hF⟩ := form_word 3
  have HF := Aside0.mk hF
  clear hr hbel hLd hl hB hB0 hbld hF hc
  go_enter Tryz.func97, Tryz.ntmps97
  go_wp2_with (first
    | ((with_reducible refine gate_dst (N := 3) rfl ?_); refine box_event ?hg (N := 3) ?hd (cs := #[.int .i64 3, .int .i64 n, .string nm, .slice A l.length c]) (t := 45) ?hr ?_; (case hd => rfl); (case hg => rfl); (case hr => first | (go_simp; done) | (go_simp; rfl)); intro gb hg w8 hbox hb; have BK := Aside0.mk hbox; have W8 := Aside0.mk (W0.out.below HB1.out hb); have GE := Aside0.mk (show w.heap.size ≤ gb by rw [hg]; exact Nat.le_refl _); clear hb hbox hg; have hcz0 : w8.cell? ⟨gb, 0, none⟩ = some (.int .i64 3) := (blk_cell BK.out 0).trans rfl)
    | (go_at_call 94; refine (tree_Form.calls 3 _ _ _ _ _ HF.out).mono ?_; rintro e w9 ⟨rfl, hb⟩; have W9 := Aside0.mk (W8.out.below HB1.out hb); have BK9 := Aside0.mk (blk_below BK.out hb); clear hb; have hdz0 : w9.cell? ⟨gb, 0, none⟩ = some (.int .i64 3) := (blk_cell BK9.out 0).trans rfl; have hdz1 : w9.cell? ⟨gb, 1, none⟩ = some (.int .i64 n) := (blk_cell BK9.out 1).trans rfl; have hdz2 : w9.cell? ⟨gb, 2, none⟩ = some (.string nm) := (blk_cell BK9.out 2).trans rfl; have hdz3 : w9.cell? ⟨gb, 3, none⟩ = some (.slice A l.length c) := (blk_cell BK9.out 3).trans rfl)
    | (go_at_call 132; go_loud (refine (call_calls ⟨(wordL 3).toArray⟩ [] (by simp) none 0 [nm.data.toList] (some ⟨w9.heap.size, 0, none⟩) 1 B b acc w0 _ (Kd.C_nil _ _) (Nat.le_refl 0) ?x1 HB00.out (W9.out.alloc HB1.out _).bld ?x2 HLD.out (hm_one _ _ _ _ rfl (blk_new w9 _)) (by simp) (by simp) ?x3 ?x4).mono ?_; (case x1 => exact below_weaken HBEL.out HB00.out (W9.out.alloc HB1.out _).bel); (case x2 => exact Nat.le_trans HB1.out (W9.out.alloc HB1.out _).siz); (case x3 => have := HL.out; rw [show (⟨(wordL 3).toArray⟩ : ByteArray).size = (wordL 3).length by simp [ByteArray.size]]; (try simp only [sepA, List.map_nil, List.length_nil, List.length_append, List.length_cons, List.isEmpty_nil, if_true] at this ⊢); omega); (case x4 => first | exact (by decide : (0 : Nat) < 4611686018427387904) | (have := HL.out; have h5 := sepA_len1 (([] : List S45).map txtE); (try simp only [List.length_map, List.length_append] at this h5 ⊢); omega)); rintro e w12 ⟨rfl, hw12⟩; have W12 := Aside0.mk ((W9.out.alloc HB1.out _).then hw12))))
  go_end0
  refine ⟨rfl, ?_⟩
  have := W12.out
  simpa [sepA] using this
set_option maxHeartbeats 1000000 in
set_option maxRecDepth 100000 in
theorem print_other (k : Int) (hk : k ≠ 1 ∧ k ≠ 2 ∧ k ≠ 3 ∧ k ≠ 4 ∧ k ≠ 5 ∧ k ≠ 6 ∧ k ≠ 11) (n : Int) (nm : ByteArray) (l : List S45) (IH : ∀ y ∈ l, PrintOK y) (A : Option Addr) (c : Nat) (B b : Nat) (acc : List UInt8) (w0 w : World) (hr : Kd.C k45 w0 A l.length l) (hc : l.length ≤ c) (hbel : Below w0.heap.size w0 w) (hB0 : w0.heap.size ≤ B) (hbld : IsB B b acc w) (hB : B ≤ w.heap.size) (hLd : LaidW w0) (hl : acc.length + ((wordL k).length + 2 + (sepA true (l.map txtE)).length) ≤ 70368744177664) :
  Calls Tryz.prog 97 #[.pointer (some ⟨b, 0, none⟩), .agg #[.int .i64 k, .int .i64 n, .string nm, .slice A l.length c]] w fun e w' => e = .returned (.tuple #[]) ∧ Wr B b (acc ++ ((wordL k) ++ [40] ++ sepA true (l.map txtE) ++ [41])) w w' := by
  have HR := Aside0.mk hr
  have HBEL := Aside0.mk hbel
  have HLD := Aside0.mk hLd
  have HL := Aside0.mk hl
  have HB1 := Aside0.mk hB
  have HB00 := Aside0.mk hB0
  have HC := Aside0.mk hc
  have W0 := Aside0.mk (Wr.refl hbld)
  obtain ⟨m_, a_, ok_, hF⟩ := form_word k
  have HF := Aside0.mk hF
  clear hr hbel hLd hl hB hB0 hbld hF hc
  go_enter Tryz.func97, Tryz.ntmps97
  have e1 : (k == 1) = false := beq_eq_false_iff_ne.2 hk.1
  have e2 : (k == 2) = false := beq_eq_false_iff_ne.2 hk.2.1
  have e3 : (k == 3) = false := beq_eq_false_iff_ne.2 hk.2.2.1
  have e4 : (k == 4) = false := beq_eq_false_iff_ne.2 hk.2.2.2.1
  have e5 : (k == 5) = false := beq_eq_false_iff_ne.2 hk.2.2.2.2.1
  have e6 : (k == 6) = false := beq_eq_false_iff_ne.2 hk.2.2.2.2.2.1
  have e7 : (k == 11) = false := beq_eq_false_iff_ne.2 hk.2.2.2.2.2.2
  clear hk
  go_wp2_with (first
    | ((with_reducible refine gate_dst (N := 3) rfl ?_); refine box_event ?hg (N := 3) ?hd (cs := #[.int .i64 k, .int .i64 n, .string nm, .slice A l.length c]) (t := 45) ?hr ?_; (case hd => rfl); (case hg => rfl); (case hr => first | (go_simp; done) | (go_simp; rfl)); intro gb hg w8 hbox hb; have BK := Aside0.mk hbox; have W8 := Aside0.mk (W0.out.below HB1.out hb); have GE := Aside0.mk (show w.heap.size ≤ gb by rw [hg]; exact Nat.le_refl _); clear hb hbox hg; have hcz0 : w8.cell? ⟨gb, 0, none⟩ = some (.int .i64 k) := (blk_cell BK.out 0).trans rfl)
    | (go_at_call 94; refine (tree_Form.calls k _ _ _ _ _ HF.out).mono ?_; rintro e w9 ⟨rfl, hb⟩; have W9 := Aside0.mk (W8.out.below HB1.out hb); have BK9 := Aside0.mk (blk_below BK.out hb); clear hb; have hdz0 : w9.cell? ⟨gb, 0, none⟩ = some (.int .i64 k) := (blk_cell BK9.out 0).trans rfl; have hdz1 : w9.cell? ⟨gb, 1, none⟩ = some (.int .i64 n) := (blk_cell BK9.out 1).trans rfl; have hdz2 : w9.cell? ⟨gb, 2, none⟩ = some (.string nm) := (blk_cell BK9.out 2).trans rfl; have hdz3 : w9.cell? ⟨gb, 3, none⟩ = some (.slice A l.length c) := (blk_cell BK9.out 3).trans rfl)
    | (go_at_call 132; go_loud (refine (call_calls ⟨(wordL k).toArray⟩ l IH A c [] none 0 B b acc w0 _ HR.out HC.out ?x1 HB00.out W9.out.bld ?x2 HLD.out (by simp) (by simp) (by simp) ?x3 ?x4).mono ?_; (case x1 => exact below_weaken HBEL.out HB00.out W9.out.bel); (case x2 => exact Nat.le_trans HB1.out W9.out.siz); (case x3 => have := HL.out; rw [show (⟨(wordL k).toArray⟩ : ByteArray).size = (wordL k).length by simp [ByteArray.size]]; (try simp only [sepA, List.map_nil, List.length_nil, List.length_append, List.length_cons, List.isEmpty_nil, if_true] at this ⊢); omega); (case x4 => first | exact (by decide : (0 : Nat) < 4611686018427387904) | (have := HL.out; have h5 := sepA_len1 (l.map txtE); (try simp only [List.length_map, List.length_append] at this h5 ⊢); omega)); rintro e w12 ⟨rfl, hw12⟩; have W12 := Aside0.mk (W9.out.then hw12))))
  go_end0
  refine ⟨rfl, ?_⟩
  have := W12.out
  simpa [sepA] using this
set_option maxHeartbeats 1000000 in
set_option maxRecDepth 100000 in
theorem print_less (n : Int) (nm : ByteArray) (l : List S45) (IH : ∀ y ∈ l, PrintOK y) (A : Option Addr) (c : Nat) (B b : Nat) (acc : List UInt8) (w0 w : World) (hr : Kd.C k45 w0 A l.length l) (hc : l.length ≤ c) (hbel : Below w0.heap.size w0 w) (hB0 : w0.heap.size ≤ B) (hbld : IsB B b acc w) (hB : B ≤ w.heap.size) (hLd : LaidW w0) (hl : acc.length + ((wordL 5).length + 2 + (sepA true (l.map txtE)).length + (sepA l.isEmpty [Pl.textL n]).length) ≤ 70368744177664) :
  Calls Tryz.prog 97 #[.pointer (some ⟨b, 0, none⟩), .agg #[.int .i64 5, .int .i64 n, .string nm, .slice A l.length c]] w fun e w' => e = .returned (.tuple #[]) ∧ Wr B b (acc ++ ((wordL 5) ++ [40] ++ sepA true (l.map txtE) ++ sepA l.isEmpty [Pl.textL n] ++ [41])) w w' := by
  have HR := Aside0.mk hr
  have HBEL := Aside0.mk hbel
  have HLD := Aside0.mk hLd
  have HL := Aside0.mk hl
  have HB1 := Aside0.mk hB
  have HB00 := Aside0.mk hB0
  have HC := Aside0.mk hc
  have W0 := Aside0.mk (Wr.refl hbld)
  obtain ⟨m_, a_, ok_, hF⟩ := form_word 5
  have HF := Aside0.mk hF
  clear hr hbel hLd hl hB hB0 hbld hF hc
  go_enter Tryz.func97, Tryz.ntmps97
  go_wp2_with (first
    | ((with_reducible refine gate_dst (N := 3) rfl ?_); refine box_event ?hg (N := 3) ?hd (cs := #[.int .i64 5, .int .i64 n, .string nm, .slice A l.length c]) (t := 45) ?hr ?_; (case hd => rfl); (case hg => rfl); (case hr => first | (go_simp; done) | (go_simp; rfl)); intro gb hg w8 hbox hb; have BK := Aside0.mk hbox; have W8 := Aside0.mk (W0.out.below HB1.out hb); have GE := Aside0.mk (show w.heap.size ≤ gb by rw [hg]; exact Nat.le_refl _); clear hb hbox hg; have hcz0 : w8.cell? ⟨gb, 0, none⟩ = some (.int .i64 5) := (blk_cell BK.out 0).trans rfl)
    | (go_at_call 94; refine (tree_Form.calls 5 _ _ _ _ _ HF.out).mono ?_; rintro e w9 ⟨rfl, hb⟩; have W9 := Aside0.mk (W8.out.below HB1.out hb); have BK9 := Aside0.mk (blk_below BK.out hb); clear hb; have hdz0 : w9.cell? ⟨gb, 0, none⟩ = some (.int .i64 5) := (blk_cell BK9.out 0).trans rfl; have hdz1 : w9.cell? ⟨gb, 1, none⟩ = some (.int .i64 n) := (blk_cell BK9.out 1).trans rfl; have hdz2 : w9.cell? ⟨gb, 2, none⟩ = some (.string nm) := (blk_cell BK9.out 2).trans rfl; have hdz3 : w9.cell? ⟨gb, 3, none⟩ = some (.slice A l.length c) := (blk_cell BK9.out 3).trans rfl))
  have W9d := Aside0.mk (W9.out.drewN 1)
  go_region_held3 (fun w' => w'.cell? ⟨gb, 1, none⟩ = some (.int .i64 n) ∧ w'.cell? ⟨gb, 3, none⟩ = some (.slice A l.length c)) (first | go_keep | exact ⟨(blk_cell (hw12.keep _ _ _ (blk_alloc BK10.out _) (by decide) (by decide)) 1).trans rfl, (blk_cell (hw12.keep _ _ _ (blk_alloc BK10.out _) (by decide) (by decide)) 3).trans rfl⟩ | exact ⟨(blk_cell (blk_alloc BK10.out _) 1).trans rfl, (blk_cell (blk_alloc BK10.out _) 3).trans rfl⟩ | exact ⟨(blk_cell BK10.out 1).trans rfl, (blk_cell BK10.out 3).trans rfl⟩ )
    (first
      | (go_at_call 131; refine (P.dec_Text.calls n _ _ (HLD.out.below ?hx) (DecT.Text_eq n)).mono ?_; (case hx => exact below_weaken HBEL.out HB00.out W9d.out.bel); rintro e w10 ⟨rfl, hb⟩; have W10 := Aside0.mk (W9d.out.below HB1.out hb); have BK10 := Aside0.mk (blk_below (blk_drewN BK9.out 1) hb))
      | (go_at_call 132; go_loud (refine (call_calls ⟨(wordL 5).toArray⟩ l IH A c [Pl.textL n] (some ⟨w10.heap.size, 0, none⟩) 1 B b acc w0 _ HR.out HC.out ?x1 HB00.out (W10.out.alloc HB1.out _).bld ?x2 HLD.out (hm_one _ _ _ _ rfl (blk_new w10 _)) (by simp) (by simp) ?x3 ?x4).mono ?_; (case x1 => exact below_weaken HBEL.out HB00.out (W10.out.alloc HB1.out _).bel); (case x2 => exact Nat.le_trans HB1.out (W10.out.alloc HB1.out _).siz); (case x3 => have := HL.out; rw [show (⟨(wordL 5).toArray⟩ : ByteArray).size = (wordL 5).length by simp [ByteArray.size]]; (try simp only [sepA, List.map_nil, List.length_nil, List.length_append, List.length_cons, List.isEmpty_nil, if_true] at this ⊢); omega); (case x4 => first | exact (by decide : (0 : Nat) < 4611686018427387904) | (have := HL.out; have h5 := sepA_len1 (l.map txtE); (try simp only [List.length_map, List.length_append] at this h5 ⊢); omega)); rintro e w12 ⟨rfl, hw12⟩; have W12 := Aside0.mk ((W10.out.alloc HB1.out _).then hw12))))
  all_goals
    go_wp2
    go_end0
    refine ⟨rfl, ?_⟩
    have := W12.out
    simpa [sepA] using this
set_option maxHeartbeats 1000000 in
set_option maxRecDepth 100000 in
theorem print_cut (n : Int) (nm : ByteArray) (l : List S45) (IH : ∀ y ∈ l, PrintOK y) (hn0 : -9223372036854775808 ≤ n) (hn1 : n ≤ 9223372036854775807) (A : Option Addr) (c : Nat) (B b : Nat) (acc : List UInt8) (w0 w : World) (hr : Kd.C k45 w0 A l.length l) (hc : l.length ≤ c) (hbel : Below w0.heap.size w0 w) (hB0 : w0.heap.size ≤ B) (hbld : IsB B b acc w) (hB : B ≤ w.heap.size) (hLd : LaidW w0) (hl : acc.length + ((wordL 6).length + 2 + (sepA true (l.map txtE)).length + (sepA l.isEmpty [Pl.intL n]).length) ≤ 70368744177664) :
  Calls Tryz.prog 97 #[.pointer (some ⟨b, 0, none⟩), .agg #[.int .i64 6, .int .i64 n, .string nm, .slice A l.length c]] w fun e w' => e = .returned (.tuple #[]) ∧ Wr B b (acc ++ ((wordL 6) ++ [40] ++ sepA true (l.map txtE) ++ sepA l.isEmpty [Pl.intL n] ++ [41])) w w' := by
  have HR := Aside0.mk hr
  have HBEL := Aside0.mk hbel
  have HLD := Aside0.mk hLd
  have HL := Aside0.mk hl
  have HB1 := Aside0.mk hB
  have HB00 := Aside0.mk hB0
  have HC := Aside0.mk hc
  have W0 := Aside0.mk (Wr.refl hbld)
  obtain ⟨m_, a_, ok_, hF⟩ := form_word 6
  have HF := Aside0.mk hF
  clear hr hbel hLd hl hB hB0 hbld hF hc
  go_enter Tryz.func97, Tryz.ntmps97
  have HN0 := Aside0.mk hn0
  have HN1 := Aside0.mk hn1
  clear hn0 hn1
  go_wp2_with (first
    | ((with_reducible refine gate_dst (N := 3) rfl ?_); refine box_event ?hg (N := 3) ?hd (cs := #[.int .i64 6, .int .i64 n, .string nm, .slice A l.length c]) (t := 45) ?hr ?_; (case hd => rfl); (case hg => rfl); (case hr => first | (go_simp; done) | (go_simp; rfl)); intro gb hg w8 hbox hb; have BK := Aside0.mk hbox; have W8 := Aside0.mk (W0.out.below HB1.out hb); have GE := Aside0.mk (show w.heap.size ≤ gb by rw [hg]; exact Nat.le_refl _); clear hb hbox hg; have hcz0 : w8.cell? ⟨gb, 0, none⟩ = some (.int .i64 6) := (blk_cell BK.out 0).trans rfl)
    | (go_at_call 94; refine (tree_Form.calls 6 _ _ _ _ _ HF.out).mono ?_; rintro e w9 ⟨rfl, hb⟩; have W9 := Aside0.mk (W8.out.below HB1.out hb); have BK9 := Aside0.mk (blk_below BK.out hb); clear hb; have hdz0 : w9.cell? ⟨gb, 0, none⟩ = some (.int .i64 6) := (blk_cell BK9.out 0).trans rfl; have hdz1 : w9.cell? ⟨gb, 1, none⟩ = some (.int .i64 n) := (blk_cell BK9.out 1).trans rfl; have hdz2 : w9.cell? ⟨gb, 2, none⟩ = some (.string nm) := (blk_cell BK9.out 2).trans rfl; have hdz3 : w9.cell? ⟨gb, 3, none⟩ = some (.slice A l.length c) := (blk_cell BK9.out 3).trans rfl))
  have W9d := Aside0.mk (W9.out.drewN 1)
  go_region_held3 (fun w' => w'.cell? ⟨gb, 1, none⟩ = some (.int .i64 n) ∧ w'.cell? ⟨gb, 3, none⟩ = some (.slice A l.length c)) (first | go_keep | exact ⟨(blk_cell (hw12.keep _ _ _ (blk_alloc BK10.out _) (by decide) (by decide)) 1).trans rfl, (blk_cell (hw12.keep _ _ _ (blk_alloc BK10.out _) (by decide) (by decide)) 3).trans rfl⟩ | exact ⟨(blk_cell (blk_alloc BK10.out _) 1).trans rfl, (blk_cell (blk_alloc BK10.out _) 3).trans rfl⟩ | exact ⟨(blk_cell BK10.out 1).trans rfl, (blk_cell BK10.out 3).trans rfl⟩ )
    (first
      | (go_at_call 133; refine (P.dec_Number.calls n _ _ (HLD.out.below ?hx) (DecT.Number_eq n HN0.out HN1.out)).mono ?_; (case hx => exact below_weaken HBEL.out HB00.out W9d.out.bel); rintro e w10 ⟨rfl, hb⟩; have W10 := Aside0.mk (W9d.out.below HB1.out hb); have BK10 := Aside0.mk (blk_below (blk_drewN BK9.out 1) hb))
      | (go_at_call 132; go_loud (refine (call_calls ⟨(wordL 6).toArray⟩ l IH A c [Pl.intL n] (some ⟨w10.heap.size, 0, none⟩) 1 B b acc w0 _ HR.out HC.out ?x1 HB00.out (W10.out.alloc HB1.out _).bld ?x2 HLD.out (hm_one _ _ _ _ rfl (blk_new w10 _)) (by simp) (by simp) ?x3 ?x4).mono ?_; (case x1 => exact below_weaken HBEL.out HB00.out (W10.out.alloc HB1.out _).bel); (case x2 => exact Nat.le_trans HB1.out (W10.out.alloc HB1.out _).siz); (case x3 => have := HL.out; rw [show (⟨(wordL 6).toArray⟩ : ByteArray).size = (wordL 6).length by simp [ByteArray.size]]; (try simp only [sepA, List.map_nil, List.length_nil, List.length_append, List.length_cons, List.isEmpty_nil, if_true] at this ⊢); omega); (case x4 => first | exact (by decide : (0 : Nat) < 4611686018427387904) | (have := HL.out; have h5 := sepA_len1 (l.map txtE); (try simp only [List.length_map, List.length_append] at this h5 ⊢); omega)); rintro e w12 ⟨rfl, hw12⟩; have W12 := Aside0.mk ((W10.out.alloc HB1.out _).then hw12))))
  all_goals
    go_wp2
    go_end0
    refine ⟨rfl, ?_⟩
    have := W12.out
    simpa [sepA] using this
set_option maxHeartbeats 1000000 in
set_option maxRecDepth 100000 in
theorem print_more (n : Int) (nm : ByteArray) (l : List S45) (IH : ∀ y ∈ l, PrintOK y) (hn0 : -9223372036854775808 ≤ n) (hn1 : n ≤ 9223372036854775807) (A : Option Addr) (c : Nat) (B b : Nat) (acc : List UInt8) (w0 w : World) (hr : Kd.C k45 w0 A l.length l) (hc : l.length ≤ c) (hbel : Below w0.heap.size w0 w) (hB0 : w0.heap.size ≤ B) (hbld : IsB B b acc w) (hB : B ≤ w.heap.size) (hLd : LaidW w0) (hl : acc.length + ((wordL 11).length + 2 + (sepA true (l.map txtE)).length + (sepA l.isEmpty [Pl.intL n]).length) ≤ 70368744177664) :
  Calls Tryz.prog 97 #[.pointer (some ⟨b, 0, none⟩), .agg #[.int .i64 11, .int .i64 n, .string nm, .slice A l.length c]] w fun e w' => e = .returned (.tuple #[]) ∧ Wr B b (acc ++ ((wordL 11) ++ [40] ++ sepA true (l.map txtE) ++ sepA l.isEmpty [Pl.intL n] ++ [41])) w w' := by
  have HR := Aside0.mk hr
  have HBEL := Aside0.mk hbel
  have HLD := Aside0.mk hLd
  have HL := Aside0.mk hl
  have HB1 := Aside0.mk hB
  have HB00 := Aside0.mk hB0
  have HC := Aside0.mk hc
  have W0 := Aside0.mk (Wr.refl hbld)
  obtain ⟨m_, a_, ok_, hF⟩ := form_word 11
  have HF := Aside0.mk hF
  clear hr hbel hLd hl hB hB0 hbld hF hc
  go_enter Tryz.func97, Tryz.ntmps97
  have HN0 := Aside0.mk hn0
  have HN1 := Aside0.mk hn1
  clear hn0 hn1
  go_wp2_with (first
    | ((with_reducible refine gate_dst (N := 3) rfl ?_); refine box_event ?hg (N := 3) ?hd (cs := #[.int .i64 11, .int .i64 n, .string nm, .slice A l.length c]) (t := 45) ?hr ?_; (case hd => rfl); (case hg => rfl); (case hr => first | (go_simp; done) | (go_simp; rfl)); intro gb hg w8 hbox hb; have BK := Aside0.mk hbox; have W8 := Aside0.mk (W0.out.below HB1.out hb); have GE := Aside0.mk (show w.heap.size ≤ gb by rw [hg]; exact Nat.le_refl _); clear hb hbox hg; have hcz0 : w8.cell? ⟨gb, 0, none⟩ = some (.int .i64 11) := (blk_cell BK.out 0).trans rfl)
    | (go_at_call 94; refine (tree_Form.calls 11 _ _ _ _ _ HF.out).mono ?_; rintro e w9 ⟨rfl, hb⟩; have W9 := Aside0.mk (W8.out.below HB1.out hb); have BK9 := Aside0.mk (blk_below BK.out hb); clear hb; have hdz0 : w9.cell? ⟨gb, 0, none⟩ = some (.int .i64 11) := (blk_cell BK9.out 0).trans rfl; have hdz1 : w9.cell? ⟨gb, 1, none⟩ = some (.int .i64 n) := (blk_cell BK9.out 1).trans rfl; have hdz2 : w9.cell? ⟨gb, 2, none⟩ = some (.string nm) := (blk_cell BK9.out 2).trans rfl; have hdz3 : w9.cell? ⟨gb, 3, none⟩ = some (.slice A l.length c) := (blk_cell BK9.out 3).trans rfl))
  have W9d := Aside0.mk (W9.out.drewN 1)
  go_region_held3 (fun w' => w'.cell? ⟨gb, 1, none⟩ = some (.int .i64 n) ∧ w'.cell? ⟨gb, 3, none⟩ = some (.slice A l.length c)) (first | go_keep | exact ⟨(blk_cell (hw12.keep _ _ _ (blk_alloc BK10.out _) (by decide) (by decide)) 1).trans rfl, (blk_cell (hw12.keep _ _ _ (blk_alloc BK10.out _) (by decide) (by decide)) 3).trans rfl⟩ | exact ⟨(blk_cell (blk_alloc BK10.out _) 1).trans rfl, (blk_cell (blk_alloc BK10.out _) 3).trans rfl⟩ | exact ⟨(blk_cell BK10.out 1).trans rfl, (blk_cell BK10.out 3).trans rfl⟩ )
    (first
      | (go_at_call 133; refine (P.dec_Number.calls n _ _ (HLD.out.below ?hx) (DecT.Number_eq n HN0.out HN1.out)).mono ?_; (case hx => exact below_weaken HBEL.out HB00.out W9d.out.bel); rintro e w10 ⟨rfl, hb⟩; have W10 := Aside0.mk (W9d.out.below HB1.out hb); have BK10 := Aside0.mk (blk_below (blk_drewN BK9.out 1) hb))
      | (go_at_call 132; go_loud (refine (call_calls ⟨(wordL 11).toArray⟩ l IH A c [Pl.intL n] (some ⟨w10.heap.size, 0, none⟩) 1 B b acc w0 _ HR.out HC.out ?x1 HB00.out (W10.out.alloc HB1.out _).bld ?x2 HLD.out (hm_one _ _ _ _ rfl (blk_new w10 _)) (by simp) (by simp) ?x3 ?x4).mono ?_; (case x1 => exact below_weaken HBEL.out HB00.out (W10.out.alloc HB1.out _).bel); (case x2 => exact Nat.le_trans HB1.out (W10.out.alloc HB1.out _).siz); (case x3 => have := HL.out; rw [show (⟨(wordL 11).toArray⟩ : ByteArray).size = (wordL 11).length by simp [ByteArray.size]]; (try simp only [sepA, List.map_nil, List.length_nil, List.length_append, List.length_cons, List.isEmpty_nil, if_true] at this ⊢); omega); (case x4 => first | exact (by decide : (0 : Nat) < 4611686018427387904) | (have := HL.out; have h5 := sepA_len1 (l.map txtE); (try simp only [List.length_map, List.length_append] at this h5 ⊢); omega)); rintro e w12 ⟨rfl, hw12⟩; have W12 := Aside0.mk ((W10.out.alloc HB1.out _).then hw12))))
  all_goals
    go_wp2
    go_end0
    refine ⟨rfl, ?_⟩
    have := W12.out
    simpa [sepA] using this
end Go.Proofs.YtgpkppohfodhdaaGreatDoor.Q
