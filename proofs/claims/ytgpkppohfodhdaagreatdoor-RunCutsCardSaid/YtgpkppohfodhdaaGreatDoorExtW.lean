import Derived.Test.YtgpkppohfodhdaaGreatDoorExtV
namespace Go.Proofs.YtgpkppohfodhdaaGreatDoor.Q
open Go.RowKit Go.Proofs.YtgpkppohfodhdaaGreatDoorW.PrintWords Go.Proofs.YtgpkppohfodhdaaGreatDoorW.PrintLast Go.Proofs.YtgpkppohfodhdaaGreatDoorW.PrintMore
open Go.Proofs.YtgpkppohfodhdaaGreatDoor.BuilderT (KeepT)
set_option linter.unusedVariables false
set_option linter.unusedSimpArgs false
attribute [local go_sem] max2_int min2_int max_two min_two max_three min_three max_four min_four
theorem print_ok : ∀ (s : Nat) (x : S45), SizeOf.sizeOf x < s → rngE x = true → PrintOK x
  | 0, x, h, _ => absurd h (Nat.not_lt_zero _)
  | s + 1, ⟨k, n, nm, l⟩, h, hr => by
    have IH : ∀ y ∈ l, PrintOK y := by
      intro y hy
      refine print_ok s y ?_ ?_
      · have := List.sizeOf_lt_of_mem hy
        rw [S45.mk.sizeOf_spec] at h
        omega
      · rw [rngE, Bool.and_eq_true] at hr
        exact rngA_mem l hr.2 y hy
    have hn : -9223372036854775808 ≤ n ∧ n ≤ 9223372036854775807 := by
      rw [rngE, Bool.and_eq_true] at hr
      exact (of_decide_eq_true hr.1).1
    intro A c B b acc w0 w h1 h2 h3 h4 h5 h6 h7 h8
    have htx := txtE.eq_1 k n nm l
    by_cases k1 : k = 1
    · subst k1
      have e : txtE ⟨1, n, nm, l⟩ = wordL 1 := by rw [htx]; rfl
      rw [e] at h8 ⊢
      exact print_word1 n nm l A c B b acc w0 w h1 h2 h3 h4 h5 h6 h7 h8
    by_cases k2 : k = 2
    · subst k2
      have e : txtE ⟨2, n, nm, l⟩ = wordL 2 := by rw [htx]; rfl
      rw [e] at h8 ⊢
      exact print_word2 n nm l A c B b acc w0 w h1 h2 h3 h4 h5 h6 h7 h8
    by_cases k4 : k = 4
    · subst k4
      have e : txtE ⟨4, n, nm, l⟩ = Pl.textL n := by rw [htx]; rfl
      rw [e] at h8 ⊢
      exact print_fixed n nm l A c B b acc w0 w h1 h2 h3 h4 h5 h6 h7 h8
    by_cases k3 : k = 3
    · subst k3
      have e : txtE ⟨3, n, nm, l⟩ = (wordL 3) ++ [40] ++ sepA true [nm.data.toList] ++ [41] := by rw [htx]; simp [moreL]
      rw [e] at h8 ⊢
      exact print_from n nm l A c B b acc w0 w h1 h2 h3 h4 h5 h6 h7 (by simpa [sepA, Nat.add_comm, Nat.add_left_comm, Nat.add_assoc] using h8)
    have e0 : txtE ⟨k, n, nm, l⟩ = wordL k ++ [40] ++ sepA true (l.map txtE) ++ sepA l.isEmpty (moreL k n nm) ++ [41] := by
      rw [htx, if_neg k4, if_neg (by simp [k1, k2]), if_neg k3, txtA_map, show (k == 3) = false from beq_eq_false_iff_ne.2 k3, Bool.false_or]
    by_cases k5 : k = 5
    · subst k5
      have e : moreL 5 n nm = [Pl.textL n] := rfl
      rw [e] at e0
      rw [e0] at h8 ⊢
      exact print_less n nm l IH A c B b acc w0 w h1 h2 h3 h4 h5 h6 h7 (by simp only [List.length_append, List.length_cons, List.length_nil] at h8; omega)
    by_cases k6 : k = 6
    · subst k6
      have e : moreL 6 n nm = [Pl.intL n] := rfl
      rw [e] at e0
      rw [e0] at h8 ⊢
      exact print_cut n nm l IH hn.1 hn.2 A c B b acc w0 w h1 h2 h3 h4 h5 h6 h7 (by simp only [List.length_append, List.length_cons, List.length_nil] at h8; omega)
    by_cases k11 : k = 11
    · subst k11
      have e : moreL 11 n nm = [Pl.intL n] := rfl
      rw [e] at e0
      rw [e0] at h8 ⊢
      exact print_more n nm l IH hn.1 hn.2 A c B b acc w0 w h1 h2 h3 h4 h5 h6 h7 (by simp only [List.length_append, List.length_cons, List.length_nil] at h8; omega)
    have e : moreL k n nm = [] := by simp [moreL, k3, k5, k6, k11]
    rw [e] at e0
    have e0 : txtE ⟨k, n, nm, l⟩ = wordL k ++ [40] ++ sepA true (l.map txtE) ++ [41] := by rw [e0]; simp [sepA]
    rw [e0] at h8 ⊢
    exact print_other k ⟨k1, k2, k3, k4, k5, k6, k11⟩ n nm l IH A c B b acc w0 w h1 h2 h3 h4 h5 h6 h7 (by simp only [List.length_append, List.length_cons, List.length_nil] at h8; omega)
def tree_text.f (a0_0 : Int) (a0_1 : Int) (a0_2 : ByteArray) (l0_3 : List (S45)) : Option (ByteArray) :=
  if rngE ⟨a0_0, a0_1, a0_2, l0_3⟩ = true ∧ txtE ⟨a0_0, a0_1, a0_2, l0_3⟩ ≠ [] ∧ (txtE ⟨a0_0, a0_1, a0_2, l0_3⟩).length ≤ 70368744177664 then some (Pl.B (txtE ⟨a0_0, a0_1, a0_2, l0_3⟩)) else none
set_option maxHeartbeats 1000000 in
set_option maxRecDepth 100000 in
theorem tree_text.calls (a0_0 : Int) (a0_1 : Int) (a0_2 : ByteArray) (A0_3 : Option Addr) (c0_3 : Nat) (l0_3 : List (S45)) (r : ByteArray) (w : World) (hr0_3 : Kd.C k45 w A0_3 l0_3.length l0_3) (hc0_3 : l0_3.length ≤ c0_3) (hLd : LaidW w) (h : tree_text.f a0_0 a0_1 a0_2 l0_3 = some r) :
    Calls Tryz.prog 51 #[.agg #[.int .i64 a0_0, .int .i64 a0_1, .string a0_2, .slice A0_3 l0_3.length c0_3]] w fun e w' => e = .returned (.string r) ∧ Below w.heap.size w w' := by
  unfold tree_text.f at h
  by_cases hh : rngE ⟨a0_0, a0_1, a0_2, l0_3⟩ = true ∧ txtE ⟨a0_0, a0_1, a0_2, l0_3⟩ ≠ [] ∧ (txtE ⟨a0_0, a0_1, a0_2, l0_3⟩).length ≤ 70368744177664
  case neg => rw [if_neg hh] at h; exact absurd h (by simp)
  rw [if_pos hh] at h
  obtain rfl := Option.some.inj h
  have OK := Aside0.mk (print_ok _ _ (Nat.lt_succ_self _) hh.1)
  have HNE := Aside0.mk hh.2.1
  have HLE := Aside0.mk hh.2.2
  have HR := Aside0.mk hr0_3
  have HC := Aside0.mk hc0_3
  have HLD := Aside0.mk hLd
  clear h hh hr0_3 hc0_3 hLd
  go_enter Tryz.func51, Tryz.ntmps51
  go_wp2_with (first
    | ((with_reducible refine gate_dst (N := 1) rfl ?_); refine box_event ?hg (N := 1) ?hd (cs := #[.int .i64 a0_0, .int .i64 a0_1, .string a0_2, .slice A0_3 l0_3.length c0_3]) (t := 45) ?hr ?_; (case hd => rfl); (case hg => rfl); (case hr => first | (go_simp; done) | (go_simp; rfl)); intro gb hg w8 hbox hb; have BK := Aside0.mk hbox; have HB := Aside0.mk hb; clear hb hbox hg)
    | ((with_reducible refine gate_dst (N := 5) rfl ?_); refine box_event ?hg (N := 5) ?hd (cs := #[.pointer none, .slice none 0 0]) (t := 133) ?hr ?_; (case hd => rfl); (case hg => rfl); (case hr => first | (go_simp; done) | (go_simp; rfl)); intro b hg w9 hbox hb; have HBW : Aside0 (w.heap.size ≤ b) := ⟨by rw [hg]; exact HB.out.size⟩; have IB : Aside0 (IsB w.heap.size b [] w9) := ⟨.inl ⟨HBW.out, _, hbox, ⟨rfl, .inl ⟨rfl, rfl⟩⟩, by simp [Value.ownBlock]⟩⟩; have BK9 := Aside0.mk (blk_below BK.out hb); have HB9 := Aside0.mk (below_step HB.out hb); clear hb hbox hg; have hdz0 : w9.cell? ⟨gb, 0, none⟩ = some (.int .i64 a0_0) := (blk_cell BK9.out 0).trans rfl; have hdz1 : w9.cell? ⟨gb, 1, none⟩ = some (.int .i64 a0_1) := (blk_cell BK9.out 1).trans rfl; have hdz2 : w9.cell? ⟨gb, 2, none⟩ = some (.string a0_2) := (blk_cell BK9.out 2).trans rfl; have hdz3 : w9.cell? ⟨gb, 3, none⟩ = some (.slice A0_3 l0_3.length c0_3) := (blk_cell BK9.out 3).trans rfl)
    | (go_at_call 97; go_loud (refine (OK.out A0_3 c0_3 w.heap.size b [] w _ HR.out HC.out HB9.out (Nat.le_refl _) IB.out HB9.out.size HLD.out ?x1).mono ?_; (case x1 => have := HLE.out; simpa using this); rintro e w10 ⟨rfl, hw10⟩; have W10 := Aside0.mk hw10; clear hw10))
    | (go_at_call 98; go_loud (refine (BuilderT.String w.heap.size b (txtE ⟨a0_0, a0_1, a0_2, l0_3⟩) _ (by have := W10.out.bld; simpa using this) HNE.out).mono ?_; rintro e w11 ⟨rfl, hw11⟩; have W11 := Aside0.mk hw11; clear hw11)))
  go_ret
  exact ⟨rfl, (HB9.out.trans W10.out.bel).trans W11.out⟩
end Go.Proofs.YtgpkppohfodhdaaGreatDoor.Q
