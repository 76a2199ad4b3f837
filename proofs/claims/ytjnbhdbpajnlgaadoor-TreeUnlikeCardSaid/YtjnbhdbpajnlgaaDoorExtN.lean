/- The law's own source of raw numbers: a state whose slice moves on. In the print's own form. -/
import Derived.Test.YtjnbhdbpajnlgaaDoorQx0
import Derived.Test.YtjnbhdbpajnlgaaDoorPx1
import Derived.WalkSmall
namespace Go.Proofs.YtjnbhdbpajnlgaaDoor.Q
open Go.RowKit Go.Proofs.YtjnbhdbpajnlgaaDoorW.PrintWords Go.Proofs.YtjnbhdbpajnlgaaDoorW.PrintLast Go.Proofs.YtjnbhdbpajnlgaaDoorW.PrintMore
set_option linter.unusedVariables false
set_option linter.unusedSimpArgs false
attribute [local go_sem] max2_int min2_int max_two min_two max_three min_three max_four min_four

/-! ### the source of raw numbers: a state whose slice moves on -/
/-- At block g of W lies a source; what is left in it came in by w0. -/
def IsS56 (w0 W : World) (g : Nat) (f0 : List Int) : Prop := ∃ (A : Option Addr) (n c : Nat), W.heap[g]? = some (.cells #[.slice A n c] 56 (0, 0)) ∧ w0.heap.size ≤ g ∧ n = f0.length ∧ n ≤ c ∧ Kd.C (Kd.int .i64) w0 A n f0
section
variable {w0 W : World} {g : Nat} {f0 : List Int}
theorem IsS56.grown {W1 : World} {row : Option Nat} (h : IsS56 w0 W g f0) (hw : W.grownBy W1 row) (hne : some g ≠ row) : IsS56 w0 W1 g f0 := by
  obtain ⟨A, n, c, hb, r⟩ := h
  exact ⟨A, n, c, blk_grown hb hw hne, r⟩
theorem IsS56.own_neN {α : Type} {d : Kd α} {e : Nat} {base : Nat} {ok : Nat → Prop} {v : Value} {xs : List α} (h : IsS56 w0 W g f0) (ho : Kd.N d e W base ok v xs) (ht : e ≠ 56) : some g ≠ v.ownBlock := by
  obtain ⟨A, n, c, hb, r⟩ := h
  exact Kd.N_ne ho hb ht
theorem IsS56.fresh (h : IsS56 w0 W g f0) : ∀ k, W.heap.size ≤ k → k ≠ g := by
  obtain ⟨A, n, c, hb, r⟩ := h
  exact Kd.freshB hb
theorem IsS56.kept {W1 : World} {S : Nat → Prop} (h : IsS56 w0 W g f0) (hk : Kept W W1 S) (hne : ¬ S g) : IsS56 w0 W1 g f0 := by
  obtain ⟨A, n, c, hb, r⟩ := h
  exact ⟨A, n, c, blk_kept hb hk hne, r⟩
theorem IsS56.below {W1 : World} (h : IsS56 w0 W g f0) (hw : Below W.heap.size W W1) : IsS56 w0 W1 g f0 := h.grown (grown_of_below hw none) (by simp)
theorem IsS56.alloc (h : IsS56 w0 W g f0) (o : Obj) : IsS56 w0 (W.alloc o) g f0 := h.below (below_alloc (Below.refl _ _) o)
theorem IsS56.drewN (h : IsS56 w0 W g f0) (m : Nat) : IsS56 w0 (W.drewN m) g f0 := h
theorem IsS56.drew (h : IsS56 w0 W g f0) : IsS56 w0 W.drew g f0 := h
theorem IsS56.at_ {w' : World} {m : Nat} (hq : W.drewN m = w') (h : IsS56 w0 W g f0) : IsS56 w0 w' g f0 := by subst hq; exact IsS56.drewN h m
theorem IsS56.apart {α : Type} {d : Kd α} {e : Nat} {base : Nat} {ok : Nat → Prop} {v : Value} {xs : List α} (h : IsS56 w0 W g f0) (ho : d.R e W base ok v xs) (ht : ∀ q, q ∈ e :: d.E → q ≠ 56) : d.R e W base (fun k => ok k ∧ k ≠ g) v xs := by
  obtain ⟨A, n, c, hb, r⟩ := h
  exact Kd.R_types ho hb ht
theorem IsS56.own_ne {α : Type} {d : Kd α} {e : Nat} {base : Nat} {ok : Nat → Prop} {v : Value} {xs : List α} (h : IsS56 w0 W g f0) (ho : d.R e W base ok v xs) (ht : e ≠ 56) : some g ≠ v.ownBlock := by
  obtain ⟨A, n, c, hb, r⟩ := h
  exact Kd.R_ne ho hb ht
theorem IsS56.apartQ {α : Type} {d : Kd α} {e : Nat} {base : Nat} {ok : Nat → Prop} {v : Value} {xs : List α} (h : IsS56 w0 W g f0) (ho : d.Q e W base ok v xs) (ht : ∀ q, q ∈ e :: d.E → q ≠ 56) : d.Q e W base (fun k => ok k ∧ k ≠ g) v xs := by
  obtain ⟨A, n, c, hb, r⟩ := h
  exact Kd.Q_types ho hb ht
theorem IsS56.own_neQ {α : Type} {d : Kd α} {e : Nat} {base : Nat} {ok : Nat → Prop} {v : Value} {xs : List α} (h : IsS56 w0 W g f0) (ho : d.Q e W base ok v xs) (ht : e ≠ 56) : some g ≠ v.ownBlock := by
  obtain ⟨A, n, c, hb, r⟩ := h
  exact Kd.Q_ne ho hb ht
theorem IsS56.lt (h : IsS56 w0 W g f0) : g < W.heap.size := by
  obtain ⟨A, n, c, hb, r⟩ := h
  exact blk_lt hb
theorem IsS56.ge (h : IsS56 w0 W g f0) : w0.heap.size ≤ g := by
  obtain ⟨A, n, c, hb, hg, r⟩ := h
  exact hg
theorem IsS56.ne_blk {a : Nat} {cs : Array Value} {t : TypeId} {fr : Nat × Nat} (h : IsS56 w0 W g f0) (hb2 : W.heap[a]? = some (.cells cs t fr)) (ht : t ≠ 56) : g ≠ a := by
  obtain ⟨A, n, c, hb, r⟩ := h
  rintro rfl
  rw [hb] at hb2
  injection hb2 with hb2
  injection hb2 with _ ht2
  exact ht ht2.symm
theorem IsS56.far {p : Addr} (h : IsS56 w0 W g f0) (hne : g ≠ p.block) (u : Value) : IsS56 w0 (W.setCell p u) g f0 := by
  obtain ⟨A, n, c, hb, r⟩ := h
  exact ⟨A, n, c, blk_far hb hne u, r⟩
end
theorem addr_add0 (a : Addr) : a.add 0 = a := by
  cases a with | mk b o s => unfold Addr.add; cases s <;> simp
def hagglerlaw07_source_next.f (s0_0 : List Int) (a1 : Int) : Option (Int × (List Int)) := match s0_0 with
  | [] => some (0, [])
  | c :: r => (P.hagglerlaw07_pick.f c a1).bind fun t => some (t, r)
set_option maxHeartbeats 1000000 in
set_option maxRecDepth 100000 in
theorem hagglerlaw07_source_next.calls (g : Nat) (s0_0 : List Int) (a1 : Int) (r1 : Int) (r2 : List Int) (w0 w : World) (hI : IsS56 w0 w g s0_0) (hB : Below w0.heap.size w0 w) (h : hagglerlaw07_source_next.f s0_0 a1 = some (r1, r2)) :
    Calls Tryd.prog 64 #[.pointer (some ⟨g, 0, none⟩), .int .i64 a1] w fun e w' => e = .returned (.int .i64 r1) ∧ IsS56 w0 w' g r2 ∧ Below w0.heap.size w0 w' ∧ KeepBut w w' g none := by
  obtain ⟨A, n, c, hb, hg, hn, hc, hr⟩ := hI
  have hcell : w.cell? ⟨g, 0, none⟩ = some (.slice A n c) := (blk_cell hb 0).trans rfl
  have hfz : w.frozen? ⟨g, 0, none⟩ = false := blk_frozen hb 0
  rcases s0_0 with _ | ⟨x, xs⟩
  · obtain ⟨rfl, rfl⟩ : 0 = r1 ∧ [] = r2 := by simpa [hagglerlaw07_source_next.f] using h
    simp at hn
    subst hn
    have HB := Aside0.mk hB
    have HR := Aside0.mk hr
    have HBK := Aside0.mk hb
    clear hB hr hb h
    go_enter Tryd.func64, Tryd.ntmps64
    go_wp2
    go_ret
    exact ⟨rfl, ⟨A, 0, c, HBK.out, hg, rfl, hc, HR.out⟩, HB.out, KeepBut.refl _ _ _⟩
  · obtain ⟨t, ht, h⟩ := Option.bind_eq_some_iff.mp h
    obtain ⟨rfl, rfl⟩ : t = r1 ∧ xs = r2 := by simpa using h
    simp only [List.length_cons] at hn
    obtain ⟨ad, cc, rfl, -, hK, hc0⟩ := Kd.C_get hr (0 : Int) 0 (by omega) (by omega)
    obtain rfl : cc = [.int .i64 x] := hK
    have hx : w0.cell? (ad.add 0) = some (.int .i64 x) := hc0 0 _ rfl
    replace hx := (hB.cell (World.block_lt_of_cell? w0 _ hx)).trans hx
    have hx2 : w.cell? ad = some (.int .i64 x) := by rw [show ad.add 0 = ad from addr_add0 ad] at hx; exact hx
    subst hn
    have hd := Kd.C_drop (m := 1) (c := c) hr (by simp) (by simpa using hc)
    have HB := Aside0.mk hB
    have HD := Aside0.mk hd
    have HBK := Aside0.mk hb
    have HT := Aside0.mk ht
    clear hB hr hb h ht hd hc0
    have hp1 : (0 : Int) < (xs.length : Int) + 1 := by omega
    have hp2 : ((xs.length + 1 : Nat) : Int) = (xs.length : Int) + 1 := by omega
    have hp3 : (xs.length + 1 == 0) = false := by simp
    have hp4 : ¬ ((xs.length : Int) + 1 = 0) := by omega
    go_enter Tryd.func64, Tryd.ntmps64
    go_wp2_with (go_at_call 27; refine (P.hagglerlaw07_pick.calls _ _ _ _ HT.out).mono ?_; rintro e w1 ⟨rfl, ⟨⟨n1, rfl⟩⟩⟩)
    all_goals
      have hcc := h
      have hdq := HD.out
      simp only [List.drop_succ_cons, List.drop_zero] at hdq
      first
        | rw [if_pos hcc] at hdq
        | rw [if_neg hcc] at hdq
      go_ret
      refine ⟨rfl, ⟨_, xs.length, c - 1, ?_, hg, rfl, by omega, hdq⟩, below_set (pw_below_drewN HB.out n1) hg, (keep_drewN (KeepBut.refl w g none) n1).set_ 0 _⟩
      have hbs := blk_set (blk_drewN HBK.out n1) 0
      first
        | (subst hcc; exact hbs _)
        | (simpa [Addr.add, show (Kd.int IntKind.i64).sz = 1 from rfl] using hbs _)
end Go.Proofs.YtjnbhdbpajnlgaaDoor.Q
