import Derived.Test.YtgpkppohfodhdaaGreatDoorPlTree
import Derived.WalkSmall
namespace Go.Proofs.YtgpkppohfodhdaaGreatDoor.Q
open Go.RowKit Go.Proofs.YtgpkppohfodhdaaGreatDoorW.PrintWords Go.Proofs.YtgpkppohfodhdaaGreatDoorW.PrintLast Go.Proofs.YtgpkppohfodhdaaGreatDoorW.PrintMore
set_option linter.unusedVariables false
set_option linter.unusedSimpArgs false
attribute [local go_sem] max2_int min2_int max_two min_two max_three min_three max_four min_four
def formCells : Array Value := #[.string ⟨#[]⟩, .int .i64 0, .int .i64 0, .string ⟨#[108, 111, 119, 101, 115, 116]⟩, .int .i64 0, .int .i64 0, .string ⟨#[115, 101, 99, 111, 110, 100]⟩, .int .i64 0, .int .i64 0, .string ⟨#[102, 114, 111, 109]⟩, .int .i64 0, .int .i64 0, .string ⟨#[]⟩, .int .i64 1000000000000, .int .i64 0, .string ⟨#[108, 101, 115, 115]⟩, .int .i64 1000000000000, .int .i64 1, .string ⟨#[99, 117, 116]⟩, .int .i64 100000, .int .i64 1, .string ⟨#[109, 105, 110]⟩, .int .i64 0, .int .i64 2, .string ⟨#[109, 97, 120]⟩, .int .i64 0, .int .i64 2, .string ⟨#[101, 108, 115, 101]⟩, .int .i64 0, .int .i64 2, .string ⟨#[105, 102]⟩, .int .i64 0, .int .i64 3, .string ⟨#[109, 111, 114, 101]⟩, .int .i64 1000, .int .i64 0, .string ⟨#[97, 98, 111, 118, 101]⟩, .int .i64 0, .int .i64 2]
set_option maxHeartbeats 1000000 in
set_option maxRecDepth 100000 in
theorem forms_calls (w : World) :
    Calls Tryz.prog 129 #[] w fun e w' => e = .returned (.slice (some ⟨w.heap.size, 0, none⟩) 13 13) ∧ w' = w.alloc (.cells formCells 154) := by
  go_enter Tryz.func129, Tryz.ntmps129
  go_wp2
  go_ret
  exact ⟨rfl, rfl⟩
def tree_Form.f (a0 : Int) : Option (ByteArray × Int × Int × Bool) := match formT a0 with
  | some (w, m, a) => some (⟨w.toArray⟩, m, a, true)
  | none => some (⟨#[]⟩, 0, 0, false)
theorem results_f4 {fn : Func} {t u v x : Tmp} (h : fn.results = #[.tmp t, .tmp u, .tmp v, .tmp x]) (tmps : Array Value) (P : Program) (w : World) :
    (results fn tmps).run P w = .ok (.tuple #[tmps.getD t undef, tmps.getD u undef, tmps.getD v undef, tmps.getD x undef]) w := by
  simp [results, h]
theorem form_kinds (a0 : Int) : (a0 < 1 ∨ 13 ≤ a0) ∨ a0 = 1 ∨ a0 = 2 ∨ a0 = 3 ∨ a0 = 4 ∨ a0 = 5 ∨ a0 = 6 ∨ a0 = 7 ∨ a0 = 8 ∨ a0 = 9 ∨ a0 = 10 ∨ a0 = 11 ∨ a0 = 12 := by omega
theorem formT_out (a0 : Int) (h : a0 < 1 ∨ 13 ≤ a0) : formT a0 = none := by
  unfold formT
  split <;> first | omega | rfl
theorem form_at (w : World) (i : Nat) (h : i < 39) : (w.alloc (.cells formCells 154)).cell? ⟨w.heap.size, i, none⟩ = formCells[i]? := by
  exact blk_cell (blk_new w _) i
set_option maxHeartbeats 4000000 in
set_option maxRecDepth 100000 in
theorem Form_one (k : Nat) (s : ByteArray) (m a : Int) (w : World) (h1 : 0 < k) (h2 : k < 13) (e0 : formCells[k * 3]? = some (.string s)) (e1 : formCells[k * 3 + 1]? = some (.int .i64 m)) (e2 : formCells[k * 3 + 2]? = some (.int .i64 a)) :
    Calls Tryz.prog 94 #[.int .i64 (k : Int)] w fun e w' => e = .returned (.tuple #[.string s, .int .i64 m, .int .i64 a, .bool true]) ∧ Below w.heap.size w w' := by
  have HB := Aside0.mk (Below.refl w.heap.size w)
  have g0 : (w.alloc (.cells formCells 154)).drew.cell? ⟨w.heap.size, k * 3, none⟩ = some (.string s) := (form_at w _ (by omega)).trans e0
  have g1 : (w.alloc (.cells formCells 154)).drew.cell? ⟨w.heap.size, k * 3 + 1, none⟩ = some (.int .i64 m) := (form_at w _ (by omega)).trans e1
  have g2 : (w.alloc (.cells formCells 154)).drew.cell? ⟨w.heap.size, k * 3 + 2, none⟩ = some (.int .i64 a) := (form_at w _ (by omega)).trans e2
  have c1 : decide ((k : Int) < 1) = false := decide_eq_false (by omega)
  have c2 : decide ((k : Int) ≥ 13) = false := decide_eq_false (by omega)
  have c3 : decide ((13 : Int) ≤ (k : Int)) = false := decide_eq_false (by omega)
  have c4 : (0 : Int) ≤ (k : Int) := by omega
  have c5 : (k : Int) < 13 := by omega
  have c6 : (k : Int).toNat = k := by omega
  clear e0 e1 e2
  go_enter Tryz.func94, Tryz.ntmps94
  go_wp2_with (go_at_call 129; refine (forms_calls _).mono ?_; rintro e w1 ⟨rfl, rfl⟩)
  go_region
  go_wp2
  ((try simp only [Exit.inBlock, Exit.then]); refine bodyPost_ret (results_f4 rfl _ _ _) rfl ?_)
  exact ⟨rfl, Below.drew (below_alloc HB.out _)⟩
set_option maxHeartbeats 4000000 in
set_option maxRecDepth 100000 in
theorem tree_Form.calls (a0 : Int) (r1 : ByteArray) (r2 : Int) (r3 : Int) (r4 : Bool) (w : World) (h : tree_Form.f a0 = some (r1, r2, r3, r4)) :
    Calls Tryz.prog 94 #[.int .i64 a0] w fun e w' => e = .returned (.tuple #[.string r1, .int .i64 r2, .int .i64 r3, .bool r4]) ∧ Below w.heap.size w w' := by
  have HB := Aside0.mk (Below.refl w.heap.size w)
  rcases form_kinds a0 with ho | ho
  · rw [show tree_Form.f a0 = some (⟨#[]⟩, 0, 0, false) by rw [tree_Form.f, formT_out a0 ho]] at h
    simp only [Option.some.injEq, Prod.mk.injEq] at h
    obtain ⟨rfl, rfl, rfl, rfl⟩ := h
    by_cases h1 : a0 < 1
    · have c1 : decide (a0 < 1) = true := decide_eq_true h1
      clear ho h1
      go_enter Tryz.func94, Tryz.ntmps94
      go_wp2_with (go_at_call 129; refine (forms_calls _).mono ?_; rintro e w1 ⟨rfl, rfl⟩)
      ((try simp only [Exit.inBlock, Exit.then]); refine bodyPost_ret (results_f4 rfl _ _ _) rfl ?_)
      exact ⟨rfl, below_alloc HB.out _⟩
    · have c1 : decide (a0 < 1) = false := decide_eq_false h1
      have c2 : decide (a0 ≥ 13) = true := decide_eq_true (by omega)
      have c3 : decide ((13 : Int) ≤ a0) = true := decide_eq_true (by omega)
      clear ho h1
      go_enter Tryz.func94, Tryz.ntmps94
      go_wp2_with (go_at_call 129; refine (forms_calls _).mono ?_; rintro e w1 ⟨rfl, rfl⟩)
      ((try simp only [Exit.inBlock, Exit.then]); refine bodyPost_ret (results_f4 rfl _ _ _) rfl ?_)
      exact ⟨rfl, below_alloc HB.out _⟩
  · rcases ho with rfl | rfl | rfl | rfl | rfl | rfl | rfl | rfl | rfl | rfl | rfl | rfl
    all_goals
      simp only [tree_Form.f, formT, Option.some.injEq, Prod.mk.injEq] at h
      obtain ⟨rfl, rfl, rfl, rfl⟩ := h
    · exact Form_one 1 ⟨#[108, 111, 119, 101, 115, 116]⟩ 0 0 w (by decide) (by decide) rfl rfl rfl
    · exact Form_one 2 ⟨#[115, 101, 99, 111, 110, 100]⟩ 0 0 w (by decide) (by decide) rfl rfl rfl
    · exact Form_one 3 ⟨#[102, 114, 111, 109]⟩ 0 0 w (by decide) (by decide) rfl rfl rfl
    · exact Form_one 4 ⟨#[]⟩ 1000000000000 0 w (by decide) (by decide) rfl rfl rfl
    · exact Form_one 5 ⟨#[108, 101, 115, 115]⟩ 1000000000000 1 w (by decide) (by decide) rfl rfl rfl
    · exact Form_one 6 ⟨#[99, 117, 116]⟩ 100000 1 w (by decide) (by decide) rfl rfl rfl
    · exact Form_one 7 ⟨#[109, 105, 110]⟩ 0 2 w (by decide) (by decide) rfl rfl rfl
    · exact Form_one 8 ⟨#[109, 97, 120]⟩ 0 2 w (by decide) (by decide) rfl rfl rfl
    · exact Form_one 9 ⟨#[101, 108, 115, 101]⟩ 0 2 w (by decide) (by decide) rfl rfl rfl
    · exact Form_one 10 ⟨#[105, 102]⟩ 0 3 w (by decide) (by decide) rfl rfl rfl
    · exact Form_one 11 ⟨#[109, 111, 114, 101]⟩ 1000 0 w (by decide) (by decide) rfl rfl rfl
    · exact Form_one 12 ⟨#[97, 98, 111, 118, 101]⟩ 0 2 w (by decide) (by decide) rfl rfl rfl
end Go.Proofs.YtgpkppohfodhdaaGreatDoor.Q
