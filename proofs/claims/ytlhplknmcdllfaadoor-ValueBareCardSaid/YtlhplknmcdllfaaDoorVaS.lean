/- Layer 9's laws: awake. -/
import Derived.Test.YtlhplknmcdllfaaDoorVaBll
import Derived.Test.YtlhplknmcdllfaaDoorVaBll
namespace Go.Proofs.YtlhplknmcdllfaaDoor.Va
open Go Go.RowKit Go.Proofs.YtlhplknmcdllfaaDoor.Pm Go.Proofs.YtlhplknmcdllfaaDoor.Pl
set_option linter.unusedVariables false
set_option maxHeartbeats 4000000
set_option maxRecDepth 8000
def ab : List Of := [⟨⟨#[97]⟩, 700⟩, ⟨⟨#[98]⟩, 500⟩]
def moreE : Ex := ⟨11, 1, e0, []⟩
theorem aw_facts : tellA xE [] = .am 999 ∧ tellA xE ab = .am 499 ∧ tellA lowE [] = .no ∧ rightO [⟨⟨#[97]⟩, 0⟩] = false ∧ Q.rngE (ifE moreE) = true ∧ size (ifE moreE) = 4 ∧ size lowE = 1 := by decide +kernel
theorem aw_cond : tellC moreE ab = .is true := by
  unfold tellC
  rw [if_pos (by decide +kernel)]
  rfl
theorem awake_ok : Ok E 8 [] [] (pB true) [] := by
  obtain ⟨f1, f2, f3, f4, f5, f6, f7⟩ := aw_facts
  obtain ⟨x1, x2, x3, x4, x5⟩ := x_facts
  obtain ⟨s1, s2, s3⟩ := s_facts
  have h1 := Eval_ok xE [] x1 (by rw [x2]; decide) (by decide)
  have h2 := Eval_ok xE ab x1 (by rw [x2]; decide) (by decide)
  have h3 := Eval_ok lowE [] s3 (by rw [f7]; decide) (by decide)
  have h4 := Cond_ok moreE ab f5 (by rw [f6]; decide) (by decide)
  have h5 := vRight_ok [⟨⟨#[97]⟩, 0⟩] (by decide)
  rw [f1] at h1
  rw [f2] at h2
  rw [f3] at h3
  rw [aw_cond] at h4
  rw [f4] at h5
  have wx := Wk.aggW wk_xE
  have wl := Wk.aggW (wk_leaf 1 0 e0)
  have wm := Wk.aggW (wk_leaf 11 1 e0)
  refine Ok.enter hE Tryd.func8 rfl (by decide +kernel) (by kernel_rfl) rfl rfl (Nat.le_of_ble_eq_true rfl) rfl ?_
  refine ⟨_, ⟨_, rfl, rfl⟩, ?_⟩
  refine ⟨_, ⟨_, rfl, rfl⟩, ?_⟩
  refine ⟨_, CallR.mkW h1 (.cons wx (.cons Wk.nilRow .nil)) rfl rfl, ?_⟩
  refine ⟨_, ⟨_, rfl, rfl⟩, ?_⟩
  refine ⟨_, CallR.mkW h2 (.cons wx (.cons (Wk.refl _) .nil)) rfl rfl, ?_⟩
  refine ⟨_, CallR.mkW h3 (.cons wl (.cons Wk.nilRow .nil)) rfl rfl, ?_⟩
  refine ⟨_, ⟨_, rfl, rfl⟩, ?_⟩
  refine ⟨_, CallR.mkW h4 (.cons wm (.cons (Wk.refl _) .nil)) rfl rfl, ?_⟩
  refine ⟨_, eqT rfl, ?_⟩
  refine ⟨_, eqT rfl, ?_⟩
  refine ⟨_, eqT rfl, ?_⟩
  refine ⟨_, eqT rfl, ?_⟩
  refine ⟨_, eqT rfl, ?_⟩
  refine ⟨_, eqT rfl, ?_⟩
  refine ⟨_, ⟨_, rfl, rfl⟩, ?_⟩
  refine ⟨_, CallR.mkW h5 (.cons (Wk.refl _) .nil) rfl rfl, ?_⟩
  exact Ret.mk _ rfl rfl rfl
end Go.Proofs.YtlhplknmcdllfaaDoor.Va
