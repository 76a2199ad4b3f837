import Derived.Test.YtgpkppohfodhdaaGreatDoorVaBll
import Derived.Test.YtgpkppohfodhdaaGreatDoorPtCll
import Derived.Test.YtgpkppohfodhdaaGreatDoorPmBll
namespace Go.Proofs.YtgpkppohfodhdaaGreatDoor.Va
open Go Go.RowKit Go.Proofs.YtgpkppohfodhdaaGreatDoor.Pm Go.Proofs.YtgpkppohfodhdaaGreatDoor.Pl
set_option linter.unusedVariables false
set_option linter.unusedSimpArgs false
set_option maxHeartbeats 4000000
set_option maxRecDepth 8000
theorem tell_is {x : Ex} {l : List Of} (hl : rightO l = true) (hx : isRight x = true) : tellA x l = evalE l x := by
 unfold tellA; rw [hl, hx]; rfl
theorem tell_l {x : Ex} {l : List Of} (hl : rightO l = false) : tellA x l = .er 1 := by
 unfold tellA; rw [hl]; rfl
theorem tell_x {x : Ex} {l : List Of} (hx : isRight x = false) : tellA x l = .er 1 := by
 unfold tellA; rw [hx, Bool.and_false]; rfl
theorem rEval9_ok (x : Ex) (l : List Of) (hr : Q.rngE x = true) (hs : size x ≤ 9223372036854775807) (hl : l.length ≤ 17592186043904) : Ok E 22 [] [pE x, .c (.row (rowO l))] (tupA (tellA x l)) [] := by
 have gL := rRight9_ok l hl
 have gR := rRight_ok x hr hs
 obtain ⟨k, n, nm, xs⟩ := x
 cases hL : rightO l with
 | false =>
  rw [hL] at gL
  rw [tell_l hL]
  refine Ok.enter hE Tryz.func22 rfl (by decide +kernel) (by kernel_rfl) rfl rfl (Nat.le_of_ble_eq_true rfl) rfl ?_
  refine ⟨_, CallR.mk1 gL rfl rfl, ?_⟩
  refine ⟨_, CallR.mk1 gR rfl rfl, ?_⟩
  exact Ret.mk _ rfl rfl rfl
 | true =>
  rw [hL] at gL
  cases hR : isRight ⟨k, n, nm, xs⟩ with
  | false =>
   rw [hR] at gR
   rw [tell_x hR]
   refine Ok.enter hE Tryz.func22 rfl (by decide +kernel) (by kernel_rfl) rfl rfl (Nat.le_of_ble_eq_true rfl) rfl ?_
   refine ⟨_, CallR.mk1 gL rfl rfl, ?_⟩
   refine ⟨_, CallR.mk1 gR rfl rfl, ?_⟩
   exact Ret.mk _ rfl rfl rfl
  | true =>
   rw [hR] at gR
   have hT := ((told_all hL 32).1 _ (right_fine hR)).ok
   rw [tell_is hL hR]
   obtain ⟨r, hr⟩ : ∃ r, evalE l ⟨k, n, nm, xs⟩ = r := ⟨_, rfl⟩
   rw [hr] at hT ⊢
   refine Ok.enter hE Tryz.func22 rfl (by decide +kernel) (by kernel_rfl) rfl rfl (Nat.le_of_ble_eq_true rfl) rfl ?_
   refine ⟨_, CallR.mk1 gL rfl rfl, ?_⟩
   refine ⟨_, CallR.mk1 gR rfl rfl, ?_⟩
   refine ⟨_, CallR.mk1 hT rfl rfl, ?_⟩
   exact Ret.mk _ rfl rfl rfl
end Go.Proofs.YtgpkppohfodhdaaGreatDoor.Va
namespace Go.Proofs.YtgpkppohfodhdaaGreatDoor.Va
open Go Go.RowKit Go.ChangeShapes Go.WideShapes Go.Proofs.YtgpkppohfodhdaaGreatDoor.Pm Go.Proofs.YtgpkppohfodhdaaGreatDoor.Pl
set_option linter.unusedVariables false
set_option linter.unusedSimpArgs false
set_option maxHeartbeats 4000000
set_option maxRecDepth 8000
end Go.Proofs.YtgpkppohfodhdaaGreatDoor.Va
