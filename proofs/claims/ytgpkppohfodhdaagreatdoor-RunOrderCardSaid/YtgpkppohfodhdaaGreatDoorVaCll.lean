import Derived.Test.YtgpkppohfodhdaaGreatDoorVaBll
import Derived.Test.YtgpkppohfodhdaaGreatDoorPtCll
import Derived.Test.YtgpkppohfodhdaaGreatDoorPmBll
namespace Go.Proofs.YtgpkppohfodhdaaGreatDoor.Va
open Go Go.RowKit Go.Proofs.YtgpkppohfodhdaaGreatDoor.Pm Go.Proofs.YtgpkppohfodhdaaGreatDoor.Pl
set_option linter.unusedVariables false
set_option maxHeartbeats 4000000
set_option maxRecDepth 8000
theorem tell_is {x : Ex} {l : List Of} (hl : rightO l = true) (hx : isRight x = true) : tellA x l = evalE l x := by
 unfold tellA; rw [hl, hx]; rfl
theorem tell_l {x : Ex} {l : List Of} (hl : rightO l = false) : tellA x l = .er 1 := by
 unfold tellA; rw [hl]; rfl
theorem tell_x {x : Ex} {l : List Of} (hx : isRight x = false) : tellA x l = .er 1 := by
 unfold tellA; rw [hx, Bool.and_false]; rfl
theorem rEval9_ok (x : Ex) (l : List Of) (hr : Q.rngE x = true) (hs : size x ≤ 9223372036854775807) (hl : l.length ≤ 17592186043904) : Ok E 22 [] [pE x, .c (.row (rowO l))] (tupA (tellA x l)) [] := by
 have gL := rRight9_ok l hl
 have gR := rRight_ok x hr hs
 obtain ⟨k, n, nm, xs⟩ := x
 cases hL : rightO l with
 | false =>
  rw [hL] at gL
  rw [tell_l hL]
  refine Ok.enter hE Tryz.func22 rfl (by decide +kernel) (by kernel_rfl) rfl rfl (Nat.le_of_ble_eq_true rfl) rfl ?_
  refine ⟨_, CallR.mk1 gL rfl rfl, ?_⟩
  refine ⟨_, CallR.mk1 gR rfl rfl, ?_⟩
  exact Ret.mk _ rfl rfl rfl
 | true =>
  rw [hL] at gL
  cases hR : isRight ⟨k, n, nm, xs⟩ with
  | false =>
   rw [hR] at gR
   rw [tell_x hR]
   refine Ok.enter hE Tryz.func22 rfl (by decide +kernel) (by kernel_rfl) rfl rfl (Nat.le_of_ble_eq_true rfl) rfl ?_
   refine ⟨_, CallR.mk1 gL rfl rfl, ?_⟩
   refine ⟨_, CallR.mk1 gR rfl rfl, ?_⟩
   exact Ret.mk _ rfl rfl rfl
  | true =>
   rw [hR] at gR
   have hT := ((told_all hL 32).1 _ (right_fine hR)).ok
   rw [tell_is hL hR]
   obtain ⟨r, hr⟩ : ∃ r, evalE l ⟨k, n, nm, xs⟩ = r := ⟨_, rfl⟩
   rw [hr] at hT ⊢
   refine Ok.enter hE Tryz.func22 rfl (by decide +kernel) (by kernel_rfl) rfl rfl (Nat.le_of_ble_eq_true rfl) rfl ?_
   refine ⟨_, CallR.mk1 gL rfl rfl, ?_⟩
   refine ⟨_, CallR.mk1 gR rfl rfl, ?_⟩
   refine ⟨_, CallR.mk1 hT rfl rfl, ?_⟩
   exact Ret.mk _ rfl rfl rfl
end Go.Proofs.YtgpkppohfodhdaaGreatDoor.Va
namespace Go.Proofs.YtgpkppohfodhdaaGreatDoor.Va
open Go Go.RowKit Go.ChangeShapes Go.WideShapes Go.Proofs.YtgpkppohfodhdaaGreatDoor.Pm Go.Proofs.YtgpkppohfodhdaaGreatDoor.Pl
set_option linter.unusedVariables false
set_option maxHeartbeats 4000000
set_option maxRecDepth 8000
theorem cOf_ : Tryz.prog.cellsOf 53 = 2 := by kernel_rfl
theorem cSt_ : Tryz.prog.cellsOf 9 = 1 := by kernel_rfl
theorem cIn_ : Tryz.prog.cellsOf 3 = 1 := by kernel_rfl
theorem list2 {α : Type} {l : List α} (h : l.length = 2) : ∃ a b, l = [a, b] := by
 match l, h with
 | [a, b], _ => exact ⟨a, b, rfl⟩
theorem open_offer {H : Type} {enc : TypeId × Value → H} {w : World} {base : Nat} {spare : Nat → Bool} {held : Bool} (n : Nat) (cs : List Value) (x : DataW H × List MemPlace) (h : DataW.trod enc Tryz.prog w base spare held n 53 cs = some x) :
  ∃ o : Of, ∀ (j : Nat) (c : CV), (cO o)[j]? = some c → ∃ v, cs[j]? = some v ∧ LeafV v c := by
 obtain ⟨xs, n, -, -, hl, hlen, hat⟩ := DataW.trod_struct Tryz.underlying53 h
 rw [cOf_] at hl
 replace hlen : xs.length = 2 := hlen
 obtain ⟨a0, a1, rfl⟩ := list2 hl
 have h0 : DataW.trod enc Tryz.prog w base spare held n 9 (([a0, a1].drop 0).take (Tryz.prog.cellsOf 9)) = xs[0]? := hat 0 _ rfl
 have h1 : DataW.trod enc Tryz.prog w base spare held n 3 (([a0, a1].drop 1).take (Tryz.prog.cellsOf 3)) = xs[1]? := hat 1 _ rfl
 rw [cSt_] at h0
 rw [cIn_] at h1
 rw [List.getElem?_eq_getElem (by omega)] at h0 h1
 obtain ⟨s, hs, -⟩ := DataW.trod_string Tryz.underlying9 h0
 obtain ⟨z, hz, -⟩ := DataW.trod_int Tryz.underlying3 h1
 replace hs : [a0] = [.string s] := hs
 replace hz : [a1] = [.int .i64 z] := hz
 injection hs with hs
 injection hz with hz
 subst hs; subst hz
 refine ⟨⟨s, z⟩, fun j c hj => ?_⟩
 match j, hj with
 | 0, hj =>
  have hj : some (CV.str s) = some c := hj
  injection hj with hj; subst hj
  exact ⟨_, rfl, leaf_str s⟩
 | 1, hj =>
  have hj : some (CV.int .i64 z) = some c := hj
  injection hj with hj; subst hj
  exact ⟨_, rfl, leaf_int _ z⟩
 | j + 2, hj => cases hj
theorem open_offers {H : Type} {enc : TypeId × Value → H} {w : World} {base : Nat} {spare : Nat → Bool} {held : Bool} {fuel : Nat} {a : Option Addr} {len cap : Nat} {x : DataW H × List MemPlace}
  (h : DataW.trod enc Tryz.prog w base spare held fuel 24 (Value.slice a len cap).cells.toList = some x) : ∃ l : List Of, IsRowS 2 w a len cap (rowO l) :=
 open_structs cO Tryz.underlying24 cOf_ (fun _ => rfl) open_offer h
end Go.Proofs.YtgpkppohfodhdaaGreatDoor.Va
