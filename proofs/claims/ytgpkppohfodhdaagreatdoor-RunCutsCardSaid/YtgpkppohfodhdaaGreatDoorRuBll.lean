import Derived.Test.YtgpkppohfodhdaaGreatDoorRuAll
import Derived.Test.YtgpkppohfodhdaaGreatDoorVaCll
import Derived.Test.YtgpkppohfodhdaaGreatDoorPmBll
namespace Go.Proofs.YtgpkppohfodhdaaGreatDoor.Ru
open Go Go.RowKit Go.Proofs.YtgpkppohfodhdaaGreatDoor.Pm Go.Proofs.YtgpkppohfodhdaaGreatDoor.Cd
set_option linter.unusedVariables false
set_option linter.unusedSimpArgs false
end Go.Proofs.YtgpkppohfodhdaaGreatDoor.Ru
namespace Go.Proofs.YtgpkppohfodhdaaGreatDoor.Ru
open Go Go.RowKit Go.Proofs.YtgpkppohfodhdaaGreatDoor.Pm Go.Proofs.YtgpkppohfodhdaaGreatDoor.Cd
set_option linter.unusedVariables false
set_option linter.unusedSimpArgs false
structure Hold (p : Prop) : Prop where mk :: (out : p)
end Go.Proofs.YtgpkppohfodhdaaGreatDoor.Ru
namespace Go.Proofs.YtgpkppohfodhdaaGreatDoor.Ru
open Go Go.RowKit Go.Proofs.YtgpkppohfodhdaaGreatDoor.Pm Go.Proofs.YtgpkppohfodhdaaGreatDoor.Pl Go.Proofs.YtgpkppohfodhdaaGreatDoor.Va
set_option linter.unusedVariables false
set_option linter.unusedSimpArgs false
set_option maxHeartbeats 4000000
set_option maxRecDepth 8000
end Go.Proofs.YtgpkppohfodhdaaGreatDoor.Ru
namespace Go.Proofs.YtgpkppohfodhdaaGreatDoor.Ru
open Go Go.RowKit Go.Proofs.YtgpkppohfodhdaaGreatDoor.Pm Go.Proofs.YtgpkppohfodhdaaGreatDoor.Pl Go.Proofs.YtgpkppohfodhdaaGreatDoor.Va
set_option linter.unusedVariables false
set_option linter.unusedSimpArgs false
set_option maxHeartbeats 4000000
set_option maxRecDepth 8000
section
variable {R : List Of} {s s' : List Ce} {e e' n : Int} {nm : ByteArray} {i : Nat}
end
end Go.Proofs.YtgpkppohfodhdaaGreatDoor.Ru
namespace Go.Proofs.YtgpkppohfodhdaaGreatDoor.Ru
open Go Go.RowKit Go.Proofs.YtgpkppohfodhdaaGreatDoor.Pm Go.Proofs.YtgpkppohfodhdaaGreatDoor.Pl Go.Proofs.YtgpkppohfodhdaaGreatDoor.Va
set_option linter.unusedVariables false
set_option linter.unusedSimpArgs false
set_option maxHeartbeats 4000000
set_option maxRecDepth 8000
end Go.Proofs.YtgpkppohfodhdaaGreatDoor.Ru
namespace Go.Proofs.YtgpkppohfodhdaaGreatDoor.Ru
open Go Go.RowKit Go.Proofs.YtgpkppohfodhdaaGreatDoor.Pm Go.Proofs.YtgpkppohfodhdaaGreatDoor.Pl Go.Proofs.YtgpkppohfodhdaaGreatDoor.Va
set_option linter.unusedVariables false
set_option linter.unusedSimpArgs false
set_option maxHeartbeats 4000000
set_option maxRecDepth 8000
structure RndR (R : List Of) (l : List Ins) (eF : Int) (tF : List Ce) (nF : Nat) (s : List Ce) (at_ e : Int) (n : Nat) : Prop where
 h : (∃ (t : List Ce) (a : Nat), s = t.reverse ∧ at_ = a ∧ e = 0 ∧ Good t ∧ a ≤ l.length ∧ (runF R l (l.length - a) a t).2.1 = eF ∧ (runF R l (l.length - a) a t).2.2 + n = nF ∧ (runF R l (l.length - a) a t).1 = tF ∧ (n = 0 → t = [])) ∨ (e ≠ 0 ∧ e = eF ∧ n = nF ∧ n ≠ 0)
end Go.Proofs.YtgpkppohfodhdaaGreatDoor.Ru
