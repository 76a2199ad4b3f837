import Derived.Test.YtgpkppohfodhdaaGreatDoorPmBll
import Derived.Test.YtgpkppohfodhdaaGreatDoorProg
import Derived.Tactics
import Derived.Tactics2
import Derived.WalkKit
import Derived.WalkSpells
import Derived.StillTactics
import Derived.OwnWalk
import Derived.Laws.Pointers
import Derived.StillTailTactics
import Derived.Deep.RegionHeld3
import Derived.Deep.RegionLaw
import Derived.Deep.AppendLies
import Derived.KernelRfl
import Derived.Test.YtgpkppohfodhdaaGreatDoorCdAll
import Derived.Maps.Own
import Derived.Carry
namespace Go.Proofs.YtgpkppohfodhdaaGreatDoor.Cd
open Go Go.RowKit Go.Proofs.YtgpkppohfodhdaaGreatDoor.Pm
set_option linter.unusedVariables false
theorem nofr {w : World} {b o : Nat} {arr : Array Value} {ty : TypeId} (h : w.heap[b]? = some (.cells arr ty (0, 0))) : w.frozen? ⟨b, o, none⟩ = false := by simp [World.frozen?, h]
theorem setCell_size {w : World} {a : Addr} {v : Value} : (w.setCell a v).heap.size = w.heap.size := by simp [World.setCell]
structure Put (base e sz : Nat) (w : World) (b : Nat) (arr : Array Value) (ty : TypeId) (v : Value) (n : Nat) (us : List Value) (w' : World) (v' : Value) : Prop where
 os : w'.os = w.os
 tape : w'.tape = w.tape
 out : w'.output = w.output
 size : w.heap.size ≤ w'.heap.size
 far : ∀ k, k < w.heap.size → k ≠ b → v.ownBlock ≠ some k → w'.heap[k]? = w.heap[k]?
 at_ : w'.heap[b]? = some (.cells (arr.toList.set 0 v').toArray ty (0, 0))
 own : w'.ownsRow base e sz v' n us
 blk : ∀ g, v'.ownBlock = some g → v.ownBlock = some g ∨ w.heap.size ≤ g
 form : ∃ gg cap, v' = .slice (some ⟨gg, 0, none⟩) n cap
end Go.Proofs.YtgpkppohfodhdaaGreatDoor.Cd
namespace Go.Proofs.YtgpkppohfodhdaaGreatDoor.Cd
open Go Go.RowKit Go.Proofs.YtgpkppohfodhdaaGreatDoor.Pm
set_option linter.unusedVariables false
end Go.Proofs.YtgpkppohfodhdaaGreatDoor.Cd
namespace Go.Proofs.YtgpkppohfodhdaaGreatDoor.Cd
open Go Go.RowKit Go.Proofs.YtgpkppohfodhdaaGreatDoor.Pm
set_option linter.unusedVariables false
end Go.Proofs.YtgpkppohfodhdaaGreatDoor.Cd
namespace Go.Proofs.YtgpkppohfodhdaaGreatDoor.Cd
open Go Go.RowKit Go.Proofs.YtgpkppohfodhdaaGreatDoor.Pm
set_option linter.unusedVariables false
set_option maxHeartbeats 4000000
set_option maxRecDepth 8000
end Go.Proofs.YtgpkppohfodhdaaGreatDoor.Cd
namespace Go.Proofs.YtgpkppohfodhdaaGreatDoor.Cd
open Go Go.RowKit Go.Proofs.YtgpkppohfodhdaaGreatDoor.Pm
set_option linter.unusedVariables false
end Go.Proofs.YtgpkppohfodhdaaGreatDoor.Cd
namespace Go.Proofs.YtgpkppohfodhdaaGreatDoor.Cd
open Go Go.RowKit Go.Proofs.YtgpkppohfodhdaaGreatDoor.Pm
set_option linter.unusedVariables false
end Go.Proofs.YtgpkppohfodhdaaGreatDoor.Cd
namespace Go.Proofs.YtgpkppohfodhdaaGreatDoor.Cd
open Go Go.RowKit Go.Proofs.YtgpkppohfodhdaaGreatDoor.Pm Go.Proofs.YtgpkppohfodhdaaGreatDoor.Pl
set_option linter.unusedVariables false
set_option maxHeartbeats 4000000
set_option maxRecDepth 8000
end Go.Proofs.YtgpkppohfodhdaaGreatDoor.Cd
namespace Go.Proofs.YtgpkppohfodhdaaGreatDoor.Cd
open Go Go.RowKit Go.Proofs.YtgpkppohfodhdaaGreatDoor.Pm Go.Proofs.YtgpkppohfodhdaaGreatDoor.Pl
set_option linter.unusedVariables false
set_option maxHeartbeats 4000000
set_option maxRecDepth 8000
end Go.Proofs.YtgpkppohfodhdaaGreatDoor.Cd
namespace Go.Proofs.YtgpkppohfodhdaaGreatDoor.Cd
open Go Go.RowKit Go.Proofs.YtgpkppohfodhdaaGreatDoor.Pm Go.Proofs.YtgpkppohfodhdaaGreatDoor.Pl
set_option linter.unusedVariables false
set_option maxHeartbeats 4000000
set_option maxRecDepth 8000
end Go.Proofs.YtgpkppohfodhdaaGreatDoor.Cd
namespace Go.Proofs.YtgpkppohfodhdaaGreatDoor.Cd
open Go Go.RowKit Go.Proofs.YtgpkppohfodhdaaGreatDoor.Pm Go.Proofs.YtgpkppohfodhdaaGreatDoor.Pl
set_option linter.unusedVariables false
set_option maxHeartbeats 4000000
set_option maxRecDepth 8000
end Go.Proofs.YtgpkppohfodhdaaGreatDoor.Cd
namespace Go.Proofs.YtgpkppohfodhdaaGreatDoor.Cd
open Go Go.RowKit Go.Proofs.YtgpkppohfodhdaaGreatDoor.Pm Go.Proofs.YtgpkppohfodhdaaGreatDoor.Pl
set_option linter.unusedVariables false
set_option maxHeartbeats 4000000
set_option maxRecDepth 8000
end Go.Proofs.YtgpkppohfodhdaaGreatDoor.Cd
namespace Go.Proofs.YtgpkppohfodhdaaGreatDoor.Cd
open Go Go.RowKit Go.Proofs.YtgpkppohfodhdaaGreatDoor.Pm Go.Proofs.YtgpkppohfodhdaaGreatDoor.Pl
set_option linter.unusedVariables false
set_option maxHeartbeats 4000000
set_option maxRecDepth 8000
end Go.Proofs.YtgpkppohfodhdaaGreatDoor.Cd
