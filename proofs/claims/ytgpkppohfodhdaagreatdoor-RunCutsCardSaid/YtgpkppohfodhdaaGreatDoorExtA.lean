import Derived.Test.YtgpkppohfodhdaaGreatDoorPx0
import Derived.Test.YtgpkppohfodhdaaGreatDoorShelf
import Derived.Test.YtgpkppohfodhdaaGreatDoorPlDec
import Derived.WalkSmall
import Derived.Lib.LaidTab
import Derived.Lib.AppendIntMem
namespace Go.Proofs.YtgpkppohfodhdaaGreatDoor.P
open Go.RowKit Go.Proofs.YtgpkppohfodhdaaGreatDoorW.PrintWords Go.Proofs.YtgpkppohfodhdaaGreatDoorW.PrintLast Go.Proofs.YtgpkppohfodhdaaGreatDoorW.PrintMore
set_option linter.unusedVariables false
set_option linter.unusedSimpArgs false
attribute [local go_sem] max2_int min2_int max_two min_two max_three min_three max_four min_four
structure LaidW (w : World) : Prop where
  tab : Lib.TabIs Tryz.prog w "internal/strconv.uint64pow10" .u64 Lib.pow10Tab
theorem var_old {w w' : World} {n : String} {cs : Array Value} (hb : Below w.heap.size w w') (hv : w.var? Tryz.prog n = some cs) : w'.var? Tryz.prog n = some cs := by
  unfold World.var? at hv ⊢
  rcases hg : Tryz.prog.globalNamed n with _ | g
  · rw [hg] at hv
    simp at hv
  · rw [hg] at hv
    simp only [Option.bind_some] at hv ⊢
    rcases Nat.lt_or_ge g w.heap.size with hlt | hge
    · rw [hb.block g hlt]
      exact hv
    · rw [Array.getElem?_eq_none hge] at hv
      simp at hv
theorem LaidW.below {w w' : World} (h : LaidW w) (hb : Below w.heap.size w w') : LaidW w' := ⟨var_old hb h.tab⟩
def strconv_Itoa.f (a0 : Int) : Option (ByteArray) := if -9223372036854775808 ≤ a0 ∧ a0 ≤ 9223372036854775807 then some (Pl.B (Pl.intL a0)) else none
theorem strconv_Itoa.calls (a0 : Int) (r : ByteArray) (w : World) (hLd : LaidW w) (h : strconv_Itoa.f a0 = some r) :
    Calls Tryz.prog 149 #[.int .i64 a0] w fun e w' => e = .returned (.string r) ∧ Below w.heap.size w w' := by
  unfold strconv_Itoa.f at h
  by_cases hc : -9223372036854775808 ≤ a0 ∧ a0 ≤ 9223372036854775807
  · rw [if_pos hc] at h
    obtain rfl := Option.some.inj h
    refine (Tryz.strconv_Itoa a0 hc.1 hc.2 w hLd.tab).mono ?_
    rintro e w' ⟨rfl, k, os, rfl⟩
    refine ⟨?_, ?_⟩
    · rw [Pl.intL_eq a0 hc.1 hc.2]; rfl
    · exact Lib.below_grow _ _ (Nat.le_refl _) _ _
  · rw [if_neg hc] at h
    exact absurd h (by simp)
end Go.Proofs.YtgpkppohfodhdaaGreatDoor.P
