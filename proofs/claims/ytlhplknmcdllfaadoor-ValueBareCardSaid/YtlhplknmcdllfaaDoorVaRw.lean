/- Words of rows that the pruner took away at value's seat. -/
import Derived.Test.YtlhplknmcdllfaaDoorVaV
namespace Go.Proofs.YtlhplknmcdllfaaDoor.Pm
open Go Go.RowKit
theorem rep_int {w : World} {ok : Nat → Nat → Prop} (k : IntKind) (n : Int) : Rep w ok [] [] (.int k n) (.c (.int k n)) := .c _ _ (.int _ _)
theorem rep_bool {w : World} {ok : Nat → Nat → Prop} (b : Bool) : Rep w ok [] [] (.bool b) (.c (.bool b)) := .c _ _ (.bool _)
theorem IsRow.mem {w : World} {a : Option Addr} {len cap : Nat} {zs : List Int} (h : IsRow .i64 w a len cap zs) : ∀ n ∈ zs.take len, I64 n := by
  intro n hn
  have hn := List.mem_of_mem_take hn
  rcases h with ⟨_, _, _, rfl⟩ | ⟨x, _, _, _, _, _, hw⟩
  · simp at hn
  · have := hw n hn
    simp only [Lit.wf, Bool.and_eq_true, decide_eq_true_eq] at this
    exact ⟨this.1, this.2⟩
theorem IsRowA.mem {m : Nat} {w : World} {a : Option Addr} {len cap : Nat} {zs : List (List Int)} (h : IsRowA m w a len cap zs) : ∀ y ∈ zs, y.length = m ∧ ∀ n ∈ y, I64 n := by
  rcases h with ⟨_, _, _, rfl⟩ | ⟨x, _, _, _, h, _⟩
  · intro y hy; cases hy
  · exact h
theorem open_len {H : Type} {enc : TypeId × Value → H} {P : Program} {w : World} {base : Nat} {spare : Nat → Bool} {held : Bool} {t e : TypeId} {fuel : Nat} {a : Option Addr} {len cap : Nat} {x : DataW H × List MemPlace}
    (ht : P.underlying t = some (.slice e)) (h : DataW.trod enc P w base spare held fuel t [.slice a len cap] = some x) : len ≤ 9223372036854775807 := by
  rcases DataW.trod_slice ht h with ⟨h1, -⟩ | ⟨a', len', cap', elems, rest, n, _, h1, -, hb, hl, hmx, -⟩
  · injection h1 with h1 _
    injection h1 with _ h1 _
    omega
  · injection h1 with h1 _
    injection h1 with _ h1 h2
    subst h1; subst h2
    unfold maxLen at hmx
    omega
end Go.Proofs.YtlhplknmcdllfaaDoor.Pm
