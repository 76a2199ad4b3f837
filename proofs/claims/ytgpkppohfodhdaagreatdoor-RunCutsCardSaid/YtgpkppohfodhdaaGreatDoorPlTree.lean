import Derived.Test.YtgpkppohfodhdaaGreatDoorQx0
import Derived.Test.YtgpkppohfodhdaaGreatDoorPlDec
namespace Go.Proofs.YtgpkppohfodhdaaGreatDoor.Q
set_option linter.unusedVariables false
def formT : Int → Option (List UInt8 × Int × Int)
  | 1 => some ([108, 111, 119, 101, 115, 116], 0, 0)
  | 2 => some ([115, 101, 99, 111, 110, 100], 0, 0)
  | 3 => some ([102, 114, 111, 109], 0, 0)
  | 4 => some ([], 1000000000000, 0)
  | 5 => some ([108, 101, 115, 115], 1000000000000, 1)
  | 6 => some ([99, 117, 116], 100000, 1)
  | 7 => some ([109, 105, 110], 0, 2)
  | 8 => some ([109, 97, 120], 0, 2)
  | 9 => some ([101, 108, 115, 101], 0, 2)
  | 10 => some ([105, 102], 0, 3)
  | 11 => some ([109, 111, 114, 101], 1000, 0)
  | 12 => some ([97, 98, 111, 118, 101], 0, 2)
  | _ => none
def wordL (k : Int) : List UInt8 := ((formT k).map (·.1)).getD []
def moreL (k n : Int) (nm : ByteArray) : List (List UInt8) :=
  if k = 3 then [nm.data.toList] else if k = 5 then [Pl.textL n] else if k = 6 ∨ k = 11 then [Pl.intL n] else []
def sepA : Bool → List (List UInt8) → List UInt8
  | _, [] => []
  | b, m :: l => (if b then [] else [44, 32]) ++ m ++ sepA false l
mutual
def txtE : S45 → List UInt8
  | ⟨k, n, nm, l⟩ => if k = 4 then Pl.textL n else if k = 1 ∨ k = 2 then wordL k else
      wordL k ++ [40] ++ (if k = 3 then [] else txtA true l) ++ sepA (k == 3 || l.isEmpty) (moreL k n nm) ++ [41]
def txtA : Bool → List S45 → List UInt8
  | _, [] => []
  | b, x :: l => (if b then [] else [44, 32]) ++ txtE x ++ txtA false l
end
mutual
def rngE : S45 → Bool
  | ⟨_, n, _, l⟩ => decide ((-9223372036854775808 ≤ n ∧ n ≤ 9223372036854775807) ∧ l.length < 4611686018427387904) && rngA l
def rngA : List S45 → Bool
  | [] => true
  | x :: l => rngE x && rngA l
end
mutual
def sameE : S45 → S45 → Bool
  | ⟨k, n, nm, l⟩, y => k == y.f0 && (n == y.f1 && (nm.toList == y.f2.toList && sameA l y.f3))
def sameA : List S45 → List S45 → Bool
  | [], [] => true
  | x :: l, y :: m => sameE x y && sameA l m
  | _, _ => false
end
def wordsL : List (List UInt8) := [[108, 111, 119, 101, 115, 116], [115, 101, 99, 111, 110, 100], [102, 114, 111, 109], [108, 101, 115, 115], [99, 117, 116], [109, 105, 110], [109, 97, 120], [101, 108, 115, 101], [105, 102], [109, 111, 114, 101], [97, 98, 111, 118, 101]]
theorem rngA_mem : ∀ (l : List S45), rngA l = true → ∀ y ∈ l, rngE y = true
  | [], _, y, h => by cases h
  | x :: l, h, y, hy => by
    rw [rngA, Bool.and_eq_true] at h
    rcases List.mem_cons.1 hy with rfl | hy
    · exact h.1
    · exact rngA_mem l h.2 y hy
theorem sepA_len : ∀ (l : List (List UInt8)), 2 * l.length ≤ (sepA false l).length
  | [] => by simp
  | x :: l => by
    have := sepA_len l
    simp only [sepA, List.length_append, List.length_cons, Bool.false_eq_true, if_false, List.length_nil]
    omega
theorem sepA_len1 (l : List (List UInt8)) : l.length ≤ (sepA true l).length + 1 := by
  cases l with
  | nil => simp
  | cons x l =>
    have := sepA_len l
    simp only [sepA, List.length_append, List.length_cons, if_true, List.length_nil]
    omega
theorem txtA_map : ∀ (b : Bool) (l : List S45), txtA b l = sepA b (l.map txtE)
  | b, [] => by simp [txtA, sepA]
  | b, x :: l => by rw [txtA, List.map_cons, sepA, txtA_map false l]
theorem sepA_snoc : ∀ (b : Bool) (l : List (List UInt8)) (m : List UInt8), sepA b (l ++ [m]) = sepA b l ++ (if b && l.isEmpty then [] else [44, 32]) ++ m
  | b, [], m => by simp [sepA]
  | b, x :: l, m => by
    rw [List.cons_append, sepA, sepA, sepA_snoc false l m]
    simp
theorem sepA_take (b : Bool) (l : List (List UInt8)) (j : Nat) (m : List UInt8) (h : l[j]? = some m) : sepA b (l.take (j + 1)) = sepA b (l.take j) ++ (if b && (j == 0) then [] else [44, 32]) ++ m := by
  obtain ⟨hj, he⟩ := List.getElem?_eq_some_iff.1 h
  rw [List.take_succ_eq_append_getElem hj, sepA_snoc, he]
  have e : (l.take j).isEmpty = (j == 0) := by
    rw [Bool.eq_iff_iff]
    simp only [List.isEmpty_iff, List.take_eq_nil_iff, beq_iff_eq]
    constructor
    · rintro (h | h)
      · exact h
      · subst h; simp at hj
    · exact .inl
  rw [e]
theorem sepA_le (b : Bool) (l : List (List UInt8)) (j : Nat) : (sepA b (l.take j)).length ≤ (sepA b l).length := by
  induction l generalizing b j with
  | nil => simp
  | cons x l ih =>
    cases j with
    | zero => simp [sepA]
    | succ j =>
      rw [List.take_succ_cons, sepA, sepA]
      have := ih false j
      simp only [List.length_append]
      omega
end Go.Proofs.YtgpkppohfodhdaaGreatDoor.Q
