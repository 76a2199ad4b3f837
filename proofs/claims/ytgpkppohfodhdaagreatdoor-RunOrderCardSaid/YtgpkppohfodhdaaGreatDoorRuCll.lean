import Derived.Test.YtgpkppohfodhdaaGreatDoorRuBll
import Derived.Test.YtgpkppohfodhdaaGreatDoorVaBll
import Derived.Test.YtgpkppohfodhdaaGreatDoorPmBll
import Derived.Test.YtgpkppohfodhdaaGreatDoorCdAll
namespace Go.Proofs.YtgpkppohfodhdaaGreatDoor.Ru
open Go Go.RowKit Go.Proofs.YtgpkppohfodhdaaGreatDoor.Pm Go.Proofs.YtgpkppohfodhdaaGreatDoor.Pl Go.Proofs.YtgpkppohfodhdaaGreatDoor.Va
set_option linter.unusedVariables false
set_option maxHeartbeats 4000000
set_option maxRecDepth 8000
theorem pick11_ok (c n : Int) (hc : I64 c) (hn : 0 < n) : Ok E 17 [] [pI c, pI n] (pI (Pm.pk c n)) [] := by
 obtain ⟨h0, h1⟩ := hc
 refine Ok.enter hE Tryz.func17 rfl (by decide +kernel) (by kernel_rfl) rfl rfl (Nat.le_of_ble_eq_true rfl) rfl ?_
 by_cases hneg : c < 0
 ·refine ⟨_, ltT hneg, ?_⟩
  refine ⟨_, addV rfl (by omega) (by omega), ?_⟩
  refine ⟨_, negV rfl (by omega) (by omega), ?_⟩
  refine ⟨_, remV (by omega) rfl, ?_⟩
  exact Ret.mk _ rfl (by show PV.c _ = _; rw [Pm.pk, if_pos hneg]) rfl
 ·refine ⟨_, ltN hneg, ?_⟩
  refine ⟨_, remV (by omega) rfl, ?_⟩
  exact Ret.mk _ rfl (by show PV.c _ = _; rw [Pm.pk, if_neg hneg]) rfl
def nmsB : List ByteArray := [⟨#[97, 48]⟩, ⟨#[98, 111, 98, 48]⟩, ⟨#[120, 49, 48]⟩]
def insF (n i : Nat) (a b : Int) : Ins :=
 if 1 + Pm.pk a 13 = 9 ∨ 1 + Pm.pk a 13 = 12 ∨ 1 + Pm.pk a 13 = 13 then ⟨1 + Pm.pk a 13, (i : Int) + 1 + Pm.pk b ((n : Int) - i), ⟨#[]⟩⟩
 else if 1 + Pm.pk a 13 = 1 ∨ 1 + Pm.pk a 13 = 5 then ⟨1 + Pm.pk a 13, if b.tmod 7 = 0 then 1000000000000 else Pm.pk b 900, ⟨#[]⟩⟩
 else if 1 + Pm.pk a 13 = 6 then ⟨1 + Pm.pk a 13, Pm.pk b 100001, ⟨#[]⟩⟩
 else if 1 + Pm.pk a 13 = 10 then ⟨1 + Pm.pk a 13, Pm.pk b 9, ⟨#[]⟩⟩
 else if 1 + Pm.pk a 13 = 4 then ⟨1 + Pm.pk a 13, 0, nmsB.getD (Pm.pk b 3).toNat ⟨#[]⟩⟩
 else ⟨1 + Pm.pk a 13, 0, ⟨#[]⟩⟩
def someN (z : List (List Int)) (k : Nat) : List Ins := (List.range k).map fun i => insF (min z.length 12) i ((z.getD i []).getD 0 0) ((z.getD i []).getD 1 0)
def someF (z : List (List Int)) : List Ins := someN z (min z.length 12)
theorem someN_len (z : List (List Int)) (k : Nat) : (someN z k).length = k := by unfold someN; simp
theorem someN_succ {z : List (List Int)} {i : Nat} {a b : Int} (h : z[i]? = some [a, b]) : someN z (i + 1) = someN z i ++ [insF (min z.length 12) i a b] := by
 unfold someN
 rw [List.range_succ, List.map_append]
 simp [List.getD_eq_getElem?_getD, h]
def outP : List Ins → PV
 | [] => .c .nil
 | x :: l => .orow (rowI (x :: l)) 0
def outT : List Ins → List (Nat × Nat)
 | [] => []
 | x :: l => [((x :: l).length, 36)]
theorem app_out (l : List Ins) (x : Ins) (hl : l.length ≤ 1000000) : AppR E (outT l) 23 (outP l) (.c (.row [cellsI x])) (outP (l ++ [x])) (outT (l ++ [x])) := by
 cases l with
 | nil => exact AppR.first1 (x := cellsI x) rfl rfl (by decide) rfl rfl rfl (by decide)
 | cons y l =>
  have e : (rowI (y :: l)).length = (y :: l).length := rowI_len _
  have h := AppR.more1 (E := E) (T := [((y :: l).length, 36)]) (t := 23) (k := 0) (xs := rowI (y :: l)) (x := cellsI x) (q := .c (.row [cellsI x])) (y :: l).length rfl rfl (by decide) rfl rfl e (fun c hc => by
   unfold rowI at hc
   obtain ⟨q, -, rfl⟩ := List.mem_map.1 hc
   rfl) rfl rfl (by simp only [List.length_cons] at hl ⊢; omega) (by show ((y :: l).length + 1) * 32 ≤ _; simp only [List.length_cons] at hl ⊢; omega)
  have e2 : rowI (y :: l) ++ [cellsI x] = rowI (y :: (l ++ [x])) := by unfold rowI; simp
  have e3 : ([((y :: l).length, 36)] : List (Nat × Nat)).set 0 ((y :: l).length + 1, 36) = [((y :: (l ++ [x])).length, 36)] := by simp
  rw [e2, e3] at h
  exact h
theorem some_ok (z : List (List Int)) (hz : ∀ y ∈ z, y.length = 2 ∧ ∀ n ∈ y, I64 n) (hl : z.length ≤ 9223372036854775807) : Ok E 11 [] [.c (.row (encA z))] (.c (.row (rowI (someF z)))) [] := by
 have hzl : (encA z).length = z.length := by unfold encA; simp
 obtain ⟨n, hn⟩ : ∃ n, min z.length 12 = n := ⟨_, rfl⟩
 have hsf : someF z = someN z n := by unfold someF; rw [hn]
 rw [hsf]
 refine Ok.enter hE Tryz.func11 rfl (by decide +kernel) (by kernel_rfl) rfl rfl (Nat.le_of_ble_eq_true rfl) rfl ?_
 refine ⟨_, minR (z := (n : Int)) (by rw [hzl]; omega), ?_⟩
 refine Loop.cut (α := Nat) (fun i => i ≤ n) (fun i => [(0, .c (.row (encA z))), (3, outP (someN z i)), (4, pI n), (5, pI i)]) (fun _ => []) (fun i => outT (someN z i)) (fun i => n - i) 0 0 (fun _ => rfl) (fun _ => rfl) (fun i => by
  show ((lowP 0 _ && (lowP 0 (outP (someN z i)) && (lowP 0 _ && (lowP 0 _ && true)))) : Bool) = true
  cases someN z i <;> rfl) (Nat.zero_le _) ⟨⟨rfl, rfl, rfl, rfl, trivial⟩, rfl, rfl⟩ ?_
 intro i f hi
 have hi : i ≤ n := hi
 by_cases hlt : i < n
 rotate_left
 ·obtain rfl : i = n := by omega
  generalize someN z i = l
  cases l with
  | nil =>
   refine ⟨_, ltN (by omega), ?_⟩
   exact ⟨_, rfl, Wk.nilRow, rfl, .nil _⟩
  | cons y l =>
   refine ⟨_, ltN (by omega), ?_⟩
   exact ⟨_, rfl, Pr.wkOrow, rfl, .nil _⟩
 obtain ⟨a, b, hy, ha, hb, hab⟩ := arr2 hz (i := i) (by omega)
 have hsucc := someN_succ hy
 rw [hn] at hsucc
 have hlen := someN_len z i
 obtain ⟨l, hlo⟩ : ∃ l, someN z i = l := ⟨_, rfl⟩
 rw [hlo] at hsucc hlen
 rw [hlo]
 have hA := app_out l (insF n i a b) (by omega)
 have g1 := pick11_ok a 13 ha (by decide)
 obtain ⟨p0, p1⟩ := Pm.pk_rng (c := a) (n := 13) (by decide)
 have hins : insF n i a b = insF n i a b := rfl
 conv at hins => rhs; unfold insF
 obtain ⟨op0, hop0⟩ : ∃ p, Pm.pk a 13 = p := ⟨_, rfl⟩
 rw [hop0] at g1 p0 p1 hins
 obtain ⟨op, hop⟩ : ∃ op, 1 + op0 = op := ⟨_, rfl⟩
 rw [hop] at hins
 clear hlo
 rcases l with _ | ⟨y, l⟩
 all_goals (
  by_cases h9 : op = 9
  ·rw [if_pos (.inl h9)] at hins
   have g2 := pick11_ok b ((n : Int) - i) hb (by omega)
   obtain ⟨q0, q1⟩ := Pm.pk_rng (c := b) (n := (n : Int) - i) (by omega)
   rw [hins] at hA hsucc
   refine ⟨_, ltT (by omega), ?_⟩
   refine ⟨_, idxV (j := i) hab rfl rfl rfl rfl, ?_⟩
   refine ⟨_, ⟨rfl⟩, ?_⟩
   refine ⟨_, CallR.mk1 g1 rfl rfl, ?_⟩
   refine ⟨_, addV hop (by omega) (by omega), ?_⟩
   refine ⟨_, eqT h9, ?_⟩
   refine ⟨_, addV (z := (i : Int) + 1) rfl (by omega) (by omega), ?_⟩
   refine ⟨_, idxV (j := i) hab rfl rfl rfl rfl, ?_⟩
   refine ⟨_, ⟨rfl⟩, ?_⟩
   refine ⟨_, subV (z := (n : Int) - i) rfl (by omega) (by omega), ?_⟩
   refine ⟨_, CallR.mk1 g2 rfl rfl, ?_⟩
   refine ⟨_, addV rfl (by omega) (by omega), ?_⟩
   refine ⟨_, ⟨_, rfl, rfl⟩, ?_⟩
   refine ⟨_, _, hA, ?_⟩
   refine ⟨_, addV (z := ((i + 1 : Nat) : Int)) (by push_cast; rfl) (by omega) (by omega), ?_⟩
   exact ⟨i + 1, hlt, by show n - (i + 1) < n - i; omega, ⟨rfl, congrArg outP hsucc.symm, rfl, rfl, trivial⟩, ⟨_, rfl⟩, congrArg outT hsucc.symm⟩
  by_cases h12 : op = 12
  ·rw [if_pos (.inr (.inl h12))] at hins
   have g2 := pick11_ok b ((n : Int) - i) hb (by omega)
   obtain ⟨q0, q1⟩ := Pm.pk_rng (c := b) (n := (n : Int) - i) (by omega)
   rw [hins] at hA hsucc
   refine ⟨_, ltT (by omega), ?_⟩
   refine ⟨_, idxV (j := i) hab rfl rfl rfl rfl, ?_⟩
   refine ⟨_, ⟨rfl⟩, ?_⟩
   refine ⟨_, CallR.mk1 g1 rfl rfl, ?_⟩
   refine ⟨_, addV hop (by omega) (by omega), ?_⟩
   refine ⟨_, eqN h9, ?_⟩
   refine ⟨_, eqT h12, ?_⟩
   refine ⟨_, addV (z := (i : Int) + 1) rfl (by omega) (by omega), ?_⟩
   refine ⟨_, idxV (j := i) hab rfl rfl rfl rfl, ?_⟩
   refine ⟨_, ⟨rfl⟩, ?_⟩
   refine ⟨_, subV (z := (n : Int) - i) rfl (by omega) (by omega), ?_⟩
   refine ⟨_, CallR.mk1 g2 rfl rfl, ?_⟩
   refine ⟨_, addV rfl (by omega) (by omega), ?_⟩
   refine ⟨_, ⟨_, rfl, rfl⟩, ?_⟩
   refine ⟨_, _, hA, ?_⟩
   refine ⟨_, addV (z := ((i + 1 : Nat) : Int)) (by push_cast; rfl) (by omega) (by omega), ?_⟩
   exact ⟨i + 1, hlt, by show n - (i + 1) < n - i; omega, ⟨rfl, congrArg outP hsucc.symm, rfl, rfl, trivial⟩, ⟨_, rfl⟩, congrArg outT hsucc.symm⟩
  by_cases h13 : op = 13
  ·rw [if_pos (.inr (.inr h13))] at hins
   have g2 := pick11_ok b ((n : Int) - i) hb (by omega)
   obtain ⟨q0, q1⟩ := Pm.pk_rng (c := b) (n := (n : Int) - i) (by omega)
   rw [hins] at hA hsucc
   refine ⟨_, ltT (by omega), ?_⟩
   refine ⟨_, idxV (j := i) hab rfl rfl rfl rfl, ?_⟩
   refine ⟨_, ⟨rfl⟩, ?_⟩
   refine ⟨_, CallR.mk1 g1 rfl rfl, ?_⟩
   refine ⟨_, addV hop (by omega) (by omega), ?_⟩
   refine ⟨_, eqN h9, ?_⟩
   refine ⟨_, eqN h12, ?_⟩
   refine ⟨_, eqT h13, ?_⟩
   refine ⟨_, addV (z := (i : Int) + 1) rfl (by omega) (by omega), ?_⟩
   refine ⟨_, idxV (j := i) hab rfl rfl rfl rfl, ?_⟩
   refine ⟨_, ⟨rfl⟩, ?_⟩
   refine ⟨_, subV (z := (n : Int) - i) rfl (by omega) (by omega), ?_⟩
   refine ⟨_, CallR.mk1 g2 rfl rfl, ?_⟩
   refine ⟨_, addV rfl (by omega) (by omega), ?_⟩
   refine ⟨_, ⟨_, rfl, rfl⟩, ?_⟩
   refine ⟨_, _, hA, ?_⟩
   refine ⟨_, addV (z := ((i + 1 : Nat) : Int)) (by push_cast; rfl) (by omega) (by omega), ?_⟩
   exact ⟨i + 1, hlt, by show n - (i + 1) < n - i; omega, ⟨rfl, congrArg outP hsucc.symm, rfl, rfl, trivial⟩, ⟨_, rfl⟩, congrArg outT hsucc.symm⟩
  rw [if_neg (by omega)] at hins
  by_cases h1 : op = 1
  ·rw [if_pos (by omega)] at hins
   have g2 := pick11_ok b 900 hb (by decide)
   by_cases h7 : b.tmod 7 = 0
   ·rw [if_pos h7] at hins
    rw [hins] at hA hsucc
    refine ⟨_, ltT (by omega), ?_⟩
    refine ⟨_, idxV (j := i) hab rfl rfl rfl rfl, ?_⟩
    refine ⟨_, ⟨rfl⟩, ?_⟩
    refine ⟨_, CallR.mk1 g1 rfl rfl, ?_⟩
    refine ⟨_, addV hop (by omega) (by omega), ?_⟩
    refine ⟨_, eqN h9, ?_⟩
    refine ⟨_, eqN h12, ?_⟩
    refine ⟨_, eqN h13, ?_⟩
    refine ⟨_, eqT h1, ?_⟩
    refine ⟨_, idxV (j := i) hab rfl rfl rfl rfl, ?_⟩
    refine ⟨_, ⟨rfl⟩, ?_⟩
    refine ⟨_, CallR.mk1 g2 rfl rfl, ?_⟩
    refine ⟨_, idxV (j := i) hab rfl rfl rfl rfl, ?_⟩
    refine ⟨_, ⟨rfl⟩, ?_⟩
    refine ⟨_, remV (by decide) rfl, ?_⟩
    refine ⟨_, eqT h7, ?_⟩
    refine ⟨_, ⟨_, rfl, rfl⟩, ?_⟩
    refine ⟨_, _, hA, ?_⟩
    refine ⟨_, addV (z := ((i + 1 : Nat) : Int)) (by push_cast; rfl) (by omega) (by omega), ?_⟩
    exact ⟨i + 1, hlt, by show n - (i + 1) < n - i; omega, ⟨rfl, congrArg outP hsucc.symm, rfl, rfl, trivial⟩, ⟨_, rfl⟩, congrArg outT hsucc.symm⟩
   ·rw [if_neg h7] at hins
    rw [hins] at hA hsucc
    refine ⟨_, ltT (by omega), ?_⟩
    refine ⟨_, idxV (j := i) hab rfl rfl rfl rfl, ?_⟩
    refine ⟨_, ⟨rfl⟩, ?_⟩
    refine ⟨_, CallR.mk1 g1 rfl rfl, ?_⟩
    refine ⟨_, addV hop (by omega) (by omega), ?_⟩
    refine ⟨_, eqN h9, ?_⟩
    refine ⟨_, eqN h12, ?_⟩
    refine ⟨_, eqN h13, ?_⟩
    refine ⟨_, eqT h1, ?_⟩
    refine ⟨_, idxV (j := i) hab rfl rfl rfl rfl, ?_⟩
    refine ⟨_, ⟨rfl⟩, ?_⟩
    refine ⟨_, CallR.mk1 g2 rfl rfl, ?_⟩
    refine ⟨_, idxV (j := i) hab rfl rfl rfl rfl, ?_⟩
    refine ⟨_, ⟨rfl⟩, ?_⟩
    refine ⟨_, remV (by decide) rfl, ?_⟩
    refine ⟨_, eqN h7, ?_⟩
    refine ⟨_, ⟨_, rfl, rfl⟩, ?_⟩
    refine ⟨_, _, hA, ?_⟩
    refine ⟨_, addV (z := ((i + 1 : Nat) : Int)) (by push_cast; rfl) (by omega) (by omega), ?_⟩
    exact ⟨i + 1, hlt, by show n - (i + 1) < n - i; omega, ⟨rfl, congrArg outP hsucc.symm, rfl, rfl, trivial⟩, ⟨_, rfl⟩, congrArg outT hsucc.symm⟩
  by_cases h5 : op = 5
  ·rw [if_pos (by omega)] at hins
   have g2 := pick11_ok b 900 hb (by decide)
   by_cases h7 : b.tmod 7 = 0
   ·rw [if_pos h7] at hins
    rw [hins] at hA hsucc
    refine ⟨_, ltT (by omega), ?_⟩
    refine ⟨_, idxV (j := i) hab rfl rfl rfl rfl, ?_⟩
    refine ⟨_, ⟨rfl⟩, ?_⟩
    refine ⟨_, CallR.mk1 g1 rfl rfl, ?_⟩
    refine ⟨_, addV hop (by omega) (by omega), ?_⟩
    refine ⟨_, eqN h9, ?_⟩
    refine ⟨_, eqN h12, ?_⟩
    refine ⟨_, eqN h13, ?_⟩
    refine ⟨_, eqN h1, ?_⟩
    refine ⟨_, eqT h5, ?_⟩
    refine ⟨_, idxV (j := i) hab rfl rfl rfl rfl, ?_⟩
    refine ⟨_, ⟨rfl⟩, ?_⟩
    refine ⟨_, CallR.mk1 g2 rfl rfl, ?_⟩
    refine ⟨_, idxV (j := i) hab rfl rfl rfl rfl, ?_⟩
    refine ⟨_, ⟨rfl⟩, ?_⟩
    refine ⟨_, remV (by decide) rfl, ?_⟩
    refine ⟨_, eqT h7, ?_⟩
    refine ⟨_, ⟨_, rfl, rfl⟩, ?_⟩
    refine ⟨_, _, hA, ?_⟩
    refine ⟨_, addV (z := ((i + 1 : Nat) : Int)) (by push_cast; rfl) (by omega) (by omega), ?_⟩
    exact ⟨i + 1, hlt, by show n - (i + 1) < n - i; omega, ⟨rfl, congrArg outP hsucc.symm, rfl, rfl, trivial⟩, ⟨_, rfl⟩, congrArg outT hsucc.symm⟩
   ·rw [if_neg h7] at hins
    rw [hins] at hA hsucc
    refine ⟨_, ltT (by omega), ?_⟩
    refine ⟨_, idxV (j := i) hab rfl rfl rfl rfl, ?_⟩
    refine ⟨_, ⟨rfl⟩, ?_⟩
    refine ⟨_, CallR.mk1 g1 rfl rfl, ?_⟩
    refine ⟨_, addV hop (by omega) (by omega), ?_⟩
    refine ⟨_, eqN h9, ?_⟩
    refine ⟨_, eqN h12, ?_⟩
    refine ⟨_, eqN h13, ?_⟩
    refine ⟨_, eqN h1, ?_⟩
    refine ⟨_, eqT h5, ?_⟩
    refine ⟨_, idxV (j := i) hab rfl rfl rfl rfl, ?_⟩
    refine ⟨_, ⟨rfl⟩, ?_⟩
    refine ⟨_, CallR.mk1 g2 rfl rfl, ?_⟩
    refine ⟨_, idxV (j := i) hab rfl rfl rfl rfl, ?_⟩
    refine ⟨_, ⟨rfl⟩, ?_⟩
    refine ⟨_, remV (by decide) rfl, ?_⟩
    refine ⟨_, eqN h7, ?_⟩
    refine ⟨_, ⟨_, rfl, rfl⟩, ?_⟩
    refine ⟨_, _, hA, ?_⟩
    refine ⟨_, addV (z := ((i + 1 : Nat) : Int)) (by push_cast; rfl) (by omega) (by omega), ?_⟩
    exact ⟨i + 1, hlt, by show n - (i + 1) < n - i; omega, ⟨rfl, congrArg outP hsucc.symm, rfl, rfl, trivial⟩, ⟨_, rfl⟩, congrArg outT hsucc.symm⟩
  rw [if_neg (by omega)] at hins
  by_cases h6 : op = 6
  ·rw [if_pos h6] at hins
   have g2 := pick11_ok b 100001 hb (by decide)
   rw [hins] at hA hsucc
   refine ⟨_, ltT (by omega), ?_⟩
   refine ⟨_, idxV (j := i) hab rfl rfl rfl rfl, ?_⟩
   refine ⟨_, ⟨rfl⟩, ?_⟩
   refine ⟨_, CallR.mk1 g1 rfl rfl, ?_⟩
   refine ⟨_, addV hop (by omega) (by omega), ?_⟩
   refine ⟨_, eqN h9, ?_⟩
   refine ⟨_, eqN h12, ?_⟩
   refine ⟨_, eqN h13, ?_⟩
   refine ⟨_, eqN h1, ?_⟩
   refine ⟨_, eqN h5, ?_⟩
   refine ⟨_, eqT h6, ?_⟩
   refine ⟨_, idxV (j := i) hab rfl rfl rfl rfl, ?_⟩
   refine ⟨_, ⟨rfl⟩, ?_⟩
   refine ⟨_, CallR.mk1 g2 rfl rfl, ?_⟩
   refine ⟨_, ⟨_, rfl, rfl⟩, ?_⟩
   refine ⟨_, _, hA, ?_⟩
   refine ⟨_, addV (z := ((i + 1 : Nat) : Int)) (by push_cast; rfl) (by omega) (by omega), ?_⟩
   exact ⟨i + 1, hlt, by show n - (i + 1) < n - i; omega, ⟨rfl, congrArg outP hsucc.symm, rfl, rfl, trivial⟩, ⟨_, rfl⟩, congrArg outT hsucc.symm⟩
  rw [if_neg h6] at hins
  by_cases h10 : op = 10
  ·rw [if_pos h10] at hins
   have g2 := pick11_ok b 9 hb (by decide)
   rw [hins] at hA hsucc
   refine ⟨_, ltT (by omega), ?_⟩
   refine ⟨_, idxV (j := i) hab rfl rfl rfl rfl, ?_⟩
   refine ⟨_, ⟨rfl⟩, ?_⟩
   refine ⟨_, CallR.mk1 g1 rfl rfl, ?_⟩
   refine ⟨_, addV hop (by omega) (by omega), ?_⟩
   refine ⟨_, eqN h9, ?_⟩
   refine ⟨_, eqN h12, ?_⟩
   refine ⟨_, eqN h13, ?_⟩
   refine ⟨_, eqN h1, ?_⟩
   refine ⟨_, eqN h5, ?_⟩
   refine ⟨_, eqN h6, ?_⟩
   refine ⟨_, eqT h10, ?_⟩
   refine ⟨_, idxV (j := i) hab rfl rfl rfl rfl, ?_⟩
   refine ⟨_, ⟨rfl⟩, ?_⟩
   refine ⟨_, CallR.mk1 g2 rfl rfl, ?_⟩
   refine ⟨_, ⟨_, rfl, rfl⟩, ?_⟩
   refine ⟨_, _, hA, ?_⟩
   refine ⟨_, addV (z := ((i + 1 : Nat) : Int)) (by push_cast; rfl) (by omega) (by omega), ?_⟩
   exact ⟨i + 1, hlt, by show n - (i + 1) < n - i; omega, ⟨rfl, congrArg outP hsucc.symm, rfl, rfl, trivial⟩, ⟨_, rfl⟩, congrArg outT hsucc.symm⟩
  rw [if_neg h10] at hins
  by_cases h4 : op = 4
  ·rw [if_pos h4] at hins
   have g2 := pick11_ok b 3 hb (by decide)
   obtain ⟨q0, q1⟩ := Pm.pk_rng (c := b) (n := 3) (by decide)
   obtain ⟨j, hj⟩ : ∃ j : Nat, Pm.pk b 3 = j := ⟨(Pm.pk b 3).toNat, by omega⟩
   rw [hj] at g2 hins q1
   rw [Int.toNat_natCast] at hins
   have hnm : ([[CV.str ⟨#[97, 48]⟩], [.str ⟨#[98, 111, 98, 48]⟩], [.str ⟨#[120, 49, 48]⟩]] : List (List CV))[j]? = some [.str (nmsB.getD j ⟨#[]⟩)] := by
    match j, q1 with
    | 0, _ => rfl
    | 1, _ => rfl
    | 2, _ => rfl
    | j + 3, q1 => omega
   rw [hins] at hA hsucc
   refine ⟨_, ltT (by omega), ?_⟩
   refine ⟨_, idxV (j := i) hab rfl rfl rfl rfl, ?_⟩
   refine ⟨_, ⟨rfl⟩, ?_⟩
   refine ⟨_, CallR.mk1 g1 rfl rfl, ?_⟩
   refine ⟨_, addV hop (by omega) (by omega), ?_⟩
   refine ⟨_, eqN h9, ?_⟩
   refine ⟨_, eqN h12, ?_⟩
   refine ⟨_, eqN h13, ?_⟩
   refine ⟨_, eqN h1, ?_⟩
   refine ⟨_, eqN h5, ?_⟩
   refine ⟨_, eqN h6, ?_⟩
   refine ⟨_, eqN h10, ?_⟩
   refine ⟨_, eqT h4, ?_⟩
   refine ⟨_, ⟨_, rfl, rfl⟩, ?_⟩
   refine ⟨_, idxV (j := i) hab rfl rfl rfl rfl, ?_⟩
   refine ⟨_, ⟨rfl⟩, ?_⟩
   refine ⟨_, CallR.mk1 g2 rfl rfl, ?_⟩
   refine ⟨_, idxV (j := j) hnm rfl rfl rfl rfl, ?_⟩
   refine ⟨_, ⟨_, rfl, rfl⟩, ?_⟩
   refine ⟨_, _, hA, ?_⟩
   refine ⟨_, addV (z := ((i + 1 : Nat) : Int)) (by push_cast; rfl) (by omega) (by omega), ?_⟩
   exact ⟨i + 1, hlt, by show n - (i + 1) < n - i; omega, ⟨rfl, congrArg outP hsucc.symm, rfl, rfl, trivial⟩, ⟨_, rfl⟩, congrArg outT hsucc.symm⟩
  rw [if_neg h4] at hins
  rw [hins] at hA hsucc
  refine ⟨_, ltT (by omega), ?_⟩
  refine ⟨_, idxV (j := i) hab rfl rfl rfl rfl, ?_⟩
  refine ⟨_, ⟨rfl⟩, ?_⟩
  refine ⟨_, CallR.mk1 g1 rfl rfl, ?_⟩
  refine ⟨_, addV hop (by omega) (by omega), ?_⟩
  refine ⟨_, eqN h9, ?_⟩
  refine ⟨_, eqN h12, ?_⟩
  refine ⟨_, eqN h13, ?_⟩
  refine ⟨_, eqN h1, ?_⟩
  refine ⟨_, eqN h5, ?_⟩
  refine ⟨_, eqN h6, ?_⟩
  refine ⟨_, eqN h10, ?_⟩
  refine ⟨_, eqN h4, ?_⟩
  refine ⟨_, ⟨_, rfl, rfl⟩, ?_⟩
  refine ⟨_, _, hA, ?_⟩
  refine ⟨_, addV (z := ((i + 1 : Nat) : Int)) (by push_cast; rfl) (by omega) (by omega), ?_⟩
  exact ⟨i + 1, hlt, by show n - (i + 1) < n - i; omega, ⟨rfl, congrArg outP hsucc.symm, rfl, rfl, trivial⟩, ⟨_, rfl⟩, congrArg outT hsucc.symm⟩)
end Go.Proofs.YtgpkppohfodhdaaGreatDoor.Ru
namespace Go.Proofs.YtgpkppohfodhdaaGreatDoor.Ru
open Go Go.RowKit Go.Proofs.YtgpkppohfodhdaaGreatDoor.Pm Go.Proofs.YtgpkppohfodhdaaGreatDoor.Pl Go.Proofs.YtgpkppohfodhdaaGreatDoor.Va
set_option linter.unusedVariables false
set_option maxHeartbeats 4000000
set_option maxRecDepth 8000
def awO : List Of := [⟨⟨#[97]⟩, 500⟩, ⟨⟨#[98]⟩, 700⟩]
def aw1 : List Ins := [⟨2, 0, ⟨#[]⟩⟩, ⟨7, 0, ⟨#[]⟩⟩]
def aw2 : List Ins := [⟨10, 1, ⟨#[]⟩⟩, ⟨12, 4, ⟨#[]⟩⟩, ⟨3, 0, ⟨#[]⟩⟩, ⟨13, 5, ⟨#[]⟩⟩, ⟨1, 3, ⟨#[]⟩⟩, ⟨5, 1, ⟨#[]⟩⟩]
def aw3 : List Ins := [⟨4, 0, ⟨#[99]⟩⟩]
theorem aw_run : tellR awO aw1 = ((0, false), 100, 2) ∧ (tellR awO aw2).1 = (699, true) ∧ (tellR awO aw2).2.1 = 0 ∧ (tellR awO aw3).1 = (0, false) ∧ (tellR awO aw3).2.1 = 0 := by decide +kernel
theorem awake11_ok : Ok E 10 [] [] (pB true) [] := by
 obtain ⟨f1, f2, f3, f4, f5⟩ := aw_run
 have h1 := Run_ok aw1 awO (by decide) (by decide)
 have h2 := Run_ok aw2 awO (by decide) (by decide)
 have h3 := Run_ok aw3 awO (by decide) (by decide)
 have h4 := Steps_ok aw1 awO (by decide) (by decide)
 unfold pR at h1 h2 h3
 rw [f1] at h1 h4
 rw [f2, f3] at h2
 rw [f4, f5] at h3
 refine Ok.enter hE Tryz.func10 rfl (by decide +kernel) (by kernel_rfl) rfl rfl (Nat.le_of_ble_eq_true rfl) rfl ?_
 refine ⟨_, ⟨_, rfl, rfl⟩, ?_⟩
 refine ⟨_, ⟨_, rfl, rfl⟩, ?_⟩
 refine ⟨_, CallR.mk1 h1 rfl rfl, ?_⟩
 refine ⟨_, ⟨_, rfl, rfl⟩, ?_⟩
 refine ⟨_, CallR.mk1 h2 rfl rfl, ?_⟩
 refine ⟨_, ⟨_, rfl, rfl⟩, ?_⟩
 refine ⟨_, CallR.mk1 h3 rfl rfl, ?_⟩
 refine ⟨_, eqT rfl, ?_⟩
 refine ⟨_, ⟨_, rfl, rfl⟩, ?_⟩
 refine ⟨_, CallR.mk1 h4 rfl rfl, ?_⟩
 refine ⟨_, eqT rfl, ?_⟩
 refine ⟨_, eqT rfl, ?_⟩
 refine ⟨_, eqT rfl, ?_⟩
 refine ⟨_, eqT rfl, ?_⟩
 exact Ret.mk _ rfl rfl rfl
theorem ins_right {n i : Nat} (hi : i < n) (hn : n ≤ 12) (a b : Int) : rightI (insF n i a b) i n = true := by
 obtain ⟨p0, p1⟩ := Pm.pk_rng (c := a) (n := 13) (by decide)
 unfold insF
 generalize Pm.pk a 13 = op0 at p0 p1
 obtain ⟨op, hop⟩ : ∃ op, 1 + op0 = op := ⟨_, rfl⟩
 rw [hop]
 by_cases hl : op = 9 ∨ op = 12 ∨ op = 13
 ·rw [if_pos hl]
  obtain ⟨q0, q1⟩ := Pm.pk_rng (c := b) (n := (n : Int) - i) (by omega)
  exact right_lead hl (by omega) (by omega) rfl
 rw [if_neg hl]
 have key : ∀ (x : Int) (nm : ByteArray), 0 ≤ x → x ≤ (if op = 1 ∨ op = 5 then 1000000000000 else if op = 6 then 100000 else if op = 10 then 1000 else 0) → (if op = 4 then isName nm = true else nm = ⟨#[]⟩) → rightI ⟨op, x, nm⟩ i n = true := by
  intro x nm h0 h1 h2
  unfold rightI endsF
  dsimp only
  rw [if_neg hl]
  by_cases c1 : op = 1 ∨ op = 5
  ·rw [if_pos c1] at h1 ⊢
   rw [if_neg (by dsimp only; omega), if_neg (by omega)]
   rw [if_neg (by omega)] at h2
   rw [h2]; exact beq_self_eq_true _
  ·rw [if_neg c1] at h1 ⊢
   by_cases c2 : op = 6
   ·rw [if_pos c2] at h1 ⊢
    rw [if_neg (by dsimp only; omega), if_neg (by omega)]
    rw [if_neg (by omega)] at h2
    rw [h2]; exact beq_self_eq_true _
   ·rw [if_neg c2] at h1 ⊢
    by_cases c3 : op = 10
    ·rw [if_pos c3] at h1 ⊢
     rw [if_neg (by dsimp only; omega), if_neg (by omega)]
     rw [if_neg (by omega)] at h2
     rw [h2]; exact beq_self_eq_true _
    ·rw [if_neg c3] at h1 ⊢
     rw [if_neg (by dsimp only; omega)]
     by_cases c4 : op = 4
     ·rw [if_pos c4] at h2 ⊢
      exact h2
     ·rw [if_neg c4] at h2 ⊢
      rw [h2]; exact beq_self_eq_true _
 by_cases c1 : op = 1 ∨ op = 5
 ·rw [if_pos c1]
  obtain ⟨q0, q1⟩ := Pm.pk_rng (c := b) (n := 900) (by decide)
  refine key _ _ (by split <;> omega) (by rw [if_pos c1]; split <;> omega) (by rw [if_neg (by omega)])
 rw [if_neg c1]
 by_cases c2 : op = 6
 ·rw [if_pos c2]
  obtain ⟨q0, q1⟩ := Pm.pk_rng (c := b) (n := 100001) (by decide)
  exact key _ _ q0 (by rw [if_neg c1, if_pos c2]; omega) (by rw [if_neg (by omega)])
 rw [if_neg c2]
 by_cases c3 : op = 10
 ·rw [if_pos c3]
  obtain ⟨q0, q1⟩ := Pm.pk_rng (c := b) (n := 9) (by decide)
  exact key _ _ q0 (by rw [if_neg c1, if_neg c2, if_pos c3]; omega) (by rw [if_neg (by omega)])
 rw [if_neg c3]
 by_cases c4 : op = 4
 ·rw [if_pos c4]
  obtain ⟨q0, q1⟩ := Pm.pk_rng (c := b) (n := 3) (by decide)
  obtain ⟨j, hj⟩ : ∃ j : Nat, Pm.pk b 3 = j := ⟨(Pm.pk b 3).toNat, by omega⟩
  rw [hj, Int.toNat_natCast]
  refine key _ _ (Int.le_refl _) (by rw [if_neg c1, if_neg c2, if_neg c3]; omega) ?_
  rw [if_pos c4]
  have : ∀ j : Nat, j < 3 → isName (nmsB.getD j ⟨#[]⟩) = true := by decide +kernel
  exact this j (by omega)
 ·rw [if_neg c4]
  exact key _ _ (Int.le_refl _) (by rw [if_neg c1, if_neg c2, if_neg c3]; omega) (by rw [if_neg c4])
theorem rightL_range {n : Nat} (F : Nat → Ins) (z : Int) (h : ∀ i, i < n → rightI (F i) i z = true) : ∀ k, k ≤ n → rightL ((List.range k).map F) 0 z = true
 | 0, _ => rfl
 | k + 1, hk => by
  rw [List.range_succ, List.map_append, rightL_app, rightL_range F z h k (by omega)]
  simp only [List.map_cons, List.map_nil, rightL, Bool.true_and, Bool.and_true, List.length_map, List.length_range]
  have := h k (by omega)
  simpa using this
theorem some_len (z : List (List Int)) : (someF z).length ≤ 12 ∧ (someF z).length = min z.length 12 := by
 unfold someF
 rw [someN_len]
 exact ⟨by omega, rfl⟩
theorem some_right (z : List (List Int)) : rightF (someF z) = true := by
 unfold rightF
 obtain ⟨h1, h2⟩ := some_len z
 rw [Bool.and_eq_true]
 refine ⟨?_, decide_eq_true (by omega)⟩
 rw [h2]
 unfold someF someN
 exact rightL_range (n := min z.length 12) _ _ (fun i hi => ins_right hi (by omega) _ _) _ (Nat.le_refl _)
end Go.Proofs.YtgpkppohfodhdaaGreatDoor.Ru
namespace Go.Proofs.YtgpkppohfodhdaaGreatDoor.Ru
open Go Go.RowKit Go.Proofs.YtgpkppohfodhdaaGreatDoor.Pm Go.Proofs.YtgpkppohfodhdaaGreatDoor.Pl Go.Proofs.YtgpkppohfodhdaaGreatDoor.Va
set_option linter.unusedVariables false
set_option maxHeartbeats 4000000
set_option maxRecDepth 8000
theorem bb_ (b : Bool) : (b == b) = true := by cases b <;> rfl
theorem RunTells_ok (z : List (List Int)) (hz : ∀ y ∈ z, y.length = 2 ∧ ∀ n ∈ y, I64 n) (hl : z.length ≤ 9223372036854775807) (la : List Ins) (hla : la.length ≤ 17592186043904) (zo : List (List Int)) (hzo : ∀ y ∈ zo, y.length = 2 ∧ ∀ n ∈ y, I64 n) (hlo : zo.length ≤ 9223372036854775807) (lb : List Of) (hlb : lb.length ≤ 17592186043904) :
  Ok E 3 [] [.c (.row (encA z)), .c (.row (rowI la)), .c (.row (encA zo)), .c (.row (rowO lb))] (pB true) [] := by
 have hS := some_ok z hz hl
 have hO := Offers_ok zo hzo hlo
 have hsl := (some_len z).1
 have hol := off_len' zo
 obtain ⟨l0, e0'⟩ : ∃ l, someF z = l := ⟨_, rfl⟩
 obtain ⟨lo, e1'⟩ : ∃ l, offersF zo = l := ⟨_, rfl⟩
 rw [e0'] at hS hsl
 rw [e1'] at hO hol
 obtain ⟨ls, hls⟩ : ∃ ls, [l0, la] = ls := ⟨_, rfl⟩
 have hls2 : ls.length = 2 := by rw [← hls]; rfl
 have hlsl : ∀ l ∈ ls, l.length ≤ 17592186043904 := by
  rw [← hls]
  intro l hl
  simp only [List.mem_cons, List.not_mem_nil, or_false] at hl
  rcases hl with rfl | rfl
  ·omega
  ·exact hla
 have hrl : [[CV.row (rowI l0)], [CV.row (rowI la)]] = ls.map fun l => [CV.row (rowI l)] := by rw [← hls]; rfl
 obtain ⟨os, hos⟩ : ∃ os, [lo, lb] = os := ⟨_, rfl⟩
 have hos2 : os.length = 2 := by rw [← hos]; rfl
 have hosl : ∀ l ∈ os, l.length ≤ 17592186043904 := by
  rw [← hos]
  intro l hl
  simp only [List.mem_cons, List.not_mem_nil, or_false] at hl
  rcases hl with rfl | rfl
  ·omega
  ·exact hlb
 have hro : [[CV.row (rowO lo)], [CV.row (rowO lb)]] = os.map fun l => [CV.row (rowO l)] := by rw [← hos]; rfl
 refine Ok.enter hE Tryz.func3 rfl (by decide +kernel) (by kernel_rfl) rfl rfl (Nat.le_of_ble_eq_true rfl) rfl ?_
 refine ⟨_, CallR.mk1 awake11_ok rfl rfl, ?_⟩
 refine ⟨_, CallR.mk1 hS rfl rfl, ?_⟩
 refine ⟨_, ⟨_, rfl, rfl⟩, ?_⟩
 refine Loop.run (α := Nat) (fun i => i ≤ 2) (fun i => [(2, .c (.row (encA zo))), (3, .c (.row (rowO lb))), (9, pB true), (24, .c (.row (ls.map fun l => [CV.row (rowI l)]))), (25, pI 2), (26, pI i)]) (fun _ => []) (fun _ => []) (fun i => 2 - i) 0 (Nat.zero_le _) ⟨⟨rfl, rfl, rfl, congrArg (fun r : List (List CV) => PV.c (.row r)) hrl, rfl, rfl, trivial⟩, rfl, rfl⟩ ?_
 intro i f hi
 by_cases hil : i < 2
 rotate_left
 ·refine ⟨_, ltN (by omega), ?_⟩
  exact Ret.mk _ rfl rfl rfl
 obtain ⟨l, hl'⟩ : ∃ l, ls[i]? = some l := ⟨_, List.getElem?_eq_getElem (by omega)⟩
 have hll := hlsl l (List.mem_of_getElem? hl')
 have hlx : (ls.map fun l => [CV.row (rowI l)])[i]? = some [CV.row (rowI l)] := by rw [List.getElem?_map, hl']; rfl
 refine ⟨_, ltT (by omega), ?_⟩
 refine ⟨_, idxV (j := i) hlx rfl rfl rfl rfl, ?_⟩
 refine ⟨_, CallR.mk1 hO rfl rfl, ?_⟩
 refine ⟨_, ⟨_, rfl, rfl⟩, ?_⟩
 refine Loop.run (α := Nat) (fun j => j ≤ 2) (fun j => [(2, .c (.row (encA zo))), (3, .c (.row (rowO lb))), (9, pB true), (24, .c (.row (ls.map fun l => [CV.row (rowI l)]))), (25, pI 2), (26, pI i), (11, .c (.row (rowI l))), (33, .c (.row (os.map fun l => [CV.row (rowO l)]))), (34, pI 2), (35, pI j)]) (fun _ => []) (fun _ => []) (fun j => 2 - j) 0 (Nat.zero_le _) ⟨⟨rfl, rfl, rfl, rfl, rfl, rfl, rfl, congrArg (fun r : List (List CV) => PV.c (.row r)) hro, rfl, rfl, trivial⟩, rfl, rfl⟩ ?_
 intro j f2 hj
 by_cases hjl : j < 2
 rotate_left
 ·refine ⟨_, ltN (by omega), ?_⟩
  refine ⟨_, addV (z := ((i + 1 : Nat) : Int)) (by push_cast; rfl) (by omega) (by omega), ?_⟩
  exact ⟨i + 1, hil, by show 2 - (i + 1) < 2 - i; omega, ⟨rfl, rfl, rfl, rfl, rfl, rfl, trivial⟩, rfl, rfl⟩
 obtain ⟨R, hR'⟩ : ∃ l, os[j]? = some l := ⟨_, List.getElem?_eq_getElem (by omega)⟩
 have hRl := hosl R (List.mem_of_getElem? hR')
 have hRx : (os.map fun l => [CV.row (rowO l)])[j]? = some [CV.row (rowO R)] := by rw [List.getElem?_map, hR']; rfl
 have c1 := Run_ok l R (by omega) hRl
 have c2 := rRun_ok l R (by omega) hRl
 have c3 := Steps_ok l R (by omega) hRl
 have c4 := rSteps_ok l R (by omega) hRl
 obtain ⟨⟨⟨a, b⟩, e, n⟩, hr⟩ : ∃ r, tellR R l = r := ⟨_, rfl⟩
 unfold pR at c1 c2
 rw [hr] at c1 c2 c3 c4
 refine ⟨_, ltT (by omega), ?_⟩
 refine ⟨_, idxV (j := j) hRx rfl rfl rfl rfl, ?_⟩
 refine ⟨_, CallR.mk1 c1 rfl rfl, ?_⟩
 refine ⟨_, CallR.mk1 c2 rfl rfl, ?_⟩
 refine ⟨_, neN rfl, ?_⟩
 refine ⟨_, Lx.neBN (bb_ _), ?_⟩
 refine ⟨_, neN rfl, ?_⟩
 refine ⟨_, CallR.mk1 c3 rfl rfl, ?_⟩
 refine ⟨_, CallR.mk1 c4 rfl rfl, ?_⟩
 refine ⟨_, neN rfl, ?_⟩
 refine ⟨_, addV (z := ((j + 1 : Nat) : Int)) (by push_cast; rfl) (by omega) (by omega), ?_⟩
 exact ⟨j + 1, hjl, by show 2 - (j + 1) < 2 - j; omega, ⟨rfl, rfl, rfl, rfl, rfl, rfl, rfl, rfl, rfl, rfl, trivial⟩, rfl, rfl⟩
theorem tell_right {R : List Of} {l : List Ins} (hR : rightO R = true) (hl : rightF l = true) : (tellR R l).2.1 = endF (runF R l l.length 0 []) ∧ (tellR R l).2.2 = (runF R l l.length 0 []).2.2 := by
 unfold tellR
 rw [hR, hl, if_neg (by simp), if_neg (by simp)]
 exact ⟨rfl, rfl⟩
theorem no_lead {R : List Of} {x : Ins} {t t' : List Ce} {a a' : Nat} (h9 : x.op ≠ 9) (h12 : x.op ≠ 12) (h13 : x.op ≤ 12 ∧ 1 ≤ x.op) (h : stepF R x t a = .go t' a') : a' = a := by
 have hput : ∀ {c : Ce}, putF c t a = .go t' a' → a' = a := fun {c} h => by
  unfold putF at h
  split at h
  ·cases h
  ·injection h with _ h; exact h.symm
 have htwo : ∀ {f : Ce → Ce → Ce}, twoF f t a = .go t' a' → a' = a := fun {f} h => by
  unfold twoF at h
  split at h
  ·injection h with _ h; exact h.symm
  ·cases h
 have hmin : ∀ {f : Int → Am}, minusF f t a = .go t' a' → a' = a := fun {f} h => by
  match t, h with
  | [], h => cases h
  | (n, false) :: t, h => injection h with _ h; exact h.symm
  | (n, true) :: t, h =>
   replace h : amS t a (lessF f (.am n)) = .go t' a' := h
   unfold amS at h
   split at h
   ·injection h with _ h; exact h.symm
   ·cases h
   ·cases h
 have ho : x.op = 1 ∨ x.op = 2 ∨ x.op = 3 ∨ x.op = 4 ∨ x.op = 5 ∨ x.op = 6 ∨ x.op = 7 ∨ x.op = 8 ∨ x.op = 10 ∨ x.op = 11 := by omega
 unfold stepF at h
 rcases ho with e | e | e | e | e | e | e | e | e | e <;> rw [e] at h <;> simp only [reduceIte, Int.reduceEq] at h
 ·exact hput h
 ·exact hput h
 ·exact hput h
 ·exact hput h
 ·exact hmin h
 ·exact hmin h
 ·exact htwo h
 ·exact htwo h
 ·exact hput h
 ·exact htwo h
theorem run_all {R : List Of} {l : List Ins} (hn : ∀ x ∈ l, x.op ≠ 9 ∧ x.op ≠ 12 ∧ x.op ≤ 12 ∧ 1 ≤ x.op) : ∀ (k a : Nat) (t : List Ce), l.length - a = k → (runF R l k a t).2.1 = 0 → (runF R l k a t).2.2 = k
 | 0, a, t, _, _ => rfl
 | k + 1, a, t, hk, h => by
  rw [runF] at h ⊢
  obtain ⟨x, hx⟩ : ∃ x, l[a]? = some x := ⟨_, List.getElem?_eq_getElem (by omega)⟩
  rw [hx] at h ⊢
  dsimp only at h ⊢
  obtain ⟨m9, m12, m13⟩ := hn x (List.mem_of_getElem? hx)
  cases hs : stepF R x t (a + 1) with
  | er e =>
   rw [hs] at h
   have := step_err hs
   dsimp only at h
   omega
  | go t' a' =>
   rw [hs] at h
   obtain rfl := no_lead m9 m12 m13 hs
   exact congrArg (· + 1) (run_all hn k (a + 1) t' (by omega) h)
theorem run_some {R : List Of} {l : List Ins} {k a : Nat} {t : List Ce} (h : a < l.length) : 1 ≤ (runF R l (k + 1) a t).2.2 := by
 rw [runF, List.getElem?_eq_getElem h]
 dsimp only
 split
 ·exact Nat.le_refl _
 ·exact Nat.succ_le_succ (Nat.zero_le _)
def leadB (x : Ins) : Bool := x.op == 9 || (x.op == 12 || x.op == 13)
theorem steps_law {R : List Of} {l : List Ins} (hR : rightO R = true) (hl : rightF l = true) : (min 1 l.length ≤ (tellR R l).2.2 ∧ (tellR R l).2.2 ≤ l.length) ∧ (l.any leadB = true ∨ (tellR R l).2.1 ≠ 0 ∨ (tellR R l).2.2 = l.length) := by
 obtain ⟨h1, h2⟩ := tell_right hR hl
 rw [h1, h2]
 have hs := run_steps (R := R) (l := l) l.length 0 []
 refine ⟨⟨?_, hs⟩, ?_⟩
 ·by_cases h0 : l.length = 0
  ·omega
  ·obtain ⟨k, hk⟩ : ∃ k, l.length = k + 1 := ⟨l.length - 1, by omega⟩
   have := run_some (R := R) (l := l) (k := k) (a := 0) (t := []) (by omega)
   rw [← hk] at this
   omega
 ·by_cases hb : l.any leadB = true
  ·exact .inl hb
  ·right
   by_cases he : endF (runF R l l.length 0 []) = 0
   ·right
    have he0 : (runF R l l.length 0 []).2.1 = 0 := by
     unfold endF at he
     split at he
     ·cases he
     ·exact he
    refine run_all (fun x hx => ?_) l.length 0 [] (by omega) he0
    have hnl : leadB x = false := by
     cases h : leadB x with
     | false => rfl
     | true => exact absurd (List.any_eq_true.2 ⟨x, hx, h⟩) hb
    unfold leadB at hnl
    simp only [Bool.or_eq_false_iff, beq_eq_false_iff_ne] at hnl
    obtain ⟨j, hj⟩ := List.mem_iff_getElem?.1 hx
    unfold rightF at hl
    rw [Bool.and_eq_true] at hl
    have hz : l.length ≤ 5000 := of_decide_eq_true hl.2
    have hr := right_at l 0 l.length hl.1 j x hj
    obtain ⟨q1, q2, -⟩ := right_facts (by omega) hr
    exact ⟨hnl.1, hnl.2.1, by have := hnl.2.2; omega, q1⟩
   ·exact .inl he
theorem any_take {l : List Ins} {i : Nat} {x : Ins} (h : l[i]? = some x) : (l.take (i + 1)).any leadB = ((l.take i).any leadB || leadB x) := by
 rw [List.take_add_one, h, List.any_append]
 simp
theorem RunSteps_ok (z : List (List Int)) (hz : ∀ y ∈ z, y.length = 2 ∧ ∀ n ∈ y, I64 n) (hl : z.length ≤ 9223372036854775807) (zo : List (List Int)) (hzo : ∀ y ∈ zo, y.length = 2 ∧ ∀ n ∈ y, I64 n) (hlo : zo.length ≤ 9223372036854775807) :
  Ok E 4 [] [.c (.row (encA z)), .c (.row (encA zo))] (pB true) [] := by
 have hS := some_ok z hz hl
 have hO := Offers_ok zo hzo hlo
 have hsl := (some_len z).1
 have hsr := some_right z
 have hol := off_len' zo
 have hor := off_right zo
 obtain ⟨l, e0'⟩ : ∃ l, someF z = l := ⟨_, rfl⟩
 obtain ⟨R, e1'⟩ : ∃ l, offersF zo = l := ⟨_, rfl⟩
 rw [e0'] at hS hsl hsr
 rw [e1'] at hO hol hor
 obtain ⟨⟨L1, L2⟩, L3⟩ := steps_law hor hsr
 have c1 := Run_ok l R (by omega) (by omega)
 have c3 := Steps_ok l R (by omega) (by omega)
 obtain ⟨⟨⟨a, b⟩, e, n⟩, hr⟩ : ∃ r, tellR R l = r := ⟨_, rfl⟩
 unfold pR at c1
 rw [hr] at c1 c3 L1 L2 L3
 dsimp only at c1 c3 L1 L2 L3
 have hrl := rowI_len l
 refine Ok.enter hE Tryz.func4 rfl (by decide +kernel) (by kernel_rfl) rfl rfl (Nat.le_of_ble_eq_true rfl) rfl ?_
 refine ⟨_, CallR.mk1 awake11_ok rfl rfl, ?_⟩
 refine ⟨_, CallR.mk1 hS rfl rfl, ?_⟩
 refine ⟨_, CallR.mk1 hO rfl rfl, ?_⟩
 refine ⟨_, CallR.mk1 c3 rfl rfl, ?_⟩
 refine ⟨_, CallR.mk1 c1 rfl rfl, ?_⟩
 refine Loop.run (α := Nat) (fun i => i ≤ l.length) (fun i => [(5, pB true), (6, .c (.row (rowI l))), (8, pI n), (11, pI e), (12, pB ((l.take i).any leadB)), (13, pI i)]) (fun _ => []) (fun _ => []) (fun i => l.length - i) 0 (Nat.zero_le _) ⟨⟨rfl, rfl, rfl, rfl, rfl, rfl, trivial⟩, rfl, rfl⟩ ?_
 intro i f hi
 have hi : i ≤ l.length := hi
 by_cases hlt : i < l.length
 ·obtain ⟨x, hx⟩ : ∃ x, l[i]? = some x := ⟨_, List.getElem?_eq_getElem hlt⟩
  have hany := any_take hx
  obtain ⟨b0, hb0⟩ : ∃ b, (l.take i).any leadB = b := ⟨_, rfl⟩
  rw [hb0] at hany
  rw [hb0]
  have fin : ∀ q : Bool, q = (l.take (i + 1)).any leadB → pB q = pB ((l.take (i + 1)).any leadB) := fun q h => by rw [h]
  cases b0 with
  | true =>
   refine ⟨_, ltT (by rw [hrl]; omega), ?_⟩
   refine ⟨_, addV (z := ((i + 1 : Nat) : Int)) (by push_cast; rfl) (by omega) (by omega), ?_⟩
   exact ⟨i + 1, hlt, by show l.length - (i + 1) < l.length - i; omega, ⟨rfl, rfl, rfl, rfl, fin true (by rw [hany]; rfl), rfl, trivial⟩, rfl, rfl⟩
  | false =>
   rw [Bool.false_or, show leadB x = (x.op == 9 || (x.op == 12 || x.op == 13)) from rfl] at hany
   by_cases h9 : x.op = 9
   ·refine ⟨_, ltT (by rw [hrl]; omega), ?_⟩
    refine ⟨_, idxV (j := i) (rowI_get hx) rfl rfl rfl rfl, ?_⟩
    refine ⟨_, eqT h9, ?_⟩
    refine ⟨_, addV (z := ((i + 1 : Nat) : Int)) (by push_cast; rfl) (by omega) (by omega), ?_⟩
    exact ⟨i + 1, hlt, by show l.length - (i + 1) < l.length - i; omega, ⟨rfl, rfl, rfl, rfl, fin true (by rw [hany, h9]; rfl), rfl, trivial⟩, rfl, rfl⟩
   ·by_cases h12 : x.op = 12
    ·refine ⟨_, ltT (by rw [hrl]; omega), ?_⟩
     refine ⟨_, idxV (j := i) (rowI_get hx) rfl rfl rfl rfl, ?_⟩
     refine ⟨_, eqN h9, ?_⟩
     refine ⟨_, idxV (j := i) (rowI_get hx) rfl rfl rfl rfl, ?_⟩
     refine ⟨_, eqT h12, ?_⟩
     refine ⟨_, addV (z := ((i + 1 : Nat) : Int)) (by push_cast; rfl) (by omega) (by omega), ?_⟩
     exact ⟨i + 1, hlt, by show l.length - (i + 1) < l.length - i; omega, ⟨rfl, rfl, rfl, rfl, fin true (by rw [hany, h12]; rfl), rfl, trivial⟩, rfl, rfl⟩
    ·obtain ⟨q, hq⟩ : ∃ q, (x.op == 13) = q := ⟨_, rfl⟩
     rw [beq_eq_false_iff_ne.2 h9, beq_eq_false_iff_ne.2 h12, hq, Bool.false_or, Bool.false_or] at hany
     refine ⟨_, ltT (by rw [hrl]; omega), ?_⟩
     refine ⟨_, idxV (j := i) (rowI_get hx) rfl rfl rfl rfl, ?_⟩
     refine ⟨_, eqN h9, ?_⟩
     refine ⟨_, idxV (j := i) (rowI_get hx) rfl rfl rfl rfl, ?_⟩
     refine ⟨_, eqN h12, ?_⟩
     refine ⟨_, idxV (j := i) (rowI_get hx) rfl rfl rfl rfl, ?_⟩
     refine ⟨_, eqV hq, ?_⟩
     refine ⟨_, addV (z := ((i + 1 : Nat) : Int)) (by push_cast; rfl) (by omega) (by omega), ?_⟩
     exact ⟨i + 1, hlt, by show l.length - (i + 1) < l.length - i; omega, ⟨rfl, rfl, rfl, rfl, fin q hany.symm, rfl, trivial⟩, rfl, rfl⟩
 ·obtain rfl : i = l.length := by omega
  rw [List.take_length]
  obtain ⟨q, hq⟩ : ∃ q, l.any leadB = q := ⟨_, rfl⟩
  rw [hq] at L3
  rw [hq]
  cases q with
  | true =>
   refine ⟨_, ltN (by rw [hrl]; omega), ?_⟩
   refine ⟨_, minR rfl, ?_⟩
   refine ⟨_, geT (by rw [hrl]; omega), ?_⟩
   refine ⟨_, leT (by rw [hrl]; omega), ?_⟩
   exact Ret.mk _ rfl rfl rfl
  | false =>
   by_cases he : e = 0
   ·refine ⟨_, ltN (by rw [hrl]; omega), ?_⟩
    refine ⟨_, minR rfl, ?_⟩
    refine ⟨_, geT (by rw [hrl]; omega), ?_⟩
    refine ⟨_, leT (by rw [hrl]; omega), ?_⟩
    refine ⟨_, neN he, ?_⟩
    refine ⟨_, eqT (by rw [hrl]; rcases L3 with h | h | h; cases h; exact absurd he h; omega), ?_⟩
    exact Ret.mk _ rfl rfl rfl
   ·refine ⟨_, ltN (by rw [hrl]; omega), ?_⟩
    refine ⟨_, minR rfl, ?_⟩
    refine ⟨_, geT (by rw [hrl]; omega), ?_⟩
    refine ⟨_, leT (by rw [hrl]; omega), ?_⟩
    refine ⟨_, neT he, ?_⟩
    exact Ret.mk _ rfl rfl rfl
end Go.Proofs.YtgpkppohfodhdaaGreatDoor.Ru
namespace Go.Proofs.YtgpkppohfodhdaaGreatDoor.Ru
open Go Go.RowKit Go.Proofs.YtgpkppohfodhdaaGreatDoor.Pm Go.Proofs.YtgpkppohfodhdaaGreatDoor.Pl Go.Proofs.YtgpkppohfodhdaaGreatDoor.Va
set_option linter.unusedVariables false
set_option maxHeartbeats 4000000
set_option maxRecDepth 8000
theorem beqT {c d : Bool} {t sz bb : Nat} {zz : List CV} (h : (c == d) = true) (hT : E.T t = some ⟨.bool, sz, zz, bb⟩ := by rfl) : BinR E t .eql (pB c) (pB d) (pB true) := .of (by
 rw [hT]; cases c <;> cases d <;> simp at h <;> rfl)
theorem step_perm {R R' : List Of} (hn : (R.map Of.s).Nodup) (hp : R'.Perm R) (x : Ins) (t : List Ce) (a : Nat) : stepF R' x t a = stepF R x t a := by
 unfold stepF
 rw [prs_perm hp, from_perm hn hp, hp.length_eq]
theorem run_perm {R R' : List Of} (hn : (R.map Of.s).Nodup) (hp : R'.Perm R) (l : List Ins) : ∀ (k a : Nat) (t : List Ce), runF R' l k a t = runF R l k a t
 | 0, a, t => rfl
 | k + 1, a, t => by
  rw [runF, runF]
  cases l[a]? with
  | none => rfl
  | some x =>
   dsimp only
   rw [step_perm hn hp]
   cases stepF R x t (a + 1) with
   | er e => rfl
   | go t' a' =>
    dsimp only
    rw [run_perm hn hp l k a' t']
theorem tell_perm {R R' : List Of} (hR : rightO R = true) (hp : R'.Perm R) (l : List Ins) : tellR R' l = tellR R l := by
 have hn := (right_iff.1 hR).2.2
 unfold tellR
 rw [right_perm hR hp, hR, run_perm hn hp l]
theorem sliceOV {t e s b : Nat} {zz : List CV} {ei : TI} {xs : List (List CV)} {q : Nat} {lo hi : Option PV} (l h : Nat) (h1 : E.T t = some ⟨.slice e, s, zz, b⟩) (h2 : E.T e = some ei) (hlo : bndF 0 lo = some (l : Int)) (hhi : bndF xs.length hi = some (h : Int)) (hr : l ≤ h ∧ h ≤ xs.length) (hx : ∀ x ∈ xs, x.length = ei.size) :
  SliceR E t (.orow xs q) lo hi (.c (.row ((xs.take h).drop l))) where
 h := by
  unfold sliceF
  rw [h1]
  dsimp only
  rw [h2]
  simp only [toRow, hlo, hhi]
  rw [show decide ((0 : Int) ≤ l ∧ (l : Int) ≤ h ∧ (h : Int) ≤ xs.length) = true by simp; omega]
  dsimp only
  rw [decide_eq_true hx]
  simp
theorem rowI_three' (l : List Ins) : ∀ x ∈ rowI l, x.length = 3 := by
 intro x hx
 unfold rowI at hx
 obtain ⟨y, -, rfl⟩ := List.mem_map.1 hx
 rfl
theorem RunOrder_ok (z : List (List Int)) (hz : ∀ y ∈ z, y.length = 2 ∧ ∀ n ∈ y, I64 n) (hl : z.length ≤ 9223372036854775807) (zo : List (List Int)) (hzo : ∀ y ∈ zo, y.length = 2 ∧ ∀ n ∈ y, I64 n) (hlo : zo.length ≤ 9223372036854775807) (at_ : Int) (hat : I64 at_) :
  Ok E 6 [] [.c (.row (encA z)), .c (.row (encA zo)), pI at_] (pB true) [] := by
 have hS := some_ok z hz hl
 have hO := Offers_ok zo hzo hlo
 have hsl := (some_len z).1
 have hol := off_len' zo
 have hor := off_right zo
 obtain ⟨l, e0'⟩ : ∃ l, someF z = l := ⟨_, rfl⟩
 obtain ⟨R, e1'⟩ : ∃ l, offersF zo = l := ⟨_, rfl⟩
 rw [e0'] at hS hsl
 rw [e1'] at hO hol hor
 have g1 := pick11_ok at_ ((R.length : Int) + 1) hat (by omega)
 obtain ⟨q0, q1⟩ := Pm.pk_rng (c := at_) (n := (R.length : Int) + 1) (by omega)
 obtain ⟨j, hj⟩ : ∃ j : Nat, Pm.pk at_ ((R.length : Int) + 1) = j := ⟨(Pm.pk at_ ((R.length : Int) + 1)).toNat, by omega⟩
 rw [hj] at g1 q1
 have hjl : j ≤ R.length := by omega
 obtain ⟨T, hT⟩ : ∃ T, R.drop j ++ R.take j = T := ⟨_, rfl⟩
 have hTp : T.Perm R := by
  rw [← hT]
  exact List.perm_append_comm.trans (by rw [List.take_append_drop])
 have hTl : T.length = R.length := hTp.length_eq
 have hTr : (rowO R).drop j ++ (rowO R).take j = rowO T := by rw [← hT]; unfold rowO; rw [List.map_append, List.map_drop, List.map_take]
 have hsame := tell_perm hor hTp l
 have c1 := Run_ok l R (by omega) (by omega)
 have c2 := Run_ok l T (by omega) (by omega)
 have c3 := Steps_ok l R (by omega) (by omega)
 have c4 := Steps_ok l T (by omega) (by omega)
 unfold pR at c1 c2
 rw [hsame] at c2 c4
 obtain ⟨⟨⟨a, b⟩, e, n⟩, hr⟩ : ∃ r, tellR R l = r := ⟨_, rfl⟩
 rw [hr] at c1 c2 c3 c4
 rw [← hTr] at c2 c4
 have hrl := rowO_len R
 have hdl : ((rowO R).drop j).length = R.length - j := by rw [List.length_drop, hrl]
 have htl : ((rowO R).take j).length = j := by rw [List.length_take, hrl]; omega
 have hdf : ((rowO R).take (rowO R).length).drop j = (rowO R).drop j := by rw [List.take_length]
 have htf : ((rowO R).take j).drop 0 = (rowO R).take j := rfl
 have s1 := sliceRV (E := E) (t := 24) (xs := rowO R) (lo := some (pI j)) (hi := none) j (rowO R).length rfl rfl rfl rfl ⟨by omega, Nat.le_refl _⟩ (rowO_two R)
 have s2 := sliceRV (E := E) (t := 24) (xs := rowO R) (lo := none) (hi := some (pI j)) 0 j rfl rfl rfl rfl ⟨Nat.zero_le _, by omega⟩ (rowO_two R)
 rw [hdf] at s1
 rw [htf] at s2
 have two : ∀ x ∈ (rowO R).drop j, x.length = 2 := fun x hx => rowO_two R x (List.mem_of_mem_drop hx)
 have two' : ∀ x ∈ (rowO R).take j, x.length = 2 := fun x hx => rowO_two R x (List.mem_of_mem_take hx)
 have a1 := AppR.first (E := E) (T := []) (t := 24) (q := .c (.row ((rowO R).drop j))) rfl rfl (by decide) rfl rfl two (by omega) (by show _ * 24 ≤ _; omega)
 have a2 := AppR.more (E := E) (T := [(((rowO R).drop j).length, 53)]) (t := 24) (k := 0) (xs := (rowO R).drop j) (q := .c (.row ((rowO R).take j))) rfl rfl (by decide) rfl rfl two two' rfl (by omega) (by show (_ + _) * 24 ≤ _; omega)
 refine Ok.enter hE Tryz.func6 rfl (by decide +kernel) (by kernel_rfl) rfl rfl (Nat.le_of_ble_eq_true rfl) rfl ?_
 refine ⟨_, CallR.mk1 awake11_ok rfl rfl, ?_⟩
 refine ⟨_, CallR.mk1 hS rfl rfl, ?_⟩
 refine ⟨_, CallR.mk1 hO rfl rfl, ?_⟩
 refine ⟨_, addV (z := (R.length : Int) + 1) (by rw [hrl]) (by omega) (by omega), ?_⟩
 refine ⟨_, CallR.mk1 g1 rfl rfl, ?_⟩
 refine ⟨_, s1, ?_⟩
 refine ⟨_, _, a1, ?_⟩
 refine ⟨_, s2, ?_⟩
 refine ⟨_, _, a2, ?_⟩
 refine ⟨_, CallR.mk1 c1 rfl rfl, ?_⟩
 refine ⟨_, CallR.mkW c2 (.cons (Wk.refl _) (.cons Pr.wkOrow .nil)) rfl rfl, ?_⟩
 refine ⟨_, eqT rfl, ?_⟩
 refine ⟨_, beqT (bb_ _), ?_⟩
 refine ⟨_, eqT rfl, ?_⟩
 refine ⟨_, CallR.mk1 c3 rfl rfl, ?_⟩
 refine ⟨_, CallR.mkW c4 (.cons (Wk.refl _) (.cons Pr.wkOrow .nil)) rfl rfl, ?_⟩
 refine ⟨_, eqT rfl, ?_⟩
 exact Ret.mk _ rfl rfl rfl
def pushN (k : Nat) : List Ins := (List.range k).map fun i : Nat => (⟨1, (i : Int), ⟨#[]⟩⟩ : Ins)
def deepN (k m : Nat) : List Ins := pushN k ++ List.replicate m ⟨8, 0, ⟨#[]⟩⟩
theorem pushN_succ (k : Nat) : pushN (k + 1) = pushN k ++ [⟨1, (k : Int), ⟨#[]⟩⟩] := by unfold pushN; rw [List.range_succ, List.map_append]; rfl
theorem deepN_succ (k m : Nat) : deepN k (m + 1) = deepN k m ++ [⟨8, 0, ⟨#[]⟩⟩] := by unfold deepN; rw [List.replicate_succ', List.append_assoc]
theorem pushN_len (k : Nat) : (pushN k).length = k := by unfold pushN; simp
theorem deepN_len (k m : Nat) : (deepN k m).length = k + m := by unfold deepN; rw [List.length_append, pushN_len]; simp
theorem deep_op {k m : Nat} {x : Ins} (h : x ∈ deepN k m) : x.op = 1 ∨ x.op = 8 := by
 unfold deepN pushN at h
 rcases List.mem_append.1 h with h | h
 ·obtain ⟨i, -, rfl⟩ := List.mem_map.1 h; exact .inl rfl
 ·obtain ⟨-, rfl⟩ := List.mem_replicate.1 h; exact .inr rfl
theorem run_bare {R : List Of} {l : List Ins} (h : ∀ x ∈ l, x.op = 1 ∨ x.op = 8) : ∀ (k a : Nat) (t : List Ce), runF R l k a t = runF [] l k a t
 | 0, a, t => rfl
 | k + 1, a, t => by
  rw [runF, runF]
  cases hx : l[a]? with
  | none => rfl
  | some x =>
   dsimp only
   have hs : stepF R x t (a + 1) = stepF [] x t (a + 1) := by
    unfold stepF
    rcases h x (List.mem_of_getElem? hx) with e | e <;> rw [e] <;> rfl
   rw [hs]
   cases stepF [] x t (a + 1) with
   | er e => rfl
   | go t' a' =>
    dsimp only
    rw [run_bare h k a' t']
theorem tell_bare {R : List Of} {l : List Ins} (hR : rightO R = true) (h : ∀ x ∈ l, x.op = 1 ∨ x.op = 8) : tellR R l = tellR [] l := by
 unfold tellR
 rw [hR, show rightO [] = true from rfl, run_bare h]
def deepB (k : Nat) : Bool := rightF (deepN (98 + k) (97 + k)) && (if k ≤ 2 then decide (tellR [] (deepN (98 + k) (97 + k)) = ((97 + (k : Int), true), 0, 2 * (98 + k) - 1)) && decide ((tellR [] ((deepN (98 + k) (97 + k)).drop 1)).2.1 = 100) else decide (tellR [] (deepN (98 + k) (97 + k)) = ((0, false), 100, 101)))
theorem deep_b : ∀ k, k < 5 → deepB k = true := by decide +kernel
theorem deep_facts (k : Nat) (hk : k < 5) : (rightF (deepN (98 + k) (97 + k)) = true) ∧ (k ≤ 2 → tellR [] (deepN (98 + k) (97 + k)) = ((97 + (k : Int), true), 0, 2 * (98 + k) - 1) ∧ (tellR [] ((deepN (98 + k) (97 + k)).drop 1)).2.1 = 100) ∧ (2 < k → tellR [] (deepN (98 + k) (97 + k)) = ((0, false), 100, 101)) := by
 have h := deep_b k hk
 unfold deepB at h
 rw [Bool.and_eq_true] at h
 refine ⟨h.1, fun h2 => ?_, fun h2 => ?_⟩
 ·have h3 := h.2
  rw [if_pos h2, Bool.and_eq_true] at h3
  exact ⟨of_decide_eq_true h3.1, of_decide_eq_true h3.2⟩
 ·have h3 := h.2
  rw [if_neg (by omega)] at h3
  exact of_decide_eq_true h3
theorem deep_cons {k m : Nat} (hk : 0 < k) : ∃ y l, deepN k m = y :: l := by
 have h := deepN_len k m
 match deepN k m, h with
 | [], h => simp at h; omega
 | y :: l, _ => exact ⟨y, l, rfl⟩
theorem RunDeep_ok (c : Int) (hc : I64 c) (zo : List (List Int)) (hzo : ∀ y ∈ zo, y.length = 2 ∧ ∀ n ∈ y, I64 n) (hlo : zo.length ≤ 9223372036854775807) :
  Ok E 5 [] [pI c, .c (.row (encA zo))] (pB true) [] := by
 have hO := Offers_ok zo hzo hlo
 have hol := off_len' zo
 have hor := off_right zo
 obtain ⟨R, e1'⟩ : ∃ l, offersF zo = l := ⟨_, rfl⟩
 rw [e1'] at hO hol hor
 have g1 := pick11_ok c 5 hc (by decide)
 obtain ⟨q0, q1⟩ := Pm.pk_rng (c := c) (n := 5) (by decide)
 obtain ⟨j, hj⟩ : ∃ j : Nat, Pm.pk c 5 = j := ⟨(Pm.pk c 5).toNat, by omega⟩
 rw [hj] at g1 q1
 have hj5 : j < 5 := by omega
 obtain ⟨F1, F2, F3⟩ := deep_facts j hj5
 obtain ⟨k, hk⟩ : ∃ k, 98 + j = k := ⟨_, rfl⟩
 obtain ⟨m, hm⟩ : ∃ m, 97 + j = m := ⟨_, rfl⟩
 rw [hk, hm] at F1 F2 F3
 have hb := tell_bare (R := R) (l := deepN k m) hor (fun x hx => deep_op hx)
 have hb1 := tell_bare (R := R) (l := (deepN k m).drop 1) hor (fun x hx => deep_op (List.mem_of_mem_drop hx))
 have hdl := deepN_len k m
 have c1 := Run_ok (deepN k m) R (by omega) (by omega)
 have c3 := Steps_ok (deepN k m) R (by omega) (by omega)
 have c5 := Run_ok ((deepN k m).drop 1) R (by rw [List.length_drop]; omega) (by omega)
 have c6 := rRight10_ok (deepN k m) (by omega) rName_ok
 unfold pR at c1 c5
 rw [hb] at c1 c3
 rw [hb1] at c5
 rw [F1] at c6
 have hd1 : rowI ((deepN k m).drop 1) = (rowI (deepN k m)).drop 1 := by unfold rowI; rw [List.map_drop]
 rw [hd1] at c5
 have hrl := rowI_len (deepN k m)
 have s1 := sliceOV (t := 23) (xs := rowI (deepN k m)) (q := 0) (lo := some (pI 1)) (hi := none) 1 (rowI (deepN k m)).length rfl rfl rfl rfl ⟨by omega, Nat.le_refl _⟩ (rowI_three' _)
 rw [List.take_length] at s1
 obtain ⟨y0, l0, hyl⟩ := deep_cons (k := k) (m := m) (by omega)
 have hout : outP (deepN k m) = .orow (rowI (deepN k m)) 0 := by rw [hyl]; rfl
 refine Ok.enter hE Tryz.func5 rfl (by decide +kernel) (by kernel_rfl) rfl rfl (Nat.le_of_ble_eq_true rfl) rfl ?_
 refine ⟨_, CallR.mk1 awake11_ok rfl rfl, ?_⟩
 refine ⟨_, CallR.mk1 g1 rfl rfl, ?_⟩
 refine ⟨_, addV (z := (k : Int)) (by omega) (by omega) (by omega), ?_⟩
 refine Loop.run (α := Nat) (fun i => i ≤ k) (fun i => [(1, .c (.row (encA zo))), (5, pB true), (6, pI k), (7, outP (pushN i)), (8, pI i)]) (fun _ => []) (fun i => outT (pushN i)) (fun i => k - i) 0 (Nat.zero_le _) ⟨⟨rfl, rfl, rfl, rfl, rfl, trivial⟩, rfl, rfl⟩ ?_
 intro i f hi
 have hi : i ≤ k := hi
 by_cases hlt : i < k
 ·have hA := app_out (pushN i) ⟨1, (i : Int), ⟨#[]⟩⟩ (by rw [pushN_len]; omega)
  rw [← pushN_succ] at hA
  have hsucc := pushN_succ i
  have hPs := hsucc
  generalize hPP : pushN (i + 1) = P at hA hsucc hPs
  generalize pushN i = l at hA hsucc hPs ⊢
  rw [hsucc] at hA
  cases l with
  | nil =>
   refine ⟨_, ltT (by omega), ?_⟩
   refine ⟨_, ⟨_, rfl, rfl⟩, ?_⟩
   refine ⟨_, _, hA, ?_⟩
   refine ⟨_, addV (z := ((i + 1 : Nat) : Int)) (by push_cast; rfl) (by omega) (by omega), ?_⟩
   refine ⟨i + 1, hlt, by show k - (i + 1) < k - i; omega, ⟨rfl, rfl, rfl, ?_, rfl, trivial⟩, rfl, ?_⟩
   ·exact congrArg outP (hPP.trans hPs).symm
   ·exact congrArg outT (hPP.trans hPs).symm
  | cons y l =>
   refine ⟨_, ltT (by omega), ?_⟩
   refine ⟨_, ⟨_, rfl, rfl⟩, ?_⟩
   refine ⟨_, _, hA, ?_⟩
   refine ⟨_, addV (z := ((i + 1 : Nat) : Int)) (by push_cast; rfl) (by omega) (by omega), ?_⟩
   refine ⟨i + 1, hlt, by show k - (i + 1) < k - i; omega, ⟨rfl, rfl, rfl, ?_, rfl, trivial⟩, rfl, ?_⟩
   ·exact congrArg outP (hPP.trans hPs).symm
   ·exact congrArg outT (hPP.trans hPs).symm
 ·obtain rfl : i = k := by omega
  clear hlt hi
  have h00 : pushN i = deepN i 0 := by unfold deepN; simp
  obtain ⟨y, l, hyl0⟩ := deep_cons (k := i) (m := 0) (by omega)
  have e1 : outP (pushN i) = .orow (rowI (deepN i 0)) 0 := by rw [h00, hyl0]; rfl
  have e2 : outT (pushN i) = [(i + 0, 36)] := by rw [h00, hyl0]; show [((y :: l).length, _)] = _; rw [← hyl0, deepN_len]
  rw [e1, e2]
  refine ⟨_, ltN (by omega), ?_⟩
  refine Loop.run (α := Nat) (fun q => q ≤ m) (fun q => [(1, .c (.row (encA zo))), (5, pB true), (6, pI i), (7, .orow (rowI (deepN i q)) 0), (9, pI ((q + 1 : Nat) : Int))]) (fun _ => []) (fun q => [(i + q, 36)]) (fun q => m - q) 0 (Nat.zero_le _) ⟨⟨rfl, rfl, rfl, rfl, rfl, trivial⟩, rfl, rfl⟩ ?_
  intro q f2 hq
  have hq : q ≤ m := hq
  by_cases hqm : q < m
  ·have hr := rowI_len (deepN i q)
   rw [deepN_len] at hr
   have hA := AppR.more1 (E := E) (T := [(i + q, 36)]) (t := 23) (k := 0) (xs := rowI (deepN i q)) (x := cellsI ⟨8, 0, ⟨#[]⟩⟩) (q := .c (.row [cellsI ⟨8, 0, ⟨#[]⟩⟩])) (i + q) rfl rfl (by decide) rfl rfl hr (rowI_three' _) rfl rfl (by omega) (by show _ * 32 ≤ _; omega)
   have h3 : rowI (deepN i (q + 1)) = rowI (deepN i q) ++ [cellsI ⟨8, 0, ⟨#[]⟩⟩] := by rw [deepN_succ]; unfold rowI; rw [List.map_append]; rfl
   refine ⟨_, ltT (by omega), ?_⟩
   refine ⟨_, ⟨_, rfl, rfl⟩, ?_⟩
   refine ⟨_, _, hA, ?_⟩
   refine ⟨_, addV (z := ((q + 1 + 1 : Nat) : Int)) (by push_cast; rfl) (by omega) (by omega), ?_⟩
   exact ⟨q + 1, hqm, by show m - (q + 1) < m - q; omega, ⟨rfl, rfl, rfl, congrArg (fun r => PV.orow r 0) h3.symm, rfl, trivial⟩, rfl, rfl⟩
  ·obtain rfl : q = m := by omega
   by_cases h2 : j ≤ 2
   ·obtain ⟨f1, f2'⟩ := F2 h2
    rw [f1] at c1 c3
    rw [f2'] at c5
    refine ⟨_, ltN (by omega), ?_⟩
    refine ⟨_, CallR.mk1 hO rfl rfl, ?_⟩
    refine ⟨_, CallR.mkW c1 (.cons Pr.wkOrow (.cons (Wk.refl _) .nil)) rfl rfl, ?_⟩
    refine ⟨_, gtN (by omega), ?_⟩
    refine ⟨_, s1, ?_⟩
    refine ⟨_, CallR.mk1 c5 rfl rfl, ?_⟩
    refine ⟨_, eqT rfl, ?_⟩
    refine ⟨_, subV (z := (i : Int) - 1) rfl (by omega) (by omega), ?_⟩
    refine ⟨_, eqT (by dsimp only; omega), ?_⟩
    refine ⟨_, CallR.mkW c3 (.cons Pr.wkOrow (.cons (Wk.refl _) .nil)) rfl rfl, ?_⟩
    refine ⟨_, mulV (z := 2 * (i : Int)) rfl (by omega) (by omega), ?_⟩
    refine ⟨_, subV (z := 2 * (i : Int) - 1) rfl (by omega) (by omega), ?_⟩
    refine ⟨_, eqT (by dsimp only; omega), ?_⟩
    refine ⟨_, eqT rfl, ?_⟩
    refine ⟨_, CallR.mkW c6 (.cons Pr.wkOrow .nil) rfl rfl, ?_⟩
    exact Ret.mk _ rfl rfl rfl
   ·have f1 := F3 (by omega)
    rw [f1] at c1 c3
    refine ⟨_, ltN (by omega), ?_⟩
    refine ⟨_, CallR.mk1 hO rfl rfl, ?_⟩
    refine ⟨_, CallR.mkW c1 (.cons Pr.wkOrow (.cons (Wk.refl _) .nil)) rfl rfl, ?_⟩
    refine ⟨_, gtT (by omega), ?_⟩
    refine ⟨_, eqT rfl, ?_⟩
    refine ⟨_, CallR.mkW c3 (.cons Pr.wkOrow (.cons (Wk.refl _) .nil)) rfl rfl, ?_⟩
    refine ⟨_, eqT rfl, ?_⟩
    refine ⟨_, eqT rfl, ?_⟩
    exact Ret.mk _ rfl rfl rfl
end Go.Proofs.YtgpkppohfodhdaaGreatDoor.Ru
namespace Go.Proofs.YtgpkppohfodhdaaGreatDoor.Ru
open Go Go.RowKit Go.ChangeShapes Go.WideShapes Go.Proofs.YtgpkppohfodhdaaGreatDoor.Pm
set_option linter.unusedVariables false
theorem cIns_ : Tryz.prog.cellsOf 36 = 3 := by kernel_rfl
theorem cStr_ : Tryz.prog.cellsOf 9 = 1 := by kernel_rfl
theorem cInt_ : Tryz.prog.cellsOf 3 = 1 := by kernel_rfl
theorem list3 {α : Type} {l : List α} (h : l.length = 3) : ∃ a b c, l = [a, b, c] := by
 match l, h with
 | [a, b, c], _ => exact ⟨a, b, c, rfl⟩
theorem open_instr {H : Type} {enc : TypeId × Value → H} {w : World} {base : Nat} {spare : Nat → Bool} {held : Bool} (n : Nat) (cs : List Value) (x : DataW H × List MemPlace) (h : DataW.trod enc Tryz.prog w base spare held n 36 cs = some x) :
  ∃ o : Ins, ∀ (j : Nat) (c : CV), (cellsI o)[j]? = some c → ∃ v, cs[j]? = some v ∧ LeafV v c := by
 obtain ⟨xs, n, -, hx, hl, hlen, hat⟩ := DataW.trod_struct Tryz.underlying36 h
 rw [cIns_] at hl
 replace hlen : xs.length = 3 := hlen
 obtain ⟨a0, a1, a2, rfl⟩ := list3 hl
 obtain ⟨x0, x1, x2, rfl⟩ := list3 hlen
 have h0 : DataW.trod enc Tryz.prog w base spare held n 3 (([a0, a1, a2].drop 0).take (Tryz.prog.cellsOf 3)) = some x0 := hat 0 _ rfl
 have h1 : DataW.trod enc Tryz.prog w base spare held n 3 (([a0, a1, a2].drop 1).take (Tryz.prog.cellsOf 3)) = some x1 := hat 1 _ rfl
 have h2 : DataW.trod enc Tryz.prog w base spare held n 9 (([a0, a1, a2].drop 2).take (Tryz.prog.cellsOf 9)) = some x2 := hat 2 _ rfl
 rw [cInt_] at h0 h1
 rw [cStr_] at h2
 obtain ⟨z0, hz0, hx0, -⟩ := DataW.trod_int Tryz.underlying3 h0
 obtain ⟨z1, hz1, hx1, hw1⟩ := DataW.trod_int Tryz.underlying3 h1
 obtain ⟨s, hs, hx2, -⟩ := DataW.trod_string Tryz.underlying9 h2
 replace hz0 : [a0] = [.int .i64 z0] := hz0
 replace hz1 : [a1] = [.int .i64 z1] := hz1
 replace hs : [a2] = [.string s] := hs
 injection hz0 with hz0
 injection hz1 with hz1
 injection hs with hs
 subst hz0; subst hz1; subst hs; subst hx0; subst hx1; subst hx2
 refine ⟨⟨z0, z1, s⟩, fun j c hj => ?_⟩
 ·match j, hj with
  | 0, hj =>
   have hj : some (CV.int .i64 z0) = some c := hj
   injection hj with hj; subst hj
   exact ⟨_, rfl, leaf_int _ z0⟩
  | 1, hj =>
   have hj : some (CV.int .i64 z1) = some c := hj
   injection hj with hj; subst hj
   exact ⟨_, rfl, leaf_int _ z1⟩
  | 2, hj =>
   have hj : some (CV.str s) = some c := hj
   injection hj with hj; subst hj
   exact ⟨_, rfl, leaf_str s⟩
  | j + 3, hj => cases hj
theorem open_instrs {H : Type} {enc : TypeId × Value → H} {w : World} {base : Nat} {spare : Nat → Bool} {held : Bool} {fuel : Nat} {a : Option Addr} {len cap : Nat} {x : DataW H × List MemPlace}
  (h : DataW.trod enc Tryz.prog w base spare held fuel 23 (Value.slice a len cap).cells.toList = some x) : ∃ l : List Ins, IsRowS 3 w a len cap (rowI l) :=
 open_structs cellsI Tryz.underlying23 cIns_ (fun _ => rfl) open_instr h
end Go.Proofs.YtgpkppohfodhdaaGreatDoor.Ru
