/- Texts that are merged: PrX0, PrX. -/
import Derived.Test.YtmfdkhnfjbgbhaaDoorPrAll
import Derived.Test.YtmfdkhnfjbgbhaaDoorLxAll
/- Deep texts, parsed: facts at constants. -/
namespace Go.Proofs.YtmfdkhnfjbgbhaaDoor.Pr
open Go Go.RowKit Go.Proofs.YtmfdkhnfjbgbhaaDoor.Pm Go.Proofs.YtmfdkhnfjbgbhaaDoor.Pl
set_option linter.unusedVariables false
set_option maxHeartbeats 1000000
def opB : List ByteArray := [⟨#[108, 101, 115, 115, 40]⟩, ⟨#[109, 105, 110, 40, 49, 46, 48, 48, 44, 32]⟩, ⟨#[105, 102, 40, 97, 98, 111, 118, 101, 40, 115, 101, 99, 111, 110, 100, 44, 32, 108, 111, 119, 101, 115, 116, 41, 44, 32, 50, 46, 48, 48, 44, 32]⟩]
def shB : List ByteArray := [⟨#[44, 32, 49, 46, 48, 48, 41]⟩, ⟨#[41]⟩, ⟨#[41]⟩]
def lowB : ByteArray := ⟨#[108, 111, 119, 101, 115, 116]⟩
def repB (w : ByteArray) : Nat → List UInt8 → List UInt8
  | 0, a => a
  | m + 1, a => repB w m a ++ w.data.toList
def deepT (m j : Nat) : List UInt8 := repB (shB.getD j Lx.e0) m (repB (opB.getD j Lx.e0) m [] ++ lowB.data.toList)
def atD (m j : Nat) : Int := if 31 < m ∧ j = 1 then 31 * ((opB.getD j Lx.e0).size : Int) + 4 else if m = 32 then ((repB (opB.getD j Lx.e0) m []).length : Int) else 32 * ((opB.getD j Lx.e0).size : Int)
def okD (m j : Nat) : Bool :=
  let s := deepT m j
  let p := parseP (B s)
  if j = 2 ∧ 31 ≤ m then decide (p.2.1 = 81) && decide (p.2.2 < (s.length : Int))
  else if 31 < m then decide (p.2.1 = 81) && decide (p.2.2 = atD m j)
  else (decide (p.2.1 = 0) && decide (p.2.2 = 0)) && (List.range 5).all fun c =>
    let q := parseP (B (s.take (s.length - 1 - c)))
    (decide (q.2.1 = 80) || decide (q.2.1 = 61)) && decide (q.2.2 ≤ ((s.length - 1 - c : Nat) : Int))
theorem deep0 : ((List.range 5).all fun a => okD (29 + a) 0) = true := by decide +kernel
theorem deep1 : ((List.range 5).all fun a => okD (29 + a) 1) = true := by decide +kernel
theorem deep2 : ((List.range 5).all fun a => okD (29 + a) 2) = true := by decide +kernel
end Go.Proofs.YtmfdkhnfjbgbhaaDoor.Pr

/- ParseDeep, in the pure machine. -/
namespace Go.Proofs.YtmfdkhnfjbgbhaaDoor.Pr
open Go Go.RowKit Go.Proofs.YtmfdkhnfjbgbhaaDoor.Pm Go.Proofs.YtmfdkhnfjbgbhaaDoor.Pl
open Go.Proofs.YtmfdkhnfjbgbhaaDoor.Lx (pkN pkN_eq rowB rowB_get sz_len sliceSV catL)
set_option linter.unusedVariables false
set_option maxHeartbeats 1000000
theorem rep_le (w : ByteArray) : ∀ (m : Nat) (s : List UInt8), w.size ≤ 32 → (repB w m s).length ≤ 32 * m + s.length
  | 0, s, h => by rw [repB]; omega
  | m + 1, s, h => by
    have := rep_le w m s h
    rw [repB, List.length_append, sz_len]
    omega
theorem okD_at {a j : Nat} (ha : a < 5) (hj : j < 3) : okD (29 + a) j = true := by
  have : j = 0 ∨ j = 1 ∨ j = 2 := by omega
  rcases this with rfl | rfl | rfl
  · exact List.all_eq_true.1 deep0 a (List.mem_range.2 ha)
  · exact List.all_eq_true.1 deep1 a (List.mem_range.2 ha)
  · exact List.all_eq_true.1 deep2 a (List.mem_range.2 ha)
theorem okD_1 {m j : Nat} (h : okD m j = true) (h2 : j = 2 ∧ 31 ≤ m) : (parseP (B (deepT m j))).2.1 = 81 ∧ (parseP (B (deepT m j))).2.2 < ((deepT m j).length : Int) := by
  unfold okD at h
  dsimp only at h
  rw [if_pos h2, Bool.and_eq_true, decide_eq_true_eq, decide_eq_true_eq] at h
  exact h
theorem okD_2 {m j : Nat} (h : okD m j = true) (h2 : ¬ (j = 2 ∧ 31 ≤ m)) (h3 : 31 < m) : (parseP (B (deepT m j))).2.1 = 81 ∧ (parseP (B (deepT m j))).2.2 = atD m j := by
  unfold okD at h
  dsimp only at h
  rw [if_neg h2, if_pos h3, Bool.and_eq_true, decide_eq_true_eq, decide_eq_true_eq] at h
  exact h
theorem okD_3 {m j c : Nat} (h : okD m j = true) (h2 : ¬ (j = 2 ∧ 31 ≤ m)) (h3 : ¬ 31 < m) (hc : c < 5) : (parseP (B (deepT m j))).2.1 = 0 ∧ (parseP (B (deepT m j))).2.2 = 0 ∧ ((parseP (B ((deepT m j).take ((deepT m j).length - 1 - c)))).2.1 = 80 ∨ (parseP (B ((deepT m j).take ((deepT m j).length - 1 - c)))).2.1 = 61) ∧ (parseP (B ((deepT m j).take ((deepT m j).length - 1 - c)))).2.2 ≤ (((deepT m j).length - 1 - c : Nat) : Int) := by
  unfold okD at h
  dsimp only at h
  rw [if_neg h2, if_neg h3, Bool.and_eq_true, Bool.and_eq_true, decide_eq_true_eq, decide_eq_true_eq] at h
  obtain ⟨⟨h1, h2⟩, h3⟩ := h
  have := List.all_eq_true.1 h3 c (List.mem_range.2 hc)
  rw [Bool.and_eq_true, Bool.or_eq_true, decide_eq_true_eq, decide_eq_true_eq, decide_eq_true_eq] at this
  exact ⟨h1, h2, this.1, this.2⟩
theorem ops_sz {j : Nat} (hj : j < 3) : (opB.getD j Lx.e0).size ≤ 32 ∧ (shB.getD j Lx.e0).size ≤ 32 := by
  have : j = 0 ∨ j = 1 ∨ j = 2 := by omega
  rcases this with rfl | rfl | rfl <;> decide
theorem ParseDeep_ok (n : Int) (hn : I64 n) (kind : Int) (hk : I64 kind) (cut : Int) (hc : I64 cut) : Ok E 3 [] [pI n, pI kind, pI cut] (pB true) [] := by
  have hnum := pick_ok n 5 hn (by decide)
  have hkind := pick_ok kind 3 hk (by decide)
  have hcut := pick_ok cut 5 hc (by decide)
  have ha5 := (pkN_eq (c := n) (n := 5) (by decide)).2
  have hj3 := (pkN_eq (c := kind) (n := 3) (by decide)).2
  have hc5 := (pkN_eq (c := cut) (n := 5) (by decide)).2
  obtain ⟨a, ha⟩ : ∃ a, pkN n 5 = a := ⟨_, rfl⟩
  obtain ⟨j, hj⟩ : ∃ j, pkN kind 3 = j := ⟨_, rfl⟩
  obtain ⟨c, hcc⟩ : ∃ c, pkN cut 5 = c := ⟨_, rfl⟩
  rw [ha] at hnum ha5
  rw [hj] at hkind hj3
  rw [hcc] at hcut hc5
  have ha5 : a < 5 := by omega
  have hj3 : j < 3 := by omega
  have hc5 : c < 5 := by omega
  have hok := okD_at ha5 hj3
  obtain ⟨ho7, hw7⟩ := ops_sz hj3
  have go := rowB_get (l := opB) (j := j) hj3
  have gw := rowB_get (l := shB) (j := j) hj3
  have fat : 31 < 29 + a → atD (29 + a) j = if j = 1 then 31 * ((opB.getD j Lx.e0).size : Int) + 4 else if a = 3 then ((repB (opB.getD j Lx.e0) (29 + a) []).length : Int) else 32 * ((opB.getD j Lx.e0).size : Int) := by
    intro h
    unfold atD
    by_cases h1 : j = 1
    · rw [if_pos ⟨h, h1⟩, if_pos h1]
    · rw [if_neg (fun h => h1 h.2), if_neg h1]
      by_cases h3 : a = 3
      · rw [if_pos (by omega), if_pos h3]
      · rw [if_neg (by omega), if_neg h3]
  have f1 := okD_1 hok
  have f2 := okD_2 hok
  have f3 := fun h2 h3 => okD_3 (c := c) hok h2 h3 hc5
  obtain ⟨d, hd⟩ : ∃ d, deepT (29 + a) j = d := ⟨_, rfl⟩
  rw [hd] at f1 f2 f3
  unfold deepT at hd
  obtain ⟨o, hoe⟩ : ∃ o, opB.getD j Lx.e0 = o := ⟨_, rfl⟩
  obtain ⟨w, hwe⟩ : ∃ w, shB.getD j Lx.e0 = w := ⟨_, rfl⟩
  rw [hoe] at go ho7 fat hd
  rw [hwe] at gw hw7 hd
  obtain ⟨S, hS⟩ : ∃ S, repB o (29 + a) [] ++ lowB.data.toList = S := ⟨_, rfl⟩
  rw [hS] at hd
  have hrl := rep_le o (29 + a) [] ho7
  rw [List.length_nil] at hrl
  have hSl : S.length ≤ 32 * (29 + a) + 6 := by rw [← hS, List.length_append]; show _ + 6 ≤ _; omega
  have hSl6 : 6 ≤ S.length := by rw [← hS, List.length_append]; show 6 ≤ _ + 6; omega
  have hdl := rep_le w (29 + a) S hw7
  have hdg : ∀ m, S.length ≤ (repB w m S).length := by
    intro m
    induction m with
    | zero => exact Nat.le_refl _
    | succ m ih => rw [repB, List.length_append]; omega
  have hdg := hdg (29 + a)
  rw [hd] at hdl hdg
  obtain ⟨s, hs⟩ : ∃ s, B d = s := ⟨_, rfl⟩
  have hsz : s.size = d.length := by rw [← hs, B_size]
  have hst : s.data.toList = d := by rw [← hs, B_toList]
  have hD : B (repB w (29 + a) S) = s := by rw [hd, hs]
  have cQ := Parse_ok s
  rw [hs, ← hsz] at f1 f3
  rw [hs] at f2
  obtain ⟨q, hq⟩ : ∃ q, B (d.take (s.size - 1 - c)) = q := ⟨_, rfl⟩
  rw [hq] at f3
  have cR := Parse_ok q
  have sl : SliceR E 9 (pS s) none (some (pI ((s.size - 1 - c : Nat) : Int))) (pS q) := by
    rw [← hq, ← hst]; exact sliceSV 0 (s.size - 1 - c) rfl rfl rfl ⟨Nat.zero_le _, by omega⟩
  obtain ⟨⟨x, e, p⟩, hp⟩ : ∃ r, parseP s = r := ⟨_, rfl⟩
  obtain ⟨⟨x', e', p'⟩, hp'⟩ : ∃ r, parseP q = r := ⟨_, rfl⟩
  rw [hp] at cQ f1 f2 f3
  rw [hp'] at cR f3
  dsimp only at cQ cR f1 f2 f3
  refine Ok.enter hE Tryd.func3 rfl (by decide +kernel) (by kernel_rfl) rfl rfl (Nat.le_of_ble_eq_true rfl) rfl ?_
  refine ⟨_, CallR.mk1 awake_ok rfl rfl, ?_⟩
  refine ⟨_, CallR.mk1 hnum rfl rfl, ?_⟩
  refine ⟨_, addV (z := ((30 + a : Nat) : Int)) (by omega) (by omega) (by omega), ?_⟩
  refine ⟨_, ⟨_, rfl, rfl⟩, ?_⟩
  refine ⟨_, CallR.mk1 hkind rfl rfl, ?_⟩
  refine ⟨_, idxV (j := j) go rfl rfl rfl rfl, ?_⟩
  refine ⟨_, ⟨_, rfl, rfl⟩, ?_⟩
  refine ⟨_, CallR.mk1 hkind rfl rfl, ?_⟩
  refine ⟨_, idxV (j := j) gw rfl rfl rfl rfl, ?_⟩
  refine Loop.run (α := Nat) (fun i => i ≤ 29 + a) (fun i => [(1, pI kind), (2, pI cut), (7, pB true), (8, pI ((30 + a : Nat) : Int)), (9, pS o), (10, pS w), (11, pS (B (repB o i []))), (12, pI ((1 + i : Nat) : Int))]) (fun _ => []) (fun _ => []) (fun i => 29 + a - i) 0 (Nat.zero_le _) ⟨⟨rfl, rfl, rfl, rfl, rfl, rfl, rfl, rfl, trivial⟩, rfl, rfl⟩ ?_
  rintro i f1' hi
  have hi : i ≤ 29 + a := hi
  by_cases hil : i < 29 + a
  · have hb := rep_le o i [] ho7
    rw [List.length_nil] at hb
    refine ⟨_, ltT (by omega), ?_⟩
    refine ⟨_, catL (s := B (repB o (i + 1) [])) (by rw [B_toList]; rfl) (by rw [B_size]; omega), ?_⟩
    refine ⟨_, addV (z := ((1 + (i + 1) : Nat) : Int)) (by omega) (by omega) (by omega), ?_⟩
    exact ⟨i + 1, by omega, by omega, ⟨rfl, rfl, rfl, rfl, rfl, rfl, rfl, rfl, trivial⟩, rfl, rfl⟩
  obtain rfl : i = 29 + a := by omega
  refine ⟨_, ltN (by omega), ?_⟩
  have hcase : a ≤ 2 ∨ a = 3 ∨ a = 4 := by omega
  rcases hcase with h2 | h3 | h4
  · have hlo : ¬ (j = 2 ∧ 31 ≤ 29 + a) → e = 0 ∧ p = 0 ∧ (e' = 80 ∨ e' = 61) ∧ p' ≤ ((s.size - 1 - c : Nat) : Int) := fun h => f3 h (by omega)
    refine ⟨_, gtN (by omega), ?_⟩
    refine ⟨_, eqN (by omega), ?_⟩
    refine ⟨_, gtN (by omega), ?_⟩
    refine ⟨_, catL (s := B S) (by rw [B_toList, ← hS]; rfl) (by rw [B_size]; show _ + 6 ≤ _; omega), ?_⟩
    refine Loop.run (α := Nat) (fun i => i ≤ 29 + a) (fun i => [(1, pI kind), (2, pI cut), (7, pB true), (8, pI ((30 + a : Nat) : Int)), (10, pS w), (11, pS (B (repB w i S))), (13, pI ((B (repB o (29 + a) [])).size : Int)), (14, pI ((1 + i : Nat) : Int))]) (fun _ => []) (fun _ => []) (fun i => 29 + a - i) 0 (Nat.zero_le _) ⟨⟨rfl, rfl, rfl, rfl, rfl, rfl, rfl, rfl, trivial⟩, rfl, rfl⟩ ?_
    rintro i ff hi
    have hi : i ≤ 29 + a := hi
    by_cases hil : i < 29 + a
    · have hb := rep_le w i S hw7
      refine ⟨_, ltT (by omega), ?_⟩
      refine ⟨_, catL (s := B (repB w (i + 1) S)) (by rw [B_toList]; rfl) (by rw [B_size]; omega), ?_⟩
      refine ⟨_, addV (z := ((1 + (i + 1) : Nat) : Int)) (by omega) (by omega) (by omega), ?_⟩
      exact ⟨i + 1, by omega, by omega, ⟨rfl, rfl, rfl, rfl, rfl, rfl, rfl, rfl, trivial⟩, rfl, rfl⟩
    obtain rfl : i = 29 + a := by omega
    refine ⟨_, ltN (by omega), ?_⟩
    rw [hD]
    refine ⟨_, CallR.mk1 cQ rfl rfl, ?_⟩
    refine ⟨_, CallR.mk1 hkind rfl rfl, ?_⟩
    by_cases hj2 : j = 2
    · refine ⟨_, eqT (by omega), ?_⟩
      by_cases h31 : 31 ≤ 29 + a
      · obtain ⟨c1, c2⟩ := f1 ⟨hj2, h31⟩
        refine ⟨_, geT (by omega), ?_⟩
        refine ⟨_, eqT c1, ?_⟩
        refine ⟨_, ltT c2, ?_⟩
        exact Ret.mk _ rfl rfl rfl
      · refine ⟨_, geN (by omega), ?_⟩
        refine ⟨_, gtN (by omega), ?_⟩
        obtain ⟨c1, c2, c3⟩ := hlo (by omega)
        refine ⟨_, subV (z := (s.size : Int) - 1) rfl (by omega) (by omega), ?_⟩
        refine ⟨_, CallR.mk1 hcut rfl rfl, ?_⟩
        refine ⟨_, subV (z := ((s.size - 1 - c : Nat) : Int)) (by omega) (by omega) (by omega), ?_⟩
        refine ⟨_, sl, ?_⟩
        refine ⟨_, CallR.mk1 cR rfl rfl, ?_⟩
        refine ⟨_, eqT c1, ?_⟩
        refine ⟨_, eqT c2, ?_⟩
        rcases c3 with ⟨c3 | c3, c4⟩
        · refine ⟨_, eqT c3, ?_⟩
          refine ⟨_, leT c4, ?_⟩
          exact Ret.mk _ rfl rfl rfl
        · refine ⟨_, eqN (by rw [c3]; decide), ?_⟩
          refine ⟨_, eqT c3, ?_⟩
          refine ⟨_, leT c4, ?_⟩
          exact Ret.mk _ rfl rfl rfl
    · refine ⟨_, eqN (by omega), ?_⟩
      refine ⟨_, gtN (by omega), ?_⟩
      obtain ⟨c1, c2, c3⟩ := hlo (by omega)
      refine ⟨_, subV (z := (s.size : Int) - 1) rfl (by omega) (by omega), ?_⟩
      refine ⟨_, CallR.mk1 hcut rfl rfl, ?_⟩
      refine ⟨_, subV (z := ((s.size - 1 - c : Nat) : Int)) (by omega) (by omega) (by omega), ?_⟩
      refine ⟨_, sl, ?_⟩
      refine ⟨_, CallR.mk1 cR rfl rfl, ?_⟩
      refine ⟨_, eqT c1, ?_⟩
      refine ⟨_, eqT c2, ?_⟩
      rcases c3 with ⟨c3 | c3, c4⟩
      · refine ⟨_, eqT c3, ?_⟩
        refine ⟨_, leT c4, ?_⟩
        exact Ret.mk _ rfl rfl rfl
      · refine ⟨_, eqN (by rw [c3]; decide), ?_⟩
        refine ⟨_, eqT c3, ?_⟩
        refine ⟨_, leT c4, ?_⟩
        exact Ret.mk _ rfl rfl rfl
  · skip
    refine ⟨_, gtT (by omega), ?_⟩
    refine ⟨_, mulV (z := 32 * (o.size : Int)) rfl (by omega) (by omega), ?_⟩
    refine ⟨_, eqT (by omega), ?_⟩
    refine ⟨_, gtT (by omega), ?_⟩
    refine ⟨_, CallR.mk1 hkind rfl rfl, ?_⟩
    by_cases hj1 : j = 1
    · refine ⟨_, eqT (by omega), ?_⟩
      refine ⟨_, mulV (z := 31 * (o.size : Int)) rfl (by omega) (by omega), ?_⟩
      refine ⟨_, addV (z := 31 * (o.size : Int) + 4) rfl (by omega) (by omega), ?_⟩
      refine ⟨_, catL (s := B S) (by rw [B_toList, ← hS]; rfl) (by rw [B_size]; show _ + 6 ≤ _; omega), ?_⟩
      refine Loop.run (α := Nat) (fun i => i ≤ 29 + a) (fun i => [(1, pI kind), (2, pI cut), (7, pB true), (8, pI ((30 + a : Nat) : Int)), (10, pS w), (11, pS (B (repB w i S))), (13, pI (31 * (o.size : Int) + 4)), (14, pI ((1 + i : Nat) : Int))]) (fun _ => []) (fun _ => []) (fun i => 29 + a - i) 0 (Nat.zero_le _) ⟨⟨rfl, rfl, rfl, rfl, rfl, rfl, rfl, rfl, trivial⟩, rfl, rfl⟩ ?_
      rintro i ff hi
      have hi : i ≤ 29 + a := hi
      by_cases hil : i < 29 + a
      · have hb := rep_le w i S hw7
        refine ⟨_, ltT (by omega), ?_⟩
        refine ⟨_, catL (s := B (repB w (i + 1) S)) (by rw [B_toList]; rfl) (by rw [B_size]; omega), ?_⟩
        refine ⟨_, addV (z := ((1 + (i + 1) : Nat) : Int)) (by omega) (by omega) (by omega), ?_⟩
        exact ⟨i + 1, by omega, by omega, ⟨rfl, rfl, rfl, rfl, rfl, rfl, rfl, rfl, trivial⟩, rfl, rfl⟩
      obtain rfl : i = 29 + a := by omega
      refine ⟨_, ltN (by omega), ?_⟩
      rw [hD]
      refine ⟨_, CallR.mk1 cQ rfl rfl, ?_⟩
      refine ⟨_, CallR.mk1 hkind rfl rfl, ?_⟩
      refine ⟨_, eqN (by omega), ?_⟩
      obtain ⟨c1, c2⟩ := f2 (by omega) (by omega)
      rw [fat (by omega), if_pos hj1] at c2
      refine ⟨_, gtT (by omega), ?_⟩
      refine ⟨_, eqT c1, ?_⟩
      refine ⟨_, eqT c2, ?_⟩
      exact Ret.mk _ rfl rfl rfl
    · refine ⟨_, eqN (by omega), ?_⟩
      refine ⟨_, catL (s := B S) (by rw [B_toList, ← hS]; rfl) (by rw [B_size]; show _ + 6 ≤ _; omega), ?_⟩
      refine Loop.run (α := Nat) (fun i => i ≤ 29 + a) (fun i => [(1, pI kind), (2, pI cut), (7, pB true), (8, pI ((30 + a : Nat) : Int)), (10, pS w), (11, pS (B (repB w i S))), (13, pI ((B (repB o (29 + a) [])).size : Int)), (14, pI ((1 + i : Nat) : Int))]) (fun _ => []) (fun _ => []) (fun i => 29 + a - i) 0 (Nat.zero_le _) ⟨⟨rfl, rfl, rfl, rfl, rfl, rfl, rfl, rfl, trivial⟩, rfl, rfl⟩ ?_
      rintro i ff hi
      have hi : i ≤ 29 + a := hi
      by_cases hil : i < 29 + a
      · have hb := rep_le w i S hw7
        refine ⟨_, ltT (by omega), ?_⟩
        refine ⟨_, catL (s := B (repB w (i + 1) S)) (by rw [B_toList]; rfl) (by rw [B_size]; omega), ?_⟩
        refine ⟨_, addV (z := ((1 + (i + 1) : Nat) : Int)) (by omega) (by omega) (by omega), ?_⟩
        exact ⟨i + 1, by omega, by omega, ⟨rfl, rfl, rfl, rfl, rfl, rfl, rfl, rfl, trivial⟩, rfl, rfl⟩
      obtain rfl : i = 29 + a := by omega
      refine ⟨_, ltN (by omega), ?_⟩
      rw [hD]
      refine ⟨_, CallR.mk1 cQ rfl rfl, ?_⟩
      refine ⟨_, CallR.mk1 hkind rfl rfl, ?_⟩
      by_cases hj2 : j = 2
      · refine ⟨_, eqT (by omega), ?_⟩
        obtain ⟨c1, c2⟩ := f1 ⟨hj2, by omega⟩
        refine ⟨_, geT (by omega), ?_⟩
        refine ⟨_, eqT c1, ?_⟩
        refine ⟨_, ltT c2, ?_⟩
        exact Ret.mk _ rfl rfl rfl
      · refine ⟨_, eqN (by omega), ?_⟩
        obtain ⟨c1, c2⟩ := f2 (by omega) (by omega)
        rw [fat (by omega), if_neg hj1, if_pos h3] at c2
        refine ⟨_, gtT (by omega), ?_⟩
        refine ⟨_, eqT c1, ?_⟩
        refine ⟨_, eqT (by rw [c2, B_size]), ?_⟩
        exact Ret.mk _ rfl rfl rfl
  · skip
    refine ⟨_, gtT (by omega), ?_⟩
    refine ⟨_, mulV (z := 32 * (o.size : Int)) rfl (by omega) (by omega), ?_⟩
    refine ⟨_, eqN (by omega), ?_⟩
    refine ⟨_, gtT (by omega), ?_⟩
    refine ⟨_, CallR.mk1 hkind rfl rfl, ?_⟩
    by_cases hj1 : j = 1
    · refine ⟨_, eqT (by omega), ?_⟩
      refine ⟨_, mulV (z := 31 * (o.size : Int)) rfl (by omega) (by omega), ?_⟩
      refine ⟨_, addV (z := 31 * (o.size : Int) + 4) rfl (by omega) (by omega), ?_⟩
      refine ⟨_, catL (s := B S) (by rw [B_toList, ← hS]; rfl) (by rw [B_size]; show _ + 6 ≤ _; omega), ?_⟩
      refine Loop.run (α := Nat) (fun i => i ≤ 29 + a) (fun i => [(1, pI kind), (2, pI cut), (7, pB true), (8, pI ((30 + a : Nat) : Int)), (10, pS w), (11, pS (B (repB w i S))), (13, pI (31 * (o.size : Int) + 4)), (14, pI ((1 + i : Nat) : Int))]) (fun _ => []) (fun _ => []) (fun i => 29 + a - i) 0 (Nat.zero_le _) ⟨⟨rfl, rfl, rfl, rfl, rfl, rfl, rfl, rfl, trivial⟩, rfl, rfl⟩ ?_
      rintro i ff hi
      have hi : i ≤ 29 + a := hi
      by_cases hil : i < 29 + a
      · have hb := rep_le w i S hw7
        refine ⟨_, ltT (by omega), ?_⟩
        refine ⟨_, catL (s := B (repB w (i + 1) S)) (by rw [B_toList]; rfl) (by rw [B_size]; omega), ?_⟩
        refine ⟨_, addV (z := ((1 + (i + 1) : Nat) : Int)) (by omega) (by omega) (by omega), ?_⟩
        exact ⟨i + 1, by omega, by omega, ⟨rfl, rfl, rfl, rfl, rfl, rfl, rfl, rfl, trivial⟩, rfl, rfl⟩
      obtain rfl : i = 29 + a := by omega
      refine ⟨_, ltN (by omega), ?_⟩
      rw [hD]
      refine ⟨_, CallR.mk1 cQ rfl rfl, ?_⟩
      refine ⟨_, CallR.mk1 hkind rfl rfl, ?_⟩
      refine ⟨_, eqN (by omega), ?_⟩
      obtain ⟨c1, c2⟩ := f2 (by omega) (by omega)
      rw [fat (by omega), if_pos hj1] at c2
      refine ⟨_, gtT (by omega), ?_⟩
      refine ⟨_, eqT c1, ?_⟩
      refine ⟨_, eqT c2, ?_⟩
      exact Ret.mk _ rfl rfl rfl
    · refine ⟨_, eqN (by omega), ?_⟩
      refine ⟨_, catL (s := B S) (by rw [B_toList, ← hS]; rfl) (by rw [B_size]; show _ + 6 ≤ _; omega), ?_⟩
      refine Loop.run (α := Nat) (fun i => i ≤ 29 + a) (fun i => [(1, pI kind), (2, pI cut), (7, pB true), (8, pI ((30 + a : Nat) : Int)), (10, pS w), (11, pS (B (repB w i S))), (13, pI (32 * (o.size : Int))), (14, pI ((1 + i : Nat) : Int))]) (fun _ => []) (fun _ => []) (fun i => 29 + a - i) 0 (Nat.zero_le _) ⟨⟨rfl, rfl, rfl, rfl, rfl, rfl, rfl, rfl, trivial⟩, rfl, rfl⟩ ?_
      rintro i ff hi
      have hi : i ≤ 29 + a := hi
      by_cases hil : i < 29 + a
      · have hb := rep_le w i S hw7
        refine ⟨_, ltT (by omega), ?_⟩
        refine ⟨_, catL (s := B (repB w (i + 1) S)) (by rw [B_toList]; rfl) (by rw [B_size]; omega), ?_⟩
        refine ⟨_, addV (z := ((1 + (i + 1) : Nat) : Int)) (by omega) (by omega) (by omega), ?_⟩
        exact ⟨i + 1, by omega, by omega, ⟨rfl, rfl, rfl, rfl, rfl, rfl, rfl, rfl, trivial⟩, rfl, rfl⟩
      obtain rfl : i = 29 + a := by omega
      refine ⟨_, ltN (by omega), ?_⟩
      rw [hD]
      refine ⟨_, CallR.mk1 cQ rfl rfl, ?_⟩
      refine ⟨_, CallR.mk1 hkind rfl rfl, ?_⟩
      by_cases hj2 : j = 2
      · refine ⟨_, eqT (by omega), ?_⟩
        obtain ⟨c1, c2⟩ := f1 ⟨hj2, by omega⟩
        refine ⟨_, geT (by omega), ?_⟩
        refine ⟨_, eqT c1, ?_⟩
        refine ⟨_, ltT c2, ?_⟩
        exact Ret.mk _ rfl rfl rfl
      · refine ⟨_, eqN (by omega), ?_⟩
        obtain ⟨c1, c2⟩ := f2 (by omega) (by omega)
        rw [fat (by omega), if_neg hj1, if_neg (by omega)] at c2
        refine ⟨_, gtT (by omega), ?_⟩
        refine ⟨_, eqT c1, ?_⟩
        refine ⟨_, eqT (by rw [c2]), ?_⟩
        exact Ret.mk _ rfl rfl rfl
end Go.Proofs.YtmfdkhnfjbgbhaaDoor.Pr
