/- Texts that are merged: PrL, PrM, PrN, PrS, PrT, PrU, PrV. -/
import Derived.Test.YtmfdkhnfjbgbhaaGreatDoorPrAll
/- ParseTells, in the pure machine. -/
namespace Go.Proofs.YtmfdkhnfjbgbhaaGreatDoor.Pr
open Go Go.RowKit Go.Proofs.YtmfdkhnfjbgbhaaGreatDoor.Pm Go.Proofs.YtmfdkhnfjbgbhaaGreatDoor.Pl
open Go.Proofs.YtmfdkhnfjbgbhaaGreatDoor.Lx (cellsT pT rowT rowT_len rowT_get lexF pkN pkN_eq rowB rowB_get Piece_ok pieceF sz_len sz_getD lawWs signBs nameBs sellerF sliceSV catL)
open Go.Proofs.YtmfdkhnfjbgbhaaGreatDoor.Q (rngE rngA txtE txtA sameE sameA)
set_option linter.unusedVariables false
set_option maxHeartbeats 1000000
theorem minV {a b z : Int} (h : min a b = z) : minF [.c (.int .i64 a), .c (.int .i64 b)] = some (.c (.int .i64 z)) := by
  subst h
  show (match minG a [PV.c (.int .i64 b)] with
    | some z => some (PV.c (.int .i64 z))
    | none => none) = _
  have : minG a [PV.c (.int .i64 b)] = some (min a b) := by
    simp only [minG]
    simp
    omega
  rw [this]
end Go.Proofs.YtmfdkhnfjbgbhaaGreatDoor.Pr

/- What is printed is scanned to the tokens that the parser takes for it. -/
namespace Go.Proofs.YtmfdkhnfjbgbhaaGreatDoor.Pr
open Go Go.RowKit Go.Proofs.YtmfdkhnfjbgbhaaGreatDoor.Pm Go.Proofs.YtmfdkhnfjbgbhaaGreatDoor.Pl
open Go.Proofs.YtmfdkhnfjbgbhaaGreatDoor.Lx (lexF)
open Go.Proofs.YtmfdkhnfjbgbhaaGreatDoor.Q (rngE rngA txtE txtA sameE sameA formT sepA wordL moreL txtA_map)
set_option linter.unusedVariables false
set_option maxHeartbeats 1000000
/-- a token without its place -/
def st (t : Lx.Tok) : Lx.Tok := ⟨t.kind, t.text, t.n, 0⟩
def FragT (us : List Lx.Tok) (t : List UInt8) : Prop := ∀ (g : Nat) (r : List UInt8) (p : Nat), Pm.Ends r → ∃ l : List Lx.Tok, l.map st = us ∧ Lx.scanF (g + us.length) (t ++ r) p = Lx.okT l ++ Lx.scanF g r (p + t.length)
def FragTF (us : List Lx.Tok) (t : List UInt8) : Prop := ∀ (g : Nat) (r : List UInt8) (p : Nat), ∃ l : List Lx.Tok, l.map st = us ∧ Lx.scanF (g + us.length) (t ++ r) p = Lx.okT l ++ Lx.scanF g r (p + t.length)
theorem FragTF.appF {u v : List Lx.Tok} {a b : List UInt8} (ha : FragTF u a) (hb : FragTF v b) : FragTF (u ++ v) (a ++ b) := by
  intro g r p
  obtain ⟨l1, h1, e1⟩ := ha (g + v.length) (b ++ r) p
  obtain ⟨l2, h2, e2⟩ := hb g r (p + a.length)
  have hl : (u ++ v).length = u.length + v.length := List.length_append
  refine ⟨l1 ++ l2, by rw [List.map_append, h1, h2], ?_⟩
  rw [hl, List.append_assoc, show g + (u.length + v.length) = g + v.length + u.length by omega, e1, e2, okT_app, List.append_assoc, List.length_append, show p + a.length + b.length = p + (a.length + b.length) by omega]
theorem FragT.appF {u v : List Lx.Tok} {a b : List UInt8} (ha : FragT u a) (hb : FragTF v b) (hs : ∀ r, Pm.Ends (b ++ r)) : FragTF (u ++ v) (a ++ b) := by
  intro g r p
  obtain ⟨l1, h1, e1⟩ := ha (g + v.length) (b ++ r) p (hs r)
  obtain ⟨l2, h2, e2⟩ := hb g r (p + a.length)
  have hl : (u ++ v).length = u.length + v.length := List.length_append
  refine ⟨l1 ++ l2, by rw [List.map_append, h1, h2], ?_⟩
  rw [hl, List.append_assoc, show g + (u.length + v.length) = g + v.length + u.length by omega, e1, e2, okT_app, List.append_assoc, List.length_append, show p + a.length + b.length = p + (a.length + b.length) by omega]
theorem FragTF.toFrag {u : List Lx.Tok} {t : List UInt8} (h : FragTF u t) : FragT u t := fun g r p _ => h g r p
theorem fragT_part {w : List UInt8} {k n : Int} (hw : w ≠ []) (ha : w.all (Lx.inB Lx.partsB) = true) (hf : Lx.firstF w = (⟨k, B w, n, 0⟩, true)) (hk : k ≠ 5) : FragT [⟨k, B w, n, 0⟩] w := by
  intro g r p hr
  refine ⟨[⟨k, B w, n, (p : Int)⟩], rfl, ?_⟩
  have hf2 : Lx.firstF (w ++ r) = (⟨k, B w, n, 0⟩, true) := by
    rcases hr with rfl | ⟨c, q, rfl, hc⟩
    · rw [List.append_nil]; exact hf
    · rw [Lx.first_stop hw hc]; exact hf
  have hb : Lx.runB Lx.blanksB (w ++ r) = 0 := by
    cases w with
    | nil => exact absurd rfl hw
    | cons c q =>
      rw [List.all_cons, Bool.and_eq_true] at ha
      exact Lx.runB_no _ _ _ (Lx.not_blank ha.1)
  rw [show g + ([⟨k, B w, n, 0⟩] : List Lx.Tok).length = g + 1 from rfl, Lx.scanF, hb, List.drop_zero, hf2]
  dsimp only
  rw [if_neg (fun h => h.elim (fun h => by cases h) hk), B_size, List.drop_left]
  rfl
def sg (c : UInt8) : Lx.Tok := ⟨4, B [c], 0, 0⟩
theorem fragT_sign {c : UInt8} (hs : Lx.inB Lx.signsB c = true) : FragTF [sg c] [c] := by
  intro g r p
  refine ⟨[⟨4, B [c], 0, (p : Int)⟩], rfl, ?_⟩
  rw [show g + [sg c].length = g + 1 from rfl, show [c] ++ r = c :: r from rfl, Lx.scanF_sign g c r p (Lx.sign_not_blank hs) hs]
  simp only [Lx.okT, List.map_cons, List.map_nil, List.cons_append, List.nil_append, List.length_cons, List.length_nil, Nat.zero_add]
theorem fragT_comma : FragTF [sg 44] [44, 32] := by
  intro g r p
  refine ⟨[⟨4, B [44], 0, (p : Int)⟩], rfl, ?_⟩
  have e : ([44, 32] : List UInt8) ++ r = 44 :: ([32] ++ r) := List.cons_append
  have e2 : p + ([44, 32] : List UInt8).length = p + 1 + ([32] : List UInt8).length := by simp only [List.length_cons, List.length_nil]
  rw [show g + [sg 44].length = g + 1 from rfl, e, e2, Lx.scanF_sign _ _ _ _ (by decide +kernel) (by decide +kernel)]
  cases g with
  | zero => simp only [Lx.okT, Lx.scanF, List.map_cons, List.map_nil, List.cons_append, List.nil_append]
  | succ g =>
    rw [Lx.scanF_pre _ _ _ _ (by decide +kernel)]
    simp only [Lx.okT, List.map_cons, List.map_nil, List.cons_append, List.nil_append]
def sepT : Bool → List (List Lx.Tok) → List Lx.Tok
  | _, [] => []
  | b, m :: l => (if b then [] else [sg 44]) ++ (m ++ sepT false l)
theorem rest_fragT : ∀ (ms : List (List UInt8 × List Lx.Tok)), (∀ m ∈ ms, FragT m.2 m.1) → FragTF (sepT false (ms.map (·.2)) ++ [sg 41]) (sepA false (ms.map (·.1)) ++ [41]) ∧ ∀ r, Pm.Ends (sepA false (ms.map (·.1)) ++ [41] ++ r)
  | [], _ => ⟨fragT_sign (by decide +kernel), fun r => ends_sign (by decide +kernel) [] r⟩
  | m :: ms, h => by
    obtain ⟨hF, hE⟩ := rest_fragT ms fun x hx => h x (List.mem_cons_of_mem _ hx)
    have hm := h m List.mem_cons_self
    have e : sepA false ((m :: ms).map (·.1)) ++ [41] = [44, 32] ++ (m.1 ++ (sepA false (ms.map (·.1)) ++ [41])) := by
      rw [List.map_cons, sepA]
      simp
    have e2 : sepT false ((m :: ms).map (·.2)) ++ [sg 41] = [sg 44] ++ (m.2 ++ (sepT false (ms.map (·.2)) ++ [sg 41])) := by
      rw [List.map_cons, sepT]
      simp
    refine ⟨?_, fun r => ?_⟩
    · rw [e, e2]; exact fragT_comma.appF (hm.appF hF hE)
    · rw [e]; exact ends_sign (by decide +kernel) _ r
theorem args_fragT (ms : List (List UInt8 × List Lx.Tok)) (h : ∀ m ∈ ms, FragT m.2 m.1) : FragTF (sepT true (ms.map (·.2)) ++ [sg 41]) (sepA true (ms.map (·.1)) ++ [41]) := by
  cases ms with
  | nil => exact fragT_sign (by decide +kernel)
  | cons m ms =>
    obtain ⟨hF, hE⟩ := rest_fragT ms fun x hx => h x (List.mem_cons_of_mem _ hx)
    have hm := h m List.mem_cons_self
    have e : sepA true ((m :: ms).map (·.1)) ++ [41] = m.1 ++ (sepA false (ms.map (·.1)) ++ [41]) := by
      rw [List.map_cons, sepA]
      simp
    have e2 : sepT true ((m :: ms).map (·.2)) ++ [sg 41] = m.2 ++ (sepT false (ms.map (·.2)) ++ [sg 41]) := by
      rw [List.map_cons, sepT]
      simp
    rw [e, e2]; exact hm.appF hF hE
/-! ### words, names, numbers -/
def wT (k : Int) : Lx.Tok := ⟨1, B (wordL k), 0, 0⟩
theorem word_fragT {k : Int} {w : List UInt8} {m a : Int} (h : formT k = some (w, m, a)) (h4 : k ≠ 4) : FragT [wT k] w := by
  have hw : wordL k = w := by unfold wordL; rw [h]; rfl
  have key : ∀ w : List UInt8, w ≠ [] → w.all (Lx.inB Lx.partsB) = true → Lx.partF (B w) = (⟨1, B w, 0, 0⟩, true) → FragT [⟨1, B w, 0, 0⟩] w := fun w h1 h2 h3 => fragT_part h1 h2 (by rw [Lx.first_part h1 h2]; exact h3) (show (1 : Int) ≠ 5 by decide)
  have wd : ∀ w : List UInt8, Lib.containsS L.wordsB (B w) = true → Lx.partF (B w) = (⟨1, B w, 0, 0⟩, true) := fun w h => by unfold Lx.partF; rw [h, Bool.true_or, if_pos rfl]
  unfold wT
  rw [hw]
  clear hw
  unfold formT at h
  split at h <;> first
    | (injection h with h; injection h with h _; subst h; exact key _ (by decide) (by decide +kernel) (wd _ (by decide +kernel)))
    | exact absurd rfl h4
    | cases h
theorem name_fragT {nm : ByteArray} (h : Lx.isName nm = true) : FragT [⟨1, nm, 0, 0⟩] nm.data.toList := by
  have hn := h
  unfold Lx.isName at h
  cases hl : nm.data.toList with
  | nil => rw [hl] at h; cases h
  | cons c l =>
    rw [hl] at h
    simp only [Bool.and_eq_true, decide_eq_true_eq] at h
    obtain ⟨_, _, h3, _⟩ := h
    have hall := Lx.run_all Lx.abc9B (c :: l)
    have hz : nm.size = (c :: l).length := by rw [← hl]; exact (Lx.sz_len nm).symm
    rw [← hz, decide_eq_true h3] at hall
    have hp : (c :: l).all (Lx.inB Lx.partsB) = true := List.all_eq_true.2 fun x hx => letter_part (List.all_eq_true.1 hall.symm x hx)
    have hB : B (c :: l) = nm := by rw [← hl]; exact B_toList' nm
    have := fragT_part (k := 1) (n := 0) (w := c :: l) (by simp) hp (by
      rw [Lx.first_part (by simp) hp]
      unfold Lx.partF
      rw [hB, hn, Bool.or_true, if_pos rfl]) (show (1 : Int) ≠ 5 by decide)
    rw [hB] at this
    exact this
theorem money_fragT {n : Int} (h0 : 0 ≤ n) (h1 : n ≤ 1000000000000) : FragT [⟨3, B (textL n), n, 0⟩] (textL n) := by
  obtain ⟨k, rfl⟩ : ∃ k : Nat, n = k := ⟨n.toNat, by omega⟩
  have hf := Lx.first_money k (by omega)
  have hne : textL (k : Int) ≠ [] := Pl.textL_ne (by unfold Pl.okA; omega)
  have hall : (textL (k : Int)).all (Lx.inB Lx.partsB) = true := by
    rw [textL_ok (by unfold Pl.okA; omega), if_neg (by omega), List.nil_append, List.all_append, Lx.digs_parts]
    show (true && (Lx.inB Lx.partsB 46 && (Lx.inB Lx.partsB (dig _) && (Lx.inB Lx.partsB (dig _) && true)))) = true
    rw [Lx.digit_part (dig_isD _), Lx.digit_part (dig_isD _), show Lx.inB Lx.partsB 46 = true by decide +kernel]
    rfl
  exact fragT_part hne hall hf (show (3 : Int) ≠ 5 by decide)
theorem count_fragT {n : Int} (h0 : 0 ≤ n) (h1 : n ≤ 100000) : FragT [⟨2, B (intL n), n, 0⟩] (intL n) := by
  obtain ⟨k, rfl⟩ : ∃ k : Nat, n = k := ⟨n.toNat, by omega⟩
  rw [Lx.intL_nat]
  exact fragT_part (digs_ne k) (Lx.digs_parts k) (Lx.first_count k (by omega)) (show (2 : Int) ≠ 5 by decide)
def moreT (k n : Int) (nm : ByteArray) : List (List Lx.Tok) :=
  if k = 3 then [[⟨1, nm, 0, 0⟩]] else if k = 5 then [[⟨3, B (textL n), n, 0⟩]] else if k = 6 ∨ k = 11 then [[⟨2, B (intL n), n, 0⟩]] else []
mutual
def tkE : Ex → List Lx.Tok
  | ⟨k, n, nm, l⟩ => if k = 4 then [⟨3, B (textL n), n, 0⟩] else if k = 1 ∨ k = 2 then [wT k] else [wT k] ++ ([sg 40] ++ (sepT true (tkA l ++ moreT k n nm) ++ [sg 41]))
def tkA : List Ex → List (List Lx.Tok)
  | [] => []
  | x :: l => tkE x :: tkA l
end
theorem more_fragT {k n : Int} {nm : ByteArray} {w : List UInt8} {m a : Int} (hF : formT k = some (w, m, a)) (h3 : 0 ≤ n) (h4 : n ≤ m) (h8 : isNamed k nm = true) : ∃ ms : List (List UInt8 × List Lx.Tok), ms.map (·.1) = moreL k n nm ∧ ms.map (·.2) = moreT k n nm ∧ ∀ m ∈ ms, FragT m.2 m.1 := by
  unfold moreL moreT
  split
  · rename_i hk; subst hk
    exact ⟨[(_, _)], rfl, rfl, fun m hm => by rw [List.mem_singleton] at hm; subst hm; exact name_fragT (named_name nm h8)⟩
  · split
    · rename_i hk; subst hk
      have hm : m = 1000000000000 := by injection hF with hF; injection hF with _ hF; injection hF with hF _; exact hF.symm
      exact ⟨[(_, _)], rfl, rfl, fun m hm => by rw [List.mem_singleton] at hm; subst hm; exact money_fragT h3 (by omega)⟩
    · split
      · rename_i hk
        have hm : n ≤ 100000 := by rcases hk with rfl | rfl <;> (injection hF with hF; injection hF with _ hF; injection hF with hF _; omega)
        exact ⟨[(_, _)], rfl, rfl, fun m hm' => by rw [List.mem_singleton] at hm'; subst hm'; exact count_fragT h3 hm⟩
      · exact ⟨[], rfl, rfl, fun m hm => by cases hm⟩
mutual
theorem expr_fragT : ∀ (x : Ex) (d : Int) (c : Bool), isFine d c x = true → FragT (tkE x) (txtE x)
  | ⟨k, n, nm, l⟩, d, c, h => by
    obtain ⟨w, m, a, hF, h1, h2, h3, h4, h5, h6, h7, h8, h9⟩ := fine_open h
    obtain ⟨ks, hm, hs, hg⟩ := list_fragT l (d - 1) _ h9
    by_cases k4 : k = 4
    · subst k4
      rw [txtE, if_pos rfl, tkE, if_pos rfl]
      exact money_fragT h3 (by omega)
    have hw := word_fragT hF k4
    have hwl : wordL k = w := by unfold wordL; rw [hF]; rfl
    by_cases k12 : k = 1 ∨ k = 2
    · rw [txtE, if_neg k4, if_pos k12, tkE, if_neg k4, if_pos k12, hwl]
      exact hw
    have hl3 : k = 3 → l = [] := by
      rintro rfl
      refine List.length_eq_zero_iff.1 ?_
      injection hF with hF; injection hF with _ hF; injection hF with _ hF; omega
    obtain ⟨ms, e1, e2, e3⟩ := more_fragT hF h3 h4 h8
    have hKF := args_fragT (ks ++ ms) (by
      intro x hx
      rcases List.mem_append.1 hx with hx | hx
      · exact hg x hx
      · exact e3 x hx)
    rw [List.map_append, List.map_append, hm, hs, e1, e2] at hKF
    rw [call_txt k n nm l k4 k12 hl3, hwl, tkE, if_neg k4, if_neg k12]
    exact (hw.appF ((fragT_sign (c := 40) (by decide +kernel)).appF hKF) fun r => ends_sign (by decide +kernel) _ r).toFrag
theorem list_fragT : ∀ (l : List Ex) (d : Int) (c : Bool), fineL d c l = true → ∃ ks : List (List UInt8 × List Lx.Tok), ks.map (·.1) = l.map txtE ∧ ks.map (·.2) = tkA l ∧ ∀ m ∈ ks, FragT m.2 m.1
  | [], d, c, h => ⟨[], rfl, rfl, fun m hm => by cases hm⟩
  | x :: l, d, c, h => by
    rw [fineL, Bool.and_eq_true] at h
    have h2 := expr_fragT x d c h.1
    obtain ⟨ks, h3, h4, h5⟩ := list_fragT l d false h.2
    refine ⟨(txtE x, tkE x) :: ks, by rw [List.map_cons, List.map_cons, h3], by rw [List.map_cons, h4, tkA], ?_⟩
    intro m hm
    rcases List.mem_cons.1 hm with rfl | hm
    · exact h2
    · exact h5 m hm
end
def endT (p : Nat) : Lx.Tok := ⟨5, Lx.e0, 0, p⟩
end Go.Proofs.YtmfdkhnfjbgbhaaGreatDoor.Pr

/- Of an expression's tokens that very expression is parsed. -/
namespace Go.Proofs.YtmfdkhnfjbgbhaaGreatDoor.Pr
open Go Go.RowKit Go.Proofs.YtmfdkhnfjbgbhaaGreatDoor.Pm Go.Proofs.YtmfdkhnfjbgbhaaGreatDoor.Pl
open Go.Proofs.YtmfdkhnfjbgbhaaGreatDoor.Lx (lexF)
open Go.Proofs.YtmfdkhnfjbgbhaaGreatDoor.Q (rngE rngA txtE txtA sameE sameA formT sepA wordL moreL txtA_map)
set_option linter.unusedVariables false
set_option maxHeartbeats 1000000
theorem findW_st {t : Lx.Tok} : ∀ (n : Nat) (lo : Int), findW (st t) lo n = findW t lo n
  | 0, lo => rfl
  | n + 1, lo => by
    rw [findW, findW, findW_st n]
    rfl
theorem begin_st (t : Lx.Tok) (c : Bool) : beginK (st t) c = beginK t c := by
  unfold beginK
  rw [findW_st]
  rfl
theorem begin_wT {k : Int} {w : List UInt8} {m a : Int} (h : formT k = some (w, m, a)) (h4 : k ≠ 4) : beginK (wT k) (isCond k) = some k := by
  unfold formT at h
  split at h <;> first
    | exact absurd rfl h4
    | (cases h; done)
    | decide +kernel
theorem signP_st {c : UInt8} {s : ByteArray} {t : Lx.Tok} {r : List Lx.Tok} (h : st t = sg c) (hs : B [c] = s) : signP s (t :: r) = .ok () r := by
  have hk : t.kind = 4 := congrArg (·.kind) h
  have ht : t.text = B [c] := congrArg (·.text) h
  rw [signP, if_pos]
  unfold isSign
  rw [hk, ht, hs]
  simp
theorem takeP_st {kind n : Int} {s : ByteArray} {pred : Lx.Tok → Bool} {t : Lx.Tok} {r : List Lx.Tok} (h : st t = ⟨kind, s, n, 0⟩) (hp : pred t = true) : takeP kind pred (t :: r) = .ok t r := by
  have hk : t.kind = kind := congrArg (·.kind) h
  rw [takeP, if_pos ⟨hk, hp⟩]
theorem sepT_app : ∀ (b : Bool) (l ms : List (List Lx.Tok)), sepT b (l ++ ms) = sepT b l ++ sepT (b && l.isEmpty) ms
  | b, [], ms => by simp [sepT]
  | b, x :: l, ms => by rw [List.cons_append, sepT, sepT, sepT_app false l ms]; simp
theorem rest_tk {k n : Int} {nm w : ByteArray} {ws : List UInt8} {m a : Int} {l : List Ex} (hF : formT k = some (ws, m, a)) (k4 : k ≠ 4) (h3 : 0 ≤ n) (h4 : n ≤ m) (h6 : (l.length : Int) = a) (h8 : isNamed k nm = true) {ts r : List Lx.Tok} (hts : ts.map st = sepT ((tkA l).isEmpty) (moreT k n nm)) : restP k (ts ++ r) = .ok (n, nm) r := by
  have hm : mostP k = m := by unfold mostP formP; rw [hF]
  have hm0 : k ≠ 3 → k ≠ 5 → k ≠ 6 → k ≠ 11 → m = 0 := by
    unfold formT at hF
    split at hF <;> first
      | (intros; injection hF with hF; injection hF with _ hF; injection hF with hF _; exact hF.symm)
      | (intros; contradiction)
  have hnm : k ≠ 3 → nm = e0 := by
    intro hk
    unfold isNamed at h8
    rw [if_neg hk, beq_iff_eq, toList_data, toList_data] at h8
    have : nm.data.toList = [] := h8
    rw [← B_toList' nm, this]
    rfl
  unfold restP
  unfold moreT at hts
  by_cases k3 : k = 3
  · subst k3
    rw [if_pos rfl] at hts ⊢
    have hl : l = [] := by
      refine List.length_eq_zero_iff.1 ?_
      injection hF with hF; injection hF with _ hF; injection hF with _ hF; omega
    subst hl
    have hts : ts.map st = [⟨1, nm, 0, 0⟩] := hts
    obtain ⟨t, z, rfl, e1, e2⟩ := List.map_eq_cons_iff.1 hts
    obtain rfl := List.map_eq_nil_iff.1 e2
    have ht : t.text = nm := congrArg (·.text) e1
    have hn : n = 0 := by injection hF with hF; injection hF with _ hF; injection hF with hF _; omega
    rw [show [t] ++ r = t :: r from rfl, takeP_st e1 (by rw [ht]; exact named_name nm h8), PR.bind_ok, ht, hn]
  rw [if_neg k3] at hts ⊢
  have hem := hnm k3
  clear hnm
  by_cases k5 : k = 5
  · subst k5
    rw [if_pos rfl] at hts ⊢
    have hl : (tkA l).isEmpty = false := by
      cases l with
      | nil => injection hF with hF; injection hF with _ hF; injection hF with _ hF; rw [List.length_nil] at h6; omega
      | cons x l => rfl
    rw [hl] at hts
    have hts : ts.map st = [sg 44, ⟨3, B (textL n), n, 0⟩] := hts
    obtain ⟨t, z, rfl, e1, e2⟩ := List.map_eq_cons_iff.1 hts
    obtain ⟨t', z, rfl, e3, e4⟩ := List.map_eq_cons_iff.1 e2
    obtain rfl := List.map_eq_nil_iff.1 e4
    have ht : t'.n = n := congrArg (·.n) e3
    rw [show [t, t'] ++ r = t :: t' :: r from rfl, signP_st (s := comma) e1 rfl, PR.bind_ok]
    try dsimp only
    rw [takeP_st e3 (decide_eq_true (by rw [ht, hm]; exact h4)), PR.bind_ok, ht, hem]
  rw [if_neg k5] at hts ⊢
  by_cases k6 : k = 6
  · subst k6
    rw [if_pos (.inl rfl)] at hts
    rw [if_pos rfl]
    have hl : (tkA l).isEmpty = false := by
      cases l with
      | nil => injection hF with hF; injection hF with _ hF; injection hF with _ hF; rw [List.length_nil] at h6; omega
      | cons x l => rfl
    rw [hl] at hts
    have hts : ts.map st = [sg 44, ⟨2, B (intL n), n, 0⟩] := hts
    obtain ⟨t, z, rfl, e1, e2⟩ := List.map_eq_cons_iff.1 hts
    obtain ⟨t', z, rfl, e3, e4⟩ := List.map_eq_cons_iff.1 e2
    obtain rfl := List.map_eq_nil_iff.1 e4
    have ht : t'.n = n := congrArg (·.n) e3
    rw [show [t, t'] ++ r = t :: t' :: r from rfl, signP_st (s := comma) e1 rfl, PR.bind_ok]
    try dsimp only
    rw [takeP_st e3 (decide_eq_true (by rw [ht, hm]; exact h4)), PR.bind_ok, ht, hem]
  rw [if_neg k6]
  by_cases k11 : k = 11
  · subst k11
    rw [if_pos (.inr rfl)] at hts
    rw [if_pos rfl]
    have hl : l = [] := by
      refine List.length_eq_zero_iff.1 ?_
      injection hF with hF; injection hF with _ hF; injection hF with _ hF; omega
    subst hl
    have hts : ts.map st = [⟨2, B (intL n), n, 0⟩] := hts
    obtain ⟨t', z, rfl, e3, e4⟩ := List.map_eq_cons_iff.1 hts
    obtain rfl := List.map_eq_nil_iff.1 e4
    have ht : t'.n = n := congrArg (·.n) e3
    rw [show [t'] ++ r = t' :: r from rfl, takeP_st e3 (decide_eq_true (by rw [ht, hm]; exact h4)), PR.bind_ok, ht, hem]
  rw [if_neg k11]
  rw [if_neg (by omega)] at hts
  have hts : ts.map st = [] := hts
  obtain rfl := List.map_eq_nil_iff.1 hts
  have := hm0 k3 k5 k6 k11
  rw [hem, show n = 0 by omega]
  rfl
theorem argN_len {k : Int} {w : List UInt8} {m a : Int} {l : List Ex} (hF : formT k = some (w, m, a)) (h6 : (l.length : Int) = a) : argN k = l.length := by
  unfold argN formP
  rw [hF]
  show a.toNat = _
  omega
mutual
theorem expr_tk : ∀ (x : Ex) (d : Nat) (c : Bool), isFine d c x = true → ∀ (ts r : List Lx.Tok), ts.map st = tkE x → exprP d c (ts ++ r) = .ok x r
  | ⟨k, n, nm, l⟩, d, c, h, ts, r, hts => by
    obtain ⟨w, m, a, hF, h1, h2, h3, h4, h5, h6, h7, h8, h9⟩ := fine_open h
    obtain ⟨d, rfl⟩ : ∃ d', d = d' + 1 := ⟨d - 1, by omega⟩
    rw [show ((d + 1 : Nat) : Int) - 1 = d by omega] at h9
    have hnm : k ≠ 3 → nm = e0 := by
      intro hk
      unfold isNamed at h8
      rw [if_neg hk, beq_iff_eq, toList_data, toList_data] at h8
      have : nm.data.toList = [] := h8
      rw [← B_toList' nm, this]
      rfl
    rw [tkE] at hts
    by_cases k4 : k = 4
    · subst k4
      have hl : l = [] := by
        refine List.length_eq_zero_iff.1 ?_
        injection hF with hF; injection hF with _ hF; injection hF with _ hF; omega
      subst hl
      rw [if_pos rfl] at hts
      obtain ⟨t, z, rfl, e1, e2⟩ := List.map_eq_cons_iff.1 hts
      obtain rfl := List.map_eq_nil_iff.1 e2
      have hk : t.kind = 3 := congrArg (·.kind) e1
      have ht : t.n = n := congrArg (·.n) e1
      have hb : beginK t c = some 4 := if_pos ⟨hk, h2.symm⟩
      rw [show [t] ++ r = t :: r from rfl, exprP, hb]
      dsimp only
      rw [if_pos rfl, ht, hnm (by decide)]
    have hbk : ∀ t : Lx.Tok, st t = wT k → beginK t c = some k := fun t e => by rw [← begin_st, e, ← h2]; exact begin_wT hF k4
    by_cases k12 : k = 1 ∨ k = 2
    · have hl : l = [] := by
        refine List.length_eq_zero_iff.1 ?_
        rcases k12 with rfl | rfl <;> (injection hF with hF; injection hF with _ hF; injection hF with _ hF; omega)
      have hn : n = 0 := by rcases k12 with rfl | rfl <;> (injection hF with hF; injection hF with _ hF; injection hF with hF _; omega)
      subst hl
      rw [if_neg k4, if_pos k12] at hts
      obtain ⟨t, z, rfl, e1, e2⟩ := List.map_eq_cons_iff.1 hts
      obtain rfl := List.map_eq_nil_iff.1 e2
      rw [show [t] ++ r = t :: r from rfl, exprP, hbk t e1]
      dsimp only
      rw [if_neg k4, if_pos k12, hn, hnm (by omega)]
    rw [if_neg k4, if_neg k12] at hts
    have hts : ts.map st = wT k :: sg 40 :: (sepT true (tkA l ++ moreT k n nm) ++ [sg 41]) := hts
    rw [sepT_app, Bool.true_and] at hts
    obtain ⟨t0, ts, rfl, e0', hts⟩ := List.map_eq_cons_iff.1 hts
    obtain ⟨t1, ts, rfl, e1', hts⟩ := List.map_eq_cons_iff.1 hts
    obtain ⟨tsA, tsB, rfl, eA, eB⟩ := List.map_eq_append_iff.1 hts
    obtain ⟨tsC, tsD, rfl, eC, eD⟩ := List.map_eq_append_iff.1 eA
    obtain ⟨t2, z, rfl, e2', ez⟩ := List.map_eq_cons_iff.1 eB
    obtain rfl := List.map_eq_nil_iff.1 ez
    have HA := list_tk l d 0 (k == 10) (by rw [← h9]; congr 1; by_cases hk : k = 10 <;> simp [hk]) tsC (tsD ++ t2 :: r) eC
    rw [← argN_len hF h6] at HA
    have HR := rest_tk (w := e0) hF k4 h3 h4 h6 h8 (r := t2 :: r) eD
    rw [show t0 :: t1 :: (tsC ++ tsD ++ [t2]) ++ r = t0 :: t1 :: (tsC ++ (tsD ++ t2 :: r)) by simp, exprP, hbk t0 e0']
    dsimp only
    rw [if_neg k4, if_neg k12, signP_st (s := openS) e1' rfl, PR.bind_ok]
    try dsimp only
    rw [HA, PR.bind_ok]
    try dsimp only
    rw [HR, PR.bind_ok]
    try dsimp only
    rw [signP_st (s := shutS) e2' rfl, PR.bind_ok]
theorem list_tk : ∀ (l : List Ex) (d i : Nat) (b : Bool), fineL d (b && (i == 0)) l = true → ∀ (ts r : List Lx.Tok), ts.map st = sepT (i == 0) (tkA l) → argsP (exprP d) b l.length i (ts ++ r) = .ok l r
  | [], d, i, b, h, ts, r, hts => by
    rw [tkA] at hts
    have hts : ts.map st = [] := by rw [hts]; unfold sepT; rfl
    obtain rfl := List.map_eq_nil_iff.1 hts
    rfl
  | x :: l, d, i, b, h, ts, r, hts => by
    rw [fineL, Bool.and_eq_true] at h
    have ih1 := expr_tk x d (b && (i == 0)) h.1
    have ih2 := list_tk l d (i + 1) b (by rw [show ((i + 1) == 0) = false from rfl, Bool.and_false]; exact h.2)
    rw [tkA] at hts
    rw [List.length_cons, argsP]
    by_cases hi : i = 0
    · subst hi
      have hts : ts.map st = tkE x ++ sepT false (tkA l) := hts
      obtain ⟨t1, t2, rfl, e1, e2⟩ := List.map_eq_append_iff.1 hts
      rw [if_pos rfl, PR.bind_ok, List.append_assoc, ih1 t1 _ e1, PR.bind_ok]
      try dsimp only
      rw [ih2 t2 r e2, PR.bind_ok]
    · rw [show (i == 0) = false from beq_eq_false_iff_ne.2 hi] at hts
      have hts : ts.map st = sg 44 :: (tkE x ++ sepT false (tkA l)) := hts
      obtain ⟨t0, ts, rfl, e0', hts⟩ := List.map_eq_cons_iff.1 hts
      obtain ⟨t1, t2, rfl, e1, e2⟩ := List.map_eq_append_iff.1 hts
      rw [if_neg hi, List.cons_append, signP_st (s := comma) e0' rfl, PR.bind_ok]
      try dsimp only
      rw [List.append_assoc, ih1 t1 _ e1, PR.bind_ok]
      try dsimp only
      rw [ih2 t2 r e2, PR.bind_ok]
end
end Go.Proofs.YtmfdkhnfjbgbhaaGreatDoor.Pr

/- Tokens that stand alone; ParseBlanks. -/
namespace Go.Proofs.YtmfdkhnfjbgbhaaGreatDoor.Pr
open Go Go.RowKit Go.Proofs.YtmfdkhnfjbgbhaaGreatDoor.Pm Go.Proofs.YtmfdkhnfjbgbhaaGreatDoor.Pl
open Go.Proofs.YtmfdkhnfjbgbhaaGreatDoor.Lx (lexF sz_len)
open Go.Proofs.YtmfdkhnfjbgbhaaGreatDoor.Q (rngE rngA txtE txtA sameE sameA formT sepA wordL moreL)
set_option linter.unusedVariables false
set_option maxHeartbeats 1000000
/-- a token by itself: a sign, or a part, which what is no part ends -/
structure Uni (u : Lx.Tok) : Prop where
  k5 : u.kind ≠ 5
  ne : u.text.data.toList ≠ []
  blank : ∀ r, Lx.runB Lx.blanksB (u.text.data.toList ++ r) = 0
  first : ∀ r, (u.kind = 4 ∨ Pm.Ends r) → Lx.firstF (u.text.data.toList ++ r) = (⟨u.kind, u.text, u.n, 0⟩, true)
  sz : u.text.size ≤ 100
theorem uni_part {w : List UInt8} {k n : Int} (hw : w ≠ []) (ha : w.all (Lx.inB Lx.partsB) = true) (hf : Lx.firstF w = (⟨k, B w, n, 0⟩, true)) (hk : k ≠ 5) (hk4 : k ≠ 4) (hz : w.length ≤ 100) : Uni ⟨k, B w, n, 0⟩ := by
  refine ⟨hk, ?_, fun r => ?_, fun r hr => ?_, ?_⟩
  · show (B w).data.toList ≠ []
    rw [B_toList]; exact hw
  · show Lx.runB Lx.blanksB ((B w).data.toList ++ r) = 0
    rw [B_toList]
    cases w with
    | nil => exact absurd rfl hw
    | cons c q =>
      rw [List.all_cons, Bool.and_eq_true] at ha
      exact Lx.runB_no _ _ _ (Lx.not_blank ha.1)
  · show Lx.firstF ((B w).data.toList ++ r) = _
    rw [B_toList]
    rcases hr with hr | rfl | ⟨c, q, rfl, hc⟩
    · exact absurd hr hk4
    · rw [List.append_nil]; exact hf
    · rw [Lx.first_stop hw hc]; exact hf
  · show (B w).size ≤ 100
    rw [B_size]; exact hz
theorem uni_sign {c : UInt8} (hs : Lx.inB Lx.signsB c = true) : Uni (sg c) := by
  refine ⟨by show (4 : Int) ≠ 5; decide, ?_, fun r => ?_, fun r hr => ?_, ?_⟩
  · show (B [c]).data.toList ≠ []
    rw [B_toList]; simp
  · show Lx.runB Lx.blanksB ((B [c]).data.toList ++ r) = 0
    rw [B_toList]
    exact Lx.runB_no _ _ _ (Lx.sign_not_blank hs)
  · show Lx.firstF ((B [c]).data.toList ++ r) = _
    rw [B_toList]
    show Lx.firstF (c :: r) = _
    rw [Lx.firstF, if_pos hs]
    rfl
  · show (B [c]).size ≤ 100
    rw [B_size]; exact (show 1 ≤ 100 by omega)
theorem word_uni {k : Int} {w : List UInt8} {m a : Int} (h : formT k = some (w, m, a)) (h4 : k ≠ 4) : Uni (wT k) := by
  have hw : wordL k = w := by unfold wordL; rw [h]; rfl
  have key : ∀ w : List UInt8, w ≠ [] → w.all (Lx.inB Lx.partsB) = true → Lx.partF (B w) = (⟨1, B w, 0, 0⟩, true) → w.length ≤ 100 → Uni ⟨1, B w, 0, 0⟩ := fun w h1 h2 h3 h100 => uni_part h1 h2 (by rw [Lx.first_part h1 h2]; exact h3) (show (1 : Int) ≠ 5 by decide) (show (1 : Int) ≠ 4 by decide) h100
  have wd : ∀ w : List UInt8, Lib.containsS L.wordsB (B w) = true → Lx.partF (B w) = (⟨1, B w, 0, 0⟩, true) := fun w h => by unfold Lx.partF; rw [h, Bool.true_or, if_pos rfl]
  unfold wT
  rw [hw]
  clear hw
  unfold formT at h
  split at h <;> first
    | (injection h with h; injection h with h _; subst h; exact key _ (by decide) (by decide +kernel) (wd _ (by decide +kernel)) (by decide))
    | exact absurd rfl h4
    | cases h
theorem name_uni {nm : ByteArray} (h : Lx.isName nm = true) : Uni ⟨1, nm, 0, 0⟩ := by
  have hn := h
  unfold Lx.isName at h
  cases hl : nm.data.toList with
  | nil => rw [hl] at h; cases h
  | cons c l =>
    rw [hl] at h
    simp only [Bool.and_eq_true, decide_eq_true_eq] at h
    obtain ⟨_, _, h3, _⟩ := h
    have h100 : nm.size ≤ 100 := by omega
    have hall := Lx.run_all Lx.abc9B (c :: l)
    have hz : nm.size = (c :: l).length := by rw [← hl]; exact (Lx.sz_len nm).symm
    rw [← hz, decide_eq_true h3] at hall
    have hp : (c :: l).all (Lx.inB Lx.partsB) = true := List.all_eq_true.2 fun x hx => letter_part (List.all_eq_true.1 hall.symm x hx)
    have hB : B (c :: l) = nm := by rw [← hl]; exact B_toList' nm
    have := uni_part (k := 1) (n := 0) (w := c :: l) (by simp) hp (by
      rw [Lx.first_part (by simp) hp]
      unfold Lx.partF
      rw [hB, hn, Bool.or_true, if_pos rfl]) (show (1 : Int) ≠ 5 by decide) (show (1 : Int) ≠ 4 by decide) (by rw [← hz]; exact h100)
    rw [hB] at this
    exact this
theorem money_uni {n : Int} (h0 : 0 ≤ n) (h1 : n ≤ 1000000000000) : Uni ⟨3, B (textL n), n, 0⟩ := by
  obtain ⟨k, rfl⟩ : ∃ k : Nat, n = k := ⟨n.toNat, by omega⟩
  have hf := Lx.first_money k (by omega)
  have hne : textL (k : Int) ≠ [] := Pl.textL_ne (by unfold Pl.okA; omega)
  have hall : (textL (k : Int)).all (Lx.inB Lx.partsB) = true := by
    rw [textL_ok (by unfold Pl.okA; omega), if_neg (by omega), List.nil_append, List.all_append, Lx.digs_parts]
    show (true && (Lx.inB Lx.partsB 46 && (Lx.inB Lx.partsB (dig _) && (Lx.inB Lx.partsB (dig _) && true)))) = true
    rw [Lx.digit_part (dig_isD _), Lx.digit_part (dig_isD _), show Lx.inB Lx.partsB 46 = true by decide +kernel]
    rfl
  exact uni_part hne hall hf (show (3 : Int) ≠ 5 by decide) (show (3 : Int) ≠ 4 by decide) (by
    rw [textL_ok (by unfold Pl.okA; omega), if_neg (by omega), List.nil_append, List.length_append]
    have := digs_len ((k : Int).natAbs / 100)
    simp only [List.length_cons, List.length_nil]
    omega)
theorem count_uni {n : Int} (h0 : 0 ≤ n) (h1 : n ≤ 100000) : Uni ⟨2, B (intL n), n, 0⟩ := by
  obtain ⟨k, rfl⟩ : ∃ k : Nat, n = k := ⟨n.toNat, by omega⟩
  rw [Lx.intL_nat]
  exact uni_part (digs_ne k) (Lx.digs_parts k) (Lx.first_count k (by omega)) (show (2 : Int) ≠ 5 by decide) (show (2 : Int) ≠ 4 by decide) (by have := digs_len k; omega)

theorem sepT_mem {u : Lx.Tok} : ∀ (b : Bool) (ms : List (List Lx.Tok)), u ∈ sepT b ms → u = sg 44 ∨ ∃ m ∈ ms, u ∈ m
  | b, [], h => by simp [sepT] at h
  | b, m :: ms, h => by
    rw [sepT, List.mem_append, List.mem_append] at h
    rcases h with h | h | h
    · left
      split at h
      · cases h
      · simpa using h
    · exact .inr ⟨m, List.mem_cons_self, h⟩
    · rcases sepT_mem false ms h with h | ⟨m', h1, h2⟩
      · exact .inl h
      · exact .inr ⟨m', List.mem_cons_of_mem _ h1, h2⟩
theorem more_uni {k n : Int} {nm : ByteArray} {w : List UInt8} {m a : Int} (hF : formT k = some (w, m, a)) (h3 : 0 ≤ n) (h4 : n ≤ m) (h8 : isNamed k nm = true) : ∀ us ∈ moreT k n nm, ∀ u ∈ us, Uni u := by
  intro us hus u hu
  unfold moreT at hus
  split at hus
  · rename_i hk; subst hk
    rw [List.mem_singleton] at hus; subst hus
    rw [List.mem_singleton] at hu; subst hu
    exact name_uni (named_name nm h8)
  · split at hus
    · rename_i hk; subst hk
      have hm : m = 1000000000000 := by injection hF with hF; injection hF with _ hF; injection hF with hF _; exact hF.symm
      rw [List.mem_singleton] at hus; subst hus
      rw [List.mem_singleton] at hu; subst hu
      exact money_uni h3 (by omega)
    · split at hus
      · rename_i hk
        have hm : n ≤ 100000 := by rcases hk with rfl | rfl <;> (injection hF with hF; injection hF with _ hF; injection hF with hF _; omega)
        rw [List.mem_singleton] at hus; subst hus
        rw [List.mem_singleton] at hu; subst hu
        exact count_uni h3 hm
      · cases hus
mutual
theorem expr_uni : ∀ (x : Ex) (d : Int) (c : Bool), isFine d c x = true → ∀ u ∈ tkE x, Uni u
  | ⟨k, n, nm, l⟩, d, c, h, u, hu => by
    obtain ⟨w, m, a, hF, h1, h2, h3, h4, h5, h6, h7, h8, h9⟩ := fine_open h
    have ih := list_uni l (d - 1) _ h9
    rw [tkE] at hu
    by_cases k4 : k = 4
    · subst k4
      rw [if_pos rfl, List.mem_singleton] at hu
      subst hu
      exact money_uni h3 (by omega)
    have hw := word_uni hF k4
    by_cases k12 : k = 1 ∨ k = 2
    · rw [if_neg k4, if_pos k12, List.mem_singleton] at hu
      subst hu
      exact hw
    rw [if_neg k4, if_neg k12] at hu
    simp only [List.mem_append, List.mem_singleton] at hu
    rcases hu with rfl | rfl | hu | rfl
    · exact hw
    · exact uni_sign (by decide +kernel)
    · rcases sepT_mem _ _ hu with rfl | ⟨us, h1, h2⟩
      · exact uni_sign (by decide +kernel)
      · rcases List.mem_append.1 h1 with h1 | h1
        · exact ih us h1 u h2
        · exact more_uni hF h3 h4 h8 us h1 u h2
    · exact uni_sign (by decide +kernel)
theorem list_uni : ∀ (l : List Ex) (d : Int) (c : Bool), fineL d c l = true → ∀ us ∈ tkA l, ∀ u ∈ us, Uni u
  | [], d, c, h, us, hus => by rw [tkA] at hus; cases hus
  | x :: l, d, c, h, us, hus => by
    rw [fineL, Bool.and_eq_true] at h
    rw [tkA] at hus
    have h1 := expr_uni x d c h.1
    have h2 := list_uni l d false h.2
    rcases List.mem_cons.1 hus with rfl | hus
    · exact h1
    · exact h2 us hus
end
/-- what so much of a text comes to, whatever stands behind it -/
def Tolds (i : Nat) (t : List UInt8) (l : List Lx.Tok) : Prop := ∀ (g : Nat) (r : List UInt8), Lx.scanF (g + i) (t ++ r) 0 = Lx.okT l ++ Lx.scanF g r t.length
theorem Uni.scan {u : Lx.Tok} (hu : Uni u) (g : Nat) (sep r : List UInt8) (p : Nat) (hs : sep ≠ []) (hb : sep.all (Lx.inB Lx.blanksB) = true) : Lx.scanF (g + 1) (u.text.data.toList ++ (sep ++ r)) p = (⟨u.kind, u.text, u.n, p⟩, true) :: Lx.scanF g r (p + u.text.size + sep.length) := by
  have hE : Pm.Ends (sep ++ r) := by
    cases sep with
    | nil => exact absurd rfl hs
    | cons c q =>
      rw [List.all_cons, Bool.and_eq_true] at hb
      exact .inr ⟨c, q ++ r, rfl, Lx.blank_part hb.1⟩
  rw [Lx.scanF, hu.blank, List.drop_zero, hu.first _ (.inr hE)]
  dsimp only
  rw [if_neg (fun h => h.elim (fun h => by cases h) hu.k5), Nat.add_zero]
  congr 1
  rw [← sz_len, List.drop_left]
  cases g with
  | zero => rfl
  | succ g => rw [Lx.scanF_pre _ _ _ _ hb]
theorem Tolds.step {i : Nat} {t : List UInt8} {l : List Lx.Tok} (h : Tolds i t l) {u : Lx.Tok} (hu : Uni u) (sep : List UInt8) (hs : sep ≠ []) (hb : sep.all (Lx.inB Lx.blanksB) = true) : Tolds (i + 1) ((t ++ u.text.data.toList) ++ sep) (l ++ [⟨u.kind, u.text, u.n, (t.length : Int)⟩]) := by
  intro g r
  have := h (g + 1) (u.text.data.toList ++ (sep ++ r))
  rw [show g + (i + 1) = g + 1 + i by omega, List.append_assoc, List.append_assoc, this, hu.scan _ _ _ _ hs hb, Lx.okT_snoc]
  congr 3
  simp only [List.length_append, sz_len]
theorem Tolds.lex {i : Nat} {t : ByteArray} {l : List Lx.Tok} (h : Tolds i t.data.toList l) (hz : t.size ≤ 2000) : lexF t = (l ++ [endT t.size], 0, 0) := by
  have hs : Lx.scan t = Lx.okT l ++ [(endT t.size, true)] := by
    have := h (t.size + 1) []
    rw [List.append_nil, Lx.scanF_end] at this
    rw [Lx.scan_eq _ (f := t.size + 1 + i) (by omega), this, sz_len]
    rfl
  unfold lexF Lx.toksF
  rw [if_neg (by omega), hs, Lx.tell_ok]
  show (List.map _ _, _, _) = _
  rw [List.map_append, Lx.fst_ok]
  rfl
end Go.Proofs.YtmfdkhnfjbgbhaaGreatDoor.Pr

/- ParseBlanks, in the pure machine. -/
namespace Go.Proofs.YtmfdkhnfjbgbhaaGreatDoor.Pr
open Go Go.RowKit Go.Proofs.YtmfdkhnfjbgbhaaGreatDoor.Pm Go.Proofs.YtmfdkhnfjbgbhaaGreatDoor.Pl
open Go.Proofs.YtmfdkhnfjbgbhaaGreatDoor.Lx (lexF sz_len rowT rowT_len rowT_get rowB rowB_get pkN pkN_eq)
open Go.Proofs.YtmfdkhnfjbgbhaaGreatDoor.Q (rngE rngA txtE txtA sameE sameA)
set_option linter.unusedVariables false
set_option maxHeartbeats 1000000
end Go.Proofs.YtmfdkhnfjbgbhaaGreatDoor.Pr

/- A scan of a text that is cut behind a token; a parse of it. -/
namespace Go.Proofs.YtmfdkhnfjbgbhaaGreatDoor.Pr
open Go Go.RowKit Go.Proofs.YtmfdkhnfjbgbhaaGreatDoor.Pm Go.Proofs.YtmfdkhnfjbgbhaaGreatDoor.Pl
open Go.Proofs.YtmfdkhnfjbgbhaaGreatDoor.Lx (lexF sz_len)
open Go.Proofs.YtmfdkhnfjbgbhaaGreatDoor.Q (rngE rngA txtE txtA sameE sameA formT wordL)
set_option linter.unusedVariables false
set_option maxHeartbeats 1000000
theorem runB_takeq (set : ByteArray) : ∀ (l : List UInt8) (q : Nat), Lx.runB set l ≤ q → Lx.runB set (l.take q) = Lx.runB set l
  | [], q, h => by rw [List.take_nil]
  | c :: l, 0, h => by
    rw [List.take_zero]
    have : Lx.runB set (c :: l) = 0 := by omega
    rw [this]; rfl
  | c :: l, q + 1, h => by
    rw [List.take_succ_cons]
    rw [Lx.runB] at h ⊢
    rw [Lx.runB]
    split
    · rename_i hc
      rw [if_pos hc] at h
      rw [runB_takeq set l q (by omega)]
    · rfl
theorem first_take {m : List UInt8} (h1 : (Lx.firstF m).2 = true) (h5 : (Lx.firstF m).1.kind ≠ 5) {q : Nat} (hq : (Lx.firstF m).1.text.size ≤ q) : Lx.firstF (m.take q) = Lx.firstF m := by
  obtain ⟨f1, f2⟩ := Lx.first_fits m h1 h5
  cases m with
  | nil => exact absurd rfl h5
  | cons c l =>
    obtain ⟨q, rfl⟩ : ∃ q', q = q' + 1 := ⟨q - 1, by omega⟩
    rw [Lx.firstF] at hq
    rw [List.take_succ_cons, Lx.firstF, Lx.firstF]
    split
    · rfl
    · rename_i hc
      rw [if_neg hc, (Lx.partF_kind _).2, B_size, List.length_take] at hq
      have hle := Lx.runB_le Lx.partsB (c :: l)
      have hr : Lx.runB Lx.partsB (c :: l) ≤ q + 1 := by omega
      have := runB_takeq Lx.partsB (c :: l) (q + 1) hr
      rw [List.take_succ_cons] at this
      rw [this, ← List.take_succ_cons, List.take_take, Nat.min_eq_left hr]
theorem scan_cut : ∀ (f : Nat) (l : List UInt8) (p k : Nat) (t : Lx.Tok), (Lx.scanF f l p)[k]? = some (t, true) → t.kind ≠ 5 → ∃ q : Nat, t.place + (t.text.size : Int) = ((p + q : Nat) : Int) ∧ q ≤ l.length ∧ ∀ g, Lx.scanF (g + (k + 1)) (l.take q) p = (Lx.scanF f l p).take (k + 1) ++ Lx.scanF g [] (p + q)
  | 0, l, p, k, t, h, _ => by simp [Lx.scanF] at h
  | f + 1, l, p, k, t, h, h5 => by
    have hS := Lx.scanF.eq_2 l p f
    try dsimp only at hS
    obtain ⟨b, hb⟩ : ∃ b, Lx.runB Lx.blanksB l = b := ⟨_, rfl⟩
    have hbl := Lx.runB_le Lx.blanksB l
    rw [hb] at hS hbl
    obtain ⟨r, hr⟩ : ∃ r, Lx.firstF (l.drop b) = r := ⟨_, rfl⟩
    rw [hr] at hS
    rw [hS] at h ⊢
    have ok : ∀ (hr2 : r.2 = true) (hk5 : r.1.kind ≠ 5) (n : Nat) (g : Nat), Lx.scanF (g + 1) (l.take (b + (r.1.text.size + n))) p = (⟨r.1.kind, r.1.text, r.1.n, ((p + b : Nat) : Int)⟩, true) :: Lx.scanF g (((l.drop b).drop r.1.text.size).take n) (p + b + r.1.text.size) := by
      intro hr2 hk5 n g
      rw [Lx.scanF, runB_takeq _ _ _ (by omega), hb, List.drop_take, show b + (r.1.text.size + n) - b = r.1.text.size + n by omega, first_take (by rw [hr]; exact hr2) (by rw [hr]; exact hk5) (by rw [hr]; omega), hr]
      try dsimp only
      rw [if_neg (fun h => h.elim (fun h => by rw [hr2] at h; cases h) hk5), hr2, List.drop_take, show r.1.text.size + n - r.1.text.size = n by omega]
    by_cases hc : r.2 = false ∨ r.1.kind = 5
    · rw [if_pos hc] at h
      cases k with
      | zero =>
        simp only [List.getElem?_cons_zero, Option.some.injEq, Prod.mk.injEq] at h
        obtain ⟨rfl, h2⟩ := h
        rcases hc with hc | hc
        · rw [hc] at h2; cases h2
        · exact absurd hc h5
      | succ k => simp at h
    · rw [if_neg hc] at h ⊢
      have hr2 : r.2 = true := by
        cases h : r.2 with
        | true => rfl
        | false => exact absurd (.inl h) hc
      have hk5 : r.1.kind ≠ 5 := fun h => hc (.inr h)
      obtain ⟨s1, s2⟩ := Lx.first_fits (l.drop b) (by rw [hr]; exact hr2) (by rw [hr]; exact hk5)
      rw [hr, List.length_drop] at s2
      rw [hr] at s1
      cases k with
      | zero =>
        simp only [List.getElem?_cons_zero, Option.some.injEq, Prod.mk.injEq] at h
        obtain ⟨rfl, h2⟩ := h
        refine ⟨b + r.1.text.size, by show ((p + b : Nat) : Int) + (r.1.text.size : Int) = _; omega, by omega, fun g => ?_⟩
        have := ok hr2 hk5 0 g
        rw [Nat.add_zero r.1.text.size] at this
        rw [show g + (0 + 1) = g + 1 by omega, this, List.take_zero, List.take_succ_cons, List.take_zero, hr2, Nat.add_assoc]
        rfl
      | succ k =>
        rw [List.getElem?_cons_succ] at h
        obtain ⟨q, q1, q2, q3⟩ := scan_cut f _ _ k t h h5
        rw [List.length_drop, List.length_drop] at q2
        refine ⟨b + (r.1.text.size + q), by omega, by omega, fun g => ?_⟩
        rw [show g + (k + 1 + 1) = g + (k + 1) + 1 by omega, ok hr2 hk5, q3, List.take_succ_cons, hr2, show p + b + r.1.text.size + q = p + (b + (r.1.text.size + q)) by omega]
        rfl
/-! ### what is eaten, and what is told where it is cut -/
structure Eats {α : Type} (us : List Lx.Tok) (R : List Lx.Tok → PR α) (a : α) : Prop where
  all : ∀ (ts r : List Lx.Tok), ts.map st = us → R (ts ++ r) = .ok a r
  cut : ∀ (ts v : List Lx.Tok) (u : Lx.Tok), ts.map st ++ v = us → v ≠ [] → u.kind = 5 → R (ts ++ [u]) = .er 80 u.place
theorem Eats.bind {α β : Type} {us vs : List Lx.Tok} {R : List Lx.Tok → PR α} {f : α → List Lx.Tok → PR β} {a : α} {b : β} (h1 : Eats us R a) (h2 : Eats vs (f a) b) : Eats (us ++ vs) (fun l => (R l).bind f) b := by
  refine ⟨fun ts r h => ?_, fun ts v u h hv hu => ?_⟩
  · obtain ⟨t1, t2, rfl, e1, e2⟩ := List.map_eq_append_iff.1 h
    show (R (t1 ++ t2 ++ r)).bind f = _
    rw [List.append_assoc, h1.all _ _ e1, PR.bind_ok, h2.all _ _ e2]
  · show (R (ts ++ [u])).bind f = _
    rcases List.append_eq_append_iff.1 h with ⟨a', e1, e2⟩ | ⟨c', e1, e2⟩
    · by_cases ha : a' = []
      · subst ha
        rw [List.append_nil] at e1
        rw [h1.all ts [u] e1.symm, PR.bind_ok]
        exact h2.cut [] v u (by rw [e2]; rfl) hv hu
      · rw [h1.cut ts a' u e1.symm ha hu]; rfl
    · obtain ⟨t1, t2, rfl, e3, e4⟩ := List.map_eq_append_iff.1 e1
      rw [List.append_assoc, h1.all _ _ e3, PR.bind_ok]
      exact h2.cut t2 v u (by rw [e4]; exact e2.symm) hv hu
theorem Eats.nil {α : Type} {a : α} : Eats [] (fun l => .ok a l) a := by
  refine ⟨fun ts r h => ?_, fun ts v u h hv hu => ?_⟩
  · obtain rfl := List.map_eq_nil_iff.1 h; rfl
  · exact absurd (List.append_eq_nil_iff.1 h).2 hv
theorem Eats.snoc {α β : Type} {us : List Lx.Tok} {R : List Lx.Tok → PR α} {f : α → List Lx.Tok → PR β} {a : α} {b : β} (h1 : Eats us R a) (h2 : ∀ l, f a l = .ok b l) : Eats us (fun l => (R l).bind f) b := by
  have h3 : Eats [] (f a) b := by rw [funext h2]; exact Eats.nil
  have := h1.bind h3
  rw [List.append_nil] at this
  exact this
theorem one_cut {w : Lx.Tok} {ts v : List Lx.Tok} (h : ts.map st ++ v = [w]) (hv : v ≠ []) : ts = [] := by
  cases ts with
  | nil => rfl
  | cons t ts =>
    have := congrArg List.length h
    simp only [List.map_cons, List.cons_append, List.length_cons, List.length_append, List.length_nil] at this
    exact absurd (List.length_eq_zero_iff.1 (by omega)) hv
theorem Eats.sign {c : UInt8} {s : ByteArray} (hs : B [c] = s) : Eats [sg c] (signP s) () := by
  refine ⟨fun ts r h => ?_, fun ts v u h hv hu => ?_⟩
  · obtain ⟨t, z, rfl, e1, e2⟩ := List.map_eq_cons_iff.1 h
    obtain rfl := List.map_eq_nil_iff.1 e2
    exact signP_st e1 hs
  · obtain rfl := one_cut h hv
    show signP s [u] = _
    rw [signP, if_neg]
    intro h
    have := isSign_kind h
    omega
theorem Eats.take {α : Type} {w : Lx.Tok} {kind : Int} {pred : Lx.Tok → Bool} {g : Lx.Tok → α} {a : α} (hk : kind ≠ 5) (h : ∀ t, st t = w → t.kind = kind ∧ pred t = true ∧ g t = a) : Eats [w] (fun l => (takeP kind pred l).bind fun t l => .ok (g t) l) a := by
  refine ⟨fun ts r h' => ?_, fun ts v u h' hv hu => ?_⟩
  · obtain ⟨t, z, rfl, e1, e2⟩ := List.map_eq_cons_iff.1 h'
    obtain rfl := List.map_eq_nil_iff.1 e2
    obtain ⟨k1, k2, k3⟩ := h t e1
    show (takeP kind pred (t :: r)).bind _ = _
    rw [takeP, if_pos ⟨k1, k2⟩, PR.bind_ok, k3]
  · obtain rfl := one_cut h' hv
    show (takeP kind pred [u]).bind _ = _
    rw [takeP, if_neg (fun h => hk (by rw [← h.1]; exact hu))]
    rfl
end Go.Proofs.YtmfdkhnfjbgbhaaGreatDoor.Pr

/- ParseCuts, in the pure machine. -/
namespace Go.Proofs.YtmfdkhnfjbgbhaaGreatDoor.Pr
open Go Go.RowKit Go.Proofs.YtmfdkhnfjbgbhaaGreatDoor.Pm Go.Proofs.YtmfdkhnfjbgbhaaGreatDoor.Pl
open Go.Proofs.YtmfdkhnfjbgbhaaGreatDoor.Lx (lexF sz_len rowT rowT_len rowT_get pkN pkN_eq sliceSV)
open Go.Proofs.YtmfdkhnfjbgbhaaGreatDoor.Q (rngE rngA txtE txtA sameE sameA formT wordL)
set_option linter.unusedVariables false
set_option maxHeartbeats 1000000
theorem Eats.congr {α : Type} {us : List Lx.Tok} {R R' : List Lx.Tok → PR α} {a : α} (h : Eats us R a) (e : ∀ l, R' l = R l) : Eats us R' a := by rw [funext e]; exact h
theorem rest_eats {k n : Int} {nm : ByteArray} {ws : List UInt8} {m a : Int} {l : List Ex} (hF : formT k = some (ws, m, a)) (k4 : k ≠ 4) (h3 : 0 ≤ n) (h4 : n ≤ m) (h6 : (l.length : Int) = a) (h8 : isNamed k nm = true) : Eats (sepT ((tkA l).isEmpty) (moreT k n nm)) (restP k) (n, nm) := by
  have hA := fun (ts r : List Lx.Tok) (h : ts.map st = sepT ((tkA l).isEmpty) (moreT k n nm)) => rest_tk (w := e0) hF k4 h3 h4 h6 h8 (r := r) h
  refine ⟨fun ts r h => hA ts r h, fun ts v u h hv hu => ?_⟩
  have two : ∀ (w : Lx.Tok) (kind : Int) (pred : Lx.Tok → Bool), kind ≠ 5 → w.kind = kind → ts.map st ++ v = [sg 44, w] → ((signP comma (ts ++ [u])).bind fun _ l => (takeP kind pred l).bind fun t l => .ok (t.n, (e0 : ByteArray)) l) = .er 80 u.place := by
    intro w kind pred hk hw h
    cases ts with
    | nil =>
      show (signP comma ([] ++ [u])).bind _ = _
      rw [(Eats.sign (c := 44) (s := comma) rfl).cut [] [sg 44] u rfl (by simp) hu]
      rfl
    | cons t ts =>
      simp only [List.map_cons, List.cons_append, List.cons.injEq] at h
      obtain ⟨e1, e2⟩ := h
      obtain rfl := one_cut e2 hv
      show (signP comma (t :: [u])).bind _ = _
      rw [signP_st (s := comma) e1 rfl, PR.bind_ok]
      show (takeP kind pred [u]).bind _ = _
      rw [takeP, if_neg (fun h => hk (by rw [← h.1]; exact hu))]
      rfl
  have one : ∀ (w : Lx.Tok) (kind : Int) (pred : Lx.Tok → Bool) (g : Lx.Tok → Int × ByteArray), kind ≠ 5 → ts.map st ++ v = [w] → ((takeP kind pred (ts ++ [u])).bind fun t l => .ok (g t) l) = .er 80 u.place := by
    intro w kind pred g hk h
    obtain rfl := one_cut h hv
    show (takeP kind pred [u]).bind _ = _
    rw [takeP, if_neg (fun h => hk (by rw [← h.1]; exact hu))]
    rfl
  unfold moreT at h
  unfold restP
  by_cases k3 : k = 3
  · subst k3
    rw [if_pos rfl] at h ⊢
    have hl : l = [] := by
      refine List.length_eq_zero_iff.1 ?_
      injection hF with hF; injection hF with _ hF; injection hF with _ hF; omega
    subst hl
    exact one _ _ _ _ (by decide) h
  rw [if_neg k3] at h ⊢
  by_cases k5 : k = 5
  · subst k5
    rw [if_pos rfl] at h ⊢
    have hl : (tkA l).isEmpty = false := by
      cases l with
      | nil => injection hF with hF; injection hF with _ hF; injection hF with _ hF; rw [List.length_nil] at h6; omega
      | cons x l => rfl
    rw [hl] at h
    exact two _ _ _ (by decide) rfl h
  rw [if_neg k5] at h ⊢
  by_cases k6 : k = 6
  · subst k6
    rw [if_pos (.inl rfl)] at h
    rw [if_pos rfl]
    have hl : (tkA l).isEmpty = false := by
      cases l with
      | nil => injection hF with hF; injection hF with _ hF; injection hF with _ hF; rw [List.length_nil] at h6; omega
      | cons x l => rfl
    rw [hl] at h
    exact two _ _ _ (by decide) rfl h
  rw [if_neg k6]
  by_cases k11 : k = 11
  · subst k11
    rw [if_pos (.inr rfl)] at h
    rw [if_pos rfl]
    have hl : l = [] := by
      refine List.length_eq_zero_iff.1 ?_
      injection hF with hF; injection hF with _ hF; injection hF with _ hF; omega
    subst hl
    exact one _ _ _ _ (by decide) h
  rw [if_neg (by omega)] at h
  have h : ts.map st ++ v = [] := h
  exact absurd (List.append_eq_nil_iff.1 h).2 hv
theorem findW_no {t : Lx.Tok} (h : t.kind ≠ 1) : ∀ (n : Nat) (lo : Int), findW t lo n = none
  | 0, lo => rfl
  | n + 1, lo => by
    have hw : isWord t lo = false := by
      unfold isWord
      rw [beq_eq_false_iff_ne.2 h]; rfl
    rw [findW, hw]; exact findW_no h n _
theorem Eats.head {w : Lx.Tok} {us : List Lx.Tok} {d : Nat} {c : Bool} {R : List Lx.Tok → PR Ex} {x : Ex} (hb : ∀ t, st t = w → ∀ r, exprP (d + 1) c (t :: r) = R r) (h : Eats us R x) : Eats (w :: us) (exprP (d + 1) c) x := by
  refine ⟨fun ts r h' => ?_, fun ts v u h' hv hu => ?_⟩
  · obtain ⟨t, z, rfl, e1, e2⟩ := List.map_eq_cons_iff.1 h'
    rw [List.cons_append, hb t e1, h.all _ _ e2]
  · cases ts with
    | nil =>
      show exprP (d + 1) c [u] = _
      have hn : beginK u c = none := by
        unfold beginK
        rw [if_neg (by rw [hu]; exact fun h => absurd h.1 (by decide))]
        exact findW_no (by rw [hu]; decide) _ _
      rw [exprP, hn]
    | cons t ts =>
      simp only [List.map_cons, List.cons_append, List.cons.injEq] at h'
      obtain ⟨e1, e2⟩ := h'
      rw [List.cons_append, hb t e1, h.cut ts v u e2 hv hu]
mutual
theorem expr_eats : ∀ (x : Ex) (d : Nat) (c : Bool), isFine d c x = true → Eats (tkE x) (exprP d c) x
  | ⟨k, n, nm, l⟩, d, c, h => by
    have hfull := expr_tk ⟨k, n, nm, l⟩ d c h
    obtain ⟨w, m, a, hF, h1, h2, h3, h4, h5, h6, h7, h8, h9⟩ := fine_open h
    obtain ⟨d, rfl⟩ : ∃ d', d = d' + 1 := ⟨d - 1, by omega⟩
    rw [show ((d + 1 : Nat) : Int) - 1 = d by omega] at h9
    have hbk : k ≠ 4 → ∀ t : Lx.Tok, st t = wT k → beginK t c = some k := fun k4 t e => by rw [← begin_st, e, ← h2]; exact begin_wT hF k4
    have leaf : ∀ w : Lx.Tok, tkE ⟨k, n, nm, l⟩ = [w] → Eats (tkE ⟨k, n, nm, l⟩) (exprP (d + 1) c) ⟨k, n, nm, l⟩ := by
      intro w hw
      rw [hw] at hfull ⊢
      exact Eats.head (R := fun r => .ok ⟨k, n, nm, l⟩ r) (fun t ht r => by rw [← hfull [t] r (by rw [List.map_cons, List.map_nil, ht])]; rfl) Eats.nil
    by_cases k4 : k = 4
    · exact leaf _ (by rw [tkE, if_pos k4])
    by_cases k12 : k = 1 ∨ k = 2
    · exact leaf _ (by rw [tkE, if_neg k4, if_pos k12])
    rw [tkE, if_neg k4, if_neg k12]
    refine Eats.head (R := fun r => (signP openS r).bind fun _ l => (argsP (exprP d) (k == 10) (argN k) 0 l).bind fun xs l => (restP k l).bind fun p l => (signP shutS l).bind fun _ l => .ok ⟨k, p.1, p.2, xs⟩ l) (fun t ht r => ?_) ?_
    · rw [exprP, hbk k4 t ht]
      dsimp only
      rw [if_neg k4, if_neg k12]
    · have HA := list_eats l d 0 (k == 10) (by rw [← h9]; congr 1; by_cases hk : k = 10 <;> simp [hk])
      rw [← argN_len hF h6] at HA
      rw [sepT_app, Bool.true_and]
      refine (Eats.sign (c := 40) (s := openS) rfl).bind ?_
      rw [List.append_assoc]
      refine HA.bind ?_
      refine (rest_eats hF k4 h3 h4 h6 h8).bind ?_
      exact (Eats.sign (c := 41) (s := shutS) rfl).snoc fun _ => rfl
theorem list_eats : ∀ (l : List Ex) (d i : Nat) (b : Bool), fineL d (b && (i == 0)) l = true → Eats (sepT (i == 0) (tkA l)) (argsP (exprP d) b l.length i) l
  | [], d, i, b, h => by
    rw [tkA, show sepT (i == 0) [] = [] by unfold sepT; rfl]
    exact Eats.nil.congr fun l => by rw [List.length_nil, argsP]
  | x :: l, d, i, b, h => by
    rw [fineL, Bool.and_eq_true] at h
    have ih1 := expr_eats x d (b && (i == 0)) h.1
    have ih2 := list_eats l d (i + 1) b (by rw [show ((i + 1) == 0) = false from rfl, Bool.and_false]; exact h.2)
    have hs : Eats (if (i == 0) = true then [] else [sg 44]) (fun l => if i = 0 then PR.ok () l else signP comma l) () := by
      by_cases hi : i = 0
      · rw [if_pos (by rw [hi]; rfl)]
        exact Eats.nil.congr fun l => by rw [if_pos hi]
      · rw [if_neg (by rw [beq_eq_false_iff_ne.2 hi]; simp)]
        exact (Eats.sign (c := 44) (s := comma) rfl).congr fun l => by rw [if_neg hi]
    rw [tkA, sepT]
    refine Eats.congr (hs.bind (f := fun _ l1 => (exprP d (b && (i == 0)) l1).bind fun x l2 => (argsP (exprP d) b l.length (i + 1) l2).bind fun xs l3 => .ok (x :: xs) l3) (ih1.bind (f := fun x l2 => (argsP (exprP d) b l.length (i + 1) l2).bind fun xs l3 => .ok (x :: xs) l3) (ih2.snoc fun _ => rfl))) fun l' => by
      rw [List.length_cons, argsP]
end
theorem frag_scan {us : List Lx.Tok} {t : List UInt8} (h : FragT us t) : ∃ l : List Lx.Tok, l.map st = us ∧ Lx.scan (B t) = Lx.okT l ++ [(endT t.length, true)] := by
  obtain ⟨l, hl, e⟩ := h (t.length + 1) [] 0 (.inl rfl)
  rw [List.append_nil, Lx.scanF_end] at e
  refine ⟨l, hl, ?_⟩
  rw [Lx.scan_eq _ (f := t.length + 1 + us.length) (by rw [B_size]; omega), B_toList, e, Nat.zero_add]
  rfl
theorem lexF_scan {s : ByteArray} {l : List Lx.Tok} {z : Nat} (hs : Lx.scan s = Lx.okT l ++ [(endT z, true)]) (hz : s.size ≤ 2000) : lexF s = (l ++ [endT z], 0, 0) := by
  unfold lexF Lx.toksF
  rw [if_neg (by omega), hs, Lx.tell_ok]
  show (List.map _ _, _, _) = _
  rw [List.map_append, Lx.fst_ok]
  rfl
/-- a text that is cut behind a token, but the last one, is told at its end -/
theorem parse_cut {x : Ex} (h : isRight x = true) {l : List Lx.Tok} {z : Nat} (hl : l.map st = tkE x) (hS : Lx.scan (B (txtE x)) = Lx.okT l ++ [(endT z, true)]) {k : Nat} {t : Lx.Tok} (hk : k + 1 < l.length) (ht : l[k]? = some t) : ∃ q : Nat, t.place + (t.text.size : Int) = q ∧ q ≤ (txtE x).length ∧ parseP (B ((txtE x).take q)) = (zE, 80, (q : Int)) := by
  have hU := expr_uni x 32 false (right_open h).1
  have h5 : t.kind ≠ 5 := (hU (st t) (by rw [← hl]; exact List.mem_map_of_mem (List.mem_of_getElem? ht))).k5
  have hz := (right_open h).2.2
  have hol : (Lx.okT l).length = l.length := by unfold Lx.okT; rw [List.length_map]
  rw [Lx.scan_eq _ (f := (txtE x).length + 1) (by rw [B_size]; omega), B_toList] at hS
  have hg : (Lx.scanF ((txtE x).length + 1) (txtE x) 0)[k]? = some (t, true) := by
    rw [hS, List.getElem?_append_left (by omega)]
    unfold Lx.okT
    rw [List.getElem?_map, ht]
    rfl
  obtain ⟨q, q1, q2, q3⟩ := scan_cut _ _ _ _ _ hg h5
  have hc := q3 (q + 1)
  rw [hS, Lx.scanF_end, Nat.zero_add, List.take_append_of_le_length (by omega)] at hc
  have e : (Lx.okT l).take (k + 1) = Lx.okT (l.take (k + 1)) := by unfold Lx.okT; rw [List.map_take]
  rw [e] at hc
  have hs : Lx.scan (B ((txtE x).take q)) = Lx.okT (l.take (k + 1)) ++ [(endT q, true)] := by
    rw [Lx.scan_eq _ (f := q + 1 + (k + 1)) (by rw [B_size, List.length_take]; omega), B_toList, hc]
    rfl
  have hx := lexF_scan hs (by rw [B_size, List.length_take]; omega)
  refine ⟨q, by rw [q1, Nat.zero_add], q2, ?_⟩
  unfold parseP
  rw [hx]
  dsimp only
  rw [if_neg (by simp)]
  unfold finP
  have hlen : (tkE x).length = l.length := by rw [← hl, List.length_map]
  rw [(expr_eats x 32 false (right_open h).1).cut (l.take (k + 1)) ((tkE x).drop (k + 1)) (endT q) (by rw [List.map_take, hl, List.take_append_drop]) (fun e => by have := congrArg List.length e; rw [List.length_drop, List.length_nil] at this; omega) rfl]
  rfl
theorem ParseCuts_ok (raw : List Int) (h1 : ∀ a ∈ raw, I64 a) (l1 : raw.length ≤ 17592186043904) (at_ : Int) (hat : I64 at_) : Ok E 4 [] [.c (.row (encN raw)), pI at_] (pB true) [] := by
  have hx := strat_small raw h1
  have cx := strat_ok raw h1 (by omega)
  obtain ⟨x, ex⟩ : ∃ x, stratF raw = x := ⟨_, rfl⟩
  rw [ex] at hx cx
  have sx := hx.size
  have cP := print_ok x hx.rng (by omega)
  rcases Bool.eq_false_or_eq_true (isRight x) with hr | hr
  · rw [hr, if_pos rfl] at cP
    have hz := (right_open hr).2.2
    obtain ⟨l, hl, hS⟩ := frag_scan (expr_fragT x 32 false (right_open hr).1)
    have hlex := lexF_scan hS (by rw [B_size]; exact hz)
    have cL := Lx.rLex_ok (B (txtE x))
    have hf := lex_few (s := B (txtE x))
    obtain ⟨L, hLe⟩ : ∃ L, l ++ [endT (txtE x).length] = L := ⟨_, rfl⟩
    rw [hlex, hLe] at cL hf
    have hrl : ((rowT L).length : Int) = (l.length : Int) + 1 := by rw [rowT_len, ← hLe, List.length_append]; rfl
    have hf : L.length ≤ 1000000 := hf
    have hLl : L.length = l.length + 1 := by rw [← hLe, List.length_append]; rfl
    by_cases h3 : l.length + 1 < 3
    · refine Ok.enter hE Tryz.func4 rfl (by decide +kernel) (by kernel_rfl) rfl rfl (Nat.le_of_ble_eq_true rfl) rfl ?_
      refine ⟨_, CallR.mk1 awake_ok rfl rfl, ?_⟩
      refine ⟨_, CallR.mk1 cx rfl rfl, ?_⟩
      refine ⟨_, CallR.mk1 cP rfl rfl, ?_⟩
      refine ⟨_, CallR.mk1 cL rfl rfl, ?_⟩
      refine ⟨_, neN rfl, ?_⟩
      refine ⟨_, neN rfl, ?_⟩
      refine ⟨_, ltT (by rw [hrl]; omega), ?_⟩
      exact Ret.mk _ rfl rfl rfl
    · have hk := pick_ok at_ (((rowT L).length : Int) - 2) hat (by omega)
      have hkl := (pkN_eq (c := at_) (n := ((rowT L).length : Int) - 2) (by omega)).2
      obtain ⟨k, hkk⟩ : ∃ k, pkN at_ (((rowT L).length : Int) - 2) = k := ⟨_, rfl⟩
      rw [hkk] at hk hkl
      obtain ⟨t, ht⟩ : ∃ t, l[k]? = some t := ⟨_, List.getElem?_eq_getElem (by omega)⟩
      obtain ⟨q, q1, q2, q3⟩ := parse_cut hr hl hS (k := k) (by omega) ht
      have hy : L[k]? = some t := by rw [← hLe, List.getElem?_append_left (by omega), ht]
      obtain ⟨y, hyq⟩ : ∃ y, B ((txtE x).take q) = y := ⟨_, rfl⟩
      have hyz : y.size = q := by rw [← hyq, B_size, List.length_take]; omega
      rw [hyq] at q3
      have cQ := Parse_ok y
      rw [q3] at cQ
      obtain ⟨s, hs⟩ : ∃ s, B (txtE x) = s := ⟨_, rfl⟩
      have hsz : s.size = (txtE x).length := by rw [← hs, B_size]
      have hst : s.data.toList = txtE x := by rw [← hs, B_toList]
      rw [hs] at cP cL
      have sl : SliceR E 9 (pS s) none (some (pI q)) (pS y) := by
        rw [← hyq, ← hst]; exact sliceSV 0 q rfl rfl rfl ⟨Nat.zero_le _, by omega⟩
      refine Ok.enter hE Tryz.func4 rfl (by decide +kernel) (by kernel_rfl) rfl rfl (Nat.le_of_ble_eq_true rfl) rfl ?_
      refine ⟨_, CallR.mk1 awake_ok rfl rfl, ?_⟩
      refine ⟨_, CallR.mk1 cx rfl rfl, ?_⟩
      refine ⟨_, CallR.mk1 cP rfl rfl, ?_⟩
      refine ⟨_, CallR.mk1 cL rfl rfl, ?_⟩
      refine ⟨_, neN rfl, ?_⟩
      refine ⟨_, neN rfl, ?_⟩
      refine ⟨_, ltN (by rw [hrl]; omega), ?_⟩
      refine ⟨_, subV (z := ((rowT L).length : Int) - 2) rfl (by omega) (by omega), ?_⟩
      refine ⟨_, CallR.mk1 hk rfl rfl, ?_⟩
      refine ⟨_, idxV (j := k) (rowT_get hy) rfl rfl rfl rfl, ?_⟩
      refine ⟨_, idxV (j := k) (rowT_get hy) rfl rfl rfl rfl, ?_⟩
      refine ⟨_, addV (z := (q : Int)) q1 (by omega) (by omega), ?_⟩
      refine ⟨_, minV (z := (q : Int)) (by show min (q : Int) (s.size : Int) = q; omega), ?_⟩
      refine ⟨_, sl, ?_⟩
      refine ⟨_, CallR.mk1 cQ rfl rfl, ?_⟩
      refine ⟨_, eqT rfl, ?_⟩
      refine ⟨_, eqT (by rw [hyz]), ?_⟩
      exact Ret.mk _ rfl rfl rfl
  · rw [hr, if_neg Bool.false_ne_true] at cP
    have cL := Lx.rLex_ok ⟨#[]⟩
    refine Ok.enter hE Tryz.func4 rfl (by decide +kernel) (by kernel_rfl) rfl rfl (Nat.le_of_ble_eq_true rfl) rfl ?_
    refine ⟨_, CallR.mk1 awake_ok rfl rfl, ?_⟩
    refine ⟨_, CallR.mk1 cx rfl rfl, ?_⟩
    refine ⟨_, CallR.mk1 cP rfl rfl, ?_⟩
    refine ⟨_, CallR.mk1 cL rfl rfl, ?_⟩
    refine ⟨_, neT (by decide), ?_⟩
    exact Ret.mk _ rfl rfl rfl
end Go.Proofs.YtmfdkhnfjbgbhaaGreatDoor.Pr
