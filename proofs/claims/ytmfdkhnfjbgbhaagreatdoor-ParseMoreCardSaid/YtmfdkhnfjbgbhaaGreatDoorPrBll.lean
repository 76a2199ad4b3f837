/- Texts that are merged: PrL, PrM, PrN, PrS, PrT, LxSp, PrR. -/
import Derived.Test.YtmfdkhnfjbgbhaaGreatDoorPrAll
import Derived.Test.YtmfdkhnfjbgbhaaGreatDoorLxAll
/- ParseTells, in the pure machine. -/
namespace Go.Proofs.YtmfdkhnfjbgbhaaGreatDoor.Pr
open Go Go.RowKit Go.Proofs.YtmfdkhnfjbgbhaaGreatDoor.Pm Go.Proofs.YtmfdkhnfjbgbhaaGreatDoor.Pl
open Go.Proofs.YtmfdkhnfjbgbhaaGreatDoor.Lx (cellsT pT rowT rowT_len rowT_get lexF pkN pkN_eq rowB rowB_get Piece_ok pieceF sz_len sz_getD lawWs signBs nameBs sellerF sliceSV catL)
open Go.Proofs.YtmfdkhnfjbgbhaaGreatDoor.Q (rngE rngA txtE txtA sameE sameA)
set_option linter.unusedVariables false
set_option maxHeartbeats 1000000
theorem catB' {x y : ByteArray} {ti : Nat} (hb : x.size + y.size ≤ 9223372036854775807) : BinR E ti .add (.c (.str x)) (.c (.str y)) (.c (.str (B (x.data.toList ++ y.data.toList)))) := catL rfl hb
mutual
theorem same_refl : ∀ x : Ex, sameE x x = true
  | ⟨k, n, nm, l⟩ => by rw [sameE, sameL_refl l]; simp
theorem sameL_refl : ∀ l : List Ex, sameA l l = true
  | [] => rfl
  | x :: l => by rw [sameA, same_refl x, sameL_refl l]; rfl
end
end Go.Proofs.YtmfdkhnfjbgbhaaGreatDoor.Pr

/- What is printed is scanned to the tokens that the parser takes for it. -/
namespace Go.Proofs.YtmfdkhnfjbgbhaaGreatDoor.Pr
open Go Go.RowKit Go.Proofs.YtmfdkhnfjbgbhaaGreatDoor.Pm Go.Proofs.YtmfdkhnfjbgbhaaGreatDoor.Pl
open Go.Proofs.YtmfdkhnfjbgbhaaGreatDoor.Lx (lexF)
open Go.Proofs.YtmfdkhnfjbgbhaaGreatDoor.Q (rngE rngA txtE txtA sameE sameA formT sepA wordL moreL txtA_map)
set_option linter.unusedVariables false
set_option maxHeartbeats 1000000
/-- a token without its place -/
def st (t : Lx.Tok) : Lx.Tok := ⟨t.kind, t.text, t.n, 0⟩
def FragT (us : List Lx.Tok) (t : List UInt8) : Prop := ∀ (g : Nat) (r : List UInt8) (p : Nat), Pm.Ends r → ∃ l : List Lx.Tok, l.map st = us ∧ Lx.scanF (g + us.length) (t ++ r) p = Lx.okT l ++ Lx.scanF g r (p + t.length)
def FragTF (us : List Lx.Tok) (t : List UInt8) : Prop := ∀ (g : Nat) (r : List UInt8) (p : Nat), ∃ l : List Lx.Tok, l.map st = us ∧ Lx.scanF (g + us.length) (t ++ r) p = Lx.okT l ++ Lx.scanF g r (p + t.length)
theorem FragTF.appF {u v : List Lx.Tok} {a b : List UInt8} (ha : FragTF u a) (hb : FragTF v b) : FragTF (u ++ v) (a ++ b) := by
  intro g r p
  obtain ⟨l1, h1, e1⟩ := ha (g + v.length) (b ++ r) p
  obtain ⟨l2, h2, e2⟩ := hb g r (p + a.length)
  have hl : (u ++ v).length = u.length + v.length := List.length_append
  refine ⟨l1 ++ l2, by rw [List.map_append, h1, h2], ?_⟩
  rw [hl, List.append_assoc, show g + (u.length + v.length) = g + v.length + u.length by omega, e1, e2, okT_app, List.append_assoc, List.length_append, show p + a.length + b.length = p + (a.length + b.length) by omega]
theorem FragT.appF {u v : List Lx.Tok} {a b : List UInt8} (ha : FragT u a) (hb : FragTF v b) (hs : ∀ r, Pm.Ends (b ++ r)) : FragTF (u ++ v) (a ++ b) := by
  intro g r p
  obtain ⟨l1, h1, e1⟩ := ha (g + v.length) (b ++ r) p (hs r)
  obtain ⟨l2, h2, e2⟩ := hb g r (p + a.length)
  have hl : (u ++ v).length = u.length + v.length := List.length_append
  refine ⟨l1 ++ l2, by rw [List.map_append, h1, h2], ?_⟩
  rw [hl, List.append_assoc, show g + (u.length + v.length) = g + v.length + u.length by omega, e1, e2, okT_app, List.append_assoc, List.length_append, show p + a.length + b.length = p + (a.length + b.length) by omega]
theorem FragTF.toFrag {u : List Lx.Tok} {t : List UInt8} (h : FragTF u t) : FragT u t := fun g r p _ => h g r p
theorem fragT_part {w : List UInt8} {k n : Int} (hw : w ≠ []) (ha : w.all (Lx.inB Lx.partsB) = true) (hf : Lx.firstF w = (⟨k, B w, n, 0⟩, true)) (hk : k ≠ 5) : FragT [⟨k, B w, n, 0⟩] w := by
  intro g r p hr
  refine ⟨[⟨k, B w, n, (p : Int)⟩], rfl, ?_⟩
  have hf2 : Lx.firstF (w ++ r) = (⟨k, B w, n, 0⟩, true) := by
    rcases hr with rfl | ⟨c, q, rfl, hc⟩
    · rw [List.append_nil]; exact hf
    · rw [Lx.first_stop hw hc]; exact hf
  have hb : Lx.runB Lx.blanksB (w ++ r) = 0 := by
    cases w with
    | nil => exact absurd rfl hw
    | cons c q =>
      rw [List.all_cons, Bool.and_eq_true] at ha
      exact Lx.runB_no _ _ _ (Lx.not_blank ha.1)
  rw [show g + ([⟨k, B w, n, 0⟩] : List Lx.Tok).length = g + 1 from rfl, Lx.scanF, hb, List.drop_zero, hf2]
  dsimp only
  rw [if_neg (fun h => h.elim (fun h => by cases h) hk), B_size, List.drop_left]
  rfl
def sg (c : UInt8) : Lx.Tok := ⟨4, B [c], 0, 0⟩
theorem fragT_sign {c : UInt8} (hs : Lx.inB Lx.signsB c = true) : FragTF [sg c] [c] := by
  intro g r p
  refine ⟨[⟨4, B [c], 0, (p : Int)⟩], rfl, ?_⟩
  rw [show g + [sg c].length = g + 1 from rfl, show [c] ++ r = c :: r from rfl, Lx.scanF_sign g c r p (Lx.sign_not_blank hs) hs]
  simp only [Lx.okT, List.map_cons, List.map_nil, List.cons_append, List.nil_append, List.length_cons, List.length_nil, Nat.zero_add]
theorem fragT_comma : FragTF [sg 44] [44, 32] := by
  intro g r p
  refine ⟨[⟨4, B [44], 0, (p : Int)⟩], rfl, ?_⟩
  have e : ([44, 32] : List UInt8) ++ r = 44 :: ([32] ++ r) := List.cons_append
  have e2 : p + ([44, 32] : List UInt8).length = p + 1 + ([32] : List UInt8).length := by simp only [List.length_cons, List.length_nil]
  rw [show g + [sg 44].length = g + 1 from rfl, e, e2, Lx.scanF_sign _ _ _ _ (by decide +kernel) (by decide +kernel)]
  cases g with
  | zero => simp only [Lx.okT, Lx.scanF, List.map_cons, List.map_nil, List.cons_append, List.nil_append]
  | succ g =>
    rw [Lx.scanF_pre _ _ _ _ (by decide +kernel)]
    simp only [Lx.okT, List.map_cons, List.map_nil, List.cons_append, List.nil_append]
def sepT : Bool → List (List Lx.Tok) → List Lx.Tok
  | _, [] => []
  | b, m :: l => (if b then [] else [sg 44]) ++ (m ++ sepT false l)
theorem rest_fragT : ∀ (ms : List (List UInt8 × List Lx.Tok)), (∀ m ∈ ms, FragT m.2 m.1) → FragTF (sepT false (ms.map (·.2)) ++ [sg 41]) (sepA false (ms.map (·.1)) ++ [41]) ∧ ∀ r, Pm.Ends (sepA false (ms.map (·.1)) ++ [41] ++ r)
  | [], _ => ⟨fragT_sign (by decide +kernel), fun r => ends_sign (by decide +kernel) [] r⟩
  | m :: ms, h => by
    obtain ⟨hF, hE⟩ := rest_fragT ms fun x hx => h x (List.mem_cons_of_mem _ hx)
    have hm := h m List.mem_cons_self
    have e : sepA false ((m :: ms).map (·.1)) ++ [41] = [44, 32] ++ (m.1 ++ (sepA false (ms.map (·.1)) ++ [41])) := by
      rw [List.map_cons, sepA]
      simp
    have e2 : sepT false ((m :: ms).map (·.2)) ++ [sg 41] = [sg 44] ++ (m.2 ++ (sepT false (ms.map (·.2)) ++ [sg 41])) := by
      rw [List.map_cons, sepT]
      simp
    refine ⟨?_, fun r => ?_⟩
    · rw [e, e2]; exact fragT_comma.appF (hm.appF hF hE)
    · rw [e]; exact ends_sign (by decide +kernel) _ r
theorem args_fragT (ms : List (List UInt8 × List Lx.Tok)) (h : ∀ m ∈ ms, FragT m.2 m.1) : FragTF (sepT true (ms.map (·.2)) ++ [sg 41]) (sepA true (ms.map (·.1)) ++ [41]) := by
  cases ms with
  | nil => exact fragT_sign (by decide +kernel)
  | cons m ms =>
    obtain ⟨hF, hE⟩ := rest_fragT ms fun x hx => h x (List.mem_cons_of_mem _ hx)
    have hm := h m List.mem_cons_self
    have e : sepA true ((m :: ms).map (·.1)) ++ [41] = m.1 ++ (sepA false (ms.map (·.1)) ++ [41]) := by
      rw [List.map_cons, sepA]
      simp
    have e2 : sepT true ((m :: ms).map (·.2)) ++ [sg 41] = m.2 ++ (sepT false (ms.map (·.2)) ++ [sg 41]) := by
      rw [List.map_cons, sepT]
      simp
    rw [e, e2]; exact hm.appF hF hE
/-! ### words, names, numbers -/
def wT (k : Int) : Lx.Tok := ⟨1, B (wordL k), 0, 0⟩
theorem word_fragT {k : Int} {w : List UInt8} {m a : Int} (h : formT k = some (w, m, a)) (h4 : k ≠ 4) : FragT [wT k] w := by
  have hw : wordL k = w := by unfold wordL; rw [h]; rfl
  have key : ∀ w : List UInt8, w ≠ [] → w.all (Lx.inB Lx.partsB) = true → Lx.partF (B w) = (⟨1, B w, 0, 0⟩, true) → FragT [⟨1, B w, 0, 0⟩] w := fun w h1 h2 h3 => fragT_part h1 h2 (by rw [Lx.first_part h1 h2]; exact h3) (show (1 : Int) ≠ 5 by decide)
  have wd : ∀ w : List UInt8, Lib.containsS L.wordsB (B w) = true → Lx.partF (B w) = (⟨1, B w, 0, 0⟩, true) := fun w h => by unfold Lx.partF; rw [h, Bool.true_or, if_pos rfl]
  unfold wT
  rw [hw]
  clear hw
  unfold formT at h
  split at h <;> first
    | (injection h with h; injection h with h _; subst h; exact key _ (by decide) (by decide +kernel) (wd _ (by decide +kernel)))
    | exact absurd rfl h4
    | cases h
theorem name_fragT {nm : ByteArray} (h : Lx.isName nm = true) : FragT [⟨1, nm, 0, 0⟩] nm.data.toList := by
  have hn := h
  unfold Lx.isName at h
  cases hl : nm.data.toList with
  | nil => rw [hl] at h; cases h
  | cons c l =>
    rw [hl] at h
    simp only [Bool.and_eq_true, decide_eq_true_eq] at h
    obtain ⟨_, _, h3, _⟩ := h
    have hall := Lx.run_all Lx.abc9B (c :: l)
    have hz : nm.size = (c :: l).length := by rw [← hl]; exact (Lx.sz_len nm).symm
    rw [← hz, decide_eq_true h3] at hall
    have hp : (c :: l).all (Lx.inB Lx.partsB) = true := List.all_eq_true.2 fun x hx => letter_part (List.all_eq_true.1 hall.symm x hx)
    have hB : B (c :: l) = nm := by rw [← hl]; exact B_toList' nm
    have := fragT_part (k := 1) (n := 0) (w := c :: l) (by simp) hp (by
      rw [Lx.first_part (by simp) hp]
      unfold Lx.partF
      rw [hB, hn, Bool.or_true, if_pos rfl]) (show (1 : Int) ≠ 5 by decide)
    rw [hB] at this
    exact this
theorem money_fragT {n : Int} (h0 : 0 ≤ n) (h1 : n ≤ 1000000000000) : FragT [⟨3, B (textL n), n, 0⟩] (textL n) := by
  obtain ⟨k, rfl⟩ : ∃ k : Nat, n = k := ⟨n.toNat, by omega⟩
  have hf := Lx.first_money k (by omega)
  have hne : textL (k : Int) ≠ [] := Pl.textL_ne (by unfold Pl.okA; omega)
  have hall : (textL (k : Int)).all (Lx.inB Lx.partsB) = true := by
    rw [textL_ok (by unfold Pl.okA; omega), if_neg (by omega), List.nil_append, List.all_append, Lx.digs_parts]
    show (true && (Lx.inB Lx.partsB 46 && (Lx.inB Lx.partsB (dig _) && (Lx.inB Lx.partsB (dig _) && true)))) = true
    rw [Lx.digit_part (dig_isD _), Lx.digit_part (dig_isD _), show Lx.inB Lx.partsB 46 = true by decide +kernel]
    rfl
  exact fragT_part hne hall hf (show (3 : Int) ≠ 5 by decide)
theorem count_fragT {n : Int} (h0 : 0 ≤ n) (h1 : n ≤ 100000) : FragT [⟨2, B (intL n), n, 0⟩] (intL n) := by
  obtain ⟨k, rfl⟩ : ∃ k : Nat, n = k := ⟨n.toNat, by omega⟩
  rw [Lx.intL_nat]
  exact fragT_part (digs_ne k) (Lx.digs_parts k) (Lx.first_count k (by omega)) (show (2 : Int) ≠ 5 by decide)
def moreT (k n : Int) (nm : ByteArray) : List (List Lx.Tok) :=
  if k = 3 then [[⟨1, nm, 0, 0⟩]] else if k = 5 then [[⟨3, B (textL n), n, 0⟩]] else if k = 6 ∨ k = 11 then [[⟨2, B (intL n), n, 0⟩]] else []
mutual
def tkE : Ex → List Lx.Tok
  | ⟨k, n, nm, l⟩ => if k = 4 then [⟨3, B (textL n), n, 0⟩] else if k = 1 ∨ k = 2 then [wT k] else [wT k] ++ ([sg 40] ++ (sepT true (tkA l ++ moreT k n nm) ++ [sg 41]))
def tkA : List Ex → List (List Lx.Tok)
  | [] => []
  | x :: l => tkE x :: tkA l
end
theorem more_fragT {k n : Int} {nm : ByteArray} {w : List UInt8} {m a : Int} (hF : formT k = some (w, m, a)) (h3 : 0 ≤ n) (h4 : n ≤ m) (h8 : isNamed k nm = true) : ∃ ms : List (List UInt8 × List Lx.Tok), ms.map (·.1) = moreL k n nm ∧ ms.map (·.2) = moreT k n nm ∧ ∀ m ∈ ms, FragT m.2 m.1 := by
  unfold moreL moreT
  split
  · rename_i hk; subst hk
    exact ⟨[(_, _)], rfl, rfl, fun m hm => by rw [List.mem_singleton] at hm; subst hm; exact name_fragT (named_name nm h8)⟩
  · split
    · rename_i hk; subst hk
      have hm : m = 1000000000000 := by injection hF with hF; injection hF with _ hF; injection hF with hF _; exact hF.symm
      exact ⟨[(_, _)], rfl, rfl, fun m hm => by rw [List.mem_singleton] at hm; subst hm; exact money_fragT h3 (by omega)⟩
    · split
      · rename_i hk
        have hm : n ≤ 100000 := by rcases hk with rfl | rfl <;> (injection hF with hF; injection hF with _ hF; injection hF with hF _; omega)
        exact ⟨[(_, _)], rfl, rfl, fun m hm' => by rw [List.mem_singleton] at hm'; subst hm'; exact count_fragT h3 hm⟩
      · exact ⟨[], rfl, rfl, fun m hm => by cases hm⟩
mutual
theorem expr_fragT : ∀ (x : Ex) (d : Int) (c : Bool), isFine d c x = true → FragT (tkE x) (txtE x)
  | ⟨k, n, nm, l⟩, d, c, h => by
    obtain ⟨w, m, a, hF, h1, h2, h3, h4, h5, h6, h7, h8, h9⟩ := fine_open h
    obtain ⟨ks, hm, hs, hg⟩ := list_fragT l (d - 1) _ h9
    by_cases k4 : k = 4
    · subst k4
      rw [txtE, if_pos rfl, tkE, if_pos rfl]
      exact money_fragT h3 (by omega)
    have hw := word_fragT hF k4
    have hwl : wordL k = w := by unfold wordL; rw [hF]; rfl
    by_cases k12 : k = 1 ∨ k = 2
    · rw [txtE, if_neg k4, if_pos k12, tkE, if_neg k4, if_pos k12, hwl]
      exact hw
    have hl3 : k = 3 → l = [] := by
      rintro rfl
      refine List.length_eq_zero_iff.1 ?_
      injection hF with hF; injection hF with _ hF; injection hF with _ hF; omega
    obtain ⟨ms, e1, e2, e3⟩ := more_fragT hF h3 h4 h8
    have hKF := args_fragT (ks ++ ms) (by
      intro x hx
      rcases List.mem_append.1 hx with hx | hx
      · exact hg x hx
      · exact e3 x hx)
    rw [List.map_append, List.map_append, hm, hs, e1, e2] at hKF
    rw [call_txt k n nm l k4 k12 hl3, hwl, tkE, if_neg k4, if_neg k12]
    exact (hw.appF ((fragT_sign (c := 40) (by decide +kernel)).appF hKF) fun r => ends_sign (by decide +kernel) _ r).toFrag
theorem list_fragT : ∀ (l : List Ex) (d : Int) (c : Bool), fineL d c l = true → ∃ ks : List (List UInt8 × List Lx.Tok), ks.map (·.1) = l.map txtE ∧ ks.map (·.2) = tkA l ∧ ∀ m ∈ ks, FragT m.2 m.1
  | [], d, c, h => ⟨[], rfl, rfl, fun m hm => by cases hm⟩
  | x :: l, d, c, h => by
    rw [fineL, Bool.and_eq_true] at h
    have h2 := expr_fragT x d c h.1
    obtain ⟨ks, h3, h4, h5⟩ := list_fragT l d false h.2
    refine ⟨(txtE x, tkE x) :: ks, by rw [List.map_cons, List.map_cons, h3], by rw [List.map_cons, h4, tkA], ?_⟩
    intro m hm
    rcases List.mem_cons.1 hm with rfl | hm
    · exact h2
    · exact h5 m hm
end
def endT (p : Nat) : Lx.Tok := ⟨5, Lx.e0, 0, p⟩
/-- a text of tokens, scanned -/
theorem frag_lex {us : List Lx.Tok} {t : List UInt8} (h : FragT us t) (hz : t.length ≤ 2000) : ∃ l : List Lx.Tok, l.map st = us ∧ lexF (B t) = (l ++ [endT t.length], 0, 0) := by
  obtain ⟨l, hl, e⟩ := h (t.length + 1) [] 0 (.inl rfl)
  rw [List.append_nil, Lx.scanF_end] at e
  have hs : Lx.scan (B t) = Lx.okT l ++ [(⟨5, Lx.e0, 0, ((0 + t.length : Nat) : Int)⟩, true)] := by
    rw [Lx.scan_eq _ (f := t.length + 1 + us.length) (by rw [B_size]; omega), B_toList, e]
  refine ⟨l, hl, ?_⟩
  unfold lexF Lx.toksF
  rw [if_neg (by rw [B_size]; omega), hs, Lx.tell_ok]
  show (List.map _ _, _, _) = _
  rw [List.map_append, Lx.fst_ok, Nat.zero_add]
  rfl
theorem print_lex {x : Ex} (h : isRight x = true) : ∃ l : List Lx.Tok, l.map st = tkE x ∧ lexF (B (txtE x)) = (l ++ [endT (txtE x).length], 0, 0) := frag_lex (expr_fragT x 32 false (right_open h).1) (right_open h).2.2
end Go.Proofs.YtmfdkhnfjbgbhaaGreatDoor.Pr

/- Of an expression's tokens that very expression is parsed. -/
namespace Go.Proofs.YtmfdkhnfjbgbhaaGreatDoor.Pr
open Go Go.RowKit Go.Proofs.YtmfdkhnfjbgbhaaGreatDoor.Pm Go.Proofs.YtmfdkhnfjbgbhaaGreatDoor.Pl
open Go.Proofs.YtmfdkhnfjbgbhaaGreatDoor.Lx (lexF)
open Go.Proofs.YtmfdkhnfjbgbhaaGreatDoor.Q (rngE rngA txtE txtA sameE sameA formT sepA wordL moreL txtA_map)
set_option linter.unusedVariables false
set_option maxHeartbeats 1000000
theorem findW_st {t : Lx.Tok} : ∀ (n : Nat) (lo : Int), findW (st t) lo n = findW t lo n
  | 0, lo => rfl
  | n + 1, lo => by
    rw [findW, findW, findW_st n]
    rfl
theorem begin_st (t : Lx.Tok) (c : Bool) : beginK (st t) c = beginK t c := by
  unfold beginK
  rw [findW_st]
  rfl
theorem begin_wT {k : Int} {w : List UInt8} {m a : Int} (h : formT k = some (w, m, a)) (h4 : k ≠ 4) : beginK (wT k) (isCond k) = some k := by
  unfold formT at h
  split at h <;> first
    | exact absurd rfl h4
    | (cases h; done)
    | decide +kernel
theorem signP_st {c : UInt8} {s : ByteArray} {t : Lx.Tok} {r : List Lx.Tok} (h : st t = sg c) (hs : B [c] = s) : signP s (t :: r) = .ok () r := by
  have hk : t.kind = 4 := congrArg (·.kind) h
  have ht : t.text = B [c] := congrArg (·.text) h
  rw [signP, if_pos]
  unfold isSign
  rw [hk, ht, hs]
  simp
theorem takeP_st {kind n : Int} {s : ByteArray} {pred : Lx.Tok → Bool} {t : Lx.Tok} {r : List Lx.Tok} (h : st t = ⟨kind, s, n, 0⟩) (hp : pred t = true) : takeP kind pred (t :: r) = .ok t r := by
  have hk : t.kind = kind := congrArg (·.kind) h
  rw [takeP, if_pos ⟨hk, hp⟩]
theorem sepT_app : ∀ (b : Bool) (l ms : List (List Lx.Tok)), sepT b (l ++ ms) = sepT b l ++ sepT (b && l.isEmpty) ms
  | b, [], ms => by simp [sepT]
  | b, x :: l, ms => by rw [List.cons_append, sepT, sepT, sepT_app false l ms]; simp
theorem rest_tk {k n : Int} {nm w : ByteArray} {ws : List UInt8} {m a : Int} {l : List Ex} (hF : formT k = some (ws, m, a)) (k4 : k ≠ 4) (h3 : 0 ≤ n) (h4 : n ≤ m) (h6 : (l.length : Int) = a) (h8 : isNamed k nm = true) {ts r : List Lx.Tok} (hts : ts.map st = sepT ((tkA l).isEmpty) (moreT k n nm)) : restP k (ts ++ r) = .ok (n, nm) r := by
  have hm : mostP k = m := by unfold mostP formP; rw [hF]
  have hm0 : k ≠ 3 → k ≠ 5 → k ≠ 6 → k ≠ 11 → m = 0 := by
    unfold formT at hF
    split at hF <;> first
      | (intros; injection hF with hF; injection hF with _ hF; injection hF with hF _; exact hF.symm)
      | (intros; contradiction)
  have hnm : k ≠ 3 → nm = e0 := by
    intro hk
    unfold isNamed at h8
    rw [if_neg hk, beq_iff_eq, toList_data, toList_data] at h8
    have : nm.data.toList = [] := h8
    rw [← B_toList' nm, this]
    rfl
  unfold restP
  unfold moreT at hts
  by_cases k3 : k = 3
  · subst k3
    rw [if_pos rfl] at hts ⊢
    have hl : l = [] := by
      refine List.length_eq_zero_iff.1 ?_
      injection hF with hF; injection hF with _ hF; injection hF with _ hF; omega
    subst hl
    have hts : ts.map st = [⟨1, nm, 0, 0⟩] := hts
    obtain ⟨t, z, rfl, e1, e2⟩ := List.map_eq_cons_iff.1 hts
    obtain rfl := List.map_eq_nil_iff.1 e2
    have ht : t.text = nm := congrArg (·.text) e1
    have hn : n = 0 := by injection hF with hF; injection hF with _ hF; injection hF with hF _; omega
    rw [show [t] ++ r = t :: r from rfl, takeP_st e1 (by rw [ht]; exact named_name nm h8), PR.bind_ok, ht, hn]
  rw [if_neg k3] at hts ⊢
  have hem := hnm k3
  clear hnm
  by_cases k5 : k = 5
  · subst k5
    rw [if_pos rfl] at hts ⊢
    have hl : (tkA l).isEmpty = false := by
      cases l with
      | nil => injection hF with hF; injection hF with _ hF; injection hF with _ hF; rw [List.length_nil] at h6; omega
      | cons x l => rfl
    rw [hl] at hts
    have hts : ts.map st = [sg 44, ⟨3, B (textL n), n, 0⟩] := hts
    obtain ⟨t, z, rfl, e1, e2⟩ := List.map_eq_cons_iff.1 hts
    obtain ⟨t', z, rfl, e3, e4⟩ := List.map_eq_cons_iff.1 e2
    obtain rfl := List.map_eq_nil_iff.1 e4
    have ht : t'.n = n := congrArg (·.n) e3
    rw [show [t, t'] ++ r = t :: t' :: r from rfl, signP_st (s := comma) e1 rfl, PR.bind_ok]
    try dsimp only
    rw [takeP_st e3 (decide_eq_true (by rw [ht, hm]; exact h4)), PR.bind_ok, ht, hem]
  rw [if_neg k5] at hts ⊢
  by_cases k6 : k = 6
  · subst k6
    rw [if_pos (.inl rfl)] at hts
    rw [if_pos rfl]
    have hl : (tkA l).isEmpty = false := by
      cases l with
      | nil => injection hF with hF; injection hF with _ hF; injection hF with _ hF; rw [List.length_nil] at h6; omega
      | cons x l => rfl
    rw [hl] at hts
    have hts : ts.map st = [sg 44, ⟨2, B (intL n), n, 0⟩] := hts
    obtain ⟨t, z, rfl, e1, e2⟩ := List.map_eq_cons_iff.1 hts
    obtain ⟨t', z, rfl, e3, e4⟩ := List.map_eq_cons_iff.1 e2
    obtain rfl := List.map_eq_nil_iff.1 e4
    have ht : t'.n = n := congrArg (·.n) e3
    rw [show [t, t'] ++ r = t :: t' :: r from rfl, signP_st (s := comma) e1 rfl, PR.bind_ok]
    try dsimp only
    rw [takeP_st e3 (decide_eq_true (by rw [ht, hm]; exact h4)), PR.bind_ok, ht, hem]
  rw [if_neg k6]
  by_cases k11 : k = 11
  · subst k11
    rw [if_pos (.inr rfl)] at hts
    rw [if_pos rfl]
    have hl : l = [] := by
      refine List.length_eq_zero_iff.1 ?_
      injection hF with hF; injection hF with _ hF; injection hF with _ hF; omega
    subst hl
    have hts : ts.map st = [⟨2, B (intL n), n, 0⟩] := hts
    obtain ⟨t', z, rfl, e3, e4⟩ := List.map_eq_cons_iff.1 hts
    obtain rfl := List.map_eq_nil_iff.1 e4
    have ht : t'.n = n := congrArg (·.n) e3
    rw [show [t'] ++ r = t' :: r from rfl, takeP_st e3 (decide_eq_true (by rw [ht, hm]; exact h4)), PR.bind_ok, ht, hem]
  rw [if_neg k11]
  rw [if_neg (by omega)] at hts
  have hts : ts.map st = [] := hts
  obtain rfl := List.map_eq_nil_iff.1 hts
  have := hm0 k3 k5 k6 k11
  rw [hem, show n = 0 by omega]
  rfl
theorem argN_len {k : Int} {w : List UInt8} {m a : Int} {l : List Ex} (hF : formT k = some (w, m, a)) (h6 : (l.length : Int) = a) : argN k = l.length := by
  unfold argN formP
  rw [hF]
  show a.toNat = _
  omega
mutual
theorem expr_tk : ∀ (x : Ex) (d : Nat) (c : Bool), isFine d c x = true → ∀ (ts r : List Lx.Tok), ts.map st = tkE x → exprP d c (ts ++ r) = .ok x r
  | ⟨k, n, nm, l⟩, d, c, h, ts, r, hts => by
    obtain ⟨w, m, a, hF, h1, h2, h3, h4, h5, h6, h7, h8, h9⟩ := fine_open h
    obtain ⟨d, rfl⟩ : ∃ d', d = d' + 1 := ⟨d - 1, by omega⟩
    rw [show ((d + 1 : Nat) : Int) - 1 = d by omega] at h9
    have hnm : k ≠ 3 → nm = e0 := by
      intro hk
      unfold isNamed at h8
      rw [if_neg hk, beq_iff_eq, toList_data, toList_data] at h8
      have : nm.data.toList = [] := h8
      rw [← B_toList' nm, this]
      rfl
    rw [tkE] at hts
    by_cases k4 : k = 4
    · subst k4
      have hl : l = [] := by
        refine List.length_eq_zero_iff.1 ?_
        injection hF with hF; injection hF with _ hF; injection hF with _ hF; omega
      subst hl
      rw [if_pos rfl] at hts
      obtain ⟨t, z, rfl, e1, e2⟩ := List.map_eq_cons_iff.1 hts
      obtain rfl := List.map_eq_nil_iff.1 e2
      have hk : t.kind = 3 := congrArg (·.kind) e1
      have ht : t.n = n := congrArg (·.n) e1
      have hb : beginK t c = some 4 := if_pos ⟨hk, h2.symm⟩
      rw [show [t] ++ r = t :: r from rfl, exprP, hb]
      dsimp only
      rw [if_pos rfl, ht, hnm (by decide)]
    have hbk : ∀ t : Lx.Tok, st t = wT k → beginK t c = some k := fun t e => by rw [← begin_st, e, ← h2]; exact begin_wT hF k4
    by_cases k12 : k = 1 ∨ k = 2
    · have hl : l = [] := by
        refine List.length_eq_zero_iff.1 ?_
        rcases k12 with rfl | rfl <;> (injection hF with hF; injection hF with _ hF; injection hF with _ hF; omega)
      have hn : n = 0 := by rcases k12 with rfl | rfl <;> (injection hF with hF; injection hF with _ hF; injection hF with hF _; omega)
      subst hl
      rw [if_neg k4, if_pos k12] at hts
      obtain ⟨t, z, rfl, e1, e2⟩ := List.map_eq_cons_iff.1 hts
      obtain rfl := List.map_eq_nil_iff.1 e2
      rw [show [t] ++ r = t :: r from rfl, exprP, hbk t e1]
      dsimp only
      rw [if_neg k4, if_pos k12, hn, hnm (by omega)]
    rw [if_neg k4, if_neg k12] at hts
    have hts : ts.map st = wT k :: sg 40 :: (sepT true (tkA l ++ moreT k n nm) ++ [sg 41]) := hts
    rw [sepT_app, Bool.true_and] at hts
    obtain ⟨t0, ts, rfl, e0', hts⟩ := List.map_eq_cons_iff.1 hts
    obtain ⟨t1, ts, rfl, e1', hts⟩ := List.map_eq_cons_iff.1 hts
    obtain ⟨tsA, tsB, rfl, eA, eB⟩ := List.map_eq_append_iff.1 hts
    obtain ⟨tsC, tsD, rfl, eC, eD⟩ := List.map_eq_append_iff.1 eA
    obtain ⟨t2, z, rfl, e2', ez⟩ := List.map_eq_cons_iff.1 eB
    obtain rfl := List.map_eq_nil_iff.1 ez
    have HA := list_tk l d 0 (k == 10) (by rw [← h9]; congr 1; by_cases hk : k = 10 <;> simp [hk]) tsC (tsD ++ t2 :: r) eC
    rw [← argN_len hF h6] at HA
    have HR := rest_tk (w := e0) hF k4 h3 h4 h6 h8 (r := t2 :: r) eD
    rw [show t0 :: t1 :: (tsC ++ tsD ++ [t2]) ++ r = t0 :: t1 :: (tsC ++ (tsD ++ t2 :: r)) by simp, exprP, hbk t0 e0']
    dsimp only
    rw [if_neg k4, if_neg k12, signP_st (s := openS) e1' rfl, PR.bind_ok]
    try dsimp only
    rw [HA, PR.bind_ok]
    try dsimp only
    rw [HR, PR.bind_ok]
    try dsimp only
    rw [signP_st (s := shutS) e2' rfl, PR.bind_ok]
theorem list_tk : ∀ (l : List Ex) (d i : Nat) (b : Bool), fineL d (b && (i == 0)) l = true → ∀ (ts r : List Lx.Tok), ts.map st = sepT (i == 0) (tkA l) → argsP (exprP d) b l.length i (ts ++ r) = .ok l r
  | [], d, i, b, h, ts, r, hts => by
    rw [tkA] at hts
    have hts : ts.map st = [] := by rw [hts]; unfold sepT; rfl
    obtain rfl := List.map_eq_nil_iff.1 hts
    rfl
  | x :: l, d, i, b, h, ts, r, hts => by
    rw [fineL, Bool.and_eq_true] at h
    have ih1 := expr_tk x d (b && (i == 0)) h.1
    have ih2 := list_tk l d (i + 1) b (by rw [show ((i + 1) == 0) = false from rfl, Bool.and_false]; exact h.2)
    rw [tkA] at hts
    rw [List.length_cons, argsP]
    by_cases hi : i = 0
    · subst hi
      have hts : ts.map st = tkE x ++ sepT false (tkA l) := hts
      obtain ⟨t1, t2, rfl, e1, e2⟩ := List.map_eq_append_iff.1 hts
      rw [if_pos rfl, PR.bind_ok, List.append_assoc, ih1 t1 _ e1, PR.bind_ok]
      try dsimp only
      rw [ih2 t2 r e2, PR.bind_ok]
    · rw [show (i == 0) = false from beq_eq_false_iff_ne.2 hi] at hts
      have hts : ts.map st = sg 44 :: (tkE x ++ sepT false (tkA l)) := hts
      obtain ⟨t0, ts, rfl, e0', hts⟩ := List.map_eq_cons_iff.1 hts
      obtain ⟨t1, t2, rfl, e1, e2⟩ := List.map_eq_append_iff.1 hts
      rw [if_neg hi, List.cons_append, signP_st (s := comma) e0' rfl, PR.bind_ok]
      try dsimp only
      rw [List.append_assoc, ih1 t1 _ e1, PR.bind_ok]
      try dsimp only
      rw [ih2 t2 r e2, PR.bind_ok]
end
end Go.Proofs.YtmfdkhnfjbgbhaaGreatDoor.Pr

/- Tokens that stand alone; ParseBlanks. -/
namespace Go.Proofs.YtmfdkhnfjbgbhaaGreatDoor.Pr
open Go Go.RowKit Go.Proofs.YtmfdkhnfjbgbhaaGreatDoor.Pm Go.Proofs.YtmfdkhnfjbgbhaaGreatDoor.Pl
open Go.Proofs.YtmfdkhnfjbgbhaaGreatDoor.Lx (lexF sz_len)
open Go.Proofs.YtmfdkhnfjbgbhaaGreatDoor.Q (rngE rngA txtE txtA sameE sameA formT sepA wordL moreL)
set_option linter.unusedVariables false
set_option maxHeartbeats 1000000
/-- a token by itself: a sign, or a part, which what is no part ends -/
structure Uni (u : Lx.Tok) : Prop where
  k5 : u.kind ≠ 5
  ne : u.text.data.toList ≠ []
  blank : ∀ r, Lx.runB Lx.blanksB (u.text.data.toList ++ r) = 0
  first : ∀ r, (u.kind = 4 ∨ Pm.Ends r) → Lx.firstF (u.text.data.toList ++ r) = (⟨u.kind, u.text, u.n, 0⟩, true)
  sz : u.text.size ≤ 100
theorem uni_part {w : List UInt8} {k n : Int} (hw : w ≠ []) (ha : w.all (Lx.inB Lx.partsB) = true) (hf : Lx.firstF w = (⟨k, B w, n, 0⟩, true)) (hk : k ≠ 5) (hk4 : k ≠ 4) (hz : w.length ≤ 100) : Uni ⟨k, B w, n, 0⟩ := by
  refine ⟨hk, ?_, fun r => ?_, fun r hr => ?_, ?_⟩
  · show (B w).data.toList ≠ []
    rw [B_toList]; exact hw
  · show Lx.runB Lx.blanksB ((B w).data.toList ++ r) = 0
    rw [B_toList]
    cases w with
    | nil => exact absurd rfl hw
    | cons c q =>
      rw [List.all_cons, Bool.and_eq_true] at ha
      exact Lx.runB_no _ _ _ (Lx.not_blank ha.1)
  · show Lx.firstF ((B w).data.toList ++ r) = _
    rw [B_toList]
    rcases hr with hr | rfl | ⟨c, q, rfl, hc⟩
    · exact absurd hr hk4
    · rw [List.append_nil]; exact hf
    · rw [Lx.first_stop hw hc]; exact hf
  · show (B w).size ≤ 100
    rw [B_size]; exact hz
theorem uni_sign {c : UInt8} (hs : Lx.inB Lx.signsB c = true) : Uni (sg c) := by
  refine ⟨by show (4 : Int) ≠ 5; decide, ?_, fun r => ?_, fun r hr => ?_, ?_⟩
  · show (B [c]).data.toList ≠ []
    rw [B_toList]; simp
  · show Lx.runB Lx.blanksB ((B [c]).data.toList ++ r) = 0
    rw [B_toList]
    exact Lx.runB_no _ _ _ (Lx.sign_not_blank hs)
  · show Lx.firstF ((B [c]).data.toList ++ r) = _
    rw [B_toList]
    show Lx.firstF (c :: r) = _
    rw [Lx.firstF, if_pos hs]
    rfl
  · show (B [c]).size ≤ 100
    rw [B_size]; exact (show 1 ≤ 100 by omega)
theorem word_uni {k : Int} {w : List UInt8} {m a : Int} (h : formT k = some (w, m, a)) (h4 : k ≠ 4) : Uni (wT k) := by
  have hw : wordL k = w := by unfold wordL; rw [h]; rfl
  have key : ∀ w : List UInt8, w ≠ [] → w.all (Lx.inB Lx.partsB) = true → Lx.partF (B w) = (⟨1, B w, 0, 0⟩, true) → w.length ≤ 100 → Uni ⟨1, B w, 0, 0⟩ := fun w h1 h2 h3 h100 => uni_part h1 h2 (by rw [Lx.first_part h1 h2]; exact h3) (show (1 : Int) ≠ 5 by decide) (show (1 : Int) ≠ 4 by decide) h100
  have wd : ∀ w : List UInt8, Lib.containsS L.wordsB (B w) = true → Lx.partF (B w) = (⟨1, B w, 0, 0⟩, true) := fun w h => by unfold Lx.partF; rw [h, Bool.true_or, if_pos rfl]
  unfold wT
  rw [hw]
  clear hw
  unfold formT at h
  split at h <;> first
    | (injection h with h; injection h with h _; subst h; exact key _ (by decide) (by decide +kernel) (wd _ (by decide +kernel)) (by decide))
    | exact absurd rfl h4
    | cases h
theorem name_uni {nm : ByteArray} (h : Lx.isName nm = true) : Uni ⟨1, nm, 0, 0⟩ := by
  have hn := h
  unfold Lx.isName at h
  cases hl : nm.data.toList with
  | nil => rw [hl] at h; cases h
  | cons c l =>
    rw [hl] at h
    simp only [Bool.and_eq_true, decide_eq_true_eq] at h
    obtain ⟨_, _, h3, _⟩ := h
    have h100 : nm.size ≤ 100 := by omega
    have hall := Lx.run_all Lx.abc9B (c :: l)
    have hz : nm.size = (c :: l).length := by rw [← hl]; exact (Lx.sz_len nm).symm
    rw [← hz, decide_eq_true h3] at hall
    have hp : (c :: l).all (Lx.inB Lx.partsB) = true := List.all_eq_true.2 fun x hx => letter_part (List.all_eq_true.1 hall.symm x hx)
    have hB : B (c :: l) = nm := by rw [← hl]; exact B_toList' nm
    have := uni_part (k := 1) (n := 0) (w := c :: l) (by simp) hp (by
      rw [Lx.first_part (by simp) hp]
      unfold Lx.partF
      rw [hB, hn, Bool.or_true, if_pos rfl]) (show (1 : Int) ≠ 5 by decide) (show (1 : Int) ≠ 4 by decide) (by rw [← hz]; exact h100)
    rw [hB] at this
    exact this
theorem money_uni {n : Int} (h0 : 0 ≤ n) (h1 : n ≤ 1000000000000) : Uni ⟨3, B (textL n), n, 0⟩ := by
  obtain ⟨k, rfl⟩ : ∃ k : Nat, n = k := ⟨n.toNat, by omega⟩
  have hf := Lx.first_money k (by omega)
  have hne : textL (k : Int) ≠ [] := Pl.textL_ne (by unfold Pl.okA; omega)
  have hall : (textL (k : Int)).all (Lx.inB Lx.partsB) = true := by
    rw [textL_ok (by unfold Pl.okA; omega), if_neg (by omega), List.nil_append, List.all_append, Lx.digs_parts]
    show (true && (Lx.inB Lx.partsB 46 && (Lx.inB Lx.partsB (dig _) && (Lx.inB Lx.partsB (dig _) && true)))) = true
    rw [Lx.digit_part (dig_isD _), Lx.digit_part (dig_isD _), show Lx.inB Lx.partsB 46 = true by decide +kernel]
    rfl
  exact uni_part hne hall hf (show (3 : Int) ≠ 5 by decide) (show (3 : Int) ≠ 4 by decide) (by
    rw [textL_ok (by unfold Pl.okA; omega), if_neg (by omega), List.nil_append, List.length_append]
    have := digs_len ((k : Int).natAbs / 100)
    simp only [List.length_cons, List.length_nil]
    omega)
theorem count_uni {n : Int} (h0 : 0 ≤ n) (h1 : n ≤ 100000) : Uni ⟨2, B (intL n), n, 0⟩ := by
  obtain ⟨k, rfl⟩ : ∃ k : Nat, n = k := ⟨n.toNat, by omega⟩
  rw [Lx.intL_nat]
  exact uni_part (digs_ne k) (Lx.digs_parts k) (Lx.first_count k (by omega)) (show (2 : Int) ≠ 5 by decide) (show (2 : Int) ≠ 4 by decide) (by have := digs_len k; omega)

theorem sepT_mem {u : Lx.Tok} : ∀ (b : Bool) (ms : List (List Lx.Tok)), u ∈ sepT b ms → u = sg 44 ∨ ∃ m ∈ ms, u ∈ m
  | b, [], h => by simp [sepT] at h
  | b, m :: ms, h => by
    rw [sepT, List.mem_append, List.mem_append] at h
    rcases h with h | h | h
    · left
      split at h
      · cases h
      · simpa using h
    · exact .inr ⟨m, List.mem_cons_self, h⟩
    · rcases sepT_mem false ms h with h | ⟨m', h1, h2⟩
      · exact .inl h
      · exact .inr ⟨m', List.mem_cons_of_mem _ h1, h2⟩
theorem more_uni {k n : Int} {nm : ByteArray} {w : List UInt8} {m a : Int} (hF : formT k = some (w, m, a)) (h3 : 0 ≤ n) (h4 : n ≤ m) (h8 : isNamed k nm = true) : ∀ us ∈ moreT k n nm, ∀ u ∈ us, Uni u := by
  intro us hus u hu
  unfold moreT at hus
  split at hus
  · rename_i hk; subst hk
    rw [List.mem_singleton] at hus; subst hus
    rw [List.mem_singleton] at hu; subst hu
    exact name_uni (named_name nm h8)
  · split at hus
    · rename_i hk; subst hk
      have hm : m = 1000000000000 := by injection hF with hF; injection hF with _ hF; injection hF with hF _; exact hF.symm
      rw [List.mem_singleton] at hus; subst hus
      rw [List.mem_singleton] at hu; subst hu
      exact money_uni h3 (by omega)
    · split at hus
      · rename_i hk
        have hm : n ≤ 100000 := by rcases hk with rfl | rfl <;> (injection hF with hF; injection hF with _ hF; injection hF with hF _; omega)
        rw [List.mem_singleton] at hus; subst hus
        rw [List.mem_singleton] at hu; subst hu
        exact count_uni h3 hm
      · cases hus
mutual
theorem expr_uni : ∀ (x : Ex) (d : Int) (c : Bool), isFine d c x = true → ∀ u ∈ tkE x, Uni u
  | ⟨k, n, nm, l⟩, d, c, h, u, hu => by
    obtain ⟨w, m, a, hF, h1, h2, h3, h4, h5, h6, h7, h8, h9⟩ := fine_open h
    have ih := list_uni l (d - 1) _ h9
    rw [tkE] at hu
    by_cases k4 : k = 4
    · subst k4
      rw [if_pos rfl, List.mem_singleton] at hu
      subst hu
      exact money_uni h3 (by omega)
    have hw := word_uni hF k4
    by_cases k12 : k = 1 ∨ k = 2
    · rw [if_neg k4, if_pos k12, List.mem_singleton] at hu
      subst hu
      exact hw
    rw [if_neg k4, if_neg k12] at hu
    simp only [List.mem_append, List.mem_singleton] at hu
    rcases hu with rfl | rfl | hu | rfl
    · exact hw
    · exact uni_sign (by decide +kernel)
    · rcases sepT_mem _ _ hu with rfl | ⟨us, h1, h2⟩
      · exact uni_sign (by decide +kernel)
      · rcases List.mem_append.1 h1 with h1 | h1
        · exact ih us h1 u h2
        · exact more_uni hF h3 h4 h8 us h1 u h2
    · exact uni_sign (by decide +kernel)
theorem list_uni : ∀ (l : List Ex) (d : Int) (c : Bool), fineL d c l = true → ∀ us ∈ tkA l, ∀ u ∈ us, Uni u
  | [], d, c, h, us, hus => by rw [tkA] at hus; cases hus
  | x :: l, d, c, h, us, hus => by
    rw [fineL, Bool.and_eq_true] at h
    rw [tkA] at hus
    have h1 := expr_uni x d c h.1
    have h2 := list_uni l d false h.2
    rcases List.mem_cons.1 hus with rfl | hus
    · exact h1
    · exact h2 us hus
end
/-- what so much of a text comes to, whatever stands behind it -/
def Tolds (i : Nat) (t : List UInt8) (l : List Lx.Tok) : Prop := ∀ (g : Nat) (r : List UInt8), Lx.scanF (g + i) (t ++ r) 0 = Lx.okT l ++ Lx.scanF g r t.length
theorem Uni.scan {u : Lx.Tok} (hu : Uni u) (g : Nat) (sep r : List UInt8) (p : Nat) (hs : sep ≠ []) (hb : sep.all (Lx.inB Lx.blanksB) = true) : Lx.scanF (g + 1) (u.text.data.toList ++ (sep ++ r)) p = (⟨u.kind, u.text, u.n, p⟩, true) :: Lx.scanF g r (p + u.text.size + sep.length) := by
  have hE : Pm.Ends (sep ++ r) := by
    cases sep with
    | nil => exact absurd rfl hs
    | cons c q =>
      rw [List.all_cons, Bool.and_eq_true] at hb
      exact .inr ⟨c, q ++ r, rfl, Lx.blank_part hb.1⟩
  rw [Lx.scanF, hu.blank, List.drop_zero, hu.first _ (.inr hE)]
  dsimp only
  rw [if_neg (fun h => h.elim (fun h => by cases h) hu.k5), Nat.add_zero]
  congr 1
  rw [← sz_len, List.drop_left]
  cases g with
  | zero => rfl
  | succ g => rw [Lx.scanF_pre _ _ _ _ hb]
theorem Tolds.step {i : Nat} {t : List UInt8} {l : List Lx.Tok} (h : Tolds i t l) {u : Lx.Tok} (hu : Uni u) (sep : List UInt8) (hs : sep ≠ []) (hb : sep.all (Lx.inB Lx.blanksB) = true) : Tolds (i + 1) ((t ++ u.text.data.toList) ++ sep) (l ++ [⟨u.kind, u.text, u.n, (t.length : Int)⟩]) := by
  intro g r
  have := h (g + 1) (u.text.data.toList ++ (sep ++ r))
  rw [show g + (i + 1) = g + 1 + i by omega, List.append_assoc, List.append_assoc, this, hu.scan _ _ _ _ hs hb, Lx.okT_snoc]
  congr 3
  simp only [List.length_append, sz_len]
theorem Tolds.lex {i : Nat} {t : ByteArray} {l : List Lx.Tok} (h : Tolds i t.data.toList l) (hz : t.size ≤ 2000) : lexF t = (l ++ [endT t.size], 0, 0) := by
  have hs : Lx.scan t = Lx.okT l ++ [(endT t.size, true)] := by
    have := h (t.size + 1) []
    rw [List.append_nil, Lx.scanF_end] at this
    rw [Lx.scan_eq _ (f := t.size + 1 + i) (by omega), this, sz_len]
    rfl
  unfold lexF Lx.toksF
  rw [if_neg (by omega), hs, Lx.tell_ok]
  show (List.map _ _, _, _) = _
  rw [List.map_append, Lx.fst_ok]
  rfl
end Go.Proofs.YtmfdkhnfjbgbhaaGreatDoor.Pr

/- ParseBlanks, in the pure machine. -/
namespace Go.Proofs.YtmfdkhnfjbgbhaaGreatDoor.Pr
open Go Go.RowKit Go.Proofs.YtmfdkhnfjbgbhaaGreatDoor.Pm Go.Proofs.YtmfdkhnfjbgbhaaGreatDoor.Pl
open Go.Proofs.YtmfdkhnfjbgbhaaGreatDoor.Lx (lexF sz_len rowT rowT_len rowT_get rowB rowB_get pkN pkN_eq)
open Go.Proofs.YtmfdkhnfjbgbhaaGreatDoor.Q (rngE rngA txtE txtA sameE sameA)
set_option linter.unusedVariables false
set_option maxHeartbeats 1000000
theorem encN_get {l : List Int} {i : Nat} {a : Int} (h : l[i]? = some a) : (encN l)[i]? = some [.int .i64 a] := by
  unfold encN; rw [List.getElem?_map, h]; rfl
def blB : List ByteArray := [⟨#[32]⟩, ⟨#[10]⟩, ⟨#[32, 32, 10]⟩]
theorem bl_at {j : Nat} (hj : j < blB.length) : (blB.getD j Lx.e0).data.toList ≠ [] ∧ (blB.getD j Lx.e0).data.toList.all (Lx.inB Lx.blanksB) = true ∧ (blB.getD j Lx.e0).size ≤ 3 := by
  have hj : j < 3 := hj
  have : j = 0 ∨ j = 1 ∨ j = 2 := by omega
  rcases this with rfl | rfl | rfl <;> exact ⟨by decide, by decide +kernel, by decide⟩
theorem parse_of_lex {x : Ex} {s : ByteArray} {l : List Lx.Tok} {z : Nat} (h : isFine 32 false x = true) (hl : l.map st = tkE x) (hx : lexF s = (l ++ [endT z], 0, 0)) : parseP s = (x, 0, 0) := by
  unfold parseP
  rw [hx]
  dsimp only
  rw [if_neg (by simp)]
  unfold finP
  rw [expr_tk x 32 false h l _ hl]
  exact if_pos rfl
theorem strat_lex (x : Ex) (hr : rngE x = true) (hs : size x ≤ 9223372036854775807) : ∃ (s : ByteArray) (e : Int) (l : List Lx.Tok) (z : Nat), Ok E 17 [] [pE x] (.tup [pS s, pI e]) [] ∧ lexF s = (l ++ [endT z], 0, 0) ∧ (∀ t ∈ l, Uni (st t)) ∧ (e = 0 ∧ isRight x = true ∧ l.map st = tkE x ∧ s = B (txtE x) ∨ e = 1 ∧ l = []) ∧ l.length ≤ 1000000 := by
  have cP := print_ok x hr hs
  rcases Bool.eq_false_or_eq_true (isRight x) with h | h
  · rw [h, if_pos rfl] at cP
    obtain ⟨l, hl, hx⟩ := print_lex h
    have hf := lex_few (s := B (txtE x))
    rw [hx] at hf
    refine ⟨_, 0, l, _, cP, hx, fun t ht => ?_, .inl ⟨rfl, h, hl, rfl⟩, ?_⟩
    · exact expr_uni x 32 false (right_open h).1 (st t) (by rw [← hl]; exact List.mem_map_of_mem ht)
    · have hf : (l ++ [endT (txtE x).length]).length ≤ 1000000 := hf
      rw [List.length_append] at hf
      omega
  · rw [h, if_neg Bool.false_ne_true] at cP
    exact ⟨_, 1, [], 0, cP, by decide +kernel, fun t ht => (by cases ht), .inr ⟨rfl, rfl⟩, by decide⟩
theorem ParseBlanks_ok (raw : List Int) (h1 : ∀ a ∈ raw, I64 a) (l1 : raw.length ≤ 17592186043904) (bl : List Int) (h2 : ∀ a ∈ bl, I64 a) (l2 : bl.length ≤ 17592186043904) : Ok E 7 [] [.c (.row (encN raw)), .c (.row (encN bl))] (pB true) [] := by
  have hx := strat_small raw h1
  have cx := strat_ok raw h1 (by omega)
  obtain ⟨x, ex⟩ : ∃ x, stratF raw = x := ⟨_, rfl⟩
  rw [ex] at hx cx
  have sx := hx.size
  obtain ⟨s, e, l, z, cP, hlex, hU, hfin, hlen⟩ := strat_lex x hx.rng (by omega)
  have cL := Lx.rLex_ok s
  obtain ⟨L, hLe⟩ : ∃ L, l ++ [endT z] = L := ⟨_, rfl⟩
  rw [hlex, hLe] at cL
  refine Ok.enter hE Tryz.func7 rfl (by decide +kernel) (by kernel_rfl) rfl rfl (Nat.le_of_ble_eq_true rfl) rfl ?_
  refine ⟨_, CallR.mk1 awake_ok rfl rfl, ?_⟩
  refine ⟨_, CallR.mk1 cx rfl rfl, ?_⟩
  refine ⟨_, CallR.mk1 cP rfl rfl, ?_⟩
  refine ⟨_, CallR.mk1 cL rfl rfl, ?_⟩
  refine Loop.cut (α := Nat × ByteArray) (fun y => y.1 ≤ l.length ∧ y.2.size ≤ 103 * y.1 ∧ ∃ ts, ts.map st = (l.take y.1).map st ∧ Tolds y.1 y.2.data.toList ts) (fun y => [(1, .c (.row (encN bl))), (5, pB true), (6, .ptr 0 0), (8, pI e), (9, .c (.row (rowT L))), (10, pI 0), (12, pS y.2), (13, pI y.1)]) (fun _ => [(cellsE x).map .c]) (fun _ => []) (fun y => l.length - y.1) (0, Lx.e0) 1 (fun _ => rfl) (fun _ => rfl) (fun _ => rfl) ⟨Nat.zero_le _, Nat.le_refl _, [], rfl, fun g r => rfl⟩ ⟨⟨rfl, rfl, rfl, rfl, rfl, rfl, rfl, rfl, trivial⟩, rfl, rfl⟩ ?_
  rintro ⟨i, t⟩ f ⟨hi, ht, ts, hts, hT⟩
  have hi : i ≤ l.length := hi
  have ht : t.size ≤ 103 * i := ht
  have hts : ts.map st = (l.take i).map st := hts
  have hT : Tolds i t.data.toList ts := hT
  have hrl : ((rowT L).length : Int) = (l.length : Int) + 1 := by rw [rowT_len, ← hLe, List.length_append]; rfl
  refine ⟨_, addV rfl (by omega) (by omega), ?_⟩
  by_cases hil : i < l.length
  · refine ⟨_, ltT (by rw [hrl]; omega), ?_⟩
    obtain ⟨y, hy⟩ : ∃ y, l[i]? = some y := ⟨_, List.getElem?_eq_getElem hil⟩
    have hy2 : L[i]? = some y := by rw [← hLe, List.getElem?_append_left hil, hy]
    by_cases hib : i < bl.length
    · obtain ⟨a, ha⟩ : ∃ a, bl[i]? = some a := ⟨_, List.getElem?_eq_getElem hib⟩
      have hk := pick_ok a 3 (h2 a (List.mem_of_getElem? ha)) (by decide)
      have hkl := (pkN_eq (c := a) (n := 3) (by decide)).2
      obtain ⟨j, hj⟩ : ∃ j, pkN a 3 = j := ⟨_, rfl⟩
      rw [hj] at hk hkl
      have hj3 : j < blB.length := by show j < 3; omega
      refine ⟨_, ltT (by rw [encN_len]; omega), ?_⟩
      refine ⟨_, idxV (j := i) (encN_get ha) rfl rfl rfl rfl, ?_⟩
      refine ⟨_, CallR.mk1 hk rfl rfl, ?_⟩
      · skip
        have hyU := hU y (List.mem_of_getElem? hy)
        have hsz : y.text.size ≤ 100 := hyU.sz
        obtain ⟨b1, b2, b3⟩ := bl_at hj3
        refine ⟨_, idxV (j := i) (rowT_get hy2) rfl rfl rfl rfl, ?_⟩
        refine ⟨_, catB' (by omega), ?_⟩
        refine ⟨_, ⟨_, rfl, rfl⟩, ?_⟩
        refine ⟨_, idxV (j := j) (rowB_get (l := blB) hj3) rfl rfl rfl rfl, ?_⟩
        refine ⟨_, catB' (by simp only [B_size, List.length_append, sz_len]; omega), ?_⟩
        refine ⟨_, addV rfl (by omega) (by omega), ?_⟩
        refine ⟨(i + 1, _), ⟨hil, ?_, ts ++ [⟨y.kind, y.text, y.n, (t.data.toList.length : Int)⟩], ?_, ?_⟩, by show l.length - (i + 1) < l.length - i; omega, ⟨rfl, rfl, rfl, rfl, rfl, rfl, rfl, rfl, trivial⟩, ⟨_, rfl⟩, rfl⟩
        · show ByteArray.size (B (_ ++ _)) ≤ 103 * (i + 1)
          simp only [B_size, B_toList, List.length_append, sz_len]
          omega
        · rw [List.map_append, hts, List.take_add_one, hy, List.map_append]
          rfl
        · show Tolds (i + 1) (B (_ ++ _)).data.toList _
          rw [B_toList, B_toList]
          exact hT.step hyU _ b1 b2
    · obtain ⟨j, hj⟩ : ∃ j : Nat, 0 = j := ⟨_, rfl⟩
      have hj3 : j < blB.length := by show j < 3; omega
      refine ⟨_, ltN (by rw [encN_len]; omega), ?_⟩
      · subst hj
        have hyU := hU y (List.mem_of_getElem? hy)
        have hsz : y.text.size ≤ 100 := hyU.sz
        obtain ⟨b1, b2, b3⟩ := bl_at hj3
        refine ⟨_, idxV (j := i) (rowT_get hy2) rfl rfl rfl rfl, ?_⟩
        refine ⟨_, catB' (by omega), ?_⟩
        refine ⟨_, ⟨_, rfl, rfl⟩, ?_⟩
        refine ⟨_, idxV (j := 0) (rowB_get (l := blB) hj3) rfl rfl rfl rfl, ?_⟩
        refine ⟨_, catB' (by simp only [B_size, List.length_append, sz_len]; omega), ?_⟩
        refine ⟨_, addV rfl (by omega) (by omega), ?_⟩
        refine ⟨(i + 1, _), ⟨hil, ?_, ts ++ [⟨y.kind, y.text, y.n, (t.data.toList.length : Int)⟩], ?_, ?_⟩, by show l.length - (i + 1) < l.length - i; omega, ⟨rfl, rfl, rfl, rfl, rfl, rfl, rfl, rfl, trivial⟩, ⟨_, rfl⟩, rfl⟩
        · show ByteArray.size (B (_ ++ _)) ≤ 103 * (i + 1)
          simp only [B_size, B_toList, List.length_append, sz_len]
          omega
        · rw [List.map_append, hts, List.take_add_one, hy, List.map_append]
          rfl
        · show Tolds (i + 1) (B (_ ++ _)).data.toList _
          rw [B_toList, B_toList]
          exact hT.step hyU _ b1 b2
  · refine ⟨_, ltN (by rw [hrl]; omega), ?_⟩
    rcases hfin with ⟨rfl, hr, hl, -⟩ | ⟨rfl, -⟩
    · refine ⟨_, neN rfl, ?_⟩
      refine ⟨_, neN rfl, ?_⟩
      by_cases hz : t.size ≤ 2000
      · have hq := parse_of_lex (right_open hr).1 (by rw [hts, List.take_of_length_le (by omega), hl]) (hT.lex hz)
        have cQ := Parse_ok t
        rw [hq] at cQ
        have cT := Same_ok x x hx.rng hx.rng
        rw [same_refl] at cT
        refine ⟨_, gtN (by show ¬ ((t.size : Int) > 2000); omega), ?_⟩
        refine ⟨_, CallR.mk1 cQ rfl rfl, ?_⟩
        refine ⟨_, eqT rfl, ?_⟩
        refine ⟨_, CallR.mk1 cT rfl rfl, ?_⟩
        exact Ret.mk _ rfl rfl rfl
      · refine ⟨_, gtT (by show (t.size : Int) > 2000; omega), ?_⟩
        exact Ret.mk _ rfl rfl rfl
    · refine ⟨_, neT (by decide), ?_⟩
      exact Ret.mk _ rfl rfl rfl
end Go.Proofs.YtmfdkhnfjbgbhaaGreatDoor.Pr

/- What a scan tells of pieces with blanks between, and of a part that is no token. -/
namespace Go.Proofs.YtmfdkhnfjbgbhaaGreatDoor.Lx
open Go Go.RowKit Go.Proofs.YtmfdkhnfjbgbhaaGreatDoor.Pm Go.Proofs.YtmfdkhnfjbgbhaaGreatDoor.Pl
open Go.Proofs.YtmfdkhnfjbgbhaaGreatDoor.L (wordsL wordsB)
set_option linter.unusedVariables false
set_option maxHeartbeats 1000000
theorem first_words : lawWs.all (fun w => decide (firstF w.data.toList = (⟨1, w, 0, 0⟩, true))) = true := by decide +kernel
theorem first_signs : signBs.all (fun w => decide (firstF w.data.toList = (⟨4, w, 0, 0⟩, true))) = true := by decide +kernel
def sellerK (k : Nat) : ByteArray := B ((nameBs.getD (k % 6) e0).data.toList ++ digs (k / 6))
theorem first_sellers : (List.range 60).all (fun k => decide (firstF (sellerK k).data.toList = (⟨1, sellerK k, 0, 0⟩, true))) = true := by decide +kernel
theorem first_seller (n : Int) : firstF (sellerF n).data.toList = (⟨1, sellerF n, 0, 0⟩, true) := by
  have hlt := (pkN_eq (c := n) (n := 60) (by decide)).2
  exact of_decide_eq_true (List.all_eq_true.1 first_sellers (pkN n 60) (by rw [List.mem_range]; omega))
def tokW (kind n : Int) : Tok := match pkN kind 5 with
  | 0 => ⟨1, pieceF kind n, 0, 0⟩
  | 1 => ⟨4, pieceF kind n, 0, 0⟩
  | 2 => ⟨2, pieceF kind n, (pkN n 100001 : Nat), 0⟩
  | 3 => ⟨3, pieceF kind n, (pkN n 1000000 : Nat), 0⟩
  | _ => ⟨1, pieceF kind n, 0, 0⟩
theorem getD_all {l : List ByteArray} {p : ByteArray → Bool} (h : l.all p = true) {j : Nat} (hj : j < l.length) : p (l.getD j e0) = true := by
  rw [List.getD_eq_getElem?_getD, List.getElem?_eq_getElem hj]
  exact List.all_eq_true.1 h _ (List.getElem_mem hj)
theorem piece_first (kind n : Int) : firstF (pieceF kind n).data.toList = (tokW kind n, true) := by
  have hlt := (pkN_eq (c := kind) (n := 5) (by decide)).2
  unfold tokW pieceF
  obtain ⟨k, hk⟩ : ∃ k, pkN kind 5 = k := ⟨_, rfl⟩
  rw [hk] at hlt ⊢
  have : k = 0 ∨ k = 1 ∨ k = 2 ∨ k = 3 ∨ k = 4 := by omega
  rcases this with rfl | rfl | rfl | rfl | rfl
  · have hl := (pkN_eq (c := n) (n := 11) (by decide)).2
    exact of_decide_eq_true (getD_all first_words (show pkN n 11 < 11 by omega))
  · have hl := (pkN_eq (c := n) (n := 3) (by decide)).2
    exact of_decide_eq_true (getD_all first_signs (show pkN n 3 < 3 by omega))
  · have hl := (pkN_eq (c := n) (n := 100001) (by decide)).2
    show firstF (B (digs (pkN n 100001))).data.toList = _
    rw [B_toList]
    exact first_count _ (by omega)
  · have hl := (pkN_eq (c := n) (n := 1000000) (by decide)).2
    show firstF (B _).data.toList = (⟨3, B _, _, 0⟩, true)
    rw [money_text _ (by omega), B_toList]
    exact first_money _ (by omega)
  · exact first_seller n
theorem tokW_text (kind n : Int) : (tokW kind n).text = pieceF kind n := by unfold tokW; split <;> rfl
theorem tokW_kind (kind n : Int) : (tokW kind n).kind ≠ 5 := by
  unfold tokW
  split
  · exact (show (1 : Int) ≠ 5 by decide)
  · exact (show (4 : Int) ≠ 5 by decide)
  · exact (show (2 : Int) ≠ 5 by decide)
  · exact (show (3 : Int) ≠ 5 by decide)
  · exact (show (1 : Int) ≠ 5 by decide)
theorem piece_ne (kind n : Int) : (pieceF kind n).data.toList ≠ [] := by
  intro h
  have := piece_first kind n
  rw [h] at this
  have := congrArg (fun x => x.1.kind) this
  exact tokW_kind kind n this.symm
theorem piece_blank (kind n : Int) (r : List UInt8) : runB blanksB ((pieceF kind n).data.toList ++ r) = 0 := by
  have h1 := piece_first kind n
  have h2 := first_alone (m := (pieceF kind n).data.toList) (by rw [h1]) (by rw [h1]; exact tokW_kind kind n)
  rw [h1] at h2
  have h3 := h2.2.1
  rw [tokW_text] at h3
  cases hp : (pieceF kind n).data.toList with
  | nil => exact absurd hp (piece_ne kind n)
  | cons c l =>
    rw [hp, runB] at h3
    rw [List.cons_append, runB]
    split at h3
    · cases h3
    · rename_i h; rw [if_neg h]
theorem piece_sz2 (k n : Int) : (pieceF k n).size ≤ 26 := by
  unfold pieceF
  split
  · exact Nat.le_trans (sz_getD (l := lawWs) (m := 6) (by decide) _) (by decide)
  · exact Nat.le_trans (sz_getD (l := signBs) (m := 1) (by decide) _) (by decide)
  · rw [B_size]; have := digs_len (pkN n 100001); omega
  · rw [B_size]
    have h1 := digs_len (pkN n 1000000 / 100)
    rw [digs_mod (pkN n 1000000 / 10 % 10) (by omega), digs_mod (pkN n 1000000 % 10) (by omega)]
    simp only [List.length_append, List.length_cons, List.length_nil]
    omega
  · unfold sellerF
    rw [B_size, List.length_append]
    have := digs_len (pkN n 60 / 6)
    have h2 := sz_getD (l := nameBs) (m := 6) (by decide) (pkN n 60 % 6)
    rw [← sz_len] at h2
    omega
end Go.Proofs.YtmfdkhnfjbgbhaaGreatDoor.Lx

/- ParseMore, in the pure machine. -/
namespace Go.Proofs.YtmfdkhnfjbgbhaaGreatDoor.Pr
open Go Go.RowKit Go.Proofs.YtmfdkhnfjbgbhaaGreatDoor.Pm Go.Proofs.YtmfdkhnfjbgbhaaGreatDoor.Pl
open Go.Proofs.YtmfdkhnfjbgbhaaGreatDoor.Lx (lexF pieceF tokW Piece_ok sz_len catL)
open Go.Proofs.YtmfdkhnfjbgbhaaGreatDoor.Q (rngE rngA txtE txtA sameE sameA)
set_option linter.unusedVariables false
set_option maxHeartbeats 1000000
theorem scan_piece_end (g : Nat) (kind n : Int) (p : Nat) : Lx.scanF (g + 1) (pieceF kind n).data.toList p = (⟨(tokW kind n).kind, pieceF kind n, (tokW kind n).n, p⟩, true) :: Lx.scanF g [] (p + (pieceF kind n).size) := by
  have hb := Lx.piece_blank kind n []
  rw [List.append_nil] at hb
  rw [Lx.scanF, hb, List.drop_zero, Lx.piece_first]
  dsimp only
  rw [if_neg (fun h => h.elim (fun h => by cases h) (Lx.tokW_kind kind n)), Lx.tokW_text, Nat.add_zero]
  congr 1
  rw [← sz_len, List.drop_length]
theorem lex_of_scan {s : ByteArray} {l : List Lx.Tok} {z : Nat} (hs : Lx.scan s = Lx.okT l ++ [(endT z, true)]) (hz : s.size ≤ 2000) : lexF s = (l ++ [endT z], 0, 0) := by
  unfold lexF Lx.toksF
  rw [if_neg (by omega), hs, Lx.tell_ok]
  show (List.map _ _, _, _) = _
  rw [List.map_append, Lx.fst_ok]
  rfl
theorem parse_more {x : Ex} (h : isRight x = true) (hz : (txtE x).length ≤ 1900) (kind n : Int) : parseP (B ((txtE x ++ [32]) ++ (pieceF kind n).data.toList)) = (zE, 80, (((txtE x).length + 1 : Nat) : Int)) := by
  have hp := Lx.piece_sz2 kind n
  have hpl := sz_len (pieceF kind n)
  obtain ⟨l, hl, e⟩ := expr_fragT x 32 false (right_open h).1 ((txtE x).length + (pieceF kind n).size + 1 + 1 + 1) ([32] ++ (pieceF kind n).data.toList) 0 (.inr ⟨32, (pieceF kind n).data.toList, rfl, by decide +kernel⟩)
  rw [Lx.scanF_pre _ [32] _ _ (by decide +kernel), scan_piece_end, Lx.scanF_end, Nat.zero_add] at e
  obtain ⟨t, ht⟩ : ∃ t : Lx.Tok, (⟨(tokW kind n).kind, pieceF kind n, (tokW kind n).n, (((txtE x).length + [32].length : Nat) : Int)⟩ : Lx.Tok) = t := ⟨_, rfl⟩
  obtain ⟨z, hz'⟩ : ∃ z : Nat, (txtE x).length + ([32] : List UInt8).length + (pieceF kind n).size = z := ⟨_, rfl⟩
  have hs : Lx.scan (B ((txtE x ++ [32]) ++ (pieceF kind n).data.toList)) = Lx.okT (l ++ [t]) ++ [(endT z, true)] := by
    rw [Lx.scan_eq _ (f := (txtE x).length + (pieceF kind n).size + 1 + 1 + 1 + (tkE x).length) (by rw [B_size, List.length_append, List.length_append, hpl]; show _ + 1 + _ < _; omega), B_toList, List.append_assoc, e, okT_app, ← ht, ← hz']
    simp only [Lx.okT, List.map_cons, List.map_nil, List.append_assoc, List.cons_append, List.nil_append]
    rfl
  have hx := lex_of_scan hs (by rw [B_size, List.length_append, List.length_append, hpl]; show _ + 1 + _ ≤ _; omega)
  unfold parseP
  rw [hx]
  dsimp only
  rw [if_neg (by simp)]
  unfold finP
  rw [List.append_assoc, expr_tk x 32 false (right_open h).1 l _ hl]
  show (if t.kind = 5 then _ else _) = _
  rw [if_neg (by rw [← ht]; exact Lx.tokW_kind kind n), ← ht]
  rfl
theorem ParseMore_ok (raw : List Int) (h1 : ∀ a ∈ raw, I64 a) (l1 : raw.length ≤ 17592186043904) (kind : Int) (hk : I64 kind) (n : Int) (hn : I64 n) : Ok E 5 [] [.c (.row (encN raw)), pI kind, pI n] (pB true) [] := by
  have hx := strat_small raw h1
  have cx := strat_ok raw h1 (by omega)
  obtain ⟨x, ex⟩ : ∃ x, stratF raw = x := ⟨_, rfl⟩
  rw [ex] at hx cx
  have sx := hx.size
  have cP := print_ok x hx.rng (by omega)
  rcases Bool.eq_false_or_eq_true (isRight x) with hr | hr
  · rw [hr, if_pos rfl] at cP
    by_cases hz : (txtE x).length ≤ 1900
    · have law := parse_more hr hz kind n
      have cI := Piece_ok kind n hk hn
      have hpz := Lx.piece_sz2 kind n
      obtain ⟨q, hq⟩ : ∃ q, B ((txtE x ++ [32]) ++ (pieceF kind n).data.toList) = q := ⟨_, rfl⟩
      rw [hq] at law
      have cQ := Parse_ok q
      rw [law] at cQ
      refine Ok.enter hE Tryz.func5 rfl (by decide +kernel) (by kernel_rfl) rfl rfl (Nat.le_of_ble_eq_true rfl) rfl ?_
      refine ⟨_, CallR.mk1 awake_ok rfl rfl, ?_⟩
      refine ⟨_, CallR.mk1 cx rfl rfl, ?_⟩
      refine ⟨_, CallR.mk1 cP rfl rfl, ?_⟩
      refine ⟨_, neN rfl, ?_⟩
      refine ⟨_, gtN (by rw [B_size]; omega), ?_⟩
      refine ⟨_, catB (a := txtE x) (b := [32]) (by show _ + 1 ≤ _; omega), ?_⟩
      refine ⟨_, CallR.mk1 cI rfl rfl, ?_⟩
      refine ⟨_, catL (s := q) (by rw [B_toList]; exact hq.symm) (by rw [B_size, List.length_append]; show _ + 1 + _ ≤ _; omega), ?_⟩
      refine ⟨_, CallR.mk1 cQ rfl rfl, ?_⟩
      refine ⟨_, eqT rfl, ?_⟩
      refine ⟨_, addV rfl (by rw [B_size]; omega) (by rw [B_size]; omega), ?_⟩
      refine ⟨_, eqT (by rw [B_size]; rfl), ?_⟩
      refine ⟨_, eqT rfl, ?_⟩
      exact Ret.mk _ rfl rfl rfl
    · refine Ok.enter hE Tryz.func5 rfl (by decide +kernel) (by kernel_rfl) rfl rfl (Nat.le_of_ble_eq_true rfl) rfl ?_
      refine ⟨_, CallR.mk1 awake_ok rfl rfl, ?_⟩
      refine ⟨_, CallR.mk1 cx rfl rfl, ?_⟩
      refine ⟨_, CallR.mk1 cP rfl rfl, ?_⟩
      refine ⟨_, neN rfl, ?_⟩
      refine ⟨_, gtT (by rw [B_size]; omega), ?_⟩
      exact Ret.mk _ rfl rfl rfl
  · rw [hr, if_neg Bool.false_ne_true] at cP
    refine Ok.enter hE Tryz.func5 rfl (by decide +kernel) (by kernel_rfl) rfl rfl (Nat.le_of_ble_eq_true rfl) rfl ?_
    refine ⟨_, CallR.mk1 awake_ok rfl rfl, ?_⟩
    refine ⟨_, CallR.mk1 cx rfl rfl, ?_⟩
    refine ⟨_, CallR.mk1 cP rfl rfl, ?_⟩
    refine ⟨_, neT (by decide), ?_⟩
    exact Ret.mk _ rfl rfl rfl
end Go.Proofs.YtmfdkhnfjbgbhaaGreatDoor.Pr
