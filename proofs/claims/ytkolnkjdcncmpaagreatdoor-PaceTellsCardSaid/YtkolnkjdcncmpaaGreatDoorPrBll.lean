/- Texts that are merged: PrL, PrM, PrN, PrP. -/
import Derived.Test.YtkolnkjdcncmpaaGreatDoorPrAll
/- ParseTells, in the pure machine. -/
namespace Go.Proofs.YtkolnkjdcncmpaaGreatDoor.Pr
open Go Go.RowKit Go.Proofs.YtkolnkjdcncmpaaGreatDoor.Pm Go.Proofs.YtkolnkjdcncmpaaGreatDoor.Pl
open Go.Proofs.YtkolnkjdcncmpaaGreatDoor.Lx (cellsT pT rowT rowT_len rowT_get lexF pkN pkN_eq rowB rowB_get pieceF sz_len sz_getD lawWs signBs nameBs sellerF sliceSV catL)
open Go.Proofs.YtkolnkjdcncmpaaGreatDoor.Q (rngE rngA txtE txtA sameE sameA)
set_option linter.unusedVariables false
set_option maxHeartbeats 1000000
theorem minV {a b z : Int} (h : min a b = z) : minF [.c (.int .i64 a), .c (.int .i64 b)] = some (.c (.int .i64 z)) := by
  subst h
  show (match minG a [PV.c (.int .i64 b)] with
    | some z => some (PV.c (.int .i64 z))
    | none => none) = _
  have : minG a [PV.c (.int .i64 b)] = some (min a b) := by
    simp only [minG]
    simp
    omega
  rw [this]
end Go.Proofs.YtkolnkjdcncmpaaGreatDoor.Pr

/- What is printed is scanned to the tokens that the parser takes for it. -/
namespace Go.Proofs.YtkolnkjdcncmpaaGreatDoor.Pr
open Go Go.RowKit Go.Proofs.YtkolnkjdcncmpaaGreatDoor.Pm Go.Proofs.YtkolnkjdcncmpaaGreatDoor.Pl
open Go.Proofs.YtkolnkjdcncmpaaGreatDoor.Lx (lexF)
open Go.Proofs.YtkolnkjdcncmpaaGreatDoor.Q (rngE rngA txtE txtA sameE sameA formT sepA wordL moreL txtA_map)
set_option linter.unusedVariables false
set_option maxHeartbeats 1000000
/-- a token without its place -/
def st (t : Lx.Tok) : Lx.Tok := ⟨t.kind, t.text, t.n, 0⟩
def FragT (us : List Lx.Tok) (t : List UInt8) : Prop := ∀ (g : Nat) (r : List UInt8) (p : Nat), Pm.Ends r → ∃ l : List Lx.Tok, l.map st = us ∧ Lx.scanF (g + us.length) (t ++ r) p = Lx.okT l ++ Lx.scanF g r (p + t.length)
def FragTF (us : List Lx.Tok) (t : List UInt8) : Prop := ∀ (g : Nat) (r : List UInt8) (p : Nat), ∃ l : List Lx.Tok, l.map st = us ∧ Lx.scanF (g + us.length) (t ++ r) p = Lx.okT l ++ Lx.scanF g r (p + t.length)
theorem FragTF.appF {u v : List Lx.Tok} {a b : List UInt8} (ha : FragTF u a) (hb : FragTF v b) : FragTF (u ++ v) (a ++ b) := by
  intro g r p
  obtain ⟨l1, h1, e1⟩ := ha (g + v.length) (b ++ r) p
  obtain ⟨l2, h2, e2⟩ := hb g r (p + a.length)
  have hl : (u ++ v).length = u.length + v.length := List.length_append
  refine ⟨l1 ++ l2, by rw [List.map_append, h1, h2], ?_⟩
  rw [hl, List.append_assoc, show g + (u.length + v.length) = g + v.length + u.length by omega, e1, e2, okT_app, List.append_assoc, List.length_append, show p + a.length + b.length = p + (a.length + b.length) by omega]
theorem FragT.appF {u v : List Lx.Tok} {a b : List UInt8} (ha : FragT u a) (hb : FragTF v b) (hs : ∀ r, Pm.Ends (b ++ r)) : FragTF (u ++ v) (a ++ b) := by
  intro g r p
  obtain ⟨l1, h1, e1⟩ := ha (g + v.length) (b ++ r) p (hs r)
  obtain ⟨l2, h2, e2⟩ := hb g r (p + a.length)
  have hl : (u ++ v).length = u.length + v.length := List.length_append
  refine ⟨l1 ++ l2, by rw [List.map_append, h1, h2], ?_⟩
  rw [hl, List.append_assoc, show g + (u.length + v.length) = g + v.length + u.length by omega, e1, e2, okT_app, List.append_assoc, List.length_append, show p + a.length + b.length = p + (a.length + b.length) by omega]
theorem FragTF.toFrag {u : List Lx.Tok} {t : List UInt8} (h : FragTF u t) : FragT u t := fun g r p _ => h g r p
theorem fragT_part {w : List UInt8} {k n : Int} (hw : w ≠ []) (ha : w.all (Lx.inB Lx.partsB) = true) (hf : Lx.firstF w = (⟨k, B w, n, 0⟩, true)) (hk : k ≠ 5) : FragT [⟨k, B w, n, 0⟩] w := by
  intro g r p hr
  refine ⟨[⟨k, B w, n, (p : Int)⟩], rfl, ?_⟩
  have hf2 : Lx.firstF (w ++ r) = (⟨k, B w, n, 0⟩, true) := by
    rcases hr with rfl | ⟨c, q, rfl, hc⟩
    · rw [List.append_nil]; exact hf
    · rw [Lx.first_stop hw hc]; exact hf
  have hb : Lx.runB Lx.blanksB (w ++ r) = 0 := by
    cases w with
    | nil => exact absurd rfl hw
    | cons c q =>
      rw [List.all_cons, Bool.and_eq_true] at ha
      exact Lx.runB_no _ _ _ (Lx.not_blank ha.1)
  rw [show g + ([⟨k, B w, n, 0⟩] : List Lx.Tok).length = g + 1 from rfl, Lx.scanF, hb, List.drop_zero, hf2]
  dsimp only
  rw [if_neg (fun h => h.elim (fun h => by cases h) hk), B_size, List.drop_left]
  rfl
def sg (c : UInt8) : Lx.Tok := ⟨4, B [c], 0, 0⟩
theorem fragT_sign {c : UInt8} (hs : Lx.inB Lx.signsB c = true) : FragTF [sg c] [c] := by
  intro g r p
  refine ⟨[⟨4, B [c], 0, (p : Int)⟩], rfl, ?_⟩
  rw [show g + [sg c].length = g + 1 from rfl, show [c] ++ r = c :: r from rfl, Lx.scanF_sign g c r p (Lx.sign_not_blank hs) hs]
  simp only [Lx.okT, List.map_cons, List.map_nil, List.cons_append, List.nil_append, List.length_cons, List.length_nil, Nat.zero_add]
theorem fragT_comma : FragTF [sg 44] [44, 32] := by
  intro g r p
  refine ⟨[⟨4, B [44], 0, (p : Int)⟩], rfl, ?_⟩
  have e : ([44, 32] : List UInt8) ++ r = 44 :: ([32] ++ r) := List.cons_append
  have e2 : p + ([44, 32] : List UInt8).length = p + 1 + ([32] : List UInt8).length := by simp only [List.length_cons, List.length_nil]
  rw [show g + [sg 44].length = g + 1 from rfl, e, e2, Lx.scanF_sign _ _ _ _ (by decide +kernel) (by decide +kernel)]
  cases g with
  | zero => simp only [Lx.okT, Lx.scanF, List.map_cons, List.map_nil, List.cons_append, List.nil_append]
  | succ g =>
    rw [Lx.scanF_pre _ _ _ _ (by decide +kernel)]
    simp only [Lx.okT, List.map_cons, List.map_nil, List.cons_append, List.nil_append]
def sepT : Bool → List (List Lx.Tok) → List Lx.Tok
  | _, [] => []
  | b, m :: l => (if b then [] else [sg 44]) ++ (m ++ sepT false l)
theorem rest_fragT : ∀ (ms : List (List UInt8 × List Lx.Tok)), (∀ m ∈ ms, FragT m.2 m.1) → FragTF (sepT false (ms.map (·.2)) ++ [sg 41]) (sepA false (ms.map (·.1)) ++ [41]) ∧ ∀ r, Pm.Ends (sepA false (ms.map (·.1)) ++ [41] ++ r)
  | [], _ => ⟨fragT_sign (by decide +kernel), fun r => ends_sign (by decide +kernel) [] r⟩
  | m :: ms, h => by
    obtain ⟨hF, hE⟩ := rest_fragT ms fun x hx => h x (List.mem_cons_of_mem _ hx)
    have hm := h m List.mem_cons_self
    have e : sepA false ((m :: ms).map (·.1)) ++ [41] = [44, 32] ++ (m.1 ++ (sepA false (ms.map (·.1)) ++ [41])) := by
      rw [List.map_cons, sepA]
      simp
    have e2 : sepT false ((m :: ms).map (·.2)) ++ [sg 41] = [sg 44] ++ (m.2 ++ (sepT false (ms.map (·.2)) ++ [sg 41])) := by
      rw [List.map_cons, sepT]
      simp
    refine ⟨?_, fun r => ?_⟩
    · rw [e, e2]; exact fragT_comma.appF (hm.appF hF hE)
    · rw [e]; exact ends_sign (by decide +kernel) _ r
theorem args_fragT (ms : List (List UInt8 × List Lx.Tok)) (h : ∀ m ∈ ms, FragT m.2 m.1) : FragTF (sepT true (ms.map (·.2)) ++ [sg 41]) (sepA true (ms.map (·.1)) ++ [41]) := by
  cases ms with
  | nil => exact fragT_sign (by decide +kernel)
  | cons m ms =>
    obtain ⟨hF, hE⟩ := rest_fragT ms fun x hx => h x (List.mem_cons_of_mem _ hx)
    have hm := h m List.mem_cons_self
    have e : sepA true ((m :: ms).map (·.1)) ++ [41] = m.1 ++ (sepA false (ms.map (·.1)) ++ [41]) := by
      rw [List.map_cons, sepA]
      simp
    have e2 : sepT true ((m :: ms).map (·.2)) ++ [sg 41] = m.2 ++ (sepT false (ms.map (·.2)) ++ [sg 41]) := by
      rw [List.map_cons, sepT]
      simp
    rw [e, e2]; exact hm.appF hF hE
/-! ### words, names, numbers -/
def wT (k : Int) : Lx.Tok := ⟨1, B (wordL k), 0, 0⟩
theorem word_fragT {k : Int} {w : List UInt8} {m a : Int} (h : formT k = some (w, m, a)) (h4 : k ≠ 4) : FragT [wT k] w := by
  have hw : wordL k = w := by unfold wordL; rw [h]; rfl
  have key : ∀ w : List UInt8, w ≠ [] → w.all (Lx.inB Lx.partsB) = true → Lx.partF (B w) = (⟨1, B w, 0, 0⟩, true) → FragT [⟨1, B w, 0, 0⟩] w := fun w h1 h2 h3 => fragT_part h1 h2 (by rw [Lx.first_part h1 h2]; exact h3) (show (1 : Int) ≠ 5 by decide)
  have wd : ∀ w : List UInt8, Lib.containsS L.wordsB (B w) = true → Lx.partF (B w) = (⟨1, B w, 0, 0⟩, true) := fun w h => by unfold Lx.partF; rw [h, Bool.true_or, if_pos rfl]
  unfold wT
  rw [hw]
  clear hw
  unfold formT at h
  split at h <;> first
    | (injection h with h; injection h with h _; subst h; exact key _ (by decide) (by decide +kernel) (wd _ (by decide +kernel)))
    | exact absurd rfl h4
    | cases h
theorem name_fragT {nm : ByteArray} (h : Lx.isName nm = true) : FragT [⟨1, nm, 0, 0⟩] nm.data.toList := by
  have hn := h
  unfold Lx.isName at h
  cases hl : nm.data.toList with
  | nil => rw [hl] at h; cases h
  | cons c l =>
    rw [hl] at h
    simp only [Bool.and_eq_true, decide_eq_true_eq] at h
    obtain ⟨_, _, h3, _⟩ := h
    have hall := Lx.run_all Lx.abc9B (c :: l)
    have hz : nm.size = (c :: l).length := by rw [← hl]; exact (Lx.sz_len nm).symm
    rw [← hz, decide_eq_true h3] at hall
    have hp : (c :: l).all (Lx.inB Lx.partsB) = true := List.all_eq_true.2 fun x hx => letter_part (List.all_eq_true.1 hall.symm x hx)
    have hB : B (c :: l) = nm := by rw [← hl]; exact B_toList' nm
    have := fragT_part (k := 1) (n := 0) (w := c :: l) (by simp) hp (by
      rw [Lx.first_part (by simp) hp]
      unfold Lx.partF
      rw [hB, hn, Bool.or_true, if_pos rfl]) (show (1 : Int) ≠ 5 by decide)
    rw [hB] at this
    exact this
theorem money_fragT {n : Int} (h0 : 0 ≤ n) (h1 : n ≤ 1000000000000) : FragT [⟨3, B (textL n), n, 0⟩] (textL n) := by
  obtain ⟨k, rfl⟩ : ∃ k : Nat, n = k := ⟨n.toNat, by omega⟩
  have hf := Lx.first_money k (by omega)
  have hne : textL (k : Int) ≠ [] := Pl.textL_ne (by unfold Pl.okA; omega)
  have hall : (textL (k : Int)).all (Lx.inB Lx.partsB) = true := by
    rw [textL_ok (by unfold Pl.okA; omega), if_neg (by omega), List.nil_append, List.all_append, Lx.digs_parts]
    show (true && (Lx.inB Lx.partsB 46 && (Lx.inB Lx.partsB (dig _) && (Lx.inB Lx.partsB (dig _) && true)))) = true
    rw [Lx.digit_part (dig_isD _), Lx.digit_part (dig_isD _), show Lx.inB Lx.partsB 46 = true by decide +kernel]
    rfl
  exact fragT_part hne hall hf (show (3 : Int) ≠ 5 by decide)
theorem count_fragT {n : Int} (h0 : 0 ≤ n) (h1 : n ≤ 100000) : FragT [⟨2, B (intL n), n, 0⟩] (intL n) := by
  obtain ⟨k, rfl⟩ : ∃ k : Nat, n = k := ⟨n.toNat, by omega⟩
  rw [Lx.intL_nat]
  exact fragT_part (digs_ne k) (Lx.digs_parts k) (Lx.first_count k (by omega)) (show (2 : Int) ≠ 5 by decide)
def moreT (k n : Int) (nm : ByteArray) : List (List Lx.Tok) :=
  if k = 3 then [[⟨1, nm, 0, 0⟩]] else if k = 5 then [[⟨3, B (textL n), n, 0⟩]] else if k = 6 ∨ k = 11 then [[⟨2, B (intL n), n, 0⟩]] else []
mutual
def tkE : Ex → List Lx.Tok
  | ⟨k, n, nm, l⟩ => if k = 4 then [⟨3, B (textL n), n, 0⟩] else if k = 1 ∨ k = 2 then [wT k] else [wT k] ++ ([sg 40] ++ (sepT true (tkA l ++ moreT k n nm) ++ [sg 41]))
def tkA : List Ex → List (List Lx.Tok)
  | [] => []
  | x :: l => tkE x :: tkA l
end
theorem more_fragT {k n : Int} {nm : ByteArray} {w : List UInt8} {m a : Int} (hF : formT k = some (w, m, a)) (h3 : 0 ≤ n) (h4 : n ≤ m) (h8 : isNamed k nm = true) : ∃ ms : List (List UInt8 × List Lx.Tok), ms.map (·.1) = moreL k n nm ∧ ms.map (·.2) = moreT k n nm ∧ ∀ m ∈ ms, FragT m.2 m.1 := by
  unfold moreL moreT
  split
  · rename_i hk; subst hk
    exact ⟨[(_, _)], rfl, rfl, fun m hm => by rw [List.mem_singleton] at hm; subst hm; exact name_fragT (named_name nm h8)⟩
  · split
    · rename_i hk; subst hk
      have hm : m = 1000000000000 := by injection hF with hF; injection hF with _ hF; injection hF with hF _; exact hF.symm
      exact ⟨[(_, _)], rfl, rfl, fun m hm => by rw [List.mem_singleton] at hm; subst hm; exact money_fragT h3 (by omega)⟩
    · split
      · rename_i hk
        have hm : n ≤ 100000 := by rcases hk with rfl | rfl <;> (injection hF with hF; injection hF with _ hF; injection hF with hF _; omega)
        exact ⟨[(_, _)], rfl, rfl, fun m hm' => by rw [List.mem_singleton] at hm'; subst hm'; exact count_fragT h3 hm⟩
      · exact ⟨[], rfl, rfl, fun m hm => by cases hm⟩
mutual
theorem expr_fragT : ∀ (x : Ex) (d : Int) (c : Bool), isFine d c x = true → FragT (tkE x) (txtE x)
  | ⟨k, n, nm, l⟩, d, c, h => by
    obtain ⟨w, m, a, hF, h1, h2, h3, h4, h5, h6, h7, h8, h9⟩ := fine_open h
    obtain ⟨ks, hm, hs, hg⟩ := list_fragT l (d - 1) _ h9
    by_cases k4 : k = 4
    · subst k4
      rw [txtE, if_pos rfl, tkE, if_pos rfl]
      exact money_fragT h3 (by omega)
    have hw := word_fragT hF k4
    have hwl : wordL k = w := by unfold wordL; rw [hF]; rfl
    by_cases k12 : k = 1 ∨ k = 2
    · rw [txtE, if_neg k4, if_pos k12, tkE, if_neg k4, if_pos k12, hwl]
      exact hw
    have hl3 : k = 3 → l = [] := by
      rintro rfl
      refine List.length_eq_zero_iff.1 ?_
      injection hF with hF; injection hF with _ hF; injection hF with _ hF; omega
    obtain ⟨ms, e1, e2, e3⟩ := more_fragT hF h3 h4 h8
    have hKF := args_fragT (ks ++ ms) (by
      intro x hx
      rcases List.mem_append.1 hx with hx | hx
      · exact hg x hx
      · exact e3 x hx)
    rw [List.map_append, List.map_append, hm, hs, e1, e2] at hKF
    rw [call_txt k n nm l k4 k12 hl3, hwl, tkE, if_neg k4, if_neg k12]
    exact (hw.appF ((fragT_sign (c := 40) (by decide +kernel)).appF hKF) fun r => ends_sign (by decide +kernel) _ r).toFrag
theorem list_fragT : ∀ (l : List Ex) (d : Int) (c : Bool), fineL d c l = true → ∃ ks : List (List UInt8 × List Lx.Tok), ks.map (·.1) = l.map txtE ∧ ks.map (·.2) = tkA l ∧ ∀ m ∈ ks, FragT m.2 m.1
  | [], d, c, h => ⟨[], rfl, rfl, fun m hm => by cases hm⟩
  | x :: l, d, c, h => by
    rw [fineL, Bool.and_eq_true] at h
    have h2 := expr_fragT x d c h.1
    obtain ⟨ks, h3, h4, h5⟩ := list_fragT l d false h.2
    refine ⟨(txtE x, tkE x) :: ks, by rw [List.map_cons, List.map_cons, h3], by rw [List.map_cons, h4, tkA], ?_⟩
    intro m hm
    rcases List.mem_cons.1 hm with rfl | hm
    · exact h2
    · exact h5 m hm
end
def endT (p : Nat) : Lx.Tok := ⟨5, Lx.e0, 0, p⟩
/-- a text of tokens, scanned -/
theorem frag_lex {us : List Lx.Tok} {t : List UInt8} (h : FragT us t) (hz : t.length ≤ 2000) : ∃ l : List Lx.Tok, l.map st = us ∧ lexF (B t) = (l ++ [endT t.length], 0, 0) := by
  obtain ⟨l, hl, e⟩ := h (t.length + 1) [] 0 (.inl rfl)
  rw [List.append_nil, Lx.scanF_end] at e
  have hs : Lx.scan (B t) = Lx.okT l ++ [(⟨5, Lx.e0, 0, ((0 + t.length : Nat) : Int)⟩, true)] := by
    rw [Lx.scan_eq _ (f := t.length + 1 + us.length) (by rw [B_size]; omega), B_toList, e]
  refine ⟨l, hl, ?_⟩
  unfold lexF Lx.toksF
  rw [if_neg (by rw [B_size]; omega), hs, Lx.tell_ok]
  show (List.map _ _, _, _) = _
  rw [List.map_append, Lx.fst_ok, Nat.zero_add]
  rfl
theorem print_lex {x : Ex} (h : isRight x = true) : ∃ l : List Lx.Tok, l.map st = tkE x ∧ lexF (B (txtE x)) = (l ++ [endT (txtE x).length], 0, 0) := frag_lex (expr_fragT x 32 false (right_open h).1) (right_open h).2.2
end Go.Proofs.YtkolnkjdcncmpaaGreatDoor.Pr

/- Of an expression's tokens that very expression is parsed. -/
namespace Go.Proofs.YtkolnkjdcncmpaaGreatDoor.Pr
open Go Go.RowKit Go.Proofs.YtkolnkjdcncmpaaGreatDoor.Pm Go.Proofs.YtkolnkjdcncmpaaGreatDoor.Pl
open Go.Proofs.YtkolnkjdcncmpaaGreatDoor.Lx (lexF)
open Go.Proofs.YtkolnkjdcncmpaaGreatDoor.Q (rngE rngA txtE txtA sameE sameA formT sepA wordL moreL txtA_map)
set_option linter.unusedVariables false
set_option maxHeartbeats 1000000
theorem findW_st {t : Lx.Tok} : ∀ (n : Nat) (lo : Int), findW (st t) lo n = findW t lo n
  | 0, lo => rfl
  | n + 1, lo => by
    rw [findW, findW, findW_st n]
    rfl
theorem begin_st (t : Lx.Tok) (c : Bool) : beginK (st t) c = beginK t c := by
  unfold beginK
  rw [findW_st]
  rfl
theorem begin_wT {k : Int} {w : List UInt8} {m a : Int} (h : formT k = some (w, m, a)) (h4 : k ≠ 4) : beginK (wT k) (isCond k) = some k := by
  unfold formT at h
  split at h <;> first
    | exact absurd rfl h4
    | (cases h; done)
    | decide +kernel
theorem signP_st {c : UInt8} {s : ByteArray} {t : Lx.Tok} {r : List Lx.Tok} (h : st t = sg c) (hs : B [c] = s) : signP s (t :: r) = .ok () r := by
  have hk : t.kind = 4 := congrArg (·.kind) h
  have ht : t.text = B [c] := congrArg (·.text) h
  rw [signP, if_pos]
  unfold isSign
  rw [hk, ht, hs]
  simp
theorem takeP_st {kind n : Int} {s : ByteArray} {pred : Lx.Tok → Bool} {t : Lx.Tok} {r : List Lx.Tok} (h : st t = ⟨kind, s, n, 0⟩) (hp : pred t = true) : takeP kind pred (t :: r) = .ok t r := by
  have hk : t.kind = kind := congrArg (·.kind) h
  rw [takeP, if_pos ⟨hk, hp⟩]
theorem sepT_app : ∀ (b : Bool) (l ms : List (List Lx.Tok)), sepT b (l ++ ms) = sepT b l ++ sepT (b && l.isEmpty) ms
  | b, [], ms => by simp [sepT]
  | b, x :: l, ms => by rw [List.cons_append, sepT, sepT, sepT_app false l ms]; simp
theorem rest_tk {k n : Int} {nm w : ByteArray} {ws : List UInt8} {m a : Int} {l : List Ex} (hF : formT k = some (ws, m, a)) (k4 : k ≠ 4) (h3 : 0 ≤ n) (h4 : n ≤ m) (h6 : (l.length : Int) = a) (h8 : isNamed k nm = true) {ts r : List Lx.Tok} (hts : ts.map st = sepT ((tkA l).isEmpty) (moreT k n nm)) : restP k (ts ++ r) = .ok (n, nm) r := by
  have hm : mostP k = m := by unfold mostP formP; rw [hF]
  have hm0 : k ≠ 3 → k ≠ 5 → k ≠ 6 → k ≠ 11 → m = 0 := by
    unfold formT at hF
    split at hF <;> first
      | (intros; injection hF with hF; injection hF with _ hF; injection hF with hF _; exact hF.symm)
      | (intros; contradiction)
  have hnm : k ≠ 3 → nm = e0 := by
    intro hk
    unfold isNamed at h8
    rw [if_neg hk, beq_iff_eq, toList_data, toList_data] at h8
    have : nm.data.toList = [] := h8
    rw [← B_toList' nm, this]
    rfl
  unfold restP
  unfold moreT at hts
  by_cases k3 : k = 3
  · subst k3
    rw [if_pos rfl] at hts ⊢
    have hl : l = [] := by
      refine List.length_eq_zero_iff.1 ?_
      injection hF with hF; injection hF with _ hF; injection hF with _ hF; omega
    subst hl
    have hts : ts.map st = [⟨1, nm, 0, 0⟩] := hts
    obtain ⟨t, z, rfl, e1, e2⟩ := List.map_eq_cons_iff.1 hts
    obtain rfl := List.map_eq_nil_iff.1 e2
    have ht : t.text = nm := congrArg (·.text) e1
    have hn : n = 0 := by injection hF with hF; injection hF with _ hF; injection hF with hF _; omega
    rw [show [t] ++ r = t :: r from rfl, takeP_st e1 (by rw [ht]; exact named_name nm h8), PR.bind_ok, ht, hn]
  rw [if_neg k3] at hts ⊢
  have hem := hnm k3
  clear hnm
  by_cases k5 : k = 5
  · subst k5
    rw [if_pos rfl] at hts ⊢
    have hl : (tkA l).isEmpty = false := by
      cases l with
      | nil => injection hF with hF; injection hF with _ hF; injection hF with _ hF; rw [List.length_nil] at h6; omega
      | cons x l => rfl
    rw [hl] at hts
    have hts : ts.map st = [sg 44, ⟨3, B (textL n), n, 0⟩] := hts
    obtain ⟨t, z, rfl, e1, e2⟩ := List.map_eq_cons_iff.1 hts
    obtain ⟨t', z, rfl, e3, e4⟩ := List.map_eq_cons_iff.1 e2
    obtain rfl := List.map_eq_nil_iff.1 e4
    have ht : t'.n = n := congrArg (·.n) e3
    rw [show [t, t'] ++ r = t :: t' :: r from rfl, signP_st (s := comma) e1 rfl, PR.bind_ok]
    try dsimp only
    rw [takeP_st e3 (decide_eq_true (by rw [ht, hm]; exact h4)), PR.bind_ok, ht, hem]
  rw [if_neg k5] at hts ⊢
  by_cases k6 : k = 6
  · subst k6
    rw [if_pos (.inl rfl)] at hts
    rw [if_pos rfl]
    have hl : (tkA l).isEmpty = false := by
      cases l with
      | nil => injection hF with hF; injection hF with _ hF; injection hF with _ hF; rw [List.length_nil] at h6; omega
      | cons x l => rfl
    rw [hl] at hts
    have hts : ts.map st = [sg 44, ⟨2, B (intL n), n, 0⟩] := hts
    obtain ⟨t, z, rfl, e1, e2⟩ := List.map_eq_cons_iff.1 hts
    obtain ⟨t', z, rfl, e3, e4⟩ := List.map_eq_cons_iff.1 e2
    obtain rfl := List.map_eq_nil_iff.1 e4
    have ht : t'.n = n := congrArg (·.n) e3
    rw [show [t, t'] ++ r = t :: t' :: r from rfl, signP_st (s := comma) e1 rfl, PR.bind_ok]
    try dsimp only
    rw [takeP_st e3 (decide_eq_true (by rw [ht, hm]; exact h4)), PR.bind_ok, ht, hem]
  rw [if_neg k6]
  by_cases k11 : k = 11
  · subst k11
    rw [if_pos (.inr rfl)] at hts
    rw [if_pos rfl]
    have hl : l = [] := by
      refine List.length_eq_zero_iff.1 ?_
      injection hF with hF; injection hF with _ hF; injection hF with _ hF; omega
    subst hl
    have hts : ts.map st = [⟨2, B (intL n), n, 0⟩] := hts
    obtain ⟨t', z, rfl, e3, e4⟩ := List.map_eq_cons_iff.1 hts
    obtain rfl := List.map_eq_nil_iff.1 e4
    have ht : t'.n = n := congrArg (·.n) e3
    rw [show [t'] ++ r = t' :: r from rfl, takeP_st e3 (decide_eq_true (by rw [ht, hm]; exact h4)), PR.bind_ok, ht, hem]
  rw [if_neg k11]
  rw [if_neg (by omega)] at hts
  have hts : ts.map st = [] := hts
  obtain rfl := List.map_eq_nil_iff.1 hts
  have := hm0 k3 k5 k6 k11
  rw [hem, show n = 0 by omega]
  rfl
theorem argN_len {k : Int} {w : List UInt8} {m a : Int} {l : List Ex} (hF : formT k = some (w, m, a)) (h6 : (l.length : Int) = a) : argN k = l.length := by
  unfold argN formP
  rw [hF]
  show a.toNat = _
  omega
mutual
theorem expr_tk : ∀ (x : Ex) (d : Nat) (c : Bool), isFine d c x = true → ∀ (ts r : List Lx.Tok), ts.map st = tkE x → exprP d c (ts ++ r) = .ok x r
  | ⟨k, n, nm, l⟩, d, c, h, ts, r, hts => by
    obtain ⟨w, m, a, hF, h1, h2, h3, h4, h5, h6, h7, h8, h9⟩ := fine_open h
    obtain ⟨d, rfl⟩ : ∃ d', d = d' + 1 := ⟨d - 1, by omega⟩
    rw [show ((d + 1 : Nat) : Int) - 1 = d by omega] at h9
    have hnm : k ≠ 3 → nm = e0 := by
      intro hk
      unfold isNamed at h8
      rw [if_neg hk, beq_iff_eq, toList_data, toList_data] at h8
      have : nm.data.toList = [] := h8
      rw [← B_toList' nm, this]
      rfl
    rw [tkE] at hts
    by_cases k4 : k = 4
    · subst k4
      have hl : l = [] := by
        refine List.length_eq_zero_iff.1 ?_
        injection hF with hF; injection hF with _ hF; injection hF with _ hF; omega
      subst hl
      rw [if_pos rfl] at hts
      obtain ⟨t, z, rfl, e1, e2⟩ := List.map_eq_cons_iff.1 hts
      obtain rfl := List.map_eq_nil_iff.1 e2
      have hk : t.kind = 3 := congrArg (·.kind) e1
      have ht : t.n = n := congrArg (·.n) e1
      have hb : beginK t c = some 4 := if_pos ⟨hk, h2.symm⟩
      rw [show [t] ++ r = t :: r from rfl, exprP, hb]
      dsimp only
      rw [if_pos rfl, ht, hnm (by decide)]
    have hbk : ∀ t : Lx.Tok, st t = wT k → beginK t c = some k := fun t e => by rw [← begin_st, e, ← h2]; exact begin_wT hF k4
    by_cases k12 : k = 1 ∨ k = 2
    · have hl : l = [] := by
        refine List.length_eq_zero_iff.1 ?_
        rcases k12 with rfl | rfl <;> (injection hF with hF; injection hF with _ hF; injection hF with _ hF; omega)
      have hn : n = 0 := by rcases k12 with rfl | rfl <;> (injection hF with hF; injection hF with _ hF; injection hF with hF _; omega)
      subst hl
      rw [if_neg k4, if_pos k12] at hts
      obtain ⟨t, z, rfl, e1, e2⟩ := List.map_eq_cons_iff.1 hts
      obtain rfl := List.map_eq_nil_iff.1 e2
      rw [show [t] ++ r = t :: r from rfl, exprP, hbk t e1]
      dsimp only
      rw [if_neg k4, if_pos k12, hn, hnm (by omega)]
    rw [if_neg k4, if_neg k12] at hts
    have hts : ts.map st = wT k :: sg 40 :: (sepT true (tkA l ++ moreT k n nm) ++ [sg 41]) := hts
    rw [sepT_app, Bool.true_and] at hts
    obtain ⟨t0, ts, rfl, e0', hts⟩ := List.map_eq_cons_iff.1 hts
    obtain ⟨t1, ts, rfl, e1', hts⟩ := List.map_eq_cons_iff.1 hts
    obtain ⟨tsA, tsB, rfl, eA, eB⟩ := List.map_eq_append_iff.1 hts
    obtain ⟨tsC, tsD, rfl, eC, eD⟩ := List.map_eq_append_iff.1 eA
    obtain ⟨t2, z, rfl, e2', ez⟩ := List.map_eq_cons_iff.1 eB
    obtain rfl := List.map_eq_nil_iff.1 ez
    have HA := list_tk l d 0 (k == 10) (by rw [← h9]; congr 1; by_cases hk : k = 10 <;> simp [hk]) tsC (tsD ++ t2 :: r) eC
    rw [← argN_len hF h6] at HA
    have HR := rest_tk (w := e0) hF k4 h3 h4 h6 h8 (r := t2 :: r) eD
    rw [show t0 :: t1 :: (tsC ++ tsD ++ [t2]) ++ r = t0 :: t1 :: (tsC ++ (tsD ++ t2 :: r)) by simp, exprP, hbk t0 e0']
    dsimp only
    rw [if_neg k4, if_neg k12, signP_st (s := openS) e1' rfl, PR.bind_ok]
    try dsimp only
    rw [HA, PR.bind_ok]
    try dsimp only
    rw [HR, PR.bind_ok]
    try dsimp only
    rw [signP_st (s := shutS) e2' rfl, PR.bind_ok]
theorem list_tk : ∀ (l : List Ex) (d i : Nat) (b : Bool), fineL d (b && (i == 0)) l = true → ∀ (ts r : List Lx.Tok), ts.map st = sepT (i == 0) (tkA l) → argsP (exprP d) b l.length i (ts ++ r) = .ok l r
  | [], d, i, b, h, ts, r, hts => by
    rw [tkA] at hts
    have hts : ts.map st = [] := by rw [hts]; unfold sepT; rfl
    obtain rfl := List.map_eq_nil_iff.1 hts
    rfl
  | x :: l, d, i, b, h, ts, r, hts => by
    rw [fineL, Bool.and_eq_true] at h
    have ih1 := expr_tk x d (b && (i == 0)) h.1
    have ih2 := list_tk l d (i + 1) b (by rw [show ((i + 1) == 0) = false from rfl, Bool.and_false]; exact h.2)
    rw [tkA] at hts
    rw [List.length_cons, argsP]
    by_cases hi : i = 0
    · subst hi
      have hts : ts.map st = tkE x ++ sepT false (tkA l) := hts
      obtain ⟨t1, t2, rfl, e1, e2⟩ := List.map_eq_append_iff.1 hts
      rw [if_pos rfl, PR.bind_ok, List.append_assoc, ih1 t1 _ e1, PR.bind_ok]
      try dsimp only
      rw [ih2 t2 r e2, PR.bind_ok]
    · rw [show (i == 0) = false from beq_eq_false_iff_ne.2 hi] at hts
      have hts : ts.map st = sg 44 :: (tkE x ++ sepT false (tkA l)) := hts
      obtain ⟨t0, ts, rfl, e0', hts⟩ := List.map_eq_cons_iff.1 hts
      obtain ⟨t1, t2, rfl, e1, e2⟩ := List.map_eq_append_iff.1 hts
      rw [if_neg hi, List.cons_append, signP_st (s := comma) e0' rfl, PR.bind_ok]
      try dsimp only
      rw [List.append_assoc, ih1 t1 _ e1, PR.bind_ok]
      try dsimp only
      rw [ih2 t2 r e2, PR.bind_ok]
end
/-- THE STAGE'S THEOREM -/
theorem parse_print {x : Ex} (h : isRight x = true) : parseP (B (txtE x)) = (x, 0, 0) := by
  obtain ⟨l, hl, hx⟩ := print_lex h
  unfold parseP
  rw [hx]
  dsimp only
  rw [if_neg (by simp)]
  unfold finP
  rw [expr_tk x 32 false (right_open h).1 l _ hl]
  exact if_pos rfl
end Go.Proofs.YtkolnkjdcncmpaaGreatDoor.Pr

/- Places and numbers of what is parsed. -/
namespace Go.Proofs.YtkolnkjdcncmpaaGreatDoor.Pr
open Go Go.RowKit Go.Proofs.YtkolnkjdcncmpaaGreatDoor.Pm Go.Proofs.YtkolnkjdcncmpaaGreatDoor.Pl
open Go.Proofs.YtkolnkjdcncmpaaGreatDoor.Lx (lexF)
open Go.Proofs.YtkolnkjdcncmpaaGreatDoor.Q (rngE rngA txtE txtA sameE sameA)
set_option linter.unusedVariables false
set_option maxHeartbeats 1000000
theorem part_n (p : ByteArray) : I64 (Lx.partF p).1.n := by
  unfold Lx.partF
  split
  · exact ⟨(show (-9223372036854775808 : Int) ≤ 0 by decide), (show (0 : Int) ≤ 9223372036854775807 by decide)⟩
  · split
    · show I64 (countL p.data.toList 100000)
      rcases countL_cases p.data.toList 100000 with h | ⟨n, h, -, hn, -⟩
      · rw [h]; exact ⟨by decide, by decide⟩
      · rw [h]; exact ⟨by omega, by omega⟩
    · show I64 (parseL p.data.toList).1
      rcases parseL_cases p.data.toList with h | ⟨a, ha, -, h⟩
      · rw [h]; exact ⟨by decide, by decide⟩
      · rw [h]
        unfold okA at ha
        exact ⟨by show _ ≤ a; omega, by show a ≤ _; omega⟩
theorem first_n (l : List UInt8) : I64 (Lx.firstF l).1.n := by
  cases l with
  | nil => exact ⟨by decide, by decide⟩
  | cons c l =>
    rw [Lx.firstF]
    split
    · exact ⟨(show (-9223372036854775808 : Int) ≤ 0 by decide), (show (0 : Int) ≤ 9223372036854775807 by decide)⟩
    · exact part_n _
def TokR (z : Int) (t : Lx.Tok) : Prop := I64 t.n ∧ 0 ≤ t.place ∧ t.place ≤ z
theorem scan_r : ∀ (f : Nat) (l : List UInt8) (p : Nat) (z : Int), (p : Int) + l.length ≤ z → ∀ x ∈ Lx.scanF f l p, TokR z x.1
  | 0, l, p, z, hz, x, h => by cases h
  | f + 1, l, p, z, hz, x, h => by
    rw [Lx.scanF] at h
    try dsimp only at h
    have hbl := Lx.runB_le Lx.blanksB l
    obtain ⟨b, hb⟩ : ∃ b, Lx.runB Lx.blanksB l = b := ⟨_, rfl⟩
    rw [hb] at h hbl
    obtain ⟨m, hm⟩ : ∃ m, l.drop b = m := ⟨_, rfl⟩
    rw [hm] at h
    have hml : m.length = l.length - b := by rw [← hm, List.length_drop]
    have hn := first_n m
    have hT : TokR z ⟨(Lx.firstF m).1.kind, (Lx.firstF m).1.text, (Lx.firstF m).1.n, ((p + b : Nat) : Int)⟩ := ⟨hn, by show (0 : Int) ≤ ((p + b : Nat) : Int); omega, by show ((p + b : Nat) : Int) ≤ z; omega⟩
    split at h
    · rw [List.mem_singleton] at h
      subst h
      exact hT
    · rename_i hc
      have h2 : (Lx.firstF m).2 = true := by
        cases h2 : (Lx.firstF m).2 with
        | true => rfl
        | false => exact absurd (.inl h2) hc
      obtain ⟨s1, s2⟩ := Lx.first_fits m h2 (fun h => hc (.inr h))
      rcases List.mem_cons.1 h with rfl | h
      · exact hT
      · exact scan_r f _ _ z (by rw [List.length_drop]; omega) x h
theorem tell_mem : ∀ (l : List (Lx.Tok × Bool)) (p : Int), Lx.tellF l = some p → ∃ x ∈ l, x.1.place = p
  | [], p, h => by cases h
  | (t, true) :: l, p, h => by
    obtain ⟨x, hx, hp⟩ := tell_mem l p h
    exact ⟨x, List.mem_cons_of_mem _ hx, hp⟩
  | (t, false) :: l, p, h => by
    injection h with h
    exact ⟨_, List.mem_cons_self, h⟩
theorem lex_r (s : ByteArray) : (∀ t ∈ (lexF s).1, TokR s.size t) ∧ 0 ≤ (lexF s).2.2 ∧ (lexF s).2.2 ≤ s.size := by
  have hS : ∀ x ∈ Lx.scan s, TokR s.size x.1 := scan_r _ _ _ _ (by rw [Lx.sz_len]; omega)
  unfold lexF
  split
  · rename_i hz
    exact ⟨(fun t ht => by simp at ht), (show (0 : Int) ≤ 2000 by omega), (show (2000 : Int) ≤ s.size by omega)⟩
  · cases h : Lx.tellF (Lx.scan s) with
    | some p =>
      obtain ⟨x, hx, hp⟩ := tell_mem _ _ h
      have := hS x hx
      rw [← hp]
      exact ⟨(fun t ht => by simp at ht), this.2.1, this.2.2⟩
    | none =>
      refine ⟨fun t ht => ?_, Int.le_refl _, by show (0 : Int) ≤ _; omega⟩
      obtain ⟨x, hx, rfl⟩ := List.mem_map.1 ht
      exact hS x hx
/-- what a parser tells of tokens of which S holds: a place is one of theirs, or nought -/
def Plc {α : Type} (S : Lx.Tok → Prop) (A : α → Prop) (R : PR α) : Prop := match R with
  | .ok a r => A a ∧ ∀ t ∈ r, S t
  | .er e n => (e = 0 → n = 0) ∧ (n = 0 ∨ ∃ t, S t ∧ t.place = n)
theorem Plc.bind {S : Lx.Tok → Prop} {α β : Type} {A : α → Prop} {B : β → Prop} {R : PR α} {f : α → List Lx.Tok → PR β} (h : Plc S A R) (hf : ∀ a r, A a → (∀ t ∈ r, S t) → Plc S B (f a r)) : Plc S B (R.bind f) := by
  cases R with
  | ok a r => exact hf a r h.1 h.2
  | er e n => exact h
theorem takeP_plc {S : Lx.Tok → Prop} (kind : Int) (pred : Lx.Tok → Bool) (l : List Lx.Tok) (hl : ∀ t ∈ l, S t) : Plc S S (takeP kind pred l) := by
  cases l with
  | nil => exact ⟨fun _ => rfl, .inl rfl⟩
  | cons t r =>
    rw [takeP]
    split
    · exact ⟨hl t List.mem_cons_self, fun u hu => hl u (List.mem_cons_of_mem _ hu)⟩
    · exact ⟨(fun h => absurd h (by decide)), .inr ⟨t, hl t List.mem_cons_self, rfl⟩⟩
theorem signP_plc {S : Lx.Tok → Prop} (s : ByteArray) (l : List Lx.Tok) (hl : ∀ t ∈ l, S t) : Plc S (fun _ => True) (signP s l) := by
  cases l with
  | nil => exact ⟨fun _ => rfl, .inl rfl⟩
  | cons t r =>
    rw [signP]
    split
    · exact ⟨trivial, fun u hu => hl u (List.mem_cons_of_mem _ hu)⟩
    · exact ⟨(fun h => absurd h (by decide)), .inr ⟨t, hl t List.mem_cons_self, rfl⟩⟩
theorem i64_0 : I64 0 := ⟨by decide, by decide⟩
theorem restP_plc {S : Lx.Tok → Prop} (hS : ∀ t, S t → I64 t.n) (k : Int) (l : List Lx.Tok) (hl : ∀ t ∈ l, S t) : Plc S (fun p => I64 p.1) (restP k l) := by
  have two : ∀ (kind : Int) (pred : Lx.Tok → Bool) (l : List Lx.Tok), (∀ t ∈ l, S t) → Plc S (fun p : Int × ByteArray => I64 p.1) ((takeP kind pred l).bind fun t l => .ok (t.n, e0) l) := fun kind pred l hl => (takeP_plc kind pred l hl).bind fun t r ht hr => ⟨hS t ht, hr⟩
  unfold restP
  split
  · exact (takeP_plc _ _ l hl).bind fun t r ht hr => ⟨i64_0, hr⟩
  · split
    · exact (signP_plc _ l hl).bind fun _ r _ hr => two _ _ r hr
    · split
      · exact (signP_plc _ l hl).bind fun _ r _ hr => two _ _ r hr
      · split
        · exact two _ _ l hl
        · exact ⟨i64_0, hl⟩
theorem argN_le (k : Int) : argN k ≤ 3 := by
  unfold argN formP
  cases hF : Q.formT k with
  | none => exact Nat.zero_le _
  | some x =>
    obtain ⟨w, m, a⟩ := x
    obtain ⟨_, ha3, _, _⟩ := formT_args k w m a hF
    show a.toNat ≤ 3
    omega
theorem args_plc {S : Lx.Tok → Prop} {d : Nat} (ih : ∀ (c : Bool) (l : List Lx.Tok), (∀ t ∈ l, S t) → Plc S (fun x => rngE x = true) (exprP d c l)) (b : Bool) : ∀ (n i : Nat) (l : List Lx.Tok), (∀ t ∈ l, S t) → Plc S (fun xs => xs.length = n ∧ ∀ x ∈ xs, rngE x = true) (argsP (exprP d) b n i l)
  | 0, i, l, hl => ⟨⟨rfl, fun x hx => by cases hx⟩, hl⟩
  | n + 1, i, l, hl => by
    rw [argsP]
    have h1 : Plc S (fun _ => True) (if i = 0 then PR.ok () l else signP comma l) := by
      split
      · exact ⟨trivial, hl⟩
      · exact signP_plc _ l hl
    refine h1.bind fun _ r _ hr => ?_
    refine (ih _ r hr).bind fun x r hx hr => ?_
    refine (args_plc ih b n (i + 1) r hr).bind fun xs r hxs hr => ?_
    exact ⟨⟨by rw [List.length_cons, hxs.1], fun y hy => (List.mem_cons.1 hy).elim (fun e => by rw [e]; exact hx) (fun h => hxs.2 y h)⟩, hr⟩
theorem expr_plc {S : Lx.Tok → Prop} (hS : ∀ t, S t → I64 t.n) : ∀ (d : Nat) (c : Bool) (l : List Lx.Tok), (∀ t ∈ l, S t) → Plc S (fun x => rngE x = true) (exprP d c l)
  | d, c, [], hl => by rw [exprP]; exact ⟨fun _ => rfl, .inl rfl⟩
  | 0, c, t :: r, hl => by
    rw [exprP]
    exact ⟨(fun h => absurd h (by decide)), .inr ⟨t, hl t List.mem_cons_self, rfl⟩⟩
  | d + 1, c, t :: r, hl => by
    have ih := expr_plc hS d
    have hr : ∀ u ∈ r, S u := fun u hu => hl u (List.mem_cons_of_mem _ hu)
    rw [exprP]
    cases beginK t c with
    | none => exact ⟨(fun h => absurd h (by decide)), .inr ⟨t, hl t List.mem_cons_self, rfl⟩⟩
    | some k =>
      dsimp only
      split
      · exact ⟨rng_node (hS t (hl t List.mem_cons_self)) (by simp) (fun x hx => by cases hx), hr⟩
      · split
        · exact ⟨rng_node i64_0 (by simp) (fun x hx => by cases hx), hr⟩
        · refine (signP_plc _ r hr).bind fun _ r _ hr => ?_
          refine (args_plc ih _ _ _ r hr).bind fun xs r hxs hr => ?_
          refine (restP_plc hS k r hr).bind fun p r hp hr => ?_
          refine (signP_plc _ r hr).bind fun _ r _ hr => ?_
          exact ⟨rng_node hp (by rw [hxs.1]; have := argN_le k; omega) hxs.2, hr⟩
/-- what is parsed has Go's own numbers; what is not, is told at a place of the text -/
theorem parseP_facts (s : ByteArray) : rngE (parseP s).1 = true ∧ 0 ≤ (parseP s).2.2 ∧ (parseP s).2.2 ≤ s.size ∧ ((parseP s).2.1 = 0 → (parseP s).2.2 = 0) ∧ ((parseP s).2.1 ≠ 0 → (parseP s).1 = zE) := by
  obtain ⟨h1, h2, h3⟩ := lex_r s
  have hz : rngE zE = true := by decide
  unfold parseP
  split
  · rename_i hne
    exact ⟨hz, h2, h3, fun h => absurd h hne, fun _ => rfl⟩
  · have hP := expr_plc (S := TokR s.size) (fun t h => h.1) 32 false (lexF s).1 h1
    have hs : (0 : Int) ≤ s.size := by omega
    unfold finP
    cases hx : exprP 32 false (lexF s).1 with
    | er e n =>
      rw [hx] at hP
      obtain ⟨p1, p2⟩ := hP
      dsimp only
      refine ⟨hz, ?_, ?_, p1, fun _ => rfl⟩
      · rcases p2 with rfl | ⟨t, ht, rfl⟩
        · exact Int.le_refl _
        · exact ht.2.1
      · rcases p2 with rfl | ⟨t, ht, rfl⟩
        · exact hs
        · exact ht.2.2
    | ok x l =>
      rw [hx] at hP
      obtain ⟨p1, p2⟩ := hP
      cases l with
      | nil => exact ⟨hz, Int.le_refl _, hs, fun _ => rfl, fun _ => rfl⟩
      | cons t l =>
        dsimp only
        split
        · exact ⟨p1, Int.le_refl _, hs, fun _ => rfl, fun h => absurd rfl h⟩
        · have ht := p2 t List.mem_cons_self
          exact ⟨hz, ht.2.1, ht.2.2, fun h => absurd (show (80 : Int) = 0 from h) (by decide), fun _ => rfl⟩
end Go.Proofs.YtkolnkjdcncmpaaGreatDoor.Pr
