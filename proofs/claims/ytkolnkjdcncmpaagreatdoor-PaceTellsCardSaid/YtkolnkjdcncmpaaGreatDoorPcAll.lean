/- Texts that are merged: RowB, PcA, PcC, PcD, PcE, PcF, PcG, PcH, PcI. -/
import Derived.Test.YtkolnkjdcncmpaaGreatDoorPmBll
import Derived.Test.YtkolnkjdcncmpaaGreatDoorPrBll
/- A row's array of whole numbers, as a value of the pure machine. -/
namespace Go.Proofs.YtkolnkjdcncmpaaGreatDoor.Pm
open Go Go.RowKit Go.ChangeShapes Go.WideShapes
set_option linter.unusedVariables false
def encI (z : List Int) : List CV := z.map fun n => .int .i64 n
theorem okWide_arr1 {P : Program} {w : World} {r : Reach} {base : Nat} {t i : TypeId} {m : Nat} {v : Value} (ht : P.underlying t = some (.array m i)) (hm : P.cellsOf t = m) (h : Value.okWide P w r base t v) : ∃ cs : Array Value, v = .agg cs ∧ cs.size = m := by
  unfold Value.okWide at h
  rw [ht] at h
  obtain ⟨cs, h1, h2, -⟩ := h
  exact ⟨cs, h1, by rw [h2, hm]⟩
theorem open_array1 {H : Type} {enc : TypeId × Value → H} {P : Program} {w : World} {base : Nat} {spare : Nat → Bool} {held : Bool} {t i : TypeId} {m fuel : Nat} {cs : Array Value} {x : DataW H × List MemPlace}
    (ht : P.underlying t = some (.array m i)) (hi : P.underlying i = some (.int .i64)) (h1 : P.cellsOf i = 1) (hs : cs.size = m) (h : DataW.trod enc P w base spare held fuel t (Value.agg cs).cells.toList = some x) :
    ∃ ys : List Int, ys.length = m ∧ (∀ n ∈ ys, I64 n) ∧ cs = (ys.map fun n => Value.int .i64 n).toArray := by
  have h' : DataW.trod enc P w base spare held fuel t cs.toList = some x := h
  obtain ⟨xs, m', -, -, hcl, hxl, hat⟩ := DataW.trod_array ht h'
  have hsl : cs.toList.length = m := by simpa using hs
  have each : ∀ j, j < m → ∃ n : Int, I64 n ∧ cs.toList[j]? = some (.int .i64 n) := by
    intro j hj
    have := hat j hj
    rw [h1, Nat.mul_one, List.getElem?_eq_getElem (by omega)] at this
    obtain ⟨n, hn, -, hw⟩ := DataW.trod_int hi this
    refine ⟨n, I64.of hw, ?_⟩
    have := congrArg (·[0]?) hn
    simpa [List.getElem?_take] using this
  refine ⟨cs.toList.map fun v => intO (some v), by simpa using hs, ?_, ?_⟩
  · intro n hn
    obtain ⟨v, hv, rfl⟩ := List.mem_map.1 hn
    obtain ⟨j, hj⟩ := List.mem_iff_getElem?.1 hv
    obtain ⟨z, hz, hc⟩ := each j (by have := (List.getElem?_eq_some_iff.1 hj).1; omega)
    rw [hj] at hc
    injection hc with hc
    subst hc
    exact hz
  · apply Array.ext'
    apply List.ext_getElem?
    intro j
    rw [List.map_map, List.getElem?_map]
    by_cases hj : j < m
    · obtain ⟨z, hz, hc⟩ := each j hj
      rw [hc]
      rfl
    · rw [List.getElem?_eq_none (by omega)]
      rfl
theorem rep_arr {w : World} {ok : Nat → Nat → Prop} (ys : List Int) : Rep w ok [] [] (.agg (ys.map fun n => Value.int .i64 n).toArray) (.agg (encI ys)) := by
  refine .agg _ _ ⟨by unfold encI; simp, fun i v p hv hp => ?_⟩
  unfold encI at hp
  rw [List.getElem?_map] at hp
  have hv : (ys.map fun n => Value.int .i64 n)[i]? = some v := hv
  rw [List.getElem?_map] at hv
  cases hq : ys[i]? with
  | none => rw [hq] at hv; cases hv
  | some n =>
    rw [hq] at hv hp
    have hv : some (Value.int .i64 n) = some v := hv
    have hp : some (CV.int .i64 n) = some p := hp
    injection hv with hv
    injection hp with hp
    subst hv; subst hp
    exact .int _ _
end Go.Proofs.YtkolnkjdcncmpaaGreatDoor.Pm

/- Pace and config, plainly: what may be, and what is decided. -/
namespace Go.Proofs.YtkolnkjdcncmpaaGreatDoor.Pc
open Go Go.RowKit Go.Proofs.YtkolnkjdcncmpaaGreatDoor.Pm Go.Proofs.YtkolnkjdcncmpaaGreatDoor.Pl
open Go.Proofs.YtkolnkjdcncmpaaGreatDoor.Pr (parseP)
set_option linter.unusedVariables false
set_option maxHeartbeats 1000000
structure Cfg where
  fl : Int
  ce : Int
  mp : Int
  co : Int
  ba : Int
  tx : ByteArray
structure Pace where
  last : Int
  tick : Int
  ring : List Int
  swing : Int
def p0 : Pace := ⟨0, 0, [], 0⟩
def lowF (c : Cfg) : Int := max c.fl c.mp
def inI (x a b : Int) : Bool := decide (a ≤ x) && decide (x ≤ b)
theorem inI_iff {x a b : Int} : inI x a b = true ↔ a ≤ x ∧ x ≤ b := by unfold inI; simp
def numsB (c : Cfg) : Bool := inI c.fl 1 c.ce && (inI c.ce c.fl 1000000000000 && (inI c.mp 0 c.ce && (inI c.co 0 1048576 && inI c.ba 0 1000000000000)))
def errF (c : Cfg) : Int := if numsB c = true then (if (parseP c.tx).2.1 = 0 then (if isRight (parseP c.tx).1 = true then 0 else 1) else (parseP c.tx).2.1) else 10
def okC (c : Cfg) : Bool := decide (errF c = 0)
def withinB (c : Cfg) (p : Int) : Bool := okC c && (decide (lowF c ≤ p) && decide (p ≤ c.ce))
def clampI (a lo hi : Int) : Int := max lo (min a hi)
def laterI (t b : Int) : Int := min (clampI t 0 1099511627776 + clampI b 0 1099511627776) 1099511627776
def oddB (l : List Int) : Bool := l.any fun x => decide (x < 1) || decide (1000000000000 < x)
def rightP (p : Pace) : Bool := if p.last = 0 then decide (p.tick = 0) && (decide (p.ring.length = 0) && decide (p.swing = 0))
  else (inI p.tick 0 1099511627776 && (inI p.swing 0 6 && !oddB p.ring)) && (decide (1 ≤ p.ring.length) && (decide (p.ring.length ≤ 3) && decide (p.ring[p.ring.length - 1]? = some p.last)))
def readyI (c : Cfg) (p : Pace) : Int := if p.last = 0 then 0 else laterI p.tick (clampI c.co 0 1099511627776 * 2 ^ (clampI p.swing 0 6).toNat)
def nearB (c : Cfg) (p : Pace) (t : Int) : Bool := decide (t = p.last) || (decide (max (t - p.last) (p.last - t) ≤ c.ba) && withinB c p.last)
def swingsB (r : List Int) (t : Int) : Bool := decide (r.length = 3) && (decide (r[1]? = some t) && decide (r[0]? = r[2]?))
def stopB (c : Cfg) (p : Pace) (t now : Int) : Bool := !withinB c t || (!rightP p || (decide (now < 0) || (decide (1099511627776 < now) || (decide (now < readyI c p) || nearB c p t))))
def nextP (p : Pace) (t now : Int) : Pace := ⟨t, now, p.ring.drop (p.ring.length - 2) ++ [t], if swingsB p.ring t = true then min (p.swing + 1) 6 else 0⟩
def decideF (c : Cfg) (p : Pace) (t now : Int) : Pace × Bool := if stopB c p t now = true then (p, false) else (nextP p t now, true)

/-- a config that may be -/
structure Good (c : Cfg) : Prop where
  ok : okC c = true
  fl : 1 ≤ c.fl
  fc : c.fl ≤ c.ce
  cm : c.ce ≤ 1000000000000
  m0 : 0 ≤ c.mp
  mc : c.mp ≤ c.ce
  c0 : 0 ≤ c.co
  cc : c.co ≤ 1048576
  b0 : 0 ≤ c.ba
  bm : c.ba ≤ 1000000000000
theorem good_of {c : Cfg} (h : okC c = true) : Good c := by
  have h' := h
  unfold okC errF at h'
  have h' := of_decide_eq_true h'
  split at h'
  · rename_i hn
    unfold numsB at hn
    simp only [Bool.and_eq_true, inI_iff] at hn
    obtain ⟨⟨h1, h2⟩, ⟨h3, h4⟩, ⟨h5, h6⟩, ⟨h7, h8⟩, h9, h10⟩ := hn
    exact ⟨h, h1, h2, h4, h5, h6, h7, h8, h9, h10⟩
  · omega
theorem Good.low {c : Cfg} (G : Good c) : 1 ≤ lowF c ∧ c.fl ≤ lowF c ∧ c.mp ≤ lowF c ∧ lowF c ≤ c.ce := by
  obtain ⟨_, _, _, _, _, _, _, _, _, _⟩ := G
  unfold lowF; omega
theorem Good.within {c : Cfg} (G : Good c) {t : Int} : withinB c t = true ↔ lowF c ≤ t ∧ t ≤ c.ce := by
  unfold withinB; rw [G.ok]; simp
theorem pow6 {k : Nat} (h : k ≤ 6) : (1 : Int) ≤ 2 ^ k ∧ (2 : Int) ^ k ≤ 64 := by
  have : k = 0 ∨ k = 1 ∨ k = 2 ∨ k = 3 ∨ k = 4 ∨ k = 5 ∨ k = 6 := by omega
  rcases this with rfl | rfl | rfl | rfl | rfl | rfl | rfl <;> decide
theorem cool_rng {co : Int} {k : Nat} (h0 : 0 ≤ co) (h1 : co ≤ 1048576) (hk : k ≤ 6) : co ≤ co * 2 ^ k ∧ co * 2 ^ k ≤ 67108864 := by
  obtain ⟨a, b⟩ := pow6 hk
  obtain ⟨q, hq⟩ : ∃ q : Int, 2 ^ k = q := ⟨_, rfl⟩
  rw [hq] at a b ⊢
  have h2 : co * 1 ≤ co * q := Int.mul_le_mul_of_nonneg_left a h0
  have h3 : co * q ≤ co * 64 := Int.mul_le_mul_of_nonneg_left b h0
  omega
theorem ready_rng {c : Cfg} (G : Good c) {p : Pace} (h0 : p.last ≠ 0) (t0 : 0 ≤ p.tick) (t1 : p.tick ≤ 1000000000) (s0 : 0 ≤ p.swing) (s6 : p.swing ≤ 6) : readyI c p = p.tick + c.co * 2 ^ p.swing.toNat ∧ p.tick + c.co ≤ readyI c p ∧ readyI c p ≤ p.tick + 67108864 := by
  have h1 := G.c0
  have h2 := G.cc
  have e1 : clampI c.co 0 1099511627776 = c.co := by unfold clampI; omega
  have e2 : clampI p.swing 0 6 = p.swing := by unfold clampI; omega
  obtain ⟨r1, r2⟩ := cool_rng h1 h2 (k := p.swing.toNat) (by omega)
  have : readyI c p = p.tick + c.co * 2 ^ p.swing.toNat := by
    unfold readyI
    rw [if_neg h0, e1, e2]
    unfold laterI clampI
    omega
  omega
/-- what a play has come to -/
structure PI (c : Cfg) (p : Pace) (out : List (Int × Int)) (now : Int) : Prop where
  a : out = [] → p = p0
  b : ∀ x, out[out.length - 1]? = some x → p.last = x.1 ∧ p.tick = x.2
  r : p.ring = (out.map Prod.fst).drop (out.length - 3)
  pr : ∀ x ∈ out, lowF c ≤ x.1 ∧ x.1 ≤ c.ce
  s0 : 0 ≤ p.swing
  s6 : p.swing ≤ 6
  sn : p.swing ≤ max ((out.length : Int) - 3) 0
  t0 : 0 ≤ p.tick
  tn : p.tick ≤ now
  tk : ∀ x ∈ out, 0 ≤ x.2 ∧ x.2 ≤ now
  ch : ∀ (i : Nat) x y, out[i]? = some x → out[i + 1]? = some y → c.co ≤ y.2 - x.2 ∧ y.1 ≠ x.1 ∧ c.ba < max (y.1 - x.1) (x.1 - y.1)
theorem PI.start (c : Cfg) : PI c p0 [] 0 := by
  refine ⟨fun _ => rfl, fun x h => by simp at h, rfl, fun x h => by simp at h, by decide, by decide, by decide, by decide, by decide, fun x h => by simp at h, fun i x y h => by simp at h⟩
theorem PI.mono {c : Cfg} {p : Pace} {out : List (Int × Int)} {now now' : Int} (h : PI c p out now) (hn : now ≤ now') : PI c p out now' :=
  ⟨h.a, h.b, h.r, h.pr, h.s0, h.s6, h.sn, h.t0, Int.le_trans h.tn hn, fun x hx => ⟨(h.tk x hx).1, Int.le_trans (h.tk x hx).2 hn⟩, h.ch⟩
theorem PI.lastIn {c : Cfg} (G : Good c) {p : Pace} {out : List (Int × Int)} {now : Int} (h : PI c p out now) : (out = [] ∧ p = p0) ∨ (out ≠ [] ∧ out[out.length - 1]? = some (p.last, p.tick) ∧ lowF c ≤ p.last ∧ p.last ≤ c.ce) := by
  by_cases h0 : out = []
  · exact .inl ⟨h0, h.a h0⟩
  · have hl : out.length ≠ 0 := fun e => h0 (List.eq_nil_of_length_eq_zero e)
    obtain ⟨x, hx⟩ : ∃ x, out[out.length - 1]? = some x := ⟨_, List.getElem?_eq_getElem (by omega)⟩
    obtain ⟨e1, e2⟩ := h.b x hx
    have := h.pr x (List.mem_of_getElem? hx)
    exact .inr ⟨h0, by rw [hx, e1, e2], by rw [e1]; exact this.1, by rw [e1]; exact this.2⟩
theorem PI.ringLen {c : Cfg} {p : Pace} {out : List (Int × Int)} {now : Int} (h : PI c p out now) : p.ring.length = min out.length 3 := by
  rw [h.r, List.length_drop, List.length_map]; omega
theorem PI.ringGet {c : Cfg} {p : Pace} {out : List (Int × Int)} {now : Int} (h : PI c p out now) (i : Nat) : p.ring[i]? = (out[out.length - 3 + i]?).map Prod.fst := by
  rw [h.r, List.getElem?_drop, List.getElem?_map]
theorem PI.right {c : Cfg} (G : Good c) {p : Pace} {out : List (Int × Int)} {now : Int} (h : PI c p out now) (hn : now ≤ 1000000000) : rightP p = true := by
  have hc := G.cm
  have hlo := G.low
  rcases h.lastIn G with ⟨h0, rfl⟩ | ⟨h0, hl, h1, h2⟩
  · rfl
  · have hz : out.length ≠ 0 := fun e => h0 (List.eq_nil_of_length_eq_zero e)
    have hne : p.last ≠ 0 := by omega
    have hrl := h.ringLen
    unfold rightP
    rw [if_neg hne]
    simp only [Bool.and_eq_true, inI_iff, decide_eq_true_eq, Bool.not_eq_true']
    refine ⟨⟨⟨h.t0, by have := h.tn; omega⟩, ⟨h.s0, h.s6⟩, ?_⟩, by omega, by omega, ?_⟩
    · unfold oddB
      rw [List.any_eq_false]
      intro x hx
      rw [h.r] at hx
      obtain ⟨y, hy, rfl⟩ := List.mem_map.1 (List.mem_of_mem_drop hx)
      have := h.pr y hy
      simp
      omega
    · rw [h.ringGet, hrl, show out.length - 3 + (min out.length 3 - 1) = out.length - 1 by omega, hl]
      rfl
/-- what hangs a decision -/
def holdB (c : Cfg) (p : Pace) (t : Int) : Bool := decide (0 < p.last) && decide (max (t - p.last) (p.last - t) ≤ c.ba)
theorem PI.stop {c : Cfg} (G : Good c) {p : Pace} {out : List (Int × Int)} {now : Int} (h : PI c p out now) (hn : now ≤ 1000000000) {t : Int} (ht : lowF c ≤ t ∧ t ≤ c.ce) {k : Int} (k0 : 0 ≤ k) (k1 : k ≤ 1099511627776) : stopB c p t k = (decide (k < readyI c p) || holdB c p t) := by
  have hw := G.within.2 ht
  have hr := h.right G hn
  have hlo := G.low
  have hb := G.b0
  have hnear : nearB c p t = holdB c p t := by
    unfold nearB holdB
    rcases h.lastIn G with ⟨h0, rfl⟩ | ⟨h0, hl, h1, h2⟩
    · have : withinB c p0.last = false := by
        rw [← Bool.not_eq_true, G.within]
        show ¬ (_ ≤ (0 : Int) ∧ _)
        omega
      rw [this, Bool.and_false, Bool.or_false]
      show decide (t = 0) = (decide ((0 : Int) < 0) && _)
      rw [decide_eq_false (by omega), decide_eq_false (by omega), Bool.false_and]
    · rw [G.within.2 ⟨h1, h2⟩, Bool.and_true, decide_eq_true (show 0 < p.last by omega), Bool.true_and]
      by_cases e : t = p.last
      · rw [decide_eq_true e, Bool.true_or, eq_comm]
        exact decide_eq_true (by omega)
      · rw [decide_eq_false e, Bool.false_or]
  unfold stopB
  rw [hw, hr, hnear, decide_eq_false (show ¬ k < 0 by omega), decide_eq_false (show ¬ 1099511627776 < k by omega)]
  simp
theorem nextRing {out : List (Int × Int)} {t k : Int} {r : List Int} (h : r = (out.map Prod.fst).drop (out.length - 3)) : r.drop (r.length - 2) ++ [t] = ((out ++ [(t, k)]).map Prod.fst).drop ((out ++ [(t, k)]).length - 3) := by
  have hl : r.length = min out.length 3 := by rw [h, List.length_drop, List.length_map]; omega
  rw [hl, h, List.drop_drop, List.map_append, List.length_append, List.length_singleton, List.map_singleton]
  rw [List.drop_append_of_le_length (by rw [List.length_map]; omega)]
  congr 2
  omega
theorem nextP_swing (p : Pace) (t k : Int) : (nextP p t k).swing = if swingsB p.ring t = true then min (p.swing + 1) 6 else 0 := rfl
theorem PI.step {c : Cfg} (G : Good c) {p : Pace} {out : List (Int × Int)} {now : Int} (h : PI c p out now) {k : Int} (hk : now ≤ k) (hn : k ≤ 1000000000) (h0 : 0 ≤ now) {t : Int} (ht : lowF c ≤ t ∧ t ≤ c.ce) :
    (stopB c p t k = true ∧ PI c p out k) ∨ (stopB c p t k = false ∧ PI c (nextP p t k) (out ++ [(t, k)]) k) := by
  have hs := h.stop G (by omega) ht (k := k) (by omega) (by omega)
  cases hb : stopB c p t k with
  | true => exact .inl ⟨rfl, h.mono hk⟩
  | false =>
    refine .inr ⟨rfl, ?_⟩
    rw [hb] at hs
    have hs := hs.symm
    rw [Bool.or_eq_false_iff] at hs
    obtain ⟨hs1, hs2⟩ := hs
    have hs1 := of_decide_eq_false hs1
    have hlo := G.low
    refine ⟨fun e => by simp at e, fun x hx => ?_, ?_, fun x hx => ?_, ?_, ?_, ?_, by show 0 ≤ k; omega, Int.le_refl _, fun x hx => ?_, fun i x y hx hy => ?_⟩
    · rw [List.length_append, List.length_singleton, Nat.add_sub_cancel, List.getElem?_append_right (Nat.le_refl _), Nat.sub_self] at hx
      have hx : some (t, k) = some x := hx
      injection hx with hx
      subst hx
      exact ⟨rfl, rfl⟩
    · exact nextRing h.r
    · rcases List.mem_append.1 hx with hx | hx
      · exact h.pr x hx
      · rw [List.mem_singleton] at hx; subst hx; exact ht
    · rw [nextP_swing]
      have := h.s0
      split <;> omega
    · rw [nextP_swing]
      split <;> omega
    · rw [nextP_swing]
      have h1 := h.sn
      have h2 := h.ringLen
      rw [List.length_append, List.length_singleton]
      split
      · rename_i hsw
        unfold swingsB at hsw
        have := (Bool.and_eq_true _ _).mp hsw
        have := of_decide_eq_true this.1
        push_cast
        omega
      · omega
    · rcases List.mem_append.1 hx with hx | hx
      · have := h.tk x hx; omega
      · rw [List.mem_singleton] at hx; subst hx; exact ⟨by show 0 ≤ k; omega, Int.le_refl _⟩
    · by_cases hi : i + 1 < out.length
      · rw [List.getElem?_append_left (by omega)] at hx
        rw [List.getElem?_append_left hi] at hy
        exact h.ch i x y hx hy
      · have hy' := List.getElem?_eq_some_iff.1 hy
        obtain ⟨hlt, -⟩ := hy'
        rw [List.length_append, List.length_singleton] at hlt
        have hi' : i + 1 = out.length := by omega
        rw [List.getElem?_append_left (by omega)] at hx
        rw [List.getElem?_append_right (by omega), hi', Nat.sub_self] at hy
        have hy : some (t, k) = some y := hy
        injection hy with hy
        subst hy
        obtain ⟨e1, e2⟩ := h.b x (by rw [← hi']; exact hx)
        rcases h.lastIn G with ⟨h0, -⟩ | ⟨h0', hl, h1, h2⟩
        · rw [h0] at hi'; simp at hi'
        · have hne : p.last ≠ 0 := by omega
          obtain ⟨-, r2, -⟩ := ready_rng G hne h.t0 (by have := h.tn; omega) h.s0 h.s6
          unfold holdB at hs2
          rw [decide_eq_true (show 0 < p.last by omega), Bool.true_and] at hs2
          have hs2 := of_decide_eq_false hs2
          have hb0 := G.b0
          show c.co ≤ k - x.2 ∧ t ≠ x.1 ∧ c.ba < max (t - x.1) (x.1 - t)
          rw [← e1, ← e2]
          refine ⟨by omega, ?_, by omega⟩
          intro e
          rw [e] at hs2
          omega
/-! ### a play -/
end Go.Proofs.YtkolnkjdcncmpaaGreatDoor.Pc

/- Config's guards (numbers, strategy, Check, Low, Within) and money's Clamp and Later, in the pure machine. -/
namespace Go.Proofs.YtkolnkjdcncmpaaGreatDoor.Pc
open Go Go.RowKit Go.Proofs.YtkolnkjdcncmpaaGreatDoor.Pm Go.Proofs.YtkolnkjdcncmpaaGreatDoor.Pl
open Go.Proofs.YtkolnkjdcncmpaaGreatDoor.Pr (parseP Parse_ok parseP_size parseP_facts wkTup minV)
open Go.Proofs.YtkolnkjdcncmpaaGreatDoor.Q (rngE)
set_option linter.unusedVariables false
set_option maxHeartbeats 1000000
@[reducible] def cC (c : Cfg) : List CV := [.int .i64 c.fl, .int .i64 c.ce, .int .i64 c.mp, .int .i64 c.co, .int .i64 c.ba, .str c.tx]
@[reducible] def pC (c : Cfg) : PV := .agg (cC c)
@[reducible] def cP (p : Pace) : List CV := [.int .i64 p.last, .int .i64 p.tick, .row (encN p.ring), .int .i64 p.swing]
@[reducible] def pP (p : Pace) : PV := .agg (cP p)
theorem pBe {a b : Bool} (h : b = a) : PV.c (.bool a) = PV.c (.bool b) := by rw [h]
theorem pTe {x : PV} {a b : Int} (h : b = a) : PV.tup [x, .c (.int .i64 a)] = PV.tup [x, .c (.int .i64 b)] := by rw [h]
theorem Clamp_ok (a l h : Int) : Ok E 41 [] [pI a, pI l, pI h] (pI (clampI a l h)) [] := by
  refine Ok.enter hE Tryz.func41 rfl (by decide +kernel) (by kernel_rfl) rfl rfl (Nat.le_of_ble_eq_true rfl) rfl ?_
  refine ⟨_, minV rfl, ?_⟩
  refine ⟨_, maxV rfl, ?_⟩
  exact Ret.mk _ rfl rfl rfl
theorem clamp_rng {a l h : Int} (hl : l ≤ h) : l ≤ clampI a l h ∧ clampI a l h ≤ h := by unfold clampI; omega
theorem Later_ok (t b : Int) : Ok E 42 [] [pI t, pI b] (pI (laterI t b)) [] := by
  have h1 := Clamp_ok t 0 1099511627776
  have h2 := Clamp_ok b 0 1099511627776
  obtain ⟨a1, a2⟩ := clamp_rng (a := t) (l := 0) (h := 1099511627776) (by decide)
  obtain ⟨b1, b2⟩ := clamp_rng (a := b) (l := 0) (h := 1099511627776) (by decide)
  refine Ok.enter hE Tryz.func42 rfl (by decide +kernel) (by kernel_rfl) rfl rfl (Nat.le_of_ble_eq_true rfl) rfl ?_
  refine ⟨_, CallR.mk1 h1 rfl rfl, ?_⟩
  refine ⟨_, CallR.mk1 h2 rfl rfl, ?_⟩
  refine ⟨_, addV rfl (by omega) (by omega), ?_⟩
  refine ⟨_, minV rfl, ?_⟩
  exact Ret.mk _ rfl rfl rfl
theorem nums_no {c : Cfg} (h : ¬ (1 ≤ c.fl ∧ c.fl ≤ c.ce ∧ c.ce ≤ 1000000000000 ∧ 0 ≤ c.mp ∧ c.mp ≤ c.ce ∧ 0 ≤ c.co ∧ c.co ≤ 1048576 ∧ 0 ≤ c.ba ∧ c.ba ≤ 1000000000000)) : numsB c = false := by
  rw [← Bool.not_eq_true]
  intro hn
  unfold numsB at hn
  simp only [Bool.and_eq_true, inI_iff] at hn
  omega
theorem nums_yes {c : Cfg} (h : 1 ≤ c.fl ∧ c.fl ≤ c.ce ∧ c.ce ≤ 1000000000000 ∧ 0 ≤ c.mp ∧ c.mp ≤ c.ce ∧ 0 ≤ c.co ∧ c.co ≤ 1048576 ∧ 0 ≤ c.ba ∧ c.ba ≤ 1000000000000) : numsB c = true := by
  unfold numsB
  simp only [Bool.and_eq_true, inI_iff]
  omega
theorem numbers_ok (c : Cfg) : Ok E 60 [] [pC c] (pB (numsB c)) [] := by
  obtain ⟨v, hv⟩ : ∃ v, numsB c = v := ⟨_, rfl⟩
  rw [hv]
  refine Ok.enter hE Tryz.func60 rfl (by decide +kernel) (by kernel_rfl) rfl rfl (Nat.le_of_ble_eq_true rfl) rfl ?_
  refine Loop.cut (α := Nat) (fun i => i ≤ 5 ∧ (0 < i → 1 ≤ c.fl ∧ c.fl ≤ c.ce) ∧ (1 < i → c.fl ≤ c.ce ∧ c.ce ≤ 1000000000000) ∧ (2 < i → 0 ≤ c.mp ∧ c.mp ≤ c.ce) ∧ (3 < i → 0 ≤ c.co ∧ c.co ≤ 1048576) ∧ (4 < i → 0 ≤ c.ba ∧ c.ba ≤ 1000000000000)) (fun i => [(26, .agg [.int .i64 1, .int .i64 c.fl, .int .i64 c.ce, .int .i64 c.fl, .int .i64 c.ce, .int .i64 1000000000000, .int .i64 0, .int .i64 c.mp, .int .i64 c.ce, .int .i64 0, .int .i64 c.co, .int .i64 1048576, .int .i64 0, .int .i64 c.ba, .int .i64 1000000000000]), (27, pI i)]) (fun _ => [[pI c.fl, pI c.ce, pI c.mp, pI c.co, pI c.ba, pS c.tx]]) (fun _ => []) (fun i => 5 - i) 0 1 (fun _ => rfl) (fun _ => rfl) (fun _ => rfl) ⟨by omega, by omega, by omega, by omega, by omega, by omega⟩ ⟨⟨rfl, rfl, trivial⟩, rfl, rfl⟩ ?_
  rintro i f ⟨hi, h0, h1, h2, h3, h4⟩
  have hc : i = 0 ∨ i = 1 ∨ i = 2 ∨ i = 3 ∨ i = 4 ∨ i = 5 := by omega
  rcases hc with rfl | rfl | rfl | rfl | rfl | rfl
  · refine ⟨_, ltT (by decide), ?_⟩
    refine ⟨.agg [.int .i64 1, .int .i64 c.fl, .int .i64 c.ce], ⟨rfl⟩, ?_⟩
    refine ⟨_, ⟨rfl⟩, ?_⟩
    refine ⟨_, ⟨rfl⟩, ?_⟩
    by_cases ha : c.fl < 1
    · refine ⟨_, ltT ha, ?_⟩
      exact Ret.mk _ rfl (pBe (hv.symm.trans (nums_no (by omega)))) rfl
    · refine ⟨_, ltN ha, ?_⟩
      refine ⟨_, ⟨rfl⟩, ?_⟩
      refine ⟨_, ⟨rfl⟩, ?_⟩
      by_cases hb : c.fl > c.ce
      · refine ⟨_, gtT hb, ?_⟩
        exact Ret.mk _ rfl (pBe (hv.symm.trans (nums_no (by omega)))) rfl
      · refine ⟨_, gtN hb, ?_⟩
        refine ⟨_, addV (z := 1) rfl (by decide) (by decide), ?_⟩
        exact ⟨1, by omega, by omega, ⟨rfl, rfl, trivial⟩, ⟨_, rfl⟩, rfl⟩
  · refine ⟨_, ltT (by decide), ?_⟩
    refine ⟨.agg [.int .i64 c.fl, .int .i64 c.ce, .int .i64 1000000000000], ⟨rfl⟩, ?_⟩
    refine ⟨_, ⟨rfl⟩, ?_⟩
    refine ⟨_, ⟨rfl⟩, ?_⟩
    by_cases ha : c.ce < c.fl
    · refine ⟨_, ltT ha, ?_⟩
      exact Ret.mk _ rfl (pBe (hv.symm.trans (nums_no (by omega)))) rfl
    · refine ⟨_, ltN ha, ?_⟩
      refine ⟨_, ⟨rfl⟩, ?_⟩
      refine ⟨_, ⟨rfl⟩, ?_⟩
      by_cases hb : c.ce > 1000000000000
      · refine ⟨_, gtT hb, ?_⟩
        exact Ret.mk _ rfl (pBe (hv.symm.trans (nums_no (by omega)))) rfl
      · refine ⟨_, gtN hb, ?_⟩
        refine ⟨_, addV (z := 2) rfl (by decide) (by decide), ?_⟩
        exact ⟨2, by omega, by omega, ⟨rfl, rfl, trivial⟩, ⟨_, rfl⟩, rfl⟩
  · refine ⟨_, ltT (by decide), ?_⟩
    refine ⟨.agg [.int .i64 0, .int .i64 c.mp, .int .i64 c.ce], ⟨rfl⟩, ?_⟩
    refine ⟨_, ⟨rfl⟩, ?_⟩
    refine ⟨_, ⟨rfl⟩, ?_⟩
    by_cases ha : c.mp < 0
    · refine ⟨_, ltT ha, ?_⟩
      exact Ret.mk _ rfl (pBe (hv.symm.trans (nums_no (by omega)))) rfl
    · refine ⟨_, ltN ha, ?_⟩
      refine ⟨_, ⟨rfl⟩, ?_⟩
      refine ⟨_, ⟨rfl⟩, ?_⟩
      by_cases hb : c.mp > c.ce
      · refine ⟨_, gtT hb, ?_⟩
        exact Ret.mk _ rfl (pBe (hv.symm.trans (nums_no (by omega)))) rfl
      · refine ⟨_, gtN hb, ?_⟩
        refine ⟨_, addV (z := 3) rfl (by decide) (by decide), ?_⟩
        exact ⟨3, by omega, by omega, ⟨rfl, rfl, trivial⟩, ⟨_, rfl⟩, rfl⟩
  · refine ⟨_, ltT (by decide), ?_⟩
    refine ⟨.agg [.int .i64 0, .int .i64 c.co, .int .i64 1048576], ⟨rfl⟩, ?_⟩
    refine ⟨_, ⟨rfl⟩, ?_⟩
    refine ⟨_, ⟨rfl⟩, ?_⟩
    by_cases ha : c.co < 0
    · refine ⟨_, ltT ha, ?_⟩
      exact Ret.mk _ rfl (pBe (hv.symm.trans (nums_no (by omega)))) rfl
    · refine ⟨_, ltN ha, ?_⟩
      refine ⟨_, ⟨rfl⟩, ?_⟩
      refine ⟨_, ⟨rfl⟩, ?_⟩
      by_cases hb : c.co > 1048576
      · refine ⟨_, gtT hb, ?_⟩
        exact Ret.mk _ rfl (pBe (hv.symm.trans (nums_no (by omega)))) rfl
      · refine ⟨_, gtN hb, ?_⟩
        refine ⟨_, addV (z := 4) rfl (by decide) (by decide), ?_⟩
        exact ⟨4, by omega, by omega, ⟨rfl, rfl, trivial⟩, ⟨_, rfl⟩, rfl⟩
  · refine ⟨_, ltT (by decide), ?_⟩
    refine ⟨.agg [.int .i64 0, .int .i64 c.ba, .int .i64 1000000000000], ⟨rfl⟩, ?_⟩
    refine ⟨_, ⟨rfl⟩, ?_⟩
    refine ⟨_, ⟨rfl⟩, ?_⟩
    by_cases ha : c.ba < 0
    · refine ⟨_, ltT ha, ?_⟩
      exact Ret.mk _ rfl (pBe (hv.symm.trans (nums_no (by omega)))) rfl
    · refine ⟨_, ltN ha, ?_⟩
      refine ⟨_, ⟨rfl⟩, ?_⟩
      refine ⟨_, ⟨rfl⟩, ?_⟩
      by_cases hb : c.ba > 1000000000000
      · refine ⟨_, gtT hb, ?_⟩
        exact Ret.mk _ rfl (pBe (hv.symm.trans (nums_no (by omega)))) rfl
      · refine ⟨_, gtN hb, ?_⟩
        refine ⟨_, addV (z := 5) rfl (by decide) (by decide), ?_⟩
        exact ⟨5, by omega, by omega, ⟨rfl, rfl, trivial⟩, ⟨_, rfl⟩, rfl⟩
  · refine ⟨_, ltN (by decide), ?_⟩
    exact Ret.mk _ rfl (pBe (hv.symm.trans (nums_yes (by omega)))) rfl
def stratC (c : Cfg) : Ex := if numsB c = true then (parseP c.tx).1 else Pr.zE
theorem strategy_ok (c : Cfg) : Ok E 47 [] [pC c] (.tup [pE (stratC c), pI (errF c)]) [] := by
  have hN := numbers_ok c
  have hP := Parse_ok c.tx
  have hz := (parseP_size c.tx).1
  have hR := right_ok (parseP c.tx).1 (parseP_facts c.tx).1 (by omega)
  obtain ⟨v, hv⟩ : ∃ v, errF c = v := ⟨_, rfl⟩
  obtain ⟨x, hx⟩ : ∃ x, stratC c = x := ⟨_, rfl⟩
  rw [hv, hx]
  unfold errF at hv
  unfold stratC at hx
  have wz : Wk (.agg [.int .i64 0, .int .i64 0, .str e0, .nil]) (pE Pr.zE) := wkE _ _ _
  rcases Bool.eq_false_or_eq_true (numsB c) with hn | hn
  · rw [hn] at hN
    rw [if_pos hn] at hv hx
    rw [hx] at hP hR
    rw [hx] at hv
    by_cases he : (parseP c.tx).2.1 = 0
    · rw [if_pos he] at hv
      rcases Bool.eq_false_or_eq_true (isRight x) with hr | hr
      · rw [hr] at hR
        rw [if_pos hr] at hv
        refine Ok.enter hE Tryz.func47 rfl (by decide +kernel) (by kernel_rfl) rfl rfl (Nat.le_of_ble_eq_true rfl) rfl ?_
        refine ⟨_, CallR.mk1 hN rfl rfl, ?_⟩
        refine ⟨_, CallR.mk1 hP rfl rfl, ?_⟩
        refine ⟨_, eqT he, ?_⟩
        refine ⟨_, CallR.mk1 hR rfl rfl, ?_⟩
        exact Ret.mk _ rfl (pTe (by rw [← hv, he])) rfl
      · rw [hr] at hR
        rw [if_neg (by rw [hr]; decide)] at hv
        refine Ok.enter hE Tryz.func47 rfl (by decide +kernel) (by kernel_rfl) rfl rfl (Nat.le_of_ble_eq_true rfl) rfl ?_
        refine ⟨_, CallR.mk1 hN rfl rfl, ?_⟩
        refine ⟨_, CallR.mk1 hP rfl rfl, ?_⟩
        refine ⟨_, eqT he, ?_⟩
        refine ⟨_, CallR.mk1 hR rfl rfl, ?_⟩
        exact Ret.mk _ rfl (pTe hv.symm) rfl
    · rw [if_neg he] at hv
      refine Ok.enter hE Tryz.func47 rfl (by decide +kernel) (by kernel_rfl) rfl rfl (Nat.le_of_ble_eq_true rfl) rfl ?_
      refine ⟨_, CallR.mk1 hN rfl rfl, ?_⟩
      refine ⟨_, CallR.mk1 hP rfl rfl, ?_⟩
      refine ⟨_, eqN he, ?_⟩
      exact Ret.mk _ rfl (pTe hv.symm) rfl
  · rw [hn] at hN
    rw [if_neg (by rw [hn]; decide)] at hv hx
    subst hv
    subst hx
    refine Ok.enter hE Tryz.func47 rfl (by decide +kernel) (by kernel_rfl) rfl rfl (Nat.le_of_ble_eq_true rfl) rfl ?_
    refine ⟨_, CallR.mk1 hN rfl rfl, ?_⟩
    exact ⟨_, rfl, wkTup (.cons wz (WkL.refl _)), rfl, .nil _⟩
theorem Check_ok (c : Cfg) : Ok E 29 [] [pC c] (pI (errF c)) [] := by
  have h := strategy_ok c
  refine Ok.enter hE Tryz.func29 rfl (by decide +kernel) (by kernel_rfl) rfl rfl (Nat.le_of_ble_eq_true rfl) rfl ?_
  refine ⟨_, CallR.mk1 h rfl rfl, ?_⟩
  exact Ret.mk _ rfl rfl rfl
theorem Low_ok (c : Cfg) : Ok E 27 [] [pC c] (pI (lowF c)) [] := by
  refine Ok.enter hE Tryz.func27 rfl (by decide +kernel) (by kernel_rfl) rfl rfl (Nat.le_of_ble_eq_true rfl) rfl ?_
  refine ⟨_, maxV rfl, ?_⟩
  exact Ret.mk _ rfl rfl rfl
theorem Within_ok (c : Cfg) (p : Int) : Ok E 26 [] [pC c, pI p] (pB (withinB c p)) [] := by
  have hC := Check_ok c
  have hL := Low_ok c
  obtain ⟨v, hv⟩ : ∃ v, withinB c p = v := ⟨_, rfl⟩
  rw [hv]
  unfold withinB okC at hv
  by_cases he : errF c = 0
  · rw [decide_eq_true he, Bool.true_and] at hv
    by_cases h1 : lowF c ≤ p
    · rw [decide_eq_true h1, Bool.true_and] at hv
      refine Ok.enter hE Tryz.func26 rfl (by decide +kernel) (by kernel_rfl) rfl rfl (Nat.le_of_ble_eq_true rfl) rfl ?_
      refine ⟨_, CallR.mk1 hC rfl rfl, ?_⟩
      refine ⟨_, eqT he, ?_⟩
      refine ⟨_, CallR.mk1 hL rfl rfl, ?_⟩
      refine ⟨_, geT h1, ?_⟩
      refine ⟨_, leV hv, ?_⟩
      exact Ret.mk _ rfl rfl rfl
    · rw [decide_eq_false h1, Bool.false_and] at hv
      subst hv
      refine Ok.enter hE Tryz.func26 rfl (by decide +kernel) (by kernel_rfl) rfl rfl (Nat.le_of_ble_eq_true rfl) rfl ?_
      refine ⟨_, CallR.mk1 hC rfl rfl, ?_⟩
      refine ⟨_, eqT he, ?_⟩
      refine ⟨_, CallR.mk1 hL rfl rfl, ?_⟩
      refine ⟨_, geN h1, ?_⟩
      exact Ret.mk _ rfl rfl rfl
  · rw [decide_eq_false he, Bool.false_and] at hv
    subst hv
    refine Ok.enter hE Tryz.func26 rfl (by decide +kernel) (by kernel_rfl) rfl rfl (Nat.le_of_ble_eq_true rfl) rfl ?_
    refine ⟨_, CallR.mk1 hC rfl rfl, ?_⟩
    refine ⟨_, eqN he, ?_⟩
    exact Ret.mk _ rfl rfl rfl
end Go.Proofs.YtkolnkjdcncmpaaGreatDoor.Pc

/- Pace (Right, Ready, stays, swings, Decide), in the pure machine. -/
namespace Go.Proofs.YtkolnkjdcncmpaaGreatDoor.Pc
open Go Go.RowKit Go.Proofs.YtkolnkjdcncmpaaGreatDoor.Pm Go.Proofs.YtkolnkjdcncmpaaGreatDoor.Pl
open Go.Proofs.YtkolnkjdcncmpaaGreatDoor.Pr (minV wkTup)
set_option linter.unusedVariables false
set_option maxHeartbeats 1000000
theorem encN_len (l : List Int) : (encN l).length = l.length := by unfold encN; simp
theorem encN_get {l : List Int} {i : Nat} {x : Int} (h : l[i]? = some x) : (encN l)[i]? = some [.int .i64 x] := by
  unfold encN; rw [List.getElem?_map, h]; rfl
theorem encN_one (l : List Int) : ∀ x ∈ encN l, x.length = 1 := by
  intro x hx
  unfold encN at hx
  obtain ⟨n, _, rfl⟩ := List.mem_map.1 hx
  rfl
theorem shlV {E : Env} {a b z : Int} {ti : Nat} (h0 : 0 ≤ b) (h6 : b ≤ 6) (h : a * 2 ^ b.toNat = z) (z0 : -9223372036854775808 ≤ z) (z1 : z ≤ 9223372036854775807) : BinR E ti .shl (.c (.int .i64 a)) (.c (.int .i64 b)) (.c (.int .i64 z)) := .of (by
  show (shF .shl .i64 a b) = _
  unfold shF
  rw [decide_eq_false (by omega)]
  show some (PV.int .i64 (IntKind.i64.wrap (a * 2 ^ (min b.toNat 64)))) = _
  rw [Nat.min_eq_left (by omega), h, wrapE z0 z1])
def oddP (x : Int) : Bool := decide (x < 1) || decide (1000000000000 < x)
theorem odd_ok (x : Int) : Ok E 39 [] [pI x] (pB (oddP x)) [] := by
  obtain ⟨v, hv⟩ : ∃ v, oddP x = v := ⟨_, rfl⟩
  rw [hv]
  unfold oddP at hv
  by_cases h : x < 1
  · rw [decide_eq_true h, Bool.true_or] at hv
    subst hv
    refine Ok.enter hE Tryz.func39 rfl (by decide +kernel) (by kernel_rfl) rfl rfl (Nat.le_of_ble_eq_true rfl) rfl ?_
    refine ⟨_, ltT h, ?_⟩
    exact Ret.mk _ rfl rfl rfl
  · rw [decide_eq_false h, Bool.false_or] at hv
    refine Ok.enter hE Tryz.func39 rfl (by decide +kernel) (by kernel_rfl) rfl rfl (Nat.le_of_ble_eq_true rfl) rfl ?_
    refine ⟨_, ltN h, ?_⟩
    refine ⟨_, gtV hv, ?_⟩
    exact Ret.mk _ rfl rfl rfl
theorem odd_first : ∀ l : List Int, ∃ k : Nat, k ≤ l.length ∧ (∀ j, j < k → ∀ x, l[j]? = some x → oddP x = false) ∧ ((k = l.length ∧ oddB l = false) ∨ (k < l.length ∧ oddB l = true ∧ ∀ x, l[k]? = some x → oddP x = true))
  | [] => ⟨0, Nat.le_refl _, fun j h => by omega, .inl ⟨rfl, rfl⟩⟩
  | x :: l => by
    rcases Bool.eq_false_or_eq_true (oddP x) with h | h
    · refine ⟨0, Nat.zero_le _, fun j h => by omega, .inr ⟨by simp, ?_, fun y hy => ?_⟩⟩
      · show (oddP x || oddB l) = true
        rw [h]; rfl
      · simp at hy; subst hy; exact h
    · obtain ⟨k, h1, h2, h3⟩ := odd_first l
      have e : oddB (x :: l) = oddB l := by
        show (oddP x || oddB l) = _
        rw [h]; rfl
      refine ⟨k + 1, by simp; omega, fun j hj y hy => ?_, ?_⟩
      · cases j with
        | zero => simp at hy; subst hy; exact h
        | succ j => exact h2 j (by omega) y (by simpa using hy)
      · rcases h3 with ⟨h3, h4⟩ | ⟨h3, h4, h5⟩
        · exact .inl ⟨by simp [h3], by rw [e, h4]⟩
        · exact .inr ⟨by simp; omega, by rw [e, h4], fun y hy => h5 y (by simpa using hy)⟩
theorem index_ok (l : List Int) (hl : l.length ≤ 9223372036854775807) (k : Nat) (h1 : k ≤ l.length) (h2 : ∀ j, j < k → ∀ x, l[j]? = some x → oddP x = false) (v : Int) (h3 : (k = l.length ∧ v = -1) ∨ (k < l.length ∧ (∀ x, l[k]? = some x → oddP x = true) ∧ v = k)) :
    Ok E 58 [] [.c (.row (encN l)), .c (.fn 39)] (pI v) [] := by
  have hel := encN_len l
  refine Ok.enter hE Tryz.func58 rfl (by decide +kernel) (by kernel_rfl) rfl rfl (Nat.le_of_ble_eq_true rfl) rfl ?_
  refine Loop.run (α := Nat) (fun i => i ≤ k) (fun i => [(0, .c (.row (encN l))), (1, .c (.fn 39)), (7, pI l.length), (8, pI i)]) (fun _ => []) (fun _ => []) (fun i => k - i) 0 (Nat.zero_le _) ⟨⟨rfl, rfl, by show PV.c _ = _; rw [hel], rfl, trivial⟩, rfl, rfl⟩ ?_
  rintro i f hi
  have hi : i ≤ k := hi
  by_cases hlt : i < l.length
  · obtain ⟨x, hx⟩ : ∃ x, l[i]? = some x := ⟨_, List.getElem?_eq_getElem hlt⟩
    have hg := encN_get hx
    have hO := odd_ok x
    by_cases hik : i < k
    · rw [h2 i hik x hx] at hO
      refine ⟨_, ltT (by omega), ?_⟩
      refine ⟨_, idxV (j := i) hg rfl rfl rfl rfl, ?_⟩
      refine .inl ⟨_, _, SCallR.none hO rfl rfl, ?_⟩
      refine ⟨_, addV (z := ((i + 1 : Nat) : Int)) (by push_cast; rfl) (by omega) (by omega), ?_⟩
      exact ⟨i + 1, by show i + 1 ≤ k; omega, by show k - (i + 1) < k - i; omega, ⟨rfl, rfl, rfl, rfl, trivial⟩, rfl, rfl⟩
    · have e : i = k := by omega
      subst e
      rcases h3 with ⟨h3, _⟩ | ⟨_, h3, rfl⟩
      · omega
      · rw [h3 x hx] at hO
        refine ⟨_, ltT (by omega), ?_⟩
        refine ⟨_, idxV (j := i) hg rfl rfl rfl rfl, ?_⟩
        refine .inl ⟨_, _, SCallR.none hO rfl rfl, ?_⟩
        exact Ret.mk _ rfl rfl rfl
  · rcases h3 with ⟨h3, rfl⟩ | ⟨h3, _⟩
    · refine ⟨_, ltN (by omega), ?_⟩
      exact Ret.mk _ rfl rfl rfl
    · omega
theorem contains_ok (l : List Int) (hl : l.length ≤ 9223372036854775807) : Ok E 40 [] [.c (.row (encN l)), .c (.fn 39)] (pB (oddB l)) [] := by
  obtain ⟨k, h1, h2, h3⟩ := odd_first l
  rcases h3 with ⟨h3, h4⟩ | ⟨h3, h4, h5⟩
  · have h := index_ok l hl k h1 h2 (-1) (.inl ⟨h3, rfl⟩)
    rw [h4]
    refine Ok.enter hE Tryz.func40 rfl (by decide +kernel) (by kernel_rfl) rfl rfl (Nat.le_of_ble_eq_true rfl) rfl ?_
    refine .inl ⟨_, _, SCallR.none h rfl rfl, ?_⟩
    refine ⟨_, geN (by decide), ?_⟩
    exact Ret.mk _ rfl rfl rfl
  · have h := index_ok l hl k h1 h2 k (.inr ⟨h3, h5, rfl⟩)
    rw [h4]
    refine Ok.enter hE Tryz.func40 rfl (by decide +kernel) (by kernel_rfl) rfl rfl (Nat.le_of_ble_eq_true rfl) rfl ?_
    refine .inl ⟨_, _, SCallR.none h rfl rfl, ?_⟩
    refine ⟨_, geT (by omega), ?_⟩
    exact Ret.mk _ rfl rfl rfl
theorem right_iff {p : Pace} (h0 : p.last ≠ 0) : rightP p = true ↔ (0 ≤ p.tick ∧ p.tick ≤ 1099511627776) ∧ (0 ≤ p.swing ∧ p.swing ≤ 6) ∧ oddB p.ring = false ∧ 1 ≤ p.ring.length ∧ p.ring.length ≤ 3 ∧ p.ring[p.ring.length - 1]? = some p.last := by
  unfold rightP
  rw [if_neg h0]
  simp only [Bool.and_eq_true, inI_iff, decide_eq_true_eq, Bool.not_eq_true']
  constructor
  · rintro ⟨⟨h1, h2, h3⟩, h4, h5, h6⟩; exact ⟨h1, h2, h3, h4, h5, h6⟩
  · rintro ⟨h1, h2, h3, h4, h5, h6⟩; exact ⟨⟨h1, h2, h3⟩, h4, h5, h6⟩
theorem right_iff0 {p : Pace} (h0 : p.last = 0) : rightP p = true ↔ p.tick = 0 ∧ p.ring.length = 0 ∧ p.swing = 0 := by
  unfold rightP
  rw [if_pos h0]
  simp only [Bool.and_eq_true, decide_eq_true_eq]
theorem Right_ok (p : Pace) (hl : p.ring.length ≤ 9223372036854775807) : Ok E 17 [] [pP p] (pB (rightP p)) [] := by
  obtain ⟨v, hv⟩ : ∃ v, rightP p = v := ⟨_, rfl⟩
  rw [hv]
  have vF : ¬ rightP p = true → v = false := fun h => by rw [← hv]; exact Bool.eq_false_iff.2 h
  have vT : rightP p = true → v = true := fun h => by rw [← hv]; exact h
  have hel := encN_len p.ring
  have hC := contains_ok p.ring hl
  by_cases h0 : p.last = 0
  · by_cases h1 : p.tick = 0
    · by_cases h2 : p.ring.length = 0
      · by_cases h3 : p.swing = 0
        · refine Ok.enter hE Tryz.func17 rfl (by decide +kernel) (by kernel_rfl) rfl rfl (Nat.le_of_ble_eq_true rfl) rfl ?_
          refine ⟨_, eqT h0, ?_⟩
          refine ⟨_, eqT h1, ?_⟩
          refine ⟨_, eqT (by rw [hel, h2]; rfl), ?_⟩
          refine ⟨_, eqT h3, ?_⟩
          exact Ret.mk _ rfl (pBe (vT ((right_iff0 h0).2 ⟨h1, h2, h3⟩))) rfl
        · refine Ok.enter hE Tryz.func17 rfl (by decide +kernel) (by kernel_rfl) rfl rfl (Nat.le_of_ble_eq_true rfl) rfl ?_
          refine ⟨_, eqT h0, ?_⟩
          refine ⟨_, eqT h1, ?_⟩
          refine ⟨_, eqT (by rw [hel, h2]; rfl), ?_⟩
          refine ⟨_, eqN h3, ?_⟩
          exact Ret.mk _ rfl (pBe (vF (fun h => h3 ((right_iff0 h0).1 h).2.2))) rfl
      · refine Ok.enter hE Tryz.func17 rfl (by decide +kernel) (by kernel_rfl) rfl rfl (Nat.le_of_ble_eq_true rfl) rfl ?_
        refine ⟨_, eqT h0, ?_⟩
        refine ⟨_, eqT h1, ?_⟩
        refine ⟨_, eqN (by rw [hel]; omega), ?_⟩
        exact Ret.mk _ rfl (pBe (vF (fun h => h2 ((right_iff0 h0).1 h).2.1))) rfl
    · refine Ok.enter hE Tryz.func17 rfl (by decide +kernel) (by kernel_rfl) rfl rfl (Nat.le_of_ble_eq_true rfl) rfl ?_
      refine ⟨_, eqT h0, ?_⟩
      refine ⟨_, eqN h1, ?_⟩
      exact Ret.mk _ rfl (pBe (vF (fun h => h1 ((right_iff0 h0).1 h).1))) rfl
  · by_cases h1 : p.tick < 0
    · refine Ok.enter hE Tryz.func17 rfl (by decide +kernel) (by kernel_rfl) rfl rfl (Nat.le_of_ble_eq_true rfl) rfl ?_
      refine ⟨_, eqN h0, ?_⟩
      refine ⟨_, ltT h1, ?_⟩
      exact Ret.mk _ rfl (pBe (vF (fun h => by have := ((right_iff h0).1 h).1; omega))) rfl
    · by_cases h2 : p.tick > 1099511627776
      · refine Ok.enter hE Tryz.func17 rfl (by decide +kernel) (by kernel_rfl) rfl rfl (Nat.le_of_ble_eq_true rfl) rfl ?_
        refine ⟨_, eqN h0, ?_⟩
        refine ⟨_, ltN h1, ?_⟩
        refine ⟨_, gtT h2, ?_⟩
        exact Ret.mk _ rfl (pBe (vF (fun h => by have := ((right_iff h0).1 h).1; omega))) rfl
      · by_cases h3 : p.swing < 0
        · refine Ok.enter hE Tryz.func17 rfl (by decide +kernel) (by kernel_rfl) rfl rfl (Nat.le_of_ble_eq_true rfl) rfl ?_
          refine ⟨_, eqN h0, ?_⟩
          refine ⟨_, ltN h1, ?_⟩
          refine ⟨_, gtN h2, ?_⟩
          refine ⟨_, ltT h3, ?_⟩
          exact Ret.mk _ rfl (pBe (vF (fun h => by have := ((right_iff h0).1 h).2.1; omega))) rfl
        · by_cases h4 : p.swing > 6
          · refine Ok.enter hE Tryz.func17 rfl (by decide +kernel) (by kernel_rfl) rfl rfl (Nat.le_of_ble_eq_true rfl) rfl ?_
            refine ⟨_, eqN h0, ?_⟩
            refine ⟨_, ltN h1, ?_⟩
            refine ⟨_, gtN h2, ?_⟩
            refine ⟨_, ltN h3, ?_⟩
            refine ⟨_, gtT h4, ?_⟩
            exact Ret.mk _ rfl (pBe (vF (fun h => by have := ((right_iff h0).1 h).2.1; omega))) rfl
          · rcases Bool.eq_false_or_eq_true (oddB p.ring) with h5 | h5
            · rw [h5] at hC
              refine Ok.enter hE Tryz.func17 rfl (by decide +kernel) (by kernel_rfl) rfl rfl (Nat.le_of_ble_eq_true rfl) rfl ?_
              refine ⟨_, eqN h0, ?_⟩
              refine ⟨_, ltN h1, ?_⟩
              refine ⟨_, gtN h2, ?_⟩
              refine ⟨_, ltN h3, ?_⟩
              refine ⟨_, gtN h4, ?_⟩
              refine .inl ⟨_, _, SCallR.none hC rfl rfl, ?_⟩
              exact Ret.mk _ rfl (pBe (vF (fun h => by have := ((right_iff h0).1 h).2.2.1; rw [h5] at this; cases this))) rfl
            · rw [h5] at hC
              by_cases h6 : 1 ≤ p.ring.length
              · by_cases h7 : p.ring.length ≤ 3
                · obtain ⟨x, hx⟩ : ∃ x, p.ring[p.ring.length - 1]? = some x := ⟨_, List.getElem?_eq_getElem (by omega)⟩
                  have hg := encN_get hx
                  have hw : decide (x = p.last) = v := by
                    by_cases e : x = p.last
                    · rw [decide_eq_true e, vT ((right_iff h0).2 ⟨by omega, by omega, h5, h6, h7, by rw [hx, e]⟩)]
                    · rw [decide_eq_false e, vF (fun h => e (by have := ((right_iff h0).1 h).2.2.2.2.2; rw [hx] at this; injection this))]
                  refine Ok.enter hE Tryz.func17 rfl (by decide +kernel) (by kernel_rfl) rfl rfl (Nat.le_of_ble_eq_true rfl) rfl ?_
                  refine ⟨_, eqN h0, ?_⟩
                  refine ⟨_, ltN h1, ?_⟩
                  refine ⟨_, gtN h2, ?_⟩
                  refine ⟨_, ltN h3, ?_⟩
                  refine ⟨_, gtN h4, ?_⟩
                  refine .inl ⟨_, _, SCallR.none hC rfl rfl, ?_⟩
                  refine ⟨_, geT (by rw [hel]; omega), ?_⟩
                  refine ⟨_, leT (by rw [hel]; omega), ?_⟩
                  refine ⟨_, subV (z := ((p.ring.length - 1 : Nat) : Int)) (by rw [hel]; omega) (by omega) (by omega), ?_⟩
                  refine ⟨_, idxV (j := p.ring.length - 1) hg rfl rfl rfl rfl, ?_⟩
                  refine ⟨_, eqV (c := v) (by rw [← hw]; exact (Bool.beq_eq_decide_eq _ _)), ?_⟩
                  exact Ret.mk _ rfl rfl rfl
                · refine Ok.enter hE Tryz.func17 rfl (by decide +kernel) (by kernel_rfl) rfl rfl (Nat.le_of_ble_eq_true rfl) rfl ?_
                  refine ⟨_, eqN h0, ?_⟩
                  refine ⟨_, ltN h1, ?_⟩
                  refine ⟨_, gtN h2, ?_⟩
                  refine ⟨_, ltN h3, ?_⟩
                  refine ⟨_, gtN h4, ?_⟩
                  refine .inl ⟨_, _, SCallR.none hC rfl rfl, ?_⟩
                  refine ⟨_, geT (by rw [hel]; omega), ?_⟩
                  refine ⟨_, leN (by rw [hel]; omega), ?_⟩
                  exact Ret.mk _ rfl (pBe (vF (fun h => h7 ((right_iff h0).1 h).2.2.2.2.1))) rfl
              · refine Ok.enter hE Tryz.func17 rfl (by decide +kernel) (by kernel_rfl) rfl rfl (Nat.le_of_ble_eq_true rfl) rfl ?_
                refine ⟨_, eqN h0, ?_⟩
                refine ⟨_, ltN h1, ?_⟩
                refine ⟨_, gtN h2, ?_⟩
                refine ⟨_, ltN h3, ?_⟩
                refine ⟨_, gtN h4, ?_⟩
                refine .inl ⟨_, _, SCallR.none hC rfl rfl, ?_⟩
                refine ⟨_, geN (by rw [hel]; omega), ?_⟩
                exact Ret.mk _ rfl (pBe (vF (fun h => h6 ((right_iff h0).1 h).2.2.2.1))) rfl
theorem cool_small (co : Int) (s : Int) : 0 ≤ clampI co 0 1099511627776 * 2 ^ (clampI s 0 6).toNat ∧ clampI co 0 1099511627776 * 2 ^ (clampI s 0 6).toNat ≤ 70368744177664 := by
  obtain ⟨a1, a2⟩ := clamp_rng (a := co) (l := 0) (h := 1099511627776) (by decide)
  obtain ⟨b1, b2⟩ := clamp_rng (a := s) (l := 0) (h := 6) (by decide)
  obtain ⟨q0, q1⟩ := pow6 (k := (clampI s 0 6).toNat) (by omega)
  obtain ⟨q, hq⟩ : ∃ q : Int, 2 ^ (clampI s 0 6).toNat = q := ⟨_, rfl⟩
  rw [hq] at q0 q1 ⊢
  have h3 : clampI co 0 1099511627776 * q ≤ clampI co 0 1099511627776 * 64 := Int.mul_le_mul_of_nonneg_left q1 a1
  have h4 : 0 ≤ clampI co 0 1099511627776 * q := Int.mul_nonneg a1 (by omega)
  omega
theorem Ready_ok (c : Cfg) (p : Pace) : Ok E 19 [] [pC c, pP p] (pI (readyI c p)) [] := by
  obtain ⟨v, hv⟩ : ∃ v, readyI c p = v := ⟨_, rfl⟩
  rw [hv]
  unfold readyI at hv
  have h1 := Clamp_ok c.co 0 1099511627776
  have h2 := Clamp_ok p.swing 0 6
  obtain ⟨b1, b2⟩ := clamp_rng (a := p.swing) (l := 0) (h := 6) (by decide)
  obtain ⟨s1, s2⟩ := cool_small c.co p.swing
  have h3 := Later_ok p.tick (clampI c.co 0 1099511627776 * 2 ^ (clampI p.swing 0 6).toNat)
  by_cases h0 : p.last = 0
  · rw [if_pos h0] at hv
    subst hv
    refine Ok.enter hE Tryz.func19 rfl (by decide +kernel) (by kernel_rfl) rfl rfl (Nat.le_of_ble_eq_true rfl) rfl ?_
    refine ⟨_, eqT h0, ?_⟩
    exact Ret.mk _ rfl rfl rfl
  · rw [if_neg h0] at hv
    rw [hv] at h3
    refine Ok.enter hE Tryz.func19 rfl (by decide +kernel) (by kernel_rfl) rfl rfl (Nat.le_of_ble_eq_true rfl) rfl ?_
    refine ⟨_, eqN h0, ?_⟩
    refine ⟨_, CallR.mk1 h1 rfl rfl, ?_⟩
    refine ⟨_, CallR.mk1 h2 rfl rfl, ?_⟩
    refine ⟨_, shlV b1 b2 rfl (by omega) (by omega), ?_⟩
    refine ⟨_, CallR.mk1 h3 rfl rfl, ?_⟩
    exact Ret.mk _ rfl rfl rfl
theorem swings_ok (l : List Int) (t : Int) : Ok E 45 [] [.c (.row (encN l)), pI t] (pB (swingsB l t)) [] := by
  obtain ⟨v, hv⟩ : ∃ v, swingsB l t = v := ⟨_, rfl⟩
  rw [hv]
  unfold swingsB at hv
  have hel := encN_len l
  by_cases h : l.length = 3
  · match l, h with
    | [a, b, d], _ =>
      have hv : (decide (b = t) && decide (a = d)) = v := by
        rw [← hv]
        simp
      by_cases h1 : b = t
      · rw [decide_eq_true h1, Bool.true_and] at hv
        refine Ok.enter hE Tryz.func45 rfl (by decide +kernel) (by kernel_rfl) rfl rfl (Nat.le_of_ble_eq_true rfl) rfl ?_
        refine ⟨_, eqT rfl, ?_⟩
        refine ⟨_, idxV (j := 1) rfl rfl rfl rfl rfl, ?_⟩
        refine ⟨_, eqT h1, ?_⟩
        refine ⟨_, idxV (j := 0) rfl rfl rfl rfl rfl, ?_⟩
        refine ⟨_, idxV (j := 2) rfl rfl rfl rfl rfl, ?_⟩
        refine ⟨_, eqV (c := v) (by rw [← hv]; exact (Bool.beq_eq_decide_eq _ _)), ?_⟩
        exact Ret.mk _ rfl rfl rfl
      · rw [decide_eq_false h1, Bool.false_and] at hv
        subst hv
        refine Ok.enter hE Tryz.func45 rfl (by decide +kernel) (by kernel_rfl) rfl rfl (Nat.le_of_ble_eq_true rfl) rfl ?_
        refine ⟨_, eqT rfl, ?_⟩
        refine ⟨_, idxV (j := 1) rfl rfl rfl rfl rfl, ?_⟩
        refine ⟨_, eqN h1, ?_⟩
        exact Ret.mk _ rfl rfl rfl
  · rw [decide_eq_false h, Bool.false_and] at hv
    subst hv
    refine Ok.enter hE Tryz.func45 rfl (by decide +kernel) (by kernel_rfl) rfl rfl (Nat.le_of_ble_eq_true rfl) rfl ?_
    refine ⟨_, eqN (by rw [hel]; omega), ?_⟩
    exact Ret.mk _ rfl rfl rfl
theorem stays_ok (c : Cfg) (p : Pace) (t : Int) (t0 : 0 ≤ t) (t1 : t ≤ 1000000000000) (p0 : 0 ≤ p.last) (p1 : p.last ≤ 1000000000000) : Ok E 44 [] [pC c, pP p, pI t] (pB (nearB c p t)) [] := by
  obtain ⟨v, hv⟩ : ∃ v, nearB c p t = v := ⟨_, rfl⟩
  rw [hv]
  unfold nearB at hv
  have hW := Within_ok c p.last
  by_cases h : t = p.last
  · rw [decide_eq_true h, Bool.true_or] at hv
    subst hv
    refine Ok.enter hE Tryz.func44 rfl (by decide +kernel) (by kernel_rfl) rfl rfl (Nat.le_of_ble_eq_true rfl) rfl ?_
    refine ⟨_, subV rfl (by omega) (by omega), ?_⟩
    refine ⟨_, subV rfl (by omega) (by omega), ?_⟩
    refine ⟨_, maxV rfl, ?_⟩
    refine ⟨_, eqT (by omega), ?_⟩
    exact Ret.mk _ rfl rfl rfl
  · rw [decide_eq_false h, Bool.false_or] at hv
    by_cases h1 : max (t - p.last) (p.last - t) ≤ c.ba
    · rw [decide_eq_true h1, Bool.true_and] at hv
      rw [hv] at hW
      refine Ok.enter hE Tryz.func44 rfl (by decide +kernel) (by kernel_rfl) rfl rfl (Nat.le_of_ble_eq_true rfl) rfl ?_
      refine ⟨_, subV rfl (by omega) (by omega), ?_⟩
      refine ⟨_, subV rfl (by omega) (by omega), ?_⟩
      refine ⟨_, maxV rfl, ?_⟩
      refine ⟨_, eqN (by omega), ?_⟩
      refine ⟨_, leT h1, ?_⟩
      refine ⟨_, CallR.mk1 hW rfl rfl, ?_⟩
      exact Ret.mk _ rfl rfl rfl
    · rw [decide_eq_false h1, Bool.false_and] at hv
      subst hv
      refine Ok.enter hE Tryz.func44 rfl (by decide +kernel) (by kernel_rfl) rfl rfl (Nat.le_of_ble_eq_true rfl) rfl ?_
      refine ⟨_, subV rfl (by omega) (by omega), ?_⟩
      refine ⟨_, subV rfl (by omega) (by omega), ?_⟩
      refine ⟨_, maxV rfl, ?_⟩
      refine ⟨_, eqN (by omega), ?_⟩
      refine ⟨_, leN h1, ?_⟩
      exact Ret.mk _ rfl rfl rfl
end Go.Proofs.YtkolnkjdcncmpaaGreatDoor.Pc

/- pace.Decide, in the pure machine. -/
namespace Go.Proofs.YtkolnkjdcncmpaaGreatDoor.Pc
open Go Go.RowKit Go.Proofs.YtkolnkjdcncmpaaGreatDoor.Pm Go.Proofs.YtkolnkjdcncmpaaGreatDoor.Pl
open Go.Proofs.YtkolnkjdcncmpaaGreatDoor.Pr (minV wkTup)
set_option linter.unusedVariables false
set_option maxHeartbeats 1000000
theorem within_good {c : Cfg} {t : Int} (h : withinB c t = true) : Good c ∧ lowF c ≤ t ∧ t ≤ c.ce := by
  have h' := h
  unfold withinB at h'
  rw [Bool.and_eq_true] at h'
  have G := good_of h'.1
  exact ⟨G, G.within.1 h⟩
theorem right_last {p : Pace} (h : rightP p = true) : 0 ≤ p.last ∧ p.last ≤ 1000000000000 ∧ p.ring.length ≤ 3 ∧ 0 ≤ p.swing ∧ p.swing ≤ 6 := by
  by_cases h0 : p.last = 0
  · have := (right_iff0 h0).1 h; omega
  · obtain ⟨h1, h2, h3, h4, h5, h6⟩ := (right_iff h0).1 h
    unfold oddB at h3
    rw [List.any_eq_false] at h3
    have := h3 p.last (List.mem_of_getElem? h6)
    simp at this
    omega
theorem encN_cut (l : List Int) (n : Nat) : ((encN l).take l.length).drop n = encN (l.drop n) := by
  unfold encN
  rw [← List.map_take, ← List.map_drop, List.take_length]
theorem Decide_ok (c : Cfg) (p : Pace) (t now : Int) (hl : p.ring.length ≤ 9223372036854775807) : Ok E 22 [] [pC c, pP p, pI t, pI now] (.tup [pP (decideF c p t now).1, pB (decideF c p t now).2]) [] := by
  have hW := Within_ok c t
  have hR := Right_ok p hl
  have hY := Ready_ok c p
  obtain ⟨v, hv⟩ : ∃ v, decideF c p t now = v := ⟨_, rfl⟩
  rw [hv]
  unfold decideF at hv
  rcases Bool.eq_false_or_eq_true (withinB c t) with w1 | w1
  · rw [w1] at hW
    obtain ⟨G, g1, g2⟩ := within_good w1
    have glo := G.low
    have gcm := G.cm
    rcases Bool.eq_false_or_eq_true (rightP p) with r1 | r1
    · rw [r1] at hR
      obtain ⟨e1, e2, e3, e4, e5⟩ := right_last r1
      have hN := stays_ok c p t (by omega) (by omega) e1 e2
      by_cases n1 : now < 0
      · rw [if_pos (by unfold stopB; rw [decide_eq_true n1]; simp)] at hv
        subst hv
        refine Ok.enter hE Tryz.func22 rfl (by decide +kernel) (by kernel_rfl) rfl rfl (Nat.le_of_ble_eq_true rfl) rfl ?_
        refine ⟨_, CallR.mk1 hW rfl rfl, ?_⟩
        refine ⟨_, CallR.mk1 hR rfl rfl, ?_⟩
        refine ⟨_, ltT n1, ?_⟩
        exact Ret.mk _ rfl rfl rfl
      · by_cases n2 : now > 1099511627776
        · rw [if_pos (by unfold stopB; rw [decide_eq_true (show 1099511627776 < now from n2)]; simp)] at hv
          subst hv
          refine Ok.enter hE Tryz.func22 rfl (by decide +kernel) (by kernel_rfl) rfl rfl (Nat.le_of_ble_eq_true rfl) rfl ?_
          refine ⟨_, CallR.mk1 hW rfl rfl, ?_⟩
          refine ⟨_, CallR.mk1 hR rfl rfl, ?_⟩
          refine ⟨_, ltN n1, ?_⟩
          refine ⟨_, gtT n2, ?_⟩
          exact Ret.mk _ rfl rfl rfl
        · by_cases n3 : now < readyI c p
          · rw [if_pos (by unfold stopB; rw [decide_eq_true n3]; simp)] at hv
            subst hv
            refine Ok.enter hE Tryz.func22 rfl (by decide +kernel) (by kernel_rfl) rfl rfl (Nat.le_of_ble_eq_true rfl) rfl ?_
            refine ⟨_, CallR.mk1 hW rfl rfl, ?_⟩
            refine ⟨_, CallR.mk1 hR rfl rfl, ?_⟩
            refine ⟨_, ltN n1, ?_⟩
            refine ⟨_, gtN n2, ?_⟩
            refine ⟨_, CallR.mk1 hY rfl rfl, ?_⟩
            refine ⟨_, ltT n3, ?_⟩
            exact Ret.mk _ rfl rfl rfl
          · rcases Bool.eq_false_or_eq_true (nearB c p t) with n4 | n4
            · rw [n4] at hN
              rw [if_pos (by unfold stopB; rw [n4]; simp)] at hv
              subst hv
              refine Ok.enter hE Tryz.func22 rfl (by decide +kernel) (by kernel_rfl) rfl rfl (Nat.le_of_ble_eq_true rfl) rfl ?_
              refine ⟨_, CallR.mk1 hW rfl rfl, ?_⟩
              refine ⟨_, CallR.mk1 hR rfl rfl, ?_⟩
              refine ⟨_, ltN n1, ?_⟩
              refine ⟨_, gtN n2, ?_⟩
              refine ⟨_, CallR.mk1 hY rfl rfl, ?_⟩
              refine ⟨_, ltN n3, ?_⟩
              refine ⟨_, CallR.mk1 hN rfl rfl, ?_⟩
              exact Ret.mk _ rfl rfl rfl
            · rw [n4] at hN
              rw [if_neg (by unfold stopB; rw [w1, r1, n4, decide_eq_false n1, decide_eq_false n3, decide_eq_false (show ¬ 1099511627776 < now from n2)]; decide)] at hv
              subst hv
              have hel := encN_len p.ring
              have hSw := swings_ok p.ring t
              obtain ⟨m, hm⟩ : ∃ m : Nat, p.ring.length - 2 = m := ⟨_, rfl⟩
              have hS : Slice3R E 25 (.c (.row (encN p.ring))) (some (pI (m : Nat))) (pI (p.ring.length : Nat)) (pI (p.ring.length : Nat)) (.full (encN (p.ring.drop m))) := by
                rw [← encN_cut]
                exact slice3RV m p.ring.length rfl rfl rfl rfl rfl rfl ⟨by omega, by omega⟩ (encN_one _)
              have hA : AppR E [] 25 (.full (encN (p.ring.drop m))) (.c (.row [[.int .i64 t]])) (.orow (encN (p.ring.drop m) ++ [[.int .i64 t]]) 0) ([] ++ [((encN (p.ring.drop m)).length + 1, 3)]) :=
                AppR.full rfl rfl (by decide) rfl rfl (encN_one _) (by simp) (by simp) (by rw [encN_len, List.length_drop]; simp; omega) (by rw [encN_len, List.length_drop]; simp; show _ * 8 ≤ _; omega)
              have hring : encN (p.ring.drop m) ++ [[.int .i64 t]] = encN (p.ring.drop (p.ring.length - 2) ++ [t]) := by
                rw [hm]; unfold encN; rw [List.map_append]; rfl
              rcases Bool.eq_false_or_eq_true (swingsB p.ring t) with s1 | s1
              · rw [s1] at hSw
                refine Ok.enter hE Tryz.func22 rfl (by decide +kernel) (by kernel_rfl) rfl rfl (Nat.le_of_ble_eq_true rfl) rfl ?_
                refine ⟨_, CallR.mk1 hW rfl rfl, ?_⟩
                refine ⟨_, CallR.mk1 hR rfl rfl, ?_⟩
                refine ⟨_, ltN n1, ?_⟩
                refine ⟨_, gtN n2, ?_⟩
                refine ⟨_, CallR.mk1 hY rfl rfl, ?_⟩
                refine ⟨_, ltN n3, ?_⟩
                refine ⟨_, CallR.mk1 hN rfl rfl, ?_⟩
                refine ⟨_, CallR.mk1 hSw rfl rfl, ?_⟩
                refine ⟨_, addV rfl (by omega) (by omega), ?_⟩
                refine ⟨_, minV rfl, ?_⟩
                refine ⟨_, subV rfl (by omega) (by omega), ?_⟩
                refine ⟨_, addV rfl (by omega) (by omega), ?_⟩
                refine ⟨pI (m : Nat), maxV (by omega), ?_⟩
                refine ⟨_, by rw [hel]; exact hS, ?_⟩
                refine ⟨_, ⟨_, rfl, rfl⟩, ?_⟩
                refine ⟨_, _, hA, ?_⟩
                exact Ret.mk _ rfl (by show PV.tup [.agg [_, _, .row (encN (p.ring.drop m) ++ [[.int .i64 t]]), _], _] = PV.tup [.agg [_, _, .row (encN (p.ring.drop (p.ring.length - 2) ++ [t])), .int .i64 (if _ then _ else _)], _]; rw [hring, if_pos s1]; rfl) rfl
              · rw [s1] at hSw
                refine Ok.enter hE Tryz.func22 rfl (by decide +kernel) (by kernel_rfl) rfl rfl (Nat.le_of_ble_eq_true rfl) rfl ?_
                refine ⟨_, CallR.mk1 hW rfl rfl, ?_⟩
                refine ⟨_, CallR.mk1 hR rfl rfl, ?_⟩
                refine ⟨_, ltN n1, ?_⟩
                refine ⟨_, gtN n2, ?_⟩
                refine ⟨_, CallR.mk1 hY rfl rfl, ?_⟩
                refine ⟨_, ltN n3, ?_⟩
                refine ⟨_, CallR.mk1 hN rfl rfl, ?_⟩
                refine ⟨_, CallR.mk1 hSw rfl rfl, ?_⟩
                refine ⟨_, subV rfl (by omega) (by omega), ?_⟩
                refine ⟨_, addV rfl (by omega) (by omega), ?_⟩
                refine ⟨pI (m : Nat), maxV (by omega), ?_⟩
                refine ⟨_, by rw [hel]; exact hS, ?_⟩
                refine ⟨_, ⟨_, rfl, rfl⟩, ?_⟩
                refine ⟨_, _, hA, ?_⟩
                exact Ret.mk _ rfl (by show PV.tup [.agg [_, _, .row (encN (p.ring.drop m) ++ [[.int .i64 t]]), _], _] = PV.tup [.agg [_, _, .row (encN (p.ring.drop (p.ring.length - 2) ++ [t])), .int .i64 (if _ then _ else _)], _]; rw [hring, if_neg (by rw [s1]; decide)]; rfl) rfl
    · rw [r1] at hR
      rw [if_pos (by unfold stopB; rw [r1]; simp)] at hv
      subst hv
      refine Ok.enter hE Tryz.func22 rfl (by decide +kernel) (by kernel_rfl) rfl rfl (Nat.le_of_ble_eq_true rfl) rfl ?_
      refine ⟨_, CallR.mk1 hW rfl rfl, ?_⟩
      refine ⟨_, CallR.mk1 hR rfl rfl, ?_⟩
      exact Ret.mk _ rfl rfl rfl
  · rw [w1] at hW
    rw [if_pos (by unfold stopB; rw [w1]; simp)] at hv
    subst hv
    refine Ok.enter hE Tryz.func22 rfl (by decide +kernel) (by kernel_rfl) rfl rfl (Nat.le_of_ble_eq_true rfl) rfl ?_
    refine ⟨_, CallR.mk1 hW rfl rfl, ?_⟩
    exact Ret.mk _ rfl rfl rfl
end Go.Proofs.YtkolnkjdcncmpaaGreatDoor.Pc

/- The laws' raw configs (hagglerlaw14.Config), the helpers of layer 15's laws (pick, awake), in the pure machine. -/
namespace Go.Proofs.YtkolnkjdcncmpaaGreatDoor.Pc
open Go Go.RowKit Go.Proofs.YtkolnkjdcncmpaaGreatDoor.Pm Go.Proofs.YtkolnkjdcncmpaaGreatDoor.Pl
open Go.Proofs.YtkolnkjdcncmpaaGreatDoor.Pr (minV wkTup parseP parse_print)
open Go.Proofs.YtkolnkjdcncmpaaGreatDoor.Q (rngE txtE)
open Go.Proofs.YtkolnkjdcncmpaaGreatDoor.Lx (rowB rowB_get)
set_option linter.unusedVariables false
set_option maxHeartbeats 8000000
theorem pick14_ok (c n : Int) (hc : I64 c) (hn : 0 < n) : Ok E 36 [] [pI c, pI n] (pI (Pm.pk c n)) [] := by
  obtain ⟨h0, h1⟩ := hc
  refine Ok.enter hE Tryz.func36 rfl (by decide +kernel) (by kernel_rfl) rfl rfl (Nat.le_of_ble_eq_true rfl) rfl ?_
  by_cases hneg : c < 0
  · refine ⟨_, ltT hneg, ?_⟩
    refine ⟨_, addV rfl (by omega) (by omega), ?_⟩
    refine ⟨_, negV rfl (by omega) (by omega), ?_⟩
    refine ⟨_, remV (by omega) rfl, ?_⟩
    exact Ret.mk _ rfl (by show PV.c _ = _; rw [Pm.pk, if_pos hneg]) rfl
  · refine ⟨_, ltN hneg, ?_⟩
    refine ⟨_, remV (by omega) rfl, ?_⟩
    exact Ret.mk _ rfl (by show PV.c _ = _; rw [Pm.pk, if_neg hneg]) rfl
theorem pick15_ok (c n : Int) (hc : I64 c) (hn : 0 < n) : Ok E 21 [] [pI c, pI n] (pI (Pm.pk c n)) [] := by
  obtain ⟨h0, h1⟩ := hc
  refine Ok.enter hE Tryz.func21 rfl (by decide +kernel) (by kernel_rfl) rfl rfl (Nat.le_of_ble_eq_true rfl) rfl ?_
  by_cases hneg : c < 0
  · refine ⟨_, ltT hneg, ?_⟩
    refine ⟨_, addV rfl (by omega) (by omega), ?_⟩
    refine ⟨_, negV rfl (by omega) (by omega), ?_⟩
    refine ⟨_, remV (by omega) rfl, ?_⟩
    exact Ret.mk _ rfl (by show PV.c _ = _; rw [Pm.pk, if_pos hneg]) rfl
  · refine ⟨_, ltN hneg, ?_⟩
    refine ⟨_, remV (by omega) rfl, ?_⟩
    exact Ret.mk _ rfl (by show PV.c _ = _; rw [Pm.pk, if_neg hneg]) rfl
def cfTexts : List ByteArray := [⟨#[108, 111, 119, 101, 115, 116]⟩, ⟨#[101, 108, 115, 101, 40, 108, 101, 115, 115, 40, 108, 111, 119, 101, 115, 116, 44, 32, 48, 46, 48, 49, 41, 44, 32, 57, 46, 57, 57, 41]⟩, ⟨#[99, 117, 116, 40, 115, 101, 99, 111, 110, 100, 44, 32, 50, 53, 48, 41]⟩, ⟨#[105, 102, 40, 109, 111, 114, 101, 40, 50, 41, 44, 32, 109, 97, 120, 40, 108, 111, 119, 101, 115, 116, 44, 32, 53, 46, 48, 48, 41, 44, 32, 102, 114, 111, 109, 40, 98, 111, 98, 48, 41, 41]⟩]
def cfText (raw : List Int) (expr : List Int) : ByteArray := if ((raw.getD 5 0).tmod 2 = 0 ∧ isRight (stratF expr) = true) then B (txtE (stratF expr)) else cfTexts.getD (pk (raw.getD 5 0) 4).toNat Lx.e0
def configF (raw : List Int) (expr : List Int) : Cfg :=
  let fl := 1 + pk (raw.getD 0 0) 1500
  let ce := fl + pk (raw.getD 1 0) 2000
  ⟨fl, ce, if (raw.getD 2 0).tmod 3 = 0 then 0 else pk (raw.getD 2 0) (ce + 1), pk (raw.getD 3 0) 12, if (raw.getD 4 0).tmod 3 = 0 then 0 else pk (raw.getD 4 0) 60, cfText raw expr⟩
def okT (s : ByteArray) : Bool := decide ((parseP s).2.1 = 0) && isRight (parseP s).1
theorem config_small (raw expr : List Int) : 1 ≤ (configF raw expr).fl ∧ (configF raw expr).fl ≤ 1500 ∧ (configF raw expr).fl ≤ (configF raw expr).ce ∧ (configF raw expr).ce ≤ 3500 ∧ 0 ≤ (configF raw expr).mp ∧ (configF raw expr).mp ≤ (configF raw expr).ce ∧ 0 ≤ (configF raw expr).co ∧ (configF raw expr).co ≤ 12 ∧ 0 ≤ (configF raw expr).ba ∧ (configF raw expr).ba ≤ 60 := by
  obtain ⟨a0, a1⟩ := pk_rng (c := raw.getD 0 0) (n := 1500) (by decide)
  obtain ⟨b0, b1⟩ := pk_rng (c := raw.getD 1 0) (n := 2000) (by decide)
  obtain ⟨c0, c1⟩ := pk_rng (c := raw.getD 2 0) (n := 1 + pk (raw.getD 0 0) 1500 + pk (raw.getD 1 0) 2000 + 1) (by omega)
  obtain ⟨d0, d1⟩ := pk_rng (c := raw.getD 3 0) (n := 12) (by decide)
  obtain ⟨e0, e1⟩ := pk_rng (c := raw.getD 4 0) (n := 60) (by decide)
  unfold configF
  dsimp only
  refine ⟨by omega, by omega, by omega, by omega, ?_, ?_, by omega, by omega, ?_, ?_⟩ <;> split <;> omega
theorem arr6 {raw : List Int} (h : raw.length = 6) : ∃ a b c d e f, raw = [a, b, c, d, e, f] := by
  match raw, h with
  | [a, b, c, d, e, f], _ => exact ⟨a, b, c, d, e, f, rfl⟩
theorem Config_ok6 (a b c d e f : Int) (hi : ∀ n ∈ [a, b, c, d, e, f], I64 n) (expr : List Int) (he : ∀ n ∈ expr, I64 n) (hel : expr.length ≤ 9223372036854775807) : Ok E 16 [] [.agg [.int .i64 a, .int .i64 b, .int .i64 c, .int .i64 d, .int .i64 e, .int .i64 f], .c (.row (encN expr))] (pC (configF [a, b, c, d, e, f] expr)) [] := by
  have hsm := config_small [a, b, c, d, e, f] expr
  obtain ⟨v, hv⟩ : ∃ v, configF [a, b, c, d, e, f] expr = v := ⟨_, rfl⟩
  rw [hv] at hsm ⊢
  have i0 := hi a (by simp)
  have i1 := hi b (by simp)
  have i2 := hi c (by simp)
  have i3 := hi d (by simp)
  have i4 := hi e (by simp)
  have i5 := hi f (by simp)
  have hS := strat_ok expr he hel
  have hx := strat_small expr he
  have hsz := hx.size
  have hP := rPrint_ok (stratF expr) hx.rng (by omega)
  have p0 := pick14_ok a 1500 i0 (by decide)
  have p1 := pick14_ok b 2000 i1 (by decide)
  have p3 := pick14_ok d 12 i3 (by decide)
  have p4 := pick14_ok e 60 i4 (by decide)
  have p5 := pick14_ok f 4 i5 (by decide)
  replace hv : (⟨1 + pk a 1500, 1 + pk a 1500 + pk b 2000, if c.tmod 3 = 0 then 0 else pk c (1 + pk a 1500 + pk b 2000 + 1), pk d 12, if e.tmod 3 = 0 then 0 else pk e 60, cfText [a, b, c, d, e, f] expr⟩ : Cfg) = v := hv
  obtain ⟨q0, hq0⟩ : ∃ q, pk a 1500 = q := ⟨_, rfl⟩
  obtain ⟨q1, hq1⟩ : ∃ q, pk b 2000 = q := ⟨_, rfl⟩
  obtain ⟨r0, r1⟩ := pk_rng (c := a) (n := 1500) (by decide)
  obtain ⟨s0, s1⟩ := pk_rng (c := b) (n := 2000) (by decide)
  rw [hq0] at p0 r0 r1
  rw [hq1] at p1 s0 s1
  rw [hq0, hq1] at hv
  have p2 := pick14_ok c (1 + q0 + q1 + 1) i2 (by omega)
  obtain ⟨t0, t1⟩ := pk_rng (c := f) (n := 4) (by decide)
  obtain ⟨k, hk⟩ : ∃ k : Nat, (pk f 4).toNat = k := ⟨_, rfl⟩
  have hkf : pk f 4 = (k : Int) := by omega
  rw [hkf] at p5
  have hg := rowB_get (l := cfTexts) (j := k) (by show _ < 4; omega)
  obtain ⟨tx, htx⟩ : ∃ t, cfTexts.getD k Lx.e0 = t := ⟨_, rfl⟩
  rw [htx] at hg
  obtain ⟨tt, htt⟩ : ∃ t, cfText [a, b, c, d, e, f] expr = t := ⟨_, rfl⟩
  rw [htt] at hv
  replace htt : (if (f.tmod 2 = 0 ∧ isRight (stratF expr) = true) then B (txtE (stratF expr)) else cfTexts.getD (pk f 4).toNat Lx.e0) = tt := htt
  rw [hk, htx] at htt
  by_cases e0 : f.tmod 2 = 0
  · rcases Bool.eq_false_or_eq_true (isRight (stratF expr)) with hr | hr
    · rw [if_pos ⟨e0, hr⟩] at htt
      rw [hr, if_pos rfl, htt] at hP
      by_cases m0 : c.tmod 3 = 0
      · by_cases b0 : e.tmod 3 = 0
        · rw [if_pos m0, if_pos b0] at hv
          subst hv
          refine Ok.enter hE Tryz.func16 rfl (by decide +kernel) (by kernel_rfl) rfl rfl (Nat.le_of_ble_eq_true rfl) rfl ?_
          refine ⟨_, ⟨rfl⟩, ?_⟩
          refine ⟨_, CallR.mk1 p0 rfl rfl, ?_⟩
          refine ⟨_, addV rfl (by omega) (by omega), ?_⟩
          refine ⟨_, ⟨rfl⟩, ?_⟩
          refine ⟨_, CallR.mk1 p1 rfl rfl, ?_⟩
          refine ⟨_, addV rfl (by omega) (by omega), ?_⟩
          refine ⟨_, ⟨rfl⟩, ?_⟩
          refine ⟨_, addV rfl (by omega) (by omega), ?_⟩
          refine ⟨_, CallR.mk1 p2 rfl rfl, ?_⟩
          refine ⟨_, ⟨rfl⟩, ?_⟩
          refine ⟨_, remV (by decide) rfl, ?_⟩
          refine ⟨_, eqT m0, ?_⟩
          refine ⟨_, ⟨rfl⟩, ?_⟩
          refine ⟨_, CallR.mk1 p3 rfl rfl, ?_⟩
          refine ⟨_, ⟨rfl⟩, ?_⟩
          refine ⟨_, CallR.mk1 p4 rfl rfl, ?_⟩
          refine ⟨_, ⟨rfl⟩, ?_⟩
          refine ⟨_, remV (by decide) rfl, ?_⟩
          refine ⟨_, eqT b0, ?_⟩
          refine ⟨_, ⟨_, rfl, rfl⟩, ?_⟩
          refine ⟨_, ⟨rfl⟩, ?_⟩
          refine ⟨_, CallR.mk1 p5 rfl rfl, ?_⟩
          refine ⟨_, idxV (j := k) hg rfl rfl rfl rfl, ?_⟩
          refine ⟨_, CallR.mk1 hS rfl rfl, ?_⟩
          refine ⟨_, CallR.mk1 hP rfl rfl, ?_⟩
          refine ⟨_, ⟨rfl⟩, ?_⟩
          refine ⟨_, remV (by decide) rfl, ?_⟩
          refine ⟨_, eqT e0, ?_⟩
          refine ⟨_, eqT rfl, ?_⟩
          exact Ret.mk _ rfl rfl rfl
        · rw [if_pos m0, if_neg b0] at hv
          subst hv
          refine Ok.enter hE Tryz.func16 rfl (by decide +kernel) (by kernel_rfl) rfl rfl (Nat.le_of_ble_eq_true rfl) rfl ?_
          refine ⟨_, ⟨rfl⟩, ?_⟩
          refine ⟨_, CallR.mk1 p0 rfl rfl, ?_⟩
          refine ⟨_, addV rfl (by omega) (by omega), ?_⟩
          refine ⟨_, ⟨rfl⟩, ?_⟩
          refine ⟨_, CallR.mk1 p1 rfl rfl, ?_⟩
          refine ⟨_, addV rfl (by omega) (by omega), ?_⟩
          refine ⟨_, ⟨rfl⟩, ?_⟩
          refine ⟨_, addV rfl (by omega) (by omega), ?_⟩
          refine ⟨_, CallR.mk1 p2 rfl rfl, ?_⟩
          refine ⟨_, ⟨rfl⟩, ?_⟩
          refine ⟨_, remV (by decide) rfl, ?_⟩
          refine ⟨_, eqT m0, ?_⟩
          refine ⟨_, ⟨rfl⟩, ?_⟩
          refine ⟨_, CallR.mk1 p3 rfl rfl, ?_⟩
          refine ⟨_, ⟨rfl⟩, ?_⟩
          refine ⟨_, CallR.mk1 p4 rfl rfl, ?_⟩
          refine ⟨_, ⟨rfl⟩, ?_⟩
          refine ⟨_, remV (by decide) rfl, ?_⟩
          refine ⟨_, eqN b0, ?_⟩
          refine ⟨_, ⟨_, rfl, rfl⟩, ?_⟩
          refine ⟨_, ⟨rfl⟩, ?_⟩
          refine ⟨_, CallR.mk1 p5 rfl rfl, ?_⟩
          refine ⟨_, idxV (j := k) hg rfl rfl rfl rfl, ?_⟩
          refine ⟨_, CallR.mk1 hS rfl rfl, ?_⟩
          refine ⟨_, CallR.mk1 hP rfl rfl, ?_⟩
          refine ⟨_, ⟨rfl⟩, ?_⟩
          refine ⟨_, remV (by decide) rfl, ?_⟩
          refine ⟨_, eqT e0, ?_⟩
          refine ⟨_, eqT rfl, ?_⟩
          exact Ret.mk _ rfl rfl rfl
      · by_cases b0 : e.tmod 3 = 0
        · rw [if_neg m0, if_pos b0] at hv
          subst hv
          refine Ok.enter hE Tryz.func16 rfl (by decide +kernel) (by kernel_rfl) rfl rfl (Nat.le_of_ble_eq_true rfl) rfl ?_
          refine ⟨_, ⟨rfl⟩, ?_⟩
          refine ⟨_, CallR.mk1 p0 rfl rfl, ?_⟩
          refine ⟨_, addV rfl (by omega) (by omega), ?_⟩
          refine ⟨_, ⟨rfl⟩, ?_⟩
          refine ⟨_, CallR.mk1 p1 rfl rfl, ?_⟩
          refine ⟨_, addV rfl (by omega) (by omega), ?_⟩
          refine ⟨_, ⟨rfl⟩, ?_⟩
          refine ⟨_, addV rfl (by omega) (by omega), ?_⟩
          refine ⟨_, CallR.mk1 p2 rfl rfl, ?_⟩
          refine ⟨_, ⟨rfl⟩, ?_⟩
          refine ⟨_, remV (by decide) rfl, ?_⟩
          refine ⟨_, eqN m0, ?_⟩
          refine ⟨_, ⟨rfl⟩, ?_⟩
          refine ⟨_, CallR.mk1 p3 rfl rfl, ?_⟩
          refine ⟨_, ⟨rfl⟩, ?_⟩
          refine ⟨_, CallR.mk1 p4 rfl rfl, ?_⟩
          refine ⟨_, ⟨rfl⟩, ?_⟩
          refine ⟨_, remV (by decide) rfl, ?_⟩
          refine ⟨_, eqT b0, ?_⟩
          refine ⟨_, ⟨_, rfl, rfl⟩, ?_⟩
          refine ⟨_, ⟨rfl⟩, ?_⟩
          refine ⟨_, CallR.mk1 p5 rfl rfl, ?_⟩
          refine ⟨_, idxV (j := k) hg rfl rfl rfl rfl, ?_⟩
          refine ⟨_, CallR.mk1 hS rfl rfl, ?_⟩
          refine ⟨_, CallR.mk1 hP rfl rfl, ?_⟩
          refine ⟨_, ⟨rfl⟩, ?_⟩
          refine ⟨_, remV (by decide) rfl, ?_⟩
          refine ⟨_, eqT e0, ?_⟩
          refine ⟨_, eqT rfl, ?_⟩
          exact Ret.mk _ rfl rfl rfl
        · rw [if_neg m0, if_neg b0] at hv
          subst hv
          refine Ok.enter hE Tryz.func16 rfl (by decide +kernel) (by kernel_rfl) rfl rfl (Nat.le_of_ble_eq_true rfl) rfl ?_
          refine ⟨_, ⟨rfl⟩, ?_⟩
          refine ⟨_, CallR.mk1 p0 rfl rfl, ?_⟩
          refine ⟨_, addV rfl (by omega) (by omega), ?_⟩
          refine ⟨_, ⟨rfl⟩, ?_⟩
          refine ⟨_, CallR.mk1 p1 rfl rfl, ?_⟩
          refine ⟨_, addV rfl (by omega) (by omega), ?_⟩
          refine ⟨_, ⟨rfl⟩, ?_⟩
          refine ⟨_, addV rfl (by omega) (by omega), ?_⟩
          refine ⟨_, CallR.mk1 p2 rfl rfl, ?_⟩
          refine ⟨_, ⟨rfl⟩, ?_⟩
          refine ⟨_, remV (by decide) rfl, ?_⟩
          refine ⟨_, eqN m0, ?_⟩
          refine ⟨_, ⟨rfl⟩, ?_⟩
          refine ⟨_, CallR.mk1 p3 rfl rfl, ?_⟩
          refine ⟨_, ⟨rfl⟩, ?_⟩
          refine ⟨_, CallR.mk1 p4 rfl rfl, ?_⟩
          refine ⟨_, ⟨rfl⟩, ?_⟩
          refine ⟨_, remV (by decide) rfl, ?_⟩
          refine ⟨_, eqN b0, ?_⟩
          refine ⟨_, ⟨_, rfl, rfl⟩, ?_⟩
          refine ⟨_, ⟨rfl⟩, ?_⟩
          refine ⟨_, CallR.mk1 p5 rfl rfl, ?_⟩
          refine ⟨_, idxV (j := k) hg rfl rfl rfl rfl, ?_⟩
          refine ⟨_, CallR.mk1 hS rfl rfl, ?_⟩
          refine ⟨_, CallR.mk1 hP rfl rfl, ?_⟩
          refine ⟨_, ⟨rfl⟩, ?_⟩
          refine ⟨_, remV (by decide) rfl, ?_⟩
          refine ⟨_, eqT e0, ?_⟩
          refine ⟨_, eqT rfl, ?_⟩
          exact Ret.mk _ rfl rfl rfl
    · rw [if_neg (fun h => by rw [hr] at h; exact absurd h.2 (by decide))] at htt
      subst htt
      rw [hr, if_neg (by decide)] at hP
      by_cases m0 : c.tmod 3 = 0
      · by_cases b0 : e.tmod 3 = 0
        · rw [if_pos m0, if_pos b0] at hv
          subst hv
          refine Ok.enter hE Tryz.func16 rfl (by decide +kernel) (by kernel_rfl) rfl rfl (Nat.le_of_ble_eq_true rfl) rfl ?_
          refine ⟨_, ⟨rfl⟩, ?_⟩
          refine ⟨_, CallR.mk1 p0 rfl rfl, ?_⟩
          refine ⟨_, addV rfl (by omega) (by omega), ?_⟩
          refine ⟨_, ⟨rfl⟩, ?_⟩
          refine ⟨_, CallR.mk1 p1 rfl rfl, ?_⟩
          refine ⟨_, addV rfl (by omega) (by omega), ?_⟩
          refine ⟨_, ⟨rfl⟩, ?_⟩
          refine ⟨_, addV rfl (by omega) (by omega), ?_⟩
          refine ⟨_, CallR.mk1 p2 rfl rfl, ?_⟩
          refine ⟨_, ⟨rfl⟩, ?_⟩
          refine ⟨_, remV (by decide) rfl, ?_⟩
          refine ⟨_, eqT m0, ?_⟩
          refine ⟨_, ⟨rfl⟩, ?_⟩
          refine ⟨_, CallR.mk1 p3 rfl rfl, ?_⟩
          refine ⟨_, ⟨rfl⟩, ?_⟩
          refine ⟨_, CallR.mk1 p4 rfl rfl, ?_⟩
          refine ⟨_, ⟨rfl⟩, ?_⟩
          refine ⟨_, remV (by decide) rfl, ?_⟩
          refine ⟨_, eqT b0, ?_⟩
          refine ⟨_, ⟨_, rfl, rfl⟩, ?_⟩
          refine ⟨_, ⟨rfl⟩, ?_⟩
          refine ⟨_, CallR.mk1 p5 rfl rfl, ?_⟩
          refine ⟨_, idxV (j := k) hg rfl rfl rfl rfl, ?_⟩
          refine ⟨_, CallR.mk1 hS rfl rfl, ?_⟩
          refine ⟨_, CallR.mk1 hP rfl rfl, ?_⟩
          refine ⟨_, ⟨rfl⟩, ?_⟩
          refine ⟨_, remV (by decide) rfl, ?_⟩
          refine ⟨_, eqT e0, ?_⟩
          refine ⟨_, eqN (by decide), ?_⟩
          exact Ret.mk _ rfl rfl rfl
        · rw [if_pos m0, if_neg b0] at hv
          subst hv
          refine Ok.enter hE Tryz.func16 rfl (by decide +kernel) (by kernel_rfl) rfl rfl (Nat.le_of_ble_eq_true rfl) rfl ?_
          refine ⟨_, ⟨rfl⟩, ?_⟩
          refine ⟨_, CallR.mk1 p0 rfl rfl, ?_⟩
          refine ⟨_, addV rfl (by omega) (by omega), ?_⟩
          refine ⟨_, ⟨rfl⟩, ?_⟩
          refine ⟨_, CallR.mk1 p1 rfl rfl, ?_⟩
          refine ⟨_, addV rfl (by omega) (by omega), ?_⟩
          refine ⟨_, ⟨rfl⟩, ?_⟩
          refine ⟨_, addV rfl (by omega) (by omega), ?_⟩
          refine ⟨_, CallR.mk1 p2 rfl rfl, ?_⟩
          refine ⟨_, ⟨rfl⟩, ?_⟩
          refine ⟨_, remV (by decide) rfl, ?_⟩
          refine ⟨_, eqT m0, ?_⟩
          refine ⟨_, ⟨rfl⟩, ?_⟩
          refine ⟨_, CallR.mk1 p3 rfl rfl, ?_⟩
          refine ⟨_, ⟨rfl⟩, ?_⟩
          refine ⟨_, CallR.mk1 p4 rfl rfl, ?_⟩
          refine ⟨_, ⟨rfl⟩, ?_⟩
          refine ⟨_, remV (by decide) rfl, ?_⟩
          refine ⟨_, eqN b0, ?_⟩
          refine ⟨_, ⟨_, rfl, rfl⟩, ?_⟩
          refine ⟨_, ⟨rfl⟩, ?_⟩
          refine ⟨_, CallR.mk1 p5 rfl rfl, ?_⟩
          refine ⟨_, idxV (j := k) hg rfl rfl rfl rfl, ?_⟩
          refine ⟨_, CallR.mk1 hS rfl rfl, ?_⟩
          refine ⟨_, CallR.mk1 hP rfl rfl, ?_⟩
          refine ⟨_, ⟨rfl⟩, ?_⟩
          refine ⟨_, remV (by decide) rfl, ?_⟩
          refine ⟨_, eqT e0, ?_⟩
          refine ⟨_, eqN (by decide), ?_⟩
          exact Ret.mk _ rfl rfl rfl
      · by_cases b0 : e.tmod 3 = 0
        · rw [if_neg m0, if_pos b0] at hv
          subst hv
          refine Ok.enter hE Tryz.func16 rfl (by decide +kernel) (by kernel_rfl) rfl rfl (Nat.le_of_ble_eq_true rfl) rfl ?_
          refine ⟨_, ⟨rfl⟩, ?_⟩
          refine ⟨_, CallR.mk1 p0 rfl rfl, ?_⟩
          refine ⟨_, addV rfl (by omega) (by omega), ?_⟩
          refine ⟨_, ⟨rfl⟩, ?_⟩
          refine ⟨_, CallR.mk1 p1 rfl rfl, ?_⟩
          refine ⟨_, addV rfl (by omega) (by omega), ?_⟩
          refine ⟨_, ⟨rfl⟩, ?_⟩
          refine ⟨_, addV rfl (by omega) (by omega), ?_⟩
          refine ⟨_, CallR.mk1 p2 rfl rfl, ?_⟩
          refine ⟨_, ⟨rfl⟩, ?_⟩
          refine ⟨_, remV (by decide) rfl, ?_⟩
          refine ⟨_, eqN m0, ?_⟩
          refine ⟨_, ⟨rfl⟩, ?_⟩
          refine ⟨_, CallR.mk1 p3 rfl rfl, ?_⟩
          refine ⟨_, ⟨rfl⟩, ?_⟩
          refine ⟨_, CallR.mk1 p4 rfl rfl, ?_⟩
          refine ⟨_, ⟨rfl⟩, ?_⟩
          refine ⟨_, remV (by decide) rfl, ?_⟩
          refine ⟨_, eqT b0, ?_⟩
          refine ⟨_, ⟨_, rfl, rfl⟩, ?_⟩
          refine ⟨_, ⟨rfl⟩, ?_⟩
          refine ⟨_, CallR.mk1 p5 rfl rfl, ?_⟩
          refine ⟨_, idxV (j := k) hg rfl rfl rfl rfl, ?_⟩
          refine ⟨_, CallR.mk1 hS rfl rfl, ?_⟩
          refine ⟨_, CallR.mk1 hP rfl rfl, ?_⟩
          refine ⟨_, ⟨rfl⟩, ?_⟩
          refine ⟨_, remV (by decide) rfl, ?_⟩
          refine ⟨_, eqT e0, ?_⟩
          refine ⟨_, eqN (by decide), ?_⟩
          exact Ret.mk _ rfl rfl rfl
        · rw [if_neg m0, if_neg b0] at hv
          subst hv
          refine Ok.enter hE Tryz.func16 rfl (by decide +kernel) (by kernel_rfl) rfl rfl (Nat.le_of_ble_eq_true rfl) rfl ?_
          refine ⟨_, ⟨rfl⟩, ?_⟩
          refine ⟨_, CallR.mk1 p0 rfl rfl, ?_⟩
          refine ⟨_, addV rfl (by omega) (by omega), ?_⟩
          refine ⟨_, ⟨rfl⟩, ?_⟩
          refine ⟨_, CallR.mk1 p1 rfl rfl, ?_⟩
          refine ⟨_, addV rfl (by omega) (by omega), ?_⟩
          refine ⟨_, ⟨rfl⟩, ?_⟩
          refine ⟨_, addV rfl (by omega) (by omega), ?_⟩
          refine ⟨_, CallR.mk1 p2 rfl rfl, ?_⟩
          refine ⟨_, ⟨rfl⟩, ?_⟩
          refine ⟨_, remV (by decide) rfl, ?_⟩
          refine ⟨_, eqN m0, ?_⟩
          refine ⟨_, ⟨rfl⟩, ?_⟩
          refine ⟨_, CallR.mk1 p3 rfl rfl, ?_⟩
          refine ⟨_, ⟨rfl⟩, ?_⟩
          refine ⟨_, CallR.mk1 p4 rfl rfl, ?_⟩
          refine ⟨_, ⟨rfl⟩, ?_⟩
          refine ⟨_, remV (by decide) rfl, ?_⟩
          refine ⟨_, eqN b0, ?_⟩
          refine ⟨_, ⟨_, rfl, rfl⟩, ?_⟩
          refine ⟨_, ⟨rfl⟩, ?_⟩
          refine ⟨_, CallR.mk1 p5 rfl rfl, ?_⟩
          refine ⟨_, idxV (j := k) hg rfl rfl rfl rfl, ?_⟩
          refine ⟨_, CallR.mk1 hS rfl rfl, ?_⟩
          refine ⟨_, CallR.mk1 hP rfl rfl, ?_⟩
          refine ⟨_, ⟨rfl⟩, ?_⟩
          refine ⟨_, remV (by decide) rfl, ?_⟩
          refine ⟨_, eqT e0, ?_⟩
          refine ⟨_, eqN (by decide), ?_⟩
          exact Ret.mk _ rfl rfl rfl
  · rw [if_neg (fun h => e0 h.1)] at htt
    subst htt
    obtain ⟨o, oe, hP'⟩ : ∃ o oe, Ok E 37 [] [pE (stratF expr)] (.tup [pS o, pI oe]) [] := by
      rcases Bool.eq_false_or_eq_true (isRight (stratF expr)) with h1 | h1
      · rw [h1, if_pos rfl] at hP; exact ⟨_, _, hP⟩
      · rw [h1, if_neg (by decide)] at hP; exact ⟨_, _, hP⟩
    clear hP
    have hP := hP'
    by_cases m0 : c.tmod 3 = 0
    · by_cases b0 : e.tmod 3 = 0
      · rw [if_pos m0, if_pos b0] at hv
        subst hv
        refine Ok.enter hE Tryz.func16 rfl (by decide +kernel) (by kernel_rfl) rfl rfl (Nat.le_of_ble_eq_true rfl) rfl ?_
        refine ⟨_, ⟨rfl⟩, ?_⟩
        refine ⟨_, CallR.mk1 p0 rfl rfl, ?_⟩
        refine ⟨_, addV rfl (by omega) (by omega), ?_⟩
        refine ⟨_, ⟨rfl⟩, ?_⟩
        refine ⟨_, CallR.mk1 p1 rfl rfl, ?_⟩
        refine ⟨_, addV rfl (by omega) (by omega), ?_⟩
        refine ⟨_, ⟨rfl⟩, ?_⟩
        refine ⟨_, addV rfl (by omega) (by omega), ?_⟩
        refine ⟨_, CallR.mk1 p2 rfl rfl, ?_⟩
        refine ⟨_, ⟨rfl⟩, ?_⟩
        refine ⟨_, remV (by decide) rfl, ?_⟩
        refine ⟨_, eqT m0, ?_⟩
        refine ⟨_, ⟨rfl⟩, ?_⟩
        refine ⟨_, CallR.mk1 p3 rfl rfl, ?_⟩
        refine ⟨_, ⟨rfl⟩, ?_⟩
        refine ⟨_, CallR.mk1 p4 rfl rfl, ?_⟩
        refine ⟨_, ⟨rfl⟩, ?_⟩
        refine ⟨_, remV (by decide) rfl, ?_⟩
        refine ⟨_, eqT b0, ?_⟩
        refine ⟨_, ⟨_, rfl, rfl⟩, ?_⟩
        refine ⟨_, ⟨rfl⟩, ?_⟩
        refine ⟨_, CallR.mk1 p5 rfl rfl, ?_⟩
        refine ⟨_, idxV (j := k) hg rfl rfl rfl rfl, ?_⟩
        refine ⟨_, CallR.mk1 hS rfl rfl, ?_⟩
        refine ⟨_, CallR.mk1 hP rfl rfl, ?_⟩
        refine ⟨_, ⟨rfl⟩, ?_⟩
        refine ⟨_, remV (by decide) rfl, ?_⟩
        refine ⟨_, eqN e0, ?_⟩
        exact Ret.mk _ rfl rfl rfl
      · rw [if_pos m0, if_neg b0] at hv
        subst hv
        refine Ok.enter hE Tryz.func16 rfl (by decide +kernel) (by kernel_rfl) rfl rfl (Nat.le_of_ble_eq_true rfl) rfl ?_
        refine ⟨_, ⟨rfl⟩, ?_⟩
        refine ⟨_, CallR.mk1 p0 rfl rfl, ?_⟩
        refine ⟨_, addV rfl (by omega) (by omega), ?_⟩
        refine ⟨_, ⟨rfl⟩, ?_⟩
        refine ⟨_, CallR.mk1 p1 rfl rfl, ?_⟩
        refine ⟨_, addV rfl (by omega) (by omega), ?_⟩
        refine ⟨_, ⟨rfl⟩, ?_⟩
        refine ⟨_, addV rfl (by omega) (by omega), ?_⟩
        refine ⟨_, CallR.mk1 p2 rfl rfl, ?_⟩
        refine ⟨_, ⟨rfl⟩, ?_⟩
        refine ⟨_, remV (by decide) rfl, ?_⟩
        refine ⟨_, eqT m0, ?_⟩
        refine ⟨_, ⟨rfl⟩, ?_⟩
        refine ⟨_, CallR.mk1 p3 rfl rfl, ?_⟩
        refine ⟨_, ⟨rfl⟩, ?_⟩
        refine ⟨_, CallR.mk1 p4 rfl rfl, ?_⟩
        refine ⟨_, ⟨rfl⟩, ?_⟩
        refine ⟨_, remV (by decide) rfl, ?_⟩
        refine ⟨_, eqN b0, ?_⟩
        refine ⟨_, ⟨_, rfl, rfl⟩, ?_⟩
        refine ⟨_, ⟨rfl⟩, ?_⟩
        refine ⟨_, CallR.mk1 p5 rfl rfl, ?_⟩
        refine ⟨_, idxV (j := k) hg rfl rfl rfl rfl, ?_⟩
        refine ⟨_, CallR.mk1 hS rfl rfl, ?_⟩
        refine ⟨_, CallR.mk1 hP rfl rfl, ?_⟩
        refine ⟨_, ⟨rfl⟩, ?_⟩
        refine ⟨_, remV (by decide) rfl, ?_⟩
        refine ⟨_, eqN e0, ?_⟩
        exact Ret.mk _ rfl rfl rfl
    · by_cases b0 : e.tmod 3 = 0
      · rw [if_neg m0, if_pos b0] at hv
        subst hv
        refine Ok.enter hE Tryz.func16 rfl (by decide +kernel) (by kernel_rfl) rfl rfl (Nat.le_of_ble_eq_true rfl) rfl ?_
        refine ⟨_, ⟨rfl⟩, ?_⟩
        refine ⟨_, CallR.mk1 p0 rfl rfl, ?_⟩
        refine ⟨_, addV rfl (by omega) (by omega), ?_⟩
        refine ⟨_, ⟨rfl⟩, ?_⟩
        refine ⟨_, CallR.mk1 p1 rfl rfl, ?_⟩
        refine ⟨_, addV rfl (by omega) (by omega), ?_⟩
        refine ⟨_, ⟨rfl⟩, ?_⟩
        refine ⟨_, addV rfl (by omega) (by omega), ?_⟩
        refine ⟨_, CallR.mk1 p2 rfl rfl, ?_⟩
        refine ⟨_, ⟨rfl⟩, ?_⟩
        refine ⟨_, remV (by decide) rfl, ?_⟩
        refine ⟨_, eqN m0, ?_⟩
        refine ⟨_, ⟨rfl⟩, ?_⟩
        refine ⟨_, CallR.mk1 p3 rfl rfl, ?_⟩
        refine ⟨_, ⟨rfl⟩, ?_⟩
        refine ⟨_, CallR.mk1 p4 rfl rfl, ?_⟩
        refine ⟨_, ⟨rfl⟩, ?_⟩
        refine ⟨_, remV (by decide) rfl, ?_⟩
        refine ⟨_, eqT b0, ?_⟩
        refine ⟨_, ⟨_, rfl, rfl⟩, ?_⟩
        refine ⟨_, ⟨rfl⟩, ?_⟩
        refine ⟨_, CallR.mk1 p5 rfl rfl, ?_⟩
        refine ⟨_, idxV (j := k) hg rfl rfl rfl rfl, ?_⟩
        refine ⟨_, CallR.mk1 hS rfl rfl, ?_⟩
        refine ⟨_, CallR.mk1 hP rfl rfl, ?_⟩
        refine ⟨_, ⟨rfl⟩, ?_⟩
        refine ⟨_, remV (by decide) rfl, ?_⟩
        refine ⟨_, eqN e0, ?_⟩
        exact Ret.mk _ rfl rfl rfl
      · rw [if_neg m0, if_neg b0] at hv
        subst hv
        refine Ok.enter hE Tryz.func16 rfl (by decide +kernel) (by kernel_rfl) rfl rfl (Nat.le_of_ble_eq_true rfl) rfl ?_
        refine ⟨_, ⟨rfl⟩, ?_⟩
        refine ⟨_, CallR.mk1 p0 rfl rfl, ?_⟩
        refine ⟨_, addV rfl (by omega) (by omega), ?_⟩
        refine ⟨_, ⟨rfl⟩, ?_⟩
        refine ⟨_, CallR.mk1 p1 rfl rfl, ?_⟩
        refine ⟨_, addV rfl (by omega) (by omega), ?_⟩
        refine ⟨_, ⟨rfl⟩, ?_⟩
        refine ⟨_, addV rfl (by omega) (by omega), ?_⟩
        refine ⟨_, CallR.mk1 p2 rfl rfl, ?_⟩
        refine ⟨_, ⟨rfl⟩, ?_⟩
        refine ⟨_, remV (by decide) rfl, ?_⟩
        refine ⟨_, eqN m0, ?_⟩
        refine ⟨_, ⟨rfl⟩, ?_⟩
        refine ⟨_, CallR.mk1 p3 rfl rfl, ?_⟩
        refine ⟨_, ⟨rfl⟩, ?_⟩
        refine ⟨_, CallR.mk1 p4 rfl rfl, ?_⟩
        refine ⟨_, ⟨rfl⟩, ?_⟩
        refine ⟨_, remV (by decide) rfl, ?_⟩
        refine ⟨_, eqN b0, ?_⟩
        refine ⟨_, ⟨_, rfl, rfl⟩, ?_⟩
        refine ⟨_, ⟨rfl⟩, ?_⟩
        refine ⟨_, CallR.mk1 p5 rfl rfl, ?_⟩
        refine ⟨_, idxV (j := k) hg rfl rfl rfl rfl, ?_⟩
        refine ⟨_, CallR.mk1 hS rfl rfl, ?_⟩
        refine ⟨_, CallR.mk1 hP rfl rfl, ?_⟩
        refine ⟨_, ⟨rfl⟩, ?_⟩
        refine ⟨_, remV (by decide) rfl, ?_⟩
        refine ⟨_, eqN e0, ?_⟩
        exact Ret.mk _ rfl rfl rfl
theorem Config_ok (raw : List Int) (hl : raw.length = 6) (hi : ∀ n ∈ raw, I64 n) (expr : List Int) (he : ∀ n ∈ expr, I64 n) (hel : expr.length ≤ 9223372036854775807) : Ok E 16 [] [.agg (encI raw), .c (.row (encN expr))] (pC (configF raw expr)) [] := by
  obtain ⟨a, b, c, d, e, f, rfl⟩ := arr6 hl
  exact Config_ok6 a b c d e f hi expr he hel
end Go.Proofs.YtkolnkjdcncmpaaGreatDoor.Pc

/- Layer 15's laws' helpers: Play, in the pure machine. -/
namespace Go.Proofs.YtkolnkjdcncmpaaGreatDoor.Pc
open Go Go.RowKit Go.Proofs.YtkolnkjdcncmpaaGreatDoor.Pm Go.Proofs.YtkolnkjdcncmpaaGreatDoor.Pl
open Go.Proofs.YtkolnkjdcncmpaaGreatDoor.Pr (minV wkTup parseP)
open Go.Proofs.YtkolnkjdcncmpaaGreatDoor.Lx (wkO)
set_option linter.unusedVariables false
set_option maxHeartbeats 1000000
@[reducible] def boxP (p : Pace) : List PV := [pI p.last, pI p.tick, .c (.row (encN p.ring)), pI p.swing]
@[reducible] def boxC (c : Cfg) : List PV := [pI c.fl, pI c.ce, pI c.mp, pI c.co, pI c.ba, pS c.tx]
theorem wkP0 : Wk (.agg [.int .i64 0, .int .i64 0, .nil, .int .i64 0]) (pP p0) := Wk.aggC (.same (.same (.row (.same .nil))))
end Go.Proofs.YtkolnkjdcncmpaaGreatDoor.Pc

/- Layer 15's laws: awake, PaceApart, PaceRing, in the pure machine. -/
namespace Go.Proofs.YtkolnkjdcncmpaaGreatDoor.Pc
open Go Go.RowKit Go.Proofs.YtkolnkjdcncmpaaGreatDoor.Pm Go.Proofs.YtkolnkjdcncmpaaGreatDoor.Pl
open Go.Proofs.YtkolnkjdcncmpaaGreatDoor.Pr (minV wkTup parseP)
set_option linter.unusedVariables false
set_option maxHeartbeats 1000000
def awC : Cfg := ⟨1, 900, 0, 4, 5, ⟨#[108, 111, 119, 101, 115, 116]⟩⟩
theorem awD1 : decideF awC p0 500 10 = (⟨500, 10, [500], 0⟩, true) := by kernel_rfl
theorem awD2 : decideF awC ⟨500, 10, [500], 0⟩ 505 20 = (⟨500, 10, [500], 0⟩, false) := by kernel_rfl
theorem awD3 : decideF awC ⟨500, 10, [500], 0⟩ 600 13 = (⟨500, 10, [500], 0⟩, false) := by kernel_rfl
theorem awD4 : decideF awC ⟨500, 10, [500], 0⟩ 600 14 = (⟨600, 14, [500, 600], 0⟩, true) := by kernel_rfl
theorem awD5 : decideF awC ⟨500, 10, [500, 600, 500], 0⟩ 600 14 = (⟨600, 14, [600, 500, 600], 1⟩, true) := by kernel_rfl
theorem awR1 : readyI awC ⟨500, 10, [500], 0⟩ = 14 := by kernel_rfl
theorem awR2 : readyI awC ⟨600, 14, [600, 500, 600], 1⟩ = 22 := by kernel_rfl
theorem awake_ok : Ok E 15 [] [] (pB true) [] := by
  have d1 := Decide_ok awC p0 500 10 (by decide)
  have d2 := Decide_ok awC ⟨500, 10, [500], 0⟩ 505 20 (by decide)
  have d3 := Decide_ok awC ⟨500, 10, [500], 0⟩ 600 13 (by decide)
  have d4 := Decide_ok awC ⟨500, 10, [500], 0⟩ 600 14 (by decide)
  have d5 := Decide_ok awC ⟨500, 10, [500, 600, 500], 0⟩ 600 14 (by decide)
  rw [awD1] at d1
  rw [awD2] at d2
  rw [awD3] at d3
  rw [awD4] at d4
  rw [awD5] at d5
  have r1 := Ready_ok awC ⟨500, 10, [500], 0⟩
  have r2 := Ready_ok awC ⟨600, 14, [600, 500, 600], 1⟩
  rw [awR1] at r1
  rw [awR2] at r2
  have g1 := Right_ok ⟨500, 10, [500], 0⟩ (by decide)
  have g2 := Right_ok ⟨1, 0, [], 0⟩ (by decide)
  rw [show rightP ⟨500, 10, [500], 0⟩ = true from rfl] at g1
  rw [show rightP ⟨1, 0, [], 0⟩ = false from rfl] at g2
  have wk1 : Wk (.agg [.int .i64 1, .int .i64 0, .nil, .int .i64 0]) (pP ⟨1, 0, [], 0⟩) := Wk.aggC (.same (.same (.row (.same .nil))))
  refine Ok.enter hE Tryz.func15 rfl (by decide +kernel) (by kernel_rfl) rfl rfl (Nat.le_of_ble_eq_true rfl) rfl ?_
  refine ⟨_, CallR.mkW d1 (.cons (Wk.refl _) (.cons wkP0 (WkL.refl _))) rfl rfl, ?_⟩
  refine ⟨_, CallR.mk1 d2 rfl rfl, ?_⟩
  refine ⟨_, CallR.mk1 d3 rfl rfl, ?_⟩
  refine ⟨_, CallR.mk1 d4 rfl rfl, ?_⟩
  refine ⟨_, ⟨_, rfl, rfl⟩, ?_⟩
  refine ⟨_, CallR.mk1 d5 rfl rfl, ?_⟩
  refine ⟨_, eqT rfl, ?_⟩
  refine ⟨_, eqT rfl, ?_⟩
  refine ⟨_, CallR.mk1 r1 rfl rfl, ?_⟩
  refine ⟨_, eqT rfl, ?_⟩
  refine ⟨_, eqT rfl, ?_⟩
  refine ⟨_, eqT rfl, ?_⟩
  refine ⟨_, eqT rfl, ?_⟩
  refine ⟨_, eqT rfl, ?_⟩
  refine ⟨_, CallR.mk1 r2 rfl rfl, ?_⟩
  refine ⟨_, eqT rfl, ?_⟩
  refine ⟨_, CallR.mk1 g1 rfl rfl, ?_⟩
  refine ⟨_, CallR.mkW g2 (.cons wk1 .nil) rfl rfl, ?_⟩
  exact Ret.mk _ rfl rfl rfl
theorem cfg_nil (raw : List Int) (hl : raw.length = 6) (hi : ∀ n ∈ raw, I64 n) : Ok E 16 [] [.agg (encI raw), .c (.row (encN []))] (pC (configF raw [])) [] := Config_ok raw hl hi [] (fun n h => by simp at h) (by decide)
theorem wkNilN : Wk (.c .nil) (.c (.row (encN []))) := Wk.nilRow
end Go.Proofs.YtkolnkjdcncmpaaGreatDoor.Pc

/- Layer 15's laws: PaceOnce, PaceBand, in the pure machine. -/
namespace Go.Proofs.YtkolnkjdcncmpaaGreatDoor.Pc
open Go Go.RowKit Go.Proofs.YtkolnkjdcncmpaaGreatDoor.Pm Go.Proofs.YtkolnkjdcncmpaaGreatDoor.Pl
open Go.Proofs.YtkolnkjdcncmpaaGreatDoor.Pr (minV wkTup parseP)
set_option linter.unusedVariables false
set_option maxHeartbeats 1000000
end Go.Proofs.YtkolnkjdcncmpaaGreatDoor.Pc
