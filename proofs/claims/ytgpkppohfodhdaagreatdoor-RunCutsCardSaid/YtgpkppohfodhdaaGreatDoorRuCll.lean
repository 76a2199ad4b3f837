import Derived.Test.YtgpkppohfodhdaaGreatDoorRuBll
import Derived.Test.YtgpkppohfodhdaaGreatDoorVaBll
import Derived.Test.YtgpkppohfodhdaaGreatDoorPmBll
import Derived.Test.YtgpkppohfodhdaaGreatDoorCdAll
namespace Go.Proofs.YtgpkppohfodhdaaGreatDoor.Ru
open Go Go.RowKit Go.Proofs.YtgpkppohfodhdaaGreatDoor.Pm Go.Proofs.YtgpkppohfodhdaaGreatDoor.Pl Go.Proofs.YtgpkppohfodhdaaGreatDoor.Va
set_option linter.unusedVariables false
set_option linter.unusedSimpArgs false
set_option maxHeartbeats 4000000
set_option maxRecDepth 8000
end Go.Proofs.YtgpkppohfodhdaaGreatDoor.Ru
namespace Go.Proofs.YtgpkppohfodhdaaGreatDoor.Ru
open Go Go.RowKit Go.Proofs.YtgpkppohfodhdaaGreatDoor.Pm Go.Proofs.YtgpkppohfodhdaaGreatDoor.Pl Go.Proofs.YtgpkppohfodhdaaGreatDoor.Va
set_option linter.unusedVariables false
set_option linter.unusedSimpArgs false
set_option maxHeartbeats 4000000
set_option maxRecDepth 8000
def awO : List Of := [⟨⟨#[97]⟩, 500⟩, ⟨⟨#[98]⟩, 700⟩]
def aw1 : List Ins := [⟨2, 0, ⟨#[]⟩⟩, ⟨7, 0, ⟨#[]⟩⟩]
def aw2 : List Ins := [⟨10, 1, ⟨#[]⟩⟩, ⟨12, 4, ⟨#[]⟩⟩, ⟨3, 0, ⟨#[]⟩⟩, ⟨13, 5, ⟨#[]⟩⟩, ⟨1, 3, ⟨#[]⟩⟩, ⟨5, 1, ⟨#[]⟩⟩]
def aw3 : List Ins := [⟨4, 0, ⟨#[99]⟩⟩]
theorem aw_run : tellR awO aw1 = ((0, false), 100, 2) ∧ (tellR awO aw2).1 = (699, true) ∧ (tellR awO aw2).2.1 = 0 ∧ (tellR awO aw3).1 = (0, false) ∧ (tellR awO aw3).2.1 = 0 := by decide +kernel
theorem awake11_ok : Ok E 10 [] [] (pB true) [] := by
 obtain ⟨f1, f2, f3, f4, f5⟩ := aw_run
 have h1 := Run_ok aw1 awO (by decide) (by decide)
 have h2 := Run_ok aw2 awO (by decide) (by decide)
 have h3 := Run_ok aw3 awO (by decide) (by decide)
 have h4 := Steps_ok aw1 awO (by decide) (by decide)
 unfold pR at h1 h2 h3
 rw [f1] at h1 h4
 rw [f2, f3] at h2
 rw [f4, f5] at h3
 refine Ok.enter hE Tryz.func10 rfl (by decide +kernel) (by kernel_rfl) rfl rfl (Nat.le_of_ble_eq_true rfl) rfl ?_
 refine ⟨_, ⟨_, rfl, rfl⟩, ?_⟩
 refine ⟨_, ⟨_, rfl, rfl⟩, ?_⟩
 refine ⟨_, CallR.mk1 h1 rfl rfl, ?_⟩
 refine ⟨_, ⟨_, rfl, rfl⟩, ?_⟩
 refine ⟨_, CallR.mk1 h2 rfl rfl, ?_⟩
 refine ⟨_, ⟨_, rfl, rfl⟩, ?_⟩
 refine ⟨_, CallR.mk1 h3 rfl rfl, ?_⟩
 refine ⟨_, eqT rfl, ?_⟩
 refine ⟨_, ⟨_, rfl, rfl⟩, ?_⟩
 refine ⟨_, CallR.mk1 h4 rfl rfl, ?_⟩
 refine ⟨_, eqT rfl, ?_⟩
 refine ⟨_, eqT rfl, ?_⟩
 refine ⟨_, eqT rfl, ?_⟩
 refine ⟨_, eqT rfl, ?_⟩
 exact Ret.mk _ rfl rfl rfl
end Go.Proofs.YtgpkppohfodhdaaGreatDoor.Ru
namespace Go.Proofs.YtgpkppohfodhdaaGreatDoor.Ru
open Go Go.RowKit Go.Proofs.YtgpkppohfodhdaaGreatDoor.Pm Go.Proofs.YtgpkppohfodhdaaGreatDoor.Pl Go.Proofs.YtgpkppohfodhdaaGreatDoor.Va
set_option linter.unusedVariables false
set_option linter.unusedSimpArgs false
set_option maxHeartbeats 4000000
set_option maxRecDepth 8000
theorem bb_ (b : Bool) : (b == b) = true := by cases b <;> rfl
theorem tell_right {R : List Of} {l : List Ins} (hR : rightO R = true) (hl : rightF l = true) : (tellR R l).2.1 = endF (runF R l l.length 0 []) ∧ (tellR R l).2.2 = (runF R l l.length 0 []).2.2 := by
 unfold tellR
 rw [hR, hl, if_neg (by simp), if_neg (by simp)]
 exact ⟨rfl, rfl⟩
end Go.Proofs.YtgpkppohfodhdaaGreatDoor.Ru
namespace Go.Proofs.YtgpkppohfodhdaaGreatDoor.Ru
open Go Go.RowKit Go.Proofs.YtgpkppohfodhdaaGreatDoor.Pm Go.Proofs.YtgpkppohfodhdaaGreatDoor.Pl Go.Proofs.YtgpkppohfodhdaaGreatDoor.Va
set_option linter.unusedVariables false
set_option linter.unusedSimpArgs false
set_option maxHeartbeats 4000000
set_option maxRecDepth 8000
theorem beqT {c d : Bool} {t sz bb : Nat} {zz : List CV} (h : (c == d) = true) (hT : E.T t = some ⟨.bool, sz, zz, bb⟩ := by rfl) : BinR E t .eql (pB c) (pB d) (pB true) := .of (by
 rw [hT]; cases c <;> cases d <;> simp at h <;> rfl)
theorem rowI_three' (l : List Ins) : ∀ x ∈ rowI l, x.length = 3 := by
 intro x hx
 unfold rowI at hx
 obtain ⟨y, -, rfl⟩ := List.mem_map.1 hx
 rfl
end Go.Proofs.YtgpkppohfodhdaaGreatDoor.Ru
namespace Go.Proofs.YtgpkppohfodhdaaGreatDoor.Ru
open Go Go.RowKit Go.Proofs.YtgpkppohfodhdaaGreatDoor.Pm Go.Proofs.YtgpkppohfodhdaaGreatDoor.Pl Go.Proofs.YtgpkppohfodhdaaGreatDoor.Va
set_option linter.unusedVariables false
set_option linter.unusedSimpArgs false
set_option maxHeartbeats 1000000
def Does (R : List Of) (l : List Ins) (a : Nat) (s : List Ce) (b : Nat) : Am → Prop
 | .er e => Errs R l a s e
 | r => ∃ n, Reach R l a s b (amC r :: s) n
def DoesC (R : List Of) (l : List Ins) (a : Nat) (s : List Ce) (b : Nat) : Cd → Prop
 | .er e => Errs R l a s e
 | .is c => ∃ n, Reach R l a s b ((if c = true then 1 else 0, true) :: s) n
theorem mid_get {α : Type} {u v : List α} {x : α} {n : Nat} (h : n = u.length) : (u ++ x :: v)[n]? = some x := by
 subst h
 rw [List.getElem?_append_right (Nat.le_refl _), Nat.sub_self]
 rfl
theorem Does.ok {R : List Of} {l : List Ins} {a b : Nat} {s : List Ce} {r : Am} (hr : ∀ e, r ≠ .er e) (h : ∃ n, Reach R l a s b (amC r :: s) n) : Does R l a s b r := by
 cases r with
 | er e => exact absurd rfl (hr e)
 | no => exact h
 | am n => exact h
theorem rank_ne {P : List Int} {k : Nat} (e : Int) : rankF P k ≠ .er e := by
 unfold rankF
 split <;> (intro h; cases h)
theorem from_ne (nm : ByteArray) (e : Int) : ∀ l : List Of, fromF nm l ≠ .er e
 | [] => by intro h; cases h
 | o :: l => by
  unfold fromF
  split
  ·intro h; cases h
  ·exact from_ne nm e l
theorem put_go {c : Ce} {s : List Ce} {a : Nat} (h : s.length < 100) : putF c s a = .go (c :: s) a := by unfold putF; rw [if_neg (by omega)]
theorem leaf_does {R : List Of} {l pre post : List Ins} {s : List Ce} {r : Am} {x : Ins} {b : Nat} (hl : l = pre ++ x :: post) (hs : stepF R x s (pre.length + 1) = putF (amC r) s (pre.length + 1)) (hr : ∀ e, r ≠ .er e) (h : s.length < 100) (hb : b = pre.length + 1) : Does R l pre.length s b r := by
 refine Does.ok hr ⟨1, .one (x := x) (by rw [hl]; exact mid_get rfl) ?_⟩
 rw [hs, put_go h, hb]
theorem less_does {R : List Of} {l : List Ins} {a m b : Nat} {s : List Ce} {r : Am} {x : Ins} {by_ : Int → Am} (hb : ∀ v, by_ v ≠ .no) (hd : Does R l a s m r) (hx : l[m]? = some x) (hs : ∀ t, stepF R x t (m + 1) = minusF by_ t (m + 1)) (hbm : b = m + 1) : Does R l a s b (lessF by_ r) := by
 subst hbm
 cases r with
 | er e => exact hd
 | no =>
  obtain ⟨n, hn⟩ := hd
  exact ⟨_, hn.trans (.one hx (by rw [hs]; rfl))⟩
 | am v =>
  obtain ⟨n, hn⟩ := hd
  have hst : stepF R x (amC (.am v) :: s) (m + 1) = amS s (m + 1) (lessF by_ (.am v)) := by rw [hs]; rfl
  have hno : lessF by_ (.am v) ≠ .no := by
   unfold lessF
   dsimp only
   cases hv : by_ v with
   | er e => intro h; cases h
   | no => exact absurd hv (hb v)
   | am b => dsimp only; unfold subF; split <;> (intro h; cases h)
  cases hz : lessF by_ (.am v) with
  | er e => rw [hz] at hst; exact .step hn (.now hx hst)
  | no => exact absurd hz hno
  | am z => rw [hz] at hst; exact ⟨_, hn.trans (.one hx hst)⟩
theorem both_does {R : List Of} {l : List Ins} {a m k b : Nat} {s : List Ce} {r q : Am} {x : Ins} {f : Int → Int → Int} (hd : Does R l a s m r) (he : (∀ e, r ≠ .er e) → Does R l m (amC r :: s) k q) (hx : l[k]? = some x) (hs : ∀ t, stepF R x t (k + 1) = twoF (pairF f) t (k + 1)) (hb : b = k + 1) : Does R l a s b (bothF f r q) := by
 subst hb
 have fin : (∀ e, r ≠ .er e) → (∀ e, q ≠ .er e) → Does R l a s m r → Does R l m (amC r :: s) k q → amC (bothF f r q) = pairF f (amC r) (amC q) → (∀ e, bothF f r q ≠ .er e) → Does R l a s (k + 1) (bothF f r q) := by
  intro h1 h2 h3 h4 h5 h6
  have g3 : ∃ n, Reach R l a s m (amC r :: s) n := by
   cases r with
   | er e => exact absurd rfl (h1 e)
   | no => exact h3
   | am n => exact h3
  have g4 : ∃ n, Reach R l m (amC r :: s) k (amC q :: amC r :: s) n := by
   cases q with
   | er e => exact absurd rfl (h2 e)
   | no => exact h4
   | am n => exact h4
  obtain ⟨n, hn⟩ := g3
  obtain ⟨n', hn'⟩ := g4
  refine Does.ok h6 ⟨_, (hn.trans hn').trans (.one hx ?_)⟩
  rw [hs, h5]
  rfl
 cases r with
 | er e => exact hd
 | no =>
  have h4 := he (fun e h => by cases h)
  cases q with
  | er e => obtain ⟨n, hn⟩ := hd; exact .step hn h4
  | no => exact fin (fun e h => by cases h) (fun e h => by cases h) hd h4 rfl (fun e h => by cases h)
  | am v => exact fin (fun e h => by cases h) (fun e h => by cases h) hd h4 rfl (fun e h => by cases h)
 | am u =>
  have h4 := he (fun e h => by cases h)
  cases q with
  | er e => obtain ⟨n, hn⟩ := hd; exact .step hn h4
  | no => exact fin (fun e h => by cases h) (fun e h => by cases h) hd h4 rfl (fun e h => by cases h)
  | am v => exact fin (fun e h => by cases h) (fun e h => by cases h) hd h4 rfl (fun e h => by cases h)
theorem above_does {R : List Of} {l : List Ins} {a m k b : Nat} {s : List Ce} {r q : Am} {x : Ins} (hd : Does R l a s m r) (he : (∀ e, r ≠ .er e) → Does R l m (amC r :: s) k q) (hx : l[k]? = some x) (hs : ∀ t, stepF R x t (k + 1) = twoF aboveC t (k + 1)) (hb : b = k + 1) : DoesC R l a s b (aboveF r q) := by
 subst hb
 have fin : ∀ c : Bool, (∃ n, Reach R l a s m (amC r :: s) n) → (∃ n, Reach R l m (amC r :: s) k (amC q :: amC r :: s) n) → aboveC (amC r) (amC q) = (if c = true then 1 else 0, true) → DoesC R l a s (k + 1) (.is c) := by
  rintro c ⟨n, hn⟩ ⟨n', hn'⟩ h5
  refine ⟨_, (hn.trans hn').trans (.one hx ?_)⟩
  rw [hs, ← h5]
  rfl
 cases r with
 | er e => exact hd
 | no =>
  have h4 := he (fun e h => by cases h)
  cases q with
  | er e => obtain ⟨n, hn⟩ := hd; exact Errs.step hn h4
  | no => exact fin false hd h4 rfl
  | am v => exact fin false hd h4 rfl
 | am u =>
  have h4 := he (fun e h => by cases h)
  cases q with
  | er e => obtain ⟨n, hn⟩ := hd; exact Errs.step hn h4
  | no => exact fin false hd h4 rfl
  | am v =>
   refine fin (decide (v < u)) hd h4 ?_
   unfold aboveC amC
   simp
end Go.Proofs.YtgpkppohfodhdaaGreatDoor.Ru
namespace Go.Proofs.YtgpkppohfodhdaaGreatDoor.Ru
open Go Go.RowKit Go.Proofs.YtgpkppohfodhdaaGreatDoor.Pm Go.Proofs.YtgpkppohfodhdaaGreatDoor.Pl Go.Proofs.YtgpkppohfodhdaaGreatDoor.Va
set_option linter.unusedVariables false
set_option linter.unusedSimpArgs false
set_option maxHeartbeats 2000000
theorem codes2 (x y : Ex) (p : Int) : codesF [x, y] p = codeF x p ++ codeF y (p + (codeF x p).length) := by rw [codesF, codesF, codesF, List.append_nil]
theorem codes1 (x : Ex) (p : Int) : codesF [x] p = codeF x p := by rw [codesF, codesF, List.append_nil]
theorem code_does {R : List Of} : ∀ (d : Nat),
  (∀ x : Ex, isFine d false x = true → ∀ (pre post l : List Ins) (s : List Ce) (b : Nat), l = pre ++ codeF x (pre.length : Int) ++ post → b = pre.length + (codeF x (pre.length : Int)).length → s.length + d ≤ 100 → Does R l pre.length s b (evalE R x)) ∧
  (∀ x : Ex, isFine d true x = true → ∀ (pre post l : List Ins) (s : List Ce) (b : Nat), l = pre ++ codeF x (pre.length : Int) ++ post → b = pre.length + (codeF x (pre.length : Int)).length → s.length + d ≤ 100 → DoesC R l pre.length s b (condE R x))
 | 0 => ⟨fun ⟨k, n, nm, xs⟩ h => by have := (fine_kind h).1; omega, fun ⟨k, n, nm, xs⟩ h => by have := (fine_kind h).1; omega⟩
 | d + 1 => by
  obtain ⟨ih, ihc⟩ := code_does (R := R) d
  have two : ∀ (x y : Ex), isFine d false x = true → isFine d false y = true → ∀ (pre post l : List Ins) (s : List Ce) (o : Ins), l = pre ++ (codeF x (pre.length : Int) ++ codeF y ((pre.length : Int) + (codeF x (pre.length : Int)).length) ++ [o]) ++ post → s.length + (d + 1) ≤ 100 →
    ∃ m k, Does R l pre.length s m (evalE R x) ∧ ((∀ e, evalE R x ≠ .er e) → Does R l m (amC (evalE R x) :: s) k (evalE R y)) ∧ l[k]? = some o ∧ k = pre.length + (codeF x (pre.length : Int)).length + (codeF y ((pre.length : Int) + (codeF x (pre.length : Int)).length)).length := by
   intro x y hx hy pre post l s o hl hs
   obtain ⟨u, hu⟩ : ∃ u, codeF x (pre.length : Int) = u := ⟨_, rfl⟩
   rw [hu] at hl ⊢
   obtain ⟨v, hv⟩ : ∃ v, codeF y ((pre.length : Int) + u.length) = v := ⟨_, rfl⟩
   rw [hv] at hl ⊢
   have hp : ((pre ++ u).length : Int) = (pre.length : Int) + u.length := by simp
   have i1 := ih x hx pre (v ++ [o] ++ post) l s (pre.length + u.length) (by rw [hl, hu]; simp [List.append_assoc]) (by rw [hu]) (by omega)
   refine ⟨_, pre.length + u.length + v.length, i1, fun _ => ?_, ?_, rfl⟩
   ·have i2 := ih y hy (pre ++ u) ([o] ++ post) l (amC (evalE R x) :: s) (pre.length + u.length + v.length) (by rw [hp, hv, hl]; simp [List.append_assoc]) (by rw [hp, hv, List.length_append]) (by simp; omega)
    rw [List.length_append] at i2
    exact i2
   ·rw [hl, show pre ++ (u ++ v ++ [o]) ++ post = (pre ++ u ++ v) ++ o :: post by simp [List.append_assoc]]
    exact mid_get (by simp [Nat.add_assoc])
  refine ⟨fun x h pre post l s b hl hb hs => ?_, fun x h pre post l s b hl hb hs => ?_⟩
  ·obtain ⟨k, n, nm, xs⟩ := x
   obtain ⟨-, n0, n1, hk⟩ := fine_kind h
   rw [show ((d + 1 : Nat) : Int) - 1 = (d : Int) by omega] at hk
   rcases hk with ⟨-, hk, rfl⟩ | ⟨-, hk, x, rfl, hx⟩ | ⟨-, hk, x, y, rfl, hx, hy⟩ | ⟨-, rfl, x, y, z, rfl, hx, hy, hz⟩ | ⟨hc, -⟩ | ⟨hc, -⟩
   ·have hcode : codeF ⟨k, n, nm, []⟩ (pre.length : Int) = [⟨opF' k, n, nm⟩] := by rw [codeF_leaf _ _ _ _ _ (by omega) (by omega), codesF]; rfl
    rw [hcode] at hl hb
    have hl' : l = pre ++ (⟨opF' k, n, nm⟩ : Ins) :: post := by rw [hl]; simp
    have hb' : b = pre.length + 1 := hb
    rcases hk with rfl | rfl | rfl | rfl
    ·rw [ev1]; exact leaf_does hl' rfl rank_ne (by omega) hb'
    ·rw [ev2]; exact leaf_does hl' rfl rank_ne (by omega) hb'
    ·rw [ev3]; exact leaf_does hl' rfl (fun e => from_ne nm e R) (by omega) hb'
    ·rw [ev4]; exact leaf_does hl' rfl (fun e h => by cases h) (by omega) hb'
   ·have hcode : codeF ⟨k, n, nm, [x]⟩ (pre.length : Int) = codeF x (pre.length : Int) ++ [⟨opF' k, n, nm⟩] := by rw [codeF_leaf _ _ _ _ _ (by omega) (by omega), codes1]
    rw [hcode] at hl hb
    obtain ⟨u, hu⟩ : ∃ u, codeF x (pre.length : Int) = u := ⟨_, rfl⟩
    rw [hu] at hl hb
    have i1 := ih x hx pre ([⟨opF' k, n, nm⟩] ++ post) l s (pre.length + u.length) (by rw [hl, hu]; simp [List.append_assoc]) (by rw [hu]) (by omega)
    have hg : l[pre.length + u.length]? = some ⟨opF' k, n, nm⟩ := by
     rw [hl, show pre ++ (u ++ [(⟨opF' k, n, nm⟩ : Ins)]) ++ post = (pre ++ u) ++ ⟨opF' k, n, nm⟩ :: post by simp [List.append_assoc]]
     exact mid_get (by simp)
    have hb' : b = pre.length + u.length + 1 := by rw [hb, List.length_append]; rfl
    rcases hk with rfl | ⟨rfl, -⟩
    ·rw [ev5]; exact less_does (fun v h => by cases h) i1 hg (fun t => rfl) hb'
    ·rw [ev6]
     exact less_does (by_ := fun v => partF v n) (fun v h => by
      rcases partF_cases v n with ⟨b, hb, -⟩ | hb
      ·rw [hb] at h; cases h
      ·rw [hb] at h; cases h) i1 hg (fun t => rfl) hb'
   ·rcases hk with rfl | rfl | rfl
    ·have hcode : codeF ⟨7, n, nm, [x, y]⟩ (pre.length : Int) = codeF x (pre.length : Int) ++ codeF y ((pre.length : Int) + (codeF x (pre.length : Int)).length) ++ [⟨7, n, nm⟩] := by rw [codeF_leaf _ _ _ _ _ (by decide) (by decide), codes2]; rfl
     rw [hcode] at hl hb
     obtain ⟨m, k, h1, h2, h3, h4⟩ := two x y hx hy pre post l s _ hl (by omega)
     rw [ev7]
     exact both_does h1 h2 h3 (fun t => rfl) (by rw [hb, h4]; simp [Nat.add_assoc])
    ·have hcode : codeF ⟨8, n, nm, [x, y]⟩ (pre.length : Int) = codeF x (pre.length : Int) ++ codeF y ((pre.length : Int) + (codeF x (pre.length : Int)).length) ++ [⟨8, n, nm⟩] := by rw [codeF_leaf _ _ _ _ _ (by decide) (by decide), codes2]; rfl
     rw [hcode] at hl hb
     obtain ⟨m, k, h1, h2, h3, h4⟩ := two x y hx hy pre post l s _ hl (by omega)
     rw [ev8]
     exact both_does h1 h2 h3 (fun t => rfl) (by rw [hb, h4]; simp [Nat.add_assoc])
    ·-- else
     rw [codeF, if_pos rfl] at hl hb
     dsimp only at hl hb
     obtain ⟨u, hu⟩ : ∃ u, codeF x (pre.length : Int) = u := ⟨_, rfl⟩
     rw [hu] at hl hb
     obtain ⟨v, hv⟩ : ∃ v, codeF y ((pre.length : Int) + u.length + 1) = v := ⟨_, rfl⟩
     rw [hv] at hl hb
     obtain ⟨o, ho⟩ : ∃ o : Ins, (⟨9, (pre.length : Int) + u.length + 1 + v.length, ⟨#[]⟩⟩ : Ins) = o := ⟨_, rfl⟩
     rw [ho] at hl hb
     have hb' : b = pre.length + u.length + 1 + v.length := by rw [hb]; simp; omega
     have i1 := ih x hx pre (o :: (v ++ post)) l s (pre.length + u.length) (by rw [hl, hu]; simp [List.append_assoc]) (by rw [hu]) (by omega)
     have hg : l[pre.length + u.length]? = some o := by
      rw [hl, show pre ++ (u ++ o :: v) ++ post = (pre ++ u) ++ o :: (v ++ post) by simp [List.append_assoc]]
      exact mid_get (by simp)
     have hp : ((pre ++ u ++ [o]).length : Int) = (pre.length : Int) + u.length + 1 := by simp; omega
     have i2 := ih y hy (pre ++ u ++ [o]) post l s b (by rw [hp, hv, hl]; simp [List.append_assoc]) (by rw [hp, hv, hb']; simp; omega) (by omega)
     rw [show (pre ++ u ++ [o]).length = pre.length + u.length + 1 by simp; omega] at i2
     have hop : o.op = 9 := by rw [← ho]
     have hon : o.n.toNat = b := by rw [← ho]; dsimp only; omega
     have hst : ∀ c : Ce, stepF R o (c :: s) (pre.length + u.length + 1) = .go (if c.2 = true then c :: s else s) (if c.2 = true then b else pre.length + u.length + 1) := by
      intro c
      have : stepF R o (c :: s) (pre.length + u.length + 1) = otherF o.n.toNat (c :: s) (pre.length + u.length + 1) := by unfold stepF; rw [hop]; rfl
      rw [this, hon]
      rfl
     rw [ev9]
     cases hr : evalE R x with
     | er e => rw [hr] at i1; exact i1
     | am a =>
      rw [hr] at i1
      obtain ⟨q, hq⟩ := i1
      exact ⟨_, hq.trans (.one hg (hst _))⟩
     | no =>
      rw [hr] at i1
      obtain ⟨q, hq⟩ := i1
      have hq2 := hq.trans (.one hg (hst _))
      dsimp only
      generalize evalE R y = ry at i2 ⊢
      cases ry with
      | er e => exact Errs.step hq2 i2
      | no => obtain ⟨q', hq'⟩ := i2; exact ⟨_, hq2.trans hq'⟩
      | am a => obtain ⟨q', hq'⟩ := i2; exact ⟨_, hq2.trans hq'⟩
   ·-- if
    rw [codeF, if_neg (by decide), if_pos rfl] at hl hb
    dsimp only at hl hb
    obtain ⟨c, hc⟩ : ∃ c, codeF x (pre.length : Int) = c := ⟨_, rfl⟩
    rw [hc] at hl hb
    obtain ⟨u, hu⟩ : ∃ u, codeF y ((pre.length : Int) + c.length + 1) = u := ⟨_, rfl⟩
    rw [hu] at hl hb
    obtain ⟨v, hv⟩ : ∃ v, codeF z ((pre.length : Int) + c.length + u.length + 2) = v := ⟨_, rfl⟩
    rw [hv] at hl hb
    obtain ⟨o, ho⟩ : ∃ o : Ins, (⟨12, (pre.length : Int) + c.length + u.length + 2, ⟨#[]⟩⟩ : Ins) = o := ⟨_, rfl⟩
    obtain ⟨j, hj⟩ : ∃ o : Ins, (⟨13, (pre.length : Int) + c.length + u.length + 2 + v.length, ⟨#[]⟩⟩ : Ins) = o := ⟨_, rfl⟩
    rw [ho, hj] at hl hb
    have hb' : b = pre.length + c.length + u.length + 2 + v.length := by rw [hb]; simp; omega
    have i1 := ihc x hx pre (o :: (u ++ j :: (v ++ post))) l s (pre.length + c.length) (by rw [hl, hc]; simp [List.append_assoc]) (by rw [hc]) (by omega)
    have hg : l[pre.length + c.length]? = some o := by
     rw [hl, show pre ++ (c ++ o :: (u ++ j :: v)) ++ post = (pre ++ c) ++ o :: (u ++ j :: (v ++ post)) by simp [List.append_assoc]]
     exact mid_get (by simp)
    have hgj : l[pre.length + c.length + 1 + u.length]? = some j := by
     rw [hl, show pre ++ (c ++ o :: (u ++ j :: v)) ++ post = (pre ++ c ++ [o] ++ u) ++ j :: (v ++ post) by simp [List.append_assoc]]
     exact mid_get (by simp; omega)
    have hp : ((pre ++ c ++ [o]).length : Int) = (pre.length : Int) + c.length + 1 := by simp; omega
    have i2 := ih y hy (pre ++ c ++ [o]) (j :: (v ++ post)) l s (pre.length + c.length + 1 + u.length) (by rw [hp, hu, hl]; simp [List.append_assoc]) (by rw [hp, hu]; simp; omega) (by omega)
    rw [show (pre ++ c ++ [o]).length = pre.length + c.length + 1 by simp; omega] at i2
    have hp3 : ((pre ++ c ++ [o] ++ u ++ [j]).length : Int) = (pre.length : Int) + c.length + u.length + 2 := by simp; omega
    have i3 := ih z hz (pre ++ c ++ [o] ++ u ++ [j]) post l s b (by rw [hp3, hv, hl]; simp [List.append_assoc]) (by rw [hp3, hv, hb']; simp; omega) (by omega)
    rw [show (pre ++ c ++ [o] ++ u ++ [j]).length = pre.length + c.length + u.length + 2 by simp; omega] at i3
    have hon : o.n.toNat = pre.length + c.length + u.length + 2 := by rw [← ho]; dsimp only; omega
    have hst : ∀ w : Ce, stepF R o (w :: s) (pre.length + c.length + 1) = .go s (if w.1 = 0 then pre.length + c.length + u.length + 2 else pre.length + c.length + 1) := by
     intro w
     have : stepF R o (w :: s) (pre.length + c.length + 1) = unlessF o.n.toNat (w :: s) (pre.length + c.length + 1) := by unfold stepF; rw [← ho]; rfl
     rw [this, hon]
     rfl
    have hstj : ∀ t : List Ce, stepF R j t (pre.length + c.length + 1 + u.length + 1) = .go t b := by
     intro t
     have : stepF R j t (pre.length + c.length + 1 + u.length + 1) = .go t j.n.toNat := by unfold stepF; rw [← hj]; rfl
     rw [this, show j.n.toNat = b by rw [← hj]; dsimp only; omega]
    rw [ev10]
    cases hr : condE R x with
    | er e => rw [hr] at i1; exact i1
    | is w =>
     rw [hr] at i1
     obtain ⟨q, hq⟩ := i1
     have hq2 := hq.trans (.one hg (hst _))
     cases w with
     | true =>
      replace hq2 : Reach R l pre.length s (pre.length + c.length + 1) s (1 + q) := hq2
      dsimp only
      generalize evalE R y = ry at i2 ⊢
      cases ry with
      | er e => exact Errs.step hq2 i2
      | no => obtain ⟨q', hq'⟩ := i2; exact ⟨_, (hq2.trans hq').trans (.one hgj (hstj _))⟩
      | am a => obtain ⟨q', hq'⟩ := i2; exact ⟨_, (hq2.trans hq').trans (.one hgj (hstj _))⟩
     | false =>
      replace hq2 : Reach R l pre.length s (pre.length + c.length + u.length + 2) s (1 + q) := hq2
      dsimp only
      generalize evalE R z = rz at i3 ⊢
      cases rz with
      | er e => exact Errs.step hq2 i3
      | no => obtain ⟨q', hq'⟩ := i3; exact ⟨_, hq2.trans hq'⟩
      | am a => obtain ⟨q', hq'⟩ := i3; exact ⟨_, hq2.trans hq'⟩
   ·cases hc
   ·cases hc
  ·obtain ⟨k, n, nm, xs⟩ := x
   obtain ⟨-, n0, n1, hk⟩ := fine_kind h
   rw [show ((d + 1 : Nat) : Int) - 1 = (d : Int) by omega] at hk
   rcases hk with ⟨hc, -⟩ | ⟨hc, -⟩ | ⟨hc, -⟩ | ⟨hc, -⟩ | ⟨-, rfl, rfl⟩ | ⟨-, rfl, x, y, rfl, hx, hy⟩
   ·cases hc
   ·cases hc
   ·cases hc
   ·cases hc
   ·have hcode : codeF ⟨11, n, nm, []⟩ (pre.length : Int) = [⟨10, n, nm⟩] := by rw [codeF_leaf _ _ _ _ _ (by decide) (by decide), codesF]; rfl
    rw [hcode] at hl hb
    have hl' : l = pre ++ (⟨10, n, nm⟩ : Ins) :: post := by rw [hl]; simp
    rw [cd11]
    refine ⟨_, .one (x := ⟨10, n, nm⟩) (by rw [hl']; exact mid_get rfl) ?_⟩
    have : stepF R ⟨10, n, nm⟩ s (pre.length + 1) = putF (if decide ((R.length : Int) > n) = true then 1 else 0, true) s (pre.length + 1) := rfl
    rw [this, put_go (by omega), hb]
    rfl
   ·have hcode : codeF ⟨12, n, nm, [x, y]⟩ (pre.length : Int) = codeF x (pre.length : Int) ++ codeF y ((pre.length : Int) + (codeF x (pre.length : Int)).length) ++ [⟨11, n, nm⟩] := by rw [codeF_leaf _ _ _ _ _ (by decide) (by decide), codes2]; rfl
    rw [hcode] at hl hb
    obtain ⟨m, k, h1, h2, h3, h4⟩ := two x y hx hy pre post l s _ hl (by omega)
    rw [cd12]
    exact above_does h1 h2 h3 (fun t => rfl) (by rw [hb, h4]; simp [Nat.add_assoc])
end Go.Proofs.YtgpkppohfodhdaaGreatDoor.Ru
namespace Go.Proofs.YtgpkppohfodhdaaGreatDoor.Ru
open Go Go.RowKit Go.Proofs.YtgpkppohfodhdaaGreatDoor.Pm Go.Proofs.YtgpkppohfodhdaaGreatDoor.Pl Go.Proofs.YtgpkppohfodhdaaGreatDoor.Va
set_option linter.unusedVariables false
set_option linter.unusedSimpArgs false
set_option maxHeartbeats 4000000
set_option maxRecDepth 8000
open Go.Proofs.YtgpkppohfodhdaaGreatDoor.Cd (compF compE Compile_ok)
theorem tell_errs {R : List Of} {l : List Ins} {e : Int} (hR : rightO R = true) (hl : rightF l = true) (h : Errs R l 0 [] e) : (tellR R l).1 = (0, false) ∧ (tellR R l).2.1 = e ∧ e ≠ 0 := by
 have hF := fwd_of hR hl
 have h1 := h.run hF Good.nil
 rw [Nat.sub_zero] at h1
 have he : e ≠ 0 := by
  obtain ⟨b, t, n, x, -, -, h3⟩ := h
  have := step_err h3
  omega
 have h2 : (tellR R l).2.1 = e := by
  rw [(tell_right hR hl).1]
  unfold endF
  rw [h1, if_neg (fun h => he h.1)]
 exact ⟨tell_err (by rw [h2]; exact he), h2, he⟩
theorem tell_reach {R : List Of} {l : List Ins} {t : List Ce} {n : Nat} (hR : rightO R = true) (hl : rightF l = true) (h : Reach R l 0 [] l.length t n) : (t.length = 1 → (tellR R l).1 = t.headD (0, false) ∧ (tellR R l).2.1 = 0) ∧ (t.length ≠ 1 → (tellR R l).2.1 = 100) := by
 have hF := fwd_of hR hl
 obtain ⟨-, h1⟩ := h.run hF Good.nil
 rw [Nat.sub_zero, run_end] at h1
 dsimp only at h1
 unfold tellR
 rw [hR, hl, if_neg (by simp), if_neg (by simp), h1]
 unfold endF
 dsimp only
 refine ⟨fun ht => ?_, fun ht => ?_⟩
 ·have hn : ¬ ((0 : Int) = 0 ∧ t.length ≠ 1) := fun h => h.2 ht
  rw [if_neg hn, if_pos rfl]
  exact ⟨rfl, rfl⟩
 ·rw [if_pos ⟨rfl, ht⟩]
theorem tell_does {R : List Of} {l : List Ins} {b : Nat} {r : Am} (hR : rightO R = true) (hl : rightF l = true) (h : Does R l 0 [] b r) (hrest : ∃ n, Reach R l b [amC r] l.length [amC r] n) : (tellR R l).1 = amC r ∧ (tellR R l).2.1 = amE r := by
 obtain ⟨n', hn'⟩ := hrest
 cases r with
 | er e =>
  obtain ⟨h1, h2, -⟩ := tell_errs hR hl h
  exact ⟨h1, h2⟩
 | no =>
  obtain ⟨n, hn⟩ := h
  exact (tell_reach hR hl (hn.trans hn')).1 rfl
 | am a =>
  obtain ⟨n, hn⟩ := h
  exact (tell_reach hR hl (hn.trans hn')).1 rfl
theorem comp_right {x : Ex} (h : isRight x = true) : rightF (codeF x 0) = true ∧ (codeF x 0).length ≤ 4000 ∧ 1 ≤ (codeF x 0).length := by
 obtain ⟨hf, h2, -⟩ := right_open h
 refine ⟨compiled_right hf h2, codeF_small 0 hf h2, ?_⟩
 have h3 := codeF_len x 32 false 0 hf
 have h4 := many_size x
 obtain ⟨k, n, nm, xs⟩ := x
 have h5 : 1 ≤ size ⟨k, n, nm, xs⟩ := by
  rw [size]
  have := Q.rngE
  have : ∀ l : List Ex, 0 ≤ sizeL l := fun l => by
   have := sizeL_len l
   omega
  have := this xs
  omega
 omega
theorem does0 {R : List Of} {x : Ex} (h : isRight x = true) (post : List Ins) : Does R (codeF x 0 ++ post) 0 [] (codeF x 0).length (evalE R x) := by
 have := (code_does (R := R) 32).1 x (right_open h).1 [] post (codeF x 0 ++ post) [] (codeF x 0).length (by simp) (by simp) (by simp)
 exact this
theorem tell_code {R : List Of} {x : Ex} (hR : rightO R = true) (h : isRight x = true) : (tellR R (codeF x 0)).1 = amC (evalE R x) ∧ (tellR R (codeF x 0)).2.1 = amE (evalE R x) := by
 have hd := does0 (R := R) h []
 rw [List.append_nil] at hd
 exact tell_does hR (comp_right h).1 hd ⟨0, .refl _ _⟩
theorem tellA_yes {R : List Of} {x : Ex} (hR : rightO R = true) (h : isRight x = true) : tellA x R = evalE R x := by unfold tellA; rw [hR, h]; rfl
theorem tellA_no {R : List Of} {x : Ex} (h : isRight x = false) : tellA x R = .er 1 := by unfold tellA; rw [h, Bool.and_false]; rfl
theorem RunSame_ok (raw : List Int) (h1 : ∀ a ∈ raw, I64 a) (l1 : raw.length ≤ 17592186043904) (zo : List (List Int)) (hzo : ∀ y ∈ zo, y.length = 2 ∧ ∀ n ∈ y, I64 n) (hlo : zo.length ≤ 9223372036854775807) :
  Ok E 7 [] [.c (.row (encN raw)), .c (.row (encA zo))] (pB true) [] := by
 have hS := strat_ok raw h1 (by omega)
 have hsm := strat_small raw h1
 have hO := Offers_ok zo hzo hlo
 have hol := off_len' zo
 have hor := off_right zo
 obtain ⟨R, e1'⟩ : ∃ l, offersF zo = l := ⟨_, rfl⟩
 rw [e1'] at hO hol hor
 obtain ⟨x, hx⟩ : ∃ x, stratF raw = x := ⟨_, rfl⟩
 rw [hx] at hS hsm
 have hrng := hsm.rng
 have hsz : size x ≤ 1024 := hsm.size
 have cC := Compile_ok x hrng (by omega)
 have cE := Eval_ok x R hrng (by omega) (by omega)
 have cR := rEval9_ok x R hrng (by omega) (by omega)
 unfold compF compE at cC
 rcases Bool.eq_false_or_eq_true (isRight x) with h | h
 ·rw [h, if_pos rfl, if_pos rfl] at cC
  rw [tellA_yes hor h] at cE cR
  obtain ⟨t1, t2⟩ := tell_code hor h
  obtain ⟨r1, r2, r3⟩ := comp_right h
  obtain ⟨l, hl⟩ : ∃ l, codeF x 0 = l := ⟨_, rfl⟩
  rw [hl] at cC t1 t2 r2
  have c1 := Run_ok l R (by omega) (by omega)
  unfold pR at c1
  rw [t1, t2, ← amC_eq] at c1
  obtain ⟨r, hr⟩ : ∃ r, evalE R x = r := ⟨_, rfl⟩
  rw [hr] at c1 cE cR
  dsimp only at c1
  unfold tupA at cE cR
  generalize amN r = a at c1 cE cR
  generalize amB r = b at c1 cE cR
  generalize amE r = e at c1 cE cR
  refine Ok.enter hE Tryz.func7 rfl (by decide +kernel) (by kernel_rfl) rfl rfl (Nat.le_of_ble_eq_true rfl) rfl ?_
  refine ⟨_, CallR.mk1 awake11_ok rfl rfl, ?_⟩
  refine ⟨_, CallR.mk1 hS rfl rfl, ?_⟩
  refine ⟨_, CallR.mk1 hO rfl rfl, ?_⟩
  refine ⟨_, CallR.mk1 cC rfl rfl, ?_⟩
  refine ⟨_, CallR.mk1 cE rfl rfl, ?_⟩
  refine ⟨_, CallR.mk1 cR rfl rfl, ?_⟩
  refine ⟨_, neN rfl, ?_⟩
  refine ⟨_, CallR.mk1 c1 rfl rfl, ?_⟩
  refine ⟨_, eqT rfl, ?_⟩
  refine ⟨_, beqT (bb_ _), ?_⟩
  refine ⟨_, eqT rfl, ?_⟩
  refine ⟨_, eqT rfl, ?_⟩
  refine ⟨_, beqT (bb_ _), ?_⟩
  refine ⟨_, eqT rfl, ?_⟩
  exact Ret.mk _ rfl rfl rfl
 ·rw [h, if_neg (by simp), if_neg (by simp)] at cC
  rw [tellA_no h] at cE cR
  refine Ok.enter hE Tryz.func7 rfl (by decide +kernel) (by kernel_rfl) rfl rfl (Nat.le_of_ble_eq_true rfl) rfl ?_
  refine ⟨_, CallR.mk1 awake11_ok rfl rfl, ?_⟩
  refine ⟨_, CallR.mk1 hS rfl rfl, ?_⟩
  refine ⟨_, CallR.mk1 hO rfl rfl, ?_⟩
  refine ⟨_, CallR.mk1 cC rfl rfl, ?_⟩
  refine ⟨_, CallR.mk1 cE rfl rfl, ?_⟩
  refine ⟨_, CallR.mk1 cR rfl rfl, ?_⟩
  refine ⟨_, neT (by decide), ?_⟩
  refine ⟨_, eqT rfl, ?_⟩
  exact Ret.mk _ rfl rfl rfl
theorem more_right {l : List Ins} {o : Ins} (h : rightF l = true) (hl : l.length ≤ 4000) (ho : rightI o l.length (l.length + 1 : Nat) = true) : rightF (l ++ [o]) = true := by
 unfold rightF at h ⊢
 rw [Bool.and_eq_true] at h ⊢
 refine ⟨?_, decide_eq_true (by simp; omega)⟩
 rw [rightL_app, Bool.and_eq_true, List.length_append]
 refine ⟨?_, ?_⟩
 ·rw [rightL_cut l 0 _ _ h.1]
  rw [List.all_eq_true]
  intro x hx
  obtain ⟨j, hj⟩ := List.mem_iff_getElem?.1 hx
  have := right_at l 0 l.length h.1 j x hj
  rcases Bool.eq_false_or_eq_true (isLead x.op) with hb | hb
  ·rw [hb]
   have := (lead_at this hb).2
   simp
   omega
  ·rw [hb]; rfl
 ·rw [rightL, rightL, Bool.and_true, Nat.zero_add]
  exact ho
theorem bare_right {op : Int} {i : Nat} {z : Int} (h : op = 7 ∨ op = 2) : rightI ⟨op, 0, ⟨#[]⟩⟩ i z = true := by
 rcases h with rfl | rfl
 ·unfold rightI endsF; simp
 ·unfold rightI endsF; simp
theorem cut_min {R : List Of} {x : Ex} (hR : rightO R = true) (h : isRight x = true) : (tellR R (codeF x 0 ++ [⟨7, 0, ⟨#[]⟩⟩])).2.1 = if amE (evalE R x) = 0 then 100 else amE (evalE R x) := by
 obtain ⟨r1, r2, r3⟩ := comp_right h
 have hr := more_right r1 r2 (bare_right (op := 7) (.inl rfl))
 have hd := does0 (R := R) h [⟨7, 0, ⟨#[]⟩⟩]
 have hg : (codeF x 0 ++ [(⟨7, 0, ⟨#[]⟩⟩ : Ins)])[(codeF x 0).length]? = some ⟨7, 0, ⟨#[]⟩⟩ := mid_get rfl
 have one : ∀ r : Am, (∃ n, Reach R (codeF x 0 ++ [(⟨7, 0, ⟨#[]⟩⟩ : Ins)]) 0 [] (codeF x 0).length [amC r] n) → (tellR R (codeF x 0 ++ [⟨7, 0, ⟨#[]⟩⟩])).2.1 = 100 := by
  rintro r ⟨n, hn⟩
  exact (tell_errs hR hr (.step hn (.now hg rfl))).2.1
 cases hv : evalE R x with
 | er e =>
  rw [hv] at hd
  obtain ⟨-, h2, h3⟩ := tell_errs hR hr hd
  rw [h2]
  exact (if_neg h3).symm
 | no => rw [hv] at hd; exact one _ hd
 | am a => rw [hv] at hd; exact one _ hd
theorem cut_low {R : List Of} {x : Ex} (hR : rightO R = true) (h : isRight x = true) : (tellR R (codeF x 0 ++ [⟨2, 0, ⟨#[]⟩⟩])).2.1 = if amE (evalE R x) = 0 then 100 else amE (evalE R x) := by
 obtain ⟨r1, r2, r3⟩ := comp_right h
 have hr := more_right r1 r2 (bare_right (op := 2) (.inr rfl))
 have hd := does0 (R := R) h [⟨2, 0, ⟨#[]⟩⟩]
 have hg : (codeF x 0 ++ [(⟨2, 0, ⟨#[]⟩⟩ : Ins)])[(codeF x 0).length]? = some ⟨2, 0, ⟨#[]⟩⟩ := mid_get rfl
 have hlen : (codeF x 0 ++ [(⟨2, 0, ⟨#[]⟩⟩ : Ins)]).length = (codeF x 0).length + 1 := by simp
 have one : ∀ r : Am, (∃ n, Reach R (codeF x 0 ++ [(⟨2, 0, ⟨#[]⟩⟩ : Ins)]) 0 [] (codeF x 0).length [amC r] n) → (tellR R (codeF x 0 ++ [⟨2, 0, ⟨#[]⟩⟩])).2.1 = 100 := by
  rintro r ⟨n, hn⟩
  have h2 : stepF R ⟨2, 0, ⟨#[]⟩⟩ [amC r] ((codeF x 0).length + 1) = .go [amC (rankF (prs R) 0), amC r] ((codeF x 0).length + 1) := rfl
  have h3 := hn.trans (.one hg h2)
  rw [← hlen] at h3
  exact (tell_reach hR hr h3).2 (fun h => by cases h)
 cases hv : evalE R x with
 | er e =>
  rw [hv] at hd
  obtain ⟨-, h2, h3⟩ := tell_errs hR hr hd
  rw [h2]
  exact (if_neg h3).symm
 | no => rw [hv] at hd; exact one _ hd
 | am a => rw [hv] at hd; exact one _ hd
theorem nil_tells {R : List Of} (hR : rightO R = true) : (tellR R []).2.1 = 100 := by
 unfold tellR
 rw [hR, if_neg (by simp), show rightF [] = true from rfl, if_neg (by simp)]
 rfl
theorem RunCuts_ok (raw : List Int) (h1 : ∀ a ∈ raw, I64 a) (l1 : raw.length ≤ 17592186043904) (zo : List (List Int)) (hzo : ∀ y ∈ zo, y.length = 2 ∧ ∀ n ∈ y, I64 n) (hlo : zo.length ≤ 9223372036854775807) :
  Ok E 9 [] [.c (.row (encN raw)), .c (.row (encA zo))] (pB true) [] := by
 have hS := strat_ok raw h1 (by omega)
 have hsm := strat_small raw h1
 have hO := Offers_ok zo hzo hlo
 have hol := off_len' zo
 have hor := off_right zo
 obtain ⟨R, e1'⟩ : ∃ l, offersF zo = l := ⟨_, rfl⟩
 rw [e1'] at hO hol hor
 obtain ⟨x, hx⟩ : ∃ x, stratF raw = x := ⟨_, rfl⟩
 rw [hx] at hS hsm
 have hrng := hsm.rng
 have hsz : size x ≤ 1024 := hsm.size
 have cC := Compile_ok x hrng (by omega)
 unfold compF compE at cC
 rcases Bool.eq_false_or_eq_true (isRight x) with h | h
 ·rw [h, if_pos rfl, if_pos rfl] at cC
  obtain ⟨t1, t2⟩ := tell_code hor h
  have t3 := cut_min hor h
  have t4 := cut_low hor h
  have t5 := nil_tells hor
  obtain ⟨r1, r2, r3⟩ := comp_right h
  obtain ⟨l, hl⟩ : ∃ l, codeF x 0 = l := ⟨_, rfl⟩
  rw [hl] at cC t1 t2 t3 t4 r1 r2 r3
  have c1 := Run_ok l R (by omega) (by omega)
  have c2 := Run_ok (l ++ [⟨7, 0, ⟨#[]⟩⟩]) R (by simp; omega) (by omega)
  have c3 := Run_ok (l ++ [⟨2, 0, ⟨#[]⟩⟩]) R (by simp; omega) (by omega)
  have c4 := Run_ok [] R (by simp) (by omega)
  unfold pR at c1 c2 c3 c4
  rw [t2] at c1
  rw [t3] at c2
  rw [t4] at c3
  rw [t5] at c4
  generalize (tellR R l).1 = u1 at c1
  generalize (tellR R (l ++ [⟨7, 0, ⟨#[]⟩⟩])).1 = u2 at c2
  generalize (tellR R (l ++ [⟨2, 0, ⟨#[]⟩⟩])).1 = u3 at c3
  generalize (tellR R []).1 = u4 at c4
  generalize amE (evalE R x) = e at c1 c2 c3
  have e7 : rowI (l ++ [⟨7, 0, ⟨#[]⟩⟩]) = rowI l ++ [cellsI ⟨7, 0, ⟨#[]⟩⟩] := by unfold rowI; rw [List.map_append]; rfl
  have e2 : rowI (l ++ [⟨2, 0, ⟨#[]⟩⟩]) = rowI l ++ [cellsI ⟨2, 0, ⟨#[]⟩⟩] := by unfold rowI; rw [List.map_append]; rfl
  rw [e7] at c2
  rw [e2] at c3
  have hrl := rowI_len l
  obtain ⟨z, hz⟩ : ∃ z, l[l.length - 1]? = some z := ⟨_, List.getElem?_eq_getElem (by omega)⟩
  have hz1 : 1 ≤ z.op := by
   unfold rightF at r1
   rw [Bool.and_eq_true] at r1
   have := right_at l 0 l.length r1.1 _ z hz
   exact (right_facts (by omega) this).1
  have three := rowI_three' l
  have a1 : ∀ T : List (Nat × Nat), AppR E T 23 (.c .nil) (.c (.row (rowI l))) (.orow (rowI l) T.length) (T ++ [((rowI l).length, 36)]) := fun T => AppR.first (E := E) (t := 23) rfl rfl (by decide) rfl rfl three (by omega) (by show _ * 32 ≤ _; omega)
  have a2 := AppR.more1 (E := E) (T := [((rowI l).length, 36)]) (t := 23) (k := 0) (xs := rowI l) (x := cellsI ⟨7, 0, ⟨#[]⟩⟩) (q := .c (.row [cellsI ⟨7, 0, ⟨#[]⟩⟩])) (rowI l).length rfl rfl (by decide) rfl rfl rfl three rfl rfl (by omega) (by show _ * 32 ≤ _; omega)
  have a3 := AppR.more1 (E := E) (T := [((rowI l).length + 1, 36), ((rowI l).length, 36)]) (t := 23) (k := 1) (xs := rowI l) (x := cellsI ⟨2, 0, ⟨#[]⟩⟩) (q := .c (.row [cellsI ⟨2, 0, ⟨#[]⟩⟩])) (rowI l).length rfl rfl (by decide) rfl rfl rfl three rfl rfl (by omega) (by show _ * 32 ≤ _; omega)
  refine Ok.enter hE Tryz.func9 rfl (by decide +kernel) (by kernel_rfl) rfl rfl (Nat.le_of_ble_eq_true rfl) rfl ?_
  refine ⟨_, CallR.mk1 awake11_ok rfl rfl, ?_⟩
  refine ⟨_, CallR.mk1 hS rfl rfl, ?_⟩
  refine ⟨_, CallR.mk1 hO rfl rfl, ?_⟩
  refine ⟨_, CallR.mk1 cC rfl rfl, ?_⟩
  refine ⟨_, neN rfl, ?_⟩
  refine ⟨_, ltN (by rw [hrl]; omega), ?_⟩
  refine ⟨_, subV (z := ((l.length - 1 : Nat) : Int)) (by rw [hrl]; omega) (by omega) (by omega), ?_⟩
  refine ⟨_, idxV (j := l.length - 1) (rowI_get hz) rfl rfl rfl rfl, ?_⟩
  refine ⟨_, _, a1 _, ?_⟩
  refine ⟨_, ⟨_, rfl, rfl⟩, ?_⟩
  refine ⟨_, _, a2, ?_⟩
  refine ⟨_, CallR.mkW c2 (.cons Pr.wkOrow (.cons (Wk.refl _) .nil)) rfl rfl, ?_⟩
  refine ⟨_, _, a1 _, ?_⟩
  refine ⟨_, ⟨_, rfl, rfl⟩, ?_⟩
  refine ⟨_, _, a3, ?_⟩
  refine ⟨_, CallR.mkW c3 (.cons Pr.wkOrow (.cons (Wk.refl _) .nil)) rfl rfl, ?_⟩
  refine ⟨_, CallR.mkW c4 (.cons Wk.nilRow (.cons (Wk.refl _) .nil)) rfl rfl, ?_⟩
  refine ⟨_, CallR.mk1 c1 rfl rfl, ?_⟩
  refine ⟨_, eqT rfl, ?_⟩
  by_cases he : e = 0
  ·refine ⟨_, neN he, ?_⟩
   refine ⟨_, eqT (if_pos he), ?_⟩
   refine ⟨_, eqT (if_pos he), ?_⟩
   refine ⟨_, eqT he, ?_⟩
   refine ⟨_, geT hz1, ?_⟩
   exact Ret.mk _ rfl rfl rfl
  ·refine ⟨_, neT he, ?_⟩
   refine ⟨_, eqN he, ?_⟩
   refine ⟨_, eqT (if_neg he), ?_⟩
   refine ⟨_, eqT (if_neg he), ?_⟩
   refine ⟨_, geT hz1, ?_⟩
   exact Ret.mk _ rfl rfl rfl
 ·rw [h, if_neg (by simp), if_neg (by simp)] at cC
  refine Ok.enter hE Tryz.func9 rfl (by decide +kernel) (by kernel_rfl) rfl rfl (Nat.le_of_ble_eq_true rfl) rfl ?_
  refine ⟨_, CallR.mk1 awake11_ok rfl rfl, ?_⟩
  refine ⟨_, CallR.mk1 hS rfl rfl, ?_⟩
  refine ⟨_, CallR.mk1 hO rfl rfl, ?_⟩
  refine ⟨_, CallR.mk1 cC rfl rfl, ?_⟩
  refine ⟨_, neT (by decide), ?_⟩
  refine ⟨_, neT (by decide), ?_⟩
  exact Ret.mk _ rfl rfl rfl
end Go.Proofs.YtgpkppohfodhdaaGreatDoor.Ru
namespace Go.Proofs.YtgpkppohfodhdaaGreatDoor.Ru
open Go Go.RowKit Go.Proofs.YtgpkppohfodhdaaGreatDoor.Pm Go.Proofs.YtgpkppohfodhdaaGreatDoor.Pl Go.Proofs.YtgpkppohfodhdaaGreatDoor.Va
set_option linter.unusedVariables false
set_option linter.unusedSimpArgs false
set_option maxHeartbeats 4000000
set_option maxRecDepth 8000
open Go.Proofs.YtgpkppohfodhdaaGreatDoor.Cd (compF compE Compile_ok)
def aloneL (a b : List Ins) : List Ins := a ++ ⟨13, (a.length : Int) + 1 + b.length, ⟨#[]⟩⟩ :: b.map (mv ((a.length : Int) + 1))
theorem alone_len (a b : List Ins) : (aloneL a b).length = a.length + 1 + b.length := by unfold aloneL; simp; omega
theorem alone_tells {R : List Of} {x y : Ex} (hR : rightO R = true) (hx : isRight x = true) (hy : isRight y = true) (sx : size x ≤ 1024) (sy : size y ≤ 1024) : (tellR R (aloneL (codeF x 0) (codeF y 0))).1 = amC (evalE R x) ∧ (tellR R (aloneL (codeF x 0) (codeF y 0))).2.1 = amE (evalE R x) := by
 obtain ⟨fx, -, -⟩ := right_open hx
 obtain ⟨fy, -, -⟩ := right_open hy
 have lx := codeF_len x 32 false 0 fx
 have ly := codeF_len y 32 false 0 fy
 have mx := many_size x
 have my := many_size y
 have hlen := alone_len (codeF x 0) (codeF y 0)
 have hmv := codeF_mv y 32 false 0 (((codeF x 0).length : Int) + 1) fy
 have hsh : aloneL (codeF x 0) (codeF y 0) = codeF x 0 ++ ⟨13, ((codeF x 0).length : Int) + 1 + (codeF y 0).length, ⟨#[]⟩⟩ :: codeF y (((codeF x 0).length + 1 : Nat) : Int) := by
  unfold aloneL
  rw [← hmv]
  push_cast
  rw [Int.zero_add]
 have hly : (codeF y (((codeF x 0).length + 1 : Nat) : Int)).length = (codeF y 0).length := by
  push_cast
  rw [← Int.zero_add (((codeF x 0).length : Int) + 1), hmv, List.length_map]
 have hr : rightF (aloneL (codeF x 0) (codeF y 0)) = true := by
  unfold rightF
  rw [Bool.and_eq_true]
  refine ⟨?_, decide_eq_true (by omega)⟩
  rw [hlen, hsh, rightL_app, rightL]
  have g1 := codeF_right x 32 false 0 (((codeF x 0).length + 1 + (codeF y 0).length : Nat) : Int) fx (by show ((0 : Nat) : Int) + (codeF x ((0 : Nat) : Int)).length ≤ _; have : codeF x ((0 : Nat) : Int) = codeF x 0 := rfl; rw [this]; push_cast; omega)
  have g2 := codeF_right y 32 false ((codeF x 0).length + 1) (((codeF x 0).length + 1 + (codeF y 0).length : Nat) : Int) fy (by rw [hly]; push_cast; omega)
  have g3 : rightI ⟨13, ((codeF x 0).length : Int) + 1 + (codeF y 0).length, ⟨#[]⟩⟩ ((0 + (codeF x 0).length : Nat) : Int) (((codeF x 0).length + 1 + (codeF y 0).length : Nat) : Int) = true := right_lead (.inr (.inr rfl)) (by push_cast; omega) (by push_cast; omega) rfl
  rw [show codeF x ((0 : Nat) : Int) = codeF x 0 from rfl] at g1
  rw [g1, g3]
  rw [Nat.zero_add, g2]
  rfl
 have hd := does0 (R := R) hx (⟨13, ((codeF x 0).length : Int) + 1 + (codeF y 0).length, ⟨#[]⟩⟩ :: codeF y (((codeF x 0).length + 1 : Nat) : Int))
 rw [← hsh] at hd
 refine tell_does hR hr hd ⟨1, .one (x := ⟨13, ((codeF x 0).length : Int) + 1 + (codeF y 0).length, ⟨#[]⟩⟩) (by rw [hsh]; exact mid_get rfl) ?_⟩
 show Stp.go _ (((codeF x 0).length : Int) + 1 + (codeF y 0).length).toNat = _
 rw [hlen, show (((codeF x 0).length : Int) + 1 + (codeF y 0).length).toNat = (codeF x 0).length + 1 + (codeF y 0).length by omega]
def aloneN (a b : List Ins) (i : Nat) : List Ins := a ++ ⟨13, (a.length : Int) + 1 + b.length, ⟨#[]⟩⟩ :: (b.take i).map (mv ((a.length : Int) + 1))
theorem aloneN_succ {a b : List Ins} {i : Nat} {z : Ins} (h : b[i]? = some z) : aloneN a b (i + 1) = aloneN a b i ++ [mv ((a.length : Int) + 1) z] := by
 unfold aloneN
 rw [List.take_add_one, h]
 simp
theorem aloneN_len (a b : List Ins) (i : Nat) (h : i ≤ b.length) : (aloneN a b i).length = a.length + 1 + i := by unfold aloneN; simp; omega
theorem aloneN_all (a b : List Ins) : aloneN a b b.length = aloneL a b := by unfold aloneN aloneL; rw [List.take_length]
theorem RunAlone_ok (raw : List Int) (h1 : ∀ a ∈ raw, I64 a) (l1 : raw.length ≤ 17592186043904) (ra2 : List Int) (h2 : ∀ a ∈ ra2, I64 a) (l2 : ra2.length ≤ 17592186043904) (zo : List (List Int)) (hzo : ∀ y ∈ zo, y.length = 2 ∧ ∀ n ∈ y, I64 n) (hlo : zo.length ≤ 9223372036854775807) :
  Ok E 8 [] [.c (.row (encN raw)), .c (.row (encN ra2)), .c (.row (encA zo))] (pB true) [] := by
 have hS := strat_ok raw h1 (by omega)
 have hT := strat_ok ra2 h2 (by omega)
 have hsm := strat_small raw h1
 have hsn := strat_small ra2 h2
 have hO := Offers_ok zo hzo hlo
 have hol := off_len' zo
 have hor := off_right zo
 obtain ⟨R, e1'⟩ : ∃ l, offersF zo = l := ⟨_, rfl⟩
 rw [e1'] at hO hol hor
 obtain ⟨x, hx⟩ : ∃ x, stratF raw = x := ⟨_, rfl⟩
 rw [hx] at hS hsm
 obtain ⟨y, hy⟩ : ∃ y, stratF ra2 = y := ⟨_, rfl⟩
 rw [hy] at hT hsn
 have sx : size x ≤ 1024 := hsm.size
 have sy : size y ≤ 1024 := hsn.size
 have cC := Compile_ok x hsm.rng (by omega)
 have cD := Compile_ok y hsn.rng (by omega)
 have cE := Eval_ok x R hsm.rng (by omega) (by omega)
 unfold compF compE at cC cD
 rcases Bool.eq_false_or_eq_true (isRight x) with h | h
 rotate_left
 ·rw [h, if_neg (by simp), if_neg (by simp)] at cC
  refine Ok.enter hE Tryz.func8 rfl (by decide +kernel) (by kernel_rfl) rfl rfl (Nat.le_of_ble_eq_true rfl) rfl ?_
  refine ⟨_, CallR.mk1 awake11_ok rfl rfl, ?_⟩
  refine ⟨_, CallR.mk1 hS rfl rfl, ?_⟩
  refine ⟨_, CallR.mk1 hT rfl rfl, ?_⟩
  refine ⟨_, CallR.mk1 hO rfl rfl, ?_⟩
  refine ⟨_, CallR.mk1 cC rfl rfl, ?_⟩
  refine ⟨_, CallR.mk1 cD rfl rfl, ?_⟩
  refine ⟨_, neT (by decide), ?_⟩
  exact Ret.mk _ rfl rfl rfl
 rw [h, if_pos rfl, if_pos rfl] at cC
 rcases Bool.eq_false_or_eq_true (isRight y) with g | g
 rotate_left
 ·rw [g, if_neg (by simp), if_neg (by simp)] at cD
  refine Ok.enter hE Tryz.func8 rfl (by decide +kernel) (by kernel_rfl) rfl rfl (Nat.le_of_ble_eq_true rfl) rfl ?_
  refine ⟨_, CallR.mk1 awake11_ok rfl rfl, ?_⟩
  refine ⟨_, CallR.mk1 hS rfl rfl, ?_⟩
  refine ⟨_, CallR.mk1 hT rfl rfl, ?_⟩
  refine ⟨_, CallR.mk1 hO rfl rfl, ?_⟩
  refine ⟨_, CallR.mk1 cC rfl rfl, ?_⟩
  refine ⟨_, CallR.mk1 cD rfl rfl, ?_⟩
  refine ⟨_, neN rfl, ?_⟩
  refine ⟨_, neT (by decide), ?_⟩
  exact Ret.mk _ rfl rfl rfl
 rw [g, if_pos rfl, if_pos rfl] at cD
 rw [tellA_yes hor h] at cE
 obtain ⟨t1, t2⟩ := tell_code hor h
 obtain ⟨t3, t4⟩ := alone_tells hor h g sx sy
 obtain ⟨r1, r2, r3⟩ := comp_right h
 obtain ⟨p1, p2, p3⟩ := comp_right g
 obtain ⟨a, ha⟩ : ∃ l, codeF x 0 = l := ⟨_, rfl⟩
 obtain ⟨b, hb⟩ : ∃ l, codeF y 0 = l := ⟨_, rfl⟩
 have lx := codeF_len x 32 false 0 (right_open h).1
 have ly := codeF_len y 32 false 0 (right_open g).1
 have mx := many_size x
 have my := many_size y
 rw [ha] at cC t1 t2 t3 t4 r1 r2 r3 lx
 rw [hb] at cD t3 t4 p1 p2 p3 ly
 have hrng := hsm.rng
 clear hS hT hsm hsn lx mx my
 have hS := strat_ok raw h1 (by omega)
 have hT := strat_ok ra2 h2 (by omega)
 rw [hx] at hS
 rw [hy] at hT
 have c1 := Run_ok a R (by omega) (by omega)
 have c2 := Run_ok (aloneL a b) R (by rw [alone_len]; omega) (by omega)
 unfold pR at c1 c2
 rw [t1, t2, ← amC_eq] at c1
 rw [t3, t4, ← amC_eq] at c2
 obtain ⟨r, hr⟩ : ∃ r, evalE R x = r := ⟨_, rfl⟩
 rw [hr] at c1 c2 cE
 dsimp only at c1 c2
 unfold tupA at cE
 generalize amN r = u at c1 c2 cE
 generalize amB r = v at c1 c2 cE
 generalize amE r = e at c1 c2 cE
 have hra := rowI_len a
 have hrb := rowI_len b
 have a1 := AppR.first (E := E) (T := []) (t := 23) (q := .c (.row (rowI a))) rfl rfl (by decide) rfl rfl (rowI_three' a) (by omega) (by show _ * 32 ≤ _; omega)
 have a2 := AppR.more1 (E := E) (T := [((rowI a).length, 36)]) (t := 23) (k := 0) (xs := rowI a) (x := cellsI ⟨13, (a.length : Int) + 1 + b.length, ⟨#[]⟩⟩) (q := .c (.row [cellsI ⟨13, (a.length : Int) + 1 + b.length, ⟨#[]⟩⟩])) (rowI a).length rfl rfl (by decide) rfl rfl rfl (rowI_three' a) rfl rfl (by omega) (by show _ * 32 ≤ _; omega)
 have e0 : rowI a ++ [cellsI ⟨13, (a.length : Int) + 1 + b.length, ⟨#[]⟩⟩] = rowI (aloneN a b 0) := by unfold aloneN rowI; simp
 have e2 : (rowI a).length + 1 = a.length + 1 + 0 := by rw [hra]
 rw [e0, e2] at a2
 obtain ⟨k1, n1, m1, xs1⟩ := x
 obtain ⟨k2, n2, m2, xs2⟩ := y
 refine Ok.enter hE Tryz.func8 rfl (by decide +kernel) (by kernel_rfl) rfl rfl (Nat.le_of_ble_eq_true rfl) rfl ?_
 refine ⟨_, CallR.mk1 awake11_ok rfl rfl, ?_⟩
 refine ⟨_, CallR.mk1 hS rfl rfl, ?_⟩
 refine ⟨_, CallR.mk1 hT rfl rfl, ?_⟩
 refine ⟨_, CallR.mk1 hO rfl rfl, ?_⟩
 refine ⟨_, CallR.mk1 cC rfl rfl, ?_⟩
 refine ⟨_, CallR.mk1 cD rfl rfl, ?_⟩
 refine ⟨_, neN rfl, ?_⟩
 refine ⟨_, neN rfl, ?_⟩
 refine ⟨_, CallR.mk1 c1 rfl rfl, ?_⟩
 refine ⟨_, _, a1, ?_⟩
 refine ⟨_, addV (z := (a.length : Int) + 1) (by rw [hra]) (by omega) (by omega), ?_⟩
 refine ⟨_, addV (z := (a.length : Int) + 1 + b.length) (by rw [hrb]) (by omega) (by omega), ?_⟩
 refine ⟨_, ⟨_, rfl, rfl⟩, ?_⟩
 refine ⟨_, _, a2, ?_⟩
 refine Loop.cut (α := Nat) (fun i => i ≤ b.length) (fun i => [(7, pB true), (8, .ptr 0 0), (10, .c (.row (rowO R))), (11, .c (.row (rowI a))), (13, .c (.row (rowI b))), (15, pI u), (16, pB v), (17, pI e), (18, .orow (rowI (aloneN a b i)) 0), (19, pI i)]) (fun _ => [[pI k1, pI n1, pS m1, .c (.row (encL xs1))], [pI k2, pI n2, pS m2, .c (.row (encL xs2))]]) (fun i => [(a.length + 1 + i, 36)]) (fun i => b.length - i) 0 2 (fun _ => rfl) (fun _ => rfl) (fun _ => rfl) (Nat.zero_le _) ⟨⟨rfl, rfl, rfl, rfl, rfl, rfl, rfl, rfl, rfl, rfl, trivial⟩, rfl, rfl⟩ ?_
 intro i f hi
 have hi : i ≤ b.length := hi
 by_cases hlt : i < b.length
 ·obtain ⟨z, hz⟩ : ∃ z, b[i]? = some z := ⟨_, List.getElem?_eq_getElem hlt⟩
  have hsucc := aloneN_succ (a := a) hz
  have hnl := aloneN_len a b i hi
  have hrn := rowI_len (aloneN a b i)
  have hzr : 0 ≤ z.n ∧ z.n ≤ 1000000000000 := by
   unfold rightF at p1
   rw [Bool.and_eq_true] at p1
   have := right_facts (by omega) (right_at b 0 b.length p1.1 i z hz)
   exact ⟨this.2.2.1, this.2.2.2.1⟩
  have app : ∀ w : Ins, mv ((a.length : Int) + 1) z = w → AppR E [(a.length + 1 + i, 36)] 23 (.orow (rowI (aloneN a b i)) 0) (.c (.row [cellsI w])) (.orow (rowI (aloneN a b (i + 1))) 0) [(a.length + 1 + (i + 1), 36)] := by
   rintro w rfl
   have h := AppR.more1 (E := E) (T := [(a.length + 1 + i, 36)]) (t := 23) (k := 0) (xs := rowI (aloneN a b i)) (x := cellsI (mv ((a.length : Int) + 1) z)) (q := .c (.row [cellsI (mv ((a.length : Int) + 1) z)])) (a.length + 1 + i) rfl rfl (by decide) rfl rfl (by rw [hrn, hnl]) (rowI_three' _) rfl rfl (by omega) (by show _ * 32 ≤ _; omega)
   have h3 : rowI (aloneN a b (i + 1)) = rowI (aloneN a b i) ++ [cellsI (mv ((a.length : Int) + 1) z)] := by rw [hsucc]; unfold rowI; rw [List.map_append]; rfl
   rw [h3]
   exact h
  obtain ⟨op, n, nm⟩ := z
  dsimp only at hzr
  by_cases hl : op = 9 ∨ op = 12 ∨ op = 13
  ·have hA := app ⟨op, n + a.length + 1, nm⟩ (by unfold mv; rw [if_pos (lead_of.1 hl)]; rw [Int.add_assoc])
   rcases hl with h9 | h9 | h9
   ·refine ⟨_, ltT (by rw [hrb]; omega), ?_⟩
    refine ⟨_, idxV (j := i) (rowI_get hz) rfl rfl rfl rfl, ?_⟩
    refine ⟨_, eqT h9, ?_⟩
    refine ⟨_, addV (z := n + a.length) (by rw [hra]) (by omega) (by omega), ?_⟩
    refine ⟨_, addV (z := n + a.length + 1) rfl (by omega) (by omega), ?_⟩
    refine ⟨_, ⟨_, rfl, rfl⟩, ?_⟩
    refine ⟨_, _, hA, ?_⟩
    refine ⟨_, addV (z := ((i + 1 : Nat) : Int)) (by push_cast; rfl) (by omega) (by omega), ?_⟩
    exact ⟨i + 1, hlt, by show b.length - (i + 1) < b.length - i; omega, ⟨rfl, rfl, rfl, rfl, rfl, rfl, rfl, rfl, rfl, rfl, trivial⟩, ⟨_, rfl⟩, rfl⟩
   ·refine ⟨_, ltT (by rw [hrb]; omega), ?_⟩
    refine ⟨_, idxV (j := i) (rowI_get hz) rfl rfl rfl rfl, ?_⟩
    refine ⟨_, eqN (by dsimp only; omega), ?_⟩
    refine ⟨_, eqT h9, ?_⟩
    refine ⟨_, addV (z := n + a.length) (by rw [hra]) (by omega) (by omega), ?_⟩
    refine ⟨_, addV (z := n + a.length + 1) rfl (by omega) (by omega), ?_⟩
    refine ⟨_, ⟨_, rfl, rfl⟩, ?_⟩
    refine ⟨_, _, hA, ?_⟩
    refine ⟨_, addV (z := ((i + 1 : Nat) : Int)) (by push_cast; rfl) (by omega) (by omega), ?_⟩
    exact ⟨i + 1, hlt, by show b.length - (i + 1) < b.length - i; omega, ⟨rfl, rfl, rfl, rfl, rfl, rfl, rfl, rfl, rfl, rfl, trivial⟩, ⟨_, rfl⟩, rfl⟩
   ·refine ⟨_, ltT (by rw [hrb]; omega), ?_⟩
    refine ⟨_, idxV (j := i) (rowI_get hz) rfl rfl rfl rfl, ?_⟩
    refine ⟨_, eqN (by dsimp only; omega), ?_⟩
    refine ⟨_, eqN (by dsimp only; omega), ?_⟩
    refine ⟨_, eqT h9, ?_⟩
    refine ⟨_, addV (z := n + a.length) (by rw [hra]) (by omega) (by omega), ?_⟩
    refine ⟨_, addV (z := n + a.length + 1) rfl (by omega) (by omega), ?_⟩
    refine ⟨_, ⟨_, rfl, rfl⟩, ?_⟩
    refine ⟨_, _, hA, ?_⟩
    refine ⟨_, addV (z := ((i + 1 : Nat) : Int)) (by push_cast; rfl) (by omega) (by omega), ?_⟩
    exact ⟨i + 1, hlt, by show b.length - (i + 1) < b.length - i; omega, ⟨rfl, rfl, rfl, rfl, rfl, rfl, rfl, rfl, rfl, rfl, trivial⟩, ⟨_, rfl⟩, rfl⟩
  ·have hA := app ⟨op, n, nm⟩ (by
    unfold mv
    have : isLead op = false := by unfold isLead; exact decide_eq_false hl
    rw [if_neg (by dsimp only; rw [this]; simp)])
   refine ⟨_, ltT (by rw [hrb]; omega), ?_⟩
   refine ⟨_, idxV (j := i) (rowI_get hz) rfl rfl rfl rfl, ?_⟩
   refine ⟨_, eqN (by dsimp only; omega), ?_⟩
   refine ⟨_, eqN (by dsimp only; omega), ?_⟩
   refine ⟨_, eqN (by dsimp only; omega), ?_⟩
   refine ⟨_, ⟨_, rfl, rfl⟩, ?_⟩
   refine ⟨_, _, hA, ?_⟩
   refine ⟨_, addV (z := ((i + 1 : Nat) : Int)) (by push_cast; rfl) (by omega) (by omega), ?_⟩
   exact ⟨i + 1, hlt, by show b.length - (i + 1) < b.length - i; omega, ⟨rfl, rfl, rfl, rfl, rfl, rfl, rfl, rfl, rfl, rfl, trivial⟩, ⟨_, rfl⟩, rfl⟩
 ·obtain rfl : i = b.length := by omega
  rw [aloneN_all]
  refine ⟨_, ltN (by rw [hrb]; omega), ?_⟩
  refine ⟨_, CallR.mkW c2 (.cons Pr.wkOrow (.cons (Wk.refl _) .nil)) rfl rfl, ?_⟩
  refine ⟨_, CallR.mk1 cE rfl rfl, ?_⟩
  refine ⟨_, eqT rfl, ?_⟩
  refine ⟨_, beqT (bb_ _), ?_⟩
  refine ⟨_, eqT rfl, ?_⟩
  refine ⟨_, eqT rfl, ?_⟩
  refine ⟨_, beqT (bb_ _), ?_⟩
  refine ⟨_, eqT rfl, ?_⟩
  exact Ret.mk _ rfl rfl rfl
end Go.Proofs.YtgpkppohfodhdaaGreatDoor.Ru
namespace Go.Proofs.YtgpkppohfodhdaaGreatDoor.Ru
open Go Go.RowKit Go.ChangeShapes Go.WideShapes Go.Proofs.YtgpkppohfodhdaaGreatDoor.Pm
set_option linter.unusedVariables false
set_option linter.unusedSimpArgs false
end Go.Proofs.YtgpkppohfodhdaaGreatDoor.Ru
