import Derived.Test.YtgpkppohfodhdaaGreatDoorPtBll
import Derived.Test.YtgpkppohfodhdaaGreatDoorLxAll
import Derived.Test.YtgpkppohfodhdaaGreatDoorShelf2
import Derived.Sort.OwnSortedInts
import Derived.Maps.OwnOps
import Derived.Maps.OwnSet
import Derived.Maps.Views
namespace Go.Proofs.YtgpkppohfodhdaaGreatDoor.Pr
open Go Go.RowKit Go.Proofs.YtgpkppohfodhdaaGreatDoor.Pm Go.Proofs.YtgpkppohfodhdaaGreatDoor.Pl
theorem wkOrow {xs : List (List CV)} {k : Nat} : Wk (.orow xs k) (.c (.row xs)) := by
 intro w ok m tk v h
 cases h with
 | orow A len cap xs k h r hr h1 h2 => exact .c _ _ h
theorem wkTup {ps qs : List PV} (h : WkL ps qs) : Wk (.tup ps) (.tup qs) := by
 intro w ok m tk v hv
 cases hv with
 | tup cs _ hl hh =>
  have := h.rep (w := w) (ok := ok) (m := m) (tk := tk) (vs := cs.toList) ⟨hl, hh⟩
  exact .tup cs _ this.1 this.2
theorem minV {a b z : Int} (h : min a b = z) : minF [.c (.int .i64 a), .c (.int .i64 b)] = some (.c (.int .i64 z)) := by
 subst h
 show (match minG a [PV.c (.int .i64 b)] with
  | some z => some (PV.c (.int .i64 z))
  | none => none) = _
 have : minG a [PV.c (.int .i64 b)] = some (min a b) := by
  simp only [minG]
  simp
  omega
 rw [this]
end Go.Proofs.YtgpkppohfodhdaaGreatDoor.Pr
namespace Go.Proofs.YtgpkppohfodhdaaGreatDoor.Pc
open Go Go.RowKit Go.Proofs.YtgpkppohfodhdaaGreatDoor.Pm Go.Proofs.YtgpkppohfodhdaaGreatDoor.Pl
theorem pBe {a b : Bool} (h : b = a) : PV.c (.bool a) = PV.c (.bool b) := by rw [h]
theorem encN_len (l : List Int) : (encN l).length = l.length := by unfold encN; simp
theorem encN_get {l : List Int} {i : Nat} {x : Int} (h : l[i]? = some x) : (encN l)[i]? = some [.int .i64 x] := by
 unfold encN; rw [List.getElem?_map, h]; rfl
theorem encN_one (l : List Int) : ∀ x ∈ encN l, x.length = 1 := by
 intro x hx
 unfold encN at hx
 obtain ⟨n, _, rfl⟩ := List.mem_map.1 hx
 rfl
end Go.Proofs.YtgpkppohfodhdaaGreatDoor.Pc
namespace Go.Proofs.YtgpkppohfodhdaaGreatDoor.Va
open Go Go.RowKit Go.Proofs.YtgpkppohfodhdaaGreatDoor.Pm Go.Proofs.YtgpkppohfodhdaaGreatDoor.Pl
set_option linter.unusedVariables false
set_option linter.unusedSimpArgs false
set_option maxHeartbeats 1000000
structure Of where
 s : ByteArray
 p : Int
def eqB (x y : ByteArray) : Bool := x.toList == y.toList
theorem eqB_iff {x y : ByteArray} : eqB x y = true ↔ x = y := by
 unfold eqB
 rw [beq_iff_eq, Lx.toList_data, Lx.toList_data]
 constructor
 ·intro h
  obtain ⟨a⟩ := x
  obtain ⟨b⟩ := y
  exact congrArg ByteArray.mk (Array.ext' h)
 ·intro h; rw [h]
theorem eqB_refl (x : ByteArray) : eqB x x = true := eqB_iff.2 rfl
def insI (a : Int) : List Int → List Int
 | [] => [a]
 | b :: l => if a ≤ b then a :: b :: l else b :: insI a l
def srt : List Int → List Int
 | [] => []
 | a :: l => insI a (srt l)
def Sorted (l : List Int) : Prop := l.Pairwise (· ≤ ·)
theorem ins_perm (a : Int) : ∀ l : List Int, (insI a l).Perm (a :: l)
 | [] => List.Perm.refl _
 | b :: l => by
  unfold insI
  split
  ·exact List.Perm.refl _
  ·exact ((ins_perm a l).cons b).trans (List.Perm.swap a b l)
theorem srt_perm : ∀ l : List Int, (srt l).Perm l
 | [] => List.Perm.refl _
 | a :: l => (ins_perm a _).trans ((srt_perm l).cons a)
theorem ins_sorted (a : Int) : ∀ l : List Int, Sorted l → Sorted (insI a l)
 | [], _ => List.pairwise_singleton _ _
 | b :: l, h => by
  unfold Sorted at h ⊢
  rw [List.pairwise_cons] at h
  unfold insI
  split
  ·rename_i hab
   rw [List.pairwise_cons]
   refine ⟨fun x hx => ?_, List.pairwise_cons.2 h⟩
   rcases List.mem_cons.1 hx with rfl | hx
   ·exact hab
   ·exact Int.le_trans hab (h.1 x hx)
  ·rename_i hab
   rw [List.pairwise_cons]
   refine ⟨fun x hx => ?_, ins_sorted a l h.2⟩
   rcases List.mem_cons.1 ((ins_perm a l).mem_iff.1 hx) with rfl | hx
   ·omega
   ·exact h.1 x hx
theorem srt_sorted : ∀ l : List Int, Sorted (srt l)
 | [] => List.Pairwise.nil
 | a :: l => ins_sorted a _ (srt_sorted l)
theorem sorted_unique : ∀ {l m : List Int}, Sorted l → Sorted m → l.Perm m → l = m
 | [], m, _, _, h => (List.nil_perm.1 h).symm
 | a :: l, [], _, _, h => by have := h.length_eq; simp at this
 | a :: l, b :: m, hl, hm, h => by
  unfold Sorted at hl hm
  rw [List.pairwise_cons] at hl hm
  have hab : a = b := by
   have h1 : a ∈ b :: m := h.mem_iff.1 List.mem_cons_self
   have h2 : b ∈ a :: l := h.mem_iff.2 List.mem_cons_self
   rcases List.mem_cons.1 h1 with e | h1
   ·exact e
   ·rcases List.mem_cons.1 h2 with e | h2
    ·exact e.symm
    ·have := hm.1 a h1
     have := hl.1 b h2
     omega
  subst hab
  rw [sorted_unique hl.2 hm.2 ((List.perm_cons a).1 h)]
theorem srt_eq {l m : List Int} (hm : Sorted m) (h : m.Perm l) : srt l = m := sorted_unique (srt_sorted l) hm ((srt_perm l).trans h.symm)
theorem srt_len (l : List Int) : (srt l).length = l.length := (srt_perm l).length_eq
def cnt (v : Int) (l : List Int) : Nat := l.countP fun x => decide (x ≤ v)
theorem sorted_cnt : ∀ {l : List Int}, Sorted l → ∀ (k : Nat) (x v : Int), l[k]? = some x → (x ≤ v ↔ k < cnt v l)
 | [], _, k, x, v, h => by simp at h
 | a :: l, hs, k, x, v, h => by
  unfold Sorted at hs
  rw [List.pairwise_cons] at hs
  have hc : cnt v (a :: l) = cnt v l + if a ≤ v then 1 else 0 := by
   unfold cnt
   rw [List.countP_cons]
   by_cases h : a ≤ v <;> simp [h]
  cases k with
  | zero =>
   simp at h
   subst h
   rw [hc]
   by_cases ha : a ≤ v
   ·rw [if_pos ha]; exact ⟨fun _ => Nat.succ_pos _, fun _ => ha⟩
   ·rw [if_neg ha]
    have : cnt v l = 0 := by
     unfold cnt
     rw [List.countP_eq_zero]
     intro y hy
     have := hs.1 y hy
     simp; omega
    rw [this]
    exact ⟨fun h => absurd h ha, fun h => absurd h (by omega)⟩
  | succ k =>
   have hk : l[k]? = some x := by simpa using h
   have ih := sorted_cnt (l := l) hs.2 k x v hk
   rw [hc, ih]
   have hax := hs.1 x (List.mem_of_getElem? hk)
   by_cases ha : a ≤ v
   ·rw [if_pos ha]; omega
   ·rw [if_neg ha]
    constructor
    ·intro h
     have := ih.2 h
     omega
    ·intro h; omega
theorem cnt_perm {l m : List Int} (h : l.Perm m) (v : Int) : cnt v l = cnt v m := h.countP_eq _
def okO (o : Of) : Bool := Lx.isName o.s && (decide (1 ≤ o.p) && decide (o.p ≤ 1000000000000))
def newB (s : ByteArray) (l : List Of) : Bool := l.all fun o => !eqB s o.s
def apartB : List Of → Bool
 | [] => true
 | o :: l => newB o.s l && apartB l
def rightO (l : List Of) : Bool := l.all okO && (decide (l.length ≤ 8) && apartB l)
inductive Am where
 | er (e : Int)
 | no
 | am (n : Int)
 deriving DecidableEq
def prs (l : List Of) : List Int := srt (l.map Of.p)
def rankF (P : List Int) (k : Nat) : Am := match P[k]? with
 | some n => .am n
 | none => .no
def fromF (nm : ByteArray) : List Of → Am
 | [] => .no
 | o :: l => if eqB o.s nm = true then .am o.p else fromF nm l
def okA (a : Int) : Bool := decide (-1000000000000 ≤ a) && decide (a ≤ 1000000000000)
def subF (a b : Int) : Am := if (okA a && okA b && okA (a - b)) = true then .am (a - b) else .er 10
def partF (a bp : Int) : Am := if (okA a && (decide (-100000 ≤ bp) && decide (bp ≤ 100000)) && okA ((a * bp - (a * bp) % 10000) / 10000)) = true then .am ((a * bp - (a * bp) % 10000) / 10000) else .er 10
def lessF (by_ : Int → Am) : Am → Am
 | .am n => match by_ n with
  | .am b => subF n b
  | r => r
 | r => r
def bothF (of_ : Int → Int → Int) : Am → Am → Am
 | .er e, _ => .er e
 | _, .er e => .er e
 | .am a, .am b => .am (of_ a b)
 | _, _ => .no
inductive Cd where
 | er (e : Int)
 | is (b : Bool)
def aboveF : Am → Am → Cd
 | .er e, _ => .er e
 | _, .er e => .er e
 | .am a, .am b => .is (decide (b < a))
 | _, _ => .is false
def arg (av : List Am) (i : Nat) : Am := av.getD i .no
def condK (l : List Of) (k n : Int) (av : List Am) : Cd := if k = 11 then .is (decide (n < l.length)) else aboveF (arg av 0) (arg av 1)
def evalK (l : List Of) (k n : Int) (nm : ByteArray) (av : List Am) (c : Cd) : Am :=
 if k = 1 then rankF (prs l) 0
 else if k = 2 then rankF (prs l) 1
 else if k = 3 then fromF nm l
 else if k = 5 then lessF (fun _ => .am n) (arg av 0)
 else if k = 6 then lessF (fun a => partF a n) (arg av 0)
 else if k = 7 then bothF min (arg av 0) (arg av 1)
 else if k = 8 then bothF max (arg av 0) (arg av 1)
 else if k = 9 then (match arg av 0 with
  | .no => arg av 1
  | r => r)
 else if k = 10 then (match c with
  | .er e => .er e
  | .is true => arg av 1
  | .is false => arg av 2)
 else .am n
mutual
def evalE (l : List Of) : Ex → Am
 | ⟨k, n, nm, xs⟩ => evalK l k n nm (evalA l xs) (condA l xs)
def evalA (l : List Of) : List Ex → List Am
 | [] => []
 | x :: xs => evalE l x :: evalA l xs
def condE (l : List Of) : Ex → Cd
 | ⟨k, n, nm, xs⟩ => condK l k n (evalA l xs)
def condA (l : List Of) : List Ex → Cd
 | [] => .is false
 | x :: _ => condE l x
end
end Go.Proofs.YtgpkppohfodhdaaGreatDoor.Va
namespace Go.Proofs.YtgpkppohfodhdaaGreatDoor.Va
open Go Go.RowKit Go.Proofs.YtgpkppohfodhdaaGreatDoor.Pm Go.Proofs.YtgpkppohfodhdaaGreatDoor.Pl
set_option linter.unusedVariables false
set_option linter.unusedSimpArgs false
set_option maxHeartbeats 1000000
def lts (v : Int) (l : List Int) : Nat := l.countP fun x => decide (x < v)
def eqs (v : Int) (l : List Int) : Nat := l.countP fun x => decide (x = v)
theorem lts_cnt (v : Int) (l : List Int) : lts v l = cnt (v - 1) l := by
 unfold lts cnt
 congr 1
 funext x
 exact decide_eq_decide.2 (by omega)
theorem cnt_split (v : Int) : ∀ l : List Int, cnt v l = lts v l + eqs v l
 | [] => rfl
 | a :: l => by
  have ih := cnt_split v l
  unfold cnt lts eqs at ih ⊢
  rw [List.countP_cons, List.countP_cons, List.countP_cons, ih]
  have : a < v ∨ a = v ∨ v < a := by omega
  rcases this with h | h | h
  ·rw [decide_eq_true (show a ≤ v by omega), decide_eq_true h, decide_eq_false (show ¬ a = v by omega)]; simp; omega
  ·rw [decide_eq_true (show a ≤ v by omega), decide_eq_false (show ¬ a < v by omega), decide_eq_true h]; simp; omega
  ·rw [decide_eq_false (show ¬ a ≤ v by omega), decide_eq_false (show ¬ a < v by omega), decide_eq_false (show ¬ a = v by omega)]; simp
theorem cnt_app (v : Int) (l m : List Int) : cnt v (l ++ m) = cnt v l + cnt v m := List.countP_append
theorem lts_app (v : Int) (l m : List Int) : lts v (l ++ m) = lts v l + lts v m := List.countP_append
def ahd (A : List Int) (x : Int) (C : List Int) : Nat := cnt x A + lts x C
theorem rank_at {A C : List Int} {x : Int} {n : Nat} (h : ahd A x C = n) : (srt (A ++ x :: C))[n]? = some x := by
 have hlen : n < (srt (A ++ x :: C)).length := by
  rw [srt_len, List.length_append, List.length_cons, ← h]
  have h1 : cnt x A ≤ A.length := List.countP_le_length
  have h2 : lts x C ≤ C.length := List.countP_le_length
  unfold ahd; omega
 obtain ⟨y, hy⟩ : ∃ y, (srt (A ++ x :: C))[n]? = some y := ⟨_, List.getElem?_eq_getElem hlen⟩
 have hs := srt_sorted (A ++ x :: C)
 have h1 := sorted_cnt hs n y x hy
 have h2 := sorted_cnt hs n y (x - 1) hy
 rw [cnt_perm (srt_perm _), cnt_app] at h1 h2
 have e1 : cnt x (x :: C) = cnt x C + 1 := by unfold cnt; rw [List.countP_cons, if_pos (decide_eq_true (Int.le_refl x))]
 have e2 : cnt (x - 1) (x :: C) = cnt (x - 1) C := by unfold cnt; rw [List.countP_cons, if_neg (by simp; omega)]; rfl
 rw [e1] at h1
 rw [e2, ← lts_cnt, ← lts_cnt] at h2
 have c1 := cnt_split x C
 have c2 := cnt_split x A
 unfold ahd at h
 have g1 : y ≤ x := h1.2 (by omega)
 have g2 : ¬ y ≤ x - 1 := fun hh => by have := h2.1 hh; omega
 rw [hy]
 congr 1
 omega
theorem occ (v : Int) : ∀ (l : List Int) (j : Nat), j < eqs v l → ∃ A C, l = A ++ v :: C ∧ eqs v A = j
 | [], j, h => by simp [eqs] at h
 | a :: l, j, h => by
  have e : eqs v (a :: l) = eqs v l + if a = v then 1 else 0 := by
   unfold eqs
   rw [List.countP_cons]
   by_cases h : a = v <;> simp [h]
  rw [e] at h
  by_cases ha : a = v
  ·subst ha
   rw [if_pos rfl] at h e
   cases j with
   | zero => exact ⟨[], l, rfl, rfl⟩
   | succ j =>
    obtain ⟨A, C, hl, hA⟩ := occ a l j (by omega)
    refine ⟨a :: A, C, by rw [hl]; rfl, ?_⟩
    have : eqs a (a :: A) = eqs a A + 1 := by unfold eqs; rw [List.countP_cons]; simp
    omega
  ·rw [if_neg ha] at h e
   obtain ⟨A, C, hl, hA⟩ := occ v l j (by omega)
   refine ⟨a :: A, C, by rw [hl]; rfl, ?_⟩
   have : eqs v (a :: A) = eqs v A := by unfold eqs; rw [List.countP_cons]; simp [ha]
   omega
theorem rank_ex {l : List Int} {n : Nat} (h : n < l.length) : ∃ A x C, l = A ++ x :: C ∧ ahd A x C = n := by
 obtain ⟨y, hy⟩ : ∃ y, (srt l)[n]? = some y := ⟨_, List.getElem?_eq_getElem (by rw [srt_len]; exact h)⟩
 have hs := srt_sorted l
 have h1 := (sorted_cnt hs n y y hy).1 (Int.le_refl _)
 have h2 := sorted_cnt hs n y (y - 1) hy
 rw [cnt_perm (srt_perm _)] at h1 h2
 rw [← lts_cnt] at h2
 have h3 : ¬ n < lts y l := fun hh => by have := h2.2 hh; omega
 have hc := cnt_split y l
 obtain ⟨A, C, hl, hA⟩ := occ y l (n - lts y l) (by omega)
 refine ⟨A, y, C, hl, ?_⟩
 unfold ahd
 have c2 := cnt_split y A
 have e : lts y l = lts y A + lts y C := by
  rw [hl, lts_app]
  have : lts y (y :: C) = lts y C := by unfold lts; rw [List.countP_cons]; simp
  omega
 omega
theorem rank_none {l : List Int} {n : Nat} (h : l.length ≤ n) : (srt l)[n]? = none := List.getElem?_eq_none (by rw [srt_len]; exact h)
theorem okA_iff {a : Int} : okA a = true ↔ -1000000000000 ≤ a ∧ a ≤ 1000000000000 := by unfold okA; simp
def AmR : Am → Prop
 | .am n => -1000000000000 ≤ n ∧ n ≤ 1000000000000
 | _ => True
theorem subF_r (a b : Int) : AmR (subF a b) := by
 unfold subF
 split
 ·rename_i h
  simp only [Bool.and_eq_true] at h
  exact okA_iff.1 h.2
 ·trivial
theorem lessF_r (f : Int → Am) (r : Am) : AmR (lessF f r) ∨ lessF f r = r := by
 cases r with
 | er e => exact .inr rfl
 | no => exact .inr rfl
 | am n =>
  unfold lessF
  dsimp only
  cases f n with
  | er e => exact .inl trivial
  | no => exact .inl trivial
  | am b => exact .inl (subF_r n b)
theorem bothF_r {f : Int → Int → Int} (hf : ∀ a b, f a b = a ∨ f a b = b) {r s : Am} (h1 : AmR r) (h2 : AmR s) : AmR (bothF f r s) := by
 cases r with
 | er e => trivial
 | no => cases s <;> trivial
 | am a =>
  cases s with
  | er e => trivial
  | no => trivial
  | am b =>
   show -1000000000000 ≤ f a b ∧ f a b ≤ 1000000000000
   rcases hf a b with e | e <;> rw [e]
   ·exact h1
   ·exact h2
theorem offer_p {l : List Of} (h : rightO l = true) {o : Of} (ho : o ∈ l) : 1 ≤ o.p ∧ o.p ≤ 1000000000000 ∧ Lx.isName o.s = true := by
 unfold rightO at h
 rw [Bool.and_eq_true] at h
 have := List.all_eq_true.1 h.1 o ho
 unfold okO at this
 simp only [Bool.and_eq_true, decide_eq_true_eq] at this
 exact ⟨this.2.1, this.2.2, this.1⟩
theorem rank_r {l : List Of} (h : rightO l = true) (k : Nat) : AmR (rankF (prs l) k) := by
 unfold rankF
 cases hp : (prs l)[k]? with
 | none => trivial
 | some n =>
  have hm := (srt_perm _).mem_iff.1 (List.mem_of_getElem? hp)
  obtain ⟨o, ho, rfl⟩ := List.mem_map.1 hm
  have := offer_p h ho
  show _ ≤ o.p ∧ o.p ≤ _
  omega
theorem from_r {l : List Of} (h : ∀ o ∈ l, 1 ≤ o.p ∧ o.p ≤ 1000000000000) (nm : ByteArray) : AmR (fromF nm l) := by
 induction l with
 | nil => trivial
 | cons o l ih =>
  unfold fromF
  split
  ·have := h o List.mem_cons_self
   show _ ≤ o.p ∧ o.p ≤ _
   omega
  ·exact ih fun o' ho => h o' (List.mem_cons_of_mem _ ho)
end Go.Proofs.YtgpkppohfodhdaaGreatDoor.Va
namespace Go.Proofs.YtgpkppohfodhdaaGreatDoor.Va
open Go Go.RowKit Go.Proofs.YtgpkppohfodhdaaGreatDoor.Pm Go.Proofs.YtgpkppohfodhdaaGreatDoor.Pl
set_option linter.unusedVariables false
set_option linter.unusedSimpArgs false
set_option maxHeartbeats 1000000
def amN : Am → Int
 | .am n => n
 | _ => 0
def amB : Am → Bool
 | .am _ => true
 | _ => false
def amE : Am → Int
 | .er e => e
 | _ => 0
def tellA (x : Ex) (l : List Of) : Am := if (rightO l && isRight x) = true then evalE l x else .er 1
theorem apart_iff : ∀ l : List Of, apartB l = true ↔ (l.map Of.s).Nodup
 | [] => by simp [apartB]
 | o :: l => by
  unfold apartB
  rw [Bool.and_eq_true, apart_iff l, List.map_cons, List.nodup_cons]
  have : newB o.s l = true ↔ o.s ∉ l.map Of.s := by
   unfold newB
   rw [List.all_eq_true]
   constructor
   ·intro h hm
    obtain ⟨p, hp, e⟩ := List.mem_map.1 hm
    have := h p hp
    rw [e, eqB_refl] at this
    cases this
   ·intro h p hp
    cases hq : eqB o.s p.s with
    | false => rfl
    | true => exact absurd (List.mem_map.2 ⟨p, hp, (eqB_iff.1 hq).symm⟩) h
  rw [this]
theorem right_iff {l : List Of} : rightO l = true ↔ (∀ o ∈ l, okO o = true) ∧ l.length ≤ 8 ∧ (l.map Of.s).Nodup := by
 unfold rightO
 rw [Bool.and_eq_true, Bool.and_eq_true, List.all_eq_true, decide_eq_true_eq, apart_iff]
end Go.Proofs.YtgpkppohfodhdaaGreatDoor.Va
namespace Go.Proofs.YtgpkppohfodhdaaGreatDoor.Va
open Go Go.RowKit Go.Proofs.YtgpkppohfodhdaaGreatDoor.Pm Go.Proofs.YtgpkppohfodhdaaGreatDoor.Pl
set_option linter.unusedVariables false
set_option linter.unusedSimpArgs false
set_option maxHeartbeats 1000000
theorem form_kind {k m a : Int} {w : List UInt8} (h : Q.formT k = some (w, m, a)) : ((k = 1 ∨ k = 2 ∨ k = 3) ∧ m = 0 ∧ a = 0) ∨ (k = 4 ∧ a = 0) ∨ (k = 5 ∧ a = 1) ∨ (k = 6 ∧ m = 100000 ∧ a = 1) ∨ ((k = 7 ∨ k = 8 ∨ k = 9) ∧ a = 2) ∨ (k = 10 ∧ a = 3) ∨ (k = 11 ∧ a = 0) ∨ (k = 12 ∧ a = 2) := by
 unfold Q.formT at h
 split at h <;> first | (cases h; done) | (injection h with h; injection h with h1 h2; injection h2 with h2 h3; subst h2; subst h3; decide)
theorem len0 {α : Type} {l : List α} (h : (l.length : Int) = 0) : l = [] := List.eq_nil_of_length_eq_zero (by omega)
theorem len1 {α : Type} {l : List α} (h : (l.length : Int) = 1) : ∃ x, l = [x] := by
 match l, h with
 | [x], _ => exact ⟨x, rfl⟩
 | [], h => simp at h
 | _ :: _ :: _, h => simp at h; omega
theorem len2 {α : Type} {l : List α} (h : (l.length : Int) = 2) : ∃ x y, l = [x, y] := by
 match l, h with
 | [x, y], _ => exact ⟨x, y, rfl⟩
 | [], h => simp at h
 | [_], h => simp at h
 | _ :: _ :: _ :: _, h => simp at h; omega
theorem len3 {α : Type} {l : List α} (h : (l.length : Int) = 3) : ∃ x y z, l = [x, y, z] := by
 match l, h with
 | [x, y, z], _ => exact ⟨x, y, z, rfl⟩
 | [], h => simp at h
 | [_], h => simp at h
 | [_, _], h => simp at h
 | _ :: _ :: _ :: _ :: _, h => simp at h; omega
theorem fine_kind {d : Int} {c : Bool} {k n : Int} {nm : ByteArray} {xs : List Ex} (h : isFine d c ⟨k, n, nm, xs⟩ = true) : 1 ≤ d ∧ 0 ≤ n ∧ n ≤ 1000000000000 ∧
    ((c = false ∧ (k = 1 ∨ k = 2 ∨ k = 3 ∨ k = 4) ∧ xs = []) ∨
     (c = false ∧ (k = 5 ∨ (k = 6 ∧ n ≤ 100000)) ∧ ∃ x, xs = [x] ∧ isFine (d - 1) false x = true) ∨
     (c = false ∧ (k = 7 ∨ k = 8 ∨ k = 9) ∧ ∃ x y, xs = [x, y] ∧ isFine (d - 1) false x = true ∧ isFine (d - 1) false y = true) ∨
     (c = false ∧ k = 10 ∧ ∃ x y z, xs = [x, y, z] ∧ isFine (d - 1) true x = true ∧ isFine (d - 1) false y = true ∧ isFine (d - 1) false z = true) ∨
     (c = true ∧ k = 11 ∧ xs = []) ∨
     (c = true ∧ k = 12 ∧ ∃ x y, xs = [x, y] ∧ isFine (d - 1) false x = true ∧ isFine (d - 1) false y = true)) := by
  obtain ⟨w, m, a, hf, h1, h2, h3, h4, h5, h6, h7, h8, h9⟩ := fine_open h
  have hk := form_kind hf
  refine ⟨h1, h3, by omega, ?_⟩
  unfold isCond at h2
  rcases hk with ⟨hk, hm, ha⟩ | ⟨hk, ha⟩ | ⟨hk, ha⟩ | ⟨hk, hm, ha⟩ | ⟨hk, ha⟩ | ⟨hk, ha⟩ | ⟨hk, ha⟩ | ⟨hk, ha⟩
  · have e := len0 (h6.trans ha)
    refine .inl ⟨?_, by omega, e⟩
    rw [← h2]; rcases hk with rfl | rfl | rfl <;> rfl
  · have e := len0 (h6.trans ha)
    refine .inl ⟨?_, by omega, e⟩
    rw [← h2, hk]; rfl
  · obtain ⟨x, e⟩ := len1 (h6.trans ha)
    subst hk; subst e
    rw [fineL, fineL, Bool.and_true] at h9
    exact .inr (.inl ⟨h2.symm, .inl rfl, x, rfl, h9⟩)
  · obtain ⟨x, e⟩ := len1 (h6.trans ha)
    subst hk; subst e
    rw [fineL, fineL, Bool.and_true] at h9
    exact .inr (.inl ⟨h2.symm, .inr ⟨rfl, by omega⟩, x, rfl, h9⟩)
  · obtain ⟨x, y, e⟩ := len2 (h6.trans ha)
    subst e
    rw [fineL, fineL, fineL, Bool.and_true, Bool.and_eq_true] at h9
    have hk10 : decide (k = 10) = false := decide_eq_false (by omega)
    rw [hk10] at h9
    refine .inr (.inr (.inl ⟨?_, hk, x, y, rfl, h9.1, h9.2⟩))
    rw [← h2]; rcases hk with rfl | rfl | rfl <;> rfl
  · obtain ⟨x, y, z, e⟩ := len3 (h6.trans ha)
    subst hk; subst e
    rw [fineL, fineL, fineL, fineL, Bool.and_true, Bool.and_eq_true, Bool.and_eq_true] at h9
    exact .inr (.inr (.inr (.inl ⟨h2.symm, rfl, x, y, z, rfl, h9.1, h9.2.1, h9.2.2⟩)))
  · have e := len0 (h6.trans ha)
    subst hk
    exact .inr (.inr (.inr (.inr (.inl ⟨h2.symm, rfl, e⟩))))
  · obtain ⟨x, y, e⟩ := len2 (h6.trans ha)
    subst hk; subst e
    rw [fineL, fineL, fineL, Bool.and_true, Bool.and_eq_true] at h9
    exact .inr (.inr (.inr (.inr (.inr ⟨h2.symm, rfl, x, y, rfl, h9.1, h9.2⟩))))
theorem min_or (a b : Int) : min a b = a ∨ min a b = b := by omega
theorem max_or (a b : Int) : max a b = a ∨ max a b = b := by omega
section
variable {l : List Of} {n : Int} {nm : ByteArray} {x y z : Ex}
theorem ev1 : evalE l ⟨1, n, nm, []⟩ = rankF (prs l) 0 := by rw [evalE, evalA]; rfl
theorem ev2 : evalE l ⟨2, n, nm, []⟩ = rankF (prs l) 1 := by rw [evalE, evalA]; rfl
theorem ev3 : evalE l ⟨3, n, nm, []⟩ = fromF nm l := by rw [evalE, evalA]; rfl
theorem ev4 : evalE l ⟨4, n, nm, []⟩ = .am n := by rw [evalE, evalA]; rfl
theorem ev5 : evalE l ⟨5, n, nm, [x]⟩ = lessF (fun _ => .am n) (evalE l x) := by rw [evalE, evalA, evalA]; rfl
theorem ev6 : evalE l ⟨6, n, nm, [x]⟩ = lessF (fun a => partF a n) (evalE l x) := by rw [evalE, evalA, evalA]; rfl
theorem ev7 : evalE l ⟨7, n, nm, [x, y]⟩ = bothF min (evalE l x) (evalE l y) := by rw [evalE, evalA, evalA, evalA]; rfl
theorem ev8 : evalE l ⟨8, n, nm, [x, y]⟩ = bothF max (evalE l x) (evalE l y) := by rw [evalE, evalA, evalA, evalA]; rfl
theorem ev9 : evalE l ⟨9, n, nm, [x, y]⟩ = (match evalE l x with
  | .no => evalE l y
  | r => r) := by rw [evalE, evalA, evalA, evalA]; rfl
theorem ev10 : evalE l ⟨10, n, nm, [x, y, z]⟩ = (match condE l x with
  | .er e => .er e
  | .is true => evalE l y
  | .is false => evalE l z) := by rw [evalE, evalA, evalA, evalA, evalA, condA]; rfl
theorem cd11 : condE l ⟨11, n, nm, []⟩ = .is (decide (n < l.length)) := by rw [condE, evalA]; rfl
theorem cd12 : condE l ⟨12, n, nm, [x, y]⟩ = aboveF (evalE l x) (evalE l y) := by rw [condE, evalA, evalA, evalA]; rfl
end
theorem eval_r {l : List Of} (hr : rightO l = true) : ∀ (d : Nat) (x : Ex), isFine d false x = true → AmR (evalE l x)
 | 0, ⟨k, n, nm, xs⟩, h => by
  have := (fine_kind h).1
  omega
 | d + 1, ⟨k, n, nm, xs⟩, h => by
  obtain ⟨-, n0, n1, hk⟩ := fine_kind h
  rw [show ((d + 1 : Nat) : Int) - 1 = (d : Int) by omega] at hk
  have hofs : ∀ o ∈ l, 1 ≤ o.p ∧ o.p ≤ 1000000000000 := fun o ho => ⟨(offer_p hr ho).1, (offer_p hr ho).2.1⟩
  rcases hk with ⟨-, hk, rfl⟩ | ⟨-, hk, x, rfl, hx⟩ | ⟨-, hk, x, y, rfl, hx, hy⟩ | ⟨-, rfl, x, y, z, rfl, hx, hy, hz⟩ | ⟨hc, -⟩ | ⟨hc, -⟩
  ·rcases hk with rfl | rfl | rfl | rfl
   ·rw [ev1]; exact rank_r hr 0
   ·rw [ev2]; exact rank_r hr 1
   ·rw [ev3]; exact from_r hofs nm
   ·rw [ev4]; exact ⟨by omega, n1⟩
  ·have ih := eval_r hr d x hx
   rcases hk with rfl | ⟨rfl, -⟩
   ·rw [ev5]
    rcases lessF_r (fun _ => .am n) (evalE l x) with h | h
    ·exact h
    ·rw [h]; exact ih
   ·rw [ev6]
    rcases lessF_r (fun a => partF a n) (evalE l x) with h | h
    ·exact h
    ·rw [h]; exact ih
  ·have ih := eval_r hr d x hx
   have jh := eval_r hr d y hy
   rcases hk with rfl | rfl | rfl
   ·rw [ev7]; exact bothF_r min_or ih jh
   ·rw [ev8]; exact bothF_r max_or ih jh
   ·rw [ev9]
    cases hq : evalE l x with
    | er e => trivial
    | no => exact jh
    | am a => rw [hq] at ih; exact ih
  ·have jh := eval_r hr d y hy
   have kh := eval_r hr d z hz
   rw [ev10]
   cases condE l x with
   | er e => trivial
   | is b => cases b <;> assumption
  ·cases hc
  ·cases hc
end Go.Proofs.YtgpkppohfodhdaaGreatDoor.Va
namespace Go.Proofs.YtgpkppohfodhdaaGreatDoor.Va
open Go Go.RowKit Go.Proofs.YtgpkppohfodhdaaGreatDoor.Pm Go.Proofs.YtgpkppohfodhdaaGreatDoor.Pl
open Go.Proofs.YtgpkppohfodhdaaGreatDoor.Pr (minV wkTup)
open Go.Proofs.YtgpkppohfodhdaaGreatDoor.Pc (pBe)
set_option linter.unusedVariables false
set_option linter.unusedSimpArgs false
set_option maxHeartbeats 1000000
@[reducible] def cO (o : Of) : List CV := [.str o.s, .int .i64 o.p]
def rowO (l : List Of) : List (List CV) := l.map cO
@[reducible] def pM (l : List Of) : PV := .agg [.row (rowO l), .row (encN (prs l))]
@[reducible] def wr (e : Int) : PV := .ifc 80 [.int .i64 e]
theorem rowO_len (l : List Of) : (rowO l).length = l.length := by unfold rowO; simp
theorem rowO_get {l : List Of} {i : Nat} {o : Of} (h : l[i]? = some o) : (rowO l)[i]? = some [.str o.s, .int .i64 o.p] := by
 unfold rowO; rw [List.getElem?_map, h]; rfl
theorem rowO_two (l : List Of) : ∀ x ∈ rowO l, x.length = 2 := by
 intro x hx
 unfold rowO at hx
 obtain ⟨n, _, rfl⟩ := List.mem_map.1 hx
 rfl
theorem within_ok (x a b : Int) : Ok E 109 [] [pI x, pI a, pI b] (pB (decide (a ≤ x) && decide (x ≤ b))) [] := by
 obtain ⟨v, hv⟩ : ∃ v, (decide (a ≤ x) && decide (x ≤ b)) = v := ⟨_, rfl⟩
 rw [hv]
 by_cases h : a ≤ x
 ·rw [decide_eq_true h, Bool.true_and] at hv
  refine Ok.enter hE Tryz.func109 rfl (by decide +kernel) (by kernel_rfl) rfl rfl (Nat.le_of_ble_eq_true rfl) rfl ?_
  refine ⟨_, geT h, ?_⟩
  refine ⟨_, leV hv, ?_⟩
  exact Ret.mk _ rfl rfl rfl
 ·rw [decide_eq_false h, Bool.false_and] at hv
  subst hv
  refine Ok.enter hE Tryz.func109 rfl (by decide +kernel) (by kernel_rfl) rfl rfl (Nat.le_of_ble_eq_true rfl) rfl ?_
  refine ⟨_, geN h, ?_⟩
  exact Ret.mk _ rfl rfl rfl
theorem mRight_ok (a : Int) : Ok E 108 [] [pI a] (pB (okA a)) [] := by
 have h := within_ok a (-1000000000000) 1000000000000
 refine Ok.enter hE Tryz.func108 rfl (by decide +kernel) (by kernel_rfl) rfl rfl (Nat.le_of_ble_eq_true rfl) rfl ?_
 refine ⟨_, CallR.mk1 h rfl rfl, ?_⟩
 exact Ret.mk _ rfl rfl rfl
def ofF (n : Int) (b : Bool) : Am := if (b && okA n) = true then .am n else .er 10
theorem mOf_ok (n : Int) (b : Bool) : Ok E 110 [] [pI n, pB b] (.tup [pI (amN (ofF n b)), pI (amE (ofF n b))]) [] := by
 have h := mRight_ok n
 obtain ⟨v, hv⟩ : ∃ v, ofF n b = v := ⟨_, rfl⟩
 rw [hv]
 unfold ofF at hv
 cases b with
 | false =>
  rw [Bool.false_and, if_neg (by decide)] at hv
  subst hv
  refine Ok.enter hE Tryz.func110 rfl (by decide +kernel) (by kernel_rfl) rfl rfl (Nat.le_of_ble_eq_true rfl) rfl ?_
  exact Ret.mk _ rfl rfl rfl
 | true =>
  rw [Bool.true_and] at hv
  rcases Bool.eq_false_or_eq_true (okA n) with h1 | h1
  ·rw [h1, if_pos rfl] at hv
   rw [h1] at h
   subst hv
   refine Ok.enter hE Tryz.func110 rfl (by decide +kernel) (by kernel_rfl) rfl rfl (Nat.le_of_ble_eq_true rfl) rfl ?_
   refine ⟨_, CallR.mk1 h rfl rfl, ?_⟩
   exact Ret.mk _ rfl rfl rfl
  ·rw [h1, if_neg (by decide)] at hv
   rw [h1] at h
   subst hv
   refine Ok.enter hE Tryz.func110 rfl (by decide +kernel) (by kernel_rfl) rfl rfl (Nat.le_of_ble_eq_true rfl) rfl ?_
   refine ⟨_, CallR.mk1 h rfl rfl, ?_⟩
   exact Ret.mk _ rfl rfl rfl
theorem subF_of (a b : Int) : subF a b = ofF (a - b) (okA a && okA b) := rfl
theorem Sub_ok (a b : Int) (a0 : -1000000000000 ≤ a) (a1 : a ≤ 1000000000000) (b0 : -1000000000000 ≤ b) (b1 : b ≤ 1000000000000) : Ok E 107 [] [pI a, pI b] (.tup [pI (amN (subF a b)), pI (amE (subF a b))]) [] := by
 have h1 := mRight_ok a
 have h2 := mRight_ok b
 have h3 := mOf_ok (a - b) true
 have ea : okA a = true := okA_iff.2 ⟨a0, a1⟩
 have eb : okA b = true := okA_iff.2 ⟨b0, b1⟩
 rw [subF_of, ea, eb]
 rw [ea] at h1
 rw [eb] at h2
 refine Ok.enter hE Tryz.func107 rfl (by decide +kernel) (by kernel_rfl) rfl rfl (Nat.le_of_ble_eq_true rfl) rfl ?_
 refine ⟨_, subV rfl (by omega) (by omega), ?_⟩
 refine ⟨_, CallR.mk1 h1 rfl rfl, ?_⟩
 refine ⟨_, CallR.mk1 h2 rfl rfl, ?_⟩
 refine ⟨_, CallR.mk1 h3 rfl rfl, ?_⟩
 exact Ret.mk _ rfl rfl rfl
theorem tmod_pos {n : Int} : (n.tmod 10000 + 10000).tmod 10000 = n % 10000 := by
 have h1 : -10000 < n.tmod 10000 := by
  have := Int.lt_tmod_of_pos n (show (0 : Int) < 10000 by decide); omega
 rw [Int.tmod_eq_emod_of_nonneg (by omega)]
 rw [Int.tmod_eq_emod]
 split
 ·omega
 ·omega
theorem Part_ok (a n : Int) (a0 : -1000000000000 ≤ a) (a1 : a ≤ 1000000000000) (n0 : 0 ≤ n) (n1 : n ≤ 100000) : Ok E 62 [] [pI a, pI n, pB false] (.tup [pI (amN (partF a n)), pI (amE (partF a n))]) [] := by
 have h1 := mRight_ok a
 have ea : okA a = true := okA_iff.2 ⟨a0, a1⟩
 rw [ea] at h1
 have h2 := within_ok n (-100000) 100000
 rw [decide_eq_true (show -100000 ≤ n by omega), decide_eq_true n1] at h2
 have hm0 : -100000000000000000 ≤ a * n := by
  have : -1000000000000 * n ≤ a * n := Int.mul_le_mul_of_nonneg_right a0 n0
  omega
 have hm1 : a * n ≤ 100000000000000000 := by
  have : a * n ≤ 1000000000000 * n := Int.mul_le_mul_of_nonneg_right a1 n0
  omega
 have h3 := mOf_ok ((a * n - (a * n) % 10000) / 10000) true
 rw [show partF a n = ofF ((a * n - (a * n) % 10000) / 10000) true by
  unfold partF ofF
  rw [ea, decide_eq_true (show -100000 ≤ n by omega), decide_eq_true n1]; rfl]
 obtain ⟨q, hq⟩ : ∃ q, a * n = q := ⟨_, rfl⟩
 rw [hq] at h3 hm0 hm1 ⊢
 obtain ⟨r, hr⟩ : ∃ r, q % 10000 = r := ⟨_, rfl⟩
 have hrr : 0 ≤ r ∧ r < 10000 := by omega
 have t1 := Int.lt_tmod_of_pos q (show (0 : Int) < 10000 by decide)
 have t2 := Int.tmod_lt_of_pos q (show (0 : Int) < 10000 by decide)
 rw [hr] at h3 ⊢
 have hdiv : (q - r).tdiv 10000 = (q - r) / 10000 := by
  rw [Int.tdiv_eq_ediv_of_dvd]
  exact ⟨q / 10000, by omega⟩
 refine Ok.enter hE Tryz.func62 rfl (by decide +kernel) (by kernel_rfl) rfl rfl (Nat.le_of_ble_eq_true rfl) rfl ?_
 refine ⟨_, CallR.mk1 h1 rfl rfl, ?_⟩
 refine ⟨_, CallR.mk1 h2 rfl rfl, ?_⟩
 refine ⟨_, mulV hq (by omega) (by omega), ?_⟩
 refine ⟨_, remV (by decide) rfl, ?_⟩
 refine ⟨_, addV rfl (by omega) (by omega), ?_⟩
 refine ⟨_, remV (z := r) (by decide) (by rw [← hr]; exact tmod_pos), ?_⟩
 refine ⟨_, subV rfl (by omega) (by omega), ?_⟩
 refine ⟨_, quoV (by decide) hdiv (by omega) (by omega), ?_⟩
 refine ⟨_, CallR.mk1 h3 rfl rfl, ?_⟩
 exact Ret.mk _ rfl rfl rfl
theorem must_ok (n : Int) : Ok E 61 [] [pI n, pI 0] (pI n) [] := by
 refine Ok.enter hE Tryz.func61 rfl (by decide +kernel) (by kernel_rfl) rfl rfl (Nat.le_of_ble_eq_true rfl) rfl ?_
 refine ⟨_, neN rfl, ?_⟩
 exact Ret.mk _ rfl rfl rfl
theorem must_pan (n e : Int) (he : e ≠ 0) : OkP E 61 [] [pI n, pI e] (wr e) := by
 refine OkP.enter hE Tryz.func61 rfl (by decide +kernel) (by kernel_rfl) rfl rfl (Nat.le_of_ble_eq_true rfl) rfl ?_
 refine ⟨_, neT he, ?_⟩
 exact Wk.refl _
@[reducible] def bxE (k n : Int) (nm : ByteArray) (xs : List Ex) : List PV := [pI k, pI n, pS nm, .c (.row (encL xs))]
theorem by1_ok (a k n : Int) (nm : ByteArray) (xs : List Ex) : Ok E 59 [bxE k n nm xs] [pI a, .ptr 0 0] (pI n) [bxE k n nm xs] := by
 refine Ok.enter hE Tryz.func59 rfl (by decide +kernel) (by kernel_rfl) rfl rfl (Nat.le_of_ble_eq_true rfl) rfl ?_
 exact ⟨_, rfl, Wk.refl _, rfl, .cons (WkL.refl _) rfl (.nil _)⟩
theorem partF_cases (a n : Int) : (∃ b, partF a n = .am b ∧ -1000000000000 ≤ b ∧ b ≤ 1000000000000) ∨ partF a n = .er 10 := by
 unfold partF
 split
 ·rename_i h
  simp only [Bool.and_eq_true] at h
  exact .inl ⟨_, rfl, okA_iff.1 h.2⟩
 ·exact .inr rfl
theorem subF_cases (a b : Int) : (∃ c, subF a b = .am c ∧ -1000000000000 ≤ c ∧ c ≤ 1000000000000) ∨ subF a b = .er 10 := by
 unfold subF
 split
 ·rename_i h
  simp only [Bool.and_eq_true] at h
  exact .inl ⟨_, rfl, okA_iff.1 h.2⟩
 ·exact .inr rfl
theorem by2_ok {a b k n : Int} (nm : ByteArray) (xs : List Ex) (a0 : -1000000000000 ≤ a) (a1 : a ≤ 1000000000000) (n0 : 0 ≤ n) (n1 : n ≤ 100000) (h : partF a n = .am b) : Ok E 60 [bxE k n nm xs] [pI a, .ptr 0 0] (pI b) [bxE k n nm xs] := by
 have hP := Part_ok a n a0 a1 n0 n1
 rw [h] at hP
 refine Ok.enter hE Tryz.func60 rfl (by decide +kernel) (by kernel_rfl) rfl rfl (Nat.le_of_ble_eq_true rfl) rfl ?_
 refine ⟨_, CallR.mk1 hP rfl rfl, ?_⟩
 refine .inl ⟨_, _, SCallR.none (must_ok b) rfl rfl, ?_⟩
 exact ⟨_, rfl, Wk.refl _, rfl, .cons (WkL.refl _) rfl (.nil _)⟩
theorem by2_pan {a k n : Int} (nm : ByteArray) (xs : List Ex) (a0 : -1000000000000 ≤ a) (a1 : a ≤ 1000000000000) (n0 : 0 ≤ n) (n1 : n ≤ 100000) (h : partF a n = .er 10) : OkP E 60 [bxE k n nm xs] [pI a, .ptr 0 0] (wr 10) := by
 have hP := Part_ok a n a0 a1 n0 n1
 rw [h] at hP
 refine OkP.enter hE Tryz.func60 rfl (by decide +kernel) (by kernel_rfl) rfl rfl (Nat.le_of_ble_eq_true rfl) rfl ?_
 refine ⟨_, CallR.mk1 hP rfl rfl, ?_⟩
 refine .inr (.inl ⟨_, SCallP.none (must_pan _ 10 (by decide)) rfl rfl, ?_⟩)
 exact Wk.refl _
theorem of3_ok (a b : Int) : Ok E 64 [] [pI a, pI b] (pI (min a b)) [] := by
 refine Ok.enter hE Tryz.func64 rfl (by decide +kernel) (by kernel_rfl) rfl rfl (Nat.le_of_ble_eq_true rfl) rfl ?_
 refine ⟨_, minV rfl, ?_⟩
 exact Ret.mk _ rfl rfl rfl
theorem of4_ok (a b : Int) : Ok E 65 [] [pI a, pI b] (pI (max a b)) [] := by
 refine Ok.enter hE Tryz.func65 rfl (by decide +kernel) (by kernel_rfl) rfl rfl (Nat.le_of_ble_eq_true rfl) rfl ?_
 refine ⟨_, maxV rfl, ?_⟩
 exact Ret.mk _ rfl rfl rfl
theorem ofC_ok (a b : Int) (a0 : -1000000000000 ≤ a) (a1 : a ≤ 1000000000000) (b0 : -1000000000000 ≤ b) (b1 : b ≤ 1000000000000) : Ok E 111 [] [pI a, pI b] (pI (min (max (a - b) 0) 1)) [] := by
 refine Ok.enter hE Tryz.func111 rfl (by decide +kernel) (by kernel_rfl) rfl rfl (Nat.le_of_ble_eq_true rfl) rfl ?_
 refine ⟨_, subV rfl (by omega) (by omega), ?_⟩
 refine ⟨_, maxV rfl, ?_⟩
 refine ⟨_, minV rfl, ?_⟩
 exact Ret.mk _ rfl rfl rfl
theorem rank_ok (l : List Of) (k : Nat) (hk : k ≤ 1) (hl : l.length ≤ 1000000) : Ok E 56 [] [pM l, pI k] (.tup [pI (amN (rankF (prs l) k)), pB (amB (rankF (prs l) k))]) [] := by
 have hel := Pc.encN_len (prs l)
 have hpl : (prs l).length = l.length := by unfold prs; rw [srt_len, List.length_map]
 obtain ⟨v, hv⟩ : ∃ v, rankF (prs l) k = v := ⟨_, rfl⟩
 rw [hv]
 unfold rankF at hv
 cases hx : (prs l)[k]? with
 | none =>
  rw [hx] at hv
  subst hv
  have := List.getElem?_eq_none_iff.1 hx
  refine Ok.enter hE Tryz.func56 rfl (by decide +kernel) (by kernel_rfl) rfl rfl (Nat.le_of_ble_eq_true rfl) rfl ?_
  refine ⟨_, geT (by rw [hel]; omega), ?_⟩
  exact Ret.mk _ rfl rfl rfl
 | some n =>
  rw [hx] at hv
  subst hv
  have hg := Pc.encN_get hx
  have := (List.getElem?_eq_some_iff.1 hx).1
  refine Ok.enter hE Tryz.func56 rfl (by decide +kernel) (by kernel_rfl) rfl rfl (Nat.le_of_ble_eq_true rfl) rfl ?_
  refine ⟨_, geN (by rw [hel]; omega), ?_⟩
  refine ⟨_, idxV (j := k) hg rfl rfl rfl rfl, ?_⟩
  exact Ret.mk _ rfl rfl rfl
theorem from1_ok (o : Of) (nm : ByteArray) : Ok E 106 [[pS nm]] [.agg (cO o), .ptr 0 0] (pB (eqB o.s nm)) [[pS nm]] := by
 refine Ok.enter hE Tryz.func106 rfl (by decide +kernel) (by kernel_rfl) rfl rfl (Nat.le_of_ble_eq_true rfl) rfl ?_
 refine ⟨_, strEqV rfl, ?_⟩
 exact ⟨_, rfl, Wk.refl _, rfl, .cons (WkL.refl _) rfl (.nil _)⟩
theorem from_first : ∀ (l : List Of) (nm : ByteArray), ∃ k : Nat, k ≤ l.length ∧ (∀ j, j < k → ∀ o, l[j]? = some o → eqB o.s nm = false) ∧ ((k = l.length ∧ fromF nm l = .no) ∨ (∃ o, l[k]? = some o ∧ eqB o.s nm = true ∧ fromF nm l = .am o.p))
 | [], nm => ⟨0, Nat.le_refl _, fun j h => by omega, .inl ⟨rfl, rfl⟩⟩
 | o :: l, nm => by
  rcases Bool.eq_false_or_eq_true (eqB o.s nm) with h | h
  ·exact ⟨0, Nat.zero_le _, fun j h => by omega, .inr ⟨o, rfl, h, by unfold fromF; rw [if_pos h]⟩⟩
  ·obtain ⟨k, h1, h2, h3⟩ := from_first l nm
   have e : fromF nm (o :: l) = fromF nm l := by
    rw [fromF, if_neg (by rw [h]; decide)]
   refine ⟨k + 1, by simp; omega, fun j hj y hy => ?_, ?_⟩
   ·cases j with
    | zero => simp at hy; subst hy; exact h
    | succ j => exact h2 j (by omega) y (by simpa using hy)
   ·rcases h3 with ⟨h3, h4⟩ | ⟨y, h3, h4, h5⟩
    ·exact .inl ⟨by simp [h3], by rw [e, h4]⟩
    ·exact .inr ⟨y, by simpa using h3, h4, by rw [e, h5]⟩
theorem indexO_ok (l : List Of) (nm : ByteArray) (hl : l.length ≤ 9223372036854775807) (k : Nat) (h1 : k ≤ l.length) (h2 : ∀ j, j < k → ∀ o, l[j]? = some o → eqB o.s nm = false) (v : Int) (h3 : (k = l.length ∧ v = -1) ∨ (v = k ∧ ∃ o, l[k]? = some o ∧ eqB o.s nm = true)) :
  Ok E 105 [[pS nm]] [.c (.row (rowO l)), .clos 106 [] [.p 0 0]] (pI v) [[pS nm]] := by
 have hel := rowO_len l
 refine Ok.enter hE Tryz.func105 rfl (by decide +kernel) (by kernel_rfl) rfl rfl (Nat.le_of_ble_eq_true rfl) rfl ?_
 refine Loop.run (α := Nat) (fun i => i ≤ k) (fun i => [(0, .c (.row (rowO l))), (1, .clos 106 [] [.p 0 0]), (7, pI (rowO l).length), (8, pI i)]) (fun _ => [[pS nm]]) (fun _ => []) (fun i => k - i) 0 (Nat.zero_le _) ⟨⟨rfl, rfl, rfl, rfl, trivial⟩, rfl, rfl⟩ ?_
 rintro i f hi
 have hi : i ≤ k := hi
 by_cases hlt : i < l.length
 ·obtain ⟨o, ho⟩ : ∃ o, l[i]? = some o := ⟨_, List.getElem?_eq_getElem hlt⟩
  have hg := rowO_get ho
  have hO := from1_ok o nm
  by_cases hik : i < k
  ·rw [h2 i hik o ho] at hO
   refine ⟨_, ltT (by rw [hel]; omega), ?_⟩
   refine ⟨_, idxV (j := i) hg rfl rfl rfl rfl, ?_⟩
   refine .inl ⟨_, _, SCallR.of [0] hO (Hand.of rfl rfl (by simp) rfl rfl) rfl rfl rfl, ?_⟩
   refine ⟨_, addV (z := ((i + 1 : Nat) : Int)) (by push_cast; rfl) (by omega) (by omega), ?_⟩
   exact ⟨i + 1, by show i + 1 ≤ k; omega, by show k - (i + 1) < k - i; omega, ⟨rfl, rfl, rfl, rfl, trivial⟩, rfl, rfl⟩
  ·have e : i = k := by omega
   subst e
   rcases h3 with ⟨h3, _⟩ | ⟨rfl, y, h3, h4⟩
   ·omega
   ·rw [ho] at h3
    injection h3 with h3
    subst h3
    rw [h4] at hO
    refine ⟨_, ltT (by rw [hel]; omega), ?_⟩
    refine ⟨_, idxV (j := i) hg rfl rfl rfl rfl, ?_⟩
    refine .inl ⟨_, _, SCallR.of [0] hO (Hand.of rfl rfl (by simp) rfl rfl) rfl rfl rfl, ?_⟩
    exact ⟨_, rfl, Wk.refl _, rfl, .cons (WkL.refl _) rfl (.nil _)⟩
 ·rcases h3 with ⟨h3, rfl⟩ | ⟨_, y, h3, _⟩
  ·refine ⟨_, ltN (by rw [hel]; omega), ?_⟩
   exact ⟨_, rfl, Wk.refl _, rfl, .cons (WkL.refl _) rfl (.nil _)⟩
  ·have := (List.getElem?_eq_some_iff.1 h3).1
   omega
theorem from_ok (l : List Of) (nm : ByteArray) (hl : l.length ≤ 9223372036854775807) : Ok E 57 [] [pM l, pS nm] (.tup [pI (amN (fromF nm l)), pB (amB (fromF nm l))]) [] := by
 obtain ⟨k, h1, h2, h3⟩ := from_first l nm
 rcases h3 with ⟨h3, h4⟩ | ⟨o, h3, h4, h5⟩
 ·have h := indexO_ok l nm hl k h1 h2 (-1) (.inl ⟨h3, rfl⟩)
  rw [h4]
  refine Ok.enter hE Tryz.func57 rfl (by decide +kernel) (by kernel_rfl) rfl rfl (Nat.le_of_ble_eq_true rfl) rfl ?_
  refine .inl ⟨_, _, SCallR.of [1] h (Hand.of rfl rfl (by simp) rfl rfl) rfl rfl rfl, ?_⟩
  refine ⟨_, ltT (by decide), ?_⟩
  exact Ret.mk _ rfl rfl rfl
 ·have h := indexO_ok l nm hl k h1 h2 k (.inr ⟨rfl, o, h3, h4⟩)
  have hg := rowO_get h3
  rw [h5]
  refine Ok.enter hE Tryz.func57 rfl (by decide +kernel) (by kernel_rfl) rfl rfl (Nat.le_of_ble_eq_true rfl) rfl ?_
  refine .inl ⟨_, _, SCallR.of [1] h (Hand.of rfl rfl (by simp) rfl rfl) rfl rfl rfl, ?_⟩
  refine ⟨_, ltN (by omega), ?_⟩
  refine ⟨_, idxV (j := k) hg rfl rfl rfl rfl, ?_⟩
  exact Ret.mk _ rfl rfl rfl
end Go.Proofs.YtgpkppohfodhdaaGreatDoor.Va
namespace Go.Proofs.YtgpkppohfodhdaaGreatDoor.Va
open Go Go.RowKit Go.Proofs.YtgpkppohfodhdaaGreatDoor.Pm Go.Proofs.YtgpkppohfodhdaaGreatDoor.Pl
open Go.Proofs.YtgpkppohfodhdaaGreatDoor.Pr (minV wkTup)
set_option linter.unusedVariables false
set_option linter.unusedSimpArgs false
set_option maxHeartbeats 1000000
def EvD (l : List Of) (x : Ex) : Prop := match evalE l x with
 | .er e => e ≠ 0 ∧ OkP E 35 [] [pM l, pE x] (wr e)
 | r => Ok E 35 [] [pM l, pE x] (.tup [pI (amN r), pB (amB r)]) []
def CdD (l : List Of) (x : Ex) : Prop := match condE l x with
 | .er e => e ≠ 0 ∧ OkP E 66 [] [pM l, pE x] (wr e)
 | .is b => Ok E 66 [] [pM l, pE x] (pB b) []
theorem EvD.er {l : List Of} {x : Ex} {e : Int} (h : EvD l x) (he : evalE l x = .er e) : e ≠ 0 ∧ OkP E 35 [] [pM l, pE x] (wr e) := by
 unfold EvD at h; rw [he] at h; exact h
theorem EvD.no {l : List Of} {x : Ex} (h : EvD l x) (he : evalE l x = .no) : Ok E 35 [] [pM l, pE x] (.tup [pI 0, pB false]) [] := by
 unfold EvD at h; rw [he] at h; exact h
theorem EvD.am {l : List Of} {x : Ex} {n : Int} (h : EvD l x) (he : evalE l x = .am n) : Ok E 35 [] [pM l, pE x] (.tup [pI n, pB true]) [] := by
 unfold EvD at h; rw [he] at h; exact h
theorem encL_get1 (x : Ex) (xs : List Ex) : (encL (x :: xs))[0]? = some (cellsE x) := by rw [encL_map]; rfl
theorem encL_get2 (x y : Ex) (xs : List Ex) : (encL (x :: y :: xs))[1]? = some (cellsE y) := by rw [encL_map]; rfl
theorem encL_get3 (x y z : Ex) (xs : List Ex) : (encL (x :: y :: z :: xs))[2]? = some (cellsE z) := by rw [encL_map]; rfl
section
variable {l : List Of} {k n : Int} {nm : ByteArray} {x y : Ex} {xs : List Ex}
theorem less_er {g : FuncId} {bx : List PV} (hb : bx.all PV.closedB = true) {e : Int} (h : OkP E 35 [] [pM l, pE x] (wr e)) : OkP E 58 [bx] [pM l, pE ⟨k, n, nm, x :: xs⟩, .clos g [] [.p 0 0]] (wr e) := by
 have hg := encL_get1 x xs
 refine OkP.enter hE Tryz.func58 rfl (by decide +kernel) (by kernel_rfl) rfl (by simp [hb]) (Nat.le_of_ble_eq_true rfl) rfl ?_
 refine ⟨_, idxV (j := 0) hg rfl rfl rfl rfl, ?_⟩
 refine .inr ⟨_, SCallP.none h rfl rfl, rfl, ?_⟩
 exact Wk.refl _
theorem less_no {g : FuncId} {bx : List PV} (hb : bx.all PV.closedB = true) (h : Ok E 35 [] [pM l, pE x] (.tup [pI 0, pB false]) []) : Ok E 58 [bx] [pM l, pE ⟨k, n, nm, x :: xs⟩, .clos g [] [.p 0 0]] (.tup [pI 0, pB false]) [bx] := by
 have hg := encL_get1 x xs
 refine Ok.enter hE Tryz.func58 rfl (by decide +kernel) (by kernel_rfl) rfl (by simp [hb]) (Nat.le_of_ble_eq_true rfl) rfl ?_
 refine ⟨_, idxV (j := 0) hg rfl rfl rfl rfl, ?_⟩
 refine .inl ⟨_, _, SCallR.none h rfl rfl, ?_⟩
 exact ⟨_, rfl, Wk.refl _, rfl, .cons (WkL.refl _) hb (.nil _)⟩
theorem less_by {g : FuncId} {bx : List PV} (hb : bx.all PV.closedB = true) {a e : Int} (h : Ok E 35 [] [pM l, pE x] (.tup [pI a, pB true]) []) (hby : OkP E g [bx] [pI a, .ptr 0 0] (wr e)) : OkP E 58 [bx] [pM l, pE ⟨k, n, nm, x :: xs⟩, .clos g [] [.p 0 0]] (wr e) := by
 have hg := encL_get1 x xs
 refine OkP.enter hE Tryz.func58 rfl (by decide +kernel) (by kernel_rfl) rfl (by simp [hb]) (Nat.le_of_ble_eq_true rfl) rfl ?_
 refine ⟨_, idxV (j := 0) hg rfl rfl rfl rfl, ?_⟩
 refine .inl ⟨_, _, SCallR.none h rfl rfl, ?_⟩
 refine .inr (.inl ⟨_, SCallP.of [0] hby (Hand.of rfl rfl (by simp) (by simp [hb]) rfl) rfl, ?_⟩)
 exact Wk.refl _
theorem less_am {g : FuncId} {bx : List PV} (hb : bx.all PV.closedB = true) {a b c : Int} (h : Ok E 35 [] [pM l, pE x] (.tup [pI a, pB true]) []) (hby : Ok E g [bx] [pI a, .ptr 0 0] (pI b) [bx]) (a0 : -1000000000000 ≤ a) (a1 : a ≤ 1000000000000) (b0 : -1000000000000 ≤ b) (b1 : b ≤ 1000000000000) (hs : subF a b = .am c) : Ok E 58 [bx] [pM l, pE ⟨k, n, nm, x :: xs⟩, .clos g [] [.p 0 0]] (.tup [pI c, pB true]) [bx] := by
 have hg := encL_get1 x xs
 have hS := Sub_ok a b a0 a1 b0 b1
 rw [hs] at hS
 refine Ok.enter hE Tryz.func58 rfl (by decide +kernel) (by kernel_rfl) rfl (by simp [hb]) (Nat.le_of_ble_eq_true rfl) rfl ?_
 refine ⟨_, idxV (j := 0) hg rfl rfl rfl rfl, ?_⟩
 refine .inl ⟨_, _, SCallR.none h rfl rfl, ?_⟩
 refine .inl ⟨_, _, SCallR.of [0] hby (Hand.of rfl rfl (by simp) (by simp [hb]) rfl) rfl (by simp [hb]) rfl, ?_⟩
 refine ⟨_, CallR.mk1 hS rfl rfl, ?_⟩
 refine .inl ⟨_, _, SCallR.none (must_ok c) rfl rfl, ?_⟩
 exact ⟨_, rfl, Wk.refl _, rfl, .cons (WkL.refl _) hb (.nil _)⟩
theorem less_sub {g : FuncId} {bx : List PV} (hb : bx.all PV.closedB = true) {a b : Int} (h : Ok E 35 [] [pM l, pE x] (.tup [pI a, pB true]) []) (hby : Ok E g [bx] [pI a, .ptr 0 0] (pI b) [bx]) (a0 : -1000000000000 ≤ a) (a1 : a ≤ 1000000000000) (b0 : -1000000000000 ≤ b) (b1 : b ≤ 1000000000000) (hs : subF a b = .er 10) : OkP E 58 [bx] [pM l, pE ⟨k, n, nm, x :: xs⟩, .clos g [] [.p 0 0]] (wr 10) := by
 have hg := encL_get1 x xs
 have hS := Sub_ok a b a0 a1 b0 b1
 rw [hs] at hS
 refine OkP.enter hE Tryz.func58 rfl (by decide +kernel) (by kernel_rfl) rfl (by simp [hb]) (Nat.le_of_ble_eq_true rfl) rfl ?_
 refine ⟨_, idxV (j := 0) hg rfl rfl rfl rfl, ?_⟩
 refine .inl ⟨_, _, SCallR.none h rfl rfl, ?_⟩
 refine .inl ⟨_, _, SCallR.of [0] hby (Hand.of rfl rfl (by simp) (by simp [hb]) rfl) rfl (by simp [hb]) rfl, ?_⟩
 refine ⟨_, CallR.mk1 hS rfl rfl, ?_⟩
 refine .inr (.inl ⟨_, SCallP.none (must_pan _ 10 (by decide)) rfl rfl, ?_⟩)
 exact Wk.refl _
theorem both_er1 {g : FuncId} {e : Int} (h : OkP E 35 [] [pM l, pE x] (wr e)) : OkP E 63 [] [pM l, pE ⟨k, n, nm, x :: y :: xs⟩, .c (.fn g)] (wr e) := by
 have hg := encL_get1 x (y :: xs)
 refine OkP.enter hE Tryz.func63 rfl (by decide +kernel) (by kernel_rfl) rfl rfl (Nat.le_of_ble_eq_true rfl) rfl ?_
 refine ⟨_, idxV (j := 0) hg rfl rfl rfl rfl, ?_⟩
 refine .inr ⟨_, SCallP.none h rfl rfl, rfl, ?_⟩
 exact Wk.refl _
theorem both_er2 {g : FuncId} {e : Int} {a : Int} {b : Bool} (h1 : Ok E 35 [] [pM l, pE x] (.tup [pI a, pB b]) []) (h : OkP E 35 [] [pM l, pE y] (wr e)) : OkP E 63 [] [pM l, pE ⟨k, n, nm, x :: y :: xs⟩, .c (.fn g)] (wr e) := by
 have hg := encL_get1 x (y :: xs)
 have hg2 := encL_get2 x y xs
 refine OkP.enter hE Tryz.func63 rfl (by decide +kernel) (by kernel_rfl) rfl rfl (Nat.le_of_ble_eq_true rfl) rfl ?_
 refine ⟨_, idxV (j := 0) hg rfl rfl rfl rfl, ?_⟩
 refine .inl ⟨_, _, SCallR.none h1 rfl rfl, ?_⟩
 refine ⟨_, idxV (j := 1) hg2 rfl rfl rfl rfl, ?_⟩
 refine .inr ⟨_, SCallP.none h rfl rfl, rfl, ?_⟩
 exact Wk.refl _
theorem both_no1 {g : FuncId} {c : Int} {b : Bool} (h1 : Ok E 35 [] [pM l, pE x] (.tup [pI 0, pB false]) []) (h2 : Ok E 35 [] [pM l, pE y] (.tup [pI c, pB b]) []) : Ok E 63 [] [pM l, pE ⟨k, n, nm, x :: y :: xs⟩, .c (.fn g)] (.tup [pI 0, pB false]) [] := by
 have hg := encL_get1 x (y :: xs)
 have hg2 := encL_get2 x y xs
 refine Ok.enter hE Tryz.func63 rfl (by decide +kernel) (by kernel_rfl) rfl rfl (Nat.le_of_ble_eq_true rfl) rfl ?_
 refine ⟨_, idxV (j := 0) hg rfl rfl rfl rfl, ?_⟩
 refine .inl ⟨_, _, SCallR.none h1 rfl rfl, ?_⟩
 refine ⟨_, idxV (j := 1) hg2 rfl rfl rfl rfl, ?_⟩
 refine .inl ⟨_, _, SCallR.none h2 rfl rfl, ?_⟩
 exact Ret.mk _ rfl rfl rfl
theorem both_no2 {g : FuncId} {a : Int} (h1 : Ok E 35 [] [pM l, pE x] (.tup [pI a, pB true]) []) (h2 : Ok E 35 [] [pM l, pE y] (.tup [pI 0, pB false]) []) : Ok E 63 [] [pM l, pE ⟨k, n, nm, x :: y :: xs⟩, .c (.fn g)] (.tup [pI 0, pB false]) [] := by
 have hg := encL_get1 x (y :: xs)
 have hg2 := encL_get2 x y xs
 refine Ok.enter hE Tryz.func63 rfl (by decide +kernel) (by kernel_rfl) rfl rfl (Nat.le_of_ble_eq_true rfl) rfl ?_
 refine ⟨_, idxV (j := 0) hg rfl rfl rfl rfl, ?_⟩
 refine .inl ⟨_, _, SCallR.none h1 rfl rfl, ?_⟩
 refine ⟨_, idxV (j := 1) hg2 rfl rfl rfl rfl, ?_⟩
 refine .inl ⟨_, _, SCallR.none h2 rfl rfl, ?_⟩
 exact Ret.mk _ rfl rfl rfl
theorem both_am {g : FuncId} {a b c : Int} (h1 : Ok E 35 [] [pM l, pE x] (.tup [pI a, pB true]) []) (h2 : Ok E 35 [] [pM l, pE y] (.tup [pI b, pB true]) []) (hf : Ok E g [] [pI a, pI b] (pI c) []) : Ok E 63 [] [pM l, pE ⟨k, n, nm, x :: y :: xs⟩, .c (.fn g)] (.tup [pI c, pB true]) [] := by
 have hg := encL_get1 x (y :: xs)
 have hg2 := encL_get2 x y xs
 refine Ok.enter hE Tryz.func63 rfl (by decide +kernel) (by kernel_rfl) rfl rfl (Nat.le_of_ble_eq_true rfl) rfl ?_
 refine ⟨_, idxV (j := 0) hg rfl rfl rfl rfl, ?_⟩
 refine .inl ⟨_, _, SCallR.none h1 rfl rfl, ?_⟩
 refine ⟨_, idxV (j := 1) hg2 rfl rfl rfl rfl, ?_⟩
 refine .inl ⟨_, _, SCallR.none h2 rfl rfl, ?_⟩
 refine .inl ⟨_, _, SCallR.none hf rfl rfl, ?_⟩
 exact Ret.mk _ rfl rfl rfl
def BoD (l : List Of) (z : Ex) (g : FuncId) (f : Int → Int → Int) (r s : Am) : Prop := match bothF f r s with
 | .er e => e ≠ 0 ∧ OkP E 63 [] [pM l, pE z, .c (.fn g)] (wr e)
 | q => Ok E 63 [] [pM l, pE z, .c (.fn g)] (.tup [pI (amN q), pB (amB q)]) []
theorem both_all {g : FuncId} {f : Int → Int → Int} (hx : EvD l x) (hy : EvD l y) (hf : ∀ a b, evalE l x = .am a → evalE l y = .am b → Ok E g [] [pI a, pI b] (pI (f a b)) []) : BoD l ⟨k, n, nm, x :: y :: xs⟩ g f (evalE l x) (evalE l y) := by
 unfold BoD
 cases h1 : evalE l x with
 | er e => exact ⟨(hx.er h1).1, both_er1 (hx.er h1).2⟩
 | no =>
  cases h2 : evalE l y with
  | er e => exact ⟨(hy.er h2).1, both_er2 (hx.no h1) (hy.er h2).2⟩
  | no => exact both_no1 (hx.no h1) (hy.no h2)
  | am b => exact both_no1 (hx.no h1) (hy.am h2)
 | am a =>
  cases h2 : evalE l y with
  | er e => exact ⟨(hy.er h2).1, both_er2 (hx.am h1) (hy.er h2).2⟩
  | no => exact both_no2 (hx.am h1) (hy.no h2)
  | am b => exact both_am (hx.am h1) (hy.am h2) (hf a b h1 h2)
end
end Go.Proofs.YtgpkppohfodhdaaGreatDoor.Va
namespace Go.Proofs.YtgpkppohfodhdaaGreatDoor.Va
open Go Go.RowKit Go.Proofs.YtgpkppohfodhdaaGreatDoor.Pm Go.Proofs.YtgpkppohfodhdaaGreatDoor.Pl
open Go.Proofs.YtgpkppohfodhdaaGreatDoor.Pr (minV wkTup)
set_option linter.unusedVariables false
set_option linter.unusedSimpArgs false
set_option maxHeartbeats 4000000
section
variable {l : List Of} {n : Int} {nm : ByteArray} {x y z : Ex}
theorem EvD.mk {x : Ex} {r : Am} (h : evalE l x = r) (hr : ∀ e, r ≠ .er e) (ho : Ok E 35 [] [pM l, pE x] (.tup [pI (amN r), pB (amB r)]) []) : EvD l x := by
 unfold EvD
 rw [h]
 cases r with
 | er e => exact absurd rfl (hr e)
 | no => exact ho
 | am a => exact ho
theorem EvD.mkE {x : Ex} {e : Int} (h : evalE l x = .er e) (he : e ≠ 0) (ho : OkP E 35 [] [pM l, pE x] (wr e)) : EvD l x := by
 unfold EvD
 rw [h]
 exact ⟨he, ho⟩
theorem rank_ne (P : List Int) (k : Nat) : ∀ e, rankF P k ≠ .er e := by
 intro e h
 unfold rankF at h
 split at h <;> cases h
theorem from_ne : ∀ (l : List Of) (nm : ByteArray) (e : Int), fromF nm l ≠ .er e
 | [], nm, e, h => by cases h
 | o :: l, nm, e, h => by
  unfold fromF at h
  split at h
  ·cases h
  ·exact from_ne l nm e h
theorem ok_leaf1 (hl : l.length ≤ 1000000) : EvD l ⟨1, n, nm, []⟩ := by
 have hR : Ok E 56 [] [pM l, pI 0] (.tup [pI (amN (rankF (prs l) 0)), pB (amB (rankF (prs l) 0))]) [] := rank_ok l 0 (by decide) hl
 refine EvD.mk ev1 (rank_ne _ _) ?_
 refine Ok.enter hE Tryz.func35 rfl (by decide +kernel) (by kernel_rfl) rfl rfl (Nat.le_of_ble_eq_true rfl) rfl ?_
 refine ⟨_, eqT rfl, ?_⟩
 refine ⟨_, CallR.mk1 hR rfl rfl, ?_⟩
 exact Ret.mk _ rfl rfl rfl
theorem ok_leaf2 (hl : l.length ≤ 1000000) : EvD l ⟨2, n, nm, []⟩ := by
 have hR : Ok E 56 [] [pM l, pI 1] (.tup [pI (amN (rankF (prs l) 1)), pB (amB (rankF (prs l) 1))]) [] := rank_ok l 1 (by decide) hl
 refine EvD.mk ev2 (rank_ne _ _) ?_
 refine Ok.enter hE Tryz.func35 rfl (by decide +kernel) (by kernel_rfl) rfl rfl (Nat.le_of_ble_eq_true rfl) rfl ?_
 refine ⟨_, eqN (by dsimp only; decide), ?_⟩
 refine ⟨_, eqT rfl, ?_⟩
 refine ⟨_, CallR.mk1 hR rfl rfl, ?_⟩
 exact Ret.mk _ rfl rfl rfl
theorem ok_leaf3 (hl : l.length ≤ 1000000) : EvD l ⟨3, n, nm, []⟩ := by
 have hR := from_ok l nm (by omega)
 refine EvD.mk ev3 (from_ne _ _) ?_
 refine Ok.enter hE Tryz.func35 rfl (by decide +kernel) (by kernel_rfl) rfl rfl (Nat.le_of_ble_eq_true rfl) rfl ?_
 refine ⟨_, eqN (by dsimp only; decide), ?_⟩
 refine ⟨_, eqN (by dsimp only; decide), ?_⟩
 refine ⟨_, eqT rfl, ?_⟩
 refine ⟨_, CallR.mk1 hR rfl rfl, ?_⟩
 exact Ret.mk _ rfl rfl rfl
theorem ok_leaf4 : EvD l ⟨4, n, nm, []⟩ := by
 refine EvD.mk ev4 (fun e h => by cases h) ?_
 refine Ok.enter hE Tryz.func35 rfl (by decide +kernel) (by kernel_rfl) rfl rfl (Nat.le_of_ble_eq_true rfl) rfl ?_
 refine ⟨_, eqN (by dsimp only; decide), ?_⟩
 refine ⟨_, eqN (by dsimp only; decide), ?_⟩
 refine ⟨_, eqN (by dsimp only; decide), ?_⟩
 refine ⟨_, eqN (by dsimp only; decide), ?_⟩
 refine ⟨_, eqN (by dsimp only; decide), ?_⟩
 refine ⟨_, eqN (by dsimp only; decide), ?_⟩
 refine ⟨_, eqN (by dsimp only; decide), ?_⟩
 refine ⟨_, eqN (by dsimp only; decide), ?_⟩
 refine ⟨_, eqN (by dsimp only; decide), ?_⟩
 exact Ret.mk _ rfl rfl rfl
theorem ok_kind5 (hx : EvD l x) (hb : AmR (evalE l x)) (n0 : 0 ≤ n) (n1 : n ≤ 1000000000000) : EvD l ⟨5, n, nm, [x]⟩ := by
 have hbx : (bxE 5 n nm [x]).all PV.closedB = true := rfl
 cases h1 : evalE l x with
 | er e =>
  obtain ⟨he, hp⟩ := hx.er h1
  have hL := less_er (k := 5) (n := n) (nm := nm) (xs := []) (g := 59) hbx hp
  refine EvD.mkE (by rw [ev5, h1]; rfl) he ?_
  refine OkP.enter hE Tryz.func35 rfl (by decide +kernel) (by kernel_rfl) rfl rfl (Nat.le_of_ble_eq_true rfl) rfl ?_
  refine ⟨_, eqN (by dsimp only; decide), ?_⟩
  refine ⟨_, eqN (by dsimp only; decide), ?_⟩
  refine ⟨_, eqN (by dsimp only; decide), ?_⟩
  refine ⟨_, eqT rfl, ?_⟩
  refine .inr (.inl ⟨_, SCallP.of [1] hL (Hand.of rfl rfl (by simp) rfl rfl) rfl, ?_⟩)
  exact Wk.refl _
 | no =>
  have hL := less_no (k := 5) (n := n) (nm := nm) (xs := []) (g := 59) hbx (hx.no h1)
  refine EvD.mk (r := .no) (by rw [ev5, h1]; rfl) (fun e h => by cases h) ?_
  refine Ok.enter hE Tryz.func35 rfl (by decide +kernel) (by kernel_rfl) rfl rfl (Nat.le_of_ble_eq_true rfl) rfl ?_
  refine ⟨_, eqN (by dsimp only; decide), ?_⟩
  refine ⟨_, eqN (by dsimp only; decide), ?_⟩
  refine ⟨_, eqN (by dsimp only; decide), ?_⟩
  refine ⟨_, eqT rfl, ?_⟩
  refine .inl ⟨_, _, SCallR.of [1] hL (Hand.of rfl rfl (by simp) rfl rfl) rfl rfl rfl, ?_⟩
  exact Ret.mk _ rfl rfl rfl
 | am a =>
  rw [h1] at hb
  have hby := by1_ok a 5 n nm [x]
  rcases subF_cases a n with ⟨c, hs, -, -⟩ | hs
  ·have hL := less_am (k := 5) (n := n) (nm := nm) (xs := []) hbx (hx.am h1) hby hb.1 hb.2 (by omega) (by omega) hs
   refine EvD.mk (r := .am c) (by rw [ev5, h1]; exact hs) (fun e h => by cases h) ?_
   refine Ok.enter hE Tryz.func35 rfl (by decide +kernel) (by kernel_rfl) rfl rfl (Nat.le_of_ble_eq_true rfl) rfl ?_
   refine ⟨_, eqN (by dsimp only; decide), ?_⟩
   refine ⟨_, eqN (by dsimp only; decide), ?_⟩
   refine ⟨_, eqN (by dsimp only; decide), ?_⟩
   refine ⟨_, eqT rfl, ?_⟩
   refine .inl ⟨_, _, SCallR.of [1] hL (Hand.of rfl rfl (by simp) rfl rfl) rfl rfl rfl, ?_⟩
   exact Ret.mk _ rfl rfl rfl
  ·have hL := less_sub (k := 5) (n := n) (nm := nm) (xs := []) hbx (hx.am h1) hby hb.1 hb.2 (by omega) (by omega) hs
   refine EvD.mkE (e := 10) (by rw [ev5, h1]; exact hs) (by decide) ?_
   refine OkP.enter hE Tryz.func35 rfl (by decide +kernel) (by kernel_rfl) rfl rfl (Nat.le_of_ble_eq_true rfl) rfl ?_
   refine ⟨_, eqN (by dsimp only; decide), ?_⟩
   refine ⟨_, eqN (by dsimp only; decide), ?_⟩
   refine ⟨_, eqN (by dsimp only; decide), ?_⟩
   refine ⟨_, eqT rfl, ?_⟩
   refine .inr (.inl ⟨_, SCallP.of [1] hL (Hand.of rfl rfl (by simp) rfl rfl) rfl, ?_⟩)
   exact Wk.refl _
theorem ok_kind6 (hx : EvD l x) (hb : AmR (evalE l x)) (n0 : 0 ≤ n) (n1 : n ≤ 100000) : EvD l ⟨6, n, nm, [x]⟩ := by
 have hbx : (bxE 6 n nm [x]).all PV.closedB = true := rfl
 cases h1 : evalE l x with
 | er e =>
  obtain ⟨he, hp⟩ := hx.er h1
  have hL := less_er (k := 6) (n := n) (nm := nm) (xs := []) (g := 60) hbx hp
  refine EvD.mkE (by rw [ev6, h1]; rfl) he ?_
  refine OkP.enter hE Tryz.func35 rfl (by decide +kernel) (by kernel_rfl) rfl rfl (Nat.le_of_ble_eq_true rfl) rfl ?_
  refine ⟨_, eqN (by dsimp only; decide), ?_⟩
  refine ⟨_, eqN (by dsimp only; decide), ?_⟩
  refine ⟨_, eqN (by dsimp only; decide), ?_⟩
  refine ⟨_, eqN (by dsimp only; decide), ?_⟩
  refine ⟨_, eqT rfl, ?_⟩
  refine .inr (.inl ⟨_, SCallP.of [1] hL (Hand.of rfl rfl (by simp) rfl rfl) rfl, ?_⟩)
  exact Wk.refl _
 | no =>
  have hL := less_no (k := 6) (n := n) (nm := nm) (xs := []) (g := 60) hbx (hx.no h1)
  refine EvD.mk (r := .no) (by rw [ev6, h1]; rfl) (fun e h => by cases h) ?_
  refine Ok.enter hE Tryz.func35 rfl (by decide +kernel) (by kernel_rfl) rfl rfl (Nat.le_of_ble_eq_true rfl) rfl ?_
  refine ⟨_, eqN (by dsimp only; decide), ?_⟩
  refine ⟨_, eqN (by dsimp only; decide), ?_⟩
  refine ⟨_, eqN (by dsimp only; decide), ?_⟩
  refine ⟨_, eqN (by dsimp only; decide), ?_⟩
  refine ⟨_, eqT rfl, ?_⟩
  refine .inl ⟨_, _, SCallR.of [1] hL (Hand.of rfl rfl (by simp) rfl rfl) rfl rfl rfl, ?_⟩
  exact Ret.mk _ rfl rfl rfl
 | am a =>
  rw [h1] at hb
  rcases partF_cases a n with ⟨b, hpt, b0, b1⟩ | hpt
  rotate_left
  ·have hL := less_by (k := 6) (n := n) (nm := nm) (xs := []) hbx (hx.am h1) (by2_pan (k := 6) nm [x] hb.1 hb.2 n0 n1 hpt)
   refine EvD.mkE (e := 10) (by rw [ev6, h1]; show (match partF a n with | .am b => subF a b | r => r) = _; rw [hpt]) (by decide) ?_
   refine OkP.enter hE Tryz.func35 rfl (by decide +kernel) (by kernel_rfl) rfl rfl (Nat.le_of_ble_eq_true rfl) rfl ?_
   refine ⟨_, eqN (by dsimp only; decide), ?_⟩
   refine ⟨_, eqN (by dsimp only; decide), ?_⟩
   refine ⟨_, eqN (by dsimp only; decide), ?_⟩
   refine ⟨_, eqN (by dsimp only; decide), ?_⟩
   refine ⟨_, eqT rfl, ?_⟩
   refine .inr (.inl ⟨_, SCallP.of [1] hL (Hand.of rfl rfl (by simp) rfl rfl) rfl, ?_⟩)
   exact Wk.refl _
  have hby := by2_ok (k := 6) nm [x] hb.1 hb.2 n0 n1 hpt
  rcases subF_cases a b with ⟨c, hs, -, -⟩ | hs
  ·have hL := less_am (k := 6) (n := n) (nm := nm) (xs := []) hbx (hx.am h1) hby hb.1 hb.2 (by omega) (by omega) hs
   refine EvD.mk (r := .am c) (by rw [ev6, h1]; show (match partF a n with | .am b => subF a b | r => r) = _; rw [hpt]; exact hs) (fun e h => by cases h) ?_
   refine Ok.enter hE Tryz.func35 rfl (by decide +kernel) (by kernel_rfl) rfl rfl (Nat.le_of_ble_eq_true rfl) rfl ?_
   refine ⟨_, eqN (by dsimp only; decide), ?_⟩
   refine ⟨_, eqN (by dsimp only; decide), ?_⟩
   refine ⟨_, eqN (by dsimp only; decide), ?_⟩
   refine ⟨_, eqN (by dsimp only; decide), ?_⟩
   refine ⟨_, eqT rfl, ?_⟩
   refine .inl ⟨_, _, SCallR.of [1] hL (Hand.of rfl rfl (by simp) rfl rfl) rfl rfl rfl, ?_⟩
   exact Ret.mk _ rfl rfl rfl
  ·have hL := less_sub (k := 6) (n := n) (nm := nm) (xs := []) hbx (hx.am h1) hby hb.1 hb.2 (by omega) (by omega) hs
   refine EvD.mkE (e := 10) (by rw [ev6, h1]; show (match partF a n with | .am b => subF a b | r => r) = _; rw [hpt]; exact hs) (by decide) ?_
   refine OkP.enter hE Tryz.func35 rfl (by decide +kernel) (by kernel_rfl) rfl rfl (Nat.le_of_ble_eq_true rfl) rfl ?_
   refine ⟨_, eqN (by dsimp only; decide), ?_⟩
   refine ⟨_, eqN (by dsimp only; decide), ?_⟩
   refine ⟨_, eqN (by dsimp only; decide), ?_⟩
   refine ⟨_, eqN (by dsimp only; decide), ?_⟩
   refine ⟨_, eqT rfl, ?_⟩
   refine .inr (.inl ⟨_, SCallP.of [1] hL (Hand.of rfl rfl (by simp) rfl rfl) rfl, ?_⟩)
   exact Wk.refl _
theorem ok_kind7 (hx : EvD l x) (hy : EvD l y) : EvD l ⟨7, n, nm, [x, y]⟩ := by
 have hB := both_all (k := 7) (n := n) (nm := nm) (xs := []) (g := 64) (f := min) hx hy (fun a b _ _ => of3_ok a b)
 unfold BoD at hB
 have e1 : evalE l ⟨7, n, nm, [x, y]⟩ = bothF min (evalE l x) (evalE l y) := ev7
 cases hr : bothF min (evalE l x) (evalE l y) with
 | er e =>
  rw [hr] at hB e1
  refine EvD.mkE e1 hB.1 ?_
  have hL := hB.2
  refine OkP.enter hE Tryz.func35 rfl (by decide +kernel) (by kernel_rfl) rfl rfl (Nat.le_of_ble_eq_true rfl) rfl ?_
  refine ⟨_, eqN (by dsimp only; decide), ?_⟩
  refine ⟨_, eqN (by dsimp only; decide), ?_⟩
  refine ⟨_, eqN (by dsimp only; decide), ?_⟩
  refine ⟨_, eqN (by dsimp only; decide), ?_⟩
  refine ⟨_, eqN (by dsimp only; decide), ?_⟩
  refine ⟨_, eqT rfl, ?_⟩
  refine .inr (.inl ⟨_, SCallP.none hL rfl rfl, ?_⟩)
  exact Wk.refl _
 | no =>
  rw [hr] at hB e1
  refine EvD.mk e1 (fun e h => by cases h) ?_
  have hL : Ok E 63 [] [pM l, pE ⟨7, n, nm, [x, y]⟩, .c (.fn 64)] (.tup [pI (amN (.no)), pB (amB (.no))]) [] := hB
  refine Ok.enter hE Tryz.func35 rfl (by decide +kernel) (by kernel_rfl) rfl rfl (Nat.le_of_ble_eq_true rfl) rfl ?_
  refine ⟨_, eqN (by dsimp only; decide), ?_⟩
  refine ⟨_, eqN (by dsimp only; decide), ?_⟩
  refine ⟨_, eqN (by dsimp only; decide), ?_⟩
  refine ⟨_, eqN (by dsimp only; decide), ?_⟩
  refine ⟨_, eqN (by dsimp only; decide), ?_⟩
  refine ⟨_, eqT rfl, ?_⟩
  refine .inl ⟨_, _, SCallR.none hL rfl rfl, ?_⟩
  exact Ret.mk _ rfl rfl rfl
 | am a =>
  rw [hr] at hB e1
  refine EvD.mk e1 (fun e h => by cases h) ?_
  have hL : Ok E 63 [] [pM l, pE ⟨7, n, nm, [x, y]⟩, .c (.fn 64)] (.tup [pI (amN (.am a)), pB (amB (.am a))]) [] := hB
  refine Ok.enter hE Tryz.func35 rfl (by decide +kernel) (by kernel_rfl) rfl rfl (Nat.le_of_ble_eq_true rfl) rfl ?_
  refine ⟨_, eqN (by dsimp only; decide), ?_⟩
  refine ⟨_, eqN (by dsimp only; decide), ?_⟩
  refine ⟨_, eqN (by dsimp only; decide), ?_⟩
  refine ⟨_, eqN (by dsimp only; decide), ?_⟩
  refine ⟨_, eqN (by dsimp only; decide), ?_⟩
  refine ⟨_, eqT rfl, ?_⟩
  refine .inl ⟨_, _, SCallR.none hL rfl rfl, ?_⟩
  exact Ret.mk _ rfl rfl rfl
theorem ok_kind8 (hx : EvD l x) (hy : EvD l y) : EvD l ⟨8, n, nm, [x, y]⟩ := by
 have hB := both_all (k := 8) (n := n) (nm := nm) (xs := []) (g := 65) (f := max) hx hy (fun a b _ _ => of4_ok a b)
 unfold BoD at hB
 have e1 : evalE l ⟨8, n, nm, [x, y]⟩ = bothF max (evalE l x) (evalE l y) := ev8
 cases hr : bothF max (evalE l x) (evalE l y) with
 | er e =>
  rw [hr] at hB e1
  refine EvD.mkE e1 hB.1 ?_
  have hL := hB.2
  refine OkP.enter hE Tryz.func35 rfl (by decide +kernel) (by kernel_rfl) rfl rfl (Nat.le_of_ble_eq_true rfl) rfl ?_
  refine ⟨_, eqN (by dsimp only; decide), ?_⟩
  refine ⟨_, eqN (by dsimp only; decide), ?_⟩
  refine ⟨_, eqN (by dsimp only; decide), ?_⟩
  refine ⟨_, eqN (by dsimp only; decide), ?_⟩
  refine ⟨_, eqN (by dsimp only; decide), ?_⟩
  refine ⟨_, eqN (by dsimp only; decide), ?_⟩
  refine ⟨_, eqT rfl, ?_⟩
  refine .inr (.inl ⟨_, SCallP.none hL rfl rfl, ?_⟩)
  exact Wk.refl _
 | no =>
  rw [hr] at hB e1
  refine EvD.mk e1 (fun e h => by cases h) ?_
  have hL : Ok E 63 [] [pM l, pE ⟨8, n, nm, [x, y]⟩, .c (.fn 65)] (.tup [pI (amN (.no)), pB (amB (.no))]) [] := hB
  refine Ok.enter hE Tryz.func35 rfl (by decide +kernel) (by kernel_rfl) rfl rfl (Nat.le_of_ble_eq_true rfl) rfl ?_
  refine ⟨_, eqN (by dsimp only; decide), ?_⟩
  refine ⟨_, eqN (by dsimp only; decide), ?_⟩
  refine ⟨_, eqN (by dsimp only; decide), ?_⟩
  refine ⟨_, eqN (by dsimp only; decide), ?_⟩
  refine ⟨_, eqN (by dsimp only; decide), ?_⟩
  refine ⟨_, eqN (by dsimp only; decide), ?_⟩
  refine ⟨_, eqT rfl, ?_⟩
  refine .inl ⟨_, _, SCallR.none hL rfl rfl, ?_⟩
  exact Ret.mk _ rfl rfl rfl
 | am a =>
  rw [hr] at hB e1
  refine EvD.mk e1 (fun e h => by cases h) ?_
  have hL : Ok E 63 [] [pM l, pE ⟨8, n, nm, [x, y]⟩, .c (.fn 65)] (.tup [pI (amN (.am a)), pB (amB (.am a))]) [] := hB
  refine Ok.enter hE Tryz.func35 rfl (by decide +kernel) (by kernel_rfl) rfl rfl (Nat.le_of_ble_eq_true rfl) rfl ?_
  refine ⟨_, eqN (by dsimp only; decide), ?_⟩
  refine ⟨_, eqN (by dsimp only; decide), ?_⟩
  refine ⟨_, eqN (by dsimp only; decide), ?_⟩
  refine ⟨_, eqN (by dsimp only; decide), ?_⟩
  refine ⟨_, eqN (by dsimp only; decide), ?_⟩
  refine ⟨_, eqN (by dsimp only; decide), ?_⟩
  refine ⟨_, eqT rfl, ?_⟩
  refine .inl ⟨_, _, SCallR.none hL rfl rfl, ?_⟩
  exact Ret.mk _ rfl rfl rfl
theorem ok_kind9 (hx : EvD l x) (hy : EvD l y) : EvD l ⟨9, n, nm, [x, y]⟩ := by
 have hg := encL_get1 x [y]
 have hg2 := encL_get2 x y []
 cases h1 : evalE l x with
 | er e =>
  obtain ⟨he, hp⟩ := hx.er h1
  refine EvD.mkE (by rw [ev9, h1]) he ?_
  refine OkP.enter hE Tryz.func35 rfl (by decide +kernel) (by kernel_rfl) rfl rfl (Nat.le_of_ble_eq_true rfl) rfl ?_
  refine ⟨_, eqN (by dsimp only; decide), ?_⟩
  refine ⟨_, eqN (by dsimp only; decide), ?_⟩
  refine ⟨_, eqN (by dsimp only; decide), ?_⟩
  refine ⟨_, eqN (by dsimp only; decide), ?_⟩
  refine ⟨_, eqN (by dsimp only; decide), ?_⟩
  refine ⟨_, eqN (by dsimp only; decide), ?_⟩
  refine ⟨_, eqN (by dsimp only; decide), ?_⟩
  refine ⟨_, eqT rfl, ?_⟩
  refine ⟨_, idxV (j := 0) hg rfl rfl rfl rfl, ?_⟩
  refine .inr ⟨_, SCallP.none hp rfl rfl, rfl, ?_⟩
  exact Wk.refl _
 | am a =>
  have ha := hx.am h1
  refine EvD.mk (r := .am a) (by rw [ev9, h1]) (fun e h => by cases h) ?_
  refine Ok.enter hE Tryz.func35 rfl (by decide +kernel) (by kernel_rfl) rfl rfl (Nat.le_of_ble_eq_true rfl) rfl ?_
  refine ⟨_, eqN (by dsimp only; decide), ?_⟩
  refine ⟨_, eqN (by dsimp only; decide), ?_⟩
  refine ⟨_, eqN (by dsimp only; decide), ?_⟩
  refine ⟨_, eqN (by dsimp only; decide), ?_⟩
  refine ⟨_, eqN (by dsimp only; decide), ?_⟩
  refine ⟨_, eqN (by dsimp only; decide), ?_⟩
  refine ⟨_, eqN (by dsimp only; decide), ?_⟩
  refine ⟨_, eqT rfl, ?_⟩
  refine ⟨_, idxV (j := 0) hg rfl rfl rfl rfl, ?_⟩
  refine .inl ⟨_, _, SCallR.none ha rfl rfl, ?_⟩
  exact Ret.mk _ rfl rfl rfl
 | no =>
  have ha := hx.no h1
  have e1 : evalE l ⟨9, n, nm, [x, y]⟩ = evalE l y := by rw [ev9, h1]
  cases h2 : evalE l y with
  | er e =>
   obtain ⟨he, hp⟩ := hy.er h2
   refine EvD.mkE (by rw [e1, h2]) he ?_
   refine OkP.enter hE Tryz.func35 rfl (by decide +kernel) (by kernel_rfl) rfl rfl (Nat.le_of_ble_eq_true rfl) rfl ?_
   refine ⟨_, eqN (by dsimp only; decide), ?_⟩
   refine ⟨_, eqN (by dsimp only; decide), ?_⟩
   refine ⟨_, eqN (by dsimp only; decide), ?_⟩
   refine ⟨_, eqN (by dsimp only; decide), ?_⟩
   refine ⟨_, eqN (by dsimp only; decide), ?_⟩
   refine ⟨_, eqN (by dsimp only; decide), ?_⟩
   refine ⟨_, eqN (by dsimp only; decide), ?_⟩
   refine ⟨_, eqT rfl, ?_⟩
   refine ⟨_, idxV (j := 0) hg rfl rfl rfl rfl, ?_⟩
   refine .inl ⟨_, _, SCallR.none ha rfl rfl, ?_⟩
   refine ⟨_, idxV (j := 1) hg2 rfl rfl rfl rfl, ?_⟩
   refine .inr ⟨_, SCallP.none hp rfl rfl, rfl, ?_⟩
   exact Wk.refl _
  | no =>
   have hb := hy.no h2
   refine EvD.mk (r := .no) (by rw [e1, h2]) (fun e h => by cases h) ?_
   refine Ok.enter hE Tryz.func35 rfl (by decide +kernel) (by kernel_rfl) rfl rfl (Nat.le_of_ble_eq_true rfl) rfl ?_
   refine ⟨_, eqN (by dsimp only; decide), ?_⟩
   refine ⟨_, eqN (by dsimp only; decide), ?_⟩
   refine ⟨_, eqN (by dsimp only; decide), ?_⟩
   refine ⟨_, eqN (by dsimp only; decide), ?_⟩
   refine ⟨_, eqN (by dsimp only; decide), ?_⟩
   refine ⟨_, eqN (by dsimp only; decide), ?_⟩
   refine ⟨_, eqN (by dsimp only; decide), ?_⟩
   refine ⟨_, eqT rfl, ?_⟩
   refine ⟨_, idxV (j := 0) hg rfl rfl rfl rfl, ?_⟩
   refine .inl ⟨_, _, SCallR.none ha rfl rfl, ?_⟩
   refine ⟨_, idxV (j := 1) hg2 rfl rfl rfl rfl, ?_⟩
   refine .inl ⟨_, _, SCallR.none hb rfl rfl, ?_⟩
   exact Ret.mk _ rfl rfl rfl
  | am b =>
   have hb := hy.am h2
   refine EvD.mk (r := .am b) (by rw [e1, h2]) (fun e h => by cases h) ?_
   refine Ok.enter hE Tryz.func35 rfl (by decide +kernel) (by kernel_rfl) rfl rfl (Nat.le_of_ble_eq_true rfl) rfl ?_
   refine ⟨_, eqN (by dsimp only; decide), ?_⟩
   refine ⟨_, eqN (by dsimp only; decide), ?_⟩
   refine ⟨_, eqN (by dsimp only; decide), ?_⟩
   refine ⟨_, eqN (by dsimp only; decide), ?_⟩
   refine ⟨_, eqN (by dsimp only; decide), ?_⟩
   refine ⟨_, eqN (by dsimp only; decide), ?_⟩
   refine ⟨_, eqN (by dsimp only; decide), ?_⟩
   refine ⟨_, eqT rfl, ?_⟩
   refine ⟨_, idxV (j := 0) hg rfl rfl rfl rfl, ?_⟩
   refine .inl ⟨_, _, SCallR.none ha rfl rfl, ?_⟩
   refine ⟨_, idxV (j := 1) hg2 rfl rfl rfl rfl, ?_⟩
   refine .inl ⟨_, _, SCallR.none hb rfl rfl, ?_⟩
   exact Ret.mk _ rfl rfl rfl
theorem CdD.er {x : Ex} {e : Int} (h : CdD l x) (he : condE l x = .er e) : e ≠ 0 ∧ OkP E 66 [] [pM l, pE x] (wr e) := by
 unfold CdD at h; rw [he] at h; exact h
theorem CdD.is {x : Ex} {b : Bool} (h : CdD l x) (he : condE l x = .is b) : Ok E 66 [] [pM l, pE x] (pB b) [] := by
 unfold CdD at h; rw [he] at h; exact h
theorem ok_kind10 (hx : CdD l x) (hy : EvD l y) (hz : EvD l z) : EvD l ⟨10, n, nm, [x, y, z]⟩ := by
 have hg := encL_get1 x [y, z]
 have hg2 := encL_get2 x y [z]
 have hg3 := encL_get3 x y z []
 cases h1 : condE l x with
 | er e =>
  obtain ⟨he, hp⟩ := hx.er h1
  refine EvD.mkE (by rw [ev10, h1]) he ?_
  refine OkP.enter hE Tryz.func35 rfl (by decide +kernel) (by kernel_rfl) rfl rfl (Nat.le_of_ble_eq_true rfl) rfl ?_
  refine ⟨_, eqN (by dsimp only; decide), ?_⟩
  refine ⟨_, eqN (by dsimp only; decide), ?_⟩
  refine ⟨_, eqN (by dsimp only; decide), ?_⟩
  refine ⟨_, eqN (by dsimp only; decide), ?_⟩
  refine ⟨_, eqN (by dsimp only; decide), ?_⟩
  refine ⟨_, eqN (by dsimp only; decide), ?_⟩
  refine ⟨_, eqN (by dsimp only; decide), ?_⟩
  refine ⟨_, eqN (by dsimp only; decide), ?_⟩
  refine ⟨_, eqT rfl, ?_⟩
  refine ⟨_, idxV (j := 0) hg rfl rfl rfl rfl, ?_⟩
  refine .inr ⟨_, SCallP.none hp rfl rfl, rfl, ?_⟩
  exact Wk.refl _
 | is b =>
  have ha := hx.is h1
  cases b with
  | true =>
   have e1 : evalE l ⟨10, n, nm, [x, y, z]⟩ = evalE l y := by rw [ev10, h1]
   cases h2 : evalE l y with
   | er e =>
    obtain ⟨he, hp⟩ := hy.er h2
    refine EvD.mkE (by rw [e1, h2]) he ?_
    refine OkP.enter hE Tryz.func35 rfl (by decide +kernel) (by kernel_rfl) rfl rfl (Nat.le_of_ble_eq_true rfl) rfl ?_
    refine ⟨_, eqN (by dsimp only; decide), ?_⟩
    refine ⟨_, eqN (by dsimp only; decide), ?_⟩
    refine ⟨_, eqN (by dsimp only; decide), ?_⟩
    refine ⟨_, eqN (by dsimp only; decide), ?_⟩
    refine ⟨_, eqN (by dsimp only; decide), ?_⟩
    refine ⟨_, eqN (by dsimp only; decide), ?_⟩
    refine ⟨_, eqN (by dsimp only; decide), ?_⟩
    refine ⟨_, eqN (by dsimp only; decide), ?_⟩
    refine ⟨_, eqT rfl, ?_⟩
    refine ⟨_, idxV (j := 0) hg rfl rfl rfl rfl, ?_⟩
    refine .inl ⟨_, _, SCallR.none ha rfl rfl, ?_⟩
    refine ⟨_, idxV (j := 1) hg2 rfl rfl rfl rfl, ?_⟩
    refine .inr ⟨_, SCallP.none hp rfl rfl, rfl, ?_⟩
    exact Wk.refl _
   | no =>
    have hb := hy.no h2
    refine EvD.mk (r := .no) (by rw [e1, h2]) (fun e h => by cases h) ?_
    refine Ok.enter hE Tryz.func35 rfl (by decide +kernel) (by kernel_rfl) rfl rfl (Nat.le_of_ble_eq_true rfl) rfl ?_
    refine ⟨_, eqN (by dsimp only; decide), ?_⟩
    refine ⟨_, eqN (by dsimp only; decide), ?_⟩
    refine ⟨_, eqN (by dsimp only; decide), ?_⟩
    refine ⟨_, eqN (by dsimp only; decide), ?_⟩
    refine ⟨_, eqN (by dsimp only; decide), ?_⟩
    refine ⟨_, eqN (by dsimp only; decide), ?_⟩
    refine ⟨_, eqN (by dsimp only; decide), ?_⟩
    refine ⟨_, eqN (by dsimp only; decide), ?_⟩
    refine ⟨_, eqT rfl, ?_⟩
    refine ⟨_, idxV (j := 0) hg rfl rfl rfl rfl, ?_⟩
    refine .inl ⟨_, _, SCallR.none ha rfl rfl, ?_⟩
    refine ⟨_, idxV (j := 1) hg2 rfl rfl rfl rfl, ?_⟩
    refine .inl ⟨_, _, SCallR.none hb rfl rfl, ?_⟩
    exact Ret.mk _ rfl rfl rfl
   | am a =>
    have hb := hy.am h2
    refine EvD.mk (r := .am a) (by rw [e1, h2]) (fun e h => by cases h) ?_
    refine Ok.enter hE Tryz.func35 rfl (by decide +kernel) (by kernel_rfl) rfl rfl (Nat.le_of_ble_eq_true rfl) rfl ?_
    refine ⟨_, eqN (by dsimp only; decide), ?_⟩
    refine ⟨_, eqN (by dsimp only; decide), ?_⟩
    refine ⟨_, eqN (by dsimp only; decide), ?_⟩
    refine ⟨_, eqN (by dsimp only; decide), ?_⟩
    refine ⟨_, eqN (by dsimp only; decide), ?_⟩
    refine ⟨_, eqN (by dsimp only; decide), ?_⟩
    refine ⟨_, eqN (by dsimp only; decide), ?_⟩
    refine ⟨_, eqN (by dsimp only; decide), ?_⟩
    refine ⟨_, eqT rfl, ?_⟩
    refine ⟨_, idxV (j := 0) hg rfl rfl rfl rfl, ?_⟩
    refine .inl ⟨_, _, SCallR.none ha rfl rfl, ?_⟩
    refine ⟨_, idxV (j := 1) hg2 rfl rfl rfl rfl, ?_⟩
    refine .inl ⟨_, _, SCallR.none hb rfl rfl, ?_⟩
    exact Ret.mk _ rfl rfl rfl
  | false =>
   have e1 : evalE l ⟨10, n, nm, [x, y, z]⟩ = evalE l z := by rw [ev10, h1]
   cases h2 : evalE l z with
   | er e =>
    obtain ⟨he, hp⟩ := hz.er h2
    refine EvD.mkE (by rw [e1, h2]) he ?_
    refine OkP.enter hE Tryz.func35 rfl (by decide +kernel) (by kernel_rfl) rfl rfl (Nat.le_of_ble_eq_true rfl) rfl ?_
    refine ⟨_, eqN (by dsimp only; decide), ?_⟩
    refine ⟨_, eqN (by dsimp only; decide), ?_⟩
    refine ⟨_, eqN (by dsimp only; decide), ?_⟩
    refine ⟨_, eqN (by dsimp only; decide), ?_⟩
    refine ⟨_, eqN (by dsimp only; decide), ?_⟩
    refine ⟨_, eqN (by dsimp only; decide), ?_⟩
    refine ⟨_, eqN (by dsimp only; decide), ?_⟩
    refine ⟨_, eqN (by dsimp only; decide), ?_⟩
    refine ⟨_, eqT rfl, ?_⟩
    refine ⟨_, idxV (j := 0) hg rfl rfl rfl rfl, ?_⟩
    refine .inl ⟨_, _, SCallR.none ha rfl rfl, ?_⟩
    refine ⟨_, idxV (j := 2) hg3 rfl rfl rfl rfl, ?_⟩
    refine .inr ⟨_, SCallP.none hp rfl rfl, rfl, ?_⟩
    exact Wk.refl _
   | no =>
    have hb := hz.no h2
    refine EvD.mk (r := .no) (by rw [e1, h2]) (fun e h => by cases h) ?_
    refine Ok.enter hE Tryz.func35 rfl (by decide +kernel) (by kernel_rfl) rfl rfl (Nat.le_of_ble_eq_true rfl) rfl ?_
    refine ⟨_, eqN (by dsimp only; decide), ?_⟩
    refine ⟨_, eqN (by dsimp only; decide), ?_⟩
    refine ⟨_, eqN (by dsimp only; decide), ?_⟩
    refine ⟨_, eqN (by dsimp only; decide), ?_⟩
    refine ⟨_, eqN (by dsimp only; decide), ?_⟩
    refine ⟨_, eqN (by dsimp only; decide), ?_⟩
    refine ⟨_, eqN (by dsimp only; decide), ?_⟩
    refine ⟨_, eqN (by dsimp only; decide), ?_⟩
    refine ⟨_, eqT rfl, ?_⟩
    refine ⟨_, idxV (j := 0) hg rfl rfl rfl rfl, ?_⟩
    refine .inl ⟨_, _, SCallR.none ha rfl rfl, ?_⟩
    refine ⟨_, idxV (j := 2) hg3 rfl rfl rfl rfl, ?_⟩
    refine .inl ⟨_, _, SCallR.none hb rfl rfl, ?_⟩
    exact Ret.mk _ rfl rfl rfl
   | am a =>
    have hb := hz.am h2
    refine EvD.mk (r := .am a) (by rw [e1, h2]) (fun e h => by cases h) ?_
    refine Ok.enter hE Tryz.func35 rfl (by decide +kernel) (by kernel_rfl) rfl rfl (Nat.le_of_ble_eq_true rfl) rfl ?_
    refine ⟨_, eqN (by dsimp only; decide), ?_⟩
    refine ⟨_, eqN (by dsimp only; decide), ?_⟩
    refine ⟨_, eqN (by dsimp only; decide), ?_⟩
    refine ⟨_, eqN (by dsimp only; decide), ?_⟩
    refine ⟨_, eqN (by dsimp only; decide), ?_⟩
    refine ⟨_, eqN (by dsimp only; decide), ?_⟩
    refine ⟨_, eqN (by dsimp only; decide), ?_⟩
    refine ⟨_, eqN (by dsimp only; decide), ?_⟩
    refine ⟨_, eqT rfl, ?_⟩
    refine ⟨_, idxV (j := 0) hg rfl rfl rfl rfl, ?_⟩
    refine .inl ⟨_, _, SCallR.none ha rfl rfl, ?_⟩
    refine ⟨_, idxV (j := 2) hg3 rfl rfl rfl rfl, ?_⟩
    refine .inl ⟨_, _, SCallR.none hb rfl rfl, ?_⟩
    exact Ret.mk _ rfl rfl rfl
theorem ok_more : CdD l ⟨11, n, nm, []⟩ := by
 have hel := rowO_len l
 unfold CdD
 rw [cd11]
 show Ok E _ [] [pM l, pE ⟨11, n, nm, []⟩] (pB (decide (n < l.length))) []
 refine Ok.enter hE Tryz.func66 rfl (by decide +kernel) (by kernel_rfl) rfl rfl (Nat.le_of_ble_eq_true rfl) rfl ?_
 refine ⟨_, eqT rfl, ?_⟩
 refine ⟨_, gtV (c := decide (n < l.length)) (by rw [hel]), ?_⟩
 exact Ret.mk _ rfl rfl rfl
theorem ok_above (hx : EvD l x) (hy : EvD l y) (rx : AmR (evalE l x)) (ry : AmR (evalE l y)) : CdD l ⟨12, n, nm, [x, y]⟩ := by
 have hB := both_all (k := 12) (n := n) (nm := nm) (xs := []) (g := 111) (f := fun a b => min (max (a - b) 0) 1) hx hy (fun a b ha hb => by
  rw [ha] at rx
  rw [hb] at ry
  exact ofC_ok a b rx.1 rx.2 ry.1 ry.2)
 unfold BoD at hB
 unfold CdD
 rw [cd12]
 have er : ∀ e, bothF (fun a b => min (max (a - b) 0) 1) (evalE l x) (evalE l y) = .er e → aboveF (evalE l x) (evalE l y) = .er e := by
  intro e h
  cases h1 : evalE l x <;> cases h2 : evalE l y <;> rw [h1, h2] at h <;> first | (injection h with h; subst h; rfl) | cases h
 have no : bothF (fun a b => min (max (a - b) 0) 1) (evalE l x) (evalE l y) = .no → aboveF (evalE l x) (evalE l y) = .is false := by
  intro h
  cases h1 : evalE l x <;> cases h2 : evalE l y <;> rw [h1, h2] at h <;> first | rfl | cases h
 have am : ∀ c, bothF (fun a b => min (max (a - b) 0) 1) (evalE l x) (evalE l y) = .am c → aboveF (evalE l x) (evalE l y) = .is (decide (c > 0)) := by
  intro c h
  cases h1 : evalE l x <;> cases h2 : evalE l y <;> rw [h1, h2] at h <;> first | (injection h with h; subst h; exact congrArg Cd.is (decide_eq_decide.2 (by dsimp only; omega))) | cases h
 cases hr : bothF (fun a b => min (max (a - b) 0) 1) (evalE l x) (evalE l y) with
 | er e =>
  rw [hr] at hB
  rw [er e hr]
  refine ⟨hB.1, ?_⟩
  have hL := hB.2
  refine OkP.enter hE Tryz.func66 rfl (by decide +kernel) (by kernel_rfl) rfl rfl (Nat.le_of_ble_eq_true rfl) rfl ?_
  refine ⟨_, eqN (by dsimp only; decide), ?_⟩
  refine .inr (.inl ⟨_, SCallP.none hL rfl rfl, ?_⟩)
  exact Wk.refl _
 | no =>
  rw [hr] at hB
  rw [no hr]
  have hL : Ok E 63 [] [pM l, pE ⟨12, n, nm, [x, y]⟩, .c (.fn 111)] (.tup [pI 0, pB false]) [] := hB
  show Ok E _ [] [pM l, pE ⟨12, n, nm, [x, y]⟩] (pB false) []
  refine Ok.enter hE Tryz.func66 rfl (by decide +kernel) (by kernel_rfl) rfl rfl (Nat.le_of_ble_eq_true rfl) rfl ?_
  refine ⟨_, eqN (by dsimp only; decide), ?_⟩
  refine .inl ⟨_, _, SCallR.none hL rfl rfl, ?_⟩
  exact Ret.mk _ rfl rfl rfl
 | am c =>
  rw [hr] at hB
  rw [am c hr]
  have hL : Ok E 63 [] [pM l, pE ⟨12, n, nm, [x, y]⟩, .c (.fn 111)] (.tup [pI c, pB true]) [] := hB
  show Ok E _ [] [pM l, pE ⟨12, n, nm, [x, y]⟩] (pB (decide (c > 0))) []
  refine Ok.enter hE Tryz.func66 rfl (by decide +kernel) (by kernel_rfl) rfl rfl (Nat.le_of_ble_eq_true rfl) rfl ?_
  refine ⟨_, eqN (by dsimp only; decide), ?_⟩
  refine .inl ⟨_, _, SCallR.none hL rfl rfl, ?_⟩
  refine ⟨_, gtV rfl, ?_⟩
  exact Ret.mk _ rfl rfl rfl
end
theorem eval_all {l : List Of} (hr : rightO l = true) : ∀ d : Nat, (∀ x, isFine (d : Int) false x = true → EvD l x) ∧ ∀ x, isFine (d : Int) true x = true → CdD l x
 | 0 => ⟨fun ⟨k, n, nm, xs⟩ h => by have := (fine_kind h).1; omega, fun ⟨k, n, nm, xs⟩ h => by have := (fine_kind h).1; omega⟩
 | d + 1 => by
  obtain ⟨ihe, ihc⟩ := eval_all hr d
  have hl : l.length ≤ 1000000 := by have := (right_iff.1 hr).2.1; omega
  constructor
  ·rintro ⟨k, n, nm, xs⟩ h
   obtain ⟨-, n0, n1, hk⟩ := fine_kind h
   rw [show ((d + 1 : Nat) : Int) - 1 = (d : Int) by omega] at hk
   rcases hk with ⟨-, hk, rfl⟩ | ⟨-, hk, x, rfl, hx⟩ | ⟨-, hk, x, y, rfl, hx, hy⟩ | ⟨-, rfl, x, y, z, rfl, hx, hy, hz⟩ | ⟨hc, -⟩ | ⟨hc, -⟩
   ·rcases hk with rfl | rfl | rfl | rfl
    ·exact ok_leaf1 hl
    ·exact ok_leaf2 hl
    ·exact ok_leaf3 hl
    ·exact ok_leaf4
   ·rcases hk with rfl | ⟨rfl, hn⟩
    ·exact ok_kind5 (ihe x hx) (eval_r hr d x hx) n0 n1
    ·exact ok_kind6 (ihe x hx) (eval_r hr d x hx) n0 hn
   ·rcases hk with rfl | rfl | rfl
    ·exact ok_kind7 (ihe x hx) (ihe y hy)
    ·exact ok_kind8 (ihe x hx) (ihe y hy)
    ·exact ok_kind9 (ihe x hx) (ihe y hy)
   ·exact ok_kind10 (ihc x hx) (ihe y hy) (ihe z hz)
   ·cases hc
   ·cases hc
  ·rintro ⟨k, n, nm, xs⟩ h
   obtain ⟨-, n0, n1, hk⟩ := fine_kind h
   rw [show ((d + 1 : Nat) : Int) - 1 = (d : Int) by omega] at hk
   rcases hk with ⟨hc, -⟩ | ⟨hc, -⟩ | ⟨hc, -⟩ | ⟨hc, -⟩ | ⟨-, rfl, rfl⟩ | ⟨-, rfl, x, y, rfl, hx, hy⟩
   ·cases hc
   ·cases hc
   ·cases hc
   ·cases hc
   ·exact ok_more
   ·exact ok_above (ihe x hx) (ihe y hy) (eval_r hr d x hx) (eval_r hr d y hy)
end Go.Proofs.YtgpkppohfodhdaaGreatDoor.Va
namespace Go.Proofs.YtgpkppohfodhdaaGreatDoor.Va
open Go Go.RowKit Go.Proofs.YtgpkppohfodhdaaGreatDoor.Pm Go.Proofs.YtgpkppohfodhdaaGreatDoor.Pl Go.Sort
open Go.Proofs.YtgpkppohfodhdaaGreatDoor.Pr (minV wkTup)
set_option linter.unusedVariables false
set_option linter.unusedSimpArgs false
set_option maxHeartbeats 4000000
set_option maxRecDepth 8000
def nK (N : St → Prop) : PEx → St → Prop
 | .normal, s => N s
 | _, _ => False
theorem hand_seq {E : Env} (hE : EnvOK E) {B : Base} {n : Nat} {c rest : Code} (hchk : chkC E.pt n c = true) {N : St → Prop} {s : St} {a : Act} {w : World} {Q : Exit → Act → World → Prop} (h : wpC E c (nK N) s) (S : Sim E B none n s a w) (hN : ∀ s a w, N s → Sim E B none n s a w → rest.wp E.P Q a w) : (c.seq rest).wp E.P Q a w := by
 refine wp_seq (wp_mono (code_sound hE c hchk _ s a w h S) fun e a w q => ?_)
 cases e with
 | normal => obtain ⟨s', hk, S'⟩ := q; exact hN s' a w hk S'
 | exit id => obtain ⟨s', hk, S'⟩ := q; exact hk.elim
 | ret => obtain ⟨s', hk, S'⟩ := q; exact hk.elim
 | goto l => exact q.elim
 | panic ch => obtain ⟨-, p, v, -, -, s, h, -⟩ := q; exact h.elim
 | outgrown => exact q.elim
theorem row_keep {w w' : World} {ok : Nat → Nat → Prop} {g : Nat} (hg : w.grownBy w' (some g)) (hints : ∀ o, ok g o → ∃ z, w.cell? ⟨g, o, none⟩ = some (.int .i64 z)) (hok : ∀ b o, ok b o → b < w.heap.size) {v : Value} {l : List Of} (h : RepC w ok v (.row (rowO l))) : RepC w' ok v (.row (rowO l)) := by
 cases h with
 | row A len cap _ sz vs hl hcap hnil hpos hsz hA hh =>
  have inner : ∀ (i : Nat) (x : List CV) (j : Nat) (c : CV), (rowO l)[i]? = some x → x[j]? = some c → RepC w' ok (vs (i * sz + j)) c := by
   intro i x j c hx hc
   have hr := hh i x j c hx hc
   unfold rowO at hx
   rw [List.getElem?_map] at hx
   cases ho : l[i]? with
   | none => rw [ho] at hx; cases hx
   | some o =>
    rw [ho] at hx
    have hx : some (cO o) = some x := hx
    injection hx with hx
    subst hx
    match j, hc with
    | 0, hc =>
     have hc : some (CV.str o.s) = some c := hc
     injection hc with hc
     subst hc
     generalize vs (i * sz + 0) = u at hr ⊢
     cases hr
     exact .str _
    | 1, hc =>
     have hc : some (CV.int .i64 o.p) = some c := hc
     injection hc with hc
     subst hc
     generalize vs (i * sz + 1) = u at hr ⊢
     cases hr
     exact .int _ _
    | j + 2, hc => cases hc
  refine .row A len cap _ sz vs hl hcap hnil hpos hsz (fun i hi => ?_) inner
  obtain ⟨a, ha, hk, hc⟩ := hA i hi
  refine ⟨a, ha, hk, ?_⟩
  have hlen : 0 < len := by
   rcases Nat.eq_zero_or_pos len with h | h
   ·rw [h] at hi; simp at hi
   ·exact h
  have hne : a.block ≠ g := by
   intro e
   obtain ⟨a0, ha0, hk0, hc0⟩ := hA 0 (Nat.mul_pos hlen hpos)
   rw [ha] at ha0
   injection ha0 with ha0
   subst ha0
   rw [rowO_len] at hl
   obtain ⟨o, ho⟩ : ∃ o, l[0]? = some o := ⟨_, List.getElem?_eq_getElem (by omega)⟩
   have hs := hh 0 _ 0 (.str o.s) (rowO_get ho) rfl
   rw [show 0 * sz + 0 = 0 by omega] at hs
   generalize hv0 : vs 0 = u at hs hc0
   cases hs
   rw [e] at hk0
   obtain ⟨z, hz⟩ := hints _ hk0
   have e2 := add_plain' hc0
   rw [e2, e, hz] at hc0
   cases hc0
  have e1 := add_plain' hc
  rw [e1] at hc ⊢
  have hb := hg.block a.block (hok _ _ hk) (by simpa using hne)
  rw [← hc]
  exact World.cell?_of_block hb
theorem srt_merge (l : List Int) : l.mergeSort (fun x y => decide (x ≤ y)) = srt l := by
 refine (srt_eq ?_ (List.mergeSort_perm _ _)).symm
 have := List.pairwise_mergeSort (le := fun x y => decide (x ≤ y)) (fun a b c h1 h2 => by simp at *; omega) (fun a b => by simp; omega) l
 exact this.imp fun h => of_decide_eq_true h
theorem addr0 (g i : Nat) : (⟨g, 0, none⟩ : Addr).add i = ⟨g, i, none⟩ := by unfold Addr.add; split <;> simp_all
theorem sim_sorted {B : Base} {D : Option (FuncId × List AV)} {n : Nat} {l : List Of} {ps : List Int} {sl : Nat → PV} {a : Act} {w : World} (hD : D = none) (hB : B.m0 = []) (hps : ps ≠ []) (h2 : sl 2 = .ptr 0 0) (h3 : sl 3 = .ptr 1 0) {t : Nat} (ht : sl t = .orow (encN ps) 0)
  (S : Sim E B D n ⟨sl, [[.c .nil, .c .nil], [.c (.row (rowO l)), .orow (encN ps) 0]], [(ps.length, 3)]⟩ a w) :
  ∃ g cap, a.tmps.getD t undef = .slice (some ⟨g, 0, none⟩) ps.length cap ∧ Sort.Holds (Value.int .i64) w g 0 ps.toArray ∧ g < w.heap.size ∧
   ∀ (k : Nat) (os : Array Obj), Sim E B D n ⟨setAll (fun _ => .undef) [(2, .ptr 0 0), (3, .ptr 1 0)], [[.c .nil, .c .nil], [.c (.row (rowO l)), .c (.row (encN (srt ps)))]], []⟩ a (grow (putRow (Value.int .i64) (Sort.ahead w k) g 0 (srt ps).toArray) os) := by
 obtain ⟨m, tk, ok, M, hT, hsz, hs, hdf, hm0, hok, hall, hwf⟩ := S
 dsimp only at M hT hs hall
 obtain ⟨r, htk, hrl, hre⟩ : ∃ r, tk = [r] ∧ r.len = ps.length ∧ r.e = 3 := by
  cases tk with
  | nil => cases hT
  | cons r t =>
   cases t with
   | cons r2 t => rw [List.map_cons, List.map_cons, List.cons.injEq] at hT; cases hT.2
   | nil =>
    rw [List.map_cons, List.cons.injEq, Prod.mk.injEq] at hT
    exact ⟨r, rfl, hT.1.1.symm, hT.1.2.symm⟩
 subst htk
 have hrt := M.tok 0 r rfl
 have h1 : r.sz = 1 := by
  obtain ⟨i, hi, hs1⟩ : ∃ i, E.T 3 = some i ∧ i.size = 1 := ⟨_, rfl, rfl⟩
  rw [← hs1]
  exact M.tsz 0 r i rfl (by rw [hre]; exact hi)
 have hst := hs t
 rw [ht] at hst
 have hpos : 0 < ps.length := List.length_pos_iff.2 hps
 have henl : (encN ps).length = ps.length := Pc.encN_len ps
 obtain ⟨⟨xs, ho⟩, hsp⟩ := hrt
 rcases ho.2 with ⟨h, h0⟩ | ⟨g, cap, cur, hv, hg, hb, hn, hcap, hcs, htake⟩
 ·omega
 have hgb : (Value.slice r.A r.len r.cap).ownBlock = some g := by rw [hv]; rfl
 injection hv with hA _ hcp
 have hlt := blk_lt' hb
 generalize hv0 : a.tmps.getD t undef = v0 at hst ⊢
 cases hst with
 | orow A len cap2 xs2 k hrow r2 hr2 g1 g2 =>
  have e : r2 = r := by simpa using hr2.symm
  subst e
  have hlen : len = ps.length := by cases hrow with | row _ _ _ _ sz vs hl => rw [hl, henl]
  obtain ⟨e1, e2⟩ := g2 (by omega)
  subst e1; subst e2
  rw [hA] at hrow ⊢
  subst hlen
  cases hrow with
  | row _ _ _ _ sz vs hl hcp2 hnil hpz hz1 hAA hh =>
   have hsz1 : sz = 1 := by
    obtain ⟨x, hx⟩ : ∃ x, (encN ps)[0]? = some x := ⟨_, List.getElem?_eq_getElem (by omega)⟩
    have h5 := hz1 x (List.mem_of_getElem? hx)
    have h6 := Pc.encN_one ps x (List.mem_of_getElem? hx)
    omega
   subst hsz1
   have cellv : ∀ i, i < ps.length → ok g i ∧ cur[i]? = some (.int .i64 (ps.getD i 0)) := by
    intro i hi
    obtain ⟨a1, ha1, hk1, hc1⟩ := hAA i (by omega)
    injection ha1 with ha1
    subst ha1
    have e3 := add_plain' hc1
    rw [e3] at hc1
    have hx : (encN ps)[i]? = some [CV.int .i64 (ps.getD i 0)] := by
     unfold encN
     rw [List.getElem?_map, List.getElem?_eq_getElem hi]
     simp [List.getD, List.getElem?_eq_getElem hi]
    have hr := hh i _ 0 _ hx rfl
    rw [show i * 1 + 0 = i by omega] at hr
    have hvi : vs i = .int .i64 (ps.getD i 0) := by
     generalize vs i = u at hr
     cases hr; rfl
    rw [hvi] at hc1
    refine ⟨by simpa using hk1, ?_⟩
    simpa [World.cell?, hb] using hc1
   have htk : cur.toList.take ps.length = ps.map (Value.int .i64) := by
    apply List.ext_getElem?
    intro i
    by_cases hi : i < ps.length
    ·rw [List.getElem?_take_of_lt hi, Array.getElem?_toList, (cellv i hi).2, List.getElem?_map, List.getElem?_eq_getElem hi]
     simp [List.getD, List.getElem?_eq_getElem hi]
    ·rw [List.getElem?_take_eq_none (by omega), List.getElem?_eq_none (by simp; omega)]
   have hints : ∀ o, ok g o → ∃ z, w.cell? ⟨g, o, none⟩ = some (.int .i64 z) := by
    intro o hko
    have : o < ps.length := by
     rcases Nat.lt_or_ge o ps.length with h | h
     ·exact h
     ·exact absurd hko ((hsp g hgb).1 o (by rw [h1, hrl]; omega))
    exact ⟨_, by simpa [World.cell?, hb] using (cellv o this).2⟩
   refine ⟨g, r2.cap, by rfl, holds_of_blockI hb htk, hlt, fun k os => ?_⟩
   have hgr := grownBy_sortedI (w := w) (g := g) (n := k) (os := os) (srt ps).toArray
   have hnb := heap_sortedI (w := w) (g := g) (n := k) (os := os) (srt ps).toArray hb
   have hsl : (srt ps).length = ps.length := srt_len ps
   have htake2 := take_putCellsI cur (srt ps) (by rw [hsl, hcs, h1]; omega)
   generalize hW : grow (putRow (Value.int .i64) (Sort.ahead w k) g 0 (srt ps).toArray) os = w' at hgr hnb ⊢
   have hmg : ∀ i : Nat, m[i]? ≠ some (some g) := (hsp g hgb).2
   have hrowO : ∀ v, Rep w ok m [r2] v (.c (.row (rowO l))) → Rep w' ok (m.take 2) [] v (.c (.row (rowO l))) := by
    intro v h
    cases h with
    | c v p h => exact .c _ _ (row_keep hgr hints M.oks h)
   have hcl : ∀ i (hi : i < (srt ps).length), (putCells (Value.int .i64) 0 (srt ps).toArray cur)[i]? = some (.int .i64 ((srt ps)[i])) := by
    intro i hi
    have e := congrArg (fun l : List Value => l[i]?) htake2
    rw [List.getElem?_take_of_lt hi, Array.getElem?_toList, List.getElem?_map, List.getElem?_eq_getElem hi] at e
    exact e
   have hnew : RepC w' ok (.slice (some ⟨g, 0, none⟩) ps.length r2.cap) (.row (encN (srt ps))) := by
    refine .row _ _ _ _ 1 (fun i => .int .i64 ((srt ps).getD i 0)) (by rw [Pc.encN_len, hsl]) hcp2 (fun h => by cases h) (by decide) (Pc.encN_one _) (fun i hi => ⟨_, rfl, ?_, ?_⟩) (fun i x j c hx hc => ?_)
    ·have := (cellv i (by omega)).1
     simpa using this
    ·have hi : i < (srt ps).length := by omega
     rw [addr0]
     simp only [World.cell?, hnb]
     have := hcl i hi
     simp only [Option.isSome_none, Bool.false_eq_true, if_false]
     rw [this]
     simp [List.getD, List.getElem?_eq_getElem hi]
    ·unfold encN at hx
     rw [List.getElem?_map] at hx
     cases hz : (srt ps)[i]? with
     | none => rw [hz] at hx; cases hx
     | some z =>
      rw [hz] at hx
      have hx : some [CV.int .i64 z] = some x := hx
      injection hx with hx
      subst hx
      match j, hc with
      | 0, hc =>
       have hc : some (CV.int .i64 z) = some c := hc
       injection hc with hc
       subst hc
       have : (srt ps).getD (i * 1 + 0) 0 = z := by
        rw [show i * 1 + 0 = i by omega]
        simp [List.getD, hz]
       rw [this]
       exact .int _ _
      | j + 1, hc => simp at hc
   have hnewR : ∀ v, Rep w ok m [r2] v (.orow (encN ps) 0) → Rep w' ok (m.take 2) [] v (.c (.row (encN (srt ps)))) := by
    intro v h
    cases h with
    | orow A len cap2 xs2 k hrow r3 hr3 k1 k2 =>
     have e : r3 = r2 := by simpa using hr3.symm
     have hl2 : len = ps.length := by cases hrow with | row _ _ _ _ sz vs hl => rw [hl, henl]
     obtain ⟨e1, e2⟩ := k2 (by rw [e]; omega)
     rw [e1, e2, e, hA, hl2]
     exact .c _ _ hnew
   have hmt : ∀ i b, (m.take 2)[i]? = some (some b) → i < 2 ∧ m[i]? = some (some b) := by
    intro i b h
    rw [List.getElem?_take] at h
    split at h
    ·exact ⟨by assumption, h⟩
    ·cases h
   have hml : 2 ≤ m.length := by have := M.len; simp at this; omega
   have hnilR : ∀ v, Rep w ok m [r2] v (.c .nil) → Rep w' ok (m.take 2) [] v (.c .nil) := by
    intro v h
    cases h with
    | c v p h => cases h; exact .c _ _ .nil
   have hbx := hgr.block
   have M' : Mem E B [[.c .nil, .c .nil], [.c (.row (rowO l)), .c (.row (encN (srt ps)))]] (m.take 2) [] ok w' := by
    have hsz2 : w.heap.size ≤ w'.heap.size := hgr.size
    have hEs := hE.glob w M.inv
    refine ⟨M.inv_of hE hsz2 (fun b hb => hbx b (by omega) (by intro e; injection e with e; have := M.gb; omega)), hgr.os.trans M.os, hgr.tape.trans M.tape, hgr.output.trans M.output, Nat.le_trans M.size hsz2, fun k hk hn hn' => ?_, M.okb, fun b o h => Nat.lt_of_lt_of_le (M.oks b o h) hsz2, by simp; omega, fun i b h => ?_, fun i j b h1 h2 => M.inj i j b (hmt i b h1).2 (hmt j b h2).2, fun t r h => by simp at h, fun t u r s a h => by simp at h, M.gb, fun t r i h => by simp at h, .noB rfl⟩
    ·rw [hbx k (by have := M.size; omega) (by intro e; injection e with e; omega)]
     exact M.frame k hk hn hn'
    ·obtain ⟨hi2, hmi⟩ := hmt i b h
     obtain ⟨cs, arr, ty, q1, q2, q3, q4⟩ := M.box i b hmi
     have hbg : b ≠ g := by intro e; rw [e] at hmi; exact hmg i hmi
     have hq2 : w'.heap[b]? = some (.cells arr ty (0, 0)) := by rw [hbx b (blk_lt' q2) (by intro e; injection e with e; exact hbg (by omega))]; exact q2
     match i, hi2 with
     | 0, _ =>
      have q1 : some [PV.c .nil, PV.c .nil] = some cs := q1
      injection q1 with q1
      subst q1
      exact ⟨_, arr, ty, rfl, hq2, ⟨q3.1, fun j v p hv hp => match j, hp with
       | 0, hp => by have hp : some (PV.c .nil) = some p := hp; injection hp with hp; subst hp; exact hnilR v (q3.2 0 v _ hv rfl)
       | 1, hp => by have hp : some (PV.c .nil) = some p := hp; injection hp with hp; subst hp; exact hnilR v (q3.2 1 v _ hv rfl)
       | j + 2, hp => by simp at hp⟩, q4⟩
     | 1, _ =>
      have q1 : some [PV.c (.row (rowO l)), PV.orow (encN ps) 0] = some cs := q1
      injection q1 with q1
      subst q1
      exact ⟨_, arr, ty, rfl, hq2, ⟨q3.1, fun j v p hv hp => match j, hp with
       | 0, hp => by have hp : some (PV.c (.row (rowO l))) = some p := hp; injection hp with hp; subst hp; exact hrowO v (q3.2 0 v _ hv rfl)
       | 1, hp => by have hp : some (PV.c (.row (encN (srt ps)))) = some p := hp; injection hp with hp; subst hp; exact hnewR v (q3.2 1 v _ hv rfl)
       | j + 2, hp => by simp at hp⟩, q4⟩
   have hp2 : ∀ t i off, Rep w ok m [r2] (a.tmps.getD t undef) (.ptr i off) → i < 2 → Rep w' ok (m.take 2) [] (a.tmps.getD t undef) (.ptr i off) := by
    intro t i off h hi
    generalize a.tmps.getD t undef = u at h ⊢
    cases h with
    | ptr _ _ b hm => exact .ptr _ _ b (by rw [List.getElem?_take_of_lt hi]; exact hm)
   refine ⟨m.take 2, [], ok, M', rfl, hsz, fun t => ?_, ?_, fun i b h => ?_, hok, fun i hi => ?_, ?_, ?_⟩
   ·show Rep w' ok (m.take 2) [] (a.tmps.getD t undef) (upd (upd (fun _ => .undef) (some 3) (.ptr 1 0)) (some 2) (.ptr 0 0) t)
    by_cases e2 : t = 2
    ·subst e2
     rw [upd_same]
     exact hp2 2 0 0 (by have := hs 2; rw [h2] at this; exact this) (by decide)
    ·rw [upd_other (by simpa using Ne.symm e2)]
     by_cases e3 : t = 3
     ·subst e3
      rw [upd_same]
      exact hp2 3 1 0 (by have := hs 3; rw [h3] at this; exact this) (by decide)
     ·rw [upd_other (by simpa using Ne.symm e3)]
      exact .undef _
   ·subst hD; exact hdf
   ·rw [hB] at h; simp at h
   ·obtain ⟨b, hb'⟩ := hall i (by simp at hi ⊢; omega)
    exact ⟨b, by rw [List.getElem?_take_of_lt (by simpa using hi)]; exact hb'⟩
   ·intro t
    show PLt 2 (upd (upd (fun _ => .undef) (some 3) (.ptr 1 0)) (some 2) (.ptr 0 0) t)
    by_cases e2 : t = 2
    ·subst e2; rw [upd_same]; show 0 < 2; decide
    ·rw [upd_other (by simpa using Ne.symm e2)]
     by_cases e3 : t = 3
     ·subst e3; rw [upd_same]; show 1 < 2; decide
     ·rw [upd_other (by simpa using Ne.symm e3)]; trivial
   ·intro cs hcs p hp
    simp only [List.mem_cons, List.not_mem_nil, or_false] at hcs
    rcases hcs with rfl | rfl <;> simp only [List.mem_cons, List.not_mem_nil, or_false] at hp <;> rcases hp with rfl | rfl <;> trivial
def ofB (ps : List Int) : PV := match ps with
 | [] => .c .nil
 | p :: r => .orow (encN (p :: r)) 0
def ofT (ps : List Int) : List (Nat × Nat) := match ps with
 | [] => []
 | p :: r => [((p :: r).length, 3)]
structure OfEnd (l : List Of) (s : St) : Prop where
 s2 : s.sl 2 = .ptr 0 0
 s3 : s.sl 3 = .ptr 1 0
 H : ∃ e, s.H = [[.c .nil, .c .nil], [.c (.row (rowO l)), ofB (l.map Of.p)]] ++ e
 T : s.T = ofT (l.map Of.p)
theorem take_p (l : List Of) (i : Nat) {o : Of} (h : l[i]? = some o) : (l.map Of.p).take (i + 1) = (l.map Of.p).take i ++ [o.p] := by
 rw [List.take_add_one, List.getElem?_map, h]; rfl
theorem ofB_snoc {q : List Int} {i : Nat} (h : q.length = i + 1) : ofB q = .orow (encN q) 0 ∧ ofT q = [(i + 1, 3)] := by
 cases q with
 | nil => simp at h
 | cons p r => exact ⟨rfl, by show [((p :: r).length, _)] = _; rw [h]⟩
theorem sim_put {B : Base} {D : Option (FuncId × List AV)} {n : Nat} {sl : Nat → PV} {H : List (List PV)} {T : List (Nat × Nat)} {a : Act} {w : World} {d : Option Tmp} (u : Value) (hd : ∀ t, d = some t → t < n) (S : Sim E B D n ⟨sl, H, T⟩ a w) : Sim E B D n ⟨upd sl d .undef, H, T⟩ (a.put d u) w := by
 obtain ⟨m, tk, ok, M, hT, hsz, hs, hdf, hm0, hok, hall, hwf⟩ := S
 dsimp only at hT
 subst hT
 exact Sim.next (s := ⟨sl, H, _⟩) M (Later.refl w ok m tk) hsz hs hdf hm0 hok hall hd (wf_upd hwf (Nat.le_refl _) hwf.H trivial) (.undef u)
theorem ret_sound {fn : Func} {c : Code} {n : Nat} {r : PV} {bs' : List (List PV)} {w : World} {ok : Nat → Nat → Prop} {ms gs : List Nat} {s : St} {a : Act} {w1 : World} (hchk : chkC E.pt n c = true) (hml : bs'.length = ms.length) (h : wpC E c (retK E fn r bs') s) (S : Sim E ⟨w, ok, ms, gs⟩ none n s a w1) :
  c.wp E.P (bodyPost E.P fn fun e w' => ∃ v ok', e = .returned v ∧ Mem E ⟨w, ok, ms, gs⟩ bs' (ms.map some) [] ok' w' ∧ (∀ b o, ok b o → ok' b o) ∧ Rep w' ok' (ms.map some) [] v r) a w1 := by
 refine wp_mono (code_sound hE c hchk _ _ _ _ h S) fun e a w' q => ?_
 have fin : ∀ s, Ret E fn r bs' s → Sim E ⟨w, ok, ms, gs⟩ none n s a w' → a.defers = [] ∧ ∃ v, (results fn a.tmps).run E.P w' = .ok v w' ∧ ∃ v' ok', Ending.returned v = .returned v' ∧ Mem E ⟨w, ok, ms, gs⟩ bs' (ms.map some) [] ok' w' ∧ (∀ b o, ok b o → ok' b o) ∧ Rep w' ok' (ms.map some) [] v' r := fun s hR S => by
  obtain ⟨h1, v, h2, ok', h3⟩ := Ret.fin hE hml hR S
  exact ⟨h1 rfl, v, h2, v, ok', rfl, h3⟩
 cases e with
 | normal => obtain ⟨s, hk, S'⟩ := q; exact fin s hk S'
 | ret => obtain ⟨s, hk, S'⟩ := q; exact fin s hk S'
 | exit id => obtain ⟨s, hk, S'⟩ := q; exact hk.elim
 | goto l => exact q.elim
 | panic ch => obtain ⟨-, p, v, -, -, s, h, -⟩ := q; exact h.elim
 | outgrown => exact q.elim
theorem of_ok (l : List Of) (hl : l.length ≤ 1000000) : Ok E 34 [] [.c (.row (rowO l))] (pM l) [] := by
 refine ⟨⟨_, Tryz.func34, by decide +kernel, by kernel_rfl⟩, fun w ok ms gs vals hst M hr => ?_⟩
 have hm : ms = [] := by have := M.len; simpa using this
 subst hm
 obtain rfl : gs = [] := hst rfl
 have hel := rowO_len l
 have S := Sim.entry (E := E) (fn := Tryz.f34) (bs := []) (args := [.c (.row (rowO l))]) rfl (by simp) (Nat.le_of_ble_eq_true rfl) M hr
 refine calls_of_wp Tryz.func34 rfl ?_
 refine hand_seq hE (by kernel_rfl) (N := fun s => s = ⟨upd (slots [.c (.row (rowO l))]) (some 2) (.ptr 0 0), [[.c .nil, .c .nil]], []⟩) ?_ S ?_
 ·exact Eq.refl (α := St) _
 rintro _ a1 w1 rfl S1
 refine hand_seq hE (by kernel_rfl) (N := fun s => s = ⟨upd (upd (upd (upd (slots [.c (.row (rowO l))]) (some 2) (.ptr 0 0)) (some 6) (.c (.row (rowO l)))) (some 7) (.agg [.row (rowO l), .nil])) (some 3) (.ptr 1 0), [[.c .nil, .c .nil], [.c (.row (rowO l)), .c .nil]], []⟩) ?_ S1 ?_
 ·exact Eq.refl (α := St) _
 rintro _ a2 w2 rfl S2
 refine hand_seq hE (by kernel_rfl) (N := OfEnd l) ?_ S2 ?_
 ·refine Loop.cut (α := Nat) (fun i => i ≤ l.length) (fun i => [(2, .ptr 0 0), (3, .ptr 1 0), (8, .c (.row (rowO l))), (9, pI (rowO l).length), (10, pI i)]) (fun i => [[.c .nil, .c .nil], [.c (.row (rowO l)), ofB ((l.map Of.p).take i)]]) (fun i => ofT ((l.map Of.p).take i)) (fun i => l.length - i) 0 2 (fun _ => rfl) (fun i => by cases h : (l.map Of.p).take i <;> rfl) (fun _ => rfl) (Nat.zero_le _) ⟨⟨rfl, rfl, rfl, rfl, rfl, trivial⟩, rfl, rfl⟩ ?_
  rintro i f hi
  have hi : i ≤ l.length := hi
  by_cases hlt : i < l.length
  ·obtain ⟨o, ho⟩ : ∃ o, l[i]? = some o := ⟨_, List.getElem?_eq_getElem hlt⟩
   have hg := rowO_get ho
   have ht := take_p l i ho
   have hil : ((l.map Of.p).take i).length = i := by rw [List.length_take, List.length_map]; omega
   have hn := ofB_snoc (q := (l.map Of.p).take (i + 1)) (i := i) (by rw [List.length_take, List.length_map]; omega)
   have hen : encN ((l.map Of.p).take i) ++ [[.int .i64 o.p]] = encN ((l.map Of.p).take (i + 1)) := by
    rw [ht]; unfold encN; rw [List.map_append]; rfl
   have hadd : BinR E 3 .add (.c (.int .i64 (i : Int))) (.c (.int .i64 1)) (.c (.int .i64 ((i + 1 : Nat) : Int))) := addV (by push_cast; rfl) (by omega) (by omega)
   cases i with
   | zero =>
    refine ⟨_, ltT (by rw [hel]; omega), ?_⟩
    refine ⟨_, idxV (j := 0) hg rfl rfl rfl rfl, ?_⟩
    refine ⟨_, ⟨_, rfl, rfl⟩, ?_⟩
    refine ⟨_, _, AppR.first1 (x := [.int .i64 o.p]) rfl rfl (by decide) rfl rfl rfl (by decide), ?_⟩
    refine ⟨_, hadd, ?_⟩
    exact ⟨1, by show 1 ≤ l.length; omega, by show l.length - 1 < l.length - 0; omega, ⟨rfl, rfl, rfl, rfl, rfl, trivial⟩, ⟨_, by rw [hn.1, ← hen]; rfl⟩, by rw [hn.2]; rfl⟩
   | succ k =>
    obtain ⟨q1, q2⟩ := ofB_snoc (q := (l.map Of.p).take (k + 1)) (i := k) hil
    rw [q1, q2]
    refine ⟨_, ltT (by rw [hel]; omega), ?_⟩
    refine ⟨_, idxV (j := k + 1) hg rfl rfl rfl rfl, ?_⟩
    refine ⟨_, ⟨_, rfl, rfl⟩, ?_⟩
    refine ⟨_, _, AppR.more1 (k + 1) rfl rfl (by decide) rfl rfl (by rw [Pc.encN_len, hil]) (Pc.encN_one _) rfl rfl (by omega) (by show _ * 8 ≤ _; omega), ?_⟩
    refine ⟨_, hadd, ?_⟩
    exact ⟨k + 2, by show k + 2 ≤ l.length; omega, by show l.length - (k + 2) < l.length - (k + 1); omega, ⟨rfl, rfl, rfl, rfl, rfl, trivial⟩, ⟨_, by rw [hn.1, ← hen]; rfl⟩, by rw [hn.2]; rfl⟩
  ·have e : i = l.length := by omega
   subst e
   have ht : (l.map Of.p).take l.length = l.map Of.p := by rw [← List.length_map (f := Of.p), List.take_length]
   refine ⟨_, ltN (by rw [hel]; omega), ?_⟩
   exact ⟨rfl, rfl, ⟨[], by rw [ht]; rfl⟩, by rw [ht]⟩
 rintro s a3 w3 hend S3
 obtain ⟨sl, H, T⟩ := s
 obtain ⟨h2, h3, ⟨ex, hH⟩, hTT⟩ := hend
 dsimp only at h2 h3 hH hTT
 subst hH; subst hTT
 have S3 : Sim E _ none _ ⟨fun t => cutP 2 (sl t), [[.c .nil, .c .nil], [.c (.row (rowO l)), ofB (l.map Of.p)]], ofT (l.map Of.p)⟩ a3 w3 := S3.cut (n0 := 0) (n := 2) (Nat.le_refl _) trivial (Nat.zero_le _) (by simp) (by cases l.map Of.p <;> rfl)
 have h2 : (fun t => cutP 2 (sl t)) 2 = .ptr 0 0 := by show cutP 2 (sl 2) = _; rw [h2]; rfl
 have h3 : (fun t => cutP 2 (sl t)) 3 = .ptr 1 0 := by show cutP 2 (sl 3) = _; rw [h3]; rfl
 generalize (fun t => cutP 2 (sl t)) = sl at S3 h2 h3
 rw [← setAll_of (f := sl) (l := [(2, PV.ptr 0 0), (3, PV.ptr 1 0)]) ⟨h2, h3, trivial⟩] at S3
 have hcb : Callable E.P 55 := ⟨_, Tryz.func55, by decide +kernel, by kernel_rfl⟩
 refine wp_seq ?_
 refine wp_region_list ?_
 refine wpList_step fun K1 hK1 => ?_
 refine step_sound hE (kp := none) S3 ?_ (K := fun s' => s' = ⟨upd (setAll sl [(2, .ptr 0 0), (3, .ptr 1 0)]) (some 22) (.ptr 1 1), [[.c .nil, .c .nil], [.c (.row (rowO l)), ofB (l.map Of.p)]], ofT (l.map Of.p)⟩) ?_ ?_ ?_
 ·rintro d h; injection h with h; subst h; decide
 ·exact Eq.refl (α := St) _
 ·exact fun _ h => by cases h
 rintro _ a4 w4 rfl S4
 refine hK1 _ _ ?_
 refine wpList_step fun K2 hK2 => ?_
 rcases hp : l.map Of.p with _ | ⟨p, ps⟩
 ·rw [hp] at S4
  refine step_sound hE (kp := none) S4 ?_ (K := fun s' => s' = ⟨upd (upd (setAll sl [(2, .ptr 0 0), (3, .ptr 1 0)]) (some 22) (.ptr 1 1)) (some 23) (.c .nil), [[.c .nil, .c .nil], [.c (.row (rowO l)), .c .nil]], []⟩) ?_ ?_ ?_
  ·rintro d h; injection h with h; subst h; decide
  ·exact Eq.refl (α := St) _
  ·exact fun _ h => by cases h
  rintro _ a5 w5 rfl S5
  refine hK2 _ _ ?_
  refine wpList_step fun K3 hK3 => ?_
  rw [if_pos (by rfl)]
  unfold Oper.wp
  rw [call_runC hcb a5.eval _ (.func 55) #[.tmp 23] #[42] rfl (fs := #[]) (cs := #[]) rfl w5, Oper.upon_enter]
  have hv : a5.tmps.getD 23 undef = .slice none 0 0 := by
   obtain ⟨m, tk, ok, M, hT, hsz, hs, -⟩ := S5
   have := hs 23
   generalize a5.tmps.getD 23 undef = u at this ⊢
   cases (show Rep w5 ok m tk u (.c .nil) from this) with
   | c v p h => cases h; rfl
  rw [show (#[] ++ #[Operand.tmp 23].map a5.eval ++ #[] : Array Value) = #[.slice none 0 0] by have h : a5.eval (.tmp 23) = _ := hv; simp [h]]
  refine (Tryz.slices_Sort_int_none none 0 w5).mono ?_
  rintro e w6 ⟨rfl, rfl⟩
  refine hK3 _ _ ?_
  refine ret_sound (n := Tryz.f34.ntmps) (by kernel_rfl) rfl ?_ (sim_put _ (by rintro t h; injection h with h; subst h; decide) S5)
  exact ⟨_, rfl, Wk.aggC (by rw [prs, hp]; exact .same (.row .nil)), rfl, .nil _⟩
 ·rw [hp] at S4
  refine step_sound hE (kp := none) S4 ?_ (K := fun s' => s' = ⟨upd (upd (setAll sl [(2, .ptr 0 0), (3, .ptr 1 0)]) (some 22) (.ptr 1 1)) (some 23) (.orow (encN (p :: ps)) 0), [[.c .nil, .c .nil], [.c (.row (rowO l)), .orow (encN (p :: ps)) 0]], [((p :: ps).length, 3)]⟩) ?_ ?_ ?_
  ·rintro d h; injection h with h; subst h; decide
  ·exact Eq.refl (α := St) _
  ·exact fun _ h => by cases h
  rintro _ a5 w5 rfl S5
  refine hK2 _ _ ?_
  refine wpList_step fun K3 hK3 => ?_
  obtain ⟨g, cap, hv, hH, hgl, hS⟩ := sim_sorted (t := 23) rfl rfl (by simp) rfl rfl rfl S5
  rw [if_pos (by rfl)]
  unfold Oper.wp
  rw [call_runC hcb a5.eval _ (.func 55) #[.tmp 23] #[42] rfl (fs := #[]) (cs := #[]) rfl w5, Oper.upon_enter]
  rw [show (#[] ++ #[Operand.tmp 23].map a5.eval ++ #[] : Array Value) = #[.slice (some ⟨g, 0, none⟩) (p :: ps).length cap] by have h : a5.eval (.tmp 23) = _ := hv; simp [h]]
  have hln : (p :: ps).length ≤ 1000000 := by rw [← hp, List.length_map]; exact hl
  refine (Tryz.slices_Sort_int g 0 cap (p :: ps) w5 hH hgl (by omega)).mono ?_
  rintro e w6 ⟨rfl, k, os, rfl⟩
  refine hK3 _ _ ?_
  rw [srt_merge]
  refine ret_sound (n := Tryz.f34.ntmps) (by kernel_rfl) rfl ?_ (sim_put _ (by rintro t h; injection h with h; subst h; decide) (hS k os))
  exact ⟨_, rfl, by rw [pM, prs, hp]; exact Wk.refl _, rfl, .nil _⟩
end Go.Proofs.YtgpkppohfodhdaaGreatDoor.Va
namespace Go.Proofs.YtgpkppohfodhdaaGreatDoor.Va
open Go Go.RowKit Go.Proofs.YtgpkppohfodhdaaGreatDoor.Pm Go.Proofs.YtgpkppohfodhdaaGreatDoor.Pl
set_option linter.unusedVariables false
set_option linter.unusedSimpArgs false
set_option maxHeartbeats 4000000
set_option maxRecDepth 8000
def KeepS (ks : List Nat) (a0 a : Act) : Prop := ∀ t, t ∈ ks → a.tmps.getD t undef = a0.tmps.getD t undef
theorem KeepS.refl (ks : List Nat) (a : Act) : KeepS ks a a := fun _ _ => rfl
def offK (ks : List Nat) (o : Oper) : Bool := match o.dst with
 | none => true
 | some d => !ks.contains d
theorem put_getD (a : Act) (d : Option Tmp) (v : Value) (t : Nat) (h : d ≠ some t) : (a.put d v).tmps.getD t undef = a.tmps.getD t undef := by
 cases d with
 | none => rfl
 | some d =>
  have hd : d ≠ t := fun e => h (by rw [e])
  simp [Act.put, Array.getD_eq_getD_getElem?, Array.getElem?_setIfInBounds_ne hd]
theorem put_same (a : Act) (d : Tmp) (v : Value) (h : d < a.tmps.size) : (a.put (some d) v).tmps.getD d undef = v := by
 simp [Act.put, Array.getD_eq_getD_getElem?, h]
theorem keep_put {ks : List Nat} {a0 a : Act} {o : Oper} {v : Value} (h : KeepS ks a0 a) (ho : offK ks o = true) : KeepS ks a0 (a.put o.dst v) := by
 intro t ht
 rw [put_getD a o.dst v t (fun e => ?_)]
 ·exact h t ht
 ·unfold offK at ho
  rw [e] at ho
  simp at ho
  exact ho ht
theorem upon_keep {P : Program} {o : Oper} {ks : List Nat} {a0 a : Act} {next : Act → World → Prop} {Q : Exit → Act → World → Prop} {r : Result Next} (hk : KeepS ks a0 a) (ho : offK ks o = true) (h : o.upon P a (fun a' w' => KeepS ks a0 a' → next a' w') Q r) : o.upon P a next Q r := by
 cases r with
 | ok n w' =>
  cases n <;> simp only [Oper.upon] at h ⊢ <;>
   first
    | exact h (keep_put hk ho)
    | exact h (keep_put (a := { a with defers := _ }) hk ho)
    | exact Calls.mono h (fun e w'' he => by cases e <;> first | exact he (keep_put hk ho) | exact he)
    | exact Rows.mono h (fun _ _ he => he (keep_put hk ho))
 | halt x w' => cases x <;> simp only [Oper.upon] at h ⊢ <;> exact h
section
variable {E : Env} {B : Base} {D : Option (FuncId × List AV)} {n : Nat} {s : St} {a a0 : Act} {w : World} {ks : List Nat}
theorem step_keep (hE : EnvOK E) (S : Sim E B D n s a w) {all : Array Oper} {o : Oper} (hd : ∀ d, o.dst = some d → d < n) (ho : offK ks o = true) (hk : KeepS ks a0 a) {K : St → Prop} (h : Pm.step E none all o s K) {next : Act → World → Prop} {Q : Exit → Act → World → Prop}
  (hn : ∀ s' a' w', K s' → Sim E B D n s' a' w' → KeepS ks a0 a' → next a' w') : if Region.wanted o (yielded all a.tmps) then o.wp E.P a w next Q else next (a.put o.dst undef) w := by
 have h1 := step_sound hE (kp := none) S hd h (next := fun a' w' => KeepS ks a0 a' → next a' w') (Q := Q) (fun _ h => by cases h) (fun s' a' w' hk' hS hkp => hn s' a' w' hk' hS hkp)
 split at h1
 ·rename_i hw; rw [if_pos hw]; exact upon_keep hk ho h1
 ·rename_i hw; rw [if_neg hw]; exact h1 (keep_put hk ho)
def chkK (ks : List Nat) (n : Nat) (l : List Oper) : Bool := l.all fun o => offK ks o && match o.dst with
 | none => true
 | some d => decide (d < n)
theorem list_keep (hE : EnvOK E) {all : Array Oper} {K : St → Prop} {Q : Exit → Act → World → Prop} (hK : ∀ s a w, K s → Sim E B D n s a w → KeepS ks a0 a → Q .normal a w) : ∀ (l : List Oper) (s : St) (a : Act) (w : World), chkK ks n l = true →
  wpL E none all l K s → Sim E B D n s a w → KeepS ks a0 a → wpList E.P all Q l a w
 | [], s, a, w, _, h, S, hk => hK s a w h S hk
 | o :: l, s, a, w, hc, h, S, hk => by
  unfold chkK at hc
  rw [List.all_cons, Bool.and_eq_true, Bool.and_eq_true] at hc
  refine wpList_step fun K' hK' => step_keep hE S (fun d hd => ?_) hc.1.1 hk (K := wpL E none all l K) (wpL_cons.1 h).2 fun s' a' w' h' S' hk' => hK' _ _ (list_keep hE hK l s' a' w' hc.2 h' S' hk')
  have := hc.1.2
  rw [hd] at this
  exact of_decide_eq_true this
theorem region_keep (hE : EnvOK E) {id : Nat} {ops : Array Oper} {K : St → Prop} {Q : Exit → Act → World → Prop} (hc : chkK ks n ops.toList = true) (h : wpL E none ops ops.toList K s) (S : Sim E B D n s a w) (hk : KeepS ks a0 a)
  (hK : ∀ s a w, K s → Sim E B D n s a w → KeepS ks a0 a → Q .normal a w) : (Code.region id ops false).wp E.P Q a w := wp_region_list (list_keep hE hK _ s a w hc h S hk)
theorem sim_grown {w' : World} {ok : Nat → Nat → Prop} (S : Sim E ⟨w, ok, [], []⟩ none n s a w') : w.grownBy w' none ∧ E.I w' ∧ a.tmps.size = n ∧ a.defers = [] := by
 obtain ⟨m, tk, ok', M, hT, hsz, hs, hdf, -⟩ := S
 exact ⟨⟨M.os, M.tape, M.output, M.size, fun k hk _ => M.frame k hk (by simp) (by simp)⟩, M.inv, hsz, hdf⟩
theorem sim_int {t : Nat} {k : IntKind} {z : Int} (S : Sim E B D n s a w) (h : s.sl t = .c (.int k z)) : a.tmps.getD t undef = .int k z := by
 obtain ⟨m, tk, ok', M, hT, hsz, hs, -⟩ := S
 have := hs t
 rw [h] at this
 generalize a.tmps.getD t undef = u at this ⊢
 cases this with
 | c v p h => cases h; rfl
theorem sim_bool {t : Nat} {z : Bool} (S : Sim E B D n s a w) (h : s.sl t = .c (.bool z)) : a.tmps.getD t undef = .bool z := by
 obtain ⟨m, tk, ok', M, hT, hsz, hs, -⟩ := S
 have := hs t
 rw [h] at this
 generalize a.tmps.getD t undef = u at this ⊢
 cases this with
 | c v p h => cases h; rfl
theorem sim_str {t : Nat} {z : ByteArray} (S : Sim E B D n s a w) (h : s.sl t = .c (.str z)) : a.tmps.getD t undef = .string z := by
 obtain ⟨m, tk, ok', M, hT, hsz, hs, -⟩ := S
 have := hs t
 rw [h] at this
 generalize a.tmps.getD t undef = u at this ⊢
 cases this with
 | c v p h => cases h; rfl
theorem sim_putv {d : Option Tmp} {u : Value} {c : CV} (hd : ∀ t, d = some t → t < n) (S : Sim E B D n s a w) (hu : ∀ w ok, RepC w ok u c) : Sim E B D n ⟨upd s.sl d (.c c), s.H, s.T⟩ (a.put d u) w := by
 obtain ⟨sl, H, T⟩ := s
 obtain ⟨m, tk, ok, M, hT, hsz, hs, hdf, hm0, hok, hall, hwf⟩ := S
 dsimp only at hT
 subst hT
 exact Sim.next (s := ⟨sl, H, _⟩) M (Later.refl w ok m tk) hsz hs hdf hm0 hok hall hd (wf_upd hwf (Nat.le_refl _) hwf.H trivial) (.c _ _ (hu _ _))
def vSl (vars : List (Nat × CV)) : Nat → PV := setAll (fun _ => .undef) (vars.map fun p => (p.1, .c p.2))
def RepV (w : World) (ok : Nat → Nat → Prop) (a : Act) : List (Nat × CV) → Prop
 | [] => True
 | (t, c) :: r => RepC w ok (a.tmps.getD t undef) c ∧ RepV w ok a r
theorem sim_fresh {ok : Nat → Nat → Prop} {vars : List (Nat × CV)} (hinv : E.I w) (hoks : ∀ b o, ok b o → b < w.heap.size) (hgb : E.P.globals.size ≤ w.heap.size) (hsz : a.tmps.size = n) (hdf : a.defers = []) (hv : RepV w ok a vars) :
  Sim E ⟨w, ok, [], []⟩ none n ⟨vSl vars, [], []⟩ a w := by
 have hslot : ∀ (vars : List (Nat × CV)), RepV w ok a vars → ∀ t, Rep w ok [] [] (a.tmps.getD t undef) (vSl vars t) ∧ PLt 0 (vSl vars t) := by
  intro vars
  induction vars with
  | nil => intro _ t; exact ⟨.undef _, trivial⟩
  | cons p r ih =>
   intro h t
   obtain ⟨u, c⟩ := p
   show Rep w ok [] [] (a.tmps.getD t undef) (upd (vSl r) (some u) (.c c) t) ∧ PLt 0 (upd (vSl r) (some u) (.c c) t)
   by_cases e : t = u
   ·subst e; rw [upd_same]; exact ⟨.c _ _ h.1, trivial⟩
   ·rw [upd_other (by simpa using Ne.symm e)]; exact ih h.2 t
 exact ⟨[], [], ok, ⟨hinv, rfl, rfl, rfl, Nat.le_refl _, fun _ _ _ _ => rfl, fun _ _ h => .inl h, hoks, rfl, fun i b h => by simp at h, fun i j b h => by simp at h, fun t r h => by simp at h, fun t u r s a h => by simp at h, hgb, fun t r i h => by simp at h, .nil⟩,
  rfl, hsz, fun t => (hslot vars hv t).1, hdf, fun i b h => by simp at h, fun _ _ h => h, fun i h => absurd h (Nat.not_lt_zero _), ⟨fun t => (hslot vars hv t).2, fun cs h => by cases h⟩⟩
theorem mem_back {w0 : World} {ok0 : Nat → Nat → Prop} (M : Mem E ⟨w0, ok0, [], []⟩ [] [] [] ok0 w0) (hg : w0.grownBy w none) (hi : E.I w) : Mem E ⟨w0, ok0, [], []⟩ [] [] [] ok0 w :=
 ⟨hi, hg.os, hg.tape, hg.output, hg.size, fun k hk _ _ => hg.block k hk (by simp), fun _ _ h => .inl h, fun b o h => Nat.lt_of_lt_of_le (M.oks b o h) hg.size, rfl, fun i b h => by simp at h, fun i j b h => by simp at h, fun t r h => by simp at h, fun t u r s a h => by simp at h, M.gb, fun t r i h => by simp at h, .nil⟩
theorem grown_trans {w w1 w2 : World} (h : w.grownBy w1 none) (g : w1.grownBy w2 none) : w.grownBy w2 none :=
 ⟨g.os.trans h.os, g.tape.trans h.tape, g.output.trans h.output, Nat.le_trans h.size g.size, fun k hk _ => (g.block k (Nat.lt_of_lt_of_le hk h.size) (by simp)).trans (h.block k hk (by simp))⟩
theorem grown_own {w w1 w2 : World} {b : Nat} (h : w.grownBy w1 none) (g : w1.grownBy w2 (some b)) (hb : w.heap.size ≤ b) : w.grownBy w2 none :=
 ⟨g.os.trans h.os, g.tape.trans h.tape, g.output.trans h.output, Nat.le_trans h.size g.size, fun k hk _ => (g.block k (Nat.lt_of_lt_of_le hk h.size) (by intro e; injection e with e; omega)).trans (h.block k hk (by simp))⟩
theorem repC_grown {w w' : World} {ok : Nat → Nat → Prop} {v : Value} {c : CV} (hoks : ∀ b o, ok b o → b < w.heap.size) (hg : w.grownBy w' none) (h : RepC w ok v c) : RepC w' ok v c :=
 h.stay (stay_of ok (fun k hk _ => hg.block k hk (by simp)) hoks (fun _ _ h => h))
end
end Go.Proofs.YtgpkppohfodhdaaGreatDoor.Va
