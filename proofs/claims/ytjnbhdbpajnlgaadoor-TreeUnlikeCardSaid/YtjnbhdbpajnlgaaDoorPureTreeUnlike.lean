import Derived.Test.YtjnbhdbpajnlgaaDoorQx7
import Derived.Test.YtjnbhdbpajnlgaaDoorTreeS
import Derived.Test.YtjnbhdbpajnlgaaDoorTreeU
set_option linter.unusedVariables false
set_option linter.unusedSimpArgs false
namespace Go.Proofs.YtjnbhdbpajnlgaaDoor.Pure
open Go.RowKit Go.Proofs.YtjnbhdbpajnlgaaDoor.Q Go.Proofs.YtjnbhdbpajnlgaaDoor.Pl Go.Proofs.YtjnbhdbpajnlgaaDoor.TreeF Go.Proofs.YtjnbhdbpajnlgaaDoor.TreeS Go.Proofs.YtjnbhdbpajnlgaaDoor.TreeU Go.Proofs.YtjnbhdbpajnlgaaDoorW.PrintWords Go.Proofs.YtjnbhdbpajnlgaaDoorW.PrintLast

theorem wf64 {x : Int} (h : (Lit.int .i64 x).wf = true) : -9223372036854775808 ≤ x ∧ x ≤ 9223372036854775807 := by
  simpa [Lit.wf, IntKind.min, IntKind.max, IntKind.signed, IntKind.bits] using h
theorem awake_one : hagglerlaw07_awake.f 40 = some true := by kernel_rfl
theorem awake_soon : Soon (fun k => hagglerlaw07_awake.f k) true := by
  refine ⟨40, fun k hk => ?_⟩
  induction k with
  | zero => omega
  | succ k ih =>
    by_cases h : 40 ≤ k
    · exact hagglerlaw07_awake.mono k true (ih h)
    · obtain rfl : k = 39 := by omega
      exact awake_one
mutual
theorem same_txt : ∀ (x y : S26), sameE x y = true → txtE x = txtE y
  | ⟨k, n, nm, l⟩, ⟨k', n', nm', l'⟩, h => by
    rw [sameE] at h
    simp only [Bool.and_eq_true, beq_iff_eq] at h
    obtain ⟨rfl, rfl, h3, h4⟩ := h
    have e : nm = nm' := by
      rw [Lib.toList_data, Lib.toList_data] at h3
      have := congrArg Pl.B h3
      rwa [B_toList', B_toList'] at this
    subst e
    have hl : l.isEmpty = l'.isEmpty := by
      cases l <;> cases l' <;> simp_all [sameA]
    rw [txtE, txtE, same_txtA l l' true h4, hl]
theorem same_txtA : ∀ (l l' : List S26) (b : Bool), sameA l l' = true → txtA b l = txtA b l'
  | [], [], b, _ => rfl
  | [], y :: l', b, h => by simp [sameA] at h
  | x :: l, [], b, h => by simp [sameA] at h
  | x :: l, y :: l', b, h => by
    rw [sameA, Bool.and_eq_true] at h
    rw [txtA, txtA, same_txt x y h.1, same_txtA l l' false h.2]
end
theorem not_both (s u : ByteArray) (e f : Int) (x y : S26) (he : e = if rightE x then 0 else 1) : Soon (fun k => hagglerlaw07_TreeUnlike.j0 k true s e u f true x.f0 x.f1 x.f2 x.f3 y.f0 y.f1 y.f2 y.f3) true := by
  refine Soon.step (fun k => hagglerlaw07_TreeUnlike.j0.eq_2 ..) ?_
  refine Soon.congr (b := fun k => (tree_Right.f k x.f0 x.f1 x.f2 x.f3).bind fun t => some ((e != 0) == !t)) (Soon.bind (right_eq x) (Soon.const ?_)) (fun k => by simp only [if_true])
  rw [he]
  rcases rightE x with _ | _ <;> rfl
theorem both (e f : Int) (x y : S26) (hx : rightE x = true) (hy : rightE y = true) (he : e = 0) (hf : f = 0) : Soon (fun k => hagglerlaw07_TreeUnlike.j0 k true (B (txtE x)) e (B (txtE y)) f false x.f0 x.f1 x.f2 x.f3 y.f0 y.f1 y.f2 y.f3) true := by
  have hx' := hx
  have hy' := hy
  unfold rightE at hx' hy'
  rw [Bool.and_eq_true] at hx' hy'
  refine Soon.step (fun k => hagglerlaw07_TreeUnlike.j0.eq_2 ..) ?_
  refine Soon.congr (b := fun k => (hagglerref07_Same.f k x.f0 x.f1 x.f2 x.f3 y.f0 y.f1 y.f2 y.f3).bind fun t => some (((B (txtE x)).toList == (B (txtE y)).toList) == t)) (Soon.bind (same_eq x y (fine32 x hx'.1).2.1) (Soon.const ?_)) (fun k => by rw [if_neg (by decide), if_pos rfl, if_pos he, if_pos hf])
  rw [DecT.B_tl, DecT.B_tl]
  rcases hs : sameE x y with _ | _
  · have hne : txtE x ≠ txtE y := by
      intro h
      have := (text_inj x y 32 false false [] [] hx'.1 hy'.1 (.inl rfl) (.inl rfl) (by rw [h])).1
      rw [hs] at this
      exact absurd this (by decide)
    rw [show (txtE x == txtE y) = false from beq_eq_false_iff_ne.2 hne]
    try rfl
  · rw [same_txt x y hs]
    simp
theorem TreeUnlike : hagglerlaw07_TreeUnlike.Pure := by
  intro l0 l1 _ _ h0 _ _ h1
  obtain ⟨x, hx⟩ := strategy_total l0 (fun z hz => wf64 (h0 z hz))
  obtain ⟨y, hy⟩ := strategy_total l1 (fun z hz => wf64 (h1 z hz))
  refine Soon.get (r := true) ?_
  unfold hagglerlaw07_TreeUnlike.f
  refine Soon.bind awake_soon (Soon.bind hx (Soon.bind hy (Soon.bind (print_eq x) (Soon.bind (print_eq y) (Soon.bind (right_eq x) ?_)))))
  rcases hrx : rightE x with _ | _
  · exact Soon.congr (not_both ⟨#[]⟩ (if rightE y = true then (B (txtE y), (0 : Int)) else (⟨#[]⟩, 1)).1 1 (if rightE y = true then (B (txtE y), (0 : Int)) else (⟨#[]⟩, 1)).2 x y (by simp [hrx])) (fun k => rfl)
  · refine Soon.congr (b := fun k => (tree_Right.f k y.f0 y.f1 y.f2 y.f3).bind fun t240 => hagglerlaw07_TreeUnlike.j0 k true (B (txtE x)) 0 (if rightE y = true then (B (txtE y), (0 : Int)) else (⟨#[]⟩, 1)).1 (if rightE y = true then (B (txtE y), (0 : Int)) else (⟨#[]⟩, 1)).2 (!t240) x.f0 x.f1 x.f2 x.f3 y.f0 y.f1 y.f2 y.f3) ?_ (fun k => rfl)
    refine Soon.bind (right_eq y) ?_
    rcases hry : rightE y with _ | _
    · exact not_both (B (txtE x)) _ 0 _ x y (by simp [hrx])
    · exact both 0 0 x y hrx hry rfl rfl
end Go.Proofs.YtjnbhdbpajnlgaaDoor.Pure
