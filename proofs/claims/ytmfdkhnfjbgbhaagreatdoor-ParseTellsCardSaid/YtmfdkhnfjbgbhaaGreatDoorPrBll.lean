/- Texts that are merged: PrL. -/
import Derived.Test.YtmfdkhnfjbgbhaaGreatDoorPrAll
/- ParseTells, in the pure machine. -/
namespace Go.Proofs.YtmfdkhnfjbgbhaaGreatDoor.Pr
open Go Go.RowKit Go.Proofs.YtmfdkhnfjbgbhaaGreatDoor.Pm Go.Proofs.YtmfdkhnfjbgbhaaGreatDoor.Pl
open Go.Proofs.YtmfdkhnfjbgbhaaGreatDoor.Lx (cellsT pT rowT rowT_len rowT_get lexF pkN pkN_eq rowB rowB_get Piece_ok pieceF sz_len sz_getD lawWs signBs nameBs sellerF sliceSV catL)
open Go.Proofs.YtmfdkhnfjbgbhaaGreatDoor.Q (rngE rngA txtE txtA sameE sameA)
set_option linter.unusedVariables false
set_option maxHeartbeats 1000000
theorem catB' {x y : ByteArray} {ti : Nat} (hb : x.size + y.size ≤ 9223372036854775807) : BinR E ti .add (.c (.str x)) (.c (.str y)) (.c (.str (B (x.data.toList ++ y.data.toList)))) := catL rfl hb
theorem minV {a b z : Int} (h : min a b = z) : minF [.c (.int .i64 a), .c (.int .i64 b)] = some (.c (.int .i64 z)) := by
  subst h
  show (match minG a [PV.c (.int .i64 b)] with
    | some z => some (PV.c (.int .i64 z))
    | none => none) = _
  have : minG a [PV.c (.int .i64 b)] = some (min a b) := by
    simp only [minG]
    simp
    omega
  rw [this]
theorem piece_sz (k n : Int) : (pieceF k n).size ≤ 100 := by
  unfold pieceF
  split
  · exact Nat.le_trans (sz_getD (l := lawWs) (m := 6) (by decide) _) (by decide)
  · exact Nat.le_trans (sz_getD (l := signBs) (m := 1) (by decide) _) (by decide)
  · rw [B_size]; have := digs_len (pkN n 100001); omega
  · rw [B_size]
    have h1 := digs_len (pkN n 1000000 / 100)
    have h2 := digs_len (pkN n 1000000 / 10 % 10)
    have h3 := digs_len (pkN n 1000000 % 10)
    simp only [List.length_append, List.length_cons, List.length_nil]
    omega
  · unfold sellerF
    rw [B_size, List.length_append]
    have := digs_len (pkN n 60 / 6)
    have h2 := sz_getD (l := nameBs) (m := 6) (by decide) (pkN n 60 % 6)
    rw [← sz_len] at h2
    omega
theorem arr_get {z : List (List Int)} {i : Nat} (hz : ∀ y ∈ z, y.length = 2 ∧ ∀ n ∈ y, I64 n) (hi : i < z.length) : ∃ a b, z[i]? = some [a, b] ∧ I64 a ∧ I64 b ∧ (encA z)[i]? = some [.int .i64 a, .int .i64 b] := by
  obtain ⟨y, hy⟩ : ∃ y, z[i]? = some y := ⟨_, List.getElem?_eq_getElem hi⟩
  obtain ⟨h1, h2⟩ := hz y (List.mem_of_getElem? hy)
  match y, h1 with
  | [a, b], _ =>
    refine ⟨a, b, hy, h2 a (by simp), h2 b (by simp), ?_⟩
    unfold encA
    rw [List.getElem?_map, hy]
    rfl
theorem encA_len (z : List (List Int)) : (encA z).length = z.length := by unfold encA; simp

mutual
theorem same_refl : ∀ x : Ex, sameE x x = true
  | ⟨k, n, nm, l⟩ => by rw [sameE, sameL_refl l]; simp
theorem sameL_refl : ∀ l : List Ex, sameA l l = true
  | [] => rfl
  | x :: l => by rw [sameA, same_refl x, sameL_refl l]; rfl
end
theorem strat_txt (raw : List Int) (h : ∀ a ∈ raw, I64 a) : ∃ t : ByteArray, t.size ≤ 2000 ∧ ∃ e : Int, Ok E 10 [] [pE (stratF raw)] (.tup [pS t, pI e]) [] := by
  have hx := strat_small raw h
  have sx := hx.size
  have hP := rPrint_ok (stratF raw) hx.rng (by omega)
  rcases Bool.eq_false_or_eq_true (isRight (stratF raw)) with h1 | h1
  · rw [h1, if_pos rfl] at hP
    exact ⟨_, by rw [B_size]; exact (right_open h1).2.2, _, hP⟩
  · rw [h1, if_neg Bool.false_ne_true] at hP
    exact ⟨_, Nat.zero_le _, _, hP⟩

def else8 : ByteArray := ⟨#[101, 108, 115, 101, 40]⟩
theorem ParseTells_ok (s : ByteArray) (hs : s.size ≤ 140737488351232) (raw : List Int) (h1 : ∀ a ∈ raw, I64 a) (l1 : raw.length ≤ 17592186043904) (at_ : Int) (hat : I64 at_) (more : ByteArray) (hm : more.size ≤ 140737488351232) (z : List (List Int)) (hz : ∀ y ∈ z, y.length = 2 ∧ ∀ n ∈ y, I64 n) : Ok E 3 [] [pS s, .c (.row (encN raw)), pI at_, pS more, .c (.row (encA z))] (pB true) [] := by
  have hzl := encA_len z
  have cx := strat_ok raw h1 (by omega)
  obtain ⟨t, htz, te, cP⟩ := strat_txt raw h1
  obtain ⟨x0, hx0⟩ : ∃ x, stratF raw = x := ⟨_, rfl⟩
  rw [hx0] at cx cP
  have hk := pick_ok at_ ((t.size : Int) + 1) hat (by omega)
  have hkl := (pkN_eq (c := at_) (n := (t.size : Int) + 1) (by omega)).2
  obtain ⟨k, hkk⟩ : ∃ k, pkN at_ ((t.size : Int) + 1) = k := ⟨_, rfl⟩
  rw [hkk] at hk hkl
  have htl := sz_len t
  have hml := sz_len more
  refine Ok.enter hE Tryz.func3 rfl (by decide +kernel) (by kernel_rfl) rfl rfl (Nat.le_of_ble_eq_true rfl) rfl ?_
  refine ⟨_, CallR.mk1 awake_ok rfl rfl, ?_⟩
  refine ⟨_, CallR.mk1 cx rfl rfl, ?_⟩
  refine ⟨_, CallR.mk1 cP rfl rfl, ?_⟩
  refine ⟨_, addV rfl (by omega) (by omega), ?_⟩
  refine ⟨_, CallR.mk1 hk rfl rfl, ?_⟩
  refine Loop.run (α := Nat × ByteArray) (fun x => x.1 ≤ 20 ∧ x.2.size ≤ 5 + 110 * x.1) (fun x => [(0, pS s), (3, pS more), (4, .c (.row (encA z))), (11, pB true), (12, pS t), (14, pI k), (15, pS x.2), (16, pI x.1)]) (fun _ => []) (fun _ => []) (fun x => 20 - x.1) (0, else8) ⟨Nat.zero_le _, by decide⟩ ⟨⟨rfl, rfl, rfl, rfl, rfl, rfl, rfl, rfl, trivial⟩, rfl, rfl⟩ ?_
  rintro ⟨i, u⟩ f ⟨hi, hu⟩
  have hi : i ≤ 20 := hi
  have hu : u.size ≤ 5 + 110 * i := hu
  have hcase : (i < z.length ∧ i < 20) ∨ ¬ i < z.length ∨ (i < z.length ∧ ¬ i < 20) := by omega
  rcases hcase with ⟨h1, h2⟩ | h1 | ⟨h1, h2⟩
  · obtain ⟨a, b, -, ha, hb, hab⟩ := arr_get hz h1
    have hP := Piece_ok a b ha hb
    have hpz := piece_sz a b
    refine ⟨_, ltT (by rw [hzl]; omega), ?_⟩
    refine ⟨_, ltT (by omega), ?_⟩
    refine ⟨_, idxV (j := i) hab rfl rfl rfl rfl, ?_⟩
    refine ⟨_, ⟨rfl⟩, ?_⟩
    refine ⟨_, idxV (j := i) hab rfl rfl rfl rfl, ?_⟩
    refine ⟨_, ⟨rfl⟩, ?_⟩
    refine ⟨_, CallR.mk1 hP rfl rfl, ?_⟩
    refine ⟨_, catB' (by omega), ?_⟩
    refine ⟨_, catB' (by simp only [B_size, List.length_append, sz_len]; show _ + 1 ≤ _; omega), ?_⟩
    refine ⟨_, addV rfl (by omega) (by omega), ?_⟩
    exact ⟨(i + 1, _), ⟨by show i + 1 ≤ 20; omega, by show ByteArray.size (B (_ ++ _)) ≤ 5 + 110 * (i + 1); simp only [B_size, B_toList, List.length_append, sz_len]; show _ + 1 ≤ _; omega⟩, by show 20 - (i + 1) < 20 - i; omega, ⟨rfl, rfl, rfl, rfl, rfl, rfl, rfl, rfl, trivial⟩, rfl, rfl⟩
  · refine ⟨_, ltN (by rw [hzl]; omega), ?_⟩
    · skip
      obtain ⟨q, hq⟩ : ∃ q : Nat, min (k + more.size) t.size = q := ⟨_, rfl⟩
      have hqt : q ≤ t.size := by omega
      obtain ⟨xa, ha⟩ : ∃ x, B ((t.data.toList.take k).drop 0) = x := ⟨_, rfl⟩
      have za : xa.size ≤ t.size := by rw [← ha, B_size, List.length_drop, List.length_take]; omega
      have sla : SliceR E 9 (pS t) none (some (pI k)) (pS xa) := by rw [← ha]; exact sliceSV 0 k rfl rfl rfl ⟨Nat.zero_le _, by omega⟩
      obtain ⟨xb, hb⟩ : ∃ x, B (xa.data.toList ++ more.data.toList) = x := ⟨_, rfl⟩
      have zb : xb.size ≤ t.size + more.size := by rw [← hb, B_size, List.length_append, sz_len, sz_len]; omega
      obtain ⟨xc, hc⟩ : ∃ x, B ((t.data.toList.take t.size).drop q) = x := ⟨_, rfl⟩
      have zc : xc.size ≤ t.size := by rw [← hc, B_size, List.length_drop, List.length_take]; omega
      have slc : SliceR E 9 (pS t) (some (pI q)) none (pS xc) := by rw [← hc]; exact sliceSV q t.size rfl rfl rfl ⟨hqt, Nat.le_refl _⟩
      obtain ⟨xd, hd⟩ : ∃ x, B (xb.data.toList ++ xc.data.toList) = x := ⟨_, rfl⟩
      obtain ⟨xe, he⟩ : ∃ x, B ((t.data.toList.take t.size).drop k) = x := ⟨_, rfl⟩
      have ze : xe.size ≤ t.size := by rw [← he, B_size, List.length_drop, List.length_take]; omega
      have sle : SliceR E 9 (pS t) (some (pI k)) none (pS xe) := by rw [← he]; exact sliceSV k t.size rfl rfl rfl ⟨by omega, Nat.le_refl _⟩
      obtain ⟨xf, hf⟩ : ∃ x, B (xb.data.toList ++ xe.data.toList) = x := ⟨_, rfl⟩
      refine ⟨_, sla, ?_⟩
      refine ⟨_, catL hb.symm (by omega), ?_⟩
      refine ⟨_, addV rfl (by omega) (by omega), ?_⟩
      refine ⟨_, minV (z := (q : Int)) (by show min ((k : Int) + (more.size : Int)) (t.size : Int) = q; omega), ?_⟩
      refine ⟨_, slc, ?_⟩
      refine ⟨_, catL hd.symm (by omega), ?_⟩
      refine ⟨_, sla, ?_⟩
      refine ⟨_, catL hb.symm (by omega), ?_⟩
      refine ⟨_, sle, ?_⟩
      refine ⟨_, catL hf.symm (by omega), ?_⟩
      refine ⟨_, sla, ?_⟩
      refine ⟨_, ⟨_, rfl, rfl⟩, ?_⟩
      refine Loop.cut (α := Nat) (fun j => j ≤ 6) (fun j => [(11, pB true), (91, .c (.row (rowB [s, t, xd, xf, xa, u]))), (92, pI 6), (93, pI j)]) (fun _ => []) (fun _ => []) (fun j => 6 - j) 0 0 (fun _ => rfl) (fun _ => rfl) (fun _ => rfl) (Nat.zero_le _) ⟨⟨rfl, rfl, rfl, rfl, trivial⟩, rfl, rfl⟩ ?_
      rintro j f2 hj
      have hj : j ≤ 6 := hj
      by_cases hjl : j < 6
      · have hg := rowB_get (l := [s, t, xd, xf, xa, u]) (j := j) hjl
        obtain ⟨x, hx⟩ : ∃ x, List.getD [s, t, xd, xf, xa, u] j Lx.e0 = x := ⟨_, rfl⟩
        rw [hx] at hg
        have hL := Parse_ok x
        have hR := rParse_ok x
        rw [parse_same] at hR
        have hS := rSame_ok (parseP x).1 (parseP x).1 (by have := (parseP_size x).1; omega)
        rw [same_refl] at hS
        obtain ⟨⟨a, e, n⟩, hlx⟩ : ∃ r, parseP x = r := ⟨_, rfl⟩
        rw [hlx] at hL hR hS
        refine ⟨_, ltT (by omega), ?_⟩
        refine ⟨_, idxV (j := j) hg rfl rfl rfl rfl, ?_⟩
        refine ⟨_, CallR.mk1 hL rfl rfl, ?_⟩
        refine ⟨_, CallR.mk1 hR rfl rfl, ?_⟩
        refine ⟨_, CallR.mk1 hS rfl rfl, ?_⟩
        refine ⟨_, neN rfl, ?_⟩
        refine ⟨_, neN rfl, ?_⟩
        refine ⟨_, addV rfl (by omega) (by omega), ?_⟩
        exact ⟨j + 1, by omega, by omega, ⟨rfl, rfl, rfl, rfl, trivial⟩, ⟨_, rfl⟩, rfl⟩
      · refine ⟨_, ltN (by omega), ?_⟩
        exact Ret.mk _ rfl rfl rfl
  · refine ⟨_, ltT (by rw [hzl]; omega), ?_⟩
    refine ⟨_, ltN (by omega), ?_⟩
    · skip
      obtain ⟨q, hq⟩ : ∃ q : Nat, min (k + more.size) t.size = q := ⟨_, rfl⟩
      have hqt : q ≤ t.size := by omega
      obtain ⟨xa, ha⟩ : ∃ x, B ((t.data.toList.take k).drop 0) = x := ⟨_, rfl⟩
      have za : xa.size ≤ t.size := by rw [← ha, B_size, List.length_drop, List.length_take]; omega
      have sla : SliceR E 9 (pS t) none (some (pI k)) (pS xa) := by rw [← ha]; exact sliceSV 0 k rfl rfl rfl ⟨Nat.zero_le _, by omega⟩
      obtain ⟨xb, hb⟩ : ∃ x, B (xa.data.toList ++ more.data.toList) = x := ⟨_, rfl⟩
      have zb : xb.size ≤ t.size + more.size := by rw [← hb, B_size, List.length_append, sz_len, sz_len]; omega
      obtain ⟨xc, hc⟩ : ∃ x, B ((t.data.toList.take t.size).drop q) = x := ⟨_, rfl⟩
      have zc : xc.size ≤ t.size := by rw [← hc, B_size, List.length_drop, List.length_take]; omega
      have slc : SliceR E 9 (pS t) (some (pI q)) none (pS xc) := by rw [← hc]; exact sliceSV q t.size rfl rfl rfl ⟨hqt, Nat.le_refl _⟩
      obtain ⟨xd, hd⟩ : ∃ x, B (xb.data.toList ++ xc.data.toList) = x := ⟨_, rfl⟩
      obtain ⟨xe, he⟩ : ∃ x, B ((t.data.toList.take t.size).drop k) = x := ⟨_, rfl⟩
      have ze : xe.size ≤ t.size := by rw [← he, B_size, List.length_drop, List.length_take]; omega
      have sle : SliceR E 9 (pS t) (some (pI k)) none (pS xe) := by rw [← he]; exact sliceSV k t.size rfl rfl rfl ⟨by omega, Nat.le_refl _⟩
      obtain ⟨xf, hf⟩ : ∃ x, B (xb.data.toList ++ xe.data.toList) = x := ⟨_, rfl⟩
      refine ⟨_, sla, ?_⟩
      refine ⟨_, catL hb.symm (by omega), ?_⟩
      refine ⟨_, addV rfl (by omega) (by omega), ?_⟩
      refine ⟨_, minV (z := (q : Int)) (by show min ((k : Int) + (more.size : Int)) (t.size : Int) = q; omega), ?_⟩
      refine ⟨_, slc, ?_⟩
      refine ⟨_, catL hd.symm (by omega), ?_⟩
      refine ⟨_, sla, ?_⟩
      refine ⟨_, catL hb.symm (by omega), ?_⟩
      refine ⟨_, sle, ?_⟩
      refine ⟨_, catL hf.symm (by omega), ?_⟩
      refine ⟨_, sla, ?_⟩
      refine ⟨_, ⟨_, rfl, rfl⟩, ?_⟩
      refine Loop.cut (α := Nat) (fun j => j ≤ 6) (fun j => [(11, pB true), (91, .c (.row (rowB [s, t, xd, xf, xa, u]))), (92, pI 6), (93, pI j)]) (fun _ => []) (fun _ => []) (fun j => 6 - j) 0 0 (fun _ => rfl) (fun _ => rfl) (fun _ => rfl) (Nat.zero_le _) ⟨⟨rfl, rfl, rfl, rfl, trivial⟩, rfl, rfl⟩ ?_
      rintro j f2 hj
      have hj : j ≤ 6 := hj
      by_cases hjl : j < 6
      · have hg := rowB_get (l := [s, t, xd, xf, xa, u]) (j := j) hjl
        obtain ⟨x, hx⟩ : ∃ x, List.getD [s, t, xd, xf, xa, u] j Lx.e0 = x := ⟨_, rfl⟩
        rw [hx] at hg
        have hL := Parse_ok x
        have hR := rParse_ok x
        rw [parse_same] at hR
        have hS := rSame_ok (parseP x).1 (parseP x).1 (by have := (parseP_size x).1; omega)
        rw [same_refl] at hS
        obtain ⟨⟨a, e, n⟩, hlx⟩ : ∃ r, parseP x = r := ⟨_, rfl⟩
        rw [hlx] at hL hR hS
        refine ⟨_, ltT (by omega), ?_⟩
        refine ⟨_, idxV (j := j) hg rfl rfl rfl rfl, ?_⟩
        refine ⟨_, CallR.mk1 hL rfl rfl, ?_⟩
        refine ⟨_, CallR.mk1 hR rfl rfl, ?_⟩
        refine ⟨_, CallR.mk1 hS rfl rfl, ?_⟩
        refine ⟨_, neN rfl, ?_⟩
        refine ⟨_, neN rfl, ?_⟩
        refine ⟨_, addV rfl (by omega) (by omega), ?_⟩
        exact ⟨j + 1, by omega, by omega, ⟨rfl, rfl, rfl, rfl, trivial⟩, ⟨_, rfl⟩, rfl⟩
      · refine ⟨_, ltN (by omega), ?_⟩
        exact Ret.mk _ rfl rfl rfl
end Go.Proofs.YtmfdkhnfjbgbhaaGreatDoor.Pr
