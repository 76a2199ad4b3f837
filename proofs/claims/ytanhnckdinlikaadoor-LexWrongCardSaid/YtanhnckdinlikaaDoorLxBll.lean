/- Texts that are merged: LxP, LxQ, LxR, LxS, LxT. -/
import Derived.Test.YtanhnckdinlikaaDoorLxAll
/- LexTells as a contract. -/
namespace Go.Proofs.YtanhnckdinlikaaDoor.Lx
open Go Go.RowKit Go.Proofs.YtanhnckdinlikaaDoor.Pm Go.Proofs.YtanhnckdinlikaaDoor.Pl
open Go.Proofs.YtanhnckdinlikaaDoor.Q (wordsL wordsB)
set_option linter.unusedVariables false
set_option maxHeartbeats 1000000
theorem catB' {x y : ByteArray} {ti : Nat} (hb : x.size + y.size ≤ 9223372036854775807) : BinR E ti .add (.c (.str x)) (.c (.str y)) (.c (.str (B (x.data.toList ++ y.data.toList)))) := catL rfl hb
theorem minV {a b z : Int} (h : min a b = z) : minF [.c (.int .i64 a), .c (.int .i64 b)] = some (.c (.int .i64 z)) := by
  subst h
  show (match minG a [PV.c (.int .i64 b)] with
    | some z => some (PV.c (.int .i64 z))
    | none => none) = _
  have : minG a [PV.c (.int .i64 b)] = some (min a b) := by
    simp only [minG]
    simp
    omega
  rw [this]
theorem lexF_short (s : ByteArray) : (lexF s).1.length ≤ 4611686018427387904 := by
  rcases lexF_cases s with h | ⟨p, h⟩ | ⟨h1, -, h⟩
  · rw [h]; exact Nat.zero_le _
  · rw [h]; exact Nat.zero_le _
  · rw [h]
    show (toksF s).length ≤ _
    unfold toksF scan
    rw [List.length_map]
    have h3 := scanF_len (s.size + 1) s.data.toList 0
    omega
theorem piece_sz (k n : Int) : (pieceF k n).size ≤ 100 := by
  unfold pieceF
  split
  · exact Nat.le_trans (sz_getD (l := lawWs) (m := 6) (by decide) _) (by decide)
  · exact Nat.le_trans (sz_getD (l := signBs) (m := 1) (by decide) _) (by decide)
  · rw [B_size]; have := digs_len (pkN n 100001); omega
  · rw [B_size]
    have h1 := digs_len (pkN n 1000000 / 100)
    have h2 := digs_len (pkN n 1000000 / 10 % 10)
    have h3 := digs_len (pkN n 1000000 % 10)
    simp only [List.length_append, List.length_cons, List.length_nil]
    omega
  · unfold sellerF
    rw [B_size, List.length_append]
    have := digs_len (pkN n 60 / 6)
    have h2 := sz_getD (l := nameBs) (m := 6) (by decide) (pkN n 60 % 6)
    rw [← sz_len] at h2
    omega
def sepBs : List ByteArray := [⟨#[32]⟩, ⟨#[10]⟩, ⟨#[32, 32]⟩]
theorem arr_get {z : List (List Int)} {i : Nat} (hz : ∀ y ∈ z, y.length = 2 ∧ ∀ n ∈ y, I64 n) (hi : i < z.length) : ∃ a b, z[i]? = some [a, b] ∧ I64 a ∧ I64 b ∧ (encA z)[i]? = some [.int .i64 a, .int .i64 b] := by
  obtain ⟨y, hy⟩ : ∃ y, z[i]? = some y := ⟨_, List.getElem?_eq_getElem hi⟩
  obtain ⟨h1, h2⟩ := hz y (List.mem_of_getElem? hy)
  match y, h1 with
  | [a, b], _ =>
    refine ⟨a, b, hy, h2 a (by simp), h2 b (by simp), ?_⟩
    unfold encA
    rw [List.getElem?_map, hy]
    rfl
theorem encA_len (z : List (List Int)) : (encA z).length = z.length := by unfold encA; simp
theorem LexTells_ok (s : ByteArray) (hs : s.size ≤ 140737488351232) (z : List (List Int)) (hz : ∀ y ∈ z, y.length = 2 ∧ ∀ n ∈ y, I64 n) (at_ : Int) (hat : I64 at_) (more : ByteArray) (hm : more.size ≤ 140737488351232) : Ok E 3 [] [pS s, .c (.row (encA z)), pI at_, pS more] (pB true) [] := by
  have hzl := encA_len z
  refine Ok.enter hE Tryd.func3 rfl (by decide +kernel) (by kernel_rfl) rfl rfl (Nat.le_of_ble_eq_true rfl) rfl ?_
  refine ⟨_, CallR.mk1 awake_ok rfl rfl, ?_⟩
  refine Loop.run (α := Nat × ByteArray) (fun x => x.1 ≤ 30 ∧ x.2.size ≤ 110 * x.1) (fun x => [(0, pS s), (1, .c (.row (encA z))), (2, pI at_), (3, pS more), (9, pB true), (10, pS x.2), (11, pI x.1)]) (fun _ => []) (fun _ => []) (fun x => 30 - x.1) (0, e0) ⟨Nat.zero_le _, Nat.le_refl _⟩ ⟨⟨rfl, rfl, rfl, rfl, rfl, rfl, rfl, trivial⟩, rfl, rfl⟩ ?_
  rintro ⟨i, t⟩ f ⟨hi, ht⟩
  have hi : i ≤ 30 := hi
  have ht : t.size ≤ 110 * i := ht
  have hcase : (i < z.length ∧ i < 30) ∨ ¬ i < z.length ∨ (i < z.length ∧ ¬ i < 30) := by omega
  rcases hcase with ⟨h1, h2⟩ | h1 | ⟨h1, h2⟩
  · obtain ⟨a, b, -, ha, hb, hab⟩ := arr_get hz h1
    have hP := Piece_ok a b ha hb
    have hpz := piece_sz a b
    have hg := rowB_get (l := sepBs) (j := i % 3) (by show _ < 3; omega)
    have hsz := sz_getD (l := sepBs) (m := 2) (by decide) (i % 3)
    refine ⟨_, ltT (by rw [hzl]; omega), ?_⟩
    refine ⟨_, ltT (by omega), ?_⟩
    refine ⟨_, idxV (j := i) hab rfl rfl rfl rfl, ?_⟩
    refine ⟨_, ⟨rfl⟩, ?_⟩
    refine ⟨_, idxV (j := i) hab rfl rfl rfl rfl, ?_⟩
    refine ⟨_, ⟨rfl⟩, ?_⟩
    refine ⟨_, CallR.mk1 hP rfl rfl, ?_⟩
    refine ⟨_, catB' (by omega), ?_⟩
    refine ⟨_, ⟨_, rfl, rfl⟩, ?_⟩
    refine ⟨_, remV (by decide) (tmodN i 3), ?_⟩
    refine ⟨_, idxV (j := i % 3) hg rfl rfl rfl rfl, ?_⟩
    refine ⟨_, catB' (by simp only [B_size, List.length_append, sz_len]; omega), ?_⟩
    refine ⟨_, addV rfl (by omega) (by omega), ?_⟩
    exact ⟨(i + 1, _), ⟨by show i + 1 ≤ 30; omega, by show ByteArray.size (B (_ ++ _)) ≤ 110 * (i + 1); simp only [B_size, B_toList, List.length_append, sz_len]; omega⟩, by show 30 - (i + 1) < 30 - i; omega, ⟨rfl, rfl, rfl, rfl, rfl, rfl, rfl, trivial⟩, rfl, rfl⟩
  · refine ⟨_, ltN (by rw [hzl]; omega), ?_⟩
    · skip
      have hk := pickN_ok at_ ((t.size : Int) + 1) hat (by omega)
      have hkl := (pkN_eq (c := at_) (n := (t.size : Int) + 1) (by omega)).2
      obtain ⟨k, hkk⟩ : ∃ k, pkN at_ ((t.size : Int) + 1) = k := ⟨_, rfl⟩
      rw [hkk] at hk hkl
      have htl := sz_len t
      have hml := sz_len more
      obtain ⟨q, hq⟩ : ∃ q : Nat, min (k + more.size) t.size = q := ⟨_, rfl⟩
      have hqt : q ≤ t.size := by omega
      obtain ⟨x62, h62⟩ : ∃ x, B ((t.data.toList.take k).drop 0) = x := ⟨_, rfl⟩
      have z62 : x62.size ≤ t.size := by rw [← h62, B_size, List.length_drop, List.length_take]; omega
      have sl62 : SliceR E 9 (pS t) none (some (pI k)) (pS x62) := by rw [← h62]; exact sliceSV 0 k rfl rfl rfl ⟨Nat.zero_le _, by omega⟩
      obtain ⟨x64, h64⟩ : ∃ x, B (x62.data.toList ++ more.data.toList) = x := ⟨_, rfl⟩
      have z64 : x64.size ≤ t.size + more.size := by rw [← h64, B_size, List.length_append, sz_len, sz_len]; omega
      obtain ⟨x73, h73⟩ : ∃ x, B ((t.data.toList.take t.size).drop q) = x := ⟨_, rfl⟩
      have z73 : x73.size ≤ t.size := by rw [← h73, B_size, List.length_drop, List.length_take]; omega
      have sl73 : SliceR E 9 (pS t) (some (pI q)) none (pS x73) := by rw [← h73]; exact sliceSV q t.size rfl rfl rfl ⟨hqt, Nat.le_refl _⟩
      obtain ⟨x74, h74⟩ : ∃ x, B (x64.data.toList ++ x73.data.toList) = x := ⟨_, rfl⟩
      obtain ⟨x82, h82⟩ : ∃ x, B ((t.data.toList.take t.size).drop k) = x := ⟨_, rfl⟩
      have z82 : x82.size ≤ t.size := by rw [← h82, B_size, List.length_drop, List.length_take]; omega
      have sl82 : SliceR E 9 (pS t) (some (pI k)) none (pS x82) := by rw [← h82]; exact sliceSV k t.size rfl rfl rfl ⟨by omega, Nat.le_refl _⟩
      obtain ⟨x83, h83⟩ : ∃ x, B (x64.data.toList ++ x82.data.toList) = x := ⟨_, rfl⟩
      obtain ⟨y1, g1⟩ : ∃ x, B (s.data.toList ++ (⟨#[49]⟩ : ByteArray).data.toList) = x := ⟨_, rfl⟩
      obtain ⟨y2, g2⟩ : ∃ x, B ((⟨#[48]⟩ : ByteArray).data.toList ++ more.data.toList) = x := ⟨_, rfl⟩
      refine ⟨_, addV rfl (by omega) (by omega), ?_⟩
      refine ⟨_, CallR.mk1 hk rfl rfl, ?_⟩
      refine ⟨_, sl62, ?_⟩
      refine ⟨_, catL h64.symm (by omega), ?_⟩
      refine ⟨_, addV rfl (by omega) (by omega), ?_⟩
      refine ⟨_, minV (z := (q : Int)) (by show min ((k : Int) + (more.size : Int)) (t.size : Int) = q; omega), ?_⟩
      refine ⟨_, sl73, ?_⟩
      refine ⟨_, catL h74.symm (by omega), ?_⟩
      refine ⟨_, sl62, ?_⟩
      refine ⟨_, catL h64.symm (by omega), ?_⟩
      refine ⟨_, sl82, ?_⟩
      refine ⟨_, catL h83.symm (by omega), ?_⟩
      refine ⟨_, sl62, ?_⟩
      refine ⟨_, ⟨_, rfl, rfl⟩, ?_⟩
      refine Loop.run (α := Nat) (fun j => j ≤ 5) (fun j => [(0, pS s), (3, pS more), (9, pB true), (87, .c (.row (rowB [s, t, x74, x83, x62]))), (88, pI 5), (89, pI j)]) (fun _ => []) (fun _ => []) (fun j => 5 - j) 0 (Nat.zero_le _) ⟨⟨rfl, rfl, rfl, rfl, rfl, rfl, trivial⟩, rfl, rfl⟩ ?_
      rintro j f2 hj
      have hj : j ≤ 5 := hj
      by_cases hjl : j < 5
      · have hg := rowB_get (l := [s, t, x74, x83, x62]) (j := j) hjl
        obtain ⟨x, hx⟩ : ∃ x, List.getD [s, t, x74, x83, x62] j e0 = x := ⟨_, rfl⟩
        rw [hx] at hg
        obtain ⟨⟨l, e, m⟩, hlx⟩ : ∃ r, lexF x = r := ⟨_, rfl⟩
        have hL := Lex_ok x
        have hR := rLex_ok x
        have hS := rSame_ok (lexF x).1 (lexF x).1 (lexF_short x)
        rw [eqToks_refl] at hS
        rw [hlx] at hL hR hS
        refine ⟨_, ltT (by omega), ?_⟩
        refine ⟨_, idxV (j := j) hg rfl rfl rfl rfl, ?_⟩
        refine ⟨_, CallR.mk1 hL rfl rfl, ?_⟩
        refine ⟨_, CallR.mk1 hR rfl rfl, ?_⟩
        refine ⟨_, CallR.mk1 hS rfl rfl, ?_⟩
        refine ⟨_, neN rfl, ?_⟩
        refine ⟨_, neN rfl, ?_⟩
        refine ⟨_, addV rfl (by omega) (by omega), ?_⟩
        exact ⟨j + 1, by omega, by omega, ⟨rfl, rfl, rfl, rfl, rfl, rfl, trivial⟩, rfl, rfl⟩
      · refine ⟨_, ltN (by omega), ?_⟩
        refine ⟨_, catL g1.symm (by show _ + 1 ≤ _; omega), ?_⟩
        refine ⟨_, catL g2.symm (by show 1 + _ ≤ _; omega), ?_⟩
        refine ⟨_, ⟨_, rfl, rfl⟩, ?_⟩
        refine Loop.run (α := Nat) (fun j => j ≤ 4) (fun j => [(9, pB true), (126, .c (.row (rowB [s, more, y1, y2]))), (127, pI 4), (128, pI j)]) (fun _ => []) (fun _ => []) (fun j => 4 - j) 0 (Nat.zero_le _) ⟨⟨rfl, rfl, rfl, rfl, trivial⟩, rfl, rfl⟩ ?_
        rintro j f3 hj
        have hj : j ≤ 4 := hj
        by_cases hjl : j < 4
        · have hg := rowB_get (l := [s, more, y1, y2]) (j := j) hjl
          obtain ⟨x, hx⟩ : ∃ x, List.getD [s, more, y1, y2] j e0 = x := ⟨_, rfl⟩
          rw [hx] at hg
          refine ⟨_, ltT (by omega), ?_⟩
          refine ⟨_, idxV (j := j) hg rfl rfl rfl rfl, ?_⟩
          refine ⟨_, CallR.mk1 (Name_ok x) rfl rfl, ?_⟩
          refine ⟨_, CallR.mk1 (rName_ok x) rfl rfl, ?_⟩
          refine ⟨_, neBN (beq_self_eq_true _), ?_⟩
          refine ⟨_, CallR.mk1 (Word_ok x) rfl rfl, ?_⟩
          refine ⟨_, CallR.mk1 (rWord_ok x) rfl rfl, ?_⟩
          refine ⟨_, neBN (beq_self_eq_true _), ?_⟩
          refine ⟨_, addV rfl (by omega) (by omega), ?_⟩
          exact ⟨j + 1, by omega, by omega, ⟨rfl, rfl, rfl, rfl, trivial⟩, rfl, rfl⟩
        · refine ⟨_, ltN (by omega), ?_⟩
          exact Ret.mk _ rfl rfl rfl
  · refine ⟨_, ltT (by rw [hzl]; omega), ?_⟩
    refine ⟨_, ltN (by omega), ?_⟩
    · skip
      have hk := pickN_ok at_ ((t.size : Int) + 1) hat (by omega)
      have hkl := (pkN_eq (c := at_) (n := (t.size : Int) + 1) (by omega)).2
      obtain ⟨k, hkk⟩ : ∃ k, pkN at_ ((t.size : Int) + 1) = k := ⟨_, rfl⟩
      rw [hkk] at hk hkl
      have htl := sz_len t
      have hml := sz_len more
      obtain ⟨q, hq⟩ : ∃ q : Nat, min (k + more.size) t.size = q := ⟨_, rfl⟩
      have hqt : q ≤ t.size := by omega
      obtain ⟨x62, h62⟩ : ∃ x, B ((t.data.toList.take k).drop 0) = x := ⟨_, rfl⟩
      have z62 : x62.size ≤ t.size := by rw [← h62, B_size, List.length_drop, List.length_take]; omega
      have sl62 : SliceR E 9 (pS t) none (some (pI k)) (pS x62) := by rw [← h62]; exact sliceSV 0 k rfl rfl rfl ⟨Nat.zero_le _, by omega⟩
      obtain ⟨x64, h64⟩ : ∃ x, B (x62.data.toList ++ more.data.toList) = x := ⟨_, rfl⟩
      have z64 : x64.size ≤ t.size + more.size := by rw [← h64, B_size, List.length_append, sz_len, sz_len]; omega
      obtain ⟨x73, h73⟩ : ∃ x, B ((t.data.toList.take t.size).drop q) = x := ⟨_, rfl⟩
      have z73 : x73.size ≤ t.size := by rw [← h73, B_size, List.length_drop, List.length_take]; omega
      have sl73 : SliceR E 9 (pS t) (some (pI q)) none (pS x73) := by rw [← h73]; exact sliceSV q t.size rfl rfl rfl ⟨hqt, Nat.le_refl _⟩
      obtain ⟨x74, h74⟩ : ∃ x, B (x64.data.toList ++ x73.data.toList) = x := ⟨_, rfl⟩
      obtain ⟨x82, h82⟩ : ∃ x, B ((t.data.toList.take t.size).drop k) = x := ⟨_, rfl⟩
      have z82 : x82.size ≤ t.size := by rw [← h82, B_size, List.length_drop, List.length_take]; omega
      have sl82 : SliceR E 9 (pS t) (some (pI k)) none (pS x82) := by rw [← h82]; exact sliceSV k t.size rfl rfl rfl ⟨by omega, Nat.le_refl _⟩
      obtain ⟨x83, h83⟩ : ∃ x, B (x64.data.toList ++ x82.data.toList) = x := ⟨_, rfl⟩
      obtain ⟨y1, g1⟩ : ∃ x, B (s.data.toList ++ (⟨#[49]⟩ : ByteArray).data.toList) = x := ⟨_, rfl⟩
      obtain ⟨y2, g2⟩ : ∃ x, B ((⟨#[48]⟩ : ByteArray).data.toList ++ more.data.toList) = x := ⟨_, rfl⟩
      refine ⟨_, addV rfl (by omega) (by omega), ?_⟩
      refine ⟨_, CallR.mk1 hk rfl rfl, ?_⟩
      refine ⟨_, sl62, ?_⟩
      refine ⟨_, catL h64.symm (by omega), ?_⟩
      refine ⟨_, addV rfl (by omega) (by omega), ?_⟩
      refine ⟨_, minV (z := (q : Int)) (by show min ((k : Int) + (more.size : Int)) (t.size : Int) = q; omega), ?_⟩
      refine ⟨_, sl73, ?_⟩
      refine ⟨_, catL h74.symm (by omega), ?_⟩
      refine ⟨_, sl62, ?_⟩
      refine ⟨_, catL h64.symm (by omega), ?_⟩
      refine ⟨_, sl82, ?_⟩
      refine ⟨_, catL h83.symm (by omega), ?_⟩
      refine ⟨_, sl62, ?_⟩
      refine ⟨_, ⟨_, rfl, rfl⟩, ?_⟩
      refine Loop.run (α := Nat) (fun j => j ≤ 5) (fun j => [(0, pS s), (3, pS more), (9, pB true), (87, .c (.row (rowB [s, t, x74, x83, x62]))), (88, pI 5), (89, pI j)]) (fun _ => []) (fun _ => []) (fun j => 5 - j) 0 (Nat.zero_le _) ⟨⟨rfl, rfl, rfl, rfl, rfl, rfl, trivial⟩, rfl, rfl⟩ ?_
      rintro j f2 hj
      have hj : j ≤ 5 := hj
      by_cases hjl : j < 5
      · have hg := rowB_get (l := [s, t, x74, x83, x62]) (j := j) hjl
        obtain ⟨x, hx⟩ : ∃ x, List.getD [s, t, x74, x83, x62] j e0 = x := ⟨_, rfl⟩
        rw [hx] at hg
        obtain ⟨⟨l, e, m⟩, hlx⟩ : ∃ r, lexF x = r := ⟨_, rfl⟩
        have hL := Lex_ok x
        have hR := rLex_ok x
        have hS := rSame_ok (lexF x).1 (lexF x).1 (lexF_short x)
        rw [eqToks_refl] at hS
        rw [hlx] at hL hR hS
        refine ⟨_, ltT (by omega), ?_⟩
        refine ⟨_, idxV (j := j) hg rfl rfl rfl rfl, ?_⟩
        refine ⟨_, CallR.mk1 hL rfl rfl, ?_⟩
        refine ⟨_, CallR.mk1 hR rfl rfl, ?_⟩
        refine ⟨_, CallR.mk1 hS rfl rfl, ?_⟩
        refine ⟨_, neN rfl, ?_⟩
        refine ⟨_, neN rfl, ?_⟩
        refine ⟨_, addV rfl (by omega) (by omega), ?_⟩
        exact ⟨j + 1, by omega, by omega, ⟨rfl, rfl, rfl, rfl, rfl, rfl, trivial⟩, rfl, rfl⟩
      · refine ⟨_, ltN (by omega), ?_⟩
        refine ⟨_, catL g1.symm (by show _ + 1 ≤ _; omega), ?_⟩
        refine ⟨_, catL g2.symm (by show 1 + _ ≤ _; omega), ?_⟩
        refine ⟨_, ⟨_, rfl, rfl⟩, ?_⟩
        refine Loop.run (α := Nat) (fun j => j ≤ 4) (fun j => [(9, pB true), (126, .c (.row (rowB [s, more, y1, y2]))), (127, pI 4), (128, pI j)]) (fun _ => []) (fun _ => []) (fun j => 4 - j) 0 (Nat.zero_le _) ⟨⟨rfl, rfl, rfl, rfl, trivial⟩, rfl, rfl⟩ ?_
        rintro j f3 hj
        have hj : j ≤ 4 := hj
        by_cases hjl : j < 4
        · have hg := rowB_get (l := [s, more, y1, y2]) (j := j) hjl
          obtain ⟨x, hx⟩ : ∃ x, List.getD [s, more, y1, y2] j e0 = x := ⟨_, rfl⟩
          rw [hx] at hg
          refine ⟨_, ltT (by omega), ?_⟩
          refine ⟨_, idxV (j := j) hg rfl rfl rfl rfl, ?_⟩
          refine ⟨_, CallR.mk1 (Name_ok x) rfl rfl, ?_⟩
          refine ⟨_, CallR.mk1 (rName_ok x) rfl rfl, ?_⟩
          refine ⟨_, neBN (beq_self_eq_true _), ?_⟩
          refine ⟨_, CallR.mk1 (Word_ok x) rfl rfl, ?_⟩
          refine ⟨_, CallR.mk1 (rWord_ok x) rfl rfl, ?_⟩
          refine ⟨_, neBN (beq_self_eq_true _), ?_⟩
          refine ⟨_, addV rfl (by omega) (by omega), ?_⟩
          exact ⟨j + 1, by omega, by omega, ⟨rfl, rfl, rfl, rfl, trivial⟩, rfl, rfl⟩
        · refine ⟨_, ltN (by omega), ?_⟩
          exact Ret.mk _ rfl rfl rfl
end Go.Proofs.YtanhnckdinlikaaDoor.Lx

/- What a scan tells of texts that are moved, and of a token alone. -/
namespace Go.Proofs.YtanhnckdinlikaaDoor.Lx
open Go Go.RowKit Go.Proofs.YtanhnckdinlikaaDoor.Pm Go.Proofs.YtanhnckdinlikaaDoor.Pl
open Go.Proofs.YtanhnckdinlikaaDoor.Q (wordsL wordsB)
set_option linter.unusedVariables false
set_option maxHeartbeats 1000000
/-- so much further on -/
def onT (n : Nat) (t : Tok) : Tok := ⟨t.kind, t.text, t.n, t.place + n⟩
def onB (n : Nat) (x : Tok × Bool) : Tok × Bool := (onT n x.1, x.2)
theorem scanF_on (n : Nat) : ∀ (f : Nat) (l : List UInt8) (p : Nat), scanF f l (p + n) = (scanF f l p).map (onB n)
  | 0, l, p => rfl
  | f + 1, l, p => by
    rw [scanF, scanF]
    obtain ⟨b, hb⟩ : ∃ b, runB blanksB l = b := ⟨_, rfl⟩
    rw [hb]
    obtain ⟨r, hr⟩ : ∃ r, firstF (l.drop b) = r := ⟨_, rfl⟩
    rw [hr]
    split
    · show [(_, _)] = [_]
      unfold onB onT
      dsimp only
      congr 3
      omega
    · rw [List.map_cons, show p + n + b + r.1.text.size = p + b + r.1.text.size + n by omega, scanF_on n f]
      congr 1
      unfold onB onT
      dsimp only
      congr 2
      omega
theorem runB_app (set : ByteArray) : ∀ (b l : List UInt8), b.all (inB set) = true → runB set (b ++ l) = b.length + runB set l
  | [], l, _ => by simp
  | c :: b, l, h => by
    rw [List.all_cons, Bool.and_eq_true] at h
    rw [List.cons_append, runB, if_pos h.1, runB_app set b l h.2, List.length_cons]
    omega
theorem runB_stop (set : ByteArray) (c : UInt8) (hc : inB set c = false) : ∀ (w r : List UInt8), runB set (w ++ c :: r) = runB set w
  | [], r => by rw [List.nil_append, runB_no set c r hc]; rfl
  | d :: w, r => by
    rw [List.cons_append, runB, runB, runB_stop set c hc w r]
theorem runB_allT (set : ByteArray) : ∀ w : List UInt8, w.all (inB set) = true → runB set w = w.length
  | [], _ => rfl
  | c :: w, h => by
    rw [List.all_cons, Bool.and_eq_true] at h
    rw [runB, if_pos h.1, runB_allT set w h.2, List.length_cons]
theorem runB_take (set : ByteArray) : ∀ l : List UInt8, (l.take (runB set l)).all (inB set) = true
  | [] => rfl
  | c :: l => by
    rw [runB]
    split
    · rename_i h
      rw [List.take_succ_cons, List.all_cons, h, runB_take set l]; rfl
    · rfl
theorem scanF_fuel : ∀ (f g : Nat) (l : List UInt8) (p : Nat), l.length < f → l.length < g → scanF f l p = scanF g l p
  | 0, _, l, p, h, _ => by omega
  | _ + 1, 0, l, p, _, h => by omega
  | f + 1, g + 1, l, p, hf, hg => by
    rw [scanF, scanF]
    obtain ⟨b, hb⟩ : ∃ b, runB blanksB l = b := ⟨_, rfl⟩
    rw [hb]
    by_cases hc : (firstF (l.drop b)).2 = false ∨ (firstF (l.drop b)).1.kind = 5
    · rw [if_pos hc, if_pos hc]
    · rw [if_neg hc, if_neg hc]
      have h2 : (firstF (l.drop b)).2 = true := by
        cases h : (firstF (l.drop b)).2 with
        | true => rfl
        | false => exact absurd (.inl h) hc
      obtain ⟨s1, s2⟩ := first_fits _ h2 (fun h => hc (.inr h))
      have hd : (l.drop b).length ≤ l.length := by rw [List.length_drop]; omega
      have hl : ((l.drop b).drop (firstF (l.drop b)).1.text.size).length < l.length := by
        rw [List.length_drop]; omega
      rw [scanF_fuel f g _ _ (by omega) (by omega)]
theorem scan_eq (s : ByteArray) {f : Nat} (h : s.size < f) : scan s = scanF f s.data.toList 0 := by
  unfold scan
  exact scanF_fuel _ _ _ _ (by rw [sz_len]; omega) (by rw [sz_len]; omega)
/-- blanks ahead -/
theorem scanF_pre (f : Nat) (b l : List UInt8) (p : Nat) (hb : b.all (inB blanksB) = true) : scanF (f + 1) (b ++ l) p = scanF (f + 1) l (p + b.length) := by
  rw [scanF, scanF, runB_app _ _ _ hb, List.drop_append, List.drop_of_length_le (by omega), List.nil_append, show b.length + runB blanksB l - b.length = runB blanksB l by omega, show p + (b.length + runB blanksB l) = p + b.length + runB blanksB l by omega]
theorem tellF_on (n : Nat) : ∀ l : List (Tok × Bool), tellF (l.map (onB n)) = (tellF l).map (· + (n : Int))
  | [] => rfl
  | (t, true) :: l => by rw [List.map_cons]; show tellF (l.map (onB n)) = _; rw [tellF_on n l]; rfl
  | (t, false) :: l => rfl
def placeF (e at_ : Int) (n : Nat) : Int := if e = 0 then at_ else at_ + n
theorem lexF_shift (b x : ByteArray) (hb : b.data.toList.all (inB blanksB) = true) (h8 : b.size ≤ 8) (hx : x.size ≤ 1900) {l : List Tok} {e m : Int} (h : lexF x = (l, e, m)) :
    lexF (B (b.data.toList ++ x.data.toList)) = (l.map (onT b.size), e, placeF e m b.size) := by
  have hz : (B (b.data.toList ++ x.data.toList)).size = b.size + x.size := by rw [B_size, List.length_append, sz_len, sz_len]
  have hs : scan (B (b.data.toList ++ x.data.toList)) = (scan x).map (onB b.size) := by
    rw [scan_eq _ (f := b.size + x.size + 1) (by omega), scan_eq x (f := b.size + x.size + 1) (by omega), B_toList, scanF_pre _ _ _ _ hb, sz_len, scanF_on]
  unfold lexF at h ⊢
  rw [if_neg (by omega)] at h ⊢
  rw [hs, tellF_on]
  unfold toksF at h ⊢
  rw [hs]
  cases ht : tellF (scan x) with
  | some p =>
    rw [ht] at h
    injection h with h1 h2
    injection h2 with h2 h3
    subst h1; subst h2; subst h3
    rfl
  | none =>
    rw [ht] at h
    injection h with h1 h2
    injection h2 with h2 h3
    subst h1; subst h2; subst h3
    show (_, _, _) = (_, _, _)
    rw [List.map_map, List.map_map]
    rfl
/-! ### a token alone -/
structure GoodTok (N : Nat) (t : Tok) : Prop where
  h : ∃ m, (firstF m).2 = true ∧ (firstF m).1.kind ≠ 5 ∧ t.kind = (firstF m).1.kind ∧ t.text = (firstF m).1.text ∧ t.n = (firstF m).1.n
  sz : t.text.size ≤ N
def Chain (N : Nat) : List (Tok × Bool) → Int → Prop
  | [], _ => True
  | [x], p => p ≤ x.1.place
  | x :: y :: r, p => p ≤ x.1.place ∧ GoodTok N x.1 ∧ Chain N (y :: r) (x.1.place + x.1.text.size)
theorem chain_scan (N : Nat) : ∀ (f : Nat) (l : List UInt8) (p : Nat), l.length ≤ N → Chain N (scanF f l p) p
  | 0, l, p, _ => trivial
  | f + 1, l, p, hN => by
    rw [scanF]
    obtain ⟨b, hb⟩ : ∃ b, runB blanksB l = b := ⟨_, rfl⟩
    rw [hb]
    obtain ⟨r, hr⟩ : ∃ r, firstF (l.drop b) = r := ⟨_, rfl⟩
    rw [hr]
    split
    · show (p : Int) ≤ ((p + b : Nat) : Int)
      omega
    · rename_i hc
      have h2 : r.2 = true := by
        cases h : r.2 with
        | true => rfl
        | false => exact absurd (.inl h) hc
      obtain ⟨s1, s2⟩ := first_fits (l.drop b) (by rw [hr]; exact h2) (by rw [hr]; exact fun h => hc (.inr h))
      rw [hr, List.length_drop] at s2
      have IH := chain_scan N f ((l.drop b).drop r.1.text.size) (p + b + r.1.text.size) (by rw [List.length_drop, List.length_drop]; omega)
      cases hq : scanF f ((l.drop b).drop r.1.text.size) (p + b + r.1.text.size) with
      | nil => show (p : Int) ≤ ((p + b : Nat) : Int); omega
      | cons y q =>
        rw [hq] at IH
        refine ⟨by show (p : Int) ≤ ((p + b : Nat) : Int); omega, ⟨⟨l.drop b, by rw [hr]; exact h2, by rw [hr]; exact fun h => hc (.inr h), by rw [hr], by rw [hr], by rw [hr]⟩, by show r.1.text.size ≤ N; omega⟩, ?_⟩
        have e : (((p + b + r.1.text.size : Nat)) : Int) = ((p + b : Nat) : Int) + (r.1.text.size : Int) := by omega
        rw [e] at IH
        exact IH
theorem chain_get {N : Nat} : ∀ (l : List (Tok × Bool)) (p : Int), Chain N l p → ∀ (i : Nat) (x y : Tok × Bool), l[i]? = some x → l[i + 1]? = some y → GoodTok N x.1 ∧ x.1.place + x.1.text.size ≤ y.1.place
  | [], _, _, i, x, y, hx, _ => by simp at hx
  | [a], _, _, i, x, y, _, hy => by simp at hy
  | a :: b :: r, p, h, 0, x, y, hx, hy => by
    obtain ⟨-, h2, h3⟩ := h
    simp at hx hy
    subst hx; subst hy
    refine ⟨h2, ?_⟩
    cases r with
    | nil => exact h3
    | cons c r => exact h3.1
  | a :: b :: r, p, h, i + 1, x, y, hx, hy => chain_get (b :: r) _ h.2.2 i x y (by simpa using hx) (by simpa using hy)
theorem not_blank {c : UInt8} (h : inB partsB c = true) : inB blanksB c = false := by
  have := all256 (p := fun c => !(inB partsB c) || !(inB blanksB c)) (by decide +kernel) c
  rw [h] at this
  simpa using this
theorem sign_not_blank {c : UInt8} (h : inB signsB c = true) : inB blanksB c = false := by
  have := all256 (p := fun c => !(inB signsB c) || !(inB blanksB c)) (by decide +kernel) c
  rw [h] at this
  simpa using this
/-- the first token's own text, as a text: the same token -/
theorem first_alone {m : List UInt8} (h1 : (firstF m).2 = true) (h5 : (firstF m).1.kind ≠ 5) :
    firstF (firstF m).1.text.data.toList = firstF m ∧ runB blanksB (firstF m).1.text.data.toList = 0 ∧ (firstF m).1.place = 0 := by
  obtain ⟨f1, -⟩ := first_fits m h1 h5
  cases m with
  | nil => exact absurd rfl h5
  | cons c l =>
    rw [firstF] at h1 f1 ⊢
    split
    · rename_i hin
      refine ⟨?_, ?_, rfl⟩
      · show firstF (B [c]).data.toList = _
        rw [B_toList, firstF, if_pos hin]
      · show runB blanksB (B [c]).data.toList = _
        rw [B_toList]
        exact runB_no _ _ _ (sign_not_blank hin)
    · rename_i hin
      rw [if_neg hin] at h1 f1
      rw [(partF_kind _).2, B_size] at f1
      rw [(partF_kind _).2, B_toList]
      have hall := runB_take partsB (c :: l)
      have hp0 : ∀ p : ByteArray, (partF p).1.place = 0 := by intro p; unfold partF; (repeat' split) <;> rfl
      cases hk : (c :: l).take (runB partsB (c :: l)) with
      | nil => rw [hk] at f1; simp at f1
      | cons d q =>
        rw [hk] at hall
        have hd : d = c := by
          have := congrArg (·[0]?) hk
          cases hr : runB partsB (c :: l) with
          | zero => rw [hr] at hk; cases hk
          | succ k => rw [hr] at hk; injection hk with hk; exact hk.symm
        have hdp : inB partsB d = true := by
          rw [List.all_cons, Bool.and_eq_true] at hall
          exact hall.1
        refine ⟨?_, runB_no _ _ _ (not_blank hdp), hp0 _⟩
        rw [firstF, if_neg (by rw [hd]; exact hin), runB_allT _ _ hall, List.take_length]
theorem alone_law {N : Nat} {t : Tok} (hg : GoodTok N t) (hN : N ≤ 2000) : lexF t.text = ([⟨t.kind, t.text, t.n, 0⟩, ⟨5, e0, 0, t.text.size⟩], 0, 0) := by
  obtain ⟨⟨m, h1, h5, k1, k2, k3⟩, hz⟩ := hg
  obtain ⟨f1, f2⟩ := first_fits m h1 h5
  obtain ⟨a1, a2, a3⟩ := first_alone h1 h5
  rw [← k2] at a1 a2
  rw [← k2] at f1
  have hs : scan t.text = [(⟨t.kind, t.text, t.n, 0⟩, true), (⟨5, e0, 0, t.text.size⟩, true)] := by
    rw [scan_eq _ (f := t.text.size + 1 + 1) (by omega), scanF, a2, List.drop_zero, a1]
    rw [if_neg (by rw [h1]; intro h; exact h.elim (fun h => by cases h) h5), ← k2, List.drop_of_length_le (by rw [sz_len]; omega), scanF_end, h1, ← k1, ← k3]
    simp
  unfold lexF toksF
  rw [if_neg (by omega), hs]
  rfl
end Go.Proofs.YtanhnckdinlikaaDoor.Lx

/- LexShift, LexAlone as contracts. -/
namespace Go.Proofs.YtanhnckdinlikaaDoor.Lx
open Go Go.RowKit Go.Proofs.YtanhnckdinlikaaDoor.Pm Go.Proofs.YtanhnckdinlikaaDoor.Pl
open Go.Proofs.YtanhnckdinlikaaDoor.Q (wordsL wordsB)
set_option linter.unusedVariables false
set_option maxHeartbeats 1000000
def bl8 : ByteArray := ⟨#[32, 10, 32, 32, 10, 32, 10, 32]⟩
theorem bl8_all (k : Nat) : (bl8.data.toList.take k).all (inB blanksB) = true := by
  have h : bl8.data.toList.all (inB blanksB) = true := by decide +kernel
  exact List.all_eq_true.2 fun x hx => List.all_eq_true.1 h x (List.mem_of_mem_take hx)
theorem scanF_place : ∀ (f : Nat) (l : List UInt8) (p : Nat) (x : Tok × Bool), x ∈ scanF f l p → (p : Int) ≤ x.1.place ∧ x.1.place ≤ p + l.length
  | 0, l, p, x, h => by cases h
  | f + 1, l, p, x, h => by
    rw [scanF] at h
    obtain ⟨b, hb⟩ : ∃ b, runB blanksB l = b := ⟨_, rfl⟩
    have hbl := runB_le blanksB l
    rw [hb] at h hbl
    obtain ⟨r, hr⟩ : ∃ r, firstF (l.drop b) = r := ⟨_, rfl⟩
    rw [hr] at h
    split at h
    · rw [List.mem_singleton] at h
      subst h
      show (p : Int) ≤ ((p + b : Nat) : Int) ∧ ((p + b : Nat) : Int) ≤ _
      omega
    · rename_i hc
      have h2 : r.2 = true := by
        cases h : r.2 with
        | true => rfl
        | false => exact absurd (.inl h) hc
      obtain ⟨s1, s2⟩ := first_fits (l.drop b) (by rw [hr]; exact h2) (by rw [hr]; exact fun h => hc (.inr h))
      rw [hr, List.length_drop] at s2
      rcases List.mem_cons.1 h with rfl | h
      · show (p : Int) ≤ ((p + b : Nat) : Int) ∧ ((p + b : Nat) : Int) ≤ _
        omega
      · have := scanF_place f _ _ x h
        rw [List.length_drop, List.length_drop] at this
        omega
theorem tellF_mem : ∀ (l : List (Tok × Bool)) (p : Int), tellF l = some p → ∃ x ∈ l, x.1.place = p
  | [], p, h => by cases h
  | (t, true) :: l, p, h => by
    obtain ⟨x, hx, hp⟩ := tellF_mem l p h
    exact ⟨x, List.mem_cons_of_mem _ hx, hp⟩
  | (t, false) :: l, p, h => by
    injection h with h
    exact ⟨_, List.mem_cons_self, h⟩
theorem scan_mem {x : ByteArray} {t : Tok × Bool} (h : t ∈ scan x) : 0 ≤ t.1.place ∧ t.1.place ≤ x.size := by
  have := scanF_place _ _ _ _ h
  rw [sz_len] at this
  omega
theorem lexF_rng {x : ByteArray} {l : List Tok} {e m : Int} (h : lexF x = (l, e, m)) : 0 ≤ m ∧ m ≤ 2000 ∧ l.length ≤ 2001 ∧ ∀ t ∈ l, 0 ≤ t.place ∧ t.place ≤ 2000 := by
  unfold lexF at h
  split at h
  · injection h with h1 h2; injection h2 with h2 h3
    subst h1; subst h3
    exact ⟨by decide, by decide, by decide, fun t ht => by cases ht⟩
  · rename_i hx
    cases ht : tellF (scan x) with
    | some p =>
      rw [ht] at h
      injection h with h1 h2; injection h2 with h2 h3
      subst h1; subst h3
      obtain ⟨y, hy, rfl⟩ := tellF_mem _ _ ht
      have := scan_mem hy
      exact ⟨by omega, by omega, by decide, fun t ht => by cases ht⟩
    | none =>
      rw [ht] at h
      injection h with h1 h2; injection h2 with h2 h3
      subst h1; subst h3
      refine ⟨by decide, by decide, ?_, ?_⟩
      · unfold toksF scan
        rw [List.length_map]
        have := scanF_len (x.size + 1) x.data.toList 0
        omega
      · intro t ht
        obtain ⟨y, hy, rfl⟩ := List.mem_map.1 ht
        have := scan_mem hy
        omega
theorem lexF_toks {x : ByteArray} {l : List Tok} {e m : Int} (h : lexF x = (l, e, m)) (hl : l ≠ []) : x.size ≤ 2000 ∧ l = (scan x).map (·.1) := by
  rcases lexF_cases x with h1 | ⟨p, h1⟩ | ⟨hx, htl, h1⟩
  · rw [h1] at h; injection h with h; exact absurd h.symm hl
  · rw [h1] at h; injection h with h; exact absurd h.symm hl
  · rw [h1] at h; injection h with h; exact ⟨hx, h.symm⟩
theorem chain_at {x : ByteArray} {i : Nat} {y u : Tok} (hx : x.size ≤ 2000) (hy : ((scan x).map (·.1))[i]? = some y) (hu : ((scan x).map (·.1))[i + 1]? = some u) : GoodTok 2000 y ∧ y.place + y.text.size ≤ u.place := by
  have hC := chain_scan 2000 (x.size + 1) x.data.toList 0 (by rw [sz_len]; exact hx)
  rw [List.getElem?_map] at hy hu
  cases h1 : (scan x)[i]? with
  | none => rw [h1] at hy; cases hy
  | some a =>
    cases h2 : (scan x)[i + 1]? with
    | none => rw [h2] at hu; cases hu
    | some b =>
      rw [h1] at hy
      rw [h2] at hu
      injection hy with hy
      injection hu with hu
      subst hy; subst hu
      exact chain_get _ _ hC i a b h1 h2
theorem lexF_alone {x : ByteArray} {l : List Tok} {e m : Int} (h : lexF x = (l, e, m)) {i : Nat} (hi : i + 1 < l.length) :
    ∃ y, l[i]? = some y ∧ lexF y.text = ([⟨y.kind, y.text, y.n, 0⟩, ⟨5, e0, 0, y.text.size⟩], 0, 0) ∧ ∀ i', i = i' + 1 → ∃ u, l[i']? = some u ∧ u.place + u.text.size ≤ y.place := by
  obtain ⟨hx, rfl⟩ := lexF_toks h (by rintro rfl; simp at hi)
  obtain ⟨y, hy⟩ : ∃ y, ((scan x).map (·.1))[i]? = some y := ⟨_, List.getElem?_eq_getElem (by omega)⟩
  obtain ⟨v, hv⟩ : ∃ v, ((scan x).map (·.1))[i + 1]? = some v := ⟨_, List.getElem?_eq_getElem hi⟩
  refine ⟨y, hy, alone_law (chain_at hx hy hv).1 (Nat.le_refl _), ?_⟩
  rintro i' rfl
  obtain ⟨u, hu⟩ : ∃ u, ((scan x).map (·.1))[i']? = some u := ⟨_, List.getElem?_eq_getElem (by omega)⟩
  exact ⟨u, hu, (chain_at hx hu hy).2⟩
theorem LexShift_ok (s : ByteArray) (hs : s.size ≤ 140737488351232) (z : List (List Int)) (hz : ∀ y ∈ z, y.length = 2 ∧ ∀ n ∈ y, I64 n) (many : Int) (hmany : I64 many) : Ok E 7 [] [pS s, .c (.row (encA z)), pI many] (pB true) [] := by
  have hzl := encA_len z
  refine Ok.enter hE Tryd.func7 rfl (by decide +kernel) (by kernel_rfl) rfl rfl (Nat.le_of_ble_eq_true rfl) rfl ?_
  refine ⟨_, CallR.mk1 awake_ok rfl rfl, ?_⟩
  refine Loop.run (α := Nat × ByteArray) (fun x => x.1 ≤ 20 ∧ x.2.size ≤ 110 * x.1) (fun x => [(0, pS s), (1, .c (.row (encA z))), (2, pI many), (7, pB true), (8, pS x.2), (9, pI x.1)]) (fun _ => []) (fun _ => []) (fun x => 20 - x.1) (0, e0) ⟨Nat.zero_le _, Nat.le_refl _⟩ ⟨⟨rfl, rfl, rfl, rfl, rfl, rfl, trivial⟩, rfl, rfl⟩ ?_
  rintro ⟨i, t⟩ f ⟨hi, ht⟩
  have hi : i ≤ 20 := hi
  have ht : t.size ≤ 110 * i := ht
  have hcase : (i < z.length ∧ i < 20) ∨ ¬ i < z.length ∨ (i < z.length ∧ ¬ i < 20) := by omega
  rcases hcase with ⟨h1, h2⟩ | h1 | ⟨h1, h2⟩
  · obtain ⟨a, b, -, ha, hb, hab⟩ := arr_get hz h1
    have hP := Piece_ok a b ha hb
    have hpz := piece_sz a b
    refine ⟨_, ltT (by rw [hzl]; omega), ?_⟩
    refine ⟨_, ltT (by omega), ?_⟩
    refine ⟨_, idxV (j := i) hab rfl rfl rfl rfl, ?_⟩
    refine ⟨_, ⟨rfl⟩, ?_⟩
    refine ⟨_, idxV (j := i) hab rfl rfl rfl rfl, ?_⟩
    refine ⟨_, ⟨rfl⟩, ?_⟩
    refine ⟨_, CallR.mk1 hP rfl rfl, ?_⟩
    refine ⟨_, catB' (by omega), ?_⟩
    refine ⟨_, catB' (by show ByteArray.size (B (_ ++ _)) + 1 ≤ _; simp only [B_size, List.length_append, sz_len]; omega), ?_⟩
    refine ⟨_, addV rfl (by omega) (by omega), ?_⟩
    exact ⟨(i + 1, _), ⟨by show i + 1 ≤ 20; omega, by show ByteArray.size (B (_ ++ [32])) ≤ 110 * (i + 1); simp only [B_size, B_toList, List.length_append, sz_len, List.length_cons, List.length_nil]; omega⟩, by show 20 - (i + 1) < 20 - i; omega, ⟨rfl, rfl, rfl, rfl, rfl, rfl, trivial⟩, rfl, rfl⟩
  · refine ⟨_, ltN (by rw [hzl]; omega), ?_⟩
    · skip
      have hk := pickN_ok many 9 hmany (by decide)
      have hkl := (pkN_eq (c := many) (n := 9) (by decide)).2
      obtain ⟨k, hkk⟩ : ∃ k, pkN many 9 = k := ⟨_, rfl⟩
      rw [hkk] at hk hkl
      obtain ⟨b, hb⟩ : ∃ b, B ((bl8.data.toList.take k).drop 0) = b := ⟨_, rfl⟩
      have sl : SliceR E 9 (pS bl8) none (some (pI k)) (pS b) := by rw [← hb]; exact sliceSV 0 k rfl rfl rfl ⟨Nat.zero_le _, by show k ≤ 8; omega⟩
      have hbz : b.size = k := by rw [← hb, List.drop_zero, B_size, List.length_take]; show min k 8 = k; omega
      have hba : b.data.toList.all (inB blanksB) = true := by rw [← hb, List.drop_zero, B_toList]; exact bl8_all k
      refine ⟨_, CallR.mk1 hk rfl rfl, ?_⟩
      refine ⟨_, sl, ?_⟩
      refine ⟨_, ⟨_, rfl, rfl⟩, ?_⟩
      refine Loop.run (α := Nat) (fun j => j ≤ 2) (fun j => [(7, pB true), (10, pI k), (11, pS b), (53, .c (.row (rowB [s, t]))), (54, pI 2), (55, pI j)]) (fun _ => []) (fun _ => []) (fun j => 2 - j) 0 (Nat.zero_le _) ⟨⟨rfl, rfl, rfl, rfl, rfl, rfl, trivial⟩, rfl, rfl⟩ ?_
      rintro j f2 hj
      have hj : j ≤ 2 := hj
      by_cases hjl : j < 2
      rotate_left
      · refine ⟨_, ltN (by omega), ?_⟩
        exact Ret.mk _ rfl rfl rfl
      have hg := rowB_get (l := [s, t]) (j := j) hjl
      obtain ⟨x, hx⟩ : ∃ x, [s, t].getD j e0 = x := ⟨_, rfl⟩
      rw [hx] at hg
      refine ⟨_, ltT (by omega), ?_⟩
      refine ⟨_, idxV (j := j) hg rfl rfl rfl rfl, ?_⟩
      by_cases hbig : 1900 < x.size
      · refine ⟨_, gtT (by show (x.size : Int) > 1900; omega), ?_⟩
        refine ⟨_, addV rfl (by omega) (by omega), ?_⟩
        exact ⟨j + 1, by omega, by omega, ⟨rfl, rfl, rfl, rfl, rfl, rfl, trivial⟩, rfl, rfl⟩
      refine ⟨_, gtN (by show ¬ (x.size : Int) > 1900; omega), ?_⟩
      obtain ⟨⟨l, e, m⟩, hlx⟩ : ∃ r, lexF x = r := ⟨_, rfl⟩
      have hL := Lex_ok x
      have hM := Lex_ok (B (b.data.toList ++ x.data.toList))
      obtain ⟨m0, m1, hll, hpl⟩ := lexF_rng hlx
      rw [lexF_shift b x hba (by omega) (by omega) hlx, hbz] at hM
      rw [hlx] at hL
      obtain ⟨bx, hbx⟩ : ∃ y, B (b.data.toList ++ x.data.toList) = y := ⟨_, rfl⟩
      rw [hbx] at hM
      have hlen : (rowT (l.map (onT k))).length = l.length := by rw [rowT_len, List.length_map]
      refine ⟨_, CallR.mk1 hL rfl rfl, ?_⟩
      refine ⟨_, catL hbx.symm (by omega), ?_⟩
      refine ⟨_, CallR.mk1 hM rfl rfl, ?_⟩
      have hbool : e = 0 ∨ e ≠ 0 := by omega
      rcases hbool with he | he
      · refine ⟨_, neN rfl, ?_⟩
        refine ⟨_, neN (by show ((rowT l).length : Int) = ((rowT (l.map (onT k))).length : Int); rw [hlen, rowT_len]), ?_⟩
        refine ⟨_, neN he, ?_⟩
        refine Loop.cut (α := Nat) (fun i => i ≤ l.length) (fun i => [(7, pB true), (10, pI k), (11, pS b), (53, .c (.row (rowB [s, t]))), (54, pI 2), (55, pI j), (14, .c (.row (rowT l))), (17, .c (.row (rowT (l.map (onT k))))), (20, pI i)]) (fun _ => []) (fun _ => []) (fun i => l.length - i) 0 0 (fun _ => rfl) (fun _ => rfl) (fun _ => rfl) (Nat.zero_le _) ⟨⟨rfl, rfl, rfl, rfl, rfl, rfl, rfl, rfl, rfl, trivial⟩, rfl, rfl⟩ ?_
        rintro i f3 hi3
        have hi3 : i ≤ l.length := hi3
        by_cases hil : i < l.length
        · obtain ⟨y, hy⟩ : ∃ y, l[i]? = some y := ⟨_, List.getElem?_eq_getElem hil⟩
          have hpy := hpl y (List.mem_of_getElem? hy)
          have hy2 : (l.map (onT k))[i]? = some (onT k y) := by rw [List.getElem?_map, hy]; rfl
          refine ⟨_, ltT (by rw [rowT_len]; omega), ?_⟩
          refine ⟨_, idxV (j := i) (rowT_get hy) rfl rfl rfl rfl, ?_⟩
          refine ⟨_, addV (z := y.place + k) rfl (by omega) (by omega), ?_⟩
          refine ⟨_, idxV (j := i) (rowT_get hy2) rfl rfl rfl rfl, ?_⟩
          refine ⟨_, tokNe (onT k y) (onT k y) (b := false) (by rw [eqTok_refl]; rfl), ?_⟩
          refine ⟨_, addV rfl (by omega) (by omega), ?_⟩
          exact ⟨i + 1, by omega, by omega, ⟨rfl, rfl, rfl, rfl, rfl, rfl, rfl, rfl, rfl, trivial⟩, ⟨_, rfl⟩, rfl⟩
        · refine ⟨_, ltN (by rw [rowT_len]; omega), ?_⟩
          refine ⟨_, addV rfl (by omega) (by omega), ?_⟩
          exact ⟨j + 1, by omega, by omega, ⟨rfl, rfl, rfl, rfl, rfl, rfl, trivial⟩, rfl, rfl⟩
      · refine ⟨_, neN rfl, ?_⟩
        refine ⟨_, neN (by show ((rowT l).length : Int) = ((rowT (l.map (onT k))).length : Int); rw [hlen, rowT_len]), ?_⟩
        refine ⟨_, neT he, ?_⟩
        refine ⟨_, addV (z := m + k) rfl (by omega) (by omega), ?_⟩
        refine ⟨_, neN (if_neg he), ?_⟩
        refine Loop.cut (α := Nat) (fun i => i ≤ l.length) (fun i => [(7, pB true), (10, pI k), (11, pS b), (53, .c (.row (rowB [s, t]))), (54, pI 2), (55, pI j), (14, .c (.row (rowT l))), (17, .c (.row (rowT (l.map (onT k))))), (20, pI i)]) (fun _ => []) (fun _ => []) (fun i => l.length - i) 0 0 (fun _ => rfl) (fun _ => rfl) (fun _ => rfl) (Nat.zero_le _) ⟨⟨rfl, rfl, rfl, rfl, rfl, rfl, rfl, rfl, rfl, trivial⟩, rfl, rfl⟩ ?_
        rintro i f3 hi3
        have hi3 : i ≤ l.length := hi3
        by_cases hil : i < l.length
        · obtain ⟨y, hy⟩ : ∃ y, l[i]? = some y := ⟨_, List.getElem?_eq_getElem hil⟩
          have hpy := hpl y (List.mem_of_getElem? hy)
          have hy2 : (l.map (onT k))[i]? = some (onT k y) := by rw [List.getElem?_map, hy]; rfl
          refine ⟨_, ltT (by rw [rowT_len]; omega), ?_⟩
          refine ⟨_, idxV (j := i) (rowT_get hy) rfl rfl rfl rfl, ?_⟩
          refine ⟨_, addV (z := y.place + k) rfl (by omega) (by omega), ?_⟩
          refine ⟨_, idxV (j := i) (rowT_get hy2) rfl rfl rfl rfl, ?_⟩
          refine ⟨_, tokNe (onT k y) (onT k y) (b := false) (by rw [eqTok_refl]; rfl), ?_⟩
          refine ⟨_, addV rfl (by omega) (by omega), ?_⟩
          exact ⟨i + 1, by omega, by omega, ⟨rfl, rfl, rfl, rfl, rfl, rfl, rfl, rfl, rfl, trivial⟩, ⟨_, rfl⟩, rfl⟩
        · refine ⟨_, ltN (by rw [rowT_len]; omega), ?_⟩
          refine ⟨_, addV rfl (by omega) (by omega), ?_⟩
          exact ⟨j + 1, by omega, by omega, ⟨rfl, rfl, rfl, rfl, rfl, rfl, trivial⟩, rfl, rfl⟩
  · refine ⟨_, ltT (by rw [hzl]; omega), ?_⟩
    refine ⟨_, ltN (by omega), ?_⟩
    · skip
      have hk := pickN_ok many 9 hmany (by decide)
      have hkl := (pkN_eq (c := many) (n := 9) (by decide)).2
      obtain ⟨k, hkk⟩ : ∃ k, pkN many 9 = k := ⟨_, rfl⟩
      rw [hkk] at hk hkl
      obtain ⟨b, hb⟩ : ∃ b, B ((bl8.data.toList.take k).drop 0) = b := ⟨_, rfl⟩
      have sl : SliceR E 9 (pS bl8) none (some (pI k)) (pS b) := by rw [← hb]; exact sliceSV 0 k rfl rfl rfl ⟨Nat.zero_le _, by show k ≤ 8; omega⟩
      have hbz : b.size = k := by rw [← hb, List.drop_zero, B_size, List.length_take]; show min k 8 = k; omega
      have hba : b.data.toList.all (inB blanksB) = true := by rw [← hb, List.drop_zero, B_toList]; exact bl8_all k
      refine ⟨_, CallR.mk1 hk rfl rfl, ?_⟩
      refine ⟨_, sl, ?_⟩
      refine ⟨_, ⟨_, rfl, rfl⟩, ?_⟩
      refine Loop.run (α := Nat) (fun j => j ≤ 2) (fun j => [(7, pB true), (10, pI k), (11, pS b), (53, .c (.row (rowB [s, t]))), (54, pI 2), (55, pI j)]) (fun _ => []) (fun _ => []) (fun j => 2 - j) 0 (Nat.zero_le _) ⟨⟨rfl, rfl, rfl, rfl, rfl, rfl, trivial⟩, rfl, rfl⟩ ?_
      rintro j f2 hj
      have hj : j ≤ 2 := hj
      by_cases hjl : j < 2
      rotate_left
      · refine ⟨_, ltN (by omega), ?_⟩
        exact Ret.mk _ rfl rfl rfl
      have hg := rowB_get (l := [s, t]) (j := j) hjl
      obtain ⟨x, hx⟩ : ∃ x, [s, t].getD j e0 = x := ⟨_, rfl⟩
      rw [hx] at hg
      refine ⟨_, ltT (by omega), ?_⟩
      refine ⟨_, idxV (j := j) hg rfl rfl rfl rfl, ?_⟩
      by_cases hbig : 1900 < x.size
      · refine ⟨_, gtT (by show (x.size : Int) > 1900; omega), ?_⟩
        refine ⟨_, addV rfl (by omega) (by omega), ?_⟩
        exact ⟨j + 1, by omega, by omega, ⟨rfl, rfl, rfl, rfl, rfl, rfl, trivial⟩, rfl, rfl⟩
      refine ⟨_, gtN (by show ¬ (x.size : Int) > 1900; omega), ?_⟩
      obtain ⟨⟨l, e, m⟩, hlx⟩ : ∃ r, lexF x = r := ⟨_, rfl⟩
      have hL := Lex_ok x
      have hM := Lex_ok (B (b.data.toList ++ x.data.toList))
      obtain ⟨m0, m1, hll, hpl⟩ := lexF_rng hlx
      rw [lexF_shift b x hba (by omega) (by omega) hlx, hbz] at hM
      rw [hlx] at hL
      obtain ⟨bx, hbx⟩ : ∃ y, B (b.data.toList ++ x.data.toList) = y := ⟨_, rfl⟩
      rw [hbx] at hM
      have hlen : (rowT (l.map (onT k))).length = l.length := by rw [rowT_len, List.length_map]
      refine ⟨_, CallR.mk1 hL rfl rfl, ?_⟩
      refine ⟨_, catL hbx.symm (by omega), ?_⟩
      refine ⟨_, CallR.mk1 hM rfl rfl, ?_⟩
      have hbool : e = 0 ∨ e ≠ 0 := by omega
      rcases hbool with he | he
      · refine ⟨_, neN rfl, ?_⟩
        refine ⟨_, neN (by show ((rowT l).length : Int) = ((rowT (l.map (onT k))).length : Int); rw [hlen, rowT_len]), ?_⟩
        refine ⟨_, neN he, ?_⟩
        refine Loop.cut (α := Nat) (fun i => i ≤ l.length) (fun i => [(7, pB true), (10, pI k), (11, pS b), (53, .c (.row (rowB [s, t]))), (54, pI 2), (55, pI j), (14, .c (.row (rowT l))), (17, .c (.row (rowT (l.map (onT k))))), (20, pI i)]) (fun _ => []) (fun _ => []) (fun i => l.length - i) 0 0 (fun _ => rfl) (fun _ => rfl) (fun _ => rfl) (Nat.zero_le _) ⟨⟨rfl, rfl, rfl, rfl, rfl, rfl, rfl, rfl, rfl, trivial⟩, rfl, rfl⟩ ?_
        rintro i f3 hi3
        have hi3 : i ≤ l.length := hi3
        by_cases hil : i < l.length
        · obtain ⟨y, hy⟩ : ∃ y, l[i]? = some y := ⟨_, List.getElem?_eq_getElem hil⟩
          have hpy := hpl y (List.mem_of_getElem? hy)
          have hy2 : (l.map (onT k))[i]? = some (onT k y) := by rw [List.getElem?_map, hy]; rfl
          refine ⟨_, ltT (by rw [rowT_len]; omega), ?_⟩
          refine ⟨_, idxV (j := i) (rowT_get hy) rfl rfl rfl rfl, ?_⟩
          refine ⟨_, addV (z := y.place + k) rfl (by omega) (by omega), ?_⟩
          refine ⟨_, idxV (j := i) (rowT_get hy2) rfl rfl rfl rfl, ?_⟩
          refine ⟨_, tokNe (onT k y) (onT k y) (b := false) (by rw [eqTok_refl]; rfl), ?_⟩
          refine ⟨_, addV rfl (by omega) (by omega), ?_⟩
          exact ⟨i + 1, by omega, by omega, ⟨rfl, rfl, rfl, rfl, rfl, rfl, rfl, rfl, rfl, trivial⟩, ⟨_, rfl⟩, rfl⟩
        · refine ⟨_, ltN (by rw [rowT_len]; omega), ?_⟩
          refine ⟨_, addV rfl (by omega) (by omega), ?_⟩
          exact ⟨j + 1, by omega, by omega, ⟨rfl, rfl, rfl, rfl, rfl, rfl, trivial⟩, rfl, rfl⟩
      · refine ⟨_, neN rfl, ?_⟩
        refine ⟨_, neN (by show ((rowT l).length : Int) = ((rowT (l.map (onT k))).length : Int); rw [hlen, rowT_len]), ?_⟩
        refine ⟨_, neT he, ?_⟩
        refine ⟨_, addV (z := m + k) rfl (by omega) (by omega), ?_⟩
        refine ⟨_, neN (if_neg he), ?_⟩
        refine Loop.cut (α := Nat) (fun i => i ≤ l.length) (fun i => [(7, pB true), (10, pI k), (11, pS b), (53, .c (.row (rowB [s, t]))), (54, pI 2), (55, pI j), (14, .c (.row (rowT l))), (17, .c (.row (rowT (l.map (onT k))))), (20, pI i)]) (fun _ => []) (fun _ => []) (fun i => l.length - i) 0 0 (fun _ => rfl) (fun _ => rfl) (fun _ => rfl) (Nat.zero_le _) ⟨⟨rfl, rfl, rfl, rfl, rfl, rfl, rfl, rfl, rfl, trivial⟩, rfl, rfl⟩ ?_
        rintro i f3 hi3
        have hi3 : i ≤ l.length := hi3
        by_cases hil : i < l.length
        · obtain ⟨y, hy⟩ : ∃ y, l[i]? = some y := ⟨_, List.getElem?_eq_getElem hil⟩
          have hpy := hpl y (List.mem_of_getElem? hy)
          have hy2 : (l.map (onT k))[i]? = some (onT k y) := by rw [List.getElem?_map, hy]; rfl
          refine ⟨_, ltT (by rw [rowT_len]; omega), ?_⟩
          refine ⟨_, idxV (j := i) (rowT_get hy) rfl rfl rfl rfl, ?_⟩
          refine ⟨_, addV (z := y.place + k) rfl (by omega) (by omega), ?_⟩
          refine ⟨_, idxV (j := i) (rowT_get hy2) rfl rfl rfl rfl, ?_⟩
          refine ⟨_, tokNe (onT k y) (onT k y) (b := false) (by rw [eqTok_refl]; rfl), ?_⟩
          refine ⟨_, addV rfl (by omega) (by omega), ?_⟩
          exact ⟨i + 1, by omega, by omega, ⟨rfl, rfl, rfl, rfl, rfl, rfl, rfl, rfl, rfl, trivial⟩, ⟨_, rfl⟩, rfl⟩
        · refine ⟨_, ltN (by rw [rowT_len]; omega), ?_⟩
          refine ⟨_, addV rfl (by omega) (by omega), ?_⟩
          exact ⟨j + 1, by omega, by omega, ⟨rfl, rfl, rfl, rfl, rfl, rfl, trivial⟩, rfl, rfl⟩
theorem LexAlone_ok (s : ByteArray) (hs : s.size ≤ 140737488351232) (z : List (List Int)) (hz : ∀ y ∈ z, y.length = 2 ∧ ∀ n ∈ y, I64 n) : Ok E 5 [] [pS s, .c (.row (encA z))] (pB true) [] := by
  have hzl := encA_len z
  refine Ok.enter hE Tryd.func5 rfl (by decide +kernel) (by kernel_rfl) rfl rfl (Nat.le_of_ble_eq_true rfl) rfl ?_
  refine ⟨_, CallR.mk1 awake_ok rfl rfl, ?_⟩
  refine Loop.run (α := Nat × ByteArray) (fun x => x.1 ≤ 20 ∧ x.2.size ≤ 110 * x.1) (fun x => [(0, pS s), (1, .c (.row (encA z))), (5, pB true), (6, pS x.2), (7, pI x.1)]) (fun _ => []) (fun _ => []) (fun x => 20 - x.1) (0, e0) ⟨Nat.zero_le _, Nat.le_refl _⟩ ⟨⟨rfl, rfl, rfl, rfl, rfl, trivial⟩, rfl, rfl⟩ ?_
  rintro ⟨i, t⟩ f ⟨hi, ht⟩
  have hi : i ≤ 20 := hi
  have ht : t.size ≤ 110 * i := ht
  have hcase : (i < z.length ∧ i < 20) ∨ ¬ i < z.length ∨ (i < z.length ∧ ¬ i < 20) := by omega
  rcases hcase with ⟨h1, h2⟩ | h1 | ⟨h1, h2⟩
  · obtain ⟨a, b, -, ha, hb, hab⟩ := arr_get hz h1
    have hP := Piece_ok a b ha hb
    have hpz := piece_sz a b
    refine ⟨_, ltT (by rw [hzl]; omega), ?_⟩
    refine ⟨_, ltT (by omega), ?_⟩
    refine ⟨_, idxV (j := i) hab rfl rfl rfl rfl, ?_⟩
    refine ⟨_, ⟨rfl⟩, ?_⟩
    refine ⟨_, idxV (j := i) hab rfl rfl rfl rfl, ?_⟩
    refine ⟨_, ⟨rfl⟩, ?_⟩
    refine ⟨_, CallR.mk1 hP rfl rfl, ?_⟩
    refine ⟨_, catB' (by omega), ?_⟩
    refine ⟨_, catB' (by show ByteArray.size (B (_ ++ _)) + 1 ≤ _; simp only [B_size, List.length_append, sz_len]; omega), ?_⟩
    refine ⟨_, addV rfl (by omega) (by omega), ?_⟩
    exact ⟨(i + 1, _), ⟨by show i + 1 ≤ 20; omega, by show ByteArray.size (B (_ ++ [32])) ≤ 110 * (i + 1); simp only [B_size, B_toList, List.length_append, sz_len, List.length_cons, List.length_nil]; omega⟩, by show 20 - (i + 1) < 20 - i; omega, ⟨rfl, rfl, rfl, rfl, rfl, trivial⟩, rfl, rfl⟩
  · refine ⟨_, ltN (by rw [hzl]; omega), ?_⟩
    · skip
      refine ⟨_, ⟨_, rfl, rfl⟩, ?_⟩
      refine Loop.run (α := Nat) (fun j => j ≤ 2) (fun j => [(5, pB true), (45, .c (.row (rowB [s, t]))), (46, pI 2), (47, pI j)]) (fun _ => []) (fun _ => []) (fun j => 2 - j) 0 (Nat.zero_le _) ⟨⟨rfl, rfl, rfl, rfl, trivial⟩, rfl, rfl⟩ ?_
      rintro j f2 hj
      have hj : j ≤ 2 := hj
      by_cases hjl : j < 2
      rotate_left
      · refine ⟨_, ltN (by omega), ?_⟩
        exact Ret.mk _ rfl rfl rfl
      have hg := rowB_get (l := [s, t]) (j := j) hjl
      obtain ⟨x, hx⟩ : ∃ x, [s, t].getD j e0 = x := ⟨_, rfl⟩
      rw [hx] at hg
      obtain ⟨⟨l, e, m⟩, hlx⟩ : ∃ r, lexF x = r := ⟨_, rfl⟩
      have hL := Lex_ok x
      obtain ⟨m0, m1, hll, hpl⟩ := lexF_rng hlx
      have hal := fun i (h : i + 1 < l.length) => lexF_alone hlx h
      rw [hlx] at hL
      refine ⟨_, ltT (by omega), ?_⟩
      refine ⟨_, idxV (j := j) hg rfl rfl rfl rfl, ?_⟩
      refine ⟨_, CallR.mk1 hL rfl rfl, ?_⟩
      by_cases he : e = 0
      rotate_left
      · refine ⟨_, neT he, ?_⟩
        refine ⟨_, addV rfl (by omega) (by omega), ?_⟩
        exact ⟨j + 1, by omega, by omega, ⟨rfl, rfl, rfl, rfl, trivial⟩, rfl, rfl⟩
      refine ⟨_, neN he, ?_⟩
      refine Loop.cut (α := Nat) (fun i => i ≤ l.length) (fun i => [(5, pB true), (45, .c (.row (rowB [s, t]))), (46, pI 2), (47, pI j), (10, .c (.row (rowT l))), (13, pI i)]) (fun _ => []) (fun _ => []) (fun i => l.length - i) 0 0 (fun _ => rfl) (fun _ => rfl) (fun _ => rfl) (Nat.zero_le _) ⟨⟨rfl, rfl, rfl, rfl, rfl, rfl, trivial⟩, rfl, rfl⟩ ?_
      rintro i f3 hi3
      have hi3 : i ≤ l.length := hi3
      refine ⟨_, addV (z := (i : Int) + 1) rfl (by omega) (by omega), ?_⟩
      by_cases hil : i + 1 < l.length
      rotate_left
      · refine ⟨_, ltN (by rw [rowT_len]; omega), ?_⟩
        refine ⟨_, addV rfl (by omega) (by omega), ?_⟩
        exact ⟨j + 1, by omega, by omega, ⟨rfl, rfl, rfl, rfl, trivial⟩, rfl, rfl⟩
      obtain ⟨y, hy, hA, hprev⟩ := hal i hil
      have hpy := hpl y (List.mem_of_getElem? hy)
      have hLy := Lex_ok y.text
      rw [hA] at hLy
      refine ⟨_, ltT (by rw [rowT_len]; omega), ?_⟩
      refine ⟨_, idxV (j := i) (rowT_get hy) rfl rfl rfl rfl, ?_⟩
      refine ⟨_, CallR.mk1 hLy rfl rfl, ?_⟩
      refine ⟨_, idxV (j := i) (rowT_get hy) rfl rfl rfl rfl, ?_⟩
      have hi0 : i = 0 ∨ ∃ i', i = i' + 1 := by
        cases i with
        | zero => exact .inl rfl
        | succ i => exact .inr ⟨i, rfl⟩
      have hw1 : eqTok ⟨y.kind, y.text, y.n, 0⟩ ⟨y.kind, y.text, y.n, 0⟩ = true := eqTok_refl _
      rcases hi0 with h0 | ⟨i', h0⟩
      · refine ⟨_, neN rfl, ?_⟩
        refine ⟨_, neN rfl, ?_⟩
        refine ⟨_, idxV (j := 0) rfl rfl rfl rfl rfl, ?_⟩
        refine ⟨_, tokNe ⟨y.kind, y.text, y.n, 0⟩ ⟨y.kind, y.text, y.n, 0⟩ (b := false) (by rw [eqTok_refl]; rfl), ?_⟩
        refine ⟨_, idxV (j := 1) rfl rfl rfl rfl rfl, ?_⟩
        refine ⟨_, tokNe ⟨5, e0, 0, y.text.size⟩ ⟨5, e0, 0, y.text.size⟩ (b := false) (by rw [eqTok_refl]; rfl), ?_⟩
        refine ⟨_, gtN (show ¬ (i : Int) > 0 by omega), ?_⟩
        refine ⟨_, addV (z := ((i + 1 : Nat) : Int)) rfl (by omega) (by omega), ?_⟩
        exact ⟨i + 1, by show i + 1 ≤ l.length; omega, by show l.length - (i + 1) < l.length - i; omega, ⟨rfl, rfl, rfl, rfl, rfl, rfl, trivial⟩, ⟨_, rfl⟩, rfl⟩
      · obtain ⟨u, hu, hle⟩ := hprev i' h0
        have hpu := hpl u (List.mem_of_getElem? hu)
        refine ⟨_, neN rfl, ?_⟩
        refine ⟨_, neN rfl, ?_⟩
        refine ⟨_, idxV (j := 0) rfl rfl rfl rfl rfl, ?_⟩
        refine ⟨_, tokNe ⟨y.kind, y.text, y.n, 0⟩ ⟨y.kind, y.text, y.n, 0⟩ (b := false) (by rw [eqTok_refl]; rfl), ?_⟩
        refine ⟨_, idxV (j := 1) rfl rfl rfl rfl rfl, ?_⟩
        refine ⟨_, tokNe ⟨5, e0, 0, y.text.size⟩ ⟨5, e0, 0, y.text.size⟩ (b := false) (by rw [eqTok_refl]; rfl), ?_⟩
        refine ⟨_, gtT (show (i : Int) > 0 by omega), ?_⟩
        refine ⟨_, idxV (j := i) (rowT_get hy) rfl rfl rfl rfl, ?_⟩
        refine ⟨_, subV (z := (i' : Int)) (by omega) (by omega) (by omega), ?_⟩
        refine ⟨_, idxV (j := i') (rowT_get hu) rfl rfl rfl rfl, ?_⟩
        refine ⟨_, subV (z := (i' : Int)) (by omega) (by omega) (by omega), ?_⟩
        refine ⟨_, idxV (j := i') (rowT_get hu) rfl rfl rfl rfl, ?_⟩
        refine ⟨_, addV (z := u.place + u.text.size) rfl (by omega) (by omega), ?_⟩
        refine ⟨_, ltN (show ¬ y.place < u.place + u.text.size by omega), ?_⟩
        refine ⟨_, addV (z := ((i + 1 : Nat) : Int)) rfl (by omega) (by omega), ?_⟩
        exact ⟨i + 1, by show i + 1 ≤ l.length; omega, by show l.length - (i + 1) < l.length - i; omega, ⟨rfl, rfl, rfl, rfl, rfl, rfl, trivial⟩, ⟨_, rfl⟩, rfl⟩
  · refine ⟨_, ltT (by rw [hzl]; omega), ?_⟩
    refine ⟨_, ltN (by omega), ?_⟩
    · skip
      refine ⟨_, ⟨_, rfl, rfl⟩, ?_⟩
      refine Loop.run (α := Nat) (fun j => j ≤ 2) (fun j => [(5, pB true), (45, .c (.row (rowB [s, t]))), (46, pI 2), (47, pI j)]) (fun _ => []) (fun _ => []) (fun j => 2 - j) 0 (Nat.zero_le _) ⟨⟨rfl, rfl, rfl, rfl, trivial⟩, rfl, rfl⟩ ?_
      rintro j f2 hj
      have hj : j ≤ 2 := hj
      by_cases hjl : j < 2
      rotate_left
      · refine ⟨_, ltN (by omega), ?_⟩
        exact Ret.mk _ rfl rfl rfl
      have hg := rowB_get (l := [s, t]) (j := j) hjl
      obtain ⟨x, hx⟩ : ∃ x, [s, t].getD j e0 = x := ⟨_, rfl⟩
      rw [hx] at hg
      obtain ⟨⟨l, e, m⟩, hlx⟩ : ∃ r, lexF x = r := ⟨_, rfl⟩
      have hL := Lex_ok x
      obtain ⟨m0, m1, hll, hpl⟩ := lexF_rng hlx
      have hal := fun i (h : i + 1 < l.length) => lexF_alone hlx h
      rw [hlx] at hL
      refine ⟨_, ltT (by omega), ?_⟩
      refine ⟨_, idxV (j := j) hg rfl rfl rfl rfl, ?_⟩
      refine ⟨_, CallR.mk1 hL rfl rfl, ?_⟩
      by_cases he : e = 0
      rotate_left
      · refine ⟨_, neT he, ?_⟩
        refine ⟨_, addV rfl (by omega) (by omega), ?_⟩
        exact ⟨j + 1, by omega, by omega, ⟨rfl, rfl, rfl, rfl, trivial⟩, rfl, rfl⟩
      refine ⟨_, neN he, ?_⟩
      refine Loop.cut (α := Nat) (fun i => i ≤ l.length) (fun i => [(5, pB true), (45, .c (.row (rowB [s, t]))), (46, pI 2), (47, pI j), (10, .c (.row (rowT l))), (13, pI i)]) (fun _ => []) (fun _ => []) (fun i => l.length - i) 0 0 (fun _ => rfl) (fun _ => rfl) (fun _ => rfl) (Nat.zero_le _) ⟨⟨rfl, rfl, rfl, rfl, rfl, rfl, trivial⟩, rfl, rfl⟩ ?_
      rintro i f3 hi3
      have hi3 : i ≤ l.length := hi3
      refine ⟨_, addV (z := (i : Int) + 1) rfl (by omega) (by omega), ?_⟩
      by_cases hil : i + 1 < l.length
      rotate_left
      · refine ⟨_, ltN (by rw [rowT_len]; omega), ?_⟩
        refine ⟨_, addV rfl (by omega) (by omega), ?_⟩
        exact ⟨j + 1, by omega, by omega, ⟨rfl, rfl, rfl, rfl, trivial⟩, rfl, rfl⟩
      obtain ⟨y, hy, hA, hprev⟩ := hal i hil
      have hpy := hpl y (List.mem_of_getElem? hy)
      have hLy := Lex_ok y.text
      rw [hA] at hLy
      refine ⟨_, ltT (by rw [rowT_len]; omega), ?_⟩
      refine ⟨_, idxV (j := i) (rowT_get hy) rfl rfl rfl rfl, ?_⟩
      refine ⟨_, CallR.mk1 hLy rfl rfl, ?_⟩
      refine ⟨_, idxV (j := i) (rowT_get hy) rfl rfl rfl rfl, ?_⟩
      have hi0 : i = 0 ∨ ∃ i', i = i' + 1 := by
        cases i with
        | zero => exact .inl rfl
        | succ i => exact .inr ⟨i, rfl⟩
      have hw1 : eqTok ⟨y.kind, y.text, y.n, 0⟩ ⟨y.kind, y.text, y.n, 0⟩ = true := eqTok_refl _
      rcases hi0 with h0 | ⟨i', h0⟩
      · refine ⟨_, neN rfl, ?_⟩
        refine ⟨_, neN rfl, ?_⟩
        refine ⟨_, idxV (j := 0) rfl rfl rfl rfl rfl, ?_⟩
        refine ⟨_, tokNe ⟨y.kind, y.text, y.n, 0⟩ ⟨y.kind, y.text, y.n, 0⟩ (b := false) (by rw [eqTok_refl]; rfl), ?_⟩
        refine ⟨_, idxV (j := 1) rfl rfl rfl rfl rfl, ?_⟩
        refine ⟨_, tokNe ⟨5, e0, 0, y.text.size⟩ ⟨5, e0, 0, y.text.size⟩ (b := false) (by rw [eqTok_refl]; rfl), ?_⟩
        refine ⟨_, gtN (show ¬ (i : Int) > 0 by omega), ?_⟩
        refine ⟨_, addV (z := ((i + 1 : Nat) : Int)) rfl (by omega) (by omega), ?_⟩
        exact ⟨i + 1, by show i + 1 ≤ l.length; omega, by show l.length - (i + 1) < l.length - i; omega, ⟨rfl, rfl, rfl, rfl, rfl, rfl, trivial⟩, ⟨_, rfl⟩, rfl⟩
      · obtain ⟨u, hu, hle⟩ := hprev i' h0
        have hpu := hpl u (List.mem_of_getElem? hu)
        refine ⟨_, neN rfl, ?_⟩
        refine ⟨_, neN rfl, ?_⟩
        refine ⟨_, idxV (j := 0) rfl rfl rfl rfl rfl, ?_⟩
        refine ⟨_, tokNe ⟨y.kind, y.text, y.n, 0⟩ ⟨y.kind, y.text, y.n, 0⟩ (b := false) (by rw [eqTok_refl]; rfl), ?_⟩
        refine ⟨_, idxV (j := 1) rfl rfl rfl rfl rfl, ?_⟩
        refine ⟨_, tokNe ⟨5, e0, 0, y.text.size⟩ ⟨5, e0, 0, y.text.size⟩ (b := false) (by rw [eqTok_refl]; rfl), ?_⟩
        refine ⟨_, gtT (show (i : Int) > 0 by omega), ?_⟩
        refine ⟨_, idxV (j := i) (rowT_get hy) rfl rfl rfl rfl, ?_⟩
        refine ⟨_, subV (z := (i' : Int)) (by omega) (by omega) (by omega), ?_⟩
        refine ⟨_, idxV (j := i') (rowT_get hu) rfl rfl rfl rfl, ?_⟩
        refine ⟨_, subV (z := (i' : Int)) (by omega) (by omega) (by omega), ?_⟩
        refine ⟨_, idxV (j := i') (rowT_get hu) rfl rfl rfl rfl, ?_⟩
        refine ⟨_, addV (z := u.place + u.text.size) rfl (by omega) (by omega), ?_⟩
        refine ⟨_, ltN (show ¬ y.place < u.place + u.text.size by omega), ?_⟩
        refine ⟨_, addV (z := ((i + 1 : Nat) : Int)) rfl (by omega) (by omega), ?_⟩
        exact ⟨i + 1, by show i + 1 ≤ l.length; omega, by show l.length - (i + 1) < l.length - i; omega, ⟨rfl, rfl, rfl, rfl, rfl, rfl, trivial⟩, ⟨_, rfl⟩, rfl⟩
end Go.Proofs.YtanhnckdinlikaaDoor.Lx

/- What a scan tells of pieces with blanks between, and of a part that is no token. -/
namespace Go.Proofs.YtanhnckdinlikaaDoor.Lx
open Go Go.RowKit Go.Proofs.YtanhnckdinlikaaDoor.Pm Go.Proofs.YtanhnckdinlikaaDoor.Pl
open Go.Proofs.YtanhnckdinlikaaDoor.Q (wordsL wordsB)
set_option linter.unusedVariables false
set_option maxHeartbeats 1000000
theorem part_not_sign {c : UInt8} (h : inB partsB c = true) : inB signsB c = false := by
  have := all256 (p := fun c => !(inB partsB c) || !(inB signsB c)) (by decide +kernel) c
  rw [h] at this
  simpa using this
theorem digit_part {c : UInt8} (h : isD c = true) : inB partsB c = true := by
  have := all256 (p := fun c => !(isD c) || inB partsB c) (by decide +kernel) c
  rw [h] at this
  simpa using this
theorem digit_letter {c : UInt8} (h : isD c = true) : inB abcB c = false := by
  have := all256 (p := fun c => !(isD c) || !(inB abcB c)) (by decide +kernel) c
  rw [h] at this
  simpa using this
theorem blank_part {c : UInt8} (h : inB blanksB c = true) : inB partsB c = false := by
  have := all256 (p := fun c => !(inB blanksB c) || !(inB partsB c)) (by decide +kernel) c
  rw [h] at this
  simpa using this
theorem first_part {w : List UInt8} (hw : w ≠ []) (ha : w.all (inB partsB) = true) : firstF w = partF (B w) := by
  cases w with
  | nil => exact absurd rfl hw
  | cons c l =>
    have hc : inB partsB c = true := by rw [List.all_cons, Bool.and_eq_true] at ha; exact ha.1
    rw [firstF, if_neg (by rw [part_not_sign hc]; simp), runB_allT _ _ ha, List.take_length]
theorem first_stop {w : List UInt8} (hw : w ≠ []) {c : UInt8} (hc : inB partsB c = false) (r : List UInt8) : firstF (w ++ c :: r) = firstF w := by
  cases w with
  | nil => exact absurd rfl hw
  | cons d l =>
    have hs := runB_stop partsB c hc (d :: l) r
    rw [List.cons_append] at hs ⊢
    rw [firstF, firstF]
    split
    · rfl
    · rw [hs, ← List.cons_append, List.take_append_of_le_length (runB_le _ _)]
theorem digit_word {c : UInt8} {l : List UInt8} (h : isD c = true) : Lib.containsS wordsB (B (c :: l)) = false ∧ isName (B (c :: l)) = false := by
  constructor
  · cases hc : Lib.containsS wordsB (B (c :: l)) with
    | false => rfl
    | true =>
      exfalso
      have hm := (Lib.containsS_iff _ _).1 hc
      have hall : wordsB.all (fun w => match w.data.toList with
        | [] => true
        | d :: _ => !(isD d)) = true := by decide +kernel
      have := List.all_eq_true.1 hall _ hm
      rw [B_toList] at this
      dsimp only at this
      rw [h] at this
      cases this
  · unfold isName
    rw [B_toList]
    dsimp only
    rw [digit_letter h]
    simp
theorem digs_cons (n : Nat) : ∃ c l, digs n = c :: l ∧ isD c = true := by
  cases h : digs n with
  | nil => exact absurd h (digs_ne n)
  | cons c l =>
    have := digs_all' n
    rw [h, List.all_cons, Bool.and_eq_true] at this
    exact ⟨c, l, rfl, this.1⟩
theorem digs_parts (n : Nat) : (digs n).all (inB partsB) = true := by
  have := digs_all' n
  exact List.all_eq_true.2 fun c hc => digit_part (List.all_eq_true.1 this c hc)
theorem first_count (n : Nat) (h : n ≤ 100000) : firstF (digs n) = (⟨2, B (digs n), n, 0⟩, true) := by
  rw [first_part (digs_ne n) (digs_parts n)]
  obtain ⟨c, l, hd, hc⟩ := digs_cons n
  have hw := digit_word (l := l) hc
  rw [← hd] at hw
  unfold partF
  rw [hw.1, hw.2, if_neg (by simp), B_toList, countL_digs n 100000 (by omega) (by omega), if_pos (by omega)]
theorem digs_mod (m : Nat) (h : m < 10) : digs m = [dig m] := digs_one h
theorem dig_ten (k : Nat) : dig (k % 10) = dig k := by unfold dig; rw [Nat.mod_mod]
theorem money_text (k : Nat) (h : k < 1000000) : ((digs (k / 100) ++ [46]) ++ digs (k / 10 % 10)) ++ digs (k % 10) = textL k := by
  rw [digs_mod (k / 10 % 10) (by omega), digs_mod (k % 10) (by omega), dig_ten, dig_ten, textL_ok (by unfold okA; omega), if_neg (by omega)]
  simp
theorem first_money (k : Nat) (h : k < 1000000) : firstF (textL k) = (⟨3, B (textL k), k, 0⟩, true) := by
  have ht : textL (k : Int) = digs (k / 100) ++ [46, dig (k / 10), dig k] := by
    rw [textL_ok (by unfold okA; omega), if_neg (by omega)]
    simp
  have hall : (textL (k : Int)).all (inB partsB) = true := by
    rw [ht, List.all_append, digs_parts]
    show (true && (inB partsB 46 && (inB partsB (dig (k / 10)) && (inB partsB (dig k) && true)))) = true
    rw [digit_part (dig_isD _), digit_part (dig_isD _), show inB partsB 46 = true by decide +kernel]
    rfl
  have hne : textL (k : Int) ≠ [] := textL_ne (by unfold okA; omega)
  rw [first_part hne hall]
  obtain ⟨c, l, hd, hc⟩ := digs_cons (k / 100)
  have hw := digit_word (l := l ++ [46, dig (k / 10), dig k]) hc
  rw [← List.cons_append, ← hd, ← ht] at hw
  have hcn : countL (textL (k : Int)) 100000 = -1 := by
    refine countL_no (all_bad (j := (digs (k / 100)).length) (b := 46) ?_ (by decide +kernel))
    rw [ht, List.getElem?_append_right (Nat.le_refl _), Nat.sub_self]
    rfl
  unfold partF
  rw [hw.1, hw.2, if_neg (by simp), B_toList, hcn, if_neg (by decide), parseL_text (by unfold okA; omega)]
  rfl
theorem first_words : lawWs.all (fun w => decide (firstF w.data.toList = (⟨1, w, 0, 0⟩, true))) = true := by decide +kernel
theorem first_signs : signBs.all (fun w => decide (firstF w.data.toList = (⟨4, w, 0, 0⟩, true))) = true := by decide +kernel
def sellerK (k : Nat) : ByteArray := B ((nameBs.getD (k % 6) e0).data.toList ++ digs (k / 6))
theorem first_sellers : (List.range 60).all (fun k => decide (firstF (sellerK k).data.toList = (⟨1, sellerK k, 0, 0⟩, true))) = true := by decide +kernel
theorem first_seller (n : Int) : firstF (sellerF n).data.toList = (⟨1, sellerF n, 0, 0⟩, true) := by
  have hlt := (pkN_eq (c := n) (n := 60) (by decide)).2
  exact of_decide_eq_true (List.all_eq_true.1 first_sellers (pkN n 60) (by rw [List.mem_range]; omega))
def tokW (kind n : Int) : Tok := match pkN kind 5 with
  | 0 => ⟨1, pieceF kind n, 0, 0⟩
  | 1 => ⟨4, pieceF kind n, 0, 0⟩
  | 2 => ⟨2, pieceF kind n, (pkN n 100001 : Nat), 0⟩
  | 3 => ⟨3, pieceF kind n, (pkN n 1000000 : Nat), 0⟩
  | _ => ⟨1, pieceF kind n, 0, 0⟩
theorem getD_all {l : List ByteArray} {p : ByteArray → Bool} (h : l.all p = true) {j : Nat} (hj : j < l.length) : p (l.getD j e0) = true := by
  rw [List.getD_eq_getElem?_getD, List.getElem?_eq_getElem hj]
  exact List.all_eq_true.1 h _ (List.getElem_mem hj)
theorem piece_first (kind n : Int) : firstF (pieceF kind n).data.toList = (tokW kind n, true) := by
  have hlt := (pkN_eq (c := kind) (n := 5) (by decide)).2
  unfold tokW pieceF
  obtain ⟨k, hk⟩ : ∃ k, pkN kind 5 = k := ⟨_, rfl⟩
  rw [hk] at hlt ⊢
  have : k = 0 ∨ k = 1 ∨ k = 2 ∨ k = 3 ∨ k = 4 := by omega
  rcases this with rfl | rfl | rfl | rfl | rfl
  · have hl := (pkN_eq (c := n) (n := 11) (by decide)).2
    exact of_decide_eq_true (getD_all first_words (show pkN n 11 < 11 by omega))
  · have hl := (pkN_eq (c := n) (n := 3) (by decide)).2
    exact of_decide_eq_true (getD_all first_signs (show pkN n 3 < 3 by omega))
  · have hl := (pkN_eq (c := n) (n := 100001) (by decide)).2
    show firstF (B (digs (pkN n 100001))).data.toList = _
    rw [B_toList]
    exact first_count _ (by omega)
  · have hl := (pkN_eq (c := n) (n := 1000000) (by decide)).2
    show firstF (B _).data.toList = (⟨3, B _, _, 0⟩, true)
    rw [money_text _ (by omega), B_toList]
    exact first_money _ (by omega)
  · exact first_seller n
theorem tokW_place (kind n : Int) : (tokW kind n).place = 0 := by unfold tokW; split <;> rfl
theorem tokW_text (kind n : Int) : (tokW kind n).text = pieceF kind n := by unfold tokW; split <;> rfl
theorem tokW_kind (kind n : Int) : (tokW kind n).kind ≠ 5 := by
  unfold tokW
  split
  · exact (show (1 : Int) ≠ 5 by decide)
  · exact (show (4 : Int) ≠ 5 by decide)
  · exact (show (2 : Int) ≠ 5 by decide)
  · exact (show (3 : Int) ≠ 5 by decide)
  · exact (show (1 : Int) ≠ 5 by decide)
theorem piece_ne (kind n : Int) : (pieceF kind n).data.toList ≠ [] := by
  intro h
  have := piece_first kind n
  rw [h] at this
  have := congrArg (fun x => x.1.kind) this
  exact tokW_kind kind n this.symm
theorem piece_blank (kind n : Int) (r : List UInt8) : runB blanksB ((pieceF kind n).data.toList ++ r) = 0 := by
  have h1 := piece_first kind n
  have h2 := first_alone (m := (pieceF kind n).data.toList) (by rw [h1]) (by rw [h1]; exact tokW_kind kind n)
  rw [h1] at h2
  have h3 := h2.2.1
  rw [tokW_text] at h3
  cases hp : (pieceF kind n).data.toList with
  | nil => exact absurd hp (piece_ne kind n)
  | cons c l =>
    rw [hp, runB] at h3
    rw [List.cons_append, runB]
    split at h3
    · cases h3
    · rename_i h; rw [if_neg h]
/-- a piece, blanks behind it -/
theorem scan_piece (g : Nat) (kind n : Int) (sep r : List UInt8) (p : Nat) (hs : sep ≠ []) (hb : sep.all (inB blanksB) = true) :
    scanF (g + 1) ((pieceF kind n).data.toList ++ (sep ++ r)) p = (⟨(tokW kind n).kind, pieceF kind n, (tokW kind n).n, p⟩, true) :: scanF g r (p + (pieceF kind n).size + sep.length) := by
  have hf : firstF ((pieceF kind n).data.toList ++ (sep ++ r)) = (tokW kind n, true) := by
    cases sep with
    | nil => exact absurd rfl hs
    | cons c q =>
      rw [List.all_cons, Bool.and_eq_true] at hb
      rw [List.cons_append, first_stop (piece_ne kind n) (blank_part hb.1), piece_first]
  rw [scanF, piece_blank, List.drop_zero, hf]
  dsimp only
  rw [if_neg (fun h => h.elim (fun h => by cases h) (tokW_kind kind n)), tokW_text, Nat.add_zero]
  congr 1
  rw [← sz_len, List.drop_left]
  cases g with
  | zero => rfl
  | succ g => rw [scanF_pre _ _ _ _ hb]
/-- what so much of a text comes to, whatever stands behind it -/
def Told (i : Nat) (t : List UInt8) (l : List Tok) : Prop := ∀ (g : Nat) (r : List UInt8), scanF (g + i) (t ++ r) 0 = okT l ++ scanF g r t.length
theorem Told.nil : Told 0 [] [] := fun g r => rfl
theorem Told.step {i : Nat} {t : List UInt8} {l : List Tok} (h : Told i t l) (kind n : Int) (sep : List UInt8) (hs : sep ≠ []) (hb : sep.all (inB blanksB) = true) :
    Told (i + 1) ((t ++ (pieceF kind n).data.toList) ++ sep) (l ++ [⟨(tokW kind n).kind, pieceF kind n, (tokW kind n).n, (t.length : Int)⟩]) := by
  intro g r
  have := h (g + 1) ((pieceF kind n).data.toList ++ (sep ++ r))
  rw [show g + (i + 1) = g + 1 + i by omega, List.append_assoc, List.append_assoc, this, scan_piece _ _ _ _ _ _ hs hb, okT_snoc]
  congr 3
  simp only [List.length_append, sz_len]
theorem Told.lex {i : Nat} {t : ByteArray} {l : List Tok} (h : Told i t.data.toList l) (hz : t.size ≤ 2000) : lexF t = (l ++ [⟨5, e0, 0, (t.size : Int)⟩], 0, 0) := by
  have hs : scan t = okT l ++ [(⟨5, e0, 0, (t.size : Int)⟩, true)] := by
    have := h (t.size + 1) []
    rw [List.append_nil, scanF_end, sz_len] at this
    rw [scan_eq t (f := t.size + 1 + i) (by omega), this]
  unfold lexF toksF
  rw [if_neg (by omega), hs, tell_ok]
  show (List.map _ _, _, _) = _
  rw [List.map_append, fst_ok]
  rfl
/-! ### a part that is none -/
def badBs : List ByteArray := [⟨#[64]⟩, ⟨#[65]⟩, ⟨#[61]⟩, ⟨#[49, 97]⟩, ⟨#[48, 48]⟩, ⟨#[49, 48, 48, 48, 48, 49]⟩, ⟨#[46, 53]⟩, ⟨#[49, 46, 53]⟩, ⟨#[97, 46, 98]⟩, ⟨#[97, 98, 99, 100, 101, 102, 103, 104, 105, 106, 107, 108, 109]⟩, ⟨#[0]⟩, ⟨#[9]⟩, ⟨#[45, 49]⟩, ⟨#[49, 46, 50, 51, 52]⟩]
theorem bad_facts : badBs.all (fun w => match w.data.toList with
    | [] => false
    | c :: l => !(inB blanksB c) && !((firstF (c :: l)).2)) = true := by decide +kernel
theorem bad_at {j : Nat} (hj : j < 14) : ∃ c l, (badBs.getD j e0).data.toList = c :: l ∧ inB blanksB c = false ∧ (firstF (c :: l)).2 = false := by
  have := getD_all bad_facts (j := j) hj
  cases hb : (badBs.getD j e0).data.toList with
  | nil => rw [hb] at this; cases this
  | cons c l =>
    rw [hb] at this
    simp only [Bool.and_eq_true, Bool.not_eq_true'] at this
    exact ⟨c, l, rfl, this.1, this.2⟩
theorem scan_bad (g : Nat) {j : Nat} (hj : j < 14) (r : List UInt8) (hr : r = [] ∨ ∃ q, r = 32 :: q) (p : Nat) : tellF (scanF (g + 1) ((badBs.getD j e0).data.toList ++ r) p) = some (p : Int) := by
  obtain ⟨c, l, hb, h1, h2⟩ := bad_at hj
  rw [hb]
  have hf : (firstF (c :: l ++ r)).2 = false := by
    rcases hr with rfl | ⟨q, rfl⟩
    · rw [List.append_nil]; exact h2
    · rw [first_stop (by simp) (by decide +kernel)]; exact h2
  have h0 : runB blanksB (c :: l ++ r) = 0 := runB_no _ _ _ h1
  rw [scanF, h0, List.drop_zero, if_pos (.inl hf), hf]
  rfl
theorem tell_app : ∀ (l : List Tok) (r : List (Tok × Bool)), tellF (okT l ++ r) = tellF r := tell_ok
/-- so much of a text has what is told as wrong at this place, whatever stands behind it -/
def Wrong (i : Nat) (t : List UInt8) (p : Int) : Prop := ∀ (g : Nat) (r : List UInt8), tellF (scanF (g + i) (t ++ r) 0) = some p
theorem Told.bad {i : Nat} {t : List UInt8} {l : List Tok} (h : Told i t l) {j : Nat} (hj : j < 14) : Wrong (i + 1) ((t ++ (badBs.getD j e0).data.toList) ++ [32]) (t.length : Int) := by
  intro g r
  have := h (g + 1) ((badBs.getD j e0).data.toList ++ ([32] ++ r))
  rw [show g + (i + 1) = g + 1 + i by omega, List.append_assoc, List.append_assoc, this, tell_app]
  exact scan_bad _ hj _ (.inr ⟨r, rfl⟩) _
theorem Wrong.more {i : Nat} {t : List UInt8} {p : Int} (h : Wrong i t p) (u : List UInt8) : Wrong (i + 1) (t ++ u) p := by
  intro g r
  rw [List.append_assoc, show g + (i + 1) = g + 1 + i by omega]
  exact h (g + 1) (u ++ r)
theorem wrong_lex {t : ByteArray} {p : Int} (h : tellF (scan t) = some p) (hz : t.size ≤ 2000) : lexF t = ([], 61, p) := by
  unfold lexF
  rw [if_neg (by omega), h]
theorem Wrong.lex {i : Nat} {t : ByteArray} {p : Int} (h : Wrong i t.data.toList p) (hz : t.size ≤ 2000) : lexF t = ([], 61, p) := by
  refine wrong_lex ?_ hz
  have := h (t.size + 1) []
  rw [List.append_nil] at this
  rw [scan_eq t (f := t.size + 1 + i) (by omega), this]
theorem Told.badEnd {i : Nat} {t : ByteArray} {l : List Tok} (h : Told i t.data.toList l) {j : Nat} (hj : j < 14) (hz : t.size ≤ 1900) : lexF (B (t.data.toList ++ (badBs.getD j e0).data.toList)) = ([], 61, (t.size : Int)) := by
  have hbz := sz_getD (l := badBs) (m := 13) (by decide) j
  have h1 : (B (t.data.toList ++ (badBs.getD j e0).data.toList)).size ≤ 2000 := by rw [B_size, List.length_append, sz_len, sz_len]; omega
  refine wrong_lex ?_ h1
  have := h (2000 + 1) ((badBs.getD j e0).data.toList)
  rw [scan_eq _ (f := 2000 + 1 + i) (by omega), B_toList, this, tell_app, ← List.append_nil (badBs.getD j e0).data.toList, scan_bad _ hj _ (.inl rfl), sz_len]
theorem piece_sz2 (k n : Int) : (pieceF k n).size ≤ 26 := by
  unfold pieceF
  split
  · exact Nat.le_trans (sz_getD (l := lawWs) (m := 6) (by decide) _) (by decide)
  · exact Nat.le_trans (sz_getD (l := signBs) (m := 1) (by decide) _) (by decide)
  · rw [B_size]; have := digs_len (pkN n 100001); omega
  · rw [B_size]
    have h1 := digs_len (pkN n 1000000 / 100)
    rw [digs_mod (pkN n 1000000 / 10 % 10) (by omega), digs_mod (pkN n 1000000 % 10) (by omega)]
    simp only [List.length_append, List.length_cons, List.length_nil]
    omega
  · unfold sellerF
    rw [B_size, List.length_append]
    have := digs_len (pkN n 60 / 6)
    have h2 := sz_getD (l := nameBs) (m := 6) (by decide) (pkN n 60 % 6)
    rw [← sz_len] at h2
    omega
end Go.Proofs.YtanhnckdinlikaaDoor.Lx

/- LexWords, LexWrong as contracts. -/
namespace Go.Proofs.YtanhnckdinlikaaDoor.Lx
open Go Go.RowKit Go.Proofs.YtanhnckdinlikaaDoor.Pm Go.Proofs.YtanhnckdinlikaaDoor.Pl
open Go.Proofs.YtanhnckdinlikaaDoor.Q (wordsL wordsB)
set_option linter.unusedVariables false
set_option maxHeartbeats 1000000
def sepWs : List ByteArray := [⟨#[32]⟩, ⟨#[10]⟩, ⟨#[32, 10, 32]⟩]
theorem sepWs_ok {j : Nat} (h : j < 3) : (sepWs.getD j e0).data.toList ≠ [] ∧ (sepWs.getD j e0).data.toList.all (inB blanksB) = true := by
  have := getD_all (l := sepWs) (p := fun w => !(w.data.toList.isEmpty) && w.data.toList.all (inB blanksB)) (by decide +kernel) (j := j) h
  simp only [Bool.and_eq_true, Bool.not_eq_true'] at this
  refine ⟨fun h => ?_, this.2⟩
  rw [h] at this
  cases this.1
theorem tok_kinds (kind n : Int) : (tokW kind n).kind = (match pkN kind 5 with | 0 => 1 | 1 => 4 | 2 => 2 | 3 => 3 | _ => 1) ∧ (tokW kind n).n = (match pkN kind 5 with | 2 => (pkN n 100001 : Nat) | 3 => (pkN n 1000000 : Nat) | _ => 0) := by
  unfold tokW
  split <;> simp_all
structure WordsI (i : Nat) (l : List Tok) (t : ByteArray) : Prop where
  le : i ≤ 40
  len : l.length = i
  sz : t.size ≤ 29 * i
  told : Told i t.data.toList l
theorem LexWords_ok (z : List (List Int)) (hz : ∀ y ∈ z, y.length = 2 ∧ ∀ n ∈ y, I64 n) : Ok E 4 [] [.c (.row (encA z))] (pB true) [] := by
  have hzl := encA_len z
  refine Ok.enter hE Tryd.func4 rfl (by decide +kernel) (by kernel_rfl) rfl rfl (Nat.le_of_ble_eq_true rfl) rfl ?_
  refine ⟨_, CallR.mk1 awake_ok rfl rfl, ?_⟩
  refine Loop.cut (α := Nat × List Tok × ByteArray) (fun x => WordsI x.1 x.2.1 x.2.2) (fun x => [(0, .c (.row (encA z))), (3, pB true), (4, pS x.2.2), (5, cellO x.2.1), (6, pI x.1)]) (fun _ => []) (fun x => tokO x.2.1) (fun x => 40 - x.1) (0, [], e0) 0 (fun _ => rfl) (fun _ => rfl) (by rintro ⟨i, acc, t⟩; cases acc <;> rfl) ⟨Nat.zero_le _, rfl, Nat.le_refl _, Told.nil⟩ ⟨⟨rfl, rfl, rfl, rfl, rfl, trivial⟩, rfl, rfl⟩ ?_
  rintro ⟨i, acc, t⟩ f ⟨hi, hal, htz, htold⟩
  have hi : i ≤ 40 := hi
  have hal : acc.length = i := hal
  have htz : t.size ≤ 29 * i := htz
  have htold : Told i t.data.toList acc := htold
  have hcase : (i < z.length ∧ i < 40) ∨ ¬ i < z.length ∨ (i < z.length ∧ ¬ i < 40) := by omega
  rcases hcase with ⟨h1, h2⟩ | h1 | ⟨h1, h2⟩
  · obtain ⟨a, b, -, ha, hb, hab⟩ := arr_get hz h1
    have hP := Piece_ok a b ha hb
    have hpz := piece_sz2 a b
    have hg := rowB_get (l := sepWs) (j := i % 3) (by show _ < 3; omega)
    have hsz := sz_getD (l := sepWs) (m := 3) (by decide) (i % 3)
    obtain ⟨sne, sall⟩ := sepWs_ok (j := i % 3) (by omega)
    have hK := pickN_ok a 5 ha (by decide)
    have hKl := (pkN_eq (c := a) (n := 5) (by decide)).2
    obtain ⟨tk, tn⟩ := tok_kinds a b
    have hstep := htold.step a b _ sne sall
    obtain ⟨k, hk⟩ : ∃ k, pkN a 5 = k := ⟨_, rfl⟩
    rw [hk] at hK hKl tk tn
    obtain ⟨t2, ht2⟩ : ∃ t2, B ((t.data.toList ++ (pieceF a b).data.toList)) = t2 := ⟨_, rfl⟩
    obtain ⟨t3, ht3⟩ : ∃ t3, B (t2.data.toList ++ (sepWs.getD (i % 3) e0).data.toList) = t3 := ⟨_, rfl⟩
    have h3 : t3.data.toList = (t.data.toList ++ (pieceF a b).data.toList) ++ (sepWs.getD (i % 3) e0).data.toList := by rw [← ht3, ← ht2, B_toList, B_toList]
    have z2 : t2.size ≤ 29 * i + 26 := by rw [← ht2, B_size, List.length_append, sz_len, sz_len]; omega
    have z3 : t3.size ≤ 29 * (i + 1) := by rw [← ht3, B_size, List.length_append, sz_len, sz_len]; omega
    rw [← h3, sz_len] at hstep
    have hkc : k = 0 ∨ k = 1 ∨ k = 2 ∨ k = 3 ∨ k = 4 := by omega
    obtain ⟨w, hw⟩ : ∃ w, pieceF a b = w := ⟨_, rfl⟩
    rw [hw] at hP hpz hstep ht2
    rcases hkc with rfl | rfl | rfl | rfl | rfl
    · have htok : (⟨(tokW a b).kind, w, (tokW a b).n, (t.size : Int)⟩ : Tok) = ⟨1, w, 0, (t.size : Int)⟩ := by rw [tk, tn]; try rfl
      rw [htok] at hstep
      cases acc with
      | nil =>
        refine ⟨_, ltT (by rw [hzl]; omega), ?_⟩
        refine ⟨_, ltT (by omega), ?_⟩
        refine ⟨_, idxV (j := i) hab rfl rfl rfl rfl, ?_⟩
        refine ⟨_, ⟨rfl⟩, ?_⟩
        refine ⟨_, idxV (j := i) hab rfl rfl rfl rfl, ?_⟩
        refine ⟨_, ⟨rfl⟩, ?_⟩
        refine ⟨_, CallR.mk1 hP rfl rfl, ?_⟩
        refine ⟨_, idxV (j := i) hab rfl rfl rfl rfl, ?_⟩
        refine ⟨_, ⟨rfl⟩, ?_⟩
        refine ⟨_, CallR.mk1 hK rfl rfl, ?_⟩
        refine ⟨_, eqN (show ¬ ((0 : Nat) : Int) = 1 by decide), ?_⟩
        refine ⟨_, eqN (show ¬ ((0 : Nat) : Int) = 2 by decide), ?_⟩
        refine ⟨_, eqN (show ¬ ((0 : Nat) : Int) = 3 by decide), ?_⟩
        refine ⟨_, ⟨_, rfl, rfl⟩, ?_⟩
        refine ⟨_, _, AppR.first1 rfl rfl (by decide) rfl rfl rfl (by decide), ?_⟩
        refine ⟨_, catL ht2.symm (by omega), ?_⟩
        refine ⟨_, ⟨_, rfl, rfl⟩, ?_⟩
        refine ⟨_, remV (by decide) (tmodN i 3), ?_⟩
        refine ⟨_, idxV (j := i % 3) hg rfl rfl rfl rfl, ?_⟩
        refine ⟨_, catL ht3.symm (by omega), ?_⟩
        refine ⟨_, addV rfl (by omega) (by omega), ?_⟩
        exact ⟨(i + 1, [⟨1, w, 0, (t.size : Int)⟩], t3), ⟨by show i + 1 ≤ 40; omega, by show 1 = i + 1; simp at hal; omega, by show t3.size ≤ 29 * (i + 1); omega, hstep⟩, by show 40 - (i + 1) < 40 - i; omega, ⟨rfl, rfl, rfl, rfl, rfl, trivial⟩, ⟨_, rfl⟩, rfl⟩
      | cons q acc =>
        refine ⟨_, ltT (by rw [hzl]; omega), ?_⟩
        refine ⟨_, ltT (by omega), ?_⟩
        refine ⟨_, idxV (j := i) hab rfl rfl rfl rfl, ?_⟩
        refine ⟨_, ⟨rfl⟩, ?_⟩
        refine ⟨_, idxV (j := i) hab rfl rfl rfl rfl, ?_⟩
        refine ⟨_, ⟨rfl⟩, ?_⟩
        refine ⟨_, CallR.mk1 hP rfl rfl, ?_⟩
        refine ⟨_, idxV (j := i) hab rfl rfl rfl rfl, ?_⟩
        refine ⟨_, ⟨rfl⟩, ?_⟩
        refine ⟨_, CallR.mk1 hK rfl rfl, ?_⟩
        refine ⟨_, eqN (show ¬ ((0 : Nat) : Int) = 1 by decide), ?_⟩
        refine ⟨_, eqN (show ¬ ((0 : Nat) : Int) = 2 by decide), ?_⟩
        refine ⟨_, eqN (show ¬ ((0 : Nat) : Int) = 3 by decide), ?_⟩
        refine ⟨_, ⟨_, rfl, rfl⟩, ?_⟩
        refine ⟨_, _, AppR.more1 (q :: acc).length rfl rfl (by decide) rfl rfl (rowT_len _) (rowT_sz _) rfl rfl (by omega) (by show ((q :: acc).length + 1) * 40 ≤ _; omega), ?_⟩
        refine ⟨_, catL ht2.symm (by omega), ?_⟩
        refine ⟨_, ⟨_, rfl, rfl⟩, ?_⟩
        refine ⟨_, remV (by decide) (tmodN i 3), ?_⟩
        refine ⟨_, idxV (j := i % 3) hg rfl rfl rfl rfl, ?_⟩
        refine ⟨_, catL ht3.symm (by omega), ?_⟩
        refine ⟨_, addV rfl (by omega) (by omega), ?_⟩
        exact ⟨(i + 1, q :: acc ++ [⟨1, w, 0, (t.size : Int)⟩], t3), ⟨by show i + 1 ≤ 40; omega, by show (q :: acc ++ [_]).length = i + 1; rw [List.length_append]; show (q :: acc).length + 1 = i + 1; omega, by show t3.size ≤ 29 * (i + 1); omega, hstep⟩, by show 40 - (i + 1) < 40 - i; omega, ⟨rfl, rfl, rfl, (by rw [← cellO_snoc q acc ⟨1, w, 0, (t.size : Int)⟩]; rfl), rfl, trivial⟩, ⟨_, rfl⟩, (by rw [← tokO_snoc q acc ⟨1, w, 0, (t.size : Int)⟩]; rfl)⟩
    · have htok : (⟨(tokW a b).kind, w, (tokW a b).n, (t.size : Int)⟩ : Tok) = ⟨4, w, 0, (t.size : Int)⟩ := by rw [tk, tn]; try rfl
      rw [htok] at hstep
      cases acc with
      | nil =>
        refine ⟨_, ltT (by rw [hzl]; omega), ?_⟩
        refine ⟨_, ltT (by omega), ?_⟩
        refine ⟨_, idxV (j := i) hab rfl rfl rfl rfl, ?_⟩
        refine ⟨_, ⟨rfl⟩, ?_⟩
        refine ⟨_, idxV (j := i) hab rfl rfl rfl rfl, ?_⟩
        refine ⟨_, ⟨rfl⟩, ?_⟩
        refine ⟨_, CallR.mk1 hP rfl rfl, ?_⟩
        refine ⟨_, idxV (j := i) hab rfl rfl rfl rfl, ?_⟩
        refine ⟨_, ⟨rfl⟩, ?_⟩
        refine ⟨_, CallR.mk1 hK rfl rfl, ?_⟩
        refine ⟨_, eqT rfl, ?_⟩
        refine ⟨_, ⟨_, rfl, rfl⟩, ?_⟩
        refine ⟨_, _, AppR.first1 rfl rfl (by decide) rfl rfl rfl (by decide), ?_⟩
        refine ⟨_, catL ht2.symm (by omega), ?_⟩
        refine ⟨_, ⟨_, rfl, rfl⟩, ?_⟩
        refine ⟨_, remV (by decide) (tmodN i 3), ?_⟩
        refine ⟨_, idxV (j := i % 3) hg rfl rfl rfl rfl, ?_⟩
        refine ⟨_, catL ht3.symm (by omega), ?_⟩
        refine ⟨_, addV rfl (by omega) (by omega), ?_⟩
        exact ⟨(i + 1, [⟨4, w, 0, (t.size : Int)⟩], t3), ⟨by show i + 1 ≤ 40; omega, by show 1 = i + 1; simp at hal; omega, by show t3.size ≤ 29 * (i + 1); omega, hstep⟩, by show 40 - (i + 1) < 40 - i; omega, ⟨rfl, rfl, rfl, rfl, rfl, trivial⟩, ⟨_, rfl⟩, rfl⟩
      | cons q acc =>
        refine ⟨_, ltT (by rw [hzl]; omega), ?_⟩
        refine ⟨_, ltT (by omega), ?_⟩
        refine ⟨_, idxV (j := i) hab rfl rfl rfl rfl, ?_⟩
        refine ⟨_, ⟨rfl⟩, ?_⟩
        refine ⟨_, idxV (j := i) hab rfl rfl rfl rfl, ?_⟩
        refine ⟨_, ⟨rfl⟩, ?_⟩
        refine ⟨_, CallR.mk1 hP rfl rfl, ?_⟩
        refine ⟨_, idxV (j := i) hab rfl rfl rfl rfl, ?_⟩
        refine ⟨_, ⟨rfl⟩, ?_⟩
        refine ⟨_, CallR.mk1 hK rfl rfl, ?_⟩
        refine ⟨_, eqT rfl, ?_⟩
        refine ⟨_, ⟨_, rfl, rfl⟩, ?_⟩
        refine ⟨_, _, AppR.more1 (q :: acc).length rfl rfl (by decide) rfl rfl (rowT_len _) (rowT_sz _) rfl rfl (by omega) (by show ((q :: acc).length + 1) * 40 ≤ _; omega), ?_⟩
        refine ⟨_, catL ht2.symm (by omega), ?_⟩
        refine ⟨_, ⟨_, rfl, rfl⟩, ?_⟩
        refine ⟨_, remV (by decide) (tmodN i 3), ?_⟩
        refine ⟨_, idxV (j := i % 3) hg rfl rfl rfl rfl, ?_⟩
        refine ⟨_, catL ht3.symm (by omega), ?_⟩
        refine ⟨_, addV rfl (by omega) (by omega), ?_⟩
        exact ⟨(i + 1, q :: acc ++ [⟨4, w, 0, (t.size : Int)⟩], t3), ⟨by show i + 1 ≤ 40; omega, by show (q :: acc ++ [_]).length = i + 1; rw [List.length_append]; show (q :: acc).length + 1 = i + 1; omega, by show t3.size ≤ 29 * (i + 1); omega, hstep⟩, by show 40 - (i + 1) < 40 - i; omega, ⟨rfl, rfl, rfl, (by rw [← cellO_snoc q acc ⟨4, w, 0, (t.size : Int)⟩]; rfl), rfl, trivial⟩, ⟨_, rfl⟩, (by rw [← tokO_snoc q acc ⟨4, w, 0, (t.size : Int)⟩]; rfl)⟩
    · have htok : (⟨(tokW a b).kind, w, (tokW a b).n, (t.size : Int)⟩ : Tok) = ⟨2, w, (pkN b 100001 : Nat), (t.size : Int)⟩ := by rw [tk, tn]; try rfl
      rw [htok] at hstep
      have hQ := pickN_ok b 100001 hb (by decide)
      cases acc with
      | nil =>
        refine ⟨_, ltT (by rw [hzl]; omega), ?_⟩
        refine ⟨_, ltT (by omega), ?_⟩
        refine ⟨_, idxV (j := i) hab rfl rfl rfl rfl, ?_⟩
        refine ⟨_, ⟨rfl⟩, ?_⟩
        refine ⟨_, idxV (j := i) hab rfl rfl rfl rfl, ?_⟩
        refine ⟨_, ⟨rfl⟩, ?_⟩
        refine ⟨_, CallR.mk1 hP rfl rfl, ?_⟩
        refine ⟨_, idxV (j := i) hab rfl rfl rfl rfl, ?_⟩
        refine ⟨_, ⟨rfl⟩, ?_⟩
        refine ⟨_, CallR.mk1 hK rfl rfl, ?_⟩
        refine ⟨_, eqN (show ¬ ((2 : Nat) : Int) = 1 by decide), ?_⟩
        refine ⟨_, eqT rfl, ?_⟩
        refine ⟨_, idxV (j := i) hab rfl rfl rfl rfl, ?_⟩
        refine ⟨_, ⟨rfl⟩, ?_⟩
        refine ⟨_, CallR.mk1 hQ rfl rfl, ?_⟩
        refine ⟨_, ⟨_, rfl, rfl⟩, ?_⟩
        refine ⟨_, _, AppR.first1 rfl rfl (by decide) rfl rfl rfl (by decide), ?_⟩
        refine ⟨_, catL ht2.symm (by omega), ?_⟩
        refine ⟨_, ⟨_, rfl, rfl⟩, ?_⟩
        refine ⟨_, remV (by decide) (tmodN i 3), ?_⟩
        refine ⟨_, idxV (j := i % 3) hg rfl rfl rfl rfl, ?_⟩
        refine ⟨_, catL ht3.symm (by omega), ?_⟩
        refine ⟨_, addV rfl (by omega) (by omega), ?_⟩
        exact ⟨(i + 1, [⟨2, w, (pkN b 100001 : Nat), (t.size : Int)⟩], t3), ⟨by show i + 1 ≤ 40; omega, by show 1 = i + 1; simp at hal; omega, by show t3.size ≤ 29 * (i + 1); omega, hstep⟩, by show 40 - (i + 1) < 40 - i; omega, ⟨rfl, rfl, rfl, rfl, rfl, trivial⟩, ⟨_, rfl⟩, rfl⟩
      | cons q acc =>
        refine ⟨_, ltT (by rw [hzl]; omega), ?_⟩
        refine ⟨_, ltT (by omega), ?_⟩
        refine ⟨_, idxV (j := i) hab rfl rfl rfl rfl, ?_⟩
        refine ⟨_, ⟨rfl⟩, ?_⟩
        refine ⟨_, idxV (j := i) hab rfl rfl rfl rfl, ?_⟩
        refine ⟨_, ⟨rfl⟩, ?_⟩
        refine ⟨_, CallR.mk1 hP rfl rfl, ?_⟩
        refine ⟨_, idxV (j := i) hab rfl rfl rfl rfl, ?_⟩
        refine ⟨_, ⟨rfl⟩, ?_⟩
        refine ⟨_, CallR.mk1 hK rfl rfl, ?_⟩
        refine ⟨_, eqN (show ¬ ((2 : Nat) : Int) = 1 by decide), ?_⟩
        refine ⟨_, eqT rfl, ?_⟩
        refine ⟨_, idxV (j := i) hab rfl rfl rfl rfl, ?_⟩
        refine ⟨_, ⟨rfl⟩, ?_⟩
        refine ⟨_, CallR.mk1 hQ rfl rfl, ?_⟩
        refine ⟨_, ⟨_, rfl, rfl⟩, ?_⟩
        refine ⟨_, _, AppR.more1 (q :: acc).length rfl rfl (by decide) rfl rfl (rowT_len _) (rowT_sz _) rfl rfl (by omega) (by show ((q :: acc).length + 1) * 40 ≤ _; omega), ?_⟩
        refine ⟨_, catL ht2.symm (by omega), ?_⟩
        refine ⟨_, ⟨_, rfl, rfl⟩, ?_⟩
        refine ⟨_, remV (by decide) (tmodN i 3), ?_⟩
        refine ⟨_, idxV (j := i % 3) hg rfl rfl rfl rfl, ?_⟩
        refine ⟨_, catL ht3.symm (by omega), ?_⟩
        refine ⟨_, addV rfl (by omega) (by omega), ?_⟩
        exact ⟨(i + 1, q :: acc ++ [⟨2, w, (pkN b 100001 : Nat), (t.size : Int)⟩], t3), ⟨by show i + 1 ≤ 40; omega, by show (q :: acc ++ [_]).length = i + 1; rw [List.length_append]; show (q :: acc).length + 1 = i + 1; omega, by show t3.size ≤ 29 * (i + 1); omega, hstep⟩, by show 40 - (i + 1) < 40 - i; omega, ⟨rfl, rfl, rfl, (by rw [← cellO_snoc q acc ⟨2, w, (pkN b 100001 : Nat), (t.size : Int)⟩]; rfl), rfl, trivial⟩, ⟨_, rfl⟩, (by rw [← tokO_snoc q acc ⟨2, w, (pkN b 100001 : Nat), (t.size : Int)⟩]; rfl)⟩
    · have htok : (⟨(tokW a b).kind, w, (tokW a b).n, (t.size : Int)⟩ : Tok) = ⟨3, w, (pkN b 1000000 : Nat), (t.size : Int)⟩ := by rw [tk, tn]; try rfl
      rw [htok] at hstep
      have hQ := pickN_ok b 1000000 hb (by decide)
      cases acc with
      | nil =>
        refine ⟨_, ltT (by rw [hzl]; omega), ?_⟩
        refine ⟨_, ltT (by omega), ?_⟩
        refine ⟨_, idxV (j := i) hab rfl rfl rfl rfl, ?_⟩
        refine ⟨_, ⟨rfl⟩, ?_⟩
        refine ⟨_, idxV (j := i) hab rfl rfl rfl rfl, ?_⟩
        refine ⟨_, ⟨rfl⟩, ?_⟩
        refine ⟨_, CallR.mk1 hP rfl rfl, ?_⟩
        refine ⟨_, idxV (j := i) hab rfl rfl rfl rfl, ?_⟩
        refine ⟨_, ⟨rfl⟩, ?_⟩
        refine ⟨_, CallR.mk1 hK rfl rfl, ?_⟩
        refine ⟨_, eqN (show ¬ ((3 : Nat) : Int) = 1 by decide), ?_⟩
        refine ⟨_, eqN (show ¬ ((3 : Nat) : Int) = 2 by decide), ?_⟩
        refine ⟨_, eqT rfl, ?_⟩
        refine ⟨_, idxV (j := i) hab rfl rfl rfl rfl, ?_⟩
        refine ⟨_, ⟨rfl⟩, ?_⟩
        refine ⟨_, CallR.mk1 hQ rfl rfl, ?_⟩
        refine ⟨_, ⟨_, rfl, rfl⟩, ?_⟩
        refine ⟨_, _, AppR.first1 rfl rfl (by decide) rfl rfl rfl (by decide), ?_⟩
        refine ⟨_, catL ht2.symm (by omega), ?_⟩
        refine ⟨_, ⟨_, rfl, rfl⟩, ?_⟩
        refine ⟨_, remV (by decide) (tmodN i 3), ?_⟩
        refine ⟨_, idxV (j := i % 3) hg rfl rfl rfl rfl, ?_⟩
        refine ⟨_, catL ht3.symm (by omega), ?_⟩
        refine ⟨_, addV rfl (by omega) (by omega), ?_⟩
        exact ⟨(i + 1, [⟨3, w, (pkN b 1000000 : Nat), (t.size : Int)⟩], t3), ⟨by show i + 1 ≤ 40; omega, by show 1 = i + 1; simp at hal; omega, by show t3.size ≤ 29 * (i + 1); omega, hstep⟩, by show 40 - (i + 1) < 40 - i; omega, ⟨rfl, rfl, rfl, rfl, rfl, trivial⟩, ⟨_, rfl⟩, rfl⟩
      | cons q acc =>
        refine ⟨_, ltT (by rw [hzl]; omega), ?_⟩
        refine ⟨_, ltT (by omega), ?_⟩
        refine ⟨_, idxV (j := i) hab rfl rfl rfl rfl, ?_⟩
        refine ⟨_, ⟨rfl⟩, ?_⟩
        refine ⟨_, idxV (j := i) hab rfl rfl rfl rfl, ?_⟩
        refine ⟨_, ⟨rfl⟩, ?_⟩
        refine ⟨_, CallR.mk1 hP rfl rfl, ?_⟩
        refine ⟨_, idxV (j := i) hab rfl rfl rfl rfl, ?_⟩
        refine ⟨_, ⟨rfl⟩, ?_⟩
        refine ⟨_, CallR.mk1 hK rfl rfl, ?_⟩
        refine ⟨_, eqN (show ¬ ((3 : Nat) : Int) = 1 by decide), ?_⟩
        refine ⟨_, eqN (show ¬ ((3 : Nat) : Int) = 2 by decide), ?_⟩
        refine ⟨_, eqT rfl, ?_⟩
        refine ⟨_, idxV (j := i) hab rfl rfl rfl rfl, ?_⟩
        refine ⟨_, ⟨rfl⟩, ?_⟩
        refine ⟨_, CallR.mk1 hQ rfl rfl, ?_⟩
        refine ⟨_, ⟨_, rfl, rfl⟩, ?_⟩
        refine ⟨_, _, AppR.more1 (q :: acc).length rfl rfl (by decide) rfl rfl (rowT_len _) (rowT_sz _) rfl rfl (by omega) (by show ((q :: acc).length + 1) * 40 ≤ _; omega), ?_⟩
        refine ⟨_, catL ht2.symm (by omega), ?_⟩
        refine ⟨_, ⟨_, rfl, rfl⟩, ?_⟩
        refine ⟨_, remV (by decide) (tmodN i 3), ?_⟩
        refine ⟨_, idxV (j := i % 3) hg rfl rfl rfl rfl, ?_⟩
        refine ⟨_, catL ht3.symm (by omega), ?_⟩
        refine ⟨_, addV rfl (by omega) (by omega), ?_⟩
        exact ⟨(i + 1, q :: acc ++ [⟨3, w, (pkN b 1000000 : Nat), (t.size : Int)⟩], t3), ⟨by show i + 1 ≤ 40; omega, by show (q :: acc ++ [_]).length = i + 1; rw [List.length_append]; show (q :: acc).length + 1 = i + 1; omega, by show t3.size ≤ 29 * (i + 1); omega, hstep⟩, by show 40 - (i + 1) < 40 - i; omega, ⟨rfl, rfl, rfl, (by rw [← cellO_snoc q acc ⟨3, w, (pkN b 1000000 : Nat), (t.size : Int)⟩]; rfl), rfl, trivial⟩, ⟨_, rfl⟩, (by rw [← tokO_snoc q acc ⟨3, w, (pkN b 1000000 : Nat), (t.size : Int)⟩]; rfl)⟩
    · have htok : (⟨(tokW a b).kind, w, (tokW a b).n, (t.size : Int)⟩ : Tok) = ⟨1, w, 0, (t.size : Int)⟩ := by rw [tk, tn]; try rfl
      rw [htok] at hstep
      cases acc with
      | nil =>
        refine ⟨_, ltT (by rw [hzl]; omega), ?_⟩
        refine ⟨_, ltT (by omega), ?_⟩
        refine ⟨_, idxV (j := i) hab rfl rfl rfl rfl, ?_⟩
        refine ⟨_, ⟨rfl⟩, ?_⟩
        refine ⟨_, idxV (j := i) hab rfl rfl rfl rfl, ?_⟩
        refine ⟨_, ⟨rfl⟩, ?_⟩
        refine ⟨_, CallR.mk1 hP rfl rfl, ?_⟩
        refine ⟨_, idxV (j := i) hab rfl rfl rfl rfl, ?_⟩
        refine ⟨_, ⟨rfl⟩, ?_⟩
        refine ⟨_, CallR.mk1 hK rfl rfl, ?_⟩
        refine ⟨_, eqN (show ¬ ((4 : Nat) : Int) = 1 by decide), ?_⟩
        refine ⟨_, eqN (show ¬ ((4 : Nat) : Int) = 2 by decide), ?_⟩
        refine ⟨_, eqN (show ¬ ((4 : Nat) : Int) = 3 by decide), ?_⟩
        refine ⟨_, ⟨_, rfl, rfl⟩, ?_⟩
        refine ⟨_, _, AppR.first1 rfl rfl (by decide) rfl rfl rfl (by decide), ?_⟩
        refine ⟨_, catL ht2.symm (by omega), ?_⟩
        refine ⟨_, ⟨_, rfl, rfl⟩, ?_⟩
        refine ⟨_, remV (by decide) (tmodN i 3), ?_⟩
        refine ⟨_, idxV (j := i % 3) hg rfl rfl rfl rfl, ?_⟩
        refine ⟨_, catL ht3.symm (by omega), ?_⟩
        refine ⟨_, addV rfl (by omega) (by omega), ?_⟩
        exact ⟨(i + 1, [⟨1, w, 0, (t.size : Int)⟩], t3), ⟨by show i + 1 ≤ 40; omega, by show 1 = i + 1; simp at hal; omega, by show t3.size ≤ 29 * (i + 1); omega, hstep⟩, by show 40 - (i + 1) < 40 - i; omega, ⟨rfl, rfl, rfl, rfl, rfl, trivial⟩, ⟨_, rfl⟩, rfl⟩
      | cons q acc =>
        refine ⟨_, ltT (by rw [hzl]; omega), ?_⟩
        refine ⟨_, ltT (by omega), ?_⟩
        refine ⟨_, idxV (j := i) hab rfl rfl rfl rfl, ?_⟩
        refine ⟨_, ⟨rfl⟩, ?_⟩
        refine ⟨_, idxV (j := i) hab rfl rfl rfl rfl, ?_⟩
        refine ⟨_, ⟨rfl⟩, ?_⟩
        refine ⟨_, CallR.mk1 hP rfl rfl, ?_⟩
        refine ⟨_, idxV (j := i) hab rfl rfl rfl rfl, ?_⟩
        refine ⟨_, ⟨rfl⟩, ?_⟩
        refine ⟨_, CallR.mk1 hK rfl rfl, ?_⟩
        refine ⟨_, eqN (show ¬ ((4 : Nat) : Int) = 1 by decide), ?_⟩
        refine ⟨_, eqN (show ¬ ((4 : Nat) : Int) = 2 by decide), ?_⟩
        refine ⟨_, eqN (show ¬ ((4 : Nat) : Int) = 3 by decide), ?_⟩
        refine ⟨_, ⟨_, rfl, rfl⟩, ?_⟩
        refine ⟨_, _, AppR.more1 (q :: acc).length rfl rfl (by decide) rfl rfl (rowT_len _) (rowT_sz _) rfl rfl (by omega) (by show ((q :: acc).length + 1) * 40 ≤ _; omega), ?_⟩
        refine ⟨_, catL ht2.symm (by omega), ?_⟩
        refine ⟨_, ⟨_, rfl, rfl⟩, ?_⟩
        refine ⟨_, remV (by decide) (tmodN i 3), ?_⟩
        refine ⟨_, idxV (j := i % 3) hg rfl rfl rfl rfl, ?_⟩
        refine ⟨_, catL ht3.symm (by omega), ?_⟩
        refine ⟨_, addV rfl (by omega) (by omega), ?_⟩
        exact ⟨(i + 1, q :: acc ++ [⟨1, w, 0, (t.size : Int)⟩], t3), ⟨by show i + 1 ≤ 40; omega, by show (q :: acc ++ [_]).length = i + 1; rw [List.length_append]; show (q :: acc).length + 1 = i + 1; omega, by show t3.size ≤ 29 * (i + 1); omega, hstep⟩, by show 40 - (i + 1) < 40 - i; omega, ⟨rfl, rfl, rfl, (by rw [← cellO_snoc q acc ⟨1, w, 0, (t.size : Int)⟩]; rfl), rfl, trivial⟩, ⟨_, rfl⟩, (by rw [← tokO_snoc q acc ⟨1, w, 0, (t.size : Int)⟩]; rfl)⟩
  · have hlex := htold.lex (by omega)
    refine ⟨_, ltN (by rw [hzl]; omega), ?_⟩
    · skip
      have hL := Lex_ok t
      rw [hlex] at hL
      have hS := rSame_ok (acc ++ [⟨5, e0, 0, (t.size : Int)⟩]) (acc ++ [⟨5, e0, 0, (t.size : Int)⟩]) (by rw [List.length_append, List.length_cons, List.length_nil]; omega)
      rw [eqToks_refl] at hS
      cases acc with
      | nil =>
        refine ⟨_, ⟨_, rfl, rfl⟩, ?_⟩
        refine ⟨_, _, AppR.first1 rfl rfl (by decide) rfl rfl rfl (by decide), ?_⟩
        refine ⟨_, CallR.mk1 hL rfl rfl, ?_⟩
        refine ⟨_, eqT rfl, ?_⟩
        refine ⟨_, eqT rfl, ?_⟩
        refine ⟨_, CallR.mkW hS (.cons (Wk.refl _) (.cons (wkO _ _) .nil)) rfl rfl, ?_⟩
        exact Ret.mk _ rfl rfl rfl
      | cons q acc =>
        have e : rowT (q :: acc ++ [⟨5, e0, 0, (t.size : Int)⟩]) = rowT (q :: acc) ++ [cellsT ⟨5, e0, 0, (t.size : Int)⟩] := by simp [rowT]
        have wk : Wk (.orow (rowT (q :: acc) ++ [cellsT ⟨5, e0, 0, (t.size : Int)⟩]) 0) (.c (.row (rowT (q :: acc ++ [⟨5, e0, 0, (t.size : Int)⟩])))) := by rw [e]; exact wkO _ _
        refine ⟨_, ⟨_, rfl, rfl⟩, ?_⟩
        refine ⟨_, _, AppR.more1 (q :: acc).length rfl rfl (by decide) rfl rfl (rowT_len _) (rowT_sz _) rfl rfl (by omega) (by show ((q :: acc).length + 1) * 40 ≤ _; omega), ?_⟩
        refine ⟨_, CallR.mk1 hL rfl rfl, ?_⟩
        refine ⟨_, eqT rfl, ?_⟩
        refine ⟨_, eqT rfl, ?_⟩
        refine ⟨_, CallR.mkW hS (.cons (Wk.refl _) (.cons wk .nil)) rfl rfl, ?_⟩
        exact Ret.mk _ rfl rfl rfl
  · have hlex := htold.lex (by omega)
    refine ⟨_, ltT (by rw [hzl]; omega), ?_⟩
    refine ⟨_, ltN (by omega), ?_⟩
    · skip
      have hL := Lex_ok t
      rw [hlex] at hL
      have hS := rSame_ok (acc ++ [⟨5, e0, 0, (t.size : Int)⟩]) (acc ++ [⟨5, e0, 0, (t.size : Int)⟩]) (by rw [List.length_append, List.length_cons, List.length_nil]; omega)
      rw [eqToks_refl] at hS
      cases acc with
      | nil =>
        refine ⟨_, ⟨_, rfl, rfl⟩, ?_⟩
        refine ⟨_, _, AppR.first1 rfl rfl (by decide) rfl rfl rfl (by decide), ?_⟩
        refine ⟨_, CallR.mk1 hL rfl rfl, ?_⟩
        refine ⟨_, eqT rfl, ?_⟩
        refine ⟨_, eqT rfl, ?_⟩
        refine ⟨_, CallR.mkW hS (.cons (Wk.refl _) (.cons (wkO _ _) .nil)) rfl rfl, ?_⟩
        exact Ret.mk _ rfl rfl rfl
      | cons q acc =>
        have e : rowT (q :: acc ++ [⟨5, e0, 0, (t.size : Int)⟩]) = rowT (q :: acc) ++ [cellsT ⟨5, e0, 0, (t.size : Int)⟩] := by simp [rowT]
        have wk : Wk (.orow (rowT (q :: acc) ++ [cellsT ⟨5, e0, 0, (t.size : Int)⟩]) 0) (.c (.row (rowT (q :: acc ++ [⟨5, e0, 0, (t.size : Int)⟩])))) := by rw [e]; exact wkO _ _
        refine ⟨_, ⟨_, rfl, rfl⟩, ?_⟩
        refine ⟨_, _, AppR.more1 (q :: acc).length rfl rfl (by decide) rfl rfl (rowT_len _) (rowT_sz _) rfl rfl (by omega) (by show ((q :: acc).length + 1) * 40 ≤ _; omega), ?_⟩
        refine ⟨_, CallR.mk1 hL rfl rfl, ?_⟩
        refine ⟨_, eqT rfl, ?_⟩
        refine ⟨_, eqT rfl, ?_⟩
        refine ⟨_, CallR.mkW hS (.cons (Wk.refl _) (.cons wk .nil)) rfl rfl, ?_⟩
        exact Ret.mk _ rfl rfl rfl
inductive WrongI (n k : Nat) (j : Nat) (i : Nat) (t : ByteArray) : Int → Prop
  | yet (h : i ≤ k) (hz : t.size ≤ 27 * i) (l : List Tok) (told : Told i t.data.toList l) : WrongI n k j i t 0
  | done (h : k < i) (hz : t.size ≤ 27 * i + 20) (p : Int) (m : Nat) (w : Wrong m t.data.toList p) : WrongI n k j i t p
theorem LexWrong_ok (z : List (List Int)) (hz : ∀ y ∈ z, y.length = 2 ∧ ∀ n ∈ y, I64 n) (at_ : Int) (hat : I64 at_) (what : Int) (hwhat : I64 what) : Ok E 6 [] [.c (.row (encA z)), pI at_, pI what] (pB true) [] := by
  have hzl := encA_len z
  have hW := pickN_ok what 14 hwhat (by decide)
  have hWl := (pkN_eq (c := what) (n := 14) (by decide)).2
  obtain ⟨j, hj⟩ : ∃ j, pkN what 14 = j := ⟨_, rfl⟩
  rw [hj] at hW hWl
  have hj14 : j < 14 := by omega
  have hbg := rowB_get (l := badBs) (j := j) hj14
  have hbz := sz_getD (l := badBs) (m := 13) (by decide) j
  obtain ⟨n, hn⟩ : ∃ n, min z.length 30 = n := ⟨_, rfl⟩
  have hn30 : n ≤ 30 := by omega
  have hnz : n ≤ z.length := by omega
  have hK := pickN_ok at_ ((n : Int) + 1) hat (by omega)
  have hKl := (pkN_eq (c := at_) (n := (n : Int) + 1) (by omega)).2
  obtain ⟨k, hk⟩ : ∃ k, pkN at_ ((n : Int) + 1) = k := ⟨_, rfl⟩
  rw [hk] at hK hKl
  have hkn : k ≤ n := by omega
  obtain ⟨bad, hbad⟩ : ∃ b, badBs.getD j e0 = b := ⟨_, rfl⟩
  have hBad := fun {i : Nat} {t : List UInt8} {l : List Tok} (h : Told i t l) => h.bad hj14
  have hEnd := fun {i : Nat} {t : ByteArray} {l : List Tok} (h : Told i t.data.toList l) (hz : t.size ≤ 1900) => h.badEnd hj14 hz
  rw [hbad] at hbg hbz hBad hEnd
  refine Ok.enter hE Tryd.func6 rfl (by decide +kernel) (by kernel_rfl) rfl rfl (Nat.le_of_ble_eq_true rfl) rfl ?_
  refine ⟨_, CallR.mk1 awake_ok rfl rfl, ?_⟩
  refine ⟨_, ⟨_, rfl, rfl⟩, ?_⟩
  refine ⟨_, CallR.mk1 hW rfl rfl, ?_⟩
  refine ⟨_, idxV (j := j) hbg rfl rfl rfl rfl, ?_⟩
  refine ⟨_, minV (z := (n : Int)) (by rw [hzl]; omega), ?_⟩
  refine ⟨_, addV rfl (by omega) (by omega), ?_⟩
  refine ⟨_, CallR.mk1 hK rfl rfl, ?_⟩
  refine Loop.run (α := Nat × ByteArray × Int) (fun x => x.1 ≤ n ∧ WrongI n k j x.1 x.2.1 x.2.2) (fun x => [(0, .c (.row (encA z))), (7, pB true), (8, pS bad), (9, pI n), (10, pI k), (11, pS x.2.1), (12, pI x.2.2), (13, pI x.1)]) (fun _ => []) (fun _ => []) (fun x => n - x.1) (0, e0, 0) ⟨Nat.zero_le _, .yet (Nat.zero_le _) (Nat.le_refl _) [] Told.nil⟩ ⟨⟨rfl, rfl, rfl, rfl, rfl, rfl, rfl, rfl, trivial⟩, rfl, rfl⟩ ?_
  rintro ⟨i, t, pl⟩ f ⟨hi, hI⟩
  have hi : i ≤ n := hi
  have hI : WrongI n k j i t pl := hI
  by_cases hin : i < n
  · obtain ⟨a, b, -, ha, hb, hab⟩ := arr_get hz (i := i) (by omega)
    have hP := Piece_ok a b ha hb
    have hpz := piece_sz2 a b
    have hstep := fun {t : List UInt8} {l : List Tok} (h : Told i t l) => h.step a b [32] (by simp) (by decide +kernel)
    obtain ⟨w, hw⟩ : ∃ w, pieceF a b = w := ⟨_, rfl⟩
    rw [hw] at hP hpz hstep
    rcases hI with ⟨hik, htz, l, htold⟩ | ⟨hik, htz, _, m, hwr⟩
    · have hc : i = k ∨ i ≠ k := by omega
      rcases hc with hc | hc
      · have hwr := hBad htold
        rw [sz_len] at hwr
        obtain ⟨t1, e1⟩ : ∃ x, B (t.data.toList ++ bad.data.toList) = x := ⟨_, rfl⟩
        obtain ⟨t2, e2⟩ : ∃ x, B (t1.data.toList ++ [32]) = x := ⟨_, rfl⟩
        obtain ⟨t3, e3⟩ : ∃ x, B (t2.data.toList ++ w.data.toList) = x := ⟨_, rfl⟩
        obtain ⟨t4, e4⟩ : ∃ x, B (t3.data.toList ++ [32]) = x := ⟨_, rfl⟩
        have z1 : t1.size = t.size + bad.size := by rw [← e1, B_size, List.length_append, sz_len, sz_len]
        have z2 : t2.size = t1.size + 1 := by rw [← e2, B_size, List.length_append, sz_len]; rfl
        have z3 : t3.size = t2.size + w.size := by rw [← e3, B_size, List.length_append, sz_len, sz_len]
        have z4 : t4.size = t3.size + 1 := by rw [← e4, B_size, List.length_append, sz_len]; rfl
        have h4 : t4.data.toList = ((t.data.toList ++ bad.data.toList) ++ [32]) ++ (w.data.toList ++ [32]) := by
          rw [← e4, B_toList, ← e3, B_toList, ← e2, B_toList, ← e1, B_toList, List.append_assoc (_ ++ _)]
        have hwr2 := hwr.more (w.data.toList ++ [32])
        rw [← h4] at hwr2
        refine ⟨_, ltT (by omega), ?_⟩
        refine ⟨_, eqT (by omega), ?_⟩
        refine ⟨_, catL (x := t) (y := bad) e1.symm (by omega), ?_⟩
        refine ⟨_, catL e2.symm (by show _ + 1 ≤ _; omega), ?_⟩
        refine ⟨_, idxV (j := i) hab rfl rfl rfl rfl, ?_⟩
        refine ⟨_, ⟨rfl⟩, ?_⟩
        refine ⟨_, idxV (j := i) hab rfl rfl rfl rfl, ?_⟩
        refine ⟨_, ⟨rfl⟩, ?_⟩
        refine ⟨_, CallR.mk1 hP rfl rfl, ?_⟩
        refine ⟨_, catL (x := t2) (y := w) e3.symm (by omega), ?_⟩
        refine ⟨_, catL e4.symm (by show _ + 1 ≤ _; omega), ?_⟩
        refine ⟨_, addV rfl (by omega) (by omega), ?_⟩
        exact ⟨(i + 1, t4, (t.size : Int)), ⟨by show i + 1 ≤ n; omega, .done (by show k < i + 1; omega) (by show t4.size ≤ 27 * (i + 1) + 20; omega) _ _ hwr2⟩, by show n - (i + 1) < n - i; omega, ⟨rfl, rfl, rfl, rfl, rfl, rfl, rfl, rfl, trivial⟩, rfl, rfl⟩
      · have hs := hstep htold
        obtain ⟨t3, e3⟩ : ∃ x, B (t.data.toList ++ w.data.toList) = x := ⟨_, rfl⟩
        obtain ⟨t4, e4⟩ : ∃ x, B (t3.data.toList ++ [32]) = x := ⟨_, rfl⟩
        have z3 : t3.size = t.size + w.size := by rw [← e3, B_size, List.length_append, sz_len, sz_len]
        have z4 : t4.size = t3.size + 1 := by rw [← e4, B_size, List.length_append, sz_len]; rfl
        have h4 : t4.data.toList = (t.data.toList ++ w.data.toList) ++ [32] := by
          rw [← e4, B_toList, ← e3, B_toList]
        rw [← h4] at hs
        refine ⟨_, ltT (by omega), ?_⟩
        refine ⟨_, eqN (by omega), ?_⟩
        refine ⟨_, idxV (j := i) hab rfl rfl rfl rfl, ?_⟩
        refine ⟨_, ⟨rfl⟩, ?_⟩
        refine ⟨_, idxV (j := i) hab rfl rfl rfl rfl, ?_⟩
        refine ⟨_, ⟨rfl⟩, ?_⟩
        refine ⟨_, CallR.mk1 hP rfl rfl, ?_⟩
        refine ⟨_, catL (x := t) (y := w) e3.symm (by omega), ?_⟩
        refine ⟨_, catL e4.symm (by show _ + 1 ≤ _; omega), ?_⟩
        refine ⟨_, addV rfl (by omega) (by omega), ?_⟩
        exact ⟨(i + 1, t4, 0), ⟨by show i + 1 ≤ n; omega, .yet (by show i + 1 ≤ k; omega) (by show t4.size ≤ 27 * (i + 1); omega) _ hs⟩, by show n - (i + 1) < n - i; omega, ⟨rfl, rfl, rfl, rfl, rfl, rfl, rfl, rfl, trivial⟩, rfl, rfl⟩
    · obtain ⟨t3, e3⟩ : ∃ x, B (t.data.toList ++ w.data.toList) = x := ⟨_, rfl⟩
      obtain ⟨t4, e4⟩ : ∃ x, B (t3.data.toList ++ [32]) = x := ⟨_, rfl⟩
      have z3 : t3.size = t.size + w.size := by rw [← e3, B_size, List.length_append, sz_len, sz_len]
      have z4 : t4.size = t3.size + 1 := by rw [← e4, B_size, List.length_append, sz_len]; rfl
      have h4 : t4.data.toList = t.data.toList ++ (w.data.toList ++ [32]) := by
        rw [← e4, B_toList, ← e3, B_toList, List.append_assoc]
      have hwr2 := hwr.more (w.data.toList ++ [32])
      rw [← h4] at hwr2
      refine ⟨_, ltT (by omega), ?_⟩
      refine ⟨_, eqN (by omega), ?_⟩
      refine ⟨_, idxV (j := i) hab rfl rfl rfl rfl, ?_⟩
      refine ⟨_, ⟨rfl⟩, ?_⟩
      refine ⟨_, idxV (j := i) hab rfl rfl rfl rfl, ?_⟩
      refine ⟨_, ⟨rfl⟩, ?_⟩
      refine ⟨_, CallR.mk1 hP rfl rfl, ?_⟩
      refine ⟨_, catL (x := t) (y := w) e3.symm (by omega), ?_⟩
      refine ⟨_, catL e4.symm (by show _ + 1 ≤ _; omega), ?_⟩
      refine ⟨_, addV rfl (by omega) (by omega), ?_⟩
      exact ⟨(i + 1, t4, pl), ⟨by show i + 1 ≤ n; omega, .done (by show k < i + 1; omega) (by show t4.size ≤ 27 * (i + 1) + 20; omega) _ _ hwr2⟩, by show n - (i + 1) < n - i; omega, ⟨rfl, rfl, rfl, rfl, rfl, rfl, rfl, rfl, trivial⟩, rfl, rfl⟩
  · have hin : i = n := by omega
    rcases hI with ⟨hik, htz, l, htold⟩ | ⟨hik, htz, _, m, hwr⟩
    · have hlex := hEnd htold (by omega)
      obtain ⟨t1, e1⟩ : ∃ x, B (t.data.toList ++ bad.data.toList) = x := ⟨_, rfl⟩
      rw [e1] at hlex
      have hL := Lex_ok t1
      rw [hlex] at hL
      refine ⟨_, ltN (by omega), ?_⟩
      refine ⟨_, eqT (by omega), ?_⟩
      refine ⟨_, catL (x := t) (y := bad) e1.symm (by omega), ?_⟩
      refine ⟨_, CallR.mk1 hL rfl rfl, ?_⟩
      refine ⟨_, eqT rfl, ?_⟩
      refine ⟨_, eqT rfl, ?_⟩
      refine ⟨_, eqT rfl, ?_⟩
      exact Ret.mk _ rfl rfl rfl
    · have hlex := hwr.lex (by omega)
      have hL := Lex_ok t
      rw [hlex] at hL
      refine ⟨_, ltN (by omega), ?_⟩
      refine ⟨_, eqN (by omega), ?_⟩
      refine ⟨_, CallR.mk1 hL rfl rfl, ?_⟩
      refine ⟨_, eqT rfl, ?_⟩
      refine ⟨_, eqT rfl, ?_⟩
      refine ⟨_, eqT rfl, ?_⟩
      exact Ret.mk _ rfl rfl rfl
end Go.Proofs.YtanhnckdinlikaaDoor.Lx
