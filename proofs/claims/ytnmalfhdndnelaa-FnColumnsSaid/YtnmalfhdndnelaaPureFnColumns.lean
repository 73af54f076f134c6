/- The law FnColumns holds of the program: whatever its arguments (of the kinds and sizes that the statement names), it answers true. -/
import Derived.Test.YtnmalfhdndnelaaQFnColumnsx9
import Derived.Test.YtnmalfhdndnelaaLib
import Derived.Test.YtnmalfhdndnelaaLibLev
import Derived.Test.YtnmalfhdndnelaaLibTab
import Derived.Test.YtnmalfhdndnelaaLibBytes
import Derived.Test.YtnmalfhdndnelaaLibCol
import Derived.Test.YtnmalfhdndnelaaLibNext
set_option linter.unusedVariables false
set_option linter.unusedSimpArgs false
namespace Go.Proofs.Ytnmalfhdndnelaa.Pure
open Go.RowKit Go.Proofs.Ytnmalfhdndnelaa.PFnColumns Go.Proofs.YtnmalfhdndnelaaW.PrintWords Go.Proofs.YtnmalfhdndnelaaW.PrintLast Go.Proofs.Ytnmalfhdndnelaa.L 

theorem table_rdL : rd_L2 = rdL := rfl
theorem table_cell (s t : ByteArray) (hs : s.size ≤ 32) (ht : t.size ≤ 32) (i j k : Nat) (T : List (List Int)) (hi : i ≤ s.size) (hj : j + 1 ≤ t.size + 1) (hT : Tab s t T i (j + 1))
    (ih : ∀ T', i ≤ s.size → j ≤ t.size + 1 → i * 40 + j + 2 ≤ k → Tab s t T' i j → ∃ R, spec_l05Table.l1 k s t T' (i : Int) ((j : Int) - 1) = some R ∧ TabR s t R 0) (hk : i * 40 + j + 2 ≤ k) :
    ∃ R, spec_l05Table.l1 (k + 1) s t T (i : Int) (((j + 1 : Nat) : Int) - 1) = some R ∧ TabR s t R 0 := by
  have hl := hT.1
  have hr := hT.len (Nat.le_refl _) hi
  have hb := levAt_le s t
  rw [show (((j + 1 : Nat) : Int) - 1) = (j : Int) from by omega, spec_l05Table.l1, if_pos (by omega)]
  simp only [table_rdL, w64 (show -9223372036854775808 ≤ (j : Int) - 1 by omega) (by omega), w64 (show -9223372036854775808 ≤ (i : Int) + 1 by omega) (by omega), w64 (show -9223372036854775808 ≤ (j : Int) + 1 by omega) (by omega)]
  by_cases e1 : i = s.size
  · rw [if_pos (by omega), if_pos (by omega), if_pos (by omega), if_pos (by omega), if_pos (by rw [hr]; omega)]
    rw [Int.toNat_natCast, Int.toNat_natCast]
    refine ih _ hi (by omega) hk (hT.put hi (by omega) ?_)
    rw [w64 (by omega) (by omega), e1, levAt_end]
    omega
  · rw [if_neg (by omega)]
    by_cases e2 : j = t.size
    · rw [if_pos (by omega), if_pos (by omega), if_pos (by omega), if_pos (by omega), if_pos (by rw [hr]; omega)]
      rw [Int.toNat_natCast, Int.toNat_natCast]
      refine ih _ hi (by omega) hk (hT.put hi (by omega) ?_)
      rw [w64 (by omega) (by omega), e2, levAt_end']
      omega
    · rw [if_neg (by omega)]
      have hr1 := hT.len (show i ≤ i + 1 by omega) (by omega)
      have c1 := hT.2.2 (i + 1) (j + 1) (by omega) (by omega) (by omega)
      have c2 := hT.2.2 (i + 1) j (by omega) (by omega) (by omega)
      have c3 := hT.2.2 i (j + 1) (by omega) (by omega) (by omega)
      have b1 := hb (i + 1) (j + 1)
      have b2 := hb (i + 1) j
      have b3 := hb i (j + 1)
      have hst := levAt_step s t (show i < s.size by omega) (show j < t.size by omega)
      rw [show ((i : Int) + 1) = ((i + 1 : Nat) : Int) from rfl, show ((j : Int) + 1) = ((j + 1 : Nat) : Int) from rfl]
      simp only [c1, c2, c3, hr, hr1, hl]
      by_cases e3 : bt s (i : Int) = bt t (j : Int)
      · rw [ne01, if_pos e3] at hst
        repeat rw [if_pos (by first | exact e3 | omega)]
        rw [Int.toNat_natCast, Int.toNat_natCast]
        refine ih _ hi (by omega) hk (hT.put hi (by omega) ?_)
        exact step_eq (by omega) (by omega) (by omega) hst
      · rw [ne01, if_neg e3] at hst
        repeat first | rw [if_pos (by omega)] | rw [if_neg e3]
        rw [Int.toNat_natCast, Int.toNat_natCast]
        refine ih _ hi (by omega) hk (hT.put hi (by omega) ?_)
        exact step_ne (by omega) (by omega) (by omega) hst
theorem table_l1 (s t : ByteArray) (hs : s.size ≤ 32) (ht : t.size ≤ 32) (i : Nat) : ∀ (j k : Nat) (T : List (List Int)), i ≤ s.size → j ≤ t.size + 1 → i * 40 + j + 2 ≤ k → Tab s t T i j →
    ∃ R, spec_l05Table.l1 k s t T (i : Int) ((j : Int) - 1) = some R ∧ TabR s t R 0 := by
  induction i with
  | zero =>
    intro j
    induction j with
    | zero =>
      intro k T hi hj hk hT
      obtain ⟨k, rfl⟩ : ∃ q, k = q + 1 + 1 := ⟨k - 2, by omega⟩
      refine ⟨T, ?_, hT.rows⟩
      rw [spec_l05Table.l1, if_neg (by omega), w64 (by omega) (by omega), spec_l05Table.l0, if_neg (by omega)]
    | succ j ihj =>
      intro k T hi hj hk hT
      obtain ⟨k, rfl⟩ : ∃ q, k = q + 1 := ⟨k - 1, by omega⟩
      exact table_cell s t hs ht 0 j k T hi hj hT (ihj k)
        (by omega)
  | succ i ih =>
    intro j
    induction j with
    | zero =>
      intro k T hi hj hk hT
      obtain ⟨k, rfl⟩ : ∃ q, k = q + 1 + 1 := ⟨k - 2, by omega⟩
      have hr := hT.rows.row (by omega) (List.replicate (t.size + 1) 0) (by simp)
      have hl := hT.1
      obtain ⟨R, h1, h2⟩ := ih (t.size + 1) k _ (by omega) (Nat.le_refl _) (by omega) hr
      refine ⟨R, ?_, h2⟩
      rw [spec_l05Table.l1, if_neg (by omega), w64 (by omega) (by omega), spec_l05Table.l0, if_pos (by omega), w64 (by omega) (by omega)]
      rw [if_pos (by omega), if_pos (by omega), if_pos (by omega), if_pos (by omega)]
      rw [show (((i + 1 : Nat) : Int) - 1) = (i : Int) from by omega, show (((t.size : Nat) : Int) + 1).toNat = t.size + 1 from by omega, Int.toNat_natCast]
      rw [show (((t.size + 1 : Nat) : Int) - 1) = (t.size : Int) from by omega] at h1
      exact h1
    | succ j ihj =>
      intro k T hi hj hk hT
      obtain ⟨k, rfl⟩ : ∃ q, k = q + 1 := ⟨k - 1, by omega⟩
      exact table_cell s t hs ht (i + 1) j k T hi hj hT (ihj k)
        (by omega)
theorem table_f (s t : ByteArray) (hs : s.size ≤ 32) (ht : t.size ≤ 32) {k : Nat} (hk : 1400 < k) : ∃ R, spec_l05Table.f k s t = some R ∧ TabR s t R 0 := by
  obtain ⟨k, rfl⟩ : ∃ q, k = q + 1 := ⟨k - 1, by omega⟩
  have h0 := (TabR.start s t).row (Nat.le_refl _) (List.replicate (t.size + 1) 0) (by simp)
  obtain ⟨R, h1, h2⟩ := table_l1 s t hs ht s.size (t.size + 1) k _ (Nat.le_refl _) (Nat.le_refl _) (by omega) h0
  refine ⟨R, ?_, h2⟩
  unfold spec_l05Table.f
  rw [w64 (by omega) (by omega), if_pos (by omega), if_pos (by omega), spec_l05Table.l0, if_pos (by omega), w64 (by omega) (by omega), if_pos (by omega), if_pos (by omega), if_pos (by omega), if_pos (by rw [List.length_replicate]; omega)]
  rw [show (((s.size : Nat) : Int) + 1).toNat = s.size + 1 from by omega, show (((t.size : Nat) : Int) + 1).toNat = t.size + 1 from by omega, Int.toNat_natCast]
  rw [show (((t.size + 1 : Nat) : Int) - 1) = (t.size : Int) from by omega] at h1
  exact h1

theorem l05Long_f (s t : ByteArray) : spec_l05Long.f s t = some (decide (32 < s.size ∨ 32 < t.size)) := by
  unfold spec_l05Long.f
  by_cases h : (s.size : Int) > 32
  · rw [if_pos h, decide_eq_true (by omega)]
  · rw [if_neg h]; congr 1; rw [decide_eq_decide]; omega
/-- the distance of the document's fifth chapter -/
def distN (s t : ByteArray) : Int := if s.size ≤ 32 ∧ t.size ≤ 32 then (lev (bytesOf s) (bytesOf t) : Int) else -1
theorem spec_Distance_f (s t : ByteArray) {k : Nat} (hk : 1400 < k) : spec_Distance.f k s t = some (distN s t) := by
  unfold spec_Distance.f distN
  rw [l05Long_f, Option.bind_some]
  by_cases h : s.size ≤ 32 ∧ t.size ≤ 32
  · obtain ⟨R, h1, h2⟩ := table_f s t h.1 h.2 hk
    obtain ⟨r1, r2, r3⟩ := h2.top
    rw [if_neg (by simp only [decide_eq_true_eq]; omega), h1, Option.bind_some, table_rdL, if_pos (by omega), if_pos (by omega), r3, if_pos h, levAt_top]
  · rw [if_pos (by simp only [decide_eq_true_eq]; omega), if_neg h]

/-- a reader of draws: how far it is, and its seed -/
def Cur (p s B : Int) : Prop := 0 ≤ p ∧ p ≤ B ∧ 0 ≤ s ∧ s < 65521
theorem Cur.le {p s B C : Int} (h : Cur p s B) (hB : B ≤ C) : Cur p s C := ⟨h.1, by have := h.2.1; omega, h.2.2⟩
theorem pick_f (L : List Int) (hL : U8s L) (n : Int) {p s B : Int} (h : Cur p s B) (hB : B ≤ 1000000000000) (hn : n ≤ 1000000000000) :
    ∃ r p' s', spec_l01Cur_pick.f L p s n = some (r, p', s') ∧ 0 ≤ r ∧ (r < n ∨ n < 2 ∧ r = 0) ∧ Cur p' s' (B + 1) := by
  obtain ⟨h0, h1, h2, h3⟩ := h
  unfold spec_l01Cur_pick.f
  by_cases c1 : n < 2
  · rw [if_pos c1]
    exact ⟨0, p, s, rfl, by omega, .inr ⟨c1, rfl⟩, h0, by omega, h2, h3⟩
  · rw [if_neg c1]
    have hw : wrap64 (wrap64 (s * 1103) + 12345) = s * 1103 + 12345 := by rw [w64 (n := s * 1103) (by omega) (by omega), w64 (by omega) (by omega)]
    have hs0 : 0 ≤ Int.tmod (s * 1103 + 12345) 65521 := Int.tmod_nonneg _ (by omega)
    have hs1 : Int.tmod (s * 1103 + 12345) 65521 < 65521 := Int.tmod_lt_of_pos _ (by decide)
    rw [hw, w64 (n := p + 1) (by omega) (by omega)]
    by_cases c2 : p < (L.length : Int)
    · have hb := hL p.toNat (by omega)
      rw [Int.toNat_of_nonneg h0] at hb
      rw [if_pos c2, if_pos h0, if_neg (by omega), w64 (by omega) (by omega)]
      refine ⟨_, _, _, rfl, Int.tmod_nonneg _ (by omega), .inl (Int.tmod_lt_of_pos _ (by omega)), ?_⟩
      exact ⟨by omega, by omega, h2, h3⟩
    · rw [if_neg c2]
      by_cases c3 : (L.length : Int) > 0
      · have hm0 : 0 ≤ Int.tmod p (L.length : Int) := Int.tmod_nonneg _ h0
        have hm1 : Int.tmod p (L.length : Int) < (L.length : Int) := Int.tmod_lt_of_pos _ c3
        have hb := hL (Int.tmod p (L.length : Int)).toNat (by omega)
        rw [Int.toNat_of_nonneg hm0] at hb
        have hq0 : 0 ≤ Int.tdiv (Int.tmod (s * 1103 + 12345) 65521) 7 := Int.tdiv_nonneg hs0 (by decide)
        have hq1 : Int.tdiv (Int.tmod (s * 1103 + 12345) 65521) 7 < 65521 := by
          rw [Int.tdiv_eq_ediv_of_nonneg hs0]; omega
        rw [if_pos c3, if_neg (by omega), if_pos hm0, if_pos hm1, if_neg (by omega)]
        rw [w64 (n := Int.tdiv (Int.tmod (s * 1103 + 12345) 65521) 7) (by omega) (by omega), w64 (n := rd L (Int.tmod p (L.length : Int))) (by omega) (by omega), w64 (by omega) (by omega)]
        refine ⟨_, _, _, rfl, Int.tmod_nonneg _ (by omega), .inl (Int.tmod_lt_of_pos _ (by omega)), ?_⟩
        exact ⟨by omega, by omega, hs0, hs1⟩
      · rw [if_neg c3, if_neg (by omega)]
        refine ⟨_, _, _, rfl, Int.emod_nonneg _ (by omega), .inl (Int.emod_lt_of_pos _ (by omega)), ?_⟩
        exact ⟨by omega, by omega, hs0, hs1⟩

theorem strOfNums_sz (xs : List Int) : (strOfNums xs).size = xs.length := strOfNums_size xs
theorem word_l0 (L : List Int) (hL : U8s L) (n : Int) (hn : n ≤ 32) (d : Nat) : ∀ (k : Nat) (xs : List Int) (p s B : Int), n - (xs.length : Int) ≤ (d : Int) → xs.length ≤ 32 → d < k → Cur p s B → B + 2 * d ≤ 1000000000000 →
    ∃ w p' s', spec_l01Cur_word.l0 k n xs L p s = some (w, p', s') ∧ w.size ≤ 32 ∧ Cur p' s' (B + 2 * d) := by
  induction d with
  | zero =>
    intro k xs p s B hd hl hk hc hB
    obtain ⟨k, rfl⟩ : ∃ q, k = q + 1 := ⟨k - 1, by omega⟩
    exact ⟨_, p, s, by rw [spec_l01Cur_word.l0, if_neg (by omega)], by rw [strOfNums_sz]; omega, hc.le (by omega)⟩
  | succ d ih =>
    intro k xs p s B hd hl hk hc hB
    obtain ⟨k, rfl⟩ : ∃ q, k = q + 1 := ⟨k - 1, by omega⟩
    by_cases h : (xs.length : Int) < n
    · obtain ⟨v, p1, s1, e1, v0, v1, c1⟩ := pick_f L hL 3 hc (by omega) (by decide)
      obtain ⟨v, rfl⟩ := Int.eq_ofNat_of_zero_le v0
      have hr : rd [2, 3, 26] (v : Int) ≤ 26 := by
        have : v = 0 ∨ v = 1 ∨ v = 2 := by omega
        rcases this with rfl | rfl | rfl <;> decide
      obtain ⟨u, p2, s2, e2, u0, u1, c2⟩ := pick_f L hL (rd [2, 3, 26] (v : Int)) c1 (by omega) (by omega)
      obtain ⟨w, p3, s3, e3, hw, c3⟩ := ih k (xs ++ [wrap64 (97 + u) % 256]) p2 s2 (B + 1 + 1) (by simp; omega) (by simp; omega) (by omega) c2 (by omega)
      refine ⟨w, p3, s3, ?_, hw, c3.le (by omega)⟩
      rw [spec_l01Cur_word.l0, if_pos h, Option.bind_some, e1, Option.bind_some]
      dsimp only
      rw [if_pos v0, if_pos (by simp; omega), e2, Option.bind_some]
      dsimp only
      rw [if_pos (by omega)]
      exact e3
    · exact ⟨_, p, s, by rw [spec_l01Cur_word.l0, if_neg h], by rw [strOfNums_sz]; omega, hc.le (by omega)⟩
theorem word_f (L : List Int) (hL : U8s L) {p s B : Int} (hc : Cur p s B) (hB : B ≤ 1000000000) {k : Nat} (hk : 40 < k) :
    ∃ w p' s', spec_l01Cur_word.f k L p s = some (w, p', s') ∧ w.size ≤ 32 ∧ Cur p' s' (B + 70) := by
  obtain ⟨v, p1, s1, e1, v0, v1, c1⟩ := pick_f L hL 4 hc (by omega) (by decide)
  obtain ⟨v, rfl⟩ := Int.eq_ofNat_of_zero_le v0
  have hr : rd [3, 5, 8, 32] (v : Int) ≤ 32 ∧ 2 ≤ rd [3, 5, 8, 32] (v : Int) := by
    have : v = 0 ∨ v = 1 ∨ v = 2 ∨ v = 3 := by omega
    rcases this with rfl | rfl | rfl | rfl <;> decide
  obtain ⟨u, p2, s2, e2, u0, u1, c2⟩ := pick_f L hL (rd [3, 5, 8, 32] (v : Int)) c1 (by omega) (by omega)
  obtain ⟨w, p3, s3, e3, hw, c3⟩ := word_l0 L hL (1 + u) (by omega) 32 k [] p2 s2 (B + 1 + 1) (by simp; omega) (by simp) (by omega) c2 (by omega)
  refine ⟨w, p3, s3, ?_, hw, c3.le (by omega)⟩
  unfold spec_l01Cur_word.f
  rw [Option.bind_some, e1, Option.bind_some]
  dsimp only
  rw [if_pos v0, if_pos (by simp; omega), e2, Option.bind_some]
  dsimp only
  rw [w64 (by omega) (by omega)]
  exact e3

theorem ex0 (s : ByteArray) (i : Nat) : (s.extract 0 i).size ≤ s.size := by rw [ByteArray.size_extract]; omega
theorem ex1 (s : ByteArray) (i : Nat) : (s.extract i s.size).size ≤ s.size := by rw [ByteArray.size_extract]; omega
theorem badWord_f (L : List Int) (hL : U8s L) {p s B : Int} (hc : Cur p s B) (hB : B ≤ 900000000) {k : Nat} (hk : 40 < k) :
    ∃ w p' s', spec_l01Cur_badWord.f k L p s = some (w, p', s') ∧ w.size ≤ 96 ∧ Cur p' s' (B + 73) := by
  obtain ⟨w, p1, s1, e1, hw, c1⟩ := word_f L hL hc (by omega) hk
  obtain ⟨v, p2, s2, e2, v0, v1, c2⟩ := pick_f L hL 9 c1 (by omega) (by decide)
  unfold spec_l01Cur_badWord.f
  rw [e1, Option.bind_some]
  dsimp only
  rw [e2, Option.bind_some]
  dsimp only
  by_cases h0 : v = 0
  · rw [if_pos h0, w64 (by omega) (by omega)]
    obtain ⟨u, p3, s3, e3, u0, u1, c3⟩ := pick_f L hL ((w.size : Int) + 1) c2 (by omega) (by omega)
    obtain ⟨x, p4, s4, e4, x0, x1, c4⟩ := pick_f L hL 6 c3 (by omega) (by decide)
    obtain ⟨x, rfl⟩ := Int.eq_ofNat_of_zero_le x0
    rw [e3, Option.bind_some]
    dsimp only
    rw [if_pos u0, if_pos (by omega), Option.bind_some, e4, Option.bind_some]
    dsimp only
    rw [if_pos x0, if_pos (by simp; omega)]
    have hr : (rdOf ByteArray.empty [(⟨#[]⟩ : ByteArray), (⟨#[65]⟩ : ByteArray), (⟨#[45]⟩ : ByteArray), (⟨#[0]⟩ : ByteArray), (⟨#[122, 122]⟩ : ByteArray), (⟨#[123]⟩ : ByteArray)] (x : Int)).size ≤ 2 := by
      have : x = 0 ∨ x = 1 ∨ x = 2 ∨ x = 3 ∨ x = 4 ∨ x = 5 := by omega
      rcases this with rfl | rfl | rfl | rfl | rfl | rfl <;> decide
    generalize rdOf ByteArray.empty [(⟨#[]⟩ : ByteArray), (⟨#[65]⟩ : ByteArray), (⟨#[45]⟩ : ByteArray), (⟨#[0]⟩ : ByteArray), (⟨#[122, 122]⟩ : ByteArray), (⟨#[123]⟩ : ByteArray)] (x : Int) = y at *
    have hx0 := ex0 w u.toNat
    have hx1 := ex1 w u.toNat
    rw [if_pos (by omega), if_pos (by rw [ByteArray.size_append]; omega)]
    exact ⟨_, _, _, rfl, by rw [ByteArray.size_append, ByteArray.size_append]; omega, c4.le (by omega)⟩
  · rw [if_neg h0]
    by_cases h1 : v = 1
    · rw [if_pos h1]
      exact ⟨_, _, _, rfl, by decide, c2.le (by omega)⟩
    · rw [if_neg h1]
      by_cases h2 : v = 2
      · rw [if_pos h2, if_pos (by omega)]
        obtain ⟨u, p3, s3, e3, u0, u1, c3⟩ := pick_f L hL 33 c2 (by omega) (by decide)
        rw [e3, Option.bind_some]
        dsimp only
        generalize hz : (⟨#[97, 97, 97, 97, 97, 97, 97, 97, 97, 97, 97, 97, 97, 97, 97, 97, 97, 97, 97, 97, 97, 97, 97, 97, 97, 97, 97, 97, 97, 97, 97, 97]⟩ : ByteArray) = z
        have hzs : z.size = 32 := by rw [← hz]; rfl
        have hx0 := ex0 z u.toNat
        rw [if_pos u0, if_pos (by omega), if_pos (by rw [ByteArray.size_append]; omega)]
        exact ⟨_, _, _, rfl, by rw [ByteArray.size_append, ByteArray.size_append]; omega, c3.le (by omega)⟩
      · rw [if_neg h2]
        exact ⟨_, _, _, rfl, by omega, c2.le (by omega)⟩

theorem once_f (L : List Int) (hL : U8s L) (n : Int) {p s B : Int} (h : Cur p s B) (hB : B ≤ 1000000000000) (hn : n ≤ 1000000000000) :
    ∃ b p' s', spec_l01Cur_once.f L p s n = some (b, p', s') ∧ Cur p' s' (B + 1) := by
  obtain ⟨r, p', s', e, _, _, c⟩ := pick_f L hL n h hB hn
  refine ⟨r == wrap64 (n - 1), p', s', ?_, c⟩
  unfold spec_l01Cur_once.f
  rw [e, Option.bind_some]

theorem pair_l0 (L : List Int) (hL : U8s L) (a : ByteArray) (d : Nat) : ∀ (k : Nat) (b : ByteArray) (i p s B : Int), i ≤ (d : Int) → d ≤ 3 → d < k → b.size ≤ 96 + (3 - d) → Cur p s B → B + 3 * d ≤ 900000000 →
    ∃ w p' s', spec_l01Cur_pair.l0 k a b i L p s = some (a, w, p', s') ∧ w.size ≤ 99 ∧ Cur p' s' (B + 3 * d) := by
  induction d with
  | zero =>
    intro k b i p s B hi hd hk hb hc hB
    obtain ⟨k, rfl⟩ : ∃ q, k = q + 1 := ⟨k - 1, by omega⟩
    exact ⟨b, p, s, by rw [spec_l01Cur_pair.l0, if_neg (by omega)], by omega, hc.le (by omega)⟩
  | succ d ih =>
    intro k b i p s B hi hd hk hb hc hB
    obtain ⟨k, rfl⟩ : ∃ q, k = q + 1 := ⟨k - 1, by omega⟩
    by_cases h : i > 0
    · obtain ⟨u, p1, s1, e1, u0, u1, c1⟩ := pick_f L hL ((b.size : Int) + 1) hc (by omega) (by omega)
      obtain ⟨x, p2, s2, e2, x0, x1, c2⟩ := pick_f L hL 4 c1 (by omega) (by decide)
      obtain ⟨y, p3, s3, e3, y0, y1, c3⟩ := pick_f L hL 2 c2 (by omega) (by decide)
      obtain ⟨x, rfl⟩ := Int.eq_ofNat_of_zero_le x0
      rw [spec_l01Cur_pair.l0, if_pos h, w64 (n := (b.size : Int) + 1) (by omega) (by omega), e1, Option.bind_some]
      dsimp only
      rw [if_pos u0, if_pos (by omega), Option.bind_some, e2, Option.bind_some]
      dsimp only
      rw [if_pos x0, if_pos (by simp; omega)]
      have hr : (rdOf ByteArray.empty [(⟨#[]⟩ : ByteArray), (⟨#[97]⟩ : ByteArray), (⟨#[98]⟩ : ByteArray), (⟨#[120]⟩ : ByteArray)] (x : Int)).size ≤ 1 := by
        have : x = 0 ∨ x = 1 ∨ x = 2 ∨ x = 3 := by omega
        rcases this with rfl | rfl | rfl | rfl <;> decide
      generalize rdOf ByteArray.empty [(⟨#[]⟩ : ByteArray), (⟨#[97]⟩ : ByteArray), (⟨#[98]⟩ : ByteArray), (⟨#[120]⟩ : ByteArray)] (x : Int) = z at *
      have hm : mn (b.size : Int) (u + y) ≤ (b.size : Int) ∧ u ≤ mn (b.size : Int) (u + y) := by unfold mn; split <;> omega
      rw [if_pos (by rw [ByteArray.size_extract]; omega), e3, Option.bind_some]
      dsimp only
      rw [w64 (n := u + y) (by omega) (by omega), if_pos (by omega), if_pos (by omega), if_pos (by rw [ByteArray.size_append, ByteArray.size_extract, ByteArray.size_extract]; omega), w64 (by omega) (by omega)]
      obtain ⟨w, p4, s4, e4, hw, c4⟩ := ih k ((b.extract 0 u.toNat ++ z) ++ b.extract (mn (b.size : Int) (u + y)).toNat b.size) (i - 1) p3 s3 (B + 1 + 1 + 1) (by omega) (by omega) (by omega) (by
        rw [ByteArray.size_append, ByteArray.size_append, ByteArray.size_extract, ByteArray.size_extract]; omega) c3 (by omega)
      exact ⟨w, p4, s4, e4, hw, c4.le (by omega)⟩
    · exact ⟨b, p, s, by rw [spec_l01Cur_pair.l0, if_neg h], by omega, hc.le (by omega)⟩
theorem pair_f (L : List Int) (hL : U8s L) {p s B : Int} (hc : Cur p s B) (hB : B ≤ 800000000) {k : Nat} (hk : 40 < k) :
    ∃ a b p' s', spec_l01Cur_pair.f k L p s = some (a, b, p', s') ∧ a.size ≤ 99 ∧ b.size ≤ 99 ∧ Cur p' s' (B + 200) := by
  obtain ⟨a, p1, s1, e1, ha, c1⟩ := badWord_f L hL hc (by omega) hk
  obtain ⟨t, p2, s2, e2, c2⟩ := once_f L hL 3 c1 (by omega) (by decide)
  unfold spec_l01Cur_pair.f
  rw [e1, Option.bind_some]
  dsimp only
  rw [e2, Option.bind_some]
  dsimp only
  cases t
  · rw [if_neg (by decide)]
    obtain ⟨v, p3, s3, e3, v0, v1, c3⟩ := pick_f L hL 4 c2 (by omega) (by decide)
    rw [e3, Option.bind_some]
    dsimp only
    obtain ⟨w, p4, s4, e4, hw, c4⟩ := pair_l0 L hL a 3 k a v p3 s3 _ (by omega) (by omega) (by omega) (by omega) c3 (by omega)
    exact ⟨a, w, p4, s4, e4, by omega, by omega, c4.le (by omega)⟩
  · rw [if_pos rfl]
    obtain ⟨b, p3, s3, e3, hb, c3⟩ := badWord_f L hL c2 (by omega) hk
    rw [e3, Option.bind_some]
    exact ⟨a, b, p3, s3, rfl, by omega, by omega, c3.le (by omega)⟩
theorem open_cur (L : List Int) : Cur 0 (59 + ((L.length : Int) % 1000)) 0 := ⟨by omega, by omega, by omega, by omega⟩

/-- the mask of the lowest bits -/
theorem impl_MaskLow_n {n : Nat} (hn : n < 64) : impl_MaskLow.f (n : Int) = some ((2 ^ n - 1 : Nat) : Int) := by
  unfold impl_MaskLow.f
  by_cases h : n = 0
  · subst h; rfl
  · rw [if_neg (by omega), if_neg (by omega), if_pos (by omega), shl_one hn]
    have hp := pow_lt64 hn
    have hp0 : 0 < 2 ^ n := Nat.two_pow_pos _
    generalize 2 ^ n = u at *
    rw [u64_id (by omega) (by omega)]
    congr 1
    omega

theorem impl_peq_l0 (s : ByteArray) (b : Int) (hs : s.size ≤ 32) (d : Nat) : ∀ (k i : Nat), i ≤ s.size → s.size - i = d → d < k →
    impl_peq.l0 k s b ((peqN s b i : Nat) : Int) (s.size : Int) (i : Int) = some ((peqN s b s.size : Nat) : Int) := by
  induction d with
  | zero =>
    intro k i hi hd hk
    obtain ⟨k, rfl⟩ : ∃ q, k = q + 1 := ⟨k - 1, by omega⟩
    obtain rfl : i = s.size := by omega
    rw [impl_peq.l0, if_neg (by omega)]
  | succ d ih =>
    intro k i hi hd hk
    obtain ⟨k, rfl⟩ : ∃ q, k = q + 1 := ⟨k - 1, by omega⟩
    have h := ih k (i + 1) (by omega) (by omega) (by omega)
    have hl := peqN_lt s b i
    rw [impl_peq.l0, if_pos (by omega), if_pos (by omega), if_pos (by omega), w64 (by omega) (by omega)]
    by_cases e : bt s (i : Int) = b
    · rw [if_pos e, shl_one (by omega), or_pow hl (by omega), ← h, peqN, if_pos e]
      congr 1
    · rw [if_neg e, ← h, peqN, if_neg e]
      congr 1
theorem impl_MyersPeq_f (s : ByteArray) (b : Int) {k : Nat} (hk : s.size < k) : impl_MyersPeq.f k s b = some (if s.size ≤ 32 then ((peqN s b s.size : Nat) : Int) else 0) := by
  unfold impl_MyersPeq.f impl_peq.f
  by_cases h : s.size ≤ 32
  · have := impl_peq_l0 s b h s.size k 0 (by omega) (by omega) (by omega)
    rw [if_neg (by omega), if_pos h]
    rw [show ((peqN s b 0 : Nat) : Int) = 0 from rfl] at this
    rw [show ((0 : Nat) : Int) = 0 from rfl] at this
    rw [this]; rfl
  · rw [if_pos (by omega), if_neg h]

theorem within_f (a b c : Int) : impl_within.f a b c = some (decide (b ≤ a ∧ a ≤ c)) := by
  unfold impl_within.f
  by_cases h : a ≥ b
  · rw [if_pos h]; congr 1; rw [decide_eq_decide]; omega
  · rw [if_neg h]; congr 1; symm; rw [decide_eq_false_iff_not]; omega

theorem columnOf_l0 {pv mv : Nat} (hp : pv < 2 ^ 64) (hm : mv < 2 ^ 64) {sc : Int} (hs : 0 ≤ sc ∧ sc ≤ 64) {n : Nat} (hn : n ≤ 32) (e : Nat) : ∀ (k d : Nat) (ys : List Int), d + e = n → e < k → ys.length = n + 1 →
    (∀ i : Nat, i ≤ d → rd ys ((n - i : Nat) : Int) = colD pv mv sc n i) → colB pv mv sc n d = true →
    impl_columnOf.l0 k ys ((e : Int) - 1) (pv : Int) (mv : Int) sc (n : Int) = some (if colB pv mv sc n n = true then (colL pv mv sc n n, true) else ([], false)) := by
  induction e with
  | zero =>
    intro k d ys hd hk hl hy hc
    obtain ⟨k, rfl⟩ : ∃ q, k = q + 1 := ⟨k - 1, by omega⟩
    obtain rfl : d = n := by omega
    rw [impl_columnOf.l0, if_neg (by omega), if_pos hc]
    congr 2
    refine list_ext_rd (by rw [colL_length, hl]) (fun i hi => ?_)
    rw [rd_colL pv mv sc d d i (by omega)]
    have := hy (d - i) (by omega)
    rw [show d - (d - i) = i from by omega] at this
    exact this
  | succ e ih =>
    intro k d ys hd hk hl hy hc
    obtain ⟨k, rfl⟩ : ∃ q, k = q + 1 := ⟨k - 1, by omega⟩
    have hb := colD_near pv mv sc n d
    have hy1 := hy d (Nat.le_refl _)
    rw [show n - d = e + 1 from by omega] at hy1
    have h1 : (pv.testBit e).toNat ≤ 1 := by cases pv.testBit e <;> simp
    have h2 : (mv.testBit e).toNat ≤ 1 := by cases mv.testBit e <;> simp
    have hnext : colD pv mv sc n (d + 1) = colD pv mv sc n d - ((pv.testBit e).toNat : Int) + ((mv.testBit e).toNat : Int) := by rw [colD, show n - (d + 1) = e from by omega]
    rw [show (((e + 1 : Nat) : Int) - 1) = (e : Int) from by omega, impl_columnOf.l0, if_pos (by omega), w64 (n := (e : Int) + 1) (by omega) (by omega), if_pos (by omega), if_pos (by omega), if_pos (by omega), if_pos (by omega)]
    rw [show (e : Int) + 1 = ((e + 1 : Nat) : Int) from rfl, hy1, bit_val hp (by omega), bit_val hm (by omega), w64 (n := (((pv.testBit e).toNat : Nat) : Int)) (by omega) (by omega), w64 (n := (((mv.testBit e).toNat : Nat) : Int)) (by omega) (by omega), w64 (n := colD pv mv sc n d - (((pv.testBit e).toNat : Nat) : Int)) (by omega) (by omega), w64 (n := colD pv mv sc n d - (((pv.testBit e).toNat : Nat) : Int) + (((mv.testBit e).toNat : Nat) : Int)) (by omega) (by omega), ← hnext, within_f, Option.bind_some]
    by_cases c : 0 ≤ colD pv mv sc n (d + 1) ∧ colD pv mv sc n (d + 1) ≤ 64
    · rw [if_pos (decide_eq_true c), w64 (by omega) (by omega), Int.toNat_natCast]
      refine ih k (d + 1) _ (by omega) (by omega) (by rw [List.length_set]; exact hl) (fun i hi => ?_) ?_
      · rw [rd_set _ _ _ _ (by omega)]
        by_cases e1 : i = d + 1
        · rw [if_pos (by omega), e1]
        · rw [if_neg (by omega)]; exact hy i (by omega)
      · unfold colB at hc ⊢
        rw [decide_eq_true_eq] at hc ⊢
        intro i hi
        by_cases e1 : i = d + 1
        · rw [e1]; exact c
        · exact hc i (by omega)
    · rw [if_neg (by simpa using c), if_neg]
      unfold colB
      rw [decide_eq_true_eq]
      intro hall
      exact c (hall (d + 1) (by omega))
theorem columnOf_f {pv mv : Nat} (hp : pv < 2 ^ 64) (hm : mv < 2 ^ 64) (sc ln : Int) {k : Nat} (hk : 50 < k) :
    impl_columnOf.f k (pv : Int) (mv : Int) sc ln = some (if bitsOkB pv mv sc ln = true then (colL pv mv sc ln.toNat ln.toNat, true) else ([], false)) := by
  obtain ⟨k, rfl⟩ : ∃ q, k = q + 1 := ⟨k - 1, by omega⟩
  have no : impl_columnOf.j0 (k + 1) true (pv : Int) (mv : Int) sc ln = some ([], false) := by rw [impl_columnOf.j0, if_pos rfl]
  unfold impl_columnOf.f bitsOkB
  rw [within_f, within_f, Option.bind_some, Option.bind_some]
  by_cases h1 : 0 ≤ ln ∧ ln ≤ 32
  · rw [if_pos (decide_eq_true h1)]
    by_cases h2 : 0 ≤ sc ∧ sc ≤ 64
    · obtain ⟨n, rfl⟩ := Int.eq_ofNat_of_zero_le h1.1
      have hn : n ≤ 32 := by omega
      have hor : pv ||| mv < 2 ^ 64 := Nat.or_lt_two_pow hp hm
      rw [if_pos (decide_eq_true h2), decide_eq_true (⟨h1.1, h1.2, h2.1, h2.2⟩ : _ ∧ _ ∧ _ ∧ _), Bool.true_and, Int.toNat_natCast, impl_MaskLow_n (by omega), Option.bind_some, or_nat hp hm, andNot_nat, and_nat hp hm, bitsB_masks hp hm hn]
      by_cases h3 : andN (pv ||| mv) (2 ^ n - 1) = 0
      · rw [if_pos (by rw [h3]; rfl), decide_eq_true h3, Bool.true_and, impl_columnOf.j0]
        by_cases h4 : pv &&& mv = 0
        · rw [if_neg (by rw [h4]; decide), decide_eq_true h4, Bool.true_and, w64 (by omega) (by omega), if_pos (by omega), if_pos (by omega), Option.bind_some, if_pos (by omega), if_pos (by simp; omega), w64 (by omega) (by omega), Int.toNat_natCast, show ((n : Int) + 1).toNat = n + 1 from by omega]
          refine columnOf_l0 hp hm h2 hn n k 0 _ (by omega) (by omega) (by simp) (fun i hi => ?_) ?_
          · obtain rfl : i = 0 := by omega
            rw [Nat.sub_zero, rd_set _ _ _ _ (by simp), if_pos rfl, colD]
          · unfold colB
            rw [decide_eq_true_eq]
            intro i hi
            obtain rfl : i = 0 := by omega
            exact h2
        · rw [if_pos (by simpa using h4), decide_eq_false h4]; rfl
      · rw [if_neg (by omega), no, decide_eq_false h3]; rfl
    · rw [if_neg (by simpa using h2), no, decide_eq_false (by omega)]; rfl
  · rw [if_neg (by simpa using h1), no, decide_eq_false (by omega)]; rfl

theorem nextColumn_l0 (d : List Int) {n : Nat} (hn : n ≤ 32) (hl : d.length = n + 1) (hd : ∀ i : Nat, i ≤ n → 0 ≤ rd d (i : Int) ∧ rd d (i : Int) ≤ 64) {q : Nat} (hq : q < 2 ^ 64) (e : Nat) : ∀ (k i : Nat) (ys : List Int), i + e = n → e < k → ys.length = n + 1 →
    (∀ j : Nat, j ≤ i → rd ys (j : Int) = nxV d q j) → impl_nextColumn.l0 k d (q : Int) ys (n : Int) (i : Int) = some (nxL d q n) := by
  induction e with
  | zero =>
    intro k i ys hi hk hy hv
    obtain ⟨k, rfl⟩ : ∃ q, k = q + 1 := ⟨k - 1, by omega⟩
    rw [impl_nextColumn.l0, if_neg (by omega)]
    refine congrArg some (list_ext_rd (by rw [nxL, tab_length, hy]) (fun j hj => ?_))
    rw [hv j (by omega), nxL, rd_tab _ (by omega)]
  | succ e ih =>
    intro k i ys hi hk hy hv
    obtain ⟨k, rfl⟩ : ∃ q, k = q + 1 := ⟨k - 1, by omega⟩
    have hb := nxV_bound d q n hd i (by omega)
    have h1 := hd (i + 1) (by omega)
    have h2 := hd i (by omega)
    have hbit : (q.testBit i).toNat ≤ 1 := by cases q.testBit i <;> simp
    have hvi := hv i (Nat.le_refl _)
    rw [impl_nextColumn.l0, if_pos (by omega), if_pos (by omega), if_pos (by omega), w64 (n := (i : Int) + 1) (by omega) (by omega), if_pos (by omega), if_pos (by omega), if_pos (by omega), if_pos (by omega), hvi]
    rw [show (i : Int) + 1 = ((i + 1 : Nat) : Int) from rfl, w64 (n := nxV d q i + 1) (by omega) (by omega), w64 (n := rd d ((i + 1 : Nat) : Int) + 1) (by omega) (by omega), w64 (n := rd d (i : Int) + 1) (by omega) (by omega), bit_val hq (by omega), w64 (n := (((q.testBit i).toNat : Nat) : Int)) (by omega) (by omega), w64 (by omega) (by omega), mn_min, mn_min, Int.toNat_natCast]
    refine ih k (i + 1) _ (by omega) (by omega) (by rw [List.length_set]; exact hy) (fun j hj => ?_)
    rw [rd_set _ _ _ _ (by omega)]
    by_cases c : i + 1 = j
    · subst c
      rw [if_pos rfl, nxV]
    · rw [if_neg c]
      exact hv j (by omega)
theorem nextColumn_f (d : List Int) {n : Nat} (hn : n ≤ 32) (hl : d.length = n + 1) (hd : ∀ i : Nat, i ≤ n → 0 ≤ rd d (i : Int) ∧ rd d (i : Int) ≤ 64) {q : Nat} (hq : q < 2 ^ 64) {k : Nat} (hk : 40 < k) : impl_nextColumn.f k d (q : Int) = some (nxL d q n) := by
  have h0 := hd 0 (by omega)
  rw [show ((0 : Nat) : Int) = 0 from rfl] at h0
  unfold impl_nextColumn.f
  rw [if_pos (by omega), if_pos (by omega), Option.bind_some, if_pos (by omega), if_pos (by simp; omega), w64 (n := rd d 0 + 1) (by omega) (by omega), w64 (n := (d.length : Int) - 1) (by omega) (by omega), show (d.length : Int) - 1 = (n : Int) from by omega, Int.toNat_natCast]
  refine nextColumn_l0 d hn hl hd hq n k 0 _ (by omega) (by omega) (by simp [hl]) (fun j hj => ?_)
  obtain rfl : j = 0 := by omega
  rw [show (0 : Int).toNat = 0 from rfl, rd_set _ _ _ _ (by simp; omega), if_pos rfl, nxV]
theorem bitsOf_l0 (xs : List Int) (n : Nat) (hl : xs.length = n + 1) (hn : n ≤ 63) (hb : ∀ i : Nat, i ≤ n → -1000000 ≤ rd xs (i : Int) ∧ rd xs (i : Int) ≤ 1000000) (sc ln : Int) (d : Nat) : ∀ k i, i + d = n → d < k →
    impl_bitsOf.l0 k xs (n : Int) (i : Int) ((sumN (upAt xs) i : Nat) : Int) ((sumN (dnAt xs) i : Nat) : Int) sc ln = some (((upsN xs n : Nat) : Int), ((dnsN xs n : Nat) : Int), sc, ln) := by
  induction d with
  | zero =>
    intro k i hi hk
    obtain ⟨k, rfl⟩ : ∃ q, k = q + 1 := ⟨k - 1, by omega⟩
    obtain rfl : i = n := by omega
    rw [impl_bitsOf.l0, if_neg (by omega)]
    rfl
  | succ d ih =>
    intro k i hi hk
    obtain ⟨k, rfl⟩ : ∃ q, k = q + 1 := ⟨k - 1, by omega⟩
    have h := ih k (i + 1) (by omega) (by omega)
    have h1 := hb i (by omega)
    have h2 := hb (i + 1) (by omega)
    have u1 := sumN_lt (upAt xs) i
    have u2 := sumN_lt (dnAt xs) i
    rw [show ((i + 1 : Nat) : Int) = (i : Int) + 1 from rfl] at h2
    rw [impl_bitsOf.l0, if_pos (by omega), w64 (n := (i : Int) + 1) (by omega) (by omega), if_pos (by omega), if_pos (by omega), if_pos (by omega), if_pos (by omega), w64 (n := rd xs ((i : Int) + 1) - rd xs (i : Int)) (by omega) (by omega), shl_one (by omega), or_pow u1 (by omega), or_pow u2 (by omega)]
    rw [sumN, sumN] at h
    by_cases c1 : rd xs ((i : Int) + 1) = rd xs (i : Int) + 1
    · have e1 : upAt xs i = true := decide_eq_true c1
      have e2 : dnAt xs i = false := decide_eq_false (by omega)
      rw [e1, e2] at h
      rw [if_pos (by omega)]
      simpa using h
    · rw [if_neg (by omega)]
      have e1 : upAt xs i = false := decide_eq_false c1
      by_cases c2 : rd xs ((i : Int) + 1) = rd xs (i : Int) - 1
      · have e2 : dnAt xs i = true := decide_eq_true c2
        rw [e1, e2] at h
        rw [if_pos (by omega)]
        simpa using h
      · have e2 : dnAt xs i = false := decide_eq_false c2
        rw [e1, e2] at h
        rw [if_neg (by omega)]
        simpa using h
theorem bitsOf_f (xs : List Int) (n : Nat) (hl : xs.length = n + 1) (hn : n ≤ 63) (hb : ∀ i : Nat, i ≤ n → -1000000 ≤ rd xs (i : Int) ∧ rd xs (i : Int) ≤ 1000000) {k : Nat} (hk : 70 < k) :
    impl_bitsOf.f k xs = some (((upsN xs n : Nat) : Int), ((dnsN xs n : Nat) : Int), rd xs (n : Int), (n : Int)) := by
  unfold impl_bitsOf.f
  have e : wrap64 ((xs.length : Int) - 1) = (n : Int) := by rw [w64 (by omega) (by omega)]; omega
  rw [e, if_pos (by omega), if_pos (by omega)]
  exact bitsOf_l0 xs n hl hn hb _ _ n k 0 (by omega) (by omega)
theorem impl_MyersStep_f {pv mv : Nat} (hp : pv < 2 ^ 64) (hm : mv < 2 ^ 64) (sc ln : Int) {q : Nat} (hq : q < 2 ^ 64) {k : Nat} (hk : 100 < k) :
    impl_MyersStep.f k (pv : Int) (mv : Int) sc ln (q : Int) = some (stepR pv mv sc ln q) := by
  unfold impl_MyersStep.f stepR
  rw [columnOf_f hp hm sc ln (by omega), Option.bind_some]
  cases h : bitsOkB pv mv sc ln
  · simp only [Bool.false_eq_true, if_false]
  · obtain ⟨n, rfl, hn, h1, h2, hc⟩ := okB_parts h
    have hb := colL_bound hc
    have hnb := nxV_bound (colL pv mv sc n n) q n hb
    rw [if_pos rfl, if_pos rfl, Int.toNat_natCast]
    dsimp only
    rw [if_pos rfl, nextColumn_f (colL pv mv sc n n) hn (colL_length _ _ _ _ _) hb hq (by omega), Option.bind_some, bitsOf_f (nxL (colL pv mv sc n n) q n) n (show (nxL (colL pv mv sc n n) q n).length = n + 1 from tab_length _ _) (by omega) (fun j hj => by
      have := hnb j hj
      rw [nxL, rd_tab _ (by omega)]
      omega) (by omega), Option.bind_some]
    dsimp only
    rw [columnOf_f (ups_lt _ (by omega)) (dns_lt _ (by omega)) _ _ (by omega), Option.bind_some, show rd (nxL (colL pv mv sc n n) q n) (n : Int) = nxV (colL pv mv sc n n) q n from rd_tab _ (by omega)]
    cases bitsOkB (upsN (nxL (colL pv mv sc n n) q n) n) (dnsN (nxL (colL pv mv sc n n) q n) n) (nxV (colL pv mv sc n n) q n) (n : Int) <;> rfl

theorem bytesOf_take (s : ByteArray) (n : Nat) : bytesOf (s.extract 0 n) = (bytesOf s).take n := by
  unfold bytesOf
  rw [ByteArray.data_extract, Array.toList_extract, List.extract_eq_take_drop]
  simp [List.map_take]
theorem dist_take (p t : ByteArray) (hp : p.size ≤ 32) (ht : t.size ≤ 32) (i n : Nat) : distN (p.extract 0 i) (t.extract 0 n) = ((dcol p t n i : Nat) : Int) := by
  unfold distN dcol
  rw [if_pos ⟨by rw [ByteArray.size_extract]; omega, by rw [ByteArray.size_extract]; omega⟩, bytesOf_take, bytesOf_take]
theorem dist_take' (p t : ByteArray) (hp : p.size ≤ 32) (ht : t.size ≤ 32) (n : Nat) : distN p (t.extract 0 n) = ((dcol p t n p.size : Nat) : Int) := by
  have := dist_take p t hp ht p.size n
  rwa [ByteArray.extract_zero_size] at this
theorem impl_MyersStart_f (p : ByteArray) (hp : p.size ≤ 32) : impl_MyersStart.f p = some (((2 ^ p.size - 1 : Nat) : Int), 0, (p.size : Int), (p.size : Int)) := by
  unfold impl_MyersStart.f
  rw [if_neg (by omega), impl_MaskLow_n (by omega), Option.bind_some]
theorem impl_BitsColumn_dc (p t : ByteArray) (hp : p.size ≤ 32) (ht : t.size ≤ 32) (n : Nat) {k : Nat} (hk : 50 < k) :
    impl_BitsColumn.f k ((upsN (dcL p t n) p.size : Nat) : Int) ((dnsN (dcL p t n) p.size : Nat) : Int) (rd (dcL p t n) (p.size : Int)) (p.size : Int) = some (dcL p t n) := by
  unfold impl_BitsColumn.f
  rw [columnOf_f (ups_lt _ (by omega)) (dns_lt _ (by omega)) _ _ hk, if_pos (dcL_ok p t hp ht n), Option.bind_some, Int.toNat_natCast, dcL_col p t hp n]
theorem impl_BitsOk_dc (p t : ByteArray) (hp : p.size ≤ 32) (ht : t.size ≤ 32) (n : Nat) {k : Nat} (hk : 50 < k) :
    impl_BitsOk.f k ((upsN (dcL p t n) p.size : Nat) : Int) ((dnsN (dcL p t n) p.size : Nat) : Int) (rd (dcL p t n) (p.size : Int)) (p.size : Int) = some true := by
  unfold impl_BitsOk.f
  rw [columnOf_f (ups_lt _ (by omega)) (dns_lt _ (by omega)) _ _ hk, if_pos (dcL_ok p t hp ht n), Option.bind_some]
theorem columns_l1 (p t : ByteArray) (hp : p.size ≤ 32) (ht : t.size ≤ 32) (n : Nat) (hn : n ≤ t.size) (K : Nat) (hK : 1500 ≤ K) (M : Nat)
    (next : ∀ k, K + M ≤ k → laws_FnColumns.l0 k p t ((n + 1 : Nat) : Int) ((upsN (dcL p t (n + 1)) p.size : Nat) : Int) ((dnsN (dcL p t (n + 1)) p.size : Nat) : Int) (rd (dcL p t (n + 1)) (p.size : Int)) (p.size : Int) = some true)
    (last : n = t.size → ∀ k a b c d, K + M ≤ k → laws_FnColumns.l0 k p t ((n + 1 : Nat) : Int) a b c d = some true) (d : Nat) :
    ∀ k i, i + d = p.size + 1 → K + M + 1 + d ≤ k → laws_FnColumns.l1 k p t (n : Int) (dcL p t n) (i : Int) ((upsN (dcL p t n) p.size : Nat) : Int) ((dnsN (dcL p t n) p.size : Nat) : Int) (rd (dcL p t n) (p.size : Int)) (p.size : Int) = some true := by
  induction d with
  | zero =>
    intro k i hi hk
    obtain ⟨k, rfl⟩ : ∃ q, k = q + 1 := ⟨k - 1, by omega⟩
    rw [laws_FnColumns.l1, if_neg (by rw [dcL_length]; omega), w64 (n := (n : Int) + 1) (by omega) (by omega)]
    rw [show (n : Int) + 1 = ((n + 1 : Nat) : Int) from rfl]
    by_cases c : n < t.size
    · rw [if_pos (by omega), if_pos (by omega), impl_MyersPeq_f p _ (by omega), Option.bind_some, if_pos hp]
      have hq : peqN p (bt t (n : Int)) p.size < 2 ^ 64 := Nat.lt_of_lt_of_le (peqN_lt _ _ _) (Nat.pow_le_pow_right (by decide) (by omega))
      rw [impl_MyersStep_f (ups_lt _ (by omega)) (dns_lt _ (by omega)) _ _ hq (by omega), Option.bind_some, stepR_dcL p t hp ht c]
      exact next k (by omega)
    · rw [if_neg (by omega)]
      exact last (by omega) k _ _ _ _ (by omega)
  | succ d ih =>
    intro k i hi hk
    obtain ⟨k, rfl⟩ : ∃ q, k = q + 1 := ⟨k - 1, by omega⟩
    rw [laws_FnColumns.l1, if_pos (by rw [dcL_length]; omega), if_pos (by omega), if_pos (by omega), if_pos (by omega), if_pos (by omega), Int.toNat_natCast, Int.toNat_natCast, spec_Distance_f _ _ (by omega), Option.bind_some, dist_take p t hp ht, rd_dcL p t n (by omega), if_pos rfl, w64 (by omega) (by omega)]
    exact ih k (i + 1) (by omega) (by omega)
theorem columns_end (p t : ByteArray) (ht : t.size ≤ 32) (k : Nat) (a b c d : Int) : laws_FnColumns.l0 (k + 1) p t ((t.size + 1 : Nat) : Int) a b c d = some true := by
  rw [laws_FnColumns.l0, if_neg (by omega)]
theorem columns_l0 (p t : ByteArray) (hp : p.size ≤ 32) (ht : t.size ≤ 32) (K : Nat) (hK : 1500 ≤ K) (e : Nat) : ∀ k n, n + e = t.size → K + 1 + (e + 1) * 40 ≤ k →
    laws_FnColumns.l0 k p t (n : Int) ((upsN (dcL p t n) p.size : Nat) : Int) ((dnsN (dcL p t n) p.size : Nat) : Int) (rd (dcL p t n) (p.size : Int)) (p.size : Int) = some true := by
  have row : ∀ k n, n ≤ t.size → ∀ M : Nat, K + M + 1 + (p.size + 1) + 2 ≤ k →
      (∀ k, K + M ≤ k → laws_FnColumns.l0 k p t ((n + 1 : Nat) : Int) ((upsN (dcL p t (n + 1)) p.size : Nat) : Int) ((dnsN (dcL p t (n + 1)) p.size : Nat) : Int) (rd (dcL p t (n + 1)) (p.size : Int)) (p.size : Int) = some true) →
      (n = t.size → ∀ k a b c d, K + M ≤ k → laws_FnColumns.l0 k p t ((n + 1 : Nat) : Int) a b c d = some true) →
      laws_FnColumns.l0 k p t (n : Int) ((upsN (dcL p t n) p.size : Nat) : Int) ((dnsN (dcL p t n) p.size : Nat) : Int) (rd (dcL p t n) (p.size : Int)) (p.size : Int) = some true := by
    intro k n hn M hk next last
    obtain ⟨k, rfl⟩ : ∃ q, k = q + 1 := ⟨k - 1, by omega⟩
    obtain ⟨k, rfl⟩ : ∃ q, k = q + 1 := ⟨k - 1, by omega⟩
    rw [laws_FnColumns.l0, if_pos (by omega), impl_BitsColumn_dc p t hp ht n (by omega), Option.bind_some, w64 (by omega) (by omega), if_pos (by rw [dcL_length]; omega), if_pos (by omega), Int.toNat_natCast, spec_Distance_f _ _ (by omega), Option.bind_some, dist_take' p t hp ht, if_pos (rd_dcL p t n (Nat.le_refl _)), impl_BitsOk_dc p t hp ht n (by omega), Option.bind_some, laws_FnColumns.j2, if_neg (by decide)]
    exact columns_l1 p t hp ht n hn K hK M next last (p.size + 1) k 0 (by omega) (by omega)
  induction e with
  | zero =>
    intro k n hn hk
    obtain rfl : n = t.size := by omega
    refine row k t.size (Nat.le_refl _) 1 (by omega) ?_ ?_
    · intro k hk
      obtain ⟨k, rfl⟩ : ∃ q, k = q + 1 := ⟨k - 1, by omega⟩
      exact columns_end p t ht k _ _ _ _
    · intro _ k a b c d hk
      obtain ⟨k, rfl⟩ : ∃ q, k = q + 1 := ⟨k - 1, by omega⟩
      exact columns_end p t ht k _ _ _ _
  | succ e ih =>
    intro k n hn hk
    refine row k n (by omega) (1 + (e + 1) * 40) (by omega) ?_ ?_
    · intro k1 hk1
      have hk2 : K + 1 + (e + 1) * 40 ≤ k1 := by clear ih row hk; omega
      have hn2 : n + 1 + e = t.size := by clear ih row hk; omega
      exact ih k1 (n + 1) hn2 hk2
    · intro h
      omega
theorem FnColumns : laws_FnColumns.Pure := by
  intro L _ hlen hL
  have hU := U8s.of hL
  obtain ⟨K, hK⟩ : ∃ K : Nat, 5000 ≤ K := ⟨5000, Nat.le_refl _⟩
  refine ⟨K + 1, ?_⟩
  unfold laws_FnColumns.f laws_big.f
  rw [Option.bind_some]
  by_cases hbig : (L.length : Int) > 1048576
  · rw [if_pos (decide_eq_true hbig)]
  · rw [if_neg (by simpa using hbig)]
    obtain ⟨a, b, e1⟩ : ∃ a b : ByteArray, spec_DrawMyersRun.f (K + 1) L = some (a, b) := by
      obtain ⟨a, b, p, s, e, ha, hb, _⟩ := pair_f L hU (open_cur L) (by omega) (show 40 < K + 1 by omega)
      refine ⟨a, b, ?_⟩
      unfold spec_DrawMyersRun.f spec_l01Open.f
      rw [Option.bind_some]
      dsimp only
      rw [e, Option.bind_some]
    have far : laws_FnColumns.j0 (K + 1) a b true = some true := by rw [laws_FnColumns.j0, if_pos rfl]
    rw [e1, Option.bind_some]
    dsimp only
    by_cases h1 : (a.size : Int) > 32
    · rw [if_pos h1, far]
    · rw [if_neg h1]
      by_cases h2 : (b.size : Int) > 32
      · rw [decide_eq_true h2, far]
      · rw [decide_eq_false h2, laws_FnColumns.j0, if_neg (by decide), impl_MyersStart_f a (by omega), Option.bind_some]
        dsimp only
        obtain ⟨s1, s2, s3⟩ := start_ups a b
        have h := columns_l0 a b (by omega) (by omega) 1500 (Nat.le_refl _) b.size K 0 (by omega) (by omega)
        rw [s1, s2, s3] at h
        exact h

end Go.Proofs.Ytnmalfhdndnelaa.Pure
