/- The law FnMyers holds of the program: whatever its arguments (of the kinds and sizes that the statement names), it answers true. -/
import Derived.Test.YtbibgmmoompoiaaQFnMyersx7
import Derived.Test.YtbibgmmoompoiaaLib
import Derived.Test.YtbibgmmoompoiaaLibTab
import Derived.Test.YtbibgmmoompoiaaLibLev
import Derived.Test.YtbibgmmoompoiaaLibBytes
set_option linter.unusedVariables false
set_option linter.unusedSimpArgs false
namespace Go.Proofs.Ytbibgmmoompoiaa.Pure
open Go.RowKit Go.Proofs.Ytbibgmmoompoiaa.PFnMyers Go.Proofs.YtbibgmmoompoiaaW.PrintWords Go.Proofs.YtbibgmmoompoiaaW.PrintLast Go.Proofs.Ytbibgmmoompoiaa.L 

theorem within_f (a b c : Int) : impl_within.f a b c = some (decide (b ≤ a ∧ a ≤ c)) := by
  unfold impl_within.f
  by_cases h : a ≥ b
  · rw [if_pos h]; congr 1; rw [decide_eq_decide]; omega
  · rw [if_neg h]; congr 1; symm; rw [decide_eq_false_iff_not]; omega

theorem impl_isWord_l0 (s : ByteArray) (hs : s.size ≤ 140737488351232) (d : Nat) : ∀ (k i : Nat), i ≤ s.size → s.size - i = d → d < k →
    impl_isWord.l0 k s (s.size : Int) (i : Int) = some (okB s i && decide (1 ≤ s.size ∧ s.size ≤ 32)) := by
  induction d with
  | zero =>
    intro k i hi hd hk
    obtain ⟨k, rfl⟩ : ∃ q, k = q + 1 := ⟨k - 1, by omega⟩
    rw [impl_isWord.l0, if_neg (by omega), okB_end (by omega), within_f, Bool.true_and]
    simp only [Option.bind_some]
    congr 1
    rw [decide_eq_decide]; omega
  | succ d ih =>
    intro k i hi hd hk
    obtain ⟨k, rfl⟩ : ∃ q, k = q + 1 := ⟨k - 1, by omega⟩
    have h := ih k (i + 1) (by omega) (by omega) (by omega)
    rw [impl_isWord.l0, if_pos (by omega), if_pos (by omega), if_pos (by omega)]
    by_cases h1 : bt s (i : Int) < 97
    · rw [if_pos h1, okB_bad (by omega) (.inl h1)]; rfl
    · rw [if_neg h1]
      by_cases h2 : bt s (i : Int) > 122
      · rw [if_pos h2, okB_bad (by omega) (.inr h2)]; rfl
      · rw [if_neg h2, w64 (by omega) (by omega), okB_step (by omega) (by omega)]
        exact h
theorem impl_isWord_f (s : ByteArray) (hs : s.size ≤ 140737488351232) {k : Nat} (hk : s.size < k) : impl_isWord.f k s = some (wordB s) := by
  unfold impl_isWord.f wordB
  rw [Bool.and_comm]
  exact impl_isWord_l0 s hs s.size k 0 (by omega) (by omega) (by omega)

/-- the padded word -/
def padL (s : ByteArray) : List Int := if wordB s = true then (s.size : Int) :: (bytesOf s ++ List.replicate (32 - s.size) 0) else List.replicate 33 0
theorem wordB_size {s : ByteArray} (h : wordB s = true) : 1 ≤ s.size ∧ s.size ≤ 32 := by
  unfold wordB at h
  rw [Bool.and_eq_true, decide_eq_true_iff] at h
  exact h.1
theorem padL_length (s : ByteArray) : (padL s).length = 33 := by
  unfold padL
  by_cases h : wordB s = true
  · have := wordB_size h
    rw [if_pos h]
    simp [bytesOf_length]
    omega
  · rw [if_neg h]; simp
theorem impl_pad_f (s : ByteArray) (hs : s.size ≤ 140737488351232) {k : Nat} (hk : s.size < k) : impl_pad.f k s = some (padL s) := by
  unfold impl_pad.f padL
  rw [impl_isWord_f s hs hk, Option.bind_some]
  by_cases h : wordB s = true
  · have := wordB_size h
    rw [if_pos h, if_pos h, if_pos this.2]
  · rw [if_neg h, if_neg h]

theorem strOfNums_bytesOf (s : ByteArray) : strOfNums (bytesOf s) = s := by
  have h : (strOfNums (bytesOf s)).data = s.data := by
    apply Array.toList_inj.mp
    simp only [strOfNums, bytesOf, List.map_map]
    conv => rhs; rw [← List.map_id s.data.toList]
    apply List.map_congr_left
    intro b _
    simp
  exact congrArg ByteArray.mk h
/-- the bytes of a padded word that its first byte tells -/
def cutW (xs : List Int) : ByteArray := strOfNums ((xs.take (1 + rd xs 0).toNat).drop 1)
/-- what a padded word is read as -/
def unpadL (xs : List Int) : ByteArray × Bool := if xs.length = 33 ∧ 1 ≤ rd xs 0 ∧ rd xs 0 ≤ 32 then (if wordB (cutW xs) = true then (if (strOfNums (padL (cutW xs))).toList = (strOfNums xs).toList then (cutW xs, true) else ((⟨#[]⟩ : ByteArray), false)) else ((⟨#[]⟩ : ByteArray), false)) else ((⟨#[]⟩ : ByteArray), false)
theorem cutW_size {xs : List Int} (h : xs.length = 33) (h0 : 0 ≤ rd xs 0) (h1 : rd xs 0 ≤ 32) : ((cutW xs).size : Int) = rd xs 0 := by
  unfold cutW
  rw [strOfNums_size]
  simp only [List.length_drop, List.length_take]
  omega
theorem unpadL_size (xs : List Int) : (unpadL xs).1.size ≤ 32 := by
  unfold unpadL
  split
  · rename_i h
    have := cutW_size h.1 (by omega) h.2.2
    split
    · split
      · show (cutW xs).size ≤ 32; omega
      · exact Nat.zero_le _
    · exact Nat.zero_le _
  · exact Nat.zero_le _
theorem cutW_pad {s : ByteArray} (h : wordB s = true) : cutW (padL s) = s := by
  have hs := wordB_size h
  unfold cutW padL
  rw [if_pos h]
  rw [show rd ((s.size : Int) :: (bytesOf s ++ List.replicate (32 - s.size) 0)) 0 = (s.size : Int) from rfl, show (1 + (s.size : Int)).toNat = s.size + 1 from by omega, List.take_succ_cons, List.drop_succ_cons, List.drop_zero, List.take_append_of_le_length (by rw [bytesOf_length]; exact Nat.le_refl _), List.take_of_length_le (by rw [bytesOf_length]; exact Nat.le_refl _), strOfNums_bytesOf]
theorem unpad_pad {s : ByteArray} (h : wordB s = true) : unpadL (padL s) = (s, true) := by
  have hs := wordB_size h
  have hr : rd (padL s) 0 = (s.size : Int) := by unfold padL; rw [if_pos h]; rfl
  unfold unpadL
  rw [if_pos ⟨padL_length s, by omega, by omega⟩, cutW_pad h, if_pos h, if_pos rfl]
theorem unpad_none {s : ByteArray} (h : ¬ wordB s = true) : unpadL (padL s) = ((⟨#[]⟩ : ByteArray), false) := by
  have hr : rd (padL s) 0 = 0 := by unfold padL; rw [if_neg h]; rfl
  unfold unpadL
  rw [if_neg (by omega)]
theorem padL_u8 (s : ByteArray) : U8s (padL s) := by
  apply U8s.of
  intro x hx
  have hb : 0 ≤ x ∧ x ≤ 255 := by
    unfold padL at hx
    split at hx
    · rename_i h
      have hs := wordB_size h
      rcases List.mem_cons.mp hx with rfl | hx
      · omega
      · rcases List.mem_append.mp hx with hx | hx
        · unfold bytesOf at hx
          obtain ⟨b, _, rfl⟩ := List.mem_map.mp hx
          have := UInt8.toNat_lt b
          omega
        · have := List.eq_of_mem_replicate hx; omega
    · have := List.eq_of_mem_replicate hx; omega
  simp only [Lit.wf, IntKind.min, IntKind.max, IntKind.signed, IntKind.bits, Bool.and_eq_true, decide_eq_true_eq]
  simp
  omega
theorem unpadL_in {xs : List Int} (h : xs.length = 33) (h0 : 1 ≤ rd xs 0) (h1 : rd xs 0 ≤ 32) (h3 : wordB (cutW xs) = true) : unpadL xs = if (strOfNums (padL (cutW xs))).toList = (strOfNums xs).toList then (cutW xs, true) else ((⟨#[]⟩ : ByteArray), false) := by
  unfold unpadL
  rw [if_pos ⟨h, h0, h1⟩, if_pos h3]
theorem unpadL_out {xs : List Int} (h3 : ¬ wordB (cutW xs) = true) : unpadL xs = ((⟨#[]⟩ : ByteArray), false) := by
  unfold unpadL
  by_cases h : xs.length = 33 ∧ 1 ≤ rd xs 0 ∧ rd xs 0 ≤ 32
  · rw [if_pos h, if_neg h3]
  · rw [if_neg h]

theorem impl_Unpad_f (xs : List Int) (hU : U8s xs) {k : Nat} (hk : 100 < k) : impl_Unpad.f k xs = some (unpadL xs) := by
  obtain ⟨k, rfl⟩ : ∃ q, k = q + 1 := ⟨k - 1, by omega⟩
  unfold impl_Unpad.f
  by_cases h : xs.length = 33
  · have hb : 0 ≤ rd xs 0 ∧ rd xs 0 ≤ 255 := hU 0 (by omega)
    rw [if_pos (by omega), if_pos (by omega), impl_Unpad.j0]
    by_cases h2 : rd xs 0 > 32
    · rw [if_pos (decide_eq_true h2)]
      unfold unpadL
      rw [if_neg (by omega)]
    · have hs := cutW_size h hb.1 (by omega)
      have e : (1 + rd xs 0) % 256 = 1 + rd xs 0 := by omega
      have hw : strOfNums ((xs.take ((1 + rd xs 0 : Int)).toNat).drop 1) = cutW xs := rfl
      rw [if_neg (by simpa using h2), if_pos (by omega), e, if_pos (by omega), if_pos (by omega), hw, impl_isWord_f _ (by omega) (by omega), Option.bind_some]
      by_cases h3 : wordB (cutW xs) = true
      · have hz := wordB_size h3
        rw [unpadL_in h (by omega) (by omega) h3, if_pos h3, impl_pad_f _ (by omega) (by omega), Option.bind_some, bytes_Equal.f, Option.bind_some]
        by_cases h4 : (strOfNums (padL (cutW xs))).toList = (strOfNums xs).toList
        · rw [if_pos (beq_iff_eq.mpr h4), if_pos h4]
        · rw [if_neg (by simpa using h4), if_neg h4]
      · rw [unpadL_out h3, if_neg h3]
  · rw [if_neg (by omega), impl_Unpad.j0, if_pos rfl]
    unfold unpadL
    rw [if_neg (by omega)]

/-- a reader of draws: how far it is, and its seed -/
def Cur (p s B : Int) : Prop := 0 ≤ p ∧ p ≤ B ∧ 0 ≤ s ∧ s < 65521
theorem Cur.le {p s B C : Int} (h : Cur p s B) (hB : B ≤ C) : Cur p s C := ⟨h.1, by have := h.2.1; omega, h.2.2⟩
theorem pick_f (L : List Int) (hL : U8s L) (n : Int) {p s B : Int} (h : Cur p s B) (hB : B ≤ 1000000000000) (hn : n ≤ 1000000000000) :
    ∃ r p' s', spec_l01Cur_pick.f L p s n = some (r, p', s') ∧ 0 ≤ r ∧ (r < n ∨ n < 2 ∧ r = 0) ∧ Cur p' s' (B + 1) := by
  obtain ⟨h0, h1, h2, h3⟩ := h
  unfold spec_l01Cur_pick.f
  by_cases c1 : n < 2
  · rw [if_pos c1]
    exact ⟨0, p, s, rfl, by omega, .inr ⟨c1, rfl⟩, h0, by omega, h2, h3⟩
  · rw [if_neg c1]
    have hw : wrap64 (wrap64 (s * 1103) + 12345) = s * 1103 + 12345 := by rw [w64 (n := s * 1103) (by omega) (by omega), w64 (by omega) (by omega)]
    have hs0 : 0 ≤ Int.tmod (s * 1103 + 12345) 65521 := Int.tmod_nonneg _ (by omega)
    have hs1 : Int.tmod (s * 1103 + 12345) 65521 < 65521 := Int.tmod_lt_of_pos _ (by decide)
    rw [hw, w64 (n := p + 1) (by omega) (by omega)]
    by_cases c2 : p < (L.length : Int)
    · have hb := hL p.toNat (by omega)
      rw [Int.toNat_of_nonneg h0] at hb
      rw [if_pos c2, if_pos h0, if_neg (by omega), w64 (by omega) (by omega)]
      refine ⟨_, _, _, rfl, Int.tmod_nonneg _ (by omega), .inl (Int.tmod_lt_of_pos _ (by omega)), ?_⟩
      exact ⟨by omega, by omega, h2, h3⟩
    · rw [if_neg c2]
      by_cases c3 : (L.length : Int) > 0
      · have hm0 : 0 ≤ Int.tmod p (L.length : Int) := Int.tmod_nonneg _ h0
        have hm1 : Int.tmod p (L.length : Int) < (L.length : Int) := Int.tmod_lt_of_pos _ c3
        have hb := hL (Int.tmod p (L.length : Int)).toNat (by omega)
        rw [Int.toNat_of_nonneg hm0] at hb
        have hq0 : 0 ≤ Int.tdiv (Int.tmod (s * 1103 + 12345) 65521) 7 := Int.tdiv_nonneg hs0 (by decide)
        have hq1 : Int.tdiv (Int.tmod (s * 1103 + 12345) 65521) 7 < 65521 := by
          rw [Int.tdiv_eq_ediv_of_nonneg hs0]; omega
        rw [if_pos c3, if_neg (by omega), if_pos hm0, if_pos hm1, if_neg (by omega)]
        rw [w64 (n := Int.tdiv (Int.tmod (s * 1103 + 12345) 65521) 7) (by omega) (by omega), w64 (n := rd L (Int.tmod p (L.length : Int))) (by omega) (by omega), w64 (by omega) (by omega)]
        refine ⟨_, _, _, rfl, Int.tmod_nonneg _ (by omega), .inl (Int.tmod_lt_of_pos _ (by omega)), ?_⟩
        exact ⟨by omega, by omega, hs0, hs1⟩
      · rw [if_neg c3, if_neg (by omega)]
        refine ⟨_, _, _, rfl, Int.emod_nonneg _ (by omega), .inl (Int.emod_lt_of_pos _ (by omega)), ?_⟩
        exact ⟨by omega, by omega, hs0, hs1⟩

theorem strOfNums_sz (xs : List Int) : (strOfNums xs).size = xs.length := strOfNums_size xs
theorem word_l0 (L : List Int) (hL : U8s L) (n : Int) (hn : n ≤ 32) (d : Nat) : ∀ (k : Nat) (xs : List Int) (p s B : Int), n - (xs.length : Int) ≤ (d : Int) → xs.length ≤ 32 → d < k → Cur p s B → B + 2 * d ≤ 1000000000000 →
    ∃ w p' s', spec_l01Cur_word.l0 k n xs L p s = some (w, p', s') ∧ w.size ≤ 32 ∧ Cur p' s' (B + 2 * d) := by
  induction d with
  | zero =>
    intro k xs p s B hd hl hk hc hB
    obtain ⟨k, rfl⟩ : ∃ q, k = q + 1 := ⟨k - 1, by omega⟩
    exact ⟨_, p, s, by rw [spec_l01Cur_word.l0, if_neg (by omega)], by rw [strOfNums_sz]; omega, hc.le (by omega)⟩
  | succ d ih =>
    intro k xs p s B hd hl hk hc hB
    obtain ⟨k, rfl⟩ : ∃ q, k = q + 1 := ⟨k - 1, by omega⟩
    by_cases h : (xs.length : Int) < n
    · obtain ⟨v, p1, s1, e1, v0, v1, c1⟩ := pick_f L hL 3 hc (by omega) (by decide)
      obtain ⟨v, rfl⟩ := Int.eq_ofNat_of_zero_le v0
      have hr : rd [2, 3, 26] (v : Int) ≤ 26 := by
        have : v = 0 ∨ v = 1 ∨ v = 2 := by omega
        rcases this with rfl | rfl | rfl <;> decide
      obtain ⟨u, p2, s2, e2, u0, u1, c2⟩ := pick_f L hL (rd [2, 3, 26] (v : Int)) c1 (by omega) (by omega)
      obtain ⟨w, p3, s3, e3, hw, c3⟩ := ih k (xs ++ [wrap64 (97 + u) % 256]) p2 s2 (B + 1 + 1) (by simp; omega) (by simp; omega) (by omega) c2 (by omega)
      refine ⟨w, p3, s3, ?_, hw, c3.le (by omega)⟩
      rw [spec_l01Cur_word.l0, if_pos h, Option.bind_some, e1, Option.bind_some]
      dsimp only
      rw [if_pos v0, if_pos (by simp; omega), e2, Option.bind_some]
      dsimp only
      rw [if_pos (by omega)]
      exact e3
    · exact ⟨_, p, s, by rw [spec_l01Cur_word.l0, if_neg h], by rw [strOfNums_sz]; omega, hc.le (by omega)⟩
theorem word_f (L : List Int) (hL : U8s L) {p s B : Int} (hc : Cur p s B) (hB : B ≤ 1000000000) {k : Nat} (hk : 40 < k) :
    ∃ w p' s', spec_l01Cur_word.f k L p s = some (w, p', s') ∧ w.size ≤ 32 ∧ Cur p' s' (B + 70) := by
  obtain ⟨v, p1, s1, e1, v0, v1, c1⟩ := pick_f L hL 4 hc (by omega) (by decide)
  obtain ⟨v, rfl⟩ := Int.eq_ofNat_of_zero_le v0
  have hr : rd [3, 5, 8, 32] (v : Int) ≤ 32 ∧ 2 ≤ rd [3, 5, 8, 32] (v : Int) := by
    have : v = 0 ∨ v = 1 ∨ v = 2 ∨ v = 3 := by omega
    rcases this with rfl | rfl | rfl | rfl <;> decide
  obtain ⟨u, p2, s2, e2, u0, u1, c2⟩ := pick_f L hL (rd [3, 5, 8, 32] (v : Int)) c1 (by omega) (by omega)
  obtain ⟨w, p3, s3, e3, hw, c3⟩ := word_l0 L hL (1 + u) (by omega) 32 k [] p2 s2 (B + 1 + 1) (by simp; omega) (by simp) (by omega) c2 (by omega)
  refine ⟨w, p3, s3, ?_, hw, c3.le (by omega)⟩
  unfold spec_l01Cur_word.f
  rw [Option.bind_some, e1, Option.bind_some]
  dsimp only
  rw [if_pos v0, if_pos (by simp; omega), e2, Option.bind_some]
  dsimp only
  rw [w64 (by omega) (by omega)]
  exact e3

theorem ex0 (s : ByteArray) (i : Nat) : (s.extract 0 i).size ≤ s.size := by rw [ByteArray.size_extract]; omega
theorem ex1 (s : ByteArray) (i : Nat) : (s.extract i s.size).size ≤ s.size := by rw [ByteArray.size_extract]; omega
theorem badWord_f (L : List Int) (hL : U8s L) {p s B : Int} (hc : Cur p s B) (hB : B ≤ 900000000) {k : Nat} (hk : 40 < k) :
    ∃ w p' s', spec_l01Cur_badWord.f k L p s = some (w, p', s') ∧ w.size ≤ 96 ∧ Cur p' s' (B + 73) := by
  obtain ⟨w, p1, s1, e1, hw, c1⟩ := word_f L hL hc (by omega) hk
  obtain ⟨v, p2, s2, e2, v0, v1, c2⟩ := pick_f L hL 9 c1 (by omega) (by decide)
  unfold spec_l01Cur_badWord.f
  rw [e1, Option.bind_some]
  dsimp only
  rw [e2, Option.bind_some]
  dsimp only
  by_cases h0 : v = 0
  · rw [if_pos h0, w64 (by omega) (by omega)]
    obtain ⟨u, p3, s3, e3, u0, u1, c3⟩ := pick_f L hL ((w.size : Int) + 1) c2 (by omega) (by omega)
    obtain ⟨x, p4, s4, e4, x0, x1, c4⟩ := pick_f L hL 6 c3 (by omega) (by decide)
    obtain ⟨x, rfl⟩ := Int.eq_ofNat_of_zero_le x0
    rw [e3, Option.bind_some]
    dsimp only
    rw [if_pos u0, if_pos (by omega), Option.bind_some, e4, Option.bind_some]
    dsimp only
    rw [if_pos x0, if_pos (by simp; omega)]
    have hr : (rdOf ByteArray.empty [(⟨#[]⟩ : ByteArray), (⟨#[65]⟩ : ByteArray), (⟨#[45]⟩ : ByteArray), (⟨#[0]⟩ : ByteArray), (⟨#[122, 122]⟩ : ByteArray), (⟨#[123]⟩ : ByteArray)] (x : Int)).size ≤ 2 := by
      have : x = 0 ∨ x = 1 ∨ x = 2 ∨ x = 3 ∨ x = 4 ∨ x = 5 := by omega
      rcases this with rfl | rfl | rfl | rfl | rfl | rfl <;> decide
    generalize rdOf ByteArray.empty [(⟨#[]⟩ : ByteArray), (⟨#[65]⟩ : ByteArray), (⟨#[45]⟩ : ByteArray), (⟨#[0]⟩ : ByteArray), (⟨#[122, 122]⟩ : ByteArray), (⟨#[123]⟩ : ByteArray)] (x : Int) = y at *
    have hx0 := ex0 w u.toNat
    have hx1 := ex1 w u.toNat
    rw [if_pos (by omega), if_pos (by rw [ByteArray.size_append]; omega)]
    exact ⟨_, _, _, rfl, by rw [ByteArray.size_append, ByteArray.size_append]; omega, c4.le (by omega)⟩
  · rw [if_neg h0]
    by_cases h1 : v = 1
    · rw [if_pos h1]
      exact ⟨_, _, _, rfl, by decide, c2.le (by omega)⟩
    · rw [if_neg h1]
      by_cases h2 : v = 2
      · rw [if_pos h2, if_pos (by omega)]
        obtain ⟨u, p3, s3, e3, u0, u1, c3⟩ := pick_f L hL 33 c2 (by omega) (by decide)
        rw [e3, Option.bind_some]
        dsimp only
        generalize hz : (⟨#[97, 97, 97, 97, 97, 97, 97, 97, 97, 97, 97, 97, 97, 97, 97, 97, 97, 97, 97, 97, 97, 97, 97, 97, 97, 97, 97, 97, 97, 97, 97, 97]⟩ : ByteArray) = z
        have hzs : z.size = 32 := by rw [← hz]; rfl
        have hx0 := ex0 z u.toNat
        rw [if_pos u0, if_pos (by omega), if_pos (by rw [ByteArray.size_append]; omega)]
        exact ⟨_, _, _, rfl, by rw [ByteArray.size_append, ByteArray.size_append]; omega, c3.le (by omega)⟩
      · rw [if_neg h2]
        exact ⟨_, _, _, rfl, by omega, c2.le (by omega)⟩

theorem once_f (L : List Int) (hL : U8s L) (n : Int) {p s B : Int} (h : Cur p s B) (hB : B ≤ 1000000000000) (hn : n ≤ 1000000000000) :
    ∃ b p' s', spec_l01Cur_once.f L p s n = some (b, p', s') ∧ Cur p' s' (B + 1) := by
  obtain ⟨r, p', s', e, _, _, c⟩ := pick_f L hL n h hB hn
  refine ⟨r == wrap64 (n - 1), p', s', ?_, c⟩
  unfold spec_l01Cur_once.f
  rw [e, Option.bind_some]

theorem pair_l0 (L : List Int) (hL : U8s L) (a : ByteArray) (d : Nat) : ∀ (k : Nat) (b : ByteArray) (i p s B : Int), i ≤ (d : Int) → d ≤ 3 → d < k → b.size ≤ 96 + (3 - d) → Cur p s B → B + 3 * d ≤ 900000000 →
    ∃ w p' s', spec_l01Cur_pair.l0 k a b i L p s = some (a, w, p', s') ∧ w.size ≤ 99 ∧ Cur p' s' (B + 3 * d) := by
  induction d with
  | zero =>
    intro k b i p s B hi hd hk hb hc hB
    obtain ⟨k, rfl⟩ : ∃ q, k = q + 1 := ⟨k - 1, by omega⟩
    exact ⟨b, p, s, by rw [spec_l01Cur_pair.l0, if_neg (by omega)], by omega, hc.le (by omega)⟩
  | succ d ih =>
    intro k b i p s B hi hd hk hb hc hB
    obtain ⟨k, rfl⟩ : ∃ q, k = q + 1 := ⟨k - 1, by omega⟩
    by_cases h : i > 0
    · obtain ⟨u, p1, s1, e1, u0, u1, c1⟩ := pick_f L hL ((b.size : Int) + 1) hc (by omega) (by omega)
      obtain ⟨x, p2, s2, e2, x0, x1, c2⟩ := pick_f L hL 4 c1 (by omega) (by decide)
      obtain ⟨y, p3, s3, e3, y0, y1, c3⟩ := pick_f L hL 2 c2 (by omega) (by decide)
      obtain ⟨x, rfl⟩ := Int.eq_ofNat_of_zero_le x0
      rw [spec_l01Cur_pair.l0, if_pos h, w64 (n := (b.size : Int) + 1) (by omega) (by omega), e1, Option.bind_some]
      dsimp only
      rw [if_pos u0, if_pos (by omega), Option.bind_some, e2, Option.bind_some]
      dsimp only
      rw [if_pos x0, if_pos (by simp; omega)]
      have hr : (rdOf ByteArray.empty [(⟨#[]⟩ : ByteArray), (⟨#[97]⟩ : ByteArray), (⟨#[98]⟩ : ByteArray), (⟨#[120]⟩ : ByteArray)] (x : Int)).size ≤ 1 := by
        have : x = 0 ∨ x = 1 ∨ x = 2 ∨ x = 3 := by omega
        rcases this with rfl | rfl | rfl | rfl <;> decide
      generalize rdOf ByteArray.empty [(⟨#[]⟩ : ByteArray), (⟨#[97]⟩ : ByteArray), (⟨#[98]⟩ : ByteArray), (⟨#[120]⟩ : ByteArray)] (x : Int) = z at *
      have hm : mn (b.size : Int) (u + y) ≤ (b.size : Int) ∧ u ≤ mn (b.size : Int) (u + y) := by unfold mn; split <;> omega
      rw [if_pos (by rw [ByteArray.size_extract]; omega), e3, Option.bind_some]
      dsimp only
      rw [w64 (n := u + y) (by omega) (by omega), if_pos (by omega), if_pos (by omega), if_pos (by rw [ByteArray.size_append, ByteArray.size_extract, ByteArray.size_extract]; omega), w64 (by omega) (by omega)]
      obtain ⟨w, p4, s4, e4, hw, c4⟩ := ih k ((b.extract 0 u.toNat ++ z) ++ b.extract (mn (b.size : Int) (u + y)).toNat b.size) (i - 1) p3 s3 (B + 1 + 1 + 1) (by omega) (by omega) (by omega) (by
        rw [ByteArray.size_append, ByteArray.size_append, ByteArray.size_extract, ByteArray.size_extract]; omega) c3 (by omega)
      exact ⟨w, p4, s4, e4, hw, c4.le (by omega)⟩
    · exact ⟨b, p, s, by rw [spec_l01Cur_pair.l0, if_neg h], by omega, hc.le (by omega)⟩
theorem pair_f (L : List Int) (hL : U8s L) {p s B : Int} (hc : Cur p s B) (hB : B ≤ 800000000) {k : Nat} (hk : 40 < k) :
    ∃ a b p' s', spec_l01Cur_pair.f k L p s = some (a, b, p', s') ∧ a.size ≤ 99 ∧ b.size ≤ 99 ∧ Cur p' s' (B + 200) := by
  obtain ⟨a, p1, s1, e1, ha, c1⟩ := badWord_f L hL hc (by omega) hk
  obtain ⟨t, p2, s2, e2, c2⟩ := once_f L hL 3 c1 (by omega) (by decide)
  unfold spec_l01Cur_pair.f
  rw [e1, Option.bind_some]
  dsimp only
  rw [e2, Option.bind_some]
  dsimp only
  cases t
  · rw [if_neg (by decide)]
    obtain ⟨v, p3, s3, e3, v0, v1, c3⟩ := pick_f L hL 4 c2 (by omega) (by decide)
    rw [e3, Option.bind_some]
    dsimp only
    obtain ⟨w, p4, s4, e4, hw, c4⟩ := pair_l0 L hL a 3 k a v p3 s3 _ (by omega) (by omega) (by omega) (by omega) c3 (by omega)
    exact ⟨a, w, p4, s4, e4, by omega, by omega, c4.le (by omega)⟩
  · rw [if_pos rfl]
    obtain ⟨b, p3, s3, e3, hb, c3⟩ := badWord_f L hL c2 (by omega) hk
    rw [e3, Option.bind_some]
    exact ⟨a, b, p3, s3, rfl, by omega, by omega, c3.le (by omega)⟩
theorem open_cur (L : List Int) : Cur 0 (59 + ((L.length : Int) % 1000)) 0 := ⟨by omega, by omega, by omega, by omega⟩

theorem spec_WordOk_l0 (s : ByteArray) (hs : s.size ≤ 140737488351232) (d : Nat) : ∀ (k i : Nat), i ≤ s.size → s.size - i = d → d < k →
    spec_WordOk.l0 k s (i : Int) = some (okB s i) := by
  induction d with
  | zero =>
    intro k i hi hd hk
    obtain ⟨k, rfl⟩ : ∃ q, k = q + 1 := ⟨k - 1, by omega⟩
    rw [spec_WordOk.l0, if_neg (by omega), okB_end (by omega)]
  | succ d ih =>
    intro k i hi hd hk
    obtain ⟨k, rfl⟩ : ∃ q, k = q + 1 := ⟨k - 1, by omega⟩
    have h := ih k (i + 1) (by omega) (by omega) (by omega)
    rw [spec_WordOk.l0, if_pos (by omega), if_pos (by omega)]
    by_cases h1 : bt s (i : Int) < 97
    · rw [if_pos h1, okB_bad (by omega) (.inl h1)]
    · rw [if_neg h1]
      by_cases h2 : bt s (i : Int) > 122
      · rw [if_pos h2, okB_bad (by omega) (.inr h2)]
      · rw [if_neg h2, w64 (by omega) (by omega), okB_step (by omega) (by omega)]
        exact h
theorem spec_WordOk_f (s : ByteArray) (hs : s.size ≤ 140737488351232) {k : Nat} (hk : s.size + 1 < k) : spec_WordOk.f k s = some (wordB s) := by
  obtain ⟨k, rfl⟩ : ∃ q, k = q + 1 := ⟨k - 1, by omega⟩
  unfold spec_WordOk.f wordB
  by_cases h : (s.size : Int) < 1
  · rw [if_pos h, spec_WordOk.j0, if_pos rfl, decide_eq_false (by omega)]; rfl
  · rw [if_neg h, spec_WordOk.j0]
    by_cases h2 : (s.size : Int) > 32
    · rw [if_pos (by simp only [decide_eq_true_eq]; exact h2), decide_eq_false (by omega)]; rfl
    · rw [if_neg (by simp only [decide_eq_true_eq]; exact h2), decide_eq_true (by omega), Bool.true_and]
      exact spec_WordOk_l0 s hs s.size k 0 (by omega) (by omega) (by omega)

theorem table_rdL : rd_L2 = rdL := rfl
theorem table_cell (s t : ByteArray) (hs : s.size ≤ 32) (ht : t.size ≤ 32) (i j k : Nat) (T : List (List Int)) (hi : i ≤ s.size) (hj : j + 1 ≤ t.size + 1) (hT : Tab s t T i (j + 1))
    (ih : ∀ T', i ≤ s.size → j ≤ t.size + 1 → i * 40 + j + 2 ≤ k → Tab s t T' i j → ∃ R, spec_l05Table.l1 k s t T' (i : Int) ((j : Int) - 1) = some R ∧ TabR s t R 0) (hk : i * 40 + j + 2 ≤ k) :
    ∃ R, spec_l05Table.l1 (k + 1) s t T (i : Int) (((j + 1 : Nat) : Int) - 1) = some R ∧ TabR s t R 0 := by
  have hl := hT.1
  have hr := hT.len (Nat.le_refl _) hi
  have hb := levAt_le s t
  rw [show (((j + 1 : Nat) : Int) - 1) = (j : Int) from by omega, spec_l05Table.l1, if_pos (by omega)]
  simp only [table_rdL, w64 (show -9223372036854775808 ≤ (j : Int) - 1 by omega) (by omega), w64 (show -9223372036854775808 ≤ (i : Int) + 1 by omega) (by omega), w64 (show -9223372036854775808 ≤ (j : Int) + 1 by omega) (by omega)]
  by_cases e1 : i = s.size
  · rw [if_pos (by omega), if_pos (by omega), if_pos (by omega), if_pos (by omega), if_pos (by rw [hr]; omega)]
    rw [Int.toNat_natCast, Int.toNat_natCast]
    refine ih _ hi (by omega) hk (hT.put hi (by omega) ?_)
    rw [w64 (by omega) (by omega), e1, levAt_end]
    omega
  · rw [if_neg (by omega)]
    by_cases e2 : j = t.size
    · rw [if_pos (by omega), if_pos (by omega), if_pos (by omega), if_pos (by omega), if_pos (by rw [hr]; omega)]
      rw [Int.toNat_natCast, Int.toNat_natCast]
      refine ih _ hi (by omega) hk (hT.put hi (by omega) ?_)
      rw [w64 (by omega) (by omega), e2, levAt_end']
      omega
    · rw [if_neg (by omega)]
      have hr1 := hT.len (show i ≤ i + 1 by omega) (by omega)
      have c1 := hT.2.2 (i + 1) (j + 1) (by omega) (by omega) (by omega)
      have c2 := hT.2.2 (i + 1) j (by omega) (by omega) (by omega)
      have c3 := hT.2.2 i (j + 1) (by omega) (by omega) (by omega)
      have b1 := hb (i + 1) (j + 1)
      have b2 := hb (i + 1) j
      have b3 := hb i (j + 1)
      have hst := levAt_step s t (show i < s.size by omega) (show j < t.size by omega)
      rw [show ((i : Int) + 1) = ((i + 1 : Nat) : Int) from rfl, show ((j : Int) + 1) = ((j + 1 : Nat) : Int) from rfl]
      simp only [c1, c2, c3, hr, hr1, hl]
      by_cases e3 : bt s (i : Int) = bt t (j : Int)
      · rw [ne01, if_pos e3] at hst
        repeat rw [if_pos (by first | exact e3 | omega)]
        rw [Int.toNat_natCast, Int.toNat_natCast]
        refine ih _ hi (by omega) hk (hT.put hi (by omega) ?_)
        exact step_eq (by omega) (by omega) (by omega) hst
      · rw [ne01, if_neg e3] at hst
        repeat first | rw [if_pos (by omega)] | rw [if_neg e3]
        rw [Int.toNat_natCast, Int.toNat_natCast]
        refine ih _ hi (by omega) hk (hT.put hi (by omega) ?_)
        exact step_ne (by omega) (by omega) (by omega) hst
theorem table_l1 (s t : ByteArray) (hs : s.size ≤ 32) (ht : t.size ≤ 32) (i : Nat) : ∀ (j k : Nat) (T : List (List Int)), i ≤ s.size → j ≤ t.size + 1 → i * 40 + j + 2 ≤ k → Tab s t T i j →
    ∃ R, spec_l05Table.l1 k s t T (i : Int) ((j : Int) - 1) = some R ∧ TabR s t R 0 := by
  induction i with
  | zero =>
    intro j
    induction j with
    | zero =>
      intro k T hi hj hk hT
      obtain ⟨k, rfl⟩ : ∃ q, k = q + 1 + 1 := ⟨k - 2, by omega⟩
      refine ⟨T, ?_, hT.rows⟩
      rw [spec_l05Table.l1, if_neg (by omega), w64 (by omega) (by omega), spec_l05Table.l0, if_neg (by omega)]
    | succ j ihj =>
      intro k T hi hj hk hT
      obtain ⟨k, rfl⟩ : ∃ q, k = q + 1 := ⟨k - 1, by omega⟩
      exact table_cell s t hs ht 0 j k T hi hj hT (ihj k)
        (by omega)
  | succ i ih =>
    intro j
    induction j with
    | zero =>
      intro k T hi hj hk hT
      obtain ⟨k, rfl⟩ : ∃ q, k = q + 1 + 1 := ⟨k - 2, by omega⟩
      have hr := hT.rows.row (by omega) (List.replicate (t.size + 1) 0) (by simp)
      have hl := hT.1
      obtain ⟨R, h1, h2⟩ := ih (t.size + 1) k _ (by omega) (Nat.le_refl _) (by omega) hr
      refine ⟨R, ?_, h2⟩
      rw [spec_l05Table.l1, if_neg (by omega), w64 (by omega) (by omega), spec_l05Table.l0, if_pos (by omega), w64 (by omega) (by omega)]
      rw [if_pos (by omega), if_pos (by omega), if_pos (by omega), if_pos (by omega)]
      rw [show (((i + 1 : Nat) : Int) - 1) = (i : Int) from by omega, show (((t.size : Nat) : Int) + 1).toNat = t.size + 1 from by omega, Int.toNat_natCast]
      rw [show (((t.size + 1 : Nat) : Int) - 1) = (t.size : Int) from by omega] at h1
      exact h1
    | succ j ihj =>
      intro k T hi hj hk hT
      obtain ⟨k, rfl⟩ : ∃ q, k = q + 1 := ⟨k - 1, by omega⟩
      exact table_cell s t hs ht (i + 1) j k T hi hj hT (ihj k)
        (by omega)
theorem table_f (s t : ByteArray) (hs : s.size ≤ 32) (ht : t.size ≤ 32) {k : Nat} (hk : 1400 < k) : ∃ R, spec_l05Table.f k s t = some R ∧ TabR s t R 0 := by
  obtain ⟨k, rfl⟩ : ∃ q, k = q + 1 := ⟨k - 1, by omega⟩
  have h0 := (TabR.start s t).row (Nat.le_refl _) (List.replicate (t.size + 1) 0) (by simp)
  obtain ⟨R, h1, h2⟩ := table_l1 s t hs ht s.size (t.size + 1) k _ (Nat.le_refl _) (Nat.le_refl _) (by omega) h0
  refine ⟨R, ?_, h2⟩
  unfold spec_l05Table.f
  rw [w64 (by omega) (by omega), if_pos (by omega), if_pos (by omega), spec_l05Table.l0, if_pos (by omega), w64 (by omega) (by omega), if_pos (by omega), if_pos (by omega), if_pos (by omega), if_pos (by rw [List.length_replicate]; omega)]
  rw [show (((s.size : Nat) : Int) + 1).toNat = s.size + 1 from by omega, show (((t.size : Nat) : Int) + 1).toNat = t.size + 1 from by omega, Int.toNat_natCast]
  rw [show (((t.size + 1 : Nat) : Int) - 1) = (t.size : Int) from by omega] at h1
  exact h1

theorem l05Long_f (s t : ByteArray) : spec_l05Long.f s t = some (decide (32 < s.size ∨ 32 < t.size)) := by
  unfold spec_l05Long.f
  by_cases h : (s.size : Int) > 32
  · rw [if_pos h, decide_eq_true (by omega)]
  · rw [if_neg h]; congr 1; rw [decide_eq_decide]; omega
/-- the distance of the document's fifth chapter -/
def distN (s t : ByteArray) : Int := if s.size ≤ 32 ∧ t.size ≤ 32 then (lev (bytesOf s) (bytesOf t) : Int) else -1
theorem spec_Distance_f (s t : ByteArray) {k : Nat} (hk : 1400 < k) : spec_Distance.f k s t = some (distN s t) := by
  unfold spec_Distance.f distN
  rw [l05Long_f, Option.bind_some]
  by_cases h : s.size ≤ 32 ∧ t.size ≤ 32
  · obtain ⟨R, h1, h2⟩ := table_f s t h.1 h.2 hk
    obtain ⟨r1, r2, r3⟩ := h2.top
    rw [if_neg (by simp only [decide_eq_true_eq]; omega), h1, Option.bind_some, table_rdL, if_pos (by omega), if_pos (by omega), r3, if_pos h, levAt_top]
  · rw [if_pos (by simp only [decide_eq_true_eq]; omega), if_neg h]

theorem costs_rdL : rd_L2 = rdL := rfl
theorem costs_cell (s t : ByteArray) (hs : s.size ≤ 32) (ht : t.size ≤ 32) (i j k : Nat) (T : List (List Int)) (hi : i ≤ s.size) (hj : j + 1 ≤ t.size + 1) (hT : Tab s t T i (j + 1))
    (ih : ∀ T', i ≤ s.size → j ≤ t.size + 1 → i * 40 + j + 2 ≤ k → Tab s t T' i j → ∃ R, impl_costs.l1 k s t T' (i : Int) ((j : Int) - 1) = some R ∧ TabR s t R 0) (hk : i * 40 + j + 2 ≤ k) :
    ∃ R, impl_costs.l1 (k + 1) s t T (i : Int) (((j + 1 : Nat) : Int) - 1) = some R ∧ TabR s t R 0 := by
  have hl := hT.1
  have hr := hT.len (Nat.le_refl _) hi
  have hb := levAt_le s t
  rw [show (((j + 1 : Nat) : Int) - 1) = (j : Int) from by omega, impl_costs.l1, if_pos (by omega)]
  simp only [costs_rdL, w64 (show -9223372036854775808 ≤ (j : Int) - 1 by omega) (by omega), w64 (show -9223372036854775808 ≤ (i : Int) + 1 by omega) (by omega), w64 (show -9223372036854775808 ≤ (j : Int) + 1 by omega) (by omega)]
  by_cases e1 : i = s.size
  · rw [if_pos (by omega), if_pos (by omega), if_pos (by omega), if_pos (by omega), if_pos (by rw [hr]; omega)]
    rw [Int.toNat_natCast, Int.toNat_natCast]
    refine ih _ hi (by omega) hk (hT.put hi (by omega) ?_)
    rw [w64 (by omega) (by omega), e1, levAt_end]
    omega
  · rw [if_neg (by omega)]
    by_cases e2 : j = t.size
    · rw [if_pos (by omega), if_pos (by omega), if_pos (by omega), if_pos (by omega), if_pos (by rw [hr]; omega)]
      rw [Int.toNat_natCast, Int.toNat_natCast]
      refine ih _ hi (by omega) hk (hT.put hi (by omega) ?_)
      rw [w64 (by omega) (by omega), e2, levAt_end']
      omega
    · rw [if_neg (by omega)]
      have hr1 := hT.len (show i ≤ i + 1 by omega) (by omega)
      have c1 := hT.2.2 (i + 1) (j + 1) (by omega) (by omega) (by omega)
      have c2 := hT.2.2 (i + 1) j (by omega) (by omega) (by omega)
      have c3 := hT.2.2 i (j + 1) (by omega) (by omega) (by omega)
      have b1 := hb (i + 1) (j + 1)
      have b2 := hb (i + 1) j
      have b3 := hb i (j + 1)
      have hst := levAt_step s t (show i < s.size by omega) (show j < t.size by omega)
      rw [show ((i : Int) + 1) = ((i + 1 : Nat) : Int) from rfl, show ((j : Int) + 1) = ((j + 1 : Nat) : Int) from rfl]
      simp only [c1, c2, c3, hr, hr1, hl]
      by_cases e3 : bt s (i : Int) = bt t (j : Int)
      · rw [ne01, if_pos e3] at hst
        repeat rw [if_pos (by first | exact e3 | omega)]
        rw [Int.toNat_natCast, Int.toNat_natCast]
        refine ih _ hi (by omega) hk (hT.put hi (by omega) ?_)
        exact step_eq' (by omega) (by omega) (by omega) hst
      · rw [ne01, if_neg e3] at hst
        repeat first | rw [if_pos (by omega)] | rw [if_neg e3]
        rw [Int.toNat_natCast, Int.toNat_natCast]
        refine ih _ hi (by omega) hk (hT.put hi (by omega) ?_)
        exact step_ne' (by omega) (by omega) (by omega) hst
theorem costs_l1 (s t : ByteArray) (hs : s.size ≤ 32) (ht : t.size ≤ 32) (i : Nat) : ∀ (j k : Nat) (T : List (List Int)), i ≤ s.size → j ≤ t.size + 1 → i * 40 + j + 2 ≤ k → Tab s t T i j →
    ∃ R, impl_costs.l1 k s t T (i : Int) ((j : Int) - 1) = some R ∧ TabR s t R 0 := by
  induction i with
  | zero =>
    intro j
    induction j with
    | zero =>
      intro k T hi hj hk hT
      obtain ⟨k, rfl⟩ : ∃ q, k = q + 1 + 1 := ⟨k - 2, by omega⟩
      refine ⟨T, ?_, hT.rows⟩
      rw [impl_costs.l1, if_neg (by omega), w64 (by omega) (by omega), impl_costs.l0, if_neg (by omega)]
    | succ j ihj =>
      intro k T hi hj hk hT
      obtain ⟨k, rfl⟩ : ∃ q, k = q + 1 := ⟨k - 1, by omega⟩
      exact costs_cell s t hs ht 0 j k T hi hj hT (ihj k)
        (by omega)
  | succ i ih =>
    intro j
    induction j with
    | zero =>
      intro k T hi hj hk hT
      obtain ⟨k, rfl⟩ : ∃ q, k = q + 1 + 1 := ⟨k - 2, by omega⟩
      have hr := hT.rows.row (by omega) (List.replicate (t.size + 1) 0) (by simp)
      have hl := hT.1
      obtain ⟨R, h1, h2⟩ := ih (t.size + 1) k _ (by omega) (Nat.le_refl _) (by omega) hr
      refine ⟨R, ?_, h2⟩
      rw [impl_costs.l1, if_neg (by omega), w64 (by omega) (by omega), impl_costs.l0, if_pos (by omega), w64 (by omega) (by omega)]
      rw [if_pos (by omega), if_pos (by omega), if_pos (by omega), if_pos (by omega)]
      rw [show (((i + 1 : Nat) : Int) - 1) = (i : Int) from by omega, show (((t.size : Nat) : Int) + 1).toNat = t.size + 1 from by omega, Int.toNat_natCast]
      rw [show (((t.size + 1 : Nat) : Int) - 1) = (t.size : Int) from by omega] at h1
      exact h1
    | succ j ihj =>
      intro k T hi hj hk hT
      obtain ⟨k, rfl⟩ : ∃ q, k = q + 1 := ⟨k - 1, by omega⟩
      exact costs_cell s t hs ht (i + 1) j k T hi hj hT (ihj k)
        (by omega)
theorem costs_f (s t : ByteArray) (hs : s.size ≤ 32) (ht : t.size ≤ 32) {k : Nat} (hk : 1400 < k) : ∃ R, impl_costs.f k s t = some R ∧ TabR s t R 0 := by
  obtain ⟨k, rfl⟩ : ∃ q, k = q + 1 := ⟨k - 1, by omega⟩
  have h0 := (TabR.start s t).row (Nat.le_refl _) (List.replicate (t.size + 1) 0) (by simp)
  obtain ⟨R, h1, h2⟩ := costs_l1 s t hs ht s.size (t.size + 1) k _ (Nat.le_refl _) (Nat.le_refl _) (by omega) h0
  refine ⟨R, ?_, h2⟩
  unfold impl_costs.f
  rw [w64 (by omega) (by omega), if_pos (by omega), if_pos (by omega), impl_costs.l0, if_pos (by omega), w64 (by omega) (by omega), if_pos (by omega), if_pos (by omega), if_pos (by omega), if_pos (by rw [List.length_replicate]; omega)]
  rw [show (((s.size : Nat) : Int) + 1).toNat = s.size + 1 from by omega, show (((t.size : Nat) : Int) + 1).toNat = t.size + 1 from by omega, Int.toNat_natCast]
  rw [show (((t.size + 1 : Nat) : Int) - 1) = (t.size : Int) from by omega] at h1
  exact h1

theorem costs_top (s t : ByteArray) (hs : s.size ≤ 32) (ht : t.size ≤ 32) {k : Nat} (hk : 1400 < k) {α : Type} (g : Int → Option α) :
    ((impl_costs.f k s t).bind fun T => if 0 < (T.length : Int) then (if 0 < ((rd_L2 T 0).length : Int) then g (rd (rd_L2 T 0) 0) else none) else none) = g (lev (bytesOf s) (bytesOf t) : Int) := by
  obtain ⟨R, h1, h2⟩ := costs_f s t hs ht hk
  obtain ⟨r1, r2, r3⟩ := h2.top
  rw [h1, Option.bind_some, costs_rdL, if_pos (by omega), if_pos (by omega), r3, levAt_top]

theorem FnMyers : laws_FnMyers.Pure := by
  intro L _ hlen hL
  have hU := U8s.of hL
  obtain ⟨K, hK⟩ : ∃ K : Nat, 1500 ≤ K := ⟨1500, Nat.le_refl _⟩
  refine ⟨K + 1, ?_⟩
  unfold laws_FnMyers.f laws_big.f
  rw [Option.bind_some]
  by_cases hbig : (L.length : Int) > 1048576
  · rw [if_pos (decide_eq_true hbig)]
  · rw [if_neg (by simpa using hbig)]
    have hd : ∃ a b : ByteArray, spec_DrawMyersRun.f (K + 1) L = some (a, b) ∧ a.size ≤ 99 ∧ b.size ≤ 99 := by
      unfold spec_DrawMyersRun.f spec_l01Open.f
      rw [Option.bind_some]
      dsimp only
      obtain ⟨a, b, p1, s1, e1, ha, hb, c1⟩ := pair_f L hU (open_cur L) (by omega) (show 40 < K + 1 by omega)
      rw [e1, Option.bind_some]
      exact ⟨a, b, rfl, ha, hb⟩
    obtain ⟨a, b, e, ha, hb⟩ := hd
    have hrun : impl_MyersRun.f (K + 1) a b = some (distN a b) := by
      unfold impl_MyersRun.f distN
      by_cases h : a.size ≤ 32 ∧ b.size ≤ 32
      · rw [if_neg (by omega), if_neg (by omega), if_pos h]
        exact costs_top a b h.1 h.2 (by omega) some
      · rw [if_neg h]
        by_cases h1 : (a.size : Int) > 32
        · rw [if_pos h1]
        · rw [if_neg h1, if_pos (by omega)]
    rw [e, Option.bind_some]
    dsimp only
    rw [spec_Distance_f a b (by omega), Option.bind_some, hrun, Option.bind_some, if_pos rfl, spec_WordOk_f a (by omega) (by omega), Option.bind_some]
    by_cases wa : wordB a = true
    · rw [if_pos wa, spec_WordOk_f b (by omega) (by omega), Option.bind_some, laws_FnMyers.j0]
      by_cases wb : wordB b = true
      · have za := wordB_size wa
        have zb := wordB_size wb
        unfold impl_Pad.f impl_MyersPadded.f
        rw [if_neg (by simp [wb]), impl_pad_f a (by omega) (by omega), Option.bind_some, Option.bind_some, impl_pad_f b (by omega) (by omega), Option.bind_some, Option.bind_some, impl_Unpad_f _ (padL_u8 a) (by omega), Option.bind_some, impl_Unpad_f _ (padL_u8 b) (by omega), Option.bind_some, unpad_pad wa, unpad_pad wb]
        dsimp only
        rw [if_pos rfl, if_pos rfl, costs_top a b za.2 zb.2 (by omega) some, Option.bind_some]
        unfold distN
        rw [if_pos ⟨za.2, zb.2⟩]
        simp
      · rw [if_pos (by simp at wb; simp [wb])]
    · rw [if_neg wa, laws_FnMyers.j0, if_pos rfl]

end Go.Proofs.Ytbibgmmoompoiaa.Pure
