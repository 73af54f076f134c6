/- The law FnPadBack holds of the program: whatever its arguments (of the kinds and sizes that the statement names), it answers true. -/
import Derived.Test.YtbibgmmoompoiaaQFnPadBackx3
import Derived.Test.YtbibgmmoompoiaaLib
import Derived.Test.YtbibgmmoompoiaaLibTab
import Derived.Test.YtbibgmmoompoiaaLibLev
import Derived.Test.YtbibgmmoompoiaaLibBytes
set_option linter.unusedVariables false
set_option linter.unusedSimpArgs false
namespace Go.Proofs.Ytbibgmmoompoiaa.Pure
open Go.RowKit Go.Proofs.Ytbibgmmoompoiaa.PFnPadBack Go.Proofs.YtbibgmmoompoiaaW.PrintWords Go.Proofs.YtbibgmmoompoiaaW.PrintLast Go.Proofs.Ytbibgmmoompoiaa.L 

theorem within_f (a b c : Int) : impl_within.f a b c = some (decide (b ≤ a ∧ a ≤ c)) := by
  unfold impl_within.f
  by_cases h : a ≥ b
  · rw [if_pos h]; congr 1; rw [decide_eq_decide]; omega
  · rw [if_neg h]; congr 1; symm; rw [decide_eq_false_iff_not]; omega

theorem impl_isWord_l0 (s : ByteArray) (hs : s.size ≤ 140737488351232) (d : Nat) : ∀ (k i : Nat), i ≤ s.size → s.size - i = d → d < k →
    impl_isWord.l0 k s (s.size : Int) (i : Int) = some (okB s i && decide (1 ≤ s.size ∧ s.size ≤ 32)) := by
  induction d with
  | zero =>
    intro k i hi hd hk
    obtain ⟨k, rfl⟩ : ∃ q, k = q + 1 := ⟨k - 1, by omega⟩
    rw [impl_isWord.l0, if_neg (by omega), okB_end (by omega), within_f, Bool.true_and]
    simp only [Option.bind_some]
    congr 1
    rw [decide_eq_decide]; omega
  | succ d ih =>
    intro k i hi hd hk
    obtain ⟨k, rfl⟩ : ∃ q, k = q + 1 := ⟨k - 1, by omega⟩
    have h := ih k (i + 1) (by omega) (by omega) (by omega)
    rw [impl_isWord.l0, if_pos (by omega), if_pos (by omega), if_pos (by omega)]
    by_cases h1 : bt s (i : Int) < 97
    · rw [if_pos h1, okB_bad (by omega) (.inl h1)]; rfl
    · rw [if_neg h1]
      by_cases h2 : bt s (i : Int) > 122
      · rw [if_pos h2, okB_bad (by omega) (.inr h2)]; rfl
      · rw [if_neg h2, w64 (by omega) (by omega), okB_step (by omega) (by omega)]
        exact h
theorem impl_isWord_f (s : ByteArray) (hs : s.size ≤ 140737488351232) {k : Nat} (hk : s.size < k) : impl_isWord.f k s = some (wordB s) := by
  unfold impl_isWord.f wordB
  rw [Bool.and_comm]
  exact impl_isWord_l0 s hs s.size k 0 (by omega) (by omega) (by omega)

/-- the padded word -/
def padL (s : ByteArray) : List Int := if wordB s = true then (s.size : Int) :: (bytesOf s ++ List.replicate (32 - s.size) 0) else List.replicate 33 0
theorem wordB_size {s : ByteArray} (h : wordB s = true) : 1 ≤ s.size ∧ s.size ≤ 32 := by
  unfold wordB at h
  rw [Bool.and_eq_true, decide_eq_true_iff] at h
  exact h.1
theorem padL_length (s : ByteArray) : (padL s).length = 33 := by
  unfold padL
  by_cases h : wordB s = true
  · have := wordB_size h
    rw [if_pos h]
    simp [bytesOf_length]
    omega
  · rw [if_neg h]; simp
theorem impl_pad_f (s : ByteArray) (hs : s.size ≤ 140737488351232) {k : Nat} (hk : s.size < k) : impl_pad.f k s = some (padL s) := by
  unfold impl_pad.f padL
  rw [impl_isWord_f s hs hk, Option.bind_some]
  by_cases h : wordB s = true
  · have := wordB_size h
    rw [if_pos h, if_pos h, if_pos this.2]
  · rw [if_neg h, if_neg h]

theorem strOfNums_bytesOf (s : ByteArray) : strOfNums (bytesOf s) = s := by
  have h : (strOfNums (bytesOf s)).data = s.data := by
    apply Array.toList_inj.mp
    simp only [strOfNums, bytesOf, List.map_map]
    conv => rhs; rw [← List.map_id s.data.toList]
    apply List.map_congr_left
    intro b _
    simp
  exact congrArg ByteArray.mk h
/-- the bytes of a padded word that its first byte tells -/
def cutW (xs : List Int) : ByteArray := strOfNums ((xs.take (1 + rd xs 0).toNat).drop 1)
/-- what a padded word is read as -/
def unpadL (xs : List Int) : ByteArray × Bool := if xs.length = 33 ∧ 1 ≤ rd xs 0 ∧ rd xs 0 ≤ 32 then (if wordB (cutW xs) = true then (if (strOfNums (padL (cutW xs))).toList = (strOfNums xs).toList then (cutW xs, true) else ((⟨#[]⟩ : ByteArray), false)) else ((⟨#[]⟩ : ByteArray), false)) else ((⟨#[]⟩ : ByteArray), false)
theorem cutW_size {xs : List Int} (h : xs.length = 33) (h0 : 0 ≤ rd xs 0) (h1 : rd xs 0 ≤ 32) : ((cutW xs).size : Int) = rd xs 0 := by
  unfold cutW
  rw [strOfNums_size]
  simp only [List.length_drop, List.length_take]
  omega
theorem unpadL_size (xs : List Int) : (unpadL xs).1.size ≤ 32 := by
  unfold unpadL
  split
  · rename_i h
    have := cutW_size h.1 (by omega) h.2.2
    split
    · split
      · show (cutW xs).size ≤ 32; omega
      · exact Nat.zero_le _
    · exact Nat.zero_le _
  · exact Nat.zero_le _
theorem cutW_pad {s : ByteArray} (h : wordB s = true) : cutW (padL s) = s := by
  have hs := wordB_size h
  unfold cutW padL
  rw [if_pos h]
  rw [show rd ((s.size : Int) :: (bytesOf s ++ List.replicate (32 - s.size) 0)) 0 = (s.size : Int) from rfl, show (1 + (s.size : Int)).toNat = s.size + 1 from by omega, List.take_succ_cons, List.drop_succ_cons, List.drop_zero, List.take_append_of_le_length (by rw [bytesOf_length]; exact Nat.le_refl _), List.take_of_length_le (by rw [bytesOf_length]; exact Nat.le_refl _), strOfNums_bytesOf]
theorem unpad_pad {s : ByteArray} (h : wordB s = true) : unpadL (padL s) = (s, true) := by
  have hs := wordB_size h
  have hr : rd (padL s) 0 = (s.size : Int) := by unfold padL; rw [if_pos h]; rfl
  unfold unpadL
  rw [if_pos ⟨padL_length s, by omega, by omega⟩, cutW_pad h, if_pos h, if_pos rfl]
theorem unpad_none {s : ByteArray} (h : ¬ wordB s = true) : unpadL (padL s) = ((⟨#[]⟩ : ByteArray), false) := by
  have hr : rd (padL s) 0 = 0 := by unfold padL; rw [if_neg h]; rfl
  unfold unpadL
  rw [if_neg (by omega)]
theorem padL_u8 (s : ByteArray) : U8s (padL s) := by
  apply U8s.of
  intro x hx
  have hb : 0 ≤ x ∧ x ≤ 255 := by
    unfold padL at hx
    split at hx
    · rename_i h
      have hs := wordB_size h
      rcases List.mem_cons.mp hx with rfl | hx
      · omega
      · rcases List.mem_append.mp hx with hx | hx
        · unfold bytesOf at hx
          obtain ⟨b, _, rfl⟩ := List.mem_map.mp hx
          have := UInt8.toNat_lt b
          omega
        · have := List.eq_of_mem_replicate hx; omega
    · have := List.eq_of_mem_replicate hx; omega
  simp only [Lit.wf, IntKind.min, IntKind.max, IntKind.signed, IntKind.bits, Bool.and_eq_true, decide_eq_true_eq]
  simp
  omega
theorem unpadL_in {xs : List Int} (h : xs.length = 33) (h0 : 1 ≤ rd xs 0) (h1 : rd xs 0 ≤ 32) (h3 : wordB (cutW xs) = true) : unpadL xs = if (strOfNums (padL (cutW xs))).toList = (strOfNums xs).toList then (cutW xs, true) else ((⟨#[]⟩ : ByteArray), false) := by
  unfold unpadL
  rw [if_pos ⟨h, h0, h1⟩, if_pos h3]
theorem unpadL_out {xs : List Int} (h3 : ¬ wordB (cutW xs) = true) : unpadL xs = ((⟨#[]⟩ : ByteArray), false) := by
  unfold unpadL
  by_cases h : xs.length = 33 ∧ 1 ≤ rd xs 0 ∧ rd xs 0 ≤ 32
  · rw [if_pos h, if_neg h3]
  · rw [if_neg h]

theorem impl_Unpad_f (xs : List Int) (hU : U8s xs) {k : Nat} (hk : 100 < k) : impl_Unpad.f k xs = some (unpadL xs) := by
  obtain ⟨k, rfl⟩ : ∃ q, k = q + 1 := ⟨k - 1, by omega⟩
  unfold impl_Unpad.f
  by_cases h : xs.length = 33
  · have hb : 0 ≤ rd xs 0 ∧ rd xs 0 ≤ 255 := hU 0 (by omega)
    rw [if_pos (by omega), if_pos (by omega), impl_Unpad.j0]
    by_cases h2 : rd xs 0 > 32
    · rw [if_pos (decide_eq_true h2)]
      unfold unpadL
      rw [if_neg (by omega)]
    · have hs := cutW_size h hb.1 (by omega)
      have e : (1 + rd xs 0) % 256 = 1 + rd xs 0 := by omega
      have hw : strOfNums ((xs.take ((1 + rd xs 0 : Int)).toNat).drop 1) = cutW xs := rfl
      rw [if_neg (by simpa using h2), if_pos (by omega), e, if_pos (by omega), if_pos (by omega), hw, impl_isWord_f _ (by omega) (by omega), Option.bind_some]
      by_cases h3 : wordB (cutW xs) = true
      · have hz := wordB_size h3
        rw [unpadL_in h (by omega) (by omega) h3, if_pos h3, impl_pad_f _ (by omega) (by omega), Option.bind_some, bytes_Equal.f, Option.bind_some]
        by_cases h4 : (strOfNums (padL (cutW xs))).toList = (strOfNums xs).toList
        · rw [if_pos (beq_iff_eq.mpr h4), if_pos h4]
        · rw [if_neg (by simpa using h4), if_neg h4]
      · rw [unpadL_out h3, if_neg h3]
  · rw [if_neg (by omega), impl_Unpad.j0, if_pos rfl]
    unfold unpadL
    rw [if_neg (by omega)]

/-- a reader of draws: how far it is, and its seed -/
def Cur (p s B : Int) : Prop := 0 ≤ p ∧ p ≤ B ∧ 0 ≤ s ∧ s < 65521
theorem Cur.le {p s B C : Int} (h : Cur p s B) (hB : B ≤ C) : Cur p s C := ⟨h.1, by have := h.2.1; omega, h.2.2⟩
theorem pick_f (L : List Int) (hL : U8s L) (n : Int) {p s B : Int} (h : Cur p s B) (hB : B ≤ 1000000000000) (hn : n ≤ 1000000000000) :
    ∃ r p' s', spec_l01Cur_pick.f L p s n = some (r, p', s') ∧ 0 ≤ r ∧ (r < n ∨ n < 2 ∧ r = 0) ∧ Cur p' s' (B + 1) := by
  obtain ⟨h0, h1, h2, h3⟩ := h
  unfold spec_l01Cur_pick.f
  by_cases c1 : n < 2
  · rw [if_pos c1]
    exact ⟨0, p, s, rfl, by omega, .inr ⟨c1, rfl⟩, h0, by omega, h2, h3⟩
  · rw [if_neg c1]
    have hw : wrap64 (wrap64 (s * 1103) + 12345) = s * 1103 + 12345 := by rw [w64 (n := s * 1103) (by omega) (by omega), w64 (by omega) (by omega)]
    have hs0 : 0 ≤ Int.tmod (s * 1103 + 12345) 65521 := Int.tmod_nonneg _ (by omega)
    have hs1 : Int.tmod (s * 1103 + 12345) 65521 < 65521 := Int.tmod_lt_of_pos _ (by decide)
    rw [hw, w64 (n := p + 1) (by omega) (by omega)]
    by_cases c2 : p < (L.length : Int)
    · have hb := hL p.toNat (by omega)
      rw [Int.toNat_of_nonneg h0] at hb
      rw [if_pos c2, if_pos h0, if_neg (by omega), w64 (by omega) (by omega)]
      refine ⟨_, _, _, rfl, Int.tmod_nonneg _ (by omega), .inl (Int.tmod_lt_of_pos _ (by omega)), ?_⟩
      exact ⟨by omega, by omega, h2, h3⟩
    · rw [if_neg c2]
      by_cases c3 : (L.length : Int) > 0
      · have hm0 : 0 ≤ Int.tmod p (L.length : Int) := Int.tmod_nonneg _ h0
        have hm1 : Int.tmod p (L.length : Int) < (L.length : Int) := Int.tmod_lt_of_pos _ c3
        have hb := hL (Int.tmod p (L.length : Int)).toNat (by omega)
        rw [Int.toNat_of_nonneg hm0] at hb
        have hq0 : 0 ≤ Int.tdiv (Int.tmod (s * 1103 + 12345) 65521) 7 := Int.tdiv_nonneg hs0 (by decide)
        have hq1 : Int.tdiv (Int.tmod (s * 1103 + 12345) 65521) 7 < 65521 := by
          rw [Int.tdiv_eq_ediv_of_nonneg hs0]; omega
        rw [if_pos c3, if_neg (by omega), if_pos hm0, if_pos hm1, if_neg (by omega)]
        rw [w64 (n := Int.tdiv (Int.tmod (s * 1103 + 12345) 65521) 7) (by omega) (by omega), w64 (n := rd L (Int.tmod p (L.length : Int))) (by omega) (by omega), w64 (by omega) (by omega)]
        refine ⟨_, _, _, rfl, Int.tmod_nonneg _ (by omega), .inl (Int.tmod_lt_of_pos _ (by omega)), ?_⟩
        exact ⟨by omega, by omega, hs0, hs1⟩
      · rw [if_neg c3, if_neg (by omega)]
        refine ⟨_, _, _, rfl, Int.emod_nonneg _ (by omega), .inl (Int.emod_lt_of_pos _ (by omega)), ?_⟩
        exact ⟨by omega, by omega, hs0, hs1⟩

theorem strOfNums_sz (xs : List Int) : (strOfNums xs).size = xs.length := strOfNums_size xs
theorem word_l0 (L : List Int) (hL : U8s L) (n : Int) (hn : n ≤ 32) (d : Nat) : ∀ (k : Nat) (xs : List Int) (p s B : Int), n - (xs.length : Int) ≤ (d : Int) → xs.length ≤ 32 → d < k → Cur p s B → B + 2 * d ≤ 1000000000000 →
    ∃ w p' s', spec_l01Cur_word.l0 k n xs L p s = some (w, p', s') ∧ w.size ≤ 32 ∧ Cur p' s' (B + 2 * d) := by
  induction d with
  | zero =>
    intro k xs p s B hd hl hk hc hB
    obtain ⟨k, rfl⟩ : ∃ q, k = q + 1 := ⟨k - 1, by omega⟩
    exact ⟨_, p, s, by rw [spec_l01Cur_word.l0, if_neg (by omega)], by rw [strOfNums_sz]; omega, hc.le (by omega)⟩
  | succ d ih =>
    intro k xs p s B hd hl hk hc hB
    obtain ⟨k, rfl⟩ : ∃ q, k = q + 1 := ⟨k - 1, by omega⟩
    by_cases h : (xs.length : Int) < n
    · obtain ⟨v, p1, s1, e1, v0, v1, c1⟩ := pick_f L hL 3 hc (by omega) (by decide)
      obtain ⟨v, rfl⟩ := Int.eq_ofNat_of_zero_le v0
      have hr : rd [2, 3, 26] (v : Int) ≤ 26 := by
        have : v = 0 ∨ v = 1 ∨ v = 2 := by omega
        rcases this with rfl | rfl | rfl <;> decide
      obtain ⟨u, p2, s2, e2, u0, u1, c2⟩ := pick_f L hL (rd [2, 3, 26] (v : Int)) c1 (by omega) (by omega)
      obtain ⟨w, p3, s3, e3, hw, c3⟩ := ih k (xs ++ [wrap64 (97 + u) % 256]) p2 s2 (B + 1 + 1) (by simp; omega) (by simp; omega) (by omega) c2 (by omega)
      refine ⟨w, p3, s3, ?_, hw, c3.le (by omega)⟩
      rw [spec_l01Cur_word.l0, if_pos h, Option.bind_some, e1, Option.bind_some]
      dsimp only
      rw [if_pos v0, if_pos (by simp; omega), e2, Option.bind_some]
      dsimp only
      rw [if_pos (by omega)]
      exact e3
    · exact ⟨_, p, s, by rw [spec_l01Cur_word.l0, if_neg h], by rw [strOfNums_sz]; omega, hc.le (by omega)⟩
theorem word_f (L : List Int) (hL : U8s L) {p s B : Int} (hc : Cur p s B) (hB : B ≤ 1000000000) {k : Nat} (hk : 40 < k) :
    ∃ w p' s', spec_l01Cur_word.f k L p s = some (w, p', s') ∧ w.size ≤ 32 ∧ Cur p' s' (B + 70) := by
  obtain ⟨v, p1, s1, e1, v0, v1, c1⟩ := pick_f L hL 4 hc (by omega) (by decide)
  obtain ⟨v, rfl⟩ := Int.eq_ofNat_of_zero_le v0
  have hr : rd [3, 5, 8, 32] (v : Int) ≤ 32 ∧ 2 ≤ rd [3, 5, 8, 32] (v : Int) := by
    have : v = 0 ∨ v = 1 ∨ v = 2 ∨ v = 3 := by omega
    rcases this with rfl | rfl | rfl | rfl <;> decide
  obtain ⟨u, p2, s2, e2, u0, u1, c2⟩ := pick_f L hL (rd [3, 5, 8, 32] (v : Int)) c1 (by omega) (by omega)
  obtain ⟨w, p3, s3, e3, hw, c3⟩ := word_l0 L hL (1 + u) (by omega) 32 k [] p2 s2 (B + 1 + 1) (by simp; omega) (by simp) (by omega) c2 (by omega)
  refine ⟨w, p3, s3, ?_, hw, c3.le (by omega)⟩
  unfold spec_l01Cur_word.f
  rw [Option.bind_some, e1, Option.bind_some]
  dsimp only
  rw [if_pos v0, if_pos (by simp; omega), e2, Option.bind_some]
  dsimp only
  rw [w64 (by omega) (by omega)]
  exact e3

theorem ex0 (s : ByteArray) (i : Nat) : (s.extract 0 i).size ≤ s.size := by rw [ByteArray.size_extract]; omega
theorem ex1 (s : ByteArray) (i : Nat) : (s.extract i s.size).size ≤ s.size := by rw [ByteArray.size_extract]; omega
theorem badWord_f (L : List Int) (hL : U8s L) {p s B : Int} (hc : Cur p s B) (hB : B ≤ 900000000) {k : Nat} (hk : 40 < k) :
    ∃ w p' s', spec_l01Cur_badWord.f k L p s = some (w, p', s') ∧ w.size ≤ 96 ∧ Cur p' s' (B + 73) := by
  obtain ⟨w, p1, s1, e1, hw, c1⟩ := word_f L hL hc (by omega) hk
  obtain ⟨v, p2, s2, e2, v0, v1, c2⟩ := pick_f L hL 9 c1 (by omega) (by decide)
  unfold spec_l01Cur_badWord.f
  rw [e1, Option.bind_some]
  dsimp only
  rw [e2, Option.bind_some]
  dsimp only
  by_cases h0 : v = 0
  · rw [if_pos h0, w64 (by omega) (by omega)]
    obtain ⟨u, p3, s3, e3, u0, u1, c3⟩ := pick_f L hL ((w.size : Int) + 1) c2 (by omega) (by omega)
    obtain ⟨x, p4, s4, e4, x0, x1, c4⟩ := pick_f L hL 6 c3 (by omega) (by decide)
    obtain ⟨x, rfl⟩ := Int.eq_ofNat_of_zero_le x0
    rw [e3, Option.bind_some]
    dsimp only
    rw [if_pos u0, if_pos (by omega), Option.bind_some, e4, Option.bind_some]
    dsimp only
    rw [if_pos x0, if_pos (by simp; omega)]
    have hr : (rdOf ByteArray.empty [(⟨#[]⟩ : ByteArray), (⟨#[65]⟩ : ByteArray), (⟨#[45]⟩ : ByteArray), (⟨#[0]⟩ : ByteArray), (⟨#[122, 122]⟩ : ByteArray), (⟨#[123]⟩ : ByteArray)] (x : Int)).size ≤ 2 := by
      have : x = 0 ∨ x = 1 ∨ x = 2 ∨ x = 3 ∨ x = 4 ∨ x = 5 := by omega
      rcases this with rfl | rfl | rfl | rfl | rfl | rfl <;> decide
    generalize rdOf ByteArray.empty [(⟨#[]⟩ : ByteArray), (⟨#[65]⟩ : ByteArray), (⟨#[45]⟩ : ByteArray), (⟨#[0]⟩ : ByteArray), (⟨#[122, 122]⟩ : ByteArray), (⟨#[123]⟩ : ByteArray)] (x : Int) = y at *
    have hx0 := ex0 w u.toNat
    have hx1 := ex1 w u.toNat
    rw [if_pos (by omega), if_pos (by rw [ByteArray.size_append]; omega)]
    exact ⟨_, _, _, rfl, by rw [ByteArray.size_append, ByteArray.size_append]; omega, c4.le (by omega)⟩
  · rw [if_neg h0]
    by_cases h1 : v = 1
    · rw [if_pos h1]
      exact ⟨_, _, _, rfl, by decide, c2.le (by omega)⟩
    · rw [if_neg h1]
      by_cases h2 : v = 2
      · rw [if_pos h2, if_pos (by omega)]
        obtain ⟨u, p3, s3, e3, u0, u1, c3⟩ := pick_f L hL 33 c2 (by omega) (by decide)
        rw [e3, Option.bind_some]
        dsimp only
        generalize hz : (⟨#[97, 97, 97, 97, 97, 97, 97, 97, 97, 97, 97, 97, 97, 97, 97, 97, 97, 97, 97, 97, 97, 97, 97, 97, 97, 97, 97, 97, 97, 97, 97, 97]⟩ : ByteArray) = z
        have hzs : z.size = 32 := by rw [← hz]; rfl
        have hx0 := ex0 z u.toNat
        rw [if_pos u0, if_pos (by omega), if_pos (by rw [ByteArray.size_append]; omega)]
        exact ⟨_, _, _, rfl, by rw [ByteArray.size_append, ByteArray.size_append]; omega, c3.le (by omega)⟩
      · rw [if_neg h2]
        exact ⟨_, _, _, rfl, by omega, c2.le (by omega)⟩

theorem spec_WordOk_l0 (s : ByteArray) (hs : s.size ≤ 140737488351232) (d : Nat) : ∀ (k i : Nat), i ≤ s.size → s.size - i = d → d < k →
    spec_WordOk.l0 k s (i : Int) = some (okB s i) := by
  induction d with
  | zero =>
    intro k i hi hd hk
    obtain ⟨k, rfl⟩ : ∃ q, k = q + 1 := ⟨k - 1, by omega⟩
    rw [spec_WordOk.l0, if_neg (by omega), okB_end (by omega)]
  | succ d ih =>
    intro k i hi hd hk
    obtain ⟨k, rfl⟩ : ∃ q, k = q + 1 := ⟨k - 1, by omega⟩
    have h := ih k (i + 1) (by omega) (by omega) (by omega)
    rw [spec_WordOk.l0, if_pos (by omega), if_pos (by omega)]
    by_cases h1 : bt s (i : Int) < 97
    · rw [if_pos h1, okB_bad (by omega) (.inl h1)]
    · rw [if_neg h1]
      by_cases h2 : bt s (i : Int) > 122
      · rw [if_pos h2, okB_bad (by omega) (.inr h2)]
      · rw [if_neg h2, w64 (by omega) (by omega), okB_step (by omega) (by omega)]
        exact h
theorem spec_WordOk_f (s : ByteArray) (hs : s.size ≤ 140737488351232) {k : Nat} (hk : s.size + 1 < k) : spec_WordOk.f k s = some (wordB s) := by
  obtain ⟨k, rfl⟩ : ∃ q, k = q + 1 := ⟨k - 1, by omega⟩
  unfold spec_WordOk.f wordB
  by_cases h : (s.size : Int) < 1
  · rw [if_pos h, spec_WordOk.j0, if_pos rfl, decide_eq_false (by omega)]; rfl
  · rw [if_neg h, spec_WordOk.j0]
    by_cases h2 : (s.size : Int) > 32
    · rw [if_pos (by simp only [decide_eq_true_eq]; exact h2), decide_eq_false (by omega)]; rfl
    · rw [if_neg (by simp only [decide_eq_true_eq]; exact h2), decide_eq_true (by omega), Bool.true_and]
      exact spec_WordOk_l0 s hs s.size k 0 (by omega) (by omega) (by omega)

theorem FnPadBack : laws_FnPadBack.Pure := by
  intro L _ hlen hL
  have hU := U8s.of hL
  obtain ⟨K, hK⟩ : ∃ K : Nat, 500 ≤ K := ⟨500, Nat.le_refl _⟩
  refine ⟨K, ?_⟩
  unfold laws_FnPadBack.f laws_big.f
  rw [Option.bind_some]
  by_cases hbig : (L.length : Int) > 1048576
  · rw [if_pos (decide_eq_true hbig)]
  · rw [if_neg (by simpa using hbig)]
    have hd : ∃ s : ByteArray, spec_DrawPad.f K L = some s ∧ s.size ≤ 96 := by
      unfold spec_DrawPad.f spec_l01Open.f
      rw [Option.bind_some]
      dsimp only
      have c0 : Cur 0 (59 + ((L.length : Int) % 1000)) 0 := ⟨by omega, by omega, by omega, by omega⟩
      obtain ⟨w, p1, s1, e1, hw, c1⟩ := badWord_f L hU c0 (by omega) (show 40 < K by omega)
      rw [e1, Option.bind_some]
      exact ⟨w, rfl, hw⟩
    obtain ⟨s, e, hs⟩ := hd
    have hl := padL_length s
    have hb : laws_bytesOf.f (padL s) = some (padL s) := by
      unfold laws_bytesOf.f
      rw [Option.bind_some, if_pos (by rw [hl]; decide), List.nil_append]
    unfold impl_Pad.f
    rw [e, Option.bind_some, impl_pad_f s (by omega) (by omega), Option.bind_some, Option.bind_some, hb, Option.bind_some, impl_Unpad_f _ (padL_u8 s) (by omega), Option.bind_some, if_pos (by omega), spec_WordOk_f s (by omega) (by omega), Option.bind_some]
    by_cases h : wordB s = true
    · rw [unpad_pad h, h]
      simp
    · rw [unpad_none h]
      have h' : wordB s = false := by simpa using h
      rw [h']
      dsimp only
      rw [if_pos (by decide)]
      by_cases h2 : (⟨#[]⟩ : ByteArray).toList = s.toList
      · rw [if_pos h2]
      · have hz : (⟨#[]⟩ : ByteArray).toList = [] := by unfold ByteArray.toList; rw [ByteArray.toList.loop]; rfl
        rw [if_neg h2, if_neg (by decide), hz]
        rfl

end Go.Proofs.Ytbibgmmoompoiaa.Pure
