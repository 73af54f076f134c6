/- The law FnExactMyersPadded holds of the program: whatever its arguments (of the kinds and sizes that the statement names), it answers true. -/
import Derived.Test.YtbibgmmoompoiaaQFnExactMyersPaddedx10
import Derived.Test.YtbibgmmoompoiaaLib
import Derived.Test.YtbibgmmoompoiaaLibTab
import Derived.Test.YtbibgmmoompoiaaLibLev
import Derived.Test.YtbibgmmoompoiaaLibBytes
import Derived.Test.YtbibgmmoompoiaaLibCol
import Derived.Test.YtbibgmmoompoiaaLibNext
import Derived.Test.YtbibgmmoompoiaaLibLane
set_option linter.unusedVariables false
set_option linter.unusedSimpArgs false
namespace Go.Proofs.Ytbibgmmoompoiaa.Pure
open Go.RowKit Go.Proofs.Ytbibgmmoompoiaa.PFnExactMyersPadded Go.Proofs.YtbibgmmoompoiaaW.PrintWords Go.Proofs.YtbibgmmoompoiaaW.PrintLast Go.Proofs.Ytbibgmmoompoiaa.L 

theorem within_f (a b c : Int) : impl_within.f a b c = some (decide (b ≤ a ∧ a ≤ c)) := by
  unfold impl_within.f
  by_cases h : a ≥ b
  · rw [if_pos h]; congr 1; rw [decide_eq_decide]; omega
  · rw [if_neg h]; congr 1; symm; rw [decide_eq_false_iff_not]; omega

theorem impl_isWord_l0 (s : ByteArray) (hs : s.size ≤ 140737488351232) (d : Nat) : ∀ (k i : Nat), i ≤ s.size → s.size - i = d → d < k →
    impl_isWord.l0 k s (s.size : Int) (i : Int) = some (okB s i && decide (1 ≤ s.size ∧ s.size ≤ 32)) := by
  induction d with
  | zero =>
    intro k i hi hd hk
    obtain ⟨k, rfl⟩ : ∃ q, k = q + 1 := ⟨k - 1, by omega⟩
    rw [impl_isWord.l0, if_neg (by omega), okB_end (by omega), within_f, Bool.true_and]
    simp only [Option.bind_some]
    congr 1
    rw [decide_eq_decide]; omega
  | succ d ih =>
    intro k i hi hd hk
    obtain ⟨k, rfl⟩ : ∃ q, k = q + 1 := ⟨k - 1, by omega⟩
    have h := ih k (i + 1) (by omega) (by omega) (by omega)
    rw [impl_isWord.l0, if_pos (by omega), if_pos (by omega), if_pos (by omega)]
    by_cases h1 : bt s (i : Int) < 97
    · rw [if_pos h1, okB_bad (by omega) (.inl h1)]; rfl
    · rw [if_neg h1]
      by_cases h2 : bt s (i : Int) > 122
      · rw [if_pos h2, okB_bad (by omega) (.inr h2)]; rfl
      · rw [if_neg h2, w64 (by omega) (by omega), okB_step (by omega) (by omega)]
        exact h
theorem impl_isWord_f (s : ByteArray) (hs : s.size ≤ 140737488351232) {k : Nat} (hk : s.size < k) : impl_isWord.f k s = some (wordB s) := by
  unfold impl_isWord.f wordB
  rw [Bool.and_comm]
  exact impl_isWord_l0 s hs s.size k 0 (by omega) (by omega) (by omega)

/-- the padded word -/
def padL (s : ByteArray) : List Int := if wordB s = true then (s.size : Int) :: (bytesOf s ++ List.replicate (32 - s.size) 0) else List.replicate 33 0
theorem wordB_size {s : ByteArray} (h : wordB s = true) : 1 ≤ s.size ∧ s.size ≤ 32 := by
  unfold wordB at h
  rw [Bool.and_eq_true, decide_eq_true_iff] at h
  exact h.1
theorem padL_length (s : ByteArray) : (padL s).length = 33 := by
  unfold padL
  by_cases h : wordB s = true
  · have := wordB_size h
    rw [if_pos h]
    simp [bytesOf_length]
    omega
  · rw [if_neg h]; simp
theorem impl_pad_f (s : ByteArray) (hs : s.size ≤ 140737488351232) {k : Nat} (hk : s.size < k) : impl_pad.f k s = some (padL s) := by
  unfold impl_pad.f padL
  rw [impl_isWord_f s hs hk, Option.bind_some]
  by_cases h : wordB s = true
  · have := wordB_size h
    rw [if_pos h, if_pos h, if_pos this.2]
  · rw [if_neg h, if_neg h]

theorem strOfNums_bytesOf (s : ByteArray) : strOfNums (bytesOf s) = s := by
  have h : (strOfNums (bytesOf s)).data = s.data := by
    apply Array.toList_inj.mp
    simp only [strOfNums, bytesOf, List.map_map]
    conv => rhs; rw [← List.map_id s.data.toList]
    apply List.map_congr_left
    intro b _
    simp
  exact congrArg ByteArray.mk h
/-- the bytes of a padded word that its first byte tells -/
def cutW (xs : List Int) : ByteArray := strOfNums ((xs.take (1 + rd xs 0).toNat).drop 1)
/-- what a padded word is read as -/
def unpadL (xs : List Int) : ByteArray × Bool := if xs.length = 33 ∧ 1 ≤ rd xs 0 ∧ rd xs 0 ≤ 32 then (if wordB (cutW xs) = true then (if (strOfNums (padL (cutW xs))).toList = (strOfNums xs).toList then (cutW xs, true) else ((⟨#[]⟩ : ByteArray), false)) else ((⟨#[]⟩ : ByteArray), false)) else ((⟨#[]⟩ : ByteArray), false)
theorem cutW_size {xs : List Int} (h : xs.length = 33) (h0 : 0 ≤ rd xs 0) (h1 : rd xs 0 ≤ 32) : ((cutW xs).size : Int) = rd xs 0 := by
  unfold cutW
  rw [strOfNums_size]
  simp only [List.length_drop, List.length_take]
  omega
theorem unpadL_size (xs : List Int) : (unpadL xs).1.size ≤ 32 := by
  unfold unpadL
  split
  · rename_i h
    have := cutW_size h.1 (by omega) h.2.2
    split
    · split
      · show (cutW xs).size ≤ 32; omega
      · exact Nat.zero_le _
    · exact Nat.zero_le _
  · exact Nat.zero_le _
theorem cutW_pad {s : ByteArray} (h : wordB s = true) : cutW (padL s) = s := by
  have hs := wordB_size h
  unfold cutW padL
  rw [if_pos h]
  rw [show rd ((s.size : Int) :: (bytesOf s ++ List.replicate (32 - s.size) 0)) 0 = (s.size : Int) from rfl, show (1 + (s.size : Int)).toNat = s.size + 1 from by omega, List.take_succ_cons, List.drop_succ_cons, List.drop_zero, List.take_append_of_le_length (by rw [bytesOf_length]; exact Nat.le_refl _), List.take_of_length_le (by rw [bytesOf_length]; exact Nat.le_refl _), strOfNums_bytesOf]
theorem unpad_pad {s : ByteArray} (h : wordB s = true) : unpadL (padL s) = (s, true) := by
  have hs := wordB_size h
  have hr : rd (padL s) 0 = (s.size : Int) := by unfold padL; rw [if_pos h]; rfl
  unfold unpadL
  rw [if_pos ⟨padL_length s, by omega, by omega⟩, cutW_pad h, if_pos h, if_pos rfl]
theorem unpad_none {s : ByteArray} (h : ¬ wordB s = true) : unpadL (padL s) = ((⟨#[]⟩ : ByteArray), false) := by
  have hr : rd (padL s) 0 = 0 := by unfold padL; rw [if_neg h]; rfl
  unfold unpadL
  rw [if_neg (by omega)]
theorem padL_u8 (s : ByteArray) : U8s (padL s) := by
  apply U8s.of
  intro x hx
  have hb : 0 ≤ x ∧ x ≤ 255 := by
    unfold padL at hx
    split at hx
    · rename_i h
      have hs := wordB_size h
      rcases List.mem_cons.mp hx with rfl | hx
      · omega
      · rcases List.mem_append.mp hx with hx | hx
        · unfold bytesOf at hx
          obtain ⟨b, _, rfl⟩ := List.mem_map.mp hx
          have := UInt8.toNat_lt b
          omega
        · have := List.eq_of_mem_replicate hx; omega
    · have := List.eq_of_mem_replicate hx; omega
  simp only [Lit.wf, IntKind.min, IntKind.max, IntKind.signed, IntKind.bits, Bool.and_eq_true, decide_eq_true_eq]
  simp
  omega
theorem unpadL_in {xs : List Int} (h : xs.length = 33) (h0 : 1 ≤ rd xs 0) (h1 : rd xs 0 ≤ 32) (h3 : wordB (cutW xs) = true) : unpadL xs = if (strOfNums (padL (cutW xs))).toList = (strOfNums xs).toList then (cutW xs, true) else ((⟨#[]⟩ : ByteArray), false) := by
  unfold unpadL
  rw [if_pos ⟨h, h0, h1⟩, if_pos h3]
theorem unpadL_out {xs : List Int} (h3 : ¬ wordB (cutW xs) = true) : unpadL xs = ((⟨#[]⟩ : ByteArray), false) := by
  unfold unpadL
  by_cases h : xs.length = 33 ∧ 1 ≤ rd xs 0 ∧ rd xs 0 ≤ 32
  · rw [if_pos h, if_neg h3]
  · rw [if_neg h]

theorem impl_Unpad_f (xs : List Int) (hU : U8s xs) {k : Nat} (hk : 100 < k) : impl_Unpad.f k xs = some (unpadL xs) := by
  obtain ⟨k, rfl⟩ : ∃ q, k = q + 1 := ⟨k - 1, by omega⟩
  unfold impl_Unpad.f
  by_cases h : xs.length = 33
  · have hb : 0 ≤ rd xs 0 ∧ rd xs 0 ≤ 255 := hU 0 (by omega)
    rw [if_pos (by omega), if_pos (by omega), impl_Unpad.j0]
    by_cases h2 : rd xs 0 > 32
    · rw [if_pos (decide_eq_true h2)]
      unfold unpadL
      rw [if_neg (by omega)]
    · have hs := cutW_size h hb.1 (by omega)
      have e : (1 + rd xs 0) % 256 = 1 + rd xs 0 := by omega
      have hw : strOfNums ((xs.take ((1 + rd xs 0 : Int)).toNat).drop 1) = cutW xs := rfl
      rw [if_neg (by simpa using h2), if_pos (by omega), e, if_pos (by omega), if_pos (by omega), hw, impl_isWord_f _ (by omega) (by omega), Option.bind_some]
      by_cases h3 : wordB (cutW xs) = true
      · have hz := wordB_size h3
        rw [unpadL_in h (by omega) (by omega) h3, if_pos h3, impl_pad_f _ (by omega) (by omega), Option.bind_some, bytes_Equal.f, Option.bind_some]
        by_cases h4 : (strOfNums (padL (cutW xs))).toList = (strOfNums xs).toList
        · rw [if_pos (beq_iff_eq.mpr h4), if_pos h4]
        · rw [if_neg (by simpa using h4), if_neg h4]
      · rw [unpadL_out h3, if_neg h3]
  · rw [if_neg (by omega), impl_Unpad.j0, if_pos rfl]
    unfold unpadL
    rw [if_neg (by omega)]

theorem spec_WordOk_l0 (s : ByteArray) (hs : s.size ≤ 140737488351232) (d : Nat) : ∀ (k i : Nat), i ≤ s.size → s.size - i = d → d < k →
    spec_WordOk.l0 k s (i : Int) = some (okB s i) := by
  induction d with
  | zero =>
    intro k i hi hd hk
    obtain ⟨k, rfl⟩ : ∃ q, k = q + 1 := ⟨k - 1, by omega⟩
    rw [spec_WordOk.l0, if_neg (by omega), okB_end (by omega)]
  | succ d ih =>
    intro k i hi hd hk
    obtain ⟨k, rfl⟩ : ∃ q, k = q + 1 := ⟨k - 1, by omega⟩
    have h := ih k (i + 1) (by omega) (by omega) (by omega)
    rw [spec_WordOk.l0, if_pos (by omega), if_pos (by omega)]
    by_cases h1 : bt s (i : Int) < 97
    · rw [if_pos h1, okB_bad (by omega) (.inl h1)]
    · rw [if_neg h1]
      by_cases h2 : bt s (i : Int) > 122
      · rw [if_pos h2, okB_bad (by omega) (.inr h2)]
      · rw [if_neg h2, w64 (by omega) (by omega), okB_step (by omega) (by omega)]
        exact h
theorem spec_WordOk_f (s : ByteArray) (hs : s.size ≤ 140737488351232) {k : Nat} (hk : s.size + 1 < k) : spec_WordOk.f k s = some (wordB s) := by
  obtain ⟨k, rfl⟩ : ∃ q, k = q + 1 := ⟨k - 1, by omega⟩
  unfold spec_WordOk.f wordB
  by_cases h : (s.size : Int) < 1
  · rw [if_pos h, spec_WordOk.j0, if_pos rfl, decide_eq_false (by omega)]; rfl
  · rw [if_neg h, spec_WordOk.j0]
    by_cases h2 : (s.size : Int) > 32
    · rw [if_pos (by simp only [decide_eq_true_eq]; exact h2), decide_eq_false (by omega)]; rfl
    · rw [if_neg (by simp only [decide_eq_true_eq]; exact h2), decide_eq_true (by omega), Bool.true_and]
      exact spec_WordOk_l0 s hs s.size k 0 (by omega) (by omega) (by omega)

theorem bytesOf_getD (s : ByteArray) (i : Nat) : (bytesOf s).getD i 0 = bt s (i : Int) := by
  have := rd_bytesOf s (i : Int)
  unfold rd at this
  rw [Int.toNat_natCast] at this
  exact this
theorem spec_Pad_l0 (s : ByteArray) (hs : s.size ≤ 32) (d : Nat) : ∀ (k i : Nat) (ys : List Int), i + d = s.size → d < k → ys = (s.size : Int) :: ((bytesOf s).take i ++ List.replicate (32 - i) 0) →
    spec_Pad.l0 k s ys (i : Int) = some ((s.size : Int) :: (bytesOf s ++ List.replicate (32 - s.size) 0)) := by
  induction d with
  | zero =>
    intro k i ys hi hk hy
    obtain ⟨k, rfl⟩ : ∃ q, k = q + 1 := ⟨k - 1, by omega⟩
    obtain rfl : i = s.size := by omega
    rw [spec_Pad.l0, if_neg (by omega), hy, List.take_of_length_le (by rw [bytesOf_length]; omega)]
  | succ d ih =>
    intro k i ys hi hk hy
    obtain ⟨k, rfl⟩ : ∃ q, k = q + 1 := ⟨k - 1, by omega⟩
    have hl : ys.length = 33 := by rw [hy]; simp [bytesOf_length]; omega
    rw [spec_Pad.l0, if_pos (by omega), if_pos (by omega), w64 (by omega) (by omega), if_pos (by omega), if_pos (by omega)]
    refine ih k (i + 1) _ (by omega) (by omega) ?_
    rw [show ((i : Int) + 1).toNat = i + 1 from by omega, hy, List.set_cons_succ, List.set_append_right _ _ (by rw [List.length_take, bytesOf_length]; omega), List.length_take, bytesOf_length, show i - min i s.size = 0 from by omega, show 32 - i = (32 - (i + 1)) + 1 from by omega, List.replicate_succ, List.set_cons_zero, List.take_succ_eq_append_getElem (by rw [bytesOf_length]; omega), bytesOf_get s i (by omega)]
    simp
theorem spec_Pad_f (s : ByteArray) (hs : s.size ≤ 140737488351232) {k : Nat} (hk : s.size + 1 < k) : spec_Pad.f k s = some (padL s) := by
  unfold spec_Pad.f padL
  rw [if_pos (by decide), Option.bind_some, spec_WordOk_f s hs hk, Option.bind_some]
  by_cases h : wordB s = true
  · have := wordB_size h
    rw [if_pos h, if_pos h, if_pos (by decide)]
    refine spec_Pad_l0 s this.2 s.size k 0 _ (by omega) (by omega) ?_
    rw [List.replicate_succ, show Int.toNat 0 = 0 from rfl, List.set_cons_zero, show (s.size : Int) % 256 = (s.size : Int) from by omega]
    simp
  · rw [if_neg h, if_neg h]

theorem spec_Unpad_f (xs : List Int) (hU : U8s xs) {k : Nat} (hk : 100 < k) : spec_Unpad.f k xs = some (unpadL xs) := by
  obtain ⟨k, rfl⟩ : ∃ q, k = q + 1 := ⟨k - 1, by omega⟩
  unfold spec_Unpad.f
  by_cases h : xs.length = 33
  · have hb : 0 ≤ rd xs 0 ∧ rd xs 0 ≤ 255 := hU 0 (by omega)
    rw [if_pos (by omega), if_pos (by omega)]
    by_cases h1 : rd xs 0 < 1
    · rw [if_pos h1, spec_Unpad.j0, if_pos rfl]
      unfold unpadL
      rw [if_neg (by omega)]
    · rw [if_neg h1, spec_Unpad.j0]
      by_cases h2 : rd xs 0 > 32
      · rw [if_pos (decide_eq_true h2)]
        unfold unpadL
        rw [if_neg (by omega)]
      · have hs := cutW_size h hb.1 (by omega)
        have e : wrap64 (1 + wrap64 (rd xs 0)) = 1 + rd xs 0 := by rw [w64 (n := rd xs 0) (by omega) (by omega), w64 (by omega) (by omega)]
        have hw : strOfNums ((xs.take ((1 + rd xs 0 : Int)).toNat).drop 1) = cutW xs := rfl
        rw [if_neg (by simpa using h2), if_pos (by omega), e, if_pos (by omega), if_pos (by omega), hw, spec_WordOk_f _ (by omega) (by omega), Option.bind_some]
        by_cases h3 : wordB (cutW xs) = true
        · have hz := wordB_size h3
          rw [unpadL_in h (by omega) (by omega) h3, if_pos h3, spec_Pad_f _ (by omega) (by omega), Option.bind_some]
          by_cases h4 : (strOfNums (padL (cutW xs))).toList = (strOfNums xs).toList
          · rw [if_pos h4, if_pos h4]
          · rw [if_neg h4, if_neg h4]
        · rw [unpadL_out h3, if_neg h3]
  · rw [if_neg (by omega), spec_Unpad.j0, if_pos rfl]
    unfold unpadL
    rw [if_neg (by omega)]

theorem toByteS_l0 (xs : List Int) (hx : xs.length ≤ 140737488351232) (d : Nat) : ∀ (k i : Nat) (ys : List Int), ys.length = xs.length → i ≤ xs.length → xs.length - i = d → d < k → ys.take i = xs.take i →
    laws_toByteS.l0 k xs ys (i : Int) = some xs := by
  induction d with
  | zero =>
    intro k i ys hl hi hd hk ht
    obtain ⟨k, rfl⟩ : ∃ q, k = q + 1 := ⟨k - 1, by omega⟩
    rw [laws_toByteS.l0, if_neg (by omega)]
    rw [List.take_of_length_le (by omega), List.take_of_length_le (by omega)] at ht
    rw [ht]
  | succ d ih =>
    intro k i ys hl hi hd hk ht
    obtain ⟨k, rfl⟩ : ∃ q, k = q + 1 := ⟨k - 1, by omega⟩
    have h := ih k (i + 1) (ys.set i (rd xs (i : Int))) (by simp [hl]) (by omega) (by omega) (by omega) (set_copy xs ys i (by omega) hl ht)
    rw [laws_toByteS.l0, if_pos (by omega), if_pos (by omega), if_pos (by omega), w64 (by omega) (by omega), Int.toNat_natCast]
    exact h
theorem toByteS_f (xs : List Int) (hx : xs.length ≤ 140737488351232) {k : Nat} (hk : xs.length < k) : laws_toByteS.f k xs = some xs := by
  unfold laws_toByteS.f
  rw [if_pos (Int.natCast_nonneg _), if_pos (by omega)]
  exact toByteS_l0 xs hx xs.length k 0 _ (by simp) (by omega) (by omega) hk (by simp)

theorem eqByteS_l0 (xs ys : List Int) (hl : ys.length = xs.length) (hx : xs.length ≤ 140737488351232) (d : Nat) : ∀ (k i : Nat), i ≤ xs.length → xs.length - i = d → d < k →
    laws_eqByteS.l0 k xs ys (i : Int) = some (decide (xs.drop i = ys.drop i)) := by
  induction d with
  | zero =>
    intro k i hi hd hk
    obtain ⟨k, rfl⟩ : ∃ q, k = q + 1 := ⟨k - 1, by omega⟩
    rw [laws_eqByteS.l0, if_neg (by omega), List.drop_of_length_le (by omega), List.drop_of_length_le (by omega)]
    rfl
  | succ d ih =>
    intro k i hi hd hk
    obtain ⟨k, rfl⟩ : ∃ q, k = q + 1 := ⟨k - 1, by omega⟩
    have h := ih k (i + 1) (by omega) (by omega) (by omega)
    rw [laws_eqByteS.l0, if_pos (by omega), if_pos (by omega), if_pos (by omega), w64 (by omega) (by omega)]
    rw [rd_lt (show i < xs.length by omega), rd_lt (show i < ys.length by omega)]
    rw [List.drop_eq_getElem_cons (show i < xs.length by omega), List.drop_eq_getElem_cons (show i < ys.length by omega)]
    by_cases e : xs[i]'(by omega) = ys[i]'(by omega)
    · rw [if_pos e]
      rw [show ((i : Int) + 1) = ((i + 1 : Nat) : Int) from rfl, h]
      congr 1
      rw [decide_eq_decide, e]
      exact ⟨fun h2 => by rw [h2], fun h2 => (List.cons.inj h2).2⟩
    · rw [if_neg e]
      congr 1
      symm
      rw [decide_eq_false_iff_not]
      intro h2
      exact e (List.cons.inj h2).1
theorem eqByteS_f (xs ys : List Int) (hx : xs.length ≤ 140737488351232) {k : Nat} (hk : xs.length < k) : laws_eqByteS.f k xs ys = some (decide (xs = ys)) := by
  unfold laws_eqByteS.f
  by_cases h : xs.length = ys.length
  · rw [if_pos (by omega)]
    have := eqByteS_l0 xs ys h.symm hx xs.length k 0 (by omega) (by omega) hk
    simpa using this
  · rw [if_neg (by omega)]
    congr 1
    symm
    rw [decide_eq_false_iff_not]
    intro e
    exact h (by rw [e])

theorem l03Bit_f {a : Nat} (ha : a < 2 ^ 64) {i : Nat} (hi : i < 64) : spec_l03Bit.f (a : Int) (i : Int) = some (a.testBit i) := by
  unfold spec_l03Bit.f
  rw [u64_id (Int.natCast_nonneg _) (by omega), if_pos (Int.natCast_nonneg _), bit_eq ha (by omega)]

theorem l06Column_l0 {pv mv : Nat} (hp : pv < 2 ^ 64) (hm : mv < 2 ^ 64) {sc : Int} (hs : 0 ≤ sc ∧ sc ≤ 64) {n : Nat} (hn : n ≤ 32) (e : Nat) : ∀ (k d : Nat), d + e = n → e < k →
    spec_l06Column.l0 k (colL pv mv sc n d) ((e : Int) - 1) (pv : Int) (mv : Int) sc (n : Int) = some (colL pv mv sc n n) := by
  induction e with
  | zero =>
    intro k d hd hk
    obtain ⟨k, rfl⟩ : ∃ q, k = q + 1 := ⟨k - 1, by omega⟩
    obtain rfl : d = n := by omega
    rw [spec_l06Column.l0, if_neg (by omega)]
  | succ e ih =>
    intro k d hd hk
    obtain ⟨k, rfl⟩ : ∃ q, k = q + 1 := ⟨k - 1, by omega⟩
    have h := ih k (d + 1) (by omega) (by omega)
    have hb := colD_near pv mv sc n d
    have hlen := colL_length pv mv sc n d
    have hh := rd_colL_head pv mv sc n d
    rw [colL, colD, show n - (d + 1) = e from by omega] at h
    rw [show (((e + 1 : Nat) : Int) - 1) = (e : Int) from by omega, spec_l06Column.l0, if_pos (by omega), if_pos (by omega)]
    simp only [l03Bit_f hp (show e < 64 by omega), l03Bit_f hm (show e < 64 by omega), Option.bind_some, hh]
    rw [w64 (n := colD pv mv sc n d - 1) (by omega) (by omega), w64 (n := colD pv mv sc n d + 1) (by omega) (by omega), w64 (n := colD pv mv sc n d - 1 + 1) (by omega) (by omega), w64 (n := (e : Int) - 1) (by omega) (by omega)]
    simp only [List.length_cons, List.length_nil, hlen, List.cons_append, List.nil_append]
    cases hpb : pv.testBit e <;> cases hmb : mv.testBit e <;> simp only [hpb, hmb, if_true, if_false, Bool.false_eq_true] at h ⊢ <;>
      (rw [if_pos (by omega), ← h]; first | rfl | (congr 2; simp; done) | (congr 2; done) | simp)
theorem l06Column_f {pv mv : Nat} (hp : pv < 2 ^ 64) (hm : mv < 2 ^ 64) {sc : Int} (hs : 0 ≤ sc ∧ sc ≤ 64) {n : Nat} (hn : n ≤ 32) {k : Nat} (hk : 40 < k) :
    spec_l06Column.f k (pv : Int) (mv : Int) sc (n : Int) = some (colL pv mv sc n n) := by
  unfold spec_l06Column.f
  rw [w64 (by omega) (by omega)]
  exact l06Column_l0 hp hm hs hn n k 0 (by omega) (by omega)
/-- a value of the column is within its bounds -/
def inB (pv mv : Nat) (sc : Int) (n j : Nat) : Bool := decide (0 ≤ colD pv mv sc n (n - j) ∧ colD pv mv sc n (n - j) ≤ 64)
theorem inB_all (pv mv : Nat) (sc : Int) (n : Nat) : fromB (inB pv mv sc n) 0 (n + 1) = colB pv mv sc n n := by
  rw [Bool.eq_iff_iff, fromB_iff]
  unfold colB inB
  rw [decide_eq_true_iff]
  constructor
  · intro h e he
    have := h (n - e) (by omega) (by omega)
    rw [show n - (n - e) = e from by omega] at this
    exact of_decide_eq_true this
  · intro h j hj _
    exact decide_eq_true (h (n - j) (by omega))
theorem spec_BitsOk_l1 (pv mv : Nat) (sc : Int) {n : Nat} (hn : n ≤ 32) (d : Nat) : ∀ (k i : Nat), i + d = n + 1 → d < k →
    spec_BitsOk.l1 k (colL pv mv sc n n) (i : Int) = some (fromB (inB pv mv sc n) i (n + 1)) := by
  induction d with
  | zero =>
    intro k i hi hk
    obtain ⟨k, rfl⟩ : ∃ q, k = q + 1 := ⟨k - 1, by omega⟩
    obtain rfl : i = n + 1 := by omega
    have hlen := colL_length pv mv sc n n
    rw [spec_BitsOk.l1, if_neg (by omega), fromB_end]
  | succ d ih =>
    intro k i hi hk
    obtain ⟨k, rfl⟩ : ∃ q, k = q + 1 := ⟨k - 1, by omega⟩
    have hlen := colL_length pv mv sc n n
    have h := ih k (i + 1) (by omega) (by omega)
    rw [spec_BitsOk.l1, if_pos (by omega), if_pos (by omega), rd_colL pv mv sc n n i (by omega), w64 (by omega) (by omega)]
    by_cases c1 : colD pv mv sc n (n - i) < 0
    · rw [if_pos c1, fromB_bad (by omega) (decide_eq_false (by omega))]
    · rw [if_neg c1]
      by_cases c2 : colD pv mv sc n (n - i) > 64
      · rw [if_pos c2, fromB_bad (by omega) (decide_eq_false (by omega))]
      · rw [if_neg c2, show (i : Int) + 1 = ((i + 1 : Nat) : Int) from rfl, h, fromB_good (i := i) (decide_eq_true (by omega))]
theorem spec_BitsOk_l0 {pv mv : Nat} (hp : pv < 2 ^ 64) (hm : mv < 2 ^ 64) {sc : Int} (hs : 0 ≤ sc ∧ sc ≤ 64) {n : Nat} (hn : n ≤ 32) (d : Nat) : ∀ (k i : Nat), i + d = 64 → d + 80 < k →
    spec_BitsOk.l0 k (i : Int) (pv : Int) (mv : Int) sc (n : Int) =
      some (fromB (stepOk pv mv n) i 64 && colB pv mv sc n n) := by
  induction d with
  | zero =>
    intro k i hi hk
    obtain ⟨k, rfl⟩ : ∃ q, k = q + 1 := ⟨k - 1, by omega⟩
    obtain rfl : i = 64 := by omega
    rw [spec_BitsOk.l0, if_neg (by omega), l06Column_f hp hm hs hn (by omega), Option.bind_some]
    have := spec_BitsOk_l1 pv mv sc hn (n + 1) k 0 (by omega) (by omega)
    rw [show ((0 : Nat) : Int) = 0 from rfl] at this
    rw [this, fromB_end, Bool.true_and, inB_all]
  | succ d ih =>
    intro k i hi hk
    obtain ⟨k, rfl⟩ : ∃ q, k = q + 1 := ⟨k - 1, by omega⟩
    have h := ih k (i + 1) (by omega) (by omega)
    rw [spec_BitsOk.l0, if_pos (by omega), w64 (by omega) (by omega), show (i : Int) + 1 = ((i + 1 : Nat) : Int) from rfl, h]
    simp only [l03Bit_f hp (show i < 64 by omega), l03Bit_f hm (show i < 64 by omega), Option.bind_some]
    have good : stepOk pv mv n i = true → fromB (stepOk pv mv n) i 64 = fromB (stepOk pv mv n) (i + 1) 64 := fromB_good
    have bad : stepOk pv mv n i = false → fromB (stepOk pv mv n) i 64 = false := fromB_bad (by omega)
    have sd : stepOk pv mv n i = (!(pv.testBit i && mv.testBit i) && (decide (i < n) || (!pv.testBit i && !mv.testBit i))) := rfl
    rw [sd] at good bad
    by_cases c : n ≤ i
    · have c' : (i : Int) ≥ (n : Int) := by omega
      simp only [c', if_true]
      rw [decide_eq_false (show ¬ i < n by omega)] at good bad
      cases hpb : pv.testBit i <;> cases hmb : mv.testBit i <;> rw [hpb, hmb] at good bad <;> simp only [if_true, if_false, Bool.false_eq_true]
      · rw [good rfl]
      · rw [bad rfl]; rfl
      · rw [bad rfl]; rfl
      · rw [bad rfl]; rfl
    · have c' : ¬ (i : Int) ≥ (n : Int) := by omega
      simp only [c', if_false]
      rw [decide_eq_true (show i < n by omega)] at good bad
      cases hpb : pv.testBit i <;> cases hmb : mv.testBit i <;> rw [hpb, hmb] at good bad <;> simp only [if_true, if_false, Bool.false_eq_true]
      · rw [good rfl]
      · rw [good rfl]
      · rw [good rfl]
      · rw [bad rfl]; rfl
theorem spec_BitsOk_f {pv mv : Nat} (hp : pv < 2 ^ 64) (hm : mv < 2 ^ 64) (sc ln : Int) {k : Nat} (hk : 200 < k) : spec_BitsOk.f k (pv : Int) (mv : Int) sc ln = some (bitsOkB pv mv sc ln) := by
  obtain ⟨k, rfl⟩ : ∃ q, k = q + 1 := ⟨k - 1, by omega⟩
  have no : spec_BitsOk.j0 (k + 1) true (pv : Int) (mv : Int) sc ln = some false := by rw [spec_BitsOk.j0, if_pos rfl]
  unfold spec_BitsOk.f bitsOkB
  by_cases h1 : ln < 0
  · rw [if_pos h1, no, decide_eq_false (by omega)]; rfl
  · rw [if_neg h1]
    by_cases h2 : ln > 32
    · rw [if_pos h2, no, decide_eq_false (by omega)]; rfl
    · rw [if_neg h2]
      by_cases h3 : sc < 0
      · rw [if_pos h3, no, decide_eq_false (by omega)]; rfl
      · rw [if_neg h3, spec_BitsOk.j0]
        by_cases h4 : sc > 64
        · rw [if_pos (decide_eq_true h4), decide_eq_false (by omega)]; rfl
        · obtain ⟨n, rfl⟩ := Int.eq_ofNat_of_zero_le (show 0 ≤ ln by omega)
          rw [if_neg (by simpa using h4), decide_eq_true (by omega), Int.toNat_natCast, Bool.true_and]
          have := spec_BitsOk_l0 hp hm (sc := sc) (by omega) (n := n) (by omega) 64 k 0 rfl (by omega)
          rw [show ((0 : Nat) : Int) = 0 from rfl] at this
          rw [this]
          rfl

theorem spec_BitsColumn_f {pv mv : Nat} (hp : pv < 2 ^ 64) (hm : mv < 2 ^ 64) (sc ln : Int) {k : Nat} (hk : 200 < k) :
    spec_BitsColumn.f k (pv : Int) (mv : Int) sc ln = some (if bitsOkB pv mv sc ln = true then colL pv mv sc ln.toNat ln.toNat else []) := by
  unfold spec_BitsColumn.f
  rw [spec_BitsOk_f hp hm sc ln hk, Option.bind_some]
  cases h : bitsOkB pv mv sc ln
  · simp only [Bool.false_eq_true, if_false]
  · obtain ⟨n, rfl, hn, h1, h2, _⟩ := okB_parts h
    rw [if_pos rfl, if_pos rfl, l06Column_f hp hm ⟨h1, h2⟩ hn (by omega), Option.bind_some, Int.toNat_natCast]

theorem l06Power_l0 (n : Nat) : ∀ (k i : Nat), i + n ≤ 63 → n < k → spec_l06Power.l0 k (n : Int) ((2 ^ i : Nat) : Int) = some ((2 ^ (i + n) : Nat) : Int) := by
  induction n with
  | zero =>
    intro k i hi hk
    obtain ⟨k, rfl⟩ : ∃ q, k = q + 1 := ⟨k - 1, by omega⟩
    rw [spec_l06Power.l0, if_neg (by omega)]
    rfl
  | succ n ih =>
    intro k i hi hk
    obtain ⟨k, rfl⟩ : ∃ q, k = q + 1 := ⟨k - 1, by omega⟩
    have hp : 2 ^ (i + 1) ≤ 2 ^ 63 := Nat.pow_le_pow_right (by decide) (by omega)
    have hd := ih k (i + 1) (by omega) (by omega)
    rw [spec_l06Power.l0, if_pos (by omega), w64 (by omega) (by omega), u64_id (by rw [Nat.pow_succ] at hp; omega) (by rw [Nat.pow_succ] at hp; omega)]
    rw [show i + (n + 1) = i + 1 + n from by omega, ← hd, Nat.pow_succ]
    congr 1 <;> omega
theorem l06Power_f {n k : Nat} (hn : n ≤ 63) (hk : n < k) : spec_l06Power.f k (n : Int) = some ((2 ^ n : Nat) : Int) := by
  unfold spec_l06Power.f
  have := l06Power_l0 n k 0 (by omega) hk
  rw [Nat.zero_add] at this
  exact this

theorem l06Of_l0 (xs : List Int) (n : Nat) (hl : xs.length = n + 1) (hn : n ≤ 63) (hb : ∀ i : Nat, i ≤ n → -1000000 ≤ rd xs (i : Int) ∧ rd xs (i : Int) ≤ 1000000) (sc ln : Int) (d : Nat) : ∀ k i, i + d = n → d + 70 < k →
    spec_l06Of.l0 k xs (i : Int) ((sumN (upAt xs) i : Nat) : Int) ((sumN (dnAt xs) i : Nat) : Int) sc ln = some (((sumN (upAt xs) n : Nat) : Int), ((sumN (dnAt xs) n : Nat) : Int), sc, ln) := by
  induction d with
  | zero =>
    intro k i hi hk
    obtain ⟨k, rfl⟩ : ∃ q, k = q + 1 := ⟨k - 1, by omega⟩
    obtain rfl : i = n := by omega
    rw [spec_l06Of.l0, w64 (by omega) (by omega), if_neg (by omega)]
  | succ d ih =>
    intro k i hi hk
    obtain ⟨k, rfl⟩ : ∃ q, k = q + 1 := ⟨k - 1, by omega⟩
    have h := ih k (i + 1) (by omega) (by omega)
    have h1 := hb i (by omega)
    have h2 := hb (i + 1) (by omega)
    have u1 := sumN_lt (upAt xs) i
    have u2 := sumN_lt (dnAt xs) i
    have hp : 2 ^ i ≤ 2 ^ 62 := Nat.pow_le_pow_right (by decide) (by omega)
    rw [show ((i + 1 : Nat) : Int) = (i : Int) + 1 from rfl] at h2
    rw [spec_l06Of.l0, w64 (n := (i : Int) + 1) (by omega) (by omega), if_pos (by omega), if_pos (by omega), if_pos (by omega), if_pos (by omega), w64 (n := rd xs (i : Int) + 1) (by omega) (by omega), w64 (n := rd xs (i : Int) - 1) (by omega) (by omega)]
    simp only [l06Power_f (show i ≤ 63 by omega) (show i < k by omega), Option.bind_some]
    rw [sumN, sumN] at h
    by_cases c1 : rd xs ((i : Int) + 1) = rd xs (i : Int) + 1
    · have e1 : upAt xs i = true := decide_eq_true c1
      have e2 : dnAt xs i = false := decide_eq_false (by omega)
      rw [e1, e2] at h
      rw [if_pos c1, if_neg (by omega), u64_id (by omega) (by omega)]
      simpa using h
    · rw [if_neg c1]
      have e1 : upAt xs i = false := decide_eq_false c1
      by_cases c2 : rd xs ((i : Int) + 1) = rd xs (i : Int) - 1
      · have e2 : dnAt xs i = true := decide_eq_true c2
        rw [e1, e2] at h
        rw [if_pos c2, u64_id (by omega) (by omega)]
        simpa using h
      · have e2 : dnAt xs i = false := decide_eq_false c2
        rw [e1, e2] at h
        rw [if_neg c2]
        simpa using h
theorem l06Of_f (xs : List Int) (n : Nat) (hl : xs.length = n + 1) (hn : n ≤ 63) (hb : ∀ i : Nat, i ≤ n → -1000000 ≤ rd xs (i : Int) ∧ rd xs (i : Int) ≤ 1000000) {k : Nat} (hk : 140 < k) :
    spec_l06Of.f k xs = some (((sumN (upAt xs) n : Nat) : Int), ((sumN (dnAt xs) n : Nat) : Int), rd xs (n : Int), (n : Int)) := by
  unfold spec_l06Of.f
  have e : wrap64 ((xs.length : Int) - 1) = (n : Int) := by rw [w64 (by omega) (by omega)]; omega
  rw [e, if_pos (by omega), if_pos (by omega)]
  exact l06Of_l0 xs n hl hn hb _ _ n k 0 (by omega) (by omega)


theorem spec_MyersStep_l0 (d : List Int) {n : Nat} (hn : n ≤ 32) (hl : d.length = n + 1) (hd : ∀ i : Nat, i ≤ n → 0 ≤ rd d (i : Int) ∧ rd d (i : Int) ≤ 64) {q : Nat} (hq : q < 2 ^ 64) (P M S : Int) (e : Nat) : ∀ (k i : Nat), i + e = n → e + 400 < k →
    spec_MyersStep.l0 k (q : Int) d (tab (nxV d q) (i + 1)) (i : Int) P M S (n : Int) =
      some (if bitsOkB (upsN (nxL d q n) n) (dnsN (nxL d q n) n) (nxV d q n) (n : Int) = true then (((upsN (nxL d q n) n : Nat) : Int), ((dnsN (nxL d q n) n : Nat) : Int), nxV d q n, (n : Int)) else (0, 0, 0, 0)) := by
  induction e with
  | zero =>
    intro k i hi hk
    obtain ⟨k, rfl⟩ : ∃ q, k = q + 1 := ⟨k - 1, by omega⟩
    obtain rfl : i = n := by omega
    have hb := nxV_bound d q i hd
    rw [spec_MyersStep.l0, if_neg (by omega), l06Of_f (tab (nxV d q) (i + 1)) i (tab_length _ _) (by omega) (fun j hj => by
      have := hb j hj
      rw [rd_tab _ (by omega)]
      omega) (by omega), Option.bind_some]
    dsimp only
    rw [rd_tab _ (by omega)]
    have h1 := ups_lt (nxL d q i) (n := i) (by omega)
    have h2 := dns_lt (nxL d q i) (n := i) (by omega)
    have := spec_BitsOk_f h1 h2 (nxV d q i) (i : Int) (k := k) (by omega)
    unfold upsN dnsN nxL at this ⊢
    rw [this, Option.bind_some]
    split <;> rfl
  | succ e ih =>
    intro k i hi hk
    obtain ⟨k, rfl⟩ : ∃ q, k = q + 1 := ⟨k - 1, by omega⟩
    have h := ih k (i + 1) (by omega) (by omega)
    have hb := nxV_bound d q n hd i (by omega)
    have h1 := hd (i + 1) (by omega)
    have h2 := hd i (by omega)
    rw [tab_succ, nxV] at h
    rw [spec_MyersStep.l0, if_pos (by omega), if_pos (by omega), if_pos (by omega), l03Bit_f hq (by omega), Option.bind_some, w64 (n := (i : Int) + 1) (by omega) (by omega), rd_tab _ (by omega), tab_length]
    rw [show (i : Int) + 1 = ((i + 1 : Nat) : Int) from rfl, w64 (n := nxV d q i + 1) (by omega) (by omega), w64 (n := rd d ((i + 1 : Nat) : Int) + 1) (by omega) (by omega), w64 (n := rd d (i : Int) + 1) (by omega) (by omega), mn_min, mn_min, mn_min]
    cases hbit : q.testBit i
    · rw [hbit] at h
      rw [if_neg (by decide), if_pos (by omega), if_pos (by omega), if_pos (by omega), if_pos (by omega)]
      rw [show rd d (i : Int) + 1 - (((false.toNat : Nat)) : Int) = rd d (i : Int) + 1 from by simp] at h
      exact h
    · rw [hbit] at h
      rw [if_pos rfl, if_pos (by omega), if_pos (by omega), if_pos (by omega), if_pos (by omega)]
      rw [show rd d (i : Int) + 1 - (((true.toNat : Nat)) : Int) = rd d (i : Int) from by simp] at h
      exact h
theorem spec_MyersStep_f {pv mv : Nat} (hp : pv < 2 ^ 64) (hm : mv < 2 ^ 64) (sc ln : Int) {q : Nat} (hq : q < 2 ^ 64) {k : Nat} (hk : 500 < k) :
    spec_MyersStep.f k (pv : Int) (mv : Int) sc ln (q : Int) = some (stepR pv mv sc ln q) := by
  unfold spec_MyersStep.f stepR
  rw [spec_BitsColumn_f hp hm sc ln (by omega), Option.bind_some]
  cases h : bitsOkB pv mv sc ln
  · simp only [Bool.false_eq_true, if_false]
    rfl
  · obtain ⟨n, rfl, hn, h1, h2, hc⟩ := okB_parts h
    have hb := colL_bound hc
    have h0 := hb 0 (by omega)
    rw [show ((0 : Nat) : Int) = 0 from rfl] at h0
    rw [if_pos rfl, if_pos rfl, Int.toNat_natCast, colL_length, if_neg (by omega), if_pos (by omega), w64 (by omega) (by omega)]
    exact spec_MyersStep_l0 (colL pv mv sc n n) hn (colL_length _ _ _ _ _) hb hq _ _ _ n k 0 (by omega) (by omega)

/-- the first column of a pattern of n bytes -/
theorem l06Of_id (n : Nat) (hn : n ≤ 63) {k : Nat} (hk : 140 < k) : spec_l06Of.f k (idL (n + 1)) = some (((2 ^ n - 1 : Nat) : Int), 0, (n : Int), (n : Int)) := by
  have hr : ∀ i : Nat, i ≤ n → rd (idL (n + 1)) (i : Int) = (i : Int) := fun i hi => rd_idL (by omega)
  rw [l06Of_f (idL (n + 1)) n (idL_length _) hn (fun i hi => by rw [hr i hi]; omega) hk, hr n (Nat.le_refl _)]
  rw [sumN_congr (p := upAt (idL (n + 1))) (q := fun _ => true) n (fun i hi => decide_eq_true (by
    have := hr (i + 1) (by omega)
    rw [show ((i + 1 : Nat) : Int) = (i : Int) + 1 from rfl] at this
    rw [this, hr i (by omega)])), sumN_true]
  rw [sumN_congr (p := dnAt (idL (n + 1))) (q := fun _ => false) n (fun i hi => decide_eq_false (by
    have := hr (i + 1) (by omega)
    rw [show ((i + 1 : Nat) : Int) = (i : Int) + 1 from rfl] at this
    rw [this, hr i (by omega)]
    omega)), sumN_false]
  rfl
theorem spec_MyersStart_l0 (s : ByteArray) (hs : s.size ≤ 32) (d : Nat) : ∀ k i, i + d = s.size + 1 → d + 150 < k →
    spec_MyersStart.l0 k s (idL i) (i : Int) = some (((2 ^ s.size - 1 : Nat) : Int), 0, (s.size : Int), (s.size : Int)) := by
  induction d with
  | zero =>
    intro k i hi hk
    obtain ⟨k, rfl⟩ : ∃ q, k = q + 1 := ⟨k - 1, by omega⟩
    obtain rfl : i = s.size + 1 := by omega
    rw [spec_MyersStart.l0, if_neg (by omega), l06Of_id s.size (by omega) (by omega)]
    rfl
  | succ d ih =>
    intro k i hi hk
    obtain ⟨k, rfl⟩ : ∃ q, k = q + 1 := ⟨k - 1, by omega⟩
    have h := ih k (i + 1) (by omega) (by omega)
    rw [idL_succ] at h
    rw [spec_MyersStart.l0, if_pos (by omega), if_pos (by rw [idL_length]; omega), w64 (by omega) (by omega)]
    exact h
theorem spec_MyersStart_f (s : ByteArray) (hs : s.size ≤ 32) {k : Nat} (hk : 200 < k) : spec_MyersStart.f k s = some (((2 ^ s.size - 1 : Nat) : Int), 0, (s.size : Int), (s.size : Int)) := by
  unfold spec_MyersStart.f
  rw [if_neg (by omega)]
  exact spec_MyersStart_l0 s hs (s.size + 1) k 0 (by omega) (by omega)

theorem spec_MyersPeq_l0 (s : ByteArray) (b : Int) (hs : s.size ≤ 32) (d : Nat) : ∀ (k i : Nat), i ≤ s.size → s.size - i = d → 2 * d + 40 < k →
    spec_MyersPeq.l0 k s b ((peqN s b i : Nat) : Int) (i : Int) = some ((peqN s b s.size : Nat) : Int) := by
  induction d with
  | zero =>
    intro k i hi hd hk
    obtain ⟨k, rfl⟩ : ∃ q, k = q + 1 + 1 := ⟨k - 2, by omega⟩
    obtain rfl : i = s.size := by omega
    rw [spec_MyersPeq.l0, if_neg (by omega), spec_MyersPeq.j1, if_neg (by decide)]
  | succ d ih =>
    intro k i hi hd hk
    obtain ⟨k, rfl⟩ : ∃ q, k = q + 1 + 1 := ⟨k - 2, by omega⟩
    have h := ih k (i + 1) (by omega) (by omega) (by omega)
    have hl := peqN_lt s b i
    have hp : 2 ^ (i + 1) ≤ 2 ^ 63 := Nat.pow_le_pow_right (by decide) (by omega)
    rw [Nat.pow_succ] at hp
    rw [spec_MyersPeq.l0, if_pos (by omega), spec_MyersPeq.j1, if_pos (by simp only [decide_eq_true_eq]; omega), if_pos (by omega), if_pos (by omega)]
    rw [w64 (by omega) (by omega)]
    by_cases e : bt s (i : Int) = b
    · rw [if_pos e, l06Power_f (by omega) (by omega)]
      simp only [Option.bind_some]
      rw [← h, u64_id (by omega) (by omega), peqN, if_pos e]
      congr 1
    · rw [if_neg e, ← h, peqN, if_neg e]
      congr 1
theorem spec_MyersPeq_f (s : ByteArray) (b : Int) (hs : s.size ≤ 32) {k : Nat} (hk : 2 * s.size + 40 < k) : spec_MyersPeq.f k s b = some ((peqN s b s.size : Nat) : Int) := by
  unfold spec_MyersPeq.f
  exact spec_MyersPeq_l0 s b hs s.size k 0 (by omega) (by omega) (by omega)
theorem spec_MyersPeq_long (s : ByteArray) (b : Int) (hs : ¬ s.size ≤ 32) {k : Nat} (hk : 2 < k) : spec_MyersPeq.f k s b = some 0 := by
  obtain ⟨k, rfl⟩ : ∃ q, k = q + 1 + 1 := ⟨k - 2, by omega⟩
  unfold spec_MyersPeq.f
  rw [spec_MyersPeq.l0, if_pos (by omega), spec_MyersPeq.j1, if_neg (by simp only [decide_eq_true_eq]; omega)]

theorem costs_rdL : rd_L2 = rdL := rfl
theorem costs_cell (s t : ByteArray) (hs : s.size ≤ 32) (ht : t.size ≤ 32) (i j k : Nat) (T : List (List Int)) (hi : i ≤ s.size) (hj : j + 1 ≤ t.size + 1) (hT : Tab s t T i (j + 1))
    (ih : ∀ T', i ≤ s.size → j ≤ t.size + 1 → i * 40 + j + 2 ≤ k → Tab s t T' i j → ∃ R, impl_costs.l1 k s t T' (i : Int) ((j : Int) - 1) = some R ∧ TabR s t R 0) (hk : i * 40 + j + 2 ≤ k) :
    ∃ R, impl_costs.l1 (k + 1) s t T (i : Int) (((j + 1 : Nat) : Int) - 1) = some R ∧ TabR s t R 0 := by
  have hl := hT.1
  have hr := hT.len (Nat.le_refl _) hi
  have hb := levAt_le s t
  rw [show (((j + 1 : Nat) : Int) - 1) = (j : Int) from by omega, impl_costs.l1, if_pos (by omega)]
  simp only [costs_rdL, w64 (show -9223372036854775808 ≤ (j : Int) - 1 by omega) (by omega), w64 (show -9223372036854775808 ≤ (i : Int) + 1 by omega) (by omega), w64 (show -9223372036854775808 ≤ (j : Int) + 1 by omega) (by omega)]
  by_cases e1 : i = s.size
  · rw [if_pos (by omega), if_pos (by omega), if_pos (by omega), if_pos (by omega), if_pos (by rw [hr]; omega)]
    rw [Int.toNat_natCast, Int.toNat_natCast]
    refine ih _ hi (by omega) hk (hT.put hi (by omega) ?_)
    rw [w64 (by omega) (by omega), e1, levAt_end]
    omega
  · rw [if_neg (by omega)]
    by_cases e2 : j = t.size
    · rw [if_pos (by omega), if_pos (by omega), if_pos (by omega), if_pos (by omega), if_pos (by rw [hr]; omega)]
      rw [Int.toNat_natCast, Int.toNat_natCast]
      refine ih _ hi (by omega) hk (hT.put hi (by omega) ?_)
      rw [w64 (by omega) (by omega), e2, levAt_end']
      omega
    · rw [if_neg (by omega)]
      have hr1 := hT.len (show i ≤ i + 1 by omega) (by omega)
      have c1 := hT.2.2 (i + 1) (j + 1) (by omega) (by omega) (by omega)
      have c2 := hT.2.2 (i + 1) j (by omega) (by omega) (by omega)
      have c3 := hT.2.2 i (j + 1) (by omega) (by omega) (by omega)
      have b1 := hb (i + 1) (j + 1)
      have b2 := hb (i + 1) j
      have b3 := hb i (j + 1)
      have hst := levAt_step s t (show i < s.size by omega) (show j < t.size by omega)
      rw [show ((i : Int) + 1) = ((i + 1 : Nat) : Int) from rfl, show ((j : Int) + 1) = ((j + 1 : Nat) : Int) from rfl]
      simp only [c1, c2, c3, hr, hr1, hl]
      by_cases e3 : bt s (i : Int) = bt t (j : Int)
      · rw [ne01, if_pos e3] at hst
        repeat rw [if_pos (by first | exact e3 | omega)]
        rw [Int.toNat_natCast, Int.toNat_natCast]
        refine ih _ hi (by omega) hk (hT.put hi (by omega) ?_)
        exact step_eq' (by omega) (by omega) (by omega) hst
      · rw [ne01, if_neg e3] at hst
        repeat first | rw [if_pos (by omega)] | rw [if_neg e3]
        rw [Int.toNat_natCast, Int.toNat_natCast]
        refine ih _ hi (by omega) hk (hT.put hi (by omega) ?_)
        exact step_ne' (by omega) (by omega) (by omega) hst
theorem costs_l1 (s t : ByteArray) (hs : s.size ≤ 32) (ht : t.size ≤ 32) (i : Nat) : ∀ (j k : Nat) (T : List (List Int)), i ≤ s.size → j ≤ t.size + 1 → i * 40 + j + 2 ≤ k → Tab s t T i j →
    ∃ R, impl_costs.l1 k s t T (i : Int) ((j : Int) - 1) = some R ∧ TabR s t R 0 := by
  induction i with
  | zero =>
    intro j
    induction j with
    | zero =>
      intro k T hi hj hk hT
      obtain ⟨k, rfl⟩ : ∃ q, k = q + 1 + 1 := ⟨k - 2, by omega⟩
      refine ⟨T, ?_, hT.rows⟩
      rw [impl_costs.l1, if_neg (by omega), w64 (by omega) (by omega), impl_costs.l0, if_neg (by omega)]
    | succ j ihj =>
      intro k T hi hj hk hT
      obtain ⟨k, rfl⟩ : ∃ q, k = q + 1 := ⟨k - 1, by omega⟩
      exact costs_cell s t hs ht 0 j k T hi hj hT (ihj k)
        (by omega)
  | succ i ih =>
    intro j
    induction j with
    | zero =>
      intro k T hi hj hk hT
      obtain ⟨k, rfl⟩ : ∃ q, k = q + 1 + 1 := ⟨k - 2, by omega⟩
      have hr := hT.rows.row (by omega) (List.replicate (t.size + 1) 0) (by simp)
      have hl := hT.1
      obtain ⟨R, h1, h2⟩ := ih (t.size + 1) k _ (by omega) (Nat.le_refl _) (by omega) hr
      refine ⟨R, ?_, h2⟩
      rw [impl_costs.l1, if_neg (by omega), w64 (by omega) (by omega), impl_costs.l0, if_pos (by omega), w64 (by omega) (by omega)]
      rw [if_pos (by omega), if_pos (by omega), if_pos (by omega), if_pos (by omega)]
      rw [show (((i + 1 : Nat) : Int) - 1) = (i : Int) from by omega, show (((t.size : Nat) : Int) + 1).toNat = t.size + 1 from by omega, Int.toNat_natCast]
      rw [show (((t.size + 1 : Nat) : Int) - 1) = (t.size : Int) from by omega] at h1
      exact h1
    | succ j ihj =>
      intro k T hi hj hk hT
      obtain ⟨k, rfl⟩ : ∃ q, k = q + 1 := ⟨k - 1, by omega⟩
      exact costs_cell s t hs ht (i + 1) j k T hi hj hT (ihj k)
        (by omega)
theorem costs_f (s t : ByteArray) (hs : s.size ≤ 32) (ht : t.size ≤ 32) {k : Nat} (hk : 1400 < k) : ∃ R, impl_costs.f k s t = some R ∧ TabR s t R 0 := by
  obtain ⟨k, rfl⟩ : ∃ q, k = q + 1 := ⟨k - 1, by omega⟩
  have h0 := (TabR.start s t).row (Nat.le_refl _) (List.replicate (t.size + 1) 0) (by simp)
  obtain ⟨R, h1, h2⟩ := costs_l1 s t hs ht s.size (t.size + 1) k _ (Nat.le_refl _) (Nat.le_refl _) (by omega) h0
  refine ⟨R, ?_, h2⟩
  unfold impl_costs.f
  rw [w64 (by omega) (by omega), if_pos (by omega), if_pos (by omega), impl_costs.l0, if_pos (by omega), w64 (by omega) (by omega), if_pos (by omega), if_pos (by omega), if_pos (by omega), if_pos (by rw [List.length_replicate]; omega)]
  rw [show (((s.size : Nat) : Int) + 1).toNat = s.size + 1 from by omega, show (((t.size : Nat) : Int) + 1).toNat = t.size + 1 from by omega, Int.toNat_natCast]
  rw [show (((t.size + 1 : Nat) : Int) - 1) = (t.size : Int) from by omega] at h1
  exact h1

theorem l05Long_g (s t : ByteArray) : spec_l05Long.f s t = some (decide (32 < s.size ∨ 32 < t.size)) := by
  unfold spec_l05Long.f
  by_cases h : (s.size : Int) > 32
  · rw [if_pos h, decide_eq_true (by omega)]
  · rw [if_neg h]; congr 1; rw [decide_eq_decide]; omega

theorem spec_MyersRun_l0 (p t : ByteArray) (hp : p.size ≤ 32) (ht : t.size ≤ 32) (d : Nat) : ∀ (k n : Nat), n + d = t.size → d + 600 < k →
    spec_MyersRun.l0 k p t (n : Int) ((upsN (dcL p t n) p.size : Nat) : Int) ((dnsN (dcL p t n) p.size : Nat) : Int) (rd (dcL p t n) (p.size : Int)) (p.size : Int) = some (lev (bytesOf p) (bytesOf t) : Int) := by
  induction d with
  | zero =>
    intro k n hn hk
    obtain ⟨k, rfl⟩ : ∃ q, k = q + 1 := ⟨k - 1, by omega⟩
    obtain rfl : n = t.size := by omega
    rw [spec_MyersRun.l0, if_neg (by omega), rd_dcL p t _ (Nat.le_refl _), dcol_all]
  | succ d ih =>
    intro k n hn hk
    obtain ⟨k, rfl⟩ : ∃ q, k = q + 1 := ⟨k - 1, by omega⟩
    have h := ih k (n + 1) (by omega) (by omega)
    have hq : peqN p (bt t (n : Int)) p.size < 2 ^ 64 := Nat.lt_of_lt_of_le (peqN_lt _ _ _) (Nat.pow_le_pow_right (by decide) (by omega))
    rw [spec_MyersRun.l0, if_pos (by omega), if_pos (by omega), spec_MyersPeq_f p _ hp (by omega), Option.bind_some, spec_MyersStep_f (ups_lt _ (by omega)) (dns_lt _ (by omega)) _ _ hq (by omega), Option.bind_some, stepR_dcL p t hp ht (by omega), w64 (by omega) (by omega)]
    exact h
theorem spec_MyersRun_w (p t : ByteArray) (hp : p.size ≤ 32) (ht : t.size ≤ 32) {k : Nat} (hk : 1500 ≤ k) : spec_MyersRun.f k p t = some (lev (bytesOf p) (bytesOf t) : Int) := by
  unfold spec_MyersRun.f
  obtain ⟨s1, s2, s3⟩ := start_ups p t
  have hr := spec_MyersRun_l0 p t hp ht t.size k 0 (by omega) (by omega)
  rw [s1, s2, s3] at hr
  rw [l05Long_g, Option.bind_some, if_neg (by simp only [decide_eq_true_eq]; omega), spec_MyersStart_f p hp (by omega), Option.bind_some]
  exact hr

theorem costs_top (s t : ByteArray) (hs : s.size ≤ 32) (ht : t.size ≤ 32) {k : Nat} (hk : 1400 < k) {α : Type} (g : Int → Option α) :
    ((impl_costs.f k s t).bind fun T => if 0 < (T.length : Int) then (if 0 < ((rd_L2 T 0).length : Int) then g (rd (rd_L2 T 0) 0) else none) else none) = g (lev (bytesOf s) (bytesOf t) : Int) := by
  obtain ⟨R, h1, h2⟩ := costs_f s t hs ht hk
  obtain ⟨r1, r2, r3⟩ := h2.top
  rw [h1, Option.bind_some, costs_rdL, if_pos (by omega), if_pos (by omega), r3, levAt_top]

theorem unpadL_word {xs : List Int} : (unpadL xs).1.size ≤ 32 := unpadL_size xs
theorem FnExactMyersPadded : laws_FnExactMyersPadded.Pure := by
  intro xs ys _ _ hx _ _ hy
  have hU := U8s.of hx
  have hV := U8s.of hy
  obtain ⟨K, hK⟩ : ∃ K : Nat, K = 2097152 + 5000 := ⟨_, rfl⟩
  refine ⟨K + 1, ?_⟩
  unfold laws_FnExactMyersPadded.f
  by_cases h1 : (xs.length : Int) > 1048576
  · rw [if_pos h1]
  · by_cases h2 : (ys.length : Int) > 1048576
    · rw [if_neg h1, if_pos h2]
    · have tx : laws_toByteS.f (K + 1) xs = some xs := toByteS_f xs (by omega) (by omega)
      have ty : laws_toByteS.f (K + 1) ys = some ys := toByteS_f ys (by omega) (by omega)
      have ex : laws_eqByteS.f (K + 1) xs xs = some true := by rw [eqByteS_f xs xs (by omega) (by omega), decide_eq_true rfl]
      have ey : laws_eqByteS.f (K + 1) ys ys = some true := by rw [eqByteS_f ys ys (by omega) (by omega), decide_eq_true rfl]
      have hd : ∃ r, spec_MyersPadded.f (K + 1) xs ys = some r ∧ impl_MyersPadded.f (K + 1) xs ys = some r := by
        have z1 := unpadL_size xs
        have z2 := unpadL_size ys
        unfold spec_MyersPadded.f impl_MyersPadded.f
        rw [spec_Unpad_f xs hU (by omega), impl_Unpad_f xs hU (by omega), Option.bind_some, Option.bind_some, spec_Unpad_f ys hV (by omega), impl_Unpad_f ys hV (by omega), Option.bind_some, Option.bind_some]
        generalize unpadL xs = u at *
        generalize unpadL ys = v at *
        by_cases c1 : u.2 = true
        · by_cases c2 : v.2 = true
          · rw [if_pos c1, if_pos c2, if_pos c1, if_pos c2, spec_MyersRun_w u.1 v.1 z1 z2 (by omega), Option.bind_some, costs_top u.1 v.1 z1 z2 (by omega) some]
            exact ⟨_, rfl, rfl⟩
          · rw [if_pos c1, if_neg c2, if_pos c1, if_neg c2]
            exact ⟨_, rfl, rfl⟩
        · rw [if_neg c1, if_neg c1]
          exact ⟨_, rfl, rfl⟩
      obtain ⟨r, e1, e2⟩ := hd
      rw [if_neg h1, if_neg h2, tx, Option.bind_some, ty, Option.bind_some, e1, Option.bind_some, Option.bind_some, Option.bind_some, e2, Option.bind_some, if_pos rfl, Option.bind_some, ex, Option.bind_some, if_pos rfl, Option.bind_some, ey, Option.bind_some, if_pos rfl]

end Go.Proofs.Ytbibgmmoompoiaa.Pure
