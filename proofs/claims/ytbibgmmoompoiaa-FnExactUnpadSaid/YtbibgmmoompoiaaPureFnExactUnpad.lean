/- The law FnExactUnpad holds of the program: whatever its arguments (of the kinds and sizes that the statement names), it answers true. -/
import Derived.Test.YtbibgmmoompoiaaQFnExactUnpadx3
import Derived.Test.YtbibgmmoompoiaaLib
import Derived.Test.YtbibgmmoompoiaaLibTab
import Derived.Test.YtbibgmmoompoiaaLibLev
import Derived.Test.YtbibgmmoompoiaaLibBytes
set_option linter.unusedVariables false
set_option linter.unusedSimpArgs false
namespace Go.Proofs.Ytbibgmmoompoiaa.Pure
open Go.RowKit Go.Proofs.Ytbibgmmoompoiaa.PFnExactUnpad Go.Proofs.YtbibgmmoompoiaaW.PrintWords Go.Proofs.YtbibgmmoompoiaaW.PrintLast Go.Proofs.Ytbibgmmoompoiaa.L 

theorem within_f (a b c : Int) : impl_within.f a b c = some (decide (b ≤ a ∧ a ≤ c)) := by
  unfold impl_within.f
  by_cases h : a ≥ b
  · rw [if_pos h]; congr 1; rw [decide_eq_decide]; omega
  · rw [if_neg h]; congr 1; symm; rw [decide_eq_false_iff_not]; omega

theorem impl_isWord_l0 (s : ByteArray) (hs : s.size ≤ 140737488351232) (d : Nat) : ∀ (k i : Nat), i ≤ s.size → s.size - i = d → d < k →
    impl_isWord.l0 k s (s.size : Int) (i : Int) = some (okB s i && decide (1 ≤ s.size ∧ s.size ≤ 32)) := by
  induction d with
  | zero =>
    intro k i hi hd hk
    obtain ⟨k, rfl⟩ : ∃ q, k = q + 1 := ⟨k - 1, by omega⟩
    rw [impl_isWord.l0, if_neg (by omega), okB_end (by omega), within_f, Bool.true_and]
    simp only [Option.bind_some]
    congr 1
    rw [decide_eq_decide]; omega
  | succ d ih =>
    intro k i hi hd hk
    obtain ⟨k, rfl⟩ : ∃ q, k = q + 1 := ⟨k - 1, by omega⟩
    have h := ih k (i + 1) (by omega) (by omega) (by omega)
    rw [impl_isWord.l0, if_pos (by omega), if_pos (by omega), if_pos (by omega)]
    by_cases h1 : bt s (i : Int) < 97
    · rw [if_pos h1, okB_bad (by omega) (.inl h1)]; rfl
    · rw [if_neg h1]
      by_cases h2 : bt s (i : Int) > 122
      · rw [if_pos h2, okB_bad (by omega) (.inr h2)]; rfl
      · rw [if_neg h2, w64 (by omega) (by omega), okB_step (by omega) (by omega)]
        exact h
theorem impl_isWord_f (s : ByteArray) (hs : s.size ≤ 140737488351232) {k : Nat} (hk : s.size < k) : impl_isWord.f k s = some (wordB s) := by
  unfold impl_isWord.f wordB
  rw [Bool.and_comm]
  exact impl_isWord_l0 s hs s.size k 0 (by omega) (by omega) (by omega)

/-- the padded word -/
def padL (s : ByteArray) : List Int := if wordB s = true then (s.size : Int) :: (bytesOf s ++ List.replicate (32 - s.size) 0) else List.replicate 33 0
theorem wordB_size {s : ByteArray} (h : wordB s = true) : 1 ≤ s.size ∧ s.size ≤ 32 := by
  unfold wordB at h
  rw [Bool.and_eq_true, decide_eq_true_iff] at h
  exact h.1
theorem padL_length (s : ByteArray) : (padL s).length = 33 := by
  unfold padL
  by_cases h : wordB s = true
  · have := wordB_size h
    rw [if_pos h]
    simp [bytesOf_length]
    omega
  · rw [if_neg h]; simp
theorem impl_pad_f (s : ByteArray) (hs : s.size ≤ 140737488351232) {k : Nat} (hk : s.size < k) : impl_pad.f k s = some (padL s) := by
  unfold impl_pad.f padL
  rw [impl_isWord_f s hs hk, Option.bind_some]
  by_cases h : wordB s = true
  · have := wordB_size h
    rw [if_pos h, if_pos h, if_pos this.2]
  · rw [if_neg h, if_neg h]

theorem strOfNums_bytesOf (s : ByteArray) : strOfNums (bytesOf s) = s := by
  have h : (strOfNums (bytesOf s)).data = s.data := by
    apply Array.toList_inj.mp
    simp only [strOfNums, bytesOf, List.map_map]
    conv => rhs; rw [← List.map_id s.data.toList]
    apply List.map_congr_left
    intro b _
    simp
  exact congrArg ByteArray.mk h
/-- the bytes of a padded word that its first byte tells -/
def cutW (xs : List Int) : ByteArray := strOfNums ((xs.take (1 + rd xs 0).toNat).drop 1)
/-- what a padded word is read as -/
def unpadL (xs : List Int) : ByteArray × Bool := if xs.length = 33 ∧ 1 ≤ rd xs 0 ∧ rd xs 0 ≤ 32 then (if wordB (cutW xs) = true then (if (strOfNums (padL (cutW xs))).toList = (strOfNums xs).toList then (cutW xs, true) else ((⟨#[]⟩ : ByteArray), false)) else ((⟨#[]⟩ : ByteArray), false)) else ((⟨#[]⟩ : ByteArray), false)
theorem cutW_size {xs : List Int} (h : xs.length = 33) (h0 : 0 ≤ rd xs 0) (h1 : rd xs 0 ≤ 32) : ((cutW xs).size : Int) = rd xs 0 := by
  unfold cutW
  rw [strOfNums_size]
  simp only [List.length_drop, List.length_take]
  omega
theorem unpadL_size (xs : List Int) : (unpadL xs).1.size ≤ 32 := by
  unfold unpadL
  split
  · rename_i h
    have := cutW_size h.1 (by omega) h.2.2
    split
    · split
      · show (cutW xs).size ≤ 32; omega
      · exact Nat.zero_le _
    · exact Nat.zero_le _
  · exact Nat.zero_le _
theorem cutW_pad {s : ByteArray} (h : wordB s = true) : cutW (padL s) = s := by
  have hs := wordB_size h
  unfold cutW padL
  rw [if_pos h]
  rw [show rd ((s.size : Int) :: (bytesOf s ++ List.replicate (32 - s.size) 0)) 0 = (s.size : Int) from rfl, show (1 + (s.size : Int)).toNat = s.size + 1 from by omega, List.take_succ_cons, List.drop_succ_cons, List.drop_zero, List.take_append_of_le_length (by rw [bytesOf_length]; exact Nat.le_refl _), List.take_of_length_le (by rw [bytesOf_length]; exact Nat.le_refl _), strOfNums_bytesOf]
theorem unpad_pad {s : ByteArray} (h : wordB s = true) : unpadL (padL s) = (s, true) := by
  have hs := wordB_size h
  have hr : rd (padL s) 0 = (s.size : Int) := by unfold padL; rw [if_pos h]; rfl
  unfold unpadL
  rw [if_pos ⟨padL_length s, by omega, by omega⟩, cutW_pad h, if_pos h, if_pos rfl]
theorem unpad_none {s : ByteArray} (h : ¬ wordB s = true) : unpadL (padL s) = ((⟨#[]⟩ : ByteArray), false) := by
  have hr : rd (padL s) 0 = 0 := by unfold padL; rw [if_neg h]; rfl
  unfold unpadL
  rw [if_neg (by omega)]
theorem padL_u8 (s : ByteArray) : U8s (padL s) := by
  apply U8s.of
  intro x hx
  have hb : 0 ≤ x ∧ x ≤ 255 := by
    unfold padL at hx
    split at hx
    · rename_i h
      have hs := wordB_size h
      rcases List.mem_cons.mp hx with rfl | hx
      · omega
      · rcases List.mem_append.mp hx with hx | hx
        · unfold bytesOf at hx
          obtain ⟨b, _, rfl⟩ := List.mem_map.mp hx
          have := UInt8.toNat_lt b
          omega
        · have := List.eq_of_mem_replicate hx; omega
    · have := List.eq_of_mem_replicate hx; omega
  simp only [Lit.wf, IntKind.min, IntKind.max, IntKind.signed, IntKind.bits, Bool.and_eq_true, decide_eq_true_eq]
  simp
  omega
theorem unpadL_in {xs : List Int} (h : xs.length = 33) (h0 : 1 ≤ rd xs 0) (h1 : rd xs 0 ≤ 32) (h3 : wordB (cutW xs) = true) : unpadL xs = if (strOfNums (padL (cutW xs))).toList = (strOfNums xs).toList then (cutW xs, true) else ((⟨#[]⟩ : ByteArray), false) := by
  unfold unpadL
  rw [if_pos ⟨h, h0, h1⟩, if_pos h3]
theorem unpadL_out {xs : List Int} (h3 : ¬ wordB (cutW xs) = true) : unpadL xs = ((⟨#[]⟩ : ByteArray), false) := by
  unfold unpadL
  by_cases h : xs.length = 33 ∧ 1 ≤ rd xs 0 ∧ rd xs 0 ≤ 32
  · rw [if_pos h, if_neg h3]
  · rw [if_neg h]

theorem impl_Unpad_f (xs : List Int) (hU : U8s xs) {k : Nat} (hk : 100 < k) : impl_Unpad.f k xs = some (unpadL xs) := by
  obtain ⟨k, rfl⟩ : ∃ q, k = q + 1 := ⟨k - 1, by omega⟩
  unfold impl_Unpad.f
  by_cases h : xs.length = 33
  · have hb : 0 ≤ rd xs 0 ∧ rd xs 0 ≤ 255 := hU 0 (by omega)
    rw [if_pos (by omega), if_pos (by omega), impl_Unpad.j0]
    by_cases h2 : rd xs 0 > 32
    · rw [if_pos (decide_eq_true h2)]
      unfold unpadL
      rw [if_neg (by omega)]
    · have hs := cutW_size h hb.1 (by omega)
      have e : (1 + rd xs 0) % 256 = 1 + rd xs 0 := by omega
      have hw : strOfNums ((xs.take ((1 + rd xs 0 : Int)).toNat).drop 1) = cutW xs := rfl
      rw [if_neg (by simpa using h2), if_pos (by omega), e, if_pos (by omega), if_pos (by omega), hw, impl_isWord_f _ (by omega) (by omega), Option.bind_some]
      by_cases h3 : wordB (cutW xs) = true
      · have hz := wordB_size h3
        rw [unpadL_in h (by omega) (by omega) h3, if_pos h3, impl_pad_f _ (by omega) (by omega), Option.bind_some, bytes_Equal.f, Option.bind_some]
        by_cases h4 : (strOfNums (padL (cutW xs))).toList = (strOfNums xs).toList
        · rw [if_pos (beq_iff_eq.mpr h4), if_pos h4]
        · rw [if_neg (by simpa using h4), if_neg h4]
      · rw [unpadL_out h3, if_neg h3]
  · rw [if_neg (by omega), impl_Unpad.j0, if_pos rfl]
    unfold unpadL
    rw [if_neg (by omega)]

theorem spec_WordOk_l0 (s : ByteArray) (hs : s.size ≤ 140737488351232) (d : Nat) : ∀ (k i : Nat), i ≤ s.size → s.size - i = d → d < k →
    spec_WordOk.l0 k s (i : Int) = some (okB s i) := by
  induction d with
  | zero =>
    intro k i hi hd hk
    obtain ⟨k, rfl⟩ : ∃ q, k = q + 1 := ⟨k - 1, by omega⟩
    rw [spec_WordOk.l0, if_neg (by omega), okB_end (by omega)]
  | succ d ih =>
    intro k i hi hd hk
    obtain ⟨k, rfl⟩ : ∃ q, k = q + 1 := ⟨k - 1, by omega⟩
    have h := ih k (i + 1) (by omega) (by omega) (by omega)
    rw [spec_WordOk.l0, if_pos (by omega), if_pos (by omega)]
    by_cases h1 : bt s (i : Int) < 97
    · rw [if_pos h1, okB_bad (by omega) (.inl h1)]
    · rw [if_neg h1]
      by_cases h2 : bt s (i : Int) > 122
      · rw [if_pos h2, okB_bad (by omega) (.inr h2)]
      · rw [if_neg h2, w64 (by omega) (by omega), okB_step (by omega) (by omega)]
        exact h
theorem spec_WordOk_f (s : ByteArray) (hs : s.size ≤ 140737488351232) {k : Nat} (hk : s.size + 1 < k) : spec_WordOk.f k s = some (wordB s) := by
  obtain ⟨k, rfl⟩ : ∃ q, k = q + 1 := ⟨k - 1, by omega⟩
  unfold spec_WordOk.f wordB
  by_cases h : (s.size : Int) < 1
  · rw [if_pos h, spec_WordOk.j0, if_pos rfl, decide_eq_false (by omega)]; rfl
  · rw [if_neg h, spec_WordOk.j0]
    by_cases h2 : (s.size : Int) > 32
    · rw [if_pos (by simp only [decide_eq_true_eq]; exact h2), decide_eq_false (by omega)]; rfl
    · rw [if_neg (by simp only [decide_eq_true_eq]; exact h2), decide_eq_true (by omega), Bool.true_and]
      exact spec_WordOk_l0 s hs s.size k 0 (by omega) (by omega) (by omega)

theorem bytesOf_getD (s : ByteArray) (i : Nat) : (bytesOf s).getD i 0 = bt s (i : Int) := by
  have := rd_bytesOf s (i : Int)
  unfold rd at this
  rw [Int.toNat_natCast] at this
  exact this
theorem spec_Pad_l0 (s : ByteArray) (hs : s.size ≤ 32) (d : Nat) : ∀ (k i : Nat) (ys : List Int), i + d = s.size → d < k → ys = (s.size : Int) :: ((bytesOf s).take i ++ List.replicate (32 - i) 0) →
    spec_Pad.l0 k s ys (i : Int) = some ((s.size : Int) :: (bytesOf s ++ List.replicate (32 - s.size) 0)) := by
  induction d with
  | zero =>
    intro k i ys hi hk hy
    obtain ⟨k, rfl⟩ : ∃ q, k = q + 1 := ⟨k - 1, by omega⟩
    obtain rfl : i = s.size := by omega
    rw [spec_Pad.l0, if_neg (by omega), hy, List.take_of_length_le (by rw [bytesOf_length]; omega)]
  | succ d ih =>
    intro k i ys hi hk hy
    obtain ⟨k, rfl⟩ : ∃ q, k = q + 1 := ⟨k - 1, by omega⟩
    have hl : ys.length = 33 := by rw [hy]; simp [bytesOf_length]; omega
    rw [spec_Pad.l0, if_pos (by omega), if_pos (by omega), w64 (by omega) (by omega), if_pos (by omega), if_pos (by omega)]
    refine ih k (i + 1) _ (by omega) (by omega) ?_
    rw [show ((i : Int) + 1).toNat = i + 1 from by omega, hy, List.set_cons_succ, List.set_append_right _ _ (by rw [List.length_take, bytesOf_length]; omega), List.length_take, bytesOf_length, show i - min i s.size = 0 from by omega, show 32 - i = (32 - (i + 1)) + 1 from by omega, List.replicate_succ, List.set_cons_zero, List.take_succ_eq_append_getElem (by rw [bytesOf_length]; omega), bytesOf_get s i (by omega)]
    simp
theorem spec_Pad_f (s : ByteArray) (hs : s.size ≤ 140737488351232) {k : Nat} (hk : s.size + 1 < k) : spec_Pad.f k s = some (padL s) := by
  unfold spec_Pad.f padL
  rw [if_pos (by decide), Option.bind_some, spec_WordOk_f s hs hk, Option.bind_some]
  by_cases h : wordB s = true
  · have := wordB_size h
    rw [if_pos h, if_pos h, if_pos (by decide)]
    refine spec_Pad_l0 s this.2 s.size k 0 _ (by omega) (by omega) ?_
    rw [List.replicate_succ, show Int.toNat 0 = 0 from rfl, List.set_cons_zero, show (s.size : Int) % 256 = (s.size : Int) from by omega]
    simp
  · rw [if_neg h, if_neg h]

theorem spec_Unpad_f (xs : List Int) (hU : U8s xs) {k : Nat} (hk : 100 < k) : spec_Unpad.f k xs = some (unpadL xs) := by
  obtain ⟨k, rfl⟩ : ∃ q, k = q + 1 := ⟨k - 1, by omega⟩
  unfold spec_Unpad.f
  by_cases h : xs.length = 33
  · have hb : 0 ≤ rd xs 0 ∧ rd xs 0 ≤ 255 := hU 0 (by omega)
    rw [if_pos (by omega), if_pos (by omega)]
    by_cases h1 : rd xs 0 < 1
    · rw [if_pos h1, spec_Unpad.j0, if_pos rfl]
      unfold unpadL
      rw [if_neg (by omega)]
    · rw [if_neg h1, spec_Unpad.j0]
      by_cases h2 : rd xs 0 > 32
      · rw [if_pos (decide_eq_true h2)]
        unfold unpadL
        rw [if_neg (by omega)]
      · have hs := cutW_size h hb.1 (by omega)
        have e : wrap64 (1 + wrap64 (rd xs 0)) = 1 + rd xs 0 := by rw [w64 (n := rd xs 0) (by omega) (by omega), w64 (by omega) (by omega)]
        have hw : strOfNums ((xs.take ((1 + rd xs 0 : Int)).toNat).drop 1) = cutW xs := rfl
        rw [if_neg (by simpa using h2), if_pos (by omega), e, if_pos (by omega), if_pos (by omega), hw, spec_WordOk_f _ (by omega) (by omega), Option.bind_some]
        by_cases h3 : wordB (cutW xs) = true
        · have hz := wordB_size h3
          rw [unpadL_in h (by omega) (by omega) h3, if_pos h3, spec_Pad_f _ (by omega) (by omega), Option.bind_some]
          by_cases h4 : (strOfNums (padL (cutW xs))).toList = (strOfNums xs).toList
          · rw [if_pos h4, if_pos h4]
          · rw [if_neg h4, if_neg h4]
        · rw [unpadL_out h3, if_neg h3]
  · rw [if_neg (by omega), spec_Unpad.j0, if_pos rfl]
    unfold unpadL
    rw [if_neg (by omega)]

theorem toByteS_l0 (xs : List Int) (hx : xs.length ≤ 140737488351232) (d : Nat) : ∀ (k i : Nat) (ys : List Int), ys.length = xs.length → i ≤ xs.length → xs.length - i = d → d < k → ys.take i = xs.take i →
    laws_toByteS.l0 k xs ys (i : Int) = some xs := by
  induction d with
  | zero =>
    intro k i ys hl hi hd hk ht
    obtain ⟨k, rfl⟩ : ∃ q, k = q + 1 := ⟨k - 1, by omega⟩
    rw [laws_toByteS.l0, if_neg (by omega)]
    rw [List.take_of_length_le (by omega), List.take_of_length_le (by omega)] at ht
    rw [ht]
  | succ d ih =>
    intro k i ys hl hi hd hk ht
    obtain ⟨k, rfl⟩ : ∃ q, k = q + 1 := ⟨k - 1, by omega⟩
    have h := ih k (i + 1) (ys.set i (rd xs (i : Int))) (by simp [hl]) (by omega) (by omega) (by omega) (set_copy xs ys i (by omega) hl ht)
    rw [laws_toByteS.l0, if_pos (by omega), if_pos (by omega), if_pos (by omega), w64 (by omega) (by omega), Int.toNat_natCast]
    exact h
theorem toByteS_f (xs : List Int) (hx : xs.length ≤ 140737488351232) {k : Nat} (hk : xs.length < k) : laws_toByteS.f k xs = some xs := by
  unfold laws_toByteS.f
  rw [if_pos (Int.natCast_nonneg _), if_pos (by omega)]
  exact toByteS_l0 xs hx xs.length k 0 _ (by simp) (by omega) (by omega) hk (by simp)

theorem eqByteS_l0 (xs ys : List Int) (hl : ys.length = xs.length) (hx : xs.length ≤ 140737488351232) (d : Nat) : ∀ (k i : Nat), i ≤ xs.length → xs.length - i = d → d < k →
    laws_eqByteS.l0 k xs ys (i : Int) = some (decide (xs.drop i = ys.drop i)) := by
  induction d with
  | zero =>
    intro k i hi hd hk
    obtain ⟨k, rfl⟩ : ∃ q, k = q + 1 := ⟨k - 1, by omega⟩
    rw [laws_eqByteS.l0, if_neg (by omega), List.drop_of_length_le (by omega), List.drop_of_length_le (by omega)]
    rfl
  | succ d ih =>
    intro k i hi hd hk
    obtain ⟨k, rfl⟩ : ∃ q, k = q + 1 := ⟨k - 1, by omega⟩
    have h := ih k (i + 1) (by omega) (by omega) (by omega)
    rw [laws_eqByteS.l0, if_pos (by omega), if_pos (by omega), if_pos (by omega), w64 (by omega) (by omega)]
    rw [rd_lt (show i < xs.length by omega), rd_lt (show i < ys.length by omega)]
    rw [List.drop_eq_getElem_cons (show i < xs.length by omega), List.drop_eq_getElem_cons (show i < ys.length by omega)]
    by_cases e : xs[i]'(by omega) = ys[i]'(by omega)
    · rw [if_pos e]
      rw [show ((i : Int) + 1) = ((i + 1 : Nat) : Int) from rfl, h]
      congr 1
      rw [decide_eq_decide, e]
      exact ⟨fun h2 => by rw [h2], fun h2 => (List.cons.inj h2).2⟩
    · rw [if_neg e]
      congr 1
      symm
      rw [decide_eq_false_iff_not]
      intro h2
      exact e (List.cons.inj h2).1
theorem eqByteS_f (xs ys : List Int) (hx : xs.length ≤ 140737488351232) {k : Nat} (hk : xs.length < k) : laws_eqByteS.f k xs ys = some (decide (xs = ys)) := by
  unfold laws_eqByteS.f
  by_cases h : xs.length = ys.length
  · rw [if_pos (by omega)]
    have := eqByteS_l0 xs ys h.symm hx xs.length k 0 (by omega) (by omega) hk
    simpa using this
  · rw [if_neg (by omega)]
    congr 1
    symm
    rw [decide_eq_false_iff_not]
    intro e
    exact h (by rw [e])

theorem FnExactUnpad : laws_FnExactUnpad.Pure := by
  intro xs _ _ hx
  have hU := U8s.of hx
  obtain ⟨K, hK⟩ : ∃ K : Nat, K = 2097152 + 5000 := ⟨_, rfl⟩
  refine ⟨K + 1, ?_⟩
  unfold laws_FnExactUnpad.f
  by_cases h1 : (xs.length : Int) > 1048576
  · rw [if_pos h1]
  · have tx : ∀ k, K ≤ k → laws_toByteS.f k xs = some xs := fun k hk => toByteS_f xs (by omega) (by omega)
    have ex : ∀ k, K ≤ k → laws_eqByteS.f k xs xs = some true := fun k hk => by rw [eqByteS_f xs xs (by omega) (by omega), decide_eq_true rfl]
    rw [if_neg h1, tx _ (by omega), Option.bind_some, spec_Unpad_f xs hU (by omega), Option.bind_some, Option.bind_some, impl_Unpad_f xs hU (by omega), Option.bind_some, if_pos rfl, laws_FnExactUnpad.j0, if_neg (by simp), tx _ (by omega), Option.bind_some, ex _ (by omega), Option.bind_some, if_pos rfl]

end Go.Proofs.Ytbibgmmoompoiaa.Pure
