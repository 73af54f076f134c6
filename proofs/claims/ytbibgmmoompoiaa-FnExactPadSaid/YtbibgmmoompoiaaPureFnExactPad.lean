/- The law FnExactPad holds of the program: whatever its arguments (of the kinds and sizes that the statement names), it answers true. -/
import Derived.Test.YtbibgmmoompoiaaQFnExactPadx2
import Derived.Test.YtbibgmmoompoiaaLib
import Derived.Test.YtbibgmmoompoiaaLibTab
import Derived.Test.YtbibgmmoompoiaaLibLev
import Derived.Test.YtbibgmmoompoiaaLibBytes
set_option linter.unusedVariables false
set_option linter.unusedSimpArgs false
namespace Go.Proofs.Ytbibgmmoompoiaa.Pure
open Go.RowKit Go.Proofs.Ytbibgmmoompoiaa.PFnExactPad Go.Proofs.YtbibgmmoompoiaaW.PrintWords Go.Proofs.YtbibgmmoompoiaaW.PrintLast Go.Proofs.Ytbibgmmoompoiaa.L 

theorem within_f (a b c : Int) : impl_within.f a b c = some (decide (b ≤ a ∧ a ≤ c)) := by
  unfold impl_within.f
  by_cases h : a ≥ b
  · rw [if_pos h]; congr 1; rw [decide_eq_decide]; omega
  · rw [if_neg h]; congr 1; symm; rw [decide_eq_false_iff_not]; omega

theorem impl_isWord_l0 (s : ByteArray) (hs : s.size ≤ 140737488351232) (d : Nat) : ∀ (k i : Nat), i ≤ s.size → s.size - i = d → d < k →
    impl_isWord.l0 k s (s.size : Int) (i : Int) = some (okB s i && decide (1 ≤ s.size ∧ s.size ≤ 32)) := by
  induction d with
  | zero =>
    intro k i hi hd hk
    obtain ⟨k, rfl⟩ : ∃ q, k = q + 1 := ⟨k - 1, by omega⟩
    rw [impl_isWord.l0, if_neg (by omega), okB_end (by omega), within_f, Bool.true_and]
    simp only [Option.bind_some]
    congr 1
    rw [decide_eq_decide]; omega
  | succ d ih =>
    intro k i hi hd hk
    obtain ⟨k, rfl⟩ : ∃ q, k = q + 1 := ⟨k - 1, by omega⟩
    have h := ih k (i + 1) (by omega) (by omega) (by omega)
    rw [impl_isWord.l0, if_pos (by omega), if_pos (by omega), if_pos (by omega)]
    by_cases h1 : bt s (i : Int) < 97
    · rw [if_pos h1, okB_bad (by omega) (.inl h1)]; rfl
    · rw [if_neg h1]
      by_cases h2 : bt s (i : Int) > 122
      · rw [if_pos h2, okB_bad (by omega) (.inr h2)]; rfl
      · rw [if_neg h2, w64 (by omega) (by omega), okB_step (by omega) (by omega)]
        exact h
theorem impl_isWord_f (s : ByteArray) (hs : s.size ≤ 140737488351232) {k : Nat} (hk : s.size < k) : impl_isWord.f k s = some (wordB s) := by
  unfold impl_isWord.f wordB
  rw [Bool.and_comm]
  exact impl_isWord_l0 s hs s.size k 0 (by omega) (by omega) (by omega)

/-- the padded word -/
def padL (s : ByteArray) : List Int := if wordB s = true then (s.size : Int) :: (bytesOf s ++ List.replicate (32 - s.size) 0) else List.replicate 33 0
theorem wordB_size {s : ByteArray} (h : wordB s = true) : 1 ≤ s.size ∧ s.size ≤ 32 := by
  unfold wordB at h
  rw [Bool.and_eq_true, decide_eq_true_iff] at h
  exact h.1
theorem padL_length (s : ByteArray) : (padL s).length = 33 := by
  unfold padL
  by_cases h : wordB s = true
  · have := wordB_size h
    rw [if_pos h]
    simp [bytesOf_length]
    omega
  · rw [if_neg h]; simp
theorem impl_pad_f (s : ByteArray) (hs : s.size ≤ 140737488351232) {k : Nat} (hk : s.size < k) : impl_pad.f k s = some (padL s) := by
  unfold impl_pad.f padL
  rw [impl_isWord_f s hs hk, Option.bind_some]
  by_cases h : wordB s = true
  · have := wordB_size h
    rw [if_pos h, if_pos h, if_pos this.2]
  · rw [if_neg h, if_neg h]

theorem spec_WordOk_l0 (s : ByteArray) (hs : s.size ≤ 140737488351232) (d : Nat) : ∀ (k i : Nat), i ≤ s.size → s.size - i = d → d < k →
    spec_WordOk.l0 k s (i : Int) = some (okB s i) := by
  induction d with
  | zero =>
    intro k i hi hd hk
    obtain ⟨k, rfl⟩ : ∃ q, k = q + 1 := ⟨k - 1, by omega⟩
    rw [spec_WordOk.l0, if_neg (by omega), okB_end (by omega)]
  | succ d ih =>
    intro k i hi hd hk
    obtain ⟨k, rfl⟩ : ∃ q, k = q + 1 := ⟨k - 1, by omega⟩
    have h := ih k (i + 1) (by omega) (by omega) (by omega)
    rw [spec_WordOk.l0, if_pos (by omega), if_pos (by omega)]
    by_cases h1 : bt s (i : Int) < 97
    · rw [if_pos h1, okB_bad (by omega) (.inl h1)]
    · rw [if_neg h1]
      by_cases h2 : bt s (i : Int) > 122
      · rw [if_pos h2, okB_bad (by omega) (.inr h2)]
      · rw [if_neg h2, w64 (by omega) (by omega), okB_step (by omega) (by omega)]
        exact h
theorem spec_WordOk_f (s : ByteArray) (hs : s.size ≤ 140737488351232) {k : Nat} (hk : s.size + 1 < k) : spec_WordOk.f k s = some (wordB s) := by
  obtain ⟨k, rfl⟩ : ∃ q, k = q + 1 := ⟨k - 1, by omega⟩
  unfold spec_WordOk.f wordB
  by_cases h : (s.size : Int) < 1
  · rw [if_pos h, spec_WordOk.j0, if_pos rfl, decide_eq_false (by omega)]; rfl
  · rw [if_neg h, spec_WordOk.j0]
    by_cases h2 : (s.size : Int) > 32
    · rw [if_pos (by simp only [decide_eq_true_eq]; exact h2), decide_eq_false (by omega)]; rfl
    · rw [if_neg (by simp only [decide_eq_true_eq]; exact h2), decide_eq_true (by omega), Bool.true_and]
      exact spec_WordOk_l0 s hs s.size k 0 (by omega) (by omega) (by omega)

theorem bytesOf_getD (s : ByteArray) (i : Nat) : (bytesOf s).getD i 0 = bt s (i : Int) := by
  have := rd_bytesOf s (i : Int)
  unfold rd at this
  rw [Int.toNat_natCast] at this
  exact this
theorem spec_Pad_l0 (s : ByteArray) (hs : s.size ≤ 32) (d : Nat) : ∀ (k i : Nat) (ys : List Int), i + d = s.size → d < k → ys = (s.size : Int) :: ((bytesOf s).take i ++ List.replicate (32 - i) 0) →
    spec_Pad.l0 k s ys (i : Int) = some ((s.size : Int) :: (bytesOf s ++ List.replicate (32 - s.size) 0)) := by
  induction d with
  | zero =>
    intro k i ys hi hk hy
    obtain ⟨k, rfl⟩ : ∃ q, k = q + 1 := ⟨k - 1, by omega⟩
    obtain rfl : i = s.size := by omega
    rw [spec_Pad.l0, if_neg (by omega), hy, List.take_of_length_le (by rw [bytesOf_length]; omega)]
  | succ d ih =>
    intro k i ys hi hk hy
    obtain ⟨k, rfl⟩ : ∃ q, k = q + 1 := ⟨k - 1, by omega⟩
    have hl : ys.length = 33 := by rw [hy]; simp [bytesOf_length]; omega
    rw [spec_Pad.l0, if_pos (by omega), if_pos (by omega), w64 (by omega) (by omega), if_pos (by omega), if_pos (by omega)]
    refine ih k (i + 1) _ (by omega) (by omega) ?_
    rw [show ((i : Int) + 1).toNat = i + 1 from by omega, hy, List.set_cons_succ, List.set_append_right _ _ (by rw [List.length_take, bytesOf_length]; omega), List.length_take, bytesOf_length, show i - min i s.size = 0 from by omega, show 32 - i = (32 - (i + 1)) + 1 from by omega, List.replicate_succ, List.set_cons_zero, List.take_succ_eq_append_getElem (by rw [bytesOf_length]; omega), bytesOf_get s i (by omega)]
    simp
theorem spec_Pad_f (s : ByteArray) (hs : s.size ≤ 140737488351232) {k : Nat} (hk : s.size + 1 < k) : spec_Pad.f k s = some (padL s) := by
  unfold spec_Pad.f padL
  rw [if_pos (by decide), Option.bind_some, spec_WordOk_f s hs hk, Option.bind_some]
  by_cases h : wordB s = true
  · have := wordB_size h
    rw [if_pos h, if_pos h, if_pos (by decide)]
    refine spec_Pad_l0 s this.2 s.size k 0 _ (by omega) (by omega) ?_
    rw [List.replicate_succ, show Int.toNat 0 = 0 from rfl, List.set_cons_zero, show (s.size : Int) % 256 = (s.size : Int) from by omega]
    simp
  · rw [if_neg h, if_neg h]

theorem eqByteS_l0 (xs ys : List Int) (hl : ys.length = xs.length) (hx : xs.length ≤ 140737488351232) (d : Nat) : ∀ (k i : Nat), i ≤ xs.length → xs.length - i = d → d < k →
    laws_eqByteS.l0 k xs ys (i : Int) = some (decide (xs.drop i = ys.drop i)) := by
  induction d with
  | zero =>
    intro k i hi hd hk
    obtain ⟨k, rfl⟩ : ∃ q, k = q + 1 := ⟨k - 1, by omega⟩
    rw [laws_eqByteS.l0, if_neg (by omega), List.drop_of_length_le (by omega), List.drop_of_length_le (by omega)]
    rfl
  | succ d ih =>
    intro k i hi hd hk
    obtain ⟨k, rfl⟩ : ∃ q, k = q + 1 := ⟨k - 1, by omega⟩
    have h := ih k (i + 1) (by omega) (by omega) (by omega)
    rw [laws_eqByteS.l0, if_pos (by omega), if_pos (by omega), if_pos (by omega), w64 (by omega) (by omega)]
    rw [rd_lt (show i < xs.length by omega), rd_lt (show i < ys.length by omega)]
    rw [List.drop_eq_getElem_cons (show i < xs.length by omega), List.drop_eq_getElem_cons (show i < ys.length by omega)]
    by_cases e : xs[i]'(by omega) = ys[i]'(by omega)
    · rw [if_pos e]
      rw [show ((i : Int) + 1) = ((i + 1 : Nat) : Int) from rfl, h]
      congr 1
      rw [decide_eq_decide, e]
      exact ⟨fun h2 => by rw [h2], fun h2 => (List.cons.inj h2).2⟩
    · rw [if_neg e]
      congr 1
      symm
      rw [decide_eq_false_iff_not]
      intro h2
      exact e (List.cons.inj h2).1
theorem eqByteS_f (xs ys : List Int) (hx : xs.length ≤ 140737488351232) {k : Nat} (hk : xs.length < k) : laws_eqByteS.f k xs ys = some (decide (xs = ys)) := by
  unfold laws_eqByteS.f
  by_cases h : xs.length = ys.length
  · rw [if_pos (by omega)]
    have := eqByteS_l0 xs ys h.symm hx xs.length k 0 (by omega) (by omega) hk
    simpa using this
  · rw [if_neg (by omega)]
    congr 1
    symm
    rw [decide_eq_false_iff_not]
    intro e
    exact h (by rw [e])

theorem markByteS_l0 (a : Int) (ha : 0 ≤ a) (hb : a ≤ 1000000000) (n : Nat) (hn : n ≤ 1048576) (d : Nat) : ∀ (k i : Nat) (zs : List Int), zs.length = n → i ≤ n → n - i = d → d < k → zs.take i = markL a i →
    laws_markByteS.l0 k zs (a + (i : Int)) (i : Int) = some (a + (n : Int), markL a n) := by
  induction d with
  | zero =>
    intro k i zs hz hi hd hk ht
    obtain ⟨k, rfl⟩ : ∃ q, k = q + 1 := ⟨k - 1, by omega⟩
    obtain rfl : i = n := by omega
    rw [laws_markByteS.l0, if_neg (by omega), ← ht, List.take_of_length_le (by omega)]
  | succ d ih =>
    intro k i zs hz hi hd hk ht
    obtain ⟨k, rfl⟩ : ∃ q, k = q + 1 := ⟨k - 1, by omega⟩
    rw [laws_markByteS.l0, if_pos (by omega), if_pos (by omega), w64 (by omega) (by omega), w64 (by omega) (by omega), Int.toNat_natCast, show a + (i : Int) + 1 = a + ((i + 1 : Nat) : Int) from by omega]
    refine ih k (i + 1) _ (by simp [hz]) (by omega) (by omega) (by omega) ?_
    rw [take_set_snoc _ _ _ (by omega), ht, markL_succ]
theorem markByteS_f (a : Int) (ha : 0 ≤ a) (hb : a ≤ 1000000000) (zs : List Int) (hn : zs.length ≤ 1048576) {k : Nat} (hk : zs.length < k) : laws_markByteS.f k zs a = some (a + (zs.length : Int), markL a zs.length) := by
  unfold laws_markByteS.f
  have := markByteS_l0 a ha hb zs.length hn zs.length k 0 zs rfl (by omega) (by omega) hk (by simp [markL])
  rw [show a + ((0 : Nat) : Int) = a from by omega] at this
  exact this
theorem heldByteS_l0 (a : Int) (ha : 0 ≤ a) (hb : a ≤ 1000000000) (n : Nat) (hn : n ≤ 1048576) (d : Nat) : ∀ (k i : Nat), i ≤ n → n - i = d → d < k →
    laws_heldByteS.l0 k (markL a n) (a + (i : Int)) (i : Int) = some (a + (n : Int)) := by
  induction d with
  | zero =>
    intro k i hi hd hk
    obtain ⟨k, rfl⟩ : ∃ q, k = q + 1 := ⟨k - 1, by omega⟩
    obtain rfl : i = n := by omega
    rw [laws_heldByteS.l0, markL_length, if_neg (by omega)]
  | succ d ih =>
    intro k i hi hd hk
    obtain ⟨k, rfl⟩ : ∃ q, k = q + 1 := ⟨k - 1, by omega⟩
    rw [laws_heldByteS.l0, markL_length, if_pos (by omega), if_pos (by omega), if_pos (rd_markL a (by omega)), w64 (by omega) (by omega), w64 (by omega) (by omega), show a + (i : Int) + 1 = a + ((i + 1 : Nat) : Int) from by omega]
    exact ih k (i + 1) (by omega) (by omega) (by omega)
theorem heldByteS_f (a : Int) (ha : 0 ≤ a) (hb : a ≤ 1000000000) (n : Nat) (hn : n ≤ 1048576) {k : Nat} (hk : n < k) : laws_heldByteS.f k (markL a n) a = some (a + (n : Int)) := by
  unfold laws_heldByteS.f
  have := heldByteS_l0 a ha hb n hn n k 0 (by omega) (by omega) hk
  rw [show a + ((0 : Nat) : Int) = a from by omega] at this
  exact this

theorem FnExactPad : laws_FnExactPad.Pure := by
  intro s hs
  obtain ⟨K, hK⟩ : ∃ K : Nat, K = s.size + 100 := ⟨_, rfl⟩
  refine ⟨K, ?_⟩
  unfold laws_FnExactPad.f impl_Pad.f
  have hl := padL_length s
  by_cases h : (s.size : Int) > 1048576
  · rw [if_pos h]
  · have hm := markByteS_f 1 (by decide) (by decide) (padL s) (by omega) (k := K) (by omega)
    have hh := heldByteS_f 1 (by decide) (by decide) (padL s).length (by omega) (k := K) (by omega)
    have he := eqByteS_f (padL s) (padL s) (by omega) (k := K) (by omega)
    rw [decide_eq_true rfl] at he
    rw [if_neg h, spec_Pad_f s hs (by omega), Option.bind_some, impl_pad_f s hs (by omega), Option.bind_some, Option.bind_some, he, Option.bind_some, if_pos rfl, hm, Option.bind_some]
    dsimp only
    rw [hh, Option.bind_some, if_neg (by omega), if_pos rfl, Option.bind_some, he, Option.bind_some, if_pos rfl, Option.bind_some, if_neg (by omega), if_pos rfl]

end Go.Proofs.Ytbibgmmoompoiaa.Pure
