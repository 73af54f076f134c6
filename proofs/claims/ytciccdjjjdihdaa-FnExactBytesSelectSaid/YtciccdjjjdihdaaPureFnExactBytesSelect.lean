/- The law FnExactBytesSelect holds of the program: whatever its arguments (of the kinds and sizes that the statement names), it answers true. -/
import Derived.Test.YtciccdjjjdihdaaQFnExactBytesSelectx3
import Derived.Test.YtciccdjjjdihdaaLib
import Derived.Test.YtciccdjjjdihdaaLibBytes
set_option linter.unusedVariables false
set_option linter.unusedSimpArgs false
namespace Go.Proofs.Ytciccdjjjdihdaa.Pure
open Go.RowKit Go.Proofs.Ytciccdjjjdihdaa.PFnExactBytesSelect Go.Proofs.YtciccdjjjdihdaaW.PrintWords Go.Proofs.YtciccdjjjdihdaaW.PrintLast Go.Proofs.Ytciccdjjjdihdaa.L 

theorem impl_BytesSelect_l0 (m : Nat) (xs ys : List Int) (hx : U8s xs) (hy : U8s ys) (hl : xs.length = ys.length) (hn : xs.length ≤ 4096) (d : Nat) : ∀ (k i : Nat) (zs : List Int), zs.length = xs.length → i ≤ xs.length → xs.length - i = d → d < k → zs.take i = selL m xs ys i →
    impl_BytesSelect.l0 k (m : Int) xs ys zs (xs.length : Int) (i : Int) = some (selL m xs ys xs.length) := by
  induction d with
  | zero =>
    intro k i zs hz hi hd hk ht
    obtain ⟨k, rfl⟩ : ∃ q, k = q + 1 := ⟨k - 1, by omega⟩
    obtain rfl : i = xs.length := by omega
    rw [impl_BytesSelect.l0, if_neg (by omega), ← ht, List.take_of_length_le (by omega)]
  | succ d ih =>
    intro k i zs hz hi hd hk ht
    obtain ⟨k, rfl⟩ : ∃ q, k = q + 1 := ⟨k - 1, by omega⟩
    have h1 := hx i (by omega)
    have h2 := hy i (by omega)
    obtain ⟨x, ex⟩ := Int.eq_ofNat_of_zero_le h1.1
    obtain ⟨y, ey⟩ := Int.eq_ofNat_of_zero_le h2.1
    rw [impl_BytesSelect.l0, if_pos (by omega), if_pos (by omega), if_pos (by omega), if_pos (by omega), if_pos (by omega), w64 (by omega) (by omega), Int.toNat_natCast, ex, ey, sel8 m x y (by omega) (by omega)]
    refine ih k (i + 1) _ (by simp [hz]) (by omega) (by omega) (by omega) ?_
    rw [take_set_snoc _ _ _ (by omega), ht, selL_succ, ex, ey, Int.toNat_natCast, Int.toNat_natCast]
theorem impl_BytesSelect_f (m : Nat) (xs ys : List Int) (hx : U8s xs) (hy : U8s ys) {k : Nat} (hk : 4100 < k) : impl_BytesSelect.f k (m : Int) xs ys = some (bsel m xs ys) := by
  obtain ⟨k, rfl⟩ : ∃ q, k = q + 1 := ⟨k - 1, by omega⟩
  unfold impl_BytesSelect.f bsel
  by_cases h : xs.length = ys.length
  · rw [if_pos (by omega), impl_BytesSelect.j0]
    by_cases h2 : xs.length ≤ 4096
    · rw [if_neg (by simp; omega), if_pos (by omega), if_pos (by omega), Option.bind_some, if_pos ⟨h, h2⟩, Int.toNat_natCast, List.length_replicate]
      exact impl_BytesSelect_l0 m xs ys hx hy h h2 xs.length k 0 _ (by simp) (by omega) (by omega) (by omega) (by simp [selL])
    · rw [if_pos (by simp; omega), if_neg (by omega)]
  · rw [if_neg (by omega), impl_BytesSelect.j0, if_pos rfl, if_neg (by omega)]

theorem l03Bit_f {a : Nat} (ha : a < 2 ^ 64) {i : Nat} (hi : i < 64) : spec_l03Bit.f (a : Int) (i : Int) = some (a.testBit i) := by
  unfold spec_l03Bit.f
  rw [u64_id (Int.natCast_nonneg _) (by omega), if_pos (Int.natCast_nonneg _), bit_eq ha (by omega)]

theorem spec_Select_step {m a b : Nat} (hm : m < 2 ^ 64) (ha : a < 2 ^ 64) (hb : b < 2 ^ 64) {i : Nat} (hi : i < 64) {v : Nat} (hv : 2 * v + 1 < 2 ^ 64) (k : Nat) :
    spec_Select.l0 (k + 1) (m : Int) (a : Int) (b : Int) (v : Int) (i : Int) = spec_Select.l0 k (m : Int) (a : Int) (b : Int) ((2 * v + ((selN m a b).testBit i).toNat : Nat) : Int) ((i : Int) - 1) := by
  rw [spec_Select.l0, if_pos (by omega)]
  simp only [l03Bit_f hm hi, l03Bit_f ha hi, l03Bit_f hb hi, Option.bind_some]
  rw [w64 (by omega) (by omega), u64_id (n := 2 * (v : Int)) (by omega) (by omega), u64_id (by omega) (by omega), selN_bit hi]
  cases m.testBit i <;> cases a.testBit i <;> cases b.testBit i <;> simp
theorem spec_Select_l0 {m a b : Nat} (hm : m < 2 ^ 64) (ha : a < 2 ^ 64) (hb : b < 2 ^ 64) (i : Nat) : ∀ k, i + 1 < k → i < 64 →
    spec_Select.l0 k (m : Int) (a : Int) (b : Int) ((selN m a b / 2 ^ (i + 1) : Nat) : Int) (i : Int) = some ((selN m a b : Nat) : Int) := by
  have hlt := selN_lt (m := m) (a := a) (b := b) ha
  induction i with
  | zero =>
    intro k hk hi
    obtain ⟨k, rfl⟩ : ∃ q, k = q + 1 + 1 := ⟨k - 2, by omega⟩
    rw [spec_Select_step hm ha hb hi (by simp only [Nat.zero_add, Nat.pow_one]; omega), ← div_step, spec_Select.l0, if_neg (by omega)]
    simp
  | succ i ih =>
    intro k hk hi
    obtain ⟨k, rfl⟩ : ∃ q, k = q + 1 := ⟨k - 1, by omega⟩
    have hq : selN m a b / 2 ^ (i + 1 + 1) ≤ selN m a b / 2 := Nat.div_le_div_left (by rw [Nat.pow_succ]; have := Nat.two_pow_pos (i + 1); omega) (by decide)
    rw [spec_Select_step hm ha hb hi (by omega), ← div_step, show ((i + 1 : Nat) : Int) - 1 = (i : Int) from by omega]
    exact ih k (by omega) (by omega)
theorem spec_Select_f {m a b : Nat} (hm : m < 2 ^ 64) (ha : a < 2 ^ 64) (hb : b < 2 ^ 64) {k : Nat} (hk : 64 < k) : spec_Select.f k (m : Int) (a : Int) (b : Int) = some ((selN m a b : Nat) : Int) := by
  unfold spec_Select.f
  have := spec_Select_l0 hm ha hb 63 k hk (by decide)
  rw [Nat.div_eq_of_lt (selN_lt ha)] at this
  exact this

theorem spec_BytesSelect_l0 (m : Nat) (hm : m < 2 ^ 64) (xs ys : List Int) (hx : U8s xs) (hy : U8s ys) (hl : xs.length = ys.length) (hn : xs.length ≤ 4096) (d : Nat) : ∀ (k i : Nat), i ≤ xs.length → xs.length - i = d → d + 70 < k →
    spec_BytesSelect.l0 k (m : Int) xs ys (selL m xs ys i) (i : Int) = some (selL m xs ys xs.length) := by
  induction d with
  | zero =>
    intro k i hi hd hk
    obtain ⟨k, rfl⟩ : ∃ q, k = q + 1 := ⟨k - 1, by omega⟩
    obtain rfl : i = xs.length := by omega
    rw [spec_BytesSelect.l0, if_neg (by omega)]
  | succ d ih =>
    intro k i hi hd hk
    obtain ⟨k, rfl⟩ : ∃ q, k = q + 1 := ⟨k - 1, by omega⟩
    have h1 := hx i (by omega)
    have h2 := hy i (by omega)
    obtain ⟨x, ex⟩ := Int.eq_ofNat_of_zero_le h1.1
    obtain ⟨y, ey⟩ := Int.eq_ofNat_of_zero_le h2.1
    have h := ih k (i + 1) (by omega) (by omega) (by omega)
    rw [selL_succ, ex, ey, Int.toNat_natCast, Int.toNat_natCast] at h
    rw [spec_BytesSelect.l0, if_pos (by omega), if_pos (by omega), if_pos (by omega), ex, ey, u64_id (by omega) (by omega), u64_id (by omega) (by omega), spec_Select_f hm (by omega) (by omega) (by omega), Option.bind_some, if_pos (by rw [selL_length]; omega), w64 (by omega) (by omega)]
    exact h
theorem spec_BytesSelect_f (m : Nat) (hm : m < 2 ^ 64) (xs ys : List Int) (hx : U8s xs) (hy : U8s ys) {k : Nat} (hk : 4200 < k) : spec_BytesSelect.f k (m : Int) xs ys = some (bsel m xs ys) := by
  obtain ⟨k, rfl⟩ : ∃ q, k = q + 1 := ⟨k - 1, by omega⟩
  unfold spec_BytesSelect.f bsel
  by_cases h : xs.length = ys.length
  · rw [if_pos (by omega), spec_BytesSelect.j0]
    by_cases h2 : xs.length ≤ 4096
    · rw [if_neg (by simp; omega), if_pos ⟨h, h2⟩]
      exact spec_BytesSelect_l0 m hm xs ys hx hy h h2 xs.length k 0 (by omega) (by omega) (by omega)
    · rw [if_pos (by simp; omega), if_neg (by omega)]
  · rw [if_neg (by omega), spec_BytesSelect.j0, if_pos rfl, if_neg (by omega)]

theorem toByteS_l0 (xs : List Int) (hx : xs.length ≤ 140737488351232) (d : Nat) : ∀ (k i : Nat) (ys : List Int), ys.length = xs.length → i ≤ xs.length → xs.length - i = d → d < k → ys.take i = xs.take i →
    laws_toByteS.l0 k xs ys (i : Int) = some xs := by
  induction d with
  | zero =>
    intro k i ys hl hi hd hk ht
    obtain ⟨k, rfl⟩ : ∃ q, k = q + 1 := ⟨k - 1, by omega⟩
    rw [laws_toByteS.l0, if_neg (by omega)]
    rw [List.take_of_length_le (by omega), List.take_of_length_le (by omega)] at ht
    rw [ht]
  | succ d ih =>
    intro k i ys hl hi hd hk ht
    obtain ⟨k, rfl⟩ : ∃ q, k = q + 1 := ⟨k - 1, by omega⟩
    have h := ih k (i + 1) (ys.set i (rd xs (i : Int))) (by simp [hl]) (by omega) (by omega) (by omega) (set_copy xs ys i (by omega) hl ht)
    rw [laws_toByteS.l0, if_pos (by omega), if_pos (by omega), if_pos (by omega), w64 (by omega) (by omega), Int.toNat_natCast]
    exact h
theorem toByteS_f (xs : List Int) (hx : xs.length ≤ 140737488351232) {k : Nat} (hk : xs.length < k) : laws_toByteS.f k xs = some xs := by
  unfold laws_toByteS.f
  rw [if_pos (Int.natCast_nonneg _), if_pos (by omega)]
  exact toByteS_l0 xs hx xs.length k 0 _ (by simp) (by omega) (by omega) hk (by simp)

theorem eqByteS_l0 (xs ys : List Int) (hl : ys.length = xs.length) (hx : xs.length ≤ 140737488351232) (d : Nat) : ∀ (k i : Nat), i ≤ xs.length → xs.length - i = d → d < k →
    laws_eqByteS.l0 k xs ys (i : Int) = some (decide (xs.drop i = ys.drop i)) := by
  induction d with
  | zero =>
    intro k i hi hd hk
    obtain ⟨k, rfl⟩ : ∃ q, k = q + 1 := ⟨k - 1, by omega⟩
    rw [laws_eqByteS.l0, if_neg (by omega), List.drop_of_length_le (by omega), List.drop_of_length_le (by omega)]
    rfl
  | succ d ih =>
    intro k i hi hd hk
    obtain ⟨k, rfl⟩ : ∃ q, k = q + 1 := ⟨k - 1, by omega⟩
    have h := ih k (i + 1) (by omega) (by omega) (by omega)
    rw [laws_eqByteS.l0, if_pos (by omega), if_pos (by omega), if_pos (by omega), w64 (by omega) (by omega)]
    rw [rd_lt (show i < xs.length by omega), rd_lt (show i < ys.length by omega)]
    rw [List.drop_eq_getElem_cons (show i < xs.length by omega), List.drop_eq_getElem_cons (show i < ys.length by omega)]
    by_cases e : xs[i]'(by omega) = ys[i]'(by omega)
    · rw [if_pos e]
      rw [show ((i : Int) + 1) = ((i + 1 : Nat) : Int) from rfl, h]
      congr 1
      rw [decide_eq_decide, e]
      exact ⟨fun h2 => by rw [h2], fun h2 => (List.cons.inj h2).2⟩
    · rw [if_neg e]
      congr 1
      symm
      rw [decide_eq_false_iff_not]
      intro h2
      exact e (List.cons.inj h2).1
theorem eqByteS_f (xs ys : List Int) (hx : xs.length ≤ 140737488351232) {k : Nat} (hk : xs.length < k) : laws_eqByteS.f k xs ys = some (decide (xs = ys)) := by
  unfold laws_eqByteS.f
  by_cases h : xs.length = ys.length
  · rw [if_pos (by omega)]
    have := eqByteS_l0 xs ys h.symm hx xs.length k 0 (by omega) (by omega) hk
    simpa using this
  · rw [if_neg (by omega)]
    congr 1
    symm
    rw [decide_eq_false_iff_not]
    intro e
    exact h (by rw [e])

theorem markByteS_l0 (a : Int) (ha : 0 ≤ a) (hb : a ≤ 1000000000) (n : Nat) (hn : n ≤ 1048576) (d : Nat) : ∀ (k i : Nat) (zs : List Int), zs.length = n → i ≤ n → n - i = d → d < k → zs.take i = markL a i →
    laws_markByteS.l0 k zs (a + (i : Int)) (i : Int) = some (a + (n : Int), markL a n) := by
  induction d with
  | zero =>
    intro k i zs hz hi hd hk ht
    obtain ⟨k, rfl⟩ : ∃ q, k = q + 1 := ⟨k - 1, by omega⟩
    obtain rfl : i = n := by omega
    rw [laws_markByteS.l0, if_neg (by omega), ← ht, List.take_of_length_le (by omega)]
  | succ d ih =>
    intro k i zs hz hi hd hk ht
    obtain ⟨k, rfl⟩ : ∃ q, k = q + 1 := ⟨k - 1, by omega⟩
    rw [laws_markByteS.l0, if_pos (by omega), if_pos (by omega), w64 (by omega) (by omega), w64 (by omega) (by omega), Int.toNat_natCast, show a + (i : Int) + 1 = a + ((i + 1 : Nat) : Int) from by omega]
    refine ih k (i + 1) _ (by simp [hz]) (by omega) (by omega) (by omega) ?_
    rw [take_set_snoc _ _ _ (by omega), ht, markL_succ]
theorem markByteS_f (a : Int) (ha : 0 ≤ a) (hb : a ≤ 1000000000) (zs : List Int) (hn : zs.length ≤ 1048576) {k : Nat} (hk : zs.length < k) : laws_markByteS.f k zs a = some (a + (zs.length : Int), markL a zs.length) := by
  unfold laws_markByteS.f
  have := markByteS_l0 a ha hb zs.length hn zs.length k 0 zs rfl (by omega) (by omega) hk (by simp [markL])
  rw [show a + ((0 : Nat) : Int) = a from by omega] at this
  exact this
theorem heldByteS_l0 (a : Int) (ha : 0 ≤ a) (hb : a ≤ 1000000000) (n : Nat) (hn : n ≤ 1048576) (d : Nat) : ∀ (k i : Nat), i ≤ n → n - i = d → d < k →
    laws_heldByteS.l0 k (markL a n) (a + (i : Int)) (i : Int) = some (a + (n : Int)) := by
  induction d with
  | zero =>
    intro k i hi hd hk
    obtain ⟨k, rfl⟩ : ∃ q, k = q + 1 := ⟨k - 1, by omega⟩
    obtain rfl : i = n := by omega
    rw [laws_heldByteS.l0, markL_length, if_neg (by omega)]
  | succ d ih =>
    intro k i hi hd hk
    obtain ⟨k, rfl⟩ : ∃ q, k = q + 1 := ⟨k - 1, by omega⟩
    rw [laws_heldByteS.l0, markL_length, if_pos (by omega), if_pos (by omega), if_pos (rd_markL a (by omega)), w64 (by omega) (by omega), w64 (by omega) (by omega), show a + (i : Int) + 1 = a + ((i + 1 : Nat) : Int) from by omega]
    exact ih k (i + 1) (by omega) (by omega) (by omega)
theorem heldByteS_f (a : Int) (ha : 0 ≤ a) (hb : a ≤ 1000000000) (n : Nat) (hn : n ≤ 1048576) {k : Nat} (hk : n < k) : laws_heldByteS.f k (markL a n) a = some (a + (n : Int)) := by
  unfold laws_heldByteS.f
  have := heldByteS_l0 a ha hb n hn n k 0 (by omega) (by omega) hk
  rw [show a + ((0 : Nat) : Int) = a from by omega] at this
  exact this

theorem FnExactBytesSelect : laws_FnExactBytesSelect.Pure := by
  intro m xs ys hm _ _ hx _ _ hy
  obtain ⟨m, rfl, hm'⟩ := wf_u64 hm
  refine ⟨2097152 + 5000, ?_⟩
  unfold laws_FnExactBytesSelect.f
  by_cases h1 : (xs.length : Int) > 1048576
  · rw [if_pos h1]
  · by_cases h2 : (ys.length : Int) > 1048576
    · rw [if_neg h1, if_pos h2]
    · have hR := bsel_le m xs ys
      rw [if_neg h1, if_neg h2]
      simp only [toByteS_f xs (show xs.length ≤ 140737488351232 by omega) (show xs.length < 2097152 + 5000 by omega), toByteS_f ys (show ys.length ≤ 140737488351232 by omega) (show ys.length < 2097152 + 5000 by omega), Option.bind_some,
        spec_BytesSelect_f m hm' xs ys (U8s.of hx) (U8s.of hy) (show 4200 < 2097152 + 5000 by omega), impl_BytesSelect_f m xs ys (U8s.of hx) (U8s.of hy) (show 4100 < 2097152 + 5000 by omega),
        eqByteS_f (bsel m xs ys) (bsel m xs ys) (show (bsel m xs ys).length ≤ 140737488351232 by omega) (show (bsel m xs ys).length < 2097152 + 5000 by omega), eqByteS_f xs xs (show xs.length ≤ 140737488351232 by omega) (show xs.length < 2097152 + 5000 by omega), eqByteS_f ys ys (show ys.length ≤ 140737488351232 by omega) (show ys.length < 2097152 + 5000 by omega),
        markByteS_f 1 (by decide) (by decide) xs (by omega) (show xs.length < 2097152 + 5000 by omega), markByteS_f (1 + (xs.length : Int)) (by omega) (by omega) ys (by omega) (show ys.length < 2097152 + 5000 by omega), decide_true, if_true]
      rw [if_neg (by omega)]
      rw [laws_FnExactBytesSelect.j0, if_neg (by decide)]
      simp only [toByteS_f xs (show xs.length ≤ 140737488351232 by omega) (show xs.length < 2097151 + 5000 by omega), toByteS_f ys (show ys.length ≤ 140737488351232 by omega) (show ys.length < 2097151 + 5000 by omega), Option.bind_some, impl_BytesSelect_f m xs ys (U8s.of hx) (U8s.of hy) (show 4100 < 2097151 + 5000 by omega),
        eqByteS_f (bsel m xs ys) (bsel m xs ys) (show (bsel m xs ys).length ≤ 140737488351232 by omega) (show (bsel m xs ys).length < 2097151 + 5000 by omega), markByteS_f 1 (by decide) (by decide) (bsel m xs ys) (by omega) (show (bsel m xs ys).length < 2097151 + 5000 by omega), heldByteS_f 1 (by decide) (by decide) (bsel m xs ys).length (by omega) (show (bsel m xs ys).length < 2097151 + 5000 by omega), decide_true, if_true]
      rw [if_neg (by omega)]
      rw [if_neg (by omega)]

end Go.Proofs.Ytciccdjjjdihdaa.Pure
