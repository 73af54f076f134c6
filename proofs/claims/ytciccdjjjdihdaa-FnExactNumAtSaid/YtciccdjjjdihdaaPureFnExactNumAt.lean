/- The law FnExactNumAt holds of the program: whatever its arguments (of the kinds and sizes that the statement names), it answers true. -/
import Derived.Test.YtciccdjjjdihdaaPFnExactNumAtx1
import Derived.Test.YtciccdjjjdihdaaLib
import Derived.Test.YtciccdjjjdihdaaLibLane
set_option linter.unusedVariables false
set_option linter.unusedSimpArgs false
namespace Go.Proofs.Ytciccdjjjdihdaa.Pure
open Go.RowKit Go.Proofs.Ytciccdjjjdihdaa.PFnExactNumAt Go.Proofs.YtciccdjjjdihdaaW.PrintWords Go.Proofs.YtciccdjjjdihdaaW.PrintLast Go.Proofs.Ytciccdjjjdihdaa.L 

theorem l03Bit_f {a : Nat} (ha : a < 2 ^ 64) {i : Nat} (hi : i < 64) : spec_l03Bit.f (a : Int) (i : Int) = some (a.testBit i) := by
  unfold spec_l03Bit.f
  rw [u64_id (Int.natCast_nonneg _) (by omega), if_pos (Int.natCast_nonneg _), bit_eq ha (by omega)]

theorem l03Bit_i {x : Int} (h0 : 0 ≤ x) (h1 : x < 2 ^ 64) {i : Nat} (hi : i < 64) : spec_l03Bit.f x (i : Int) = some (bitI x i) := by
  obtain ⟨n, rfl⟩ := Int.eq_ofNat_of_zero_le h0
  rw [l03Bit_f (by omega) hi, bitI, Int.toNat_natCast]

theorem l07Get_l0 (xs : List Int) (hx : U64s xs) (l : Nat) (hl : l < 64) (hn : xs.length ≤ 16) (d : Nat) : ∀ k, d ≤ xs.length → d < k →
    spec_l07Get.l0 k xs (l : Int) ((upN xs l xs.length (xs.length - d) : Nat) : Int) ((d : Int) - 1) = some ((laneN xs l xs.length : Nat) : Int) := by
  induction d with
  | zero =>
    intro k hd hk
    obtain ⟨k, rfl⟩ : ∃ q, k = q + 1 := ⟨k - 1, by omega⟩
    rw [spec_l07Get.l0, if_neg (by omega), Nat.sub_zero, upN_all]
  | succ d ih =>
    intro k hd hk
    obtain ⟨k, rfl⟩ : ∃ q, k = q + 1 := ⟨k - 1, by omega⟩
    have h := ih k (by omega) (by omega)
    have hb := hx d (by omega)
    have hu := upN_lt xs l xs.length (xs.length - (d + 1))
    have hp : 2 ^ (xs.length - (d + 1)) ≤ 2 ^ 16 := Nat.pow_le_pow_right (by decide) (by omega)
    rw [show xs.length - d = (xs.length - (d + 1)) + 1 from by omega, upN, show xs.length - (xs.length - (d + 1) + 1) = d from by omega] at h
    rw [show (((d + 1 : Nat) : Int) - 1) = (d : Int) from by omega, spec_l07Get.l0, if_pos (by omega), if_pos (by omega), if_pos (by omega), l03Bit_i hb.1 hb.2 hl, Option.bind_some]
    rw [w64 (n := 2 * ((upN xs l xs.length (xs.length - (d + 1)) : Nat) : Int)) (by omega) (by omega), w64 (n := 2 * ((upN xs l xs.length (xs.length - (d + 1)) : Nat) : Int) + 1) (by omega) (by omega), w64 (by omega) (by omega), ← h]
    cases bitI (rd xs (d : Int)) l <;> simp
theorem l07Get_f (xs : List Int) (hx : U64s xs) (l : Nat) (hl : l < 64) (hn : xs.length ≤ 16) {k : Nat} (hk : 16 < k) : spec_l07Get.f k xs (l : Int) = some ((laneN xs l xs.length : Nat) : Int) := by
  unfold spec_l07Get.f
  have := l07Get_l0 xs hx l hl hn xs.length k (Nat.le_refl _) (by omega)
  rw [Nat.sub_self] at this
  rw [w64 (by omega) (by omega)]
  exact this

theorem laneOf_l0 (xs : List Int) (hx : U64s xs) (l : Nat) (hl : l < 64) (hn : xs.length ≤ 16) (d : Nat) : ∀ k i, i ≤ xs.length → xs.length - i = d → d < k →
    impl_laneOf.l0 k (l : Int) ((laneN xs l i : Nat) : Int) xs (xs.length : Int) (i : Int) = some ((laneN xs l xs.length : Nat) : Int) := by
  induction d with
  | zero =>
    intro k i hi hd hk
    obtain ⟨k, rfl⟩ : ∃ q, k = q + 1 := ⟨k - 1, by omega⟩
    obtain rfl : i = xs.length := by omega
    rw [impl_laneOf.l0, if_neg (by omega)]
  | succ d ih =>
    intro k i hi hd hk
    obtain ⟨k, rfl⟩ : ∃ q, k = q + 1 := ⟨k - 1, by omega⟩
    have h := ih k (i + 1) (by omega) (by omega) (by omega)
    have hb := hx i (by omega)
    obtain ⟨x, hxv⟩ := Int.eq_ofNat_of_zero_le hb.1
    have hlt := laneN_lt xs l i
    have hp : 2 ^ (i + 1) ≤ 2 ^ 16 := Nat.pow_le_pow_right (by decide) (by omega)
    rw [Nat.pow_succ] at hp
    have hbv : bitI (rd xs (i : Int)) l = x.testBit l := by rw [hxv, bitI, Int.toNat_natCast]
    rw [laneN, hbv] at h
    rw [impl_laneOf.l0, if_pos (by omega), if_pos (by omega), if_pos (by omega), if_pos (by omega), hxv, bit_val (by omega) (by omega), w64 (n := (i : Int) + 1) (by omega) (by omega), ← h]
    have hb1 : (x.testBit l).toNat ≤ 1 := by cases x.testBit l <;> simp
    have hs : shl .i64 (((x.testBit l).toNat : Nat) : Int) (i : Int) = (((x.testBit l).toNat * 2 ^ i : Nat) : Int) := by
      unfold shl
      rw [Int.toNat_natCast, show min i IntKind.i64.bits = i from by simp only [IntKind.bits]; omega]
      rw [show (((x.testBit l).toNat : Nat) : Int) * 2 ^ i = (((x.testBit l).toNat * 2 ^ i : Nat) : Int) from by simp, IntKind.wrap_i64]
      have : (x.testBit l).toNat * 2 ^ i ≤ 1 * 2 ^ i := Nat.mul_le_mul_right _ hb1
      omega
    have hm : (x.testBit l).toNat * 2 ^ i ≤ 1 * 2 ^ i := Nat.mul_le_mul_right _ hb1
    rw [w64 (n := (((x.testBit l).toNat : Nat) : Int)) (by omega) (by omega), hs, or_i64 (by omega) (by omega), or_low _ hlt]
    rfl
theorem laneOf_f (xs : List Int) (hx : U64s xs) (l : Nat) (hl : l < 64) (hn : xs.length ≤ 16) {k : Nat} (hk : 16 < k) : impl_laneOf.f k xs (l : Int) = some ((laneN xs l xs.length : Nat) : Int) := by
  unfold impl_laneOf.f
  exact laneOf_l0 xs hx l hl hn xs.length k 0 (by omega) (by omega) (by omega)

theorem within_f (a b c : Int) : impl_within.f a b c = some (decide (b ≤ a ∧ a ≤ c)) := by
  unfold impl_within.f
  by_cases h : a ≥ b
  · rw [if_pos h]; congr 1; rw [decide_eq_decide]; omega
  · rw [if_neg h]; congr 1; symm; rw [decide_eq_false_iff_not]; omega

theorem toUint64S_l0 (xs : List Int) (hx : xs.length ≤ 1048576) (d : Nat) : ∀ (k i : Nat) (ys : List Int), ys.length = xs.length → i ≤ xs.length → xs.length - i = d → d < k → ys.take i = xs.take i →
    laws_toUint64S.l0 k xs ys (i : Int) = some xs := by
  induction d with
  | zero =>
    intro k i ys hl hi hd hk ht
    obtain ⟨k, rfl⟩ : ∃ q, k = q + 1 := ⟨k - 1, by omega⟩
    rw [laws_toUint64S.l0, if_neg (by omega)]
    rw [List.take_of_length_le (by omega), List.take_of_length_le (by omega)] at ht
    rw [ht]
  | succ d ih =>
    intro k i ys hl hi hd hk ht
    obtain ⟨k, rfl⟩ : ∃ q, k = q + 1 := ⟨k - 1, by omega⟩
    have h := ih k (i + 1) (ys.set i (rd xs (i : Int))) (by simp [hl]) (by omega) (by omega) (by omega) (set_copy xs ys i (by omega) hl ht)
    rw [laws_toUint64S.l0, if_pos (by omega), if_pos (by omega), if_pos (by omega), w64 (by omega) (by omega), Int.toNat_natCast]
    exact h
theorem toUint64S_f (xs : List Int) (hx : xs.length ≤ 1048576) {k : Nat} (hk : xs.length < k) : laws_toUint64S.f k xs = some xs := by
  unfold laws_toUint64S.f
  rw [if_pos (Int.natCast_nonneg _), if_pos (by omega)]
  exact toUint64S_l0 xs hx xs.length k 0 _ (by simp) (by omega) (by omega) hk (by simp)

theorem eqUint64S_l0 (xs ys : List Int) (hl : ys.length = xs.length) (hx : xs.length ≤ 1048576) (d : Nat) : ∀ (k i : Nat), i ≤ xs.length → xs.length - i = d → d < k →
    laws_eqUint64S.l0 k xs ys (i : Int) = some (decide (xs.drop i = ys.drop i)) := by
  induction d with
  | zero =>
    intro k i hi hd hk
    obtain ⟨k, rfl⟩ : ∃ q, k = q + 1 := ⟨k - 1, by omega⟩
    rw [laws_eqUint64S.l0, if_neg (by omega), List.drop_of_length_le (by omega), List.drop_of_length_le (by omega)]
    rfl
  | succ d ih =>
    intro k i hi hd hk
    obtain ⟨k, rfl⟩ : ∃ q, k = q + 1 := ⟨k - 1, by omega⟩
    have h := ih k (i + 1) (by omega) (by omega) (by omega)
    rw [laws_eqUint64S.l0, if_pos (by omega), if_pos (by omega), if_pos (by omega), w64 (by omega) (by omega)]
    rw [rd_lt (show i < xs.length by omega), rd_lt (show i < ys.length by omega)]
    rw [List.drop_eq_getElem_cons (show i < xs.length by omega), List.drop_eq_getElem_cons (show i < ys.length by omega)]
    by_cases e : xs[i]'(by omega) = ys[i]'(by omega)
    · rw [if_pos e]
      rw [show ((i : Int) + 1) = ((i + 1 : Nat) : Int) from rfl, h]
      congr 1
      rw [decide_eq_decide, e]
      exact ⟨fun h2 => by rw [h2], fun h2 => (List.cons.inj h2).2⟩
    · rw [if_neg e]
      congr 1
      symm
      rw [decide_eq_false_iff_not]
      intro h2
      exact e (List.cons.inj h2).1
theorem eqUint64S_f (xs ys : List Int) (hx : xs.length ≤ 1048576) {k : Nat} (hk : xs.length < k) : laws_eqUint64S.f k xs ys = some (decide (xs = ys)) := by
  unfold laws_eqUint64S.f
  by_cases h : xs.length = ys.length
  · rw [if_pos (by omega)]
    have := eqUint64S_l0 xs ys h.symm hx xs.length k 0 (by omega) (by omega) hk
    simpa using this
  · rw [if_neg (by omega)]
    congr 1
    symm
    rw [decide_eq_false_iff_not]
    intro e
    exact h (by rw [e])

theorem FnExactNumAt : laws_FnExactNumAt.Pure := by
  intro xs l _ hlen hx hl
  refine ⟨xs.length + 18, ?_⟩
  unfold laws_FnExactNumAt.f
  by_cases hbig : (xs.length : Int) > 1048576
  · rw [if_pos hbig]
  · rw [if_neg hbig, toUint64S_f xs (by omega) (by omega)]
    have hn : spec_NumAt.f (xs.length + 18) xs l = impl_NumAt.f (xs.length + 18) xs l ∧ ∃ r, impl_NumAt.f (xs.length + 18) xs l = some r := by
      unfold spec_NumAt.f impl_NumAt.f
      rw [within_f, Option.bind_some]
      by_cases h1 : (xs.length : Int) > 16
      · rw [if_pos h1, if_pos h1]
        simp
      · rw [if_neg h1, if_neg h1]
        by_cases h2 : l < 0
        · rw [if_pos h2, if_neg (by simp; omega)]; simp
        · rw [if_neg h2]
          by_cases h3 : l > 63
          · rw [if_pos h3, if_neg (by simp; omega)]; simp
          · obtain ⟨l, rfl⟩ := Int.eq_ofNat_of_zero_le (show 0 ≤ l by omega)
            rw [if_neg h3, if_pos (by simp; omega), l07Get_f xs (U64s.of hx) l (by omega) (by omega) (by omega), laneOf_f xs (U64s.of hx) l (by omega) (by omega) (by omega)]
            simp
    obtain ⟨h1, r, h2⟩ := hn
    simp only [Option.bind_some, h1, h2, eqUint64S_f xs xs (by omega) (show xs.length < xs.length + 18 by omega)]
    simp

end Go.Proofs.Ytciccdjjjdihdaa.Pure
