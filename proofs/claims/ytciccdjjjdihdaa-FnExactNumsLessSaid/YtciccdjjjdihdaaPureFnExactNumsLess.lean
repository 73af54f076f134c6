/- The law FnExactNumsLess holds of the program: whatever its arguments (of the kinds and sizes that the statement names), it answers true. -/
import Derived.Test.YtciccdjjjdihdaaPFnExactNumsLessx2
import Derived.Test.YtciccdjjjdihdaaLib
import Derived.Test.YtciccdjjjdihdaaLibLane
set_option linter.unusedVariables false
set_option linter.unusedSimpArgs false
namespace Go.Proofs.Ytciccdjjjdihdaa.Pure
open Go.RowKit Go.Proofs.Ytciccdjjjdihdaa.PFnExactNumsLess Go.Proofs.YtciccdjjjdihdaaW.PrintWords Go.Proofs.YtciccdjjjdihdaaW.PrintLast Go.Proofs.Ytciccdjjjdihdaa.L 

theorem l03Bit_f {a : Nat} (ha : a < 2 ^ 64) {i : Nat} (hi : i < 64) : spec_l03Bit.f (a : Int) (i : Int) = some (a.testBit i) := by
  unfold spec_l03Bit.f
  rw [u64_id (Int.natCast_nonneg _) (by omega), if_pos (Int.natCast_nonneg _), bit_eq ha (by omega)]

theorem l03Bit_i {x : Int} (h0 : 0 ≤ x) (h1 : x < 2 ^ 64) {i : Nat} (hi : i < 64) : spec_l03Bit.f x (i : Int) = some (bitI x i) := by
  obtain ⟨n, rfl⟩ := Int.eq_ofNat_of_zero_le h0
  rw [l03Bit_f (by omega) hi, bitI, Int.toNat_natCast]

theorem l07Get_l0 (xs : List Int) (hx : U64s xs) (l : Nat) (hl : l < 64) (hn : xs.length ≤ 16) (d : Nat) : ∀ k, d ≤ xs.length → d < k →
    spec_l07Get.l0 k xs (l : Int) ((upN xs l xs.length (xs.length - d) : Nat) : Int) ((d : Int) - 1) = some ((laneN xs l xs.length : Nat) : Int) := by
  induction d with
  | zero =>
    intro k hd hk
    obtain ⟨k, rfl⟩ : ∃ q, k = q + 1 := ⟨k - 1, by omega⟩
    rw [spec_l07Get.l0, if_neg (by omega), Nat.sub_zero, upN_all]
  | succ d ih =>
    intro k hd hk
    obtain ⟨k, rfl⟩ : ∃ q, k = q + 1 := ⟨k - 1, by omega⟩
    have h := ih k (by omega) (by omega)
    have hb := hx d (by omega)
    have hu := upN_lt xs l xs.length (xs.length - (d + 1))
    have hp : 2 ^ (xs.length - (d + 1)) ≤ 2 ^ 16 := Nat.pow_le_pow_right (by decide) (by omega)
    rw [show xs.length - d = (xs.length - (d + 1)) + 1 from by omega, upN, show xs.length - (xs.length - (d + 1) + 1) = d from by omega] at h
    rw [show (((d + 1 : Nat) : Int) - 1) = (d : Int) from by omega, spec_l07Get.l0, if_pos (by omega), if_pos (by omega), if_pos (by omega), l03Bit_i hb.1 hb.2 hl, Option.bind_some]
    rw [w64 (n := 2 * ((upN xs l xs.length (xs.length - (d + 1)) : Nat) : Int)) (by omega) (by omega), w64 (n := 2 * ((upN xs l xs.length (xs.length - (d + 1)) : Nat) : Int) + 1) (by omega) (by omega), w64 (by omega) (by omega), ← h]
    cases bitI (rd xs (d : Int)) l <;> simp
theorem l07Get_f (xs : List Int) (hx : U64s xs) (l : Nat) (hl : l < 64) (hn : xs.length ≤ 16) {k : Nat} (hk : 16 < k) : spec_l07Get.f k xs (l : Int) = some ((laneN xs l xs.length : Nat) : Int) := by
  unfold spec_l07Get.f
  have := l07Get_l0 xs hx l hl hn xs.length k (Nat.le_refl _) (by omega)
  rw [Nat.sub_self] at this
  rw [w64 (by omega) (by omega)]
  exact this

theorem l06Power_l0 (n : Nat) : ∀ (k i : Nat), i + n ≤ 63 → n < k → spec_l06Power.l0 k (n : Int) ((2 ^ i : Nat) : Int) = some ((2 ^ (i + n) : Nat) : Int) := by
  induction n with
  | zero =>
    intro k i hi hk
    obtain ⟨k, rfl⟩ : ∃ q, k = q + 1 := ⟨k - 1, by omega⟩
    rw [spec_l06Power.l0, if_neg (by omega)]
    rfl
  | succ n ih =>
    intro k i hi hk
    obtain ⟨k, rfl⟩ : ∃ q, k = q + 1 := ⟨k - 1, by omega⟩
    have hp : 2 ^ (i + 1) ≤ 2 ^ 63 := Nat.pow_le_pow_right (by decide) (by omega)
    have hd := ih k (i + 1) (by omega) (by omega)
    rw [spec_l06Power.l0, if_pos (by omega), w64 (by omega) (by omega), u64_id (by rw [Nat.pow_succ] at hp; omega) (by rw [Nat.pow_succ] at hp; omega)]
    rw [show i + (n + 1) = i + 1 + n from by omega, ← hd, Nat.pow_succ]
    congr 1 <;> omega
theorem l06Power_f {n k : Nat} (hn : n ≤ 63) (hk : n < k) : spec_l06Power.f k (n : Int) = some ((2 ^ n : Nat) : Int) := by
  unfold spec_l06Power.f
  have := l06Power_l0 n k 0 (by omega) hk
  rw [Nat.zero_add] at this
  exact this

theorem impl_Select_f {m a b : Nat} (hm : m < 2 ^ 64) (ha : a < 2 ^ 64) : impl_Select.f (m : Int) (a : Int) (b : Int) = some ((selN m a b : Nat) : Int) := by
  unfold impl_Select.f selN
  rw [and_nat ha hm, andNot_nat, or_nat (Nat.lt_of_le_of_lt Nat.and_le_left ha) (andN_lt _ _)]

theorem spec_NumsLess_l0 (a b : List Int) (ha : U64s a) (hb : U64s b) (he : a.length = b.length) (hn : a.length ≤ 16) (d : Nat) : ∀ k i, i ≤ 64 → 64 - i = d → 2 * d + 80 < k →
    spec_NumsLess.l0 k a b ((sumN (fun l => decide (laneN a l a.length < laneN b l b.length)) i : Nat) : Int) (i : Int) = some ((sumN (fun l => decide (laneN a l a.length < laneN b l b.length)) 64 : Nat) : Int) := by
  induction d with
  | zero =>
    intro k i hi hd hk
    obtain ⟨k, rfl⟩ : ∃ q, k = q + 1 + 1 := ⟨k - 2, by omega⟩
    obtain rfl : i = 64 := by omega
    rw [spec_NumsLess.l0, if_neg (by omega), spec_NumsLess.j1, if_neg (by decide)]
  | succ d ih =>
    intro k i hi hd hk
    obtain ⟨k, rfl⟩ : ∃ q, k = q + 1 + 1 := ⟨k - 2, by omega⟩
    have h := ih k (i + 1) (by omega) (by omega) (by omega)
    have hs := sumN_lt (fun l => decide (laneN a l a.length < laneN b l b.length)) i
    have hp : 2 ^ i ≤ 2 ^ 63 := Nat.pow_le_pow_right (by decide) (by omega)
    rw [sumN] at h
    rw [spec_NumsLess.l0, if_pos (by omega), spec_l07Twins.f, if_pos (by omega), Option.bind_some, spec_NumsLess.j1, if_pos (decide_eq_true (by omega)), l07Get_f a ha i (by omega) hn (by omega), l07Get_f b hb i (by omega) (by omega) (by omega)]
    simp only [Option.bind_some]
    rw [l06Power_f (by omega) (by omega), Option.bind_some, w64 (by omega) (by omega)]
    generalize sumN (fun l => decide (laneN a l a.length < laneN b l b.length)) i = u at *
    by_cases hlt : laneN a i a.length < laneN b i b.length
    · rw [if_pos (by omega), u64_id (by omega) (by omega)]
      rw [decide_eq_true hlt] at h
      simp only [Bool.toNat_true, Nat.one_mul] at h
      exact h
    · rw [if_neg (by omega)]
      rw [decide_eq_false hlt] at h
      simp only [Bool.toNat_false, Nat.zero_mul, Nat.add_zero] at h
      exact h
theorem impl_numsLess_l0 (a b : List Int) (ha : U64s a) (hb : U64s b) (he : a.length = b.length) (hn : a.length ≤ 16) (d : Nat) : ∀ k i (v : Nat), i ≤ a.length → a.length - i = d → d < k → v < 2 ^ 64 →
    (∀ l, l < 64 → v.testBit l = decide (laneN a l i < laneN b l i)) →
    ∃ r : Nat, impl_numsLess.l0 k a b (v : Int) (a.length : Int) (i : Int) = some (r : Int) ∧ r < 2 ^ 64 ∧ ∀ l, l < 64 → r.testBit l = decide (laneN a l a.length < laneN b l b.length) := by
  induction d with
  | zero =>
    intro k i v hi hd hk hv hbit
    obtain ⟨k, rfl⟩ : ∃ q, k = q + 1 := ⟨k - 1, by omega⟩
    obtain rfl : i = a.length := by omega
    refine ⟨v, ?_, hv, fun l hl => ?_⟩
    · rw [impl_numsLess.l0, if_neg (by omega)]
    · rw [hbit l hl, he]
  | succ d ih =>
    intro k i v hi hd hk hv hbit
    obtain ⟨k, rfl⟩ : ∃ q, k = q + 1 := ⟨k - 1, by omega⟩
    have h1 := ha i (by omega)
    have h2 := hb i (by omega)
    obtain ⟨x, hx⟩ := Int.eq_ofNat_of_zero_le h1.1
    obtain ⟨y, hy⟩ := Int.eq_ofNat_of_zero_le h2.1
    have hxy : x ^^^ y < 2 ^ 64 := Nat.xor_lt_two_pow (by omega) (by omega)
    obtain ⟨r, hr, hr2⟩ := ih k (i + 1) (selN (x ^^^ y) y v) (by omega) (by omega) (by omega) (selN_lt (by omega)) (fun l hl => by
      have e1 : bitI (rd a (i : Int)) l = x.testBit l := by rw [hx, bitI, Int.toNat_natCast]
      have e2 : bitI (rd b (i : Int)) l = y.testBit l := by rw [hy, bitI, Int.toNat_natCast]
      have l1 := laneN_lt a l i
      have l2 := laneN_lt b l i
      rw [selN_bit hl, Nat.testBit_xor, hbit l hl, laneN, laneN, e1, e2]
      generalize laneN a l i = p at *
      generalize laneN b l i = q at *
      cases x.testBit l <;> cases y.testBit l <;> simp <;> omega)
    refine ⟨r, ?_, hr2⟩
    rw [← hr, impl_numsLess.l0, if_pos (by omega), if_pos (by omega), if_pos (by omega), if_pos (by omega), hx, hy, xor_nat (by omega) (by omega), impl_Select_f hxy (by omega), Option.bind_some, w64 (by omega) (by omega)]
    rfl

theorem toUint64S_l0 (xs : List Int) (hx : xs.length ≤ 1048576) (d : Nat) : ∀ (k i : Nat) (ys : List Int), ys.length = xs.length → i ≤ xs.length → xs.length - i = d → d < k → ys.take i = xs.take i →
    laws_toUint64S.l0 k xs ys (i : Int) = some xs := by
  induction d with
  | zero =>
    intro k i ys hl hi hd hk ht
    obtain ⟨k, rfl⟩ : ∃ q, k = q + 1 := ⟨k - 1, by omega⟩
    rw [laws_toUint64S.l0, if_neg (by omega)]
    rw [List.take_of_length_le (by omega), List.take_of_length_le (by omega)] at ht
    rw [ht]
  | succ d ih =>
    intro k i ys hl hi hd hk ht
    obtain ⟨k, rfl⟩ : ∃ q, k = q + 1 := ⟨k - 1, by omega⟩
    have h := ih k (i + 1) (ys.set i (rd xs (i : Int))) (by simp [hl]) (by omega) (by omega) (by omega) (set_copy xs ys i (by omega) hl ht)
    rw [laws_toUint64S.l0, if_pos (by omega), if_pos (by omega), if_pos (by omega), w64 (by omega) (by omega), Int.toNat_natCast]
    exact h
theorem toUint64S_f (xs : List Int) (hx : xs.length ≤ 1048576) {k : Nat} (hk : xs.length < k) : laws_toUint64S.f k xs = some xs := by
  unfold laws_toUint64S.f
  rw [if_pos (Int.natCast_nonneg _), if_pos (by omega)]
  exact toUint64S_l0 xs hx xs.length k 0 _ (by simp) (by omega) (by omega) hk (by simp)

theorem eqUint64S_l0 (xs ys : List Int) (hl : ys.length = xs.length) (hx : xs.length ≤ 1048576) (d : Nat) : ∀ (k i : Nat), i ≤ xs.length → xs.length - i = d → d < k →
    laws_eqUint64S.l0 k xs ys (i : Int) = some (decide (xs.drop i = ys.drop i)) := by
  induction d with
  | zero =>
    intro k i hi hd hk
    obtain ⟨k, rfl⟩ : ∃ q, k = q + 1 := ⟨k - 1, by omega⟩
    rw [laws_eqUint64S.l0, if_neg (by omega), List.drop_of_length_le (by omega), List.drop_of_length_le (by omega)]
    rfl
  | succ d ih =>
    intro k i hi hd hk
    obtain ⟨k, rfl⟩ : ∃ q, k = q + 1 := ⟨k - 1, by omega⟩
    have h := ih k (i + 1) (by omega) (by omega) (by omega)
    rw [laws_eqUint64S.l0, if_pos (by omega), if_pos (by omega), if_pos (by omega), w64 (by omega) (by omega)]
    rw [rd_lt (show i < xs.length by omega), rd_lt (show i < ys.length by omega)]
    rw [List.drop_eq_getElem_cons (show i < xs.length by omega), List.drop_eq_getElem_cons (show i < ys.length by omega)]
    by_cases e : xs[i]'(by omega) = ys[i]'(by omega)
    · rw [if_pos e]
      rw [show ((i : Int) + 1) = ((i + 1 : Nat) : Int) from rfl, h]
      congr 1
      rw [decide_eq_decide, e]
      exact ⟨fun h2 => by rw [h2], fun h2 => (List.cons.inj h2).2⟩
    · rw [if_neg e]
      congr 1
      symm
      rw [decide_eq_false_iff_not]
      intro h2
      exact e (List.cons.inj h2).1
theorem eqUint64S_f (xs ys : List Int) (hx : xs.length ≤ 1048576) {k : Nat} (hk : xs.length < k) : laws_eqUint64S.f k xs ys = some (decide (xs = ys)) := by
  unfold laws_eqUint64S.f
  by_cases h : xs.length = ys.length
  · rw [if_pos (by omega)]
    have := eqUint64S_l0 xs ys h.symm hx xs.length k 0 (by omega) (by omega) hk
    simpa using this
  · rw [if_neg (by omega)]
    congr 1
    symm
    rw [decide_eq_false_iff_not]
    intro e
    exact h (by rw [e])

theorem FnExactNumsLess : laws_FnExactNumsLess.Pure := by
  intro a b _ _ ha _ _ hb
  refine ⟨a.length + b.length + 300, ?_⟩
  unfold laws_FnExactNumsLess.f
  by_cases h1 : (a.length : Int) > 1048576
  · rw [if_pos h1]
  · by_cases h2 : (b.length : Int) > 1048576
    · rw [if_neg h1, if_pos h2]
    · rw [if_neg h1, if_neg h2, toUint64S_f a (by omega) (by omega), toUint64S_f b (by omega) (by omega)]
      have hn : spec_NumsLess.f (a.length + b.length + 300) a b = impl_NumsLess.f (a.length + b.length + 300) a b ∧ ∃ r, impl_NumsLess.f (a.length + b.length + 300) a b = some r := by
        unfold impl_NumsLess.f impl_areAlike.f spec_NumsLess.f impl_numsLess.f
        by_cases h3 : a.length = b.length ∧ a.length ≤ 16
        · obtain ⟨r, hr, hr1, hr2⟩ := impl_numsLess_l0 a b (U64s.of ha) (U64s.of hb) h3.1 h3.2 a.length (a.length + b.length + 300) 0 0 (by omega) (by omega) (by omega) (by decide) (fun l _ => by simp [laneN])
          have hs := spec_NumsLess_l0 a b (U64s.of ha) (U64s.of hb) h3.1 h3.2 64 (a.length + b.length + 300) 0 (by omega) (by omega) (by omega)
          rw [if_pos (by omega), Option.bind_some, if_pos (decide_eq_true (by omega))]
          rw [show ((0 : Nat) : Int) = 0 from rfl] at hr hs
          rw [show ((sumN (fun l => decide (laneN a l a.length < laneN b l b.length)) 0 : Nat) : Int) = 0 from rfl] at hs
          rw [hr, hs]
          refine ⟨?_, r, rfl⟩
          rw [Option.bind_some]
          congr 2
          exact eq_bits (sumN_lt _ 64) hr1 (fun i hi => by rw [sumN_bit _ 64 hi, hr2 i hi])
        · have hs : spec_NumsLess.l0 (a.length + b.length + 300) a b 0 0 = some 0 := by
            rw [show a.length + b.length + 300 = (a.length + b.length + 298) + 1 + 1 from by omega, spec_NumsLess.l0, if_pos (by omega), spec_l07Twins.f]
            by_cases h4 : a.length = b.length
            · rw [if_pos (by omega), Option.bind_some, spec_NumsLess.j1, if_neg (by simp; omega)]
            · rw [if_neg (by omega), Option.bind_some, spec_NumsLess.j1, if_neg (by decide)]
          rw [hs]
          by_cases h4 : a.length = b.length
          · rw [if_pos (by omega), Option.bind_some, if_neg (by simp; omega)]
            exact ⟨rfl, 0, rfl⟩
          · rw [if_neg (by omega), Option.bind_some, if_neg (by decide)]
            exact ⟨rfl, 0, rfl⟩
      obtain ⟨h3, r, h4⟩ := hn
      simp only [Option.bind_some, h3, h4, eqUint64S_f a a (by omega) (show a.length < a.length + b.length + 300 by omega), eqUint64S_f b b (by omega) (show b.length < a.length + b.length + 300 by omega)]
      simp

end Go.Proofs.Ytciccdjjjdihdaa.Pure
