/- The law FnMaskBits holds of the program: whatever its arguments (of the kinds and sizes that the statement names), it answers true. -/
import Derived.Test.YtflbnknbknbomaaDoorQFnMaskBitsx1
import Derived.Test.YtflbnknbknbomaaDoorLib
import Derived.Test.YtflbnknbknbomaaDoorLibBytes
import Derived.Test.YtflbnknbknbomaaDoorLibPop
set_option linter.unusedVariables false
set_option linter.unusedSimpArgs false
namespace Go.Proofs.YtflbnknbknbomaaDoor.Pure
open Go.RowKit Go.Proofs.YtflbnknbknbomaaDoor.PFnMaskBits Go.Proofs.YtflbnknbknbomaaDoorW.PrintWords Go.Proofs.YtflbnknbknbomaaDoorW.PrintLast Go.Proofs.YtflbnknbknbomaaDoor.L 

theorem ctz_bits {x : Nat} (h0 : x ≠ 0) (h : x < 2 ^ 64) : (∀ i, i < Lib.ctz 64 x → x.testBit i = false) ∧ x.testBit (Lib.ctz 64 x) = true ∧ Lib.ctz 64 x < 64 := by
  obtain ⟨m, hm, hk⟩ := Lib.ctzFrom_spec 64 x (by omega) h
  have e : Lib.ctz 64 x = Lib.ctzFrom 64 x := by simp [Lib.ctz, h0]
  rw [e]
  generalize Lib.ctzFrom 64 x = c at *
  have ht : ∀ i, x.testBit i = (decide (c ≤ i) && (2 * m + 1).testBit (i - c)) := fun i => by rw [hm, Nat.mul_comm, Nat.testBit_mul_two_pow]
  refine ⟨fun i hi => ?_, ?_, hk⟩
  · rw [ht, decide_eq_false (by omega), Bool.false_and]
  · rw [ht, decide_eq_true (Nat.le_refl _), Bool.true_and, Nat.sub_self, Nat.testBit_zero]
    simp
theorem ctz_of {x c : Nat} (h : x < 2 ^ 64) (hc : x.testBit c = true) (hl : ∀ i, i < c → x.testBit i = false) : Lib.ctz 64 x = c := by
  have h0 : x ≠ 0 := by intro e; rw [e] at hc; simp at hc
  obtain ⟨b1, b2, _⟩ := ctz_bits h0 h
  rcases Nat.lt_trichotomy (Lib.ctz 64 x) c with h1 | h1 | h1
  · rw [hl _ h1] at b2; exact absurd b2 (by simp)
  · exact h1
  · rw [b1 _ h1] at hc; exact absurd hc (by simp)
theorem impl_LowBit_f {x : Nat} (h : x < 2 ^ 64) : impl_LowBit.f (x : Int) = some ((Lib.ctz 64 x : Nat) : Int) := by
  unfold impl_LowBit.f bits_TrailingZeros64.f
  rw [if_pos (by omega), if_pos (by omega), Option.bind_some, Int.toNat_natCast]

theorem lawsPick_step (L : List Int) (hU : U8s L) (hl : 0 < L.length) (hL : L.length ≤ 140737488351232) (a n x : Int) (i k : Nat) (hi : i < 3) (ha0 : 0 ≤ a) (ha : a ≤ 1000000000000) (hx0 : 0 ≤ x) (hx : x ≤ 1000000000000) :
    ∃ y, laws_pick.l0 (k + 1) L a n x (i : Int) = laws_pick.l0 k L a n y ((i + 1 : Nat) : Int) ∧ 0 ≤ y ∧ y ≤ 31 * x + 255 := by
  have hm0 : 0 ≤ Int.tmod (a + (i : Int)) (L.length : Int) := Int.tmod_nonneg _ (by omega)
  have hm1 : Int.tmod (a + (i : Int)) (L.length : Int) < (L.length : Int) := Int.tmod_lt_of_pos _ (by omega)
  have hb := hU (Int.tmod (a + (i : Int)) (L.length : Int)).toNat (by omega)
  rw [Int.toNat_of_nonneg hm0] at hb
  refine ⟨31 * x + rd L (Int.tmod (a + (i : Int)) (L.length : Int)), ?_, by omega, by omega⟩
  rw [laws_pick.l0, if_pos (by omega), if_neg (by omega), w64 (n := a + (i : Int)) (by omega) (by omega), if_pos hm0, if_pos hm1, w64 (n := 31 * x) (by omega) (by omega), w64 (n := rd L (Int.tmod (a + (i : Int)) (L.length : Int))) (by omega) (by omega), w64 (n := 31 * x + _) (by omega) (by omega), w64 (n := (i : Int) + 1) (by omega) (by omega)]
  rfl
theorem lawsPick_f (L : List Int) (hU : U8s L) (hL : L.length ≤ 140737488351232) (a n : Int) (ha0 : 0 ≤ a) (ha : a ≤ 1000000000) (hn : 1 ≤ n) {k : Nat} (hk : 5 < k) : ∃ r, laws_pick.f k L a n = some r ∧ 0 ≤ r ∧ r < n := by
  obtain ⟨k, rfl⟩ : ∃ q, k = q + 1 + 1 + 1 + 1 + 1 := ⟨k - 5, by omega⟩
  unfold laws_pick.f
  by_cases h : (L.length : Int) = 0
  · rw [if_pos h, laws_pick.j0, if_pos rfl]
    exact ⟨0, rfl, by omega, by omega⟩
  · rw [if_neg h, laws_pick.j0]
    by_cases h2 : n < 2
    · rw [if_pos (decide_eq_true h2)]
      exact ⟨0, rfl, by omega, by omega⟩
    · rw [if_neg (by simpa using h2)]
      obtain ⟨x, e1, x0, x1⟩ := lawsPick_step L hU (by omega) hL a n 0 0 (k + 1 + 1 + 1) (by decide) ha0 (by omega) (by decide) (by decide)
      obtain ⟨y, e2, y0, y1⟩ := lawsPick_step L hU (by omega) hL a n x 1 (k + 1 + 1) (by decide) ha0 (by omega) x0 (by omega)
      obtain ⟨z, e3, z0, z1⟩ := lawsPick_step L hU (by omega) hL a n y 2 (k + 1) (by decide) ha0 (by omega) y0 (by omega)
      have e1' : laws_pick.l0 (k + 1 + 1 + 1 + 1) L a n 0 0 = laws_pick.l0 (k + 1 + 1 + 1) L a n x ((0 + 1 : Nat) : Int) := e1
      refine ⟨_, e1'.trans (e2.trans (e3.trans ?_)), Int.tmod_nonneg _ (show 0 ≤ z + a by omega), Int.tmod_lt_of_pos _ (by omega)⟩
      rw [laws_pick.l0, if_neg (by omega), if_neg (by omega), w64 (by omega) (by omega)]

theorem OnesCount64_f {x : Nat} (hx : x < 2 ^ 64) : bits_OnesCount64.f (x : Int) = some ((popN x 64 : Nat) : Int) := by
  have a1 : Go.bits .and .u64 ((x : Int) / 2) 6148914691236517205 = ((x / 2 &&& rep8 85 8 : Nat) : Int) := by
    rw [show ((x : Int) / 2) = ((x / 2 : Nat) : Int) from by omega]
    exact and_nat (by omega) (by decide)
  have a2 : Go.bits .and .u64 (x : Int) 6148914691236517205 = ((x &&& rep8 85 8 : Nat) : Int) := and_nat hx (by decide)
  have l1 := s1_lt hx
  have b1 : IntKind.u64.wrap (((x / 2 &&& rep8 85 8 : Nat) : Int) + ((x &&& rep8 85 8 : Nat) : Int)) = ((s1 8 x : Nat) : Int) := by
    unfold s1 at l1 ⊢
    rw [u64_id (by omega) (by omega)]
    omega
  have a3 : Go.bits .and .u64 (((s1 8 x : Nat) : Int) / 4) 3689348814741910323 = ((s1 8 x / 4 &&& rep8 51 8 : Nat) : Int) := by
    rw [show (((s1 8 x : Nat) : Int) / 4) = ((s1 8 x / 4 : Nat) : Int) from by omega]
    exact and_nat (by omega) (by decide)
  have a4 : Go.bits .and .u64 ((s1 8 x : Nat) : Int) 3689348814741910323 = ((s1 8 x &&& rep8 51 8 : Nat) : Int) := and_nat l1 (by decide)
  have l2 := s2_lt (x := s1 8 x)
  have b2 : IntKind.u64.wrap (((s1 8 x / 4 &&& rep8 51 8 : Nat) : Int) + ((s1 8 x &&& rep8 51 8 : Nat) : Int)) = ((s2 8 (s1 8 x) : Nat) : Int) := by
    unfold s2 at l2 ⊢
    rw [u64_id (by omega) (by omega)]
    omega
  have b3 : Go.bits .and .u64 (IntKind.u64.wrap (((s2 8 (s1 8 x) : Nat) : Int) / 16 + ((s2 8 (s1 8 x) : Nat) : Int))) 1085102592571150095 = ((cnt8 8 x : Nat) : Int) := by
    rw [← s123 8 x]
    generalize s2 8 (s1 8 x) = u at *
    rw [u64_id (by omega) (by omega), show ((u : Int) / 16 + (u : Int)) = ((u / 16 + u : Nat) : Int) from by omega]
    exact and_nat (by omega) (by decide)
  unfold bits_OnesCount64.f
  rw [a1, a2, b1, a3, a4, b2, b3]
  obtain ⟨p0, p1, p2, p3, p4, p5, p6, p7, h0, h1, h2, h3, h4, h5, h6, h7, hc, hp⟩ := cnt8_all x
  obtain ⟨A, z, w, eA, ez, ew, ly, lA, lz, lw, hw⟩ := fold8 h0 h1 h2 h3 h4 h5 h6 h7 hc
  generalize cnt8 8 x = y at *
  clear hc h0 h1 h2 h3 h4 h5 h6 h7
  have c1 : IntKind.u64.wrap ((y : Int) + (y : Int) / 256) = (A : Int) := by
    rw [u64_id (by omega) (by omega)]; omega
  rw [c1]
  have c2 : IntKind.u64.wrap ((A : Int) + (A : Int) / 65536) = (z : Int) := by
    rw [u64_id (by omega) (by omega)]; omega
  rw [c2]
  have c3 : IntKind.u64.wrap ((z : Int) + (z : Int) / 4294967296) = (w : Int) := by
    rw [u64_id (by omega) (by omega)]; omega
  rw [c3, w64 (by omega) (by omega)]
  have e : Go.bits .and .i64 (w : Int) 127 = ((w % 128 : Nat) : Int) := by
    have := bits_mask .i64 63 (by decide) (fun m h h' => by rw [IntKind.wrap_i64]; omega) 7 (by decide) (w : Int) (Int.natCast_nonneg _) (by omega)
    rw [show ((2 : Int) ^ 7 - 1) = 127 from rfl] at this
    rw [this]
    simp
  rw [e, hw, hp]

/-- the mask of the lowest bits -/
theorem impl_MaskLow_n {n : Nat} (hn : n < 64) : impl_MaskLow.f (n : Int) = some ((2 ^ n - 1 : Nat) : Int) := by
  unfold impl_MaskLow.f
  by_cases h : n = 0
  · subst h; rfl
  · rw [if_neg (by omega), if_neg (by omega), if_pos (by omega), shl_one hn]
    have hp := pow_lt64 hn
    have hp0 : 0 < 2 ^ n := Nat.two_pow_pos _
    generalize 2 ^ n = u at *
    rw [u64_id (by omega) (by omega)]
    congr 1
    omega

theorem impl_Select_f {m a b : Nat} (hm : m < 2 ^ 64) (ha : a < 2 ^ 64) : impl_Select.f (m : Int) (a : Int) (b : Int) = some ((selN m a b : Nat) : Int) := by
  unfold impl_Select.f selN
  rw [and_nat ha hm, andNot_nat, or_nat (Nat.lt_of_le_of_lt Nat.and_le_left ha) (andN_lt _ _)]

theorem popN_low (n : Nat) : ∀ j, popN (2 ^ n - 1) j = min n j
  | 0 => by simp [popN]
  | j + 1 => by
    rw [popN, popN_low n j, Nat.testBit_two_pow_sub_one]
    by_cases h : j < n
    · rw [decide_eq_true h]; simp; omega
    · rw [decide_eq_false h]; simp; omega
theorem selN_all {m : Nat} (hm : m < 2 ^ 64) : selN m m (2 ^ 64 - 1) = 2 ^ 64 - 1 :=
  eq_bits (selN_lt hm) (by decide) (fun i hi => by
    rw [selN_bit hi, Nat.testBit_two_pow_sub_one, decide_eq_true hi]
    cases m.testBit i <;> rfl)
theorem FnMaskBits : laws_FnMaskBits.Pure := by
  intro L _ hlen hL
  have hU := U8s.of hL
  refine ⟨11, ?_⟩
  unfold laws_FnMaskBits.f laws_big.f
  rw [Option.bind_some]
  by_cases hbig : (L.length : Int) > 1048576
  · rw [if_pos (decide_eq_true hbig)]
  · rw [if_neg (by simpa using hbig)]
    obtain ⟨r, e, r0, r1⟩ := lawsPick_f L hU (by omega) 1 64 (by decide) (by decide) (by decide) (show 5 < 11 by decide)
    obtain ⟨n, rfl⟩ := Int.eq_ofNat_of_zero_le r0
    have hn : n < 64 := by omega
    have hp := pow_lt64 hn
    have hp0 : 0 < 2 ^ n := Nat.two_pow_pos _
    have hm : 2 ^ n - 1 < 2 ^ 64 := by omega
    have hw : IntKind.u64.wrap (((2 ^ n - 1 : Nat) : Int) + 1) = ((2 ^ n : Nat) : Int) := by
      generalize 2 ^ n = u at *
      rw [u64_id (by omega) (by omega)]; omega
    have hc : Lib.ctz 64 (2 ^ n) = n := ctz_of hp (by rw [Nat.testBit_two_pow_self]) (fun i hi => by rw [Nat.testBit_two_pow]; simp; omega)
    have hz : impl_LowBit.f 0 = some 64 := impl_LowBit_f (x := 0) (by decide)
    have hsel := impl_Select_f (m := 2 ^ n - 1) (a := 2 ^ n - 1) (b := 2 ^ 64 - 1) hm hm
    rw [selN_all hm] at hsel
    have h64 : impl_MaskLow.f 64 = some ((2 ^ 64 - 1 : Nat) : Int) := by rfl
    have hbc : impl_BitCount.f ((2 ^ n - 1 : Nat) : Int) = some (n : Int) := by
      unfold impl_BitCount.f
      rw [OnesCount64_f hm, Option.bind_some, popN_low, Nat.min_eq_left (by omega)]
    rw [e, Option.bind_some, impl_MaskLow_n hn, Option.bind_some, hbc, Option.bind_some, if_pos rfl, hw, impl_LowBit_f hp, Option.bind_some, hc, if_pos rfl, h64, Option.bind_some, hsel, Option.bind_some, Option.bind_some, if_pos rfl, hz, Option.bind_some]
    rfl

end Go.Proofs.YtflbnknbknbomaaDoor.Pure
