/- The law FnExactLowBit holds of the program: whatever its arguments (of the kinds and sizes that the statement names), it answers true. -/
import Derived.Test.YtflbnknbknbomaaDoorQFnExactLowBitx1
import Derived.Test.YtflbnknbknbomaaDoorLib
set_option linter.unusedVariables false
set_option linter.unusedSimpArgs false
namespace Go.Proofs.YtflbnknbknbomaaDoor.Pure
open Go.RowKit Go.Proofs.YtflbnknbknbomaaDoor.PFnExactLowBit Go.Proofs.YtflbnknbknbomaaDoorW.PrintWords Go.Proofs.YtflbnknbknbomaaDoorW.PrintLast Go.Proofs.YtflbnknbknbomaaDoor.L 

theorem ctz_bits {x : Nat} (h0 : x ≠ 0) (h : x < 2 ^ 64) : (∀ i, i < Lib.ctz 64 x → x.testBit i = false) ∧ x.testBit (Lib.ctz 64 x) = true ∧ Lib.ctz 64 x < 64 := by
  obtain ⟨m, hm, hk⟩ := Lib.ctzFrom_spec 64 x (by omega) h
  have e : Lib.ctz 64 x = Lib.ctzFrom 64 x := by simp [Lib.ctz, h0]
  rw [e]
  generalize Lib.ctzFrom 64 x = c at *
  have ht : ∀ i, x.testBit i = (decide (c ≤ i) && (2 * m + 1).testBit (i - c)) := fun i => by rw [hm, Nat.mul_comm, Nat.testBit_mul_two_pow]
  refine ⟨fun i hi => ?_, ?_, hk⟩
  · rw [ht, decide_eq_false (by omega), Bool.false_and]
  · rw [ht, decide_eq_true (Nat.le_refl _), Bool.true_and, Nat.sub_self, Nat.testBit_zero]
    simp
theorem ctz_of {x c : Nat} (h : x < 2 ^ 64) (hc : x.testBit c = true) (hl : ∀ i, i < c → x.testBit i = false) : Lib.ctz 64 x = c := by
  have h0 : x ≠ 0 := by intro e; rw [e] at hc; simp at hc
  obtain ⟨b1, b2, _⟩ := ctz_bits h0 h
  rcases Nat.lt_trichotomy (Lib.ctz 64 x) c with h1 | h1 | h1
  · rw [hl _ h1] at b2; exact absurd b2 (by simp)
  · exact h1
  · rw [b1 _ h1] at hc; exact absurd hc (by simp)
theorem impl_LowBit_f {x : Nat} (h : x < 2 ^ 64) : impl_LowBit.f (x : Int) = some ((Lib.ctz 64 x : Nat) : Int) := by
  unfold impl_LowBit.f bits_TrailingZeros64.f
  rw [if_pos (by omega), if_pos (by omega), Option.bind_some, Int.toNat_natCast]

theorem l03Bit_f {a : Nat} (ha : a < 2 ^ 64) {i : Nat} (hi : i < 64) : spec_l03Bit.f (a : Int) (i : Int) = some (a.testBit i) := by
  unfold spec_l03Bit.f
  rw [u64_id (Int.natCast_nonneg _) (by omega), if_pos (Int.natCast_nonneg _), bit_eq ha (by omega)]

theorem spec_LowBit_l0 {x : Nat} (hx : x < 2 ^ 64) (c : Nat) (hc : c ≤ 64) (hb : c < 64 → x.testBit c = true) (hl : ∀ i, i < c → x.testBit i = false) (d : Nat) : ∀ k i, i + d = c → d < k → spec_LowBit.l0 k (x : Int) (i : Int) = some (c : Int) := by
  induction d with
  | zero =>
    intro k i hi hk
    obtain ⟨k, rfl⟩ : ∃ q, k = q + 1 := ⟨k - 1, by omega⟩
    obtain rfl : i = c := by omega
    rw [spec_LowBit.l0]
    by_cases h : i < 64
    · rw [if_pos (by omega), l03Bit_f hx h, Option.bind_some, if_pos (hb h)]
    · rw [if_neg (by omega)]
      congr 1
      omega
  | succ d ih =>
    intro k i hi hk
    obtain ⟨k, rfl⟩ : ∃ q, k = q + 1 := ⟨k - 1, by omega⟩
    have h := ih k (i + 1) (by omega) (by omega)
    rw [spec_LowBit.l0, if_pos (by omega), l03Bit_f hx (by omega), Option.bind_some, if_neg (by rw [hl i (by omega)]; decide), w64 (by omega) (by omega)]
    exact h
theorem FnExactLowBit : laws_FnExactLowBit.Pure := by
  intro x hx
  obtain ⟨x, rfl, hx'⟩ := wf_u64 hx
  refine ⟨70, ?_⟩
  have hs : spec_LowBit.f 70 (x : Int) = some ((Lib.ctz 64 x : Nat) : Int) := by
    unfold spec_LowBit.f
    by_cases h0 : x = 0
    · subst h0
      exact spec_LowBit_l0 hx' 64 (Nat.le_refl _) (fun h => absurd h (by decide)) (fun i _ => Nat.zero_testBit i) 64 70 0 rfl (by decide)
    · obtain ⟨b1, b2, b3⟩ := ctz_bits h0 hx'
      exact spec_LowBit_l0 hx' _ (by omega) (fun _ => b2) b1 (Lib.ctz 64 x) 70 0 (by omega) (by omega)
  unfold laws_FnExactLowBit.f
  rw [hs, Option.bind_some, impl_LowBit_f hx', Option.bind_some, if_pos rfl]

end Go.Proofs.YtflbnknbknbomaaDoor.Pure
