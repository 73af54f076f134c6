/- The law FnExactMaskLow holds of the program: whatever its arguments (of the kinds and sizes that the statement names), it answers true. -/
import Derived.Test.YtjkecljcgkkkjaaPFnExactMaskLowx1
import Derived.Test.YtjkecljcgkkkjaaLib
set_option linter.unusedVariables false
set_option linter.unusedSimpArgs false
namespace Go.Proofs.Ytjkecljcgkkkjaa.Pure
open Go.RowKit Go.Proofs.Ytjkecljcgkkkjaa.PFnExactMaskLow Go.Proofs.YtjkecljcgkkkjaaW.PrintWords Go.Proofs.YtjkecljcgkkkjaaW.PrintLast Go.Proofs.Ytjkecljcgkkkjaa.L 

theorem spec_MaskLow_l0 (a : Int) (t : Nat) (ht : (t : Int) = mn a 64 ∨ (mn a 64 ≤ 0 ∧ t = 0)) (ht64 : t ≤ 64) (d : Nat) : ∀ (k i : Nat), i + d = t → d < k →
    spec_MaskLow.l0 k a ((2 ^ i - 1 : Nat) : Int) (i : Int) = some ((2 ^ t - 1 : Nat) : Int) := by
  induction d with
  | zero =>
    intro k i hi hk
    obtain ⟨k, rfl⟩ : ∃ q, k = q + 1 := ⟨k - 1, by omega⟩
    obtain rfl : i = t := by omega
    rw [spec_MaskLow.l0, if_neg (by omega)]
  | succ d ih =>
    intro k i hi hk
    obtain ⟨k, rfl⟩ : ∃ q, k = q + 1 := ⟨k - 1, by omega⟩
    have hd := ih k (i + 1) (by omega) (by omega)
    have hp : 2 ^ (i + 1) ≤ 2 ^ 64 := Nat.pow_le_pow_right (by decide) (by omega)
    have hp0 : 0 < 2 ^ i := Nat.two_pow_pos i
    rw [Nat.pow_succ] at hp hd
    rw [spec_MaskLow.l0, if_pos (by omega), w64 (by omega) (by omega)]
    rw [← hd]
    generalize 2 ^ i = u at *
    congr 1
    rw [u64_id (n := 2 * ((u - 1 : Nat) : Int)) (by omega) (by omega), u64_id (by omega) (by omega)]
    omega
/-- the mask of the lowest bits, for any number -/
def lowN (a : Int) : Nat := 2 ^ (min a.toNat 64) - 1
theorem lowN_lt (a : Int) : lowN a < 2 ^ 64 := by
  unfold lowN
  have hp : 2 ^ (min a.toNat 64) ≤ 2 ^ 64 := Nat.pow_le_pow_right (by decide) (by omega)
  have hp0 : 0 < 2 ^ (min a.toNat 64) := Nat.two_pow_pos _
  omega
theorem spec_MaskLow_f (a : Int) {k : Nat} (hk : 64 < k) : spec_MaskLow.f k a = some ((lowN a : Nat) : Int) := by
  unfold spec_MaskLow.f lowN
  refine spec_MaskLow_l0 a (min a.toNat 64) ?_ (by omega) (min a.toNat 64) k 0 (by omega) (by omega)
  unfold mn
  split <;> omega
theorem impl_MaskLow_f (a : Int) : impl_MaskLow.f a = some ((lowN a : Nat) : Int) := by
  unfold impl_MaskLow.f lowN
  by_cases h : a ≤ 0
  · rw [if_pos h, show min a.toNat 64 = 0 from by omega]; rfl
  · rw [if_neg h]
    by_cases h2 : a ≥ 64
    · rw [if_pos h2, show min a.toNat 64 = 64 from by omega]; rfl
    · rw [if_neg h2, if_pos (by omega)]
      obtain ⟨n, rfl⟩ := Int.eq_ofNat_of_zero_le (show 0 ≤ a by omega)
      rw [shl_one (by omega), Int.toNat_natCast, show min n 64 = n from by omega]
      have hp := pow_lt64 (i := n) (by omega)
      have hp0 : 0 < 2 ^ n := Nat.two_pow_pos _
      generalize 2 ^ n = u at *
      rw [u64_id (by omega) (by omega)]
      congr 1
      omega

theorem FnExactMaskLow : laws_FnExactMaskLow.Pure := by
  intro a _
  refine ⟨65, ?_⟩
  unfold laws_FnExactMaskLow.f
  rw [spec_MaskLow_f a (by decide), impl_MaskLow_f]
  simp

end Go.Proofs.Ytjkecljcgkkkjaa.Pure
