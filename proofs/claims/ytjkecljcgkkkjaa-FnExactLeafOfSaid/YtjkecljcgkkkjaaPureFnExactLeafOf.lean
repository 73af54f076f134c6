/- The law FnExactLeafOf holds of the program: whatever its arguments (of the kinds and sizes that the statement names), it answers true. -/
import Derived.Test.YtjkecljcgkkkjaaPFnExactLeafOfx1
import Derived.Test.YtjkecljcgkkkjaaLib
set_option linter.unusedVariables false
set_option linter.unusedSimpArgs false
namespace Go.Proofs.Ytjkecljcgkkkjaa.Pure
open Go.RowKit Go.Proofs.Ytjkecljcgkkkjaa.PFnExactLeafOf Go.Proofs.YtjkecljcgkkkjaaW.PrintWords Go.Proofs.YtjkecljcgkkkjaaW.PrintLast Go.Proofs.Ytjkecljcgkkkjaa.L 

theorem within_f (a b c : Int) : impl_within.f a b c = some (decide (b ≤ a ∧ a ≤ c)) := by
  unfold impl_within.f
  by_cases h : a ≥ b
  · rw [if_pos h]; congr 1; rw [decide_eq_decide]; omega
  · rw [if_neg h]; congr 1; symm; rw [decide_eq_false_iff_not]; omega

theorem l02Pow_l0 (n : Nat) : ∀ (k i : Nat), i + n ≤ 62 → n < k → spec_l02Pow.l0 k (n : Int) ((2 ^ i : Nat) : Int) = some ((2 ^ (i + n) : Nat) : Int) := by
  induction n with
  | zero =>
    intro k i hi hk
    obtain ⟨k, rfl⟩ : ∃ q, k = q + 1 := ⟨k - 1, by omega⟩
    rw [spec_l02Pow.l0, if_neg (by omega)]
    rfl
  | succ n ih =>
    intro k i hi hk
    obtain ⟨k, rfl⟩ : ∃ q, k = q + 1 := ⟨k - 1, by omega⟩
    have hp : 2 ^ (i + 1) ≤ 2 ^ 62 := Nat.pow_le_pow_right (by decide) (by omega)
    have hd := ih k (i + 1) (by omega) (by omega)
    rw [spec_l02Pow.l0, if_pos (by omega), w64 (by omega) (by omega), w64 (by rw [Nat.pow_succ] at hp; omega) (by rw [Nat.pow_succ] at hp; omega)]
    rw [show i + (n + 1) = i + 1 + n from by omega, ← hd, Nat.pow_succ]
    congr 1 <;> omega
theorem l02Pow_f {n k : Nat} (hn : n ≤ 62) (hk : n < k) : spec_l02Pow.f k (n : Int) = some ((2 ^ n : Nat) : Int) := by
  unfold spec_l02Pow.f
  have := l02Pow_l0 n k 0 (by omega) hk
  rw [Nat.zero_add] at this
  exact this

theorem leaf_and {d n : Nat} (hd : d ≤ 65535) (hn : n ≤ 6) : Go.bits .and .i64 (d : Int) (wrap64 ((shl .i64 1 (n : Int)) - 1)) = ((d % 2 ^ n : Nat) : Int) := by
  have hs : shl .i64 1 (n : Int) = (2 : Int) ^ n := by
    unfold shl
    rw [Int.toNat_natCast, show min n IntKind.i64.bits = n from by simp only [IntKind.bits]; omega, Int.one_mul]
    have : 2 ^ n ≤ 2 ^ 6 := Nat.pow_le_pow_right (by decide) hn
    rw [show (2 : Int) ^ n = ((2 ^ n : Nat) : Int) from by simp, IntKind.wrap_i64]
    generalize 2 ^ n = u at *
    omega
  have hp : (2 : Int) ^ n ≤ 64 := by
    have : 2 ^ n ≤ 2 ^ 6 := Nat.pow_le_pow_right (by decide) hn
    exact_mod_cast this
  have hp0 : (0 : Int) < 2 ^ n := Int.pow_pos (by decide)
  rw [hs, w64 (by omega) (by omega)]
  rw [bits_mask .i64 63 (by decide) (fun m h h' => by rw [IntKind.wrap_i64]; omega) n (by omega) (d : Int) (Int.natCast_nonneg _) (by omega)]
  simp
theorem FnExactLeafOf : laws_FnExactLeafOf.Pure := by
  intro d l _ _
  refine ⟨65, ?_⟩
  unfold laws_FnExactLeafOf.f spec_LeafOf.f impl_LeafOf.f
  simp only [within_f, Option.bind_some]
  by_cases h1 : d < 0
  · simp [h1, show ¬ 0 ≤ d from by omega]
  · by_cases h2 : d > 65535
    · simp [h1, h2, show ¬ d ≤ 65535 from by omega]
    · by_cases h3 : l < 0
      · simp [h1, h2, h3, show ¬ 0 ≤ l from by omega, show 0 ≤ d from by omega, show d ≤ 65535 from by omega]
      · by_cases h4 : l > 6
        · simp [h1, h2, h3, h4, show 0 ≤ l from by omega, show ¬ l ≤ 6 from by omega, show 0 ≤ d from by omega, show d ≤ 65535 from by omega]
        · obtain ⟨d, rfl⟩ := Int.eq_ofNat_of_zero_le (show 0 ≤ d by omega)
          obtain ⟨n, rfl⟩ := Int.eq_ofNat_of_zero_le (show 0 ≤ l by omega)
          rw [if_neg h1, if_neg h2, if_neg h3, if_neg h4, l02Pow_f (by omega) (by omega), leaf_and (by omega) (by omega)]
          have hp0 : 0 < 2 ^ n := Nat.two_pow_pos _
          rw [Option.bind_some, if_neg (by omega), Option.bind_some]
          rw [if_pos (decide_eq_true (by omega)), if_pos (decide_eq_true (by omega)), if_pos (Int.natCast_nonneg _), Option.bind_some, if_pos]
          rw [Int.tmod_eq_emod_of_nonneg (Int.natCast_nonneg _)]
          simp

end Go.Proofs.Ytjkecljcgkkkjaa.Pure
