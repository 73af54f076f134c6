/- The law FnExactSwapIf holds of the program: whatever its arguments (of the kinds and sizes that the statement names), it answers true. -/
import Derived.Test.YtjkecljcgkkkjaaPFnExactSwapIfx1
import Derived.Test.YtjkecljcgkkkjaaLib
set_option linter.unusedVariables false
set_option linter.unusedSimpArgs false
namespace Go.Proofs.Ytjkecljcgkkkjaa.Pure
open Go.RowKit Go.Proofs.Ytjkecljcgkkkjaa.PFnExactSwapIf Go.Proofs.YtjkecljcgkkkjaaW.PrintWords Go.Proofs.YtjkecljcgkkkjaaW.PrintLast Go.Proofs.Ytjkecljcgkkkjaa.L 

theorem l03Bit_f {a : Nat} (ha : a < 2 ^ 64) {i : Nat} (hi : i < 64) : spec_l03Bit.f (a : Int) (i : Int) = some (a.testBit i) := by
  unfold spec_l03Bit.f
  rw [u64_id (Int.natCast_nonneg _) (by omega), if_pos (Int.natCast_nonneg _), bit_eq ha (by omega)]

/-- the number of a's bits where the mask has a 1 and of b's bits elsewhere -/
def selN (m a b : Nat) : Nat := (a &&& m) ||| andN b m
theorem selN_lt {m a b : Nat} (ha : a < 2 ^ 64) : selN m a b < 2 ^ 64 := Nat.or_lt_two_pow (Nat.lt_of_le_of_lt Nat.and_le_left ha) (andN_lt _ _)
theorem selN_bit {m a b i : Nat} (hi : i < 64) : (selN m a b).testBit i = (m.testBit i && a.testBit i || !m.testBit i && b.testBit i) := by
  unfold selN
  rw [Nat.testBit_or, Nat.testBit_and, andN_bit]
  simp only [hi, decide_true, Bool.true_and]
  cases m.testBit i <;> cases a.testBit i <;> cases b.testBit i <;> rfl
theorem impl_Select_f {m a b : Nat} (hm : m < 2 ^ 64) (ha : a < 2 ^ 64) : impl_Select.f (m : Int) (a : Int) (b : Int) = some ((selN m a b : Nat) : Int) := by
  unfold impl_Select.f selN
  rw [and_nat ha hm, andNot_nat, or_nat (Nat.lt_of_le_of_lt Nat.and_le_left ha) (andN_lt _ _)]
theorem spec_Select_step {m a b : Nat} (hm : m < 2 ^ 64) (ha : a < 2 ^ 64) (hb : b < 2 ^ 64) {i : Nat} (hi : i < 64) {v : Nat} (hv : 2 * v + 1 < 2 ^ 64) (k : Nat) :
    spec_Select.l0 (k + 1) (m : Int) (a : Int) (b : Int) (v : Int) (i : Int) = spec_Select.l0 k (m : Int) (a : Int) (b : Int) ((2 * v + ((selN m a b).testBit i).toNat : Nat) : Int) ((i : Int) - 1) := by
  rw [spec_Select.l0, if_pos (by omega)]
  simp only [l03Bit_f hm hi, l03Bit_f ha hi, l03Bit_f hb hi, Option.bind_some]
  rw [w64 (by omega) (by omega), u64_id (n := 2 * (v : Int)) (by omega) (by omega), u64_id (by omega) (by omega), selN_bit hi]
  cases m.testBit i <;> cases a.testBit i <;> cases b.testBit i <;> simp
theorem spec_Select_l0 {m a b : Nat} (hm : m < 2 ^ 64) (ha : a < 2 ^ 64) (hb : b < 2 ^ 64) (i : Nat) : ∀ k, i + 1 < k → i < 64 →
    spec_Select.l0 k (m : Int) (a : Int) (b : Int) ((selN m a b / 2 ^ (i + 1) : Nat) : Int) (i : Int) = some ((selN m a b : Nat) : Int) := by
  have hlt := selN_lt (m := m) (a := a) (b := b) ha
  induction i with
  | zero =>
    intro k hk hi
    obtain ⟨k, rfl⟩ : ∃ q, k = q + 1 + 1 := ⟨k - 2, by omega⟩
    rw [spec_Select_step hm ha hb hi (by simp only [Nat.zero_add, Nat.pow_one]; omega), ← div_step, spec_Select.l0, if_neg (by omega)]
    simp
  | succ i ih =>
    intro k hk hi
    obtain ⟨k, rfl⟩ : ∃ q, k = q + 1 := ⟨k - 1, by omega⟩
    have hq : selN m a b / 2 ^ (i + 1 + 1) ≤ selN m a b / 2 := Nat.div_le_div_left (by rw [Nat.pow_succ]; have := Nat.two_pow_pos (i + 1); omega) (by decide)
    rw [spec_Select_step hm ha hb hi (by omega), ← div_step, show ((i + 1 : Nat) : Int) - 1 = (i : Int) from by omega]
    exact ih k (by omega) (by omega)
theorem spec_Select_f {m a b : Nat} (hm : m < 2 ^ 64) (ha : a < 2 ^ 64) (hb : b < 2 ^ 64) {k : Nat} (hk : 64 < k) : spec_Select.f k (m : Int) (a : Int) (b : Int) = some ((selN m a b : Nat) : Int) := by
  unfold spec_Select.f
  have := spec_Select_l0 hm ha hb 63 k hk (by decide)
  rw [Nat.div_eq_of_lt (selN_lt ha)] at this
  exact this

theorem FnExactSwapIf : laws_FnExactSwapIf.Pure := by
  intro m a b hm ha hb
  obtain ⟨m, rfl, hm'⟩ := wf_u64 hm
  obtain ⟨a, rfl, ha'⟩ := wf_u64 ha
  obtain ⟨b, rfl, hb'⟩ := wf_u64 hb
  refine ⟨65, ?_⟩
  unfold laws_FnExactSwapIf.f spec_SwapIf.f impl_SwapIf.f
  rw [spec_Select_f hm' ha' hb' (by decide), spec_Select_f hm' hb' ha' (by decide), impl_Select_f hm' ha', impl_Select_f hm' hb']
  simp

end Go.Proofs.Ytjkecljcgkkkjaa.Pure
