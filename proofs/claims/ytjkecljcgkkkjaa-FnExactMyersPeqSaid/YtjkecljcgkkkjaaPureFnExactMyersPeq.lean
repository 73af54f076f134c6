/- The law FnExactMyersPeq holds of the program: whatever its arguments (of the kinds and sizes that the statement names), it answers true. -/
import Derived.Test.YtjkecljcgkkkjaaPFnExactMyersPeqx1
import Derived.Test.YtjkecljcgkkkjaaLib
set_option linter.unusedVariables false
set_option linter.unusedSimpArgs false
namespace Go.Proofs.Ytjkecljcgkkkjaa.Pure
open Go.RowKit Go.Proofs.Ytjkecljcgkkkjaa.PFnExactMyersPeq Go.Proofs.YtjkecljcgkkkjaaW.PrintWords Go.Proofs.YtjkecljcgkkkjaaW.PrintLast Go.Proofs.Ytjkecljcgkkkjaa.L 

theorem l06Power_l0 (n : Nat) : ∀ (k i : Nat), i + n ≤ 63 → n < k → spec_l06Power.l0 k (n : Int) ((2 ^ i : Nat) : Int) = some ((2 ^ (i + n) : Nat) : Int) := by
  induction n with
  | zero =>
    intro k i hi hk
    obtain ⟨k, rfl⟩ : ∃ q, k = q + 1 := ⟨k - 1, by omega⟩
    rw [spec_l06Power.l0, if_neg (by omega)]
    rfl
  | succ n ih =>
    intro k i hi hk
    obtain ⟨k, rfl⟩ : ∃ q, k = q + 1 := ⟨k - 1, by omega⟩
    have hp : 2 ^ (i + 1) ≤ 2 ^ 63 := Nat.pow_le_pow_right (by decide) (by omega)
    have hd := ih k (i + 1) (by omega) (by omega)
    rw [spec_l06Power.l0, if_pos (by omega), w64 (by omega) (by omega), u64_id (by rw [Nat.pow_succ] at hp; omega) (by rw [Nat.pow_succ] at hp; omega)]
    rw [show i + (n + 1) = i + 1 + n from by omega, ← hd, Nat.pow_succ]
    congr 1 <;> omega
theorem l06Power_f {n k : Nat} (hn : n ≤ 63) (hk : n < k) : spec_l06Power.f k (n : Int) = some ((2 ^ n : Nat) : Int) := by
  unfold spec_l06Power.f
  have := l06Power_l0 n k 0 (by omega) hk
  rw [Nat.zero_add] at this
  exact this

theorem spec_MyersPeq_l0 (s : ByteArray) (b : Int) (hs : s.size ≤ 32) (d : Nat) : ∀ (k i : Nat), i ≤ s.size → s.size - i = d → 2 * d + 40 < k →
    spec_MyersPeq.l0 k s b ((peqN s b i : Nat) : Int) (i : Int) = some ((peqN s b s.size : Nat) : Int) := by
  induction d with
  | zero =>
    intro k i hi hd hk
    obtain ⟨k, rfl⟩ : ∃ q, k = q + 1 + 1 := ⟨k - 2, by omega⟩
    obtain rfl : i = s.size := by omega
    rw [spec_MyersPeq.l0, if_neg (by omega), spec_MyersPeq.j1, if_neg (by decide)]
  | succ d ih =>
    intro k i hi hd hk
    obtain ⟨k, rfl⟩ : ∃ q, k = q + 1 + 1 := ⟨k - 2, by omega⟩
    have h := ih k (i + 1) (by omega) (by omega) (by omega)
    have hl := peqN_lt s b i
    have hp : 2 ^ (i + 1) ≤ 2 ^ 63 := Nat.pow_le_pow_right (by decide) (by omega)
    rw [Nat.pow_succ] at hp
    rw [spec_MyersPeq.l0, if_pos (by omega), spec_MyersPeq.j1, if_pos (by simp only [decide_eq_true_eq]; omega), if_pos (by omega), if_pos (by omega)]
    rw [w64 (by omega) (by omega)]
    by_cases e : bt s (i : Int) = b
    · rw [if_pos e, l06Power_f (by omega) (by omega)]
      simp only [Option.bind_some]
      rw [← h, u64_id (by omega) (by omega), peqN, if_pos e]
      congr 1
    · rw [if_neg e, ← h, peqN, if_neg e]
      congr 1
theorem spec_MyersPeq_f (s : ByteArray) (b : Int) (hs : s.size ≤ 32) {k : Nat} (hk : 2 * s.size + 40 < k) : spec_MyersPeq.f k s b = some ((peqN s b s.size : Nat) : Int) := by
  unfold spec_MyersPeq.f
  exact spec_MyersPeq_l0 s b hs s.size k 0 (by omega) (by omega) (by omega)
theorem spec_MyersPeq_long (s : ByteArray) (b : Int) (hs : ¬ s.size ≤ 32) {k : Nat} (hk : 2 < k) : spec_MyersPeq.f k s b = some 0 := by
  obtain ⟨k, rfl⟩ : ∃ q, k = q + 1 + 1 := ⟨k - 2, by omega⟩
  unfold spec_MyersPeq.f
  rw [spec_MyersPeq.l0, if_pos (by omega), spec_MyersPeq.j1, if_neg (by simp only [decide_eq_true_eq]; omega)]

theorem impl_peq_l0 (s : ByteArray) (b : Int) (hs : s.size ≤ 32) (d : Nat) : ∀ (k i : Nat), i ≤ s.size → s.size - i = d → d < k →
    impl_peq.l0 k s b ((peqN s b i : Nat) : Int) (s.size : Int) (i : Int) = some ((peqN s b s.size : Nat) : Int) := by
  induction d with
  | zero =>
    intro k i hi hd hk
    obtain ⟨k, rfl⟩ : ∃ q, k = q + 1 := ⟨k - 1, by omega⟩
    obtain rfl : i = s.size := by omega
    rw [impl_peq.l0, if_neg (by omega)]
  | succ d ih =>
    intro k i hi hd hk
    obtain ⟨k, rfl⟩ : ∃ q, k = q + 1 := ⟨k - 1, by omega⟩
    have h := ih k (i + 1) (by omega) (by omega) (by omega)
    have hl := peqN_lt s b i
    rw [impl_peq.l0, if_pos (by omega), if_pos (by omega), if_pos (by omega), w64 (by omega) (by omega)]
    by_cases e : bt s (i : Int) = b
    · rw [if_pos e, shl_one (by omega), or_pow hl (by omega), ← h, peqN, if_pos e]
      congr 1
    · rw [if_neg e, ← h, peqN, if_neg e]
      congr 1
theorem impl_MyersPeq_f (s : ByteArray) (b : Int) {k : Nat} (hk : s.size < k) : impl_MyersPeq.f k s b = some (if s.size ≤ 32 then ((peqN s b s.size : Nat) : Int) else 0) := by
  unfold impl_MyersPeq.f impl_peq.f
  by_cases h : s.size ≤ 32
  · have := impl_peq_l0 s b h s.size k 0 (by omega) (by omega) (by omega)
    rw [if_neg (by omega), if_pos h]
    rw [show ((peqN s b 0 : Nat) : Int) = 0 from rfl] at this
    rw [show ((0 : Nat) : Int) = 0 from rfl] at this
    rw [this]; rfl
  · rw [if_pos (by omega), if_neg h]

theorem FnExactMyersPeq : laws_FnExactMyersPeq.Pure := by
  intro s b hs hb
  refine ⟨2 * s.size + 41, ?_⟩
  unfold laws_FnExactMyersPeq.f
  rw [impl_MyersPeq_f s b (by omega)]
  by_cases h : s.size ≤ 32
  · rw [spec_MyersPeq_f s b h (by omega), if_pos h]; simp
  · rw [spec_MyersPeq_long s b h (by omega), if_neg h]; simp

end Go.Proofs.Ytjkecljcgkkkjaa.Pure
