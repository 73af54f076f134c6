/- The law FnExactWordOk holds of the program: whatever its arguments (of the kinds and sizes that the statement names), it answers true. -/
import Derived.Test.YtjkecljcgkkkjaaPFnExactWordOkx1
import Derived.Test.YtjkecljcgkkkjaaLib
set_option linter.unusedVariables false
set_option linter.unusedSimpArgs false
namespace Go.Proofs.Ytjkecljcgkkkjaa.Pure
open Go.RowKit Go.Proofs.Ytjkecljcgkkkjaa.PFnExactWordOk Go.Proofs.YtjkecljcgkkkjaaW.PrintWords Go.Proofs.YtjkecljcgkkkjaaW.PrintLast Go.Proofs.Ytjkecljcgkkkjaa.L 

theorem within_f (a b c : Int) : impl_within.f a b c = some (decide (b ≤ a ∧ a ≤ c)) := by
  unfold impl_within.f
  by_cases h : a ≥ b
  · rw [if_pos h]; congr 1; rw [decide_eq_decide]; omega
  · rw [if_neg h]; congr 1; symm; rw [decide_eq_false_iff_not]; omega

theorem spec_WordOk_l0 (s : ByteArray) (hs : s.size ≤ 140737488351232) (d : Nat) : ∀ (k i : Nat), i ≤ s.size → s.size - i = d → d < k →
    spec_WordOk.l0 k s (i : Int) = some (okB s i) := by
  induction d with
  | zero =>
    intro k i hi hd hk
    obtain ⟨k, rfl⟩ : ∃ q, k = q + 1 := ⟨k - 1, by omega⟩
    rw [spec_WordOk.l0, if_neg (by omega), okB_end (by omega)]
  | succ d ih =>
    intro k i hi hd hk
    obtain ⟨k, rfl⟩ : ∃ q, k = q + 1 := ⟨k - 1, by omega⟩
    have h := ih k (i + 1) (by omega) (by omega) (by omega)
    rw [spec_WordOk.l0, if_pos (by omega), if_pos (by omega)]
    by_cases h1 : bt s (i : Int) < 97
    · rw [if_pos h1, okB_bad (by omega) (.inl h1)]
    · rw [if_neg h1]
      by_cases h2 : bt s (i : Int) > 122
      · rw [if_pos h2, okB_bad (by omega) (.inr h2)]
      · rw [if_neg h2, w64 (by omega) (by omega), okB_step (by omega) (by omega)]
        exact h
theorem spec_WordOk_f (s : ByteArray) (hs : s.size ≤ 140737488351232) {k : Nat} (hk : s.size + 1 < k) : spec_WordOk.f k s = some (wordB s) := by
  obtain ⟨k, rfl⟩ : ∃ q, k = q + 1 := ⟨k - 1, by omega⟩
  unfold spec_WordOk.f wordB
  by_cases h : (s.size : Int) < 1
  · rw [if_pos h, spec_WordOk.j0, if_pos rfl, decide_eq_false (by omega)]; rfl
  · rw [if_neg h, spec_WordOk.j0]
    by_cases h2 : (s.size : Int) > 32
    · rw [if_pos (by simp only [decide_eq_true_eq]; exact h2), decide_eq_false (by omega)]; rfl
    · rw [if_neg (by simp only [decide_eq_true_eq]; exact h2), decide_eq_true (by omega), Bool.true_and]
      exact spec_WordOk_l0 s hs s.size k 0 (by omega) (by omega) (by omega)

theorem impl_isWord_l0 (s : ByteArray) (hs : s.size ≤ 140737488351232) (d : Nat) : ∀ (k i : Nat), i ≤ s.size → s.size - i = d → d < k →
    impl_isWord.l0 k s (s.size : Int) (i : Int) = some (okB s i && decide (1 ≤ s.size ∧ s.size ≤ 32)) := by
  induction d with
  | zero =>
    intro k i hi hd hk
    obtain ⟨k, rfl⟩ : ∃ q, k = q + 1 := ⟨k - 1, by omega⟩
    rw [impl_isWord.l0, if_neg (by omega), okB_end (by omega), within_f, Bool.true_and]
    simp only [Option.bind_some]
    congr 1
    rw [decide_eq_decide]; omega
  | succ d ih =>
    intro k i hi hd hk
    obtain ⟨k, rfl⟩ : ∃ q, k = q + 1 := ⟨k - 1, by omega⟩
    have h := ih k (i + 1) (by omega) (by omega) (by omega)
    rw [impl_isWord.l0, if_pos (by omega), if_pos (by omega), if_pos (by omega)]
    by_cases h1 : bt s (i : Int) < 97
    · rw [if_pos h1, okB_bad (by omega) (.inl h1)]; rfl
    · rw [if_neg h1]
      by_cases h2 : bt s (i : Int) > 122
      · rw [if_pos h2, okB_bad (by omega) (.inr h2)]; rfl
      · rw [if_neg h2, w64 (by omega) (by omega), okB_step (by omega) (by omega)]
        exact h
theorem impl_isWord_f (s : ByteArray) (hs : s.size ≤ 140737488351232) {k : Nat} (hk : s.size < k) : impl_isWord.f k s = some (wordB s) := by
  unfold impl_isWord.f wordB
  rw [Bool.and_comm]
  exact impl_isWord_l0 s hs s.size k 0 (by omega) (by omega) (by omega)

theorem FnExactWordOk : laws_FnExactWordOk.Pure := by
  intro s hs
  refine ⟨s.size + 2, ?_⟩
  unfold laws_FnExactWordOk.f impl_WordOk.f
  rw [spec_WordOk_f s hs (by omega), impl_isWord_f s hs (by omega)]
  simp

end Go.Proofs.Ytjkecljcgkkkjaa.Pure
