/- The law FnExactEditCost holds of the program: whatever its arguments (of the kinds and sizes that the statement names), it answers true. -/
import Derived.Test.YtciccdjjjdihdaaQFnExactEditCostx4
import Derived.Test.YtciccdjjjdihdaaLib
import Derived.Test.YtciccdjjjdihdaaLibEdit
set_option linter.unusedVariables false
set_option linter.unusedSimpArgs false
namespace Go.Proofs.Ytciccdjjjdihdaa.Pure
open Go.RowKit Go.Proofs.Ytciccdjjjdihdaa.PFnExactEditCost Go.Proofs.YtciccdjjjdihdaaW.PrintWords Go.Proofs.YtciccdjjjdihdaaW.PrintLast Go.Proofs.Ytciccdjjjdihdaa.L 

theorem areShort_g (s t : ByteArray) : impl_areShort.f s t = some (decide (s.size ≤ 32 ∧ t.size ≤ 32)) := by
  unfold impl_areShort.f
  by_cases h : (s.size : Int) ≤ 32
  · rw [if_pos h]; congr 1; rw [decide_eq_decide]; omega
  · rw [if_neg h, decide_eq_false (by omega)]
theorem l05Long_g (s t : ByteArray) : spec_l05Long.f s t = some (decide (32 < s.size ∨ 32 < t.size)) := by
  unfold spec_l05Long.f
  by_cases h : (s.size : Int) > 32
  · rw [if_pos h, decide_eq_true (by omega)]
  · rw [if_neg h]; congr 1; rw [decide_eq_decide]; omega

theorem impl_EditCost_l0 (e s t : ByteArray) (he : e.size ≤ 64) (hs : s.size ≤ 32) (ht : t.size ≤ 32) (d : Nat) : ∀ (k p i j : Nat) (c : Int), i ≤ s.size → j ≤ t.size → p + d = e.size → 0 ≤ c → c + d ≤ 1000 → 3 * d < k →
    impl_EditCost.l0 k e s t (i : Int) (j : Int) c (e.size : Int) (p : Int) = some (ec e s t d p i j c) := by
  induction d with
  | zero =>
    intro k p i j c hi hj hp hc hcd hk
    obtain ⟨k, rfl⟩ : ∃ q, k = q + 1 := ⟨k - 1, by omega⟩
    rw [impl_EditCost.l0, if_neg (by omega), ec]
    by_cases h1 : i < s.size
    · rw [if_pos (by omega), if_pos (.inl h1)]
    · rw [if_neg (by omega)]
      by_cases h2 : j < t.size
      · rw [if_pos (by omega), if_pos (.inr h2)]
      · rw [if_neg (by omega), if_neg (by omega)]
  | succ d ih =>
    intro k p i j c hi hj hp hc hcd hk
    obtain ⟨k, rfl⟩ : ∃ q, k = q + 1 + 1 + 1 := ⟨k - 3, by omega⟩
    rw [impl_EditCost.l0, if_pos (by omega), if_pos (by omega), if_pos (by omega), ec]
    generalize bt e (p : Int) = b
    try simp only [int_eq_nat, int_beq_nat]
    by_cases h100 : b = 100
    · have q100 : (b = 100) = True := eq_true h100
      have q105 : (b = 105) = False := eq_false (by omega)
      have q107 : (b = 107) = False := eq_false (by omega)
      have q115 : (b = 115) = False := eq_false (by omega)
      simp only [q100, q105, q107, q115, if_true, if_false]
      by_cases h : i = s.size
      · rw [if_pos h, if_pos h, impl_EditCost.j2, if_pos rfl]
      · rw [if_neg h, if_neg h, impl_EditCost.j2, if_neg (by decide)]
        simp only [q100, q105, q107, q115, if_true, if_false]
        rw [w64n (n := i) (by omega), w64 (n := c + 1) (by omega) (by omega), w64n (n := p) (by omega)]
        exact ih _ _ _ _ _ (by omega) (by omega) (by omega) (by omega) (by omega) (by omega)
    · by_cases h105 : b = 105
      · have q100 : (b = 100) = False := eq_false (by omega)
        have q105 : (b = 105) = True := eq_true h105
        have q107 : (b = 107) = False := eq_false (by omega)
        have q115 : (b = 115) = False := eq_false (by omega)
        simp only [q100, q105, q107, q115, if_true, if_false]
        rw [impl_EditCost.j2]
        by_cases h : j = t.size
        · rw [if_pos h, if_pos (decide_eq_true h)]
        · rw [if_neg h, if_neg (by simpa using h)]
          simp only [q100, q105, q107, q115, if_true, if_false]
          rw [w64n (n := j) (by omega), w64 (n := c + 1) (by omega) (by omega), w64n (n := p) (by omega)]
          exact ih _ _ _ _ _ (by omega) (by omega) (by omega) (by omega) (by omega) (by omega)
      · by_cases h107 : b = 107
        · have q100 : (b = 100) = False := eq_false (by omega)
          have q105 : (b = 105) = False := eq_false (by omega)
          have q107 : (b = 107) = True := eq_true h107
          have q115 : (b = 115) = False := eq_false (by omega)
          have r107 : (b == 107) = true := beq_iff_eq.2 h107
          simp only [q100, q105, q107, q115, if_true, if_false]
          by_cases h : i = s.size
          · rw [if_pos h, if_pos (.inl h), impl_EditCost.j2, if_pos rfl]
          · rw [if_neg h, impl_EditCost.j2]
            by_cases h' : j = t.size
            · rw [if_pos (decide_eq_true h'), if_pos (.inr h')]
            · rw [if_neg (by simpa using h'), if_neg (show ¬ (i = s.size ∨ j = t.size) by omega)]
              simp only [q100, q105, q107, q115, if_true, if_false]
              rw [impl_EditCost.j3, r107, if_pos rfl, if_pos (by omega), if_pos (by omega), if_pos (by omega), if_pos (by omega)]
              simp only [q100, q105, q107, q115, if_true, if_false]
              by_cases hbb : bt s (i : Int) = bt t (j : Int)
              · rw [if_pos hbb, if_neg (by simp [hbb]), w64n (n := i) (by omega), w64n (n := j) (by omega), w64n (n := p) (by omega)]
                exact ih _ _ _ _ _ (by omega) (by omega) (by omega) (by omega) (by omega) (by omega)
              · rw [if_neg hbb, if_pos (by simp [hbb])]
        · by_cases h115 : b = 115
          · have q100 : (b = 100) = False := eq_false (by omega)
            have q105 : (b = 105) = False := eq_false (by omega)
            have q107 : (b = 107) = False := eq_false (by omega)
            have q115 : (b = 115) = True := eq_true h115
            have r107 : (b == 107) = false := beq_eq_false_iff_ne.2 h107
            have r115 : (b == 115) = true := beq_iff_eq.2 h115
            simp only [q100, q105, q107, q115, if_true, if_false]
            by_cases h : i = s.size
            · rw [if_pos h, if_pos (.inl h), impl_EditCost.j2, if_pos rfl]
            · rw [if_neg h, impl_EditCost.j2]
              by_cases h' : j = t.size
              · rw [if_pos (decide_eq_true h'), if_pos (.inr h')]
              · rw [if_neg (by simpa using h'), if_neg (show ¬ (i = s.size ∨ j = t.size) by omega)]
                simp only [q100, q105, q107, q115, if_true, if_false]
                rw [impl_EditCost.j3, r115, r107, if_pos rfl, if_pos (by omega), if_pos (by omega), if_pos (by omega), if_pos (by omega)]
                simp only [q100, q105, q107, q115, if_true, if_false]
                by_cases hbb : bt s (i : Int) = bt t (j : Int)
                · rw [if_pos hbb, if_pos (by simp [hbb])]
                · rw [if_neg hbb, if_neg (by simp [hbb]), w64n (n := i) (by omega), w64n (n := j) (by omega), w64 (n := c + 1) (by omega) (by omega), w64n (n := p) (by omega)]
                  exact ih _ _ _ _ _ (by omega) (by omega) (by omega) (by omega) (by omega) (by omega)
          · have q100 := eq_false h100
            have q105 := eq_false h105
            have q107 := eq_false h107
            have q115 := eq_false h115
            have r115 : (b == 115) = false := beq_eq_false_iff_ne.2 h115
            simp only [q100, q105, q107, q115, if_true, if_false]
            rw [impl_EditCost.j2, if_neg (by decide)]
            simp only [q100, q105, q107, q115, if_true, if_false]
            rw [impl_EditCost.j3, r115, if_neg (by decide)]
theorem impl_EditCost_f (e s t : ByteArray) {k : Nat} (hk : 200 < k) : impl_EditCost.f k e s t = some (ecN e s t) := by
  obtain ⟨k, rfl⟩ : ∃ q, k = q + 1 := ⟨k - 1, by omega⟩
  unfold impl_EditCost.f ecN
  rw [areShort_g, Option.bind_some]
  by_cases h : s.size ≤ 32 ∧ t.size ≤ 32
  · rw [if_pos (decide_eq_true h), impl_EditCost.j0]
    by_cases h2 : e.size ≤ 64
    · rw [if_neg (by simp; omega), if_pos ⟨h.1, h.2, h2⟩]
      exact impl_EditCost_l0 e s t h2 h.1 h.2 e.size k 0 0 0 0 (by omega) (by omega) (by omega) (by omega) (by omega) (by omega)
    · rw [if_pos (by simp; omega), if_neg (by omega)]
  · rw [if_neg (by simpa using h), impl_EditCost.j0, if_pos rfl, if_neg (by omega)]

theorem spec_EditCost_l0 (e s t : ByteArray) (he : e.size ≤ 64) (hs : s.size ≤ 32) (ht : t.size ≤ 32) (d : Nat) : ∀ (k p i j : Nat) (c : Int), i ≤ s.size → j ≤ t.size → p + d = e.size → 0 ≤ c → c + d ≤ 1000 → 6 * d < k →
    spec_EditCost.l0 k e s t (i : Int) (j : Int) c (p : Int) = some (ec e s t d p i j c) := by
  induction d with
  | zero =>
    intro k p i j c hi hj hp hc hcd hk
    obtain ⟨k, rfl⟩ : ∃ q, k = q + 1 := ⟨k - 1, by omega⟩
    rw [spec_EditCost.l0, if_neg (by omega), ec]
    by_cases h1 : i < s.size
    · rw [if_pos (by omega), if_pos (.inl h1)]
    · rw [if_neg (by omega)]
      by_cases h2 : j < t.size
      · rw [if_pos (by omega), if_pos (.inr h2)]
      · rw [if_neg (by omega), if_neg (by omega)]
  | succ d ih =>
    intro k p i j c hi hj hp hc hcd hk
    obtain ⟨k, rfl⟩ : ∃ q, k = q + 1 + 1 + 1 + 1 + 1 + 1 := ⟨k - 6, by omega⟩
    rw [spec_EditCost.l0, if_pos (by omega), if_pos (by omega), ec]
    generalize bt e (p : Int) = b
    try simp only [int_eq_nat, int_beq_nat]
    by_cases h100 : b = 100
    · have q100 : (b = 100) = True := eq_true h100
      have q105 : (b = 105) = False := eq_false (by omega)
      have q107 : (b = 107) = False := eq_false (by omega)
      have q115 : (b = 115) = False := eq_false (by omega)
      have r115 : (b == 115) = false := beq_eq_false_iff_ne.2 (by omega)
      simp only [q100, q105, q107, q115, if_true, if_false]
      rw [spec_EditCost.j2]
      simp only [q100, q105, q107, q115, if_true, if_false]
      rw [r115, spec_EditCost.j3, if_pos rfl]
      simp only [int_eq_nat]
      by_cases h : i = s.size
      · rw [if_pos h, if_pos h, spec_EditCost.j4, if_pos rfl]
      · rw [if_neg h, if_neg h, if_neg (by decide), spec_EditCost.j4, if_neg (by decide), if_pos rfl, if_neg (by decide), spec_EditCost.j5, if_neg (by decide), if_pos rfl, spec_EditCost.j6, if_neg (by decide)]
        simp only [q100, q105, q107, q115, if_true, if_false]
        rw [w64n (n := i) (by omega), w64 (n := c + 1) (by omega) (by omega), w64n (n := p) (by omega)]
        exact ih _ _ _ _ _ (by omega) (by omega) (by omega) (by omega) (by omega) (by omega)
    · by_cases h105 : b = 105
      · have q100 : (b = 100) = False := eq_false (by omega)
        have q105 : (b = 105) = True := eq_true h105
        have q107 : (b = 107) = False := eq_false (by omega)
        have q115 : (b = 115) = False := eq_false (by omega)
        have r115 : (b == 115) = false := beq_eq_false_iff_ne.2 (by omega)
        simp only [q100, q105, q107, q115, if_true, if_false]
        rw [r115, spec_EditCost.j2]
        simp only [q100, q105, q107, q115, if_true, if_false]
        rw [spec_EditCost.j3, if_neg (by decide), if_pos rfl, int_beq_nat, spec_EditCost.j4]
        by_cases h : j = t.size
        · rw [if_pos h, if_pos (decide_eq_true h)]
        · rw [if_neg h, if_neg (by simpa using h), if_neg (by decide), spec_EditCost.j5, if_neg (by decide), if_neg (by decide), spec_EditCost.j6, if_pos rfl]
          simp only [q100, q105, q107, q115, if_true, if_false]
          rw [w64n (n := j) (by omega), w64 (n := c + 1) (by omega) (by omega), w64n (n := p) (by omega)]
          exact ih _ _ _ _ _ (by omega) (by omega) (by omega) (by omega) (by omega) (by omega)
      · by_cases h107 : b = 107
        · have q100 : (b = 100) = False := eq_false (by omega)
          have q105 : (b = 105) = False := eq_false (by omega)
          have q107 : (b = 107) = True := eq_true h107
          have q115 : (b = 115) = False := eq_false (by omega)
          have r107 : (b == 107) = true := beq_iff_eq.2 h107
          simp only [q100, q105, q107, q115, if_true, if_false]
          rw [spec_EditCost.j2]
          simp only [q100, q105, q107, q115, if_true, if_false]
          rw [spec_EditCost.j3, if_pos rfl]
          simp only [int_eq_nat, int_beq_nat, if_true]
          by_cases h : i = s.size
          · rw [if_pos h, if_pos (.inl h), spec_EditCost.j4, if_pos rfl]
          · rw [if_neg h, spec_EditCost.j4]
            by_cases h' : j = t.size
            · rw [if_pos (decide_eq_true h'), if_pos (.inr h')]
            · rw [if_neg (by simpa using h'), if_neg (show ¬ (i = s.size ∨ j = t.size) by omega), if_pos rfl, if_pos rfl, if_pos (by omega), if_pos (by omega), if_pos (by omega), if_pos (by omega), r107, spec_EditCost.j5]
              by_cases hbb : bt s (i : Int) = bt t (j : Int)
              · rw [if_pos hbb, if_neg (by simp [hbb]), if_pos rfl, spec_EditCost.j6, if_pos rfl]
                simp only [q100, q105, q107, q115, if_true, if_false]
                rw [w64n (n := i) (by omega), w64n (n := j) (by omega), w64n (n := p) (by omega)]
                exact ih _ _ _ _ _ (by omega) (by omega) (by omega) (by omega) (by omega) (by omega)
              · rw [if_neg hbb, if_pos (by simp [hbb])]
        · by_cases h115 : b = 115
          · have q100 : (b = 100) = False := eq_false (by omega)
            have q105 : (b = 105) = False := eq_false (by omega)
            have q107 : (b = 107) = False := eq_false (by omega)
            have q115 : (b = 115) = True := eq_true h115
            have r107 : (b == 107) = false := beq_eq_false_iff_ne.2 h107
            have r115 : (b == 115) = true := beq_iff_eq.2 h115
            simp only [q100, q105, q107, q115, if_true, if_false]
            rw [r115, spec_EditCost.j2]
            simp only [q100, q105, q107, q115, if_true, if_false]
            rw [r115, spec_EditCost.j3, if_pos rfl]
            simp only [int_eq_nat, int_beq_nat, if_true]
            by_cases h : i = s.size
            · rw [if_pos h, if_pos (.inl h), spec_EditCost.j4, if_pos rfl]
            · rw [if_neg h, spec_EditCost.j4]
              by_cases h' : j = t.size
              · rw [if_pos (decide_eq_true h'), if_pos (.inr h')]
              · rw [if_neg (by simpa using h'), if_neg (show ¬ (i = s.size ∨ j = t.size) by omega), if_pos rfl, if_pos rfl, if_pos (by omega), if_pos (by omega), if_pos (by omega), if_pos (by omega), r107, spec_EditCost.j5]
                by_cases hbb : bt s (i : Int) = bt t (j : Int)
                · rw [if_pos hbb, if_pos (by simp [hbb])]
                · rw [if_neg hbb, if_neg (by simp [hbb]), if_pos rfl, spec_EditCost.j6, if_pos rfl]
                  simp only [q100, q105, q107, q115, if_true, if_false]
                  rw [w64n (n := i) (by omega), w64n (n := j) (by omega), w64 (n := c + 1) (by omega) (by omega), w64n (n := p) (by omega)]
                  exact ih _ _ _ _ _ (by omega) (by omega) (by omega) (by omega) (by omega) (by omega)
          · have q100 := eq_false h100
            have q105 := eq_false h105
            have q107 := eq_false h107
            have q115 := eq_false h115
            have r115 : (b == 115) = false := beq_eq_false_iff_ne.2 h115
            simp only [q100, q105, q107, q115, if_true, if_false]
            rw [r115, spec_EditCost.j2]
            simp only [q100, q105, q107, q115, if_true, if_false]
            rw [r115, spec_EditCost.j3, if_neg (by decide), if_neg (by decide), spec_EditCost.j4, if_pos rfl]
theorem spec_EditCost_f (e s t : ByteArray) {k : Nat} (hk : 400 < k) : spec_EditCost.f k e s t = some (ecN e s t) := by
  obtain ⟨k, rfl⟩ : ∃ q, k = q + 1 := ⟨k - 1, by omega⟩
  unfold spec_EditCost.f ecN
  rw [l05Long_g, Option.bind_some]
  by_cases h : s.size ≤ 32 ∧ t.size ≤ 32
  · rw [if_neg (by simp; omega), spec_EditCost.j0]
    by_cases h2 : e.size ≤ 64
    · rw [if_neg (by simp; omega), if_pos ⟨h.1, h.2, h2⟩]
      exact spec_EditCost_l0 e s t h2 h.1 h.2 e.size k 0 0 0 0 (by omega) (by omega) (by omega) (by omega) (by omega) (by omega)
    · rw [if_pos (by simp; omega), if_neg (by omega)]
  · rw [if_pos (by simp; omega), spec_EditCost.j0, if_pos rfl, if_neg (by omega)]

theorem FnExactEditCost : laws_FnExactEditCost.Pure := by
  intro e s t _ _ _
  refine ⟨401, ?_⟩
  unfold laws_FnExactEditCost.f
  rw [spec_EditCost_f e s t (by omega), impl_EditCost_f e s t (by omega)]
  simp

end Go.Proofs.Ytciccdjjjdihdaa.Pure
