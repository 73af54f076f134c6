/- The law FnExactEditText holds of the program: whatever its arguments (of the kinds and sizes that the statement names), it answers true. -/
import Derived.Test.YtnmalfhdndnelaaQFnExactEditTextx5
import Derived.Test.YtnmalfhdndnelaaLib
import Derived.Test.YtnmalfhdndnelaaLibLev
import Derived.Test.YtnmalfhdndnelaaLibTab
import Derived.Test.YtnmalfhdndnelaaLibEt
set_option linter.unusedVariables false
set_option linter.unusedSimpArgs false
namespace Go.Proofs.Ytnmalfhdndnelaa.Pure
open Go.RowKit Go.Proofs.Ytnmalfhdndnelaa.PFnExactEditText Go.Proofs.YtnmalfhdndnelaaW.PrintWords Go.Proofs.YtnmalfhdndnelaaW.PrintLast Go.Proofs.Ytnmalfhdndnelaa.L 

theorem costs_rdL : rd_L1 = rdL := rfl
theorem costs_cell (s t : ByteArray) (hs : s.size ≤ 32) (ht : t.size ≤ 32) (i j k : Nat) (T : List (List Int)) (hi : i ≤ s.size) (hj : j + 1 ≤ t.size + 1) (hT : Tab s t T i (j + 1))
    (ih : ∀ T', i ≤ s.size → j ≤ t.size + 1 → i * 40 + j + 2 ≤ k → Tab s t T' i j → ∃ R, impl_costs.l1 k s t T' (i : Int) ((j : Int) - 1) = some R ∧ TabR s t R 0) (hk : i * 40 + j + 2 ≤ k) :
    ∃ R, impl_costs.l1 (k + 1) s t T (i : Int) (((j + 1 : Nat) : Int) - 1) = some R ∧ TabR s t R 0 := by
  have hl := hT.1
  have hr := hT.len (Nat.le_refl _) hi
  have hb := levAt_le s t
  rw [show (((j + 1 : Nat) : Int) - 1) = (j : Int) from by omega, impl_costs.l1, if_pos (by omega)]
  simp only [costs_rdL, w64 (show -9223372036854775808 ≤ (j : Int) - 1 by omega) (by omega), w64 (show -9223372036854775808 ≤ (i : Int) + 1 by omega) (by omega), w64 (show -9223372036854775808 ≤ (j : Int) + 1 by omega) (by omega)]
  by_cases e1 : i = s.size
  · rw [if_pos (by omega), if_pos (by omega), if_pos (by omega), if_pos (by omega), if_pos (by rw [hr]; omega)]
    rw [Int.toNat_natCast, Int.toNat_natCast]
    refine ih _ hi (by omega) hk (hT.put hi (by omega) ?_)
    rw [w64 (by omega) (by omega), e1, levAt_end]
    omega
  · rw [if_neg (by omega)]
    by_cases e2 : j = t.size
    · rw [if_pos (by omega), if_pos (by omega), if_pos (by omega), if_pos (by omega), if_pos (by rw [hr]; omega)]
      rw [Int.toNat_natCast, Int.toNat_natCast]
      refine ih _ hi (by omega) hk (hT.put hi (by omega) ?_)
      rw [w64 (by omega) (by omega), e2, levAt_end']
      omega
    · rw [if_neg (by omega)]
      have hr1 := hT.len (show i ≤ i + 1 by omega) (by omega)
      have c1 := hT.2.2 (i + 1) (j + 1) (by omega) (by omega) (by omega)
      have c2 := hT.2.2 (i + 1) j (by omega) (by omega) (by omega)
      have c3 := hT.2.2 i (j + 1) (by omega) (by omega) (by omega)
      have b1 := hb (i + 1) (j + 1)
      have b2 := hb (i + 1) j
      have b3 := hb i (j + 1)
      have hst := levAt_step s t (show i < s.size by omega) (show j < t.size by omega)
      rw [show ((i : Int) + 1) = ((i + 1 : Nat) : Int) from rfl, show ((j : Int) + 1) = ((j + 1 : Nat) : Int) from rfl]
      simp only [c1, c2, c3, hr, hr1, hl]
      by_cases e3 : bt s (i : Int) = bt t (j : Int)
      · rw [ne01, if_pos e3] at hst
        repeat rw [if_pos (by first | exact e3 | omega)]
        rw [Int.toNat_natCast, Int.toNat_natCast]
        refine ih _ hi (by omega) hk (hT.put hi (by omega) ?_)
        exact step_eq' (by omega) (by omega) (by omega) hst
      · rw [ne01, if_neg e3] at hst
        repeat first | rw [if_pos (by omega)] | rw [if_neg e3]
        rw [Int.toNat_natCast, Int.toNat_natCast]
        refine ih _ hi (by omega) hk (hT.put hi (by omega) ?_)
        exact step_ne' (by omega) (by omega) (by omega) hst
theorem costs_l1 (s t : ByteArray) (hs : s.size ≤ 32) (ht : t.size ≤ 32) (i : Nat) : ∀ (j k : Nat) (T : List (List Int)), i ≤ s.size → j ≤ t.size + 1 → i * 40 + j + 2 ≤ k → Tab s t T i j →
    ∃ R, impl_costs.l1 k s t T (i : Int) ((j : Int) - 1) = some R ∧ TabR s t R 0 := by
  induction i with
  | zero =>
    intro j
    induction j with
    | zero =>
      intro k T hi hj hk hT
      obtain ⟨k, rfl⟩ : ∃ q, k = q + 1 + 1 := ⟨k - 2, by omega⟩
      refine ⟨T, ?_, hT.rows⟩
      rw [impl_costs.l1, if_neg (by omega), w64 (by omega) (by omega), impl_costs.l0, if_neg (by omega)]
    | succ j ihj =>
      intro k T hi hj hk hT
      obtain ⟨k, rfl⟩ : ∃ q, k = q + 1 := ⟨k - 1, by omega⟩
      exact costs_cell s t hs ht 0 j k T hi hj hT (ihj k)
        (by omega)
  | succ i ih =>
    intro j
    induction j with
    | zero =>
      intro k T hi hj hk hT
      obtain ⟨k, rfl⟩ : ∃ q, k = q + 1 + 1 := ⟨k - 2, by omega⟩
      have hr := hT.rows.row (by omega) (List.replicate (t.size + 1) 0) (by simp)
      have hl := hT.1
      obtain ⟨R, h1, h2⟩ := ih (t.size + 1) k _ (by omega) (Nat.le_refl _) (by omega) hr
      refine ⟨R, ?_, h2⟩
      rw [impl_costs.l1, if_neg (by omega), w64 (by omega) (by omega), impl_costs.l0, if_pos (by omega), w64 (by omega) (by omega)]
      rw [if_pos (by omega), if_pos (by omega), if_pos (by omega), if_pos (by omega)]
      rw [show (((i + 1 : Nat) : Int) - 1) = (i : Int) from by omega, show (((t.size : Nat) : Int) + 1).toNat = t.size + 1 from by omega, Int.toNat_natCast]
      rw [show (((t.size + 1 : Nat) : Int) - 1) = (t.size : Int) from by omega] at h1
      exact h1
    | succ j ihj =>
      intro k T hi hj hk hT
      obtain ⟨k, rfl⟩ : ∃ q, k = q + 1 := ⟨k - 1, by omega⟩
      exact costs_cell s t hs ht (i + 1) j k T hi hj hT (ihj k)
        (by omega)
theorem costs_f (s t : ByteArray) (hs : s.size ≤ 32) (ht : t.size ≤ 32) {k : Nat} (hk : 1400 < k) : ∃ R, impl_costs.f k s t = some R ∧ TabR s t R 0 := by
  obtain ⟨k, rfl⟩ : ∃ q, k = q + 1 := ⟨k - 1, by omega⟩
  have h0 := (TabR.start s t).row (Nat.le_refl _) (List.replicate (t.size + 1) 0) (by simp)
  obtain ⟨R, h1, h2⟩ := costs_l1 s t hs ht s.size (t.size + 1) k _ (Nat.le_refl _) (Nat.le_refl _) (by omega) h0
  refine ⟨R, ?_, h2⟩
  unfold impl_costs.f
  rw [w64 (by omega) (by omega), if_pos (by omega), if_pos (by omega), impl_costs.l0, if_pos (by omega), w64 (by omega) (by omega), if_pos (by omega), if_pos (by omega), if_pos (by omega), if_pos (by rw [List.length_replicate]; omega)]
  rw [show (((s.size : Nat) : Int) + 1).toNat = s.size + 1 from by omega, show (((t.size : Nat) : Int) + 1).toNat = t.size + 1 from by omega, Int.toNat_natCast]
  rw [show (((t.size + 1 : Nat) : Int) - 1) = (t.size : Int) from by omega] at h1
  exact h1

theorem areShort_g (s t : ByteArray) : impl_areShort.f s t = some (decide (s.size ≤ 32 ∧ t.size ≤ 32)) := by
  unfold impl_areShort.f
  by_cases h : (s.size : Int) ≤ 32
  · rw [if_pos h]; congr 1; rw [decide_eq_decide]; omega
  · rw [if_neg h, decide_eq_false (by omega)]
theorem l05Long_g (s t : ByteArray) : spec_l05Long.f s t = some (decide (32 < s.size ∨ 32 < t.size)) := by
  unfold spec_l05Long.f
  by_cases h : (s.size : Int) > 32
  · rw [if_pos h, decide_eq_true (by omega)]
  · rw [if_neg h]; congr 1; rw [decide_eq_decide]; omega

theorem implet_rdL : rd_L1 = rdL := rfl
theorem impl_EditText_l0 (s t : ByteArray) (hs : s.size ≤ 32) (ht : t.size ≤ 32) (T : List (List Int)) (hT : TabR s t T 0) (d : Nat) : ∀ (k i j : Nat) (acc : List Int), i ≤ s.size → j ≤ t.size → (s.size - i) + (t.size - j) ≤ d → acc.length + d ≤ 1000 → 4 * d + 3 < k →
    impl_EditText.l0 k s t T acc (i : Int) (j : Int) = some (strOfNums (acc ++ etL s t d i j)) := by
  induction d with
  | zero =>
    intro k i j acc hi hj hd ha hk
    obtain ⟨k, rfl⟩ : ∃ q, k = q + 1 + 1 := ⟨k - 2, by omega⟩
    rw [impl_EditText.l0, if_neg (by omega), decide_eq_false (by omega), impl_EditText.j1, if_neg (by decide), etL, List.append_nil]
  | succ d ih =>
    intro k i j acc hi hj hd ha hk
    obtain ⟨k, rfl⟩ : ∃ q, k = q + 1 + 1 + 1 + 1 := ⟨k - 4, by omega⟩
    have hl := hT.1
    have hrow : ∀ r : Nat, r ≤ s.size → (rdL T (r : Int)).length = t.size + 1 := fun r hr => hT.2.1 r (by omega) hr
    have hval : ∀ r c : Nat, r ≤ s.size → c ≤ t.size → rd (rdL T (r : Int)) (c : Int) = ((levAt s t r c : Nat) : Int) := fun r c hr hc => hT.2.2 r c hr hc (by omega)
    have hle := levAt_le s t
    have w1 : ∀ n : Nat, n ≤ 32 → wrap64 ((n : Int) + 1) = ((n + 1 : Nat) : Int) := fun n hn => w64n (by omega)
    have step : impl_EditText.l0 (k + 1 + 1 + 1 + 1) s t T acc (i : Int) (j : Int) = impl_EditText.j1 (k + 1 + 1 + 1) s t T acc (i : Int) (j : Int) (decide (i < s.size ∨ j < t.size)) := by
      rw [impl_EditText.l0]
      by_cases c : i < s.size
      · rw [if_pos (by omega), decide_eq_true (.inl c)]
      · rw [if_neg (by omega)]
        congr 1
        rw [decide_eq_decide]
        omega
    rw [step, etL]
    by_cases h : i < s.size ∨ j < t.size
    · have r1 := hrow i hi
      have v1 := hval i j hi hj
      rw [if_pos h, decide_eq_true h, impl_EditText.j1, if_pos rfl, if_pos (by omega), if_pos (by omega), if_pos (by omega)]
      rw [implet_rdL]
      rw [if_pos (by omega), v1]
      have del : (if (i : Int) < (s.size : Int) then if 0 ≤ wrap64 ((i : Int) + 1) then if wrap64 ((i : Int) + 1) < (T.length : Int) then if (j : Int) < ((rdL T (wrap64 ((i : Int) + 1))).length : Int) then
            impl_EditText.j2 (k + 1 + 1) s t T acc (i : Int) (j : Int) ((levAt s t i j : Nat) : Int) (wrap64 (rd (rdL T (wrap64 ((i : Int) + 1))) (j : Int) + 1) == ((levAt s t i j : Nat) : Int)) else none else none else none
          else impl_EditText.j2 (k + 1 + 1) s t T acc (i : Int) (j : Int) ((levAt s t i j : Nat) : Int) false) =
          impl_EditText.j2 (k + 1 + 1) s t T acc (i : Int) (j : Int) ((levAt s t i j : Nat) : Int) (decide (i < s.size ∧ levAt s t (i + 1) j + 1 = levAt s t i j)) := by
        by_cases c : i < s.size
        · have r2 := hrow (i + 1) (by omega)
          have v2 := hval (i + 1) j (by omega) hj
          have b2 := hle (i + 1) j
          rw [if_pos (by omega), w1 i (by omega), if_pos (by omega), if_pos (by omega), if_pos (by omega), v2, w1 _ (by omega), int_beq_nat]
          congr 1
          rw [decide_eq_decide]
          omega
        · rw [if_neg (by omega), decide_eq_false (by omega)]
      rw [del, impl_EditText.j2]
      by_cases h1 : i < s.size ∧ levAt s t (i + 1) j + 1 = levAt s t i j
      · rw [if_pos (decide_eq_true h1), if_pos h1, if_pos (by omega), w1 i (by omega), ih _ (i + 1) j _ (by omega) hj (by omega) (by simp; omega) (by omega), List.append_assoc]
        rfl
      · rw [if_neg (by simpa using h1), if_neg h1]
        rw [implet_rdL]
        have ins : (if (j : Int) < (t.size : Int) then if (0 : Int) ≤ (i : Int) then if (i : Int) < (T.length : Int) then if 0 ≤ wrap64 ((j : Int) + 1) then if wrap64 ((j : Int) + 1) < ((rdL T (i : Int)).length : Int) then
              impl_EditText.j3 (k + 1) s t T acc (i : Int) (j : Int) (wrap64 (rd (rdL T (i : Int)) (wrap64 ((j : Int) + 1)) + 1) == ((levAt s t i j : Nat) : Int)) else none else none else none else none
            else impl_EditText.j3 (k + 1) s t T acc (i : Int) (j : Int) false) =
            impl_EditText.j3 (k + 1) s t T acc (i : Int) (j : Int) (decide (j < t.size ∧ levAt s t i (j + 1) + 1 = levAt s t i j)) := by
          by_cases c : j < t.size
          · have v2 := hval i (j + 1) hi (by omega)
            have b2 := hle i (j + 1)
            rw [if_pos (by omega), if_pos (by omega), if_pos (by omega), w1 j (by omega), if_pos (by omega), if_pos (by omega), v2, w1 _ (by omega), int_beq_nat]
            congr 1
            rw [decide_eq_decide]
            omega
          · rw [if_neg (by omega), decide_eq_false (by omega)]
        rw [ins, impl_EditText.j3]
        by_cases h2 : j < t.size ∧ levAt s t i (j + 1) + 1 = levAt s t i j
        · rw [if_pos (decide_eq_true h2), if_pos h2, if_pos (by omega), w1 j (by omega), ih _ i (j + 1) _ hi (by omega) (by omega) (by simp; omega) (by omega), List.append_assoc]
          rfl
        · obtain ⟨hi', hj', _⟩ := et_both hi hj h h1 h2
          rw [if_neg (by simpa using h2), if_neg h2, if_pos (by omega), if_pos (by omega), if_pos (by omega), if_pos (by omega), w1 i (by omega), w1 j (by omega)]
          by_cases h3 : bt s (i : Int) = bt t (j : Int)
          · rw [if_pos h3, if_pos h3, if_pos (by omega), ih _ (i + 1) (j + 1) _ (by omega) (by omega) (by omega) (by simp; omega) (by omega), List.append_assoc]
            rfl
          · rw [if_neg h3, if_neg h3, if_pos (by omega), ih _ (i + 1) (j + 1) _ (by omega) (by omega) (by omega) (by simp; omega) (by omega), List.append_assoc]
            rfl
    · rw [if_neg h, decide_eq_false h, impl_EditText.j1, if_neg (by decide), List.append_nil]
theorem impl_EditText_f (s t : ByteArray) {k : Nat} (hk : 1400 < k) : impl_EditText.f k s t = some (etN s t) := by
  unfold impl_EditText.f etN
  rw [areShort_g, Option.bind_some]
  by_cases h : s.size ≤ 32 ∧ t.size ≤ 32
  · obtain ⟨R, h1, h2⟩ := costs_f s t h.1 h.2 hk
    rw [if_pos (decide_eq_true h), if_pos h, h1, Option.bind_some]
    exact impl_EditText_l0 s t h.1 h.2 R h2 64 k 0 0 [] (by omega) (by omega) (by omega) (by simp) (by omega)
  · rw [if_neg (by simpa using h), if_neg h]

theorem table_rdL : rd_L1 = rdL := rfl
theorem table_cell (s t : ByteArray) (hs : s.size ≤ 32) (ht : t.size ≤ 32) (i j k : Nat) (T : List (List Int)) (hi : i ≤ s.size) (hj : j + 1 ≤ t.size + 1) (hT : Tab s t T i (j + 1))
    (ih : ∀ T', i ≤ s.size → j ≤ t.size + 1 → i * 40 + j + 2 ≤ k → Tab s t T' i j → ∃ R, spec_l05Table.l1 k s t T' (i : Int) ((j : Int) - 1) = some R ∧ TabR s t R 0) (hk : i * 40 + j + 2 ≤ k) :
    ∃ R, spec_l05Table.l1 (k + 1) s t T (i : Int) (((j + 1 : Nat) : Int) - 1) = some R ∧ TabR s t R 0 := by
  have hl := hT.1
  have hr := hT.len (Nat.le_refl _) hi
  have hb := levAt_le s t
  rw [show (((j + 1 : Nat) : Int) - 1) = (j : Int) from by omega, spec_l05Table.l1, if_pos (by omega)]
  simp only [table_rdL, w64 (show -9223372036854775808 ≤ (j : Int) - 1 by omega) (by omega), w64 (show -9223372036854775808 ≤ (i : Int) + 1 by omega) (by omega), w64 (show -9223372036854775808 ≤ (j : Int) + 1 by omega) (by omega)]
  by_cases e1 : i = s.size
  · rw [if_pos (by omega), if_pos (by omega), if_pos (by omega), if_pos (by omega), if_pos (by rw [hr]; omega)]
    rw [Int.toNat_natCast, Int.toNat_natCast]
    refine ih _ hi (by omega) hk (hT.put hi (by omega) ?_)
    rw [w64 (by omega) (by omega), e1, levAt_end]
    omega
  · rw [if_neg (by omega)]
    by_cases e2 : j = t.size
    · rw [if_pos (by omega), if_pos (by omega), if_pos (by omega), if_pos (by omega), if_pos (by rw [hr]; omega)]
      rw [Int.toNat_natCast, Int.toNat_natCast]
      refine ih _ hi (by omega) hk (hT.put hi (by omega) ?_)
      rw [w64 (by omega) (by omega), e2, levAt_end']
      omega
    · rw [if_neg (by omega)]
      have hr1 := hT.len (show i ≤ i + 1 by omega) (by omega)
      have c1 := hT.2.2 (i + 1) (j + 1) (by omega) (by omega) (by omega)
      have c2 := hT.2.2 (i + 1) j (by omega) (by omega) (by omega)
      have c3 := hT.2.2 i (j + 1) (by omega) (by omega) (by omega)
      have b1 := hb (i + 1) (j + 1)
      have b2 := hb (i + 1) j
      have b3 := hb i (j + 1)
      have hst := levAt_step s t (show i < s.size by omega) (show j < t.size by omega)
      rw [show ((i : Int) + 1) = ((i + 1 : Nat) : Int) from rfl, show ((j : Int) + 1) = ((j + 1 : Nat) : Int) from rfl]
      simp only [c1, c2, c3, hr, hr1, hl]
      by_cases e3 : bt s (i : Int) = bt t (j : Int)
      · rw [ne01, if_pos e3] at hst
        repeat rw [if_pos (by first | exact e3 | omega)]
        rw [Int.toNat_natCast, Int.toNat_natCast]
        refine ih _ hi (by omega) hk (hT.put hi (by omega) ?_)
        exact step_eq (by omega) (by omega) (by omega) hst
      · rw [ne01, if_neg e3] at hst
        repeat first | rw [if_pos (by omega)] | rw [if_neg e3]
        rw [Int.toNat_natCast, Int.toNat_natCast]
        refine ih _ hi (by omega) hk (hT.put hi (by omega) ?_)
        exact step_ne (by omega) (by omega) (by omega) hst
theorem table_l1 (s t : ByteArray) (hs : s.size ≤ 32) (ht : t.size ≤ 32) (i : Nat) : ∀ (j k : Nat) (T : List (List Int)), i ≤ s.size → j ≤ t.size + 1 → i * 40 + j + 2 ≤ k → Tab s t T i j →
    ∃ R, spec_l05Table.l1 k s t T (i : Int) ((j : Int) - 1) = some R ∧ TabR s t R 0 := by
  induction i with
  | zero =>
    intro j
    induction j with
    | zero =>
      intro k T hi hj hk hT
      obtain ⟨k, rfl⟩ : ∃ q, k = q + 1 + 1 := ⟨k - 2, by omega⟩
      refine ⟨T, ?_, hT.rows⟩
      rw [spec_l05Table.l1, if_neg (by omega), w64 (by omega) (by omega), spec_l05Table.l0, if_neg (by omega)]
    | succ j ihj =>
      intro k T hi hj hk hT
      obtain ⟨k, rfl⟩ : ∃ q, k = q + 1 := ⟨k - 1, by omega⟩
      exact table_cell s t hs ht 0 j k T hi hj hT (ihj k)
        (by omega)
  | succ i ih =>
    intro j
    induction j with
    | zero =>
      intro k T hi hj hk hT
      obtain ⟨k, rfl⟩ : ∃ q, k = q + 1 + 1 := ⟨k - 2, by omega⟩
      have hr := hT.rows.row (by omega) (List.replicate (t.size + 1) 0) (by simp)
      have hl := hT.1
      obtain ⟨R, h1, h2⟩ := ih (t.size + 1) k _ (by omega) (Nat.le_refl _) (by omega) hr
      refine ⟨R, ?_, h2⟩
      rw [spec_l05Table.l1, if_neg (by omega), w64 (by omega) (by omega), spec_l05Table.l0, if_pos (by omega), w64 (by omega) (by omega)]
      rw [if_pos (by omega), if_pos (by omega), if_pos (by omega), if_pos (by omega)]
      rw [show (((i + 1 : Nat) : Int) - 1) = (i : Int) from by omega, show (((t.size : Nat) : Int) + 1).toNat = t.size + 1 from by omega, Int.toNat_natCast]
      rw [show (((t.size + 1 : Nat) : Int) - 1) = (t.size : Int) from by omega] at h1
      exact h1
    | succ j ihj =>
      intro k T hi hj hk hT
      obtain ⟨k, rfl⟩ : ∃ q, k = q + 1 := ⟨k - 1, by omega⟩
      exact table_cell s t hs ht (i + 1) j k T hi hj hT (ihj k)
        (by omega)
theorem table_f (s t : ByteArray) (hs : s.size ≤ 32) (ht : t.size ≤ 32) {k : Nat} (hk : 1400 < k) : ∃ R, spec_l05Table.f k s t = some R ∧ TabR s t R 0 := by
  obtain ⟨k, rfl⟩ : ∃ q, k = q + 1 := ⟨k - 1, by omega⟩
  have h0 := (TabR.start s t).row (Nat.le_refl _) (List.replicate (t.size + 1) 0) (by simp)
  obtain ⟨R, h1, h2⟩ := table_l1 s t hs ht s.size (t.size + 1) k _ (Nat.le_refl _) (Nat.le_refl _) (by omega) h0
  refine ⟨R, ?_, h2⟩
  unfold spec_l05Table.f
  rw [w64 (by omega) (by omega), if_pos (by omega), if_pos (by omega), spec_l05Table.l0, if_pos (by omega), w64 (by omega) (by omega), if_pos (by omega), if_pos (by omega), if_pos (by omega), if_pos (by rw [List.length_replicate]; omega)]
  rw [show (((s.size : Nat) : Int) + 1).toNat = s.size + 1 from by omega, show (((t.size : Nat) : Int) + 1).toNat = t.size + 1 from by omega, Int.toNat_natCast]
  rw [show (((t.size + 1 : Nat) : Int) - 1) = (t.size : Int) from by omega] at h1
  exact h1

theorem specet_rdL : rd_L1 = rdL := rfl
theorem spec_EditText_l0 (s t : ByteArray) (hs : s.size ≤ 32) (ht : t.size ≤ 32) (T : List (List Int)) (hT : TabR s t T 0) (d : Nat) : ∀ (k i j : Nat) (acc : List Int), i ≤ s.size → j ≤ t.size → (s.size - i) + (t.size - j) ≤ d → acc.length + d ≤ 1000 → 4 * d + 3 < k →
    spec_EditText.l0 k s t T acc (i : Int) (j : Int) = some (strOfNums (acc ++ etL s t d i j)) := by
  induction d with
  | zero =>
    intro k i j acc hi hj hd ha hk
    obtain ⟨k, rfl⟩ : ∃ q, k = q + 1 + 1 := ⟨k - 2, by omega⟩
    rw [spec_EditText.l0, if_neg (by omega), decide_eq_false (by omega), spec_EditText.j1, if_neg (by decide), etL, List.append_nil]
  | succ d ih =>
    intro k i j acc hi hj hd ha hk
    obtain ⟨k, rfl⟩ : ∃ q, k = q + 1 + 1 + 1 + 1 := ⟨k - 4, by omega⟩
    have hl := hT.1
    have hrow : ∀ r : Nat, r ≤ s.size → (rdL T (r : Int)).length = t.size + 1 := fun r hr => hT.2.1 r (by omega) hr
    have hval : ∀ r c : Nat, r ≤ s.size → c ≤ t.size → rd (rdL T (r : Int)) (c : Int) = ((levAt s t r c : Nat) : Int) := fun r c hr hc => hT.2.2 r c hr hc (by omega)
    have hle := levAt_le s t
    have w1 : ∀ n : Nat, n ≤ 32 → wrap64 ((n : Int) + 1) = ((n + 1 : Nat) : Int) := fun n hn => w64n (by omega)
    have step : spec_EditText.l0 (k + 1 + 1 + 1 + 1) s t T acc (i : Int) (j : Int) = spec_EditText.j1 (k + 1 + 1 + 1) s t T acc (i : Int) (j : Int) (decide (i < s.size ∨ j < t.size)) := by
      rw [spec_EditText.l0]
      by_cases c : i < s.size
      · rw [if_pos (by omega), decide_eq_true (.inl c)]
      · rw [if_neg (by omega)]
        congr 1
        rw [decide_eq_decide]
        omega
    rw [step, etL]
    by_cases h : i < s.size ∨ j < t.size
    · have r1 := hrow i hi
      have v1 := hval i j hi hj
      have b1 := hle i j
      rw [if_pos h, decide_eq_true h, spec_EditText.j1, if_pos rfl]
      rw [specet_rdL]
      have w2 : ∀ n : Nat, n ≤ 32 → wrap64 (1 + (n : Int)) = ((n + 1 : Nat) : Int) := fun n hn => by rw [w64 (by omega) (by omega)]; omega
      have del : (if (i : Int) < (s.size : Int) then if (0 : Int) ≤ (i : Int) then if (i : Int) < (T.length : Int) then if (0 : Int) ≤ (j : Int) then if (j : Int) < ((rdL T (i : Int)).length : Int) then if 0 ≤ wrap64 ((i : Int) + 1) then if wrap64 ((i : Int) + 1) < (T.length : Int) then if (j : Int) < ((rdL T (wrap64 ((i : Int) + 1))).length : Int) then
            spec_EditText.j2 (k + 1 + 1) s t T acc (i : Int) (j : Int) (rd (rdL T (i : Int)) (j : Int) == wrap64 (1 + rd (rdL T (wrap64 ((i : Int) + 1))) (j : Int))) else none else none else none else none else none else none else none
          else spec_EditText.j2 (k + 1 + 1) s t T acc (i : Int) (j : Int) false) =
          spec_EditText.j2 (k + 1 + 1) s t T acc (i : Int) (j : Int) (decide (i < s.size ∧ levAt s t (i + 1) j + 1 = levAt s t i j)) := by
        by_cases c : i < s.size
        · have r2 := hrow (i + 1) (by omega)
          have v2 := hval (i + 1) j (by omega) hj
          have b2 := hle (i + 1) j
          rw [if_pos (by omega), if_pos (by omega), if_pos (by omega), if_pos (by omega), if_pos (by omega), w1 i (by omega), if_pos (by omega), if_pos (by omega), if_pos (by omega), v2, v1, w2 _ (by omega), int_beq_nat]
          congr 1
          rw [decide_eq_decide]
          omega
        · rw [if_neg (by omega), decide_eq_false (by omega)]
      rw [del, spec_EditText.j2]
      by_cases h1 : i < s.size ∧ levAt s t (i + 1) j + 1 = levAt s t i j
      · rw [if_pos (decide_eq_true h1), if_pos h1, if_pos (by omega), w1 i (by omega), ih _ (i + 1) j _ (by omega) hj (by omega) (by simp; omega) (by omega), List.append_assoc]
        rfl
      · rw [if_neg (by simpa using h1), if_neg h1]
        rw [specet_rdL]
        have ins : (if (j : Int) < (t.size : Int) then if (0 : Int) ≤ (i : Int) then if (i : Int) < (T.length : Int) then if (0 : Int) ≤ (j : Int) then if (j : Int) < ((rdL T (i : Int)).length : Int) then if 0 ≤ wrap64 ((j : Int) + 1) then if wrap64 ((j : Int) + 1) < ((rdL T (i : Int)).length : Int) then
              spec_EditText.j3 (k + 1) s t T acc (i : Int) (j : Int) (rd (rdL T (i : Int)) (j : Int) == wrap64 (1 + rd (rdL T (i : Int)) (wrap64 ((j : Int) + 1)))) else none else none else none else none else none else none
            else spec_EditText.j3 (k + 1) s t T acc (i : Int) (j : Int) false) =
            spec_EditText.j3 (k + 1) s t T acc (i : Int) (j : Int) (decide (j < t.size ∧ levAt s t i (j + 1) + 1 = levAt s t i j)) := by
          by_cases c : j < t.size
          · have v2 := hval i (j + 1) hi (by omega)
            have b2 := hle i (j + 1)
            rw [if_pos (by omega), if_pos (by omega), if_pos (by omega), if_pos (by omega), if_pos (by omega), w1 j (by omega), if_pos (by omega), if_pos (by omega), v2, v1, w2 _ (by omega), int_beq_nat]
            congr 1
            rw [decide_eq_decide]
            omega
          · rw [if_neg (by omega), decide_eq_false (by omega)]
        rw [ins, spec_EditText.j3]
        by_cases h2 : j < t.size ∧ levAt s t i (j + 1) + 1 = levAt s t i j
        · rw [if_pos (decide_eq_true h2), if_pos h2, if_pos (by omega), w1 j (by omega), ih _ i (j + 1) _ hi (by omega) (by omega) (by simp; omega) (by omega), List.append_assoc]
          rfl
        · obtain ⟨hi', hj', hlv⟩ := et_both hi hj h h1 h2
          have r2 := hrow (i + 1) (by omega)
          have v2 := hval (i + 1) (j + 1) (by omega) (by omega)
          rw [if_neg (by simpa using h2), if_neg h2, if_pos (by omega), if_pos (by omega), if_pos (by omega), if_pos (by omega)]
          rw [specet_rdL]
          rw [w1 i (by omega), w1 j (by omega)]
          by_cases h3 : bt s (i : Int) = bt t (j : Int)
          · rw [ne01, if_pos h3] at hlv
            rw [if_pos h3, if_pos h3, if_pos (by omega), if_pos (by omega), if_pos (by omega), if_pos (by omega), if_pos (by omega), if_pos (by omega), v1, v2, if_pos (by omega), if_pos (by omega), ih _ (i + 1) (j + 1) _ (by omega) (by omega) (by omega) (by simp; omega) (by omega), List.append_assoc]
            rfl
          · rw [if_neg h3, if_neg h3, if_pos (by omega), ih _ (i + 1) (j + 1) _ (by omega) (by omega) (by omega) (by simp; omega) (by omega), List.append_assoc]
            rfl
    · rw [if_neg h, decide_eq_false h, spec_EditText.j1, if_neg (by decide), List.append_nil]
theorem spec_EditText_f (s t : ByteArray) {k : Nat} (hk : 1400 < k) : spec_EditText.f k s t = some (etN s t) := by
  unfold spec_EditText.f etN
  rw [l05Long_g, Option.bind_some]
  by_cases h : s.size ≤ 32 ∧ t.size ≤ 32
  · obtain ⟨R, h1, h2⟩ := table_f s t h.1 h.2 hk
    rw [if_neg (by simp only [decide_eq_true_eq]; omega), if_pos h, h1, Option.bind_some]
    exact spec_EditText_l0 s t h.1 h.2 R h2 64 k 0 0 [] (by omega) (by omega) (by omega) (by simp) (by omega)
  · rw [if_pos (by simp only [decide_eq_true_eq]; omega), if_neg h]

theorem FnExactEditText : laws_FnExactEditText.Pure := by
  intro s t _ _
  refine ⟨1401, ?_⟩
  unfold laws_FnExactEditText.f
  rw [spec_EditText_f s t (by omega), impl_EditText_f s t (by omega)]
  simp

end Go.Proofs.Ytnmalfhdndnelaa.Pure
