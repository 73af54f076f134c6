/- The law FnEditsLeast holds of the program: whatever its arguments (of the kinds and sizes that the statement names), it answers true. -/
import Derived.Test.YtnmalfhdndnelaaQFnEditsLeastx11
import Derived.Test.YtnmalfhdndnelaaLib
import Derived.Test.YtnmalfhdndnelaaLibLev
import Derived.Test.YtnmalfhdndnelaaLibTab
import Derived.Test.YtnmalfhdndnelaaLibEdit
import Derived.Test.YtnmalfhdndnelaaLibEt
import Derived.Test.YtnmalfhdndnelaaLibBytes
set_option linter.unusedVariables false
set_option linter.unusedSimpArgs false
namespace Go.Proofs.Ytnmalfhdndnelaa.Pure
open Go.RowKit Go.Proofs.Ytnmalfhdndnelaa.PFnEditsLeast Go.Proofs.YtnmalfhdndnelaaW.PrintWords Go.Proofs.YtnmalfhdndnelaaW.PrintLast Go.Proofs.Ytnmalfhdndnelaa.L 

theorem costs_rdL : rd_L2 = rdL := rfl
theorem costs_cell (s t : ByteArray) (hs : s.size ≤ 32) (ht : t.size ≤ 32) (i j k : Nat) (T : List (List Int)) (hi : i ≤ s.size) (hj : j + 1 ≤ t.size + 1) (hT : Tab s t T i (j + 1))
    (ih : ∀ T', i ≤ s.size → j ≤ t.size + 1 → i * 40 + j + 2 ≤ k → Tab s t T' i j → ∃ R, impl_costs.l1 k s t T' (i : Int) ((j : Int) - 1) = some R ∧ TabR s t R 0) (hk : i * 40 + j + 2 ≤ k) :
    ∃ R, impl_costs.l1 (k + 1) s t T (i : Int) (((j + 1 : Nat) : Int) - 1) = some R ∧ TabR s t R 0 := by
  have hl := hT.1
  have hr := hT.len (Nat.le_refl _) hi
  have hb := levAt_le s t
  rw [show (((j + 1 : Nat) : Int) - 1) = (j : Int) from by omega, impl_costs.l1, if_pos (by omega)]
  simp only [costs_rdL, w64 (show -9223372036854775808 ≤ (j : Int) - 1 by omega) (by omega), w64 (show -9223372036854775808 ≤ (i : Int) + 1 by omega) (by omega), w64 (show -9223372036854775808 ≤ (j : Int) + 1 by omega) (by omega)]
  by_cases e1 : i = s.size
  · rw [if_pos (by omega), if_pos (by omega), if_pos (by omega), if_pos (by omega), if_pos (by rw [hr]; omega)]
    rw [Int.toNat_natCast, Int.toNat_natCast]
    refine ih _ hi (by omega) hk (hT.put hi (by omega) ?_)
    rw [w64 (by omega) (by omega), e1, levAt_end]
    omega
  · rw [if_neg (by omega)]
    by_cases e2 : j = t.size
    · rw [if_pos (by omega), if_pos (by omega), if_pos (by omega), if_pos (by omega), if_pos (by rw [hr]; omega)]
      rw [Int.toNat_natCast, Int.toNat_natCast]
      refine ih _ hi (by omega) hk (hT.put hi (by omega) ?_)
      rw [w64 (by omega) (by omega), e2, levAt_end']
      omega
    · rw [if_neg (by omega)]
      have hr1 := hT.len (show i ≤ i + 1 by omega) (by omega)
      have c1 := hT.2.2 (i + 1) (j + 1) (by omega) (by omega) (by omega)
      have c2 := hT.2.2 (i + 1) j (by omega) (by omega) (by omega)
      have c3 := hT.2.2 i (j + 1) (by omega) (by omega) (by omega)
      have b1 := hb (i + 1) (j + 1)
      have b2 := hb (i + 1) j
      have b3 := hb i (j + 1)
      have hst := levAt_step s t (show i < s.size by omega) (show j < t.size by omega)
      rw [show ((i : Int) + 1) = ((i + 1 : Nat) : Int) from rfl, show ((j : Int) + 1) = ((j + 1 : Nat) : Int) from rfl]
      simp only [c1, c2, c3, hr, hr1, hl]
      by_cases e3 : bt s (i : Int) = bt t (j : Int)
      · rw [ne01, if_pos e3] at hst
        repeat rw [if_pos (by first | exact e3 | omega)]
        rw [Int.toNat_natCast, Int.toNat_natCast]
        refine ih _ hi (by omega) hk (hT.put hi (by omega) ?_)
        exact step_eq' (by omega) (by omega) (by omega) hst
      · rw [ne01, if_neg e3] at hst
        repeat first | rw [if_pos (by omega)] | rw [if_neg e3]
        rw [Int.toNat_natCast, Int.toNat_natCast]
        refine ih _ hi (by omega) hk (hT.put hi (by omega) ?_)
        exact step_ne' (by omega) (by omega) (by omega) hst
theorem costs_l1 (s t : ByteArray) (hs : s.size ≤ 32) (ht : t.size ≤ 32) (i : Nat) : ∀ (j k : Nat) (T : List (List Int)), i ≤ s.size → j ≤ t.size + 1 → i * 40 + j + 2 ≤ k → Tab s t T i j →
    ∃ R, impl_costs.l1 k s t T (i : Int) ((j : Int) - 1) = some R ∧ TabR s t R 0 := by
  induction i with
  | zero =>
    intro j
    induction j with
    | zero =>
      intro k T hi hj hk hT
      obtain ⟨k, rfl⟩ : ∃ q, k = q + 1 + 1 := ⟨k - 2, by omega⟩
      refine ⟨T, ?_, hT.rows⟩
      rw [impl_costs.l1, if_neg (by omega), w64 (by omega) (by omega), impl_costs.l0, if_neg (by omega)]
    | succ j ihj =>
      intro k T hi hj hk hT
      obtain ⟨k, rfl⟩ : ∃ q, k = q + 1 := ⟨k - 1, by omega⟩
      exact costs_cell s t hs ht 0 j k T hi hj hT (ihj k)
        (by omega)
  | succ i ih =>
    intro j
    induction j with
    | zero =>
      intro k T hi hj hk hT
      obtain ⟨k, rfl⟩ : ∃ q, k = q + 1 + 1 := ⟨k - 2, by omega⟩
      have hr := hT.rows.row (by omega) (List.replicate (t.size + 1) 0) (by simp)
      have hl := hT.1
      obtain ⟨R, h1, h2⟩ := ih (t.size + 1) k _ (by omega) (Nat.le_refl _) (by omega) hr
      refine ⟨R, ?_, h2⟩
      rw [impl_costs.l1, if_neg (by omega), w64 (by omega) (by omega), impl_costs.l0, if_pos (by omega), w64 (by omega) (by omega)]
      rw [if_pos (by omega), if_pos (by omega), if_pos (by omega), if_pos (by omega)]
      rw [show (((i + 1 : Nat) : Int) - 1) = (i : Int) from by omega, show (((t.size : Nat) : Int) + 1).toNat = t.size + 1 from by omega, Int.toNat_natCast]
      rw [show (((t.size + 1 : Nat) : Int) - 1) = (t.size : Int) from by omega] at h1
      exact h1
    | succ j ihj =>
      intro k T hi hj hk hT
      obtain ⟨k, rfl⟩ : ∃ q, k = q + 1 := ⟨k - 1, by omega⟩
      exact costs_cell s t hs ht (i + 1) j k T hi hj hT (ihj k)
        (by omega)
theorem costs_f (s t : ByteArray) (hs : s.size ≤ 32) (ht : t.size ≤ 32) {k : Nat} (hk : 1400 < k) : ∃ R, impl_costs.f k s t = some R ∧ TabR s t R 0 := by
  obtain ⟨k, rfl⟩ : ∃ q, k = q + 1 := ⟨k - 1, by omega⟩
  have h0 := (TabR.start s t).row (Nat.le_refl _) (List.replicate (t.size + 1) 0) (by simp)
  obtain ⟨R, h1, h2⟩ := costs_l1 s t hs ht s.size (t.size + 1) k _ (Nat.le_refl _) (Nat.le_refl _) (by omega) h0
  refine ⟨R, ?_, h2⟩
  unfold impl_costs.f
  rw [w64 (by omega) (by omega), if_pos (by omega), if_pos (by omega), impl_costs.l0, if_pos (by omega), w64 (by omega) (by omega), if_pos (by omega), if_pos (by omega), if_pos (by omega), if_pos (by rw [List.length_replicate]; omega)]
  rw [show (((s.size : Nat) : Int) + 1).toNat = s.size + 1 from by omega, show (((t.size : Nat) : Int) + 1).toNat = t.size + 1 from by omega, Int.toNat_natCast]
  rw [show (((t.size + 1 : Nat) : Int) - 1) = (t.size : Int) from by omega] at h1
  exact h1

theorem table_rdL : rd_L2 = rdL := rfl
theorem table_cell (s t : ByteArray) (hs : s.size ≤ 32) (ht : t.size ≤ 32) (i j k : Nat) (T : List (List Int)) (hi : i ≤ s.size) (hj : j + 1 ≤ t.size + 1) (hT : Tab s t T i (j + 1))
    (ih : ∀ T', i ≤ s.size → j ≤ t.size + 1 → i * 40 + j + 2 ≤ k → Tab s t T' i j → ∃ R, spec_l05Table.l1 k s t T' (i : Int) ((j : Int) - 1) = some R ∧ TabR s t R 0) (hk : i * 40 + j + 2 ≤ k) :
    ∃ R, spec_l05Table.l1 (k + 1) s t T (i : Int) (((j + 1 : Nat) : Int) - 1) = some R ∧ TabR s t R 0 := by
  have hl := hT.1
  have hr := hT.len (Nat.le_refl _) hi
  have hb := levAt_le s t
  rw [show (((j + 1 : Nat) : Int) - 1) = (j : Int) from by omega, spec_l05Table.l1, if_pos (by omega)]
  simp only [table_rdL, w64 (show -9223372036854775808 ≤ (j : Int) - 1 by omega) (by omega), w64 (show -9223372036854775808 ≤ (i : Int) + 1 by omega) (by omega), w64 (show -9223372036854775808 ≤ (j : Int) + 1 by omega) (by omega)]
  by_cases e1 : i = s.size
  · rw [if_pos (by omega), if_pos (by omega), if_pos (by omega), if_pos (by omega), if_pos (by rw [hr]; omega)]
    rw [Int.toNat_natCast, Int.toNat_natCast]
    refine ih _ hi (by omega) hk (hT.put hi (by omega) ?_)
    rw [w64 (by omega) (by omega), e1, levAt_end]
    omega
  · rw [if_neg (by omega)]
    by_cases e2 : j = t.size
    · rw [if_pos (by omega), if_pos (by omega), if_pos (by omega), if_pos (by omega), if_pos (by rw [hr]; omega)]
      rw [Int.toNat_natCast, Int.toNat_natCast]
      refine ih _ hi (by omega) hk (hT.put hi (by omega) ?_)
      rw [w64 (by omega) (by omega), e2, levAt_end']
      omega
    · rw [if_neg (by omega)]
      have hr1 := hT.len (show i ≤ i + 1 by omega) (by omega)
      have c1 := hT.2.2 (i + 1) (j + 1) (by omega) (by omega) (by omega)
      have c2 := hT.2.2 (i + 1) j (by omega) (by omega) (by omega)
      have c3 := hT.2.2 i (j + 1) (by omega) (by omega) (by omega)
      have b1 := hb (i + 1) (j + 1)
      have b2 := hb (i + 1) j
      have b3 := hb i (j + 1)
      have hst := levAt_step s t (show i < s.size by omega) (show j < t.size by omega)
      rw [show ((i : Int) + 1) = ((i + 1 : Nat) : Int) from rfl, show ((j : Int) + 1) = ((j + 1 : Nat) : Int) from rfl]
      simp only [c1, c2, c3, hr, hr1, hl]
      by_cases e3 : bt s (i : Int) = bt t (j : Int)
      · rw [ne01, if_pos e3] at hst
        repeat rw [if_pos (by first | exact e3 | omega)]
        rw [Int.toNat_natCast, Int.toNat_natCast]
        refine ih _ hi (by omega) hk (hT.put hi (by omega) ?_)
        exact step_eq (by omega) (by omega) (by omega) hst
      · rw [ne01, if_neg e3] at hst
        repeat first | rw [if_pos (by omega)] | rw [if_neg e3]
        rw [Int.toNat_natCast, Int.toNat_natCast]
        refine ih _ hi (by omega) hk (hT.put hi (by omega) ?_)
        exact step_ne (by omega) (by omega) (by omega) hst
theorem table_l1 (s t : ByteArray) (hs : s.size ≤ 32) (ht : t.size ≤ 32) (i : Nat) : ∀ (j k : Nat) (T : List (List Int)), i ≤ s.size → j ≤ t.size + 1 → i * 40 + j + 2 ≤ k → Tab s t T i j →
    ∃ R, spec_l05Table.l1 k s t T (i : Int) ((j : Int) - 1) = some R ∧ TabR s t R 0 := by
  induction i with
  | zero =>
    intro j
    induction j with
    | zero =>
      intro k T hi hj hk hT
      obtain ⟨k, rfl⟩ : ∃ q, k = q + 1 + 1 := ⟨k - 2, by omega⟩
      refine ⟨T, ?_, hT.rows⟩
      rw [spec_l05Table.l1, if_neg (by omega), w64 (by omega) (by omega), spec_l05Table.l0, if_neg (by omega)]
    | succ j ihj =>
      intro k T hi hj hk hT
      obtain ⟨k, rfl⟩ : ∃ q, k = q + 1 := ⟨k - 1, by omega⟩
      exact table_cell s t hs ht 0 j k T hi hj hT (ihj k)
        (by omega)
  | succ i ih =>
    intro j
    induction j with
    | zero =>
      intro k T hi hj hk hT
      obtain ⟨k, rfl⟩ : ∃ q, k = q + 1 + 1 := ⟨k - 2, by omega⟩
      have hr := hT.rows.row (by omega) (List.replicate (t.size + 1) 0) (by simp)
      have hl := hT.1
      obtain ⟨R, h1, h2⟩ := ih (t.size + 1) k _ (by omega) (Nat.le_refl _) (by omega) hr
      refine ⟨R, ?_, h2⟩
      rw [spec_l05Table.l1, if_neg (by omega), w64 (by omega) (by omega), spec_l05Table.l0, if_pos (by omega), w64 (by omega) (by omega)]
      rw [if_pos (by omega), if_pos (by omega), if_pos (by omega), if_pos (by omega)]
      rw [show (((i + 1 : Nat) : Int) - 1) = (i : Int) from by omega, show (((t.size : Nat) : Int) + 1).toNat = t.size + 1 from by omega, Int.toNat_natCast]
      rw [show (((t.size + 1 : Nat) : Int) - 1) = (t.size : Int) from by omega] at h1
      exact h1
    | succ j ihj =>
      intro k T hi hj hk hT
      obtain ⟨k, rfl⟩ : ∃ q, k = q + 1 := ⟨k - 1, by omega⟩
      exact table_cell s t hs ht (i + 1) j k T hi hj hT (ihj k)
        (by omega)
theorem table_f (s t : ByteArray) (hs : s.size ≤ 32) (ht : t.size ≤ 32) {k : Nat} (hk : 1400 < k) : ∃ R, spec_l05Table.f k s t = some R ∧ TabR s t R 0 := by
  obtain ⟨k, rfl⟩ : ∃ q, k = q + 1 := ⟨k - 1, by omega⟩
  have h0 := (TabR.start s t).row (Nat.le_refl _) (List.replicate (t.size + 1) 0) (by simp)
  obtain ⟨R, h1, h2⟩ := table_l1 s t hs ht s.size (t.size + 1) k _ (Nat.le_refl _) (Nat.le_refl _) (by omega) h0
  refine ⟨R, ?_, h2⟩
  unfold spec_l05Table.f
  rw [w64 (by omega) (by omega), if_pos (by omega), if_pos (by omega), spec_l05Table.l0, if_pos (by omega), w64 (by omega) (by omega), if_pos (by omega), if_pos (by omega), if_pos (by omega), if_pos (by rw [List.length_replicate]; omega)]
  rw [show (((s.size : Nat) : Int) + 1).toNat = s.size + 1 from by omega, show (((t.size : Nat) : Int) + 1).toNat = t.size + 1 from by omega, Int.toNat_natCast]
  rw [show (((t.size + 1 : Nat) : Int) - 1) = (t.size : Int) from by omega] at h1
  exact h1

theorem l05Long_f (s t : ByteArray) : spec_l05Long.f s t = some (decide (32 < s.size ∨ 32 < t.size)) := by
  unfold spec_l05Long.f
  by_cases h : (s.size : Int) > 32
  · rw [if_pos h, decide_eq_true (by omega)]
  · rw [if_neg h]; congr 1; rw [decide_eq_decide]; omega
theorem areShort_f (s t : ByteArray) : impl_areShort.f s t = some (decide (s.size ≤ 32 ∧ t.size ≤ 32)) := by
  unfold impl_areShort.f
  by_cases h : (s.size : Int) ≤ 32
  · rw [if_pos h]; congr 1; rw [decide_eq_decide]; omega
  · rw [if_neg h, decide_eq_false (by omega)]
/-- the distance of the document's fifth chapter -/
def distN (s t : ByteArray) : Int := if s.size ≤ 32 ∧ t.size ≤ 32 then (lev (bytesOf s) (bytesOf t) : Int) else -1
theorem spec_Distance_f (s t : ByteArray) {k : Nat} (hk : 1400 < k) : spec_Distance.f k s t = some (distN s t) := by
  unfold spec_Distance.f distN
  rw [l05Long_f, Option.bind_some]
  by_cases h : s.size ≤ 32 ∧ t.size ≤ 32
  · obtain ⟨R, h1, h2⟩ := table_f s t h.1 h.2 hk
    obtain ⟨r1, r2, r3⟩ := h2.top
    rw [if_neg (by simp only [decide_eq_true_eq]; omega), h1, Option.bind_some, table_rdL, if_pos (by omega), if_pos (by omega), r3, if_pos h, levAt_top]
  · rw [if_pos (by simp only [decide_eq_true_eq]; omega), if_neg h]
theorem costs_top (s t : ByteArray) (hs : s.size ≤ 32) (ht : t.size ≤ 32) {k : Nat} (hk : 1400 < k) {α : Type} (g : Int → Option α) :
    ((impl_costs.f k s t).bind fun T => if 0 < (T.length : Int) then (if 0 < ((rd_L2 T 0).length : Int) then g (rd (rd_L2 T 0) 0) else none) else none) = g (lev (bytesOf s) (bytesOf t) : Int) := by
  obtain ⟨R, h1, h2⟩ := costs_f s t hs ht hk
  obtain ⟨r1, r2, r3⟩ := h2.top
  rw [h1, Option.bind_some, costs_rdL, if_pos (by omega), if_pos (by omega), r3, levAt_top]

theorem impl_Distance_f (s t : ByteArray) {k : Nat} (hk : 1400 < k) : impl_Distance.f k s t = some (distN s t) := by
  unfold impl_Distance.f distN
  rw [areShort_f, Option.bind_some]
  by_cases h : s.size ≤ 32 ∧ t.size ≤ 32
  · rw [if_pos (decide_eq_true h), if_pos h]
    exact costs_top s t h.1 h.2 hk some
  · rw [if_neg (by simpa using h), if_neg h]

theorem areShort_g (s t : ByteArray) : impl_areShort.f s t = some (decide (s.size ≤ 32 ∧ t.size ≤ 32)) := by
  unfold impl_areShort.f
  by_cases h : (s.size : Int) ≤ 32
  · rw [if_pos h]; congr 1; rw [decide_eq_decide]; omega
  · rw [if_neg h, decide_eq_false (by omega)]
theorem l05Long_g (s t : ByteArray) : spec_l05Long.f s t = some (decide (32 < s.size ∨ 32 < t.size)) := by
  unfold spec_l05Long.f
  by_cases h : (s.size : Int) > 32
  · rw [if_pos h, decide_eq_true (by omega)]
  · rw [if_neg h]; congr 1; rw [decide_eq_decide]; omega

theorem impl_EditCost_l0 (e s t : ByteArray) (he : e.size ≤ 64) (hs : s.size ≤ 32) (ht : t.size ≤ 32) (d : Nat) : ∀ (k p i j : Nat) (c : Int), i ≤ s.size → j ≤ t.size → p + d = e.size → 0 ≤ c → c + d ≤ 1000 → 3 * d < k →
    impl_EditCost.l0 k e s t (i : Int) (j : Int) c (e.size : Int) (p : Int) = some (ec e s t d p i j c) := by
  induction d with
  | zero =>
    intro k p i j c hi hj hp hc hcd hk
    obtain ⟨k, rfl⟩ : ∃ q, k = q + 1 := ⟨k - 1, by omega⟩
    rw [impl_EditCost.l0, if_neg (by omega), ec]
    by_cases h1 : i < s.size
    · rw [if_pos (by omega), if_pos (.inl h1)]
    · rw [if_neg (by omega)]
      by_cases h2 : j < t.size
      · rw [if_pos (by omega), if_pos (.inr h2)]
      · rw [if_neg (by omega), if_neg (by omega)]
  | succ d ih =>
    intro k p i j c hi hj hp hc hcd hk
    obtain ⟨k, rfl⟩ : ∃ q, k = q + 1 + 1 + 1 := ⟨k - 3, by omega⟩
    rw [impl_EditCost.l0, if_pos (by omega), if_pos (by omega), if_pos (by omega), ec]
    generalize bt e (p : Int) = b
    try simp only [int_eq_nat, int_beq_nat]
    by_cases h100 : b = 100
    · have q100 : (b = 100) = True := eq_true h100
      have q105 : (b = 105) = False := eq_false (by omega)
      have q107 : (b = 107) = False := eq_false (by omega)
      have q115 : (b = 115) = False := eq_false (by omega)
      simp only [q100, q105, q107, q115, if_true, if_false]
      by_cases h : i = s.size
      · rw [if_pos h, if_pos h, impl_EditCost.j2, if_pos rfl]
      · rw [if_neg h, if_neg h, impl_EditCost.j2, if_neg (by decide)]
        simp only [q100, q105, q107, q115, if_true, if_false]
        rw [w64n (n := i) (by omega), w64 (n := c + 1) (by omega) (by omega), w64n (n := p) (by omega)]
        exact ih _ _ _ _ _ (by omega) (by omega) (by omega) (by omega) (by omega) (by omega)
    · by_cases h105 : b = 105
      · have q100 : (b = 100) = False := eq_false (by omega)
        have q105 : (b = 105) = True := eq_true h105
        have q107 : (b = 107) = False := eq_false (by omega)
        have q115 : (b = 115) = False := eq_false (by omega)
        simp only [q100, q105, q107, q115, if_true, if_false]
        rw [impl_EditCost.j2]
        by_cases h : j = t.size
        · rw [if_pos h, if_pos (decide_eq_true h)]
        · rw [if_neg h, if_neg (by simpa using h)]
          simp only [q100, q105, q107, q115, if_true, if_false]
          rw [w64n (n := j) (by omega), w64 (n := c + 1) (by omega) (by omega), w64n (n := p) (by omega)]
          exact ih _ _ _ _ _ (by omega) (by omega) (by omega) (by omega) (by omega) (by omega)
      · by_cases h107 : b = 107
        · have q100 : (b = 100) = False := eq_false (by omega)
          have q105 : (b = 105) = False := eq_false (by omega)
          have q107 : (b = 107) = True := eq_true h107
          have q115 : (b = 115) = False := eq_false (by omega)
          have r107 : (b == 107) = true := beq_iff_eq.2 h107
          simp only [q100, q105, q107, q115, if_true, if_false]
          by_cases h : i = s.size
          · rw [if_pos h, if_pos (.inl h), impl_EditCost.j2, if_pos rfl]
          · rw [if_neg h, impl_EditCost.j2]
            by_cases h' : j = t.size
            · rw [if_pos (decide_eq_true h'), if_pos (.inr h')]
            · rw [if_neg (by simpa using h'), if_neg (show ¬ (i = s.size ∨ j = t.size) by omega)]
              simp only [q100, q105, q107, q115, if_true, if_false]
              rw [impl_EditCost.j3, r107, if_pos rfl, if_pos (by omega), if_pos (by omega), if_pos (by omega), if_pos (by omega)]
              simp only [q100, q105, q107, q115, if_true, if_false]
              by_cases hbb : bt s (i : Int) = bt t (j : Int)
              · rw [if_pos hbb, if_neg (by simp [hbb]), w64n (n := i) (by omega), w64n (n := j) (by omega), w64n (n := p) (by omega)]
                exact ih _ _ _ _ _ (by omega) (by omega) (by omega) (by omega) (by omega) (by omega)
              · rw [if_neg hbb, if_pos (by simp [hbb])]
        · by_cases h115 : b = 115
          · have q100 : (b = 100) = False := eq_false (by omega)
            have q105 : (b = 105) = False := eq_false (by omega)
            have q107 : (b = 107) = False := eq_false (by omega)
            have q115 : (b = 115) = True := eq_true h115
            have r107 : (b == 107) = false := beq_eq_false_iff_ne.2 h107
            have r115 : (b == 115) = true := beq_iff_eq.2 h115
            simp only [q100, q105, q107, q115, if_true, if_false]
            by_cases h : i = s.size
            · rw [if_pos h, if_pos (.inl h), impl_EditCost.j2, if_pos rfl]
            · rw [if_neg h, impl_EditCost.j2]
              by_cases h' : j = t.size
              · rw [if_pos (decide_eq_true h'), if_pos (.inr h')]
              · rw [if_neg (by simpa using h'), if_neg (show ¬ (i = s.size ∨ j = t.size) by omega)]
                simp only [q100, q105, q107, q115, if_true, if_false]
                rw [impl_EditCost.j3, r115, r107, if_pos rfl, if_pos (by omega), if_pos (by omega), if_pos (by omega), if_pos (by omega)]
                simp only [q100, q105, q107, q115, if_true, if_false]
                by_cases hbb : bt s (i : Int) = bt t (j : Int)
                · rw [if_pos hbb, if_pos (by simp [hbb])]
                · rw [if_neg hbb, if_neg (by simp [hbb]), w64n (n := i) (by omega), w64n (n := j) (by omega), w64 (n := c + 1) (by omega) (by omega), w64n (n := p) (by omega)]
                  exact ih _ _ _ _ _ (by omega) (by omega) (by omega) (by omega) (by omega) (by omega)
          · have q100 := eq_false h100
            have q105 := eq_false h105
            have q107 := eq_false h107
            have q115 := eq_false h115
            have r115 : (b == 115) = false := beq_eq_false_iff_ne.2 h115
            simp only [q100, q105, q107, q115, if_true, if_false]
            rw [impl_EditCost.j2, if_neg (by decide)]
            simp only [q100, q105, q107, q115, if_true, if_false]
            rw [impl_EditCost.j3, r115, if_neg (by decide)]
theorem impl_EditCost_f (e s t : ByteArray) {k : Nat} (hk : 200 < k) : impl_EditCost.f k e s t = some (ecN e s t) := by
  obtain ⟨k, rfl⟩ : ∃ q, k = q + 1 := ⟨k - 1, by omega⟩
  unfold impl_EditCost.f ecN
  rw [areShort_g, Option.bind_some]
  by_cases h : s.size ≤ 32 ∧ t.size ≤ 32
  · rw [if_pos (decide_eq_true h), impl_EditCost.j0]
    by_cases h2 : e.size ≤ 64
    · rw [if_neg (by simp; omega), if_pos ⟨h.1, h.2, h2⟩]
      exact impl_EditCost_l0 e s t h2 h.1 h.2 e.size k 0 0 0 0 (by omega) (by omega) (by omega) (by omega) (by omega) (by omega)
    · rw [if_pos (by simp; omega), if_neg (by omega)]
  · rw [if_neg (by simpa using h), impl_EditCost.j0, if_pos rfl, if_neg (by omega)]

theorem spec_EditCost_l0 (e s t : ByteArray) (he : e.size ≤ 64) (hs : s.size ≤ 32) (ht : t.size ≤ 32) (d : Nat) : ∀ (k p i j : Nat) (c : Int), i ≤ s.size → j ≤ t.size → p + d = e.size → 0 ≤ c → c + d ≤ 1000 → 6 * d < k →
    spec_EditCost.l0 k e s t (i : Int) (j : Int) c (p : Int) = some (ec e s t d p i j c) := by
  induction d with
  | zero =>
    intro k p i j c hi hj hp hc hcd hk
    obtain ⟨k, rfl⟩ : ∃ q, k = q + 1 := ⟨k - 1, by omega⟩
    rw [spec_EditCost.l0, if_neg (by omega), ec]
    by_cases h1 : i < s.size
    · rw [if_pos (by omega), if_pos (.inl h1)]
    · rw [if_neg (by omega)]
      by_cases h2 : j < t.size
      · rw [if_pos (by omega), if_pos (.inr h2)]
      · rw [if_neg (by omega), if_neg (by omega)]
  | succ d ih =>
    intro k p i j c hi hj hp hc hcd hk
    obtain ⟨k, rfl⟩ : ∃ q, k = q + 1 + 1 + 1 + 1 + 1 + 1 := ⟨k - 6, by omega⟩
    rw [spec_EditCost.l0, if_pos (by omega), if_pos (by omega), ec]
    generalize bt e (p : Int) = b
    try simp only [int_eq_nat, int_beq_nat]
    by_cases h100 : b = 100
    · have q100 : (b = 100) = True := eq_true h100
      have q105 : (b = 105) = False := eq_false (by omega)
      have q107 : (b = 107) = False := eq_false (by omega)
      have q115 : (b = 115) = False := eq_false (by omega)
      have r115 : (b == 115) = false := beq_eq_false_iff_ne.2 (by omega)
      simp only [q100, q105, q107, q115, if_true, if_false]
      rw [spec_EditCost.j2]
      simp only [q100, q105, q107, q115, if_true, if_false]
      rw [r115, spec_EditCost.j3, if_pos rfl]
      simp only [int_eq_nat]
      by_cases h : i = s.size
      · rw [if_pos h, if_pos h, spec_EditCost.j4, if_pos rfl]
      · rw [if_neg h, if_neg h, if_neg (by decide), spec_EditCost.j4, if_neg (by decide), if_pos rfl, if_neg (by decide), spec_EditCost.j5, if_neg (by decide), if_pos rfl, spec_EditCost.j6, if_neg (by decide)]
        simp only [q100, q105, q107, q115, if_true, if_false]
        rw [w64n (n := i) (by omega), w64 (n := c + 1) (by omega) (by omega), w64n (n := p) (by omega)]
        exact ih _ _ _ _ _ (by omega) (by omega) (by omega) (by omega) (by omega) (by omega)
    · by_cases h105 : b = 105
      · have q100 : (b = 100) = False := eq_false (by omega)
        have q105 : (b = 105) = True := eq_true h105
        have q107 : (b = 107) = False := eq_false (by omega)
        have q115 : (b = 115) = False := eq_false (by omega)
        have r115 : (b == 115) = false := beq_eq_false_iff_ne.2 (by omega)
        simp only [q100, q105, q107, q115, if_true, if_false]
        rw [r115, spec_EditCost.j2]
        simp only [q100, q105, q107, q115, if_true, if_false]
        rw [spec_EditCost.j3, if_neg (by decide), if_pos rfl, int_beq_nat, spec_EditCost.j4]
        by_cases h : j = t.size
        · rw [if_pos h, if_pos (decide_eq_true h)]
        · rw [if_neg h, if_neg (by simpa using h), if_neg (by decide), spec_EditCost.j5, if_neg (by decide), if_neg (by decide), spec_EditCost.j6, if_pos rfl]
          simp only [q100, q105, q107, q115, if_true, if_false]
          rw [w64n (n := j) (by omega), w64 (n := c + 1) (by omega) (by omega), w64n (n := p) (by omega)]
          exact ih _ _ _ _ _ (by omega) (by omega) (by omega) (by omega) (by omega) (by omega)
      · by_cases h107 : b = 107
        · have q100 : (b = 100) = False := eq_false (by omega)
          have q105 : (b = 105) = False := eq_false (by omega)
          have q107 : (b = 107) = True := eq_true h107
          have q115 : (b = 115) = False := eq_false (by omega)
          have r107 : (b == 107) = true := beq_iff_eq.2 h107
          simp only [q100, q105, q107, q115, if_true, if_false]
          rw [spec_EditCost.j2]
          simp only [q100, q105, q107, q115, if_true, if_false]
          rw [spec_EditCost.j3, if_pos rfl]
          simp only [int_eq_nat, int_beq_nat, if_true]
          by_cases h : i = s.size
          · rw [if_pos h, if_pos (.inl h), spec_EditCost.j4, if_pos rfl]
          · rw [if_neg h, spec_EditCost.j4]
            by_cases h' : j = t.size
            · rw [if_pos (decide_eq_true h'), if_pos (.inr h')]
            · rw [if_neg (by simpa using h'), if_neg (show ¬ (i = s.size ∨ j = t.size) by omega), if_pos rfl, if_pos rfl, if_pos (by omega), if_pos (by omega), if_pos (by omega), if_pos (by omega), r107, spec_EditCost.j5]
              by_cases hbb : bt s (i : Int) = bt t (j : Int)
              · rw [if_pos hbb, if_neg (by simp [hbb]), if_pos rfl, spec_EditCost.j6, if_pos rfl]
                simp only [q100, q105, q107, q115, if_true, if_false]
                rw [w64n (n := i) (by omega), w64n (n := j) (by omega), w64n (n := p) (by omega)]
                exact ih _ _ _ _ _ (by omega) (by omega) (by omega) (by omega) (by omega) (by omega)
              · rw [if_neg hbb, if_pos (by simp [hbb])]
        · by_cases h115 : b = 115
          · have q100 : (b = 100) = False := eq_false (by omega)
            have q105 : (b = 105) = False := eq_false (by omega)
            have q107 : (b = 107) = False := eq_false (by omega)
            have q115 : (b = 115) = True := eq_true h115
            have r107 : (b == 107) = false := beq_eq_false_iff_ne.2 h107
            have r115 : (b == 115) = true := beq_iff_eq.2 h115
            simp only [q100, q105, q107, q115, if_true, if_false]
            rw [r115, spec_EditCost.j2]
            simp only [q100, q105, q107, q115, if_true, if_false]
            rw [r115, spec_EditCost.j3, if_pos rfl]
            simp only [int_eq_nat, int_beq_nat, if_true]
            by_cases h : i = s.size
            · rw [if_pos h, if_pos (.inl h), spec_EditCost.j4, if_pos rfl]
            · rw [if_neg h, spec_EditCost.j4]
              by_cases h' : j = t.size
              · rw [if_pos (decide_eq_true h'), if_pos (.inr h')]
              · rw [if_neg (by simpa using h'), if_neg (show ¬ (i = s.size ∨ j = t.size) by omega), if_pos rfl, if_pos rfl, if_pos (by omega), if_pos (by omega), if_pos (by omega), if_pos (by omega), r107, spec_EditCost.j5]
                by_cases hbb : bt s (i : Int) = bt t (j : Int)
                · rw [if_pos hbb, if_pos (by simp [hbb])]
                · rw [if_neg hbb, if_neg (by simp [hbb]), if_pos rfl, spec_EditCost.j6, if_pos rfl]
                  simp only [q100, q105, q107, q115, if_true, if_false]
                  rw [w64n (n := i) (by omega), w64n (n := j) (by omega), w64 (n := c + 1) (by omega) (by omega), w64n (n := p) (by omega)]
                  exact ih _ _ _ _ _ (by omega) (by omega) (by omega) (by omega) (by omega) (by omega)
          · have q100 := eq_false h100
            have q105 := eq_false h105
            have q107 := eq_false h107
            have q115 := eq_false h115
            have r115 : (b == 115) = false := beq_eq_false_iff_ne.2 h115
            simp only [q100, q105, q107, q115, if_true, if_false]
            rw [r115, spec_EditCost.j2]
            simp only [q100, q105, q107, q115, if_true, if_false]
            rw [r115, spec_EditCost.j3, if_neg (by decide), if_neg (by decide), spec_EditCost.j4, if_pos rfl]
theorem spec_EditCost_f (e s t : ByteArray) {k : Nat} (hk : 400 < k) : spec_EditCost.f k e s t = some (ecN e s t) := by
  obtain ⟨k, rfl⟩ : ∃ q, k = q + 1 := ⟨k - 1, by omega⟩
  unfold spec_EditCost.f ecN
  rw [l05Long_g, Option.bind_some]
  by_cases h : s.size ≤ 32 ∧ t.size ≤ 32
  · rw [if_neg (by simp; omega), spec_EditCost.j0]
    by_cases h2 : e.size ≤ 64
    · rw [if_neg (by simp; omega), if_pos ⟨h.1, h.2, h2⟩]
      exact spec_EditCost_l0 e s t h2 h.1 h.2 e.size k 0 0 0 0 (by omega) (by omega) (by omega) (by omega) (by omega) (by omega)
    · rw [if_pos (by simp; omega), if_neg (by omega)]
  · rw [if_pos (by simp; omega), spec_EditCost.j0, if_pos rfl, if_neg (by omega)]

theorem specet_rdL : rd_L2 = rdL := rfl
theorem spec_EditText_l0 (s t : ByteArray) (hs : s.size ≤ 32) (ht : t.size ≤ 32) (T : List (List Int)) (hT : TabR s t T 0) (d : Nat) : ∀ (k i j : Nat) (acc : List Int), i ≤ s.size → j ≤ t.size → (s.size - i) + (t.size - j) ≤ d → acc.length + d ≤ 1000 → 4 * d + 3 < k →
    spec_EditText.l0 k s t T acc (i : Int) (j : Int) = some (strOfNums (acc ++ etL s t d i j)) := by
  induction d with
  | zero =>
    intro k i j acc hi hj hd ha hk
    obtain ⟨k, rfl⟩ : ∃ q, k = q + 1 + 1 := ⟨k - 2, by omega⟩
    rw [spec_EditText.l0, if_neg (by omega), decide_eq_false (by omega), spec_EditText.j1, if_neg (by decide), etL, List.append_nil]
  | succ d ih =>
    intro k i j acc hi hj hd ha hk
    obtain ⟨k, rfl⟩ : ∃ q, k = q + 1 + 1 + 1 + 1 := ⟨k - 4, by omega⟩
    have hl := hT.1
    have hrow : ∀ r : Nat, r ≤ s.size → (rdL T (r : Int)).length = t.size + 1 := fun r hr => hT.2.1 r (by omega) hr
    have hval : ∀ r c : Nat, r ≤ s.size → c ≤ t.size → rd (rdL T (r : Int)) (c : Int) = ((levAt s t r c : Nat) : Int) := fun r c hr hc => hT.2.2 r c hr hc (by omega)
    have hle := levAt_le s t
    have w1 : ∀ n : Nat, n ≤ 32 → wrap64 ((n : Int) + 1) = ((n + 1 : Nat) : Int) := fun n hn => w64n (by omega)
    have step : spec_EditText.l0 (k + 1 + 1 + 1 + 1) s t T acc (i : Int) (j : Int) = spec_EditText.j1 (k + 1 + 1 + 1) s t T acc (i : Int) (j : Int) (decide (i < s.size ∨ j < t.size)) := by
      rw [spec_EditText.l0]
      by_cases c : i < s.size
      · rw [if_pos (by omega), decide_eq_true (.inl c)]
      · rw [if_neg (by omega)]
        congr 1
        rw [decide_eq_decide]
        omega
    rw [step, etL]
    by_cases h : i < s.size ∨ j < t.size
    · have r1 := hrow i hi
      have v1 := hval i j hi hj
      have b1 := hle i j
      rw [if_pos h, decide_eq_true h, spec_EditText.j1, if_pos rfl]
      rw [specet_rdL]
      have w2 : ∀ n : Nat, n ≤ 32 → wrap64 (1 + (n : Int)) = ((n + 1 : Nat) : Int) := fun n hn => by rw [w64 (by omega) (by omega)]; omega
      have del : (if (i : Int) < (s.size : Int) then if (0 : Int) ≤ (i : Int) then if (i : Int) < (T.length : Int) then if (0 : Int) ≤ (j : Int) then if (j : Int) < ((rdL T (i : Int)).length : Int) then if 0 ≤ wrap64 ((i : Int) + 1) then if wrap64 ((i : Int) + 1) < (T.length : Int) then if (j : Int) < ((rdL T (wrap64 ((i : Int) + 1))).length : Int) then
            spec_EditText.j2 (k + 1 + 1) s t T acc (i : Int) (j : Int) (rd (rdL T (i : Int)) (j : Int) == wrap64 (1 + rd (rdL T (wrap64 ((i : Int) + 1))) (j : Int))) else none else none else none else none else none else none else none
          else spec_EditText.j2 (k + 1 + 1) s t T acc (i : Int) (j : Int) false) =
          spec_EditText.j2 (k + 1 + 1) s t T acc (i : Int) (j : Int) (decide (i < s.size ∧ levAt s t (i + 1) j + 1 = levAt s t i j)) := by
        by_cases c : i < s.size
        · have r2 := hrow (i + 1) (by omega)
          have v2 := hval (i + 1) j (by omega) hj
          have b2 := hle (i + 1) j
          rw [if_pos (by omega), if_pos (by omega), if_pos (by omega), if_pos (by omega), if_pos (by omega), w1 i (by omega), if_pos (by omega), if_pos (by omega), if_pos (by omega), v2, v1, w2 _ (by omega), int_beq_nat]
          congr 1
          rw [decide_eq_decide]
          omega
        · rw [if_neg (by omega), decide_eq_false (by omega)]
      rw [del, spec_EditText.j2]
      by_cases h1 : i < s.size ∧ levAt s t (i + 1) j + 1 = levAt s t i j
      · rw [if_pos (decide_eq_true h1), if_pos h1, if_pos (by omega), w1 i (by omega), ih _ (i + 1) j _ (by omega) hj (by omega) (by simp; omega) (by omega), List.append_assoc]
        rfl
      · rw [if_neg (by simpa using h1), if_neg h1]
        rw [specet_rdL]
        have ins : (if (j : Int) < (t.size : Int) then if (0 : Int) ≤ (i : Int) then if (i : Int) < (T.length : Int) then if (0 : Int) ≤ (j : Int) then if (j : Int) < ((rdL T (i : Int)).length : Int) then if 0 ≤ wrap64 ((j : Int) + 1) then if wrap64 ((j : Int) + 1) < ((rdL T (i : Int)).length : Int) then
              spec_EditText.j3 (k + 1) s t T acc (i : Int) (j : Int) (rd (rdL T (i : Int)) (j : Int) == wrap64 (1 + rd (rdL T (i : Int)) (wrap64 ((j : Int) + 1)))) else none else none else none else none else none else none
            else spec_EditText.j3 (k + 1) s t T acc (i : Int) (j : Int) false) =
            spec_EditText.j3 (k + 1) s t T acc (i : Int) (j : Int) (decide (j < t.size ∧ levAt s t i (j + 1) + 1 = levAt s t i j)) := by
          by_cases c : j < t.size
          · have v2 := hval i (j + 1) hi (by omega)
            have b2 := hle i (j + 1)
            rw [if_pos (by omega), if_pos (by omega), if_pos (by omega), if_pos (by omega), if_pos (by omega), w1 j (by omega), if_pos (by omega), if_pos (by omega), v2, v1, w2 _ (by omega), int_beq_nat]
            congr 1
            rw [decide_eq_decide]
            omega
          · rw [if_neg (by omega), decide_eq_false (by omega)]
        rw [ins, spec_EditText.j3]
        by_cases h2 : j < t.size ∧ levAt s t i (j + 1) + 1 = levAt s t i j
        · rw [if_pos (decide_eq_true h2), if_pos h2, if_pos (by omega), w1 j (by omega), ih _ i (j + 1) _ hi (by omega) (by omega) (by simp; omega) (by omega), List.append_assoc]
          rfl
        · obtain ⟨hi', hj', hlv⟩ := et_both hi hj h h1 h2
          have r2 := hrow (i + 1) (by omega)
          have v2 := hval (i + 1) (j + 1) (by omega) (by omega)
          rw [if_neg (by simpa using h2), if_neg h2, if_pos (by omega), if_pos (by omega), if_pos (by omega), if_pos (by omega)]
          rw [specet_rdL]
          rw [w1 i (by omega), w1 j (by omega)]
          by_cases h3 : bt s (i : Int) = bt t (j : Int)
          · rw [ne01, if_pos h3] at hlv
            rw [if_pos h3, if_pos h3, if_pos (by omega), if_pos (by omega), if_pos (by omega), if_pos (by omega), if_pos (by omega), if_pos (by omega), v1, v2, if_pos (by omega), if_pos (by omega), ih _ (i + 1) (j + 1) _ (by omega) (by omega) (by omega) (by simp; omega) (by omega), List.append_assoc]
            rfl
          · rw [if_neg h3, if_neg h3, if_pos (by omega), ih _ (i + 1) (j + 1) _ (by omega) (by omega) (by omega) (by simp; omega) (by omega), List.append_assoc]
            rfl
    · rw [if_neg h, decide_eq_false h, spec_EditText.j1, if_neg (by decide), List.append_nil]
theorem spec_EditText_f (s t : ByteArray) {k : Nat} (hk : 1400 < k) : spec_EditText.f k s t = some (etN s t) := by
  unfold spec_EditText.f etN
  rw [l05Long_g, Option.bind_some]
  by_cases h : s.size ≤ 32 ∧ t.size ≤ 32
  · obtain ⟨R, h1, h2⟩ := table_f s t h.1 h.2 hk
    rw [if_neg (by simp only [decide_eq_true_eq]; omega), if_pos h, h1, Option.bind_some]
    exact spec_EditText_l0 s t h.1 h.2 R h2 64 k 0 0 [] (by omega) (by omega) (by omega) (by simp) (by omega)
  · rw [if_pos (by simp only [decide_eq_true_eq]; omega), if_neg h]

/-- a reader of draws: how far it is, and its seed -/
def Cur (p s B : Int) : Prop := 0 ≤ p ∧ p ≤ B ∧ 0 ≤ s ∧ s < 65521
theorem Cur.le {p s B C : Int} (h : Cur p s B) (hB : B ≤ C) : Cur p s C := ⟨h.1, by have := h.2.1; omega, h.2.2⟩
theorem pick_f (L : List Int) (hL : U8s L) (n : Int) {p s B : Int} (h : Cur p s B) (hB : B ≤ 1000000000000) (hn : n ≤ 1000000000000) :
    ∃ r p' s', spec_l01Cur_pick.f L p s n = some (r, p', s') ∧ 0 ≤ r ∧ (r < n ∨ n < 2 ∧ r = 0) ∧ Cur p' s' (B + 1) := by
  obtain ⟨h0, h1, h2, h3⟩ := h
  unfold spec_l01Cur_pick.f
  by_cases c1 : n < 2
  · rw [if_pos c1]
    exact ⟨0, p, s, rfl, by omega, .inr ⟨c1, rfl⟩, h0, by omega, h2, h3⟩
  · rw [if_neg c1]
    have hw : wrap64 (wrap64 (s * 1103) + 12345) = s * 1103 + 12345 := by rw [w64 (n := s * 1103) (by omega) (by omega), w64 (by omega) (by omega)]
    have hs0 : 0 ≤ Int.tmod (s * 1103 + 12345) 65521 := Int.tmod_nonneg _ (by omega)
    have hs1 : Int.tmod (s * 1103 + 12345) 65521 < 65521 := Int.tmod_lt_of_pos _ (by decide)
    rw [hw, w64 (n := p + 1) (by omega) (by omega)]
    by_cases c2 : p < (L.length : Int)
    · have hb := hL p.toNat (by omega)
      rw [Int.toNat_of_nonneg h0] at hb
      rw [if_pos c2, if_pos h0, if_neg (by omega), w64 (by omega) (by omega)]
      refine ⟨_, _, _, rfl, Int.tmod_nonneg _ (by omega), .inl (Int.tmod_lt_of_pos _ (by omega)), ?_⟩
      exact ⟨by omega, by omega, h2, h3⟩
    · rw [if_neg c2]
      by_cases c3 : (L.length : Int) > 0
      · have hm0 : 0 ≤ Int.tmod p (L.length : Int) := Int.tmod_nonneg _ h0
        have hm1 : Int.tmod p (L.length : Int) < (L.length : Int) := Int.tmod_lt_of_pos _ c3
        have hb := hL (Int.tmod p (L.length : Int)).toNat (by omega)
        rw [Int.toNat_of_nonneg hm0] at hb
        have hq0 : 0 ≤ Int.tdiv (Int.tmod (s * 1103 + 12345) 65521) 7 := Int.tdiv_nonneg hs0 (by decide)
        have hq1 : Int.tdiv (Int.tmod (s * 1103 + 12345) 65521) 7 < 65521 := by
          rw [Int.tdiv_eq_ediv_of_nonneg hs0]; omega
        rw [if_pos c3, if_neg (by omega), if_pos hm0, if_pos hm1, if_neg (by omega)]
        rw [w64 (n := Int.tdiv (Int.tmod (s * 1103 + 12345) 65521) 7) (by omega) (by omega), w64 (n := rd L (Int.tmod p (L.length : Int))) (by omega) (by omega), w64 (by omega) (by omega)]
        refine ⟨_, _, _, rfl, Int.tmod_nonneg _ (by omega), .inl (Int.tmod_lt_of_pos _ (by omega)), ?_⟩
        exact ⟨by omega, by omega, hs0, hs1⟩
      · rw [if_neg c3, if_neg (by omega)]
        refine ⟨_, _, _, rfl, Int.emod_nonneg _ (by omega), .inl (Int.emod_lt_of_pos _ (by omega)), ?_⟩
        exact ⟨by omega, by omega, hs0, hs1⟩

theorem strOfNums_sz (xs : List Int) : (strOfNums xs).size = xs.length := strOfNums_size xs
theorem word_l0 (L : List Int) (hL : U8s L) (n : Int) (hn : n ≤ 32) (d : Nat) : ∀ (k : Nat) (xs : List Int) (p s B : Int), n - (xs.length : Int) ≤ (d : Int) → xs.length ≤ 32 → d < k → Cur p s B → B + 2 * d ≤ 1000000000000 →
    ∃ w p' s', spec_l01Cur_word.l0 k n xs L p s = some (w, p', s') ∧ w.size ≤ 32 ∧ Cur p' s' (B + 2 * d) := by
  induction d with
  | zero =>
    intro k xs p s B hd hl hk hc hB
    obtain ⟨k, rfl⟩ : ∃ q, k = q + 1 := ⟨k - 1, by omega⟩
    exact ⟨_, p, s, by rw [spec_l01Cur_word.l0, if_neg (by omega)], by rw [strOfNums_sz]; omega, hc.le (by omega)⟩
  | succ d ih =>
    intro k xs p s B hd hl hk hc hB
    obtain ⟨k, rfl⟩ : ∃ q, k = q + 1 := ⟨k - 1, by omega⟩
    by_cases h : (xs.length : Int) < n
    · obtain ⟨v, p1, s1, e1, v0, v1, c1⟩ := pick_f L hL 3 hc (by omega) (by decide)
      obtain ⟨v, rfl⟩ := Int.eq_ofNat_of_zero_le v0
      have hr : rd [2, 3, 26] (v : Int) ≤ 26 := by
        have : v = 0 ∨ v = 1 ∨ v = 2 := by omega
        rcases this with rfl | rfl | rfl <;> decide
      obtain ⟨u, p2, s2, e2, u0, u1, c2⟩ := pick_f L hL (rd [2, 3, 26] (v : Int)) c1 (by omega) (by omega)
      obtain ⟨w, p3, s3, e3, hw, c3⟩ := ih k (xs ++ [wrap64 (97 + u) % 256]) p2 s2 (B + 1 + 1) (by simp; omega) (by simp; omega) (by omega) c2 (by omega)
      refine ⟨w, p3, s3, ?_, hw, c3.le (by omega)⟩
      rw [spec_l01Cur_word.l0, if_pos h, Option.bind_some, e1, Option.bind_some]
      dsimp only
      rw [if_pos v0, if_pos (by simp; omega), e2, Option.bind_some]
      dsimp only
      rw [if_pos (by omega)]
      exact e3
    · exact ⟨_, p, s, by rw [spec_l01Cur_word.l0, if_neg h], by rw [strOfNums_sz]; omega, hc.le (by omega)⟩
theorem word_f (L : List Int) (hL : U8s L) {p s B : Int} (hc : Cur p s B) (hB : B ≤ 1000000000) {k : Nat} (hk : 40 < k) :
    ∃ w p' s', spec_l01Cur_word.f k L p s = some (w, p', s') ∧ w.size ≤ 32 ∧ Cur p' s' (B + 70) := by
  obtain ⟨v, p1, s1, e1, v0, v1, c1⟩ := pick_f L hL 4 hc (by omega) (by decide)
  obtain ⟨v, rfl⟩ := Int.eq_ofNat_of_zero_le v0
  have hr : rd [3, 5, 8, 32] (v : Int) ≤ 32 ∧ 2 ≤ rd [3, 5, 8, 32] (v : Int) := by
    have : v = 0 ∨ v = 1 ∨ v = 2 ∨ v = 3 := by omega
    rcases this with rfl | rfl | rfl | rfl <;> decide
  obtain ⟨u, p2, s2, e2, u0, u1, c2⟩ := pick_f L hL (rd [3, 5, 8, 32] (v : Int)) c1 (by omega) (by omega)
  obtain ⟨w, p3, s3, e3, hw, c3⟩ := word_l0 L hL (1 + u) (by omega) 32 k [] p2 s2 (B + 1 + 1) (by simp; omega) (by simp) (by omega) c2 (by omega)
  refine ⟨w, p3, s3, ?_, hw, c3.le (by omega)⟩
  unfold spec_l01Cur_word.f
  rw [Option.bind_some, e1, Option.bind_some]
  dsimp only
  rw [if_pos v0, if_pos (by simp; omega), e2, Option.bind_some]
  dsimp only
  rw [w64 (by omega) (by omega)]
  exact e3

theorem ex0 (s : ByteArray) (i : Nat) : (s.extract 0 i).size ≤ s.size := by rw [ByteArray.size_extract]; omega
theorem ex1 (s : ByteArray) (i : Nat) : (s.extract i s.size).size ≤ s.size := by rw [ByteArray.size_extract]; omega
theorem badWord_f (L : List Int) (hL : U8s L) {p s B : Int} (hc : Cur p s B) (hB : B ≤ 900000000) {k : Nat} (hk : 40 < k) :
    ∃ w p' s', spec_l01Cur_badWord.f k L p s = some (w, p', s') ∧ w.size ≤ 96 ∧ Cur p' s' (B + 73) := by
  obtain ⟨w, p1, s1, e1, hw, c1⟩ := word_f L hL hc (by omega) hk
  obtain ⟨v, p2, s2, e2, v0, v1, c2⟩ := pick_f L hL 9 c1 (by omega) (by decide)
  unfold spec_l01Cur_badWord.f
  rw [e1, Option.bind_some]
  dsimp only
  rw [e2, Option.bind_some]
  dsimp only
  by_cases h0 : v = 0
  · rw [if_pos h0, w64 (by omega) (by omega)]
    obtain ⟨u, p3, s3, e3, u0, u1, c3⟩ := pick_f L hL ((w.size : Int) + 1) c2 (by omega) (by omega)
    obtain ⟨x, p4, s4, e4, x0, x1, c4⟩ := pick_f L hL 6 c3 (by omega) (by decide)
    obtain ⟨x, rfl⟩ := Int.eq_ofNat_of_zero_le x0
    rw [e3, Option.bind_some]
    dsimp only
    rw [if_pos u0, if_pos (by omega), Option.bind_some, e4, Option.bind_some]
    dsimp only
    rw [if_pos x0, if_pos (by simp; omega)]
    have hr : (rdOf ByteArray.empty [(⟨#[]⟩ : ByteArray), (⟨#[65]⟩ : ByteArray), (⟨#[45]⟩ : ByteArray), (⟨#[0]⟩ : ByteArray), (⟨#[122, 122]⟩ : ByteArray), (⟨#[123]⟩ : ByteArray)] (x : Int)).size ≤ 2 := by
      have : x = 0 ∨ x = 1 ∨ x = 2 ∨ x = 3 ∨ x = 4 ∨ x = 5 := by omega
      rcases this with rfl | rfl | rfl | rfl | rfl | rfl <;> decide
    generalize rdOf ByteArray.empty [(⟨#[]⟩ : ByteArray), (⟨#[65]⟩ : ByteArray), (⟨#[45]⟩ : ByteArray), (⟨#[0]⟩ : ByteArray), (⟨#[122, 122]⟩ : ByteArray), (⟨#[123]⟩ : ByteArray)] (x : Int) = y at *
    have hx0 := ex0 w u.toNat
    have hx1 := ex1 w u.toNat
    rw [if_pos (by omega), if_pos (by rw [ByteArray.size_append]; omega)]
    exact ⟨_, _, _, rfl, by rw [ByteArray.size_append, ByteArray.size_append]; omega, c4.le (by omega)⟩
  · rw [if_neg h0]
    by_cases h1 : v = 1
    · rw [if_pos h1]
      exact ⟨_, _, _, rfl, by decide, c2.le (by omega)⟩
    · rw [if_neg h1]
      by_cases h2 : v = 2
      · rw [if_pos h2, if_pos (by omega)]
        obtain ⟨u, p3, s3, e3, u0, u1, c3⟩ := pick_f L hL 33 c2 (by omega) (by decide)
        rw [e3, Option.bind_some]
        dsimp only
        generalize hz : (⟨#[97, 97, 97, 97, 97, 97, 97, 97, 97, 97, 97, 97, 97, 97, 97, 97, 97, 97, 97, 97, 97, 97, 97, 97, 97, 97, 97, 97, 97, 97, 97, 97]⟩ : ByteArray) = z
        have hzs : z.size = 32 := by rw [← hz]; rfl
        have hx0 := ex0 z u.toNat
        rw [if_pos u0, if_pos (by omega), if_pos (by rw [ByteArray.size_append]; omega)]
        exact ⟨_, _, _, rfl, by rw [ByteArray.size_append, ByteArray.size_append]; omega, c3.le (by omega)⟩
      · rw [if_neg h2]
        exact ⟨_, _, _, rfl, by omega, c2.le (by omega)⟩

theorem once_f (L : List Int) (hL : U8s L) (n : Int) {p s B : Int} (h : Cur p s B) (hB : B ≤ 1000000000000) (hn : n ≤ 1000000000000) :
    ∃ b p' s', spec_l01Cur_once.f L p s n = some (b, p', s') ∧ Cur p' s' (B + 1) := by
  obtain ⟨r, p', s', e, _, _, c⟩ := pick_f L hL n h hB hn
  refine ⟨r == wrap64 (n - 1), p', s', ?_, c⟩
  unfold spec_l01Cur_once.f
  rw [e, Option.bind_some]

theorem pair_l0 (L : List Int) (hL : U8s L) (a : ByteArray) (d : Nat) : ∀ (k : Nat) (b : ByteArray) (i p s B : Int), i ≤ (d : Int) → d ≤ 3 → d < k → b.size ≤ 96 + (3 - d) → Cur p s B → B + 3 * d ≤ 900000000 →
    ∃ w p' s', spec_l01Cur_pair.l0 k a b i L p s = some (a, w, p', s') ∧ w.size ≤ 99 ∧ Cur p' s' (B + 3 * d) := by
  induction d with
  | zero =>
    intro k b i p s B hi hd hk hb hc hB
    obtain ⟨k, rfl⟩ : ∃ q, k = q + 1 := ⟨k - 1, by omega⟩
    exact ⟨b, p, s, by rw [spec_l01Cur_pair.l0, if_neg (by omega)], by omega, hc.le (by omega)⟩
  | succ d ih =>
    intro k b i p s B hi hd hk hb hc hB
    obtain ⟨k, rfl⟩ : ∃ q, k = q + 1 := ⟨k - 1, by omega⟩
    by_cases h : i > 0
    · obtain ⟨u, p1, s1, e1, u0, u1, c1⟩ := pick_f L hL ((b.size : Int) + 1) hc (by omega) (by omega)
      obtain ⟨x, p2, s2, e2, x0, x1, c2⟩ := pick_f L hL 4 c1 (by omega) (by decide)
      obtain ⟨y, p3, s3, e3, y0, y1, c3⟩ := pick_f L hL 2 c2 (by omega) (by decide)
      obtain ⟨x, rfl⟩ := Int.eq_ofNat_of_zero_le x0
      rw [spec_l01Cur_pair.l0, if_pos h, w64 (n := (b.size : Int) + 1) (by omega) (by omega), e1, Option.bind_some]
      dsimp only
      rw [if_pos u0, if_pos (by omega), Option.bind_some, e2, Option.bind_some]
      dsimp only
      rw [if_pos x0, if_pos (by simp; omega)]
      have hr : (rdOf ByteArray.empty [(⟨#[]⟩ : ByteArray), (⟨#[97]⟩ : ByteArray), (⟨#[98]⟩ : ByteArray), (⟨#[120]⟩ : ByteArray)] (x : Int)).size ≤ 1 := by
        have : x = 0 ∨ x = 1 ∨ x = 2 ∨ x = 3 := by omega
        rcases this with rfl | rfl | rfl | rfl <;> decide
      generalize rdOf ByteArray.empty [(⟨#[]⟩ : ByteArray), (⟨#[97]⟩ : ByteArray), (⟨#[98]⟩ : ByteArray), (⟨#[120]⟩ : ByteArray)] (x : Int) = z at *
      have hm : mn (b.size : Int) (u + y) ≤ (b.size : Int) ∧ u ≤ mn (b.size : Int) (u + y) := by unfold mn; split <;> omega
      rw [if_pos (by rw [ByteArray.size_extract]; omega), e3, Option.bind_some]
      dsimp only
      rw [w64 (n := u + y) (by omega) (by omega), if_pos (by omega), if_pos (by omega), if_pos (by rw [ByteArray.size_append, ByteArray.size_extract, ByteArray.size_extract]; omega), w64 (by omega) (by omega)]
      obtain ⟨w, p4, s4, e4, hw, c4⟩ := ih k ((b.extract 0 u.toNat ++ z) ++ b.extract (mn (b.size : Int) (u + y)).toNat b.size) (i - 1) p3 s3 (B + 1 + 1 + 1) (by omega) (by omega) (by omega) (by
        rw [ByteArray.size_append, ByteArray.size_append, ByteArray.size_extract, ByteArray.size_extract]; omega) c3 (by omega)
      exact ⟨w, p4, s4, e4, hw, c4.le (by omega)⟩
    · exact ⟨b, p, s, by rw [spec_l01Cur_pair.l0, if_neg h], by omega, hc.le (by omega)⟩
theorem pair_f (L : List Int) (hL : U8s L) {p s B : Int} (hc : Cur p s B) (hB : B ≤ 800000000) {k : Nat} (hk : 40 < k) :
    ∃ a b p' s', spec_l01Cur_pair.f k L p s = some (a, b, p', s') ∧ a.size ≤ 99 ∧ b.size ≤ 99 ∧ Cur p' s' (B + 200) := by
  obtain ⟨a, p1, s1, e1, ha, c1⟩ := badWord_f L hL hc (by omega) hk
  obtain ⟨t, p2, s2, e2, c2⟩ := once_f L hL 3 c1 (by omega) (by decide)
  unfold spec_l01Cur_pair.f
  rw [e1, Option.bind_some]
  dsimp only
  rw [e2, Option.bind_some]
  dsimp only
  cases t
  · rw [if_neg (by decide)]
    obtain ⟨v, p3, s3, e3, v0, v1, c3⟩ := pick_f L hL 4 c2 (by omega) (by decide)
    rw [e3, Option.bind_some]
    dsimp only
    obtain ⟨w, p4, s4, e4, hw, c4⟩ := pair_l0 L hL a 3 k a v p3 s3 _ (by omega) (by omega) (by omega) (by omega) c3 (by omega)
    exact ⟨a, w, p4, s4, e4, by omega, by omega, c4.le (by omega)⟩
  · rw [if_pos rfl]
    obtain ⟨b, p3, s3, e3, hb, c3⟩ := badWord_f L hL c2 (by omega) hk
    rw [e3, Option.bind_some]
    exact ⟨a, b, p3, s3, rfl, by omega, by omega, c3.le (by omega)⟩
theorem open_cur (L : List Int) : Cur 0 (59 + ((L.length : Int) % 1000)) 0 := ⟨by omega, by omega, by omega, by omega⟩

theorem dec_l1 (a b : ByteArray) (n : Nat) : ∀ (k : Nat) (e : ByteArray), n < k → e.size + n ≤ 1000 → ∃ r, spec_DrawEditCost.l1 k a b e (n : Int) = some (r, a, b) := by
  induction n with
  | zero =>
    intro k e hk he
    obtain ⟨k, rfl⟩ : ∃ q, k = q + 1 := ⟨k - 1, by omega⟩
    exact ⟨e, by rw [spec_DrawEditCost.l1, if_neg (by omega)]⟩
  | succ n ih =>
    intro k e hk he
    obtain ⟨k, rfl⟩ : ∃ q, k = q + 1 := ⟨k - 1, by omega⟩
    have h1 : (⟨#[105]⟩ : ByteArray).size = 1 := rfl
    obtain ⟨r, hr⟩ := ih k (e ++ ⟨#[105]⟩) (by omega) (by rw [ByteArray.size_append]; omega)
    refine ⟨r, ?_⟩
    rw [spec_DrawEditCost.l1, if_pos (by omega), if_pos (by omega), w64 (by omega) (by omega), show ((n + 1 : Nat) : Int) - 1 = (n : Int) from by omega]
    exact hr
theorem dec_l0 (a b : ByteArray) (hb : b.size ≤ 99) (n : Nat) : ∀ (k : Nat) (e : ByteArray), n + 100 < k → e.size + n ≤ 500 → ∃ r, spec_DrawEditCost.l0 k a b e (n : Int) = some (r, a, b) := by
  induction n with
  | zero =>
    intro k e hk he
    obtain ⟨k, rfl⟩ : ∃ q, k = q + 1 := ⟨k - 1, by omega⟩
    obtain ⟨r, hr⟩ := dec_l1 a b b.size k e (by omega) (by omega)
    exact ⟨r, by rw [spec_DrawEditCost.l0, if_neg (by omega)]; exact hr⟩
  | succ n ih =>
    intro k e hk he
    obtain ⟨k, rfl⟩ : ∃ q, k = q + 1 := ⟨k - 1, by omega⟩
    have h1 : (⟨#[100]⟩ : ByteArray).size = 1 := rfl
    obtain ⟨r, hr⟩ := ih k (e ++ ⟨#[100]⟩) (by omega) (by rw [ByteArray.size_append]; omega)
    refine ⟨r, ?_⟩
    rw [spec_DrawEditCost.l0, if_pos (by omega), if_pos (by omega), w64 (by omega) (by omega), show ((n + 1 : Nat) : Int) - 1 = (n : Int) from by omega]
    exact hr
theorem etN_size (s t : ByteArray) : (etN s t).size ≤ 64 := by
  unfold etN
  split
  · rw [strOfNums_size]; exact etL_length s t 64 0 0
  · exact Nat.zero_le _
theorem dec_f (M : List Int) (hM : U8s M) {K : Nat} (hK : 1500 ≤ K) : ∃ e a b : ByteArray, spec_DrawEditCost.f (K + 1) M = some (e, a, b) := by
  obtain ⟨a, b, p, s, e1, ha, hb, c1⟩ := pair_f M hM (open_cur M) (by omega) (show 40 < K + 1 by omega)
  unfold spec_DrawEditCost.f spec_l01Open.f
  rw [Option.bind_some]
  dsimp only
  rw [e1, Option.bind_some]
  dsimp only
  rw [spec_EditText_f a b (by omega), Option.bind_some]
  have hz := etN_size a b
  generalize etN a b = z at *
  obtain ⟨v, p2, s2, e2, v0, v1, c2⟩ := pick_f M hM 4 c1 (by omega) (by decide)
  rw [e2, Option.bind_some]
  dsimp only
  by_cases h0 : v = 0
  · obtain ⟨u, p3, s3, e3, u0, u1, c3⟩ := pick_f M hM ((z.size : Int) + 1) c2 (by omega) (by omega)
    obtain ⟨x, p4, s4, e4, x0, x1, c4⟩ := pick_f M hM 5 c3 (by omega) (by decide)
    obtain ⟨y, p5, s5, e5, y0, y1, c5⟩ := pick_f M hM 2 c4 (by omega) (by decide)
    obtain ⟨x, rfl⟩ := Int.eq_ofNat_of_zero_le x0
    rw [if_pos h0, w64 (n := (z.size : Int) + 1) (by omega) (by omega), e3, Option.bind_some]
    dsimp only
    rw [if_pos u0, if_pos (by omega), Option.bind_some, e4, Option.bind_some]
    dsimp only
    rw [if_pos x0, if_pos (by simp; omega)]
    have hr : (rdOf ByteArray.empty [(⟨#[100, 105]⟩ : ByteArray), (⟨#[105, 100]⟩ : ByteArray), (⟨#[107]⟩ : ByteArray), (⟨#[120]⟩ : ByteArray), (⟨#[115]⟩ : ByteArray)] (x : Int)).size ≤ 2 := by
      have : x = 0 ∨ x = 1 ∨ x = 2 ∨ x = 3 ∨ x = 4 := by omega
      rcases this with rfl | rfl | rfl | rfl | rfl <;> decide
    generalize rdOf ByteArray.empty [(⟨#[100, 105]⟩ : ByteArray), (⟨#[105, 100]⟩ : ByteArray), (⟨#[107]⟩ : ByteArray), (⟨#[120]⟩ : ByteArray), (⟨#[115]⟩ : ByteArray)] (x : Int) = r at *
    have hm : mn (z.size : Int) (u + y) ≤ (z.size : Int) ∧ u ≤ mn (z.size : Int) (u + y) := by unfold mn; split <;> omega
    rw [if_pos (by rw [ByteArray.size_extract]; omega), e5, Option.bind_some]
    dsimp only
    rw [w64 (n := u + y) (by omega) (by omega), if_pos (by omega), if_pos (by omega), if_pos (by rw [ByteArray.size_append, ByteArray.size_extract, ByteArray.size_extract]; omega)]
    exact ⟨_, _, _, rfl⟩
  · rw [if_neg h0]
    by_cases h1 : v = 1
    · obtain ⟨r, hr⟩ := dec_l0 a b hb a.size (K + 1) ⟨#[]⟩ (by omega) (by show 0 + a.size ≤ 500; omega)
      rw [if_pos h1, hr]
      exact ⟨_, _, _, rfl⟩
    · rw [if_neg h1]
      exact ⟨_, _, _, rfl⟩
theorem ecN_least (e s t : ByteArray) (h : 0 ≤ ecN e s t) : distN s t ≤ ecN e s t := by
  unfold ecN at h ⊢
  by_cases c : s.size ≤ 32 ∧ t.size ≤ 32 ∧ e.size ≤ 64
  · rw [if_pos c] at h ⊢
    rw [distN, if_pos ⟨c.1, c.2.1⟩]
    rcases ec_least e s t e.size 0 0 0 0 (by omega) (by omega) (by omega) with h1 | h1
    · omega
    · rw [levAt_top] at h1
      omega
  · rw [if_neg c] at h
    omega
theorem FnEditsLeast : laws_FnEditsLeast.Pure := by
  intro L _ hlen hL
  have hU := U8s.of hL
  obtain ⟨K, hK⟩ : ∃ K : Nat, 1500 ≤ K := ⟨1500, Nat.le_refl _⟩
  refine ⟨K + 1, ?_⟩
  unfold laws_FnEditsLeast.f laws_big.f
  rw [Option.bind_some]
  by_cases hbig : (L.length : Int) > 1048576
  · rw [if_pos (decide_eq_true hbig)]
  · rw [if_neg (by simpa using hbig)]
    obtain ⟨e, a, b, e1⟩ := dec_f L hU hK
    have hl := ecN_least e a b
    rw [e1, Option.bind_some]
    dsimp only
    rw [impl_EditCost_f e a b (by omega), spec_EditCost_f e a b (by omega), impl_Distance_f a b (by omega), spec_Distance_f a b (by omega), Option.bind_some, Option.bind_some, if_pos rfl]
    generalize ecN e a b = c at *
    generalize distN a b = d at *
    by_cases hc : c < 0
    · rw [if_pos hc, Option.bind_some, Option.bind_some]
      simp
    · rw [if_neg hc, Option.bind_some, if_pos (hl (by omega)), Option.bind_some, Option.bind_some]
      simp

end Go.Proofs.Ytnmalfhdndnelaa.Pure
