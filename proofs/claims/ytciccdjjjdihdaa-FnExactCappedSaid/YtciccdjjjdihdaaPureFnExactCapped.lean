/- The law FnExactCapped holds of the program: whatever its arguments (of the kinds and sizes that the statement names), it answers true. -/
import Derived.Test.YtciccdjjjdihdaaQFnExactCappedx4
import Derived.Test.YtciccdjjjdihdaaLib
import Derived.Test.YtciccdjjjdihdaaLibLev
import Derived.Test.YtciccdjjjdihdaaLibTab
set_option linter.unusedVariables false
set_option linter.unusedSimpArgs false
namespace Go.Proofs.Ytciccdjjjdihdaa.Pure
open Go.RowKit Go.Proofs.Ytciccdjjjdihdaa.PFnExactCapped Go.Proofs.YtciccdjjjdihdaaW.PrintWords Go.Proofs.YtciccdjjjdihdaaW.PrintLast Go.Proofs.Ytciccdjjjdihdaa.L 

theorem costs_rdL : rd_L1 = rdL := rfl
theorem costs_cell (s t : ByteArray) (hs : s.size ≤ 32) (ht : t.size ≤ 32) (i j k : Nat) (T : List (List Int)) (hi : i ≤ s.size) (hj : j + 1 ≤ t.size + 1) (hT : Tab s t T i (j + 1))
    (ih : ∀ T', i ≤ s.size → j ≤ t.size + 1 → i * 40 + j + 2 ≤ k → Tab s t T' i j → ∃ R, impl_costs.l1 k s t T' (i : Int) ((j : Int) - 1) = some R ∧ TabR s t R 0) (hk : i * 40 + j + 2 ≤ k) :
    ∃ R, impl_costs.l1 (k + 1) s t T (i : Int) (((j + 1 : Nat) : Int) - 1) = some R ∧ TabR s t R 0 := by
  have hl := hT.1
  have hr := hT.len (Nat.le_refl _) hi
  have hb := levAt_le s t
  rw [show (((j + 1 : Nat) : Int) - 1) = (j : Int) from by omega, impl_costs.l1, if_pos (by omega)]
  simp only [costs_rdL, w64 (show -9223372036854775808 ≤ (j : Int) - 1 by omega) (by omega), w64 (show -9223372036854775808 ≤ (i : Int) + 1 by omega) (by omega), w64 (show -9223372036854775808 ≤ (j : Int) + 1 by omega) (by omega)]
  by_cases e1 : i = s.size
  · rw [if_pos (by omega), if_pos (by omega), if_pos (by omega), if_pos (by omega), if_pos (by rw [hr]; omega)]
    rw [Int.toNat_natCast, Int.toNat_natCast]
    refine ih _ hi (by omega) hk (hT.put hi (by omega) ?_)
    rw [w64 (by omega) (by omega), e1, levAt_end]
    omega
  · rw [if_neg (by omega)]
    by_cases e2 : j = t.size
    · rw [if_pos (by omega), if_pos (by omega), if_pos (by omega), if_pos (by omega), if_pos (by rw [hr]; omega)]
      rw [Int.toNat_natCast, Int.toNat_natCast]
      refine ih _ hi (by omega) hk (hT.put hi (by omega) ?_)
      rw [w64 (by omega) (by omega), e2, levAt_end']
      omega
    · rw [if_neg (by omega)]
      have hr1 := hT.len (show i ≤ i + 1 by omega) (by omega)
      have c1 := hT.2.2 (i + 1) (j + 1) (by omega) (by omega) (by omega)
      have c2 := hT.2.2 (i + 1) j (by omega) (by omega) (by omega)
      have c3 := hT.2.2 i (j + 1) (by omega) (by omega) (by omega)
      have b1 := hb (i + 1) (j + 1)
      have b2 := hb (i + 1) j
      have b3 := hb i (j + 1)
      have hst := levAt_step s t (show i < s.size by omega) (show j < t.size by omega)
      rw [show ((i : Int) + 1) = ((i + 1 : Nat) : Int) from rfl, show ((j : Int) + 1) = ((j + 1 : Nat) : Int) from rfl]
      simp only [c1, c2, c3, hr, hr1, hl]
      by_cases e3 : bt s (i : Int) = bt t (j : Int)
      · rw [ne01, if_pos e3] at hst
        repeat rw [if_pos (by first | exact e3 | omega)]
        rw [Int.toNat_natCast, Int.toNat_natCast]
        refine ih _ hi (by omega) hk (hT.put hi (by omega) ?_)
        exact step_eq' (by omega) (by omega) (by omega) hst
      · rw [ne01, if_neg e3] at hst
        repeat first | rw [if_pos (by omega)] | rw [if_neg e3]
        rw [Int.toNat_natCast, Int.toNat_natCast]
        refine ih _ hi (by omega) hk (hT.put hi (by omega) ?_)
        exact step_ne' (by omega) (by omega) (by omega) hst
theorem costs_l1 (s t : ByteArray) (hs : s.size ≤ 32) (ht : t.size ≤ 32) (i : Nat) : ∀ (j k : Nat) (T : List (List Int)), i ≤ s.size → j ≤ t.size + 1 → i * 40 + j + 2 ≤ k → Tab s t T i j →
    ∃ R, impl_costs.l1 k s t T (i : Int) ((j : Int) - 1) = some R ∧ TabR s t R 0 := by
  induction i with
  | zero =>
    intro j
    induction j with
    | zero =>
      intro k T hi hj hk hT
      obtain ⟨k, rfl⟩ : ∃ q, k = q + 1 + 1 := ⟨k - 2, by omega⟩
      refine ⟨T, ?_, hT.rows⟩
      rw [impl_costs.l1, if_neg (by omega), w64 (by omega) (by omega), impl_costs.l0, if_neg (by omega)]
    | succ j ihj =>
      intro k T hi hj hk hT
      obtain ⟨k, rfl⟩ : ∃ q, k = q + 1 := ⟨k - 1, by omega⟩
      exact costs_cell s t hs ht 0 j k T hi hj hT (ihj k)
        (by omega)
  | succ i ih =>
    intro j
    induction j with
    | zero =>
      intro k T hi hj hk hT
      obtain ⟨k, rfl⟩ : ∃ q, k = q + 1 + 1 := ⟨k - 2, by omega⟩
      have hr := hT.rows.row (by omega) (List.replicate (t.size + 1) 0) (by simp)
      have hl := hT.1
      obtain ⟨R, h1, h2⟩ := ih (t.size + 1) k _ (by omega) (Nat.le_refl _) (by omega) hr
      refine ⟨R, ?_, h2⟩
      rw [impl_costs.l1, if_neg (by omega), w64 (by omega) (by omega), impl_costs.l0, if_pos (by omega), w64 (by omega) (by omega)]
      rw [if_pos (by omega), if_pos (by omega), if_pos (by omega), if_pos (by omega)]
      rw [show (((i + 1 : Nat) : Int) - 1) = (i : Int) from by omega, show (((t.size : Nat) : Int) + 1).toNat = t.size + 1 from by omega, Int.toNat_natCast]
      rw [show (((t.size + 1 : Nat) : Int) - 1) = (t.size : Int) from by omega] at h1
      exact h1
    | succ j ihj =>
      intro k T hi hj hk hT
      obtain ⟨k, rfl⟩ : ∃ q, k = q + 1 := ⟨k - 1, by omega⟩
      exact costs_cell s t hs ht (i + 1) j k T hi hj hT (ihj k)
        (by omega)
theorem costs_f (s t : ByteArray) (hs : s.size ≤ 32) (ht : t.size ≤ 32) {k : Nat} (hk : 1400 < k) : ∃ R, impl_costs.f k s t = some R ∧ TabR s t R 0 := by
  obtain ⟨k, rfl⟩ : ∃ q, k = q + 1 := ⟨k - 1, by omega⟩
  have h0 := (TabR.start s t).row (Nat.le_refl _) (List.replicate (t.size + 1) 0) (by simp)
  obtain ⟨R, h1, h2⟩ := costs_l1 s t hs ht s.size (t.size + 1) k _ (Nat.le_refl _) (Nat.le_refl _) (by omega) h0
  refine ⟨R, ?_, h2⟩
  unfold impl_costs.f
  rw [w64 (by omega) (by omega), if_pos (by omega), if_pos (by omega), impl_costs.l0, if_pos (by omega), w64 (by omega) (by omega), if_pos (by omega), if_pos (by omega), if_pos (by omega), if_pos (by rw [List.length_replicate]; omega)]
  rw [show (((s.size : Nat) : Int) + 1).toNat = s.size + 1 from by omega, show (((t.size : Nat) : Int) + 1).toNat = t.size + 1 from by omega, Int.toNat_natCast]
  rw [show (((t.size + 1 : Nat) : Int) - 1) = (t.size : Int) from by omega] at h1
  exact h1

theorem table_rdL : rd_L1 = rdL := rfl
theorem table_cell (s t : ByteArray) (hs : s.size ≤ 32) (ht : t.size ≤ 32) (i j k : Nat) (T : List (List Int)) (hi : i ≤ s.size) (hj : j + 1 ≤ t.size + 1) (hT : Tab s t T i (j + 1))
    (ih : ∀ T', i ≤ s.size → j ≤ t.size + 1 → i * 40 + j + 2 ≤ k → Tab s t T' i j → ∃ R, spec_l05Table.l1 k s t T' (i : Int) ((j : Int) - 1) = some R ∧ TabR s t R 0) (hk : i * 40 + j + 2 ≤ k) :
    ∃ R, spec_l05Table.l1 (k + 1) s t T (i : Int) (((j + 1 : Nat) : Int) - 1) = some R ∧ TabR s t R 0 := by
  have hl := hT.1
  have hr := hT.len (Nat.le_refl _) hi
  have hb := levAt_le s t
  rw [show (((j + 1 : Nat) : Int) - 1) = (j : Int) from by omega, spec_l05Table.l1, if_pos (by omega)]
  simp only [table_rdL, w64 (show -9223372036854775808 ≤ (j : Int) - 1 by omega) (by omega), w64 (show -9223372036854775808 ≤ (i : Int) + 1 by omega) (by omega), w64 (show -9223372036854775808 ≤ (j : Int) + 1 by omega) (by omega)]
  by_cases e1 : i = s.size
  · rw [if_pos (by omega), if_pos (by omega), if_pos (by omega), if_pos (by omega), if_pos (by rw [hr]; omega)]
    rw [Int.toNat_natCast, Int.toNat_natCast]
    refine ih _ hi (by omega) hk (hT.put hi (by omega) ?_)
    rw [w64 (by omega) (by omega), e1, levAt_end]
    omega
  · rw [if_neg (by omega)]
    by_cases e2 : j = t.size
    · rw [if_pos (by omega), if_pos (by omega), if_pos (by omega), if_pos (by omega), if_pos (by rw [hr]; omega)]
      rw [Int.toNat_natCast, Int.toNat_natCast]
      refine ih _ hi (by omega) hk (hT.put hi (by omega) ?_)
      rw [w64 (by omega) (by omega), e2, levAt_end']
      omega
    · rw [if_neg (by omega)]
      have hr1 := hT.len (show i ≤ i + 1 by omega) (by omega)
      have c1 := hT.2.2 (i + 1) (j + 1) (by omega) (by omega) (by omega)
      have c2 := hT.2.2 (i + 1) j (by omega) (by omega) (by omega)
      have c3 := hT.2.2 i (j + 1) (by omega) (by omega) (by omega)
      have b1 := hb (i + 1) (j + 1)
      have b2 := hb (i + 1) j
      have b3 := hb i (j + 1)
      have hst := levAt_step s t (show i < s.size by omega) (show j < t.size by omega)
      rw [show ((i : Int) + 1) = ((i + 1 : Nat) : Int) from rfl, show ((j : Int) + 1) = ((j + 1 : Nat) : Int) from rfl]
      simp only [c1, c2, c3, hr, hr1, hl]
      by_cases e3 : bt s (i : Int) = bt t (j : Int)
      · rw [ne01, if_pos e3] at hst
        repeat rw [if_pos (by first | exact e3 | omega)]
        rw [Int.toNat_natCast, Int.toNat_natCast]
        refine ih _ hi (by omega) hk (hT.put hi (by omega) ?_)
        exact step_eq (by omega) (by omega) (by omega) hst
      · rw [ne01, if_neg e3] at hst
        repeat first | rw [if_pos (by omega)] | rw [if_neg e3]
        rw [Int.toNat_natCast, Int.toNat_natCast]
        refine ih _ hi (by omega) hk (hT.put hi (by omega) ?_)
        exact step_ne (by omega) (by omega) (by omega) hst
theorem table_l1 (s t : ByteArray) (hs : s.size ≤ 32) (ht : t.size ≤ 32) (i : Nat) : ∀ (j k : Nat) (T : List (List Int)), i ≤ s.size → j ≤ t.size + 1 → i * 40 + j + 2 ≤ k → Tab s t T i j →
    ∃ R, spec_l05Table.l1 k s t T (i : Int) ((j : Int) - 1) = some R ∧ TabR s t R 0 := by
  induction i with
  | zero =>
    intro j
    induction j with
    | zero =>
      intro k T hi hj hk hT
      obtain ⟨k, rfl⟩ : ∃ q, k = q + 1 + 1 := ⟨k - 2, by omega⟩
      refine ⟨T, ?_, hT.rows⟩
      rw [spec_l05Table.l1, if_neg (by omega), w64 (by omega) (by omega), spec_l05Table.l0, if_neg (by omega)]
    | succ j ihj =>
      intro k T hi hj hk hT
      obtain ⟨k, rfl⟩ : ∃ q, k = q + 1 := ⟨k - 1, by omega⟩
      exact table_cell s t hs ht 0 j k T hi hj hT (ihj k)
        (by omega)
  | succ i ih =>
    intro j
    induction j with
    | zero =>
      intro k T hi hj hk hT
      obtain ⟨k, rfl⟩ : ∃ q, k = q + 1 + 1 := ⟨k - 2, by omega⟩
      have hr := hT.rows.row (by omega) (List.replicate (t.size + 1) 0) (by simp)
      have hl := hT.1
      obtain ⟨R, h1, h2⟩ := ih (t.size + 1) k _ (by omega) (Nat.le_refl _) (by omega) hr
      refine ⟨R, ?_, h2⟩
      rw [spec_l05Table.l1, if_neg (by omega), w64 (by omega) (by omega), spec_l05Table.l0, if_pos (by omega), w64 (by omega) (by omega)]
      rw [if_pos (by omega), if_pos (by omega), if_pos (by omega), if_pos (by omega)]
      rw [show (((i + 1 : Nat) : Int) - 1) = (i : Int) from by omega, show (((t.size : Nat) : Int) + 1).toNat = t.size + 1 from by omega, Int.toNat_natCast]
      rw [show (((t.size + 1 : Nat) : Int) - 1) = (t.size : Int) from by omega] at h1
      exact h1
    | succ j ihj =>
      intro k T hi hj hk hT
      obtain ⟨k, rfl⟩ : ∃ q, k = q + 1 := ⟨k - 1, by omega⟩
      exact table_cell s t hs ht (i + 1) j k T hi hj hT (ihj k)
        (by omega)
theorem table_f (s t : ByteArray) (hs : s.size ≤ 32) (ht : t.size ≤ 32) {k : Nat} (hk : 1400 < k) : ∃ R, spec_l05Table.f k s t = some R ∧ TabR s t R 0 := by
  obtain ⟨k, rfl⟩ : ∃ q, k = q + 1 := ⟨k - 1, by omega⟩
  have h0 := (TabR.start s t).row (Nat.le_refl _) (List.replicate (t.size + 1) 0) (by simp)
  obtain ⟨R, h1, h2⟩ := table_l1 s t hs ht s.size (t.size + 1) k _ (Nat.le_refl _) (Nat.le_refl _) (by omega) h0
  refine ⟨R, ?_, h2⟩
  unfold spec_l05Table.f
  rw [w64 (by omega) (by omega), if_pos (by omega), if_pos (by omega), spec_l05Table.l0, if_pos (by omega), w64 (by omega) (by omega), if_pos (by omega), if_pos (by omega), if_pos (by omega), if_pos (by rw [List.length_replicate]; omega)]
  rw [show (((s.size : Nat) : Int) + 1).toNat = s.size + 1 from by omega, show (((t.size : Nat) : Int) + 1).toNat = t.size + 1 from by omega, Int.toNat_natCast]
  rw [show (((t.size + 1 : Nat) : Int) - 1) = (t.size : Int) from by omega] at h1
  exact h1

theorem l05Long_f (s t : ByteArray) : spec_l05Long.f s t = some (decide (32 < s.size ∨ 32 < t.size)) := by
  unfold spec_l05Long.f
  by_cases h : (s.size : Int) > 32
  · rw [if_pos h, decide_eq_true (by omega)]
  · rw [if_neg h]; congr 1; rw [decide_eq_decide]; omega
theorem areShort_f (s t : ByteArray) : impl_areShort.f s t = some (decide (s.size ≤ 32 ∧ t.size ≤ 32)) := by
  unfold impl_areShort.f
  by_cases h : (s.size : Int) ≤ 32
  · rw [if_pos h]; congr 1; rw [decide_eq_decide]; omega
  · rw [if_neg h, decide_eq_false (by omega)]
/-- the distance of the document's fifth chapter -/
def distN (s t : ByteArray) : Int := if s.size ≤ 32 ∧ t.size ≤ 32 then (lev (bytesOf s) (bytesOf t) : Int) else -1
theorem spec_Distance_f (s t : ByteArray) {k : Nat} (hk : 1400 < k) : spec_Distance.f k s t = some (distN s t) := by
  unfold spec_Distance.f distN
  rw [l05Long_f, Option.bind_some]
  by_cases h : s.size ≤ 32 ∧ t.size ≤ 32
  · obtain ⟨R, h1, h2⟩ := table_f s t h.1 h.2 hk
    obtain ⟨r1, r2, r3⟩ := h2.top
    rw [if_neg (by simp only [decide_eq_true_eq]; omega), h1, Option.bind_some, table_rdL, if_pos (by omega), if_pos (by omega), r3, if_pos h, levAt_top]
  · rw [if_pos (by simp only [decide_eq_true_eq]; omega), if_neg h]
theorem costs_top (s t : ByteArray) (hs : s.size ≤ 32) (ht : t.size ≤ 32) {k : Nat} (hk : 1400 < k) {α : Type} (g : Int → Option α) :
    ((impl_costs.f k s t).bind fun T => if 0 < (T.length : Int) then (if 0 < ((rd_L1 T 0).length : Int) then g (rd (rd_L1 T 0) 0) else none) else none) = g (lev (bytesOf s) (bytesOf t) : Int) := by
  obtain ⟨R, h1, h2⟩ := costs_f s t hs ht hk
  obtain ⟨r1, r2, r3⟩ := h2.top
  rw [h1, Option.bind_some, costs_rdL, if_pos (by omega), if_pos (by omega), r3, levAt_top]

theorem spec_Capped_f (s t : ByteArray) {k : Nat} (hk : 1400 < k) : spec_Capped.f k s t = some (mn 7 (distN s t)) := by
  unfold spec_Capped.f
  rw [spec_Distance_f s t hk, Option.bind_some]
theorem impl_Capped_f (s t : ByteArray) {k : Nat} (hk : 1400 < k) : impl_Capped.f k s t = some (mn 7 (distN s t)) := by
  unfold impl_Capped.f distN
  rw [areShort_f, Option.bind_some]
  by_cases h : s.size ≤ 32 ∧ t.size ≤ 32
  · rw [if_pos (decide_eq_true h), costs_top s t h.1 h.2 hk (fun d => some (mn 7 d)), if_pos h]
  · rw [if_neg (by simpa using h), if_neg h]
    rfl
theorem FnExactCapped : laws_FnExactCapped.Pure := by
  intro s t _ _
  refine ⟨1401, ?_⟩
  unfold laws_FnExactCapped.f
  rw [spec_Capped_f s t (by omega), impl_Capped_f s t (by omega)]
  simp

end Go.Proofs.Ytciccdjjjdihdaa.Pure
