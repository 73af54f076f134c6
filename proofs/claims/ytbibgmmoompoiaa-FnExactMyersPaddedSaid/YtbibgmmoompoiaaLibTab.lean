/- A table of edit distances that is filled from its last row and column on: what each store does to it, in plain Lean; no program in sight; strings of at most 32 bytes where a lemma says so. -/
import Derived.Test.YtbibgmmoompoiaaLibLev
set_option linter.unusedVariables false
set_option linter.unusedSimpArgs false
namespace Go.Proofs.Ytbibgmmoompoiaa.L
open Go.RowKit Go.Proofs.YtbibgmmoompoiaaW.PrintWords

/-- a row of a table -/
def rdL (xs : List (List Int)) (i : Int) : List Int := xs.getD i.toNat ([] : List Int)
theorem rdL_set (xs : List (List Int)) (i j : Nat) (v : List Int) (h : i < xs.length) : rdL (xs.set i v) (j : Int) = if i = j then v else rdL xs (j : Int) := by
  unfold rdL
  simp only [List.getD_eq_getElem?_getD, Int.toNat_natCast, List.getElem?_set]
  by_cases e : i = j
  · subst e; simp [h]
  · simp [e]
/-- the rows behind i are whole, and of row i the cells from j on -/
def Tab (s t : ByteArray) (T : List (List Int)) (i j : Nat) : Prop :=
  T.length = s.size + 1 ∧ (∀ r : Nat, i ≤ r → r ≤ s.size → (rdL T (r : Int)).length = t.size + 1) ∧
    ∀ r c : Nat, r ≤ s.size → c ≤ t.size → (i < r ∨ r = i ∧ j ≤ c) → rd (rdL T (r : Int)) (c : Int) = ((levAt s t r c : Nat) : Int)
/-- the rows from i on are whole -/
def TabR (s t : ByteArray) (T : List (List Int)) (i : Nat) : Prop :=
  T.length = s.size + 1 ∧ (∀ r : Nat, i ≤ r → r ≤ s.size → (rdL T (r : Int)).length = t.size + 1) ∧
    ∀ r c : Nat, r ≤ s.size → c ≤ t.size → i ≤ r → rd (rdL T (r : Int)) (c : Int) = ((levAt s t r c : Nat) : Int)
theorem Tab.rows {s t : ByteArray} {T : List (List Int)} {i : Nat} (h : Tab s t T i 0) : TabR s t T i :=
  ⟨h.1, h.2.1, fun r c hr hc hi => h.2.2 r c hr hc (by omega)⟩
theorem TabR.start (s t : ByteArray) : TabR s t (List.replicate (s.size + 1) ([] : List Int)) (s.size + 1) :=
  ⟨by simp, fun r h1 h2 => by omega, fun r c h1 _ h2 => by omega⟩
theorem TabR.row {s t : ByteArray} {T : List (List Int)} {i : Nat} (h : TabR s t T (i + 1)) (hi : i ≤ s.size) (row : List Int) (hl : row.length = t.size + 1) : Tab s t (T.set i row) i (t.size + 1) := by
  obtain ⟨h1, h2, h3⟩ := h
  refine ⟨by rw [List.length_set]; exact h1, fun r hr hr2 => ?_, fun r c hr hc hrc => ?_⟩
  · rw [rdL_set T i r _ (by omega)]
    by_cases e : i = r
    · rw [if_pos e]; exact hl
    · rw [if_neg e]; exact h2 r (by omega) hr2
  · rw [rdL_set T i r _ (by omega), if_neg (by omega)]
    exact h3 r c hr hc (by omega)
theorem Tab.put {s t : ByteArray} {T : List (List Int)} {i j : Nat} (h : Tab s t T i (j + 1)) (hi : i ≤ s.size) (hj : j ≤ t.size) {v : Int} (hv : v = ((levAt s t i j : Nat) : Int)) :
    Tab s t (T.set i ((rdL T (i : Int)).set j v)) i j := by
  obtain ⟨h1, h2, h3⟩ := h
  have hl := h2 i (Nat.le_refl _) hi
  refine ⟨by rw [List.length_set]; exact h1, fun r hr hr2 => ?_, fun r c hr hc hrc => ?_⟩
  · rw [rdL_set T i r _ (by omega)]
    by_cases e : i = r
    · rw [if_pos e, List.length_set]; exact hl
    · rw [if_neg e]; exact h2 r hr hr2
  · rw [rdL_set T i r _ (by omega)]
    by_cases e : i = r
    · subst e
      rw [if_pos rfl, rd_set _ _ _ _ (by omega)]
      by_cases e2 : j = c
      · subst e2; rw [if_pos rfl]; exact hv
      · rw [if_neg e2]; exact h3 i c hr hc (by omega)
    · rw [if_neg e]; exact h3 r c hr hc (by omega)
theorem Tab.len {s t : ByteArray} {T : List (List Int)} {i j : Nat} (h : Tab s t T i j) {r : Nat} (hi : i ≤ r) (hr : r ≤ s.size) : (rdL T (r : Int)).length = t.size + 1 := h.2.1 r hi hr
theorem TabR.top {s t : ByteArray} {T : List (List Int)} (h : TabR s t T 0) : T.length = s.size + 1 ∧ (rdL T 0).length = t.size + 1 ∧ rd (rdL T 0) 0 = ((levAt s t 0 0 : Nat) : Int) :=
  ⟨h.1, h.2.1 0 (by omega) (by omega), h.2.2 0 0 (by omega) (by omega) (by omega)⟩
theorem mn_spec (a b : Int) : mn a b ≤ a ∧ mn a b ≤ b ∧ (mn a b = a ∨ mn a b = b) := by unfold mn; split <;> omega
theorem step_eq {a b c L : Nat} (ha : a ≤ 64) (hb : b ≤ 64) (hc : c ≤ 64) (h : L = min (min (c + 0) (a + 1)) (b + 1)) : mn (wrap64 (1 + mn (mn (a : Int) (b : Int)) (c : Int))) (c : Int) = (L : Int) := by
  have m1 := mn_spec (a : Int) (b : Int)
  have m2 := mn_spec (mn (a : Int) (b : Int)) (c : Int)
  rw [w64 (by omega) (by omega)]
  have m3 := mn_spec (1 + mn (mn (a : Int) (b : Int)) (c : Int)) (c : Int)
  omega
theorem step_ne {a b c L : Nat} (ha : a ≤ 64) (hb : b ≤ 64) (hc : c ≤ 64) (h : L = min (min (c + 1) (a + 1)) (b + 1)) : wrap64 (1 + mn (mn (a : Int) (b : Int)) (c : Int)) = (L : Int) := by
  have m1 := mn_spec (a : Int) (b : Int)
  have m2 := mn_spec (mn (a : Int) (b : Int)) (c : Int)
  rw [w64 (by omega) (by omega)]
  omega
theorem step_eq' {a b c L : Nat} (ha : a ≤ 64) (hb : b ≤ 64) (hc : c ≤ 64) (h : L = min (min (c + 0) (a + 1)) (b + 1)) : mn (mn (c : Int) (wrap64 ((a : Int) + 1))) (wrap64 ((b : Int) + 1)) = (L : Int) := by
  rw [w64 (n := (a : Int) + 1) (by omega) (by omega), w64 (n := (b : Int) + 1) (by omega) (by omega)]
  have m1 := mn_spec (c : Int) ((a : Int) + 1)
  have m2 := mn_spec (mn (c : Int) ((a : Int) + 1)) ((b : Int) + 1)
  omega
theorem step_ne' {a b c L : Nat} (ha : a ≤ 64) (hb : b ≤ 64) (hc : c ≤ 64) (h : L = min (min (c + 1) (a + 1)) (b + 1)) : mn (mn (wrap64 ((c : Int) + 1)) (wrap64 ((a : Int) + 1))) (wrap64 ((b : Int) + 1)) = (L : Int) := by
  rw [w64 (n := (a : Int) + 1) (by omega) (by omega), w64 (n := (b : Int) + 1) (by omega) (by omega), w64 (n := (c : Int) + 1) (by omega) (by omega)]
  have m1 := mn_spec ((c : Int) + 1) ((a : Int) + 1)
  have m2 := mn_spec (mn ((c : Int) + 1) ((a : Int) + 1)) ((b : Int) + 1)
  omega
theorem levAt_top (s t : ByteArray) : levAt s t 0 0 = lev (bytesOf s) (bytesOf t) := rfl
end Go.Proofs.Ytbibgmmoompoiaa.L
