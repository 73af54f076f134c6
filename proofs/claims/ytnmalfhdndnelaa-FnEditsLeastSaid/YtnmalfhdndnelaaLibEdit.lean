/- The cost of a text of edits that leads from one string to another, in plain Lean; it is never less than the edit distance; no program in sight. -/
import Derived.Test.YtnmalfhdndnelaaLibLev
set_option linter.unusedVariables false
set_option linter.unusedSimpArgs false
namespace Go.Proofs.Ytnmalfhdndnelaa.L
open Go.RowKit Go.Proofs.YtnmalfhdndnelaaW.PrintWords

/-- what the last d edits of e (from place p on) come to, from the places i and j of the two strings on, c spent so far; -1 where they do not lead there -/
def ec (e s t : ByteArray) : Nat → Nat → Nat → Nat → Int → Int
  | 0, _, i, j, c => if i < s.size ∨ j < t.size then -1 else c
  | d + 1, p, i, j, c =>
    if bt e (p : Int) = 100 then (if i = s.size then -1 else ec e s t d (p + 1) (i + 1) j (c + 1))
    else if bt e (p : Int) = 105 then (if j = t.size then -1 else ec e s t d (p + 1) i (j + 1) (c + 1))
    else if bt e (p : Int) = 107 then (if i = s.size ∨ j = t.size then -1 else if bt s (i : Int) = bt t (j : Int) then ec e s t d (p + 1) (i + 1) (j + 1) c else -1)
    else if bt e (p : Int) = 115 then (if i = s.size ∨ j = t.size then -1 else if bt s (i : Int) = bt t (j : Int) then -1 else ec e s t d (p + 1) (i + 1) (j + 1) (c + 1))
    else -1
theorem ec_least (e s t : ByteArray) : ∀ (d p i j : Nat) (c : Int), 0 ≤ c → i ≤ s.size → j ≤ t.size → ec e s t d p i j c = -1 ∨ c + (levAt s t i j : Int) ≤ ec e s t d p i j c
  | 0, p, i, j, c => fun h0 hi hj => by
    rw [ec]
    by_cases h : i < s.size ∨ j < t.size
    · rw [if_pos h]; exact .inl rfl
    · rw [if_neg h, show i = s.size from by omega, levAt_end]
      right
      omega
  | d + 1, p, i, j, c => fun h0 hi hj => by
    have d1 : i < s.size → levAt s t i j ≤ levAt s t (i + 1) j + 1 := fun h => by
      unfold levAt
      rw [bytesOf_drop s i h]
      exact lev_del _ _ _
    have d2 : j < t.size → levAt s t i j ≤ levAt s t i (j + 1) + 1 := fun h => by
      unfold levAt
      rw [bytesOf_drop t j h]
      exact lev_ins _ _ _
    have d3 : i < s.size → j < t.size → levAt s t i j ≤ levAt s t (i + 1) (j + 1) + ne01 (bt s (i : Int)) (bt t (j : Int)) := fun h h' => by
      unfold levAt
      rw [bytesOf_drop s i h, bytesOf_drop t j h']
      exact lev_sub _ _ _ _
    rw [ec]
    split
    · split
      · exact .inl rfl
      · have := ec_least e s t d (p + 1) (i + 1) j (c + 1) (by omega) (by omega) hj
        have := d1 (by omega)
        omega
    · split
      · split
        · exact .inl rfl
        · have := ec_least e s t d (p + 1) i (j + 1) (c + 1) (by omega) hi (by omega)
          have := d2 (by omega)
          omega
      · split
        · split
          · exact .inl rfl
          · split
            · rename_i hn he
              have := ec_least e s t d (p + 1) (i + 1) (j + 1) c h0 (by omega) (by omega)
              have := d3 (by omega) (by omega)
              rw [ne01, if_pos he] at this
              omega
            · exact .inl rfl
        · split
          · split
            · exact .inl rfl
            · split
              · exact .inl rfl
              · rename_i hn he
                have := ec_least e s t d (p + 1) (i + 1) (j + 1) (c + 1) (by omega) (by omega) (by omega)
                have := d3 (by omega) (by omega)
                rw [ne01, if_neg he] at this
                omega
          · exact .inl rfl
theorem w64n {n : Nat} (h : n ≤ 1000000) : wrap64 ((n : Int) + 1) = ((n + 1 : Nat) : Int) := w64 (by omega) (by omega)
theorem int_eq_nat (i n : Nat) : ((i : Int) = (n : Int)) = (i = n) := propext ⟨fun h => by omega, fun h => by omega⟩
theorem int_beq_nat (i n : Nat) : ((i : Int) == (n : Int)) = decide (i = n) := by rw [Bool.eq_iff_iff, beq_iff_eq, decide_eq_true_iff]; omega
/-- what EditCost tells -/
def ecN (e s t : ByteArray) : Int := if s.size ≤ 32 ∧ t.size ≤ 32 ∧ e.size ≤ 64 then ec e s t e.size 0 0 0 0 else -1
end Go.Proofs.Ytnmalfhdndnelaa.L
