/- A column of edit distances that is kept as two numbers of 64 bits (steps up, steps down), its last value and its length, in plain Lean; no program in sight. -/
import Derived.Test.YtbibgmmoompoiaaLibLane
set_option linter.unusedVariables false
set_option linter.unusedSimpArgs false
namespace Go.Proofs.Ytbibgmmoompoiaa.L
open Go.RowKit Go.Proofs.YtbibgmmoompoiaaW.PrintWords

/-- the value d places ahead of the last one, of n -/
def colD (pv mv : Nat) (sc : Int) (n : Nat) : Nat → Int
  | 0 => sc
  | d + 1 => colD pv mv sc n d - ((pv.testBit (n - (d + 1))).toNat : Int) + ((mv.testBit (n - (d + 1))).toNat : Int)
theorem colD_near (pv mv : Nat) (sc : Int) (n : Nat) : ∀ d, sc - d ≤ colD pv mv sc n d ∧ colD pv mv sc n d ≤ sc + d
  | 0 => by simp [colD]
  | d + 1 => by
    have := colD_near pv mv sc n d
    unfold colD
    have h1 : (pv.testBit (n - (d + 1))).toNat ≤ 1 := by cases pv.testBit (n - (d + 1)) <;> simp
    have h2 : (mv.testBit (n - (d + 1))).toNat ≤ 1 := by cases mv.testBit (n - (d + 1)) <;> simp
    omega
/-- the column, built from its last value on -/
def colL (pv mv : Nat) (sc : Int) (n : Nat) : Nat → List Int
  | 0 => [sc]
  | d + 1 => colD pv mv sc n (d + 1) :: colL pv mv sc n d
theorem colL_length (pv mv : Nat) (sc : Int) (n : Nat) : ∀ d, (colL pv mv sc n d).length = d + 1
  | 0 => rfl
  | d + 1 => by rw [colL, List.length_cons, colL_length pv mv sc n d]
theorem rd_colL (pv mv : Nat) (sc : Int) (n : Nat) : ∀ d i, i ≤ d → rd (colL pv mv sc n d) (i : Int) = colD pv mv sc n (d - i)
  | 0, i => fun h => by
    obtain rfl : i = 0 := by omega
    rfl
  | d + 1, 0 => fun _ => rfl
  | d + 1, i + 1 => fun h => by
    have ih := rd_colL pv mv sc n d i (by omega)
    rw [colL, show d + 1 - (i + 1) = d - i from by omega, ← ih]
    rfl
theorem rd_colL_head (pv mv : Nat) (sc : Int) (n d : Nat) : rd (colL pv mv sc n d) 0 = colD pv mv sc n d := rd_colL pv mv sc n d 0 (by omega)
/-- a test holds from i on, below m -/
def fromB (p : Nat → Bool) (i m : Nat) : Bool := decide (∀ j, j < m → i ≤ j → p j = true)
theorem fromB_iff (p : Nat → Bool) (i m : Nat) : fromB p i m = true ↔ ∀ j, j < m → i ≤ j → p j = true := by unfold fromB; exact decide_eq_true_iff
theorem fromB_end (p : Nat → Bool) (m : Nat) : fromB p m m = true := (fromB_iff p m m).2 (fun j h1 h2 => by omega)
theorem fromB_bad {p : Nat → Bool} {i m : Nat} (h : i < m) (g : p i = false) : fromB p i m = false := by
  cases hf : fromB p i m
  · rfl
  · have := (fromB_iff p i m).1 hf i h (Nat.le_refl _)
    rw [g] at this
    cases this
theorem fromB_good {p : Nat → Bool} {i m : Nat} (g : p i = true) : fromB p i m = fromB p (i + 1) m := by
  rw [Bool.eq_iff_iff, fromB_iff, fromB_iff]
  constructor
  · intro hc j h1 h2; exact hc j h1 (by omega)
  · intro hc j h1 h2
    by_cases e : j = i
    · rw [e]; exact g
    · exact hc j h1 (by omega)
/-- at a place: no step both ways, and none behind the column -/
def stepOk (pv mv n i : Nat) : Bool := !(pv.testBit i && mv.testBit i) && (decide (i < n) || (!pv.testBit i && !mv.testBit i))
/-- the steps lie within the column, none goes both ways -/
def bitsB (pv mv n : Nat) : Bool := fromB (stepOk pv mv n) 0 64
/-- the column's values are within their bounds -/
def colB (pv mv : Nat) (sc : Int) (n d : Nat) : Bool := decide (∀ e, e ≤ d → 0 ≤ colD pv mv sc n e ∧ colD pv mv sc n e ≤ 64)
/-- what BitsOk tells -/
def bitsOkB (pv mv : Nat) (sc ln : Int) : Bool := decide (0 ≤ ln ∧ ln ≤ 32 ∧ 0 ≤ sc ∧ sc ≤ 64) && (bitsB pv mv ln.toNat && colB pv mv sc ln.toNat ln.toNat)
theorem zero_bits {a : Nat} (ha : a < 2 ^ 64) : (∀ i, i < 64 → a.testBit i = false) ↔ a = 0 := by
  constructor
  · intro h
    exact eq_bits ha (by decide) (fun i hi => by rw [h i hi, Nat.zero_testBit])
  · intro h i _
    rw [h, Nat.zero_testBit]
/-- the two tests of masks say what 'bitsB' says -/
theorem bitsB_masks {pv mv n : Nat} (hp : pv < 2 ^ 64) (hm : mv < 2 ^ 64) (hn : n ≤ 32) : bitsB pv mv n = (decide (andN (pv ||| mv) (2 ^ n - 1) = 0) && decide (pv &&& mv = 0)) := by
  have h1 := zero_bits (andN_lt (pv ||| mv) (2 ^ n - 1))
  have h2 := zero_bits (Nat.lt_of_le_of_lt (Nat.and_le_left (n := pv) (m := mv)) hp)
  unfold bitsB
  rw [← Bool.decide_and, Bool.eq_iff_iff, fromB_iff, decide_eq_true_iff, ← h1, ← h2]
  constructor
  · intro h'
    have h : ∀ i, i < 64 → stepOk pv mv n i = true := fun i hi => h' i hi (by omega)
    constructor
    · intro i hi
      have hs := h i hi
      unfold stepOk at hs
      rw [andN_bit, Nat.testBit_or, Nat.testBit_two_pow_sub_one]
      by_cases c : i < n
      · simp [c]
      · rw [decide_eq_false c] at hs ⊢
        cases ha : pv.testBit i <;> cases hb : mv.testBit i <;> simp [ha, hb] at hs ⊢
    · intro i hi
      have hs := h i hi
      unfold stepOk at hs
      rw [Nat.testBit_and]
      cases ha : pv.testBit i <;> cases hb : mv.testBit i <;> simp [ha, hb] at hs ⊢
  · rintro ⟨ha, hb⟩ i hi _
    have a := ha i hi
    have b := hb i hi
    rw [andN_bit, Nat.testBit_or, Nat.testBit_two_pow_sub_one, decide_eq_true hi] at a
    rw [Nat.testBit_and] at b
    unfold stepOk
    by_cases c : i < n
    · rw [decide_eq_true c] at a ⊢
      cases hx : pv.testBit i <;> cases hy : mv.testBit i <;> simp [hx, hy] at a b ⊢
    · rw [decide_eq_false c] at a ⊢
      cases hx : pv.testBit i <;> cases hy : mv.testBit i <;> simp [hx, hy] at a b ⊢
end Go.Proofs.Ytbibgmmoompoiaa.L
