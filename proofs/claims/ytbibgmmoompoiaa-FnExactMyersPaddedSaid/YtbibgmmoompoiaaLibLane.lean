/- Numbers that lie bit by bit in planes (lists of 64-bit numbers), read lane by lane, in plain Lean; no program in sight; the planes are numbers of 64 bits. -/
import Derived.Test.YtbibgmmoompoiaaLib
set_option linter.unusedVariables false
set_option linter.unusedSimpArgs false
namespace Go.Proofs.Ytbibgmmoompoiaa.L
open Go.RowKit Go.Proofs.YtbibgmmoompoiaaW.PrintWords

/-- a bit of a whole number that is not negative -/
def bitI (x : Int) (i : Nat) : Bool := x.toNat.testBit i
/-- numbers of 64 bits -/
def U64s (xs : List Int) : Prop := ∀ i : Nat, i < xs.length → 0 ≤ rd xs (i : Int) ∧ rd xs (i : Int) < 2 ^ 64
theorem U64s.of {xs : List Int} (h : ∀ x ∈ xs, (Lit.int .u64 x).wf = true) : U64s xs := by
  intro i hi
  rw [rd_lt hi]
  obtain ⟨n, e, hn⟩ := wf_u64 (h _ (List.getElem_mem hi))
  rw [e]
  omega
/-- the number of a lane: the first plane holds the lowest bits -/
def laneN (xs : List Int) (l : Nat) : Nat → Nat
  | 0 => 0
  | n + 1 => laneN xs l n + (bitI (rd xs (n : Int)) l).toNat * 2 ^ n
theorem laneN_lt (xs : List Int) (l : Nat) : ∀ n, laneN xs l n < 2 ^ n
  | 0 => Nat.one_pos
  | n + 1 => by
    have := laneN_lt xs l n
    unfold laneN
    rw [Nat.pow_succ]
    cases bitI (rd xs (n : Int)) l <;> simp <;> omega
/-- the upper part of the number of a lane: the planes from i on -/
def upN (xs : List Int) (l n : Nat) : Nat → Nat
  | 0 => 0
  | d + 1 => 2 * upN xs l n d + (bitI (rd xs ((n - (d + 1) : Nat) : Int)) l).toNat
theorem upN_lane (xs : List Int) (l n : Nat) : ∀ d, d ≤ n → laneN xs l n = laneN xs l (n - d) + upN xs l n d * 2 ^ (n - d)
  | 0 => fun _ => by simp [upN]
  | d + 1 => fun h => by
    rw [upN_lane xs l n d (by omega), show n - d = (n - (d + 1)) + 1 from by omega, laneN, upN, Nat.pow_succ]
    generalize bitI (rd xs ((n - (d + 1) : Nat) : Int)) l = b
    generalize 2 ^ (n - (d + 1)) = p
    generalize upN xs l n d = u
    rw [Nat.add_mul, Nat.add_assoc, show u * (p * 2) = 2 * u * p from by rw [Nat.mul_comm 2 u, Nat.mul_assoc, Nat.mul_comm 2 p]]
    omega
theorem upN_all (xs : List Int) (l n : Nat) : upN xs l n n = laneN xs l n := by
  have := upN_lane xs l n n (Nat.le_refl _)
  rw [Nat.sub_self] at this
  simp [laneN] at this
  exact this.symm
theorem upN_lt (xs : List Int) (l n : Nat) : ∀ d, upN xs l n d < 2 ^ d
  | 0 => Nat.one_pos
  | d + 1 => by
    have := upN_lt xs l n d
    unfold upN
    rw [Nat.pow_succ]
    cases bitI (rd xs ((n - (d + 1) : Nat) : Int)) l <;> simp <;> omega
theorem laneN_bit (xs : List Int) (l : Nat) {i : Nat} : ∀ n, i < n → (laneN xs l n).testBit i = bitI (rd xs (i : Int)) l
  | 0 => fun h => by omega
  | n + 1 => fun h => by
    unfold laneN
    have hl := laneN_lt xs l n
    by_cases e : i = n
    · subst e
      cases hb : bitI (rd xs (i : Int)) l
      · simp [Nat.testBit_lt_two_pow hl]
      · simp only [Bool.toNat_true, Nat.one_mul]
        rw [Nat.add_comm, Nat.testBit_two_pow_add_eq, Nat.testBit_lt_two_pow hl]; rfl
    · have ih := laneN_bit xs l (i := i) n (by omega)
      cases hb : bitI (rd xs (n : Int)) l
      · simpa using ih
      · simp only [Bool.toNat_true, Nat.one_mul]
        rw [Nat.add_comm, Nat.testBit_two_pow_add_gt (by omega), ih]
/-- the number whose bits a test tells -/
def sumN (p : Nat → Bool) : Nat → Nat
  | 0 => 0
  | n + 1 => sumN p n + (p n).toNat * 2 ^ n
theorem sumN_lt (p : Nat → Bool) : ∀ n, sumN p n < 2 ^ n
  | 0 => Nat.one_pos
  | n + 1 => by
    have := sumN_lt p n
    unfold sumN
    rw [Nat.pow_succ]
    cases p n <;> simp <;> omega
theorem sumN_bit (p : Nat → Bool) {i : Nat} : ∀ n, i < n → (sumN p n).testBit i = p i
  | 0 => fun h => by omega
  | n + 1 => fun h => by
    unfold sumN
    have hl := sumN_lt p n
    by_cases e : i = n
    · subst e
      cases hb : p i
      · simp [Nat.testBit_lt_two_pow hl]
      · simp only [Bool.toNat_true, Nat.one_mul]
        rw [Nat.add_comm, Nat.testBit_two_pow_add_eq, Nat.testBit_lt_two_pow hl]; rfl
    · have ih := sumN_bit p (i := i) n (by omega)
      cases hb : p n
      · simpa using ih
      · simp only [Bool.toNat_true, Nat.one_mul]
        rw [Nat.add_comm, Nat.testBit_two_pow_add_gt (by omega), ih]
theorem or_i64 {a b : Nat} (ha : a < 2 ^ 63) (hb : b < 2 ^ 63) : Go.bits .or .i64 (a : Int) (b : Int) = ((a ||| b : Nat) : Int) :=
  (bits_nat .i64 63 (by decide) (fun n h h' => by rw [IntKind.wrap_i64]; omega) a b ha hb).2
theorem or_low {a n : Nat} (b : Bool) (h : a < 2 ^ n) : a ||| (b.toNat * 2 ^ n) = a + b.toNat * 2 ^ n := by
  cases b
  · simp
  · have := Nat.two_pow_add_eq_or_of_lt h 1
    rw [Nat.mul_one] at this
    simp only [Bool.toNat_true, Nat.one_mul]
    rw [Nat.or_comm, ← this, Nat.add_comm]
/-- a step up, a step down behind a place of a list -/
def upAt (d : List Int) (i : Nat) : Bool := decide (rd d ((i : Int) + 1) = rd d (i : Int) + 1)
def dnAt (d : List Int) (i : Nat) : Bool := decide (rd d ((i : Int) + 1) = rd d (i : Int) - 1)
/-- the numbers from 0 on -/
def idL (n : Nat) : List Int := (List.range n).map fun i : Nat => (i : Int)
theorem idL_length (n : Nat) : (idL n).length = n := by simp [idL]
theorem idL_succ (n : Nat) : idL (n + 1) = idL n ++ [(n : Int)] := by
  unfold idL
  rw [List.range_succ, List.map_append]
  rfl
theorem rd_idL {n i : Nat} (h : i < n) : rd (idL n) (i : Int) = (i : Int) := by
  rw [rd_lt (by rw [idL_length]; exact h)]
  simp [idL]
theorem sumN_true : ∀ n, sumN (fun _ => true) n = 2 ^ n - 1
  | 0 => rfl
  | n + 1 => by
    have := Nat.two_pow_pos n
    rw [sumN, sumN_true n, Nat.pow_succ]
    simp only [Bool.toNat_true]
    omega
theorem sumN_false : ∀ n, sumN (fun _ => false) n = 0
  | 0 => rfl
  | n + 1 => by rw [sumN, sumN_false n]; simp
theorem sumN_congr {p q : Nat → Bool} : ∀ n, (∀ i, i < n → p i = q i) → sumN p n = sumN q n
  | 0 => fun _ => rfl
  | n + 1 => fun h => by rw [sumN, sumN, sumN_congr n (fun i hi => h i (by omega)), h n (by omega)]
end Go.Proofs.Ytbibgmmoompoiaa.L
