/- Counting the bits of a 64-bit number by adding its parts side by side, in plain Lean; no program in sight. -/
import Derived.Test.YtflbnknbknbomaaDoorLib
set_option linter.unusedVariables false
set_option linter.unusedSimpArgs false
namespace Go.Proofs.YtflbnknbknbomaaDoor.L
open Go.RowKit Go.Proofs.YtflbnknbknbomaaDoorW.PrintWords

/-- how many of the first n bits are set -/
def popN (x : Nat) : Nat → Nat
  | 0 => 0
  | n + 1 => popN x n + (x.testBit n).toNat
theorem popN_le (x : Nat) : ∀ n, popN x n ≤ n
  | 0 => Nat.le_refl _
  | n + 1 => by
    have := popN_le x n
    unfold popN
    cases x.testBit n <;> simp <;> omega
/-- n bytes, each c -/
def rep8 (c : Nat) : Nat → Nat
  | 0 => 0
  | n + 1 => 256 * rep8 c n + c
theorem and_split (h M b m : Nat) (hb : b < 256) (hm : m < 256) : (256 * h + b) &&& (256 * M + m) = 256 * (h &&& M) + (b &&& m) := by
  apply Nat.eq_of_testBit_eq
  intro i
  have hbm : b &&& m < 2 ^ 8 := Nat.and_lt_two_pow _ hm
  rw [Nat.testBit_and, show 256 = 2 ^ 8 from rfl, Nat.testBit_two_pow_mul_add h (show b < 2 ^ 8 from hb), Nat.testBit_two_pow_mul_add M (show m < 2 ^ 8 from hm), Nat.testBit_two_pow_mul_add (h &&& M) hbm]
  by_cases hi : i < 8
  · rw [if_pos hi, if_pos hi, if_pos hi, Nat.testBit_and]
  · rw [if_neg hi, if_neg hi, if_neg hi, Nat.testBit_and]
/-- the first step, of one byte -/
def g1 (b : Nat) : Nat := (b / 2 &&& 85) + (b &&& 85)
/-- the second step, of one byte -/
def g2 (b : Nat) : Nat := (b / 4 &&& 51) + (b &&& 51)
/-- the third step, of one byte -/
def g3 (b : Nat) : Nat := (b / 16 + b) &&& 15
theorem low1 : ∀ b, b < 256 → (∀ r, r < 2 → (r * 128 + b / 2) &&& 85 = b / 2 &&& 85) ∧ g1 b < 256 := by decide +kernel
theorem low2 : ∀ b, b < 256 → (∀ r, r < 4 → (r * 64 + b / 4) &&& 51 = b / 4 &&& 51) ∧ g2 (g1 b) < 256 ∧ g2 (g1 b) % 16 ≤ 4 ∧ g2 (g1 b) / 16 ≤ 4 := by decide +kernel
theorem low2' : ∀ b, b < 256 → (∀ r, r < 4 → (r * 64 + b / 4) &&& 51 = b / 4 &&& 51) := fun b h => (low2 b h).1
theorem low3 : ∀ b, b < 256 → ∀ r, r < 5 → (r * 16 + g2 (g1 b) / 16 + g2 (g1 b)) &&& 15 = popN b 8 := by decide +kernel
/-- the three steps, of n bytes -/
def s1 (n x : Nat) : Nat := (x / 2 &&& rep8 85 n) + (x &&& rep8 85 n)
def s2 (n x : Nat) : Nat := (x / 4 &&& rep8 51 n) + (x &&& rep8 51 n)
def s3 (n x : Nat) : Nat := (x / 16 + x) &&& rep8 15 n
theorem s1_step (n h b : Nat) (hb : b < 256) : s1 (n + 1) (256 * h + b) = 256 * s1 n h + g1 b := by
  unfold s1
  rw [show rep8 85 (n + 1) = 256 * rep8 85 n + 85 from rfl]
  have e : (256 * h + b) / 2 = 256 * (h / 2) + (h % 2 * 128 + b / 2) := by omega
  have l := (low1 b hb).1 (h % 2) (Nat.mod_lt _ (by decide))
  rw [e, and_split _ _ _ _ (by omega) (by decide), and_split _ _ _ _ hb (by decide), l]
  unfold g1
  omega
theorem s2_step (n h b : Nat) (hb : b < 256) : s2 (n + 1) (256 * h + b) = 256 * s2 n h + g2 b := by
  unfold s2
  rw [show rep8 51 (n + 1) = 256 * rep8 51 n + 51 from rfl]
  have e : (256 * h + b) / 4 = 256 * (h / 4) + (h % 4 * 64 + b / 4) := by omega
  have l := low2' b hb (h % 4) (Nat.mod_lt _ (by decide))
  rw [e, and_split _ _ _ _ (by omega) (by decide), and_split _ _ _ _ hb (by decide), l]
  unfold g2
  omega
/-- the bytes' counts, each in its byte -/
def cnt8 : Nat → Nat → Nat
  | 0, _ => 0
  | n + 1, x => 256 * cnt8 n (x / 256) + popN (x % 256) 8
theorem s12_low : ∀ n x, s2 n (s1 n x) % 16 ≤ 4
  | 0, x => by simp [s2, s1, rep8]
  | n + 1, x => by
    have hx : x = 256 * (x / 256) + x % 256 := by omega
    have hb : x % 256 < 256 := Nat.mod_lt _ (by decide)
    have h1 := (low1 _ hb).2
    have h2 := (low2 _ hb).2.2.1
    rw [hx, s1_step n _ _ hb, s2_step n _ _ h1]
    omega
theorem s123 : ∀ n x, s3 n (s2 n (s1 n x)) = cnt8 n x
  | 0, x => by simp [s3, rep8, cnt8]
  | n + 1, x => by
    have hb : x % 256 < 256 := Nat.mod_lt _ (by decide)
    have h1 := (low1 _ hb).2
    obtain ⟨_, h2, h3, h4⟩ := low2 _ hb
    have hl := s12_low n (x / 256)
    have ih := s123 n (x / 256)
    have l3 := low3 _ hb (s2 n (s1 n (x / 256)) % 16) (by omega)
    unfold cnt8
    rw [← ih]
    have hx : s2 (n + 1) (s1 (n + 1) x) = 256 * s2 n (s1 n (x / 256)) + g2 (g1 (x % 256)) := by
      conv => lhs; rw [show x = 256 * (x / 256) + x % 256 from by omega]
      rw [s1_step n _ _ hb, s2_step n _ _ h1]
    rw [hx]
    generalize s2 n (s1 n (x / 256)) = u at *
    generalize hv : g2 (g1 (x % 256)) = v at *
    unfold s3
    rw [show rep8 15 (n + 1) = 256 * rep8 15 n + 15 from rfl]
    rw [show (256 * u + v) / 16 + (256 * u + v) = 256 * (u / 16 + u) + (u % 16 * 16 + v / 16 + v) from by omega, and_split _ _ _ _ (by omega) (by decide), l3]
theorem popN_split (h b : Nat) (hb : b < 256) : ∀ n, popN (256 * h + b) (8 + n) = popN b 8 + popN h n
  | 0 => by
    have e : ∀ i, i < 8 → (256 * h + b).testBit i = b.testBit i := fun i hi => by
      rw [show 256 = 2 ^ 8 from rfl, Nat.testBit_two_pow_mul_add h (show b < 2 ^ 8 from hb), if_pos hi]
    simp only [popN, Nat.add_zero]
    rw [e 0 (by decide), e 1 (by decide), e 2 (by decide), e 3 (by decide), e 4 (by decide), e 5 (by decide), e 6 (by decide), e 7 (by decide)]
  | n + 1 => by
    have e : (256 * h + b).testBit (8 + n) = h.testBit n := by
      rw [show 256 = 2 ^ 8 from rfl, Nat.testBit_two_pow_mul_add h (show b < 2 ^ 8 from hb), if_neg (by omega)]
      congr 1
      omega
    have e1 : popN (256 * h + b) (8 + n + 1) = popN (256 * h + b) (8 + n) + ((256 * h + b).testBit (8 + n)).toNat := rfl
    have e2 : popN h (n + 1) = popN h n + (h.testBit n).toNat := rfl
    rw [show 8 + (n + 1) = 8 + n + 1 from rfl, e1, popN_split h b hb n, e, e2]
    omega
/-- the counts of eight bytes, one beside the other -/
theorem cnt8_all (x : Nat) : ∃ p0 p1 p2 p3 p4 p5 p6 p7 : Nat, p0 ≤ 8 ∧ p1 ≤ 8 ∧ p2 ≤ 8 ∧ p3 ≤ 8 ∧ p4 ≤ 8 ∧ p5 ≤ 8 ∧ p6 ≤ 8 ∧ p7 ≤ 8 ∧
    cnt8 8 x = 256 * (256 * (256 * (256 * (256 * (256 * (256 * (256 * 0 + p7) + p6) + p5) + p4) + p3) + p2) + p1) + p0 ∧ popN x 64 = p0 + p1 + p2 + p3 + p4 + p5 + p6 + p7 := by
  have hm : ∀ y : Nat, y % 256 < 256 := fun y => Nat.mod_lt _ (by decide)
  have sp : ∀ (y n : Nat), popN y (8 + n) = popN (y % 256) 8 + popN (y / 256) n := fun y n => by
    conv => lhs; rw [show y = 256 * (y / 256) + y % 256 from by omega]
    exact popN_split _ _ (hm y) n
  refine ⟨_, _, _, _, _, _, _, _, popN_le _ 8, popN_le _ 8, popN_le _ 8, popN_le _ 8, popN_le _ 8, popN_le _ 8, popN_le _ 8, popN_le _ 8, rfl, ?_⟩
  have z : ∀ y, popN y 0 = 0 := fun _ => rfl
  have l8 : ∀ y, popN y 8 = popN (y % 256) 8 := fun y => by
    have := sp y 0
    rw [z] at this
    exact this
  rw [show 64 = 8 + 56 from rfl, sp, show 56 = 8 + 48 from rfl, sp, show 48 = 8 + 40 from rfl, sp, show 40 = 8 + 32 from rfl, sp, show 32 = 8 + 24 from rfl, sp, show 24 = 8 + 16 from rfl, sp, show 16 = 8 + 8 from rfl, sp, l8 (x / 256 / 256 / 256 / 256 / 256 / 256 / 256)]
  omega
theorem div_of {d z Z low : Nat} (h : z = d * Z + low) (hl : low < d) : z / d = Z := by
  rw [h, Nat.mul_add_div (by omega), Nat.div_eq_of_lt hl, Nat.add_zero]
/-- adding the eight counts up -/
theorem fold8 {y p0 p1 p2 p3 p4 p5 p6 p7 : Nat} (h0 : p0 ≤ 8) (h1 : p1 ≤ 8) (h2 : p2 ≤ 8) (h3 : p3 ≤ 8) (h4 : p4 ≤ 8) (h5 : p5 ≤ 8) (h6 : p6 ≤ 8) (h7 : p7 ≤ 8)
    (hy : y = 256 * (256 * (256 * (256 * (256 * (256 * (256 * (256 * 0 + p7) + p6) + p5) + p4) + p3) + p2) + p1) + p0) :
    ∃ A z w : Nat, A = y + y / 256 ∧ z = A + A / 65536 ∧ w = z + z / 4294967296 ∧ y < 1152921504606846976 ∧ A < 2305843009213693952 ∧ z < 2305843009213693952 ∧ w < 4611686018427387904 ∧ w % 128 = p0 + p1 + p2 + p3 + p4 + p5 + p6 + p7 := by
  have d1 := div_of (d := 256) hy (by omega)
  refine ⟨_, _, _, rfl, rfl, rfl, by omega, ?_⟩
  rw [d1]
  have hA : y + (256 * (256 * (256 * (256 * (256 * (256 * (256 * 0 + p7) + p6) + p5) + p4) + p3) + p2) + p1) = 65536 * (256 * (256 * (256 * (256 * (256 * p7 + (p6 + p7)) + (p5 + p6)) + (p4 + p5)) + (p3 + p4)) + (p2 + p3)) + (256 * (p1 + p2) + (p0 + p1)) := by omega
  have d2 := div_of (d := 65536) hA (by omega)
  rw [d2]
  generalize hAA : y + (256 * (256 * (256 * (256 * (256 * (256 * (256 * 0 + p7) + p6) + p5) + p4) + p3) + p2) + p1) = A at *
  clear d1 d2 hy hAA
  have hz : A + (256 * (256 * (256 * (256 * (256 * p7 + (p6 + p7)) + (p5 + p6)) + (p4 + p5)) + (p3 + p4)) + (p2 + p3)) = 4294967296 * (256 * (256 * (256 * p7 + (p6 + p7)) + (p5 + p6 + p7)) + (p4 + p5 + p6 + p7)) + (256 * (256 * (256 * (p3 + p4 + p5 + p6) + (p2 + p3 + p4 + p5)) + (p1 + p2 + p3 + p4)) + (p0 + p1 + p2 + p3)) := by omega
  have d3 := div_of (d := 4294967296) hz (by omega)
  rw [d3]
  generalize hzz : A + (256 * (256 * (256 * (256 * (256 * p7 + (p6 + p7)) + (p5 + p6)) + (p4 + p5)) + (p3 + p4)) + (p2 + p3)) = z at *
  clear d3 hzz
  refine ⟨by omega, by omega, by omega, ?_⟩
  clear hA
  rw [hz]
  have e : 4294967296 * (256 * (256 * (256 * p7 + (p6 + p7)) + (p5 + p6 + p7)) + (p4 + p5 + p6 + p7)) + (256 * (256 * (256 * (p3 + p4 + p5 + p6) + (p2 + p3 + p4 + p5)) + (p1 + p2 + p3 + p4)) + (p0 + p1 + p2 + p3)) + (256 * (256 * (256 * p7 + (p6 + p7)) + (p5 + p6 + p7)) + (p4 + p5 + p6 + p7)) =
      128 * (33554432 * (256 * (256 * (256 * p7 + (p6 + p7)) + (p5 + p6 + p7)) + (p4 + p5 + p6 + p7)) + 2 * (256 * (256 * (p3 + p4 + p5 + p6) + (p2 + p3 + p4 + p5)) + (p1 + p2 + p3 + p4)) + 2 * (256 * (256 * p7 + (p6 + p7)) + (p5 + p6 + p7))) + (p0 + p1 + p2 + p3 + (p4 + p5 + p6 + p7)) := by omega
  rw [e, Nat.mul_add_mod, Nat.mod_eq_of_lt (by omega)]
  omega
theorem s1_lt {x : Nat} (h : x < 2 ^ 64) : s1 8 x < 2 ^ 64 := by
  unfold s1
  have h1 : x / 2 &&& rep8 85 8 ≤ rep8 85 8 := Nat.and_le_right
  have h2 : x &&& rep8 85 8 ≤ rep8 85 8 := Nat.and_le_right
  have h3 : rep8 85 8 = 6148914691236517205 := by decide
  omega
theorem s2_lt {x : Nat} : s2 8 x < 2 ^ 63 := by
  unfold s2
  have h1 : x / 4 &&& rep8 51 8 ≤ rep8 51 8 := Nat.and_le_right
  have h2 : x &&& rep8 51 8 ≤ rep8 51 8 := Nat.and_le_right
  have h3 : rep8 51 8 = 3689348814741910323 := by decide
  omega
end Go.Proofs.YtflbnknbknbomaaDoor.L
