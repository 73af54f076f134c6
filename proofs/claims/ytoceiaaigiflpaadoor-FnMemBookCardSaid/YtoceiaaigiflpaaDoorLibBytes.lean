/- Lists of bytes that are chosen byte by byte by a mask, and lists that are marked with consecutive numbers, in plain Lean; no program in sight; the lists hold bytes. -/
import Derived.Test.YtoceiaaigiflpaaDoorLib
set_option linter.unusedVariables false
set_option linter.unusedSimpArgs false
namespace Go.Proofs.YtoceiaaigiflpaaDoor.L
open Go.RowKit Go.Proofs.YtoceiaaigiflpaaDoorW.PrintWords

/-- bytes -/
def U8s (xs : List Int) : Prop := ∀ i : Nat, i < xs.length → 0 ≤ rd xs (i : Int) ∧ rd xs (i : Int) ≤ 255
theorem U8s.of {xs : List Int} (h : ∀ x ∈ xs, (Lit.int .u8 x).wf = true) : U8s xs := by
  intro i hi
  rw [rd_lt hi]
  exact wf_u8 (h _ (List.getElem_mem hi))
/-- a and not b, of 8 bits -/
def andN8 (a b : Nat) : Nat := (BitVec.ofNat 8 a &&& ~~~ BitVec.ofNat 8 b).toNat
theorem andN8_lt (a b : Nat) : andN8 a b < 2 ^ 8 := BitVec.isLt _
theorem andN8_bit (a b i : Nat) : (andN8 a b).testBit i = (decide (i < 8) && a.testBit i && !b.testBit i) := by
  unfold andN8
  rw [BitVec.testBit_toNat, BitVec.getLsbD_and, BitVec.getLsbD_not, BitVec.getLsbD_ofNat, BitVec.getLsbD_ofNat]
  by_cases h : i < 8 <;> simp [h]
theorem sel8 (m x y : Nat) (hx : x < 256) (hy : y < 256) :
    Go.bits .or .u8 (Go.bits .and .u8 (x : Int) ((m : Int) % 256)) (Go.bits .andNot .u8 (y : Int) ((m : Int) % 256)) = ((selN m x y : Nat) : Int) % 256 := by
  rw [show ((m : Int) % 256) = ((m % 2 ^ 8 : Nat) : Int) from by omega]
  have hm : m % 2 ^ 8 < 2 ^ 8 := Nat.mod_lt _ (by decide)
  have h1 : Go.bits .and .u8 (x : Int) ((m % 2 ^ 8 : Nat) : Int) = ((x &&& (m % 2 ^ 8) : Nat) : Int) := (bits_nat .u8 8 (Nat.le_refl _) wraps_u8 x _ hx hm).1
  have h2 : Go.bits .andNot .u8 (y : Int) ((m % 2 ^ 8 : Nat) : Int) = ((andN8 y (m % 2 ^ 8) : Nat) : Int) := by
    simp only [Go.bits, BitVec.ofInt_natCast, IntKind.bits]
    exact wraps_u8 _ (Int.natCast_nonneg _) (by exact_mod_cast andN8_lt y (m % 2 ^ 8))
  have hl : x &&& (m % 2 ^ 8) < 2 ^ 8 := Nat.lt_of_le_of_lt Nat.and_le_left hx
  rw [h1, h2, (bits_nat .u8 8 (Nat.le_refl _) wraps_u8 _ _ hl (andN8_lt _ _)).2]
  have hsel : selN m x y % 2 ^ 8 = (x &&& (m % 2 ^ 8)) ||| andN8 y (m % 2 ^ 8) := by
    apply Nat.eq_of_testBit_eq
    intro i
    rw [Nat.testBit_mod_two_pow, Nat.testBit_or, Nat.testBit_and, Nat.testBit_mod_two_pow, andN8_bit, Nat.testBit_mod_two_pow]
    by_cases hi : i < 8
    · rw [selN_bit (by omega)]
      simp only [hi, decide_true, Bool.true_and]
      cases m.testBit i <;> cases x.testBit i <;> cases y.testBit i <;> rfl
    · simp [hi]
  rw [← hsel]
  omega
/-- the first n bytes, each chosen by the mask -/
def selL (m : Nat) (xs ys : List Int) (n : Nat) : List Int := (List.range n).map fun i : Nat => ((selN m (rd xs (i : Int)).toNat (rd ys (i : Int)).toNat : Nat) : Int) % 256
theorem selL_length (m : Nat) (xs ys : List Int) (n : Nat) : (selL m xs ys n).length = n := by simp [selL]
theorem selL_succ (m : Nat) (xs ys : List Int) (n : Nat) : selL m xs ys (n + 1) = selL m xs ys n ++ [((selN m (rd xs (n : Int)).toNat (rd ys (n : Int)).toNat : Nat) : Int) % 256] := by
  unfold selL
  rw [List.range_succ, List.map_append]
  rfl
/-- what BytesSelect tells -/
def bsel (m : Nat) (xs ys : List Int) : List Int := if xs.length = ys.length ∧ xs.length ≤ 4096 then selL m xs ys xs.length else []
theorem bsel_le (m : Nat) (xs ys : List Int) : (bsel m xs ys).length ≤ 4096 := by
  unfold bsel
  split
  · rw [selL_length]; omega
  · simp
theorem take_set_snoc (ys : List Int) (i : Nat) (v : Int) (h : i < ys.length) : (ys.set i v).take (i + 1) = ys.take i ++ [v] := by
  rw [List.take_succ_eq_append_getElem (by simp; omega), List.take_set_of_le (Nat.le_refl _)]
  simp
/-- consecutive numbers, as bytes -/
def markL (a : Int) (n : Nat) : List Int := (List.range n).map fun i : Nat => (a + (i : Int)) % 256
theorem markL_length (a : Int) (n : Nat) : (markL a n).length = n := by simp [markL]
theorem markL_succ (a : Int) (n : Nat) : markL a (n + 1) = markL a n ++ [(a + (n : Int)) % 256] := by
  unfold markL
  rw [List.range_succ, List.map_append]
  rfl
theorem rd_markL (a : Int) {n i : Nat} (h : i < n) : rd (markL a n) (i : Int) = (a + (i : Int)) % 256 := by
  rw [rd_lt (by rw [markL_length]; exact h)]
  simp [markL]
end Go.Proofs.YtoceiaaigiflpaaDoor.L
