/- The functions that the law FnExactTouchText reaches, as plain Lean functions, and the walks that show that Go comes to their answers; part 1. Its lines are the print's, turned where Lean refused them. -/
import Derived.Test.YtoceiaaigiflpaaDoorQFnExactTouchTextx0
namespace Go.Proofs.YtoceiaaigiflpaaDoor.PFnExactTouchText
open Go.RowKit Go.Proofs.YtoceiaaigiflpaaDoorW.PrintWords Go.Proofs.YtoceiaaigiflpaaDoorW.PrintLast Go.Proofs.YtoceiaaigiflpaaDoorW.PrintMore
attribute [local go_sem] max2_int min2_int max_two min_two max_three min_three max_four min_four   -- for this text's walks alone
set_option linter.unusedVariables false
set_option linter.unusedSimpArgs false

-- NOT PRINTED: function 41 (strconv_small)

-- NOT PRINTED: function 47 (strconv_log10Pow2)

-- NOT PRINTED: function 48 (bits_Len64)

-- NOT PRINTED: function 49 (strconv_bool2_int)

-- NOT PRINTED: function 42 (strconv_numDigits)

-- NOT PRINTED: function 43 (strconv_formatBase10)

-- NOT PRINTED: function 50 (strconv_isPowerOfTwo)

-- NOT PRINTED: function 52 (bits_TrailingZeros32)

-- NOT PRINTED: function 53 (bits_TrailingZeros64)

-- NOT PRINTED: function 51 (bits_TrailingZeros)

-- NOT PRINTED: function 44 (strconv_formatBits)

-- NOT PRINTED: function 38 (strconv_FormatInt)

-- NOT PRINTED: function 33 (strconv_Itoa_33)

/-! ### strconv_Itoa_25: function 25 -/
/-- the library's table of the powers of ten stands as its initialiser lays it, here and in whatever comes of it -/
def DoorW (w : World) : Prop := Lib.TabBelow Tryd.prog w.heap.size w "internal/strconv.uint64pow10" .u64 Lib.pow10Tab
theorem DoorW.below {w w1 : World} (h : DoorW w) (hb : Below w.heap.size w w1) : DoorW w1 := fun w' h' => h w' (below_step hb h')
theorem DoorW.drewN {w : World} (h : DoorW w) (n : Nat) : DoorW (w.drewN n) := h.below (pw_below_drewN (Below.refl _ _) n)
theorem DoorW.drew {w : World} (h : DoorW w) : DoorW w.drew := h.below (below_drew (Below.refl _ _))
theorem DoorW.alloc {w : World} (h : DoorW w) (o : Obj) : DoorW (w.alloc o) := h.below (below_alloc (Below.refl _ _) o)
def strconv_Itoa_25.f (a0 : Int) : Option (ByteArray) := if -9223372036854775808 ≤ a0 then (if a0 ≤ 9223372036854775807 then some ⟨(Lib.itoa a0).toArray⟩ else none) else none
theorem strconv_Itoa_25.calls (a0 : Int) (r : ByteArray) (w : World) (h : strconv_Itoa_25.f a0 = some r) (hDoor : DoorW w) :
    Calls Tryd.prog 25 #[.int .i64 a0] w fun e w' => e = .returned (.string r) ∧ Below w.heap.size w w' := by
  unfold strconv_Itoa_25.f at h
  by_cases h1 : -9223372036854775808 ≤ a0
  · rw [if_pos h1] at h
    by_cases h2 : a0 ≤ 9223372036854775807
    · rw [if_pos h2] at h
      obtain rfl := Option.some.inj h
      refine (Tryd.strconv_Itoa a0 h1 h2 w hDoor.here).mono ?_
      rintro e w' ⟨rfl, k, os, rfl⟩
      exact ⟨rfl, Lib.below_grow _ w (Nat.le_refl _) k os⟩
    · rw [if_neg h2] at h
      exact absurd h (by simp)
  · rw [if_neg h1] at h
    exact absurd h (by simp)

-- NOT PRINTED: function 45 (abi_NoEscape)

-- NOT PRINTED: function 39 (strings_Builder_copyCheck)

-- NOT PRINTED: function 46 (bytealg_MakeNoZero)

-- NOT PRINTED: function 40 (strings_Builder_grow)

-- NOT PRINTED: function 34 (strings_Builder_Grow)

-- NOT PRINTED: function 35 (strings_Builder_WriteString)

-- NOT PRINTED: function 36 (strings_Builder_String)

/-! ### strings_Join: function 26 -/
def strings_Join.f (l0 : List ByteArray) (a1 : ByteArray) : Option (ByteArray) := if l0.length ≤ 140737488355328 then (if (Lib.join (l0.map (·.data.toList)) a1.data.toList).length ≤ 140737488355328 then some ⟨(Lib.join (l0.map (·.data.toList)) a1.data.toList).toArray⟩ else none) else none
set_option maxHeartbeats 8000000 in
theorem strings_Join.calls (A0 : Option Addr) (c0 : Nat) (l0 : List ByteArray) (a1 : ByteArray) (r : ByteArray) (w : World) (hr0 : Kd.C Kd.string w A0 l0.length l0) (hc0 : l0.length ≤ c0) (h : strings_Join.f l0 a1 = some r) :
    Calls Tryd.prog 26 #[.slice A0 l0.length c0, .string a1] w fun e w' => e = .returned (.string r) ∧ Below w.heap.size w w' := by
  unfold strings_Join.f at h
  by_cases h1 : l0.length ≤ 140737488355328
  · rw [if_pos h1] at h
    by_cases h2 : (Lib.join (l0.map (·.data.toList)) a1.data.toList).length ≤ 140737488355328
    · rw [if_pos h2] at h
      obtain rfl := Option.some.inj h
      cases l0 with
      | nil =>
        refine (Tryd.strings_Join_none A0 c0 a1 w).mono ?_
        rintro e w' ⟨rfl, rfl⟩
        exact ⟨rfl, Below.refl _ _⟩
      | cons x xs =>
        obtain ⟨ad, rfl, hcell⟩ := hr0.2.2 (Nat.succ_pos _)
        have hc : ∀ (j : Nat) (y : ByteArray), (x :: xs)[j]? = some y → w.cell? (ad.add j) = some (.string y) := fun j y hj => by
          obtain ⟨c, hl, hR, hu⟩ := hcell j y hj
          have e : c = [.string y] := hR
          subst e
          have := hu 0 _ rfl
          rw [show j * Kd.string.sz + 0 = j from by show j * 1 + 0 = j; omega] at this
          exact this
        obtain ⟨bk, o, sp⟩ := ad
        have hx := hc 0 x rfl
        have hsp : sp = none := by
          cases sp with
          | none => rfl
          | some q =>
            exfalso
            unfold World.cell? at hx
            simp [Addr.add] at hx
            split at hx <;> simp_all
        subst hsp
        have hbk : bk < w.heap.size := World.block_lt_of_cell? w _ hx
        exact Tryd.strings_Join bk o c0 (x :: xs) a1 w (fun j y hj => by
          have q := hc j y hj
          by_cases e : j = 0
          · subst e; simpa [Addr.add] using q
          · simpa [Addr.add, e] using q) hbk h1 hc0 h2
    · rw [if_neg h2] at h
      exact absurd h (by simp)
  · rw [if_neg h1] at h
    exact absurd h (by simp)

end Go.Proofs.YtoceiaaigiflpaaDoor.PFnExactTouchText
