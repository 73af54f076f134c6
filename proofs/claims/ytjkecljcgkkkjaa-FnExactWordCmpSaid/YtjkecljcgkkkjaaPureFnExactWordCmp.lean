/- The law FnExactWordCmp holds of the program: whatever its arguments (of the kinds and sizes that the statement names), it answers true. -/
import Derived.Test.YtjkecljcgkkkjaaQFnExactWordCmpx1
import Derived.Test.YtjkecljcgkkkjaaLib
set_option linter.unusedVariables false
set_option linter.unusedSimpArgs false
namespace Go.Proofs.Ytjkecljcgkkkjaa.Pure
open Go.RowKit Go.Proofs.Ytjkecljcgkkkjaa.PFnExactWordCmp Go.Proofs.YtjkecljcgkkkjaaW.PrintWords Go.Proofs.YtjkecljcgkkkjaaW.PrintLast Go.Proofs.Ytjkecljcgkkkjaa.L 

theorem bytes_drop (s : ByteArray) (i : Nat) (h : i < s.size) : s.data.toList.drop i = s[i]'h :: s.data.toList.drop (i + 1) := by
  rw [List.drop_eq_getElem_cons (by simpa using h)]
  rfl
theorem bytes_drop_end (s : ByteArray) (i : Nat) (h : s.size ≤ i) : s.data.toList.drop i = [] := List.drop_of_length_le (by simpa using h)
theorem bt_get (s : ByteArray) (i : Nat) (h : i < s.size) : bt s (i : Int) = ((s[i]'h).toNat : Int) := (bt_at s (i : Int) h).symm
theorem spec_WordCmp_l0 (a b : ByteArray) (ha : a.size ≤ 1048576) (d : Nat) : ∀ (k i : Nat), i + d = a.size → i ≤ b.size → 2 * d + 2 < k →
    spec_WordCmp.l0 k a b (i : Int) = some (Lib.compareBytes (a.data.toList.drop i) (b.data.toList.drop i)) := by
  induction d with
  | zero =>
    intro k i hi hj hk
    obtain ⟨k, rfl⟩ : ∃ q, k = q + 2 := ⟨k - 2, by omega⟩
    rw [spec_WordCmp.l0, if_neg (by omega), spec_WordCmp.j1, if_neg (by decide), bytes_drop_end a i (by omega)]
    by_cases h : i < b.size
    · rw [if_pos (by omega), bytes_drop b i h, Lib.compareBytes]
    · rw [if_neg (by omega), if_neg (by omega), bytes_drop_end b i (by omega), Lib.compareBytes]
  | succ d ih =>
    intro k i hi hj hk
    obtain ⟨k, rfl⟩ : ∃ q, k = q + 2 := ⟨k - 2, by omega⟩
    have hai : i < a.size := by omega
    rw [spec_WordCmp.l0, if_pos (by omega), bytes_drop a i hai]
    by_cases h : i < b.size
    · have ih' := ih k (i + 1) (by omega) (by omega) (by omega)
      rw [decide_eq_true (by omega), spec_WordCmp.j1, if_pos rfl, if_pos (by omega), if_pos (by omega), if_pos (by omega), bytes_drop b i h, Lib.compareBytes, bt_get a i hai, bt_get b i h, w64 (by omega) (by omega)]
      by_cases c1 : a[i]'hai < b[i]'h
      · rw [if_pos c1, if_pos (by have := UInt8.lt_iff_toNat_lt.mp c1; omega)]
      · rw [if_neg c1, if_neg (by intro c; exact c1 (UInt8.lt_iff_toNat_lt.mpr (by omega)))]
        by_cases c2 : b[i]'h < a[i]'hai
        · rw [if_pos c2, if_pos (by have := UInt8.lt_iff_toNat_lt.mp c2; omega)]
        · rw [if_neg c2, if_neg (by intro c; exact c2 (UInt8.lt_iff_toNat_lt.mpr (by omega)))]
          exact ih'
    · rw [decide_eq_false (by omega), spec_WordCmp.j1, if_neg (by decide), if_neg (by omega), if_pos (by omega), bytes_drop_end b i (by omega), Lib.compareBytes]
theorem FnExactWordCmp : laws_FnExactWordCmp.Pure := by
  intro a b _ _
  refine ⟨2 * a.size + 10, ?_⟩
  unfold laws_FnExactWordCmp.f
  by_cases h1 : (a.size : Int) > 1048576
  · rw [if_pos h1]
  · rw [if_neg h1]
    by_cases h2 : (b.size : Int) > 1048576
    · rw [if_pos h2]
    · have h := spec_WordCmp_l0 a b (by omega) a.size (2 * a.size + 10) 0 (by omega) (by omega) (by omega)
      unfold spec_WordCmp.f impl_WordCmp.f strings_Compare.f
      rw [show ((0 : Nat) : Int) = 0 from rfl] at h
      rw [if_neg h2, h]
      simp

end Go.Proofs.Ytjkecljcgkkkjaa.Pure
