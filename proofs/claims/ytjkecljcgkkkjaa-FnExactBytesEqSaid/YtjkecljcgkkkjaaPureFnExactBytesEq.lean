/- The law FnExactBytesEq holds of the program: whatever its arguments (of the kinds and sizes that the statement names), it answers true. -/
import Derived.Test.YtjkecljcgkkkjaaPFnExactBytesEqx1
import Derived.Test.YtjkecljcgkkkjaaLib
set_option linter.unusedVariables false
set_option linter.unusedSimpArgs false
namespace Go.Proofs.Ytjkecljcgkkkjaa.Pure
open Go.RowKit Go.Proofs.Ytjkecljcgkkkjaa.PFnExactBytesEq Go.Proofs.YtjkecljcgkkkjaaW.PrintWords Go.Proofs.YtjkecljcgkkkjaaW.PrintLast Go.Proofs.Ytjkecljcgkkkjaa.L 

theorem toByteS_l0 (xs : List Int) (hx : xs.length ≤ 140737488351232) (d : Nat) : ∀ (k i : Nat) (ys : List Int), ys.length = xs.length → i ≤ xs.length → xs.length - i = d → d < k → ys.take i = xs.take i →
    laws_toByteS.l0 k xs ys (i : Int) = some xs := by
  induction d with
  | zero =>
    intro k i ys hl hi hd hk ht
    obtain ⟨k, rfl⟩ : ∃ q, k = q + 1 := ⟨k - 1, by omega⟩
    rw [laws_toByteS.l0, if_neg (by omega)]
    rw [List.take_of_length_le (by omega), List.take_of_length_le (by omega)] at ht
    rw [ht]
  | succ d ih =>
    intro k i ys hl hi hd hk ht
    obtain ⟨k, rfl⟩ : ∃ q, k = q + 1 := ⟨k - 1, by omega⟩
    have h := ih k (i + 1) (ys.set i (rd xs (i : Int))) (by simp [hl]) (by omega) (by omega) (by omega) (set_copy xs ys i (by omega) hl ht)
    rw [laws_toByteS.l0, if_pos (by omega), if_pos (by omega), if_pos (by omega), w64 (by omega) (by omega), Int.toNat_natCast]
    exact h
theorem toByteS_f (xs : List Int) (hx : xs.length ≤ 140737488351232) {k : Nat} (hk : xs.length < k) : laws_toByteS.f k xs = some xs := by
  unfold laws_toByteS.f
  rw [if_pos (Int.natCast_nonneg _), if_pos (by omega)]
  exact toByteS_l0 xs hx xs.length k 0 _ (by simp) (by omega) (by omega) hk (by simp)

theorem eqByteS_l0 (xs ys : List Int) (hl : ys.length = xs.length) (hx : xs.length ≤ 140737488351232) (d : Nat) : ∀ (k i : Nat), i ≤ xs.length → xs.length - i = d → d < k →
    laws_eqByteS.l0 k xs ys (i : Int) = some (decide (xs.drop i = ys.drop i)) := by
  induction d with
  | zero =>
    intro k i hi hd hk
    obtain ⟨k, rfl⟩ : ∃ q, k = q + 1 := ⟨k - 1, by omega⟩
    rw [laws_eqByteS.l0, if_neg (by omega), List.drop_of_length_le (by omega), List.drop_of_length_le (by omega)]
    rfl
  | succ d ih =>
    intro k i hi hd hk
    obtain ⟨k, rfl⟩ : ∃ q, k = q + 1 := ⟨k - 1, by omega⟩
    have h := ih k (i + 1) (by omega) (by omega) (by omega)
    rw [laws_eqByteS.l0, if_pos (by omega), if_pos (by omega), if_pos (by omega), w64 (by omega) (by omega)]
    rw [rd_lt (show i < xs.length by omega), rd_lt (show i < ys.length by omega)]
    rw [List.drop_eq_getElem_cons (show i < xs.length by omega), List.drop_eq_getElem_cons (show i < ys.length by omega)]
    by_cases e : xs[i]'(by omega) = ys[i]'(by omega)
    · rw [if_pos e]
      rw [show ((i : Int) + 1) = ((i + 1 : Nat) : Int) from rfl, h]
      congr 1
      rw [decide_eq_decide, e]
      exact ⟨fun h2 => by rw [h2], fun h2 => (List.cons.inj h2).2⟩
    · rw [if_neg e]
      congr 1
      symm
      rw [decide_eq_false_iff_not]
      intro h2
      exact e (List.cons.inj h2).1
theorem eqByteS_f (xs ys : List Int) (hx : xs.length ≤ 140737488351232) {k : Nat} (hk : xs.length < k) : laws_eqByteS.f k xs ys = some (decide (xs = ys)) := by
  unfold laws_eqByteS.f
  by_cases h : xs.length = ys.length
  · rw [if_pos (by omega)]
    have := eqByteS_l0 xs ys h.symm hx xs.length k 0 (by omega) (by omega) hk
    simpa using this
  · rw [if_neg (by omega)]
    congr 1
    symm
    rw [decide_eq_false_iff_not]
    intro e
    exact h (by rw [e])

theorem FnExactBytesEq : laws_FnExactBytesEq.Pure := by
  intro xs ys _ hx _ _ hy _
  refine ⟨xs.length + ys.length + 1, ?_⟩
  unfold laws_FnExactBytesEq.f
  rw [toByteS_f xs (by omega) (by omega), toByteS_f ys (by omega) (by omega)]
  unfold spec_BytesEq.f impl_BytesEq.f bytes_Equal.f
  simp only [Option.bind_some, eqByteS_f xs xs (by omega) (show xs.length < xs.length + ys.length + 1 by omega), eqByteS_f ys ys (by omega) (show ys.length < xs.length + ys.length + 1 by omega)]
  by_cases h : (strOfNums xs).toList = (strOfNums ys).toList <;> simp [h]

end Go.Proofs.Ytjkecljcgkkkjaa.Pure
