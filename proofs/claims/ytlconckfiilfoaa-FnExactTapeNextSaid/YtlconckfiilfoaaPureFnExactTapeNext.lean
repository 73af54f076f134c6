/- The law FnExactTapeNext holds of the program: whatever its arguments (of the kinds and sizes that the statement names), it answers true. -/
import Derived.Test.YtlconckfiilfoaaQFnExactTapeNextx3
import Derived.Test.YtlconckfiilfoaaLib
set_option linter.unusedVariables false
set_option linter.unusedSimpArgs false
namespace Go.Proofs.Ytlconckfiilfoaa.Pure
open Go.RowKit Go.Proofs.Ytlconckfiilfoaa.PFnExactTapeNext Go.Proofs.YtlconckfiilfoaaW.PrintWords Go.Proofs.YtlconckfiilfoaaW.PrintLast Go.Proofs.Ytlconckfiilfoaa.L 

theorem toIntS_l0 (xs : List Int) (hx : xs.length ≤ 1048576) (d : Nat) : ∀ (k i : Nat) (ys : List Int), ys.length = xs.length → i ≤ xs.length → xs.length - i = d → d < k → ys.take i = xs.take i →
    laws_toIntS.l0 k xs ys (i : Int) = some xs := by
  induction d with
  | zero =>
    intro k i ys hl hi hd hk ht
    obtain ⟨k, rfl⟩ : ∃ q, k = q + 1 := ⟨k - 1, by omega⟩
    rw [laws_toIntS.l0, if_neg (by omega)]
    rw [List.take_of_length_le (by omega), List.take_of_length_le (by omega)] at ht
    rw [ht]
  | succ d ih =>
    intro k i ys hl hi hd hk ht
    obtain ⟨k, rfl⟩ : ∃ q, k = q + 1 := ⟨k - 1, by omega⟩
    have h := ih k (i + 1) (ys.set i (rd xs (i : Int))) (by simp [hl]) (by omega) (by omega) (by omega) (set_copy xs ys i (by omega) hl ht)
    rw [laws_toIntS.l0, if_pos (by omega), if_pos (by omega), if_pos (by omega), w64 (by omega) (by omega), Int.toNat_natCast]
    exact h
theorem toIntS_f (xs : List Int) (hx : xs.length ≤ 1048576) {k : Nat} (hk : xs.length < k) : laws_toIntS.f k xs = some xs := by
  unfold laws_toIntS.f
  rw [if_pos (Int.natCast_nonneg _), if_pos (by omega)]
  exact toIntS_l0 xs hx xs.length k 0 _ (by simp) (by omega) (by omega) hk (by simp)

theorem eqIntS_l0 (xs ys : List Int) (hl : ys.length = xs.length) (hx : xs.length ≤ 1048576) (d : Nat) : ∀ (k i : Nat), i ≤ xs.length → xs.length - i = d → d < k →
    laws_eqIntS.l0 k xs ys (i : Int) = some (decide (xs.drop i = ys.drop i)) := by
  induction d with
  | zero =>
    intro k i hi hd hk
    obtain ⟨k, rfl⟩ : ∃ q, k = q + 1 := ⟨k - 1, by omega⟩
    rw [laws_eqIntS.l0, if_neg (by omega), List.drop_of_length_le (by omega), List.drop_of_length_le (by omega)]
    rfl
  | succ d ih =>
    intro k i hi hd hk
    obtain ⟨k, rfl⟩ : ∃ q, k = q + 1 := ⟨k - 1, by omega⟩
    have h := ih k (i + 1) (by omega) (by omega) (by omega)
    rw [laws_eqIntS.l0, if_pos (by omega), if_pos (by omega), if_pos (by omega), w64 (by omega) (by omega)]
    rw [rd_lt (show i < xs.length by omega), rd_lt (show i < ys.length by omega)]
    rw [List.drop_eq_getElem_cons (show i < xs.length by omega), List.drop_eq_getElem_cons (show i < ys.length by omega)]
    by_cases e : xs[i]'(by omega) = ys[i]'(by omega)
    · rw [if_pos e]
      rw [show ((i : Int) + 1) = ((i + 1 : Nat) : Int) from rfl, h]
      congr 1
      rw [decide_eq_decide, e]
      exact ⟨fun h2 => by rw [h2], fun h2 => (List.cons.inj h2).2⟩
    · rw [if_neg e]
      congr 1
      symm
      rw [decide_eq_false_iff_not]
      intro h2
      exact e (List.cons.inj h2).1
theorem eqIntS_f (xs ys : List Int) (hx : xs.length ≤ 1048576) {k : Nat} (hk : xs.length < k) : laws_eqIntS.f k xs ys = some (decide (xs = ys)) := by
  unfold laws_eqIntS.f
  by_cases h : xs.length = ys.length
  · rw [if_pos (by omega)]
    have := eqIntS_l0 xs ys h.symm hx xs.length k 0 (by omega) (by omega) hk
    simpa using this
  · rw [if_neg (by omega)]
    congr 1
    symm
    rw [decide_eq_false_iff_not]
    intro e
    exact h (by rw [e])

/-- a valid tape -/
def tapeB (l : List Int) (a : Int) : Bool := decide ((l.length : Int) ≤ 4000) && decide (0 ≤ a ∧ a ≤ (l.length : Int)) && l.all impl_isTape.good
theorem impl_isTape_f (l : List Int) (a : Int) : impl_isTape.f l a = some (tapeB l a) := rfl
theorem tapeB_parts {l : List Int} {a : Int} (h : tapeB l a = true) : l.length ≤ 4000 ∧ 0 ≤ a ∧ a ≤ (l.length : Int) ∧ l.all impl_isTape.good = true := by
  unfold tapeB at h
  rw [Bool.and_eq_true, Bool.and_eq_true, decide_eq_true_iff, decide_eq_true_iff] at h
  exact ⟨by omega, h.1.2.1, h.1.2.2, h.2⟩
theorem spec_TapeOk_l0 (l : List Int) (a : Int) (hl : l.length ≤ 4000) (d : Nat) : ∀ k i : Nat, i + d = l.length → d < k → spec_TapeOk.l0 k (i : Int) l a = some ((l.drop i).all impl_isTape.good) := by
  induction d with
  | zero =>
    intro k i hi hk
    obtain ⟨k, rfl⟩ : ∃ q, k = q + 1 := ⟨k - 1, by omega⟩
    rw [spec_TapeOk.l0, if_neg (by omega), List.drop_of_length_le (by omega)]
    rfl
  | succ d ih =>
    intro k i hi hk
    obtain ⟨k, rfl⟩ : ∃ q, k = q + 1 := ⟨k - 1, by omega⟩
    have hlt : i < l.length := by omega
    rw [spec_TapeOk.l0, if_pos (by omega), if_pos (by omega), rd_lt hlt, List.drop_eq_getElem_cons hlt, List.all_cons, w64 (by omega) (by omega)]
    by_cases c1 : l[i] < 0
    · rw [if_pos c1, impl_isTape.good, decide_eq_false (by omega), Bool.false_and]
    · rw [if_neg c1]
      by_cases c2 : l[i] > 65535
      · rw [if_pos c2, impl_isTape.good, decide_eq_false (by omega), Bool.false_and]
      · rw [if_neg c2, impl_isTape.good, decide_eq_true (by omega), Bool.true_and]
        exact ih k (i + 1) (by omega) (by omega)
theorem spec_TapeOk_f (l : List Int) (a : Int) {k : Nat} (hk : 4010 < k) : spec_TapeOk.f k l a = some (tapeB l a) := by
  obtain ⟨k, rfl⟩ : ∃ q, k = q + 1 := ⟨k - 1, by omega⟩
  have no : spec_TapeOk.j0 (k + 1) true l a = some false := by rw [spec_TapeOk.j0, if_pos rfl]
  unfold spec_TapeOk.f tapeB
  by_cases h1 : (l.length : Int) > 4000
  · rw [if_pos h1, no, decide_eq_false (by omega)]; rfl
  · rw [if_neg h1, decide_eq_true (show (l.length : Int) ≤ 4000 by omega), Bool.true_and]
    by_cases h2 : a < 0
    · rw [if_pos h2, no, decide_eq_false (by omega)]; rfl
    · rw [if_neg h2]
      by_cases h3 : a > (l.length : Int)
      · rw [decide_eq_true h3, no, decide_eq_false (by omega)]; rfl
      · rw [decide_eq_false h3, decide_eq_true (by omega), Bool.true_and, spec_TapeOk.j0, if_neg (by decide)]
        have := spec_TapeOk_l0 l a (by omega) l.length k 0 (by omega) (by omega)
        rw [List.drop_zero] at this
        exact this
theorem szTape_f (l : List Int) (a : Int) (h : l.length ≤ 9223372036854775807) : laws_szTape.f l a 1048576 = some (if l.length ≤ 1048576 then 1048576 - (l.length : Int) else -1) := by
  unfold laws_szTape.f laws_szIntS.f
  rw [w64 (by omega) (by omega)]
  by_cases c : l.length ≤ 1048576
  · rw [if_neg (by omega), Option.bind_some, if_neg (by omega), if_pos c]
  · rw [if_pos (by omega), Option.bind_some, if_pos (by omega), if_neg c]
theorem toTape_f (l : List Int) (a : Int) (h : l.length ≤ 1048576) {k : Nat} (hk : l.length < k) : laws_toTape.f k l a = some (l, a) := by
  unfold laws_toTape.f
  rw [toIntS_f l h hk, Option.bind_some]
theorem eqTape_f (l : List Int) (a : Int) (h : l.length ≤ 1048576) {k : Nat} (hk : l.length < k) : laws_eqTape.f k l a l a = some true := by
  unfold laws_eqTape.f
  rw [eqIntS_f l l h hk, decide_eq_true rfl, Option.bind_some, if_pos rfl, if_pos rfl]

/-- what TapeLeft tells -/
def leftT (l : List Int) (a : Int) : Int := if tapeB l a = true then (l.length : Int) - a else -1
theorem spec_TapeLeft_f (l : List Int) (a : Int) {k : Nat} (hk : 4010 < k) : spec_TapeLeft.f k l a = some (leftT l a) := by
  unfold spec_TapeLeft.f leftT
  rw [spec_TapeOk_f l a hk, Option.bind_some]
  by_cases h : tapeB l a = true
  · obtain ⟨h1, h2, h3, _⟩ := tapeB_parts h
    rw [if_pos h, if_pos h, w64 (by omega) (by omega)]
  · rw [if_neg h, if_neg h]

/-- what TapeNext tells -/
def nextT (l : List Int) (a n : Int) : List Int × Bool := if tapeB l a = true ∧ 0 ≤ n ∧ n ≤ (l.length : Int) - a then ((l.take (a + n).toNat).drop a.toNat, true) else ([], false)
theorem nextT_le (l : List Int) (a n : Int) : (nextT l a n).1.length ≤ l.length := by
  unfold nextT
  split
  · simp only [List.length_drop, List.length_take]; omega
  · simp
theorem impl_TapeNext_f (l : List Int) (a n : Int) : impl_TapeNext.f l a n = some (nextT l a n) := by
  unfold impl_TapeNext.f nextT
  rw [impl_isTape_f, Option.bind_some]
  by_cases h : tapeB l a = true
  · obtain ⟨h1, h2, h3, _⟩ := tapeB_parts h
    rw [if_pos h, w64 (by omega) (by omega), impl_isTape.within, Option.bind_some]
    by_cases e : 0 ≤ n ∧ n ≤ (l.length : Int) - a
    · rw [decide_eq_true e, if_pos rfl, if_pos h2, w64 (by omega) (by omega), if_pos (by omega), if_pos (by omega), if_pos ⟨h, e⟩]
      unfold slices_Clone_int_int.f
      rw [if_pos (by simp only [List.length_drop, List.length_take]; omega), Option.bind_some]
    · rw [decide_eq_false e, if_neg (by decide), if_neg (fun c => e c.2)]
  · rw [if_neg h, if_neg (fun c => h c.1)]

/-- consecutive numbers -/
def markI (a : Int) (n : Nat) : List Int := tab (fun i => a + (i : Int)) n
theorem take_set_snocI (ys : List Int) (i : Nat) (v : Int) (h : i < ys.length) : (ys.set i v).take (i + 1) = ys.take i ++ [v] := by
  rw [List.take_succ_eq_append_getElem (by simp; omega), List.take_set_of_le (Nat.le_refl _)]
  simp
theorem markIntS_l0 (a : Int) (ha : 0 ≤ a) (hb : a ≤ 1000000000) (n : Nat) (hn : n ≤ 1048576) (d : Nat) : ∀ (k i : Nat) (zs : List Int), zs.length = n → i ≤ n → n - i = d → d < k → zs.take i = markI a i →
    laws_markIntS.l0 k zs (a + (i : Int)) (i : Int) = some (a + (n : Int), markI a n) := by
  induction d with
  | zero =>
    intro k i zs hz hi hd hk ht
    obtain ⟨k, rfl⟩ : ∃ q, k = q + 1 := ⟨k - 1, by omega⟩
    obtain rfl : i = n := by omega
    rw [laws_markIntS.l0, if_neg (by omega), ← ht, List.take_of_length_le (by omega)]
  | succ d ih =>
    intro k i zs hz hi hd hk ht
    obtain ⟨k, rfl⟩ : ∃ q, k = q + 1 := ⟨k - 1, by omega⟩
    rw [laws_markIntS.l0, if_pos (by omega), if_pos (by omega), w64 (by omega) (by omega), w64 (by omega) (by omega), Int.toNat_natCast, show a + (i : Int) + 1 = a + ((i + 1 : Nat) : Int) from by omega]
    refine ih k (i + 1) _ (by simp [hz]) (by omega) (by omega) (by omega) ?_
    rw [take_set_snocI _ _ _ (by omega), ht, markI, markI, tab_succ]
theorem markIntS_f (a : Int) (ha : 0 ≤ a) (hb : a ≤ 1000000000) (zs : List Int) (hn : zs.length ≤ 1048576) {k : Nat} (hk : zs.length < k) : laws_markIntS.f k zs a = some (a + (zs.length : Int), markI a zs.length) := by
  unfold laws_markIntS.f
  have := markIntS_l0 a ha hb zs.length hn zs.length k 0 zs rfl (by omega) (by omega) hk (by simp [markI, tab])
  rw [show a + ((0 : Nat) : Int) = a from by omega] at this
  exact this
theorem heldIntS_l0 (a : Int) (ha : 0 ≤ a) (hb : a ≤ 1000000000) (n : Nat) (hn : n ≤ 1048576) (d : Nat) : ∀ (k i : Nat), i ≤ n → n - i = d → d < k →
    laws_heldIntS.l0 k (markI a n) (a + (i : Int)) (i : Int) = some (a + (n : Int)) := by
  induction d with
  | zero =>
    intro k i hi hd hk
    obtain ⟨k, rfl⟩ : ∃ q, k = q + 1 := ⟨k - 1, by omega⟩
    obtain rfl : i = n := by omega
    rw [laws_heldIntS.l0, markI, tab_length, if_neg (by omega)]
  | succ d ih =>
    intro k i hi hd hk
    obtain ⟨k, rfl⟩ : ∃ q, k = q + 1 := ⟨k - 1, by omega⟩
    rw [laws_heldIntS.l0, show (markI a n).length = n from tab_length _ _, if_pos (by omega), if_pos (by omega), if_pos (show rd (markI a n) (i : Int) = a + (i : Int) from rd_tab _ (by omega)), w64 (by omega) (by omega), w64 (by omega) (by omega), show a + (i : Int) + 1 = a + ((i + 1 : Nat) : Int) from by omega]
    exact ih k (i + 1) (by omega) (by omega) (by omega)
theorem heldIntS_f (a : Int) (ha : 0 ≤ a) (hb : a ≤ 1000000000) (n : Nat) (hn : n ≤ 1048576) {k : Nat} (hk : n < k) : laws_heldIntS.f k (markI a n) a = some (a + (n : Int)) := by
  unfold laws_heldIntS.f
  have := heldIntS_l0 a ha hb n hn n k 0 (by omega) (by omega) hk
  rw [show a + ((0 : Nat) : Int) = a from by omega] at this
  exact this

/-- The law's plain statement. -/
def tapeNextPure : Prop := ∀ (l : List Int) (a n : Int), l.length ≤ 9223372036854775807 → ∃ k, laws_FnExactTapeNext.f k l a n = some true
theorem spec_TapeNext_f (l : List Int) (a n : Int) {k : Nat} (hk : 4010 < k) : spec_TapeNext.f k l a n = some (nextT l a n) := by
  unfold spec_TapeNext.f nextT
  by_cases h0 : n < 0
  · rw [if_pos h0, if_neg (by omega)]
  · rw [if_neg h0, spec_TapeLeft_f l a hk, Option.bind_some]
    by_cases h : tapeB l a = true
    · obtain ⟨h1, h2, h3, _⟩ := tapeB_parts h
      unfold leftT
      rw [if_pos h]
      by_cases e : n > (l.length : Int) - a
      · rw [if_pos e, if_neg (by omega)]
      · rw [if_neg e, Option.bind_some, w64 (by omega) (by omega), if_pos h2, if_pos (by omega), if_pos (by omega), if_pos (by simp only [List.length_nil, List.length_drop, List.length_take]; omega), if_pos ⟨h, by omega, by omega⟩, List.nil_append]
    · unfold leftT
      rw [if_neg h, if_pos (by omega), if_neg (fun c => h c.1)]
theorem FnExactTapeNext : tapeNextPure := by
  intro l a n hl
  obtain ⟨K, hK⟩ : ∃ K : Nat, K = l.length + 5000 := ⟨_, rfl⟩
  refine ⟨K + 1 + 1 + 1, ?_⟩
  unfold laws_FnExactTapeNext.f
  rw [szTape_f l a hl, Option.bind_some]
  by_cases hb : l.length ≤ 1048576
  · have tX : ∀ k, K ≤ k → laws_toTape.f k l a = some (l, a) := fun k hk => toTape_f l a hb (by omega)
    have hlen := nextT_le l a n
    have eR : ∀ k, K ≤ k → laws_eqIntS.f k (nextT l a n).1 (nextT l a n).1 = some true := fun k hk => by rw [eqIntS_f _ _ (by omega) (by omega), decide_eq_true rfl]
    have eX : ∀ k, K ≤ k → laws_eqTape.f k l a l a = some true := fun k hk => eqTape_f _ _ hb (by omega)
    have mX : ∀ k, K ≤ k → laws_markTape.f k l a 1 = some (1 + (l.length : Int), markI 1 l.length) := fun k hk => by
      unfold laws_markTape.f
      rw [markIntS_f 1 (by decide) (by decide) l hb (by omega), Option.bind_some]
    have mR : ∀ k, K ≤ k → laws_markIntS.f k (nextT l a n).1 1 = some (1 + ((nextT l a n).1.length : Int), markI 1 (nextT l a n).1.length) := fun k hk => markIntS_f 1 (by decide) (by decide) _ (by omega) (by omega)
    have hR : ∀ k, K ≤ k → laws_heldIntS.f k (markI 1 (nextT l a n).1.length) 1 = some (1 + ((nextT l a n).1.length : Int)) := fun k hk => heldIntS_f 1 (by decide) (by decide) _ (by omega) (by omega)
    rw [if_pos hb, if_neg (by omega), tX _ (by omega), Option.bind_some]
    dsimp only
    rw [spec_TapeNext_f l a n (by omega), Option.bind_some, Option.bind_some]
    dsimp only
    rw [impl_TapeNext_f, Option.bind_some, eR _ (by omega), Option.bind_some, if_pos rfl, show ((nextT l a n).2 != (nextT l a n).2) = false from by simp]
    rw [laws_FnExactTapeNext.j0, if_neg (by decide), tX _ (by omega), Option.bind_some]
    dsimp only
    rw [eX _ (by omega), Option.bind_some, if_pos rfl, mX _ (by omega), Option.bind_some]
    dsimp only
    rw [if_neg (by omega), eR _ (by omega), Option.bind_some, if_pos rfl, show ((nextT l a n).2 != (nextT l a n).2) = false from by simp]
    rw [laws_FnExactTapeNext.j1, if_neg (by decide), mR _ (by omega), Option.bind_some]
    dsimp only
    rw [hR _ (by omega), Option.bind_some, if_neg (by omega), if_pos rfl, tX _ (by omega), Option.bind_some]
    dsimp only
    rw [impl_TapeNext_f, Option.bind_some, eR _ (by omega), Option.bind_some, if_pos rfl, show ((nextT l a n).2 != (nextT l a n).2) = false from by simp]
    rw [laws_FnExactTapeNext.j2, if_neg (by decide), hR _ (by omega), Option.bind_some, if_neg (by omega), if_pos rfl]
  · rw [if_neg hb, if_pos (by omega)]

end Go.Proofs.Ytlconckfiilfoaa.Pure
