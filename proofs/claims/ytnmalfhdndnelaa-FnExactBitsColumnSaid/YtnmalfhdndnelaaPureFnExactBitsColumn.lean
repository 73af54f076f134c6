/- The law FnExactBitsColumn holds of the program: whatever its arguments (of the kinds and sizes that the statement names), it answers true. -/
import Derived.Test.YtnmalfhdndnelaaQFnExactBitsColumnx5
import Derived.Test.YtnmalfhdndnelaaLib
import Derived.Test.YtnmalfhdndnelaaLibCol
import Derived.Test.YtnmalfhdndnelaaLibNext
set_option linter.unusedVariables false
set_option linter.unusedSimpArgs false
namespace Go.Proofs.Ytnmalfhdndnelaa.Pure
open Go.RowKit Go.Proofs.Ytnmalfhdndnelaa.PFnExactBitsColumn Go.Proofs.YtnmalfhdndnelaaW.PrintWords Go.Proofs.YtnmalfhdndnelaaW.PrintLast Go.Proofs.Ytnmalfhdndnelaa.L 

theorem l03Bit_f {a : Nat} (ha : a < 2 ^ 64) {i : Nat} (hi : i < 64) : spec_l03Bit.f (a : Int) (i : Int) = some (a.testBit i) := by
  unfold spec_l03Bit.f
  rw [u64_id (Int.natCast_nonneg _) (by omega), if_pos (Int.natCast_nonneg _), bit_eq ha (by omega)]

theorem l06Column_l0 {pv mv : Nat} (hp : pv < 2 ^ 64) (hm : mv < 2 ^ 64) {sc : Int} (hs : 0 ≤ sc ∧ sc ≤ 64) {n : Nat} (hn : n ≤ 32) (e : Nat) : ∀ (k d : Nat), d + e = n → e < k →
    spec_l06Column.l0 k (colL pv mv sc n d) ((e : Int) - 1) (pv : Int) (mv : Int) sc (n : Int) = some (colL pv mv sc n n) := by
  induction e with
  | zero =>
    intro k d hd hk
    obtain ⟨k, rfl⟩ : ∃ q, k = q + 1 := ⟨k - 1, by omega⟩
    obtain rfl : d = n := by omega
    rw [spec_l06Column.l0, if_neg (by omega)]
  | succ e ih =>
    intro k d hd hk
    obtain ⟨k, rfl⟩ : ∃ q, k = q + 1 := ⟨k - 1, by omega⟩
    have h := ih k (d + 1) (by omega) (by omega)
    have hb := colD_near pv mv sc n d
    have hlen := colL_length pv mv sc n d
    have hh := rd_colL_head pv mv sc n d
    rw [colL, colD, show n - (d + 1) = e from by omega] at h
    rw [show (((e + 1 : Nat) : Int) - 1) = (e : Int) from by omega, spec_l06Column.l0, if_pos (by omega), if_pos (by omega)]
    simp only [l03Bit_f hp (show e < 64 by omega), l03Bit_f hm (show e < 64 by omega), Option.bind_some, hh]
    rw [w64 (n := colD pv mv sc n d - 1) (by omega) (by omega), w64 (n := colD pv mv sc n d + 1) (by omega) (by omega), w64 (n := colD pv mv sc n d - 1 + 1) (by omega) (by omega), w64 (n := (e : Int) - 1) (by omega) (by omega)]
    simp only [List.length_cons, List.length_nil, hlen, List.cons_append, List.nil_append]
    cases hpb : pv.testBit e <;> cases hmb : mv.testBit e <;> simp only [hpb, hmb, if_true, if_false, Bool.false_eq_true] at h ⊢ <;>
      (rw [if_pos (by omega), ← h]; first | rfl | (congr 2; simp; done) | (congr 2; done) | simp)
theorem l06Column_f {pv mv : Nat} (hp : pv < 2 ^ 64) (hm : mv < 2 ^ 64) {sc : Int} (hs : 0 ≤ sc ∧ sc ≤ 64) {n : Nat} (hn : n ≤ 32) {k : Nat} (hk : 40 < k) :
    spec_l06Column.f k (pv : Int) (mv : Int) sc (n : Int) = some (colL pv mv sc n n) := by
  unfold spec_l06Column.f
  rw [w64 (by omega) (by omega)]
  exact l06Column_l0 hp hm hs hn n k 0 (by omega) (by omega)
/-- a value of the column is within its bounds -/
def inB (pv mv : Nat) (sc : Int) (n j : Nat) : Bool := decide (0 ≤ colD pv mv sc n (n - j) ∧ colD pv mv sc n (n - j) ≤ 64)
theorem inB_all (pv mv : Nat) (sc : Int) (n : Nat) : fromB (inB pv mv sc n) 0 (n + 1) = colB pv mv sc n n := by
  rw [Bool.eq_iff_iff, fromB_iff]
  unfold colB inB
  rw [decide_eq_true_iff]
  constructor
  · intro h e he
    have := h (n - e) (by omega) (by omega)
    rw [show n - (n - e) = e from by omega] at this
    exact of_decide_eq_true this
  · intro h j hj _
    exact decide_eq_true (h (n - j) (by omega))
theorem spec_BitsOk_l1 (pv mv : Nat) (sc : Int) {n : Nat} (hn : n ≤ 32) (d : Nat) : ∀ (k i : Nat), i + d = n + 1 → d < k →
    spec_BitsOk.l1 k (colL pv mv sc n n) (i : Int) = some (fromB (inB pv mv sc n) i (n + 1)) := by
  induction d with
  | zero =>
    intro k i hi hk
    obtain ⟨k, rfl⟩ : ∃ q, k = q + 1 := ⟨k - 1, by omega⟩
    obtain rfl : i = n + 1 := by omega
    have hlen := colL_length pv mv sc n n
    rw [spec_BitsOk.l1, if_neg (by omega), fromB_end]
  | succ d ih =>
    intro k i hi hk
    obtain ⟨k, rfl⟩ : ∃ q, k = q + 1 := ⟨k - 1, by omega⟩
    have hlen := colL_length pv mv sc n n
    have h := ih k (i + 1) (by omega) (by omega)
    rw [spec_BitsOk.l1, if_pos (by omega), if_pos (by omega), rd_colL pv mv sc n n i (by omega), w64 (by omega) (by omega)]
    by_cases c1 : colD pv mv sc n (n - i) < 0
    · rw [if_pos c1, fromB_bad (by omega) (decide_eq_false (by omega))]
    · rw [if_neg c1]
      by_cases c2 : colD pv mv sc n (n - i) > 64
      · rw [if_pos c2, fromB_bad (by omega) (decide_eq_false (by omega))]
      · rw [if_neg c2, show (i : Int) + 1 = ((i + 1 : Nat) : Int) from rfl, h, fromB_good (i := i) (decide_eq_true (by omega))]
theorem spec_BitsOk_l0 {pv mv : Nat} (hp : pv < 2 ^ 64) (hm : mv < 2 ^ 64) {sc : Int} (hs : 0 ≤ sc ∧ sc ≤ 64) {n : Nat} (hn : n ≤ 32) (d : Nat) : ∀ (k i : Nat), i + d = 64 → d + 80 < k →
    spec_BitsOk.l0 k (i : Int) (pv : Int) (mv : Int) sc (n : Int) =
      some (fromB (stepOk pv mv n) i 64 && colB pv mv sc n n) := by
  induction d with
  | zero =>
    intro k i hi hk
    obtain ⟨k, rfl⟩ : ∃ q, k = q + 1 := ⟨k - 1, by omega⟩
    obtain rfl : i = 64 := by omega
    rw [spec_BitsOk.l0, if_neg (by omega), l06Column_f hp hm hs hn (by omega), Option.bind_some]
    have := spec_BitsOk_l1 pv mv sc hn (n + 1) k 0 (by omega) (by omega)
    rw [show ((0 : Nat) : Int) = 0 from rfl] at this
    rw [this, fromB_end, Bool.true_and, inB_all]
  | succ d ih =>
    intro k i hi hk
    obtain ⟨k, rfl⟩ : ∃ q, k = q + 1 := ⟨k - 1, by omega⟩
    have h := ih k (i + 1) (by omega) (by omega)
    rw [spec_BitsOk.l0, if_pos (by omega), w64 (by omega) (by omega), show (i : Int) + 1 = ((i + 1 : Nat) : Int) from rfl, h]
    simp only [l03Bit_f hp (show i < 64 by omega), l03Bit_f hm (show i < 64 by omega), Option.bind_some]
    have good : stepOk pv mv n i = true → fromB (stepOk pv mv n) i 64 = fromB (stepOk pv mv n) (i + 1) 64 := fromB_good
    have bad : stepOk pv mv n i = false → fromB (stepOk pv mv n) i 64 = false := fromB_bad (by omega)
    have sd : stepOk pv mv n i = (!(pv.testBit i && mv.testBit i) && (decide (i < n) || (!pv.testBit i && !mv.testBit i))) := rfl
    rw [sd] at good bad
    by_cases c : n ≤ i
    · have c' : (i : Int) ≥ (n : Int) := by omega
      simp only [c', if_true]
      rw [decide_eq_false (show ¬ i < n by omega)] at good bad
      cases hpb : pv.testBit i <;> cases hmb : mv.testBit i <;> rw [hpb, hmb] at good bad <;> simp only [if_true, if_false, Bool.false_eq_true]
      · rw [good rfl]
      · rw [bad rfl]; rfl
      · rw [bad rfl]; rfl
      · rw [bad rfl]; rfl
    · have c' : ¬ (i : Int) ≥ (n : Int) := by omega
      simp only [c', if_false]
      rw [decide_eq_true (show i < n by omega)] at good bad
      cases hpb : pv.testBit i <;> cases hmb : mv.testBit i <;> rw [hpb, hmb] at good bad <;> simp only [if_true, if_false, Bool.false_eq_true]
      · rw [good rfl]
      · rw [good rfl]
      · rw [good rfl]
      · rw [bad rfl]; rfl
theorem spec_BitsOk_f {pv mv : Nat} (hp : pv < 2 ^ 64) (hm : mv < 2 ^ 64) (sc ln : Int) {k : Nat} (hk : 200 < k) : spec_BitsOk.f k (pv : Int) (mv : Int) sc ln = some (bitsOkB pv mv sc ln) := by
  obtain ⟨k, rfl⟩ : ∃ q, k = q + 1 := ⟨k - 1, by omega⟩
  have no : spec_BitsOk.j0 (k + 1) true (pv : Int) (mv : Int) sc ln = some false := by rw [spec_BitsOk.j0, if_pos rfl]
  unfold spec_BitsOk.f bitsOkB
  by_cases h1 : ln < 0
  · rw [if_pos h1, no, decide_eq_false (by omega)]; rfl
  · rw [if_neg h1]
    by_cases h2 : ln > 32
    · rw [if_pos h2, no, decide_eq_false (by omega)]; rfl
    · rw [if_neg h2]
      by_cases h3 : sc < 0
      · rw [if_pos h3, no, decide_eq_false (by omega)]; rfl
      · rw [if_neg h3, spec_BitsOk.j0]
        by_cases h4 : sc > 64
        · rw [if_pos (decide_eq_true h4), decide_eq_false (by omega)]; rfl
        · obtain ⟨n, rfl⟩ := Int.eq_ofNat_of_zero_le (show 0 ≤ ln by omega)
          rw [if_neg (by simpa using h4), decide_eq_true (by omega), Int.toNat_natCast, Bool.true_and]
          have := spec_BitsOk_l0 hp hm (sc := sc) (by omega) (n := n) (by omega) 64 k 0 rfl (by omega)
          rw [show ((0 : Nat) : Int) = 0 from rfl] at this
          rw [this]
          rfl

theorem spec_BitsColumn_f {pv mv : Nat} (hp : pv < 2 ^ 64) (hm : mv < 2 ^ 64) (sc ln : Int) {k : Nat} (hk : 200 < k) :
    spec_BitsColumn.f k (pv : Int) (mv : Int) sc ln = some (if bitsOkB pv mv sc ln = true then colL pv mv sc ln.toNat ln.toNat else []) := by
  unfold spec_BitsColumn.f
  rw [spec_BitsOk_f hp hm sc ln hk, Option.bind_some]
  cases h : bitsOkB pv mv sc ln
  · simp only [Bool.false_eq_true, if_false]
  · obtain ⟨n, rfl, hn, h1, h2, _⟩ := okB_parts h
    rw [if_pos rfl, if_pos rfl, l06Column_f hp hm ⟨h1, h2⟩ hn (by omega), Option.bind_some, Int.toNat_natCast]

theorem within_f (a b c : Int) : impl_within.f a b c = some (decide (b ≤ a ∧ a ≤ c)) := by
  unfold impl_within.f
  by_cases h : a ≥ b
  · rw [if_pos h]; congr 1; rw [decide_eq_decide]; omega
  · rw [if_neg h]; congr 1; symm; rw [decide_eq_false_iff_not]; omega

/-- the mask of the lowest bits -/
theorem impl_MaskLow_n {n : Nat} (hn : n < 64) : impl_MaskLow.f (n : Int) = some ((2 ^ n - 1 : Nat) : Int) := by
  unfold impl_MaskLow.f
  by_cases h : n = 0
  · subst h; rfl
  · rw [if_neg (by omega), if_neg (by omega), if_pos (by omega), shl_one hn]
    have hp := pow_lt64 hn
    have hp0 : 0 < 2 ^ n := Nat.two_pow_pos _
    generalize 2 ^ n = u at *
    rw [u64_id (by omega) (by omega)]
    congr 1
    omega

theorem columnOf_l0 {pv mv : Nat} (hp : pv < 2 ^ 64) (hm : mv < 2 ^ 64) {sc : Int} (hs : 0 ≤ sc ∧ sc ≤ 64) {n : Nat} (hn : n ≤ 32) (e : Nat) : ∀ (k d : Nat) (ys : List Int), d + e = n → e < k → ys.length = n + 1 →
    (∀ i : Nat, i ≤ d → rd ys ((n - i : Nat) : Int) = colD pv mv sc n i) → colB pv mv sc n d = true →
    impl_columnOf.l0 k ys ((e : Int) - 1) (pv : Int) (mv : Int) sc (n : Int) = some (if colB pv mv sc n n = true then (colL pv mv sc n n, true) else ([], false)) := by
  induction e with
  | zero =>
    intro k d ys hd hk hl hy hc
    obtain ⟨k, rfl⟩ : ∃ q, k = q + 1 := ⟨k - 1, by omega⟩
    obtain rfl : d = n := by omega
    rw [impl_columnOf.l0, if_neg (by omega), if_pos hc]
    congr 2
    refine list_ext_rd (by rw [colL_length, hl]) (fun i hi => ?_)
    rw [rd_colL pv mv sc d d i (by omega)]
    have := hy (d - i) (by omega)
    rw [show d - (d - i) = i from by omega] at this
    exact this
  | succ e ih =>
    intro k d ys hd hk hl hy hc
    obtain ⟨k, rfl⟩ : ∃ q, k = q + 1 := ⟨k - 1, by omega⟩
    have hb := colD_near pv mv sc n d
    have hy1 := hy d (Nat.le_refl _)
    rw [show n - d = e + 1 from by omega] at hy1
    have h1 : (pv.testBit e).toNat ≤ 1 := by cases pv.testBit e <;> simp
    have h2 : (mv.testBit e).toNat ≤ 1 := by cases mv.testBit e <;> simp
    have hnext : colD pv mv sc n (d + 1) = colD pv mv sc n d - ((pv.testBit e).toNat : Int) + ((mv.testBit e).toNat : Int) := by rw [colD, show n - (d + 1) = e from by omega]
    rw [show (((e + 1 : Nat) : Int) - 1) = (e : Int) from by omega, impl_columnOf.l0, if_pos (by omega), w64 (n := (e : Int) + 1) (by omega) (by omega), if_pos (by omega), if_pos (by omega), if_pos (by omega), if_pos (by omega)]
    rw [show (e : Int) + 1 = ((e + 1 : Nat) : Int) from rfl, hy1, bit_val hp (by omega), bit_val hm (by omega), w64 (n := (((pv.testBit e).toNat : Nat) : Int)) (by omega) (by omega), w64 (n := (((mv.testBit e).toNat : Nat) : Int)) (by omega) (by omega), w64 (n := colD pv mv sc n d - (((pv.testBit e).toNat : Nat) : Int)) (by omega) (by omega), w64 (n := colD pv mv sc n d - (((pv.testBit e).toNat : Nat) : Int) + (((mv.testBit e).toNat : Nat) : Int)) (by omega) (by omega), ← hnext, within_f, Option.bind_some]
    by_cases c : 0 ≤ colD pv mv sc n (d + 1) ∧ colD pv mv sc n (d + 1) ≤ 64
    · rw [if_pos (decide_eq_true c), w64 (by omega) (by omega), Int.toNat_natCast]
      refine ih k (d + 1) _ (by omega) (by omega) (by rw [List.length_set]; exact hl) (fun i hi => ?_) ?_
      · rw [rd_set _ _ _ _ (by omega)]
        by_cases e1 : i = d + 1
        · rw [if_pos (by omega), e1]
        · rw [if_neg (by omega)]; exact hy i (by omega)
      · unfold colB at hc ⊢
        rw [decide_eq_true_eq] at hc ⊢
        intro i hi
        by_cases e1 : i = d + 1
        · rw [e1]; exact c
        · exact hc i (by omega)
    · rw [if_neg (by simpa using c), if_neg]
      unfold colB
      rw [decide_eq_true_eq]
      intro hall
      exact c (hall (d + 1) (by omega))
theorem columnOf_f {pv mv : Nat} (hp : pv < 2 ^ 64) (hm : mv < 2 ^ 64) (sc ln : Int) {k : Nat} (hk : 50 < k) :
    impl_columnOf.f k (pv : Int) (mv : Int) sc ln = some (if bitsOkB pv mv sc ln = true then (colL pv mv sc ln.toNat ln.toNat, true) else ([], false)) := by
  obtain ⟨k, rfl⟩ : ∃ q, k = q + 1 := ⟨k - 1, by omega⟩
  have no : impl_columnOf.j0 (k + 1) true (pv : Int) (mv : Int) sc ln = some ([], false) := by rw [impl_columnOf.j0, if_pos rfl]
  unfold impl_columnOf.f bitsOkB
  rw [within_f, within_f, Option.bind_some, Option.bind_some]
  by_cases h1 : 0 ≤ ln ∧ ln ≤ 32
  · rw [if_pos (decide_eq_true h1)]
    by_cases h2 : 0 ≤ sc ∧ sc ≤ 64
    · obtain ⟨n, rfl⟩ := Int.eq_ofNat_of_zero_le h1.1
      have hn : n ≤ 32 := by omega
      have hor : pv ||| mv < 2 ^ 64 := Nat.or_lt_two_pow hp hm
      rw [if_pos (decide_eq_true h2), decide_eq_true (⟨h1.1, h1.2, h2.1, h2.2⟩ : _ ∧ _ ∧ _ ∧ _), Bool.true_and, Int.toNat_natCast, impl_MaskLow_n (by omega), Option.bind_some, or_nat hp hm, andNot_nat, and_nat hp hm, bitsB_masks hp hm hn]
      by_cases h3 : andN (pv ||| mv) (2 ^ n - 1) = 0
      · rw [if_pos (by rw [h3]; rfl), decide_eq_true h3, Bool.true_and, impl_columnOf.j0]
        by_cases h4 : pv &&& mv = 0
        · rw [if_neg (by rw [h4]; decide), decide_eq_true h4, Bool.true_and, w64 (by omega) (by omega), if_pos (by omega), if_pos (by omega), Option.bind_some, if_pos (by omega), if_pos (by simp; omega), w64 (by omega) (by omega), Int.toNat_natCast, show ((n : Int) + 1).toNat = n + 1 from by omega]
          refine columnOf_l0 hp hm h2 hn n k 0 _ (by omega) (by omega) (by simp) (fun i hi => ?_) ?_
          · obtain rfl : i = 0 := by omega
            rw [Nat.sub_zero, rd_set _ _ _ _ (by simp), if_pos rfl, colD]
          · unfold colB
            rw [decide_eq_true_eq]
            intro i hi
            obtain rfl : i = 0 := by omega
            exact h2
        · rw [if_pos (by simpa using h4), decide_eq_false h4]; rfl
      · rw [if_neg (by omega), no, decide_eq_false h3]; rfl
    · rw [if_neg (by simpa using h2), no, decide_eq_false (by omega)]; rfl
  · rw [if_neg (by simpa using h1), no, decide_eq_false (by omega)]; rfl

theorem eqIntS_l0 (xs ys : List Int) (hl : ys.length = xs.length) (hx : xs.length ≤ 1048576) (d : Nat) : ∀ (k i : Nat), i ≤ xs.length → xs.length - i = d → d < k →
    laws_eqIntS.l0 k xs ys (i : Int) = some (decide (xs.drop i = ys.drop i)) := by
  induction d with
  | zero =>
    intro k i hi hd hk
    obtain ⟨k, rfl⟩ : ∃ q, k = q + 1 := ⟨k - 1, by omega⟩
    rw [laws_eqIntS.l0, if_neg (by omega), List.drop_of_length_le (by omega), List.drop_of_length_le (by omega)]
    rfl
  | succ d ih =>
    intro k i hi hd hk
    obtain ⟨k, rfl⟩ : ∃ q, k = q + 1 := ⟨k - 1, by omega⟩
    have h := ih k (i + 1) (by omega) (by omega) (by omega)
    rw [laws_eqIntS.l0, if_pos (by omega), if_pos (by omega), if_pos (by omega), w64 (by omega) (by omega)]
    rw [rd_lt (show i < xs.length by omega), rd_lt (show i < ys.length by omega)]
    rw [List.drop_eq_getElem_cons (show i < xs.length by omega), List.drop_eq_getElem_cons (show i < ys.length by omega)]
    by_cases e : xs[i]'(by omega) = ys[i]'(by omega)
    · rw [if_pos e]
      rw [show ((i : Int) + 1) = ((i + 1 : Nat) : Int) from rfl, h]
      congr 1
      rw [decide_eq_decide, e]
      exact ⟨fun h2 => by rw [h2], fun h2 => (List.cons.inj h2).2⟩
    · rw [if_neg e]
      congr 1
      symm
      rw [decide_eq_false_iff_not]
      intro h2
      exact e (List.cons.inj h2).1
theorem eqIntS_f (xs ys : List Int) (hx : xs.length ≤ 1048576) {k : Nat} (hk : xs.length < k) : laws_eqIntS.f k xs ys = some (decide (xs = ys)) := by
  unfold laws_eqIntS.f
  by_cases h : xs.length = ys.length
  · rw [if_pos (by omega)]
    have := eqIntS_l0 xs ys h.symm hx xs.length k 0 (by omega) (by omega) hk
    simpa using this
  · rw [if_neg (by omega)]
    congr 1
    symm
    rw [decide_eq_false_iff_not]
    intro e
    exact h (by rw [e])

/-- consecutive numbers -/
def markI (a : Int) (n : Nat) : List Int := tab (fun i => a + (i : Int)) n
theorem take_set_snocI (ys : List Int) (i : Nat) (v : Int) (h : i < ys.length) : (ys.set i v).take (i + 1) = ys.take i ++ [v] := by
  rw [List.take_succ_eq_append_getElem (by simp; omega), List.take_set_of_le (Nat.le_refl _)]
  simp
theorem markIntS_l0 (a : Int) (ha : 0 ≤ a) (hb : a ≤ 1000000000) (n : Nat) (hn : n ≤ 1048576) (d : Nat) : ∀ (k i : Nat) (zs : List Int), zs.length = n → i ≤ n → n - i = d → d < k → zs.take i = markI a i →
    laws_markIntS.l0 k zs (a + (i : Int)) (i : Int) = some (a + (n : Int), markI a n) := by
  induction d with
  | zero =>
    intro k i zs hz hi hd hk ht
    obtain ⟨k, rfl⟩ : ∃ q, k = q + 1 := ⟨k - 1, by omega⟩
    obtain rfl : i = n := by omega
    rw [laws_markIntS.l0, if_neg (by omega), ← ht, List.take_of_length_le (by omega)]
  | succ d ih =>
    intro k i zs hz hi hd hk ht
    obtain ⟨k, rfl⟩ : ∃ q, k = q + 1 := ⟨k - 1, by omega⟩
    rw [laws_markIntS.l0, if_pos (by omega), if_pos (by omega), w64 (by omega) (by omega), w64 (by omega) (by omega), Int.toNat_natCast, show a + (i : Int) + 1 = a + ((i + 1 : Nat) : Int) from by omega]
    refine ih k (i + 1) _ (by simp [hz]) (by omega) (by omega) (by omega) ?_
    rw [take_set_snocI _ _ _ (by omega), ht, markI, markI, tab_succ]
theorem markIntS_f (a : Int) (ha : 0 ≤ a) (hb : a ≤ 1000000000) (zs : List Int) (hn : zs.length ≤ 1048576) {k : Nat} (hk : zs.length < k) : laws_markIntS.f k zs a = some (a + (zs.length : Int), markI a zs.length) := by
  unfold laws_markIntS.f
  have := markIntS_l0 a ha hb zs.length hn zs.length k 0 zs rfl (by omega) (by omega) hk (by simp [markI, tab])
  rw [show a + ((0 : Nat) : Int) = a from by omega] at this
  exact this
theorem heldIntS_l0 (a : Int) (ha : 0 ≤ a) (hb : a ≤ 1000000000) (n : Nat) (hn : n ≤ 1048576) (d : Nat) : ∀ (k i : Nat), i ≤ n → n - i = d → d < k →
    laws_heldIntS.l0 k (markI a n) (a + (i : Int)) (i : Int) = some (a + (n : Int)) := by
  induction d with
  | zero =>
    intro k i hi hd hk
    obtain ⟨k, rfl⟩ : ∃ q, k = q + 1 := ⟨k - 1, by omega⟩
    obtain rfl : i = n := by omega
    rw [laws_heldIntS.l0, markI, tab_length, if_neg (by omega)]
  | succ d ih =>
    intro k i hi hd hk
    obtain ⟨k, rfl⟩ : ∃ q, k = q + 1 := ⟨k - 1, by omega⟩
    rw [laws_heldIntS.l0, show (markI a n).length = n from tab_length _ _, if_pos (by omega), if_pos (by omega), if_pos (show rd (markI a n) (i : Int) = a + (i : Int) from rd_tab _ (by omega)), w64 (by omega) (by omega), w64 (by omega) (by omega), show a + (i : Int) + 1 = a + ((i + 1 : Nat) : Int) from by omega]
    exact ih k (i + 1) (by omega) (by omega) (by omega)
theorem heldIntS_f (a : Int) (ha : 0 ≤ a) (hb : a ≤ 1000000000) (n : Nat) (hn : n ≤ 1048576) {k : Nat} (hk : n < k) : laws_heldIntS.f k (markI a n) a = some (a + (n : Int)) := by
  unfold laws_heldIntS.f
  have := heldIntS_l0 a ha hb n hn n k 0 (by omega) (by omega) hk
  rw [show a + ((0 : Nat) : Int) = a from by omega] at this
  exact this

/-- The law's plain statement. -/
def columnPure : Prop := ∀ (a b c d : Int), (Lit.int .u64 a).wf = true → (Lit.int .u64 b).wf = true → (Lit.int .i64 c).wf = true → (Lit.int .i64 d).wf = true → ∃ k, laws_FnExactBitsColumn.f k a b c d = some true
theorem FnExactBitsColumn : columnPure := by
  intro a b c d ha hb _ _
  obtain ⟨a, rfl, ha'⟩ := wf_u64 ha
  obtain ⟨b, rfl, hb'⟩ := wf_u64 hb
  obtain ⟨K, hK⟩ : ∃ K : Nat, 500 < K := ⟨501, by decide⟩
  refine ⟨K, ?_⟩
  obtain ⟨R, hR, h1, h2⟩ : ∃ R : List Int, R.length ≤ 33 ∧ spec_BitsColumn.f K (a : Int) (b : Int) c d = some R ∧ impl_BitsColumn.f K (a : Int) (b : Int) c d = some R := by
    refine ⟨if bitsOkB a b c d = true then colL a b c d.toNat d.toNat else [], ?_, spec_BitsColumn_f ha' hb' c d (by omega), ?_⟩
    · cases h : bitsOkB a b c d
      · exact Nat.zero_le _
      · obtain ⟨n, rfl, hn, _⟩ := okB_parts h
        rw [if_pos rfl, colL_length]
        rw [Int.toNat_natCast]
        omega
    · unfold impl_BitsColumn.f
      rw [columnOf_f ha' hb' c d (by omega), Option.bind_some]
      cases bitsOkB a b c d <;> rfl
  have e1 := eqIntS_f R R (by omega) (k := K) (by omega)
  rw [decide_eq_true rfl] at e1
  have m1 := markIntS_f 1 (by decide) (by decide) R (by omega) (k := K) (by omega)
  have hh := heldIntS_f 1 (by decide) (by decide) R.length (by omega) (k := K) (by omega)
  unfold laws_FnExactBitsColumn.f laws_toBits.f
  rw [Option.bind_some]
  dsimp only
  rw [h1, Option.bind_some, Option.bind_some]
  dsimp only
  rw [h2, Option.bind_some, e1, Option.bind_some, if_pos rfl, m1, Option.bind_some]
  dsimp only
  rw [hh, Option.bind_some, if_neg (by omega), if_pos rfl, Option.bind_some]
  dsimp only
  rw [h2, Option.bind_some, e1, Option.bind_some, if_pos rfl, Option.bind_some, if_neg (by omega), if_pos rfl]

end Go.Proofs.Ytnmalfhdndnelaa.Pure
