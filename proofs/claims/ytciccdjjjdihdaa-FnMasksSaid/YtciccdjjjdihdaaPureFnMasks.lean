/- The law FnMasks holds of the program: whatever its arguments (of the kinds and sizes that the statement names), it answers true. -/
import Derived.Test.YtciccdjjjdihdaaPFnMasksx2
import Derived.Test.YtciccdjjjdihdaaLib
import Derived.Test.YtciccdjjjdihdaaLibBytes
set_option linter.unusedVariables false
set_option linter.unusedSimpArgs false
namespace Go.Proofs.Ytciccdjjjdihdaa.Pure
open Go.RowKit Go.Proofs.Ytciccdjjjdihdaa.PFnMasks Go.Proofs.YtciccdjjjdihdaaW.PrintWords Go.Proofs.YtciccdjjjdihdaaW.PrintLast Go.Proofs.Ytciccdjjjdihdaa.L 

/-- a reader of draws: how far it is, and its seed -/
def Cur (p s B : Int) : Prop := 0 ≤ p ∧ p ≤ B ∧ 0 ≤ s ∧ s < 65521
theorem Cur.le {p s B C : Int} (h : Cur p s B) (hB : B ≤ C) : Cur p s C := ⟨h.1, by have := h.2.1; omega, h.2.2⟩
theorem pick_f (L : List Int) (hL : U8s L) (n : Int) {p s B : Int} (h : Cur p s B) (hB : B ≤ 1000000000000) (hn : n ≤ 1000000000000) :
    ∃ r p' s', spec_l01Cur_pick.f L p s n = some (r, p', s') ∧ 0 ≤ r ∧ (r < n ∨ n < 2 ∧ r = 0) ∧ Cur p' s' (B + 1) := by
  obtain ⟨h0, h1, h2, h3⟩ := h
  unfold spec_l01Cur_pick.f
  by_cases c1 : n < 2
  · rw [if_pos c1]
    exact ⟨0, p, s, rfl, by omega, .inr ⟨c1, rfl⟩, h0, by omega, h2, h3⟩
  · rw [if_neg c1]
    have hw : wrap64 (wrap64 (s * 1103) + 12345) = s * 1103 + 12345 := by rw [w64 (n := s * 1103) (by omega) (by omega), w64 (by omega) (by omega)]
    have hs0 : 0 ≤ Int.tmod (s * 1103 + 12345) 65521 := Int.tmod_nonneg _ (by omega)
    have hs1 : Int.tmod (s * 1103 + 12345) 65521 < 65521 := Int.tmod_lt_of_pos _ (by decide)
    rw [hw, w64 (n := p + 1) (by omega) (by omega)]
    by_cases c2 : p < (L.length : Int)
    · have hb := hL p.toNat (by omega)
      rw [Int.toNat_of_nonneg h0] at hb
      rw [if_pos c2, if_pos h0, if_neg (by omega), w64 (by omega) (by omega)]
      refine ⟨_, _, _, rfl, Int.tmod_nonneg _ (by omega), .inl (Int.tmod_lt_of_pos _ (by omega)), ?_⟩
      exact ⟨by omega, by omega, h2, h3⟩
    · rw [if_neg c2]
      by_cases c3 : (L.length : Int) > 0
      · have hm0 : 0 ≤ Int.tmod p (L.length : Int) := Int.tmod_nonneg _ h0
        have hm1 : Int.tmod p (L.length : Int) < (L.length : Int) := Int.tmod_lt_of_pos _ c3
        have hb := hL (Int.tmod p (L.length : Int)).toNat (by omega)
        rw [Int.toNat_of_nonneg hm0] at hb
        have hq0 : 0 ≤ Int.tdiv (Int.tmod (s * 1103 + 12345) 65521) 7 := Int.tdiv_nonneg hs0 (by decide)
        have hq1 : Int.tdiv (Int.tmod (s * 1103 + 12345) 65521) 7 < 65521 := by
          rw [Int.tdiv_eq_ediv_of_nonneg hs0]; omega
        rw [if_pos c3, if_neg (by omega), if_pos hm0, if_pos hm1, if_neg (by omega)]
        rw [w64 (n := Int.tdiv (Int.tmod (s * 1103 + 12345) 65521) 7) (by omega) (by omega), w64 (n := rd L (Int.tmod p (L.length : Int))) (by omega) (by omega), w64 (by omega) (by omega)]
        refine ⟨_, _, _, rfl, Int.tmod_nonneg _ (by omega), .inl (Int.tmod_lt_of_pos _ (by omega)), ?_⟩
        exact ⟨by omega, by omega, hs0, hs1⟩
      · rw [if_neg c3, if_neg (by omega)]
        refine ⟨_, _, _, rfl, Int.emod_nonneg _ (by omega), .inl (Int.emod_lt_of_pos _ (by omega)), ?_⟩
        exact ⟨by omega, by omega, hs0, hs1⟩

theorem bits_l0 (L : List Int) (hL : U8s L) (d : Nat) : ∀ (k : Nat) (i : Nat) (x p s B : Int), i + d = 8 → d < k → 0 ≤ x → x < 2 ^ 64 → Cur p s B → B + d ≤ 1000000000000 →
    ∃ r p' s', spec_l01Cur_bits.l0 k x (i : Int) L p s = some (r, p', s') ∧ 0 ≤ r ∧ r < 2 ^ 64 ∧ Cur p' s' (B + d) := by
  induction d with
  | zero =>
    intro k i x p s B hi hk h0 h1 hc hB
    obtain ⟨k, rfl⟩ : ∃ q, k = q + 1 := ⟨k - 1, by omega⟩
    exact ⟨x, p, s, by rw [spec_l01Cur_bits.l0, if_neg (by omega)], h0, h1, hc.le (by omega)⟩
  | succ d ih =>
    intro k i x p s B hi hk h0 h1 hc hB
    obtain ⟨k, rfl⟩ : ∃ q, k = q + 1 := ⟨k - 1, by omega⟩
    obtain ⟨v, p1, s1, e1, v0, v1, c1⟩ := pick_f L hL 256 hc (by omega) (by decide)
    have hx0 : 0 ≤ IntKind.u64.wrap (IntKind.u64.wrap (256 * x) + IntKind.u64.wrap v) := by rw [u64_wrap]; omega
    have hx1 : IntKind.u64.wrap (IntKind.u64.wrap (256 * x) + IntKind.u64.wrap v) < 2 ^ 64 := by rw [u64_wrap]; omega
    obtain ⟨r, p2, s2, e2, r0, r1, c2⟩ := ih k (i + 1) _ p1 s1 (B + 1) (by omega) (by omega) hx0 hx1 c1 (by omega)
    refine ⟨r, p2, s2, ?_, r0, r1, c2.le (by omega)⟩
    rw [spec_l01Cur_bits.l0, if_pos (by omega), e1, Option.bind_some, w64 (by omega) (by omega)]
    exact e2
theorem bits_f (L : List Int) (hL : U8s L) {p s B : Int} (hc : Cur p s B) (hB : B ≤ 1000000000) {k : Nat} (hk : 10 < k) :
    ∃ r : Nat, ∃ p' s', spec_l01Cur_bits.f k L p s = some ((r : Int), p', s') ∧ r < 2 ^ 64 ∧ Cur p' s' (B + 9) := by
  obtain ⟨v, p1, s1, e1, v0, v1, c1⟩ := pick_f L hL 6 hc (by omega) (by decide)
  unfold spec_l01Cur_bits.f
  rw [e1, Option.bind_some]
  dsimp only
  by_cases h1 : v = 0
  · rw [if_pos h1]
    exact ⟨18446744073709551615, p1, s1, rfl, by decide, c1.le (by omega)⟩
  · rw [if_neg h1]
    by_cases h2 : v = 1
    · obtain ⟨w, p2, s2, e2, w0, w1, c2⟩ := pick_f L hL 4 c1 (by omega) (by decide)
      rw [if_pos h2, e2, Option.bind_some]
      dsimp only
      obtain ⟨w, rfl⟩ := Int.eq_ofNat_of_zero_le w0
      rw [u64_id (by omega) (by omega)]
      exact ⟨w, p2, s2, rfl, by omega, c2.le (by omega)⟩
    · rw [if_neg h2]
      by_cases h3 : v = 2
      · obtain ⟨w, p2, s2, e2, w0, w1, c2⟩ := pick_f L hL 3 c1 (by omega) (by decide)
        rw [if_pos h3, e2, Option.bind_some]
        dsimp only
        obtain ⟨w, rfl⟩ := Int.eq_ofNat_of_zero_le w0
        rw [u64_id (n := (w : Int)) (by omega) (by omega), u64_id (by omega) (by omega)]
        exact ⟨9223372036854775808 + w, p2, s2, by simp, by omega, c2.le (by omega)⟩
      · rw [if_neg h3]
        obtain ⟨r, p2, s2, e2, r0, r1, c2⟩ := bits_l0 L hL 8 k 0 0 p1 s1 (B + 1) rfl (by omega) (by decide) (by decide) c1 (by omega)
        obtain ⟨r, rfl⟩ := Int.eq_ofNat_of_zero_le r0
        exact ⟨r, p2, s2, e2, by omega, c2.le (by omega)⟩

theorem impl_Select_f {m a b : Nat} (hm : m < 2 ^ 64) (ha : a < 2 ^ 64) : impl_Select.f (m : Int) (a : Int) (b : Int) = some ((selN m a b : Nat) : Int) := by
  unfold impl_Select.f selN
  rw [and_nat ha hm, andNot_nat, or_nat (Nat.lt_of_le_of_lt Nat.and_le_left ha) (andN_lt _ _)]

theorem selN_ones {a b : Nat} (ha : a < 2 ^ 64) : selN 18446744073709551615 a b = a :=
  eq_bits (selN_lt ha) ha (fun i hi => by
    rw [selN_bit hi, show (18446744073709551615 : Nat) = 2 ^ 64 - 1 from rfl, Nat.testBit_two_pow_sub_one]
    simp [hi])
theorem selN_none {a b : Nat} (ha : a < 2 ^ 64) (hb : b < 2 ^ 64) : selN 0 a b = b :=
  eq_bits (selN_lt ha) hb (fun i hi => by
    rw [selN_bit hi]
    simp)
theorem FnMasks : laws_FnMasks.Pure := by
  intro L _ hlen hL
  have hU := U8s.of hL
  refine ⟨11, ?_⟩
  unfold laws_FnMasks.f laws_big.f
  rw [Option.bind_some]
  by_cases hbig : (L.length : Int) > 1048576
  · rw [if_pos (decide_eq_true hbig)]
  · rw [if_neg (by simpa using hbig)]
    have hd : ∃ a b : Nat, spec_DrawMaskLess.f 11 L = some ((a : Int), (b : Int)) ∧ a < 2 ^ 64 ∧ b < 2 ^ 64 := by
      unfold spec_DrawMaskLess.f spec_l01Open.f
      rw [Option.bind_some]
      dsimp only
      have c0 : Cur 0 (59 + ((L.length : Int) % 1000)) 0 := ⟨by omega, by omega, by omega, by omega⟩
      obtain ⟨a, p1, s1, e1, a1, c1⟩ := bits_f L hU c0 (by omega) (show 10 < 11 by omega)
      rw [e1, Option.bind_some]
      dsimp only
      obtain ⟨b, p2, s2, e2, b1, c2⟩ := bits_f L hU c1 (by omega) (show 10 < 11 by omega)
      rw [e2, Option.bind_some]
      dsimp only
      rw [Option.bind_some]
      obtain ⟨v, p3, s3, e3, v0, v1, c3⟩ := pick_f L hU 4 c2 (by omega) (by decide)
      rw [e3, Option.bind_some]
      dsimp only
      rw [if_pos v0, if_pos (by simp; omega)]
      obtain ⟨v, rfl⟩ := Int.eq_ofNat_of_zero_le v0
      have hv : v = 0 ∨ v = 1 ∨ v = 2 ∨ v = 3 := by omega
      have hw : ∀ n : Int, ∃ c : Nat, IntKind.u64.wrap n = (c : Int) ∧ c < 2 ^ 64 := fun n => ⟨(IntKind.u64.wrap n).toNat, by rw [u64_wrap]; omega, by rw [u64_wrap]; omega⟩
      rcases hv with rfl | rfl | rfl | rfl
      · exact ⟨a, b, rfl, a1, b1⟩
      · exact ⟨a, a, rfl, a1, a1⟩
      · obtain ⟨c, ec, hc⟩ := hw ((a : Int) + 1)
        exact ⟨a, c, by rw [ec]; rfl, a1, hc⟩
      · obtain ⟨c, ec, hc⟩ := hw ((a : Int) - 1)
        exact ⟨a, c, by rw [ec]; rfl, a1, hc⟩
    obtain ⟨a, b, e, ha, hb⟩ := hd
    rw [e, Option.bind_some]
    dsimp only
    unfold impl_MaskLess.f impl_SwapIf.f impl_MaskEq.f
    have hones : (18446744073709551615 : Nat) < 2 ^ 64 := by decide
    have s1 : ∀ x y : Nat, x < 2 ^ 64 → impl_Select.f 18446744073709551615 (x : Int) (y : Int) = some (x : Int) := fun x y hx => by
      have := impl_Select_f (m := 18446744073709551615) (a := x) (b := y) hones hx
      rw [selN_ones hx] at this
      exact this
    have s0 : ∀ x y : Nat, x < 2 ^ 64 → y < 2 ^ 64 → impl_Select.f 0 (x : Int) (y : Int) = some (y : Int) := fun x y hx hy => by
      have := impl_Select_f (m := 0) (a := x) (b := y) (by decide) hx
      rw [selN_none hx hy] at this
      exact this
    have hm : impl_MaskLow.f 64 = some 18446744073709551615 := rfl
    by_cases hlt : (b : Int) < (a : Int)
    · have hne : ¬ (a : Int) = (b : Int) := by omega
      rw [if_pos hlt, Option.bind_some]
      rw [s1 b a hb, s1 a b ha, Option.bind_some, Option.bind_some, Option.bind_some]
      dsimp only
      rw [s1 a b ha, s1 b a hb, Option.bind_some, Option.bind_some, Option.bind_some, if_neg hne, Option.bind_some]
      dsimp only
      rw [if_pos (by unfold mn; rw [if_pos hlt]), if_pos (by unfold mx; rw [if_neg (by omega)]), if_pos rfl, if_pos rfl, hm, Option.bind_some, if_pos (by simp [hne]), s0 a b ha hb, Option.bind_some]
      simp
    · rw [if_neg hlt, Option.bind_some]
      rw [s0 b a hb ha, s0 a b ha hb, Option.bind_some, Option.bind_some, Option.bind_some]
      dsimp only
      rw [s0 b a hb ha, s0 a b ha hb, Option.bind_some, Option.bind_some, Option.bind_some]
      dsimp only
      by_cases he : (a : Int) = (b : Int)
      · rw [if_pos he, Option.bind_some, if_pos (by unfold mn; rw [if_neg hlt]), if_pos (by unfold mx; split <;> omega), if_pos rfl, if_pos rfl, hm, Option.bind_some, if_pos (by simp [he]), s1 a b ha, Option.bind_some]
        simp [he]
      · rw [if_neg he, Option.bind_some, if_pos (by unfold mn; rw [if_neg hlt]), if_pos (by unfold mx; rw [if_pos (by omega)]), if_pos rfl, if_pos rfl, hm, Option.bind_some, if_pos (by simp [he]), s0 a b ha hb, Option.bind_some]
        simp

end Go.Proofs.Ytciccdjjjdihdaa.Pure
