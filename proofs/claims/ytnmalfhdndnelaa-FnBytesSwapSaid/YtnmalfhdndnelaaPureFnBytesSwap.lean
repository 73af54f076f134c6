/- The law FnBytesSwap holds of the program: whatever its arguments (of the kinds and sizes that the statement names), it answers true. -/
import Derived.Test.YtnmalfhdndnelaaQFnBytesSwapx3
import Derived.Test.YtnmalfhdndnelaaLib
import Derived.Test.YtnmalfhdndnelaaLibBytes
import Derived.Test.YtnmalfhdndnelaaLibTab
import Derived.Test.YtnmalfhdndnelaaLibLane
set_option linter.unusedVariables false
set_option linter.unusedSimpArgs false
namespace Go.Proofs.Ytnmalfhdndnelaa.Pure
open Go.RowKit Go.Proofs.Ytnmalfhdndnelaa.PFnBytesSwap Go.Proofs.YtnmalfhdndnelaaW.PrintWords Go.Proofs.YtnmalfhdndnelaaW.PrintLast Go.Proofs.Ytnmalfhdndnelaa.L 

/-- a reader of draws: how far it is, and its seed -/
def Cur (p s B : Int) : Prop := 0 ≤ p ∧ p ≤ B ∧ 0 ≤ s ∧ s < 65521
theorem Cur.le {p s B C : Int} (h : Cur p s B) (hB : B ≤ C) : Cur p s C := ⟨h.1, by have := h.2.1; omega, h.2.2⟩
theorem pick_f (L : List Int) (hL : U8s L) (n : Int) {p s B : Int} (h : Cur p s B) (hB : B ≤ 1000000000000) (hn : n ≤ 1000000000000) :
    ∃ r p' s', spec_l01Cur_pick.f L p s n = some (r, p', s') ∧ 0 ≤ r ∧ (r < n ∨ n < 2 ∧ r = 0) ∧ Cur p' s' (B + 1) := by
  obtain ⟨h0, h1, h2, h3⟩ := h
  unfold spec_l01Cur_pick.f
  by_cases c1 : n < 2
  · rw [if_pos c1]
    exact ⟨0, p, s, rfl, by omega, .inr ⟨c1, rfl⟩, h0, by omega, h2, h3⟩
  · rw [if_neg c1]
    have hw : wrap64 (wrap64 (s * 1103) + 12345) = s * 1103 + 12345 := by rw [w64 (n := s * 1103) (by omega) (by omega), w64 (by omega) (by omega)]
    have hs0 : 0 ≤ Int.tmod (s * 1103 + 12345) 65521 := Int.tmod_nonneg _ (by omega)
    have hs1 : Int.tmod (s * 1103 + 12345) 65521 < 65521 := Int.tmod_lt_of_pos _ (by decide)
    rw [hw, w64 (n := p + 1) (by omega) (by omega)]
    by_cases c2 : p < (L.length : Int)
    · have hb := hL p.toNat (by omega)
      rw [Int.toNat_of_nonneg h0] at hb
      rw [if_pos c2, if_pos h0, if_neg (by omega), w64 (by omega) (by omega)]
      refine ⟨_, _, _, rfl, Int.tmod_nonneg _ (by omega), .inl (Int.tmod_lt_of_pos _ (by omega)), ?_⟩
      exact ⟨by omega, by omega, h2, h3⟩
    · rw [if_neg c2]
      by_cases c3 : (L.length : Int) > 0
      · have hm0 : 0 ≤ Int.tmod p (L.length : Int) := Int.tmod_nonneg _ h0
        have hm1 : Int.tmod p (L.length : Int) < (L.length : Int) := Int.tmod_lt_of_pos _ c3
        have hb := hL (Int.tmod p (L.length : Int)).toNat (by omega)
        rw [Int.toNat_of_nonneg hm0] at hb
        have hq0 : 0 ≤ Int.tdiv (Int.tmod (s * 1103 + 12345) 65521) 7 := Int.tdiv_nonneg hs0 (by decide)
        have hq1 : Int.tdiv (Int.tmod (s * 1103 + 12345) 65521) 7 < 65521 := by
          rw [Int.tdiv_eq_ediv_of_nonneg hs0]; omega
        rw [if_pos c3, if_neg (by omega), if_pos hm0, if_pos hm1, if_neg (by omega)]
        rw [w64 (n := Int.tdiv (Int.tmod (s * 1103 + 12345) 65521) 7) (by omega) (by omega), w64 (n := rd L (Int.tmod p (L.length : Int))) (by omega) (by omega), w64 (by omega) (by omega)]
        refine ⟨_, _, _, rfl, Int.tmod_nonneg _ (by omega), .inl (Int.tmod_lt_of_pos _ (by omega)), ?_⟩
        exact ⟨by omega, by omega, hs0, hs1⟩
      · rw [if_neg c3, if_neg (by omega)]
        refine ⟨_, _, _, rfl, Int.emod_nonneg _ (by omega), .inl (Int.emod_lt_of_pos _ (by omega)), ?_⟩
        exact ⟨by omega, by omega, hs0, hs1⟩

theorem bits_l0 (L : List Int) (hL : U8s L) (d : Nat) : ∀ (k : Nat) (i : Nat) (x p s B : Int), i + d = 8 → d < k → 0 ≤ x → x < 2 ^ 64 → Cur p s B → B + d ≤ 1000000000000 →
    ∃ r p' s', spec_l01Cur_bits.l0 k x (i : Int) L p s = some (r, p', s') ∧ 0 ≤ r ∧ r < 2 ^ 64 ∧ Cur p' s' (B + d) := by
  induction d with
  | zero =>
    intro k i x p s B hi hk h0 h1 hc hB
    obtain ⟨k, rfl⟩ : ∃ q, k = q + 1 := ⟨k - 1, by omega⟩
    exact ⟨x, p, s, by rw [spec_l01Cur_bits.l0, if_neg (by omega)], h0, h1, hc.le (by omega)⟩
  | succ d ih =>
    intro k i x p s B hi hk h0 h1 hc hB
    obtain ⟨k, rfl⟩ : ∃ q, k = q + 1 := ⟨k - 1, by omega⟩
    obtain ⟨v, p1, s1, e1, v0, v1, c1⟩ := pick_f L hL 256 hc (by omega) (by decide)
    have hx0 : 0 ≤ IntKind.u64.wrap (IntKind.u64.wrap (256 * x) + IntKind.u64.wrap v) := by rw [u64_wrap]; omega
    have hx1 : IntKind.u64.wrap (IntKind.u64.wrap (256 * x) + IntKind.u64.wrap v) < 2 ^ 64 := by rw [u64_wrap]; omega
    obtain ⟨r, p2, s2, e2, r0, r1, c2⟩ := ih k (i + 1) _ p1 s1 (B + 1) (by omega) (by omega) hx0 hx1 c1 (by omega)
    refine ⟨r, p2, s2, ?_, r0, r1, c2.le (by omega)⟩
    rw [spec_l01Cur_bits.l0, if_pos (by omega), e1, Option.bind_some, w64 (by omega) (by omega)]
    exact e2
theorem bits_f (L : List Int) (hL : U8s L) {p s B : Int} (hc : Cur p s B) (hB : B ≤ 1000000000) {k : Nat} (hk : 10 < k) :
    ∃ r : Nat, ∃ p' s', spec_l01Cur_bits.f k L p s = some ((r : Int), p', s') ∧ r < 2 ^ 64 ∧ Cur p' s' (B + 9) := by
  obtain ⟨v, p1, s1, e1, v0, v1, c1⟩ := pick_f L hL 6 hc (by omega) (by decide)
  unfold spec_l01Cur_bits.f
  rw [e1, Option.bind_some]
  dsimp only
  by_cases h1 : v = 0
  · rw [if_pos h1]
    exact ⟨18446744073709551615, p1, s1, rfl, by decide, c1.le (by omega)⟩
  · rw [if_neg h1]
    by_cases h2 : v = 1
    · obtain ⟨w, p2, s2, e2, w0, w1, c2⟩ := pick_f L hL 4 c1 (by omega) (by decide)
      rw [if_pos h2, e2, Option.bind_some]
      dsimp only
      obtain ⟨w, rfl⟩ := Int.eq_ofNat_of_zero_le w0
      rw [u64_id (by omega) (by omega)]
      exact ⟨w, p2, s2, rfl, by omega, c2.le (by omega)⟩
    · rw [if_neg h2]
      by_cases h3 : v = 2
      · obtain ⟨w, p2, s2, e2, w0, w1, c2⟩ := pick_f L hL 3 c1 (by omega) (by decide)
        rw [if_pos h3, e2, Option.bind_some]
        dsimp only
        obtain ⟨w, rfl⟩ := Int.eq_ofNat_of_zero_le w0
        rw [u64_id (n := (w : Int)) (by omega) (by omega), u64_id (by omega) (by omega)]
        exact ⟨9223372036854775808 + w, p2, s2, by simp, by omega, c2.le (by omega)⟩
      · rw [if_neg h3]
        obtain ⟨r, p2, s2, e2, r0, r1, c2⟩ := bits_l0 L hL 8 k 0 0 p1 s1 (B + 1) rfl (by omega) (by decide) (by decide) c1 (by omega)
        obtain ⟨r, rfl⟩ := Int.eq_ofNat_of_zero_le r0
        exact ⟨r, p2, s2, e2, by omega, c2.le (by omega)⟩

theorem once_f (L : List Int) (hL : U8s L) (n : Int) {p s B : Int} (h : Cur p s B) (hB : B ≤ 1000000000000) (hn : n ≤ 1000000000000) :
    ∃ b p' s', spec_l01Cur_once.f L p s n = some (b, p', s') ∧ Cur p' s' (B + 1) := by
  obtain ⟨r, p', s', e, _, _, c⟩ := pick_f L hL n h hB hn
  refine ⟨r == wrap64 (n - 1), p', s', ?_, c⟩
  unfold spec_l01Cur_once.f
  rw [e, Option.bind_some]

theorem impl_BytesSelect_l0 (m : Nat) (xs ys : List Int) (hx : U8s xs) (hy : U8s ys) (hl : xs.length = ys.length) (hn : xs.length ≤ 4096) (d : Nat) : ∀ (k i : Nat) (zs : List Int), zs.length = xs.length → i ≤ xs.length → xs.length - i = d → d < k → zs.take i = selL m xs ys i →
    impl_BytesSelect.l0 k (m : Int) xs ys zs (xs.length : Int) (i : Int) = some (selL m xs ys xs.length) := by
  induction d with
  | zero =>
    intro k i zs hz hi hd hk ht
    obtain ⟨k, rfl⟩ : ∃ q, k = q + 1 := ⟨k - 1, by omega⟩
    obtain rfl : i = xs.length := by omega
    rw [impl_BytesSelect.l0, if_neg (by omega), ← ht, List.take_of_length_le (by omega)]
  | succ d ih =>
    intro k i zs hz hi hd hk ht
    obtain ⟨k, rfl⟩ : ∃ q, k = q + 1 := ⟨k - 1, by omega⟩
    have h1 := hx i (by omega)
    have h2 := hy i (by omega)
    obtain ⟨x, ex⟩ := Int.eq_ofNat_of_zero_le h1.1
    obtain ⟨y, ey⟩ := Int.eq_ofNat_of_zero_le h2.1
    rw [impl_BytesSelect.l0, if_pos (by omega), if_pos (by omega), if_pos (by omega), if_pos (by omega), if_pos (by omega), w64 (by omega) (by omega), Int.toNat_natCast, ex, ey, sel8 m x y (by omega) (by omega)]
    refine ih k (i + 1) _ (by simp [hz]) (by omega) (by omega) (by omega) ?_
    rw [take_set_snoc _ _ _ (by omega), ht, selL_succ, ex, ey, Int.toNat_natCast, Int.toNat_natCast]
theorem impl_BytesSelect_f (m : Nat) (xs ys : List Int) (hx : U8s xs) (hy : U8s ys) {k : Nat} (hk : 4100 < k) : impl_BytesSelect.f k (m : Int) xs ys = some (bsel m xs ys) := by
  obtain ⟨k, rfl⟩ : ∃ q, k = q + 1 := ⟨k - 1, by omega⟩
  unfold impl_BytesSelect.f bsel
  by_cases h : xs.length = ys.length
  · rw [if_pos (by omega), impl_BytesSelect.j0]
    by_cases h2 : xs.length ≤ 4096
    · rw [if_neg (by simp; omega), if_pos (by omega), if_pos (by omega), Option.bind_some, if_pos ⟨h, h2⟩, Int.toNat_natCast, List.length_replicate]
      exact impl_BytesSelect_l0 m xs ys hx hy h h2 xs.length k 0 _ (by simp) (by omega) (by omega) (by omega) (by simp [selL])
    · rw [if_pos (by simp; omega), if_neg (by omega)]
  · rw [if_neg (by omega), impl_BytesSelect.j0, if_pos rfl, if_neg (by omega)]

/-- the mask of the lowest bits -/
theorem impl_MaskLow_n {n : Nat} (hn : n < 64) : impl_MaskLow.f (n : Int) = some ((2 ^ n - 1 : Nat) : Int) := by
  unfold impl_MaskLow.f
  by_cases h : n = 0
  · subst h; rfl
  · rw [if_neg (by omega), if_neg (by omega), if_pos (by omega), shl_one hn]
    have hp := pow_lt64 hn
    have hp0 : 0 < 2 ^ n := Nat.two_pow_pos _
    generalize 2 ^ n = u at *
    rw [u64_id (by omega) (by omega)]
    congr 1
    omega

theorem U8s.snoc {xs : List Int} (h : U8s xs) (v : Int) : U8s (xs ++ [v % 256]) := by
  intro i hi
  by_cases c : i < xs.length
  · have := h i c
    unfold rd at this ⊢
    rw [Int.toNat_natCast] at this ⊢
    simpa [List.getD_eq_getElem?_getD, List.getElem?_append_left c] using this
  · simp at hi
    obtain rfl : i = xs.length := by omega
    unfold rd
    rw [Int.toNat_natCast]
    simp
    omega
theorem U8s.nil : U8s [] := fun i hi => absurd hi (Nat.not_lt_zero _)
theorem bytes_l0 (L : List Int) (hL : U8s L) (d : Nat) : ∀ (k : Nat) (xs : List Int) (i p s B : Int), i ≤ (d : Int) → d < k → U8s xs → xs.length + d ≤ 100 → Cur p s B → B + d ≤ 1000000000 →
    ∃ r p' s', spec_l01Cur_bytes.l0 k xs i L p s = some (r, p', s') ∧ U8s r ∧ r.length ≤ 100 := by
  induction d with
  | zero =>
    intro k xs i p s B hi hk hx hl hc hB
    obtain ⟨k, rfl⟩ : ∃ q, k = q + 1 := ⟨k - 1, by omega⟩
    exact ⟨xs, p, s, by rw [spec_l01Cur_bytes.l0, if_neg (by omega)], hx, by omega⟩
  | succ d ih =>
    intro k xs i p s B hi hk hx hl hc hB
    obtain ⟨k, rfl⟩ : ∃ q, k = q + 1 := ⟨k - 1, by omega⟩
    by_cases h0 : i > 0
    · obtain ⟨v, p1, s1, e1, v0, v1, c1⟩ := pick_f L hL 256 hc (by omega) (by decide)
      obtain ⟨r, p2, s2, e2, r0, r1⟩ := ih k (xs ++ [v % 256]) (i - 1) p1 s1 (B + 1) (by omega) (by omega) (U8s.snoc hx v) (by simp; omega) c1 (by omega)
      refine ⟨r, p2, s2, ?_, r0, r1⟩
      rw [spec_l01Cur_bytes.l0, if_pos h0, e1, Option.bind_some, if_pos (by omega), w64 (by omega) (by omega)]
      exact e2
    · exact ⟨xs, p, s, by rw [spec_l01Cur_bytes.l0, if_neg h0], hx, by omega⟩
theorem bytes_f (L : List Int) (hL : U8s L) (hlen : L.length ≤ 1048576) {p s B : Int} (hc : Cur p s B) (hB : B ≤ 900000000) {k : Nat} (hk : 40 < k) :
    ∃ r p' s', spec_l01Cur_bytes.f k L p s 9 = some (r, p', s') ∧ U8s r ∧ r.length ≤ 100 := by
  have hmn : mn 9 (wrap64 (1 + wrap64 ((L.length : Int) / 8))) ≤ 9 ∧ 0 ≤ mn 9 (wrap64 (1 + wrap64 ((L.length : Int) / 8))) := by
    rw [w64 (n := (L.length : Int) / 8) (by omega) (by omega), w64 (by omega) (by omega)]
    unfold mn
    split <;> omega
  obtain ⟨v, p1, s1, e1, v0, v1, c1⟩ := pick_f L hL (mn 9 (wrap64 (1 + wrap64 ((L.length : Int) / 8))) + 1) hc (by omega) (by omega)
  unfold spec_l01Cur_bytes.f spec_l01Cur_size.f
  rw [w64 (n := mn 9 (wrap64 (1 + wrap64 ((L.length : Int) / 8))) + 1) (by omega) (by omega), e1, Option.bind_some, Option.bind_some]
  exact bytes_l0 L hL 20 k [] v p1 s1 (B + 1) (by omega) (by omega) U8s.nil (by simp) c1 (by omega)
theorem swapDraw_end (L : List Int) (hL : U8s L) (hlen : L.length ≤ 1048576) (m : Nat) (k : Nat) (hk : 40 < k) (xs ys : List Int) (i p s B : Int) (hi : ¬ i > 0) (hx : U8s xs) (hy : U8s ys) (hl : xs.length ≤ 100) (hm : ys.length ≤ 100) (hc : Cur p s B) (hB : B ≤ 800000000) :
    ∃ us vs, spec_DrawBytesSwap.l0 (k + 1) (m : Int) xs ys i L p s = some ((m : Int), us, vs) ∧ U8s us ∧ U8s vs ∧ us.length ≤ 100 ∧ vs.length ≤ 100 := by
  obtain ⟨b, p1, s1, e1, c1⟩ := once_f L hL 9 hc (by omega) (by decide)
  rw [spec_DrawBytesSwap.l0, if_neg hi, e1, Option.bind_some]
  cases b
  · dsimp only
    rw [if_neg (by decide)]
    exact ⟨xs, ys, rfl, hx, hy, hl, hm⟩
  · obtain ⟨r, p2, s2, e2, r0, r1⟩ := bytes_f L hL hlen c1 (by omega) hk
    rw [if_pos rfl]
    dsimp only
    rw [e2, Option.bind_some]
    exact ⟨xs, r, rfl, hx, r0, hl, r1⟩
theorem swapDraw_l0 (L : List Int) (hL : U8s L) (hlen : L.length ≤ 1048576) (m : Nat) (d : Nat) : ∀ (k : Nat) (xs ys : List Int) (i p s B : Int), i ≤ (d : Int) → d + 41 < k → U8s xs → U8s ys → xs.length + d ≤ 100 → ys.length + d ≤ 100 → Cur p s B → B + 2 * d ≤ 800000000 →
    ∃ us vs, spec_DrawBytesSwap.l0 k (m : Int) xs ys i L p s = some ((m : Int), us, vs) ∧ U8s us ∧ U8s vs ∧ us.length ≤ 100 ∧ vs.length ≤ 100 := by
  induction d with
  | zero =>
    intro k xs ys i p s B hi hk hx hy hl hm hc hB
    obtain ⟨k, rfl⟩ : ∃ q, k = q + 1 := ⟨k - 1, by omega⟩
    exact swapDraw_end L hL hlen m k (by omega) xs ys i p s B (by omega) hx hy (by omega) (by omega) hc (by omega)
  | succ d ih =>
    intro k xs ys i p s B hi hk hx hy hl hm hc hB
    obtain ⟨k, rfl⟩ : ∃ q, k = q + 1 := ⟨k - 1, by omega⟩
    by_cases h0 : i > 0
    · obtain ⟨v, p1, s1, e1, v0, v1, c1⟩ := pick_f L hL 256 hc (by omega) (by decide)
      obtain ⟨w, p2, s2, e2, w0, w1, c2⟩ := pick_f L hL 256 c1 (by omega) (by decide)
      have h := ih k (xs ++ [v % 256]) (ys ++ [w % 256]) (i - 1) p2 s2 (B + 1 + 1) (by omega) (by omega) (U8s.snoc hx v) (U8s.snoc hy w) (by simp; omega) (by simp; omega) c2 (by omega)
      rw [spec_DrawBytesSwap.l0, if_pos h0, e1, Option.bind_some, if_pos (by omega)]
      dsimp only
      rw [e2, Option.bind_some, if_pos (by omega), w64 (by omega) (by omega)]
      exact h
    · exact swapDraw_end L hL hlen m k (by omega) xs ys i p s B h0 hx hy (by omega) (by omega) hc (by omega)
theorem swapDraw_f (L : List Int) (hL : U8s L) (hlen : L.length ≤ 1048576) {k : Nat} (hk : 100 < k) :
    ∃ m : Nat, ∃ us vs, spec_DrawBytesSwap.f k L = some ((m : Int), us, vs) ∧ U8s us ∧ U8s vs ∧ us.length ≤ 100 ∧ vs.length ≤ 100 := by
  unfold spec_DrawBytesSwap.f spec_l01Open.f
  rw [Option.bind_some]
  dsimp only
  have hc : Cur 0 (59 + ((L.length : Int) % 1000)) 0 := ⟨by omega, by omega, by omega, by omega⟩
  obtain ⟨m, p1, s1, e1, hm, c1⟩ := bits_f L hL hc (by omega) (show 10 < k by omega)
  obtain ⟨v, p2, s2, e2, v0, v1, c2⟩ := pick_f L hL 20 c1 (by omega) (by decide)
  refine ⟨m, ?_⟩
  rw [e1, Option.bind_some]
  dsimp only
  rw [e2, Option.bind_some]
  exact swapDraw_l0 L hL hlen m 30 k [] [] v p2 s2 _ (by omega) (by omega) U8s.nil U8s.nil (by simp) (by simp) c2 (by omega)
theorem rd_selL (m : Nat) (xs ys : List Int) {n i : Nat} (h : i < n) : rd (selL m xs ys n) (i : Int) = ((selN m (rd xs (i : Int)).toNat (rd ys (i : Int)).toNat : Nat) : Int) % 256 := by
  rw [rd_lt (by rw [selL_length]; exact h)]
  simp [selL]
theorem U8s.sel (m : Nat) (xs ys : List Int) (n : Nat) : U8s (selL m xs ys n) := by
  intro i hi
  rw [selL_length] at hi
  rw [rd_selL m xs ys hi]
  omega
theorem sel_back (m x y : Nat) (hx : x < 256) : selN m (selN m x y % 256) (selN m y x % 256) % 256 = x := by
  have hx8 : x < 2 ^ 8 := hx
  rw [show (256 : Nat) = 2 ^ 8 from rfl]
  apply Nat.eq_of_testBit_eq
  intro i
  rw [Nat.testBit_mod_two_pow]
  by_cases hi : i < 8
  · rw [selN_bit (by omega), Nat.testBit_mod_two_pow, Nat.testBit_mod_two_pow, selN_bit (by omega), selN_bit (by omega)]
    simp only [hi, decide_true, Bool.true_and]
    cases m.testBit i <;> cases x.testBit i <;> cases y.testBit i <;> rfl
  · rw [Nat.testBit_lt_two_pow (Nat.lt_of_lt_of_le hx8 (Nat.pow_le_pow_right (by decide) (by omega)))]
    simp [hi]
theorem sel_full (x y : Nat) (hx : x < 256) : selN (2 ^ 64 - 1) x y % 256 = x := by
  have hx8 : x < 2 ^ 8 := hx
  rw [show (256 : Nat) = 2 ^ 8 from rfl]
  apply Nat.eq_of_testBit_eq
  intro i
  rw [Nat.testBit_mod_two_pow]
  by_cases hi : i < 8
  · rw [selN_bit (by omega), Nat.testBit_two_pow_sub_one, decide_eq_true hi, decide_eq_true (show i < 64 by omega)]
    cases x.testBit i <;> cases y.testBit i <;> rfl
  · rw [Nat.testBit_lt_two_pow (Nat.lt_of_lt_of_le hx8 (Nat.pow_le_pow_right (by decide) (by omega)))]
    simp [hi]
theorem bsel_eq (m : Nat) {xs ys : List Int} (hl : xs.length = ys.length) (hn : xs.length ≤ 4096) : bsel m xs ys = selL m xs ys xs.length := by
  unfold bsel
  rw [if_pos ⟨hl, hn⟩]
theorem bsel_back (m : Nat) {xs ys : List Int} (hx : U8s xs) (hy : U8s ys) (hl : xs.length = ys.length) (hn : xs.length ≤ 4096) : bsel m (bsel m xs ys) (bsel m ys xs) = xs := by
  rw [bsel_eq m hl hn, bsel_eq m hl.symm (by omega), bsel_eq m (by rw [selL_length, selL_length]; exact hl) (by rw [selL_length]; exact hn), selL_length]
  refine list_ext_rd (by rw [selL_length]) (fun i hi => ?_)
  rw [selL_length] at hi
  have h1 := hx i hi
  have h2 := hy i (by omega)
  rw [rd_selL m _ _ hi, rd_selL m _ _ hi, rd_selL m _ _ (show i < ys.length by omega)]
  obtain ⟨u, hu⟩ := Int.eq_ofNat_of_zero_le h1.1
  obtain ⟨v, hv⟩ := Int.eq_ofNat_of_zero_le h2.1
  rw [hu, hv, Int.toNat_natCast, Int.toNat_natCast]
  have e := sel_back m u v (by omega)
  rw [show ((((selN m u v : Nat) : Int) % 256).toNat) = selN m u v % 256 from by omega, show ((((selN m v u : Nat) : Int) % 256).toNat) = selN m v u % 256 from by omega]
  omega
theorem bsel_full {xs ys : List Int} (hx : U8s xs) (hy : U8s ys) (hl : xs.length = ys.length) (hn : xs.length ≤ 4096) : bsel (2 ^ 64 - 1) xs ys = xs := by
  rw [bsel_eq _ hl hn]
  refine list_ext_rd (by rw [selL_length]) (fun i hi => ?_)
  rw [selL_length] at hi
  have h1 := hx i hi
  have h2 := hy i (by omega)
  rw [rd_selL _ _ _ hi]
  obtain ⟨u, hu⟩ := Int.eq_ofNat_of_zero_le h1.1
  obtain ⟨v, hv⟩ := Int.eq_ofNat_of_zero_le h2.1
  rw [hu, hv, Int.toNat_natCast, Int.toNat_natCast]
  have e := sel_full u v (by omega)
  omega
theorem impl_BytesSwap_f (m : Nat) (xs ys : List Int) (hx : U8s xs) (hy : U8s ys) {k : Nat} (hk : 4100 < k) : impl_BytesSwap.f k (m : Int) xs ys = some (bsel m ys xs, bsel m xs ys) := by
  unfold impl_BytesSwap.f
  rw [impl_BytesSelect_f m ys xs hy hx hk, impl_BytesSelect_f m xs ys hx hy hk, Option.bind_some, Option.bind_some]
theorem bytesOf_f (xs : List Int) (h : xs.length ≤ 4096) : laws_bytesOf.f xs = some xs := by
  unfold laws_bytesOf.f
  rw [Option.bind_some, if_pos (by simp only [List.length_nil]; omega), List.nil_append]
theorem maskAll : impl_MaskLow.f 64 = some 18446744073709551615 := by decide
theorem FnBytesSwap : laws_FnBytesSwap.Pure := by
  intro L _ hlen hL
  have hU := U8s.of hL
  obtain ⟨K, hK⟩ : ∃ K : Nat, 5000 ≤ K := ⟨5000, Nat.le_refl _⟩
  refine ⟨K + 1, ?_⟩
  unfold laws_FnBytesSwap.f laws_big.f
  rw [Option.bind_some]
  by_cases hbig : (L.length : Int) > 1048576
  · rw [if_pos (decide_eq_true hbig)]
  · rw [if_neg (by simpa using hbig)]
    obtain ⟨m, xs, ys, e1, hx, hy, lx, ly⟩ := swapDraw_f L hU (by omega) (show 100 < K + 1 by omega)
    rw [e1, Option.bind_some]
    dsimp only
    by_cases h : xs.length = ys.length
    · have hb1 := bsel_le m ys xs
      have hb2 := bsel_le m xs ys
      have u1 : U8s (bsel m ys xs) := by rw [bsel_eq m h.symm (by omega)]; exact U8s.sel _ _ _ _
      have u2 : U8s (bsel m xs ys) := by rw [bsel_eq m h (by omega)]; exact U8s.sel _ _ _ _
      rw [if_pos (by omega), decide_eq_false (by omega), laws_FnBytesSwap.j0, if_neg (by decide), bytesOf_f xs (by omega), bytesOf_f ys (by omega), Option.bind_some, Option.bind_some, impl_BytesSwap_f m xs ys hx hy (by omega), Option.bind_some]
      dsimp only
      rw [bytesOf_f _ hb1, bytesOf_f _ hb2, Option.bind_some, Option.bind_some, impl_BytesSwap_f m _ _ u1 u2 (by omega), Option.bind_some, maskAll, Option.bind_some, Option.bind_some, Option.bind_some]
      rw [show (18446744073709551615 : Int) = ((2 ^ 64 - 1 : Nat) : Int) from rfl, impl_BytesSwap_f _ xs ys hx hy (by omega), Option.bind_some, bsel_back m hx hy h (by omega), bsel_back m hy hx h.symm (by omega), bsel_full hx hy h (by omega), bsel_full hy hx h.symm (by omega)]
      dsimp only
      rw [if_pos rfl, if_pos rfl, if_pos rfl, if_pos rfl]
      unfold impl_BytesEq.f bytes_Equal.f
      simp
    · have z1 : bsel m ys xs = [] := by unfold bsel; rw [if_neg (fun c => h c.1.symm)]
      have z2 : bsel m xs ys = [] := by unfold bsel; rw [if_neg (fun c => h c.1)]
      rw [if_neg (by omega), laws_FnBytesSwap.j0, if_pos rfl, impl_BytesSwap_f m xs ys hx hy (by omega), Option.bind_some, z1, z2]
      rfl

end Go.Proofs.Ytnmalfhdndnelaa.Pure
