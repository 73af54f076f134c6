/- The law FnTapeWalk holds of the program: whatever its arguments (of the kinds and sizes that the statement names), it answers true. -/
import Derived.Test.YtlconckfiilfoaaQFnTapeWalkx4
import Derived.Test.YtlconckfiilfoaaLib
import Derived.Test.YtlconckfiilfoaaLibBytes
set_option linter.unusedVariables false
set_option linter.unusedSimpArgs false
namespace Go.Proofs.Ytlconckfiilfoaa.Pure
open Go.RowKit Go.Proofs.Ytlconckfiilfoaa.PFnTapeWalk Go.Proofs.YtlconckfiilfoaaW.PrintWords Go.Proofs.YtlconckfiilfoaaW.PrintLast Go.Proofs.Ytlconckfiilfoaa.L 

/-- a valid tape -/
def tapeB (l : List Int) (a : Int) : Bool := decide ((l.length : Int) ≤ 4000) && decide (0 ≤ a ∧ a ≤ (l.length : Int)) && l.all impl_isTape.good
theorem impl_isTape_f (l : List Int) (a : Int) : impl_isTape.f l a = some (tapeB l a) := rfl
theorem tapeB_parts {l : List Int} {a : Int} (h : tapeB l a = true) : l.length ≤ 4000 ∧ 0 ≤ a ∧ a ≤ (l.length : Int) ∧ l.all impl_isTape.good = true := by
  unfold tapeB at h
  rw [Bool.and_eq_true, Bool.and_eq_true, decide_eq_true_iff, decide_eq_true_iff] at h
  exact ⟨by omega, h.1.2.1, h.1.2.2, h.2⟩
theorem spec_TapeOk_l0 (l : List Int) (a : Int) (hl : l.length ≤ 4000) (d : Nat) : ∀ k i : Nat, i + d = l.length → d < k → spec_TapeOk.l0 k (i : Int) l a = some ((l.drop i).all impl_isTape.good) := by
  induction d with
  | zero =>
    intro k i hi hk
    obtain ⟨k, rfl⟩ : ∃ q, k = q + 1 := ⟨k - 1, by omega⟩
    rw [spec_TapeOk.l0, if_neg (by omega), List.drop_of_length_le (by omega)]
    rfl
  | succ d ih =>
    intro k i hi hk
    obtain ⟨k, rfl⟩ : ∃ q, k = q + 1 := ⟨k - 1, by omega⟩
    have hlt : i < l.length := by omega
    rw [spec_TapeOk.l0, if_pos (by omega), if_pos (by omega), rd_lt hlt, List.drop_eq_getElem_cons hlt, List.all_cons, w64 (by omega) (by omega)]
    by_cases c1 : l[i] < 0
    · rw [if_pos c1, impl_isTape.good, decide_eq_false (by omega), Bool.false_and]
    · rw [if_neg c1]
      by_cases c2 : l[i] > 65535
      · rw [if_pos c2, impl_isTape.good, decide_eq_false (by omega), Bool.false_and]
      · rw [if_neg c2, impl_isTape.good, decide_eq_true (by omega), Bool.true_and]
        exact ih k (i + 1) (by omega) (by omega)
theorem spec_TapeOk_f (l : List Int) (a : Int) {k : Nat} (hk : 4010 < k) : spec_TapeOk.f k l a = some (tapeB l a) := by
  obtain ⟨k, rfl⟩ : ∃ q, k = q + 1 := ⟨k - 1, by omega⟩
  have no : spec_TapeOk.j0 (k + 1) true l a = some false := by rw [spec_TapeOk.j0, if_pos rfl]
  unfold spec_TapeOk.f tapeB
  by_cases h1 : (l.length : Int) > 4000
  · rw [if_pos h1, no, decide_eq_false (by omega)]; rfl
  · rw [if_neg h1, decide_eq_true (show (l.length : Int) ≤ 4000 by omega), Bool.true_and]
    by_cases h2 : a < 0
    · rw [if_pos h2, no, decide_eq_false (by omega)]; rfl
    · rw [if_neg h2]
      by_cases h3 : a > (l.length : Int)
      · rw [decide_eq_true h3, no, decide_eq_false (by omega)]; rfl
      · rw [decide_eq_false h3, decide_eq_true (by omega), Bool.true_and, spec_TapeOk.j0, if_neg (by decide)]
        have := spec_TapeOk_l0 l a (by omega) l.length k 0 (by omega) (by omega)
        rw [List.drop_zero] at this
        exact this

/-- what TapeLeft tells -/
def leftT (l : List Int) (a : Int) : Int := if tapeB l a = true then (l.length : Int) - a else -1
theorem spec_TapeLeft_f (l : List Int) (a : Int) {k : Nat} (hk : 4010 < k) : spec_TapeLeft.f k l a = some (leftT l a) := by
  unfold spec_TapeLeft.f leftT
  rw [spec_TapeOk_f l a hk, Option.bind_some]
  by_cases h : tapeB l a = true
  · obtain ⟨h1, h2, h3, _⟩ := tapeB_parts h
    rw [if_pos h, if_pos h, w64 (by omega) (by omega)]
  · rw [if_neg h, if_neg h]

theorem impl_TapeLeft_f (l : List Int) (a : Int) : impl_TapeLeft.f l a = some (leftT l a) := by
  unfold impl_TapeLeft.f leftT
  rw [impl_isTape_f, Option.bind_some]
  by_cases h : tapeB l a = true
  · obtain ⟨h1, h2, h3, _⟩ := tapeB_parts h
    rw [if_pos h, if_pos h, w64 (by omega) (by omega)]
  · rw [if_neg h, if_neg h]

/-- what TapeTake tells -/
def takeT (l : List Int) (a : Int) : List Int × Int × Int × Bool := if tapeB l a = true ∧ a ≠ (l.length : Int) then (l, a + 1, rd l a, true) else ([], 0, 0, false)
theorem impl_TapeTake_f (l : List Int) (a : Int) : impl_TapeTake.f l a = some (takeT l a) := by
  unfold impl_TapeTake.f takeT
  rw [impl_isTape_f, Option.bind_some]
  by_cases h : tapeB l a = true
  · obtain ⟨h1, h2, h3, _⟩ := tapeB_parts h
    rw [if_pos h]
    by_cases e : a = (l.length : Int)
    · rw [if_pos e, if_neg (fun c => c.2 e)]
    · rw [if_neg e, if_pos ⟨h, e⟩]
      unfold slices_Clone_int_int.f
      rw [if_pos (by omega), Option.bind_some, if_pos h2, if_pos (by omega), w64 (by omega) (by omega)]
  · rw [if_neg h, if_neg (fun c => h c.1)]

/-- what TapeNext tells -/
def nextT (l : List Int) (a n : Int) : List Int × Bool := if tapeB l a = true ∧ 0 ≤ n ∧ n ≤ (l.length : Int) - a then ((l.take (a + n).toNat).drop a.toNat, true) else ([], false)
theorem nextT_le (l : List Int) (a n : Int) : (nextT l a n).1.length ≤ l.length := by
  unfold nextT
  split
  · simp only [List.length_drop, List.length_take]; omega
  · simp
theorem impl_TapeNext_f (l : List Int) (a n : Int) : impl_TapeNext.f l a n = some (nextT l a n) := by
  unfold impl_TapeNext.f nextT
  rw [impl_isTape_f, Option.bind_some]
  by_cases h : tapeB l a = true
  · obtain ⟨h1, h2, h3, _⟩ := tapeB_parts h
    rw [if_pos h, w64 (by omega) (by omega), impl_isTape.within, Option.bind_some]
    by_cases e : 0 ≤ n ∧ n ≤ (l.length : Int) - a
    · rw [decide_eq_true e, if_pos rfl, if_pos h2, w64 (by omega) (by omega), if_pos (by omega), if_pos (by omega), if_pos ⟨h, e⟩]
      unfold slices_Clone_int_int.f
      rw [if_pos (by simp only [List.length_drop, List.length_take]; omega), Option.bind_some]
    · rw [decide_eq_false e, if_neg (by decide), if_neg (fun c => e c.2)]
  · rw [if_neg h, if_neg (fun c => h c.1)]

/-- a reader of draws: how far it is, and its seed -/
def Cur (p s B : Int) : Prop := 0 ≤ p ∧ p ≤ B ∧ 0 ≤ s ∧ s < 65521
theorem Cur.le {p s B C : Int} (h : Cur p s B) (hB : B ≤ C) : Cur p s C := ⟨h.1, by have := h.2.1; omega, h.2.2⟩
theorem pick_f (L : List Int) (hL : U8s L) (n : Int) {p s B : Int} (h : Cur p s B) (hB : B ≤ 1000000000000) (hn : n ≤ 1000000000000) :
    ∃ r p' s', spec_l01Cur_pick.f L p s n = some (r, p', s') ∧ 0 ≤ r ∧ (r < n ∨ n < 2 ∧ r = 0) ∧ Cur p' s' (B + 1) := by
  obtain ⟨h0, h1, h2, h3⟩ := h
  unfold spec_l01Cur_pick.f
  by_cases c1 : n < 2
  · rw [if_pos c1]
    exact ⟨0, p, s, rfl, by omega, .inr ⟨c1, rfl⟩, h0, by omega, h2, h3⟩
  · rw [if_neg c1]
    have hw : wrap64 (wrap64 (s * 1103) + 12345) = s * 1103 + 12345 := by rw [w64 (n := s * 1103) (by omega) (by omega), w64 (by omega) (by omega)]
    have hs0 : 0 ≤ Int.tmod (s * 1103 + 12345) 65521 := Int.tmod_nonneg _ (by omega)
    have hs1 : Int.tmod (s * 1103 + 12345) 65521 < 65521 := Int.tmod_lt_of_pos _ (by decide)
    rw [hw, w64 (n := p + 1) (by omega) (by omega)]
    by_cases c2 : p < (L.length : Int)
    · have hb := hL p.toNat (by omega)
      rw [Int.toNat_of_nonneg h0] at hb
      rw [if_pos c2, if_pos h0, if_neg (by omega), w64 (by omega) (by omega)]
      refine ⟨_, _, _, rfl, Int.tmod_nonneg _ (by omega), .inl (Int.tmod_lt_of_pos _ (by omega)), ?_⟩
      exact ⟨by omega, by omega, h2, h3⟩
    · rw [if_neg c2]
      by_cases c3 : (L.length : Int) > 0
      · have hm0 : 0 ≤ Int.tmod p (L.length : Int) := Int.tmod_nonneg _ h0
        have hm1 : Int.tmod p (L.length : Int) < (L.length : Int) := Int.tmod_lt_of_pos _ c3
        have hb := hL (Int.tmod p (L.length : Int)).toNat (by omega)
        rw [Int.toNat_of_nonneg hm0] at hb
        have hq0 : 0 ≤ Int.tdiv (Int.tmod (s * 1103 + 12345) 65521) 7 := Int.tdiv_nonneg hs0 (by decide)
        have hq1 : Int.tdiv (Int.tmod (s * 1103 + 12345) 65521) 7 < 65521 := by
          rw [Int.tdiv_eq_ediv_of_nonneg hs0]; omega
        rw [if_pos c3, if_neg (by omega), if_pos hm0, if_pos hm1, if_neg (by omega)]
        rw [w64 (n := Int.tdiv (Int.tmod (s * 1103 + 12345) 65521) 7) (by omega) (by omega), w64 (n := rd L (Int.tmod p (L.length : Int))) (by omega) (by omega), w64 (by omega) (by omega)]
        refine ⟨_, _, _, rfl, Int.tmod_nonneg _ (by omega), .inl (Int.tmod_lt_of_pos _ (by omega)), ?_⟩
        exact ⟨by omega, by omega, hs0, hs1⟩
      · rw [if_neg c3, if_neg (by omega)]
        refine ⟨_, _, _, rfl, Int.emod_nonneg _ (by omega), .inl (Int.emod_lt_of_pos _ (by omega)), ?_⟩
        exact ⟨by omega, by omega, hs0, hs1⟩

theorem once_f (L : List Int) (hL : U8s L) (n : Int) {p s B : Int} (h : Cur p s B) (hB : B ≤ 1000000000000) (hn : n ≤ 1000000000000) :
    ∃ b p' s', spec_l01Cur_once.f L p s n = some (b, p', s') ∧ Cur p' s' (B + 1) := by
  obtain ⟨r, p', s', e, _, _, c⟩ := pick_f L hL n h hB hn
  refine ⟨r == wrap64 (n - 1), p', s', ?_, c⟩
  unfold spec_l01Cur_once.f
  rw [e, Option.bind_some]

theorem wide_f (L : List Int) (hL : U8s L) {p s B : Int} (h : Cur p s B) (hB : B ≤ 900000000) : ∃ r p' s', spec_l01Cur_wide.f L p s 65536 = some (r, p', s') ∧ Cur p' s' (B + 3) := by
  obtain ⟨v1, p1, s1, e1, _, _, c1⟩ := pick_f L hL 256 h (by omega) (by decide)
  obtain ⟨v2, p2, s2, e2, _, _, c2⟩ := pick_f L hL 256 c1 (by omega) (by decide)
  obtain ⟨v3, p3, s3, e3, _, _, c3⟩ := pick_f L hL 256 c2 (by omega) (by decide)
  unfold spec_l01Cur_wide.f
  rw [e1, Option.bind_some]
  dsimp only
  rw [e2, Option.bind_some]
  dsimp only
  rw [e3, Option.bind_some, if_neg (by decide)]
  exact ⟨_, _, _, rfl, c3.le (by omega)⟩
theorem tapeDraw_l0 (L : List Int) (hL : U8s L) (n : Int) (d : Nat) : ∀ (k : Nat) (xs : List Int) (p s B : Int), n ≤ (xs.length : Int) + d → xs.length + d ≤ 1000 → d < k → Cur p s B → B + 3 * d ≤ 800000000 →
    ∃ r p' s', spec_l01Cur_tape.l0 k n L p s xs 0 = some (r, 0, p', s') ∧ r.length ≤ 1000 ∧ Cur p' s' (B + 3 * d) := by
  induction d with
  | zero =>
    intro k xs p s B hn hl hk hc hB
    obtain ⟨k, rfl⟩ : ∃ q, k = q + 1 := ⟨k - 1, by omega⟩
    exact ⟨xs, p, s, by rw [spec_l01Cur_tape.l0, if_neg (by omega)], by omega, hc.le (by omega)⟩
  | succ d ih =>
    intro k xs p s B hn hl hk hc hB
    obtain ⟨k, rfl⟩ : ∃ q, k = q + 1 := ⟨k - 1, by omega⟩
    by_cases h0 : (xs.length : Int) < n
    · obtain ⟨v, p1, s1, e1, c1⟩ := wide_f L hL hc (by omega)
      obtain ⟨r, p2, s2, e2, hr, c2⟩ := ih k (xs ++ [v]) p1 s1 (B + 3) (by simp; omega) (by simp; omega) (by omega) c1 (by omega)
      refine ⟨r, p2, s2, ?_, hr, c2.le (by omega)⟩
      rw [spec_l01Cur_tape.l0, if_pos h0, e1, Option.bind_some, if_pos (by omega)]
      exact e2
    · exact ⟨xs, p, s, by rw [spec_l01Cur_tape.l0, if_neg h0], by omega, hc.le (by omega)⟩
theorem raw_f (L : List Int) (hL : U8s L) {p s B : Int} (h : Cur p s B) (hB : B ≤ 900000000) : ∃ r p' s', spec_l01Cur_raw.f L p s = some (r, p', s') ∧ Cur p' s' (B + 2) := by
  obtain ⟨v1, p1, s1, e1, _, _, c1⟩ := pick_f L hL 8 h (by omega) (by decide)
  unfold spec_l01Cur_raw.f
  rw [e1, Option.bind_some]
  dsimp only
  by_cases h1 : v1 = 0
  · obtain ⟨v2, p2, s2, e2, _, _, c2⟩ := pick_f L hL 256 c1 (by omega) (by decide)
    rw [if_pos h1, e2, Option.bind_some]
    exact ⟨_, _, _, rfl, c2.le (by omega)⟩
  · rw [if_neg h1]
    by_cases h2 : v1 = 1
    · obtain ⟨v2, p2, s2, e2, v20, v21, c2⟩ := pick_f L hL 8 c1 (by omega) (by decide)
      rw [if_pos h2, Option.bind_some, e2, Option.bind_some, if_pos v20, if_pos (by simp only [List.length_cons, List.length_nil]; omega)]
      exact ⟨_, _, _, rfl, c2.le (by omega)⟩
    · obtain ⟨v2, p2, s2, e2, _, _, c2⟩ := pick_f L hL 14 c1 (by omega) (by decide)
      rw [if_neg h2, e2, Option.bind_some]
      exact ⟨_, _, _, rfl, c2.le (by omega)⟩
theorem size40_f (L : List Int) (hL : U8s L) (hlen : L.length ≤ 1048576) {p s B : Int} (hc : Cur p s B) (hB : B ≤ 900000000) :
    ∃ r p' s', spec_l01Cur_size.f L p s 40 = some (r, p', s') ∧ r ≤ 41 ∧ Cur p' s' (B + 1) := by
  have hmn : mn 40 (wrap64 (1 + wrap64 ((L.length : Int) / 8))) ≤ 40 ∧ 0 ≤ mn 40 (wrap64 (1 + wrap64 ((L.length : Int) / 8))) := by
    rw [w64 (n := (L.length : Int) / 8) (by omega) (by omega), w64 (by omega) (by omega)]
    unfold mn
    split <;> omega
  obtain ⟨v, p1, s1, e1, v0, v1, c1⟩ := pick_f L hL (mn 40 (wrap64 (1 + wrap64 ((L.length : Int) / 8))) + 1) hc (by omega) (by omega)
  unfold spec_l01Cur_size.f
  rw [w64 (n := mn 40 (wrap64 (1 + wrap64 ((L.length : Int) / 8))) + 1) (by omega) (by omega), e1, Option.bind_some]
  exact ⟨_, _, _, rfl, by omega, c1⟩
theorem badTape_f (L : List Int) (hL : U8s L) (hlen : L.length ≤ 1048576) {p s B : Int} (hc : Cur p s B) (hB : B ≤ 1000000) {k : Nat} (hk : 200 < k) :
    ∃ l a p' s', spec_l01Cur_badTape.f k L p s = some (l, a, p', s') := by
  obtain ⟨n, p1, s1, e1, hn, c1⟩ := size40_f L hL hlen hc (by omega)
  obtain ⟨l, p2, s2, e2, hl, c2⟩ := tapeDraw_l0 L hL n 100 k [] p1 s1 (B + 1) (by simp; omega) (by simp) (by omega) c1 (by omega)
  obtain ⟨a, p3, s3, e3, _, _, c3⟩ := pick_f L hL ((l.length : Int) + 1) c2 (by omega) (by omega)
  obtain ⟨v, p4, s4, e4, _, _, c4⟩ := pick_f L hL 9 c3 (by omega) (by decide)
  unfold spec_l01Cur_badTape.f spec_l01Cur_tape.f
  rw [e1, Option.bind_some]
  dsimp only
  rw [e2, Option.bind_some]
  dsimp only
  rw [w64 (n := (l.length : Int) + 1) (by omega) (by omega), e3, Option.bind_some]
  dsimp only
  rw [e4, Option.bind_some]
  dsimp only
  by_cases h0 : v = 0
  · obtain ⟨r, p5, s5, e5, c5⟩ := raw_f L hL c4 (by omega)
    obtain ⟨u, p6, s6, e6, u0, u1, c6⟩ := pick_f L hL 2 c5 (by omega) (by decide)
    rw [if_pos h0, e5, Option.bind_some, Option.bind_some]
    dsimp only
    rw [e6, Option.bind_some, if_pos u0, if_pos (by simp only [List.length_cons, List.length_nil]; omega)]
    exact ⟨_, _, _, _, rfl⟩
  · rw [if_neg h0]
    by_cases h1 : v = 1
    · obtain ⟨r, p5, s5, e5, c5⟩ := raw_f L hL c4 (by omega)
      rw [if_pos h1, e5, Option.bind_some, if_pos (by omega)]
      exact ⟨_, _, _, _, rfl⟩
    · rw [if_neg h1]
      by_cases h2 : v = 2
      · obtain ⟨b, p5, s5, e5, c5⟩ := once_f L hL 4 c4 (by omega) (by decide)
        rw [if_pos h2, e5, Option.bind_some]
        dsimp only
        cases b
        · rw [if_neg (by decide)]
          exact ⟨_, _, _, _, rfl⟩
        · obtain ⟨u, p6, s6, e6, u0, u1, c6⟩ := pick_f L hL 2 c5 (by omega) (by decide)
          rw [if_pos rfl, e6, Option.bind_some]
          dsimp only
          rw [w64 (n := 4000 + u) (by omega) (by omega), if_pos (by omega), if_pos (by omega)]
          exact ⟨_, _, _, _, rfl⟩
      · rw [if_neg h2]
        exact ⟨_, _, _, _, rfl⟩
theorem tapeB_next {l : List Int} {a : Int} (h : tapeB l a = true) (h2 : a < (l.length : Int)) : tapeB l (a + 1) = true := by
  obtain ⟨h1, h3, h4, h5⟩ := tapeB_parts h
  unfold tapeB
  rw [decide_eq_true (by omega), decide_eq_true (by omega), h5]
  rfl
theorem walk_l0 (l : List Int) (a : Int) (h : tapeB l a = true) (n : Nat) (hn : a + (n : Int) = (l.length : Int)) (d : Nat) : ∀ k i : Nat, i + d = n → d < k →
    laws_FnTapeWalk.l0 k (n : Int) ((l.take (a + (n : Int)).toNat).drop a.toNat) true (i : Int) l (a + (i : Int)) = some true := by
  obtain ⟨h1, h2, h3, h4⟩ := tapeB_parts h
  have hW : ((l.take (a + (n : Int)).toNat).drop a.toNat).length = n := by simp only [List.length_drop, List.length_take]; omega
  have hB : ∀ i : Nat, i ≤ n → tapeB l (a + (i : Int)) = true := by
    intro i
    induction i with
    | zero => intro _; rw [show a + ((0 : Nat) : Int) = a from by omega]; exact h
    | succ i ih =>
      intro hi
      have := tapeB_next (ih (by omega)) (by omega)
      rw [show a + ((i + 1 : Nat) : Int) = a + (i : Int) + 1 from by omega]
      exact this
  induction d with
  | zero =>
    intro k i hi hk
    obtain ⟨k, rfl⟩ : ∃ q, k = q + 1 := ⟨k - 1, by omega⟩
    obtain rfl : i = n := by omega
    have ht : takeT l (a + (i : Int)) = ([], 0, 0, false) := by unfold takeT; rw [if_neg (fun c => c.2 hn)]
    rw [laws_FnTapeWalk.l0, if_neg (by omega), impl_TapeTake_f, Option.bind_some, if_pos rfl, ht]
    dsimp only
    rw [if_neg (by decide), if_pos (by omega), hn]
    simp
  | succ d ih =>
    intro k i hi hk
    obtain ⟨k, rfl⟩ : ∃ q, k = q + 1 := ⟨k - 1, by omega⟩
    have hb := hB i (by omega)
    have hb1 := hB (i + 1) (by omega)
    have hrd : rd ((l.take (a + (n : Int)).toNat).drop a.toNat) (i : Int) = rd l (a + (i : Int)) := by
      obtain ⟨m, rfl⟩ := Int.eq_ofNat_of_zero_le h2
      unfold rd
      rw [show ((m : Int) + (n : Int)).toNat = m + n from by omega, show ((m : Int) + (i : Int)).toNat = m + i from by omega, Int.toNat_natCast, Int.toNat_natCast, List.getD_eq_getElem?_getD, List.getD_eq_getElem?_getD, List.getElem?_drop, List.getElem?_take_of_lt (by omega)]
    rw [laws_FnTapeWalk.l0, if_pos (by omega), impl_TapeTake_f, Option.bind_some]
    have ht : takeT l (a + (i : Int)) = (l, a + (i : Int) + 1, rd l (a + (i : Int)), true) := by unfold takeT; rw [if_pos ⟨hb, by omega⟩]
    rw [ht]
    dsimp only
    rw [if_pos rfl, if_neg (by omega), if_pos (by omega), if_pos (by omega), if_pos hrd, impl_TapeLeft_f, Option.bind_some]
    have hlt : leftT l (a + (i : Int) + 1) = (n : Int) - (i : Int) - 1 := by
      unfold leftT
      rw [show a + (i : Int) + 1 = a + ((i + 1 : Nat) : Int) from by omega, if_pos hb1]
      omega
    rw [hlt, w64 (n := (n : Int) - (i : Int)) (by omega) (by omega), w64 (n := (n : Int) - (i : Int) - 1) (by omega) (by omega), if_pos rfl, w64 (by omega) (by omega)]
    rw [show a + (i : Int) + 1 = a + ((i + 1 : Nat) : Int) from by omega]
    exact ih k (i + 1) (by omega) (by omega)
theorem FnTapeWalk : laws_FnTapeWalk.Pure := by
  intro L _ hlen hL
  have hU := U8s.of hL
  obtain ⟨K, hK⟩ : ∃ K : Nat, 5000 ≤ K := ⟨5000, Nat.le_refl _⟩
  refine ⟨K + 1, ?_⟩
  unfold laws_FnTapeWalk.f laws_big.f
  rw [Option.bind_some]
  by_cases hbig : (L.length : Int) > 1048576
  · rw [if_pos (decide_eq_true hbig)]
  · rw [if_neg (by simpa using hbig)]
    have hc : Cur 0 (59 + ((L.length : Int) % 1000)) 0 := ⟨by omega, by omega, by omega, by omega⟩
    obtain ⟨l, a, p, s, e⟩ := badTape_f L hU (by omega) hc (by omega) (show 200 < K + 1 by omega)
    have e1 : spec_DrawTapeTake.f (K + 1) L = some (l, a) := by
      unfold spec_DrawTapeTake.f spec_l01Open.f
      rw [Option.bind_some]
      dsimp only
      rw [e, Option.bind_some]
    have far : laws_FnTapeWalk.j0 (K + 1) (leftT l a) true l a = some true := by
      rw [laws_FnTapeWalk.j0, if_pos rfl, impl_TapeLeft_f, Option.bind_some]
      simp
    rw [e1, Option.bind_some]
    dsimp only
    rw [spec_TapeLeft_f l a (by omega), Option.bind_some]
    by_cases h0 : leftT l a < 0
    · rw [if_pos h0, far]
    · rw [if_neg h0]
      by_cases h4 : leftT l a > 40
      · rw [decide_eq_true h4, far]
      · have ht : tapeB l a = true := by
          unfold leftT at h0
          by_cases c : tapeB l a = true
          · exact c
          · rw [if_neg c] at h0; omega
        obtain ⟨h1, h2, h3, _⟩ := tapeB_parts ht
        have hv : leftT l a = (l.length : Int) - a := by unfold leftT; rw [if_pos ht]
        obtain ⟨n, hn⟩ := Int.eq_ofNat_of_zero_le (show 0 ≤ (l.length : Int) - a by omega)
        rw [decide_eq_false h4, laws_FnTapeWalk.j0, if_neg (by decide), impl_TapeNext_f, Option.bind_some, hv, hn]
        unfold nextT
        rw [if_pos ⟨ht, by omega, by omega⟩]
        dsimp only
        have h := walk_l0 l a ht n (by omega) n K 0 (by omega) (by omega)
        rw [show a + ((0 : Nat) : Int) = a from by omega] at h
        exact h

end Go.Proofs.Ytlconckfiilfoaa.Pure
