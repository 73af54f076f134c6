/- The law FnExactMyersStep holds of the program: whatever its arguments (of the kinds and sizes that the statement names), it answers true. -/
import Derived.Test.YtnmalfhdndnelaaQFnExactMyersStepx8
import Derived.Test.YtnmalfhdndnelaaLib
import Derived.Test.YtnmalfhdndnelaaLibCol
import Derived.Test.YtnmalfhdndnelaaLibNext
import Derived.Test.YtnmalfhdndnelaaLibLane
set_option linter.unusedVariables false
set_option linter.unusedSimpArgs false
namespace Go.Proofs.Ytnmalfhdndnelaa.Pure
open Go.RowKit Go.Proofs.Ytnmalfhdndnelaa.PFnExactMyersStep Go.Proofs.YtnmalfhdndnelaaW.PrintWords Go.Proofs.YtnmalfhdndnelaaW.PrintLast Go.Proofs.Ytnmalfhdndnelaa.L 

theorem l03Bit_f {a : Nat} (ha : a < 2 ^ 64) {i : Nat} (hi : i < 64) : spec_l03Bit.f (a : Int) (i : Int) = some (a.testBit i) := by
  unfold spec_l03Bit.f
  rw [u64_id (Int.natCast_nonneg _) (by omega), if_pos (Int.natCast_nonneg _), bit_eq ha (by omega)]

theorem l06Column_l0 {pv mv : Nat} (hp : pv < 2 ^ 64) (hm : mv < 2 ^ 64) {sc : Int} (hs : 0 ≤ sc ∧ sc ≤ 64) {n : Nat} (hn : n ≤ 32) (e : Nat) : ∀ (k d : Nat), d + e = n → e < k →
    spec_l06Column.l0 k (colL pv mv sc n d) ((e : Int) - 1) (pv : Int) (mv : Int) sc (n : Int) = some (colL pv mv sc n n) := by
  induction e with
  | zero =>
    intro k d hd hk
    obtain ⟨k, rfl⟩ : ∃ q, k = q + 1 := ⟨k - 1, by omega⟩
    obtain rfl : d = n := by omega
    rw [spec_l06Column.l0, if_neg (by omega)]
  | succ e ih =>
    intro k d hd hk
    obtain ⟨k, rfl⟩ : ∃ q, k = q + 1 := ⟨k - 1, by omega⟩
    have h := ih k (d + 1) (by omega) (by omega)
    have hb := colD_near pv mv sc n d
    have hlen := colL_length pv mv sc n d
    have hh := rd_colL_head pv mv sc n d
    rw [colL, colD, show n - (d + 1) = e from by omega] at h
    rw [show (((e + 1 : Nat) : Int) - 1) = (e : Int) from by omega, spec_l06Column.l0, if_pos (by omega), if_pos (by omega)]
    simp only [l03Bit_f hp (show e < 64 by omega), l03Bit_f hm (show e < 64 by omega), Option.bind_some, hh]
    rw [w64 (n := colD pv mv sc n d - 1) (by omega) (by omega), w64 (n := colD pv mv sc n d + 1) (by omega) (by omega), w64 (n := colD pv mv sc n d - 1 + 1) (by omega) (by omega), w64 (n := (e : Int) - 1) (by omega) (by omega)]
    simp only [List.length_cons, List.length_nil, hlen, List.cons_append, List.nil_append]
    cases hpb : pv.testBit e <;> cases hmb : mv.testBit e <;> simp only [hpb, hmb, if_true, if_false, Bool.false_eq_true] at h ⊢ <;>
      (rw [if_pos (by omega), ← h]; first | rfl | (congr 2; simp; done) | (congr 2; done) | simp)
theorem l06Column_f {pv mv : Nat} (hp : pv < 2 ^ 64) (hm : mv < 2 ^ 64) {sc : Int} (hs : 0 ≤ sc ∧ sc ≤ 64) {n : Nat} (hn : n ≤ 32) {k : Nat} (hk : 40 < k) :
    spec_l06Column.f k (pv : Int) (mv : Int) sc (n : Int) = some (colL pv mv sc n n) := by
  unfold spec_l06Column.f
  rw [w64 (by omega) (by omega)]
  exact l06Column_l0 hp hm hs hn n k 0 (by omega) (by omega)
/-- a value of the column is within its bounds -/
def inB (pv mv : Nat) (sc : Int) (n j : Nat) : Bool := decide (0 ≤ colD pv mv sc n (n - j) ∧ colD pv mv sc n (n - j) ≤ 64)
theorem inB_all (pv mv : Nat) (sc : Int) (n : Nat) : fromB (inB pv mv sc n) 0 (n + 1) = colB pv mv sc n n := by
  rw [Bool.eq_iff_iff, fromB_iff]
  unfold colB inB
  rw [decide_eq_true_iff]
  constructor
  · intro h e he
    have := h (n - e) (by omega) (by omega)
    rw [show n - (n - e) = e from by omega] at this
    exact of_decide_eq_true this
  · intro h j hj _
    exact decide_eq_true (h (n - j) (by omega))
theorem spec_BitsOk_l1 (pv mv : Nat) (sc : Int) {n : Nat} (hn : n ≤ 32) (d : Nat) : ∀ (k i : Nat), i + d = n + 1 → d < k →
    spec_BitsOk.l1 k (colL pv mv sc n n) (i : Int) = some (fromB (inB pv mv sc n) i (n + 1)) := by
  induction d with
  | zero =>
    intro k i hi hk
    obtain ⟨k, rfl⟩ : ∃ q, k = q + 1 := ⟨k - 1, by omega⟩
    obtain rfl : i = n + 1 := by omega
    have hlen := colL_length pv mv sc n n
    rw [spec_BitsOk.l1, if_neg (by omega), fromB_end]
  | succ d ih =>
    intro k i hi hk
    obtain ⟨k, rfl⟩ : ∃ q, k = q + 1 := ⟨k - 1, by omega⟩
    have hlen := colL_length pv mv sc n n
    have h := ih k (i + 1) (by omega) (by omega)
    rw [spec_BitsOk.l1, if_pos (by omega), if_pos (by omega), rd_colL pv mv sc n n i (by omega), w64 (by omega) (by omega)]
    by_cases c1 : colD pv mv sc n (n - i) < 0
    · rw [if_pos c1, fromB_bad (by omega) (decide_eq_false (by omega))]
    · rw [if_neg c1]
      by_cases c2 : colD pv mv sc n (n - i) > 64
      · rw [if_pos c2, fromB_bad (by omega) (decide_eq_false (by omega))]
      · rw [if_neg c2, show (i : Int) + 1 = ((i + 1 : Nat) : Int) from rfl, h, fromB_good (i := i) (decide_eq_true (by omega))]
theorem spec_BitsOk_l0 {pv mv : Nat} (hp : pv < 2 ^ 64) (hm : mv < 2 ^ 64) {sc : Int} (hs : 0 ≤ sc ∧ sc ≤ 64) {n : Nat} (hn : n ≤ 32) (d : Nat) : ∀ (k i : Nat), i + d = 64 → d + 80 < k →
    spec_BitsOk.l0 k (i : Int) (pv : Int) (mv : Int) sc (n : Int) =
      some (fromB (stepOk pv mv n) i 64 && colB pv mv sc n n) := by
  induction d with
  | zero =>
    intro k i hi hk
    obtain ⟨k, rfl⟩ : ∃ q, k = q + 1 := ⟨k - 1, by omega⟩
    obtain rfl : i = 64 := by omega
    rw [spec_BitsOk.l0, if_neg (by omega), l06Column_f hp hm hs hn (by omega), Option.bind_some]
    have := spec_BitsOk_l1 pv mv sc hn (n + 1) k 0 (by omega) (by omega)
    rw [show ((0 : Nat) : Int) = 0 from rfl] at this
    rw [this, fromB_end, Bool.true_and, inB_all]
  | succ d ih =>
    intro k i hi hk
    obtain ⟨k, rfl⟩ : ∃ q, k = q + 1 := ⟨k - 1, by omega⟩
    have h := ih k (i + 1) (by omega) (by omega)
    rw [spec_BitsOk.l0, if_pos (by omega), w64 (by omega) (by omega), show (i : Int) + 1 = ((i + 1 : Nat) : Int) from rfl, h]
    simp only [l03Bit_f hp (show i < 64 by omega), l03Bit_f hm (show i < 64 by omega), Option.bind_some]
    have good : stepOk pv mv n i = true → fromB (stepOk pv mv n) i 64 = fromB (stepOk pv mv n) (i + 1) 64 := fromB_good
    have bad : stepOk pv mv n i = false → fromB (stepOk pv mv n) i 64 = false := fromB_bad (by omega)
    have sd : stepOk pv mv n i = (!(pv.testBit i && mv.testBit i) && (decide (i < n) || (!pv.testBit i && !mv.testBit i))) := rfl
    rw [sd] at good bad
    by_cases c : n ≤ i
    · have c' : (i : Int) ≥ (n : Int) := by omega
      simp only [c', if_true]
      rw [decide_eq_false (show ¬ i < n by omega)] at good bad
      cases hpb : pv.testBit i <;> cases hmb : mv.testBit i <;> rw [hpb, hmb] at good bad <;> simp only [if_true, if_false, Bool.false_eq_true]
      · rw [good rfl]
      · rw [bad rfl]; rfl
      · rw [bad rfl]; rfl
      · rw [bad rfl]; rfl
    · have c' : ¬ (i : Int) ≥ (n : Int) := by omega
      simp only [c', if_false]
      rw [decide_eq_true (show i < n by omega)] at good bad
      cases hpb : pv.testBit i <;> cases hmb : mv.testBit i <;> rw [hpb, hmb] at good bad <;> simp only [if_true, if_false, Bool.false_eq_true]
      · rw [good rfl]
      · rw [good rfl]
      · rw [good rfl]
      · rw [bad rfl]; rfl
theorem spec_BitsOk_f {pv mv : Nat} (hp : pv < 2 ^ 64) (hm : mv < 2 ^ 64) (sc ln : Int) {k : Nat} (hk : 200 < k) : spec_BitsOk.f k (pv : Int) (mv : Int) sc ln = some (bitsOkB pv mv sc ln) := by
  obtain ⟨k, rfl⟩ : ∃ q, k = q + 1 := ⟨k - 1, by omega⟩
  have no : spec_BitsOk.j0 (k + 1) true (pv : Int) (mv : Int) sc ln = some false := by rw [spec_BitsOk.j0, if_pos rfl]
  unfold spec_BitsOk.f bitsOkB
  by_cases h1 : ln < 0
  · rw [if_pos h1, no, decide_eq_false (by omega)]; rfl
  · rw [if_neg h1]
    by_cases h2 : ln > 32
    · rw [if_pos h2, no, decide_eq_false (by omega)]; rfl
    · rw [if_neg h2]
      by_cases h3 : sc < 0
      · rw [if_pos h3, no, decide_eq_false (by omega)]; rfl
      · rw [if_neg h3, spec_BitsOk.j0]
        by_cases h4 : sc > 64
        · rw [if_pos (decide_eq_true h4), decide_eq_false (by omega)]; rfl
        · obtain ⟨n, rfl⟩ := Int.eq_ofNat_of_zero_le (show 0 ≤ ln by omega)
          rw [if_neg (by simpa using h4), decide_eq_true (by omega), Int.toNat_natCast, Bool.true_and]
          have := spec_BitsOk_l0 hp hm (sc := sc) (by omega) (n := n) (by omega) 64 k 0 rfl (by omega)
          rw [show ((0 : Nat) : Int) = 0 from rfl] at this
          rw [this]
          rfl

theorem spec_BitsColumn_f {pv mv : Nat} (hp : pv < 2 ^ 64) (hm : mv < 2 ^ 64) (sc ln : Int) {k : Nat} (hk : 200 < k) :
    spec_BitsColumn.f k (pv : Int) (mv : Int) sc ln = some (if bitsOkB pv mv sc ln = true then colL pv mv sc ln.toNat ln.toNat else []) := by
  unfold spec_BitsColumn.f
  rw [spec_BitsOk_f hp hm sc ln hk, Option.bind_some]
  cases h : bitsOkB pv mv sc ln
  · simp only [Bool.false_eq_true, if_false]
  · obtain ⟨n, rfl, hn, h1, h2, _⟩ := okB_parts h
    rw [if_pos rfl, if_pos rfl, l06Column_f hp hm ⟨h1, h2⟩ hn (by omega), Option.bind_some, Int.toNat_natCast]

theorem l06Power_l0 (n : Nat) : ∀ (k i : Nat), i + n ≤ 63 → n < k → spec_l06Power.l0 k (n : Int) ((2 ^ i : Nat) : Int) = some ((2 ^ (i + n) : Nat) : Int) := by
  induction n with
  | zero =>
    intro k i hi hk
    obtain ⟨k, rfl⟩ : ∃ q, k = q + 1 := ⟨k - 1, by omega⟩
    rw [spec_l06Power.l0, if_neg (by omega)]
    rfl
  | succ n ih =>
    intro k i hi hk
    obtain ⟨k, rfl⟩ : ∃ q, k = q + 1 := ⟨k - 1, by omega⟩
    have hp : 2 ^ (i + 1) ≤ 2 ^ 63 := Nat.pow_le_pow_right (by decide) (by omega)
    have hd := ih k (i + 1) (by omega) (by omega)
    rw [spec_l06Power.l0, if_pos (by omega), w64 (by omega) (by omega), u64_id (by rw [Nat.pow_succ] at hp; omega) (by rw [Nat.pow_succ] at hp; omega)]
    rw [show i + (n + 1) = i + 1 + n from by omega, ← hd, Nat.pow_succ]
    congr 1 <;> omega
theorem l06Power_f {n k : Nat} (hn : n ≤ 63) (hk : n < k) : spec_l06Power.f k (n : Int) = some ((2 ^ n : Nat) : Int) := by
  unfold spec_l06Power.f
  have := l06Power_l0 n k 0 (by omega) hk
  rw [Nat.zero_add] at this
  exact this

theorem l06Of_l0 (xs : List Int) (n : Nat) (hl : xs.length = n + 1) (hn : n ≤ 63) (hb : ∀ i : Nat, i ≤ n → -1000000 ≤ rd xs (i : Int) ∧ rd xs (i : Int) ≤ 1000000) (sc ln : Int) (d : Nat) : ∀ k i, i + d = n → d + 70 < k →
    spec_l06Of.l0 k xs (i : Int) ((sumN (upAt xs) i : Nat) : Int) ((sumN (dnAt xs) i : Nat) : Int) sc ln = some (((sumN (upAt xs) n : Nat) : Int), ((sumN (dnAt xs) n : Nat) : Int), sc, ln) := by
  induction d with
  | zero =>
    intro k i hi hk
    obtain ⟨k, rfl⟩ : ∃ q, k = q + 1 := ⟨k - 1, by omega⟩
    obtain rfl : i = n := by omega
    rw [spec_l06Of.l0, w64 (by omega) (by omega), if_neg (by omega)]
  | succ d ih =>
    intro k i hi hk
    obtain ⟨k, rfl⟩ : ∃ q, k = q + 1 := ⟨k - 1, by omega⟩
    have h := ih k (i + 1) (by omega) (by omega)
    have h1 := hb i (by omega)
    have h2 := hb (i + 1) (by omega)
    have u1 := sumN_lt (upAt xs) i
    have u2 := sumN_lt (dnAt xs) i
    have hp : 2 ^ i ≤ 2 ^ 62 := Nat.pow_le_pow_right (by decide) (by omega)
    rw [show ((i + 1 : Nat) : Int) = (i : Int) + 1 from rfl] at h2
    rw [spec_l06Of.l0, w64 (n := (i : Int) + 1) (by omega) (by omega), if_pos (by omega), if_pos (by omega), if_pos (by omega), if_pos (by omega), w64 (n := rd xs (i : Int) + 1) (by omega) (by omega), w64 (n := rd xs (i : Int) - 1) (by omega) (by omega)]
    simp only [l06Power_f (show i ≤ 63 by omega) (show i < k by omega), Option.bind_some]
    rw [sumN, sumN] at h
    by_cases c1 : rd xs ((i : Int) + 1) = rd xs (i : Int) + 1
    · have e1 : upAt xs i = true := decide_eq_true c1
      have e2 : dnAt xs i = false := decide_eq_false (by omega)
      rw [e1, e2] at h
      rw [if_pos c1, if_neg (by omega), u64_id (by omega) (by omega)]
      simpa using h
    · rw [if_neg c1]
      have e1 : upAt xs i = false := decide_eq_false c1
      by_cases c2 : rd xs ((i : Int) + 1) = rd xs (i : Int) - 1
      · have e2 : dnAt xs i = true := decide_eq_true c2
        rw [e1, e2] at h
        rw [if_pos c2, u64_id (by omega) (by omega)]
        simpa using h
      · have e2 : dnAt xs i = false := decide_eq_false c2
        rw [e1, e2] at h
        rw [if_neg c2]
        simpa using h
theorem l06Of_f (xs : List Int) (n : Nat) (hl : xs.length = n + 1) (hn : n ≤ 63) (hb : ∀ i : Nat, i ≤ n → -1000000 ≤ rd xs (i : Int) ∧ rd xs (i : Int) ≤ 1000000) {k : Nat} (hk : 140 < k) :
    spec_l06Of.f k xs = some (((sumN (upAt xs) n : Nat) : Int), ((sumN (dnAt xs) n : Nat) : Int), rd xs (n : Int), (n : Int)) := by
  unfold spec_l06Of.f
  have e : wrap64 ((xs.length : Int) - 1) = (n : Int) := by rw [w64 (by omega) (by omega)]; omega
  rw [e, if_pos (by omega), if_pos (by omega)]
  exact l06Of_l0 xs n hl hn hb _ _ n k 0 (by omega) (by omega)


theorem spec_MyersStep_l0 (d : List Int) {n : Nat} (hn : n ≤ 32) (hl : d.length = n + 1) (hd : ∀ i : Nat, i ≤ n → 0 ≤ rd d (i : Int) ∧ rd d (i : Int) ≤ 64) {q : Nat} (hq : q < 2 ^ 64) (P M S : Int) (e : Nat) : ∀ (k i : Nat), i + e = n → e + 400 < k →
    spec_MyersStep.l0 k (q : Int) d (tab (nxV d q) (i + 1)) (i : Int) P M S (n : Int) =
      some (if bitsOkB (upsN (nxL d q n) n) (dnsN (nxL d q n) n) (nxV d q n) (n : Int) = true then (((upsN (nxL d q n) n : Nat) : Int), ((dnsN (nxL d q n) n : Nat) : Int), nxV d q n, (n : Int)) else (0, 0, 0, 0)) := by
  induction e with
  | zero =>
    intro k i hi hk
    obtain ⟨k, rfl⟩ : ∃ q, k = q + 1 := ⟨k - 1, by omega⟩
    obtain rfl : i = n := by omega
    have hb := nxV_bound d q i hd
    rw [spec_MyersStep.l0, if_neg (by omega), l06Of_f (tab (nxV d q) (i + 1)) i (tab_length _ _) (by omega) (fun j hj => by
      have := hb j hj
      rw [rd_tab _ (by omega)]
      omega) (by omega), Option.bind_some]
    dsimp only
    rw [rd_tab _ (by omega)]
    have h1 := ups_lt (nxL d q i) (n := i) (by omega)
    have h2 := dns_lt (nxL d q i) (n := i) (by omega)
    have := spec_BitsOk_f h1 h2 (nxV d q i) (i : Int) (k := k) (by omega)
    unfold upsN dnsN nxL at this ⊢
    rw [this, Option.bind_some]
    split <;> rfl
  | succ e ih =>
    intro k i hi hk
    obtain ⟨k, rfl⟩ : ∃ q, k = q + 1 := ⟨k - 1, by omega⟩
    have h := ih k (i + 1) (by omega) (by omega)
    have hb := nxV_bound d q n hd i (by omega)
    have h1 := hd (i + 1) (by omega)
    have h2 := hd i (by omega)
    rw [tab_succ, nxV] at h
    rw [spec_MyersStep.l0, if_pos (by omega), if_pos (by omega), if_pos (by omega), l03Bit_f hq (by omega), Option.bind_some, w64 (n := (i : Int) + 1) (by omega) (by omega), rd_tab _ (by omega), tab_length]
    rw [show (i : Int) + 1 = ((i + 1 : Nat) : Int) from rfl, w64 (n := nxV d q i + 1) (by omega) (by omega), w64 (n := rd d ((i + 1 : Nat) : Int) + 1) (by omega) (by omega), w64 (n := rd d (i : Int) + 1) (by omega) (by omega), mn_min, mn_min, mn_min]
    cases hbit : q.testBit i
    · rw [hbit] at h
      rw [if_neg (by decide), if_pos (by omega), if_pos (by omega), if_pos (by omega), if_pos (by omega)]
      rw [show rd d (i : Int) + 1 - (((false.toNat : Nat)) : Int) = rd d (i : Int) + 1 from by simp] at h
      exact h
    · rw [hbit] at h
      rw [if_pos rfl, if_pos (by omega), if_pos (by omega), if_pos (by omega), if_pos (by omega)]
      rw [show rd d (i : Int) + 1 - (((true.toNat : Nat)) : Int) = rd d (i : Int) from by simp] at h
      exact h
theorem spec_MyersStep_f {pv mv : Nat} (hp : pv < 2 ^ 64) (hm : mv < 2 ^ 64) (sc ln : Int) {q : Nat} (hq : q < 2 ^ 64) {k : Nat} (hk : 500 < k) :
    spec_MyersStep.f k (pv : Int) (mv : Int) sc ln (q : Int) = some (stepR pv mv sc ln q) := by
  unfold spec_MyersStep.f stepR
  rw [spec_BitsColumn_f hp hm sc ln (by omega), Option.bind_some]
  cases h : bitsOkB pv mv sc ln
  · simp only [Bool.false_eq_true, if_false]
    rfl
  · obtain ⟨n, rfl, hn, h1, h2, hc⟩ := okB_parts h
    have hb := colL_bound hc
    have h0 := hb 0 (by omega)
    rw [show ((0 : Nat) : Int) = 0 from rfl] at h0
    rw [if_pos rfl, if_pos rfl, Int.toNat_natCast, colL_length, if_neg (by omega), if_pos (by omega), w64 (by omega) (by omega)]
    exact spec_MyersStep_l0 (colL pv mv sc n n) hn (colL_length _ _ _ _ _) hb hq _ _ _ n k 0 (by omega) (by omega)

theorem within_f (a b c : Int) : impl_within.f a b c = some (decide (b ≤ a ∧ a ≤ c)) := by
  unfold impl_within.f
  by_cases h : a ≥ b
  · rw [if_pos h]; congr 1; rw [decide_eq_decide]; omega
  · rw [if_neg h]; congr 1; symm; rw [decide_eq_false_iff_not]; omega

/-- the mask of the lowest bits -/
theorem impl_MaskLow_n {n : Nat} (hn : n < 64) : impl_MaskLow.f (n : Int) = some ((2 ^ n - 1 : Nat) : Int) := by
  unfold impl_MaskLow.f
  by_cases h : n = 0
  · subst h; rfl
  · rw [if_neg (by omega), if_neg (by omega), if_pos (by omega), shl_one hn]
    have hp := pow_lt64 hn
    have hp0 : 0 < 2 ^ n := Nat.two_pow_pos _
    generalize 2 ^ n = u at *
    rw [u64_id (by omega) (by omega)]
    congr 1
    omega

theorem columnOf_l0 {pv mv : Nat} (hp : pv < 2 ^ 64) (hm : mv < 2 ^ 64) {sc : Int} (hs : 0 ≤ sc ∧ sc ≤ 64) {n : Nat} (hn : n ≤ 32) (e : Nat) : ∀ (k d : Nat) (ys : List Int), d + e = n → e < k → ys.length = n + 1 →
    (∀ i : Nat, i ≤ d → rd ys ((n - i : Nat) : Int) = colD pv mv sc n i) → colB pv mv sc n d = true →
    impl_columnOf.l0 k ys ((e : Int) - 1) (pv : Int) (mv : Int) sc (n : Int) = some (if colB pv mv sc n n = true then (colL pv mv sc n n, true) else ([], false)) := by
  induction e with
  | zero =>
    intro k d ys hd hk hl hy hc
    obtain ⟨k, rfl⟩ : ∃ q, k = q + 1 := ⟨k - 1, by omega⟩
    obtain rfl : d = n := by omega
    rw [impl_columnOf.l0, if_neg (by omega), if_pos hc]
    congr 2
    refine list_ext_rd (by rw [colL_length, hl]) (fun i hi => ?_)
    rw [rd_colL pv mv sc d d i (by omega)]
    have := hy (d - i) (by omega)
    rw [show d - (d - i) = i from by omega] at this
    exact this
  | succ e ih =>
    intro k d ys hd hk hl hy hc
    obtain ⟨k, rfl⟩ : ∃ q, k = q + 1 := ⟨k - 1, by omega⟩
    have hb := colD_near pv mv sc n d
    have hy1 := hy d (Nat.le_refl _)
    rw [show n - d = e + 1 from by omega] at hy1
    have h1 : (pv.testBit e).toNat ≤ 1 := by cases pv.testBit e <;> simp
    have h2 : (mv.testBit e).toNat ≤ 1 := by cases mv.testBit e <;> simp
    have hnext : colD pv mv sc n (d + 1) = colD pv mv sc n d - ((pv.testBit e).toNat : Int) + ((mv.testBit e).toNat : Int) := by rw [colD, show n - (d + 1) = e from by omega]
    rw [show (((e + 1 : Nat) : Int) - 1) = (e : Int) from by omega, impl_columnOf.l0, if_pos (by omega), w64 (n := (e : Int) + 1) (by omega) (by omega), if_pos (by omega), if_pos (by omega), if_pos (by omega), if_pos (by omega)]
    rw [show (e : Int) + 1 = ((e + 1 : Nat) : Int) from rfl, hy1, bit_val hp (by omega), bit_val hm (by omega), w64 (n := (((pv.testBit e).toNat : Nat) : Int)) (by omega) (by omega), w64 (n := (((mv.testBit e).toNat : Nat) : Int)) (by omega) (by omega), w64 (n := colD pv mv sc n d - (((pv.testBit e).toNat : Nat) : Int)) (by omega) (by omega), w64 (n := colD pv mv sc n d - (((pv.testBit e).toNat : Nat) : Int) + (((mv.testBit e).toNat : Nat) : Int)) (by omega) (by omega), ← hnext, within_f, Option.bind_some]
    by_cases c : 0 ≤ colD pv mv sc n (d + 1) ∧ colD pv mv sc n (d + 1) ≤ 64
    · rw [if_pos (decide_eq_true c), w64 (by omega) (by omega), Int.toNat_natCast]
      refine ih k (d + 1) _ (by omega) (by omega) (by rw [List.length_set]; exact hl) (fun i hi => ?_) ?_
      · rw [rd_set _ _ _ _ (by omega)]
        by_cases e1 : i = d + 1
        · rw [if_pos (by omega), e1]
        · rw [if_neg (by omega)]; exact hy i (by omega)
      · unfold colB at hc ⊢
        rw [decide_eq_true_eq] at hc ⊢
        intro i hi
        by_cases e1 : i = d + 1
        · rw [e1]; exact c
        · exact hc i (by omega)
    · rw [if_neg (by simpa using c), if_neg]
      unfold colB
      rw [decide_eq_true_eq]
      intro hall
      exact c (hall (d + 1) (by omega))
theorem columnOf_f {pv mv : Nat} (hp : pv < 2 ^ 64) (hm : mv < 2 ^ 64) (sc ln : Int) {k : Nat} (hk : 50 < k) :
    impl_columnOf.f k (pv : Int) (mv : Int) sc ln = some (if bitsOkB pv mv sc ln = true then (colL pv mv sc ln.toNat ln.toNat, true) else ([], false)) := by
  obtain ⟨k, rfl⟩ : ∃ q, k = q + 1 := ⟨k - 1, by omega⟩
  have no : impl_columnOf.j0 (k + 1) true (pv : Int) (mv : Int) sc ln = some ([], false) := by rw [impl_columnOf.j0, if_pos rfl]
  unfold impl_columnOf.f bitsOkB
  rw [within_f, within_f, Option.bind_some, Option.bind_some]
  by_cases h1 : 0 ≤ ln ∧ ln ≤ 32
  · rw [if_pos (decide_eq_true h1)]
    by_cases h2 : 0 ≤ sc ∧ sc ≤ 64
    · obtain ⟨n, rfl⟩ := Int.eq_ofNat_of_zero_le h1.1
      have hn : n ≤ 32 := by omega
      have hor : pv ||| mv < 2 ^ 64 := Nat.or_lt_two_pow hp hm
      rw [if_pos (decide_eq_true h2), decide_eq_true (⟨h1.1, h1.2, h2.1, h2.2⟩ : _ ∧ _ ∧ _ ∧ _), Bool.true_and, Int.toNat_natCast, impl_MaskLow_n (by omega), Option.bind_some, or_nat hp hm, andNot_nat, and_nat hp hm, bitsB_masks hp hm hn]
      by_cases h3 : andN (pv ||| mv) (2 ^ n - 1) = 0
      · rw [if_pos (by rw [h3]; rfl), decide_eq_true h3, Bool.true_and, impl_columnOf.j0]
        by_cases h4 : pv &&& mv = 0
        · rw [if_neg (by rw [h4]; decide), decide_eq_true h4, Bool.true_and, w64 (by omega) (by omega), if_pos (by omega), if_pos (by omega), Option.bind_some, if_pos (by omega), if_pos (by simp; omega), w64 (by omega) (by omega), Int.toNat_natCast, show ((n : Int) + 1).toNat = n + 1 from by omega]
          refine columnOf_l0 hp hm h2 hn n k 0 _ (by omega) (by omega) (by simp) (fun i hi => ?_) ?_
          · obtain rfl : i = 0 := by omega
            rw [Nat.sub_zero, rd_set _ _ _ _ (by simp), if_pos rfl, colD]
          · unfold colB
            rw [decide_eq_true_eq]
            intro i hi
            obtain rfl : i = 0 := by omega
            exact h2
        · rw [if_pos (by simpa using h4), decide_eq_false h4]; rfl
      · rw [if_neg (by omega), no, decide_eq_false h3]; rfl
    · rw [if_neg (by simpa using h2), no, decide_eq_false (by omega)]; rfl
  · rw [if_neg (by simpa using h1), no, decide_eq_false (by omega)]; rfl

theorem nextColumn_l0 (d : List Int) {n : Nat} (hn : n ≤ 32) (hl : d.length = n + 1) (hd : ∀ i : Nat, i ≤ n → 0 ≤ rd d (i : Int) ∧ rd d (i : Int) ≤ 64) {q : Nat} (hq : q < 2 ^ 64) (e : Nat) : ∀ (k i : Nat) (ys : List Int), i + e = n → e < k → ys.length = n + 1 →
    (∀ j : Nat, j ≤ i → rd ys (j : Int) = nxV d q j) → impl_nextColumn.l0 k d (q : Int) ys (n : Int) (i : Int) = some (nxL d q n) := by
  induction e with
  | zero =>
    intro k i ys hi hk hy hv
    obtain ⟨k, rfl⟩ : ∃ q, k = q + 1 := ⟨k - 1, by omega⟩
    rw [impl_nextColumn.l0, if_neg (by omega)]
    refine congrArg some (list_ext_rd (by rw [nxL, tab_length, hy]) (fun j hj => ?_))
    rw [hv j (by omega), nxL, rd_tab _ (by omega)]
  | succ e ih =>
    intro k i ys hi hk hy hv
    obtain ⟨k, rfl⟩ : ∃ q, k = q + 1 := ⟨k - 1, by omega⟩
    have hb := nxV_bound d q n hd i (by omega)
    have h1 := hd (i + 1) (by omega)
    have h2 := hd i (by omega)
    have hbit : (q.testBit i).toNat ≤ 1 := by cases q.testBit i <;> simp
    have hvi := hv i (Nat.le_refl _)
    rw [impl_nextColumn.l0, if_pos (by omega), if_pos (by omega), if_pos (by omega), w64 (n := (i : Int) + 1) (by omega) (by omega), if_pos (by omega), if_pos (by omega), if_pos (by omega), if_pos (by omega), hvi]
    rw [show (i : Int) + 1 = ((i + 1 : Nat) : Int) from rfl, w64 (n := nxV d q i + 1) (by omega) (by omega), w64 (n := rd d ((i + 1 : Nat) : Int) + 1) (by omega) (by omega), w64 (n := rd d (i : Int) + 1) (by omega) (by omega), bit_val hq (by omega), w64 (n := (((q.testBit i).toNat : Nat) : Int)) (by omega) (by omega), w64 (by omega) (by omega), mn_min, mn_min, Int.toNat_natCast]
    refine ih k (i + 1) _ (by omega) (by omega) (by rw [List.length_set]; exact hy) (fun j hj => ?_)
    rw [rd_set _ _ _ _ (by omega)]
    by_cases c : i + 1 = j
    · subst c
      rw [if_pos rfl, nxV]
    · rw [if_neg c]
      exact hv j (by omega)
theorem nextColumn_f (d : List Int) {n : Nat} (hn : n ≤ 32) (hl : d.length = n + 1) (hd : ∀ i : Nat, i ≤ n → 0 ≤ rd d (i : Int) ∧ rd d (i : Int) ≤ 64) {q : Nat} (hq : q < 2 ^ 64) {k : Nat} (hk : 40 < k) : impl_nextColumn.f k d (q : Int) = some (nxL d q n) := by
  have h0 := hd 0 (by omega)
  rw [show ((0 : Nat) : Int) = 0 from rfl] at h0
  unfold impl_nextColumn.f
  rw [if_pos (by omega), if_pos (by omega), Option.bind_some, if_pos (by omega), if_pos (by simp; omega), w64 (n := rd d 0 + 1) (by omega) (by omega), w64 (n := (d.length : Int) - 1) (by omega) (by omega), show (d.length : Int) - 1 = (n : Int) from by omega, Int.toNat_natCast]
  refine nextColumn_l0 d hn hl hd hq n k 0 _ (by omega) (by omega) (by simp [hl]) (fun j hj => ?_)
  obtain rfl : j = 0 := by omega
  rw [show (0 : Int).toNat = 0 from rfl, rd_set _ _ _ _ (by simp; omega), if_pos rfl, nxV]
theorem bitsOf_l0 (xs : List Int) (n : Nat) (hl : xs.length = n + 1) (hn : n ≤ 63) (hb : ∀ i : Nat, i ≤ n → -1000000 ≤ rd xs (i : Int) ∧ rd xs (i : Int) ≤ 1000000) (sc ln : Int) (d : Nat) : ∀ k i, i + d = n → d < k →
    impl_bitsOf.l0 k xs (n : Int) (i : Int) ((sumN (upAt xs) i : Nat) : Int) ((sumN (dnAt xs) i : Nat) : Int) sc ln = some (((upsN xs n : Nat) : Int), ((dnsN xs n : Nat) : Int), sc, ln) := by
  induction d with
  | zero =>
    intro k i hi hk
    obtain ⟨k, rfl⟩ : ∃ q, k = q + 1 := ⟨k - 1, by omega⟩
    obtain rfl : i = n := by omega
    rw [impl_bitsOf.l0, if_neg (by omega)]
    rfl
  | succ d ih =>
    intro k i hi hk
    obtain ⟨k, rfl⟩ : ∃ q, k = q + 1 := ⟨k - 1, by omega⟩
    have h := ih k (i + 1) (by omega) (by omega)
    have h1 := hb i (by omega)
    have h2 := hb (i + 1) (by omega)
    have u1 := sumN_lt (upAt xs) i
    have u2 := sumN_lt (dnAt xs) i
    rw [show ((i + 1 : Nat) : Int) = (i : Int) + 1 from rfl] at h2
    rw [impl_bitsOf.l0, if_pos (by omega), w64 (n := (i : Int) + 1) (by omega) (by omega), if_pos (by omega), if_pos (by omega), if_pos (by omega), if_pos (by omega), w64 (n := rd xs ((i : Int) + 1) - rd xs (i : Int)) (by omega) (by omega), shl_one (by omega), or_pow u1 (by omega), or_pow u2 (by omega)]
    rw [sumN, sumN] at h
    by_cases c1 : rd xs ((i : Int) + 1) = rd xs (i : Int) + 1
    · have e1 : upAt xs i = true := decide_eq_true c1
      have e2 : dnAt xs i = false := decide_eq_false (by omega)
      rw [e1, e2] at h
      rw [if_pos (by omega)]
      simpa using h
    · rw [if_neg (by omega)]
      have e1 : upAt xs i = false := decide_eq_false c1
      by_cases c2 : rd xs ((i : Int) + 1) = rd xs (i : Int) - 1
      · have e2 : dnAt xs i = true := decide_eq_true c2
        rw [e1, e2] at h
        rw [if_pos (by omega)]
        simpa using h
      · have e2 : dnAt xs i = false := decide_eq_false c2
        rw [e1, e2] at h
        rw [if_neg (by omega)]
        simpa using h
theorem bitsOf_f (xs : List Int) (n : Nat) (hl : xs.length = n + 1) (hn : n ≤ 63) (hb : ∀ i : Nat, i ≤ n → -1000000 ≤ rd xs (i : Int) ∧ rd xs (i : Int) ≤ 1000000) {k : Nat} (hk : 70 < k) :
    impl_bitsOf.f k xs = some (((upsN xs n : Nat) : Int), ((dnsN xs n : Nat) : Int), rd xs (n : Int), (n : Int)) := by
  unfold impl_bitsOf.f
  have e : wrap64 ((xs.length : Int) - 1) = (n : Int) := by rw [w64 (by omega) (by omega)]; omega
  rw [e, if_pos (by omega), if_pos (by omega)]
  exact bitsOf_l0 xs n hl hn hb _ _ n k 0 (by omega) (by omega)
theorem impl_MyersStep_f {pv mv : Nat} (hp : pv < 2 ^ 64) (hm : mv < 2 ^ 64) (sc ln : Int) {q : Nat} (hq : q < 2 ^ 64) {k : Nat} (hk : 100 < k) :
    impl_MyersStep.f k (pv : Int) (mv : Int) sc ln (q : Int) = some (stepR pv mv sc ln q) := by
  unfold impl_MyersStep.f stepR
  rw [columnOf_f hp hm sc ln (by omega), Option.bind_some]
  cases h : bitsOkB pv mv sc ln
  · simp only [Bool.false_eq_true, if_false]
  · obtain ⟨n, rfl, hn, h1, h2, hc⟩ := okB_parts h
    have hb := colL_bound hc
    have hnb := nxV_bound (colL pv mv sc n n) q n hb
    rw [if_pos rfl, if_pos rfl, Int.toNat_natCast]
    dsimp only
    rw [if_pos rfl, nextColumn_f (colL pv mv sc n n) hn (colL_length _ _ _ _ _) hb hq (by omega), Option.bind_some, bitsOf_f (nxL (colL pv mv sc n n) q n) n (show (nxL (colL pv mv sc n n) q n).length = n + 1 from tab_length _ _) (by omega) (fun j hj => by
      have := hnb j hj
      rw [nxL, rd_tab _ (by omega)]
      omega) (by omega), Option.bind_some]
    dsimp only
    rw [columnOf_f (ups_lt _ (by omega)) (dns_lt _ (by omega)) _ _ (by omega), Option.bind_some, show rd (nxL (colL pv mv sc n n) q n) (n : Int) = nxV (colL pv mv sc n n) q n from rd_tab _ (by omega)]
    cases bitsOkB (upsN (nxL (colL pv mv sc n n) q n) n) (dnsN (nxL (colL pv mv sc n n) q n) n) (nxV (colL pv mv sc n n) q n) (n : Int) <;> rfl

/-- The law's plain statement. -/
def stepPure : Prop := ∀ (a b c d q : Int), (Lit.int .u64 a).wf = true → (Lit.int .u64 b).wf = true → (Lit.int .i64 c).wf = true → (Lit.int .i64 d).wf = true → (Lit.int .u64 q).wf = true → ∃ k, laws_FnExactMyersStep.f k a b c d q = some true
theorem FnExactMyersStep : stepPure := by
  intro a b c d q ha hb _ _ hq
  obtain ⟨a, rfl, ha'⟩ := wf_u64 ha
  obtain ⟨b, rfl, hb'⟩ := wf_u64 hb
  obtain ⟨q, rfl, hq'⟩ := wf_u64 hq
  obtain ⟨K, hK⟩ : ∃ K : Nat, 500 < K := ⟨501, by decide⟩
  refine ⟨K, ?_⟩
  unfold laws_FnExactMyersStep.f laws_toBits.f
  rw [Option.bind_some]
  dsimp only
  rw [spec_MyersStep_f ha' hb' c d hq' (by omega), Option.bind_some, Option.bind_some]
  dsimp only
  rw [impl_MyersStep_f ha' hb' c d hq' (by omega), Option.bind_some]
  simp [laws_eqBits.f]

end Go.Proofs.Ytnmalfhdndnelaa.Pure
