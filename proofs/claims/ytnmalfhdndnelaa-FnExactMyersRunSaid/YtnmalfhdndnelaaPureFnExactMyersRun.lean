/- The law FnExactMyersRun holds of the program: whatever its arguments (of the kinds and sizes that the statement names), it answers true. -/
import Derived.Test.YtnmalfhdndnelaaQFnExactMyersRunx8
import Derived.Test.YtnmalfhdndnelaaLib
import Derived.Test.YtnmalfhdndnelaaLibCol
import Derived.Test.YtnmalfhdndnelaaLibLane
import Derived.Test.YtnmalfhdndnelaaLibNext
import Derived.Test.YtnmalfhdndnelaaLibLev
import Derived.Test.YtnmalfhdndnelaaLibTab
set_option linter.unusedVariables false
set_option linter.unusedSimpArgs false
namespace Go.Proofs.Ytnmalfhdndnelaa.Pure
open Go.RowKit Go.Proofs.Ytnmalfhdndnelaa.PFnExactMyersRun Go.Proofs.YtnmalfhdndnelaaW.PrintWords Go.Proofs.YtnmalfhdndnelaaW.PrintLast Go.Proofs.Ytnmalfhdndnelaa.L 

theorem l03Bit_f {a : Nat} (ha : a < 2 ^ 64) {i : Nat} (hi : i < 64) : spec_l03Bit.f (a : Int) (i : Int) = some (a.testBit i) := by
  unfold spec_l03Bit.f
  rw [u64_id (Int.natCast_nonneg _) (by omega), if_pos (Int.natCast_nonneg _), bit_eq ha (by omega)]

theorem l06Column_l0 {pv mv : Nat} (hp : pv < 2 ^ 64) (hm : mv < 2 ^ 64) {sc : Int} (hs : 0 ≤ sc ∧ sc ≤ 64) {n : Nat} (hn : n ≤ 32) (e : Nat) : ∀ (k d : Nat), d + e = n → e < k →
    spec_l06Column.l0 k (colL pv mv sc n d) ((e : Int) - 1) (pv : Int) (mv : Int) sc (n : Int) = some (colL pv mv sc n n) := by
  induction e with
  | zero =>
    intro k d hd hk
    obtain ⟨k, rfl⟩ : ∃ q, k = q + 1 := ⟨k - 1, by omega⟩
    obtain rfl : d = n := by omega
    rw [spec_l06Column.l0, if_neg (by omega)]
  | succ e ih =>
    intro k d hd hk
    obtain ⟨k, rfl⟩ : ∃ q, k = q + 1 := ⟨k - 1, by omega⟩
    have h := ih k (d + 1) (by omega) (by omega)
    have hb := colD_near pv mv sc n d
    have hlen := colL_length pv mv sc n d
    have hh := rd_colL_head pv mv sc n d
    rw [colL, colD, show n - (d + 1) = e from by omega] at h
    rw [show (((e + 1 : Nat) : Int) - 1) = (e : Int) from by omega, spec_l06Column.l0, if_pos (by omega), if_pos (by omega)]
    simp only [l03Bit_f hp (show e < 64 by omega), l03Bit_f hm (show e < 64 by omega), Option.bind_some, hh]
    rw [w64 (n := colD pv mv sc n d - 1) (by omega) (by omega), w64 (n := colD pv mv sc n d + 1) (by omega) (by omega), w64 (n := colD pv mv sc n d - 1 + 1) (by omega) (by omega), w64 (n := (e : Int) - 1) (by omega) (by omega)]
    simp only [List.length_cons, List.length_nil, hlen, List.cons_append, List.nil_append]
    cases hpb : pv.testBit e <;> cases hmb : mv.testBit e <;> simp only [hpb, hmb, if_true, if_false, Bool.false_eq_true] at h ⊢ <;>
      (rw [if_pos (by omega), ← h]; first | rfl | (congr 2; simp; done) | (congr 2; done) | simp)
theorem l06Column_f {pv mv : Nat} (hp : pv < 2 ^ 64) (hm : mv < 2 ^ 64) {sc : Int} (hs : 0 ≤ sc ∧ sc ≤ 64) {n : Nat} (hn : n ≤ 32) {k : Nat} (hk : 40 < k) :
    spec_l06Column.f k (pv : Int) (mv : Int) sc (n : Int) = some (colL pv mv sc n n) := by
  unfold spec_l06Column.f
  rw [w64 (by omega) (by omega)]
  exact l06Column_l0 hp hm hs hn n k 0 (by omega) (by omega)
/-- a value of the column is within its bounds -/
def inB (pv mv : Nat) (sc : Int) (n j : Nat) : Bool := decide (0 ≤ colD pv mv sc n (n - j) ∧ colD pv mv sc n (n - j) ≤ 64)
theorem inB_all (pv mv : Nat) (sc : Int) (n : Nat) : fromB (inB pv mv sc n) 0 (n + 1) = colB pv mv sc n n := by
  rw [Bool.eq_iff_iff, fromB_iff]
  unfold colB inB
  rw [decide_eq_true_iff]
  constructor
  · intro h e he
    have := h (n - e) (by omega) (by omega)
    rw [show n - (n - e) = e from by omega] at this
    exact of_decide_eq_true this
  · intro h j hj _
    exact decide_eq_true (h (n - j) (by omega))
theorem spec_BitsOk_l1 (pv mv : Nat) (sc : Int) {n : Nat} (hn : n ≤ 32) (d : Nat) : ∀ (k i : Nat), i + d = n + 1 → d < k →
    spec_BitsOk.l1 k (colL pv mv sc n n) (i : Int) = some (fromB (inB pv mv sc n) i (n + 1)) := by
  induction d with
  | zero =>
    intro k i hi hk
    obtain ⟨k, rfl⟩ : ∃ q, k = q + 1 := ⟨k - 1, by omega⟩
    obtain rfl : i = n + 1 := by omega
    have hlen := colL_length pv mv sc n n
    rw [spec_BitsOk.l1, if_neg (by omega), fromB_end]
  | succ d ih =>
    intro k i hi hk
    obtain ⟨k, rfl⟩ : ∃ q, k = q + 1 := ⟨k - 1, by omega⟩
    have hlen := colL_length pv mv sc n n
    have h := ih k (i + 1) (by omega) (by omega)
    rw [spec_BitsOk.l1, if_pos (by omega), if_pos (by omega), rd_colL pv mv sc n n i (by omega), w64 (by omega) (by omega)]
    by_cases c1 : colD pv mv sc n (n - i) < 0
    · rw [if_pos c1, fromB_bad (by omega) (decide_eq_false (by omega))]
    · rw [if_neg c1]
      by_cases c2 : colD pv mv sc n (n - i) > 64
      · rw [if_pos c2, fromB_bad (by omega) (decide_eq_false (by omega))]
      · rw [if_neg c2, show (i : Int) + 1 = ((i + 1 : Nat) : Int) from rfl, h, fromB_good (i := i) (decide_eq_true (by omega))]
theorem spec_BitsOk_l0 {pv mv : Nat} (hp : pv < 2 ^ 64) (hm : mv < 2 ^ 64) {sc : Int} (hs : 0 ≤ sc ∧ sc ≤ 64) {n : Nat} (hn : n ≤ 32) (d : Nat) : ∀ (k i : Nat), i + d = 64 → d + 80 < k →
    spec_BitsOk.l0 k (i : Int) (pv : Int) (mv : Int) sc (n : Int) =
      some (fromB (stepOk pv mv n) i 64 && colB pv mv sc n n) := by
  induction d with
  | zero =>
    intro k i hi hk
    obtain ⟨k, rfl⟩ : ∃ q, k = q + 1 := ⟨k - 1, by omega⟩
    obtain rfl : i = 64 := by omega
    rw [spec_BitsOk.l0, if_neg (by omega), l06Column_f hp hm hs hn (by omega), Option.bind_some]
    have := spec_BitsOk_l1 pv mv sc hn (n + 1) k 0 (by omega) (by omega)
    rw [show ((0 : Nat) : Int) = 0 from rfl] at this
    rw [this, fromB_end, Bool.true_and, inB_all]
  | succ d ih =>
    intro k i hi hk
    obtain ⟨k, rfl⟩ : ∃ q, k = q + 1 := ⟨k - 1, by omega⟩
    have h := ih k (i + 1) (by omega) (by omega)
    rw [spec_BitsOk.l0, if_pos (by omega), w64 (by omega) (by omega), show (i : Int) + 1 = ((i + 1 : Nat) : Int) from rfl, h]
    simp only [l03Bit_f hp (show i < 64 by omega), l03Bit_f hm (show i < 64 by omega), Option.bind_some]
    have good : stepOk pv mv n i = true → fromB (stepOk pv mv n) i 64 = fromB (stepOk pv mv n) (i + 1) 64 := fromB_good
    have bad : stepOk pv mv n i = false → fromB (stepOk pv mv n) i 64 = false := fromB_bad (by omega)
    have sd : stepOk pv mv n i = (!(pv.testBit i && mv.testBit i) && (decide (i < n) || (!pv.testBit i && !mv.testBit i))) := rfl
    rw [sd] at good bad
    by_cases c : n ≤ i
    · have c' : (i : Int) ≥ (n : Int) := by omega
      simp only [c', if_true]
      rw [decide_eq_false (show ¬ i < n by omega)] at good bad
      cases hpb : pv.testBit i <;> cases hmb : mv.testBit i <;> rw [hpb, hmb] at good bad <;> simp only [if_true, if_false, Bool.false_eq_true]
      · rw [good rfl]
      · rw [bad rfl]; rfl
      · rw [bad rfl]; rfl
      · rw [bad rfl]; rfl
    · have c' : ¬ (i : Int) ≥ (n : Int) := by omega
      simp only [c', if_false]
      rw [decide_eq_true (show i < n by omega)] at good bad
      cases hpb : pv.testBit i <;> cases hmb : mv.testBit i <;> rw [hpb, hmb] at good bad <;> simp only [if_true, if_false, Bool.false_eq_true]
      · rw [good rfl]
      · rw [good rfl]
      · rw [good rfl]
      · rw [bad rfl]; rfl
theorem spec_BitsOk_f {pv mv : Nat} (hp : pv < 2 ^ 64) (hm : mv < 2 ^ 64) (sc ln : Int) {k : Nat} (hk : 200 < k) : spec_BitsOk.f k (pv : Int) (mv : Int) sc ln = some (bitsOkB pv mv sc ln) := by
  obtain ⟨k, rfl⟩ : ∃ q, k = q + 1 := ⟨k - 1, by omega⟩
  have no : spec_BitsOk.j0 (k + 1) true (pv : Int) (mv : Int) sc ln = some false := by rw [spec_BitsOk.j0, if_pos rfl]
  unfold spec_BitsOk.f bitsOkB
  by_cases h1 : ln < 0
  · rw [if_pos h1, no, decide_eq_false (by omega)]; rfl
  · rw [if_neg h1]
    by_cases h2 : ln > 32
    · rw [if_pos h2, no, decide_eq_false (by omega)]; rfl
    · rw [if_neg h2]
      by_cases h3 : sc < 0
      · rw [if_pos h3, no, decide_eq_false (by omega)]; rfl
      · rw [if_neg h3, spec_BitsOk.j0]
        by_cases h4 : sc > 64
        · rw [if_pos (decide_eq_true h4), decide_eq_false (by omega)]; rfl
        · obtain ⟨n, rfl⟩ := Int.eq_ofNat_of_zero_le (show 0 ≤ ln by omega)
          rw [if_neg (by simpa using h4), decide_eq_true (by omega), Int.toNat_natCast, Bool.true_and]
          have := spec_BitsOk_l0 hp hm (sc := sc) (by omega) (n := n) (by omega) 64 k 0 rfl (by omega)
          rw [show ((0 : Nat) : Int) = 0 from rfl] at this
          rw [this]
          rfl

theorem l06Power_l0 (n : Nat) : ∀ (k i : Nat), i + n ≤ 63 → n < k → spec_l06Power.l0 k (n : Int) ((2 ^ i : Nat) : Int) = some ((2 ^ (i + n) : Nat) : Int) := by
  induction n with
  | zero =>
    intro k i hi hk
    obtain ⟨k, rfl⟩ : ∃ q, k = q + 1 := ⟨k - 1, by omega⟩
    rw [spec_l06Power.l0, if_neg (by omega)]
    rfl
  | succ n ih =>
    intro k i hi hk
    obtain ⟨k, rfl⟩ : ∃ q, k = q + 1 := ⟨k - 1, by omega⟩
    have hp : 2 ^ (i + 1) ≤ 2 ^ 63 := Nat.pow_le_pow_right (by decide) (by omega)
    have hd := ih k (i + 1) (by omega) (by omega)
    rw [spec_l06Power.l0, if_pos (by omega), w64 (by omega) (by omega), u64_id (by rw [Nat.pow_succ] at hp; omega) (by rw [Nat.pow_succ] at hp; omega)]
    rw [show i + (n + 1) = i + 1 + n from by omega, ← hd, Nat.pow_succ]
    congr 1 <;> omega
theorem l06Power_f {n k : Nat} (hn : n ≤ 63) (hk : n < k) : spec_l06Power.f k (n : Int) = some ((2 ^ n : Nat) : Int) := by
  unfold spec_l06Power.f
  have := l06Power_l0 n k 0 (by omega) hk
  rw [Nat.zero_add] at this
  exact this

theorem l06Of_l0 (xs : List Int) (n : Nat) (hl : xs.length = n + 1) (hn : n ≤ 63) (hb : ∀ i : Nat, i ≤ n → -1000000 ≤ rd xs (i : Int) ∧ rd xs (i : Int) ≤ 1000000) (sc ln : Int) (d : Nat) : ∀ k i, i + d = n → d + 70 < k →
    spec_l06Of.l0 k xs (i : Int) ((sumN (upAt xs) i : Nat) : Int) ((sumN (dnAt xs) i : Nat) : Int) sc ln = some (((sumN (upAt xs) n : Nat) : Int), ((sumN (dnAt xs) n : Nat) : Int), sc, ln) := by
  induction d with
  | zero =>
    intro k i hi hk
    obtain ⟨k, rfl⟩ : ∃ q, k = q + 1 := ⟨k - 1, by omega⟩
    obtain rfl : i = n := by omega
    rw [spec_l06Of.l0, w64 (by omega) (by omega), if_neg (by omega)]
  | succ d ih =>
    intro k i hi hk
    obtain ⟨k, rfl⟩ : ∃ q, k = q + 1 := ⟨k - 1, by omega⟩
    have h := ih k (i + 1) (by omega) (by omega)
    have h1 := hb i (by omega)
    have h2 := hb (i + 1) (by omega)
    have u1 := sumN_lt (upAt xs) i
    have u2 := sumN_lt (dnAt xs) i
    have hp : 2 ^ i ≤ 2 ^ 62 := Nat.pow_le_pow_right (by decide) (by omega)
    rw [show ((i + 1 : Nat) : Int) = (i : Int) + 1 from rfl] at h2
    rw [spec_l06Of.l0, w64 (n := (i : Int) + 1) (by omega) (by omega), if_pos (by omega), if_pos (by omega), if_pos (by omega), if_pos (by omega), w64 (n := rd xs (i : Int) + 1) (by omega) (by omega), w64 (n := rd xs (i : Int) - 1) (by omega) (by omega)]
    simp only [l06Power_f (show i ≤ 63 by omega) (show i < k by omega), Option.bind_some]
    rw [sumN, sumN] at h
    by_cases c1 : rd xs ((i : Int) + 1) = rd xs (i : Int) + 1
    · have e1 : upAt xs i = true := decide_eq_true c1
      have e2 : dnAt xs i = false := decide_eq_false (by omega)
      rw [e1, e2] at h
      rw [if_pos c1, if_neg (by omega), u64_id (by omega) (by omega)]
      simpa using h
    · rw [if_neg c1]
      have e1 : upAt xs i = false := decide_eq_false c1
      by_cases c2 : rd xs ((i : Int) + 1) = rd xs (i : Int) - 1
      · have e2 : dnAt xs i = true := decide_eq_true c2
        rw [e1, e2] at h
        rw [if_pos c2, u64_id (by omega) (by omega)]
        simpa using h
      · have e2 : dnAt xs i = false := decide_eq_false c2
        rw [e1, e2] at h
        rw [if_neg c2]
        simpa using h
theorem l06Of_f (xs : List Int) (n : Nat) (hl : xs.length = n + 1) (hn : n ≤ 63) (hb : ∀ i : Nat, i ≤ n → -1000000 ≤ rd xs (i : Int) ∧ rd xs (i : Int) ≤ 1000000) {k : Nat} (hk : 140 < k) :
    spec_l06Of.f k xs = some (((sumN (upAt xs) n : Nat) : Int), ((sumN (dnAt xs) n : Nat) : Int), rd xs (n : Int), (n : Int)) := by
  unfold spec_l06Of.f
  have e : wrap64 ((xs.length : Int) - 1) = (n : Int) := by rw [w64 (by omega) (by omega)]; omega
  rw [e, if_pos (by omega), if_pos (by omega)]
  exact l06Of_l0 xs n hl hn hb _ _ n k 0 (by omega) (by omega)

theorem spec_BitsColumn_f {pv mv : Nat} (hp : pv < 2 ^ 64) (hm : mv < 2 ^ 64) (sc ln : Int) {k : Nat} (hk : 200 < k) :
    spec_BitsColumn.f k (pv : Int) (mv : Int) sc ln = some (if bitsOkB pv mv sc ln = true then colL pv mv sc ln.toNat ln.toNat else []) := by
  unfold spec_BitsColumn.f
  rw [spec_BitsOk_f hp hm sc ln hk, Option.bind_some]
  cases h : bitsOkB pv mv sc ln
  · simp only [Bool.false_eq_true, if_false]
  · obtain ⟨n, rfl, hn, h1, h2, _⟩ := okB_parts h
    rw [if_pos rfl, if_pos rfl, l06Column_f hp hm ⟨h1, h2⟩ hn (by omega), Option.bind_some, Int.toNat_natCast]

theorem spec_MyersStep_l0 (d : List Int) {n : Nat} (hn : n ≤ 32) (hl : d.length = n + 1) (hd : ∀ i : Nat, i ≤ n → 0 ≤ rd d (i : Int) ∧ rd d (i : Int) ≤ 64) {q : Nat} (hq : q < 2 ^ 64) (P M S : Int) (e : Nat) : ∀ (k i : Nat), i + e = n → e + 400 < k →
    spec_MyersStep.l0 k (q : Int) d (tab (nxV d q) (i + 1)) (i : Int) P M S (n : Int) =
      some (if bitsOkB (upsN (nxL d q n) n) (dnsN (nxL d q n) n) (nxV d q n) (n : Int) = true then (((upsN (nxL d q n) n : Nat) : Int), ((dnsN (nxL d q n) n : Nat) : Int), nxV d q n, (n : Int)) else (0, 0, 0, 0)) := by
  induction e with
  | zero =>
    intro k i hi hk
    obtain ⟨k, rfl⟩ : ∃ q, k = q + 1 := ⟨k - 1, by omega⟩
    obtain rfl : i = n := by omega
    have hb := nxV_bound d q i hd
    rw [spec_MyersStep.l0, if_neg (by omega), l06Of_f (tab (nxV d q) (i + 1)) i (tab_length _ _) (by omega) (fun j hj => by
      have := hb j hj
      rw [rd_tab _ (by omega)]
      omega) (by omega), Option.bind_some]
    dsimp only
    rw [rd_tab _ (by omega)]
    have h1 := ups_lt (nxL d q i) (n := i) (by omega)
    have h2 := dns_lt (nxL d q i) (n := i) (by omega)
    have := spec_BitsOk_f h1 h2 (nxV d q i) (i : Int) (k := k) (by omega)
    unfold upsN dnsN nxL at this ⊢
    rw [this, Option.bind_some]
    split <;> rfl
  | succ e ih =>
    intro k i hi hk
    obtain ⟨k, rfl⟩ : ∃ q, k = q + 1 := ⟨k - 1, by omega⟩
    have h := ih k (i + 1) (by omega) (by omega)
    have hb := nxV_bound d q n hd i (by omega)
    have h1 := hd (i + 1) (by omega)
    have h2 := hd i (by omega)
    rw [tab_succ, nxV] at h
    rw [spec_MyersStep.l0, if_pos (by omega), if_pos (by omega), if_pos (by omega), l03Bit_f hq (by omega), Option.bind_some, w64 (n := (i : Int) + 1) (by omega) (by omega), rd_tab _ (by omega), tab_length]
    rw [show (i : Int) + 1 = ((i + 1 : Nat) : Int) from rfl, w64 (n := nxV d q i + 1) (by omega) (by omega), w64 (n := rd d ((i + 1 : Nat) : Int) + 1) (by omega) (by omega), w64 (n := rd d (i : Int) + 1) (by omega) (by omega), mn_min, mn_min, mn_min]
    cases hbit : q.testBit i
    · rw [hbit] at h
      rw [if_neg (by decide), if_pos (by omega), if_pos (by omega), if_pos (by omega), if_pos (by omega)]
      rw [show rd d (i : Int) + 1 - (((false.toNat : Nat)) : Int) = rd d (i : Int) + 1 from by simp] at h
      exact h
    · rw [hbit] at h
      rw [if_pos rfl, if_pos (by omega), if_pos (by omega), if_pos (by omega), if_pos (by omega)]
      rw [show rd d (i : Int) + 1 - (((true.toNat : Nat)) : Int) = rd d (i : Int) from by simp] at h
      exact h
theorem spec_MyersStep_f {pv mv : Nat} (hp : pv < 2 ^ 64) (hm : mv < 2 ^ 64) (sc ln : Int) {q : Nat} (hq : q < 2 ^ 64) {k : Nat} (hk : 500 < k) :
    spec_MyersStep.f k (pv : Int) (mv : Int) sc ln (q : Int) = some (stepR pv mv sc ln q) := by
  unfold spec_MyersStep.f stepR
  rw [spec_BitsColumn_f hp hm sc ln (by omega), Option.bind_some]
  cases h : bitsOkB pv mv sc ln
  · simp only [Bool.false_eq_true, if_false]
    rfl
  · obtain ⟨n, rfl, hn, h1, h2, hc⟩ := okB_parts h
    have hb := colL_bound hc
    have h0 := hb 0 (by omega)
    rw [show ((0 : Nat) : Int) = 0 from rfl] at h0
    rw [if_pos rfl, if_pos rfl, Int.toNat_natCast, colL_length, if_neg (by omega), if_pos (by omega), w64 (by omega) (by omega)]
    exact spec_MyersStep_l0 (colL pv mv sc n n) hn (colL_length _ _ _ _ _) hb hq _ _ _ n k 0 (by omega) (by omega)

/-- the first column of a pattern of n bytes -/
theorem l06Of_id (n : Nat) (hn : n ≤ 63) {k : Nat} (hk : 140 < k) : spec_l06Of.f k (idL (n + 1)) = some (((2 ^ n - 1 : Nat) : Int), 0, (n : Int), (n : Int)) := by
  have hr : ∀ i : Nat, i ≤ n → rd (idL (n + 1)) (i : Int) = (i : Int) := fun i hi => rd_idL (by omega)
  rw [l06Of_f (idL (n + 1)) n (idL_length _) hn (fun i hi => by rw [hr i hi]; omega) hk, hr n (Nat.le_refl _)]
  rw [sumN_congr (p := upAt (idL (n + 1))) (q := fun _ => true) n (fun i hi => decide_eq_true (by
    have := hr (i + 1) (by omega)
    rw [show ((i + 1 : Nat) : Int) = (i : Int) + 1 from rfl] at this
    rw [this, hr i (by omega)])), sumN_true]
  rw [sumN_congr (p := dnAt (idL (n + 1))) (q := fun _ => false) n (fun i hi => decide_eq_false (by
    have := hr (i + 1) (by omega)
    rw [show ((i + 1 : Nat) : Int) = (i : Int) + 1 from rfl] at this
    rw [this, hr i (by omega)]
    omega)), sumN_false]
  rfl
theorem spec_MyersStart_l0 (s : ByteArray) (hs : s.size ≤ 32) (d : Nat) : ∀ k i, i + d = s.size + 1 → d + 150 < k →
    spec_MyersStart.l0 k s (idL i) (i : Int) = some (((2 ^ s.size - 1 : Nat) : Int), 0, (s.size : Int), (s.size : Int)) := by
  induction d with
  | zero =>
    intro k i hi hk
    obtain ⟨k, rfl⟩ : ∃ q, k = q + 1 := ⟨k - 1, by omega⟩
    obtain rfl : i = s.size + 1 := by omega
    rw [spec_MyersStart.l0, if_neg (by omega), l06Of_id s.size (by omega) (by omega)]
    rfl
  | succ d ih =>
    intro k i hi hk
    obtain ⟨k, rfl⟩ : ∃ q, k = q + 1 := ⟨k - 1, by omega⟩
    have h := ih k (i + 1) (by omega) (by omega)
    rw [idL_succ] at h
    rw [spec_MyersStart.l0, if_pos (by omega), if_pos (by rw [idL_length]; omega), w64 (by omega) (by omega)]
    exact h
theorem spec_MyersStart_f (s : ByteArray) (hs : s.size ≤ 32) {k : Nat} (hk : 200 < k) : spec_MyersStart.f k s = some (((2 ^ s.size - 1 : Nat) : Int), 0, (s.size : Int), (s.size : Int)) := by
  unfold spec_MyersStart.f
  rw [if_neg (by omega)]
  exact spec_MyersStart_l0 s hs (s.size + 1) k 0 (by omega) (by omega)

theorem spec_MyersPeq_l0 (s : ByteArray) (b : Int) (hs : s.size ≤ 32) (d : Nat) : ∀ (k i : Nat), i ≤ s.size → s.size - i = d → 2 * d + 40 < k →
    spec_MyersPeq.l0 k s b ((peqN s b i : Nat) : Int) (i : Int) = some ((peqN s b s.size : Nat) : Int) := by
  induction d with
  | zero =>
    intro k i hi hd hk
    obtain ⟨k, rfl⟩ : ∃ q, k = q + 1 + 1 := ⟨k - 2, by omega⟩
    obtain rfl : i = s.size := by omega
    rw [spec_MyersPeq.l0, if_neg (by omega), spec_MyersPeq.j1, if_neg (by decide)]
  | succ d ih =>
    intro k i hi hd hk
    obtain ⟨k, rfl⟩ : ∃ q, k = q + 1 + 1 := ⟨k - 2, by omega⟩
    have h := ih k (i + 1) (by omega) (by omega) (by omega)
    have hl := peqN_lt s b i
    have hp : 2 ^ (i + 1) ≤ 2 ^ 63 := Nat.pow_le_pow_right (by decide) (by omega)
    rw [Nat.pow_succ] at hp
    rw [spec_MyersPeq.l0, if_pos (by omega), spec_MyersPeq.j1, if_pos (by simp only [decide_eq_true_eq]; omega), if_pos (by omega), if_pos (by omega)]
    rw [w64 (by omega) (by omega)]
    by_cases e : bt s (i : Int) = b
    · rw [if_pos e, l06Power_f (by omega) (by omega)]
      simp only [Option.bind_some]
      rw [← h, u64_id (by omega) (by omega), peqN, if_pos e]
      congr 1
    · rw [if_neg e, ← h, peqN, if_neg e]
      congr 1
theorem spec_MyersPeq_f (s : ByteArray) (b : Int) (hs : s.size ≤ 32) {k : Nat} (hk : 2 * s.size + 40 < k) : spec_MyersPeq.f k s b = some ((peqN s b s.size : Nat) : Int) := by
  unfold spec_MyersPeq.f
  exact spec_MyersPeq_l0 s b hs s.size k 0 (by omega) (by omega) (by omega)
theorem spec_MyersPeq_long (s : ByteArray) (b : Int) (hs : ¬ s.size ≤ 32) {k : Nat} (hk : 2 < k) : spec_MyersPeq.f k s b = some 0 := by
  obtain ⟨k, rfl⟩ : ∃ q, k = q + 1 + 1 := ⟨k - 2, by omega⟩
  unfold spec_MyersPeq.f
  rw [spec_MyersPeq.l0, if_pos (by omega), spec_MyersPeq.j1, if_neg (by simp only [decide_eq_true_eq]; omega)]

theorem costs_rdL : rd_L1 = rdL := rfl
theorem costs_cell (s t : ByteArray) (hs : s.size ≤ 32) (ht : t.size ≤ 32) (i j k : Nat) (T : List (List Int)) (hi : i ≤ s.size) (hj : j + 1 ≤ t.size + 1) (hT : Tab s t T i (j + 1))
    (ih : ∀ T', i ≤ s.size → j ≤ t.size + 1 → i * 40 + j + 2 ≤ k → Tab s t T' i j → ∃ R, impl_costs.l1 k s t T' (i : Int) ((j : Int) - 1) = some R ∧ TabR s t R 0) (hk : i * 40 + j + 2 ≤ k) :
    ∃ R, impl_costs.l1 (k + 1) s t T (i : Int) (((j + 1 : Nat) : Int) - 1) = some R ∧ TabR s t R 0 := by
  have hl := hT.1
  have hr := hT.len (Nat.le_refl _) hi
  have hb := levAt_le s t
  rw [show (((j + 1 : Nat) : Int) - 1) = (j : Int) from by omega, impl_costs.l1, if_pos (by omega)]
  simp only [costs_rdL, w64 (show -9223372036854775808 ≤ (j : Int) - 1 by omega) (by omega), w64 (show -9223372036854775808 ≤ (i : Int) + 1 by omega) (by omega), w64 (show -9223372036854775808 ≤ (j : Int) + 1 by omega) (by omega)]
  by_cases e1 : i = s.size
  · rw [if_pos (by omega), if_pos (by omega), if_pos (by omega), if_pos (by omega), if_pos (by rw [hr]; omega)]
    rw [Int.toNat_natCast, Int.toNat_natCast]
    refine ih _ hi (by omega) hk (hT.put hi (by omega) ?_)
    rw [w64 (by omega) (by omega), e1, levAt_end]
    omega
  · rw [if_neg (by omega)]
    by_cases e2 : j = t.size
    · rw [if_pos (by omega), if_pos (by omega), if_pos (by omega), if_pos (by omega), if_pos (by rw [hr]; omega)]
      rw [Int.toNat_natCast, Int.toNat_natCast]
      refine ih _ hi (by omega) hk (hT.put hi (by omega) ?_)
      rw [w64 (by omega) (by omega), e2, levAt_end']
      omega
    · rw [if_neg (by omega)]
      have hr1 := hT.len (show i ≤ i + 1 by omega) (by omega)
      have c1 := hT.2.2 (i + 1) (j + 1) (by omega) (by omega) (by omega)
      have c2 := hT.2.2 (i + 1) j (by omega) (by omega) (by omega)
      have c3 := hT.2.2 i (j + 1) (by omega) (by omega) (by omega)
      have b1 := hb (i + 1) (j + 1)
      have b2 := hb (i + 1) j
      have b3 := hb i (j + 1)
      have hst := levAt_step s t (show i < s.size by omega) (show j < t.size by omega)
      rw [show ((i : Int) + 1) = ((i + 1 : Nat) : Int) from rfl, show ((j : Int) + 1) = ((j + 1 : Nat) : Int) from rfl]
      simp only [c1, c2, c3, hr, hr1, hl]
      by_cases e3 : bt s (i : Int) = bt t (j : Int)
      · rw [ne01, if_pos e3] at hst
        repeat rw [if_pos (by first | exact e3 | omega)]
        rw [Int.toNat_natCast, Int.toNat_natCast]
        refine ih _ hi (by omega) hk (hT.put hi (by omega) ?_)
        exact step_eq' (by omega) (by omega) (by omega) hst
      · rw [ne01, if_neg e3] at hst
        repeat first | rw [if_pos (by omega)] | rw [if_neg e3]
        rw [Int.toNat_natCast, Int.toNat_natCast]
        refine ih _ hi (by omega) hk (hT.put hi (by omega) ?_)
        exact step_ne' (by omega) (by omega) (by omega) hst
theorem costs_l1 (s t : ByteArray) (hs : s.size ≤ 32) (ht : t.size ≤ 32) (i : Nat) : ∀ (j k : Nat) (T : List (List Int)), i ≤ s.size → j ≤ t.size + 1 → i * 40 + j + 2 ≤ k → Tab s t T i j →
    ∃ R, impl_costs.l1 k s t T (i : Int) ((j : Int) - 1) = some R ∧ TabR s t R 0 := by
  induction i with
  | zero =>
    intro j
    induction j with
    | zero =>
      intro k T hi hj hk hT
      obtain ⟨k, rfl⟩ : ∃ q, k = q + 1 + 1 := ⟨k - 2, by omega⟩
      refine ⟨T, ?_, hT.rows⟩
      rw [impl_costs.l1, if_neg (by omega), w64 (by omega) (by omega), impl_costs.l0, if_neg (by omega)]
    | succ j ihj =>
      intro k T hi hj hk hT
      obtain ⟨k, rfl⟩ : ∃ q, k = q + 1 := ⟨k - 1, by omega⟩
      exact costs_cell s t hs ht 0 j k T hi hj hT (ihj k)
        (by omega)
  | succ i ih =>
    intro j
    induction j with
    | zero =>
      intro k T hi hj hk hT
      obtain ⟨k, rfl⟩ : ∃ q, k = q + 1 + 1 := ⟨k - 2, by omega⟩
      have hr := hT.rows.row (by omega) (List.replicate (t.size + 1) 0) (by simp)
      have hl := hT.1
      obtain ⟨R, h1, h2⟩ := ih (t.size + 1) k _ (by omega) (Nat.le_refl _) (by omega) hr
      refine ⟨R, ?_, h2⟩
      rw [impl_costs.l1, if_neg (by omega), w64 (by omega) (by omega), impl_costs.l0, if_pos (by omega), w64 (by omega) (by omega)]
      rw [if_pos (by omega), if_pos (by omega), if_pos (by omega), if_pos (by omega)]
      rw [show (((i + 1 : Nat) : Int) - 1) = (i : Int) from by omega, show (((t.size : Nat) : Int) + 1).toNat = t.size + 1 from by omega, Int.toNat_natCast]
      rw [show (((t.size + 1 : Nat) : Int) - 1) = (t.size : Int) from by omega] at h1
      exact h1
    | succ j ihj =>
      intro k T hi hj hk hT
      obtain ⟨k, rfl⟩ : ∃ q, k = q + 1 := ⟨k - 1, by omega⟩
      exact costs_cell s t hs ht (i + 1) j k T hi hj hT (ihj k)
        (by omega)
theorem costs_f (s t : ByteArray) (hs : s.size ≤ 32) (ht : t.size ≤ 32) {k : Nat} (hk : 1400 < k) : ∃ R, impl_costs.f k s t = some R ∧ TabR s t R 0 := by
  obtain ⟨k, rfl⟩ : ∃ q, k = q + 1 := ⟨k - 1, by omega⟩
  have h0 := (TabR.start s t).row (Nat.le_refl _) (List.replicate (t.size + 1) 0) (by simp)
  obtain ⟨R, h1, h2⟩ := costs_l1 s t hs ht s.size (t.size + 1) k _ (Nat.le_refl _) (Nat.le_refl _) (by omega) h0
  refine ⟨R, ?_, h2⟩
  unfold impl_costs.f
  rw [w64 (by omega) (by omega), if_pos (by omega), if_pos (by omega), impl_costs.l0, if_pos (by omega), w64 (by omega) (by omega), if_pos (by omega), if_pos (by omega), if_pos (by omega), if_pos (by rw [List.length_replicate]; omega)]
  rw [show (((s.size : Nat) : Int) + 1).toNat = s.size + 1 from by omega, show (((t.size : Nat) : Int) + 1).toNat = t.size + 1 from by omega, Int.toNat_natCast]
  rw [show (((t.size + 1 : Nat) : Int) - 1) = (t.size : Int) from by omega] at h1
  exact h1

theorem l05Long_g (s t : ByteArray) : spec_l05Long.f s t = some (decide (32 < s.size ∨ 32 < t.size)) := by
  unfold spec_l05Long.f
  by_cases h : (s.size : Int) > 32
  · rw [if_pos h, decide_eq_true (by omega)]
  · rw [if_neg h]; congr 1; rw [decide_eq_decide]; omega

theorem spec_MyersRun_l0 (p t : ByteArray) (hp : p.size ≤ 32) (ht : t.size ≤ 32) (d : Nat) : ∀ (k n : Nat), n + d = t.size → d + 600 < k →
    spec_MyersRun.l0 k p t (n : Int) ((upsN (dcL p t n) p.size : Nat) : Int) ((dnsN (dcL p t n) p.size : Nat) : Int) (rd (dcL p t n) (p.size : Int)) (p.size : Int) = some (lev (bytesOf p) (bytesOf t) : Int) := by
  induction d with
  | zero =>
    intro k n hn hk
    obtain ⟨k, rfl⟩ : ∃ q, k = q + 1 := ⟨k - 1, by omega⟩
    obtain rfl : n = t.size := by omega
    rw [spec_MyersRun.l0, if_neg (by omega), rd_dcL p t _ (Nat.le_refl _), dcol_all]
  | succ d ih =>
    intro k n hn hk
    obtain ⟨k, rfl⟩ : ∃ q, k = q + 1 := ⟨k - 1, by omega⟩
    have h := ih k (n + 1) (by omega) (by omega)
    have hq : peqN p (bt t (n : Int)) p.size < 2 ^ 64 := Nat.lt_of_lt_of_le (peqN_lt _ _ _) (Nat.pow_le_pow_right (by decide) (by omega))
    rw [spec_MyersRun.l0, if_pos (by omega), if_pos (by omega), spec_MyersPeq_f p _ hp (by omega), Option.bind_some, spec_MyersStep_f (ups_lt _ (by omega)) (dns_lt _ (by omega)) _ _ hq (by omega), Option.bind_some, stepR_dcL p t hp ht (by omega), w64 (by omega) (by omega)]
    exact h
theorem FnExactMyersRun : laws_FnExactMyersRun.Pure := by
  intro p t _ _
  obtain ⟨K, hK⟩ : ∃ K : Nat, 1500 ≤ K := ⟨1500, Nat.le_refl _⟩
  refine ⟨K, ?_⟩
  have e : spec_MyersRun.f K p t = impl_MyersRun.f K p t ∧ ∃ r, impl_MyersRun.f K p t = some r := by
    unfold spec_MyersRun.f impl_MyersRun.f
    rw [l05Long_g, Option.bind_some]
    by_cases h : p.size ≤ 32 ∧ t.size ≤ 32
    · obtain ⟨R, h1, h2⟩ := costs_f p t h.1 h.2 (show 1400 < K by omega)
      obtain ⟨r1, r2, r3⟩ := h2.top
      obtain ⟨s1, s2, s3⟩ := start_ups p t
      have hr := spec_MyersRun_l0 p t h.1 h.2 t.size K 0 (by omega) (by omega)
      rw [s1, s2, s3] at hr
      rw [if_neg (by simp only [decide_eq_true_eq]; omega), if_neg (by omega), if_neg (by omega), spec_MyersStart_f p h.1 (by omega), Option.bind_some, h1, Option.bind_some, costs_rdL, if_pos (by omega), if_pos (by omega), r3, levAt_top]
      exact ⟨hr, _, rfl⟩
    · rw [if_pos (by simp only [decide_eq_true_eq]; omega)]
      by_cases h1 : (p.size : Int) > 32
      · rw [if_pos h1]; exact ⟨rfl, _, rfl⟩
      · rw [if_neg h1, if_pos (by omega)]; exact ⟨rfl, _, rfl⟩
  obtain ⟨e1, r, e2⟩ := e
  unfold laws_FnExactMyersRun.f
  rw [e1, e2]
  simp

end Go.Proofs.Ytnmalfhdndnelaa.Pure
