/- The column of edit distances that follows another one, and that it is the column of the longer text, in plain Lean; no program in sight. -/
import Derived.Test.YtbibgmmoompoiaaLibCol
import Derived.Test.YtbibgmmoompoiaaLibLev
set_option linter.unusedVariables false
set_option linter.unusedSimpArgs false
namespace Go.Proofs.Ytbibgmmoompoiaa.L
open Go.RowKit Go.Proofs.YtbibgmmoompoiaaW.PrintWords

theorem mn_min (a b : Int) : mn a b = min a b := by unfold mn; split <;> omega
/-- the values of the column that follows d, where q tells the places at which the byte stands -/
def nxV (d : List Int) (q : Nat) : Nat → Int
  | 0 => rd d 0 + 1
  | i + 1 => min (min (nxV d q i + 1) (rd d ((i + 1 : Nat) : Int) + 1)) (rd d (i : Int) + 1 - ((q.testBit i).toNat : Int))
theorem nxV_bound (d : List Int) (q n : Nat) (h : ∀ i : Nat, i ≤ n → 0 ≤ rd d (i : Int) ∧ rd d (i : Int) ≤ 64) : ∀ i, i ≤ n → 0 ≤ nxV d q i ∧ nxV d q i ≤ 65
  | 0 => fun hi => by
    have := h 0 hi
    rw [nxV]
    rw [show ((0 : Nat) : Int) = 0 from rfl] at this
    omega
  | i + 1 => fun hi => by
    have ih := nxV_bound d q n h i (by omega)
    have h1 := h (i + 1) hi
    have h2 := h i (by omega)
    have hb : (q.testBit i).toNat ≤ 1 := by cases q.testBit i <;> simp
    rw [nxV]
    omega
/-- the column as a list -/
def nxL (d : List Int) (q n : Nat) : List Int := tab (nxV d q) (n + 1)
/-- the two numbers of steps of a column -/
def upsN (e : List Int) (n : Nat) : Nat := sumN (upAt e) n
def dnsN (e : List Int) (n : Nat) : Nat := sumN (dnAt e) n
theorem ups_lt (e : List Int) {n : Nat} (hn : n ≤ 63) : upsN e n < 2 ^ 64 := Nat.lt_of_lt_of_le (sumN_lt _ n) (Nat.pow_le_pow_right (by decide) (by omega))
theorem dns_lt (e : List Int) {n : Nat} (hn : n ≤ 63) : dnsN e n < 2 ^ 64 := Nat.lt_of_lt_of_le (sumN_lt _ n) (Nat.pow_le_pow_right (by decide) (by omega))
/-- what MyersStep tells -/
def stepR (pv mv : Nat) (sc ln : Int) (q : Nat) : Int × Int × Int × Int :=
  if bitsOkB pv mv sc ln = true then
    if bitsOkB (upsN (nxL (colL pv mv sc ln.toNat ln.toNat) q ln.toNat) ln.toNat) (dnsN (nxL (colL pv mv sc ln.toNat ln.toNat) q ln.toNat) ln.toNat) (nxV (colL pv mv sc ln.toNat ln.toNat) q ln.toNat) ln = true then
      (((upsN (nxL (colL pv mv sc ln.toNat ln.toNat) q ln.toNat) ln.toNat : Nat) : Int), ((dnsN (nxL (colL pv mv sc ln.toNat ln.toNat) q ln.toNat) ln.toNat : Nat) : Int), nxV (colL pv mv sc ln.toNat ln.toNat) q ln.toNat, ln)
    else (0, 0, 0, 0)
  else (0, 0, 0, 0)
theorem okB_parts {pv mv : Nat} {sc ln : Int} (h : bitsOkB pv mv sc ln = true) : ∃ n : Nat, ln = (n : Int) ∧ n ≤ 32 ∧ 0 ≤ sc ∧ sc ≤ 64 ∧ colB pv mv sc n n = true := by
  unfold bitsOkB at h
  rw [Bool.and_eq_true, Bool.and_eq_true, decide_eq_true_iff] at h
  refine ⟨ln.toNat, by omega, by omega, h.1.2.2.1, h.1.2.2.2, h.2.2⟩
theorem colL_bound {pv mv : Nat} {sc : Int} {n : Nat} (h : colB pv mv sc n n = true) : ∀ i : Nat, i ≤ n → 0 ≤ rd (colL pv mv sc n n) (i : Int) ∧ rd (colL pv mv sc n n) (i : Int) ≤ 64 := by
  intro i hi
  rw [rd_colL pv mv sc n n i hi]
  unfold colB at h
  rw [decide_eq_true_iff] at h
  exact h (n - i) (by omega)
/-- a column whose neighbours are near one another is told by its steps -/
theorem col_of_steps (e : List Int) {n : Nat} (hn : n ≤ 63) (hnear : ∀ i : Nat, i < n → rd e ((i : Int) + 1) = rd e (i : Int) + 1 ∨ rd e ((i : Int) + 1) = rd e (i : Int) ∨ rd e ((i : Int) + 1) = rd e (i : Int) - 1) :
    ∀ d, d ≤ n → colD (upsN e n) (dnsN e n) (rd e (n : Int)) n d = rd e ((n - d : Nat) : Int)
  | 0 => fun _ => rfl
  | d + 1 => fun h => by
    have ih := col_of_steps e hn hnear d (by omega)
    have hs := hnear (n - (d + 1)) (by omega)
    rw [colD, ih, upsN, dnsN, sumN_bit _ n (by omega), sumN_bit _ n (by omega), upAt, dnAt]
    rw [show ((n - d : Nat) : Int) = ((n - (d + 1) : Nat) : Int) + 1 from by omega]
    generalize rd e (((n - (d + 1) : Nat) : Int) + 1) = u at *
    generalize rd e ((n - (d + 1) : Nat) : Int) = v at *
    rcases hs with hs | hs | hs
    · rw [decide_eq_true hs, decide_eq_false (by omega)]; simp; omega
    · rw [decide_eq_false (by omega), decide_eq_false (by omega)]; simp; omega
    · rw [decide_eq_false (by omega), decide_eq_true hs]; simp; omega
theorem ok_of_steps (e : List Int) {n : Nat} (hn : n ≤ 32) (hnear : ∀ i : Nat, i < n → rd e ((i : Int) + 1) = rd e (i : Int) + 1 ∨ rd e ((i : Int) + 1) = rd e (i : Int) ∨ rd e ((i : Int) + 1) = rd e (i : Int) - 1)
    (hb : ∀ i : Nat, i ≤ n → 0 ≤ rd e (i : Int) ∧ rd e (i : Int) ≤ 64) : bitsOkB (upsN e n) (dnsN e n) (rd e (n : Int)) (n : Int) = true := by
  have hbn := hb n (Nat.le_refl _)
  unfold bitsOkB
  rw [Int.toNat_natCast, decide_eq_true (by omega), Bool.true_and, Bool.and_eq_true]
  constructor
  · unfold bitsB
    rw [fromB_iff]
    intro i hi _
    unfold stepOk
    by_cases c : i < n
    · rw [decide_eq_true c, upsN, dnsN, sumN_bit _ n c, sumN_bit _ n c, upAt, dnAt]
      by_cases c1 : rd e ((i : Int) + 1) = rd e (i : Int) + 1
      · rw [decide_eq_true c1, decide_eq_false (by omega)]; rfl
      · rw [decide_eq_false c1]; simp
    · have l1 := sumN_lt (upAt e) n
      have l2 := sumN_lt (dnAt e) n
      have hp : 2 ^ n ≤ 2 ^ i := Nat.pow_le_pow_right (by decide) (by omega)
      rw [upsN, dnsN, Nat.testBit_lt_two_pow (Nat.lt_of_lt_of_le l1 hp), Nat.testBit_lt_two_pow (Nat.lt_of_lt_of_le l2 hp)]
      simp
  · unfold colB
    rw [decide_eq_true_iff]
    intro d hd
    rw [col_of_steps e (by omega) hnear d hd]
    exact hb (n - d) (by omega)
theorem colL_of_steps (e : List Int) {n : Nat} (hl : e.length = n + 1) (hn : n ≤ 63) (hnear : ∀ i : Nat, i < n → rd e ((i : Int) + 1) = rd e (i : Int) + 1 ∨ rd e ((i : Int) + 1) = rd e (i : Int) ∨ rd e ((i : Int) + 1) = rd e (i : Int) - 1) :
    colL (upsN e n) (dnsN e n) (rd e (n : Int)) n n = e := by
  refine list_ext_rd (by rw [colL_length, hl]) (fun i hi => ?_)
  rw [colL_length] at hi
  rw [rd_colL _ _ _ _ _ i (by omega), col_of_steps e hn hnear _ (by omega)]
  congr 1
  omega

/-! ### the columns of two strings -/
/-- the distance of the first i bytes of p from the first n of t -/
def dcol (p t : ByteArray) (n i : Nat) : Nat := lev ((bytesOf p).take i) ((bytesOf t).take n)
/-- the column behind the first n bytes of t -/
def dcL (p t : ByteArray) (n : Nat) : List Int := tab (fun i => ((dcol p t n i : Nat) : Int)) (p.size + 1)
theorem dcL_length (p t : ByteArray) (n : Nat) : (dcL p t n).length = p.size + 1 := tab_length _ _
theorem rd_dcL (p t : ByteArray) (n : Nat) {i : Nat} (h : i ≤ p.size) : rd (dcL p t n) (i : Int) = ((dcol p t n i : Nat) : Int) := rd_tab _ (by omega)
theorem dcol_le (p t : ByteArray) (n i : Nat) : dcol p t n i ≤ max p.size t.size := by
  have := (lev_gap ((bytesOf p).take i) ((bytesOf t).take n)).2.2
  unfold dcol
  rw [List.length_take, List.length_take, bytesOf_length, bytesOf_length] at this
  omega
theorem take_snoc_bytes (s : ByteArray) {i : Nat} (h : i < s.size) : (bytesOf s).take (i + 1) = (bytesOf s).take i ++ [bt s (i : Int)] := by
  rw [List.take_succ_eq_append_getElem (by rw [bytesOf_length]; exact h), bytesOf_get s i h]
theorem dcol_zero (p t : ByteArray) {i : Nat} (h : i ≤ p.size) : dcol p t 0 i = i := by
  unfold dcol
  rw [List.take_zero, lev_nil', List.length_take, bytesOf_length]
  omega
theorem dcol_first (p t : ByteArray) {n : Nat} (h : n ≤ t.size) : dcol p t n 0 = n := by
  unfold dcol
  rw [List.take_zero, lev_nil, List.length_take, bytesOf_length]
  omega
theorem dcol_step (p t : ByteArray) {i n : Nat} (hi : i < p.size) (hn : n < t.size) :
    dcol p t (n + 1) (i + 1) = min (min (dcol p t n i + ne01 (bt p (i : Int)) (bt t (n : Int))) (dcol p t (n + 1) i + 1)) (dcol p t n (i + 1) + 1) := by
  unfold dcol
  rw [take_snoc_bytes p hi, take_snoc_bytes t hn, lev_snoc]
theorem dcL_near (p t : ByteArray) (n : Nat) : ∀ i : Nat, i < p.size → rd (dcL p t n) ((i : Int) + 1) = rd (dcL p t n) (i : Int) + 1 ∨ rd (dcL p t n) ((i : Int) + 1) = rd (dcL p t n) (i : Int) ∨ rd (dcL p t n) ((i : Int) + 1) = rd (dcL p t n) (i : Int) - 1 := by
  intro i hi
  have h1 := rd_dcL p t n (show i ≤ p.size by omega)
  have h2 := rd_dcL p t n (show i + 1 ≤ p.size by omega)
  have h3 := lev_near (bt p (i : Int)) ((bytesOf p).take i) ((bytesOf t).take n)
  rw [show ((i + 1 : Nat) : Int) = (i : Int) + 1 from rfl] at h2
  rw [h1, h2]
  unfold dcol
  rw [take_snoc_bytes p hi]
  omega
theorem dcL_bound (p t : ByteArray) (hp : p.size ≤ 32) (ht : t.size ≤ 32) (n : Nat) : ∀ i : Nat, i ≤ p.size → 0 ≤ rd (dcL p t n) (i : Int) ∧ rd (dcL p t n) (i : Int) ≤ 64 := by
  intro i hi
  have := dcol_le p t n i
  rw [rd_dcL p t n hi]
  omega
theorem dcL_ok (p t : ByteArray) (hp : p.size ≤ 32) (ht : t.size ≤ 32) (n : Nat) : bitsOkB (upsN (dcL p t n) p.size) (dnsN (dcL p t n) p.size) (rd (dcL p t n) (p.size : Int)) (p.size : Int) = true :=
  ok_of_steps _ hp (dcL_near p t n) (dcL_bound p t hp ht n)
theorem dcL_col (p t : ByteArray) (hp : p.size ≤ 32) (n : Nat) : colL (upsN (dcL p t n) p.size) (dnsN (dcL p t n) p.size) (rd (dcL p t n) (p.size : Int)) p.size p.size = dcL p t n :=
  colL_of_steps _ (dcL_length p t n) (by omega) (dcL_near p t n)
theorem peqN_bit (s : ByteArray) (b : Int) {i : Nat} : ∀ n, i < n → (peqN s b n).testBit i = decide (bt s (i : Int) = b)
  | 0 => fun h => by omega
  | n + 1 => fun h => by
    have hl := peqN_lt s b n
    rw [peqN]
    by_cases e : i = n
    · subst e
      by_cases c : bt s (i : Int) = b
      · rw [if_pos c, decide_eq_true c, Nat.add_comm, Nat.testBit_two_pow_add_eq, Nat.testBit_lt_two_pow hl]; rfl
      · rw [if_neg c, decide_eq_false c, Nat.add_zero, Nat.testBit_lt_two_pow hl]
    · have ih := peqN_bit s b (i := i) n (by omega)
      by_cases c : bt s (n : Int) = b
      · rw [if_pos c, Nat.add_comm, Nat.testBit_two_pow_add_gt (by omega), ih]
      · rw [if_neg c, Nat.add_zero, ih]
theorem nxV_dcol (p t : ByteArray) {n : Nat} (hn : n < t.size) : ∀ i, i ≤ p.size → nxV (dcL p t n) (peqN p (bt t (n : Int)) p.size) i = ((dcol p t (n + 1) i : Nat) : Int)
  | 0 => fun _ => by
    have := rd_dcL p t n (show 0 ≤ p.size by omega)
    rw [show ((0 : Nat) : Int) = 0 from rfl] at this
    rw [nxV, this, dcol_first p t (by omega), dcol_first p t (by omega)]
    omega
  | i + 1 => fun hi => by
    have ih := nxV_dcol p t hn i (by omega)
    have hs := dcol_step p t (show i < p.size by omega) hn
    rw [nxV, ih, rd_dcL p t n hi, rd_dcL p t n (show i ≤ p.size by omega), peqN_bit _ _ _ (show i < p.size by omega), hs]
    unfold ne01
    by_cases c : bt p (i : Int) = bt t (n : Int)
    · rw [if_pos c, decide_eq_true c]; simp only [Bool.toNat_true]; omega
    · rw [if_neg c, decide_eq_false c]; simp only [Bool.toNat_false]; omega
theorem nxL_dcL (p t : ByteArray) {n : Nat} (hn : n < t.size) : nxL (dcL p t n) (peqN p (bt t (n : Int)) p.size) p.size = dcL p t (n + 1) := by
  refine list_ext_rd (by rw [nxL, tab_length, dcL_length]) (fun i hi => ?_)
  rw [nxL, tab_length] at hi
  rw [nxL, rd_tab _ hi, nxV_dcol p t hn i (by omega), rd_dcL p t (n + 1) (by omega)]
/-- a step from the column of the first n bytes leads to that of the first n + 1 -/
theorem stepR_dcL (p t : ByteArray) (hp : p.size ≤ 32) (ht : t.size ≤ 32) {n : Nat} (hn : n < t.size) :
    stepR (upsN (dcL p t n) p.size) (dnsN (dcL p t n) p.size) (rd (dcL p t n) (p.size : Int)) (p.size : Int) (peqN p (bt t (n : Int)) p.size) =
      (((upsN (dcL p t (n + 1)) p.size : Nat) : Int), ((dnsN (dcL p t (n + 1)) p.size : Nat) : Int), rd (dcL p t (n + 1)) (p.size : Int), (p.size : Int)) := by
  unfold stepR
  rw [Int.toNat_natCast, if_pos (dcL_ok p t hp ht n), dcL_col p t hp n, nxL_dcL p t hn, nxV_dcol p t hn p.size (Nat.le_refl _), ← rd_dcL p t (n + 1) (Nat.le_refl _), if_pos (dcL_ok p t hp ht (n + 1))]
/-- the first column -/
theorem dcL_start (p t : ByteArray) : dcL p t 0 = idL (p.size + 1) := by
  refine list_ext_rd (by rw [dcL_length, idL_length]) (fun i hi => ?_)
  rw [dcL_length] at hi
  rw [rd_dcL p t 0 (by omega), rd_idL (by omega), dcol_zero p t (by omega)]
theorem start_ups (p t : ByteArray) : upsN (dcL p t 0) p.size = 2 ^ p.size - 1 ∧ dnsN (dcL p t 0) p.size = 0 ∧ rd (dcL p t 0) (p.size : Int) = (p.size : Int) := by
  have hr : ∀ i : Nat, i ≤ p.size → rd (idL (p.size + 1)) (i : Int) = (i : Int) := fun i hi => rd_idL (by omega)
  rw [dcL_start]
  unfold upsN dnsN
  refine ⟨?_, ?_, hr _ (Nat.le_refl _)⟩
  · rw [sumN_congr (p := upAt (idL (p.size + 1))) (q := fun _ => true) p.size (fun i hi => decide_eq_true (by
      have := hr (i + 1) (by omega)
      rw [show ((i + 1 : Nat) : Int) = (i : Int) + 1 from rfl] at this
      rw [this, hr i (by omega)])), sumN_true]
  · rw [sumN_congr (p := dnAt (idL (p.size + 1))) (q := fun _ => false) p.size (fun i hi => decide_eq_false (by
      have := hr (i + 1) (by omega)
      rw [show ((i + 1 : Nat) : Int) = (i : Int) + 1 from rfl] at this
      rw [this, hr i (by omega)]
      omega)), sumN_false]
theorem dcol_all (p t : ByteArray) : dcol p t t.size p.size = lev (bytesOf p) (bytesOf t) := by
  unfold dcol
  rw [List.take_of_length_le (by rw [bytesOf_length]; omega), List.take_of_length_le (by rw [bytesOf_length]; omega)]
end Go.Proofs.Ytbibgmmoompoiaa.L
