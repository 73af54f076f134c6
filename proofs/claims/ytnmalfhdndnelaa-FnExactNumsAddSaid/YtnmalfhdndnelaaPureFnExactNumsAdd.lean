/- The law FnExactNumsAdd holds of the program: whatever its arguments (of the kinds and sizes that the statement names), it answers true. -/
import Derived.Test.YtnmalfhdndnelaaQFnExactNumsAddx3
import Derived.Test.YtnmalfhdndnelaaLib
import Derived.Test.YtnmalfhdndnelaaLibLane
set_option linter.unusedVariables false
set_option linter.unusedSimpArgs false
namespace Go.Proofs.Ytnmalfhdndnelaa.Pure
open Go.RowKit Go.Proofs.Ytnmalfhdndnelaa.PFnExactNumsAdd Go.Proofs.YtnmalfhdndnelaaW.PrintWords Go.Proofs.YtnmalfhdndnelaaW.PrintLast Go.Proofs.Ytnmalfhdndnelaa.L 

theorem l06Power_l0 (n : Nat) : ∀ (k i : Nat), i + n ≤ 63 → n < k → spec_l06Power.l0 k (n : Int) ((2 ^ i : Nat) : Int) = some ((2 ^ (i + n) : Nat) : Int) := by
  induction n with
  | zero =>
    intro k i hi hk
    obtain ⟨k, rfl⟩ : ∃ q, k = q + 1 := ⟨k - 1, by omega⟩
    rw [spec_l06Power.l0, if_neg (by omega)]
    rfl
  | succ n ih =>
    intro k i hi hk
    obtain ⟨k, rfl⟩ : ∃ q, k = q + 1 := ⟨k - 1, by omega⟩
    have hp : 2 ^ (i + 1) ≤ 2 ^ 63 := Nat.pow_le_pow_right (by decide) (by omega)
    have hd := ih k (i + 1) (by omega) (by omega)
    rw [spec_l06Power.l0, if_pos (by omega), w64 (by omega) (by omega), u64_id (by rw [Nat.pow_succ] at hp; omega) (by rw [Nat.pow_succ] at hp; omega)]
    rw [show i + (n + 1) = i + 1 + n from by omega, ← hd, Nat.pow_succ]
    congr 1 <;> omega
theorem l06Power_f {n k : Nat} (hn : n ≤ 63) (hk : n < k) : spec_l06Power.f k (n : Int) = some ((2 ^ n : Nat) : Int) := by
  unfold spec_l06Power.f
  have := l06Power_l0 n k 0 (by omega) hk
  rw [Nat.zero_add] at this
  exact this

/-- a plane: the j-th bits of 64 numbers -/
def plane (xs : List Int) (j n : Nat) : Nat := sumN (fun l => bitI (rd xs (l : Int)) j) n
theorem plane_lt (xs : List Int) (j n : Nat) : plane xs j n < 2 ^ n := sumN_lt _ n
theorem plane_succ (xs : List Int) (j n : Nat) : plane xs j (n + 1) = plane xs j n + (bitI (rd xs (n : Int)) j).toNat * 2 ^ n := rfl
theorem l07Put_l1 (xs : List Int) (n i : Nat) (hn : n ≤ 16) (hi : i < 64) (v : Nat) (hv : rd xs (i : Int) = (v : Int)) (hv2 : v < 2 ^ 20) (R : List Int) (K : Nat) (hK : 64 < K)
    (H : ∀ k ys, ys.length = n → (∀ j : Nat, j < n → rd ys (j : Int) = ((plane xs j (i + 1) : Nat) : Int)) → K < k → spec_l07Put.l0 k xs (n : Int) ys ((i + 1 : Nat) : Int) = some R) (e : Nat) :
    ∀ (j k : Nat) (ys : List Int), j + e = n → ys.length = n → (∀ j' : Nat, j' < n → rd ys (j' : Int) = ((plane xs j' (if j' < j then i + 1 else i) : Nat) : Int)) → K + e + 1 < k →
    spec_l07Put.l1 k xs (n : Int) ys (i : Int) ((v / 2 ^ j : Nat) : Int) (j : Int) = some R := by
  induction e with
  | zero =>
    intro j k ys hj hl hy hk
    obtain ⟨k, rfl⟩ : ∃ q, k = q + 1 := ⟨k - 1, by omega⟩
    rw [spec_l07Put.l1, if_neg (by omega), w64 (by omega) (by omega)]
    exact H k ys hl (fun j' h' => by rw [hy j' h', if_pos (by omega)]) (by omega)
  | succ e ih =>
    intro j k ys hj hl hy hk
    obtain ⟨k, rfl⟩ : ∃ q, k = q + 1 := ⟨k - 1, by omega⟩
    have hb : bitI (rd xs (i : Int)) j = v.testBit j := by rw [hv, bitI, Int.toNat_natCast]
    have hbv : (v.testBit j).toNat = v / 2 ^ j % 2 := Nat.toNat_testBit v j
    have h2 : v / 2 ^ (j + 1) = v / 2 ^ j / 2 := by rw [Nat.pow_succ, Nat.div_div_eq_div_mul]
    have ihq := ih (j + 1)
    rw [h2] at ihq
    have hd : v / 2 ^ j ≤ v := Nat.div_le_self _ _
    generalize v / 2 ^ j = q at *
    have ht : Int.tdiv (q : Int) 2 = ((q / 2 : Nat) : Int) := by
      rw [Int.tdiv_eq_ediv_of_nonneg (Int.natCast_nonneg _)]; omega
    have hm : Int.tmod (q : Int) 2 = ((q % 2 : Nat) : Int) := by
      rw [Int.tmod_eq_emod_of_nonneg (Int.natCast_nonneg _)]; omega
    rw [spec_l07Put.l1, if_pos (by omega), hm, ht, ← hbv]
    clear hm ht
    rw [w64 (n := ((q / 2 : Nat) : Int)) (by omega) (by omega), w64 (n := (j : Int) + 1) (by omega) (by omega)]
    have hyj := hy j (by omega)
    rw [if_neg (by omega)] at hyj
    have hp := plane_lt xs j i
    have hpp : 2 ^ i ≤ 2 ^ 63 := Nat.pow_le_pow_right (by decide) (by omega)
    cases hbit : v.testBit j
    · rw [if_neg (by decide)]
      refine ihq k ys (by omega) hl (fun j' h' => ?_) (by omega)
      rw [hy j' h']
      by_cases e1 : j' = j
      · subst e1
        rw [if_neg (by omega), if_pos (by omega), plane_succ, hb, hbit]
        simp
      · by_cases e2 : j' < j
        · rw [if_pos e2, if_pos (by omega)]
        · rw [if_neg e2, if_neg (by omega)]
    · rw [if_pos (by decide), if_pos (by omega), if_pos (by omega), l06Power_f (by omega) (by omega), Option.bind_some, hyj, u64_id (by omega) (by omega), Int.toNat_natCast]
      refine ihq k _ (by omega) (by rw [List.length_set]; exact hl) (fun j' h' => ?_) (by omega)
      rw [rd_set _ _ _ _ (by omega)]
      by_cases e1 : j = j'
      · subst e1
        rw [if_pos rfl, if_pos (by omega), plane_succ, hb, hbit]
        simp
      · rw [if_neg e1, hy j' h']
        by_cases e2 : j' < j
        · rw [if_pos e2, if_pos (by omega)]
        · rw [if_neg e2, if_neg (by omega)]
theorem l07Put_l0 (xs : List Int) (n : Nat) (hn : n ≤ 16) (hx : xs.length ≤ 64) (hv : ∀ i : Nat, i < xs.length → 0 ≤ rd xs (i : Int) ∧ rd xs (i : Int) < 2 ^ 20) (d : Nat) :
    ∀ (i k : Nat) (ys : List Int), i + d = xs.length → ys.length = n → (∀ j : Nat, j < n → rd ys (j : Int) = ((plane xs j i : Nat) : Int)) → d * 30 + 70 < k →
    spec_l07Put.l0 k xs (n : Int) ys (i : Int) = some (tab (fun j => ((plane xs j xs.length : Nat) : Int)) n) := by
  induction d with
  | zero =>
    intro i k ys hi hl hy hk
    obtain ⟨k, rfl⟩ : ∃ q, k = q + 1 := ⟨k - 1, by omega⟩
    obtain rfl : i = xs.length := by omega
    rw [spec_l07Put.l0, if_neg (by omega)]
    congr 1
    refine list_ext_rd (by rw [tab_length, hl]) (fun j hj => ?_)
    rw [hy j (by omega), rd_tab _ (by omega)]
  | succ d ih =>
    intro i k ys hi hl hy hk
    obtain ⟨k, rfl⟩ : ∃ q, k = q + 1 := ⟨k - 1, by omega⟩
    have hv' := hv i (by omega)
    obtain ⟨v, ev⟩ := Int.eq_ofNat_of_zero_le hv'.1
    rw [spec_l07Put.l0, if_pos (by omega), if_pos (by omega), ev]
    have := l07Put_l1 xs n i hn (by omega) v ev (by omega) _ (d * 30 + 70) (by omega) (fun k ys h1 h2 h3 => ih (i + 1) k ys (by omega) h1 h2 h3) n 0 k ys (by omega) hl (fun j' h' => by rw [hy j' h', if_neg (by omega)]) (by omega)
    rw [Nat.pow_zero, Nat.div_one] at this
    exact this
theorem l07Put_f (xs : List Int) (n : Nat) (hn : n ≤ 16) (hx : xs.length ≤ 64) (hv : ∀ i : Nat, i < xs.length → 0 ≤ rd xs (i : Int) ∧ rd xs (i : Int) < 2 ^ 20) {k : Nat} (hk : 2000 < k) :
    spec_l07Put.f k xs (n : Int) = some (tab (fun j => ((plane xs j xs.length : Nat) : Int)) n) := by
  unfold spec_l07Put.f
  rw [if_pos (by omega), if_pos (by omega), Int.toNat_natCast]
  refine l07Put_l0 xs n hn hx hv xs.length 0 k _ (by omega) (by simp) (fun j hj => ?_) (by omega)
  unfold rd plane
  simp [sumN, hj]

theorem l03Bit_f {a : Nat} (ha : a < 2 ^ 64) {i : Nat} (hi : i < 64) : spec_l03Bit.f (a : Int) (i : Int) = some (a.testBit i) := by
  unfold spec_l03Bit.f
  rw [u64_id (Int.natCast_nonneg _) (by omega), if_pos (Int.natCast_nonneg _), bit_eq ha (by omega)]

theorem l03Bit_i {x : Int} (h0 : 0 ≤ x) (h1 : x < 2 ^ 64) {i : Nat} (hi : i < 64) : spec_l03Bit.f x (i : Int) = some (bitI x i) := by
  obtain ⟨n, rfl⟩ := Int.eq_ofNat_of_zero_le h0
  rw [l03Bit_f (by omega) hi, bitI, Int.toNat_natCast]

theorem l07Get_l0 (xs : List Int) (hx : U64s xs) (l : Nat) (hl : l < 64) (hn : xs.length ≤ 16) (d : Nat) : ∀ k, d ≤ xs.length → d < k →
    spec_l07Get.l0 k xs (l : Int) ((upN xs l xs.length (xs.length - d) : Nat) : Int) ((d : Int) - 1) = some ((laneN xs l xs.length : Nat) : Int) := by
  induction d with
  | zero =>
    intro k hd hk
    obtain ⟨k, rfl⟩ : ∃ q, k = q + 1 := ⟨k - 1, by omega⟩
    rw [spec_l07Get.l0, if_neg (by omega), Nat.sub_zero, upN_all]
  | succ d ih =>
    intro k hd hk
    obtain ⟨k, rfl⟩ : ∃ q, k = q + 1 := ⟨k - 1, by omega⟩
    have h := ih k (by omega) (by omega)
    have hb := hx d (by omega)
    have hu := upN_lt xs l xs.length (xs.length - (d + 1))
    have hp : 2 ^ (xs.length - (d + 1)) ≤ 2 ^ 16 := Nat.pow_le_pow_right (by decide) (by omega)
    rw [show xs.length - d = (xs.length - (d + 1)) + 1 from by omega, upN, show xs.length - (xs.length - (d + 1) + 1) = d from by omega] at h
    rw [show (((d + 1 : Nat) : Int) - 1) = (d : Int) from by omega, spec_l07Get.l0, if_pos (by omega), if_pos (by omega), if_pos (by omega), l03Bit_i hb.1 hb.2 hl, Option.bind_some]
    rw [w64 (n := 2 * ((upN xs l xs.length (xs.length - (d + 1)) : Nat) : Int)) (by omega) (by omega), w64 (n := 2 * ((upN xs l xs.length (xs.length - (d + 1)) : Nat) : Int) + 1) (by omega) (by omega), w64 (by omega) (by omega), ← h]
    cases bitI (rd xs (d : Int)) l <;> simp
theorem l07Get_f (xs : List Int) (hx : U64s xs) (l : Nat) (hl : l < 64) (hn : xs.length ≤ 16) {k : Nat} (hk : 16 < k) : spec_l07Get.f k xs (l : Int) = some ((laneN xs l xs.length : Nat) : Int) := by
  unfold spec_l07Get.f
  have := l07Get_l0 xs hx l hl hn xs.length k (Nat.le_refl _) (by omega)
  rw [Nat.sub_self] at this
  rw [w64 (by omega) (by omega)]
  exact this

theorem l02Pow_l0 (n : Nat) : ∀ (k i : Nat), i + n ≤ 62 → n < k → spec_l02Pow.l0 k (n : Int) ((2 ^ i : Nat) : Int) = some ((2 ^ (i + n) : Nat) : Int) := by
  induction n with
  | zero =>
    intro k i hi hk
    obtain ⟨k, rfl⟩ : ∃ q, k = q + 1 := ⟨k - 1, by omega⟩
    rw [spec_l02Pow.l0, if_neg (by omega)]
    rfl
  | succ n ih =>
    intro k i hi hk
    obtain ⟨k, rfl⟩ : ∃ q, k = q + 1 := ⟨k - 1, by omega⟩
    have hp : 2 ^ (i + 1) ≤ 2 ^ 62 := Nat.pow_le_pow_right (by decide) (by omega)
    have hd := ih k (i + 1) (by omega) (by omega)
    rw [spec_l02Pow.l0, if_pos (by omega), w64 (by omega) (by omega), w64 (by rw [Nat.pow_succ] at hp; omega) (by rw [Nat.pow_succ] at hp; omega)]
    rw [show i + (n + 1) = i + 1 + n from by omega, ← hd, Nat.pow_succ]
    congr 1 <;> omega
theorem l02Pow_f {n k : Nat} (hn : n ≤ 62) (hk : n < k) : spec_l02Pow.f k (n : Int) = some ((2 ^ n : Nat) : Int) := by
  unfold spec_l02Pow.f
  have := l02Pow_l0 n k 0 (by omega) hk
  rw [Nat.zero_add] at this
  exact this

/-- the sum of a lane -/
def addN (a b : List Int) (n l : Nat) : Nat := (laneN a l n + laneN b l n) % 2 ^ n
/-- what NumsAdd tells of two numbers in n planes -/
def addL (a b : List Int) (n : Nat) : List Int := tab (fun j => ((sumN (fun l => (addN a b n l).testBit j) 64 : Nat) : Int)) n
theorem spec_NumsAdd_l0 (a b : List Int) (ha : U64s a) (hb : U64s b) (he : a.length = b.length) (hn : a.length ≤ 16) (d : Nat) : ∀ k i, i + d = 64 → d + 2500 < k →
    spec_NumsAdd.l0 k a b (tab (fun l => ((addN a b a.length l : Nat) : Int)) i) (i : Int) = some (addL a b a.length) := by
  induction d with
  | zero =>
    intro k i hi hk
    obtain ⟨k, rfl⟩ : ∃ q, k = q + 1 := ⟨k - 1, by omega⟩
    obtain rfl : i = 64 := by omega
    have hp : 2 ^ a.length ≤ 2 ^ 16 := Nat.pow_le_pow_right (by decide) hn
    have hlt : ∀ l, addN a b a.length l < 2 ^ a.length := fun l => Nat.mod_lt _ (Nat.two_pow_pos _)
    rw [spec_NumsAdd.l0, if_neg (by omega), l07Put_f _ a.length hn (by rw [tab_length]; omega) (fun i hi => by
      rw [tab_length] at hi
      rw [rd_tab _ hi]
      have := hlt i
      omega) (by omega), Option.bind_some, tab_length]
    refine congrArg some ?_
    unfold addL plane
    refine list_ext_rd (by rw [tab_length, tab_length]) (fun j hj => ?_)
    rw [tab_length] at hj
    rw [rd_tab _ hj, rd_tab _ hj]
    refine congrArg Int.ofNat ?_
    have sc : ∀ (p q : Nat → Bool) (m : Nat), (∀ i, i < m → p i = q i) → sumN p m = sumN q m := by
      intro p q m h
      induction m with
      | zero => rfl
      | succ m ih => rw [sumN, sumN, ih (fun i hi => h i (by omega)), h m (by omega)]
    refine sc _ _ 64 (fun l hl => ?_)
    rw [rd_tab _ hl, bitI, Int.toNat_natCast]
  | succ d ih =>
    intro k i hi hk
    obtain ⟨k, rfl⟩ : ∃ q, k = q + 1 := ⟨k - 1, by omega⟩
    have h := ih k (i + 1) (by omega) (by omega)
    have l1 := laneN_lt a i a.length
    have l2 := laneN_lt b i a.length
    have hp : 2 ^ a.length ≤ 2 ^ 16 := Nat.pow_le_pow_right (by decide) hn
    have hp0 : 0 < 2 ^ a.length := Nat.two_pow_pos _
    rw [spec_NumsAdd.l0, if_pos (by omega), l07Get_f a ha i (by omega) hn (by omega), l07Get_f b hb i (by omega) (by omega) (by omega), Option.bind_some, Option.bind_some, l02Pow_f (by omega) (by omega), Option.bind_some, if_neg (by omega), if_pos (by rw [tab_length]; omega), ← he, w64 (n := ((laneN a i a.length : Nat) : Int) + ((laneN b i a.length : Nat) : Int)) (by omega) (by omega), w64 (by omega) (by omega)]
    rw [tab_succ] at h
    have e : Int.tmod (((laneN a i a.length : Nat) : Int) + ((laneN b i a.length : Nat) : Int)) ((2 ^ a.length : Nat) : Int) = ((addN a b a.length i : Nat) : Int) := by
      rw [Int.tmod_eq_emod_of_nonneg (by omega)]
      unfold addN
      rw [Int.natCast_emod, Int.natCast_add]
    rw [e]
    exact h
theorem spec_NumsAdd_f (a b : List Int) (ha : U64s a) (hb : U64s b) {k : Nat} (hk : 2600 < k) : spec_NumsAdd.f k a b = some (if a.length = b.length ∧ a.length ≤ 16 then addL a b a.length else []) := by
  unfold spec_NumsAdd.f spec_l07Twins.f
  by_cases h : a.length = b.length
  · rw [if_pos (by omega), Option.bind_some]
    by_cases h2 : a.length ≤ 16
    · rw [if_pos (decide_eq_true (by omega)), if_pos (show a.length = b.length ∧ a.length ≤ 16 from ⟨h, h2⟩)]
      exact spec_NumsAdd_l0 a b ha hb h h2 64 k 0 rfl (by omega)
    · rw [if_neg (by simp; omega), if_neg (by omega)]
  · rw [if_neg (by omega), Option.bind_some, if_neg (by decide), if_neg (by omega)]
/-- one lane of a full adder -/
theorem adder {A B k : Nat} (hA : A < 2 ^ k) (hB : B < 2 ^ k) (x y : Bool) :
    (A + x.toNat * 2 ^ k + (B + y.toNat * 2 ^ k)).testBit k = ((x ^^ y) ^^ decide (2 ^ k ≤ A + B)) ∧
    decide (2 ^ (k + 1) ≤ A + x.toNat * 2 ^ k + (B + y.toNat * 2 ^ k)) = (x && y || decide (2 ^ k ≤ A + B) && (x ^^ y)) := by
  rw [Nat.testBit_eq_decide_div_mod_eq, Nat.pow_succ]
  have hp : 0 < 2 ^ k := Nat.two_pow_pos _
  generalize 2 ^ k = p at *
  have hdiv : ∀ q r, r < p → (q * p + r) / p = q := fun q r hr => by
    rw [Nat.mul_comm, Nat.mul_add_div hp, Nat.div_eq_of_lt hr, Nat.add_zero]
  by_cases c : p ≤ A + B
  · have e : ∀ q, A + B + q * p = (q + 1) * p + (A + B - p) := fun q => by rw [Nat.add_mul]; omega
    have d0 := hdiv 1 (A + B - p) (by omega)
    have d1 := hdiv 2 (A + B - p) (by omega)
    have d2 := hdiv 3 (A + B - p) (by omega)
    rw [decide_eq_true c]
    cases x <;> cases y <;> simp only [Bool.toNat_true, Bool.toNat_false, Nat.one_mul, Nat.zero_mul, Nat.add_zero]
    · rw [show A + B = 1 * p + (A + B - p) from by omega, d0]; simp <;> omega
    · rw [show A + (B + p) = 2 * p + (A + B - p) from by omega, d1]; simp <;> omega
    · rw [show A + p + B = 2 * p + (A + B - p) from by omega, d1]; simp <;> omega
    · rw [show A + p + (B + p) = 3 * p + (A + B - p) from by omega, d2]; simp <;> omega
  · have d0 := hdiv 0 (A + B) (by omega)
    have d1 := hdiv 1 (A + B) (by omega)
    have d2 := hdiv 2 (A + B) (by omega)
    rw [decide_eq_false c]
    cases x <;> cases y <;> simp only [Bool.toNat_true, Bool.toNat_false, Nat.one_mul, Nat.zero_mul, Nat.add_zero]
    · rw [show A + B = 0 * p + (A + B) from by omega, d0]; simp <;> omega
    · rw [show A + (B + p) = 1 * p + (A + B) from by omega, d1]; simp <;> omega
    · rw [show A + p + B = 1 * p + (A + B) from by omega, d1]; simp <;> omega
    · rw [show A + p + (B + p) = 2 * p + (A + B) from by omega, d2]; simp <;> omega
/-- a lower bit of the sum does not hang on the planes above it -/
theorem addN_bit (a b : List Int) (l : Nat) {j : Nat} : ∀ n, j < n → (addN a b n l).testBit j = (laneN a l (j + 1) + laneN b l (j + 1)).testBit j := by
  intro n hn
  unfold addN
  rw [Nat.testBit_mod_two_pow, decide_eq_true hn, Bool.true_and]
  obtain ⟨d, rfl⟩ : ∃ d, n = j + 1 + d := ⟨n - (j + 1), by omega⟩
  clear hn
  induction d with
  | zero => rfl
  | succ d ih =>
    rw [← ih, show j + 1 + (d + 1) = (j + 1 + d) + 1 from rfl, laneN, laneN]
    have e : ∀ (u v x y : Nat), u + x * 2 ^ (j + 1 + d) + (v + y * 2 ^ (j + 1 + d)) = 2 ^ (j + 1) * (2 ^ d * (x + y)) + (u + v) := fun u v x y => by
      rw [Nat.pow_add, Nat.mul_add, Nat.mul_add]
      generalize 2 ^ (j + 1) = p
      generalize 2 ^ d = q
      have h1 : x * (p * q) = p * (q * x) := by rw [Nat.mul_comm, Nat.mul_assoc]
      have h2 : y * (p * q) = p * (q * y) := by rw [Nat.mul_comm, Nat.mul_assoc]
      omega
    rw [e, Nat.testBit_eq_decide_div_mod_eq, Nat.testBit_eq_decide_div_mod_eq]
    generalize laneN a l (j + 1 + d) + laneN b l (j + 1 + d) = s
    generalize 2 ^ d * ((bitI (rd a ((j + 1 + d : Nat) : Int)) l).toNat + (bitI (rd b ((j + 1 + d : Nat) : Int)) l).toNat) = w
    rw [Nat.pow_succ, Nat.mul_assoc, Nat.mul_add_div (Nat.two_pow_pos _)]
    rw [show 2 * w + s / 2 ^ j = s / 2 ^ j + 2 * w from Nat.add_comm _ _, Nat.add_mul_mod_self_left]
theorem impl_NumsAdd_l0 (a b : List Int) (ha : U64s a) (hb : U64s b) (he : a.length = b.length) (hn : a.length ≤ 16) (d : Nat) : ∀ (k i : Nat) (ys : List Int) (c : Nat), i + d = a.length → ys.length = a.length → d < k → c < 2 ^ 64 →
    (∀ l, l < 64 → c.testBit l = decide (2 ^ i ≤ laneN a l i + laneN b l i)) → (∀ j : Nat, j < i → rd ys (j : Int) = ((sumN (fun l => (addN a b a.length l).testBit j) 64 : Nat) : Int)) →
    impl_NumsAdd.l0 k a b ys (c : Int) (a.length : Int) (i : Int) = some (addL a b a.length) := by
  induction d with
  | zero =>
    intro k i ys c hi hl hk hc hcb hy
    obtain ⟨k, rfl⟩ : ∃ q, k = q + 1 := ⟨k - 1, by omega⟩
    obtain rfl : i = a.length := by omega
    rw [impl_NumsAdd.l0, if_neg (by omega)]
    congr 1
    unfold addL
    refine list_ext_rd (by rw [tab_length, hl]) (fun j hj => ?_)
    rw [hy j (by omega), rd_tab _ (by omega)]
  | succ d ih =>
    intro k i ys c hi hl hk hc hcb hy
    obtain ⟨k, rfl⟩ : ∃ q, k = q + 1 := ⟨k - 1, by omega⟩
    have h1 := ha i (by omega)
    have h2 := hb i (by omega)
    obtain ⟨x, hx⟩ := Int.eq_ofNat_of_zero_le h1.1
    obtain ⟨y, hy'⟩ := Int.eq_ofNat_of_zero_le h2.1
    have lx : x < 2 ^ 64 := by omega
    have ly : y < 2 ^ 64 := by omega
    have hxy : x ^^^ y < 2 ^ 64 := Nat.xor_lt_two_pow lx ly
    have hs : (x ^^^ y) ^^^ c < 2 ^ 64 := Nat.xor_lt_two_pow hxy hc
    have g1 : x &&& y < 2 ^ 64 := Nat.lt_of_le_of_lt Nat.and_le_left lx
    have g2 : c &&& (x ^^^ y) < 2 ^ 64 := Nat.lt_of_le_of_lt Nat.and_le_left hc
    rw [impl_NumsAdd.l0, if_pos (by omega), if_pos (by omega), if_pos (by omega), if_pos (by omega), if_pos (by omega), hx, hy', xor_nat lx ly, xor_nat hxy hc, and_nat lx ly, and_nat hc hxy, or_nat g1 g2, w64 (by omega) (by omega), Int.toNat_natCast]
    have bx : ∀ l, bitI (rd a (i : Int)) l = x.testBit l := fun l => by rw [hx, bitI, Int.toNat_natCast]
    have by' : ∀ l, bitI (rd b (i : Int)) l = y.testBit l := fun l => by rw [hy', bitI, Int.toNat_natCast]
    have ad := fun l => adder (laneN_lt a l i) (laneN_lt b l i) (bitI (rd a (i : Int)) l) (bitI (rd b (i : Int)) l)
    refine ih k (i + 1) _ _ (by omega) (by rw [List.length_set]; exact hl) (by omega) (Nat.or_lt_two_pow g1 g2) (fun l hl' => ?_) (fun j hj => ?_)
    · rw [laneN, laneN, (ad l).2, Nat.testBit_or, Nat.testBit_and, Nat.testBit_and, Nat.testBit_xor, hcb l hl', bx, by']
    · rw [rd_set _ _ _ _ (by omega)]
      by_cases e : i = j
      · subst e
        rw [if_pos rfl]
        congr 1
        refine eq_bits hs (sumN_lt _ 64) (fun l hl' => ?_)
        rw [sumN_bit _ 64 hl', addN_bit a b l a.length (by omega), laneN, laneN, (ad l).1, Nat.testBit_xor, Nat.testBit_xor, hcb l hl', bx, by']
      · rw [if_neg e]
        exact hy j (by omega)
theorem impl_NumsAdd_f (a b : List Int) (ha : U64s a) (hb : U64s b) {k : Nat} (hk : 20 < k) : impl_NumsAdd.f k a b = some (if a.length = b.length ∧ a.length ≤ 16 then addL a b a.length else []) := by
  unfold impl_NumsAdd.f impl_areAlike.f
  by_cases h : a.length = b.length
  · rw [if_pos (by omega), Option.bind_some]
    by_cases h2 : a.length ≤ 16
    · rw [if_pos (decide_eq_true (by omega)), if_pos (show a.length = b.length ∧ a.length ≤ 16 from ⟨h, h2⟩), if_pos (by omega), if_pos (by omega), Option.bind_some, Int.toNat_natCast, List.length_replicate]
      exact impl_NumsAdd_l0 a b ha hb h h2 a.length k 0 _ 0 (by omega) (by simp) (by omega) (by decide) (fun l _ => by simp [laneN]) (fun j hj => by omega)
    · rw [if_neg (by simp; omega), if_neg (by omega)]
  · rw [if_neg (by omega), Option.bind_some, if_neg (by decide), if_neg (by omega)]

theorem toUint64S_l0 (xs : List Int) (hx : xs.length ≤ 1048576) (d : Nat) : ∀ (k i : Nat) (ys : List Int), ys.length = xs.length → i ≤ xs.length → xs.length - i = d → d < k → ys.take i = xs.take i →
    laws_toUint64S.l0 k xs ys (i : Int) = some xs := by
  induction d with
  | zero =>
    intro k i ys hl hi hd hk ht
    obtain ⟨k, rfl⟩ : ∃ q, k = q + 1 := ⟨k - 1, by omega⟩
    rw [laws_toUint64S.l0, if_neg (by omega)]
    rw [List.take_of_length_le (by omega), List.take_of_length_le (by omega)] at ht
    rw [ht]
  | succ d ih =>
    intro k i ys hl hi hd hk ht
    obtain ⟨k, rfl⟩ : ∃ q, k = q + 1 := ⟨k - 1, by omega⟩
    have h := ih k (i + 1) (ys.set i (rd xs (i : Int))) (by simp [hl]) (by omega) (by omega) (by omega) (set_copy xs ys i (by omega) hl ht)
    rw [laws_toUint64S.l0, if_pos (by omega), if_pos (by omega), if_pos (by omega), w64 (by omega) (by omega), Int.toNat_natCast]
    exact h
theorem toUint64S_f (xs : List Int) (hx : xs.length ≤ 1048576) {k : Nat} (hk : xs.length < k) : laws_toUint64S.f k xs = some xs := by
  unfold laws_toUint64S.f
  rw [if_pos (Int.natCast_nonneg _), if_pos (by omega)]
  exact toUint64S_l0 xs hx xs.length k 0 _ (by simp) (by omega) (by omega) hk (by simp)

theorem eqUint64S_l0 (xs ys : List Int) (hl : ys.length = xs.length) (hx : xs.length ≤ 1048576) (d : Nat) : ∀ (k i : Nat), i ≤ xs.length → xs.length - i = d → d < k →
    laws_eqUint64S.l0 k xs ys (i : Int) = some (decide (xs.drop i = ys.drop i)) := by
  induction d with
  | zero =>
    intro k i hi hd hk
    obtain ⟨k, rfl⟩ : ∃ q, k = q + 1 := ⟨k - 1, by omega⟩
    rw [laws_eqUint64S.l0, if_neg (by omega), List.drop_of_length_le (by omega), List.drop_of_length_le (by omega)]
    rfl
  | succ d ih =>
    intro k i hi hd hk
    obtain ⟨k, rfl⟩ : ∃ q, k = q + 1 := ⟨k - 1, by omega⟩
    have h := ih k (i + 1) (by omega) (by omega) (by omega)
    rw [laws_eqUint64S.l0, if_pos (by omega), if_pos (by omega), if_pos (by omega), w64 (by omega) (by omega)]
    rw [rd_lt (show i < xs.length by omega), rd_lt (show i < ys.length by omega)]
    rw [List.drop_eq_getElem_cons (show i < xs.length by omega), List.drop_eq_getElem_cons (show i < ys.length by omega)]
    by_cases e : xs[i]'(by omega) = ys[i]'(by omega)
    · rw [if_pos e]
      rw [show ((i : Int) + 1) = ((i + 1 : Nat) : Int) from rfl, h]
      congr 1
      rw [decide_eq_decide, e]
      exact ⟨fun h2 => by rw [h2], fun h2 => (List.cons.inj h2).2⟩
    · rw [if_neg e]
      congr 1
      symm
      rw [decide_eq_false_iff_not]
      intro h2
      exact e (List.cons.inj h2).1
theorem eqUint64S_f (xs ys : List Int) (hx : xs.length ≤ 1048576) {k : Nat} (hk : xs.length < k) : laws_eqUint64S.f k xs ys = some (decide (xs = ys)) := by
  unfold laws_eqUint64S.f
  by_cases h : xs.length = ys.length
  · rw [if_pos (by omega)]
    have := eqUint64S_l0 xs ys h.symm hx xs.length k 0 (by omega) (by omega) hk
    simpa using this
  · rw [if_neg (by omega)]
    congr 1
    symm
    rw [decide_eq_false_iff_not]
    intro e
    exact h (by rw [e])

/-- consecutive numbers -/
def markU (a : Int) (n : Nat) : List Int := tab (fun i => a + (i : Int)) n
theorem take_set_snoc' (ys : List Int) (i : Nat) (v : Int) (h : i < ys.length) : (ys.set i v).take (i + 1) = ys.take i ++ [v] := by
  rw [List.take_succ_eq_append_getElem (by simp; omega), List.take_set_of_le (Nat.le_refl _)]
  simp
theorem markUint64S_l0 (a : Int) (ha : 0 ≤ a) (hb : a ≤ 1000000000) (n : Nat) (hn : n ≤ 1048576) (d : Nat) : ∀ (k i : Nat) (zs : List Int), zs.length = n → i ≤ n → n - i = d → d < k → zs.take i = markU a i →
    laws_markUint64S.l0 k zs (a + (i : Int)) (i : Int) = some (a + (n : Int), markU a n) := by
  induction d with
  | zero =>
    intro k i zs hz hi hd hk ht
    obtain ⟨k, rfl⟩ : ∃ q, k = q + 1 := ⟨k - 1, by omega⟩
    obtain rfl : i = n := by omega
    rw [laws_markUint64S.l0, if_neg (by omega), ← ht, List.take_of_length_le (by omega)]
  | succ d ih =>
    intro k i zs hz hi hd hk ht
    obtain ⟨k, rfl⟩ : ∃ q, k = q + 1 := ⟨k - 1, by omega⟩
    rw [laws_markUint64S.l0, if_pos (by omega), if_pos (by omega), w64 (by omega) (by omega), w64 (by omega) (by omega), u64_id (by omega) (by omega), Int.toNat_natCast, show a + (i : Int) + 1 = a + ((i + 1 : Nat) : Int) from by omega]
    refine ih k (i + 1) _ (by simp [hz]) (by omega) (by omega) (by omega) ?_
    rw [take_set_snoc' _ _ _ (by omega), ht, markU, markU, tab_succ]
theorem markUint64S_f (a : Int) (ha : 0 ≤ a) (hb : a ≤ 1000000000) (zs : List Int) (hn : zs.length ≤ 1048576) {k : Nat} (hk : zs.length < k) : laws_markUint64S.f k zs a = some (a + (zs.length : Int), markU a zs.length) := by
  unfold laws_markUint64S.f
  have := markUint64S_l0 a ha hb zs.length hn zs.length k 0 zs rfl (by omega) (by omega) hk (by simp [markU, tab])
  rw [show a + ((0 : Nat) : Int) = a from by omega] at this
  exact this
theorem heldUint64S_l0 (a : Int) (ha : 0 ≤ a) (hb : a ≤ 1000000000) (n : Nat) (hn : n ≤ 1048576) (d : Nat) : ∀ (k i : Nat), i ≤ n → n - i = d → d < k →
    laws_heldUint64S.l0 k (markU a n) (a + (i : Int)) (i : Int) = some (a + (n : Int)) := by
  induction d with
  | zero =>
    intro k i hi hd hk
    obtain ⟨k, rfl⟩ : ∃ q, k = q + 1 := ⟨k - 1, by omega⟩
    obtain rfl : i = n := by omega
    rw [laws_heldUint64S.l0, markU, tab_length, if_neg (by omega)]
  | succ d ih =>
    intro k i hi hd hk
    obtain ⟨k, rfl⟩ : ∃ q, k = q + 1 := ⟨k - 1, by omega⟩
    rw [laws_heldUint64S.l0, show (markU a n).length = n from tab_length _ _, if_pos (by omega), if_pos (by omega), u64_id (by omega) (by omega), if_pos (show rd (markU a n) (i : Int) = a + (i : Int) from rd_tab _ (by omega)), w64 (by omega) (by omega), w64 (by omega) (by omega), show a + (i : Int) + 1 = a + ((i + 1 : Nat) : Int) from by omega]
    exact ih k (i + 1) (by omega) (by omega) (by omega)
theorem heldUint64S_f (a : Int) (ha : 0 ≤ a) (hb : a ≤ 1000000000) (n : Nat) (hn : n ≤ 1048576) {k : Nat} (hk : n < k) : laws_heldUint64S.f k (markU a n) a = some (a + (n : Int)) := by
  unfold laws_heldUint64S.f
  have := heldUint64S_l0 a ha hb n hn n k 0 (by omega) (by omega) hk
  rw [show a + ((0 : Nat) : Int) = a from by omega] at this
  exact this

theorem FnExactNumsAdd : laws_FnExactNumsAdd.Pure := by
  intro xs ys _ _ hx _ _ hy
  obtain ⟨K, hK⟩ : ∃ K : Nat, K = 2097152 := ⟨_, rfl⟩
  refine ⟨K + 1, ?_⟩
  unfold laws_FnExactNumsAdd.f
  by_cases h1 : (xs.length : Int) > 1048576
  · rw [if_pos h1]
  · by_cases h2 : (ys.length : Int) > 1048576
    · rw [if_neg h1, if_pos h2]
    · obtain ⟨R, hRd⟩ : ∃ R, R = (if xs.length = ys.length ∧ xs.length ≤ 16 then addL xs ys xs.length else []) := ⟨_, rfl⟩
      have hR : R.length ≤ 16 := by
        rw [hRd]
        split
        · rw [addL, tab_length]; omega
        · simp
      have tx : ∀ k, K ≤ k → laws_toUint64S.f k xs = some xs := fun k hk => toUint64S_f xs (by omega) (by omega)
      have ty : ∀ k, K ≤ k → laws_toUint64S.f k ys = some ys := fun k hk => toUint64S_f ys (by omega) (by omega)
      have ex : ∀ k, K ≤ k → laws_eqUint64S.f k xs xs = some true := fun k hk => by rw [eqUint64S_f xs xs (by omega) (by omega), decide_eq_true rfl]
      have ey : ∀ k, K ≤ k → laws_eqUint64S.f k ys ys = some true := fun k hk => by rw [eqUint64S_f ys ys (by omega) (by omega), decide_eq_true rfl]
      have er : ∀ k, K ≤ k → laws_eqUint64S.f k R R = some true := fun k hk => by rw [eqUint64S_f _ _ (by omega) (by omega), decide_eq_true rfl]
      have sw : ∀ k, K ≤ k → spec_NumsAdd.f k xs ys = some R := fun k hk => by rw [spec_NumsAdd_f xs ys (U64s.of hx) (U64s.of hy) (by omega), hRd]
      have iw : ∀ k, K ≤ k → impl_NumsAdd.f k xs ys = some R := fun k hk => by rw [impl_NumsAdd_f xs ys (U64s.of hx) (U64s.of hy) (by omega), hRd]
      have mk : ∀ k, K ≤ k → ∀ (a : Int) (zs : List Int), 0 ≤ a → a ≤ 1000000000 → zs.length ≤ 1048576 → laws_markUint64S.f k zs a = some (a + (zs.length : Int), markU a zs.length) := fun k hk a zs h0 h1 h2 => markUint64S_f a h0 h1 zs h2 (by omega)
      have hd : ∀ k, K ≤ k → ∀ (a : Int) (n : Nat), 0 ≤ a → a ≤ 1000000000 → n ≤ 1048576 → laws_heldUint64S.f k (markU a n) a = some (a + (n : Int)) := fun k hk a n h0 h1 h2 => heldUint64S_f a h0 h1 n h2 (by omega)
      rw [if_neg h1, if_neg h2, tx _ (by omega), Option.bind_some, ty _ (by omega), Option.bind_some, sw _ (by omega), Option.bind_some, Option.bind_some, Option.bind_some, iw _ (by omega), Option.bind_some, er _ (by omega), Option.bind_some, if_pos rfl, Option.bind_some, ex _ (by omega), Option.bind_some, if_pos rfl, Option.bind_some, ey _ (by omega), Option.bind_some, if_pos rfl, mk _ (by omega) 1 xs (by decide) (by decide) (by omega), Option.bind_some]
      dsimp only
      rw [mk _ (by omega) _ ys (by omega) (by omega) (by omega), Option.bind_some]
      dsimp only
      rw [if_neg (by omega), Option.bind_some, laws_FnExactNumsAdd.j0, if_neg (by decide), mk _ (by omega) 1 R (by decide) (by decide) (by omega), Option.bind_some]
      dsimp only
      rw [hd _ (by omega) 1 _ (by decide) (by decide) (by omega), Option.bind_some, if_neg (by omega), if_pos rfl, tx _ (by omega), Option.bind_some, ty _ (by omega), Option.bind_some, iw _ (by omega), Option.bind_some, er _ (by omega), Option.bind_some, if_pos rfl, Option.bind_some, if_neg (by omega), if_pos rfl]

end Go.Proofs.Ytnmalfhdndnelaa.Pure
