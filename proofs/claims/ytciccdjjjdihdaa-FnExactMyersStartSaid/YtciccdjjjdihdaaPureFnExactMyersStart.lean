/- The law FnExactMyersStart holds of the program: whatever its arguments (of the kinds and sizes that the statement names), it answers true. -/
import Derived.Test.YtciccdjjjdihdaaQFnExactMyersStartx3
import Derived.Test.YtciccdjjjdihdaaLib
import Derived.Test.YtciccdjjjdihdaaLibLane
set_option linter.unusedVariables false
set_option linter.unusedSimpArgs false
namespace Go.Proofs.Ytciccdjjjdihdaa.Pure
open Go.RowKit Go.Proofs.Ytciccdjjjdihdaa.PFnExactMyersStart Go.Proofs.YtciccdjjjdihdaaW.PrintWords Go.Proofs.YtciccdjjjdihdaaW.PrintLast Go.Proofs.Ytciccdjjjdihdaa.L 

theorem l06Power_l0 (n : Nat) : ∀ (k i : Nat), i + n ≤ 63 → n < k → spec_l06Power.l0 k (n : Int) ((2 ^ i : Nat) : Int) = some ((2 ^ (i + n) : Nat) : Int) := by
  induction n with
  | zero =>
    intro k i hi hk
    obtain ⟨k, rfl⟩ : ∃ q, k = q + 1 := ⟨k - 1, by omega⟩
    rw [spec_l06Power.l0, if_neg (by omega)]
    rfl
  | succ n ih =>
    intro k i hi hk
    obtain ⟨k, rfl⟩ : ∃ q, k = q + 1 := ⟨k - 1, by omega⟩
    have hp : 2 ^ (i + 1) ≤ 2 ^ 63 := Nat.pow_le_pow_right (by decide) (by omega)
    have hd := ih k (i + 1) (by omega) (by omega)
    rw [spec_l06Power.l0, if_pos (by omega), w64 (by omega) (by omega), u64_id (by rw [Nat.pow_succ] at hp; omega) (by rw [Nat.pow_succ] at hp; omega)]
    rw [show i + (n + 1) = i + 1 + n from by omega, ← hd, Nat.pow_succ]
    congr 1 <;> omega
theorem l06Power_f {n k : Nat} (hn : n ≤ 63) (hk : n < k) : spec_l06Power.f k (n : Int) = some ((2 ^ n : Nat) : Int) := by
  unfold spec_l06Power.f
  have := l06Power_l0 n k 0 (by omega) hk
  rw [Nat.zero_add] at this
  exact this

/-- a step up, a step down behind a place of a list -/
def upAt (d : List Int) (i : Nat) : Bool := decide (rd d ((i : Int) + 1) = rd d (i : Int) + 1)
def dnAt (d : List Int) (i : Nat) : Bool := decide (rd d ((i : Int) + 1) = rd d (i : Int) - 1)
theorem l06Of_l0 (xs : List Int) (n : Nat) (hl : xs.length = n + 1) (hn : n ≤ 63) (hb : ∀ i : Nat, i ≤ n → -1000000 ≤ rd xs (i : Int) ∧ rd xs (i : Int) ≤ 1000000) (sc ln : Int) (d : Nat) : ∀ k i, i + d = n → d + 70 < k →
    spec_l06Of.l0 k xs (i : Int) ((sumN (upAt xs) i : Nat) : Int) ((sumN (dnAt xs) i : Nat) : Int) sc ln = some (((sumN (upAt xs) n : Nat) : Int), ((sumN (dnAt xs) n : Nat) : Int), sc, ln) := by
  induction d with
  | zero =>
    intro k i hi hk
    obtain ⟨k, rfl⟩ : ∃ q, k = q + 1 := ⟨k - 1, by omega⟩
    obtain rfl : i = n := by omega
    rw [spec_l06Of.l0, w64 (by omega) (by omega), if_neg (by omega)]
  | succ d ih =>
    intro k i hi hk
    obtain ⟨k, rfl⟩ : ∃ q, k = q + 1 := ⟨k - 1, by omega⟩
    have h := ih k (i + 1) (by omega) (by omega)
    have h1 := hb i (by omega)
    have h2 := hb (i + 1) (by omega)
    have u1 := sumN_lt (upAt xs) i
    have u2 := sumN_lt (dnAt xs) i
    have hp : 2 ^ i ≤ 2 ^ 62 := Nat.pow_le_pow_right (by decide) (by omega)
    rw [show ((i + 1 : Nat) : Int) = (i : Int) + 1 from rfl] at h2
    rw [spec_l06Of.l0, w64 (n := (i : Int) + 1) (by omega) (by omega), if_pos (by omega), if_pos (by omega), if_pos (by omega), if_pos (by omega), w64 (n := rd xs (i : Int) + 1) (by omega) (by omega), w64 (n := rd xs (i : Int) - 1) (by omega) (by omega)]
    simp only [l06Power_f (show i ≤ 63 by omega) (show i < k by omega), Option.bind_some]
    rw [sumN, sumN] at h
    by_cases c1 : rd xs ((i : Int) + 1) = rd xs (i : Int) + 1
    · have e1 : upAt xs i = true := decide_eq_true c1
      have e2 : dnAt xs i = false := decide_eq_false (by omega)
      rw [e1, e2] at h
      rw [if_pos c1, if_neg (by omega), u64_id (by omega) (by omega)]
      simpa using h
    · rw [if_neg c1]
      have e1 : upAt xs i = false := decide_eq_false c1
      by_cases c2 : rd xs ((i : Int) + 1) = rd xs (i : Int) - 1
      · have e2 : dnAt xs i = true := decide_eq_true c2
        rw [e1, e2] at h
        rw [if_pos c2, u64_id (by omega) (by omega)]
        simpa using h
      · have e2 : dnAt xs i = false := decide_eq_false c2
        rw [e1, e2] at h
        rw [if_neg c2]
        simpa using h
theorem l06Of_f (xs : List Int) (n : Nat) (hl : xs.length = n + 1) (hn : n ≤ 63) (hb : ∀ i : Nat, i ≤ n → -1000000 ≤ rd xs (i : Int) ∧ rd xs (i : Int) ≤ 1000000) {k : Nat} (hk : 140 < k) :
    spec_l06Of.f k xs = some (((sumN (upAt xs) n : Nat) : Int), ((sumN (dnAt xs) n : Nat) : Int), rd xs (n : Int), (n : Int)) := by
  unfold spec_l06Of.f
  have e : wrap64 ((xs.length : Int) - 1) = (n : Int) := by rw [w64 (by omega) (by omega)]; omega
  rw [e, if_pos (by omega), if_pos (by omega)]
  exact l06Of_l0 xs n hl hn hb _ _ n k 0 (by omega) (by omega)

/-- the numbers from 0 on -/
def idL (n : Nat) : List Int := (List.range n).map fun i : Nat => (i : Int)
theorem idL_length (n : Nat) : (idL n).length = n := by simp [idL]
theorem idL_succ (n : Nat) : idL (n + 1) = idL n ++ [(n : Int)] := by
  unfold idL
  rw [List.range_succ, List.map_append]
  rfl
theorem rd_idL {n i : Nat} (h : i < n) : rd (idL n) (i : Int) = (i : Int) := by
  rw [rd_lt (by rw [idL_length]; exact h)]
  simp [idL]
theorem sumN_true : ∀ n, sumN (fun _ => true) n = 2 ^ n - 1
  | 0 => rfl
  | n + 1 => by
    have := Nat.two_pow_pos n
    rw [sumN, sumN_true n, Nat.pow_succ]
    simp only [Bool.toNat_true]
    omega
theorem sumN_false : ∀ n, sumN (fun _ => false) n = 0
  | 0 => rfl
  | n + 1 => by rw [sumN, sumN_false n]; simp
theorem sumN_congr {p q : Nat → Bool} : ∀ n, (∀ i, i < n → p i = q i) → sumN p n = sumN q n
  | 0 => fun _ => rfl
  | n + 1 => fun h => by rw [sumN, sumN, sumN_congr n (fun i hi => h i (by omega)), h n (by omega)]
/-- the first column of a pattern of n bytes -/
theorem l06Of_id (n : Nat) (hn : n ≤ 63) {k : Nat} (hk : 140 < k) : spec_l06Of.f k (idL (n + 1)) = some (((2 ^ n - 1 : Nat) : Int), 0, (n : Int), (n : Int)) := by
  have hr : ∀ i : Nat, i ≤ n → rd (idL (n + 1)) (i : Int) = (i : Int) := fun i hi => rd_idL (by omega)
  rw [l06Of_f (idL (n + 1)) n (idL_length _) hn (fun i hi => by rw [hr i hi]; omega) hk, hr n (Nat.le_refl _)]
  rw [sumN_congr (p := upAt (idL (n + 1))) (q := fun _ => true) n (fun i hi => decide_eq_true (by
    have := hr (i + 1) (by omega)
    rw [show ((i + 1 : Nat) : Int) = (i : Int) + 1 from rfl] at this
    rw [this, hr i (by omega)])), sumN_true]
  rw [sumN_congr (p := dnAt (idL (n + 1))) (q := fun _ => false) n (fun i hi => decide_eq_false (by
    have := hr (i + 1) (by omega)
    rw [show ((i + 1 : Nat) : Int) = (i : Int) + 1 from rfl] at this
    rw [this, hr i (by omega)]
    omega)), sumN_false]
  rfl
theorem spec_MyersStart_l0 (s : ByteArray) (hs : s.size ≤ 32) (d : Nat) : ∀ k i, i + d = s.size + 1 → d + 150 < k →
    spec_MyersStart.l0 k s (idL i) (i : Int) = some (((2 ^ s.size - 1 : Nat) : Int), 0, (s.size : Int), (s.size : Int)) := by
  induction d with
  | zero =>
    intro k i hi hk
    obtain ⟨k, rfl⟩ : ∃ q, k = q + 1 := ⟨k - 1, by omega⟩
    obtain rfl : i = s.size + 1 := by omega
    rw [spec_MyersStart.l0, if_neg (by omega), l06Of_id s.size (by omega) (by omega)]
    rfl
  | succ d ih =>
    intro k i hi hk
    obtain ⟨k, rfl⟩ : ∃ q, k = q + 1 := ⟨k - 1, by omega⟩
    have h := ih k (i + 1) (by omega) (by omega)
    rw [idL_succ] at h
    rw [spec_MyersStart.l0, if_pos (by omega), if_pos (by rw [idL_length]; omega), w64 (by omega) (by omega)]
    exact h
theorem spec_MyersStart_f (s : ByteArray) (hs : s.size ≤ 32) {k : Nat} (hk : 200 < k) : spec_MyersStart.f k s = some (((2 ^ s.size - 1 : Nat) : Int), 0, (s.size : Int), (s.size : Int)) := by
  unfold spec_MyersStart.f
  rw [if_neg (by omega)]
  exact spec_MyersStart_l0 s hs (s.size + 1) k 0 (by omega) (by omega)

/-- the mask of the lowest bits -/
theorem impl_MaskLow_n {n : Nat} (hn : n < 64) : impl_MaskLow.f (n : Int) = some ((2 ^ n - 1 : Nat) : Int) := by
  unfold impl_MaskLow.f
  by_cases h : n = 0
  · subst h; rfl
  · rw [if_neg (by omega), if_neg (by omega), if_pos (by omega), shl_one hn]
    have hp := pow_lt64 hn
    have hp0 : 0 < 2 ^ n := Nat.two_pow_pos _
    generalize 2 ^ n = u at *
    rw [u64_id (by omega) (by omega)]
    congr 1
    omega

theorem FnExactMyersStart : laws_FnExactMyersStart.Pure := by
  intro s _
  refine ⟨201, ?_⟩
  unfold laws_FnExactMyersStart.f impl_MyersStart.f
  by_cases h : s.size ≤ 32
  · rw [spec_MyersStart_f s h (by omega), if_neg (show ¬ (s.size : Int) > 32 by omega), impl_MaskLow_n (by omega)]
    simp [laws_eqBits.f]
  · unfold spec_MyersStart.f
    rw [if_pos (show (s.size : Int) > 32 by omega), if_pos (show (s.size : Int) > 32 by omega)]
    by_cases hb : (s.size : Int) > 1048576
    · rw [if_pos hb]
    · rw [if_neg hb]
      simp [laws_eqBits.f]

end Go.Proofs.Ytciccdjjjdihdaa.Pure
