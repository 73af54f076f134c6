/- The edit distance of two lists of numbers, in plain Lean: its recurrences from the front and from the back, symmetry, the triangle inequality, its bounds; no program in sight, no conditions. -/
import Derived.Test.YtbibgmmoompoiaaLib
set_option linter.unusedVariables false
set_option linter.unusedSimpArgs false
namespace Go.Proofs.Ytbibgmmoompoiaa.L
open Go.RowKit Go.Proofs.YtbibgmmoompoiaaW.PrintWords

/-- 0 where two numbers are the same, else 1 -/
def ne01 (x y : Int) : Nat := if x = y then 0 else 1
theorem ne01_le (x y : Int) : ne01 x y ≤ 1 := by unfold ne01; split <;> omega
theorem ne01_comm (x y : Int) : ne01 x y = ne01 y x := by
  unfold ne01
  by_cases h : x = y
  · rw [if_pos h, if_pos h.symm]
  · rw [if_neg h, if_neg (fun e => h e.symm)]
theorem ne01_tri (x y z : Int) : ne01 x z ≤ ne01 x y + ne01 y z := by
  unfold ne01
  by_cases h : x = y
  · subst h; simp
  · rw [if_neg h]; split <;> omega
/-- the edit distance -/
def lev : List Int → List Int → Nat
  | [], b => b.length
  | x :: a, [] => (x :: a).length
  | x :: a, y :: b => min (min (lev a b + ne01 x y) (lev a (y :: b) + 1)) (lev (x :: a) b + 1)
termination_by a b => a.length + b.length
theorem lev_nil (b : List Int) : lev [] b = b.length := by rw [lev]
theorem lev_nil' (a : List Int) : lev a [] = a.length := by
  cases a with
  | nil => rw [lev]
  | cons x a => rw [lev]
theorem lev_cons (x y : Int) (a b : List Int) : lev (x :: a) (y :: b) = min (min (lev a b + ne01 x y) (lev a (y :: b) + 1)) (lev (x :: a) b + 1) := by rw [lev]
theorem lev_del (x : Int) (a b : List Int) : lev (x :: a) b ≤ lev a b + 1 := by
  cases b with
  | nil => rw [lev_nil', lev_nil']; simp
  | cons y b => rw [lev_cons]; omega
theorem lev_ins (y : Int) (a b : List Int) : lev a (y :: b) ≤ lev a b + 1 := by
  cases a with
  | nil => rw [lev_nil, lev_nil]; simp
  | cons x a => rw [lev_cons]; omega
theorem lev_sub (x y : Int) (a b : List Int) : lev (x :: a) (y :: b) ≤ lev a b + ne01 x y := by rw [lev_cons]; omega
theorem lev_ways (x y : Int) (a b : List Int) : lev (x :: a) (y :: b) = lev a b + ne01 x y ∨ lev (x :: a) (y :: b) = lev a (y :: b) + 1 ∨ lev (x :: a) (y :: b) = lev (x :: a) b + 1 := by rw [lev_cons]; omega
theorem lev_comm_n (n : Nat) : ∀ a b : List Int, a.length + b.length ≤ n → lev a b = lev b a := by
  induction n with
  | zero =>
    intro a b h
    obtain rfl : a = [] := List.length_eq_zero_iff.1 (by omega)
    rw [lev_nil, lev_nil']
  | succ n ih =>
    intro a b h
    cases a with
    | nil => rw [lev_nil, lev_nil']
    | cons x a =>
      cases b with
      | nil => rw [lev_nil, lev_nil']
      | cons y b =>
        simp only [List.length_cons] at h
        rw [lev_cons, lev_cons, ih a b (by omega), ih a (y :: b) (by simp only [List.length_cons]; omega), ih (x :: a) b (by simp only [List.length_cons]; omega), ne01_comm]
        omega
theorem lev_comm (a b : List Int) : lev a b = lev b a := lev_comm_n _ a b (Nat.le_refl _)
theorem lev_gap_n (n : Nat) : ∀ a b : List Int, a.length + b.length ≤ n → a.length ≤ lev a b + b.length ∧ lev a b ≤ max a.length b.length := by
  induction n with
  | zero =>
    intro a b h
    rw [List.length_eq_zero_iff.1 (show a.length = 0 by omega), lev_nil]
    simp
  | succ n ih =>
    intro a b h
    cases a with
    | nil => rw [lev_nil]; simp
    | cons x a =>
      cases b with
      | nil => rw [lev_nil']; simp
      | cons y b =>
        simp only [List.length_cons] at h
        have h1 := ih a b (by omega)
        have h2 := ih a (y :: b) (by simp only [List.length_cons]; omega)
        have h3 := ih (x :: a) b (by simp only [List.length_cons]; omega)
        have h4 := ne01_le x y
        simp only [List.length_cons] at h2 h3 ⊢
        rw [lev_cons]
        omega
theorem lev_gap (a b : List Int) : a.length ≤ lev a b + b.length ∧ b.length ≤ lev a b + a.length ∧ lev a b ≤ max a.length b.length := by
  have h1 := lev_gap_n _ a b (Nat.le_refl _)
  have h2 := lev_gap_n _ b a (Nat.le_refl _)
  rw [lev_comm b a] at h2
  exact ⟨h1.1, h2.1, h1.2⟩
theorem lev_self : ∀ a : List Int, lev a a = 0
  | [] => by rw [lev_nil]; rfl
  | x :: a => by
    have := lev_sub x x a a
    rw [lev_self a] at this
    simpa [ne01] using this
theorem lev_zero : ∀ a b : List Int, lev a b = 0 → a = b
  | [], b => fun h => by
    rw [lev_nil] at h
    exact (List.length_eq_zero_iff.1 h).symm
  | x :: a, [] => fun h => by rw [lev_nil'] at h; simp at h
  | x :: a, y :: b => fun h => by
    rw [lev_cons] at h
    have h1 : lev a b = 0 := by omega
    have h2 : ne01 x y = 0 := by omega
    have h3 : x = y := by
      unfold ne01 at h2
      by_cases e : x = y
      · exact e
      · rw [if_neg e] at h2; omega
    rw [h3, lev_zero a b h1]
theorem lev_zero_iff (a b : List Int) : lev a b = 0 ↔ a = b := ⟨lev_zero a b, fun h => by rw [h]; exact lev_self b⟩
theorem lev_tri_n (n : Nat) : ∀ a b c : List Int, a.length + b.length + c.length ≤ n → lev a c ≤ lev a b + lev b c := by
  induction n with
  | zero =>
    intro a b c h
    rw [List.length_eq_zero_iff.1 (show a.length = 0 by omega), List.length_eq_zero_iff.1 (show c.length = 0 by omega), lev_nil]
    simp
  | succ n ih =>
    intro a b c h
    cases a with
    | nil =>
      have := lev_gap b c
      rw [lev_nil, lev_nil]; omega
    | cons x a =>
      cases c with
      | nil =>
        have := lev_gap (x :: a) b
        rw [lev_nil', lev_nil']; omega
      | cons z c =>
        cases b with
        | nil =>
          have := lev_gap (x :: a) (z :: c)
          rw [lev_nil', lev_nil]; omega
        | cons y b =>
          simp only [List.length_cons] at h
          have d1 := lev_del x a (z :: c)
          have d2 := lev_ins z (x :: a) c
          have d3 := lev_sub x z a c
          have t := ne01_tri x y z
          have n1 := ne01_le x y
          have n2 := ne01_le y z
          rcases lev_ways x y a b with e | e | e
          · rcases lev_ways y z b c with f | f | f
            · have := ih a b c (by omega)
              omega
            · have := ih a b (z :: c) (by simp only [List.length_cons]; omega)
              omega
            · have := ih (x :: a) (y :: b) c (by simp only [List.length_cons]; omega)
              omega
          · have := ih a (y :: b) (z :: c) (by simp only [List.length_cons]; omega)
            omega
          · rcases lev_ways y z b c with f | f | f
            · have := ih (x :: a) b c (by simp only [List.length_cons]; omega)
              omega
            · have := ih (x :: a) b (z :: c) (by simp only [List.length_cons]; omega)
              omega
            · have := ih (x :: a) (y :: b) c (by simp only [List.length_cons]; omega)
              omega
theorem lev_tri (a b c : List Int) : lev a c ≤ lev a b + lev b c := lev_tri_n _ a b c (Nat.le_refl _)
theorem lev_ins_many (a c d : List Int) : lev c (a ++ d) ≤ a.length + lev c d := by
  induction a with
  | nil => simp
  | cons x a ih =>
    have := lev_ins x c (a ++ d)
    simp only [List.cons_append, List.length_cons]
    omega
theorem lev_del_many (a c d : List Int) : lev (a ++ c) d ≤ a.length + lev c d := by
  rw [lev_comm, lev_comm c]
  exact lev_ins_many a d c
theorem lev_append_n (n : Nat) : ∀ a b c d : List Int, a.length + b.length ≤ n → lev (a ++ c) (b ++ d) ≤ lev a b + lev c d := by
  induction n with
  | zero =>
    intro a b c d h
    rw [List.length_eq_zero_iff.1 (show a.length = 0 by omega), List.length_eq_zero_iff.1 (show b.length = 0 by omega)]
    simp
  | succ n ih =>
    intro a b c d h
    cases a with
    | nil => rw [lev_nil]; exact lev_ins_many b c d
    | cons x a =>
      cases b with
      | nil => rw [lev_nil']; exact lev_del_many (x :: a) c d
      | cons y b =>
        simp only [List.length_cons] at h
        have d1 := lev_del x (a ++ c) (y :: b ++ d)
        have d2 := lev_ins y (x :: a ++ c) (b ++ d)
        have d3 := lev_sub x y (a ++ c) (b ++ d)
        simp only [List.cons_append] at d1 d2 d3 ⊢
        rcases lev_ways x y a b with e | e | e
        · have := ih a b c d (by omega)
          omega
        · have := ih a (y :: b) c d (by simp only [List.length_cons]; omega)
          simp only [List.cons_append] at this
          omega
        · have := ih (x :: a) b c d (by simp only [List.length_cons]; omega)
          simp only [List.cons_append] at this
          omega
theorem lev_append (a b c d : List Int) : lev (a ++ c) (b ++ d) ≤ lev a b + lev c d := lev_append_n _ a b c d (Nat.le_refl _)
theorem lev_one (x y : Int) : lev [x] [y] = ne01 x y := by
  have := ne01_le x y
  rw [lev_cons, lev_nil, lev_nil, lev_nil']
  simp only [List.length_nil, List.length_cons]
  omega
theorem lev_rev_le_n (n : Nat) : ∀ a b : List Int, a.length + b.length ≤ n → lev a.reverse b.reverse ≤ lev a b := by
  induction n with
  | zero =>
    intro a b h
    rw [List.length_eq_zero_iff.1 (show a.length = 0 by omega), List.length_eq_zero_iff.1 (show b.length = 0 by omega)]
    simp
  | succ n ih =>
    intro a b h
    cases a with
    | nil => rw [List.reverse_nil, lev_nil, lev_nil]; simp
    | cons x a =>
      cases b with
      | nil => rw [List.reverse_nil, lev_nil', lev_nil']; simp
      | cons y b =>
        simp only [List.length_cons] at h
        rcases lev_ways x y a b with e | e | e
        · have h1 := ih a b (by omega)
          have h2 := lev_append a.reverse b.reverse [x] [y]
          rw [lev_one] at h2
          rw [List.reverse_cons, List.reverse_cons]
          omega
        · have h1 := ih a (y :: b) (by simp only [List.length_cons]; omega)
          have h2 := lev_append a.reverse (y :: b).reverse [x] []
          rw [lev_nil', List.append_nil] at h2
          simp only [List.length_cons, List.length_nil] at h2
          rw [List.reverse_cons (a := x)]
          omega
        · have h1 := ih (x :: a) b (by simp only [List.length_cons]; omega)
          have h2 := lev_append (x :: a).reverse b.reverse [] [y]
          rw [lev_nil, List.append_nil] at h2
          simp only [List.length_cons, List.length_nil] at h2
          rw [List.reverse_cons (a := y)]
          omega
theorem lev_rev (a b : List Int) : lev a.reverse b.reverse = lev a b := by
  have h1 := lev_rev_le_n _ a b (Nat.le_refl _)
  have h2 := lev_rev_le_n _ a.reverse b.reverse (Nat.le_refl _)
  rw [List.reverse_reverse, List.reverse_reverse] at h2
  omega
/-- the recurrence from the back -/
theorem lev_snoc (x y : Int) (a b : List Int) : lev (a ++ [x]) (b ++ [y]) = min (min (lev a b + ne01 x y) (lev a (b ++ [y]) + 1)) (lev (a ++ [x]) b + 1) := by
  rw [← lev_rev (a ++ [x]), ← lev_rev a b, ← lev_rev a (b ++ [y]), ← lev_rev (a ++ [x]) b]
  simp only [List.reverse_append, List.reverse_cons, List.reverse_nil, List.nil_append, List.cons_append]
  exact lev_cons x y a.reverse b.reverse
theorem lev_near (x : Int) (a b : List Int) : lev (a ++ [x]) b ≤ lev a b + 1 ∧ lev a b ≤ lev (a ++ [x]) b + 1 := by
  have h1 := lev_append a b [x] []
  rw [List.append_nil, lev_nil'] at h1
  have h2 := lev_tri a (a ++ [x]) b
  have h3 := lev_append a a [] [x]
  rw [List.append_nil, lev_nil, lev_self] at h3
  simp only [List.length_cons, List.length_nil] at h1 h3
  omega

/-! ### over two strings, by places -/
theorem bytesOf_get (s : ByteArray) (i : Nat) (h : i < s.size) : (bytesOf s)[i]'(by rw [bytesOf_length]; exact h) = bt s (i : Int) := by
  rw [← rd_bytesOf, rd_lt (by rw [bytesOf_length]; exact h)]
theorem bytesOf_drop (s : ByteArray) (i : Nat) (h : i < s.size) : (bytesOf s).drop i = bt s (i : Int) :: (bytesOf s).drop (i + 1) := by
  rw [List.drop_eq_getElem_cons (by rw [bytesOf_length]; exact h), bytesOf_get s i h]
theorem bytesOf_end (s : ByteArray) (i : Nat) (h : s.size ≤ i) : (bytesOf s).drop i = [] := List.drop_of_length_le (by rw [bytesOf_length]; exact h)
theorem bytesOf_inj {s t : ByteArray} (h : bytesOf s = bytesOf t) : s = t := by
  unfold bytesOf at h
  have h2 : s.data.toList = t.data.toList := by
    have inj : ∀ x y : UInt8, ((x.toNat : Nat) : Int) = ((y.toNat : Nat) : Int) → x = y := fun x y e => UInt8.toNat_inj.1 (by omega)
    revert h
    generalize s.data.toList = u
    generalize t.data.toList = v
    intro h
    induction u generalizing v with
    | nil => cases v with
      | nil => rfl
      | cons y v => simp at h
    | cons x u ih => cases v with
      | nil => simp at h
      | cons y v =>
        simp only [List.map_cons, List.cons.injEq] at h
        rw [inj x y h.1, ih v h.2]
  cases s; cases t
  congr 1
  exact Array.toList_inj.1 h2
/-- the distance of what is left of two strings from two places on -/
def levAt (s t : ByteArray) (i j : Nat) : Nat := lev ((bytesOf s).drop i) ((bytesOf t).drop j)
theorem levAt_end (s t : ByteArray) (j : Nat) : levAt s t s.size j = t.size - j := by
  unfold levAt
  rw [bytesOf_end s s.size (Nat.le_refl _), lev_nil, List.length_drop, bytesOf_length]
theorem levAt_end' (s t : ByteArray) (i : Nat) : levAt s t i t.size = s.size - i := by
  unfold levAt
  rw [bytesOf_end t t.size (Nat.le_refl _), lev_nil', List.length_drop, bytesOf_length]
theorem levAt_step (s t : ByteArray) {i j : Nat} (hi : i < s.size) (hj : j < t.size) :
    levAt s t i j = min (min (levAt s t (i + 1) (j + 1) + ne01 (bt s (i : Int)) (bt t (j : Int))) (levAt s t (i + 1) j + 1)) (levAt s t i (j + 1) + 1) := by
  unfold levAt
  rw [bytesOf_drop s i hi, bytesOf_drop t j hj, lev_cons]
theorem levAt_le (s t : ByteArray) (i j : Nat) : levAt s t i j ≤ max s.size t.size := by
  have := (lev_gap ((bytesOf s).drop i) ((bytesOf t).drop j)).2.2
  unfold levAt
  simp only [List.length_drop, bytesOf_length] at this
  omega
end Go.Proofs.Ytbibgmmoompoiaa.L
