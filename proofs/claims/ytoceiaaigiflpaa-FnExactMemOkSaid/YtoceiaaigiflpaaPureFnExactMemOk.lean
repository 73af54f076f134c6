/- The law FnExactMemOk holds of the program: whatever its arguments (of the kinds and sizes that the statement names), it answers true. -/
import Derived.Test.YtoceiaaigiflpaaQFnExactMemOkx5
import Derived.Test.YtoceiaaigiflpaaLib
import Derived.Test.YtoceiaaigiflpaaLibBytes
set_option linter.unusedVariables false
set_option linter.unusedSimpArgs false
namespace Go.Proofs.Ytoceiaaigiflpaa.Pure
open Go.RowKit Go.Proofs.Ytoceiaaigiflpaa.PFnExactMemOk Go.Proofs.YtoceiaaigiflpaaW.PrintWords Go.Proofs.YtoceiaaigiflpaaW.PrintLast Go.Proofs.Ytoceiaaigiflpaa.L 

theorem within_f (a b c : Int) : impl_within.f a b c = some (decide (b ≤ a ∧ a ≤ c)) := by
  unfold impl_within.f
  by_cases h : a ≥ b
  · rw [if_pos h]; congr 1; rw [decide_eq_decide]; omega
  · rw [if_neg h]; congr 1; symm; rw [decide_eq_false_iff_not]; omega

/-- an access of the log is in range -/
def touchOk (a0 : Int) (n : Nat) (t : S59) : Bool := decide ((t.f0 = 1 ∨ t.f0 = 2) ∧ 0 ≤ t.f1 ∧ t.f1 < (n : Int) ∧ t.f2 = a0)
def cellOk (a0 : Int) (c : S50) : Bool := decide ((c.f0.length : Int) = a0)
/-- a memory of the document's fourth chapter -/
def memB (a0 : Int) (cs : List S50) (ts : List S59) : Bool := decide (1 ≤ a0 ∧ a0 ≤ 1000 ∧ cs.length ≤ 128 ∧ ts.length ≤ 6000) && (cs.all (cellOk a0) && ts.all (touchOk a0 cs.length))
theorem rd_cell {l : List S50} {i : Nat} (h : i < l.length) : rd_T50 l (i : Int) = l[i] := by unfold rd_T50; rw [Int.toNat_natCast, List.getD_eq_getElem?_getD]; simp [h]
theorem rd_touch {l : List S59} {i : Nat} (h : i < l.length) : rd_T59 l (i : Int) = l[i] := by unfold rd_T59; rw [Int.toNat_natCast, List.getD_eq_getElem?_getD]; simp [h]
theorem all_from {α : Type} (p : α → Bool) {l : List α} {i : Nat} (h : i < l.length) : (l.drop i).all p = (p l[i] && (l.drop (i + 1)).all p) := by rw [List.drop_eq_getElem_cons h, List.all_cons]
theorem spec_MemOk_l1 (a0 : Int) (cs : List S50) (ts : List S59) (hc : cs.length ≤ 128) (ht : ts.length ≤ 6000) (d : Nat) : ∀ (k i : Nat), i + d = ts.length → d < k →
    spec_MemOk.l1 k (i : Int) a0 cs ts = some ((ts.drop i).all (touchOk a0 cs.length)) := by
  induction d with
  | zero =>
    intro k i hi hk
    obtain ⟨k, rfl⟩ : ∃ q, k = q + 1 := ⟨k - 1, by omega⟩
    rw [spec_MemOk.l1, if_neg (by omega), List.drop_eq_nil_of_le (by omega)]
    rfl
  | succ d ih =>
    intro k i hi hk
    obtain ⟨k, rfl⟩ : ∃ q, k = q + 1 := ⟨k - 1, by omega⟩
    have h := ih k (i + 1) (by omega) (by omega)
    have hl : i < ts.length := by omega
    rw [spec_MemOk.l1, if_pos (by omega), if_pos (by omega), rd_touch hl, all_from _ hl, w64 (by omega) (by omega), show ((i : Int) + 1) = ((i + 1 : Nat) : Int) from rfl, h]
    generalize ts[i] = t
    by_cases h1 : t.f1 < 0
    · have hf : touchOk a0 cs.length t = false := by unfold touchOk; rw [decide_eq_false_iff_not]; omega
      rw [hf, Bool.false_and]
      by_cases e1 : t.f0 = 1
      · rw [if_pos e1, if_pos h1]
      · rw [if_neg e1]
        by_cases e2 : t.f0 = 2
        · rw [if_pos e2, if_pos h1]
        · rw [if_neg e2]
    · by_cases h2 : t.f1 ≥ (cs.length : Int)
      · have hf : touchOk a0 cs.length t = false := by unfold touchOk; rw [decide_eq_false_iff_not]; omega
        rw [hf, Bool.false_and]
        by_cases e1 : t.f0 = 1
        · rw [if_pos e1, if_neg h1, if_pos h2]
        · rw [if_neg e1]
          by_cases e2 : t.f0 = 2
          · rw [if_pos e2, if_neg h1, if_pos h2]
          · rw [if_neg e2]
      · by_cases h3 : t.f2 = a0
        · by_cases e1 : t.f0 = 1
          · have hf : touchOk a0 cs.length t = true := by unfold touchOk; rw [decide_eq_true_iff]; omega
            rw [if_pos e1, if_neg h1, if_neg h2, if_pos h3, hf, Bool.true_and]
          · rw [if_neg e1]
            by_cases e2 : t.f0 = 2
            · have hf : touchOk a0 cs.length t = true := by unfold touchOk; rw [decide_eq_true_iff]; omega
              rw [if_pos e2, if_neg h1, if_neg h2, if_pos h3, hf, Bool.true_and]
            · have hf : touchOk a0 cs.length t = false := by unfold touchOk; rw [decide_eq_false_iff_not]; omega
              rw [if_neg e2, hf, Bool.false_and]
        · have hf : touchOk a0 cs.length t = false := by unfold touchOk; rw [decide_eq_false_iff_not]; omega
          rw [hf, Bool.false_and]
          by_cases e1 : t.f0 = 1
          · rw [if_pos e1, if_neg h1, if_neg h2, if_neg h3]
          · rw [if_neg e1]
            by_cases e2 : t.f0 = 2
            · rw [if_pos e2, if_neg h1, if_neg h2, if_neg h3]
            · rw [if_neg e2]
theorem spec_MemOk_l0 (a0 : Int) (cs : List S50) (ts : List S59) (hc : cs.length ≤ 128) (ht : ts.length ≤ 6000) (d : Nat) : ∀ (k i : Nat), i + d = cs.length → d + 6001 < k →
    spec_MemOk.l0 k (i : Int) a0 cs ts = some ((cs.drop i).all (cellOk a0) && ts.all (touchOk a0 cs.length)) := by
  induction d with
  | zero =>
    intro k i hi hk
    obtain ⟨k, rfl⟩ : ∃ q, k = q + 1 := ⟨k - 1, by omega⟩
    have h := spec_MemOk_l1 a0 cs ts hc ht ts.length k 0 (by omega) (by omega)
    rw [spec_MemOk.l0, if_neg (by omega), List.drop_eq_nil_of_le (by omega)]
    exact h
  | succ d ih =>
    intro k i hi hk
    obtain ⟨k, rfl⟩ : ∃ q, k = q + 1 := ⟨k - 1, by omega⟩
    have h := ih k (i + 1) (by omega) (by omega)
    have hl : i < cs.length := by omega
    rw [spec_MemOk.l0, if_pos (by omega), if_pos (by omega), rd_cell hl, all_from _ hl, w64 (by omega) (by omega), show ((i : Int) + 1) = ((i + 1 : Nat) : Int) from rfl, h]
    generalize cs[i] = c
    by_cases h1 : (c.f0.length : Int) = a0
    · rw [if_pos h1, show cellOk a0 c = true from decide_eq_true h1, Bool.true_and]
    · rw [if_neg h1, show cellOk a0 c = false from decide_eq_false h1, Bool.false_and, Bool.false_and]
theorem spec_MemOk_f (a0 : Int) (cs : List S50) (ts : List S59) {k : Nat} (hk : 6200 < k) : spec_MemOk.f k a0 cs ts = some (memB a0 cs ts) := by
  obtain ⟨k, rfl⟩ : ∃ q, k = q + 1 := ⟨k - 1, by omega⟩
  have hj : ∀ z, spec_MemOk.j0 (k + 1) true z cs ts = some false := fun z => by rw [spec_MemOk.j0, if_pos rfl]
  have hn : ¬ (1 ≤ a0 ∧ a0 ≤ 1000 ∧ cs.length ≤ 128 ∧ ts.length ≤ 6000) → memB a0 cs ts = false := fun h => by unfold memB; rw [decide_eq_false h, Bool.false_and]
  unfold spec_MemOk.f
  by_cases h1 : a0 < 1
  · rw [if_pos h1, hj, hn (by omega)]
  · by_cases h2 : a0 > 1000
    · rw [if_neg h1, if_pos h2, hj, hn (by omega)]
    · by_cases h3 : (cs.length : Int) > 128
      · rw [if_neg h1, if_neg h2, if_pos h3, hj, hn (by omega)]
      · rw [if_neg h1, if_neg h2, if_neg h3]
        by_cases h4 : (ts.length : Int) > 6000
        · rw [decide_eq_true h4, hj, hn (by omega)]
        · have h := spec_MemOk_l0 a0 cs ts (by omega) (by omega) cs.length k 0 (by omega) (by omega)
          rw [decide_eq_false h4, spec_MemOk.j0, if_neg (by decide)]
          unfold memB
          rw [decide_eq_true (by omega), Bool.true_and]
          exact h
theorem impl_isMem_l0 (a0 : Int) (cs : List S50) (ts : List S59) (hc : cs.length ≤ 128) (ht : ts.length ≤ 6000) (d : Nat) : ∀ (k i : Nat), i + d = ts.length → d < k →
    impl_isMem.l0 k ts (ts.length : Int) (i : Int) a0 cs ts = some (cs.all (cellOk a0) && (ts.drop i).all (touchOk a0 cs.length)) := by
  induction d with
  | zero =>
    intro k i hi hk
    obtain ⟨k, rfl⟩ : ∃ q, k = q + 1 := ⟨k - 1, by omega⟩
    rw [impl_isMem.l0, if_neg (by omega), List.drop_eq_nil_of_le (by omega), impl_Cell_50.f, Option.bind_some, Bool.not_not, List.all_nil, Bool.and_true]
    rfl
  | succ d ih =>
    intro k i hi hk
    obtain ⟨k, rfl⟩ : ∃ q, k = q + 1 := ⟨k - 1, by omega⟩
    have h := ih k (i + 1) (by omega) (by omega)
    have hl : i < ts.length := by omega
    rw [impl_isMem.l0, if_pos (by omega), if_pos (by omega), if_pos (by omega), rd_touch hl, all_from _ hl, within_f, Option.bind_some, within_f, w64 (n := (i : Int) + 1) (by omega) (by omega), w64 (n := (cs.length : Int) - 1) (by omega) (by omega), show ((i : Int) + 1) = ((i + 1 : Nat) : Int) from rfl, h]
    generalize ts[i] = t
    by_cases h1 : 1 ≤ t.f0 ∧ t.f0 ≤ 2
    · rw [if_pos (decide_eq_true h1), Option.bind_some]
      by_cases h2 : 0 ≤ t.f1 ∧ t.f1 ≤ (cs.length : Int) - 1
      · rw [if_pos (decide_eq_true h2)]
        by_cases h3 : t.f2 = a0
        · have hf : touchOk a0 cs.length t = true := by unfold touchOk; rw [decide_eq_true_iff]; omega
          rw [if_pos h3, hf, Bool.true_and]
        · have hf : touchOk a0 cs.length t = false := by unfold touchOk; rw [decide_eq_false_iff_not]; omega
          rw [if_neg h3, hf, Bool.false_and, Bool.and_false]
      · have hf : touchOk a0 cs.length t = false := by unfold touchOk; rw [decide_eq_false_iff_not]; omega
        rw [if_neg (by simpa using h2), hf, Bool.false_and, Bool.and_false]
    · have hf : touchOk a0 cs.length t = false := by unfold touchOk; rw [decide_eq_false_iff_not]; omega
      rw [if_neg (by simpa using h1), hf, Bool.false_and, Bool.and_false]
theorem impl_isMem_f (a0 : Int) (cs : List S50) (ts : List S59) {k : Nat} (hk : 6200 < k) : impl_isMem.f k a0 cs ts = some (memB a0 cs ts) := by
  obtain ⟨k, rfl⟩ : ∃ q, k = q + 1 := ⟨k - 1, by omega⟩
  have hj : ∀ z, impl_isMem.j0 (k + 1) true z cs ts = some false := fun z => by rw [impl_isMem.j0, if_pos rfl]
  have hn : ¬ (1 ≤ a0 ∧ a0 ≤ 1000 ∧ cs.length ≤ 128 ∧ ts.length ≤ 6000) → memB a0 cs ts = false := fun h => by unfold memB; rw [decide_eq_false h, Bool.false_and]
  unfold impl_isMem.f
  rw [within_f, Option.bind_some]
  by_cases h1 : 1 ≤ a0 ∧ a0 ≤ 1000
  · rw [if_pos (decide_eq_true h1)]
    by_cases h3 : (cs.length : Int) > 128
    · rw [if_pos h3, hj, hn (by omega)]
    · rw [if_neg h3]
      by_cases h4 : (ts.length : Int) > 6000
      · rw [decide_eq_true h4, hj, hn (by omega)]
      · have h := impl_isMem_l0 a0 cs ts (by omega) (by omega) ts.length k 0 (by omega) (by omega)
        rw [decide_eq_false h4, impl_isMem.j0, if_neg (by decide)]
        unfold memB
        rw [decide_eq_true (by omega), Bool.true_and]
        exact h
  · rw [if_neg (by simpa using h1), hj, hn (by omega)]

theorem toByteS_l0 (xs : List Int) (hx : xs.length ≤ 140737488351232) (d : Nat) : ∀ (k i : Nat) (ys : List Int), ys.length = xs.length → i ≤ xs.length → xs.length - i = d → d < k → ys.take i = xs.take i →
    laws_toByteS.l0 k xs ys (i : Int) = some xs := by
  induction d with
  | zero =>
    intro k i ys hl hi hd hk ht
    obtain ⟨k, rfl⟩ : ∃ q, k = q + 1 := ⟨k - 1, by omega⟩
    rw [laws_toByteS.l0, if_neg (by omega)]
    rw [List.take_of_length_le (by omega), List.take_of_length_le (by omega)] at ht
    rw [ht]
  | succ d ih =>
    intro k i ys hl hi hd hk ht
    obtain ⟨k, rfl⟩ : ∃ q, k = q + 1 := ⟨k - 1, by omega⟩
    have h := ih k (i + 1) (ys.set i (rd xs (i : Int))) (by simp [hl]) (by omega) (by omega) (by omega) (set_copy xs ys i (by omega) hl ht)
    rw [laws_toByteS.l0, if_pos (by omega), if_pos (by omega), if_pos (by omega), w64 (by omega) (by omega), Int.toNat_natCast]
    exact h
theorem toByteS_f (xs : List Int) (hx : xs.length ≤ 140737488351232) {k : Nat} (hk : xs.length < k) : laws_toByteS.f k xs = some xs := by
  unfold laws_toByteS.f
  rw [if_pos (Int.natCast_nonneg _), if_pos (by omega)]
  exact toByteS_l0 xs hx xs.length k 0 _ (by simp) (by omega) (by omega) hk (by simp)

theorem eqByteS_l0 (xs ys : List Int) (hl : ys.length = xs.length) (hx : xs.length ≤ 140737488351232) (d : Nat) : ∀ (k i : Nat), i ≤ xs.length → xs.length - i = d → d < k →
    laws_eqByteS.l0 k xs ys (i : Int) = some (decide (xs.drop i = ys.drop i)) := by
  induction d with
  | zero =>
    intro k i hi hd hk
    obtain ⟨k, rfl⟩ : ∃ q, k = q + 1 := ⟨k - 1, by omega⟩
    rw [laws_eqByteS.l0, if_neg (by omega), List.drop_of_length_le (by omega), List.drop_of_length_le (by omega)]
    rfl
  | succ d ih =>
    intro k i hi hd hk
    obtain ⟨k, rfl⟩ : ∃ q, k = q + 1 := ⟨k - 1, by omega⟩
    have h := ih k (i + 1) (by omega) (by omega) (by omega)
    rw [laws_eqByteS.l0, if_pos (by omega), if_pos (by omega), if_pos (by omega), w64 (by omega) (by omega)]
    rw [rd_lt (show i < xs.length by omega), rd_lt (show i < ys.length by omega)]
    rw [List.drop_eq_getElem_cons (show i < xs.length by omega), List.drop_eq_getElem_cons (show i < ys.length by omega)]
    by_cases e : xs[i]'(by omega) = ys[i]'(by omega)
    · rw [if_pos e]
      rw [show ((i : Int) + 1) = ((i + 1 : Nat) : Int) from rfl, h]
      congr 1
      rw [decide_eq_decide, e]
      exact ⟨fun h2 => by rw [h2], fun h2 => (List.cons.inj h2).2⟩
    · rw [if_neg e]
      congr 1
      symm
      rw [decide_eq_false_iff_not]
      intro h2
      exact e (List.cons.inj h2).1
theorem eqByteS_f (xs ys : List Int) (hx : xs.length ≤ 140737488351232) {k : Nat} (hk : xs.length < k) : laws_eqByteS.f k xs ys = some (decide (xs = ys)) := by
  unfold laws_eqByteS.f
  by_cases h : xs.length = ys.length
  · rw [if_pos (by omega)]
    have := eqByteS_l0 xs ys h.symm hx xs.length k 0 (by omega) (by omega) hk
    simpa using this
  · rw [if_neg (by omega)]
    congr 1
    symm
    rw [decide_eq_false_iff_not]
    intro e
    exact h (by rw [e])

/-- a cell, an access as the program's own -/
def cellOf (c : S68) : S50 := ⟨c.f0⟩
def touchOf (t : S71) : S59 := ⟨t.f0, t.f1, t.f2⟩
theorem rd_lcell {l : List S68} {i : Nat} (h : i < l.length) : rd_T68 l (i : Int) = l[i] := by unfold rd_T68; rw [Int.toNat_natCast, List.getD_eq_getElem?_getD]; simp [h]
theorem rd_ltouch {l : List S71} {i : Nat} (h : i < l.length) : rd_T71 l (i : Int) = l[i] := by unfold rd_T71; rw [Int.toNat_natCast, List.getD_eq_getElem?_getD]; simp [h]
theorem szCellS_l0 (l : List S68) (hl : l.length ≤ 1048576) (hb : ∀ i : Nat, i < l.length → (rd_T68 l (i : Int)).f0.length ≤ 9223372036854775807) (d : Nat) : ∀ (k i : Nat) (a : Int), i + d = l.length → d < k → 0 ≤ a → a ≤ 1048576 →
    ∃ r, laws_szCellS.l0 k l a (i : Int) = some r ∧ (r < 0 ∨ 0 ≤ r ∧ r ≤ a ∧ ∀ j : Nat, i ≤ j → j < l.length → (rd_T68 l (j : Int)).f0.length ≤ 1048576) := by
  induction d with
  | zero =>
    intro k i a hi hk h0 h1
    obtain ⟨k, rfl⟩ : ∃ q, k = q + 1 := ⟨k - 1, by omega⟩
    exact ⟨a, by rw [laws_szCellS.l0, if_neg (by omega)], .inr ⟨h0, Int.le_refl _, fun j h2 h3 => absurd h3 (by omega)⟩⟩
  | succ d ih =>
    intro k i a hi hk h0 h1
    obtain ⟨k, rfl⟩ : ∃ q, k = q + 1 := ⟨k - 1, by omega⟩
    have hbi := hb i (by omega)
    rw [laws_szCellS.l0, if_pos (by omega), if_pos (by omega), laws_szCell.f, laws_szByteS.f, w64 (n := a - _) (by omega) (by omega), w64 (n := (i : Int) + 1) (by omega) (by omega)]
    by_cases h : a - ((rd_T68 l (i : Int)).f0.length : Int) < 0
    · rw [if_pos h, Option.bind_some, if_pos (by decide), Option.bind_some, if_pos (by decide)]
      exact ⟨-1, rfl, .inl (by decide)⟩
    · rw [if_neg h, Option.bind_some, if_neg h, Option.bind_some, if_neg h]
      obtain ⟨r, e, hr⟩ := ih k (i + 1) _ (by omega) (by omega) (show 0 ≤ a - ((rd_T68 l (i : Int)).f0.length : Int) by omega) (by omega)
      refine ⟨r, e, ?_⟩
      rcases hr with hr | ⟨r0, r1, hr⟩
      · exact .inl hr
      · refine .inr ⟨r0, by omega, fun j h2 h3 => ?_⟩
        by_cases hj : j = i
        · subst hj; omega
        · exact hr j (by omega) h3
theorem szMem_f (a0 : Int) (l1 : List S68) (l2 : List S71) (h1 : l1.length ≤ 9223372036854775807) (h2 : l2.length ≤ 9223372036854775807) (hb : ∀ i : Nat, i < l1.length → (rd_T68 l1 (i : Int)).f0.length ≤ 9223372036854775807) {k : Nat} (hk : 1048577 < k) :
    ∃ r, laws_szMem.f k a0 l1 l2 1048576 = some r ∧ (r < 0 ∨ 0 ≤ r ∧ l1.length ≤ 1048576 ∧ l2.length ≤ 1048576 ∧ ∀ j : Nat, j < l1.length → (rd_T68 l1 (j : Int)).f0.length ≤ 1048576) := by
  unfold laws_szMem.f laws_szCellS.f
  rw [w64 (by omega) (by omega)]
  by_cases c1 : (1048576 : Int) - (l1.length : Int) < 0
  · rw [if_pos c1, Option.bind_some, if_pos (by decide)]
    exact ⟨-1, rfl, .inl (by decide)⟩
  · obtain ⟨r, e, hr⟩ := szCellS_l0 l1 (by omega) hb l1.length k 0 (1048576 - (l1.length : Int)) (by omega) (by omega) (by omega) (by omega)
    have e' : laws_szCellS.l0 k l1 (1048576 - (l1.length : Int)) 0 = some r := e
    rw [if_neg c1, e', Option.bind_some]
    rcases hr with hr | ⟨r0, r1, hr⟩
    · rw [if_pos hr]
      exact ⟨-1, rfl, .inl (by decide)⟩
    · rw [if_neg (by omega), laws_szTouchS.f, w64 (by omega) (by omega)]
      by_cases c2 : r - (l2.length : Int) < 0
      · rw [if_pos c2, Option.bind_some, if_pos (by decide)]
        exact ⟨-1, rfl, .inl (by decide)⟩
      · rw [if_neg c2, Option.bind_some, if_neg c2]
        exact ⟨_, rfl, .inr ⟨by omega, by omega, by omega, fun j hj => hr j (Nat.zero_le _) hj⟩⟩
theorem take_set_next {α : Type} (ys : List α) (i : Nat) (v : α) (h : i < ys.length) : (ys.set i v).take (i + 1) = ys.take i ++ [v] := by
  rw [List.take_succ_eq_append_getElem (by simp; omega), List.take_set_of_le (Nat.le_refl _)]
  simp
theorem toCellS_l0 (l : List S68) (hl : l.length ≤ 1048576) (hb : ∀ j : Nat, j < l.length → (rd_T68 l (j : Int)).f0.length ≤ 1048576) (d : Nat) : ∀ (k i : Nat) (ys : List S50), i + d = l.length → d + 1048577 < k → ys.length = l.length → ys.take i = (l.map cellOf).take i →
    laws_toCellS.l0 k l ys (i : Int) = some (l.map cellOf) := by
  induction d with
  | zero =>
    intro k i ys hi hk hy ht
    obtain ⟨k, rfl⟩ : ∃ q, k = q + 1 := ⟨k - 1, by omega⟩
    rw [laws_toCellS.l0, if_neg (by omega)]
    rw [List.take_of_length_le (by omega), List.take_of_length_le (by rw [List.length_map]; omega)] at ht
    rw [ht]
  | succ d ih =>
    intro k i ys hi hk hy ht
    obtain ⟨k, rfl⟩ : ∃ q, k = q + 1 := ⟨k - 1, by omega⟩
    have hli : i < l.length := by omega
    have hbi := hb i hli
    have hc : laws_toCell.f k (rd_T68 l (i : Int)).f0 = some (rd_T68 l (i : Int)).f0 := by
      unfold laws_toCell.f
      rw [toByteS_f _ (by omega) (by omega), Option.bind_some]
    rw [laws_toCellS.l0, if_pos (by omega), if_pos (by omega), hc, Option.bind_some, if_pos (by omega), w64 (by omega) (by omega), Int.toNat_natCast]
    refine ih k (i + 1) _ (by omega) (by omega) (by rw [List.length_set]; exact hy) ?_
    rw [take_set_next _ _ _ (by omega), ht, List.take_succ_eq_append_getElem (l := l.map cellOf) (by rw [List.length_map]; omega), List.getElem_map, rd_lcell hli]
    rfl
theorem toCellS_f (l : List S68) (hl : l.length ≤ 1048576) (hb : ∀ j : Nat, j < l.length → (rd_T68 l (j : Int)).f0.length ≤ 1048576) {k : Nat} (hk : 2097160 < k) : laws_toCellS.f k l = some (l.map cellOf) := by
  unfold laws_toCellS.f
  rw [if_pos (by omega), if_pos (by omega)]
  exact toCellS_l0 l hl hb l.length k 0 _ (by omega) (by omega) (by simp) (by simp)
theorem toTouchS_l0 (l : List S71) (hl : l.length ≤ 1048576) (d : Nat) : ∀ (k i : Nat) (ys : List S59), i + d = l.length → d < k → ys.length = l.length → ys.take i = (l.map touchOf).take i →
    laws_toTouchS.l0 k l ys (i : Int) = some (l.map touchOf) := by
  induction d with
  | zero =>
    intro k i ys hi hk hy ht
    obtain ⟨k, rfl⟩ : ∃ q, k = q + 1 := ⟨k - 1, by omega⟩
    rw [laws_toTouchS.l0, if_neg (by omega)]
    rw [List.take_of_length_le (by omega), List.take_of_length_le (by rw [List.length_map]; omega)] at ht
    rw [ht]
  | succ d ih =>
    intro k i ys hi hk hy ht
    obtain ⟨k, rfl⟩ : ∃ q, k = q + 1 := ⟨k - 1, by omega⟩
    have hli : i < l.length := by omega
    rw [laws_toTouchS.l0, if_pos (by omega), if_pos (by omega), laws_toTouch.f, Option.bind_some, if_pos (by omega), w64 (by omega) (by omega), Int.toNat_natCast]
    refine ih k (i + 1) _ (by omega) (by omega) (by rw [List.length_set]; exact hy) ?_
    rw [take_set_next _ _ _ (by omega), ht, List.take_succ_eq_append_getElem (l := l.map touchOf) (by rw [List.length_map]; omega), List.getElem_map, rd_ltouch hli]
    rfl
theorem toTouchS_f (l : List S71) (hl : l.length ≤ 1048576) {k : Nat} (hk : 1048577 < k) : laws_toTouchS.f k l = some (l.map touchOf) := by
  unfold laws_toTouchS.f
  rw [if_pos (by omega), if_pos (by omega)]
  exact toTouchS_l0 l hl l.length k 0 _ (by omega) (by omega) (by simp) (by simp)
theorem toMem_f (a0 : Int) (l1 : List S68) (l2 : List S71) (h1 : l1.length ≤ 1048576) (h2 : l2.length ≤ 1048576) (hb : ∀ j : Nat, j < l1.length → (rd_T68 l1 (j : Int)).f0.length ≤ 1048576) {k : Nat} (hk : 2097160 < k) :
    laws_toMem.f k a0 l1 l2 = some (a0, l1.map cellOf, l2.map touchOf) := by
  unfold laws_toMem.f
  rw [toCellS_f l1 h1 hb hk, Option.bind_some, toTouchS_f l2 h2 (by omega), Option.bind_some]

theorem eqCellS_l0 (l : List S50) (hl : l.length ≤ 1048576) (hb : ∀ j : Nat, j < l.length → (rd_T50 l (j : Int)).f0.length ≤ 1048576) (d : Nat) : ∀ (k i : Nat), i + d = l.length → d + 1048577 < k → laws_eqCellS.l0 k l l (i : Int) = some true := by
  induction d with
  | zero =>
    intro k i hi hk
    obtain ⟨k, rfl⟩ : ∃ q, k = q + 1 := ⟨k - 1, by omega⟩
    rw [laws_eqCellS.l0, if_neg (by omega)]
  | succ d ih =>
    intro k i hi hk
    obtain ⟨k, rfl⟩ : ∃ q, k = q + 1 := ⟨k - 1, by omega⟩
    have hbi := hb i (by omega)
    have hc : laws_eqCell.f k (rd_T50 l (i : Int)).f0 (rd_T50 l (i : Int)).f0 = some true := by
      unfold laws_eqCell.f
      rw [eqByteS_f _ _ (by omega) (by omega), decide_eq_true rfl, Option.bind_some, if_pos rfl]
    rw [laws_eqCellS.l0, if_pos (by omega), if_pos (by omega), if_pos (by omega), hc, Option.bind_some, if_pos rfl, w64 (by omega) (by omega)]
    exact ih k (i + 1) (by omega) (by omega)
theorem eqTouchS_l0 (l : List S59) (hl : l.length ≤ 1048576) (d : Nat) : ∀ (k i : Nat), i + d = l.length → d < k → laws_eqTouchS.l0 k l l (i : Int) = some true := by
  induction d with
  | zero =>
    intro k i hi hk
    obtain ⟨k, rfl⟩ : ∃ q, k = q + 1 := ⟨k - 1, by omega⟩
    rw [laws_eqTouchS.l0, if_neg (by omega)]
  | succ d ih =>
    intro k i hi hk
    obtain ⟨k, rfl⟩ : ∃ q, k = q + 1 := ⟨k - 1, by omega⟩
    rw [laws_eqTouchS.l0, if_pos (by omega), if_pos (by omega), if_pos (by omega), laws_eqTouch.f, if_pos rfl, if_pos rfl, if_pos rfl, Option.bind_some, if_pos rfl, w64 (by omega) (by omega)]
    exact ih k (i + 1) (by omega) (by omega)
theorem eqMem_f (a0 : Int) (cs : List S50) (ts : List S59) (h1 : cs.length ≤ 1048576) (h2 : ts.length ≤ 1048576) (hb : ∀ j : Nat, j < cs.length → (rd_T50 cs (j : Int)).f0.length ≤ 1048576) {k : Nat} (hk : 2097160 < k) :
    laws_eqMem.f k a0 cs ts a0 cs ts = some true := by
  have e1 : laws_eqCellS.l0 k cs cs 0 = some true := eqCellS_l0 cs h1 hb cs.length k 0 (by omega) (by omega)
  have e2 : laws_eqTouchS.l0 k ts ts 0 = some true := eqTouchS_l0 ts h2 ts.length k 0 (by omega) (by omega)
  unfold laws_eqMem.f laws_eqCellS.f laws_eqTouchS.f
  rw [if_pos rfl, if_pos rfl, e1, Option.bind_some, if_pos rfl, if_pos rfl, e2, Option.bind_some, if_pos rfl]

theorem FnExactMemOk (a0 : Int) (l1 : List S68) (l2 : List S71) (h1 : l1.length ≤ 9223372036854775807) (h2 : l2.length ≤ 9223372036854775807) (hb : ∀ i : Nat, i < l1.length → (rd_T68 l1 (i : Int)).f0.length ≤ 9223372036854775807) :
    ∃ k, laws_FnExactMemOk.f k a0 l1 l2 = some true := by
  obtain ⟨K, hK⟩ : ∃ K : Nat, 2097200 < K := ⟨2097201, Nat.lt_succ_self _⟩
  refine ⟨K, ?_⟩
  obtain ⟨r, e, hr⟩ := szMem_f a0 l1 l2 h1 h2 hb (show 1048577 < K by omega)
  unfold laws_FnExactMemOk.f
  rw [e, Option.bind_some]
  rcases hr with hr | ⟨r0, z1, z2, zb⟩
  · rw [if_pos hr]
  · have zc : ∀ j : Nat, j < (l1.map cellOf).length → (rd_T50 (l1.map cellOf) (j : Int)).f0.length ≤ 1048576 := fun j hj => by
      rw [List.length_map] at hj
      have := zb j hj
      rw [rd_lcell hj] at this
      rw [rd_cell (by rw [List.length_map]; exact hj), List.getElem_map]
      exact this
    have tm := toMem_f a0 l1 l2 z1 z2 zb (show 2097160 < K by omega)
    have em := eqMem_f a0 (l1.map cellOf) (l2.map touchOf) (by rw [List.length_map]; exact z1) (by rw [List.length_map]; exact z2) zc (show 2097160 < K by omega)
    unfold impl_MemOk.f
    rw [if_neg (by omega), tm]
    simp only [Option.bind_some]
    rw [spec_MemOk_f _ _ _ (by omega), impl_isMem_f _ _ _ (by omega)]
    simp only [Option.bind_some]
    rw [if_neg (by simp), em]
    simp

end Go.Proofs.Ytoceiaaigiflpaa.Pure
