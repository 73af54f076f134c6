/- The law FnExactMemWrite holds of the program: whatever its arguments (of the kinds and sizes that the statement names), it answers true. -/
import Derived.Test.YtoceiaaigiflpaaQFnExactMemWritex0
import Derived.Test.YtoceiaaigiflpaaQFnExactMemWritex1
import Derived.Test.YtoceiaaigiflpaaQFnExactMemWritex2
import Derived.Test.YtoceiaaigiflpaaQFnExactMemWritex3
import Derived.Test.YtoceiaaigiflpaaQFnExactMemWritex4
import Derived.Test.YtoceiaaigiflpaaQFnExactMemWritex5
import Derived.Test.YtoceiaaigiflpaaQFnExactMemWritex6
import Derived.Test.YtoceiaaigiflpaaQFnExactMemWritex7
import Derived.Test.YtoceiaaigiflpaaQFnExactMemWritex8
import Derived.Test.YtoceiaaigiflpaaQFnExactMemWritex9
import Derived.Test.YtoceiaaigiflpaaLib
import Derived.Test.YtoceiaaigiflpaaLibBytes
set_option linter.unusedVariables false
set_option linter.unusedSimpArgs false
namespace Go.Proofs.Ytoceiaaigiflpaa.Pure
open Go.RowKit Go.Proofs.Ytoceiaaigiflpaa.PFnExactMemWrite Go.Proofs.YtoceiaaigiflpaaW.PrintWords Go.Proofs.YtoceiaaigiflpaaW.PrintLast Go.Proofs.Ytoceiaaigiflpaa.L 

theorem within_f (a b c : Int) : impl_within.f a b c = some (decide (b ≤ a ∧ a ≤ c)) := by
  unfold impl_within.f
  by_cases h : a ≥ b
  · rw [if_pos h]; congr 1; rw [decide_eq_decide]; omega
  · rw [if_neg h]; congr 1; symm; rw [decide_eq_false_iff_not]; omega

theorem rd_cell {l : List S50} {i : Nat} (h : i < l.length) : rd_T50 l (i : Int) = l[i] := by unfold rd_T50; rw [Int.toNat_natCast, List.getD_eq_getElem?_getD]; simp [h]
theorem rd_touch {l : List S59} {i : Nat} (h : i < l.length) : rd_T59 l (i : Int) = l[i] := by unfold rd_T59; rw [Int.toNat_natCast, List.getD_eq_getElem?_getD]; simp [h]

/-- an access of the log is in range -/
def touchOk (a0 : Int) (n : Nat) (t : S59) : Bool := decide ((t.f0 = 1 ∨ t.f0 = 2) ∧ 0 ≤ t.f1 ∧ t.f1 < (n : Int) ∧ t.f2 = a0)
def cellOk (a0 : Int) (c : S50) : Bool := decide ((c.f0.length : Int) = a0)
/-- a memory of the document's fourth chapter -/
def memB (a0 : Int) (cs : List S50) (ts : List S59) : Bool := decide (1 ≤ a0 ∧ a0 ≤ 1000 ∧ cs.length ≤ 128 ∧ ts.length ≤ 6000) && (cs.all (cellOk a0) && ts.all (touchOk a0 cs.length))
theorem all_from {α : Type} (p : α → Bool) {l : List α} {i : Nat} (h : i < l.length) : (l.drop i).all p = (p l[i] && (l.drop (i + 1)).all p) := by rw [List.drop_eq_getElem_cons h, List.all_cons]
theorem spec_MemOk_l1 (a0 : Int) (cs : List S50) (ts : List S59) (hc : cs.length ≤ 128) (ht : ts.length ≤ 6000) (d : Nat) : ∀ (k i : Nat), i + d = ts.length → d < k →
    spec_MemOk.l1 k (i : Int) a0 cs ts = some ((ts.drop i).all (touchOk a0 cs.length)) := by
  induction d with
  | zero =>
    intro k i hi hk
    obtain ⟨k, rfl⟩ : ∃ q, k = q + 1 := ⟨k - 1, by omega⟩
    rw [spec_MemOk.l1, if_neg (by omega), List.drop_eq_nil_of_le (by omega)]
    rfl
  | succ d ih =>
    intro k i hi hk
    obtain ⟨k, rfl⟩ : ∃ q, k = q + 1 := ⟨k - 1, by omega⟩
    have h := ih k (i + 1) (by omega) (by omega)
    have hl : i < ts.length := by omega
    rw [spec_MemOk.l1, if_pos (by omega), if_pos (by omega), rd_touch hl, all_from _ hl, w64 (by omega) (by omega), show ((i : Int) + 1) = ((i + 1 : Nat) : Int) from rfl, h]
    generalize ts[i] = t
    by_cases h1 : t.f1 < 0
    · have hf : touchOk a0 cs.length t = false := by unfold touchOk; rw [decide_eq_false_iff_not]; omega
      rw [hf, Bool.false_and]
      by_cases e1 : t.f0 = 1
      · rw [if_pos e1, if_pos h1]
      · rw [if_neg e1]
        by_cases e2 : t.f0 = 2
        · rw [if_pos e2, if_pos h1]
        · rw [if_neg e2]
    · by_cases h2 : t.f1 ≥ (cs.length : Int)
      · have hf : touchOk a0 cs.length t = false := by unfold touchOk; rw [decide_eq_false_iff_not]; omega
        rw [hf, Bool.false_and]
        by_cases e1 : t.f0 = 1
        · rw [if_pos e1, if_neg h1, if_pos h2]
        · rw [if_neg e1]
          by_cases e2 : t.f0 = 2
          · rw [if_pos e2, if_neg h1, if_pos h2]
          · rw [if_neg e2]
      · by_cases h3 : t.f2 = a0
        · by_cases e1 : t.f0 = 1
          · have hf : touchOk a0 cs.length t = true := by unfold touchOk; rw [decide_eq_true_iff]; omega
            rw [if_pos e1, if_neg h1, if_neg h2, if_pos h3, hf, Bool.true_and]
          · rw [if_neg e1]
            by_cases e2 : t.f0 = 2
            · have hf : touchOk a0 cs.length t = true := by unfold touchOk; rw [decide_eq_true_iff]; omega
              rw [if_pos e2, if_neg h1, if_neg h2, if_pos h3, hf, Bool.true_and]
            · have hf : touchOk a0 cs.length t = false := by unfold touchOk; rw [decide_eq_false_iff_not]; omega
              rw [if_neg e2, hf, Bool.false_and]
        · have hf : touchOk a0 cs.length t = false := by unfold touchOk; rw [decide_eq_false_iff_not]; omega
          rw [hf, Bool.false_and]
          by_cases e1 : t.f0 = 1
          · rw [if_pos e1, if_neg h1, if_neg h2, if_neg h3]
          · rw [if_neg e1]
            by_cases e2 : t.f0 = 2
            · rw [if_pos e2, if_neg h1, if_neg h2, if_neg h3]
            · rw [if_neg e2]
theorem spec_MemOk_l0 (a0 : Int) (cs : List S50) (ts : List S59) (hc : cs.length ≤ 128) (ht : ts.length ≤ 6000) (d : Nat) : ∀ (k i : Nat), i + d = cs.length → d + 6001 < k →
    spec_MemOk.l0 k (i : Int) a0 cs ts = some ((cs.drop i).all (cellOk a0) && ts.all (touchOk a0 cs.length)) := by
  induction d with
  | zero =>
    intro k i hi hk
    obtain ⟨k, rfl⟩ : ∃ q, k = q + 1 := ⟨k - 1, by omega⟩
    have h := spec_MemOk_l1 a0 cs ts hc ht ts.length k 0 (by omega) (by omega)
    rw [spec_MemOk.l0, if_neg (by omega), List.drop_eq_nil_of_le (by omega)]
    exact h
  | succ d ih =>
    intro k i hi hk
    obtain ⟨k, rfl⟩ : ∃ q, k = q + 1 := ⟨k - 1, by omega⟩
    have h := ih k (i + 1) (by omega) (by omega)
    have hl : i < cs.length := by omega
    rw [spec_MemOk.l0, if_pos (by omega), if_pos (by omega), rd_cell hl, all_from _ hl, w64 (by omega) (by omega), show ((i : Int) + 1) = ((i + 1 : Nat) : Int) from rfl, h]
    generalize cs[i] = c
    by_cases h1 : (c.f0.length : Int) = a0
    · rw [if_pos h1, show cellOk a0 c = true from decide_eq_true h1, Bool.true_and]
    · rw [if_neg h1, show cellOk a0 c = false from decide_eq_false h1, Bool.false_and, Bool.false_and]
theorem spec_MemOk_f (a0 : Int) (cs : List S50) (ts : List S59) {k : Nat} (hk : 6200 < k) : spec_MemOk.f k a0 cs ts = some (memB a0 cs ts) := by
  obtain ⟨k, rfl⟩ : ∃ q, k = q + 1 := ⟨k - 1, by omega⟩
  have hj : ∀ z, spec_MemOk.j0 (k + 1) true z cs ts = some false := fun z => by rw [spec_MemOk.j0, if_pos rfl]
  have hn : ¬ (1 ≤ a0 ∧ a0 ≤ 1000 ∧ cs.length ≤ 128 ∧ ts.length ≤ 6000) → memB a0 cs ts = false := fun h => by unfold memB; rw [decide_eq_false h, Bool.false_and]
  unfold spec_MemOk.f
  by_cases h1 : a0 < 1
  · rw [if_pos h1, hj, hn (by omega)]
  · by_cases h2 : a0 > 1000
    · rw [if_neg h1, if_pos h2, hj, hn (by omega)]
    · by_cases h3 : (cs.length : Int) > 128
      · rw [if_neg h1, if_neg h2, if_pos h3, hj, hn (by omega)]
      · rw [if_neg h1, if_neg h2, if_neg h3]
        by_cases h4 : (ts.length : Int) > 6000
        · rw [decide_eq_true h4, hj, hn (by omega)]
        · have h := spec_MemOk_l0 a0 cs ts (by omega) (by omega) cs.length k 0 (by omega) (by omega)
          rw [decide_eq_false h4, spec_MemOk.j0, if_neg (by decide)]
          unfold memB
          rw [decide_eq_true (by omega), Bool.true_and]
          exact h
theorem impl_isMem_l0 (a0 : Int) (cs : List S50) (ts : List S59) (hc : cs.length ≤ 128) (ht : ts.length ≤ 6000) (d : Nat) : ∀ (k i : Nat), i + d = ts.length → d < k →
    impl_isMem.l0 k ts (ts.length : Int) (i : Int) a0 cs ts = some (cs.all (cellOk a0) && (ts.drop i).all (touchOk a0 cs.length)) := by
  induction d with
  | zero =>
    intro k i hi hk
    obtain ⟨k, rfl⟩ : ∃ q, k = q + 1 := ⟨k - 1, by omega⟩
    rw [impl_isMem.l0, if_neg (by omega), List.drop_eq_nil_of_le (by omega), impl_Cell_50.f, Option.bind_some, Bool.not_not, List.all_nil, Bool.and_true]
    rfl
  | succ d ih =>
    intro k i hi hk
    obtain ⟨k, rfl⟩ : ∃ q, k = q + 1 := ⟨k - 1, by omega⟩
    have h := ih k (i + 1) (by omega) (by omega)
    have hl : i < ts.length := by omega
    rw [impl_isMem.l0, if_pos (by omega), if_pos (by omega), if_pos (by omega), rd_touch hl, all_from _ hl, within_f, Option.bind_some, within_f, w64 (n := (i : Int) + 1) (by omega) (by omega), w64 (n := (cs.length : Int) - 1) (by omega) (by omega), show ((i : Int) + 1) = ((i + 1 : Nat) : Int) from rfl, h]
    generalize ts[i] = t
    by_cases h1 : 1 ≤ t.f0 ∧ t.f0 ≤ 2
    · rw [if_pos (decide_eq_true h1), Option.bind_some]
      by_cases h2 : 0 ≤ t.f1 ∧ t.f1 ≤ (cs.length : Int) - 1
      · rw [if_pos (decide_eq_true h2)]
        by_cases h3 : t.f2 = a0
        · have hf : touchOk a0 cs.length t = true := by unfold touchOk; rw [decide_eq_true_iff]; omega
          rw [if_pos h3, hf, Bool.true_and]
        · have hf : touchOk a0 cs.length t = false := by unfold touchOk; rw [decide_eq_false_iff_not]; omega
          rw [if_neg h3, hf, Bool.false_and, Bool.and_false]
      · have hf : touchOk a0 cs.length t = false := by unfold touchOk; rw [decide_eq_false_iff_not]; omega
        rw [if_neg (by simpa using h2), hf, Bool.false_and, Bool.and_false]
    · have hf : touchOk a0 cs.length t = false := by unfold touchOk; rw [decide_eq_false_iff_not]; omega
      rw [if_neg (by simpa using h1), hf, Bool.false_and, Bool.and_false]
theorem impl_isMem_f (a0 : Int) (cs : List S50) (ts : List S59) {k : Nat} (hk : 6200 < k) : impl_isMem.f k a0 cs ts = some (memB a0 cs ts) := by
  obtain ⟨k, rfl⟩ : ∃ q, k = q + 1 := ⟨k - 1, by omega⟩
  have hj : ∀ z, impl_isMem.j0 (k + 1) true z cs ts = some false := fun z => by rw [impl_isMem.j0, if_pos rfl]
  have hn : ¬ (1 ≤ a0 ∧ a0 ≤ 1000 ∧ cs.length ≤ 128 ∧ ts.length ≤ 6000) → memB a0 cs ts = false := fun h => by unfold memB; rw [decide_eq_false h, Bool.false_and]
  unfold impl_isMem.f
  rw [within_f, Option.bind_some]
  by_cases h1 : 1 ≤ a0 ∧ a0 ≤ 1000
  · rw [if_pos (decide_eq_true h1)]
    by_cases h3 : (cs.length : Int) > 128
    · rw [if_pos h3, hj, hn (by omega)]
    · rw [if_neg h3]
      by_cases h4 : (ts.length : Int) > 6000
      · rw [decide_eq_true h4, hj, hn (by omega)]
      · have h := impl_isMem_l0 a0 cs ts (by omega) (by omega) ts.length k 0 (by omega) (by omega)
        rw [decide_eq_false h4, impl_isMem.j0, if_neg (by decide)]
        unfold memB
        rw [decide_eq_true (by omega), Bool.true_and]
        exact h
  · rw [if_neg (by simpa using h1), hj, hn (by omega)]

theorem memB_bounds {a0 : Int} {cs : List S50} {ts : List S59} (h : memB a0 cs ts = true) : 1 ≤ a0 ∧ a0 ≤ 1000 ∧ cs.length ≤ 128 ∧ ts.length ≤ 6000 := by
  unfold memB at h
  rw [Bool.and_eq_true, decide_eq_true_iff] at h
  exact h.1
theorem memB_all {a0 : Int} {cs : List S50} {ts : List S59} (h : memB a0 cs ts = true) : ∀ c ∈ cs, c.f0.length ≤ 1000 := by
  intro c hc
  have hb := memB_bounds h
  unfold memB at h
  rw [Bool.and_eq_true, Bool.and_eq_true, List.all_eq_true] at h
  have h1 := h.2.1 c hc
  unfold cellOk at h1
  rw [decide_eq_true_iff] at h1
  omega
theorem memB_cell {a0 : Int} {cs : List S50} {ts : List S59} (h : memB a0 cs ts = true) {n : Nat} (hn : n < cs.length) : (cs.getD n z50).f0.length ≤ 1000 := by
  rw [List.getD_eq_getElem?_getD, List.getElem?_eq_getElem hn]
  exact memB_all h _ (List.getElem_mem hn)
/-- what a read, a write gives -/
def memReadF (a0 : Int) (cs : List S50) (ts : List S59) (a1 : Int) : Int × List S50 × List S59 × List Int × Int :=
  if memB a0 cs ts = true then (if 0 ≤ a1 ∧ a1 < (cs.length : Int) then (if ts.length = 6000 then (0, [], [], [], 4) else (a0, cs, ts ++ [⟨1, a1, a0⟩], (cs.getD a1.toNat z50).f0, 0)) else (0, [], [], [], 2)) else (0, [], [], [], 1)
def memWriteF (a0 : Int) (cs : List S50) (ts : List S59) (a1 : Int) (xs : List Int) : Int × List S50 × List S59 × Int :=
  if memB a0 cs ts = true then (if 0 ≤ a1 ∧ a1 < (cs.length : Int) then (if (xs.length : Int) = a0 then (if ts.length = 6000 then (0, [], [], 4) else (a0, cs.set a1.toNat ⟨xs⟩, ts ++ [⟨2, a1, a0⟩], 0)) else (0, [], [], 3)) else (0, [], [], 2)) else (0, [], [], 1)
theorem cloneMem_l0 (a0 : Int) (cs : List S50) (ts : List S59) (hc : cs.length ≤ 128) (hb : ∀ c ∈ cs, c.f0.length ≤ 1000) (d : Nat) : ∀ (k i : Nat), i + d = cs.length → d < k →
    impl_cloneMem.l0 k cs (cs.length : Int) (i : Int) a0 (cs.take i) ts = some (a0, cs, ts) := by
  induction d with
  | zero =>
    intro k i hi hk
    obtain ⟨k, rfl⟩ : ∃ q, k = q + 1 := ⟨k - 1, by omega⟩
    rw [impl_cloneMem.l0, if_neg (by omega), List.take_of_length_le (by omega)]
  | succ d ih =>
    intro k i hi hk
    obtain ⟨k, rfl⟩ : ∃ q, k = q + 1 := ⟨k - 1, by omega⟩
    have h := ih k (i + 1) (by omega) (by omega)
    have hl : i < cs.length := by omega
    have hb1 := hb _ (List.getElem_mem hl)
    rw [impl_cloneMem.l0, if_pos (by omega), if_pos (by omega), if_pos (by omega), rd_cell hl, bytes_Clone.f, if_pos (by omega), Option.bind_some, if_pos (by rw [List.length_take]; omega), w64 (by omega) (by omega), ← List.take_succ_eq_append_getElem hl]
    exact h
theorem cloneMem_f (a0 : Int) (cs : List S50) (ts : List S59) (hc : cs.length ≤ 128) (ht : ts.length ≤ 6000) (hb : ∀ c ∈ cs, c.f0.length ≤ 1000) {k : Nat} (hk : 130 < k) : impl_cloneMem.f k a0 cs ts = some (a0, cs, ts) := by
  unfold impl_cloneMem.f
  rw [impl_Touch.f, if_pos (by omega), Option.bind_some]
  exact cloneMem_l0 a0 cs ts hc hb cs.length k 0 (by omega) (by omega)
theorem l04Copy_l0 (a0 : Int) (cs : List S50) (ts : List S59) (hc : cs.length ≤ 128) (hb : ∀ c ∈ cs, c.f0.length ≤ 1000) (d : Nat) : ∀ (k i : Nat), i + d = cs.length → d < k →
    spec_l04Copy.l0 k (i : Int) a0 cs ts a0 (cs.take i) ts = some (a0, cs, ts) := by
  induction d with
  | zero =>
    intro k i hi hk
    obtain ⟨k, rfl⟩ : ∃ q, k = q + 1 := ⟨k - 1, by omega⟩
    rw [spec_l04Copy.l0, if_neg (by omega), List.take_of_length_le (by omega)]
  | succ d ih =>
    intro k i hi hk
    obtain ⟨k, rfl⟩ : ∃ q, k = q + 1 := ⟨k - 1, by omega⟩
    have h := ih k (i + 1) (by omega) (by omega)
    have hl : i < cs.length := by omega
    have hb1 := hb _ (List.getElem_mem hl)
    rw [spec_l04Copy.l0, if_pos (by omega), Option.bind_some, if_pos (by omega), rd_cell hl, if_pos (by simp; omega), if_pos (by rw [List.length_take]; omega), w64 (by omega) (by omega), List.nil_append, ← List.take_succ_eq_append_getElem hl]
    exact h
theorem l04Copy_f (a0 : Int) (cs : List S50) (ts : List S59) (hc : cs.length ≤ 128) (ht : ts.length ≤ 6000) (hb : ∀ c ∈ cs, c.f0.length ≤ 1000) {k : Nat} (hk : 130 < k) : spec_l04Copy.f k a0 cs ts = some (a0, cs, ts) := by
  unfold spec_l04Copy.f
  rw [Option.bind_some, if_pos (by simp; omega), List.nil_append]
  exact l04Copy_l0 a0 cs ts hc hb cs.length k 0 (by omega) (by omega)

theorem spec_MemWrite_f (a0 : Int) (cs : List S50) (ts : List S59) (a1 : Int) (xs : List Int) {k : Nat} (hk : 6300 < k) : spec_MemWrite.f k a0 cs ts a1 xs = some (memWriteF a0 cs ts a1 xs) := by
  obtain ⟨k, rfl⟩ : ∃ q, k = q + 1 := ⟨k - 1, by omega⟩
  have hj : spec_MemWrite.j0 (k + 1) a1 xs true a0 cs ts = some (0, [], [], 2) := by rw [spec_MemWrite.j0, if_pos rfl]
  unfold spec_MemWrite.f memWriteF
  rw [spec_MemOk_f a0 cs ts (by omega), Option.bind_some]
  by_cases hm : memB a0 cs ts = true
  · rw [if_pos hm, if_pos hm]
    have hb := memB_bounds hm
    by_cases h1 : a1 < 0
    · rw [if_pos h1, hj, if_neg (by omega)]
    · by_cases h2 : a1 ≥ (cs.length : Int)
      · rw [if_neg h1, decide_eq_true h2, hj, if_neg (by omega)]
      · rw [if_neg h1, decide_eq_false h2, spec_MemWrite.j0, if_neg (by decide), if_pos (show 0 ≤ a1 ∧ a1 < (cs.length : Int) from ⟨by omega, by omega⟩)]
        by_cases h0 : (xs.length : Int) = a0
        · rw [if_pos h0, if_pos h0]
          by_cases h3 : ts.length = 6000
          · rw [if_pos (show (ts.length : Int) = 6000 by omega), if_pos h3]
          · rw [if_neg (show ¬ (ts.length : Int) = 6000 by omega), if_neg h3, l04Copy_f a0 cs ts (by omega) (by omega) (memB_all hm) (by omega), Option.bind_some, Option.bind_some, if_pos (by simp only [List.length_nil]; omega), if_pos (show 0 ≤ a1 by omega), if_pos (show a1 < (cs.length : Int) by omega), if_pos (by show ts.length < _; omega)]
            rfl
        · rw [if_neg h0, if_neg h0]
  · rw [if_neg hm, if_neg hm]
theorem memWriteF_facts {a0 a1 m0 rk : Int} {cs rc : List S50} {ts rt : List S59} {xs : List Int} (h : memWriteF a0 cs ts a1 xs = (m0, rc, rt, rk)) : rc.length ≤ 128 ∧ (∀ c ∈ rc, c.f0.length ≤ 1000) ∧ rt.length ≤ 6000 := by
  have hnil : ∀ (k : Int), ((0 : Int), ([] : List S50), ([] : List S59), k) = (m0, rc, rt, rk) → rc.length ≤ 128 ∧ (∀ c ∈ rc, c.f0.length ≤ 1000) ∧ rt.length ≤ 6000 := by
    intro k e
    simp only [Prod.mk.injEq] at e
    obtain ⟨_, rfl, rfl, _⟩ := e
    exact ⟨by simp, by simp, by simp⟩
  unfold memWriteF at h
  by_cases hm : memB a0 cs ts = true
  · have hb := memB_bounds hm
    rw [if_pos hm] at h
    by_cases h1 : 0 ≤ a1 ∧ a1 < (cs.length : Int)
    · rw [if_pos h1] at h
      by_cases h0 : (xs.length : Int) = a0
      · rw [if_pos h0] at h
        by_cases h2 : ts.length = 6000
        · rw [if_pos h2] at h
          exact hnil _ h
        · rw [if_neg h2] at h
          simp only [Prod.mk.injEq] at h
          obtain ⟨_, rfl, rfl, _⟩ := h
          refine ⟨by rw [List.length_set]; exact hb.2.2.1, fun c hc => ?_, by rw [List.length_append, List.length_singleton]; omega⟩
          rcases List.mem_or_eq_of_mem_set hc with hc | rfl
          · exact memB_all hm c hc
          · show xs.length ≤ 1000
            omega
      · rw [if_neg h0] at h
        exact hnil _ h
    · rw [if_neg h1] at h
      exact hnil _ h
  · rw [if_neg hm] at h
    exact hnil _ h

theorem toByteS_l0 (xs : List Int) (hx : xs.length ≤ 140737488351232) (d : Nat) : ∀ (k i : Nat) (ys : List Int), ys.length = xs.length → i ≤ xs.length → xs.length - i = d → d < k → ys.take i = xs.take i →
    laws_toByteS.l0 k xs ys (i : Int) = some xs := by
  induction d with
  | zero =>
    intro k i ys hl hi hd hk ht
    obtain ⟨k, rfl⟩ : ∃ q, k = q + 1 := ⟨k - 1, by omega⟩
    rw [laws_toByteS.l0, if_neg (by omega)]
    rw [List.take_of_length_le (by omega), List.take_of_length_le (by omega)] at ht
    rw [ht]
  | succ d ih =>
    intro k i ys hl hi hd hk ht
    obtain ⟨k, rfl⟩ : ∃ q, k = q + 1 := ⟨k - 1, by omega⟩
    have h := ih k (i + 1) (ys.set i (rd xs (i : Int))) (by simp [hl]) (by omega) (by omega) (by omega) (set_copy xs ys i (by omega) hl ht)
    rw [laws_toByteS.l0, if_pos (by omega), if_pos (by omega), if_pos (by omega), w64 (by omega) (by omega), Int.toNat_natCast]
    exact h
theorem toByteS_f (xs : List Int) (hx : xs.length ≤ 140737488351232) {k : Nat} (hk : xs.length < k) : laws_toByteS.f k xs = some xs := by
  unfold laws_toByteS.f
  rw [if_pos (Int.natCast_nonneg _), if_pos (by omega)]
  exact toByteS_l0 xs hx xs.length k 0 _ (by simp) (by omega) (by omega) hk (by simp)

theorem eqByteS_l0 (xs ys : List Int) (hl : ys.length = xs.length) (hx : xs.length ≤ 140737488351232) (d : Nat) : ∀ (k i : Nat), i ≤ xs.length → xs.length - i = d → d < k →
    laws_eqByteS.l0 k xs ys (i : Int) = some (decide (xs.drop i = ys.drop i)) := by
  induction d with
  | zero =>
    intro k i hi hd hk
    obtain ⟨k, rfl⟩ : ∃ q, k = q + 1 := ⟨k - 1, by omega⟩
    rw [laws_eqByteS.l0, if_neg (by omega), List.drop_of_length_le (by omega), List.drop_of_length_le (by omega)]
    rfl
  | succ d ih =>
    intro k i hi hd hk
    obtain ⟨k, rfl⟩ : ∃ q, k = q + 1 := ⟨k - 1, by omega⟩
    have h := ih k (i + 1) (by omega) (by omega) (by omega)
    rw [laws_eqByteS.l0, if_pos (by omega), if_pos (by omega), if_pos (by omega), w64 (by omega) (by omega)]
    rw [rd_lt (show i < xs.length by omega), rd_lt (show i < ys.length by omega)]
    rw [List.drop_eq_getElem_cons (show i < xs.length by omega), List.drop_eq_getElem_cons (show i < ys.length by omega)]
    by_cases e : xs[i]'(by omega) = ys[i]'(by omega)
    · rw [if_pos e]
      rw [show ((i : Int) + 1) = ((i + 1 : Nat) : Int) from rfl, h]
      congr 1
      rw [decide_eq_decide, e]
      exact ⟨fun h2 => by rw [h2], fun h2 => (List.cons.inj h2).2⟩
    · rw [if_neg e]
      congr 1
      symm
      rw [decide_eq_false_iff_not]
      intro h2
      exact e (List.cons.inj h2).1
theorem eqByteS_f (xs ys : List Int) (hx : xs.length ≤ 140737488351232) {k : Nat} (hk : xs.length < k) : laws_eqByteS.f k xs ys = some (decide (xs = ys)) := by
  unfold laws_eqByteS.f
  by_cases h : xs.length = ys.length
  · rw [if_pos (by omega)]
    have := eqByteS_l0 xs ys h.symm hx xs.length k 0 (by omega) (by omega) hk
    simpa using this
  · rw [if_neg (by omega)]
    congr 1
    symm
    rw [decide_eq_false_iff_not]
    intro e
    exact h (by rw [e])

/-- a cell, an access as the program's own -/
def cellOf (c : S68) : S50 := ⟨c.f0⟩
def touchOf (t : S71) : S59 := ⟨t.f0, t.f1, t.f2⟩
theorem rd_lcell {l : List S68} {i : Nat} (h : i < l.length) : rd_T68 l (i : Int) = l[i] := by unfold rd_T68; rw [Int.toNat_natCast, List.getD_eq_getElem?_getD]; simp [h]
theorem rd_ltouch {l : List S71} {i : Nat} (h : i < l.length) : rd_T71 l (i : Int) = l[i] := by unfold rd_T71; rw [Int.toNat_natCast, List.getD_eq_getElem?_getD]; simp [h]
theorem szCellS_l0 (l : List S68) (hl : l.length ≤ 1048576) (hb : ∀ i : Nat, i < l.length → (rd_T68 l (i : Int)).f0.length ≤ 9223372036854775807) (d : Nat) : ∀ (k i : Nat) (a : Int), i + d = l.length → d < k → 0 ≤ a → a ≤ 1048576 →
    ∃ r, laws_szCellS.l0 k l a (i : Int) = some r ∧ (r < 0 ∨ 0 ≤ r ∧ r ≤ a ∧ ∀ j : Nat, i ≤ j → j < l.length → (rd_T68 l (j : Int)).f0.length ≤ 1048576) := by
  induction d with
  | zero =>
    intro k i a hi hk h0 h1
    obtain ⟨k, rfl⟩ : ∃ q, k = q + 1 := ⟨k - 1, by omega⟩
    exact ⟨a, by rw [laws_szCellS.l0, if_neg (by omega)], .inr ⟨h0, Int.le_refl _, fun j h2 h3 => absurd h3 (by omega)⟩⟩
  | succ d ih =>
    intro k i a hi hk h0 h1
    obtain ⟨k, rfl⟩ : ∃ q, k = q + 1 := ⟨k - 1, by omega⟩
    have hbi := hb i (by omega)
    rw [laws_szCellS.l0, if_pos (by omega), if_pos (by omega), laws_szCell.f, laws_szByteS.f, w64 (n := a - _) (by omega) (by omega), w64 (n := (i : Int) + 1) (by omega) (by omega)]
    by_cases h : a - ((rd_T68 l (i : Int)).f0.length : Int) < 0
    · rw [if_pos h, Option.bind_some, if_pos (by decide), Option.bind_some, if_pos (by decide)]
      exact ⟨-1, rfl, .inl (by decide)⟩
    · rw [if_neg h, Option.bind_some, if_neg h, Option.bind_some, if_neg h]
      obtain ⟨r, e, hr⟩ := ih k (i + 1) _ (by omega) (by omega) (show 0 ≤ a - ((rd_T68 l (i : Int)).f0.length : Int) by omega) (by omega)
      refine ⟨r, e, ?_⟩
      rcases hr with hr | ⟨r0, r1, hr⟩
      · exact .inl hr
      · refine .inr ⟨r0, by omega, fun j h2 h3 => ?_⟩
        by_cases hj : j = i
        · subst hj; omega
        · exact hr j (by omega) h3
theorem szMem_f (a0 : Int) (l1 : List S68) (l2 : List S71) (h1 : l1.length ≤ 9223372036854775807) (h2 : l2.length ≤ 9223372036854775807) (hb : ∀ i : Nat, i < l1.length → (rd_T68 l1 (i : Int)).f0.length ≤ 9223372036854775807) {k : Nat} (hk : 1048577 < k) :
    ∃ r, laws_szMem.f k a0 l1 l2 1048576 = some r ∧ (r < 0 ∨ 0 ≤ r ∧ l1.length ≤ 1048576 ∧ l2.length ≤ 1048576 ∧ ∀ j : Nat, j < l1.length → (rd_T68 l1 (j : Int)).f0.length ≤ 1048576) := by
  unfold laws_szMem.f laws_szCellS.f
  rw [w64 (by omega) (by omega)]
  by_cases c1 : (1048576 : Int) - (l1.length : Int) < 0
  · rw [if_pos c1, Option.bind_some, if_pos (by decide)]
    exact ⟨-1, rfl, .inl (by decide)⟩
  · obtain ⟨r, e, hr⟩ := szCellS_l0 l1 (by omega) hb l1.length k 0 (1048576 - (l1.length : Int)) (by omega) (by omega) (by omega) (by omega)
    have e' : laws_szCellS.l0 k l1 (1048576 - (l1.length : Int)) 0 = some r := e
    rw [if_neg c1, e', Option.bind_some]
    rcases hr with hr | ⟨r0, r1, hr⟩
    · rw [if_pos hr]
      exact ⟨-1, rfl, .inl (by decide)⟩
    · rw [if_neg (by omega), laws_szTouchS.f, w64 (by omega) (by omega)]
      by_cases c2 : r - (l2.length : Int) < 0
      · rw [if_pos c2, Option.bind_some, if_pos (by decide)]
        exact ⟨-1, rfl, .inl (by decide)⟩
      · rw [if_neg c2, Option.bind_some, if_neg c2]
        exact ⟨_, rfl, .inr ⟨by omega, by omega, by omega, fun j hj => hr j (Nat.zero_le _) hj⟩⟩
theorem take_set_next {α : Type} (ys : List α) (i : Nat) (v : α) (h : i < ys.length) : (ys.set i v).take (i + 1) = ys.take i ++ [v] := by
  rw [List.take_succ_eq_append_getElem (by simp; omega), List.take_set_of_le (Nat.le_refl _)]
  simp
theorem toCellS_l0 (l : List S68) (hl : l.length ≤ 1048576) (hb : ∀ j : Nat, j < l.length → (rd_T68 l (j : Int)).f0.length ≤ 1048576) (d : Nat) : ∀ (k i : Nat) (ys : List S50), i + d = l.length → d + 1048577 < k → ys.length = l.length → ys.take i = (l.map cellOf).take i →
    laws_toCellS.l0 k l ys (i : Int) = some (l.map cellOf) := by
  induction d with
  | zero =>
    intro k i ys hi hk hy ht
    obtain ⟨k, rfl⟩ : ∃ q, k = q + 1 := ⟨k - 1, by omega⟩
    rw [laws_toCellS.l0, if_neg (by omega)]
    rw [List.take_of_length_le (by omega), List.take_of_length_le (by rw [List.length_map]; omega)] at ht
    rw [ht]
  | succ d ih =>
    intro k i ys hi hk hy ht
    obtain ⟨k, rfl⟩ : ∃ q, k = q + 1 := ⟨k - 1, by omega⟩
    have hli : i < l.length := by omega
    have hbi := hb i hli
    have hc : laws_toCell.f k (rd_T68 l (i : Int)).f0 = some (rd_T68 l (i : Int)).f0 := by
      unfold laws_toCell.f
      rw [toByteS_f _ (by omega) (by omega), Option.bind_some]
    rw [laws_toCellS.l0, if_pos (by omega), if_pos (by omega), hc, Option.bind_some, if_pos (by omega), w64 (by omega) (by omega), Int.toNat_natCast]
    refine ih k (i + 1) _ (by omega) (by omega) (by rw [List.length_set]; exact hy) ?_
    rw [take_set_next _ _ _ (by omega), ht, List.take_succ_eq_append_getElem (l := l.map cellOf) (by rw [List.length_map]; omega), List.getElem_map, rd_lcell hli]
    rfl
theorem toCellS_f (l : List S68) (hl : l.length ≤ 1048576) (hb : ∀ j : Nat, j < l.length → (rd_T68 l (j : Int)).f0.length ≤ 1048576) {k : Nat} (hk : 2097160 < k) : laws_toCellS.f k l = some (l.map cellOf) := by
  unfold laws_toCellS.f
  rw [if_pos (by omega), if_pos (by omega)]
  exact toCellS_l0 l hl hb l.length k 0 _ (by omega) (by omega) (by simp) (by simp)
theorem toTouchS_l0 (l : List S71) (hl : l.length ≤ 1048576) (d : Nat) : ∀ (k i : Nat) (ys : List S59), i + d = l.length → d < k → ys.length = l.length → ys.take i = (l.map touchOf).take i →
    laws_toTouchS.l0 k l ys (i : Int) = some (l.map touchOf) := by
  induction d with
  | zero =>
    intro k i ys hi hk hy ht
    obtain ⟨k, rfl⟩ : ∃ q, k = q + 1 := ⟨k - 1, by omega⟩
    rw [laws_toTouchS.l0, if_neg (by omega)]
    rw [List.take_of_length_le (by omega), List.take_of_length_le (by rw [List.length_map]; omega)] at ht
    rw [ht]
  | succ d ih =>
    intro k i ys hi hk hy ht
    obtain ⟨k, rfl⟩ : ∃ q, k = q + 1 := ⟨k - 1, by omega⟩
    have hli : i < l.length := by omega
    rw [laws_toTouchS.l0, if_pos (by omega), if_pos (by omega), laws_toTouch.f, Option.bind_some, if_pos (by omega), w64 (by omega) (by omega), Int.toNat_natCast]
    refine ih k (i + 1) _ (by omega) (by omega) (by rw [List.length_set]; exact hy) ?_
    rw [take_set_next _ _ _ (by omega), ht, List.take_succ_eq_append_getElem (l := l.map touchOf) (by rw [List.length_map]; omega), List.getElem_map, rd_ltouch hli]
    rfl
theorem toTouchS_f (l : List S71) (hl : l.length ≤ 1048576) {k : Nat} (hk : 1048577 < k) : laws_toTouchS.f k l = some (l.map touchOf) := by
  unfold laws_toTouchS.f
  rw [if_pos (by omega), if_pos (by omega)]
  exact toTouchS_l0 l hl l.length k 0 _ (by omega) (by omega) (by simp) (by simp)
theorem toMem_f (a0 : Int) (l1 : List S68) (l2 : List S71) (h1 : l1.length ≤ 1048576) (h2 : l2.length ≤ 1048576) (hb : ∀ j : Nat, j < l1.length → (rd_T68 l1 (j : Int)).f0.length ≤ 1048576) {k : Nat} (hk : 2097160 < k) :
    laws_toMem.f k a0 l1 l2 = some (a0, l1.map cellOf, l2.map touchOf) := by
  unfold laws_toMem.f
  rw [toCellS_f l1 h1 hb hk, Option.bind_some, toTouchS_f l2 h2 (by omega), Option.bind_some]

theorem eqCellS_l0 (l : List S50) (hl : l.length ≤ 1048576) (hb : ∀ j : Nat, j < l.length → (rd_T50 l (j : Int)).f0.length ≤ 1048576) (d : Nat) : ∀ (k i : Nat), i + d = l.length → d + 1048577 < k → laws_eqCellS.l0 k l l (i : Int) = some true := by
  induction d with
  | zero =>
    intro k i hi hk
    obtain ⟨k, rfl⟩ : ∃ q, k = q + 1 := ⟨k - 1, by omega⟩
    rw [laws_eqCellS.l0, if_neg (by omega)]
  | succ d ih =>
    intro k i hi hk
    obtain ⟨k, rfl⟩ : ∃ q, k = q + 1 := ⟨k - 1, by omega⟩
    have hbi := hb i (by omega)
    have hc : laws_eqCell.f k (rd_T50 l (i : Int)).f0 (rd_T50 l (i : Int)).f0 = some true := by
      unfold laws_eqCell.f
      rw [eqByteS_f _ _ (by omega) (by omega), decide_eq_true rfl, Option.bind_some, if_pos rfl]
    rw [laws_eqCellS.l0, if_pos (by omega), if_pos (by omega), if_pos (by omega), hc, Option.bind_some, if_pos rfl, w64 (by omega) (by omega)]
    exact ih k (i + 1) (by omega) (by omega)
theorem eqTouchS_l0 (l : List S59) (hl : l.length ≤ 1048576) (d : Nat) : ∀ (k i : Nat), i + d = l.length → d < k → laws_eqTouchS.l0 k l l (i : Int) = some true := by
  induction d with
  | zero =>
    intro k i hi hk
    obtain ⟨k, rfl⟩ : ∃ q, k = q + 1 := ⟨k - 1, by omega⟩
    rw [laws_eqTouchS.l0, if_neg (by omega)]
  | succ d ih =>
    intro k i hi hk
    obtain ⟨k, rfl⟩ : ∃ q, k = q + 1 := ⟨k - 1, by omega⟩
    rw [laws_eqTouchS.l0, if_pos (by omega), if_pos (by omega), if_pos (by omega), laws_eqTouch.f, if_pos rfl, if_pos rfl, if_pos rfl, Option.bind_some, if_pos rfl, w64 (by omega) (by omega)]
    exact ih k (i + 1) (by omega) (by omega)
theorem eqMem_f (a0 : Int) (cs : List S50) (ts : List S59) (h1 : cs.length ≤ 1048576) (h2 : ts.length ≤ 1048576) (hb : ∀ j : Nat, j < cs.length → (rd_T50 cs (j : Int)).f0.length ≤ 1048576) {k : Nat} (hk : 2097160 < k) :
    laws_eqMem.f k a0 cs ts a0 cs ts = some true := by
  have e1 : laws_eqCellS.l0 k cs cs 0 = some true := eqCellS_l0 cs h1 hb cs.length k 0 (by omega) (by omega)
  have e2 : laws_eqTouchS.l0 k ts ts 0 = some true := eqTouchS_l0 ts h2 ts.length k 0 (by omega) (by omega)
  unfold laws_eqMem.f laws_eqCellS.f laws_eqTouchS.f
  rw [if_pos rfl, if_pos rfl, e1, Option.bind_some, if_pos rfl, if_pos rfl, e2, Option.bind_some, if_pos rfl]

theorem markByteS_l0 (a : Int) (ha : 0 ≤ a) (hb : a ≤ 1000000000) (n : Nat) (hn : n ≤ 1048576) (d : Nat) : ∀ (k i : Nat) (zs : List Int), zs.length = n → i ≤ n → n - i = d → d < k → zs.take i = markL a i →
    laws_markByteS.l0 k zs (a + (i : Int)) (i : Int) = some (a + (n : Int), markL a n) := by
  induction d with
  | zero =>
    intro k i zs hz hi hd hk ht
    obtain ⟨k, rfl⟩ : ∃ q, k = q + 1 := ⟨k - 1, by omega⟩
    obtain rfl : i = n := by omega
    rw [laws_markByteS.l0, if_neg (by omega), ← ht, List.take_of_length_le (by omega)]
  | succ d ih =>
    intro k i zs hz hi hd hk ht
    obtain ⟨k, rfl⟩ : ∃ q, k = q + 1 := ⟨k - 1, by omega⟩
    rw [laws_markByteS.l0, if_pos (by omega), if_pos (by omega), w64 (by omega) (by omega), w64 (by omega) (by omega), Int.toNat_natCast, show a + (i : Int) + 1 = a + ((i + 1 : Nat) : Int) from by omega]
    refine ih k (i + 1) _ (by simp [hz]) (by omega) (by omega) (by omega) ?_
    rw [take_set_snoc _ _ _ (by omega), ht, markL_succ]
theorem markByteS_f (a : Int) (ha : 0 ≤ a) (hb : a ≤ 1000000000) (zs : List Int) (hn : zs.length ≤ 1048576) {k : Nat} (hk : zs.length < k) : laws_markByteS.f k zs a = some (a + (zs.length : Int), markL a zs.length) := by
  unfold laws_markByteS.f
  have := markByteS_l0 a ha hb zs.length hn zs.length k 0 zs rfl (by omega) (by omega) hk (by simp [markL])
  rw [show a + ((0 : Nat) : Int) = a from by omega] at this
  exact this
theorem heldByteS_l0 (a : Int) (ha : 0 ≤ a) (hb : a ≤ 1000000000) (n : Nat) (hn : n ≤ 1048576) (d : Nat) : ∀ (k i : Nat), i ≤ n → n - i = d → d < k →
    laws_heldByteS.l0 k (markL a n) (a + (i : Int)) (i : Int) = some (a + (n : Int)) := by
  induction d with
  | zero =>
    intro k i hi hd hk
    obtain ⟨k, rfl⟩ : ∃ q, k = q + 1 := ⟨k - 1, by omega⟩
    obtain rfl : i = n := by omega
    rw [laws_heldByteS.l0, markL_length, if_neg (by omega)]
  | succ d ih =>
    intro k i hi hd hk
    obtain ⟨k, rfl⟩ : ∃ q, k = q + 1 := ⟨k - 1, by omega⟩
    rw [laws_heldByteS.l0, markL_length, if_pos (by omega), if_pos (by omega), if_pos (rd_markL a (by omega)), w64 (by omega) (by omega), w64 (by omega) (by omega), show a + (i : Int) + 1 = a + ((i + 1 : Nat) : Int) from by omega]
    exact ih k (i + 1) (by omega) (by omega) (by omega)
theorem heldByteS_f (a : Int) (ha : 0 ≤ a) (hb : a ≤ 1000000000) (n : Nat) (hn : n ≤ 1048576) {k : Nat} (hk : n < k) : laws_heldByteS.f k (markL a n) a = some (a + (n : Int)) := by
  unfold laws_heldByteS.f
  have := heldByteS_l0 a ha hb n hn n k 0 (by omega) (by omega) hk
  rw [show a + ((0 : Nat) : Int) = a from by omega] at this
  exact this

/-- how many bytes the cells hold -/
def sumC : List S50 → Nat
  | [] => 0
  | c :: cs => c.f0.length + sumC cs
theorem sumC_append (a b : List S50) : sumC (a ++ b) = sumC a + sumC b := by
  induction a with
  | nil => simp [sumC]
  | cons c cs ih => simp only [List.cons_append, sumC, ih]; omega
theorem sumC_take (cs : List S50) (i : Nat) : sumC (cs.take i) ≤ sumC cs := by
  have h := sumC_append (cs.take i) (cs.drop i)
  rw [List.take_append_drop] at h
  omega
/-- the cells, marked with consecutive numbers -/
def markC : Int → List S50 → List S50
  | _, [] => []
  | a, c :: cs => ⟨markL a c.f0.length⟩ :: markC (a + (c.f0.length : Int)) cs
theorem markC_length (cs : List S50) : ∀ a, (markC a cs).length = cs.length := by
  induction cs with
  | nil => intro a; rfl
  | cons c cs ih => intro a; simp only [markC, List.length_cons, ih]
theorem markC_snoc (cs : List S50) (c : S50) : ∀ a, markC a (cs ++ [c]) = markC a cs ++ [⟨markL (a + (sumC cs : Int)) c.f0.length⟩] := by
  induction cs with
  | nil => intro a; simp [markC, sumC]
  | cons d cs ih =>
    intro a
    simp only [List.cons_append, markC, ih, sumC]
    rw [show a + (d.f0.length : Int) + (sumC cs : Int) = a + ((d.f0.length + sumC cs : Nat) : Int) from by omega]
theorem take_snoc {α : Type} {l : List α} {i : Nat} (h : i < l.length) : l.take (i + 1) = l.take i ++ [l[i]] := List.take_succ_eq_append_getElem h
theorem sumC_step {cs : List S50} {i : Nat} (h : i < cs.length) : sumC (cs.take (i + 1)) = sumC (cs.take i) + cs[i].f0.length := by
  rw [take_snoc h, sumC_append]; simp [sumC]
/-- the row while it is marked -/
def midC (a : Int) (cs : List S50) (i : Nat) : List S50 := markC a (cs.take i) ++ cs.drop i
theorem midC_length (a : Int) (cs : List S50) (i : Nat) : (midC a cs i).length = cs.length := by
  unfold midC
  rw [List.length_append, markC_length, List.length_take, List.length_drop]; omega
theorem midC_zero (a : Int) (cs : List S50) : midC a cs 0 = cs := by simp [midC, markC]
theorem midC_all (a : Int) (cs : List S50) : midC a cs cs.length = markC a cs := by simp [midC]
theorem midC_at (a : Int) {cs : List S50} {i : Nat} (h : i < cs.length) : (midC a cs i).getD i z50 = cs[i] := by
  unfold midC
  rw [List.getD_eq_getElem?_getD, List.getElem?_append_right (by rw [markC_length, List.length_take]; omega), markC_length, List.length_take, Nat.min_eq_left (by omega), Nat.sub_self, List.getElem?_drop, Nat.add_zero, List.getElem?_eq_getElem h]
  rfl
theorem midC_step (a : Int) {cs : List S50} {i : Nat} (h : i < cs.length) : (midC a cs i).set i ⟨markL (a + (sumC (cs.take i) : Int)) cs[i].f0.length⟩ = midC a cs (i + 1) := by
  unfold midC
  rw [take_snoc h, markC_snoc, List.set_append_right _ _ (by rw [markC_length, List.length_take]; omega), markC_length, List.length_take, Nat.min_eq_left (by omega), Nat.sub_self, List.drop_eq_getElem_cons h, List.set_cons_zero, List.append_assoc]
  rfl
/-- the accesses, marked with consecutive numbers -/
def markT (a : Int) (n : Nat) : List S59 := (List.range n).map fun i : Nat => ⟨a + 3 * (i : Int), a + 3 * (i : Int) + 1, a + 3 * (i : Int) + 2⟩
theorem markT_length (a : Int) (n : Nat) : (markT a n).length = n := by simp [markT]
theorem rd_markT (a : Int) {n i : Nat} (h : i < n) : rd_T59 (markT a n) (i : Int) = ⟨a + 3 * (i : Int), a + 3 * (i : Int) + 1, a + 3 * (i : Int) + 2⟩ := by
  rw [rd_touch (by rw [markT_length]; exact h)]
  simp [markT]
theorem rd_touch_set {l : List S59} {i : Nat} (v : S59) (h : i < l.length) : rd_T59 (l.set i v) (i : Int) = v := by
  rw [rd_touch (by rw [List.length_set]; exact h)]
  simp
theorem markTouchS_l0 (a : Int) (n : Nat) (h0 : 0 ≤ a) (h1 : a ≤ 1000000000) (hn : n ≤ 1048576) (d : Nat) : ∀ (k i : Nat) (ys : List S59), i + d = n → d < k → ys.length = n → ys.take i = (markT a n).take i →
    laws_markTouchS.l0 k ys (a + 3 * (i : Int)) (i : Int) = some (a + 3 * (n : Int), markT a n) := by
  induction d with
  | zero =>
    intro k i ys hi hk hy ht
    obtain ⟨k, rfl⟩ : ∃ q, k = q + 1 := ⟨k - 1, by omega⟩
    obtain rfl : i = n := by omega
    rw [laws_markTouchS.l0, if_neg (by omega)]
    rw [List.take_of_length_le (by omega), List.take_of_length_le (by rw [markT_length]; omega)] at ht
    rw [ht]
  | succ d ih =>
    intro k i ys hi hk hy ht
    obtain ⟨k, rfl⟩ : ∃ q, k = q + 1 := ⟨k - 1, by omega⟩
    have hl : i < ys.length := by omega
    rw [laws_markTouchS.l0, if_pos (by omega), if_pos (by omega)]
    simp only [Option.bind_some, Int.toNat_natCast]
    rw [rd_touch_set _ hl]
    simp only [List.set_set]
    rw [rd_touch_set _ hl, w64 (n := a + 3 * (i : Int) + 1) (by omega) (by omega), w64 (n := a + 3 * (i : Int) + 1 + 1) (by omega) (by omega), w64 (n := a + 3 * (i : Int) + 1 + 1 + 1) (by omega) (by omega), w64 (n := (i : Int) + 1) (by omega) (by omega)]
    rw [show a + 3 * (i : Int) + 1 + 1 + 1 = a + 3 * ((i + 1 : Nat) : Int) from by omega, show a + 3 * (i : Int) + 1 + 1 = a + 3 * (i : Int) + 2 from by omega]
    refine ih k (i + 1) _ (by omega) (by omega) (by rw [List.length_set]; exact hy) ?_
    rw [List.take_succ_eq_append_getElem (by rw [List.length_set]; exact hl), List.take_set_of_le (Nat.le_refl _), ht, List.take_succ_eq_append_getElem (l := markT a n) (by rw [markT_length]; omega)]
    congr 2
    simp [markT]
theorem markTouchS_f (a : Int) (n : Nat) (h0 : 0 ≤ a) (h1 : a ≤ 1000000000) (hn : n ≤ 1048576) (ys : List S59) (hy : ys.length = n) {k : Nat} (hk : n < k) : laws_markTouchS.f k ys a = some (a + 3 * (n : Int), markT a n) := by
  have h := markTouchS_l0 a n h0 h1 hn n k 0 ys (by omega) hk hy (by simp)
  rw [show a + 3 * ((0 : Nat) : Int) = a from by omega] at h
  exact h
theorem heldTouchS_l0 (a : Int) (n : Nat) (h0 : 0 ≤ a) (h1 : a ≤ 1000000000) (hn : n ≤ 1048576) (d : Nat) : ∀ (k i : Nat), i + d = n → d < k →
    laws_heldTouchS.l0 k (markT a n) (a + 3 * (i : Int)) (i : Int) = some (a + 3 * (n : Int)) := by
  induction d with
  | zero =>
    intro k i hi hk
    obtain ⟨k, rfl⟩ : ∃ q, k = q + 1 := ⟨k - 1, by omega⟩
    obtain rfl : i = n := by omega
    rw [laws_heldTouchS.l0, if_neg (by rw [markT_length]; omega)]
  | succ d ih =>
    intro k i hi hk
    obtain ⟨k, rfl⟩ : ∃ q, k = q + 1 := ⟨k - 1, by omega⟩
    have h := ih k (i + 1) (by omega) (by omega)
    rw [laws_heldTouchS.l0, if_pos (by rw [markT_length]; omega), if_pos (by omega), rd_markT a (by omega)]
    dsimp only
    rw [if_pos rfl, w64 (n := a + 3 * (i : Int) + 1) (by omega) (by omega), if_pos rfl, w64 (n := a + 3 * (i : Int) + 1 + 1) (by omega) (by omega), if_pos (by omega), w64 (n := a + 3 * (i : Int) + 1 + 1 + 1) (by omega) (by omega), w64 (n := (i : Int) + 1) (by omega) (by omega)]
    rw [show a + 3 * (i : Int) + 1 + 1 + 1 = a + 3 * ((i + 1 : Nat) : Int) from by omega]
    exact h
theorem heldCellS_l0 (a : Int) (cs : List S50) (h0 : 0 ≤ a) (h1 : a ≤ 100000000) (hs : sumC cs ≤ 100000000) (hn : cs.length ≤ 1048576) (hb : ∀ j : Nat, j < cs.length → (rd_T50 cs (j : Int)).f0.length ≤ 1048576) (d : Nat) : ∀ (k i : Nat), i + d = cs.length → d + 1048577 < k →
    laws_heldCellS.l0 k (markC a cs) (a + (sumC (cs.take i) : Int)) (i : Int) = some (a + (sumC cs : Int)) := by
  induction d with
  | zero =>
    intro k i hi hk
    obtain ⟨k, rfl⟩ : ∃ q, k = q + 1 := ⟨k - 1, by omega⟩
    rw [laws_heldCellS.l0, if_neg (by rw [markC_length]; omega), List.take_of_length_le (by omega)]
  | succ d ih =>
    intro k i hi hk
    obtain ⟨k, rfl⟩ : ∃ q, k = q + 1 := ⟨k - 1, by omega⟩
    have hl : i < cs.length := by omega
    have h := ih k (i + 1) (by omega) (by omega)
    have hbi := hb i hl
    rw [rd_cell hl] at hbi
    have ht := sumC_take cs i
    have hm : rd_T50 (markC a cs) (i : Int) = ⟨markL (a + (sumC (cs.take i) : Int)) cs[i].f0.length⟩ := by
      have e := midC_step a hl
      rw [rd_cell (by rw [markC_length]; exact hl)]
      have e2 : markC a cs = markC a (cs.take (i + 1)) ++ markC (a + (sumC (cs.take (i + 1)) : Int)) (cs.drop (i + 1)) := by
        have gen : ∀ (xs ys : List S50) (b : Int), markC b (xs ++ ys) = markC b xs ++ markC (b + (sumC xs : Int)) ys := by
          intro xs
          induction xs with
          | nil => intro ys b; simp [markC, sumC]
          | cons x xs ihx =>
            intro ys b
            simp only [List.cons_append, markC, ihx, sumC]
            rw [show b + (x.f0.length : Int) + (sumC xs : Int) = b + ((x.f0.length + sumC xs : Nat) : Int) from by omega]
        rw [← gen, List.take_append_drop]
      have e3 : (markC a cs)[i]? = some ⟨markL (a + (sumC (cs.take i) : Int)) cs[i].f0.length⟩ := by
        rw [e2, List.getElem?_append_left (by rw [markC_length, List.length_take]; omega), take_snoc hl, markC_snoc, List.getElem?_append_right (by rw [markC_length, List.length_take]; omega), markC_length, List.length_take, Nat.min_eq_left (by omega), Nat.sub_self]
        rfl
      rw [List.getElem?_eq_getElem (by rw [markC_length]; exact hl)] at e3
      exact Option.some.inj e3
    rw [laws_heldCellS.l0, if_pos (by rw [markC_length]; omega), if_pos (by omega), hm]
    dsimp only
    rw [heldByteS_f _ (by omega) (by omega) _ (by omega) (by omega), Option.bind_some, if_neg (by omega), w64 (by omega) (by omega)]
    rw [sumC_step hl] at h
    rw [show (a + (sumC (cs.take i) : Int) + (cs[i].f0.length : Int)) = a + ((sumC (cs.take i) + cs[i].f0.length : Nat) : Int) from by omega]
    exact h
theorem heldMem_f (a0 a : Int) (cs : List S50) (n : Nat) (h0 : 0 ≤ a) (h1 : a ≤ 100000000) (hs : sumC cs ≤ 100000000) (hn : cs.length ≤ 1048576) (hb : ∀ j : Nat, j < cs.length → (rd_T50 cs (j : Int)).f0.length ≤ 1048576) (ht : n ≤ 1048576) {k : Nat} (hk : 2097160 < k) :
    laws_heldMem.f k a0 (markC a cs) (markT (a + (sumC cs : Int)) n) a = some (a + (sumC cs : Int) + 3 * (n : Int)) := by
  have e1 := heldCellS_l0 a cs h0 (by omega) hs hn hb cs.length k 0 (by omega) (by omega)
  have e2 := heldTouchS_l0 (a + (sumC cs : Int)) n (by omega) (by omega) ht n k 0 (by omega) (by omega)
  rw [show a + (sumC (cs.take 0) : Int) = a from by simp [sumC]] at e1
  rw [show a + (sumC cs : Int) + 3 * ((0 : Nat) : Int) = a + (sumC cs : Int) from by omega] at e2
  unfold laws_heldMem.f laws_heldCellS.f laws_heldTouchS.f
  rw [show ((0 : Nat) : Int) = 0 from rfl] at e1 e2
  rw [e1, Option.bind_some, if_neg (by omega), e2, Option.bind_some, if_neg (by omega)]
theorem sumC_le (cs : List S50) (m : Nat) (h : ∀ c ∈ cs, c.f0.length ≤ m) : sumC cs ≤ cs.length * m := by
  induction cs with
  | nil => simp [sumC]
  | cons c cs ih =>
    have h1 := ih (fun d hd => h d (List.mem_cons_of_mem _ hd))
    have h2 := h c (List.mem_cons_self)
    simp only [sumC, List.length_cons, Nat.succ_mul]
    omega
theorem rd_of_mem {cs : List S50} {m : Nat} (h : ∀ c ∈ cs, c.f0.length ≤ m) : ∀ j : Nat, j < cs.length → (rd_T50 cs (j : Int)).f0.length ≤ m := fun j hj => by rw [rd_cell hj]; exact h _ (List.getElem_mem hj)

theorem szCellS_sum (l : List S68) (hl : l.length ≤ 1048576) (hb : ∀ i : Nat, i < l.length → (rd_T68 l (i : Int)).f0.length ≤ 9223372036854775807) (d : Nat) : ∀ (k i : Nat) (a r : Int), i + d = l.length → d < k → 0 ≤ a → a ≤ 1048576 → laws_szCellS.l0 k l a (i : Int) = some r → 0 ≤ r → (sumC ((l.drop i).map cellOf) : Int) + r ≤ a := by
  induction d with
  | zero =>
    intro k i a r hi hk h0 h1 e hr
    obtain ⟨k, rfl⟩ : ∃ q, k = q + 1 := ⟨k - 1, by omega⟩
    rw [laws_szCellS.l0, if_neg (by omega)] at e
    obtain rfl := Option.some.inj e
    rw [List.drop_eq_nil_of_le (by omega)]
    simp [sumC]
  | succ d ih =>
    intro k i a r hi hk h0 h1 e hr
    obtain ⟨k, rfl⟩ : ∃ q, k = q + 1 := ⟨k - 1, by omega⟩
    have hbi := hb i (by omega)
    have hl2 : i < l.length := by omega
    rw [laws_szCellS.l0, if_pos (by omega), if_pos (by omega), laws_szCell.f, laws_szByteS.f, w64 (n := a - _) (by omega) (by omega), w64 (n := (i : Int) + 1) (by omega) (by omega)] at e
    by_cases h : a - ((rd_T68 l (i : Int)).f0.length : Int) < 0
    · rw [if_pos h, Option.bind_some, if_pos (by decide), Option.bind_some, if_pos (by decide)] at e
      obtain rfl := Option.some.inj e
      exact absurd hr (by decide)
    · rw [if_neg h, Option.bind_some, if_neg h, Option.bind_some, if_neg h] at e
      have h2 := ih k (i + 1) _ r (by omega) (by omega) (by omega) (by omega) e hr
      rw [List.drop_eq_getElem_cons hl2, List.map_cons]
      rw [rd_lcell hl2] at h2
      show ((((cellOf l[i]).f0.length + sumC ((l.drop (i + 1)).map cellOf) : Nat) : Int)) + r ≤ a
      have h3 : (cellOf l[i]).f0.length = l[i].f0.length := rfl
      omega
theorem szMem_sum (a0 : Int) (l1 : List S68) (l2 : List S71) (h1 : l1.length ≤ 9223372036854775807) (h2 : l2.length ≤ 9223372036854775807) (hb : ∀ i : Nat, i < l1.length → (rd_T68 l1 (i : Int)).f0.length ≤ 9223372036854775807) {k : Nat} (hk : 1048577 < k) {r : Int} (e : laws_szMem.f k a0 l1 l2 1048576 = some r) (hr : 0 ≤ r) : sumC (l1.map cellOf) ≤ 1048576 := by
  unfold laws_szMem.f laws_szCellS.f at e
  rw [w64 (by omega) (by omega)] at e
  by_cases c1 : (1048576 : Int) - (l1.length : Int) < 0
  · rw [if_pos c1, Option.bind_some, if_pos (by decide)] at e
    obtain rfl := Option.some.inj e
    exact absurd hr (by decide)
  · rw [if_neg c1] at e
    obtain ⟨q, e2, hq⟩ := szCellS_l0 l1 (by omega) hb l1.length k 0 (1048576 - (l1.length : Int)) (by omega) (by omega) (by omega) (by omega)
    have e' : laws_szCellS.l0 k l1 (1048576 - (l1.length : Int)) 0 = some q := e2
    rw [e', Option.bind_some] at e
    rcases hq with hq | ⟨q0, q1, _⟩
    · rw [if_pos hq] at e
      obtain rfl := Option.some.inj e
      exact absurd hr (by decide)
    · have h3 := szCellS_sum l1 (by omega) hb l1.length k 0 (1048576 - (l1.length : Int)) q (by omega) (by omega) (by omega) (by omega) e2 q0
      rw [List.drop_zero] at h3
      omega


end Go.Proofs.Ytoceiaaigiflpaa.Pure
