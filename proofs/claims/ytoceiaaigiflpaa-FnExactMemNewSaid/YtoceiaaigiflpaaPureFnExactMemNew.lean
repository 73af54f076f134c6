/- The law FnExactMemNew holds of the program: whatever its arguments (of the kinds and sizes that the statement names), it answers true. -/
import Derived.Test.YtoceiaaigiflpaaQFnExactMemNewx0
import Derived.Test.YtoceiaaigiflpaaQFnExactMemNewx1
import Derived.Test.YtoceiaaigiflpaaQFnExactMemNewx2
import Derived.Test.YtoceiaaigiflpaaQFnExactMemNewx3
import Derived.Test.YtoceiaaigiflpaaQFnExactMemNewx4
import Derived.Test.YtoceiaaigiflpaaLib
import Derived.Test.YtoceiaaigiflpaaLibBytes
set_option linter.unusedVariables false
set_option linter.unusedSimpArgs false
namespace Go.Proofs.Ytoceiaaigiflpaa.Pure
open Go.RowKit Go.Proofs.Ytoceiaaigiflpaa.PFnExactMemNew Go.Proofs.YtoceiaaigiflpaaW.PrintWords Go.Proofs.YtoceiaaigiflpaaW.PrintLast Go.Proofs.Ytoceiaaigiflpaa.L 

theorem rd_cell {l : List S50} {i : Nat} (h : i < l.length) : rd_T50 l (i : Int) = l[i] := by unfold rd_T50; rw [Int.toNat_natCast, List.getD_eq_getElem?_getD]; simp [h]
theorem rd_touch {l : List S59} {i : Nat} (h : i < l.length) : rd_T59 l (i : Int) = l[i] := by unfold rd_T59; rw [Int.toNat_natCast, List.getD_eq_getElem?_getD]; simp [h]

theorem within_f (a b c : Int) : impl_within.f a b c = some (decide (b ≤ a ∧ a ≤ c)) := by
  unfold impl_within.f
  by_cases h : a ≥ b
  · rw [if_pos h]; congr 1; rw [decide_eq_decide]; omega
  · rw [if_neg h]; congr 1; symm; rw [decide_eq_false_iff_not]; omega

theorem markByteS_l0 (a : Int) (ha : 0 ≤ a) (hb : a ≤ 1000000000) (n : Nat) (hn : n ≤ 1048576) (d : Nat) : ∀ (k i : Nat) (zs : List Int), zs.length = n → i ≤ n → n - i = d → d < k → zs.take i = markL a i →
    laws_markByteS.l0 k zs (a + (i : Int)) (i : Int) = some (a + (n : Int), markL a n) := by
  induction d with
  | zero =>
    intro k i zs hz hi hd hk ht
    obtain ⟨k, rfl⟩ : ∃ q, k = q + 1 := ⟨k - 1, by omega⟩
    obtain rfl : i = n := by omega
    rw [laws_markByteS.l0, if_neg (by omega), ← ht, List.take_of_length_le (by omega)]
  | succ d ih =>
    intro k i zs hz hi hd hk ht
    obtain ⟨k, rfl⟩ : ∃ q, k = q + 1 := ⟨k - 1, by omega⟩
    rw [laws_markByteS.l0, if_pos (by omega), if_pos (by omega), w64 (by omega) (by omega), w64 (by omega) (by omega), Int.toNat_natCast, show a + (i : Int) + 1 = a + ((i + 1 : Nat) : Int) from by omega]
    refine ih k (i + 1) _ (by simp [hz]) (by omega) (by omega) (by omega) ?_
    rw [take_set_snoc _ _ _ (by omega), ht, markL_succ]
theorem markByteS_f (a : Int) (ha : 0 ≤ a) (hb : a ≤ 1000000000) (zs : List Int) (hn : zs.length ≤ 1048576) {k : Nat} (hk : zs.length < k) : laws_markByteS.f k zs a = some (a + (zs.length : Int), markL a zs.length) := by
  unfold laws_markByteS.f
  have := markByteS_l0 a ha hb zs.length hn zs.length k 0 zs rfl (by omega) (by omega) hk (by simp [markL])
  rw [show a + ((0 : Nat) : Int) = a from by omega] at this
  exact this
theorem heldByteS_l0 (a : Int) (ha : 0 ≤ a) (hb : a ≤ 1000000000) (n : Nat) (hn : n ≤ 1048576) (d : Nat) : ∀ (k i : Nat), i ≤ n → n - i = d → d < k →
    laws_heldByteS.l0 k (markL a n) (a + (i : Int)) (i : Int) = some (a + (n : Int)) := by
  induction d with
  | zero =>
    intro k i hi hd hk
    obtain ⟨k, rfl⟩ : ∃ q, k = q + 1 := ⟨k - 1, by omega⟩
    obtain rfl : i = n := by omega
    rw [laws_heldByteS.l0, markL_length, if_neg (by omega)]
  | succ d ih =>
    intro k i hi hd hk
    obtain ⟨k, rfl⟩ : ∃ q, k = q + 1 := ⟨k - 1, by omega⟩
    rw [laws_heldByteS.l0, markL_length, if_pos (by omega), if_pos (by omega), if_pos (rd_markL a (by omega)), w64 (by omega) (by omega), w64 (by omega) (by omega), show a + (i : Int) + 1 = a + ((i + 1 : Nat) : Int) from by omega]
    exact ih k (i + 1) (by omega) (by omega) (by omega)
theorem heldByteS_f (a : Int) (ha : 0 ≤ a) (hb : a ≤ 1000000000) (n : Nat) (hn : n ≤ 1048576) {k : Nat} (hk : n < k) : laws_heldByteS.f k (markL a n) a = some (a + (n : Int)) := by
  unfold laws_heldByteS.f
  have := heldByteS_l0 a ha hb n hn n k 0 (by omega) (by omega) hk
  rw [show a + ((0 : Nat) : Int) = a from by omega] at this
  exact this

/-- how many bytes the cells hold -/
def sumC : List S50 → Nat
  | [] => 0
  | c :: cs => c.f0.length + sumC cs
theorem sumC_append (a b : List S50) : sumC (a ++ b) = sumC a + sumC b := by
  induction a with
  | nil => simp [sumC]
  | cons c cs ih => simp only [List.cons_append, sumC, ih]; omega
theorem sumC_take (cs : List S50) (i : Nat) : sumC (cs.take i) ≤ sumC cs := by
  have h := sumC_append (cs.take i) (cs.drop i)
  rw [List.take_append_drop] at h
  omega
/-- the cells, marked with consecutive numbers -/
def markC : Int → List S50 → List S50
  | _, [] => []
  | a, c :: cs => ⟨markL a c.f0.length⟩ :: markC (a + (c.f0.length : Int)) cs
theorem markC_length (cs : List S50) : ∀ a, (markC a cs).length = cs.length := by
  induction cs with
  | nil => intro a; rfl
  | cons c cs ih => intro a; simp only [markC, List.length_cons, ih]
theorem markC_snoc (cs : List S50) (c : S50) : ∀ a, markC a (cs ++ [c]) = markC a cs ++ [⟨markL (a + (sumC cs : Int)) c.f0.length⟩] := by
  induction cs with
  | nil => intro a; simp [markC, sumC]
  | cons d cs ih =>
    intro a
    simp only [List.cons_append, markC, ih, sumC]
    rw [show a + (d.f0.length : Int) + (sumC cs : Int) = a + ((d.f0.length + sumC cs : Nat) : Int) from by omega]
theorem take_snoc {α : Type} {l : List α} {i : Nat} (h : i < l.length) : l.take (i + 1) = l.take i ++ [l[i]] := List.take_succ_eq_append_getElem h
theorem sumC_step {cs : List S50} {i : Nat} (h : i < cs.length) : sumC (cs.take (i + 1)) = sumC (cs.take i) + cs[i].f0.length := by
  rw [take_snoc h, sumC_append]; simp [sumC]
/-- the row while it is marked -/
def midC (a : Int) (cs : List S50) (i : Nat) : List S50 := markC a (cs.take i) ++ cs.drop i
theorem midC_length (a : Int) (cs : List S50) (i : Nat) : (midC a cs i).length = cs.length := by
  unfold midC
  rw [List.length_append, markC_length, List.length_take, List.length_drop]; omega
theorem midC_zero (a : Int) (cs : List S50) : midC a cs 0 = cs := by simp [midC, markC]
theorem midC_all (a : Int) (cs : List S50) : midC a cs cs.length = markC a cs := by simp [midC]
theorem midC_at (a : Int) {cs : List S50} {i : Nat} (h : i < cs.length) : (midC a cs i).getD i z50 = cs[i] := by
  unfold midC
  rw [List.getD_eq_getElem?_getD, List.getElem?_append_right (by rw [markC_length, List.length_take]; omega), markC_length, List.length_take, Nat.min_eq_left (by omega), Nat.sub_self, List.getElem?_drop, Nat.add_zero, List.getElem?_eq_getElem h]
  rfl
theorem midC_step (a : Int) {cs : List S50} {i : Nat} (h : i < cs.length) : (midC a cs i).set i ⟨markL (a + (sumC (cs.take i) : Int)) cs[i].f0.length⟩ = midC a cs (i + 1) := by
  unfold midC
  rw [take_snoc h, markC_snoc, List.set_append_right _ _ (by rw [markC_length, List.length_take]; omega), markC_length, List.length_take, Nat.min_eq_left (by omega), Nat.sub_self, List.drop_eq_getElem_cons h, List.set_cons_zero, List.append_assoc]
  rfl
/-- the accesses, marked with consecutive numbers -/
def markT (a : Int) (n : Nat) : List S59 := (List.range n).map fun i : Nat => ⟨a + 3 * (i : Int), a + 3 * (i : Int) + 1, a + 3 * (i : Int) + 2⟩
theorem markT_length (a : Int) (n : Nat) : (markT a n).length = n := by simp [markT]
theorem rd_markT (a : Int) {n i : Nat} (h : i < n) : rd_T59 (markT a n) (i : Int) = ⟨a + 3 * (i : Int), a + 3 * (i : Int) + 1, a + 3 * (i : Int) + 2⟩ := by
  rw [rd_touch (by rw [markT_length]; exact h)]
  simp [markT]
theorem rd_touch_set {l : List S59} {i : Nat} (v : S59) (h : i < l.length) : rd_T59 (l.set i v) (i : Int) = v := by
  rw [rd_touch (by rw [List.length_set]; exact h)]
  simp
theorem markTouchS_l0 (a : Int) (n : Nat) (h0 : 0 ≤ a) (h1 : a ≤ 1000000000) (hn : n ≤ 1048576) (d : Nat) : ∀ (k i : Nat) (ys : List S59), i + d = n → d < k → ys.length = n → ys.take i = (markT a n).take i →
    laws_markTouchS.l0 k ys (a + 3 * (i : Int)) (i : Int) = some (a + 3 * (n : Int), markT a n) := by
  induction d with
  | zero =>
    intro k i ys hi hk hy ht
    obtain ⟨k, rfl⟩ : ∃ q, k = q + 1 := ⟨k - 1, by omega⟩
    obtain rfl : i = n := by omega
    rw [laws_markTouchS.l0, if_neg (by omega)]
    rw [List.take_of_length_le (by omega), List.take_of_length_le (by rw [markT_length]; omega)] at ht
    rw [ht]
  | succ d ih =>
    intro k i ys hi hk hy ht
    obtain ⟨k, rfl⟩ : ∃ q, k = q + 1 := ⟨k - 1, by omega⟩
    have hl : i < ys.length := by omega
    rw [laws_markTouchS.l0, if_pos (by omega), if_pos (by omega)]
    simp only [Option.bind_some, Int.toNat_natCast]
    rw [rd_touch_set _ hl]
    simp only [List.set_set]
    rw [rd_touch_set _ hl, w64 (n := a + 3 * (i : Int) + 1) (by omega) (by omega), w64 (n := a + 3 * (i : Int) + 1 + 1) (by omega) (by omega), w64 (n := a + 3 * (i : Int) + 1 + 1 + 1) (by omega) (by omega), w64 (n := (i : Int) + 1) (by omega) (by omega)]
    rw [show a + 3 * (i : Int) + 1 + 1 + 1 = a + 3 * ((i + 1 : Nat) : Int) from by omega, show a + 3 * (i : Int) + 1 + 1 = a + 3 * (i : Int) + 2 from by omega]
    refine ih k (i + 1) _ (by omega) (by omega) (by rw [List.length_set]; exact hy) ?_
    rw [List.take_succ_eq_append_getElem (by rw [List.length_set]; exact hl), List.take_set_of_le (Nat.le_refl _), ht, List.take_succ_eq_append_getElem (l := markT a n) (by rw [markT_length]; omega)]
    congr 2
    simp [markT]
theorem markTouchS_f (a : Int) (n : Nat) (h0 : 0 ≤ a) (h1 : a ≤ 1000000000) (hn : n ≤ 1048576) (ys : List S59) (hy : ys.length = n) {k : Nat} (hk : n < k) : laws_markTouchS.f k ys a = some (a + 3 * (n : Int), markT a n) := by
  have h := markTouchS_l0 a n h0 h1 hn n k 0 ys (by omega) hk hy (by simp)
  rw [show a + 3 * ((0 : Nat) : Int) = a from by omega] at h
  exact h
theorem heldTouchS_l0 (a : Int) (n : Nat) (h0 : 0 ≤ a) (h1 : a ≤ 1000000000) (hn : n ≤ 1048576) (d : Nat) : ∀ (k i : Nat), i + d = n → d < k →
    laws_heldTouchS.l0 k (markT a n) (a + 3 * (i : Int)) (i : Int) = some (a + 3 * (n : Int)) := by
  induction d with
  | zero =>
    intro k i hi hk
    obtain ⟨k, rfl⟩ : ∃ q, k = q + 1 := ⟨k - 1, by omega⟩
    obtain rfl : i = n := by omega
    rw [laws_heldTouchS.l0, if_neg (by rw [markT_length]; omega)]
  | succ d ih =>
    intro k i hi hk
    obtain ⟨k, rfl⟩ : ∃ q, k = q + 1 := ⟨k - 1, by omega⟩
    have h := ih k (i + 1) (by omega) (by omega)
    rw [laws_heldTouchS.l0, if_pos (by rw [markT_length]; omega), if_pos (by omega), rd_markT a (by omega)]
    dsimp only
    rw [if_pos rfl, w64 (n := a + 3 * (i : Int) + 1) (by omega) (by omega), if_pos rfl, w64 (n := a + 3 * (i : Int) + 1 + 1) (by omega) (by omega), if_pos (by omega), w64 (n := a + 3 * (i : Int) + 1 + 1 + 1) (by omega) (by omega), w64 (n := (i : Int) + 1) (by omega) (by omega)]
    rw [show a + 3 * (i : Int) + 1 + 1 + 1 = a + 3 * ((i + 1 : Nat) : Int) from by omega]
    exact h
theorem heldCellS_l0 (a : Int) (cs : List S50) (h0 : 0 ≤ a) (h1 : a ≤ 100000000) (hs : sumC cs ≤ 100000000) (hn : cs.length ≤ 1048576) (hb : ∀ j : Nat, j < cs.length → (rd_T50 cs (j : Int)).f0.length ≤ 1048576) (d : Nat) : ∀ (k i : Nat), i + d = cs.length → d + 1048577 < k →
    laws_heldCellS.l0 k (markC a cs) (a + (sumC (cs.take i) : Int)) (i : Int) = some (a + (sumC cs : Int)) := by
  induction d with
  | zero =>
    intro k i hi hk
    obtain ⟨k, rfl⟩ : ∃ q, k = q + 1 := ⟨k - 1, by omega⟩
    rw [laws_heldCellS.l0, if_neg (by rw [markC_length]; omega), List.take_of_length_le (by omega)]
  | succ d ih =>
    intro k i hi hk
    obtain ⟨k, rfl⟩ : ∃ q, k = q + 1 := ⟨k - 1, by omega⟩
    have hl : i < cs.length := by omega
    have h := ih k (i + 1) (by omega) (by omega)
    have hbi := hb i hl
    rw [rd_cell hl] at hbi
    have ht := sumC_take cs i
    have hm : rd_T50 (markC a cs) (i : Int) = ⟨markL (a + (sumC (cs.take i) : Int)) cs[i].f0.length⟩ := by
      have e := midC_step a hl
      rw [rd_cell (by rw [markC_length]; exact hl)]
      have e2 : markC a cs = markC a (cs.take (i + 1)) ++ markC (a + (sumC (cs.take (i + 1)) : Int)) (cs.drop (i + 1)) := by
        have gen : ∀ (xs ys : List S50) (b : Int), markC b (xs ++ ys) = markC b xs ++ markC (b + (sumC xs : Int)) ys := by
          intro xs
          induction xs with
          | nil => intro ys b; simp [markC, sumC]
          | cons x xs ihx =>
            intro ys b
            simp only [List.cons_append, markC, ihx, sumC]
            rw [show b + (x.f0.length : Int) + (sumC xs : Int) = b + ((x.f0.length + sumC xs : Nat) : Int) from by omega]
        rw [← gen, List.take_append_drop]
      have e3 : (markC a cs)[i]? = some ⟨markL (a + (sumC (cs.take i) : Int)) cs[i].f0.length⟩ := by
        rw [e2, List.getElem?_append_left (by rw [markC_length, List.length_take]; omega), take_snoc hl, markC_snoc, List.getElem?_append_right (by rw [markC_length, List.length_take]; omega), markC_length, List.length_take, Nat.min_eq_left (by omega), Nat.sub_self]
        rfl
      rw [List.getElem?_eq_getElem (by rw [markC_length]; exact hl)] at e3
      exact Option.some.inj e3
    rw [laws_heldCellS.l0, if_pos (by rw [markC_length]; omega), if_pos (by omega), hm]
    dsimp only
    rw [heldByteS_f _ (by omega) (by omega) _ (by omega) (by omega), Option.bind_some, if_neg (by omega), w64 (by omega) (by omega)]
    rw [sumC_step hl] at h
    rw [show (a + (sumC (cs.take i) : Int) + (cs[i].f0.length : Int)) = a + ((sumC (cs.take i) + cs[i].f0.length : Nat) : Int) from by omega]
    exact h
theorem heldMem_f (a0 a : Int) (cs : List S50) (n : Nat) (h0 : 0 ≤ a) (h1 : a ≤ 100000000) (hs : sumC cs ≤ 100000000) (hn : cs.length ≤ 1048576) (hb : ∀ j : Nat, j < cs.length → (rd_T50 cs (j : Int)).f0.length ≤ 1048576) (ht : n ≤ 1048576) {k : Nat} (hk : 2097160 < k) :
    laws_heldMem.f k a0 (markC a cs) (markT (a + (sumC cs : Int)) n) a = some (a + (sumC cs : Int) + 3 * (n : Int)) := by
  have e1 := heldCellS_l0 a cs h0 (by omega) hs hn hb cs.length k 0 (by omega) (by omega)
  have e2 := heldTouchS_l0 (a + (sumC cs : Int)) n (by omega) (by omega) ht n k 0 (by omega) (by omega)
  rw [show a + (sumC (cs.take 0) : Int) = a from by simp [sumC]] at e1
  rw [show a + (sumC cs : Int) + 3 * ((0 : Nat) : Int) = a + (sumC cs : Int) from by omega] at e2
  unfold laws_heldMem.f laws_heldCellS.f laws_heldTouchS.f
  rw [show ((0 : Nat) : Int) = 0 from rfl] at e1 e2
  rw [e1, Option.bind_some, if_neg (by omega), e2, Option.bind_some, if_neg (by omega)]

/-- a new memory -/
def memNewC (n size : Int) : List S50 := if 0 ≤ n ∧ n ≤ 128 ∧ 1 ≤ size ∧ size ≤ 1000 then List.replicate n.toNat ⟨List.replicate size.toNat 0⟩ else []
def memNewS (n size : Int) : Int := if 0 ≤ n ∧ n ≤ 128 ∧ 1 ≤ size ∧ size ≤ 1000 then size else 0
theorem memNewC_length (n size : Int) : (memNewC n size).length ≤ 128 := by
  unfold memNewC
  split
  · rw [List.length_replicate]; omega
  · simp
theorem memNewC_cell (n size : Int) : ∀ c ∈ memNewC n size, c.f0.length ≤ 1000 := by
  intro c hc
  unfold memNewC at hc
  split at hc
  · rw [List.eq_of_mem_replicate hc]
    show (List.replicate size.toNat (0 : Int)).length ≤ 1000
    rw [List.length_replicate]; omega
  · simp at hc
theorem spec_MemNew_l0 (n size : Int) (hn : n ≤ 128) (h0 : 0 ≤ size) (h1 : size ≤ 1000) (d : Nat) : ∀ (k i : Nat), (i : Int) + d = n → d < k →
    spec_MemNew.l0 k n size (i : Int) size (List.replicate i ⟨List.replicate size.toNat 0⟩) = some (size, List.replicate n.toNat ⟨List.replicate size.toNat 0⟩, []) := by
  induction d with
  | zero =>
    intro k i hi hk
    obtain ⟨k, rfl⟩ : ∃ q, k = q + 1 := ⟨k - 1, by omega⟩
    rw [spec_MemNew.l0, if_neg (by omega), show n.toNat = i from by omega]
  | succ d ih =>
    intro k i hi hk
    obtain ⟨k, rfl⟩ : ∃ q, k = q + 1 := ⟨k - 1, by omega⟩
    have h := ih k (i + 1) (by omega) (by omega)
    rw [spec_MemNew.l0, if_pos (by omega), if_pos h0, if_pos (by omega), if_pos (by rw [List.length_replicate]; omega), w64 (by omega) (by omega), ← List.replicate_succ']
    exact h
theorem impl_newMem_l0 (n size : Int) (hn : n ≤ 128) (h0 : 0 ≤ size) (h1 : size ≤ 1000) (d : Nat) : ∀ (k i : Nat), (i : Int) + d = n → d < k →
    impl_newMem.l0 k size n (i : Int) size (List.replicate i ⟨List.replicate size.toNat 0⟩) = some (size, List.replicate n.toNat ⟨List.replicate size.toNat 0⟩, []) := by
  induction d with
  | zero =>
    intro k i hi hk
    obtain ⟨k, rfl⟩ : ∃ q, k = q + 1 := ⟨k - 1, by omega⟩
    rw [impl_newMem.l0, if_neg (by omega), show n.toNat = i from by omega]
  | succ d ih =>
    intro k i hi hk
    obtain ⟨k, rfl⟩ : ∃ q, k = q + 1 := ⟨k - 1, by omega⟩
    have h := ih k (i + 1) (by omega) (by omega)
    rw [impl_newMem.l0, if_pos (by omega), if_pos h0, if_pos (by omega), if_pos (by rw [List.length_replicate]; omega), w64 (by omega) (by omega), ← List.replicate_succ']
    exact h
theorem spec_MemNew_f (n size : Int) {k : Nat} (hk : 200 < k) : spec_MemNew.f k n size = some (memNewS n size, memNewC n size, []) := by
  obtain ⟨k, rfl⟩ : ∃ q, k = q + 1 := ⟨k - 1, by omega⟩
  unfold spec_MemNew.f memNewS memNewC
  have hj : spec_MemNew.j0 (k + 1) n size true = some (0, [], []) := by rw [spec_MemNew.j0, if_pos rfl]
  by_cases h1 : n < 0
  · rw [if_pos h1, hj, if_neg (by omega), if_neg (by omega)]
  · by_cases h2 : n > 128
    · rw [if_neg h1, if_pos h2, hj, if_neg (by omega), if_neg (by omega)]
    · by_cases h3 : size < 1
      · rw [if_neg h1, if_neg h2, if_pos h3, hj, if_neg (by omega), if_neg (by omega)]
      · rw [if_neg h1, if_neg h2, if_neg h3]
        by_cases h4 : size > 1000
        · rw [decide_eq_true h4, hj, if_neg (by omega), if_neg (by omega)]
        · have h := spec_MemNew_l0 n size (by omega) (by omega) (by omega) n.toNat k 0 (by omega) (by omega)
          rw [decide_eq_false h4, spec_MemNew.j0, if_neg (by decide), if_pos (by omega), if_pos (by omega)]
          exact h
theorem impl_MemNew_f (n size : Int) {k : Nat} (hk : 200 < k) : impl_MemNew.f k n size = some (memNewS n size, memNewC n size, []) := by
  unfold impl_MemNew.f memNewS memNewC
  rw [within_f, Option.bind_some]
  by_cases h1 : 0 ≤ n ∧ n ≤ 128
  · rw [if_pos (decide_eq_true h1), within_f, Option.bind_some]
    by_cases h2 : 1 ≤ size ∧ size ≤ 1000
    · have h := impl_newMem_l0 n size h1.2 (by omega) h2.2 n.toNat k 0 (by omega) (by omega)
      have h' : impl_newMem.f k n size = _ := h
      rw [if_pos (decide_eq_true h2), h', Option.bind_some, if_pos (by omega), if_pos (by omega)]
    · rw [if_neg (by simpa using h2), if_neg (by omega), if_neg (by omega)]
  · rw [if_neg (by simpa using h1), if_neg (by omega), if_neg (by omega)]
theorem sumC_le (cs : List S50) (m : Nat) (h : ∀ c ∈ cs, c.f0.length ≤ m) : sumC cs ≤ cs.length * m := by
  induction cs with
  | nil => simp [sumC]
  | cons c cs ih =>
    have h1 := ih (fun d hd => h d (List.mem_cons_of_mem _ hd))
    have h2 := h c (List.mem_cons_self)
    simp only [sumC, List.length_cons, Nat.succ_mul]
    omega
theorem rd_of_mem {cs : List S50} {m : Nat} (h : ∀ c ∈ cs, c.f0.length ≤ m) : ∀ j : Nat, j < cs.length → (rd_T50 cs (j : Int)).f0.length ≤ m := fun j hj => by rw [rd_cell hj]; exact h _ (List.getElem_mem hj)

theorem eqByteS_l0 (xs ys : List Int) (hl : ys.length = xs.length) (hx : xs.length ≤ 140737488351232) (d : Nat) : ∀ (k i : Nat), i ≤ xs.length → xs.length - i = d → d < k →
    laws_eqByteS.l0 k xs ys (i : Int) = some (decide (xs.drop i = ys.drop i)) := by
  induction d with
  | zero =>
    intro k i hi hd hk
    obtain ⟨k, rfl⟩ : ∃ q, k = q + 1 := ⟨k - 1, by omega⟩
    rw [laws_eqByteS.l0, if_neg (by omega), List.drop_of_length_le (by omega), List.drop_of_length_le (by omega)]
    rfl
  | succ d ih =>
    intro k i hi hd hk
    obtain ⟨k, rfl⟩ : ∃ q, k = q + 1 := ⟨k - 1, by omega⟩
    have h := ih k (i + 1) (by omega) (by omega) (by omega)
    rw [laws_eqByteS.l0, if_pos (by omega), if_pos (by omega), if_pos (by omega), w64 (by omega) (by omega)]
    rw [rd_lt (show i < xs.length by omega), rd_lt (show i < ys.length by omega)]
    rw [List.drop_eq_getElem_cons (show i < xs.length by omega), List.drop_eq_getElem_cons (show i < ys.length by omega)]
    by_cases e : xs[i]'(by omega) = ys[i]'(by omega)
    · rw [if_pos e]
      rw [show ((i : Int) + 1) = ((i + 1 : Nat) : Int) from rfl, h]
      congr 1
      rw [decide_eq_decide, e]
      exact ⟨fun h2 => by rw [h2], fun h2 => (List.cons.inj h2).2⟩
    · rw [if_neg e]
      congr 1
      symm
      rw [decide_eq_false_iff_not]
      intro h2
      exact e (List.cons.inj h2).1
theorem eqByteS_f (xs ys : List Int) (hx : xs.length ≤ 140737488351232) {k : Nat} (hk : xs.length < k) : laws_eqByteS.f k xs ys = some (decide (xs = ys)) := by
  unfold laws_eqByteS.f
  by_cases h : xs.length = ys.length
  · rw [if_pos (by omega)]
    have := eqByteS_l0 xs ys h.symm hx xs.length k 0 (by omega) (by omega) hk
    simpa using this
  · rw [if_neg (by omega)]
    congr 1
    symm
    rw [decide_eq_false_iff_not]
    intro e
    exact h (by rw [e])

theorem eqCellS_l0 (l : List S50) (hl : l.length ≤ 1048576) (hb : ∀ j : Nat, j < l.length → (rd_T50 l (j : Int)).f0.length ≤ 1048576) (d : Nat) : ∀ (k i : Nat), i + d = l.length → d + 1048577 < k → laws_eqCellS.l0 k l l (i : Int) = some true := by
  induction d with
  | zero =>
    intro k i hi hk
    obtain ⟨k, rfl⟩ : ∃ q, k = q + 1 := ⟨k - 1, by omega⟩
    rw [laws_eqCellS.l0, if_neg (by omega)]
  | succ d ih =>
    intro k i hi hk
    obtain ⟨k, rfl⟩ : ∃ q, k = q + 1 := ⟨k - 1, by omega⟩
    have hbi := hb i (by omega)
    have hc : laws_eqCell.f k (rd_T50 l (i : Int)).f0 (rd_T50 l (i : Int)).f0 = some true := by
      unfold laws_eqCell.f
      rw [eqByteS_f _ _ (by omega) (by omega), decide_eq_true rfl, Option.bind_some, if_pos rfl]
    rw [laws_eqCellS.l0, if_pos (by omega), if_pos (by omega), if_pos (by omega), hc, Option.bind_some, if_pos rfl, w64 (by omega) (by omega)]
    exact ih k (i + 1) (by omega) (by omega)
theorem eqTouchS_l0 (l : List S59) (hl : l.length ≤ 1048576) (d : Nat) : ∀ (k i : Nat), i + d = l.length → d < k → laws_eqTouchS.l0 k l l (i : Int) = some true := by
  induction d with
  | zero =>
    intro k i hi hk
    obtain ⟨k, rfl⟩ : ∃ q, k = q + 1 := ⟨k - 1, by omega⟩
    rw [laws_eqTouchS.l0, if_neg (by omega)]
  | succ d ih =>
    intro k i hi hk
    obtain ⟨k, rfl⟩ : ∃ q, k = q + 1 := ⟨k - 1, by omega⟩
    rw [laws_eqTouchS.l0, if_pos (by omega), if_pos (by omega), if_pos (by omega), laws_eqTouch.f, if_pos rfl, if_pos rfl, if_pos rfl, Option.bind_some, if_pos rfl, w64 (by omega) (by omega)]
    exact ih k (i + 1) (by omega) (by omega)
theorem eqMem_f (a0 : Int) (cs : List S50) (ts : List S59) (h1 : cs.length ≤ 1048576) (h2 : ts.length ≤ 1048576) (hb : ∀ j : Nat, j < cs.length → (rd_T50 cs (j : Int)).f0.length ≤ 1048576) {k : Nat} (hk : 2097160 < k) :
    laws_eqMem.f k a0 cs ts a0 cs ts = some true := by
  have e1 : laws_eqCellS.l0 k cs cs 0 = some true := eqCellS_l0 cs h1 hb cs.length k 0 (by omega) (by omega)
  have e2 : laws_eqTouchS.l0 k ts ts 0 = some true := eqTouchS_l0 ts h2 ts.length k 0 (by omega) (by omega)
  unfold laws_eqMem.f laws_eqCellS.f laws_eqTouchS.f
  rw [if_pos rfl, if_pos rfl, e1, Option.bind_some, if_pos rfl, if_pos rfl, e2, Option.bind_some, if_pos rfl]


end Go.Proofs.Ytoceiaaigiflpaa.Pure
