/- The functions that the law FnMemBook reaches, as plain Lean functions, and the walks that show that Go comes to their answers; part 5. Its lines are the print's, turned where Lean refused them. -/
import Derived.Test.YtoceiaaigiflpaaDoorQFnMemBookx0
import Derived.Test.YtoceiaaigiflpaaDoorQFnMemBookx2
import Derived.Test.YtoceiaaigiflpaaDoorQFnMemBookx3
import Derived.Test.YtoceiaaigiflpaaDoorQFnMemBookx4
namespace Go.Proofs.YtoceiaaigiflpaaDoor.PFnMemBook
open Go.RowKit Go.Proofs.YtoceiaaigiflpaaDoorW.PrintWords Go.Proofs.YtoceiaaigiflpaaDoorW.PrintLast Go.Proofs.YtoceiaaigiflpaaDoorW.PrintMore
attribute [local go_sem] max2_int min2_int max_two min_two max_three min_three max_four min_four   -- for this text's walks alone
set_option linter.unusedVariables false
set_option linter.unusedSimpArgs false

/-! ### impl_MemWrite: function 8 -/
namespace Mm
open Go.Proofs.YtoceiaaigiflpaaDoor.L
theorem within_f (a b c : Int) : impl_within.f a b c = some (decide (b ≤ a ∧ a ≤ c)) := by
 unfold impl_within.f
 by_cases h : a ≥ b
 ·rw [if_pos h]; congr 1; rw [decide_eq_decide]; omega
 ·rw [if_neg h]; congr 1; symm; rw [decide_eq_false_iff_not]; omega
theorem rd_cell {l : List S56} {i : Nat} (h : i < l.length) : rd_T56 l (i : Int) = l[i] := by unfold rd_T56; rw [Int.toNat_natCast, List.getD_eq_getElem?_getD]; simp [h]
theorem rd_touch {l : List S35} {i : Nat} (h : i < l.length) : rd_T35 l (i : Int) = l[i] := by unfold rd_T35; rw [Int.toNat_natCast, List.getD_eq_getElem?_getD]; simp [h]
/-- an access of the log is in range -/
def touchOk (a0 : Int) (n : Nat) (t : S35) : Bool := decide ((t.f0 = 1 ∨ t.f0 = 2) ∧ 0 ≤ t.f1 ∧ t.f1 < (n : Int) ∧ t.f2 = a0)
def cellOk (a0 : Int) (c : S56) : Bool := decide ((c.f0.length : Int) = a0)
/-- a memory of the document's fourth chapter -/
def memB (a0 : Int) (cs : List S56) (ts : List S35) : Bool := decide (1 ≤ a0 ∧ a0 ≤ 1000 ∧ cs.length ≤ 128 ∧ ts.length ≤ 6000) && (cs.all (cellOk a0) && ts.all (touchOk a0 cs.length))
theorem all_from {α : Type} (p : α → Bool) {l : List α} {i : Nat} (h : i < l.length) : (l.drop i).all p = (p l[i] && (l.drop (i + 1)).all p) := by rw [List.drop_eq_getElem_cons h, List.all_cons]
theorem impl_isMem_l0 (a0 : Int) (cs : List S56) (ts : List S35) (hc : cs.length ≤ 128) (ht : ts.length ≤ 6000) (d : Nat) : ∀ (k i : Nat), i + d = ts.length → d < k →
  impl_isMem.l0 k ts (ts.length : Int) (i : Int) a0 cs ts = some (cs.all (cellOk a0) && (ts.drop i).all (touchOk a0 cs.length)) := by
 induction d with
 | zero =>
  intro k i hi hk
  obtain ⟨k, rfl⟩ : ∃ q, k = q + 1 := ⟨k - 1, by omega⟩
  rw [impl_isMem.l0, if_neg (by omega), List.drop_eq_nil_of_le (by omega), impl_Cell_30.f, Option.bind_some, Bool.not_not, List.all_nil, Bool.and_true]
  rfl
 | succ d ih =>
  intro k i hi hk
  obtain ⟨k, rfl⟩ : ∃ q, k = q + 1 := ⟨k - 1, by omega⟩
  have h := ih k (i + 1) (by omega) (by omega)
  have hl : i < ts.length := by omega
  rw [impl_isMem.l0, if_pos (by omega), if_pos (by omega), if_pos (by omega), rd_touch hl, all_from _ hl, within_f, Option.bind_some, within_f, w64 (n := (i : Int) + 1) (by omega) (by omega), w64 (n := (cs.length : Int) - 1) (by omega) (by omega), show ((i : Int) + 1) = ((i + 1 : Nat) : Int) from rfl, h]
  generalize ts[i] = t
  by_cases h1 : 1 ≤ t.f0 ∧ t.f0 ≤ 2
  ·rw [if_pos (decide_eq_true h1), Option.bind_some]
   by_cases h2 : 0 ≤ t.f1 ∧ t.f1 ≤ (cs.length : Int) - 1
   ·rw [if_pos (decide_eq_true h2)]
    by_cases h3 : t.f2 = a0
    ·have hf : touchOk a0 cs.length t = true := by unfold touchOk; rw [decide_eq_true_iff]; omega
     rw [if_pos h3, hf, Bool.true_and]
    ·have hf : touchOk a0 cs.length t = false := by unfold touchOk; rw [decide_eq_false_iff_not]; omega
     rw [if_neg h3, hf, Bool.false_and, Bool.and_false]
   ·have hf : touchOk a0 cs.length t = false := by unfold touchOk; rw [decide_eq_false_iff_not]; omega
    rw [if_neg (by simpa using h2), hf, Bool.false_and, Bool.and_false]
  ·have hf : touchOk a0 cs.length t = false := by unfold touchOk; rw [decide_eq_false_iff_not]; omega
   rw [if_neg (by simpa using h1), hf, Bool.false_and, Bool.and_false]
theorem impl_isMem_f (a0 : Int) (cs : List S56) (ts : List S35) {k : Nat} (hk : 6200 < k) : impl_isMem.f k a0 cs ts = some (memB a0 cs ts) := by
 obtain ⟨k, rfl⟩ : ∃ q, k = q + 1 := ⟨k - 1, by omega⟩
 have hj : ∀ z, impl_isMem.j0 (k + 1) true z cs ts = some false := fun z => by rw [impl_isMem.j0, if_pos rfl]
 have hn : ¬ (1 ≤ a0 ∧ a0 ≤ 1000 ∧ cs.length ≤ 128 ∧ ts.length ≤ 6000) → memB a0 cs ts = false := fun h => by unfold memB; rw [decide_eq_false h, Bool.false_and]
 unfold impl_isMem.f
 rw [within_f, Option.bind_some]
 by_cases h1 : 1 ≤ a0 ∧ a0 ≤ 1000
 ·rw [if_pos (decide_eq_true h1)]
  by_cases h3 : (cs.length : Int) > 128
  ·rw [if_pos h3, hj, hn (by omega)]
  ·rw [if_neg h3]
   by_cases h4 : (ts.length : Int) > 6000
   ·rw [decide_eq_true h4, hj, hn (by omega)]
   ·have h := impl_isMem_l0 a0 cs ts (by omega) (by omega) ts.length k 0 (by omega) (by omega)
    rw [decide_eq_false h4, impl_isMem.j0, if_neg (by decide)]
    unfold memB
    rw [decide_eq_true (by omega), Bool.true_and]
    exact h
 ·rw [if_neg (by simpa using h1), hj, hn (by omega)]
theorem memB_bounds {a0 : Int} {cs : List S56} {ts : List S35} (h : memB a0 cs ts = true) : 1 ≤ a0 ∧ a0 ≤ 1000 ∧ cs.length ≤ 128 ∧ ts.length ≤ 6000 := by
 unfold memB at h
 rw [Bool.and_eq_true, decide_eq_true_iff] at h
 exact h.1
theorem memB_all {a0 : Int} {cs : List S56} {ts : List S35} (h : memB a0 cs ts = true) : ∀ c ∈ cs, c.f0.length ≤ 1000 := by
 intro c hc
 have hb := memB_bounds h
 unfold memB at h
 rw [Bool.and_eq_true, Bool.and_eq_true, List.all_eq_true] at h
 have h1 := h.2.1 c hc
 unfold cellOk at h1
 rw [decide_eq_true_iff] at h1
 omega
theorem memB_cell {a0 : Int} {cs : List S56} {ts : List S35} (h : memB a0 cs ts = true) {n : Nat} (hn : n < cs.length) : (cs.getD n z56).f0.length ≤ 1000 := by
 rw [List.getD_eq_getElem?_getD, List.getElem?_eq_getElem hn]
 exact memB_all h _ (List.getElem_mem hn)
/-- what a read, a write gives -/
def memReadF (a0 : Int) (cs : List S56) (ts : List S35) (a1 : Int) : Int × List S56 × List S35 × List Int × Int :=
 if memB a0 cs ts = true then (if 0 ≤ a1 ∧ a1 < (cs.length : Int) then (if ts.length = 6000 then (0, [], [], [], 4) else (a0, cs, ts ++ [⟨1, a1, a0⟩], (cs.getD a1.toNat z56).f0, 0)) else (0, [], [], [], 2)) else (0, [], [], [], 1)
def memWriteF (a0 : Int) (cs : List S56) (ts : List S35) (a1 : Int) (xs : List Int) : Int × List S56 × List S35 × Int :=
 if memB a0 cs ts = true then (if 0 ≤ a1 ∧ a1 < (cs.length : Int) then (if (xs.length : Int) = a0 then (if ts.length = 6000 then (0, [], [], 4) else (a0, cs.set a1.toNat ⟨xs⟩, ts ++ [⟨2, a1, a0⟩], 0)) else (0, [], [], 3)) else (0, [], [], 2)) else (0, [], [], 1)
theorem cloneMem_l0 (a0 : Int) (cs : List S56) (ts : List S35) (hc : cs.length ≤ 128) (hb : ∀ c ∈ cs, c.f0.length ≤ 1000) (d : Nat) : ∀ (k i : Nat), i + d = cs.length → d < k →
  impl_cloneMem.l0 k cs (cs.length : Int) (i : Int) a0 (cs.take i) ts = some (a0, cs, ts) := by
 induction d with
 | zero =>
  intro k i hi hk
  obtain ⟨k, rfl⟩ : ∃ q, k = q + 1 := ⟨k - 1, by omega⟩
  rw [impl_cloneMem.l0, if_neg (by omega), List.take_of_length_le (by omega)]
 | succ d ih =>
  intro k i hi hk
  obtain ⟨k, rfl⟩ : ∃ q, k = q + 1 := ⟨k - 1, by omega⟩
  have h := ih k (i + 1) (by omega) (by omega)
  have hl : i < cs.length := by omega
  have hb1 := hb _ (List.getElem_mem hl)
  rw [impl_cloneMem.l0, if_pos (by omega), if_pos (by omega), if_pos (by omega), rd_cell hl, bytes_Clone.f, if_pos (by omega), Option.bind_some, if_pos (by rw [List.length_take]; omega), w64 (by omega) (by omega), ← List.take_succ_eq_append_getElem hl]
  exact h
theorem cloneMem_f (a0 : Int) (cs : List S56) (ts : List S35) (hc : cs.length ≤ 128) (ht : ts.length ≤ 6000) (hb : ∀ c ∈ cs, c.f0.length ≤ 1000) {k : Nat} (hk : 130 < k) : impl_cloneMem.f k a0 cs ts = some (a0, cs, ts) := by
 unfold impl_cloneMem.f
 rw [impl_Touch.f, if_pos (by omega), Option.bind_some]
 exact cloneMem_l0 a0 cs ts hc hb cs.length k 0 (by omega) (by omega)

set_option maxHeartbeats 8000000 in
set_option maxRecDepth 100000 in
theorem memWrite_calls (a0 : Int) (cs : List S56) (ts : List S35) (at_ : Nat) (hat : at_ < cs.length) (hlg : ts.length ≤ 1000000) (g : Nat) (A1 : Option Addr) (c1 : Nat) (D : Option Addr) (d : Nat) (B : Option Addr) (b : Nat) (xs : List Int) (hxs : xs.length < 140737488355328) (w0 w : World) (hB : Below w0.heap.size w0 w) (hge : w0.heap.size ≤ g)
  (hbk : w.heap[g]? = some (.cells #[.int .i64 a0, .slice A1 cs.length c1, .slice D ts.length d] 28 (0, 0))) (hS : Kd.S k56 56 w w0.heap.size (fun _ => True) (.slice A1 cs.length c1) cs) (hX : Kd.C (Kd.int .u8) w0 B xs.length xs) (hxb : xs.length ≤ b) (hR : Kd.R k35 35 w w0.heap.size (fun _ => True) (.slice D ts.length d) ts) :
  Calls Tryd.prog 22 #[.pointer (some ⟨g, 0, none⟩), .int .i64 (at_ : Int), .slice B xs.length b] w fun e w' => ∃ (D2 : Option Addr) (d2 : Nat), e = .returned (.tuple #[]) ∧ w'.heap[g]? = some (.cells #[.int .i64 a0, .slice A1 cs.length c1, .slice D2 (ts.length + 1) d2] 28 (0, 0)) ∧ Kd.S k56 56 w' w0.heap.size (fun _ => True) (.slice A1 cs.length c1) (cs.set at_ ⟨xs⟩) ∧ Kd.R k35 35 w' w0.heap.size (fun _ => True) (.slice D2 (ts.length + 1) d2) (ts ++ [(⟨2, (at_ : Int), a0⟩ : S35)]) ∧ Below w0.heap.size w0 w' ∧ (∀ (k : Nat) (ce : Array Value) (t : Nat), k ≠ g → t ≠ 35 → t ≠ 56 → w.heap[k]? = some (.cells ce t (0, 0)) → w'.heap[k]? = some (.cells ce t (0, 0))) := by
 have hu25 := Tryd.underlying28
 have hu50 := Tryd.underlying56
 obtain ⟨gr, cap, e, gb, gl, cl, HG0⟩ := Kd.S_form hS (by omega)
 injection e with e1 e2 e3
 subst e1
 subst e3
 have HB := Aside0.mk hB
 have BK := Aside0.mk hbk
 have HS := Aside0.mk hS
 have HR := Aside0.mk hR
 have HLG := Aside0.mk hlg
 have HGE := Aside0.mk hge
 have HAT := Aside0.mk hat
 have HO : Aside0 (∀ (k : Nat) (ce : Array Value) (t : Nat), k ≠ g → t ≠ 35 → t ≠ 56 → w.heap[k]? = some (.cells ce t (0, 0)) → w.heap[k]? = some (.cells ce t (0, 0))) := ⟨fun _ _ _ _ _ _ h => h⟩
 clear hB hbk hS hR hlg hge hat e2 gb gl cl HG0
 have HX := Aside0.mk hX
 have HXB := Aside0.mk hxb
 have HXS := Aside0.mk hxs
 clear hX hxb hxs
 go_enter Tryd.func22, Tryd.ntmps22
 try go_wp2
 have n0_ := Aside0.mk (blk_drew BK.out)
 have n1_ := Aside0.mk (below_drew1 HB.out)
 have n2_ := Aside0.mk (Kd.S_drew HS.out)
 have n3_ := Aside0.mk (Kd.R_drew HR.out)
 have n4_ := Aside0.mk (fun (k : Nat) (ce : Array Value) (t : Nat) (hk : k ≠ g) (ht : t ≠ 35) (hc : t ≠ 56) h => blk_drew (HO.out k ce t hk ht hc h))
 clear BK HB HS HR HO
 have BK := n0_
 have HB := n1_
 have HS := n2_
 have HR := n3_
 have HO := n4_
 clear n0_ n1_ n2_ n3_ n4_
 refine start_ (n := 16) (S := fun w' => w'.cell? ⟨g, 0, none⟩ = some (.int .i64 a0) ∧ w'.cell? ⟨g, 1, none⟩ = some (.slice (some ⟨gr, 0, none⟩) cs.length c1) ∧ w'.cell? ⟨g, 2, none⟩ = some (.slice D ts.length d)) (ds := [15]) #[false, false, false, false, false, false, false, false, false, false, false, false, false, false, false, false] (by kernel_rfl) rfl rfl ⟨(blk_cell BK.out 0).trans rfl, (blk_cell BK.out 1).trans rfl, (blk_cell BK.out 2).trans rfl⟩ (fun hHeld => ?_)
 generalize w.drew = w5 at BK HB HS HR HO hHeld ⊢
 refine pure_ (i := 0) (N := some 6) (v := ?_) (a' := ?_) #[true, false, false, false, false, false, false, false, false, false, false, false, false, false, false, false] rfl rfl (by kernel_rfl) (fun _ _ _ h => h) (Or.inl ⟨by rfl, ?_⟩) ?_ ?_
 rotate_left
 ·intro w'
  go_simp
  with_reducible rfl
 rotate_left
 ·simp only [Act.put, List.setIfInBounds_toArray, List.set_cons_zero, List.set_cons_succ, i64_w, i32_w]
  rfl
 refine pure_ (i := 1) (N := some 7) (v := ?_) (a' := ?_) #[true, true, false, false, false, false, false, false, false, false, false, false, false, false, false, false] rfl rfl (by kernel_rfl) (fun _ _ _ h => h) (Or.inl ⟨by rfl, ?_⟩) ?_ ?_
 rotate_left
 ·intro w'
  go_simp
  with_reducible rfl
 rotate_left
 ·simp only [Act.put, List.setIfInBounds_toArray, List.set_cons_zero, List.set_cons_succ, i64_w, i32_w]
  rfl
 refine pure_ (i := 2) (N := some 8) (v := ?_) (a' := ?_) #[true, true, true, false, false, false, false, false, false, false, false, false, false, false, false, false] rfl rfl (by kernel_rfl) (fun _ _ _ h => h) (Or.inl ⟨by rfl, ?_⟩) ?_ ?_
 rotate_left
 ·intro w'
  go_simp
  with_reducible rfl
 rotate_left
 ·simp only [Act.put, List.setIfInBounds_toArray, List.set_cons_zero, List.set_cons_succ, i64_w, i32_w]
  rfl
 refine pure_ (i := 3) (N := some 9) (v := ?_) (a' := ?_) #[true, true, true, true, false, false, false, false, false, false, false, false, false, false, false, false] rfl rfl (by kernel_rfl) (fun _ _ _ h => h) (Or.inl ⟨by rfl, ?_⟩) ?_ ?_
 rotate_left
 ·intro w'
  go_simp
  with_reducible rfl
 rotate_left
 ·simp only [Act.put, List.setIfInBounds_toArray, List.set_cons_zero, List.set_cons_succ, i64_w, i32_w]
  rfl
 refine pure_ (i := 5) (N := some 11) (v := ?_) (a' := ?_) #[true, true, true, true, false, true, false, false, false, false, false, false, false, false, false, false] rfl rfl (by kernel_rfl) (fun _ _ _ h => h) (Or.inl ⟨by rfl, ?_⟩) ?_ ?_
 rotate_left
 ·intro w'
  go_simp
  with_reducible rfl
 rotate_left
 ·simp only [Act.put, List.setIfInBounds_toArray, List.set_cons_zero, List.set_cons_succ, i64_w, i32_w]
  rfl
 refine pure_ (i := 6) (N := some 12) (v := ?_) (a' := ?_) #[true, true, true, true, false, true, true, false, false, false, false, false, false, false, false, false] rfl rfl (by kernel_rfl) (fun _ _ _ h => h) (Or.inl ⟨by rfl, ?_⟩) ?_ ?_
 rotate_left
 ·intro w'
  go_simp
  with_reducible rfl
 rotate_left
 ·simp only [Act.put, List.setIfInBounds_toArray, List.set_cons_zero, List.set_cons_succ, i64_w, i32_w]
  rfl
 refine pure_ (i := 7) (N := some 13) (v := ?_) (a' := ?_) #[true, true, true, true, false, true, true, true, false, false, false, false, false, false, false, false] rfl rfl (by kernel_rfl) (fun _ _ _ h => h) (Or.inl ⟨by rfl, ?_⟩) ?_ ?_
 rotate_left
 ·intro w'
  go_simp
  with_reducible rfl
 rotate_left
 ·simp only [Act.put, List.setIfInBounds_toArray, List.set_cons_zero, List.set_cons_succ, i64_w, i32_w]
  rfl
 refine pure_ (i := 8) (N := some 14) (v := ?_) (a' := ?_) #[true, true, true, true, false, true, true, true, true, false, false, false, false, false, false, false] rfl rfl (by kernel_rfl) (fun _ _ _ h => h) (Or.inl ⟨by rfl, ?_⟩) ?_ ?_
 rotate_left
 ·intro w'
  go_simp
  with_reducible rfl
 rotate_left
 ·simp only [Act.put, List.setIfInBounds_toArray, List.set_cons_zero, List.set_cons_succ, i64_w, i32_w]
  rfl
 refine take_ (i := 4) (N := some 10) (v := ?_) (a' := ?_) #[true, true, true, true, true, true, true, true, true, false, false, false, false, false, false, false] rfl rfl (by kernel_rfl) (fun _ _ _ h => h) (Or.inl ⟨by rfl, ?_⟩) hHeld ?_ ?_
 rotate_left
 ·rintro w' ⟨s0, s1, s2⟩
  go_simp
  with_reducible rfl
 rotate_left
 ·simp only [Act.put, List.setIfInBounds_toArray, List.set_cons_zero, List.set_cons_succ, i64_w, i32_w]
  rfl
 refine take_ (i := 9) (N := some 15) (v := ?_) (a' := ?_) #[true, true, true, true, true, true, true, true, true, true, false, false, false, false, false, false] rfl rfl (by kernel_rfl) (fun _ _ _ h => h) (Or.inl ⟨by rfl, ?_⟩) hHeld ?_ ?_
 rotate_left
 ·rintro w' ⟨s0, s1, s2⟩
  go_simp
  with_reducible rfl
 rotate_left
 ·simp only [Act.put, List.setIfInBounds_toArray, List.set_cons_zero, List.set_cons_succ, i64_w, i32_w]
  rfl
 refine pure_ (i := 10) (N := some 16) (v := ?_) (a' := ?_) #[true, true, true, true, true, true, true, true, true, true, true, false, false, false, false, false] rfl rfl (by kernel_rfl) (fun _ _ _ h => h) (Or.inl ⟨by rfl, ?_⟩) ?_ ?_
 rotate_left
 ·intro w'
  go_simp
  with_reducible rfl
 rotate_left
 ·simp only [Act.put, List.setIfInBounds_toArray, List.set_cons_zero, List.set_cons_succ, i64_w, i32_w]
  rfl
 refine one_ (i := 11) (N := some 17) #[true, true, true, true, true, true, true, true, true, true, true, true, false, false, false, false] rfl rfl (by kernel_rfl) (by decide) (fun K hK => ?_)
 refine value_ (w1 := ?_) (v := ?_) (by rfl) rfl ?_ ?_
 rotate_left 2
 ·go_simp
  constructor
  ·rfl
  ·rfl
 refine hK.out _ _ ⟨(blk_cell (blk_alloc BK.out _) 0).trans rfl, (blk_cell (blk_alloc BK.out _) 1).trans rfl, (blk_cell (blk_alloc BK.out _) 2).trans rfl⟩ (fun hHeld => ?_)
 clear hK K
 refine norm_ (a' := ?_) ?_ ?_
 rotate_left
 ·show Act.put _ (some 17) _ = _
  simp only [Act.put, List.setIfInBounds_toArray, List.set_cons_zero, List.set_cons_succ, i64_w, i32_w]
  rfl
 refine one_ (i := 12) (N := some 18) #[true, true, true, true, true, true, true, true, true, true, true, true, true, false, false, false] rfl rfl (by kernel_rfl) (by decide) (fun K hK => ?_)
 refine Kd.R_append_step k35 (w0 := w0) w0.heap.size (by rfl) (.tmp 10) (.tmp 17) 26 35 (.agg #[(.int .i64 0), (.int .i64 0), (.int .i64 0)]) 24 rfl Tryd.underlying26 info35 rfl (by decide) (by omega) (.slice D ts.length d) ts (⟨2, (at_ : Int), a0⟩ : S35) [.int .i64 2, .int .i64 (at_ : Int), .int .i64 a0] (fun _ => True) (fun _ => False) rfl rfl ?aP (fun _ h => h.elim) ?aF ?aO ?aB ?aS ?aL ?_
 (case aP => exact k35_mkM _ _ _ (⟨2, (at_ : Int), a0⟩ : S35))
 (case aF => exact (fun _ _ => trivial))
 (case aO => exact (by exact HR.out))
 (case aB => exact (by exact HB.out))
 (case aS => exact (below_size (by exact HB.out)))
 (case aL => have := HLG.out; omega)
 intro v200 w28 ho hb hg hat
 obtain ⟨D2, d2, eo2⟩ := Kd.R_slice ho
 subst eo2
 have n0_ := Aside0.mk (Kd.S_over' HS.out (Kd.R_typed HR.out) (by decide) hg)
 have n1_ := Aside0.mk (blk_grown BK.out hg (Kd.R_ne HR.out BK.out (by decide)))
 have n2_ := Aside0.mk hb
 have n3_ : Aside0 (Kd.R k35 35 w28 w0.heap.size (fun _ => True) (.slice D2 (ts.length + 1) d2) (ts ++ [(⟨2, (at_ : Int), a0⟩ : S35)])) := ⟨by have h_ := ho; rw [List.length_append] at h_; exact h_⟩
 have n4_ := Aside0.mk (fun (k : Nat) (ce : Array Value) (t : Nat) (hk : k ≠ g) (ht : t ≠ 35) (hc : t ≠ 56) h => blk_grown (HO.out k ce t hk ht hc h) hg (Kd.R_ne HR.out (HO.out k ce t hk ht hc h) (Ne.symm ht)))
 clear HS BK HB HR HO ho hb hg hat
 have HS := n0_
 have BK := n1_
 have HB := n2_
 have HR := n3_
 have HO := n4_
 clear n0_ n1_ n2_ n3_ n4_
 simp only [List.length_append, List.length_singleton]
 refine hK.out _ _ ⟨(blk_cell BK.out 0).trans rfl, (blk_cell BK.out 1).trans rfl, (blk_cell BK.out 2).trans rfl⟩ (fun hHeld => ?_)
 clear hK K
 refine norm_ (a' := ?_) ?_ ?_
 rotate_left
 ·show Act.put _ (some 18) _ = _
  simp only [Act.put, List.setIfInBounds_toArray, List.set_cons_zero, List.set_cons_succ, i64_w, i32_w]
  rfl
 refine pure_ (i := 13) (N := some 19) (v := ?_) (a' := ?_) #[true, true, true, true, true, true, true, true, true, true, true, true, true, true, false, false] rfl rfl (by kernel_rfl) (fun _ _ _ h => h) (Or.inl ⟨by rfl, ?_⟩) ?_ ?_
 rotate_left
 ·intro w'
  go_simp
  with_reducible rfl
 rotate_left
 ·simp only [Act.put, List.setIfInBounds_toArray, List.set_cons_zero, List.set_cons_succ, i64_w, i32_w]
  rfl
 refine pure_ (i := 14) (N := some 20) (v := ?_) (a' := ?_) #[true, true, true, true, true, true, true, true, true, true, true, true, true, true, true, false] rfl rfl (by kernel_rfl) (fun _ _ _ h => h) (Or.inl ⟨by rfl, ?_⟩) ?_ ?_
 rotate_left
 ·intro w'
  go_simp
  with_reducible rfl
 rotate_left
 ·simp only [Act.put, List.setIfInBounds_toArray, List.set_cons_zero, List.set_cons_succ, i64_w, i32_w]
  rfl
 refine last_ (i := 15) (N := none) #[true, true, true, true, true, true, true, true, true, true, true, true, true, true, true, true] rfl rfl (by kernel_rfl) (by decide) (fun K hK => ?_)
 have hs30 : w28.cell? ⟨g, 2, none⟩ = some (.slice D ts.length d) := (blk_cell BK.out 2).trans rfl
 have hfs30 := blk_frozen BK.out 2
 refine skip_ (w1 := ?_) (by rfl) rfl ?_ ?_
 rotate_left
 ·go_simp
  rfl
 refine hK.out _ _ ?_
 clear hK K
 refine done_ (by kernel_rfl) ?_
 have n0_ := Aside0.mk (blk_put BK.out 2 (.slice D2 (ts.length + 1) d2) rfl)
 have n1_ := Aside0.mk (below_set HB.out HGE.out (j := 2) (v := .slice D2 (ts.length + 1) d2))
 have n2_ := Aside0.mk (Kd.S_set HS.out BK.out (by decide) 2 (.slice D2 (ts.length + 1) d2))
 have n3_ := Aside0.mk (Kd.R_mono (Kd.R_far (p := ⟨g, 2, none⟩) (Kd.R_types HR.out BK.out (by decide)) (fun _ hk => hk.2) (.slice D2 (ts.length + 1) d2)) (fun _ h_ => h_.1))
 have n4_ := Aside0.mk (fun (k : Nat) (ce : Array Value) (t : Nat) (hk : k ≠ g) (ht : t ≠ 35) (hc : t ≠ 56) h => blk_far (HO.out k ce t hk ht hc h) hk (p := ⟨g, 2, none⟩) (.slice D2 (ts.length + 1) d2))
 clear BK HB HS HR HO
 generalize w28.setCell ⟨g, 2, none⟩ (.slice D2 (ts.length + 1) d2) = w6 at n0_ n1_ n2_ n3_ n4_ ⊢
 have BK : Aside0 (w6.heap[g]? = some (.cells #[.int .i64 a0, .slice (some ⟨gr, 0, none⟩) cs.length c1, .slice D2 (ts.length + 1) d2] 28 (0, 0))) := ⟨n0_.out⟩
 have HB := n1_
 have HS := n2_
 have HR := n3_
 have HO := n4_
 clear n0_ n1_ n2_ n3_ n4_
 try go_wp2
 have n0_ := Aside0.mk (blk_drew BK.out)
 have n1_ := Aside0.mk (below_drew1 HB.out)
 have n2_ := Aside0.mk (Kd.S_drew HS.out)
 have n3_ := Aside0.mk (Kd.R_drew HR.out)
 have n4_ := Aside0.mk (fun (k : Nat) (ce : Array Value) (t : Nat) (hk : k ≠ g) (ht : t ≠ 35) (hc : t ≠ 56) h => blk_drew (HO.out k ce t hk ht hc h))
 clear BK HB HS HR HO
 have BK := n0_
 have HB := n1_
 have HS := n2_
 have HR := n3_
 have HO := n4_
 clear n0_ n1_ n2_ n3_ n4_
 refine start_ (n := 10) (S := fun w' => w'.cell? ⟨g, 0, none⟩ = some (.int .i64 a0) ∧ w'.cell? ⟨g, 1, none⟩ = some (.slice (some ⟨gr, 0, none⟩) cs.length c1) ∧ w'.cell? ⟨g, 2, none⟩ = some (.slice D2 (ts.length + 1) d2)) (ds := [9]) #[false, false, false, false, false, false, false, false, false, false] (by kernel_rfl) rfl rfl ⟨(blk_cell BK.out 0).trans rfl, (blk_cell BK.out 1).trans rfl, (blk_cell BK.out 2).trans rfl⟩ (fun hHeld => ?_)
 generalize w6.drew = w7 at BK HB HS HR HO hHeld ⊢
 have p1 : (0 ≤ (at_ : Int)) = True := eq_true (Int.natCast_nonneg _)
 have p2 : ((at_ : Int) < (cs.length : Int)) = True := eq_true (by have := HAT.out; omega)
 have p3 : (at_ < cs.length) = True := eq_true HAT.out
 refine pure_ (i := 0) (N := some 21) (v := ?_) (a' := ?_) #[true, false, false, false, false, false, false, false, false, false] rfl rfl (by kernel_rfl) (fun _ _ _ h => h) (Or.inl ⟨by rfl, ?_⟩) ?_ ?_
 rotate_left
 ·intro w'
  go_simp
  with_reducible rfl
 rotate_left
 ·simp only [Act.put, List.setIfInBounds_toArray, List.set_cons_zero, List.set_cons_succ, i64_w, i32_w]
  rfl
 refine pure_ (i := 1) (N := some 22) (v := ?_) (a' := ?_) #[true, true, false, false, false, false, false, false, false, false] rfl rfl (by kernel_rfl) (fun _ _ _ h => h) (Or.inl ⟨by rfl, ?_⟩) ?_ ?_
 rotate_left
 ·intro w'
  go_simp
  with_reducible rfl
 rotate_left
 ·simp only [Act.put, List.setIfInBounds_toArray, List.set_cons_zero, List.set_cons_succ, i64_w, i32_w]
  rfl
 refine pure_ (i := 2) (N := some 23) (v := ?_) (a' := ?_) #[true, true, true, false, false, false, false, false, false, false] rfl rfl (by kernel_rfl) (fun _ _ _ h => h) (Or.inl ⟨by rfl, ?_⟩) ?_ ?_
 rotate_left
 ·intro w'
  go_simp
  with_reducible rfl
 rotate_left
 ·simp only [Act.put, List.setIfInBounds_toArray, List.set_cons_zero, List.set_cons_succ, i64_w, i32_w]
  rfl
 refine pure_ (i := 4) (N := some 25) (v := ?_) (a' := ?_) #[true, true, true, false, true, false, false, false, false, false] rfl rfl (by kernel_rfl) (fun _ _ _ h => h) (Or.inl ⟨by rfl, ?_⟩) ?_ ?_
 rotate_left
 ·intro w'
  go_simp
  with_reducible rfl
 rotate_left
 ·simp only [Act.put, List.setIfInBounds_toArray, List.set_cons_zero, List.set_cons_succ, i64_w, i32_w]
  rfl
 refine pure_ (i := 5) (N := some 26) (v := ?_) (a' := ?_) #[true, true, true, false, true, true, false, false, false, false] rfl rfl (by kernel_rfl) (fun _ _ _ h => h) (Or.inl ⟨by rfl, ?_⟩) ?_ ?_
 rotate_left
 ·intro w'
  go_simp
  with_reducible rfl
 rotate_left
 ·simp only [Act.put, List.setIfInBounds_toArray, List.set_cons_zero, List.set_cons_succ, i64_w, i32_w]
  rfl
 refine take_ (i := 3) (N := some 24) (v := ?_) (a' := ?_) #[true, true, true, true, true, true, false, false, false, false] rfl rfl (by kernel_rfl) (fun _ _ _ h => h) (Or.inl ⟨by rfl, ?_⟩) hHeld ?_ ?_
 rotate_left
 ·rintro w' ⟨s0, s1, s2⟩
  go_simp
  with_reducible rfl
 rotate_left
 ·simp only [Act.put, List.setIfInBounds_toArray, List.set_cons_zero, List.set_cons_succ, i64_w, i32_w]
  rfl
 refine one_ (i := 6) (N := some 27) #[true, true, true, true, true, true, true, false, false, false] rfl rfl (by kernel_rfl) (by decide) (fun K hK => ?_)
 refine goes_ Tryd.func23 (by kernel_rfl) rfl #[.slice B xs.length b] (by rfl) rfl rfl (by simp only [List.map_toArray, List.map_cons, List.map_nil]; rfl) ?_
 with_reducible refine (bytes_Clone.calls B b xs xs _ (Kd.C_below HX.out HB.out) HXB.out (by unfold bytes_Clone.f; rw [if_pos HXS.out])).mono ?_
 rintro e w8 ⟨v8, rfl, ho0, hb⟩
 refine ⟨_, rfl, ?_⟩
 obtain ⟨A3, c3, rfl⟩ := Kd.R_slice ho0
 have n0_ := Aside0.mk (Kd.S_elder' HS.out (Kd.R_base ho0) hb)
 have n1_ := Aside0.mk (Kd.R_below HR.out hb)
 have n2_ := Aside0.mk ((Below.block hb _ (blk_lt BK.out)).trans BK.out)
 have n3_ := Aside0.mk (Kd.R_lower ho0 (below_size HB.out))
 have n4_ := Aside0.mk (below_step HB.out hb)
 have n5_ := Aside0.mk (Kd.R_base ho0)
 have n6_ := Aside0.mk (Kd.S_lt HS.out gr rfl)
 have n7_ := Aside0.mk (fun (k : Nat) (ce : Array Value) (t : Nat) (hk : k ≠ g) (ht : t ≠ 35) (hc : t ≠ 56) h => (Below.block hb _ (blk_lt (HO.out k ce t hk ht hc h))).trans (HO.out k ce t hk ht hc h))
 clear HS HR BK HB HO ho0 hb
 have HO := n7_
 clear n7_
 have HS := n0_
 have HR := n1_
 have BK := n2_
 have HV := n3_
 have HB := n4_
 clear n0_ n1_ n2_ n3_ n4_
 refine hK.out _ _ ⟨(blk_cell BK.out 0).trans rfl, (blk_cell BK.out 1).trans rfl, (blk_cell BK.out 2).trans rfl⟩ (fun hHeld => ?_)
 clear hK K
 refine norm_ (a' := ?_) ?_ ?_
 rotate_left
 ·show Act.put _ (some 27) _ = _
  simp only [Act.put, List.setIfInBounds_toArray, List.set_cons_zero, List.set_cons_succ, i64_w, i32_w]
  rfl
 refine pure_ (i := 7) (N := some 28) (v := ?_) (a' := ?_) #[true, true, true, true, true, true, true, true, false, false] rfl rfl (by kernel_rfl) (fun _ _ _ h => h) (Or.inl ⟨by rfl, ?_⟩) ?_ ?_
 rotate_left
 ·intro w'
  go_simp
  with_reducible rfl
 rotate_left
 ·simp only [Act.put, List.setIfInBounds_toArray, List.set_cons_zero, List.set_cons_succ, i64_w, i32_w]
  rfl
 refine pure_ (i := 8) (N := some 29) (v := ?_) (a' := ?_) #[true, true, true, true, true, true, true, true, true, false] rfl rfl (by kernel_rfl) (fun _ _ _ h => h) (Or.inl ⟨by rfl, ?_⟩) ?_ ?_
 rotate_left
 ·intro w'
  go_simp
  with_reducible rfl
 rotate_left
 ·simp only [Act.put, List.setIfInBounds_toArray, List.set_cons_zero, List.set_cons_succ, i64_w, i32_w]
  rfl
 refine last_ (i := 9) (N := none) #[true, true, true, true, true, true, true, true, true, true] rfl rfl (by kernel_rfl) (by decide) (fun K hK => ?_)
 obtain ⟨oki, cc, hcl, hM, hcc, hoki, hH⟩ := Kd.S_lend HS.out z56 (at_ : Int) (Int.natCast_nonneg _) (by have := HAT.out; omega)
 obtain ⟨v9, rfl, hR9⟩ := k56_openM hM
 have hx0 : w8.cell? ⟨gr, at_, none⟩ = some v9 := by have h := hcc 0 _ rfl; rw [show ((at_ : Int).toNat * k56.sz + 0) = at_ from by show ((at_ : Int).toNat * 1 + 0) = at_; omega] at h; exact h
 have hfx0 : w8.frozen? ⟨gr, at_, none⟩ = false := by have h := (Kd.H_at hH (Int.natCast_nonneg _) (by have := HAT.out; omega)).2 0; rw [show ((at_ : Int).toNat * k56.sz + 0) = at_ from by show ((at_ : Int).toNat * 1 + 0) = at_; omega] at h; exact h
 have n7_ := Aside0.mk (Kd.S_seg (okg := fun k => some k = (Value.slice A3 xs.length c3).ownBlock) (okp := fun k => some k = (Value.slice A3 xs.length c3).ownBlock) hH (Int.natCast_nonneg _) (by have := HAT.out; omega) (seg := [.slice A3 xs.length c3]) (j := 0) (by show 0 + 1 ≤ 1; decide) (x' := (⟨xs⟩ : S56)) (k56_mkM _ _ _ ⟨xs⟩ (Kd.R_tight rfl HV.out)) (fun k hk => .inr hk) (fun k hk => ⟨trivial, fun he => by have h1 := n5_.out k hk.symm; have h2 := n6_.out; omega⟩))
 have n8_ : Aside0 (∃ q, w8.heap[gr]? = some q) := ⟨⟨_, (Array.getElem?_eq_getElem (by have h := Kd.S_lt HS.out gr rfl; exact h))⟩⟩
 have n9_ := Aside0.mk (Kd.S_base HS.out gr rfl)
 have n10_ := Aside0.mk (Kd.S_ne HS.out BK.out (by decide))
 have n11_ := Aside0.mk (Kd.R_over' HR.out (Kd.S_typed HS.out) (by decide) n7_.out.2)
 clear hcl hM hcc hoki hH hR9 HV
 refine skip_ (w1 := ?_) (by rfl) rfl ?_ ?_
 rotate_left
 ·go_simp
  rfl
 refine hK.out _ _ ?_
 clear hK K
 refine done_ (by kernel_rfl) ?_
 have hw : w8.setCells gr ((at_ : Int).toNat * k56.sz + 0) [.slice A3 xs.length c3] = w8.setCell ⟨gr, at_, none⟩ (.slice A3 xs.length c3) := by
  rw [show ((at_ : Int).toNat * k56.sz + 0) = at_ from by show ((at_ : Int).toNat * 1 + 0) = at_; omega]
  rfl
 have n7 := n7_.out
 have n11 := n11_.out
 rw [hw] at n7 n11
 rw [Int.toNat_natCast] at n7
 have hbk2 := blk_grown BK.out n7.2 (n10_.out)
 have hb2 := below_set HB.out n9_.out (j := at_) (v := .slice A3 xs.length c3)
 go_wp2
 refine bodyPost_end (results_none rfl _ _ _) rfl ?_
 exact ⟨D2, d2, by first | rfl | (simp; done), hbk2, n7.1, n11, hb2, fun k ce t hk ht hc h => blk_grown (HO.out k ce t hk ht hc h) n7.2 (Kd.S_ne HS.out (HO.out k ce t hk ht hc h) (Ne.symm hc))⟩

set_option maxHeartbeats 8000000 in
set_option maxRecDepth 100000 in
theorem implMemWrite_calls (a0 : Int) (A1 : Option Addr) (c1 : Nat) (cs : List S56) (A2 : Option Addr) (c2 : Nat) (ts : List S35) (a1 : Int) (A3 : Option Addr) (c3 : Nat) (xs : List Int) (w : World) (hr1 : Kd.C k56 w A1 cs.length cs) (hc1 : cs.length ≤ c1) (hr2 : Kd.C k35 w A2 ts.length ts) (hc2 : ts.length ≤ c2) (hr3 : Kd.C (Kd.int .u8) w A3 xs.length xs) (hc3 : xs.length ≤ c3) (hx3 : xs.length < 140737488355328) :
  Calls Tryd.prog 8 #[.agg #[.int .i64 a0, .slice A1 cs.length c1, .slice A2 ts.length c2], .int .i64 a1, .slice A3 xs.length c3] w fun e w' => ∃ v1_ v2_ : Value, e = .returned (.tuple #[.agg #[.int .i64 (memWriteF a0 cs ts a1 xs).1, v1_, v2_], .int .i64 (memWriteF a0 cs ts a1 xs).2.2.2]) ∧ Kd.S k56 56 w' w.heap.size (fun _ => True) v1_ (memWriteF a0 cs ts a1 xs).2.1 ∧ Kd.R k35 35 w' w.heap.size (fun _ => True) v2_ (memWriteF a0 cs ts a1 xs).2.2.1 ∧ Below w.heap.size w w' := by
 have hu25 := Tryd.underlying28
 have HR1 := Aside0.mk hr1
 have HC1 := Aside0.mk hc1
 have HR2 := Aside0.mk hr2
 have HC2 := Aside0.mk hc2
 have HB := Aside0.mk (Below.refl w.heap.size w)
 clear hr1 hc1 hr2 hc2
 have HR3 := Aside0.mk hr3
 have HC3 := Aside0.mk hc3
 have HX3 := Aside0.mk hx3
 clear hr3 hc3 hx3
 by_cases hm : memB a0 cs ts = true
 ·have hb := memB_bounds hm
  have AM := Aside0.mk (impl_isMem_f a0 cs ts (k := 6201) (by omega))
  rw [hm] at AM
  have hw64 : wrap64 ((cs.length : Int) - 1) = (cs.length : Int) - 1 := w64 (by omega) (by omega)
  by_cases hq : 0 ≤ a1 ∧ a1 < (cs.length : Int)
  ·have AQ : Aside0 (impl_within.f a1 0 (wrap64 ((cs.length : Int) - 1)) = some true) := ⟨by rw [within_f, hw64, decide_eq_true (by omega)]⟩
   by_cases hs : (xs.length : Int) = a0
   ·have cs0b1 : ((xs.length : Int) != a0) = false := bne_eq_false_iff_eq.mpr hs
    have cs0b0 : ((xs.length : Int) == a0) = true := beq_iff_eq.mpr hs
    by_cases hf : ts.length = 6000
    ·have hfb0 : ((ts.length : Int) == 6000) = true := beq_iff_eq.mpr (by omega)
     have hfb1 : ((ts.length : Int) != 6000) = false := bne_eq_false_iff_eq.mpr (by omega)
     clear hb hw64
     have hF : memWriteF a0 cs ts a1 xs = (0, [], [], 4) := by unfold memWriteF; rw [if_pos hm, if_pos hq, if_pos hs, if_pos hf]
     rw [hF]
     clear hF hf hs
     go_enter Tryd.func8, Tryd.ntmps8
     go_wp2_with (first | ((with_reducible refine gate_dst (N := 3) rfl ?_); (try (refine gate_guard (by rfl) ?_; dsimp only)); refine box_event ?hg (N := 3) ?hd (cs := #[.int .i64 a0, .slice A1 cs.length c1, .slice A2 ts.length c2]) (t := 28) ?hr ?_; (case hd => rfl); (case hg => rfl); (case hr => first | (go_simp; done) | (go_simp; rfl)); intro gb2 hg w62 hbox hb; have BK2 := Aside0.mk (hbox); have GE2 := Aside0.mk ((by rw [hg]; exact (below_size (by repeat first | exact HB.out | apply below_alloc | apply pw_below_drewN | apply below_drew1)) : w.heap.size ≤ gb2)); replace HB := Aside0.mk (below_step (by repeat first | exact HB.out | apply below_alloc | apply pw_below_drewN | apply below_drew1) hb); clear hb hbox hg; have hcz2_0 : w62.cell? ⟨gb2, 0, none⟩ = some (.int .i64 a0) := (blk_cell BK2.out 0).trans rfl; have hcz2_1 : w62.cell? ⟨gb2, 1, none⟩ = some (.slice A1 cs.length c1) := (blk_cell BK2.out 1).trans rfl; have hcz2_2 : w62.cell? ⟨gb2, 2, none⟩ = some (.slice A2 ts.length c2) := (blk_cell BK2.out 2).trans rfl) | ((with_reducible refine gate_dst (N := 6) rfl ?_); (try (refine gate_guard (by rfl) ?_; dsimp only)); refine box_event ?hg (N := 6) ?hd (cs := #[.int .i64 0, .slice none 0 0, .slice none 0 0]) (t := 28) ?hr ?_; (case hd => rfl); (case hg => rfl); (case hr => first | (go_simp; done) | (go_simp; rfl)); intro gb3 hg w63 hbox hb; have BK3 := Aside0.mk (hbox); have GE3 := Aside0.mk ((by rw [hg]; exact (below_size (by repeat first | exact HB.out | apply below_alloc | apply pw_below_drewN | apply below_drew1)) : w.heap.size ≤ gb3)); have NB2_3 := Aside0.mk ((by rw [hg]; exact Nat.ne_of_lt (blk_lt (g := gb2) (o := .cells #[.int .i64 a0, .slice A1 cs.length c1, .slice A2 ts.length c2] 28 (0, 0)) (by repeat first | exact BK2.out | apply blk_drewN | apply blk_drew | apply blk_alloc)) : gb2 ≠ gb3)); have NB3_2 := Aside0.mk (NB2_3.out.symm); replace BK2 := Aside0.mk (blk_below (g := gb2) (o := .cells #[.int .i64 a0, .slice A1 cs.length c1, .slice A2 ts.length c2] 28 (0, 0)) (by repeat first | exact BK2.out | apply blk_drewN | apply blk_drew | apply blk_alloc) hb); replace HB := Aside0.mk (below_step (by repeat first | exact HB.out | apply below_alloc | apply pw_below_drewN | apply below_drew1) hb); clear hb hbox hg; have hnb2_3 := NB2_3.out; have hnc3_2 := NB3_2.out; have hcz3_0 : w63.cell? ⟨gb3, 0, none⟩ = some (.int .i64 0) := (blk_cell BK3.out 0).trans rfl; have hcz3_1 : w63.cell? ⟨gb3, 1, none⟩ = some (.slice none 0 0) := (blk_cell BK3.out 1).trans rfl; have hcz3_2 : w63.cell? ⟨gb3, 2, none⟩ = some (.slice none 0 0) := (blk_cell BK3.out 2).trans rfl; have hfz3_0 := blk_frozen BK3.out 0; have hfz3_1 := blk_frozen BK3.out 1; have hfz3_2 := blk_frozen BK3.out 2; have hcy2_0 : w63.cell? ⟨gb2, 0, none⟩ = some (.int .i64 a0) := (blk_cell BK2.out 0).trans rfl; have hcy2_1 : w63.cell? ⟨gb2, 1, none⟩ = some (.slice A1 cs.length c1) := (blk_cell BK2.out 1).trans rfl; have hcy2_2 : w63.cell? ⟨gb2, 2, none⟩ = some (.slice A2 ts.length c2) := (blk_cell BK2.out 2).trans rfl) | ((with_reducible refine gate_callee (f := 20) rfl ?_); refine goesL_ (some 11) rfl rfl Tryd.func20 (by kernel_rfl) rfl #[.agg #[.int .i64 a0, .slice A1 cs.length c1, .slice A2 ts.length c2]] rfl (by (try simp only [List.map_toArray, List.map_cons, List.map_nil]); first | done | rfl) ?_; (with_reducible refine (impl_isMem.calls 6201 a0 _ _ cs _ _ ts true _ ?side1 ?side2 ?side3 ?side4 AM.out).mono ?_); (case side1 => (repeat (first | exact (Kd.C_below HR1.out HB.out) | (with_reducible refine Kd.C_alloc ?_ _) | (with_reducible refine Kd.C_drewN ?_ _) | (with_reducible refine Kd.C_drew ?_)))); (case side2 => exact HC1.out); (case side3 => (repeat (first | exact (Kd.C_below HR2.out HB.out) | (with_reducible refine Kd.C_alloc ?_ _) | (with_reducible refine Kd.C_drewN ?_ _) | (with_reducible refine Kd.C_drew ?_)))); (case side4 => exact HC2.out); rintro e w10 ⟨rfl, hb⟩; refine ⟨_, rfl, ?_⟩; replace BK2 := Aside0.mk (blk_below (g := gb2) (o := .cells #[.int .i64 a0, .slice A1 cs.length c1, .slice A2 ts.length c2] 28 (0, 0)) (by repeat first | exact BK2.out | apply blk_drewN | apply blk_drew | apply blk_alloc) hb); replace BK3 := Aside0.mk (blk_below (g := gb3) (o := .cells #[.int .i64 0, .slice none 0 0, .slice none 0 0] 28 (0, 0)) (by repeat first | exact BK3.out | apply blk_drewN | apply blk_drew | apply blk_alloc) hb); replace HB := Aside0.mk (below_step (by repeat first | exact HB.out | apply below_alloc | apply pw_below_drewN | apply below_drew1) hb); clear hb; have hcy2_0 : w10.cell? ⟨gb2, 0, none⟩ = some (.int .i64 a0) := (blk_cell BK2.out 0).trans rfl; have hcy2_1 : w10.cell? ⟨gb2, 1, none⟩ = some (.slice A1 cs.length c1) := (blk_cell BK2.out 1).trans rfl; have hcy2_2 : w10.cell? ⟨gb2, 2, none⟩ = some (.slice A2 ts.length c2) := (blk_cell BK2.out 2).trans rfl; have hcy3_0 : w10.cell? ⟨gb3, 0, none⟩ = some (.int .i64 0) := (blk_cell BK3.out 0).trans rfl; have hcy3_1 : w10.cell? ⟨gb3, 1, none⟩ = some (.slice none 0 0) := (blk_cell BK3.out 1).trans rfl; have hcy3_2 : w10.cell? ⟨gb3, 2, none⟩ = some (.slice none 0 0) := (blk_cell BK3.out 2).trans rfl; have hfy3_0 := blk_frozen BK3.out 0; have hfy3_1 := blk_frozen BK3.out 1; have hfy3_2 := blk_frozen BK3.out 2) | ((with_reducible refine gate_callee (f := 18) rfl ?_); refine goesL_ (some 20) rfl rfl Tryd.func18 (by kernel_rfl) rfl #[.int .i64 a1, .int .i64 0, .int .i64 (wrap64 ((cs.length : Int) - 1))] rfl (by (try simp only [List.map_toArray, List.map_cons, List.map_nil]); first | done | rfl) ?_; (with_reducible refine (impl_within.calls a1 0 (wrap64 ((cs.length : Int) - 1)) true _ AQ.out).mono ?_); rintro e w' ⟨rfl, ⟨nd, rfl⟩⟩; refine ⟨_, rfl, ?_⟩))
     refine bodyPost_ret (results_ct rfl _ _ gb3 28 #[.int .i64 0, .slice none 0 0, .slice none 0 0] (0, 0) _ rfl (by (with_reducible repeat (first | refine blk_drewN ?_ _ | refine blk_drew ?_ | refine blk_alloc ?_ _)); refine blk_put (cs := #[.int .i64 0, .slice none 0 0, .slice none 0 0]) ?_ 2 _ rfl; (with_reducible repeat (first | refine blk_drewN ?_ _ | refine blk_drew ?_ | refine blk_alloc ?_ _)); refine blk_put (cs := #[.int .i64 0, .slice none 0 0, .slice none 0 0]) ?_ 1 _ rfl; (with_reducible repeat (first | refine blk_drewN ?_ _ | refine blk_drew ?_ | refine blk_alloc ?_ _)); refine blk_put (cs := #[.int .i64 0, .slice none 0 0, .slice none 0 0]) ?_ 0 _ rfl; (with_reducible repeat (first | refine blk_drewN ?_ _ | refine blk_drew ?_ | refine blk_alloc ?_ _)); exact BK3.out) Tryd.underlying28 rfl (by kernel_rfl)) rfl ?_
     exact ⟨_, _, by first | rfl | (simp; done) | (simp [*]; done), by first | exact Kd.S_nil _ _ _ _ _ | exact Kd.R_nil _ _ _ _ _, by first | exact Kd.S_nil _ _ _ _ _ | exact Kd.R_nil _ _ _ _ _, by repeat (first | (with_reducible first | exact HB.out | apply below_alloc | apply pw_below_drewN | apply below_drew1 | refine below_set ?_ GE2.out | refine below_set ?_ GE3.out | refine below_set ?_ GE4.out) | exact HB.out)⟩
    ·have hfb0 : ((ts.length : Int) == 6000) = false := beq_eq_false_iff_ne.mpr (by omega)
     have hfb1 : ((ts.length : Int) != 6000) = true := bne_iff_ne.mpr (by omega)
     obtain ⟨n, rfl⟩ := Int.eq_ofNat_of_zero_le hq.1
     have AN : Aside0 (n < cs.length) := ⟨by omega⟩
     have AT : Aside0 (ts.length ≤ 1000000) := ⟨by omega⟩
     have AC := Aside0.mk (cloneMem_f a0 cs ts (k := 200) (by omega) (by omega) (memB_all hm) (by omega))
     have hF : memWriteF a0 cs ts (n : Int) xs = (a0, cs.set n ⟨xs⟩, ts ++ [⟨2, (n : Int), a0⟩], 0) := by unfold memWriteF; rw [if_pos hm, if_pos hq, if_pos hs, if_neg hf, Int.toNat_natCast]
     rw [hF]
     clear hF hb hw64 hf hs
     go_enter Tryd.func8, Tryd.ntmps8
     go_wp2_with (first | ((with_reducible refine gate_dst (N := 3) rfl ?_); (try (refine gate_guard (by rfl) ?_; dsimp only)); refine box_event ?hg (N := 3) ?hd (cs := #[.int .i64 a0, .slice A1 cs.length c1, .slice A2 ts.length c2]) (t := 28) ?hr ?_; (case hd => rfl); (case hg => rfl); (case hr => first | (go_simp; done) | (go_simp; rfl)); intro gb2 hg w62 hbox hb; have BK2 := Aside0.mk (hbox); have GE2 := Aside0.mk ((by rw [hg]; exact (below_size (by repeat first | exact HB.out | apply below_alloc | apply pw_below_drewN | apply below_drew1)) : w.heap.size ≤ gb2)); replace HB := Aside0.mk (below_step (by repeat first | exact HB.out | apply below_alloc | apply pw_below_drewN | apply below_drew1) hb); clear hb hbox hg; have hcz2_0 : w62.cell? ⟨gb2, 0, none⟩ = some (.int .i64 a0) := (blk_cell BK2.out 0).trans rfl; have hcz2_1 : w62.cell? ⟨gb2, 1, none⟩ = some (.slice A1 cs.length c1) := (blk_cell BK2.out 1).trans rfl; have hcz2_2 : w62.cell? ⟨gb2, 2, none⟩ = some (.slice A2 ts.length c2) := (blk_cell BK2.out 2).trans rfl) | ((with_reducible refine gate_dst (N := 6) rfl ?_); (try (refine gate_guard (by rfl) ?_; dsimp only)); refine box_event ?hg (N := 6) ?hd (cs := #[.int .i64 0, .slice none 0 0, .slice none 0 0]) (t := 28) ?hr ?_; (case hd => rfl); (case hg => rfl); (case hr => first | (go_simp; done) | (go_simp; rfl)); intro gb3 hg w63 hbox hb; have BK3 := Aside0.mk (hbox); have GE3 := Aside0.mk ((by rw [hg]; exact (below_size (by repeat first | exact HB.out | apply below_alloc | apply pw_below_drewN | apply below_drew1)) : w.heap.size ≤ gb3)); have NB2_3 := Aside0.mk ((by rw [hg]; exact Nat.ne_of_lt (blk_lt (g := gb2) (o := .cells #[.int .i64 a0, .slice A1 cs.length c1, .slice A2 ts.length c2] 28 (0, 0)) (by repeat first | exact BK2.out | apply blk_drewN | apply blk_drew | apply blk_alloc)) : gb2 ≠ gb3)); have NB3_2 := Aside0.mk (NB2_3.out.symm); replace BK2 := Aside0.mk (blk_below (g := gb2) (o := .cells #[.int .i64 a0, .slice A1 cs.length c1, .slice A2 ts.length c2] 28 (0, 0)) (by repeat first | exact BK2.out | apply blk_drewN | apply blk_drew | apply blk_alloc) hb); replace HB := Aside0.mk (below_step (by repeat first | exact HB.out | apply below_alloc | apply pw_below_drewN | apply below_drew1) hb); clear hb hbox hg; have hnb2_3 := NB2_3.out; have hnc3_2 := NB3_2.out; have hcz3_0 : w63.cell? ⟨gb3, 0, none⟩ = some (.int .i64 0) := (blk_cell BK3.out 0).trans rfl; have hcz3_1 : w63.cell? ⟨gb3, 1, none⟩ = some (.slice none 0 0) := (blk_cell BK3.out 1).trans rfl; have hcz3_2 : w63.cell? ⟨gb3, 2, none⟩ = some (.slice none 0 0) := (blk_cell BK3.out 2).trans rfl; have hfz3_0 := blk_frozen BK3.out 0; have hfz3_1 := blk_frozen BK3.out 1; have hfz3_2 := blk_frozen BK3.out 2; have hcy2_0 : w63.cell? ⟨gb2, 0, none⟩ = some (.int .i64 a0) := (blk_cell BK2.out 0).trans rfl; have hcy2_1 : w63.cell? ⟨gb2, 1, none⟩ = some (.slice A1 cs.length c1) := (blk_cell BK2.out 1).trans rfl; have hcy2_2 : w63.cell? ⟨gb2, 2, none⟩ = some (.slice A2 ts.length c2) := (blk_cell BK2.out 2).trans rfl) | ((with_reducible refine gate_callee (f := 20) rfl ?_); refine goesL_ (some 11) rfl rfl Tryd.func20 (by kernel_rfl) rfl #[.agg #[.int .i64 a0, .slice A1 cs.length c1, .slice A2 ts.length c2]] rfl (by (try simp only [List.map_toArray, List.map_cons, List.map_nil]); first | done | rfl) ?_; (with_reducible refine (impl_isMem.calls 6201 a0 _ _ cs _ _ ts true _ ?side1 ?side2 ?side3 ?side4 AM.out).mono ?_); (case side1 => (repeat (first | exact (Kd.C_below HR1.out HB.out) | (with_reducible refine Kd.C_alloc ?_ _) | (with_reducible refine Kd.C_drewN ?_ _) | (with_reducible refine Kd.C_drew ?_)))); (case side2 => exact HC1.out); (case side3 => (repeat (first | exact (Kd.C_below HR2.out HB.out) | (with_reducible refine Kd.C_alloc ?_ _) | (with_reducible refine Kd.C_drewN ?_ _) | (with_reducible refine Kd.C_drew ?_)))); (case side4 => exact HC2.out); rintro e w10 ⟨rfl, hb⟩; refine ⟨_, rfl, ?_⟩; replace BK2 := Aside0.mk (blk_below (g := gb2) (o := .cells #[.int .i64 a0, .slice A1 cs.length c1, .slice A2 ts.length c2] 28 (0, 0)) (by repeat first | exact BK2.out | apply blk_drewN | apply blk_drew | apply blk_alloc) hb); replace BK3 := Aside0.mk (blk_below (g := gb3) (o := .cells #[.int .i64 0, .slice none 0 0, .slice none 0 0] 28 (0, 0)) (by repeat first | exact BK3.out | apply blk_drewN | apply blk_drew | apply blk_alloc) hb); replace HB := Aside0.mk (below_step (by repeat first | exact HB.out | apply below_alloc | apply pw_below_drewN | apply below_drew1) hb); clear hb; have hcy2_0 : w10.cell? ⟨gb2, 0, none⟩ = some (.int .i64 a0) := (blk_cell BK2.out 0).trans rfl; have hcy2_1 : w10.cell? ⟨gb2, 1, none⟩ = some (.slice A1 cs.length c1) := (blk_cell BK2.out 1).trans rfl; have hcy2_2 : w10.cell? ⟨gb2, 2, none⟩ = some (.slice A2 ts.length c2) := (blk_cell BK2.out 2).trans rfl; have hcy3_0 : w10.cell? ⟨gb3, 0, none⟩ = some (.int .i64 0) := (blk_cell BK3.out 0).trans rfl; have hcy3_1 : w10.cell? ⟨gb3, 1, none⟩ = some (.slice none 0 0) := (blk_cell BK3.out 1).trans rfl; have hcy3_2 : w10.cell? ⟨gb3, 2, none⟩ = some (.slice none 0 0) := (blk_cell BK3.out 2).trans rfl; have hfy3_0 := blk_frozen BK3.out 0; have hfy3_1 := blk_frozen BK3.out 1; have hfy3_2 := blk_frozen BK3.out 2) | ((with_reducible refine gate_callee (f := 18) rfl ?_); refine goesL_ (some 20) rfl rfl Tryd.func18 (by kernel_rfl) rfl #[.int .i64 (n : Int), .int .i64 0, .int .i64 (wrap64 ((cs.length : Int) - 1))] rfl (by (try simp only [List.map_toArray, List.map_cons, List.map_nil]); first | done | rfl) ?_; (with_reducible refine (impl_within.calls (n : Int) 0 (wrap64 ((cs.length : Int) - 1)) true _ AQ.out).mono ?_); rintro e w' ⟨rfl, ⟨nd, rfl⟩⟩; refine ⟨_, rfl, ?_⟩) | ((with_reducible refine gate_callee (f := 21) rfl ?_); refine goesL_ (some 37) rfl rfl Tryd.func21 (by kernel_rfl) rfl #[.agg #[.int .i64 a0, .slice A1 cs.length c1, .slice A2 ts.length c2]] rfl (by (try simp only [List.map_toArray, List.map_cons, List.map_nil]); first | done | rfl) ?_; (with_reducible refine (impl_cloneMem.calls 200 a0 _ _ cs _ _ ts a0 cs ts _ ?side1 ?side2 ?side3 ?side4 AC.out).mono ?_); (case side1 => (repeat (first | exact (Kd.C_below HR1.out HB.out) | (with_reducible refine Kd.C_alloc ?_ _) | (with_reducible refine Kd.C_drewN ?_ _) | (with_reducible refine Kd.C_drew ?_)))); (case side2 => exact HC1.out); (case side3 => (repeat (first | exact (Kd.C_below HR2.out HB.out) | (with_reducible refine Kd.C_alloc ?_ _) | (with_reducible refine Kd.C_drewN ?_ _) | (with_reducible refine Kd.C_drew ?_)))); (case side4 => exact HC2.out); rintro e w28 ⟨v207, v210, rfl, ho0, ho1, hb⟩; obtain ⟨D1, d1, rfl⟩ := Kd.S_slice ho0; obtain ⟨D2, d2, rfl⟩ := Kd.R_slice ho1; refine ⟨_, rfl, ?_⟩; have HS := Aside0.mk (Kd.S_lower ho0 (below_size (by repeat first | exact HB.out | apply below_alloc | apply pw_below_drewN | apply below_drew1))); have HR := Aside0.mk (Kd.R_lower ho1 (below_size (by repeat first | exact HB.out | apply below_alloc | apply pw_below_drewN | apply below_drew1))); replace BK2 := Aside0.mk (blk_below (g := gb2) (o := .cells #[.int .i64 a0, .slice A1 cs.length c1, .slice A2 ts.length c2] 28 (0, 0)) (by repeat first | exact BK2.out | apply blk_drewN | apply blk_drew | apply blk_alloc) hb); replace BK3 := Aside0.mk (blk_below (g := gb3) (o := .cells #[.int .i64 0, .slice none 0 0, .slice none 0 0] 28 (0, 0)) (by repeat first | exact BK3.out | apply blk_drewN | apply blk_drew | apply blk_alloc) hb); replace HB := Aside0.mk (below_step (by repeat first | exact HB.out | apply below_alloc | apply pw_below_drewN | apply below_drew1) hb); clear hb ho0 ho1; have hcy2_0 : w28.cell? ⟨gb2, 0, none⟩ = some (.int .i64 a0) := (blk_cell BK2.out 0).trans rfl; have hcy2_1 : w28.cell? ⟨gb2, 1, none⟩ = some (.slice A1 cs.length c1) := (blk_cell BK2.out 1).trans rfl; have hcy2_2 : w28.cell? ⟨gb2, 2, none⟩ = some (.slice A2 ts.length c2) := (blk_cell BK2.out 2).trans rfl; have hcy3_0 : w28.cell? ⟨gb3, 0, none⟩ = some (.int .i64 0) := (blk_cell BK3.out 0).trans rfl; have hcy3_1 : w28.cell? ⟨gb3, 1, none⟩ = some (.slice none 0 0) := (blk_cell BK3.out 1).trans rfl; have hcy3_2 : w28.cell? ⟨gb3, 2, none⟩ = some (.slice none 0 0) := (blk_cell BK3.out 2).trans rfl; have hfy3_0 := blk_frozen BK3.out 0; have hfy3_1 := blk_frozen BK3.out 1; have hfy3_2 := blk_frozen BK3.out 2) | ((with_reducible refine gate_dst (N := 8) rfl ?_); (try (refine gate_guard (by rfl) ?_; dsimp only)); refine box_event ?hg (N := 8) ?hd (cs := #[.int .i64 0, .slice none 0 0, .slice none 0 0]) (t := 28) ?hr ?_; (case hd => rfl); (case hg => rfl); (case hr => first | (go_simp; done) | (go_simp; rfl)); intro gb4 hg w64 hbox hb; have BK4 := Aside0.mk (hbox); have GE4 := Aside0.mk ((by rw [hg]; exact (below_size (by repeat first | exact HB.out | apply below_alloc | apply pw_below_drewN | apply below_drew1)) : w.heap.size ≤ gb4)); have NB2_4 := Aside0.mk ((by rw [hg]; exact Nat.ne_of_lt (blk_lt (g := gb2) (o := .cells #[.int .i64 a0, .slice A1 cs.length c1, .slice A2 ts.length c2] 28 (0, 0)) (by repeat first | exact BK2.out | apply blk_drewN | apply blk_drew | apply blk_alloc)) : gb2 ≠ gb4)); have NB4_2 := Aside0.mk (NB2_4.out.symm); have NB3_4 := Aside0.mk ((by rw [hg]; exact Nat.ne_of_lt (blk_lt (g := gb3) (o := .cells #[.int .i64 0, .slice none 0 0, .slice none 0 0] 28 (0, 0)) (by repeat first | exact BK3.out | apply blk_drewN | apply blk_drew | apply blk_alloc)) : gb3 ≠ gb4)); have NB4_3 := Aside0.mk (NB3_4.out.symm); replace BK2 := Aside0.mk (blk_below (g := gb2) (o := .cells #[.int .i64 a0, .slice A1 cs.length c1, .slice A2 ts.length c2] 28 (0, 0)) (by repeat first | exact BK2.out | apply blk_drewN | apply blk_drew | apply blk_alloc) hb); replace BK3 := Aside0.mk (blk_below (g := gb3) (o := .cells #[.int .i64 0, .slice none 0 0, .slice none 0 0] 28 (0, 0)) (by repeat first | exact BK3.out | apply blk_drewN | apply blk_drew | apply blk_alloc) hb); replace HS := Aside0.mk (Kd.S_below (by exact HS.out) hb); replace HR := Aside0.mk (Kd.R_below (by exact HR.out) hb); replace HB := Aside0.mk (below_step (by repeat first | exact HB.out | apply below_alloc | apply pw_below_drewN | apply below_drew1) hb); clear hb hbox hg; have hnb2_4 := NB2_4.out; have hnc4_2 := NB4_2.out; have hnb3_4 := NB3_4.out; have hnc4_3 := NB4_3.out; have hcz4_0 : w64.cell? ⟨gb4, 0, none⟩ = some (.int .i64 0) := (blk_cell BK4.out 0).trans rfl; have hcz4_1 : w64.cell? ⟨gb4, 1, none⟩ = some (.slice none 0 0) := (blk_cell BK4.out 1).trans rfl; have hcz4_2 : w64.cell? ⟨gb4, 2, none⟩ = some (.slice none 0 0) := (blk_cell BK4.out 2).trans rfl; have hfz4_0 := blk_frozen BK4.out 0; have hfz4_1 := blk_frozen BK4.out 1; have hfz4_2 := blk_frozen BK4.out 2; have hcy2_0 : w64.cell? ⟨gb2, 0, none⟩ = some (.int .i64 a0) := (blk_cell BK2.out 0).trans rfl; have hcy2_1 : w64.cell? ⟨gb2, 1, none⟩ = some (.slice A1 cs.length c1) := (blk_cell BK2.out 1).trans rfl; have hcy2_2 : w64.cell? ⟨gb2, 2, none⟩ = some (.slice A2 ts.length c2) := (blk_cell BK2.out 2).trans rfl; have hcy3_0 : w64.cell? ⟨gb3, 0, none⟩ = some (.int .i64 0) := (blk_cell BK3.out 0).trans rfl; have hcy3_1 : w64.cell? ⟨gb3, 1, none⟩ = some (.slice none 0 0) := (blk_cell BK3.out 1).trans rfl; have hcy3_2 : w64.cell? ⟨gb3, 2, none⟩ = some (.slice none 0 0) := (blk_cell BK3.out 2).trans rfl; have hfy3_0 := blk_frozen BK3.out 0; have hfy3_1 := blk_frozen BK3.out 1; have hfy3_2 := blk_frozen BK3.out 2) | ((with_reducible refine gate_callee (f := 22) rfl ?_); refine goesL_ (some 40) rfl rfl Tryd.func22 (by kernel_rfl) rfl #[.pointer (some ⟨gb4, 0, none⟩), .int .i64 (n : Int), .slice A3 xs.length c3] rfl (by (try simp only [List.map_toArray, List.map_cons, List.map_nil]); first | done | rfl) ?_; refine (memWrite_calls a0 cs ts n AN.out AT.out gb4 D1 d1 D2 d2 A3 c3 xs HX3.out w _ ?sB ?sg ?sbk ?sS HR3.out HC3.out ?sR).mono ?_; (case sB => exact (by repeat (first | (with_reducible first | exact HB.out | apply below_alloc | apply pw_below_drewN | apply below_drew1 | refine below_set ?_ GE2.out | refine below_set ?_ GE3.out | refine below_set ?_ GE4.out) | exact HB.out))); (case sg => exact GE4.out); (case sbk => exact (by (with_reducible repeat (first | refine blk_drewN ?_ _ | refine blk_drew ?_ | refine blk_alloc ?_ _)); refine blk_put (cs := #[.int .i64 a0, .slice D1 cs.length d1, .slice none 0 0]) ?_ 2 _ rfl; (with_reducible repeat (first | refine blk_drewN ?_ _ | refine blk_drew ?_ | refine blk_alloc ?_ _)); refine blk_put (cs := #[.int .i64 a0, .slice none 0 0, .slice none 0 0]) ?_ 1 _ rfl; (with_reducible repeat (first | refine blk_drewN ?_ _ | refine blk_drew ?_ | refine blk_alloc ?_ _)); refine blk_put (cs := #[.int .i64 0, .slice none 0 0, .slice none 0 0]) ?_ 0 _ rfl; exact BK4.out)); (case sS => exact (by (with_reducible repeat (first | apply Kd.S_alloc | apply Kd.S_drewN | apply Kd.S_drew)); exact Kd.S_mono (Kd.S_far (p := ⟨gb4, 2, none⟩) (Kd.S_far (p := ⟨gb4, 1, none⟩) (Kd.S_far (p := ⟨gb4, 0, none⟩) (Kd.S_types HS.out BK4.out (by decide)) (fun _ hk => hk.2) (.int .i64 a0)) (fun _ hk => hk.2) (.slice D1 cs.length d1)) (fun _ hk => hk.2) (.slice D2 ts.length d2)) (fun _ _ => trivial))); (case sR => exact (by (with_reducible repeat (first | apply Kd.R_alloc | apply Kd.R_drewN | apply Kd.R_drew)); exact Kd.R_mono (Kd.R_far (p := ⟨gb4, 2, none⟩) (Kd.R_far (p := ⟨gb4, 1, none⟩) (Kd.R_far (p := ⟨gb4, 0, none⟩) (Kd.R_types HR.out BK4.out (by decide)) (fun _ hk => hk.2) (.int .i64 a0)) (fun _ hk => hk.2) (.slice D1 cs.length d1)) (fun _ hk => hk.2) (.slice D2 ts.length d2)) (fun _ _ => trivial))); rintro e w30 ⟨E2, e2, rfl, hbk4, hS4, hR4, hB4, hK⟩; refine ⟨_, rfl, ?_⟩; have n2_ : Aside0 (w30.heap[gb2]? = some (.cells #[.int .i64 a0, .slice A1 cs.length c1, .slice A2 ts.length c2] 28 (0, 0))) := ⟨hK gb2 _ _ NB2_4.out (by decide) (by decide) (by (with_reducible repeat (first | refine blk_drewN ?_ _ | refine blk_drew ?_ | refine blk_alloc ?_ _)); refine blk_far ?_ NB2_4.out _; (with_reducible repeat (first | refine blk_drewN ?_ _ | refine blk_drew ?_ | refine blk_alloc ?_ _)); refine blk_far ?_ NB2_4.out _; (with_reducible repeat (first | refine blk_drewN ?_ _ | refine blk_drew ?_ | refine blk_alloc ?_ _)); refine blk_far ?_ NB2_4.out _; exact BK2.out)⟩; have n3_ : Aside0 (w30.heap[gb3]? = some (.cells #[.int .i64 0, .slice none 0 0, .slice none 0 0] 28 (0, 0))) := ⟨hK gb3 _ _ NB3_4.out (by decide) (by decide) (by (with_reducible repeat (first | refine blk_drewN ?_ _ | refine blk_drew ?_ | refine blk_alloc ?_ _)); refine blk_far ?_ NB3_4.out _; (with_reducible repeat (first | refine blk_drewN ?_ _ | refine blk_drew ?_ | refine blk_alloc ?_ _)); refine blk_far ?_ NB3_4.out _; (with_reducible repeat (first | refine blk_drewN ?_ _ | refine blk_drew ?_ | refine blk_alloc ?_ _)); refine blk_far ?_ NB3_4.out _; exact BK3.out)⟩; clear BK2 BK3; have BK2 := n2_; have BK3 := n3_; clear n2_ n3_; clear BK4 HS HR HB hK; have BK4 : Aside0 (w30.heap[gb4]? = some (.cells #[.int .i64 a0, .slice D1 cs.length d1, .slice E2 (ts.length + 1) e2] 28 (0, 0))) := ⟨hbk4⟩; have HS := Aside0.mk hS4; have HR := Aside0.mk hR4; have HB := Aside0.mk hB4; clear hbk4 hS4 hR4 hB4; have hcy3_0 : w30.cell? ⟨gb3, 0, none⟩ = some (.int .i64 0) := (blk_cell BK3.out 0).trans rfl; have hcy3_1 : w30.cell? ⟨gb3, 1, none⟩ = some (.slice none 0 0) := (blk_cell BK3.out 1).trans rfl; have hcy3_2 : w30.cell? ⟨gb3, 2, none⟩ = some (.slice none 0 0) := (blk_cell BK3.out 2).trans rfl; have hfy3_0 := blk_frozen BK3.out 0; have hfy3_1 := blk_frozen BK3.out 1; have hfy3_2 := blk_frozen BK3.out 2; have hcy4_0 : w30.cell? ⟨gb4, 0, none⟩ = some (.int .i64 a0) := (blk_cell BK4.out 0).trans rfl; have hcy4_1 : w30.cell? ⟨gb4, 1, none⟩ = some (.slice D1 cs.length d1) := (blk_cell BK4.out 1).trans rfl; have hcy4_2 : w30.cell? ⟨gb4, 2, none⟩ = some (.slice E2 (ts.length + 1) e2) := (blk_cell BK4.out 2).trans rfl; have hfy4_0 := blk_frozen BK4.out 0; have hfy4_1 := blk_frozen BK4.out 1; have hfy4_2 := blk_frozen BK4.out 2))
     refine bodyPost_ret (results_ct rfl _ _ gb3 28 #[.int .i64 a0, .slice D1 cs.length d1, .slice E2 (ts.length + 1) e2] (0, 0) _ rfl (by (with_reducible repeat (first | refine blk_drewN ?_ _ | refine blk_drew ?_ | refine blk_alloc ?_ _)); refine blk_put (cs := #[.int .i64 a0, .slice D1 cs.length d1, .slice none 0 0]) ?_ 2 _ rfl; (with_reducible repeat (first | refine blk_drewN ?_ _ | refine blk_drew ?_ | refine blk_alloc ?_ _)); refine blk_put (cs := #[.int .i64 a0, .slice none 0 0, .slice none 0 0]) ?_ 1 _ rfl; (with_reducible repeat (first | refine blk_drewN ?_ _ | refine blk_drew ?_ | refine blk_alloc ?_ _)); refine blk_put (cs := #[.int .i64 0, .slice none 0 0, .slice none 0 0]) ?_ 0 _ rfl; exact BK3.out) Tryd.underlying28 rfl (by kernel_rfl)) rfl ?_
     exact ⟨_, _, by first | rfl | (simp; done) | (simp [*]; done), by (with_reducible repeat (first | apply Kd.S_alloc | apply Kd.S_drewN | apply Kd.S_drew)); exact Kd.S_mono (Kd.S_far (p := ⟨gb3, 2, none⟩) (Kd.S_far (p := ⟨gb3, 1, none⟩) (Kd.S_far (p := ⟨gb3, 0, none⟩) (Kd.S_types HS.out BK3.out (by decide)) (fun _ hk => hk.2) (.int .i64 a0)) (fun _ hk => hk.2) (.slice D1 cs.length d1)) (fun _ hk => hk.2) (.slice E2 (ts.length + 1) e2)) (fun _ _ => trivial), by (with_reducible repeat (first | apply Kd.R_alloc | apply Kd.R_drewN | apply Kd.R_drew)); exact Kd.R_mono (Kd.R_far (p := ⟨gb3, 2, none⟩) (Kd.R_far (p := ⟨gb3, 1, none⟩) (Kd.R_far (p := ⟨gb3, 0, none⟩) (Kd.R_types HR.out BK3.out (by decide)) (fun _ hk => hk.2) (.int .i64 a0)) (fun _ hk => hk.2) (.slice D1 cs.length d1)) (fun _ hk => hk.2) (.slice E2 (ts.length + 1) e2)) (fun _ _ => trivial), by repeat (first | (with_reducible first | exact HB.out | apply below_alloc | apply pw_below_drewN | apply below_drew1 | refine below_set ?_ GE2.out | refine below_set ?_ GE3.out | refine below_set ?_ GE4.out) | exact HB.out)⟩
   ·have cs0b1 : ((xs.length : Int) != a0) = true := bne_iff_ne.mpr hs
    have cs0b0 : ((xs.length : Int) == a0) = false := beq_eq_false_iff_ne.mpr hs
    clear hb hw64
    have hF : memWriteF a0 cs ts a1 xs = (0, [], [], 3) := by unfold memWriteF; rw [if_pos hm, if_pos hq, if_neg hs]
    rw [hF]
    clear hF hs
    go_enter Tryd.func8, Tryd.ntmps8
    go_wp2_with (first | ((with_reducible refine gate_dst (N := 3) rfl ?_); (try (refine gate_guard (by rfl) ?_; dsimp only)); refine box_event ?hg (N := 3) ?hd (cs := #[.int .i64 a0, .slice A1 cs.length c1, .slice A2 ts.length c2]) (t := 28) ?hr ?_; (case hd => rfl); (case hg => rfl); (case hr => first | (go_simp; done) | (go_simp; rfl)); intro gb2 hg w62 hbox hb; have BK2 := Aside0.mk (hbox); have GE2 := Aside0.mk ((by rw [hg]; exact (below_size (by repeat first | exact HB.out | apply below_alloc | apply pw_below_drewN | apply below_drew1)) : w.heap.size ≤ gb2)); replace HB := Aside0.mk (below_step (by repeat first | exact HB.out | apply below_alloc | apply pw_below_drewN | apply below_drew1) hb); clear hb hbox hg; have hcz2_0 : w62.cell? ⟨gb2, 0, none⟩ = some (.int .i64 a0) := (blk_cell BK2.out 0).trans rfl; have hcz2_1 : w62.cell? ⟨gb2, 1, none⟩ = some (.slice A1 cs.length c1) := (blk_cell BK2.out 1).trans rfl; have hcz2_2 : w62.cell? ⟨gb2, 2, none⟩ = some (.slice A2 ts.length c2) := (blk_cell BK2.out 2).trans rfl) | ((with_reducible refine gate_dst (N := 6) rfl ?_); (try (refine gate_guard (by rfl) ?_; dsimp only)); refine box_event ?hg (N := 6) ?hd (cs := #[.int .i64 0, .slice none 0 0, .slice none 0 0]) (t := 28) ?hr ?_; (case hd => rfl); (case hg => rfl); (case hr => first | (go_simp; done) | (go_simp; rfl)); intro gb3 hg w63 hbox hb; have BK3 := Aside0.mk (hbox); have GE3 := Aside0.mk ((by rw [hg]; exact (below_size (by repeat first | exact HB.out | apply below_alloc | apply pw_below_drewN | apply below_drew1)) : w.heap.size ≤ gb3)); have NB2_3 := Aside0.mk ((by rw [hg]; exact Nat.ne_of_lt (blk_lt (g := gb2) (o := .cells #[.int .i64 a0, .slice A1 cs.length c1, .slice A2 ts.length c2] 28 (0, 0)) (by repeat first | exact BK2.out | apply blk_drewN | apply blk_drew | apply blk_alloc)) : gb2 ≠ gb3)); have NB3_2 := Aside0.mk (NB2_3.out.symm); replace BK2 := Aside0.mk (blk_below (g := gb2) (o := .cells #[.int .i64 a0, .slice A1 cs.length c1, .slice A2 ts.length c2] 28 (0, 0)) (by repeat first | exact BK2.out | apply blk_drewN | apply blk_drew | apply blk_alloc) hb); replace HB := Aside0.mk (below_step (by repeat first | exact HB.out | apply below_alloc | apply pw_below_drewN | apply below_drew1) hb); clear hb hbox hg; have hnb2_3 := NB2_3.out; have hnc3_2 := NB3_2.out; have hcz3_0 : w63.cell? ⟨gb3, 0, none⟩ = some (.int .i64 0) := (blk_cell BK3.out 0).trans rfl; have hcz3_1 : w63.cell? ⟨gb3, 1, none⟩ = some (.slice none 0 0) := (blk_cell BK3.out 1).trans rfl; have hcz3_2 : w63.cell? ⟨gb3, 2, none⟩ = some (.slice none 0 0) := (blk_cell BK3.out 2).trans rfl; have hfz3_0 := blk_frozen BK3.out 0; have hfz3_1 := blk_frozen BK3.out 1; have hfz3_2 := blk_frozen BK3.out 2; have hcy2_0 : w63.cell? ⟨gb2, 0, none⟩ = some (.int .i64 a0) := (blk_cell BK2.out 0).trans rfl; have hcy2_1 : w63.cell? ⟨gb2, 1, none⟩ = some (.slice A1 cs.length c1) := (blk_cell BK2.out 1).trans rfl; have hcy2_2 : w63.cell? ⟨gb2, 2, none⟩ = some (.slice A2 ts.length c2) := (blk_cell BK2.out 2).trans rfl) | ((with_reducible refine gate_callee (f := 20) rfl ?_); refine goesL_ (some 11) rfl rfl Tryd.func20 (by kernel_rfl) rfl #[.agg #[.int .i64 a0, .slice A1 cs.length c1, .slice A2 ts.length c2]] rfl (by (try simp only [List.map_toArray, List.map_cons, List.map_nil]); first | done | rfl) ?_; (with_reducible refine (impl_isMem.calls 6201 a0 _ _ cs _ _ ts true _ ?side1 ?side2 ?side3 ?side4 AM.out).mono ?_); (case side1 => (repeat (first | exact (Kd.C_below HR1.out HB.out) | (with_reducible refine Kd.C_alloc ?_ _) | (with_reducible refine Kd.C_drewN ?_ _) | (with_reducible refine Kd.C_drew ?_)))); (case side2 => exact HC1.out); (case side3 => (repeat (first | exact (Kd.C_below HR2.out HB.out) | (with_reducible refine Kd.C_alloc ?_ _) | (with_reducible refine Kd.C_drewN ?_ _) | (with_reducible refine Kd.C_drew ?_)))); (case side4 => exact HC2.out); rintro e w10 ⟨rfl, hb⟩; refine ⟨_, rfl, ?_⟩; replace BK2 := Aside0.mk (blk_below (g := gb2) (o := .cells #[.int .i64 a0, .slice A1 cs.length c1, .slice A2 ts.length c2] 28 (0, 0)) (by repeat first | exact BK2.out | apply blk_drewN | apply blk_drew | apply blk_alloc) hb); replace BK3 := Aside0.mk (blk_below (g := gb3) (o := .cells #[.int .i64 0, .slice none 0 0, .slice none 0 0] 28 (0, 0)) (by repeat first | exact BK3.out | apply blk_drewN | apply blk_drew | apply blk_alloc) hb); replace HB := Aside0.mk (below_step (by repeat first | exact HB.out | apply below_alloc | apply pw_below_drewN | apply below_drew1) hb); clear hb; have hcy2_0 : w10.cell? ⟨gb2, 0, none⟩ = some (.int .i64 a0) := (blk_cell BK2.out 0).trans rfl; have hcy2_1 : w10.cell? ⟨gb2, 1, none⟩ = some (.slice A1 cs.length c1) := (blk_cell BK2.out 1).trans rfl; have hcy2_2 : w10.cell? ⟨gb2, 2, none⟩ = some (.slice A2 ts.length c2) := (blk_cell BK2.out 2).trans rfl; have hcy3_0 : w10.cell? ⟨gb3, 0, none⟩ = some (.int .i64 0) := (blk_cell BK3.out 0).trans rfl; have hcy3_1 : w10.cell? ⟨gb3, 1, none⟩ = some (.slice none 0 0) := (blk_cell BK3.out 1).trans rfl; have hcy3_2 : w10.cell? ⟨gb3, 2, none⟩ = some (.slice none 0 0) := (blk_cell BK3.out 2).trans rfl; have hfy3_0 := blk_frozen BK3.out 0; have hfy3_1 := blk_frozen BK3.out 1; have hfy3_2 := blk_frozen BK3.out 2) | ((with_reducible refine gate_callee (f := 18) rfl ?_); refine goesL_ (some 20) rfl rfl Tryd.func18 (by kernel_rfl) rfl #[.int .i64 a1, .int .i64 0, .int .i64 (wrap64 ((cs.length : Int) - 1))] rfl (by (try simp only [List.map_toArray, List.map_cons, List.map_nil]); first | done | rfl) ?_; (with_reducible refine (impl_within.calls a1 0 (wrap64 ((cs.length : Int) - 1)) true _ AQ.out).mono ?_); rintro e w' ⟨rfl, ⟨nd, rfl⟩⟩; refine ⟨_, rfl, ?_⟩))
    refine bodyPost_ret (results_ct rfl _ _ gb3 28 #[.int .i64 0, .slice none 0 0, .slice none 0 0] (0, 0) _ rfl (by (with_reducible repeat (first | refine blk_drewN ?_ _ | refine blk_drew ?_ | refine blk_alloc ?_ _)); refine blk_put (cs := #[.int .i64 0, .slice none 0 0, .slice none 0 0]) ?_ 2 _ rfl; (with_reducible repeat (first | refine blk_drewN ?_ _ | refine blk_drew ?_ | refine blk_alloc ?_ _)); refine blk_put (cs := #[.int .i64 0, .slice none 0 0, .slice none 0 0]) ?_ 1 _ rfl; (with_reducible repeat (first | refine blk_drewN ?_ _ | refine blk_drew ?_ | refine blk_alloc ?_ _)); refine blk_put (cs := #[.int .i64 0, .slice none 0 0, .slice none 0 0]) ?_ 0 _ rfl; (with_reducible repeat (first | refine blk_drewN ?_ _ | refine blk_drew ?_ | refine blk_alloc ?_ _)); exact BK3.out) Tryd.underlying28 rfl (by kernel_rfl)) rfl ?_
    exact ⟨_, _, by first | rfl | (simp; done) | (simp [*]; done), by first | exact Kd.S_nil _ _ _ _ _ | exact Kd.R_nil _ _ _ _ _, by first | exact Kd.S_nil _ _ _ _ _ | exact Kd.R_nil _ _ _ _ _, by repeat (first | (with_reducible first | exact HB.out | apply below_alloc | apply pw_below_drewN | apply below_drew1 | refine below_set ?_ GE2.out | refine below_set ?_ GE3.out | refine below_set ?_ GE4.out) | exact HB.out)⟩
  ·have AQ : Aside0 (impl_within.f a1 0 (wrap64 ((cs.length : Int) - 1)) = some false) := ⟨by rw [within_f, hw64, decide_eq_false (by omega)]⟩
   clear hb hw64
   have hF : memWriteF a0 cs ts a1 xs = (0, [], [], 2) := by unfold memWriteF; rw [if_pos hm, if_neg hq]
   rw [hF]
   clear hF
   go_enter Tryd.func8, Tryd.ntmps8
   go_wp2_with (first | ((with_reducible refine gate_dst (N := 3) rfl ?_); (try (refine gate_guard (by rfl) ?_; dsimp only)); refine box_event ?hg (N := 3) ?hd (cs := #[.int .i64 a0, .slice A1 cs.length c1, .slice A2 ts.length c2]) (t := 28) ?hr ?_; (case hd => rfl); (case hg => rfl); (case hr => first | (go_simp; done) | (go_simp; rfl)); intro gb2 hg w62 hbox hb; have BK2 := Aside0.mk (hbox); have GE2 := Aside0.mk ((by rw [hg]; exact (below_size (by repeat first | exact HB.out | apply below_alloc | apply pw_below_drewN | apply below_drew1)) : w.heap.size ≤ gb2)); replace HB := Aside0.mk (below_step (by repeat first | exact HB.out | apply below_alloc | apply pw_below_drewN | apply below_drew1) hb); clear hb hbox hg; have hcz2_0 : w62.cell? ⟨gb2, 0, none⟩ = some (.int .i64 a0) := (blk_cell BK2.out 0).trans rfl; have hcz2_1 : w62.cell? ⟨gb2, 1, none⟩ = some (.slice A1 cs.length c1) := (blk_cell BK2.out 1).trans rfl; have hcz2_2 : w62.cell? ⟨gb2, 2, none⟩ = some (.slice A2 ts.length c2) := (blk_cell BK2.out 2).trans rfl) | ((with_reducible refine gate_dst (N := 6) rfl ?_); (try (refine gate_guard (by rfl) ?_; dsimp only)); refine box_event ?hg (N := 6) ?hd (cs := #[.int .i64 0, .slice none 0 0, .slice none 0 0]) (t := 28) ?hr ?_; (case hd => rfl); (case hg => rfl); (case hr => first | (go_simp; done) | (go_simp; rfl)); intro gb3 hg w63 hbox hb; have BK3 := Aside0.mk (hbox); have GE3 := Aside0.mk ((by rw [hg]; exact (below_size (by repeat first | exact HB.out | apply below_alloc | apply pw_below_drewN | apply below_drew1)) : w.heap.size ≤ gb3)); have NB2_3 := Aside0.mk ((by rw [hg]; exact Nat.ne_of_lt (blk_lt (g := gb2) (o := .cells #[.int .i64 a0, .slice A1 cs.length c1, .slice A2 ts.length c2] 28 (0, 0)) (by repeat first | exact BK2.out | apply blk_drewN | apply blk_drew | apply blk_alloc)) : gb2 ≠ gb3)); have NB3_2 := Aside0.mk (NB2_3.out.symm); replace BK2 := Aside0.mk (blk_below (g := gb2) (o := .cells #[.int .i64 a0, .slice A1 cs.length c1, .slice A2 ts.length c2] 28 (0, 0)) (by repeat first | exact BK2.out | apply blk_drewN | apply blk_drew | apply blk_alloc) hb); replace HB := Aside0.mk (below_step (by repeat first | exact HB.out | apply below_alloc | apply pw_below_drewN | apply below_drew1) hb); clear hb hbox hg; have hnb2_3 := NB2_3.out; have hnc3_2 := NB3_2.out; have hcz3_0 : w63.cell? ⟨gb3, 0, none⟩ = some (.int .i64 0) := (blk_cell BK3.out 0).trans rfl; have hcz3_1 : w63.cell? ⟨gb3, 1, none⟩ = some (.slice none 0 0) := (blk_cell BK3.out 1).trans rfl; have hcz3_2 : w63.cell? ⟨gb3, 2, none⟩ = some (.slice none 0 0) := (blk_cell BK3.out 2).trans rfl; have hfz3_0 := blk_frozen BK3.out 0; have hfz3_1 := blk_frozen BK3.out 1; have hfz3_2 := blk_frozen BK3.out 2; have hcy2_0 : w63.cell? ⟨gb2, 0, none⟩ = some (.int .i64 a0) := (blk_cell BK2.out 0).trans rfl; have hcy2_1 : w63.cell? ⟨gb2, 1, none⟩ = some (.slice A1 cs.length c1) := (blk_cell BK2.out 1).trans rfl; have hcy2_2 : w63.cell? ⟨gb2, 2, none⟩ = some (.slice A2 ts.length c2) := (blk_cell BK2.out 2).trans rfl) | ((with_reducible refine gate_callee (f := 20) rfl ?_); refine goesL_ (some 11) rfl rfl Tryd.func20 (by kernel_rfl) rfl #[.agg #[.int .i64 a0, .slice A1 cs.length c1, .slice A2 ts.length c2]] rfl (by (try simp only [List.map_toArray, List.map_cons, List.map_nil]); first | done | rfl) ?_; (with_reducible refine (impl_isMem.calls 6201 a0 _ _ cs _ _ ts true _ ?side1 ?side2 ?side3 ?side4 AM.out).mono ?_); (case side1 => (repeat (first | exact (Kd.C_below HR1.out HB.out) | (with_reducible refine Kd.C_alloc ?_ _) | (with_reducible refine Kd.C_drewN ?_ _) | (with_reducible refine Kd.C_drew ?_)))); (case side2 => exact HC1.out); (case side3 => (repeat (first | exact (Kd.C_below HR2.out HB.out) | (with_reducible refine Kd.C_alloc ?_ _) | (with_reducible refine Kd.C_drewN ?_ _) | (with_reducible refine Kd.C_drew ?_)))); (case side4 => exact HC2.out); rintro e w10 ⟨rfl, hb⟩; refine ⟨_, rfl, ?_⟩; replace BK2 := Aside0.mk (blk_below (g := gb2) (o := .cells #[.int .i64 a0, .slice A1 cs.length c1, .slice A2 ts.length c2] 28 (0, 0)) (by repeat first | exact BK2.out | apply blk_drewN | apply blk_drew | apply blk_alloc) hb); replace BK3 := Aside0.mk (blk_below (g := gb3) (o := .cells #[.int .i64 0, .slice none 0 0, .slice none 0 0] 28 (0, 0)) (by repeat first | exact BK3.out | apply blk_drewN | apply blk_drew | apply blk_alloc) hb); replace HB := Aside0.mk (below_step (by repeat first | exact HB.out | apply below_alloc | apply pw_below_drewN | apply below_drew1) hb); clear hb; have hcy2_0 : w10.cell? ⟨gb2, 0, none⟩ = some (.int .i64 a0) := (blk_cell BK2.out 0).trans rfl; have hcy2_1 : w10.cell? ⟨gb2, 1, none⟩ = some (.slice A1 cs.length c1) := (blk_cell BK2.out 1).trans rfl; have hcy2_2 : w10.cell? ⟨gb2, 2, none⟩ = some (.slice A2 ts.length c2) := (blk_cell BK2.out 2).trans rfl; have hcy3_0 : w10.cell? ⟨gb3, 0, none⟩ = some (.int .i64 0) := (blk_cell BK3.out 0).trans rfl; have hcy3_1 : w10.cell? ⟨gb3, 1, none⟩ = some (.slice none 0 0) := (blk_cell BK3.out 1).trans rfl; have hcy3_2 : w10.cell? ⟨gb3, 2, none⟩ = some (.slice none 0 0) := (blk_cell BK3.out 2).trans rfl; have hfy3_0 := blk_frozen BK3.out 0; have hfy3_1 := blk_frozen BK3.out 1; have hfy3_2 := blk_frozen BK3.out 2) | ((with_reducible refine gate_callee (f := 18) rfl ?_); refine goesL_ (some 20) rfl rfl Tryd.func18 (by kernel_rfl) rfl #[.int .i64 a1, .int .i64 0, .int .i64 (wrap64 ((cs.length : Int) - 1))] rfl (by (try simp only [List.map_toArray, List.map_cons, List.map_nil]); first | done | rfl) ?_; (with_reducible refine (impl_within.calls a1 0 (wrap64 ((cs.length : Int) - 1)) false _ AQ.out).mono ?_); rintro e w' ⟨rfl, ⟨nd, rfl⟩⟩; refine ⟨_, rfl, ?_⟩))
   refine bodyPost_ret (results_ct rfl _ _ gb3 28 #[.int .i64 0, .slice none 0 0, .slice none 0 0] (0, 0) _ rfl (by (with_reducible repeat (first | refine blk_drewN ?_ _ | refine blk_drew ?_ | refine blk_alloc ?_ _)); refine blk_put (cs := #[.int .i64 0, .slice none 0 0, .slice none 0 0]) ?_ 2 _ rfl; (with_reducible repeat (first | refine blk_drewN ?_ _ | refine blk_drew ?_ | refine blk_alloc ?_ _)); refine blk_put (cs := #[.int .i64 0, .slice none 0 0, .slice none 0 0]) ?_ 1 _ rfl; (with_reducible repeat (first | refine blk_drewN ?_ _ | refine blk_drew ?_ | refine blk_alloc ?_ _)); refine blk_put (cs := #[.int .i64 0, .slice none 0 0, .slice none 0 0]) ?_ 0 _ rfl; (with_reducible repeat (first | refine blk_drewN ?_ _ | refine blk_drew ?_ | refine blk_alloc ?_ _)); exact BK3.out) Tryd.underlying28 rfl (by kernel_rfl)) rfl ?_
   exact ⟨_, _, by first | rfl | (simp; done) | (simp [*]; done), by first | exact Kd.S_nil _ _ _ _ _ | exact Kd.R_nil _ _ _ _ _, by first | exact Kd.S_nil _ _ _ _ _ | exact Kd.R_nil _ _ _ _ _, by repeat (first | (with_reducible first | exact HB.out | apply below_alloc | apply pw_below_drewN | apply below_drew1 | refine below_set ?_ GE2.out | refine below_set ?_ GE3.out | refine below_set ?_ GE4.out) | exact HB.out)⟩
 ·have AM := Aside0.mk (impl_isMem_f a0 cs ts (k := 6201) (by omega))
  rw [Bool.eq_false_iff.mpr hm] at AM
  have hF : memWriteF a0 cs ts a1 xs = (0, [], [], 1) := by unfold memWriteF; rw [if_neg hm]
  rw [hF]
  clear hF
  go_enter Tryd.func8, Tryd.ntmps8
  go_wp2_with (first | ((with_reducible refine gate_dst (N := 3) rfl ?_); (try (refine gate_guard (by rfl) ?_; dsimp only)); refine box_event ?hg (N := 3) ?hd (cs := #[.int .i64 a0, .slice A1 cs.length c1, .slice A2 ts.length c2]) (t := 28) ?hr ?_; (case hd => rfl); (case hg => rfl); (case hr => first | (go_simp; done) | (go_simp; rfl)); intro gb2 hg w62 hbox hb; have BK2 := Aside0.mk (hbox); have GE2 := Aside0.mk ((by rw [hg]; exact (below_size (by repeat first | exact HB.out | apply below_alloc | apply pw_below_drewN | apply below_drew1)) : w.heap.size ≤ gb2)); replace HB := Aside0.mk (below_step (by repeat first | exact HB.out | apply below_alloc | apply pw_below_drewN | apply below_drew1) hb); clear hb hbox hg; have hcz2_0 : w62.cell? ⟨gb2, 0, none⟩ = some (.int .i64 a0) := (blk_cell BK2.out 0).trans rfl; have hcz2_1 : w62.cell? ⟨gb2, 1, none⟩ = some (.slice A1 cs.length c1) := (blk_cell BK2.out 1).trans rfl; have hcz2_2 : w62.cell? ⟨gb2, 2, none⟩ = some (.slice A2 ts.length c2) := (blk_cell BK2.out 2).trans rfl) | ((with_reducible refine gate_dst (N := 6) rfl ?_); (try (refine gate_guard (by rfl) ?_; dsimp only)); refine box_event ?hg (N := 6) ?hd (cs := #[.int .i64 0, .slice none 0 0, .slice none 0 0]) (t := 28) ?hr ?_; (case hd => rfl); (case hg => rfl); (case hr => first | (go_simp; done) | (go_simp; rfl)); intro gb3 hg w63 hbox hb; have BK3 := Aside0.mk (hbox); have GE3 := Aside0.mk ((by rw [hg]; exact (below_size (by repeat first | exact HB.out | apply below_alloc | apply pw_below_drewN | apply below_drew1)) : w.heap.size ≤ gb3)); have NB2_3 := Aside0.mk ((by rw [hg]; exact Nat.ne_of_lt (blk_lt (g := gb2) (o := .cells #[.int .i64 a0, .slice A1 cs.length c1, .slice A2 ts.length c2] 28 (0, 0)) (by repeat first | exact BK2.out | apply blk_drewN | apply blk_drew | apply blk_alloc)) : gb2 ≠ gb3)); have NB3_2 := Aside0.mk (NB2_3.out.symm); replace BK2 := Aside0.mk (blk_below (g := gb2) (o := .cells #[.int .i64 a0, .slice A1 cs.length c1, .slice A2 ts.length c2] 28 (0, 0)) (by repeat first | exact BK2.out | apply blk_drewN | apply blk_drew | apply blk_alloc) hb); replace HB := Aside0.mk (below_step (by repeat first | exact HB.out | apply below_alloc | apply pw_below_drewN | apply below_drew1) hb); clear hb hbox hg; have hnb2_3 := NB2_3.out; have hnc3_2 := NB3_2.out; have hcz3_0 : w63.cell? ⟨gb3, 0, none⟩ = some (.int .i64 0) := (blk_cell BK3.out 0).trans rfl; have hcz3_1 : w63.cell? ⟨gb3, 1, none⟩ = some (.slice none 0 0) := (blk_cell BK3.out 1).trans rfl; have hcz3_2 : w63.cell? ⟨gb3, 2, none⟩ = some (.slice none 0 0) := (blk_cell BK3.out 2).trans rfl; have hfz3_0 := blk_frozen BK3.out 0; have hfz3_1 := blk_frozen BK3.out 1; have hfz3_2 := blk_frozen BK3.out 2; have hcy2_0 : w63.cell? ⟨gb2, 0, none⟩ = some (.int .i64 a0) := (blk_cell BK2.out 0).trans rfl; have hcy2_1 : w63.cell? ⟨gb2, 1, none⟩ = some (.slice A1 cs.length c1) := (blk_cell BK2.out 1).trans rfl; have hcy2_2 : w63.cell? ⟨gb2, 2, none⟩ = some (.slice A2 ts.length c2) := (blk_cell BK2.out 2).trans rfl) | ((with_reducible refine gate_callee (f := 20) rfl ?_); refine goesL_ (some 11) rfl rfl Tryd.func20 (by kernel_rfl) rfl #[.agg #[.int .i64 a0, .slice A1 cs.length c1, .slice A2 ts.length c2]] rfl (by (try simp only [List.map_toArray, List.map_cons, List.map_nil]); first | done | rfl) ?_; (with_reducible refine (impl_isMem.calls 6201 a0 _ _ cs _ _ ts false _ ?side1 ?side2 ?side3 ?side4 AM.out).mono ?_); (case side1 => (repeat (first | exact (Kd.C_below HR1.out HB.out) | (with_reducible refine Kd.C_alloc ?_ _) | (with_reducible refine Kd.C_drewN ?_ _) | (with_reducible refine Kd.C_drew ?_)))); (case side2 => exact HC1.out); (case side3 => (repeat (first | exact (Kd.C_below HR2.out HB.out) | (with_reducible refine Kd.C_alloc ?_ _) | (with_reducible refine Kd.C_drewN ?_ _) | (with_reducible refine Kd.C_drew ?_)))); (case side4 => exact HC2.out); rintro e w10 ⟨rfl, hb⟩; refine ⟨_, rfl, ?_⟩; replace BK2 := Aside0.mk (blk_below (g := gb2) (o := .cells #[.int .i64 a0, .slice A1 cs.length c1, .slice A2 ts.length c2] 28 (0, 0)) (by repeat first | exact BK2.out | apply blk_drewN | apply blk_drew | apply blk_alloc) hb); replace BK3 := Aside0.mk (blk_below (g := gb3) (o := .cells #[.int .i64 0, .slice none 0 0, .slice none 0 0] 28 (0, 0)) (by repeat first | exact BK3.out | apply blk_drewN | apply blk_drew | apply blk_alloc) hb); replace HB := Aside0.mk (below_step (by repeat first | exact HB.out | apply below_alloc | apply pw_below_drewN | apply below_drew1) hb); clear hb; have hcy2_0 : w10.cell? ⟨gb2, 0, none⟩ = some (.int .i64 a0) := (blk_cell BK2.out 0).trans rfl; have hcy2_1 : w10.cell? ⟨gb2, 1, none⟩ = some (.slice A1 cs.length c1) := (blk_cell BK2.out 1).trans rfl; have hcy2_2 : w10.cell? ⟨gb2, 2, none⟩ = some (.slice A2 ts.length c2) := (blk_cell BK2.out 2).trans rfl; have hcy3_0 : w10.cell? ⟨gb3, 0, none⟩ = some (.int .i64 0) := (blk_cell BK3.out 0).trans rfl; have hcy3_1 : w10.cell? ⟨gb3, 1, none⟩ = some (.slice none 0 0) := (blk_cell BK3.out 1).trans rfl; have hcy3_2 : w10.cell? ⟨gb3, 2, none⟩ = some (.slice none 0 0) := (blk_cell BK3.out 2).trans rfl; have hfy3_0 := blk_frozen BK3.out 0; have hfy3_1 := blk_frozen BK3.out 1; have hfy3_2 := blk_frozen BK3.out 2))
  refine bodyPost_ret (results_ct rfl _ _ gb3 28 #[.int .i64 0, .slice none 0 0, .slice none 0 0] (0, 0) _ rfl (by (with_reducible repeat (first | refine blk_drewN ?_ _ | refine blk_drew ?_ | refine blk_alloc ?_ _)); refine blk_put (cs := #[.int .i64 0, .slice none 0 0, .slice none 0 0]) ?_ 2 _ rfl; (with_reducible repeat (first | refine blk_drewN ?_ _ | refine blk_drew ?_ | refine blk_alloc ?_ _)); refine blk_put (cs := #[.int .i64 0, .slice none 0 0, .slice none 0 0]) ?_ 1 _ rfl; (with_reducible repeat (first | refine blk_drewN ?_ _ | refine blk_drew ?_ | refine blk_alloc ?_ _)); refine blk_put (cs := #[.int .i64 0, .slice none 0 0, .slice none 0 0]) ?_ 0 _ rfl; exact BK3.out) Tryd.underlying28 rfl (by kernel_rfl)) rfl ?_
  exact ⟨_, _, by first | rfl | (simp; done) | (simp [*]; done), by first | exact Kd.S_nil _ _ _ _ _ | exact Kd.R_nil _ _ _ _ _, by first | exact Kd.S_nil _ _ _ _ _ | exact Kd.R_nil _ _ _ _ _, by repeat (first | (with_reducible first | exact HB.out | apply below_alloc | apply pw_below_drewN | apply below_drew1 | refine below_set ?_ GE2.out | refine below_set ?_ GE3.out | refine below_set ?_ GE4.out) | exact HB.out)⟩

end Mm
/-- what a write gives -/
def impl_MemWrite.f (a0_0 : Int) (l0_1 : List S56) (l0_2 : List S35) (a1 : Int) (l2 : List Int) : Option (Int × List S56 × List S35 × Int) := if l2.length < 140737488355328 then some (Mm.memWriteF a0_0 l0_1 l0_2 a1 l2) else none
theorem impl_MemWrite.calls (a0_0 : Int) (A0_1 : Option Addr) (c0_1 : Nat) (l0_1 : List S56) (A0_2 : Option Addr) (c0_2 : Nat) (l0_2 : List S35) (a1 : Int) (A2 : Option Addr) (c2 : Nat) (l2 : List Int) (r1 : Int) (r2 : List S56) (r3 : List S35) (r4 : Int) (w : World) (hr0_1 : Kd.C k56 w A0_1 l0_1.length l0_1) (hc0_1 : l0_1.length ≤ c0_1) (hr0_2 : Kd.C k35 w A0_2 l0_2.length l0_2) (hc0_2 : l0_2.length ≤ c0_2) (hr2 : Kd.C (Kd.int .u8) w A2 l2.length l2) (hc2 : l2.length ≤ c2) (h : impl_MemWrite.f a0_0 l0_1 l0_2 a1 l2 = some (r1, r2, r3, r4)) :
  Calls Tryd.prog 8 #[.agg #[.int .i64 a0_0, .slice A0_1 l0_1.length c0_1, .slice A0_2 l0_2.length c0_2], .int .i64 a1, .slice A2 l2.length c2] w fun e w' => ∃ v1_ v2_ : Value, e = .returned (.tuple #[.agg #[.int .i64 r1, v1_, v2_], .int .i64 r4]) ∧ Kd.S k56 56 w' w.heap.size (fun _ => True) v1_ r2 ∧ Kd.R k35 35 w' w.heap.size (fun _ => True) v2_ r3 ∧ Below w.heap.size w w' := by
 unfold impl_MemWrite.f at h
 by_cases h1 : l2.length < 140737488355328
 ·rw [if_pos h1] at h
  have e := Option.some.inj h
  have hh := Mm.implMemWrite_calls a0_0 A0_1 c0_1 l0_1 A0_2 c0_2 l0_2 a1 A2 c2 l2 w hr0_1 hc0_1 hr0_2 hc0_2 hr2 hc2 h1
  rw [e] at hh
  exact hh
 ·rw [if_neg h1] at h
  exact absurd h (by simp)

/-! ### laws_bytesOf: function 9 -/
def laws_bytesOf.f (l0 : List Int) : Option (List Int) := (some (([] : List Int) : List Int)).bind fun y141 => (if y141.length + l0.length < 140737488355328 then (some (y141 ++ l0)) else (none))
set_option maxHeartbeats 8000000 in
set_option maxRecDepth 100000 in
theorem laws_bytesOf.calls (A0 : Option Addr) (c0 : Nat) (l0 : List Int) (r : List Int) (w : World) (hr0 : Kd.C (Kd.int .u8) w A0 l0.length l0) (hc0 : l0.length ≤ c0) (h : laws_bytesOf.f l0 = some r) :
  Calls Tryd.prog 9 #[.slice A0 l0.length c0] w fun e w' => ∃ v0_ : Value, e = .returned (v0_) ∧ Kd.R (Kd.int .u8) 5 w' w.heap.size (fun _ => True) v0_ r ∧ Below w.heap.size w w' := by
 have HR0 := Aside0.mk hr0
 have HC0 := Aside0.mk hc0
 clear hr0 hc0
 have HB := Aside0.mk (Below.refl w.heap.size w)
 have H : ((some (([] : List Int) : List Int)).bind fun y141 => (if y141.length + l0.length < 140737488355328 then (some (y141 ++ l0)) else (none))) = some r := h
 clear h
 obtain ⟨y141, hy141⟩ : ∃ y_ : List Int, y_ = (([] : List Int)) := ⟨_, rfl⟩
 replace H : (if y141.length + l0.length < 140737488355328 then (some (y141 ++ l0)) else (none)) = some r := by first | (rw [hy141]; with_reducible exact H) | (have H2_ := (Option.bind_some _ _).symm.trans H; rw [hy141]; with_reducible exact H2_) | (have H2_ := (Option.bind_some _ _).symm.trans H; with_reducible exact H2_) | with_reducible exact H | (rw [hy141]; exact H) | exact H
 have Ny141 := Aside0.mk hy141
 clear hy141
 by_cases c2 : y141.length + l0.length < 140737488355328
 ·rw [if_pos c2] at H
  have LMc2 := Aside0.mk c2
  clear c2
  obtain ⟨y144, hy144⟩ : ∃ y_ : List Int, y_ = (y141 ++ l0) := ⟨_, rfl⟩
  replace H : (some y144) = some r := by first | (rw [hy144]; with_reducible exact H) | (have H2_ := (Option.bind_some _ _).symm.trans H; rw [hy144]; with_reducible exact H2_) | (have H2_ := (Option.bind_some _ _).symm.trans H; with_reducible exact H2_) | with_reducible exact H | (rw [hy144]; exact H) | exact H
  have Ny144 := Aside0.mk hy144
  clear hy144
  obtain rfl := Option.some.inj H
  go_enter Tryd.func9, Tryd.ntmps9
  go_wp2_with (first | ((with_reducible refine gate_dst (N := 3) rfl ?_); refine Kd.R_lit (Kd.int .u8) _ 5 ?hg (N := 3) ?hd (xs := ([] : List Int)) (inner := []) (ok := fun _ => True) (okp := fun _ => True) ?hr ?hp (fun _ hk => hk) trivial (Below.refl _ _) (Nat.le_refl _) (by simp) ?_; (case hd => rfl); (case hg => rfl); (case hr => first | (go_simp; done) | (go_simp; rfl)); (case hp => exact (Reps.none _ _)); intro v142 w3 ho4 hb hg_ hnew_; clear hg_ hnew_; (first | rw [← Ny141.out] at ho4 | (simp only [Int.reduceToNat] at ho4; rw [← Ny141.out] at ho4)); have n0_ := Aside0.mk (Kd.R_lower ho4 (below_size (by exact HB.out))); have n1_ := Aside0.mk (below_step (by exact HB.out) hb); clear HB; have HO143 := n0_; have HB := n1_; clear n0_ n1_; clear hb ho4) | ((with_reducible refine gate_builtin (b := .append) (xs := #[.tmp 3, .tmp 4]) rfl ?_); at_builtin; refine Kd.R_append_rows (Kd.int .u8) (w0 := w) w.heap.size rfl (.tmp 3) (.tmp 4) 22 5 (.int .u8 0) 1 rfl Tryd.underlying22 info5 rfl (by decide) (by omega) v142 y141 l0 _ _ _ (fun _ => True) (fun _ => False) rfl rfl ?aO ?aR (fun _ _ h => h) (fun _ h => h.elim) ?aF ?aB ?aS ?aL ?_; (case aR => repeat (first | exact (Kd.C_below HR0.out HB.out) | (with_reducible refine Kd.C_alloc ?_ _) | (with_reducible refine Kd.C_drewN ?_ _) | (with_reducible refine Kd.C_drew ?_))); (case aB => exact (by exact HB.out)); (case aF => exact (fun _ _ => trivial)); (case aO => exact (by exact HO143.out)); (case aS => exact (below_size (by exact HB.out))); (case aL => have := LMc2.out; omega); intro v145 w5 ho hb hg hat; rw [← Ny144.out] at ho; have n0_ := Aside0.mk (hb); have n1_ := Aside0.mk (ho); clear HB; clear HO143; have HB := n0_; have HO146 := n1_; clear n0_ n1_; clear ho hb hg hat))
  go_ret
  exact ⟨_, by first | rfl | (simp [errW_none, errW_some] <;> rfl) | (simp [*, errW_none, errW_some] <;> rfl), by (with_reducible repeat (first | apply Kd.R_alloc | apply Kd.R_drewN | apply Kd.R_drew)); exact HO146.out, by exact HB.out⟩
 ·rw [if_neg c2] at H
  exact absurd H (by simp)

-- NOT PRINTED: function 24 (impl_Mem_read)

/-! ### impl_MemRead: function 10 -/
namespace Mm
open Go.Proofs.YtoceiaaigiflpaaDoor.L
set_option maxHeartbeats 8000000 in
set_option maxRecDepth 100000 in
theorem memRead_calls (okS : Nat → Prop) (a0 : Int) (cs : List S56) (ts : List S35) (at_ : Nat) (hat : at_ < cs.length) (hlg : ts.length ≤ 1000000) (g : Nat) (A1 : Option Addr) (c1 : Nat) (D : Option Addr) (d : Nat) (cx : S56) (hcx : cs.getD at_ z56 = cx) (w0 w : World) (hB : Below w0.heap.size w0 w) (hge : w0.heap.size ≤ g)
  (hbk : w.heap[g]? = some (.cells #[.int .i64 a0, .slice A1 cs.length c1, .slice D ts.length d] 28 (0, 0))) (hS : Kd.S k56 56 w w0.heap.size okS (.slice A1 cs.length c1) cs) (hR : Kd.R k35 35 w w0.heap.size (fun _ => True) (.slice D ts.length d) ts) :
  Calls Tryd.prog 24 #[.pointer (some ⟨g, 0, none⟩), .int .i64 (at_ : Int)] w fun e w' => ∃ (D2 : Option Addr) (d2 : Nat) (A2 : Option Addr) (c2 : Nat), e = .returned (.slice A2 cx.f0.length c2) ∧ w'.heap[g]? = some (.cells #[.int .i64 a0, .slice A1 cs.length c1, .slice D2 (ts.length + 1) d2] 28 (0, 0)) ∧ Kd.S k56 56 w' w0.heap.size okS (.slice A1 cs.length c1) cs ∧ Kd.R k35 35 w' w0.heap.size (fun _ => True) (.slice D2 (ts.length + 1) d2) (ts ++ [(⟨1, (at_ : Int), a0⟩ : S35)]) ∧ cx.f0.length ≤ c2 ∧ Kd.C (Kd.int .u8) w' A2 cx.f0.length cx.f0 ∧ Below w0.heap.size w0 w' ∧ (∀ (k : Nat) (ce : Array Value) (t : Nat), k ≠ g → t ≠ 35 → t ≠ 56 → w.heap[k]? = some (.cells ce t (0, 0)) → w'.heap[k]? = some (.cells ce t (0, 0))) := by
 have hu25 := Tryd.underlying28
 have hu50 := Tryd.underlying56
 obtain ⟨gr, cap, e, gb, gl, cl, HG0⟩ := Kd.S_form hS (by omega)
 injection e with e1 e2 e3
 subst e1
 subst e3
 have HB := Aside0.mk hB
 have BK := Aside0.mk hbk
 have HS := Aside0.mk hS
 have HR := Aside0.mk hR
 have HLG := Aside0.mk hlg
 have HGE := Aside0.mk hge
 have HAT := Aside0.mk hat
 have HO : Aside0 (∀ (k : Nat) (ce : Array Value) (t : Nat), k ≠ g → t ≠ 35 → t ≠ 56 → w.heap[k]? = some (.cells ce t (0, 0)) → w.heap[k]? = some (.cells ce t (0, 0))) := ⟨fun _ _ _ _ _ _ h => h⟩
 clear hB hbk hS hR hlg hge hat e2 gb gl cl HG0
 go_enter Tryd.func24, Tryd.ntmps24
 try go_wp2
 have n0_ := Aside0.mk (blk_drew BK.out)
 have n1_ := Aside0.mk (below_drew1 HB.out)
 have n2_ := Aside0.mk (Kd.S_drew HS.out)
 have n3_ := Aside0.mk (Kd.R_drew HR.out)
 have n4_ := Aside0.mk (fun (k : Nat) (ce : Array Value) (t : Nat) (hk : k ≠ g) (ht : t ≠ 35) (hc : t ≠ 56) h => blk_drew (HO.out k ce t hk ht hc h))
 clear BK HB HS HR HO
 have BK := n0_
 have HB := n1_
 have HS := n2_
 have HR := n3_
 have HO := n4_
 clear n0_ n1_ n2_ n3_ n4_
 refine start_ (n := 16) (S := fun w' => w'.cell? ⟨g, 0, none⟩ = some (.int .i64 a0) ∧ w'.cell? ⟨g, 1, none⟩ = some (.slice (some ⟨gr, 0, none⟩) cs.length c1) ∧ w'.cell? ⟨g, 2, none⟩ = some (.slice D ts.length d)) (ds := [15]) #[false, false, false, false, false, false, false, false, false, false, false, false, false, false, false, false] (by kernel_rfl) rfl rfl ⟨(blk_cell BK.out 0).trans rfl, (blk_cell BK.out 1).trans rfl, (blk_cell BK.out 2).trans rfl⟩ (fun hHeld => ?_)
 generalize w.drew = w5 at BK HB HS HR HO hHeld ⊢
 refine pure_ (i := 0) (N := some 5) (v := ?_) (a' := ?_) #[true, false, false, false, false, false, false, false, false, false, false, false, false, false, false, false] rfl rfl (by kernel_rfl) (fun _ _ _ h => h) (Or.inl ⟨by rfl, ?_⟩) ?_ ?_
 rotate_left
 ·intro w'
  go_simp
  with_reducible rfl
 rotate_left
 ·simp only [Act.put, List.setIfInBounds_toArray, List.set_cons_zero, List.set_cons_succ, i64_w, i32_w]
  rfl
 refine pure_ (i := 1) (N := some 6) (v := ?_) (a' := ?_) #[true, true, false, false, false, false, false, false, false, false, false, false, false, false, false, false] rfl rfl (by kernel_rfl) (fun _ _ _ h => h) (Or.inl ⟨by rfl, ?_⟩) ?_ ?_
 rotate_left
 ·intro w'
  go_simp
  with_reducible rfl
 rotate_left
 ·simp only [Act.put, List.setIfInBounds_toArray, List.set_cons_zero, List.set_cons_succ, i64_w, i32_w]
  rfl
 refine pure_ (i := 2) (N := some 7) (v := ?_) (a' := ?_) #[true, true, true, false, false, false, false, false, false, false, false, false, false, false, false, false] rfl rfl (by kernel_rfl) (fun _ _ _ h => h) (Or.inl ⟨by rfl, ?_⟩) ?_ ?_
 rotate_left
 ·intro w'
  go_simp
  with_reducible rfl
 rotate_left
 ·simp only [Act.put, List.setIfInBounds_toArray, List.set_cons_zero, List.set_cons_succ, i64_w, i32_w]
  rfl
 refine pure_ (i := 3) (N := some 8) (v := ?_) (a' := ?_) #[true, true, true, true, false, false, false, false, false, false, false, false, false, false, false, false] rfl rfl (by kernel_rfl) (fun _ _ _ h => h) (Or.inl ⟨by rfl, ?_⟩) ?_ ?_
 rotate_left
 ·intro w'
  go_simp
  with_reducible rfl
 rotate_left
 ·simp only [Act.put, List.setIfInBounds_toArray, List.set_cons_zero, List.set_cons_succ, i64_w, i32_w]
  rfl
 refine pure_ (i := 5) (N := some 10) (v := ?_) (a' := ?_) #[true, true, true, true, false, true, false, false, false, false, false, false, false, false, false, false] rfl rfl (by kernel_rfl) (fun _ _ _ h => h) (Or.inl ⟨by rfl, ?_⟩) ?_ ?_
 rotate_left
 ·intro w'
  go_simp
  with_reducible rfl
 rotate_left
 ·simp only [Act.put, List.setIfInBounds_toArray, List.set_cons_zero, List.set_cons_succ, i64_w, i32_w]
  rfl
 refine pure_ (i := 6) (N := some 11) (v := ?_) (a' := ?_) #[true, true, true, true, false, true, true, false, false, false, false, false, false, false, false, false] rfl rfl (by kernel_rfl) (fun _ _ _ h => h) (Or.inl ⟨by rfl, ?_⟩) ?_ ?_
 rotate_left
 ·intro w'
  go_simp
  with_reducible rfl
 rotate_left
 ·simp only [Act.put, List.setIfInBounds_toArray, List.set_cons_zero, List.set_cons_succ, i64_w, i32_w]
  rfl
 refine pure_ (i := 7) (N := some 12) (v := ?_) (a' := ?_) #[true, true, true, true, false, true, true, true, false, false, false, false, false, false, false, false] rfl rfl (by kernel_rfl) (fun _ _ _ h => h) (Or.inl ⟨by rfl, ?_⟩) ?_ ?_
 rotate_left
 ·intro w'
  go_simp
  with_reducible rfl
 rotate_left
 ·simp only [Act.put, List.setIfInBounds_toArray, List.set_cons_zero, List.set_cons_succ, i64_w, i32_w]
  rfl
 refine pure_ (i := 8) (N := some 13) (v := ?_) (a' := ?_) #[true, true, true, true, false, true, true, true, true, false, false, false, false, false, false, false] rfl rfl (by kernel_rfl) (fun _ _ _ h => h) (Or.inl ⟨by rfl, ?_⟩) ?_ ?_
 rotate_left
 ·intro w'
  go_simp
  with_reducible rfl
 rotate_left
 ·simp only [Act.put, List.setIfInBounds_toArray, List.set_cons_zero, List.set_cons_succ, i64_w, i32_w]
  rfl
 refine take_ (i := 4) (N := some 9) (v := ?_) (a' := ?_) #[true, true, true, true, true, true, true, true, true, false, false, false, false, false, false, false] rfl rfl (by kernel_rfl) (fun _ _ _ h => h) (Or.inl ⟨by rfl, ?_⟩) hHeld ?_ ?_
 rotate_left
 ·rintro w' ⟨s0, s1, s2⟩
  go_simp
  with_reducible rfl
 rotate_left
 ·simp only [Act.put, List.setIfInBounds_toArray, List.set_cons_zero, List.set_cons_succ, i64_w, i32_w]
  rfl
 refine take_ (i := 9) (N := some 14) (v := ?_) (a' := ?_) #[true, true, true, true, true, true, true, true, true, true, false, false, false, false, false, false] rfl rfl (by kernel_rfl) (fun _ _ _ h => h) (Or.inl ⟨by rfl, ?_⟩) hHeld ?_ ?_
 rotate_left
 ·rintro w' ⟨s0, s1, s2⟩
  go_simp
  with_reducible rfl
 rotate_left
 ·simp only [Act.put, List.setIfInBounds_toArray, List.set_cons_zero, List.set_cons_succ, i64_w, i32_w]
  rfl
 refine pure_ (i := 10) (N := some 15) (v := ?_) (a' := ?_) #[true, true, true, true, true, true, true, true, true, true, true, false, false, false, false, false] rfl rfl (by kernel_rfl) (fun _ _ _ h => h) (Or.inl ⟨by rfl, ?_⟩) ?_ ?_
 rotate_left
 ·intro w'
  go_simp
  with_reducible rfl
 rotate_left
 ·simp only [Act.put, List.setIfInBounds_toArray, List.set_cons_zero, List.set_cons_succ, i64_w, i32_w]
  rfl
 refine one_ (i := 11) (N := some 16) #[true, true, true, true, true, true, true, true, true, true, true, true, false, false, false, false] rfl rfl (by kernel_rfl) (by decide) (fun K hK => ?_)
 refine value_ (w1 := ?_) (v := ?_) (by rfl) rfl ?_ ?_
 rotate_left 2
 ·go_simp
  constructor
  ·rfl
  ·rfl
 refine hK.out _ _ ⟨(blk_cell (blk_alloc BK.out _) 0).trans rfl, (blk_cell (blk_alloc BK.out _) 1).trans rfl, (blk_cell (blk_alloc BK.out _) 2).trans rfl⟩ (fun hHeld => ?_)
 clear hK K
 refine norm_ (a' := ?_) ?_ ?_
 rotate_left
 ·show Act.put _ (some 16) _ = _
  simp only [Act.put, List.setIfInBounds_toArray, List.set_cons_zero, List.set_cons_succ, i64_w, i32_w]
  rfl
 refine one_ (i := 12) (N := some 17) #[true, true, true, true, true, true, true, true, true, true, true, true, true, false, false, false] rfl rfl (by kernel_rfl) (by decide) (fun K hK => ?_)
 refine Kd.R_append_step k35 (w0 := w0) w0.heap.size (by rfl) (.tmp 9) (.tmp 16) 26 35 (.agg #[(.int .i64 0), (.int .i64 0), (.int .i64 0)]) 24 rfl Tryd.underlying26 info35 rfl (by decide) (by omega) (.slice D ts.length d) ts (⟨1, (at_ : Int), a0⟩ : S35) [.int .i64 1, .int .i64 (at_ : Int), .int .i64 a0] (fun _ => True) (fun _ => False) rfl rfl ?aP (fun _ h => h.elim) ?aF ?aO ?aB ?aS ?aL ?_
 (case aP => exact k35_mkM _ _ _ (⟨1, (at_ : Int), a0⟩ : S35))
 (case aF => exact (fun _ _ => trivial))
 (case aO => exact (by exact HR.out))
 (case aB => exact (by exact HB.out))
 (case aS => exact (below_size (by exact HB.out)))
 (case aL => have := HLG.out; omega)
 intro v200 w28 ho hb hg hat
 obtain ⟨D2, d2, eo2⟩ := Kd.R_slice ho
 subst eo2
 have n0_ := Aside0.mk (Kd.S_over' HS.out (Kd.R_typed HR.out) (by decide) hg)
 have n1_ := Aside0.mk (blk_grown BK.out hg (Kd.R_ne HR.out BK.out (by decide)))
 have n2_ := Aside0.mk hb
 have n3_ : Aside0 (Kd.R k35 35 w28 w0.heap.size (fun _ => True) (.slice D2 (ts.length + 1) d2) (ts ++ [(⟨1, (at_ : Int), a0⟩ : S35)])) := ⟨by have h_ := ho; rw [List.length_append] at h_; exact h_⟩
 have n4_ := Aside0.mk (fun (k : Nat) (ce : Array Value) (t : Nat) (hk : k ≠ g) (ht : t ≠ 35) (hc : t ≠ 56) h => blk_grown (HO.out k ce t hk ht hc h) hg (Kd.R_ne HR.out (HO.out k ce t hk ht hc h) (Ne.symm ht)))
 clear HS BK HB HR HO ho hb hg hat
 have HS := n0_
 have BK := n1_
 have HB := n2_
 have HR := n3_
 have HO := n4_
 clear n0_ n1_ n2_ n3_ n4_
 simp only [List.length_append, List.length_singleton]
 refine hK.out _ _ ⟨(blk_cell BK.out 0).trans rfl, (blk_cell BK.out 1).trans rfl, (blk_cell BK.out 2).trans rfl⟩ (fun hHeld => ?_)
 clear hK K
 refine norm_ (a' := ?_) ?_ ?_
 rotate_left
 ·show Act.put _ (some 17) _ = _
  simp only [Act.put, List.setIfInBounds_toArray, List.set_cons_zero, List.set_cons_succ, i64_w, i32_w]
  rfl
 refine pure_ (i := 13) (N := some 18) (v := ?_) (a' := ?_) #[true, true, true, true, true, true, true, true, true, true, true, true, true, true, false, false] rfl rfl (by kernel_rfl) (fun _ _ _ h => h) (Or.inl ⟨by rfl, ?_⟩) ?_ ?_
 rotate_left
 ·intro w'
  go_simp
  with_reducible rfl
 rotate_left
 ·simp only [Act.put, List.setIfInBounds_toArray, List.set_cons_zero, List.set_cons_succ, i64_w, i32_w]
  rfl
 refine pure_ (i := 14) (N := some 19) (v := ?_) (a' := ?_) #[true, true, true, true, true, true, true, true, true, true, true, true, true, true, true, false] rfl rfl (by kernel_rfl) (fun _ _ _ h => h) (Or.inl ⟨by rfl, ?_⟩) ?_ ?_
 rotate_left
 ·intro w'
  go_simp
  with_reducible rfl
 rotate_left
 ·simp only [Act.put, List.setIfInBounds_toArray, List.set_cons_zero, List.set_cons_succ, i64_w, i32_w]
  rfl
 refine last_ (i := 15) (N := none) #[true, true, true, true, true, true, true, true, true, true, true, true, true, true, true, true] rfl rfl (by kernel_rfl) (by decide) (fun K hK => ?_)
 have hs30 : w28.cell? ⟨g, 2, none⟩ = some (.slice D ts.length d) := (blk_cell BK.out 2).trans rfl
 have hfs30 := blk_frozen BK.out 2
 refine skip_ (w1 := ?_) (by rfl) rfl ?_ ?_
 rotate_left
 ·go_simp
  rfl
 refine hK.out _ _ ?_
 clear hK K
 refine done_ (by kernel_rfl) ?_
 have n0_ := Aside0.mk (blk_put BK.out 2 (.slice D2 (ts.length + 1) d2) rfl)
 have n1_ := Aside0.mk (below_set HB.out HGE.out (j := 2) (v := .slice D2 (ts.length + 1) d2))
 have n2_ := Aside0.mk (Kd.S_set HS.out BK.out (by decide) 2 (.slice D2 (ts.length + 1) d2))
 have n3_ := Aside0.mk (Kd.R_mono (Kd.R_far (p := ⟨g, 2, none⟩) (Kd.R_types HR.out BK.out (by decide)) (fun _ hk => hk.2) (.slice D2 (ts.length + 1) d2)) (fun _ h_ => h_.1))
 have n4_ := Aside0.mk (fun (k : Nat) (ce : Array Value) (t : Nat) (hk : k ≠ g) (ht : t ≠ 35) (hc : t ≠ 56) h => blk_far (HO.out k ce t hk ht hc h) hk (p := ⟨g, 2, none⟩) (.slice D2 (ts.length + 1) d2))
 clear BK HB HS HR HO
 generalize w28.setCell ⟨g, 2, none⟩ (.slice D2 (ts.length + 1) d2) = w6 at n0_ n1_ n2_ n3_ n4_ ⊢
 have BK : Aside0 (w6.heap[g]? = some (.cells #[.int .i64 a0, .slice (some ⟨gr, 0, none⟩) cs.length c1, .slice D2 (ts.length + 1) d2] 28 (0, 0))) := ⟨n0_.out⟩
 have HB := n1_
 have HS := n2_
 have HR := n3_
 have HO := n4_
 clear n0_ n1_ n2_ n3_ n4_
 obtain ⟨oki, cc, hcl, hM, hcc, hoki, hH⟩ := Kd.S_lend HS.out z56 (at_ : Int) (Int.natCast_nonneg _) (by have := HAT.out; omega)
 rw [Int.toNat_natCast, hcx] at hM
 obtain ⟨v0, rfl, hR0⟩ := k56_openM hM
 obtain ⟨A2, c2, rfl⟩ := Kd.R_slice hR0
 have hx0 : w6.cell? ⟨gr, at_, none⟩ = some (.slice A2 cx.f0.length c2) := by
  have h := hcc 0 _ rfl
  rw [show ((at_ : Int).toNat * k56.sz + 0) = at_ from by show ((at_ : Int).toNat * 1 + 0) = at_; omega] at h
  exact h
 have HRD := Aside0.mk (Kd.R_reads' hR0)
 have hcz_1 : w6.cell? ⟨g, 1, none⟩ = some (.slice (some ⟨gr, 0, none⟩) cs.length c1) := (blk_cell BK.out 1).trans rfl
 have p1 : (0 ≤ (at_ : Int)) = True := eq_true (Int.natCast_nonneg _)
 have p2 : ((at_ : Int) < (cs.length : Int)) = True := eq_true (by have := HAT.out; omega)
 have p3 : (at_ < cs.length) = True := eq_true HAT.out
 clear hM hR0 hcc hcl hoki hH
 clear hcx
 go_wp2
 go_ret
 exact ⟨D2, d2, A2, c2, by first | rfl | (simp; done), BK.out, HS.out, HR.out, HRD.out.2.1, HRD.out.2.2, HB.out, HO.out⟩

set_option maxHeartbeats 8000000 in
set_option maxRecDepth 100000 in
theorem implMemRead_calls (a0 : Int) (A1 : Option Addr) (c1 : Nat) (cs : List S56) (A2 : Option Addr) (c2 : Nat) (ts : List S35) (a1 : Int) (w : World) (hr1 : Kd.C k56 w A1 cs.length cs) (hc1 : cs.length ≤ c1) (hr2 : Kd.C k35 w A2 ts.length ts) (hc2 : ts.length ≤ c2) :
  Calls Tryd.prog 10 #[.agg #[.int .i64 a0, .slice A1 cs.length c1, .slice A2 ts.length c2], .int .i64 a1] w fun e w' => ∃ v1_ v2_ v3_ : Value, e = .returned (.tuple #[.agg #[.int .i64 (memReadF a0 cs ts a1).1, v1_, v2_], v3_, .int .i64 (memReadF a0 cs ts a1).2.2.2.2]) ∧ Kd.S k56 56 w' w.heap.size (fun k_ => some k_ ≠ (v3_ : Value).ownBlock) v1_ (memReadF a0 cs ts a1).2.1 ∧ Kd.R k35 35 w' w.heap.size (fun _ => True) v2_ (memReadF a0 cs ts a1).2.2.1 ∧ Kd.R (Kd.int .u8) 5 w' w.heap.size (fun _ => True) v3_ (memReadF a0 cs ts a1).2.2.2.1 ∧ Below w.heap.size w w' := by
 have hu25 := Tryd.underlying28
 have HR1 := Aside0.mk hr1
 have HC1 := Aside0.mk hc1
 have HR2 := Aside0.mk hr2
 have HC2 := Aside0.mk hc2
 have HB := Aside0.mk (Below.refl w.heap.size w)
 clear hr1 hc1 hr2 hc2
 by_cases hm : memB a0 cs ts = true
 ·have hb := memB_bounds hm
  have AM := Aside0.mk (impl_isMem_f a0 cs ts (k := 6201) (by omega))
  rw [hm] at AM
  have hw64 : wrap64 ((cs.length : Int) - 1) = (cs.length : Int) - 1 := w64 (by omega) (by omega)
  by_cases hq : 0 ≤ a1 ∧ a1 < (cs.length : Int)
  ·have AQ : Aside0 (impl_within.f a1 0 (wrap64 ((cs.length : Int) - 1)) = some true) := ⟨by rw [within_f, hw64, decide_eq_true (by omega)]⟩
   by_cases hf : ts.length = 6000
   ·have hfb0 : ((ts.length : Int) == 6000) = true := beq_iff_eq.mpr (by omega)
    have hfb1 : ((ts.length : Int) != 6000) = false := bne_eq_false_iff_eq.mpr (by omega)
    clear hb hw64
    have hF : memReadF a0 cs ts a1 = (0, [], [], [], 4) := by unfold memReadF; rw [if_pos hm, if_pos hq, if_pos hf]
    rw [hF]
    clear hF hf
    go_enter Tryd.func10, Tryd.ntmps10
    go_wp2_with (first | ((with_reducible refine gate_dst (N := 2) rfl ?_); (try (refine gate_guard (by rfl) ?_; dsimp only)); refine box_event ?hg (N := 2) ?hd (cs := #[.int .i64 a0, .slice A1 cs.length c1, .slice A2 ts.length c2]) (t := 28) ?hr ?_; (case hd => rfl); (case hg => rfl); (case hr => first | (go_simp; done) | (go_simp; rfl)); intro gb2 hg w62 hbox hb; have BK2 := Aside0.mk (hbox); have GE2 := Aside0.mk ((by rw [hg]; exact (below_size (by repeat first | exact HB.out | apply below_alloc | apply pw_below_drewN | apply below_drew1)) : w.heap.size ≤ gb2)); replace HB := Aside0.mk (below_step (by repeat first | exact HB.out | apply below_alloc | apply pw_below_drewN | apply below_drew1) hb); clear hb hbox hg; have hcz2_0 : w62.cell? ⟨gb2, 0, none⟩ = some (.int .i64 a0) := (blk_cell BK2.out 0).trans rfl; have hcz2_1 : w62.cell? ⟨gb2, 1, none⟩ = some (.slice A1 cs.length c1) := (blk_cell BK2.out 1).trans rfl; have hcz2_2 : w62.cell? ⟨gb2, 2, none⟩ = some (.slice A2 ts.length c2) := (blk_cell BK2.out 2).trans rfl; have hfz2_0 := blk_frozen BK2.out 0; have hfz2_1 := blk_frozen BK2.out 1; have hfz2_2 := blk_frozen BK2.out 2) | ((with_reducible refine gate_dst (N := 4) rfl ?_); (try (refine gate_guard (by rfl) ?_; dsimp only)); refine box_event ?hg (N := 4) ?hd (cs := #[.int .i64 0, .slice none 0 0, .slice none 0 0]) (t := 28) ?hr ?_; (case hd => rfl); (case hg => rfl); (case hr => first | (go_simp; done) | (go_simp; rfl)); intro gb3 hg w63 hbox hb; have BK3 := Aside0.mk (hbox); have GE3 := Aside0.mk ((by rw [hg]; exact (below_size (by repeat first | exact HB.out | apply below_alloc | apply pw_below_drewN | apply below_drew1)) : w.heap.size ≤ gb3)); have NB2_3 := Aside0.mk ((by rw [hg]; exact Nat.ne_of_lt (blk_lt (g := gb2) (o := .cells #[.int .i64 a0, .slice A1 cs.length c1, .slice A2 ts.length c2] 28 (0, 0)) (by repeat first | exact BK2.out | apply blk_drewN | apply blk_drew | apply blk_alloc)) : gb2 ≠ gb3)); have NB3_2 := Aside0.mk (NB2_3.out.symm); replace BK2 := Aside0.mk (blk_below (g := gb2) (o := .cells #[.int .i64 a0, .slice A1 cs.length c1, .slice A2 ts.length c2] 28 (0, 0)) (by repeat first | exact BK2.out | apply blk_drewN | apply blk_drew | apply blk_alloc) hb); replace HB := Aside0.mk (below_step (by repeat first | exact HB.out | apply below_alloc | apply pw_below_drewN | apply below_drew1) hb); clear hb hbox hg; have hnb2_3 := NB2_3.out; have hnc3_2 := NB3_2.out; have hcz3_0 : w63.cell? ⟨gb3, 0, none⟩ = some (.int .i64 0) := (blk_cell BK3.out 0).trans rfl; have hcz3_1 : w63.cell? ⟨gb3, 1, none⟩ = some (.slice none 0 0) := (blk_cell BK3.out 1).trans rfl; have hcz3_2 : w63.cell? ⟨gb3, 2, none⟩ = some (.slice none 0 0) := (blk_cell BK3.out 2).trans rfl; have hfz3_0 := blk_frozen BK3.out 0; have hfz3_1 := blk_frozen BK3.out 1; have hfz3_2 := blk_frozen BK3.out 2; have hcy2_0 : w63.cell? ⟨gb2, 0, none⟩ = some (.int .i64 a0) := (blk_cell BK2.out 0).trans rfl; have hcy2_1 : w63.cell? ⟨gb2, 1, none⟩ = some (.slice A1 cs.length c1) := (blk_cell BK2.out 1).trans rfl; have hcy2_2 : w63.cell? ⟨gb2, 2, none⟩ = some (.slice A2 ts.length c2) := (blk_cell BK2.out 2).trans rfl; have hfy2_0 := blk_frozen BK2.out 0; have hfy2_1 := blk_frozen BK2.out 1; have hfy2_2 := blk_frozen BK2.out 2) | ((with_reducible refine gate_callee (f := 20) rfl ?_); refine goesL_ (some 11) rfl rfl Tryd.func20 (by kernel_rfl) rfl #[.agg #[.int .i64 a0, .slice A1 cs.length c1, .slice A2 ts.length c2]] rfl (by (try simp only [List.map_toArray, List.map_cons, List.map_nil]); first | done | rfl) ?_; (with_reducible refine (impl_isMem.calls 6201 a0 _ _ cs _ _ ts true _ ?side1 ?side2 ?side3 ?side4 AM.out).mono ?_); (case side1 => (repeat (first | exact (Kd.C_below HR1.out HB.out) | (with_reducible refine Kd.C_alloc ?_ _) | (with_reducible refine Kd.C_drewN ?_ _) | (with_reducible refine Kd.C_drew ?_)))); (case side2 => exact HC1.out); (case side3 => (repeat (first | exact (Kd.C_below HR2.out HB.out) | (with_reducible refine Kd.C_alloc ?_ _) | (with_reducible refine Kd.C_drewN ?_ _) | (with_reducible refine Kd.C_drew ?_)))); (case side4 => exact HC2.out); rintro e w10 ⟨rfl, hb⟩; refine ⟨_, rfl, ?_⟩; replace BK2 := Aside0.mk (blk_below (g := gb2) (o := .cells #[.int .i64 a0, .slice A1 cs.length c1, .slice A2 ts.length c2] 28 (0, 0)) (by repeat first | exact BK2.out | apply blk_drewN | apply blk_drew | apply blk_alloc) hb); replace BK3 := Aside0.mk (blk_below (g := gb3) (o := .cells #[.int .i64 0, .slice none 0 0, .slice none 0 0] 28 (0, 0)) (by repeat first | exact BK3.out | apply blk_drewN | apply blk_drew | apply blk_alloc) hb); replace HB := Aside0.mk (below_step (by repeat first | exact HB.out | apply below_alloc | apply pw_below_drewN | apply below_drew1) hb); clear hb; have hcy2_0 : w10.cell? ⟨gb2, 0, none⟩ = some (.int .i64 a0) := (blk_cell BK2.out 0).trans rfl; have hcy2_1 : w10.cell? ⟨gb2, 1, none⟩ = some (.slice A1 cs.length c1) := (blk_cell BK2.out 1).trans rfl; have hcy2_2 : w10.cell? ⟨gb2, 2, none⟩ = some (.slice A2 ts.length c2) := (blk_cell BK2.out 2).trans rfl; have hfy2_0 := blk_frozen BK2.out 0; have hfy2_1 := blk_frozen BK2.out 1; have hfy2_2 := blk_frozen BK2.out 2; have hcy3_0 : w10.cell? ⟨gb3, 0, none⟩ = some (.int .i64 0) := (blk_cell BK3.out 0).trans rfl; have hcy3_1 : w10.cell? ⟨gb3, 1, none⟩ = some (.slice none 0 0) := (blk_cell BK3.out 1).trans rfl; have hcy3_2 : w10.cell? ⟨gb3, 2, none⟩ = some (.slice none 0 0) := (blk_cell BK3.out 2).trans rfl; have hfy3_0 := blk_frozen BK3.out 0; have hfy3_1 := blk_frozen BK3.out 1; have hfy3_2 := blk_frozen BK3.out 2) | ((with_reducible refine gate_callee (f := 18) rfl ?_); refine goesL_ (some 20) rfl rfl Tryd.func18 (by kernel_rfl) rfl #[.int .i64 a1, .int .i64 0, .int .i64 (wrap64 ((cs.length : Int) - 1))] rfl (by (try simp only [List.map_toArray, List.map_cons, List.map_nil]); first | done | rfl) ?_; (with_reducible refine (impl_within.calls a1 0 (wrap64 ((cs.length : Int) - 1)) true _ AQ.out).mono ?_); rintro e w' ⟨rfl, ⟨nd, rfl⟩⟩; refine ⟨_, rfl, ?_⟩))
    refine bodyPost_ret (results_ctt rfl _ _ gb3 28 #[.int .i64 0, .slice none 0 0, .slice none 0 0] (0, 0) _ rfl (by (with_reducible repeat (first | refine blk_drewN ?_ _ | refine blk_drew ?_ | refine blk_alloc ?_ _)); refine blk_put (cs := #[.int .i64 0, .slice none 0 0, .slice none 0 0]) ?_ 2 _ rfl; (with_reducible repeat (first | refine blk_drewN ?_ _ | refine blk_drew ?_ | refine blk_alloc ?_ _)); refine blk_put (cs := #[.int .i64 0, .slice none 0 0, .slice none 0 0]) ?_ 1 _ rfl; (with_reducible repeat (first | refine blk_drewN ?_ _ | refine blk_drew ?_ | refine blk_alloc ?_ _)); refine blk_put (cs := #[.int .i64 0, .slice none 0 0, .slice none 0 0]) ?_ 0 _ rfl; (with_reducible repeat (first | refine blk_drewN ?_ _ | refine blk_drew ?_ | refine blk_alloc ?_ _)); exact BK3.out) Tryd.underlying28 rfl (by kernel_rfl)) rfl ?_
    exact ⟨_, _, _, by first | rfl | (simp; done) | (simp [*]; done), by first | exact Kd.S_nil _ _ _ _ _ | exact Kd.R_nil _ _ _ _ _, by first | exact Kd.S_nil _ _ _ _ _ | exact Kd.R_nil _ _ _ _ _, by first | exact Kd.S_nil _ _ _ _ _ | exact Kd.R_nil _ _ _ _ _, by repeat (first | (with_reducible first | exact HB.out | apply below_alloc | apply pw_below_drewN | apply below_drew1 | refine below_set ?_ GE2.out | refine below_set ?_ GE3.out | refine below_set ?_ GE4.out) | exact HB.out)⟩
   ·have hfb0 : ((ts.length : Int) == 6000) = false := beq_eq_false_iff_ne.mpr (by omega)
    have hfb1 : ((ts.length : Int) != 6000) = true := bne_iff_ne.mpr (by omega)
    obtain ⟨n, rfl⟩ := Int.eq_ofNat_of_zero_le hq.1
    have AN : Aside0 (n < cs.length) := ⟨by omega⟩
    have AT : Aside0 (ts.length ≤ 1000000) := ⟨by omega⟩
    have AC := Aside0.mk (cloneMem_f a0 cs ts (k := 200) (by omega) (by omega) (memB_all hm) (by omega))
    obtain ⟨cx, hcx⟩ : ∃ cx, cs.getD n z56 = cx := ⟨_, rfl⟩
    have ACX := Aside0.mk hcx
    have ACL : Aside0 (bytes_Clone.f cx.f0 = some cx.f0) := ⟨by unfold bytes_Clone.f; rw [if_pos (by have h := memB_cell hm AN.out; rw [hcx] at h; omega)]⟩
    have hF : memReadF a0 cs ts (n : Int) = (a0, cs, ts ++ [⟨1, (n : Int), a0⟩], cx.f0, 0) := by unfold memReadF; rw [if_pos hm, if_pos hq, if_neg hf, Int.toNat_natCast, hcx]
    rw [hF]
    clear hF hb hw64 hf hcx
    go_enter Tryd.func10, Tryd.ntmps10
    go_wp2_with (first | ((with_reducible refine gate_dst (N := 2) rfl ?_); (try (refine gate_guard (by rfl) ?_; dsimp only)); refine box_event ?hg (N := 2) ?hd (cs := #[.int .i64 a0, .slice A1 cs.length c1, .slice A2 ts.length c2]) (t := 28) ?hr ?_; (case hd => rfl); (case hg => rfl); (case hr => first | (go_simp; done) | (go_simp; rfl)); intro gb2 hg w62 hbox hb; have BK2 := Aside0.mk (hbox); have GE2 := Aside0.mk ((by rw [hg]; exact (below_size (by repeat first | exact HB.out | apply below_alloc | apply pw_below_drewN | apply below_drew1)) : w.heap.size ≤ gb2)); replace HB := Aside0.mk (below_step (by repeat first | exact HB.out | apply below_alloc | apply pw_below_drewN | apply below_drew1) hb); clear hb hbox hg; have hcz2_0 : w62.cell? ⟨gb2, 0, none⟩ = some (.int .i64 a0) := (blk_cell BK2.out 0).trans rfl; have hcz2_1 : w62.cell? ⟨gb2, 1, none⟩ = some (.slice A1 cs.length c1) := (blk_cell BK2.out 1).trans rfl; have hcz2_2 : w62.cell? ⟨gb2, 2, none⟩ = some (.slice A2 ts.length c2) := (blk_cell BK2.out 2).trans rfl; have hfz2_0 := blk_frozen BK2.out 0; have hfz2_1 := blk_frozen BK2.out 1; have hfz2_2 := blk_frozen BK2.out 2) | ((with_reducible refine gate_dst (N := 4) rfl ?_); (try (refine gate_guard (by rfl) ?_; dsimp only)); refine box_event ?hg (N := 4) ?hd (cs := #[.int .i64 0, .slice none 0 0, .slice none 0 0]) (t := 28) ?hr ?_; (case hd => rfl); (case hg => rfl); (case hr => first | (go_simp; done) | (go_simp; rfl)); intro gb3 hg w63 hbox hb; have BK3 := Aside0.mk (hbox); have GE3 := Aside0.mk ((by rw [hg]; exact (below_size (by repeat first | exact HB.out | apply below_alloc | apply pw_below_drewN | apply below_drew1)) : w.heap.size ≤ gb3)); have NB2_3 := Aside0.mk ((by rw [hg]; exact Nat.ne_of_lt (blk_lt (g := gb2) (o := .cells #[.int .i64 a0, .slice A1 cs.length c1, .slice A2 ts.length c2] 28 (0, 0)) (by repeat first | exact BK2.out | apply blk_drewN | apply blk_drew | apply blk_alloc)) : gb2 ≠ gb3)); have NB3_2 := Aside0.mk (NB2_3.out.symm); replace BK2 := Aside0.mk (blk_below (g := gb2) (o := .cells #[.int .i64 a0, .slice A1 cs.length c1, .slice A2 ts.length c2] 28 (0, 0)) (by repeat first | exact BK2.out | apply blk_drewN | apply blk_drew | apply blk_alloc) hb); replace HB := Aside0.mk (below_step (by repeat first | exact HB.out | apply below_alloc | apply pw_below_drewN | apply below_drew1) hb); clear hb hbox hg; have hnb2_3 := NB2_3.out; have hnc3_2 := NB3_2.out; have hcz3_0 : w63.cell? ⟨gb3, 0, none⟩ = some (.int .i64 0) := (blk_cell BK3.out 0).trans rfl; have hcz3_1 : w63.cell? ⟨gb3, 1, none⟩ = some (.slice none 0 0) := (blk_cell BK3.out 1).trans rfl; have hcz3_2 : w63.cell? ⟨gb3, 2, none⟩ = some (.slice none 0 0) := (blk_cell BK3.out 2).trans rfl; have hfz3_0 := blk_frozen BK3.out 0; have hfz3_1 := blk_frozen BK3.out 1; have hfz3_2 := blk_frozen BK3.out 2; have hcy2_0 : w63.cell? ⟨gb2, 0, none⟩ = some (.int .i64 a0) := (blk_cell BK2.out 0).trans rfl; have hcy2_1 : w63.cell? ⟨gb2, 1, none⟩ = some (.slice A1 cs.length c1) := (blk_cell BK2.out 1).trans rfl; have hcy2_2 : w63.cell? ⟨gb2, 2, none⟩ = some (.slice A2 ts.length c2) := (blk_cell BK2.out 2).trans rfl; have hfy2_0 := blk_frozen BK2.out 0; have hfy2_1 := blk_frozen BK2.out 1; have hfy2_2 := blk_frozen BK2.out 2) | ((with_reducible refine gate_callee (f := 20) rfl ?_); refine goesL_ (some 11) rfl rfl Tryd.func20 (by kernel_rfl) rfl #[.agg #[.int .i64 a0, .slice A1 cs.length c1, .slice A2 ts.length c2]] rfl (by (try simp only [List.map_toArray, List.map_cons, List.map_nil]); first | done | rfl) ?_; (with_reducible refine (impl_isMem.calls 6201 a0 _ _ cs _ _ ts true _ ?side1 ?side2 ?side3 ?side4 AM.out).mono ?_); (case side1 => (repeat (first | exact (Kd.C_below HR1.out HB.out) | (with_reducible refine Kd.C_alloc ?_ _) | (with_reducible refine Kd.C_drewN ?_ _) | (with_reducible refine Kd.C_drew ?_)))); (case side2 => exact HC1.out); (case side3 => (repeat (first | exact (Kd.C_below HR2.out HB.out) | (with_reducible refine Kd.C_alloc ?_ _) | (with_reducible refine Kd.C_drewN ?_ _) | (with_reducible refine Kd.C_drew ?_)))); (case side4 => exact HC2.out); rintro e w10 ⟨rfl, hb⟩; refine ⟨_, rfl, ?_⟩; replace BK2 := Aside0.mk (blk_below (g := gb2) (o := .cells #[.int .i64 a0, .slice A1 cs.length c1, .slice A2 ts.length c2] 28 (0, 0)) (by repeat first | exact BK2.out | apply blk_drewN | apply blk_drew | apply blk_alloc) hb); replace BK3 := Aside0.mk (blk_below (g := gb3) (o := .cells #[.int .i64 0, .slice none 0 0, .slice none 0 0] 28 (0, 0)) (by repeat first | exact BK3.out | apply blk_drewN | apply blk_drew | apply blk_alloc) hb); replace HB := Aside0.mk (below_step (by repeat first | exact HB.out | apply below_alloc | apply pw_below_drewN | apply below_drew1) hb); clear hb; have hcy2_0 : w10.cell? ⟨gb2, 0, none⟩ = some (.int .i64 a0) := (blk_cell BK2.out 0).trans rfl; have hcy2_1 : w10.cell? ⟨gb2, 1, none⟩ = some (.slice A1 cs.length c1) := (blk_cell BK2.out 1).trans rfl; have hcy2_2 : w10.cell? ⟨gb2, 2, none⟩ = some (.slice A2 ts.length c2) := (blk_cell BK2.out 2).trans rfl; have hfy2_0 := blk_frozen BK2.out 0; have hfy2_1 := blk_frozen BK2.out 1; have hfy2_2 := blk_frozen BK2.out 2; have hcy3_0 : w10.cell? ⟨gb3, 0, none⟩ = some (.int .i64 0) := (blk_cell BK3.out 0).trans rfl; have hcy3_1 : w10.cell? ⟨gb3, 1, none⟩ = some (.slice none 0 0) := (blk_cell BK3.out 1).trans rfl; have hcy3_2 : w10.cell? ⟨gb3, 2, none⟩ = some (.slice none 0 0) := (blk_cell BK3.out 2).trans rfl; have hfy3_0 := blk_frozen BK3.out 0; have hfy3_1 := blk_frozen BK3.out 1; have hfy3_2 := blk_frozen BK3.out 2) | ((with_reducible refine gate_callee (f := 18) rfl ?_); refine goesL_ (some 20) rfl rfl Tryd.func18 (by kernel_rfl) rfl #[.int .i64 (n : Int), .int .i64 0, .int .i64 (wrap64 ((cs.length : Int) - 1))] rfl (by (try simp only [List.map_toArray, List.map_cons, List.map_nil]); first | done | rfl) ?_; (with_reducible refine (impl_within.calls (n : Int) 0 (wrap64 ((cs.length : Int) - 1)) true _ AQ.out).mono ?_); rintro e w' ⟨rfl, ⟨nd, rfl⟩⟩; refine ⟨_, rfl, ?_⟩) | ((with_reducible refine gate_callee (f := 21) rfl ?_); refine goesL_ (some 30) rfl rfl Tryd.func21 (by kernel_rfl) rfl #[.agg #[.int .i64 a0, .slice A1 cs.length c1, .slice A2 ts.length c2]] rfl (by (try simp only [List.map_toArray, List.map_cons, List.map_nil]); first | done | rfl) ?_; (with_reducible refine (impl_cloneMem.calls 200 a0 _ _ cs _ _ ts a0 cs ts _ ?side1 ?side2 ?side3 ?side4 AC.out).mono ?_); (case side1 => (repeat (first | exact (Kd.C_below HR1.out HB.out) | (with_reducible refine Kd.C_alloc ?_ _) | (with_reducible refine Kd.C_drewN ?_ _) | (with_reducible refine Kd.C_drew ?_)))); (case side2 => exact HC1.out); (case side3 => (repeat (first | exact (Kd.C_below HR2.out HB.out) | (with_reducible refine Kd.C_alloc ?_ _) | (with_reducible refine Kd.C_drewN ?_ _) | (with_reducible refine Kd.C_drew ?_)))); (case side4 => exact HC2.out); rintro e w28 ⟨v207, v210, rfl, ho0, ho1, hb⟩; obtain ⟨D1, d1, rfl⟩ := Kd.S_slice ho0; obtain ⟨D2, d2, rfl⟩ := Kd.R_slice ho1; refine ⟨_, rfl, ?_⟩; have HS := Aside0.mk (Kd.S_lower ho0 (below_size (by repeat first | exact HB.out | apply below_alloc | apply pw_below_drewN | apply below_drew1))); have HR := Aside0.mk (Kd.R_lower ho1 (below_size (by repeat first | exact HB.out | apply below_alloc | apply pw_below_drewN | apply below_drew1))); replace BK2 := Aside0.mk (blk_below (g := gb2) (o := .cells #[.int .i64 a0, .slice A1 cs.length c1, .slice A2 ts.length c2] 28 (0, 0)) (by repeat first | exact BK2.out | apply blk_drewN | apply blk_drew | apply blk_alloc) hb); replace BK3 := Aside0.mk (blk_below (g := gb3) (o := .cells #[.int .i64 0, .slice none 0 0, .slice none 0 0] 28 (0, 0)) (by repeat first | exact BK3.out | apply blk_drewN | apply blk_drew | apply blk_alloc) hb); replace HB := Aside0.mk (below_step (by repeat first | exact HB.out | apply below_alloc | apply pw_below_drewN | apply below_drew1) hb); clear hb ho0 ho1; have hcy2_0 : w28.cell? ⟨gb2, 0, none⟩ = some (.int .i64 a0) := (blk_cell BK2.out 0).trans rfl; have hcy2_1 : w28.cell? ⟨gb2, 1, none⟩ = some (.slice A1 cs.length c1) := (blk_cell BK2.out 1).trans rfl; have hcy2_2 : w28.cell? ⟨gb2, 2, none⟩ = some (.slice A2 ts.length c2) := (blk_cell BK2.out 2).trans rfl; have hfy2_0 := blk_frozen BK2.out 0; have hfy2_1 := blk_frozen BK2.out 1; have hfy2_2 := blk_frozen BK2.out 2; have hcy3_0 : w28.cell? ⟨gb3, 0, none⟩ = some (.int .i64 0) := (blk_cell BK3.out 0).trans rfl; have hcy3_1 : w28.cell? ⟨gb3, 1, none⟩ = some (.slice none 0 0) := (blk_cell BK3.out 1).trans rfl; have hcy3_2 : w28.cell? ⟨gb3, 2, none⟩ = some (.slice none 0 0) := (blk_cell BK3.out 2).trans rfl; have hfy3_0 := blk_frozen BK3.out 0; have hfy3_1 := blk_frozen BK3.out 1; have hfy3_2 := blk_frozen BK3.out 2) | ((with_reducible refine gate_dst (N := 7) rfl ?_); (try (refine gate_guard (by rfl) ?_; dsimp only)); refine box_event ?hg (N := 7) ?hd (cs := #[.int .i64 0, .slice none 0 0, .slice none 0 0]) (t := 28) ?hr ?_; (case hd => rfl); (case hg => rfl); (case hr => first | (go_simp; done) | (go_simp; rfl)); intro gb4 hg w64 hbox hb; have BK4 := Aside0.mk (hbox); have GE4 := Aside0.mk ((by rw [hg]; exact (below_size (by repeat first | exact HB.out | apply below_alloc | apply pw_below_drewN | apply below_drew1)) : w.heap.size ≤ gb4)); have NB2_4 := Aside0.mk ((by rw [hg]; exact Nat.ne_of_lt (blk_lt (g := gb2) (o := .cells #[.int .i64 a0, .slice A1 cs.length c1, .slice A2 ts.length c2] 28 (0, 0)) (by repeat first | exact BK2.out | apply blk_drewN | apply blk_drew | apply blk_alloc)) : gb2 ≠ gb4)); have NB4_2 := Aside0.mk (NB2_4.out.symm); have NB3_4 := Aside0.mk ((by rw [hg]; exact Nat.ne_of_lt (blk_lt (g := gb3) (o := .cells #[.int .i64 0, .slice none 0 0, .slice none 0 0] 28 (0, 0)) (by repeat first | exact BK3.out | apply blk_drewN | apply blk_drew | apply blk_alloc)) : gb3 ≠ gb4)); have NB4_3 := Aside0.mk (NB3_4.out.symm); replace BK2 := Aside0.mk (blk_below (g := gb2) (o := .cells #[.int .i64 a0, .slice A1 cs.length c1, .slice A2 ts.length c2] 28 (0, 0)) (by repeat first | exact BK2.out | apply blk_drewN | apply blk_drew | apply blk_alloc) hb); replace BK3 := Aside0.mk (blk_below (g := gb3) (o := .cells #[.int .i64 0, .slice none 0 0, .slice none 0 0] 28 (0, 0)) (by repeat first | exact BK3.out | apply blk_drewN | apply blk_drew | apply blk_alloc) hb); replace HS := Aside0.mk (Kd.S_below (by exact HS.out) hb); replace HR := Aside0.mk (Kd.R_below (by exact HR.out) hb); replace HB := Aside0.mk (below_step (by repeat first | exact HB.out | apply below_alloc | apply pw_below_drewN | apply below_drew1) hb); clear hb hbox hg; have hnb2_4 := NB2_4.out; have hnc4_2 := NB4_2.out; have hnb3_4 := NB3_4.out; have hnc4_3 := NB4_3.out; have hcz4_0 : w64.cell? ⟨gb4, 0, none⟩ = some (.int .i64 0) := (blk_cell BK4.out 0).trans rfl; have hcz4_1 : w64.cell? ⟨gb4, 1, none⟩ = some (.slice none 0 0) := (blk_cell BK4.out 1).trans rfl; have hcz4_2 : w64.cell? ⟨gb4, 2, none⟩ = some (.slice none 0 0) := (blk_cell BK4.out 2).trans rfl; have hfz4_0 := blk_frozen BK4.out 0; have hfz4_1 := blk_frozen BK4.out 1; have hfz4_2 := blk_frozen BK4.out 2; have hcy2_0 : w64.cell? ⟨gb2, 0, none⟩ = some (.int .i64 a0) := (blk_cell BK2.out 0).trans rfl; have hcy2_1 : w64.cell? ⟨gb2, 1, none⟩ = some (.slice A1 cs.length c1) := (blk_cell BK2.out 1).trans rfl; have hcy2_2 : w64.cell? ⟨gb2, 2, none⟩ = some (.slice A2 ts.length c2) := (blk_cell BK2.out 2).trans rfl; have hfy2_0 := blk_frozen BK2.out 0; have hfy2_1 := blk_frozen BK2.out 1; have hfy2_2 := blk_frozen BK2.out 2; have hcy3_0 : w64.cell? ⟨gb3, 0, none⟩ = some (.int .i64 0) := (blk_cell BK3.out 0).trans rfl; have hcy3_1 : w64.cell? ⟨gb3, 1, none⟩ = some (.slice none 0 0) := (blk_cell BK3.out 1).trans rfl; have hcy3_2 : w64.cell? ⟨gb3, 2, none⟩ = some (.slice none 0 0) := (blk_cell BK3.out 2).trans rfl; have hfy3_0 := blk_frozen BK3.out 0; have hfy3_1 := blk_frozen BK3.out 1; have hfy3_2 := blk_frozen BK3.out 2) | ((with_reducible refine gate_callee (f := 24) rfl ?_); refine goesL_ (some 32) rfl rfl Tryd.func24 (by kernel_rfl) rfl #[.pointer (some ⟨gb4, 0, none⟩), .int .i64 (n : Int)] rfl (by (try simp only [List.map_toArray, List.map_cons, List.map_nil]); first | done | rfl) ?_; refine (memRead_calls (fun _ => True) a0 cs ts n AN.out AT.out gb4 D1 d1 D2 d2 cx ACX.out w _ ?sB ?sg ?sbk ?sS ?sR).mono ?_; (case sB => exact (by repeat (first | (with_reducible first | exact HB.out | apply below_alloc | apply pw_below_drewN | apply below_drew1 | refine below_set ?_ GE2.out | refine below_set ?_ GE3.out | refine below_set ?_ GE4.out) | exact HB.out))); (case sg => exact GE4.out); (case sbk => exact (by (with_reducible repeat (first | refine blk_drewN ?_ _ | refine blk_drew ?_ | refine blk_alloc ?_ _)); refine blk_put (cs := #[.int .i64 a0, .slice D1 cs.length d1, .slice none 0 0]) ?_ 2 _ rfl; (with_reducible repeat (first | refine blk_drewN ?_ _ | refine blk_drew ?_ | refine blk_alloc ?_ _)); refine blk_put (cs := #[.int .i64 a0, .slice none 0 0, .slice none 0 0]) ?_ 1 _ rfl; (with_reducible repeat (first | refine blk_drewN ?_ _ | refine blk_drew ?_ | refine blk_alloc ?_ _)); refine blk_put (cs := #[.int .i64 0, .slice none 0 0, .slice none 0 0]) ?_ 0 _ rfl; exact BK4.out)); (case sS => exact (by (with_reducible repeat (first | apply Kd.S_alloc | apply Kd.S_drewN | apply Kd.S_drew)); exact Kd.S_mono (Kd.S_far (p := ⟨gb4, 2, none⟩) (Kd.S_far (p := ⟨gb4, 1, none⟩) (Kd.S_far (p := ⟨gb4, 0, none⟩) (Kd.S_types HS.out BK4.out (by decide)) (fun _ hk => hk.2) (.int .i64 a0)) (fun _ hk => hk.2) (.slice D1 cs.length d1)) (fun _ hk => hk.2) (.slice D2 ts.length d2)) (fun _ _ => trivial))); (case sR => exact (by (with_reducible repeat (first | apply Kd.R_alloc | apply Kd.R_drewN | apply Kd.R_drew)); exact Kd.R_mono (Kd.R_far (p := ⟨gb4, 2, none⟩) (Kd.R_far (p := ⟨gb4, 1, none⟩) (Kd.R_far (p := ⟨gb4, 0, none⟩) (Kd.R_types HR.out BK4.out (by decide)) (fun _ hk => hk.2) (.int .i64 a0)) (fun _ hk => hk.2) (.slice D1 cs.length d1)) (fun _ hk => hk.2) (.slice D2 ts.length d2)) (fun _ _ => trivial))); rintro e w30 ⟨E2, e2, F2, f2, rfl, hbk4, hS4, hR4, hle, hC, hB4, hK⟩; refine ⟨_, rfl, ?_⟩; have n2_ : Aside0 (w30.heap[gb2]? = some (.cells #[.int .i64 a0, .slice A1 cs.length c1, .slice A2 ts.length c2] 28 (0, 0))) := ⟨hK gb2 _ _ NB2_4.out (by decide) (by decide) (by (with_reducible repeat (first | refine blk_drewN ?_ _ | refine blk_drew ?_ | refine blk_alloc ?_ _)); refine blk_far ?_ NB2_4.out _; (with_reducible repeat (first | refine blk_drewN ?_ _ | refine blk_drew ?_ | refine blk_alloc ?_ _)); refine blk_far ?_ NB2_4.out _; (with_reducible repeat (first | refine blk_drewN ?_ _ | refine blk_drew ?_ | refine blk_alloc ?_ _)); refine blk_far ?_ NB2_4.out _; exact BK2.out)⟩; have n3_ : Aside0 (w30.heap[gb3]? = some (.cells #[.int .i64 0, .slice none 0 0, .slice none 0 0] 28 (0, 0))) := ⟨hK gb3 _ _ NB3_4.out (by decide) (by decide) (by (with_reducible repeat (first | refine blk_drewN ?_ _ | refine blk_drew ?_ | refine blk_alloc ?_ _)); refine blk_far ?_ NB3_4.out _; (with_reducible repeat (first | refine blk_drewN ?_ _ | refine blk_drew ?_ | refine blk_alloc ?_ _)); refine blk_far ?_ NB3_4.out _; (with_reducible repeat (first | refine blk_drewN ?_ _ | refine blk_drew ?_ | refine blk_alloc ?_ _)); refine blk_far ?_ NB3_4.out _; exact BK3.out)⟩; clear BK2 BK3; have BK2 := n2_; have BK3 := n3_; clear n2_ n3_; clear BK4 HS HR HB hK; have BK4 : Aside0 (w30.heap[gb4]? = some (.cells #[.int .i64 a0, .slice D1 cs.length d1, .slice E2 (ts.length + 1) e2] 28 (0, 0))) := ⟨hbk4⟩; have HS := Aside0.mk hS4; have HR := Aside0.mk hR4; have HLE := Aside0.mk hle; have HCB := Aside0.mk hC; have HB := Aside0.mk hB4; clear hbk4 hS4 hR4 hle hC hB4; have hcy3_0 : w30.cell? ⟨gb3, 0, none⟩ = some (.int .i64 0) := (blk_cell BK3.out 0).trans rfl; have hcy3_1 : w30.cell? ⟨gb3, 1, none⟩ = some (.slice none 0 0) := (blk_cell BK3.out 1).trans rfl; have hcy3_2 : w30.cell? ⟨gb3, 2, none⟩ = some (.slice none 0 0) := (blk_cell BK3.out 2).trans rfl; have hfy3_0 := blk_frozen BK3.out 0; have hfy3_1 := blk_frozen BK3.out 1; have hfy3_2 := blk_frozen BK3.out 2; have hcy4_0 : w30.cell? ⟨gb4, 0, none⟩ = some (.int .i64 a0) := (blk_cell BK4.out 0).trans rfl; have hcy4_1 : w30.cell? ⟨gb4, 1, none⟩ = some (.slice D1 cs.length d1) := (blk_cell BK4.out 1).trans rfl; have hcy4_2 : w30.cell? ⟨gb4, 2, none⟩ = some (.slice E2 (ts.length + 1) e2) := (blk_cell BK4.out 2).trans rfl; have hfy4_0 := blk_frozen BK4.out 0; have hfy4_1 := blk_frozen BK4.out 1; have hfy4_2 := blk_frozen BK4.out 2) | ((with_reducible refine gate_callee (f := 23) rfl ?_); refine goesL_ (some 33) rfl rfl Tryd.func23 (by kernel_rfl) rfl #[.slice F2 cx.f0.length f2] rfl (by (try simp only [List.map_toArray, List.map_cons, List.map_nil]); first | done | rfl) ?_; refine (bytes_Clone.calls F2 f2 cx.f0 cx.f0 _ ?sC HLE.out ACL.out).mono ?_; (case sC => repeat (first | exact HCB.out | (with_reducible refine Kd.C_alloc ?_ _) | (with_reducible refine Kd.C_drewN ?_ _) | (with_reducible refine Kd.C_drew ?_))); rintro e w32 ⟨v32, rfl, ho0, hb⟩; refine ⟨_, rfl, ?_⟩; have HV := Aside0.mk (Kd.R_lower ho0 (below_size (by repeat first | exact HB.out | apply below_alloc | apply pw_below_drewN | apply below_drew1))); replace HS := Aside0.mk (Kd.S_elder' (by exact HS.out) (Kd.R_base ho0) hb); replace HR := Aside0.mk (Kd.R_below (by exact HR.out) hb); replace BK2 := Aside0.mk (blk_below (g := gb2) (o := .cells #[.int .i64 a0, .slice A1 cs.length c1, .slice A2 ts.length c2] 28 (0, 0)) (by repeat first | exact BK2.out | apply blk_drewN | apply blk_drew | apply blk_alloc) hb); replace BK3 := Aside0.mk (blk_below (g := gb3) (o := .cells #[.int .i64 0, .slice none 0 0, .slice none 0 0] 28 (0, 0)) (by repeat first | exact BK3.out | apply blk_drewN | apply blk_drew | apply blk_alloc) hb); replace BK4 := Aside0.mk (blk_below (g := gb4) (o := .cells #[.int .i64 a0, .slice D1 cs.length d1, .slice E2 (ts.length + 1) e2] 28 (0, 0)) (by repeat first | exact BK4.out | apply blk_drewN | apply blk_drew | apply blk_alloc) hb); replace HB := Aside0.mk (below_step (by repeat first | exact HB.out | apply below_alloc | apply pw_below_drewN | apply below_drew1) hb); clear ho0 hb; have hcy3_0 : w32.cell? ⟨gb3, 0, none⟩ = some (.int .i64 0) := (blk_cell BK3.out 0).trans rfl; have hcy3_1 : w32.cell? ⟨gb3, 1, none⟩ = some (.slice none 0 0) := (blk_cell BK3.out 1).trans rfl; have hcy3_2 : w32.cell? ⟨gb3, 2, none⟩ = some (.slice none 0 0) := (blk_cell BK3.out 2).trans rfl; have hfy3_0 := blk_frozen BK3.out 0; have hfy3_1 := blk_frozen BK3.out 1; have hfy3_2 := blk_frozen BK3.out 2; have hcy4_0 : w32.cell? ⟨gb4, 0, none⟩ = some (.int .i64 a0) := (blk_cell BK4.out 0).trans rfl; have hcy4_1 : w32.cell? ⟨gb4, 1, none⟩ = some (.slice D1 cs.length d1) := (blk_cell BK4.out 1).trans rfl; have hcy4_2 : w32.cell? ⟨gb4, 2, none⟩ = some (.slice E2 (ts.length + 1) e2) := (blk_cell BK4.out 2).trans rfl; have hfy4_0 := blk_frozen BK4.out 0; have hfy4_1 := blk_frozen BK4.out 1; have hfy4_2 := blk_frozen BK4.out 2))
    refine bodyPost_ret (results_ctt rfl _ _ gb3 28 #[.int .i64 a0, .slice D1 cs.length d1, .slice E2 (ts.length + 1) e2] (0, 0) _ rfl (by (with_reducible repeat (first | refine blk_drewN ?_ _ | refine blk_drew ?_ | refine blk_alloc ?_ _)); refine blk_put (cs := #[.int .i64 a0, .slice D1 cs.length d1, .slice none 0 0]) ?_ 2 _ rfl; (with_reducible repeat (first | refine blk_drewN ?_ _ | refine blk_drew ?_ | refine blk_alloc ?_ _)); refine blk_put (cs := #[.int .i64 a0, .slice none 0 0, .slice none 0 0]) ?_ 1 _ rfl; (with_reducible repeat (first | refine blk_drewN ?_ _ | refine blk_drew ?_ | refine blk_alloc ?_ _)); refine blk_put (cs := #[.int .i64 0, .slice none 0 0, .slice none 0 0]) ?_ 0 _ rfl; exact BK3.out) Tryd.underlying28 rfl (by kernel_rfl)) rfl ?_
    exact ⟨_, _, _, by first | rfl | (simp; done) | (simp [*]; done), by (with_reducible repeat (first | apply Kd.S_alloc | apply Kd.S_drewN | apply Kd.S_drew)); exact Kd.S_mono (Kd.S_far (p := ⟨gb3, 2, none⟩) (Kd.S_far (p := ⟨gb3, 1, none⟩) (Kd.S_far (p := ⟨gb3, 0, none⟩) (Kd.S_types HS.out BK3.out (by decide)) (fun _ hk => hk.2) (.int .i64 a0)) (fun _ hk => hk.2) (.slice D1 cs.length d1)) (fun _ hk => hk.2) (.slice E2 (ts.length + 1) e2)) (fun _ hk => hk.1.2), by (with_reducible repeat (first | apply Kd.R_alloc | apply Kd.R_drewN | apply Kd.R_drew)); exact Kd.R_mono (Kd.R_far (p := ⟨gb3, 2, none⟩) (Kd.R_far (p := ⟨gb3, 1, none⟩) (Kd.R_far (p := ⟨gb3, 0, none⟩) (Kd.R_types HR.out BK3.out (by decide)) (fun _ hk => hk.2) (.int .i64 a0)) (fun _ hk => hk.2) (.slice D1 cs.length d1)) (fun _ hk => hk.2) (.slice E2 (ts.length + 1) e2)) (fun _ _ => trivial), by (with_reducible repeat (first | apply Kd.R_alloc | apply Kd.R_drewN | apply Kd.R_drew)); exact Kd.R_mono (Kd.R_far (p := ⟨gb3, 2, none⟩) (Kd.R_far (p := ⟨gb3, 1, none⟩) (Kd.R_far (p := ⟨gb3, 0, none⟩) (Kd.R_types HV.out BK3.out (by decide)) (fun _ hk => hk.2) (.int .i64 a0)) (fun _ hk => hk.2) (.slice D1 cs.length d1)) (fun _ hk => hk.2) (.slice E2 (ts.length + 1) e2)) (fun _ _ => trivial), by repeat (first | (with_reducible first | exact HB.out | apply below_alloc | apply pw_below_drewN | apply below_drew1 | refine below_set ?_ GE2.out | refine below_set ?_ GE3.out | refine below_set ?_ GE4.out) | exact HB.out)⟩
  ·have AQ : Aside0 (impl_within.f a1 0 (wrap64 ((cs.length : Int) - 1)) = some false) := ⟨by rw [within_f, hw64, decide_eq_false (by omega)]⟩
   clear hb hw64
   have hF : memReadF a0 cs ts a1 = (0, [], [], [], 2) := by unfold memReadF; rw [if_pos hm, if_neg hq]
   rw [hF]
   clear hF
   go_enter Tryd.func10, Tryd.ntmps10
   go_wp2_with (first | ((with_reducible refine gate_dst (N := 2) rfl ?_); (try (refine gate_guard (by rfl) ?_; dsimp only)); refine box_event ?hg (N := 2) ?hd (cs := #[.int .i64 a0, .slice A1 cs.length c1, .slice A2 ts.length c2]) (t := 28) ?hr ?_; (case hd => rfl); (case hg => rfl); (case hr => first | (go_simp; done) | (go_simp; rfl)); intro gb2 hg w62 hbox hb; have BK2 := Aside0.mk (hbox); have GE2 := Aside0.mk ((by rw [hg]; exact (below_size (by repeat first | exact HB.out | apply below_alloc | apply pw_below_drewN | apply below_drew1)) : w.heap.size ≤ gb2)); replace HB := Aside0.mk (below_step (by repeat first | exact HB.out | apply below_alloc | apply pw_below_drewN | apply below_drew1) hb); clear hb hbox hg; have hcz2_0 : w62.cell? ⟨gb2, 0, none⟩ = some (.int .i64 a0) := (blk_cell BK2.out 0).trans rfl; have hcz2_1 : w62.cell? ⟨gb2, 1, none⟩ = some (.slice A1 cs.length c1) := (blk_cell BK2.out 1).trans rfl; have hcz2_2 : w62.cell? ⟨gb2, 2, none⟩ = some (.slice A2 ts.length c2) := (blk_cell BK2.out 2).trans rfl; have hfz2_0 := blk_frozen BK2.out 0; have hfz2_1 := blk_frozen BK2.out 1; have hfz2_2 := blk_frozen BK2.out 2) | ((with_reducible refine gate_dst (N := 4) rfl ?_); (try (refine gate_guard (by rfl) ?_; dsimp only)); refine box_event ?hg (N := 4) ?hd (cs := #[.int .i64 0, .slice none 0 0, .slice none 0 0]) (t := 28) ?hr ?_; (case hd => rfl); (case hg => rfl); (case hr => first | (go_simp; done) | (go_simp; rfl)); intro gb3 hg w63 hbox hb; have BK3 := Aside0.mk (hbox); have GE3 := Aside0.mk ((by rw [hg]; exact (below_size (by repeat first | exact HB.out | apply below_alloc | apply pw_below_drewN | apply below_drew1)) : w.heap.size ≤ gb3)); have NB2_3 := Aside0.mk ((by rw [hg]; exact Nat.ne_of_lt (blk_lt (g := gb2) (o := .cells #[.int .i64 a0, .slice A1 cs.length c1, .slice A2 ts.length c2] 28 (0, 0)) (by repeat first | exact BK2.out | apply blk_drewN | apply blk_drew | apply blk_alloc)) : gb2 ≠ gb3)); have NB3_2 := Aside0.mk (NB2_3.out.symm); replace BK2 := Aside0.mk (blk_below (g := gb2) (o := .cells #[.int .i64 a0, .slice A1 cs.length c1, .slice A2 ts.length c2] 28 (0, 0)) (by repeat first | exact BK2.out | apply blk_drewN | apply blk_drew | apply blk_alloc) hb); replace HB := Aside0.mk (below_step (by repeat first | exact HB.out | apply below_alloc | apply pw_below_drewN | apply below_drew1) hb); clear hb hbox hg; have hnb2_3 := NB2_3.out; have hnc3_2 := NB3_2.out; have hcz3_0 : w63.cell? ⟨gb3, 0, none⟩ = some (.int .i64 0) := (blk_cell BK3.out 0).trans rfl; have hcz3_1 : w63.cell? ⟨gb3, 1, none⟩ = some (.slice none 0 0) := (blk_cell BK3.out 1).trans rfl; have hcz3_2 : w63.cell? ⟨gb3, 2, none⟩ = some (.slice none 0 0) := (blk_cell BK3.out 2).trans rfl; have hfz3_0 := blk_frozen BK3.out 0; have hfz3_1 := blk_frozen BK3.out 1; have hfz3_2 := blk_frozen BK3.out 2; have hcy2_0 : w63.cell? ⟨gb2, 0, none⟩ = some (.int .i64 a0) := (blk_cell BK2.out 0).trans rfl; have hcy2_1 : w63.cell? ⟨gb2, 1, none⟩ = some (.slice A1 cs.length c1) := (blk_cell BK2.out 1).trans rfl; have hcy2_2 : w63.cell? ⟨gb2, 2, none⟩ = some (.slice A2 ts.length c2) := (blk_cell BK2.out 2).trans rfl; have hfy2_0 := blk_frozen BK2.out 0; have hfy2_1 := blk_frozen BK2.out 1; have hfy2_2 := blk_frozen BK2.out 2) | ((with_reducible refine gate_callee (f := 20) rfl ?_); refine goesL_ (some 11) rfl rfl Tryd.func20 (by kernel_rfl) rfl #[.agg #[.int .i64 a0, .slice A1 cs.length c1, .slice A2 ts.length c2]] rfl (by (try simp only [List.map_toArray, List.map_cons, List.map_nil]); first | done | rfl) ?_; (with_reducible refine (impl_isMem.calls 6201 a0 _ _ cs _ _ ts true _ ?side1 ?side2 ?side3 ?side4 AM.out).mono ?_); (case side1 => (repeat (first | exact (Kd.C_below HR1.out HB.out) | (with_reducible refine Kd.C_alloc ?_ _) | (with_reducible refine Kd.C_drewN ?_ _) | (with_reducible refine Kd.C_drew ?_)))); (case side2 => exact HC1.out); (case side3 => (repeat (first | exact (Kd.C_below HR2.out HB.out) | (with_reducible refine Kd.C_alloc ?_ _) | (with_reducible refine Kd.C_drewN ?_ _) | (with_reducible refine Kd.C_drew ?_)))); (case side4 => exact HC2.out); rintro e w10 ⟨rfl, hb⟩; refine ⟨_, rfl, ?_⟩; replace BK2 := Aside0.mk (blk_below (g := gb2) (o := .cells #[.int .i64 a0, .slice A1 cs.length c1, .slice A2 ts.length c2] 28 (0, 0)) (by repeat first | exact BK2.out | apply blk_drewN | apply blk_drew | apply blk_alloc) hb); replace BK3 := Aside0.mk (blk_below (g := gb3) (o := .cells #[.int .i64 0, .slice none 0 0, .slice none 0 0] 28 (0, 0)) (by repeat first | exact BK3.out | apply blk_drewN | apply blk_drew | apply blk_alloc) hb); replace HB := Aside0.mk (below_step (by repeat first | exact HB.out | apply below_alloc | apply pw_below_drewN | apply below_drew1) hb); clear hb; have hcy2_0 : w10.cell? ⟨gb2, 0, none⟩ = some (.int .i64 a0) := (blk_cell BK2.out 0).trans rfl; have hcy2_1 : w10.cell? ⟨gb2, 1, none⟩ = some (.slice A1 cs.length c1) := (blk_cell BK2.out 1).trans rfl; have hcy2_2 : w10.cell? ⟨gb2, 2, none⟩ = some (.slice A2 ts.length c2) := (blk_cell BK2.out 2).trans rfl; have hfy2_0 := blk_frozen BK2.out 0; have hfy2_1 := blk_frozen BK2.out 1; have hfy2_2 := blk_frozen BK2.out 2; have hcy3_0 : w10.cell? ⟨gb3, 0, none⟩ = some (.int .i64 0) := (blk_cell BK3.out 0).trans rfl; have hcy3_1 : w10.cell? ⟨gb3, 1, none⟩ = some (.slice none 0 0) := (blk_cell BK3.out 1).trans rfl; have hcy3_2 : w10.cell? ⟨gb3, 2, none⟩ = some (.slice none 0 0) := (blk_cell BK3.out 2).trans rfl; have hfy3_0 := blk_frozen BK3.out 0; have hfy3_1 := blk_frozen BK3.out 1; have hfy3_2 := blk_frozen BK3.out 2) | ((with_reducible refine gate_callee (f := 18) rfl ?_); refine goesL_ (some 20) rfl rfl Tryd.func18 (by kernel_rfl) rfl #[.int .i64 a1, .int .i64 0, .int .i64 (wrap64 ((cs.length : Int) - 1))] rfl (by (try simp only [List.map_toArray, List.map_cons, List.map_nil]); first | done | rfl) ?_; (with_reducible refine (impl_within.calls a1 0 (wrap64 ((cs.length : Int) - 1)) false _ AQ.out).mono ?_); rintro e w' ⟨rfl, ⟨nd, rfl⟩⟩; refine ⟨_, rfl, ?_⟩))
   refine bodyPost_ret (results_ctt rfl _ _ gb3 28 #[.int .i64 0, .slice none 0 0, .slice none 0 0] (0, 0) _ rfl (by (with_reducible repeat (first | refine blk_drewN ?_ _ | refine blk_drew ?_ | refine blk_alloc ?_ _)); refine blk_put (cs := #[.int .i64 0, .slice none 0 0, .slice none 0 0]) ?_ 2 _ rfl; (with_reducible repeat (first | refine blk_drewN ?_ _ | refine blk_drew ?_ | refine blk_alloc ?_ _)); refine blk_put (cs := #[.int .i64 0, .slice none 0 0, .slice none 0 0]) ?_ 1 _ rfl; (with_reducible repeat (first | refine blk_drewN ?_ _ | refine blk_drew ?_ | refine blk_alloc ?_ _)); refine blk_put (cs := #[.int .i64 0, .slice none 0 0, .slice none 0 0]) ?_ 0 _ rfl; (with_reducible repeat (first | refine blk_drewN ?_ _ | refine blk_drew ?_ | refine blk_alloc ?_ _)); exact BK3.out) Tryd.underlying28 rfl (by kernel_rfl)) rfl ?_
   exact ⟨_, _, _, by first | rfl | (simp; done) | (simp [*]; done), by first | exact Kd.S_nil _ _ _ _ _ | exact Kd.R_nil _ _ _ _ _, by first | exact Kd.S_nil _ _ _ _ _ | exact Kd.R_nil _ _ _ _ _, by first | exact Kd.S_nil _ _ _ _ _ | exact Kd.R_nil _ _ _ _ _, by repeat (first | (with_reducible first | exact HB.out | apply below_alloc | apply pw_below_drewN | apply below_drew1 | refine below_set ?_ GE2.out | refine below_set ?_ GE3.out | refine below_set ?_ GE4.out) | exact HB.out)⟩
 ·have AM := Aside0.mk (impl_isMem_f a0 cs ts (k := 6201) (by omega))
  rw [Bool.eq_false_iff.mpr hm] at AM
  have hF : memReadF a0 cs ts a1 = (0, [], [], [], 1) := by unfold memReadF; rw [if_neg hm]
  rw [hF]
  clear hF
  go_enter Tryd.func10, Tryd.ntmps10
  go_wp2_with (first | ((with_reducible refine gate_dst (N := 2) rfl ?_); (try (refine gate_guard (by rfl) ?_; dsimp only)); refine box_event ?hg (N := 2) ?hd (cs := #[.int .i64 a0, .slice A1 cs.length c1, .slice A2 ts.length c2]) (t := 28) ?hr ?_; (case hd => rfl); (case hg => rfl); (case hr => first | (go_simp; done) | (go_simp; rfl)); intro gb2 hg w62 hbox hb; have BK2 := Aside0.mk (hbox); have GE2 := Aside0.mk ((by rw [hg]; exact (below_size (by repeat first | exact HB.out | apply below_alloc | apply pw_below_drewN | apply below_drew1)) : w.heap.size ≤ gb2)); replace HB := Aside0.mk (below_step (by repeat first | exact HB.out | apply below_alloc | apply pw_below_drewN | apply below_drew1) hb); clear hb hbox hg; have hcz2_0 : w62.cell? ⟨gb2, 0, none⟩ = some (.int .i64 a0) := (blk_cell BK2.out 0).trans rfl; have hcz2_1 : w62.cell? ⟨gb2, 1, none⟩ = some (.slice A1 cs.length c1) := (blk_cell BK2.out 1).trans rfl; have hcz2_2 : w62.cell? ⟨gb2, 2, none⟩ = some (.slice A2 ts.length c2) := (blk_cell BK2.out 2).trans rfl; have hfz2_0 := blk_frozen BK2.out 0; have hfz2_1 := blk_frozen BK2.out 1; have hfz2_2 := blk_frozen BK2.out 2) | ((with_reducible refine gate_dst (N := 4) rfl ?_); (try (refine gate_guard (by rfl) ?_; dsimp only)); refine box_event ?hg (N := 4) ?hd (cs := #[.int .i64 0, .slice none 0 0, .slice none 0 0]) (t := 28) ?hr ?_; (case hd => rfl); (case hg => rfl); (case hr => first | (go_simp; done) | (go_simp; rfl)); intro gb3 hg w63 hbox hb; have BK3 := Aside0.mk (hbox); have GE3 := Aside0.mk ((by rw [hg]; exact (below_size (by repeat first | exact HB.out | apply below_alloc | apply pw_below_drewN | apply below_drew1)) : w.heap.size ≤ gb3)); have NB2_3 := Aside0.mk ((by rw [hg]; exact Nat.ne_of_lt (blk_lt (g := gb2) (o := .cells #[.int .i64 a0, .slice A1 cs.length c1, .slice A2 ts.length c2] 28 (0, 0)) (by repeat first | exact BK2.out | apply blk_drewN | apply blk_drew | apply blk_alloc)) : gb2 ≠ gb3)); have NB3_2 := Aside0.mk (NB2_3.out.symm); replace BK2 := Aside0.mk (blk_below (g := gb2) (o := .cells #[.int .i64 a0, .slice A1 cs.length c1, .slice A2 ts.length c2] 28 (0, 0)) (by repeat first | exact BK2.out | apply blk_drewN | apply blk_drew | apply blk_alloc) hb); replace HB := Aside0.mk (below_step (by repeat first | exact HB.out | apply below_alloc | apply pw_below_drewN | apply below_drew1) hb); clear hb hbox hg; have hnb2_3 := NB2_3.out; have hnc3_2 := NB3_2.out; have hcz3_0 : w63.cell? ⟨gb3, 0, none⟩ = some (.int .i64 0) := (blk_cell BK3.out 0).trans rfl; have hcz3_1 : w63.cell? ⟨gb3, 1, none⟩ = some (.slice none 0 0) := (blk_cell BK3.out 1).trans rfl; have hcz3_2 : w63.cell? ⟨gb3, 2, none⟩ = some (.slice none 0 0) := (blk_cell BK3.out 2).trans rfl; have hfz3_0 := blk_frozen BK3.out 0; have hfz3_1 := blk_frozen BK3.out 1; have hfz3_2 := blk_frozen BK3.out 2; have hcy2_0 : w63.cell? ⟨gb2, 0, none⟩ = some (.int .i64 a0) := (blk_cell BK2.out 0).trans rfl; have hcy2_1 : w63.cell? ⟨gb2, 1, none⟩ = some (.slice A1 cs.length c1) := (blk_cell BK2.out 1).trans rfl; have hcy2_2 : w63.cell? ⟨gb2, 2, none⟩ = some (.slice A2 ts.length c2) := (blk_cell BK2.out 2).trans rfl; have hfy2_0 := blk_frozen BK2.out 0; have hfy2_1 := blk_frozen BK2.out 1; have hfy2_2 := blk_frozen BK2.out 2) | ((with_reducible refine gate_callee (f := 20) rfl ?_); refine goesL_ (some 11) rfl rfl Tryd.func20 (by kernel_rfl) rfl #[.agg #[.int .i64 a0, .slice A1 cs.length c1, .slice A2 ts.length c2]] rfl (by (try simp only [List.map_toArray, List.map_cons, List.map_nil]); first | done | rfl) ?_; (with_reducible refine (impl_isMem.calls 6201 a0 _ _ cs _ _ ts false _ ?side1 ?side2 ?side3 ?side4 AM.out).mono ?_); (case side1 => (repeat (first | exact (Kd.C_below HR1.out HB.out) | (with_reducible refine Kd.C_alloc ?_ _) | (with_reducible refine Kd.C_drewN ?_ _) | (with_reducible refine Kd.C_drew ?_)))); (case side2 => exact HC1.out); (case side3 => (repeat (first | exact (Kd.C_below HR2.out HB.out) | (with_reducible refine Kd.C_alloc ?_ _) | (with_reducible refine Kd.C_drewN ?_ _) | (with_reducible refine Kd.C_drew ?_)))); (case side4 => exact HC2.out); rintro e w10 ⟨rfl, hb⟩; refine ⟨_, rfl, ?_⟩; replace BK2 := Aside0.mk (blk_below (g := gb2) (o := .cells #[.int .i64 a0, .slice A1 cs.length c1, .slice A2 ts.length c2] 28 (0, 0)) (by repeat first | exact BK2.out | apply blk_drewN | apply blk_drew | apply blk_alloc) hb); replace BK3 := Aside0.mk (blk_below (g := gb3) (o := .cells #[.int .i64 0, .slice none 0 0, .slice none 0 0] 28 (0, 0)) (by repeat first | exact BK3.out | apply blk_drewN | apply blk_drew | apply blk_alloc) hb); replace HB := Aside0.mk (below_step (by repeat first | exact HB.out | apply below_alloc | apply pw_below_drewN | apply below_drew1) hb); clear hb; have hcy2_0 : w10.cell? ⟨gb2, 0, none⟩ = some (.int .i64 a0) := (blk_cell BK2.out 0).trans rfl; have hcy2_1 : w10.cell? ⟨gb2, 1, none⟩ = some (.slice A1 cs.length c1) := (blk_cell BK2.out 1).trans rfl; have hcy2_2 : w10.cell? ⟨gb2, 2, none⟩ = some (.slice A2 ts.length c2) := (blk_cell BK2.out 2).trans rfl; have hfy2_0 := blk_frozen BK2.out 0; have hfy2_1 := blk_frozen BK2.out 1; have hfy2_2 := blk_frozen BK2.out 2; have hcy3_0 : w10.cell? ⟨gb3, 0, none⟩ = some (.int .i64 0) := (blk_cell BK3.out 0).trans rfl; have hcy3_1 : w10.cell? ⟨gb3, 1, none⟩ = some (.slice none 0 0) := (blk_cell BK3.out 1).trans rfl; have hcy3_2 : w10.cell? ⟨gb3, 2, none⟩ = some (.slice none 0 0) := (blk_cell BK3.out 2).trans rfl; have hfy3_0 := blk_frozen BK3.out 0; have hfy3_1 := blk_frozen BK3.out 1; have hfy3_2 := blk_frozen BK3.out 2))
  refine bodyPost_ret (results_ctt rfl _ _ gb3 28 #[.int .i64 0, .slice none 0 0, .slice none 0 0] (0, 0) _ rfl (by (with_reducible repeat (first | refine blk_drewN ?_ _ | refine blk_drew ?_ | refine blk_alloc ?_ _)); refine blk_put (cs := #[.int .i64 0, .slice none 0 0, .slice none 0 0]) ?_ 2 _ rfl; (with_reducible repeat (first | refine blk_drewN ?_ _ | refine blk_drew ?_ | refine blk_alloc ?_ _)); refine blk_put (cs := #[.int .i64 0, .slice none 0 0, .slice none 0 0]) ?_ 1 _ rfl; (with_reducible repeat (first | refine blk_drewN ?_ _ | refine blk_drew ?_ | refine blk_alloc ?_ _)); refine blk_put (cs := #[.int .i64 0, .slice none 0 0, .slice none 0 0]) ?_ 0 _ rfl; exact BK3.out) Tryd.underlying28 rfl (by kernel_rfl)) rfl ?_
  exact ⟨_, _, _, by first | rfl | (simp; done) | (simp [*]; done), by first | exact Kd.S_nil _ _ _ _ _ | exact Kd.R_nil _ _ _ _ _, by first | exact Kd.S_nil _ _ _ _ _ | exact Kd.R_nil _ _ _ _ _, by first | exact Kd.S_nil _ _ _ _ _ | exact Kd.R_nil _ _ _ _ _, by repeat (first | (with_reducible first | exact HB.out | apply below_alloc | apply pw_below_drewN | apply below_drew1 | refine below_set ?_ GE2.out | refine below_set ?_ GE3.out | refine below_set ?_ GE4.out) | exact HB.out)⟩

end Mm
/-- what a read gives -/
def impl_MemRead.f (a0_0 : Int) (l0_1 : List S56) (l0_2 : List S35) (a1 : Int) : Option (Int × List S56 × List S35 × List Int × Int) := some (Mm.memReadF a0_0 l0_1 l0_2 a1)
theorem impl_MemRead.calls (a0_0 : Int) (A0_1 : Option Addr) (c0_1 : Nat) (l0_1 : List S56) (A0_2 : Option Addr) (c0_2 : Nat) (l0_2 : List S35) (a1 : Int) (r1 : Int) (r2 : List S56) (r3 : List S35) (r4 : List Int) (r5 : Int) (w : World) (hr0_1 : Kd.C k56 w A0_1 l0_1.length l0_1) (hc0_1 : l0_1.length ≤ c0_1) (hr0_2 : Kd.C k35 w A0_2 l0_2.length l0_2) (hc0_2 : l0_2.length ≤ c0_2) (h : impl_MemRead.f a0_0 l0_1 l0_2 a1 = some (r1, r2, r3, r4, r5)) :
  Calls Tryd.prog 10 #[.agg #[.int .i64 a0_0, .slice A0_1 l0_1.length c0_1, .slice A0_2 l0_2.length c0_2], .int .i64 a1] w fun e w' => ∃ v1_ v2_ v3_ : Value, e = .returned (.tuple #[.agg #[.int .i64 r1, v1_, v2_], v3_, .int .i64 r5]) ∧ Kd.S k56 56 w' w.heap.size (fun k_ => some k_ ≠ (v3_ : Value).ownBlock) v1_ r2 ∧ Kd.R k35 35 w' w.heap.size (fun _ => True) v2_ r3 ∧ Kd.R (Kd.int .u8) 5 w' w.heap.size (fun _ => True) v3_ r4 ∧ Below w.heap.size w w' := by
 have e := Option.some.inj h
 have hh := Mm.implMemRead_calls a0_0 A0_1 c0_1 l0_1 A0_2 c0_2 l0_2 a1 w hr0_1 hc0_1 hr0_2 hc0_2
 rw [e] at hh
 exact hh

end Go.Proofs.YtoceiaaigiflpaaDoor.PFnMemBook
