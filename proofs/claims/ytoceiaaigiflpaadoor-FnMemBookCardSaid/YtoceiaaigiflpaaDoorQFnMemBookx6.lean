/- The functions that the law FnMemBook reaches, as plain Lean functions, and the walks that show that Go comes to their answers; part 6. Its lines are the print's, turned where Lean refused them. -/
import Derived.Test.YtoceiaaigiflpaaDoorQFnMemBookx0
import Derived.Test.YtoceiaaigiflpaaDoorQFnMemBookx1
import Derived.Test.YtoceiaaigiflpaaDoorQFnMemBookx3
import Derived.Test.YtoceiaaigiflpaaDoorQFnMemBookx4
import Derived.Test.YtoceiaaigiflpaaDoorQFnMemBookx5
namespace Go.Proofs.YtoceiaaigiflpaaDoor.PFnMemBook
open Go.RowKit Go.Proofs.YtoceiaaigiflpaaDoorW.PrintWords Go.Proofs.YtoceiaaigiflpaaDoorW.PrintLast Go.Proofs.YtoceiaaigiflpaaDoorW.PrintMore
attribute [local go_sem] max2_int min2_int max_two min_two max_three min_three max_four min_four   -- for this text's walks alone
set_option linter.unusedVariables false
set_option linter.unusedSimpArgs false

attribute [local go_sem high] eqA35
/-! ### impl_MemSweep: function 11 -/
namespace Mm
open Go.Proofs.YtoceiaaigiflpaaDoor.L
/-- how many bytes the cells hold -/
def sumC : List S56 → Nat
 | [] => 0
 | c :: cs => c.f0.length + sumC cs
theorem sumC_append (a b : List S56) : sumC (a ++ b) = sumC a + sumC b := by
 induction a with
 | nil => simp [sumC]
 | cons c cs ih => simp only [List.cons_append, sumC, ih]; omega
theorem sumC_take (cs : List S56) (i : Nat) : sumC (cs.take i) ≤ sumC cs := by
 have h := sumC_append (cs.take i) (cs.drop i)
 rw [List.take_append_drop] at h
 omega
theorem take_snoc {α : Type} {l : List α} {i : Nat} (h : i < l.length) : l.take (i + 1) = l.take i ++ [l[i]] := List.take_succ_eq_append_getElem h
theorem sumC_step {cs : List S56} {i : Nat} (h : i < cs.length) : sumC (cs.take (i + 1)) = sumC (cs.take i) + cs[i].f0.length := by
 rw [take_snoc h, sumC_append]; simp [sumC]
/-- the accesses that a sweep notes, and the bytes it gathers -/
def sweepT (a0 : Int) (n : Nat) : List S35 := (List.range n).map fun i : Nat => ⟨1, (i : Int), a0⟩
def sweepB : List S56 → List Int
 | [] => []
 | c :: cs => c.f0 ++ sweepB cs
theorem sweepB_append (a b : List S56) : sweepB (a ++ b) = sweepB a ++ sweepB b := by
 induction a with
 | nil => rfl
 | cons c cs ih => simp only [List.cons_append, sweepB, ih, List.append_assoc]
theorem sweepB_length (cs : List S56) : (sweepB cs).length = sumC cs := by
 induction cs with
 | nil => rfl
 | cons c cs ih => simp only [sweepB, sumC, List.length_append, ih]
theorem sweepB_step {cs : List S56} {i : Nat} (h : i < cs.length) : sweepB (cs.take i) ++ cs[i].f0 = sweepB (cs.take (i + 1)) := by
 rw [take_snoc h, sweepB_append]; simp [sweepB]
theorem sweepT_step (a0 : Int) (ts : List S35) (i : Nat) : (ts ++ sweepT a0 i) ++ [⟨1, (i : Int), a0⟩] = ts ++ sweepT a0 (i + 1) := by
 unfold sweepT
 rw [List.range_succ, List.map_append, List.append_assoc]
 rfl
theorem sweepT_length (a0 : Int) (n : Nat) : (sweepT a0 n).length = n := by simp [sweepT]
def memSweepF (a0 : Int) (cs : List S56) (ts : List S35) : Int × List S56 × List S35 × List Int × Int :=
 if memB a0 cs ts = true then (if ts.length + cs.length > 6000 then (0, [], [], [], 4) else (a0, cs, ts ++ sweepT a0 cs.length, sweepB cs, 0)) else (0, [], [], [], 1)
theorem sumC_le (cs : List S56) (m : Nat) (h : ∀ c ∈ cs, c.f0.length ≤ m) : sumC cs ≤ cs.length * m := by
 induction cs with
 | nil => simp [sumC]
 | cons c cs ih =>
  have h1 := ih (fun d hd => h d (List.mem_cons_of_mem _ hd))
  have h2 := h c (List.mem_cons_self)
  simp only [sumC, List.length_cons, Nat.succ_mul]
  omega
theorem memB_sum {a0 : Int} {cs : List S56} {ts : List S35} (h : memB a0 cs ts = true) : sumC cs ≤ 128000 := by
 have h1 := sumC_le cs 1000 (memB_all h)
 have h2 := memB_bounds h
 exact Nat.le_trans h1 (Nat.le_trans (Nat.mul_le_mul_right 1000 h2.2.2.1) (by decide))

theorem row_past_read {W W' : World} {base g : Nat} {v : Value} {xs : List Int} {cs0 : Array Value} (h : Kd.R (Kd.int .u8) 5 W base (fun _ => True) v xs) (hg : W.heap[g]? = some (.cells cs0 28 (0, 0)))
  (hK : ∀ (k : Nat) (ce : Array Value) (t : Nat), k ≠ g → t ≠ 35 → t ≠ 56 → W.heap[k]? = some (.cells ce t (0, 0)) → W'.heap[k]? = some (.cells ce t (0, 0))) : Kd.R (Kd.int .u8) 5 W' base (fun _ => True) v xs := by
 refine Kd.R_mono (Kd.R_step (Kd.R_bound h) (fun k hk hlt => ?_)) (fun _ _ => trivial)
 obtain ⟨_, _, _, q, hq, ce, hce⟩ := hk
 have hq5 : q = 5 := by
  have m : q ∈ [5] := hq
  simpa using m
 subst hq5
 have hne : k ≠ g := fun e => by
  subst e
  have e2 := hce.symm.trans hg
  injection e2 with e2
  injection e2 with _ e3
  exact absurd e3 (by decide)
 exact (hK k ce 5 hne (by decide) (by decide) hce).trans hce.symm
set_option maxHeartbeats 8000000 in
set_option maxRecDepth 100000 in
theorem implMemSweep_calls (a0 : Int) (A1 : Option Addr) (c1 : Nat) (cs : List S56) (A2 : Option Addr) (c2 : Nat) (ts : List S35) (w : World) (hr1 : Kd.C k56 w A1 cs.length cs) (hc1 : cs.length ≤ c1) (hr2 : Kd.C k35 w A2 ts.length ts) (hc2 : ts.length ≤ c2) :
  Calls Tryd.prog 11 #[.agg #[.int .i64 a0, .slice A1 cs.length c1, .slice A2 ts.length c2]] w fun e w' => ∃ v1_ v2_ v3_ : Value, e = .returned (.tuple #[.agg #[.int .i64 (memSweepF a0 cs ts).1, v1_, v2_], v3_, .int .i64 (memSweepF a0 cs ts).2.2.2.2]) ∧ Kd.S k56 56 w' w.heap.size (fun k_ => some k_ ≠ (v3_ : Value).ownBlock) v1_ (memSweepF a0 cs ts).2.1 ∧ Kd.R k35 35 w' w.heap.size (fun _ => True) v2_ (memSweepF a0 cs ts).2.2.1 ∧ Kd.R (Kd.int .u8) 5 w' w.heap.size (fun _ => True) v3_ (memSweepF a0 cs ts).2.2.2.1 ∧ Below w.heap.size w w' := by
 have hu25 := Tryd.underlying28
 have HR1 := Aside0.mk hr1
 have HC1 := Aside0.mk hc1
 have HR2 := Aside0.mk hr2
 have HC2 := Aside0.mk hc2
 have HB := Aside0.mk (Below.refl w.heap.size w)
 clear hr1 hc1 hr2 hc2
 by_cases hm : memB a0 cs ts = true
 ·have hb := memB_bounds hm
  have AM := Aside0.mk (impl_isMem_f a0 cs ts (k := 6201) (by omega))
  rw [hm] at AM
  have hw64 : wrap64 ((ts.length : Int) + (cs.length : Int)) = (ts.length : Int) + (cs.length : Int) := w64 (by omega) (by omega)
  by_cases hs : ts.length + cs.length > 6000
  ·have hsb : decide (wrap64 ((ts.length : Int) + (cs.length : Int)) > 6000) = true := by rw [hw64]; exact decide_eq_true (by omega)
   clear hb hw64
   have hF : memSweepF a0 cs ts = (0, [], [], [], 4) := by unfold memSweepF; rw [if_pos hm, if_pos hs]
   rw [hF]
   clear hF hs
   go_enter Tryd.func11, Tryd.ntmps11
   go_wp2_with (first | ((with_reducible refine gate_dst (N := 1) rfl ?_); (try (refine gate_guard (by rfl) ?_; dsimp only)); refine box_event ?hg (N := 1) ?hd (cs := #[.int .i64 a0, .slice A1 cs.length c1, .slice A2 ts.length c2]) (t := 28) ?hr ?_; (case hd => rfl); (case hg => rfl); (case hr => first | (go_simp; done) | (go_simp; rfl)); intro gb2 hg w62 hbox hb; have BK2 := Aside0.mk (hbox); have GE2 := Aside0.mk ((by rw [hg]; exact (below_size (by repeat first | exact HB.out | apply below_alloc | apply pw_below_drewN | apply below_drew1)) : w.heap.size ≤ gb2)); replace HB := Aside0.mk (below_step (by repeat first | exact HB.out | apply below_alloc | apply pw_below_drewN | apply below_drew1) hb); clear hb hbox hg; have hcz2_0 : w62.cell? ⟨gb2, 0, none⟩ = some (.int .i64 a0) := (blk_cell BK2.out 0).trans rfl; have hcz2_1 : w62.cell? ⟨gb2, 1, none⟩ = some (.slice A1 cs.length c1) := (blk_cell BK2.out 1).trans rfl; have hcz2_2 : w62.cell? ⟨gb2, 2, none⟩ = some (.slice A2 ts.length c2) := (blk_cell BK2.out 2).trans rfl; have hfz2_0 := blk_frozen BK2.out 0; have hfz2_1 := blk_frozen BK2.out 1; have hfz2_2 := blk_frozen BK2.out 2) | ((with_reducible refine gate_dst (N := 2) rfl ?_); (try (refine gate_guard (by rfl) ?_; dsimp only)); refine box_event ?hg (N := 2) ?hd (cs := #[.int .i64 0, .slice none 0 0, .slice none 0 0]) (t := 28) ?hr ?_; (case hd => rfl); (case hg => rfl); (case hr => first | (go_simp; done) | (go_simp; rfl)); intro gb3 hg w63 hbox hb; have BK3 := Aside0.mk (hbox); have GE3 := Aside0.mk ((by rw [hg]; exact (below_size (by repeat first | exact HB.out | apply below_alloc | apply pw_below_drewN | apply below_drew1)) : w.heap.size ≤ gb3)); have NB2_3 := Aside0.mk ((by rw [hg]; exact Nat.ne_of_lt (blk_lt (g := gb2) (o := .cells #[.int .i64 a0, .slice A1 cs.length c1, .slice A2 ts.length c2] 28 (0, 0)) (by repeat first | exact BK2.out | apply blk_drewN | apply blk_drew | apply blk_alloc)) : gb2 ≠ gb3)); have NB3_2 := Aside0.mk (NB2_3.out.symm); replace BK2 := Aside0.mk (blk_below (g := gb2) (o := .cells #[.int .i64 a0, .slice A1 cs.length c1, .slice A2 ts.length c2] 28 (0, 0)) (by repeat first | exact BK2.out | apply blk_drewN | apply blk_drew | apply blk_alloc) hb); replace HB := Aside0.mk (below_step (by repeat first | exact HB.out | apply below_alloc | apply pw_below_drewN | apply below_drew1) hb); clear hb hbox hg; have hnb2_3 := NB2_3.out; have hnc3_2 := NB3_2.out; have hcz3_0 : w63.cell? ⟨gb3, 0, none⟩ = some (.int .i64 0) := (blk_cell BK3.out 0).trans rfl; have hcz3_1 : w63.cell? ⟨gb3, 1, none⟩ = some (.slice none 0 0) := (blk_cell BK3.out 1).trans rfl; have hcz3_2 : w63.cell? ⟨gb3, 2, none⟩ = some (.slice none 0 0) := (blk_cell BK3.out 2).trans rfl; have hfz3_0 := blk_frozen BK3.out 0; have hfz3_1 := blk_frozen BK3.out 1; have hfz3_2 := blk_frozen BK3.out 2; have hcy2_0 : w63.cell? ⟨gb2, 0, none⟩ = some (.int .i64 a0) := (blk_cell BK2.out 0).trans rfl; have hcy2_1 : w63.cell? ⟨gb2, 1, none⟩ = some (.slice A1 cs.length c1) := (blk_cell BK2.out 1).trans rfl; have hcy2_2 : w63.cell? ⟨gb2, 2, none⟩ = some (.slice A2 ts.length c2) := (blk_cell BK2.out 2).trans rfl; have hfy2_0 := blk_frozen BK2.out 0; have hfy2_1 := blk_frozen BK2.out 1; have hfy2_2 := blk_frozen BK2.out 2) | ((with_reducible refine gate_callee (f := 20) rfl ?_); refine goesL_ (some 10) rfl rfl Tryd.func20 (by kernel_rfl) rfl #[.agg #[.int .i64 a0, .slice A1 cs.length c1, .slice A2 ts.length c2]] rfl (by (try simp only [List.map_toArray, List.map_cons, List.map_nil]); first | done | rfl) ?_; (with_reducible refine (impl_isMem.calls 6201 a0 _ _ cs _ _ ts true _ ?side1 ?side2 ?side3 ?side4 AM.out).mono ?_); (case side1 => (repeat (first | exact (Kd.C_below HR1.out HB.out) | (with_reducible refine Kd.C_alloc ?_ _) | (with_reducible refine Kd.C_drewN ?_ _) | (with_reducible refine Kd.C_drew ?_)))); (case side2 => exact HC1.out); (case side3 => (repeat (first | exact (Kd.C_below HR2.out HB.out) | (with_reducible refine Kd.C_alloc ?_ _) | (with_reducible refine Kd.C_drewN ?_ _) | (with_reducible refine Kd.C_drew ?_)))); (case side4 => exact HC2.out); rintro e w10 ⟨rfl, hb⟩; refine ⟨_, rfl, ?_⟩; replace BK2 := Aside0.mk (blk_below (g := gb2) (o := .cells #[.int .i64 a0, .slice A1 cs.length c1, .slice A2 ts.length c2] 28 (0, 0)) (by repeat first | exact BK2.out | apply blk_drewN | apply blk_drew | apply blk_alloc) hb); replace BK3 := Aside0.mk (blk_below (g := gb3) (o := .cells #[.int .i64 0, .slice none 0 0, .slice none 0 0] 28 (0, 0)) (by repeat first | exact BK3.out | apply blk_drewN | apply blk_drew | apply blk_alloc) hb); replace HB := Aside0.mk (below_step (by repeat first | exact HB.out | apply below_alloc | apply pw_below_drewN | apply below_drew1) hb); clear hb; have hcy2_0 : w10.cell? ⟨gb2, 0, none⟩ = some (.int .i64 a0) := (blk_cell BK2.out 0).trans rfl; have hcy2_1 : w10.cell? ⟨gb2, 1, none⟩ = some (.slice A1 cs.length c1) := (blk_cell BK2.out 1).trans rfl; have hcy2_2 : w10.cell? ⟨gb2, 2, none⟩ = some (.slice A2 ts.length c2) := (blk_cell BK2.out 2).trans rfl; have hfy2_0 := blk_frozen BK2.out 0; have hfy2_1 := blk_frozen BK2.out 1; have hfy2_2 := blk_frozen BK2.out 2; have hcy3_0 : w10.cell? ⟨gb3, 0, none⟩ = some (.int .i64 0) := (blk_cell BK3.out 0).trans rfl; have hcy3_1 : w10.cell? ⟨gb3, 1, none⟩ = some (.slice none 0 0) := (blk_cell BK3.out 1).trans rfl; have hcy3_2 : w10.cell? ⟨gb3, 2, none⟩ = some (.slice none 0 0) := (blk_cell BK3.out 2).trans rfl; have hfy3_0 := blk_frozen BK3.out 0; have hfy3_1 := blk_frozen BK3.out 1; have hfy3_2 := blk_frozen BK3.out 2))
   refine bodyPost_ret (results_ctt rfl _ _ gb3 28 #[.int .i64 0, .slice none 0 0, .slice none 0 0] (0, 0) _ rfl (by (with_reducible repeat (first | refine blk_drewN ?_ _ | refine blk_drew ?_ | refine blk_alloc ?_ _)); refine blk_put (cs := #[.int .i64 0, .slice none 0 0, .slice none 0 0]) ?_ 2 _ rfl; (with_reducible repeat (first | refine blk_drewN ?_ _ | refine blk_drew ?_ | refine blk_alloc ?_ _)); refine blk_put (cs := #[.int .i64 0, .slice none 0 0, .slice none 0 0]) ?_ 1 _ rfl; (with_reducible repeat (first | refine blk_drewN ?_ _ | refine blk_drew ?_ | refine blk_alloc ?_ _)); refine blk_put (cs := #[.int .i64 0, .slice none 0 0, .slice none 0 0]) ?_ 0 _ rfl; exact BK3.out) Tryd.underlying28 rfl (by kernel_rfl)) rfl ?_
   exact ⟨_, _, _, by first | rfl | (simp; done) | (simp [*]; done), by first | exact Kd.S_nil _ _ _ _ _ | exact Kd.R_nil _ _ _ _ _, by first | exact Kd.S_nil _ _ _ _ _ | exact Kd.R_nil _ _ _ _ _, by first | exact Kd.S_nil _ _ _ _ _ | exact Kd.R_nil _ _ _ _ _, by repeat (first | (with_reducible first | exact HB.out | apply below_alloc | apply pw_below_drewN | apply below_drew1 | refine below_set ?_ GE2.out | refine below_set ?_ GE3.out | refine below_set ?_ GE4.out) | exact HB.out)⟩
  ·have hsb : decide (wrap64 ((ts.length : Int) + (cs.length : Int)) > 6000) = false := by rw [hw64]; exact decide_eq_false (by omega)
   have AT := Aside0.mk (show ts.length + cs.length ≤ 6000 by omega)
   have AS := Aside0.mk (memB_sum hm)
   have AB := Aside0.mk (memB_all hm)
   have A128 := Aside0.mk hb.2.2.1
   have AC := Aside0.mk (cloneMem_f a0 cs ts (k := 200) (by omega) (by omega) (memB_all hm) (by omega))
   have hF : memSweepF a0 cs ts = (a0, cs, ts ++ sweepT a0 cs.length, sweepB cs, 0) := by unfold memSweepF; rw [if_pos hm, if_neg hs]
   rw [hF]
   clear hF hb hw64 hs
   go_enter Tryd.func11, Tryd.ntmps11
   go_wp2_with (first | ((with_reducible refine gate_dst (N := 1) rfl ?_); (try (refine gate_guard (by rfl) ?_; dsimp only)); refine box_event ?hg (N := 1) ?hd (cs := #[.int .i64 a0, .slice A1 cs.length c1, .slice A2 ts.length c2]) (t := 28) ?hr ?_; (case hd => rfl); (case hg => rfl); (case hr => first | (go_simp; done) | (go_simp; rfl)); intro gb2 hg w62 hbox hb; have BK2 := Aside0.mk (hbox); have GE2 := Aside0.mk ((by rw [hg]; exact (below_size (by repeat first | exact HB.out | apply below_alloc | apply pw_below_drewN | apply below_drew1)) : w.heap.size ≤ gb2)); replace HB := Aside0.mk (below_step (by repeat first | exact HB.out | apply below_alloc | apply pw_below_drewN | apply below_drew1) hb); clear hb hbox hg; have hcz2_0 : w62.cell? ⟨gb2, 0, none⟩ = some (.int .i64 a0) := (blk_cell BK2.out 0).trans rfl; have hcz2_1 : w62.cell? ⟨gb2, 1, none⟩ = some (.slice A1 cs.length c1) := (blk_cell BK2.out 1).trans rfl; have hcz2_2 : w62.cell? ⟨gb2, 2, none⟩ = some (.slice A2 ts.length c2) := (blk_cell BK2.out 2).trans rfl; have hfz2_0 := blk_frozen BK2.out 0; have hfz2_1 := blk_frozen BK2.out 1; have hfz2_2 := blk_frozen BK2.out 2) | ((with_reducible refine gate_dst (N := 2) rfl ?_); (try (refine gate_guard (by rfl) ?_; dsimp only)); refine box_event ?hg (N := 2) ?hd (cs := #[.int .i64 0, .slice none 0 0, .slice none 0 0]) (t := 28) ?hr ?_; (case hd => rfl); (case hg => rfl); (case hr => first | (go_simp; done) | (go_simp; rfl)); intro gb3 hg w63 hbox hb; have BK3 := Aside0.mk (hbox); have GE3 := Aside0.mk ((by rw [hg]; exact (below_size (by repeat first | exact HB.out | apply below_alloc | apply pw_below_drewN | apply below_drew1)) : w.heap.size ≤ gb3)); have NB2_3 := Aside0.mk ((by rw [hg]; exact Nat.ne_of_lt (blk_lt (g := gb2) (o := .cells #[.int .i64 a0, .slice A1 cs.length c1, .slice A2 ts.length c2] 28 (0, 0)) (by repeat first | exact BK2.out | apply blk_drewN | apply blk_drew | apply blk_alloc)) : gb2 ≠ gb3)); have NB3_2 := Aside0.mk (NB2_3.out.symm); replace BK2 := Aside0.mk (blk_below (g := gb2) (o := .cells #[.int .i64 a0, .slice A1 cs.length c1, .slice A2 ts.length c2] 28 (0, 0)) (by repeat first | exact BK2.out | apply blk_drewN | apply blk_drew | apply blk_alloc) hb); replace HB := Aside0.mk (below_step (by repeat first | exact HB.out | apply below_alloc | apply pw_below_drewN | apply below_drew1) hb); clear hb hbox hg; have hnb2_3 := NB2_3.out; have hnc3_2 := NB3_2.out; have hcz3_0 : w63.cell? ⟨gb3, 0, none⟩ = some (.int .i64 0) := (blk_cell BK3.out 0).trans rfl; have hcz3_1 : w63.cell? ⟨gb3, 1, none⟩ = some (.slice none 0 0) := (blk_cell BK3.out 1).trans rfl; have hcz3_2 : w63.cell? ⟨gb3, 2, none⟩ = some (.slice none 0 0) := (blk_cell BK3.out 2).trans rfl; have hfz3_0 := blk_frozen BK3.out 0; have hfz3_1 := blk_frozen BK3.out 1; have hfz3_2 := blk_frozen BK3.out 2; have hcy2_0 : w63.cell? ⟨gb2, 0, none⟩ = some (.int .i64 a0) := (blk_cell BK2.out 0).trans rfl; have hcy2_1 : w63.cell? ⟨gb2, 1, none⟩ = some (.slice A1 cs.length c1) := (blk_cell BK2.out 1).trans rfl; have hcy2_2 : w63.cell? ⟨gb2, 2, none⟩ = some (.slice A2 ts.length c2) := (blk_cell BK2.out 2).trans rfl; have hfy2_0 := blk_frozen BK2.out 0; have hfy2_1 := blk_frozen BK2.out 1; have hfy2_2 := blk_frozen BK2.out 2) | ((with_reducible refine gate_callee (f := 20) rfl ?_); refine goesL_ (some 10) rfl rfl Tryd.func20 (by kernel_rfl) rfl #[.agg #[.int .i64 a0, .slice A1 cs.length c1, .slice A2 ts.length c2]] rfl (by (try simp only [List.map_toArray, List.map_cons, List.map_nil]); first | done | rfl) ?_; (with_reducible refine (impl_isMem.calls 6201 a0 _ _ cs _ _ ts true _ ?side1 ?side2 ?side3 ?side4 AM.out).mono ?_); (case side1 => (repeat (first | exact (Kd.C_below HR1.out HB.out) | (with_reducible refine Kd.C_alloc ?_ _) | (with_reducible refine Kd.C_drewN ?_ _) | (with_reducible refine Kd.C_drew ?_)))); (case side2 => exact HC1.out); (case side3 => (repeat (first | exact (Kd.C_below HR2.out HB.out) | (with_reducible refine Kd.C_alloc ?_ _) | (with_reducible refine Kd.C_drewN ?_ _) | (with_reducible refine Kd.C_drew ?_)))); (case side4 => exact HC2.out); rintro e w10 ⟨rfl, hb⟩; refine ⟨_, rfl, ?_⟩; replace BK2 := Aside0.mk (blk_below (g := gb2) (o := .cells #[.int .i64 a0, .slice A1 cs.length c1, .slice A2 ts.length c2] 28 (0, 0)) (by repeat first | exact BK2.out | apply blk_drewN | apply blk_drew | apply blk_alloc) hb); replace BK3 := Aside0.mk (blk_below (g := gb3) (o := .cells #[.int .i64 0, .slice none 0 0, .slice none 0 0] 28 (0, 0)) (by repeat first | exact BK3.out | apply blk_drewN | apply blk_drew | apply blk_alloc) hb); replace HB := Aside0.mk (below_step (by repeat first | exact HB.out | apply below_alloc | apply pw_below_drewN | apply below_drew1) hb); clear hb; have hcy2_0 : w10.cell? ⟨gb2, 0, none⟩ = some (.int .i64 a0) := (blk_cell BK2.out 0).trans rfl; have hcy2_1 : w10.cell? ⟨gb2, 1, none⟩ = some (.slice A1 cs.length c1) := (blk_cell BK2.out 1).trans rfl; have hcy2_2 : w10.cell? ⟨gb2, 2, none⟩ = some (.slice A2 ts.length c2) := (blk_cell BK2.out 2).trans rfl; have hfy2_0 := blk_frozen BK2.out 0; have hfy2_1 := blk_frozen BK2.out 1; have hfy2_2 := blk_frozen BK2.out 2; have hcy3_0 : w10.cell? ⟨gb3, 0, none⟩ = some (.int .i64 0) := (blk_cell BK3.out 0).trans rfl; have hcy3_1 : w10.cell? ⟨gb3, 1, none⟩ = some (.slice none 0 0) := (blk_cell BK3.out 1).trans rfl; have hcy3_2 : w10.cell? ⟨gb3, 2, none⟩ = some (.slice none 0 0) := (blk_cell BK3.out 2).trans rfl; have hfy3_0 := blk_frozen BK3.out 0; have hfy3_1 := blk_frozen BK3.out 1; have hfy3_2 := blk_frozen BK3.out 2) | ((with_reducible refine gate_callee (f := 21) rfl ?_); refine goesL_ (some 24) rfl rfl Tryd.func21 (by kernel_rfl) rfl #[.agg #[.int .i64 a0, .slice A1 cs.length c1, .slice A2 ts.length c2]] rfl (by (try simp only [List.map_toArray, List.map_cons, List.map_nil]); first | done | rfl) ?_; (with_reducible refine (impl_cloneMem.calls 200 a0 _ _ cs _ _ ts a0 cs ts _ ?side1 ?side2 ?side3 ?side4 AC.out).mono ?_); (case side1 => (repeat (first | exact (Kd.C_below HR1.out HB.out) | (with_reducible refine Kd.C_alloc ?_ _) | (with_reducible refine Kd.C_drewN ?_ _) | (with_reducible refine Kd.C_drew ?_)))); (case side2 => exact HC1.out); (case side3 => (repeat (first | exact (Kd.C_below HR2.out HB.out) | (with_reducible refine Kd.C_alloc ?_ _) | (with_reducible refine Kd.C_drewN ?_ _) | (with_reducible refine Kd.C_drew ?_)))); (case side4 => exact HC2.out); rintro e w28 ⟨v207, v210, rfl, ho0, ho1, hb⟩; obtain ⟨D1, d1, rfl⟩ := Kd.S_slice ho0; obtain ⟨D2, d2, rfl⟩ := Kd.R_slice ho1; refine ⟨_, rfl, ?_⟩; have HS := Aside0.mk (Kd.S_lower ho0 (below_size (by repeat first | exact HB.out | apply below_alloc | apply pw_below_drewN | apply below_drew1))); have HR := Aside0.mk (Kd.R_lower ho1 (below_size (by repeat first | exact HB.out | apply below_alloc | apply pw_below_drewN | apply below_drew1))); replace BK2 := Aside0.mk (blk_below (g := gb2) (o := .cells #[.int .i64 a0, .slice A1 cs.length c1, .slice A2 ts.length c2] 28 (0, 0)) (by repeat first | exact BK2.out | apply blk_drewN | apply blk_drew | apply blk_alloc) hb); replace BK3 := Aside0.mk (blk_below (g := gb3) (o := .cells #[.int .i64 0, .slice none 0 0, .slice none 0 0] 28 (0, 0)) (by repeat first | exact BK3.out | apply blk_drewN | apply blk_drew | apply blk_alloc) hb); replace HB := Aside0.mk (below_step (by repeat first | exact HB.out | apply below_alloc | apply pw_below_drewN | apply below_drew1) hb); clear hb ho0 ho1; have hcy2_0 : w28.cell? ⟨gb2, 0, none⟩ = some (.int .i64 a0) := (blk_cell BK2.out 0).trans rfl; have hcy2_1 : w28.cell? ⟨gb2, 1, none⟩ = some (.slice A1 cs.length c1) := (blk_cell BK2.out 1).trans rfl; have hcy2_2 : w28.cell? ⟨gb2, 2, none⟩ = some (.slice A2 ts.length c2) := (blk_cell BK2.out 2).trans rfl; have hfy2_0 := blk_frozen BK2.out 0; have hfy2_1 := blk_frozen BK2.out 1; have hfy2_2 := blk_frozen BK2.out 2; have hcy3_0 : w28.cell? ⟨gb3, 0, none⟩ = some (.int .i64 0) := (blk_cell BK3.out 0).trans rfl; have hcy3_1 : w28.cell? ⟨gb3, 1, none⟩ = some (.slice none 0 0) := (blk_cell BK3.out 1).trans rfl; have hcy3_2 : w28.cell? ⟨gb3, 2, none⟩ = some (.slice none 0 0) := (blk_cell BK3.out 2).trans rfl; have hfy3_0 := blk_frozen BK3.out 0; have hfy3_1 := blk_frozen BK3.out 1; have hfy3_2 := blk_frozen BK3.out 2) | ((with_reducible refine gate_dst (N := 5) rfl ?_); (try (refine gate_guard (by rfl) ?_; dsimp only)); refine box_event ?hg (N := 5) ?hd (cs := #[.int .i64 0, .slice none 0 0, .slice none 0 0]) (t := 28) ?hr ?_; (case hd => rfl); (case hg => rfl); (case hr => first | (go_simp; done) | (go_simp; rfl)); intro gb4 hg w64 hbox hb; have BK4 := Aside0.mk (hbox); have GE4 := Aside0.mk ((by rw [hg]; exact (below_size (by repeat first | exact HB.out | apply below_alloc | apply pw_below_drewN | apply below_drew1)) : w.heap.size ≤ gb4)); have NB2_4 := Aside0.mk ((by rw [hg]; exact Nat.ne_of_lt (blk_lt (g := gb2) (o := .cells #[.int .i64 a0, .slice A1 cs.length c1, .slice A2 ts.length c2] 28 (0, 0)) (by repeat first | exact BK2.out | apply blk_drewN | apply blk_drew | apply blk_alloc)) : gb2 ≠ gb4)); have NB4_2 := Aside0.mk (NB2_4.out.symm); have NB3_4 := Aside0.mk ((by rw [hg]; exact Nat.ne_of_lt (blk_lt (g := gb3) (o := .cells #[.int .i64 0, .slice none 0 0, .slice none 0 0] 28 (0, 0)) (by repeat first | exact BK3.out | apply blk_drewN | apply blk_drew | apply blk_alloc)) : gb3 ≠ gb4)); have NB4_3 := Aside0.mk (NB3_4.out.symm); replace BK2 := Aside0.mk (blk_below (g := gb2) (o := .cells #[.int .i64 a0, .slice A1 cs.length c1, .slice A2 ts.length c2] 28 (0, 0)) (by repeat first | exact BK2.out | apply blk_drewN | apply blk_drew | apply blk_alloc) hb); replace BK3 := Aside0.mk (blk_below (g := gb3) (o := .cells #[.int .i64 0, .slice none 0 0, .slice none 0 0] 28 (0, 0)) (by repeat first | exact BK3.out | apply blk_drewN | apply blk_drew | apply blk_alloc) hb); replace HS := Aside0.mk (Kd.S_below (by exact HS.out) hb); replace HR := Aside0.mk (Kd.R_below (by exact HR.out) hb); replace HB := Aside0.mk (below_step (by repeat first | exact HB.out | apply below_alloc | apply pw_below_drewN | apply below_drew1) hb); clear hb hbox hg; have hnb2_4 := NB2_4.out; have hnc4_2 := NB4_2.out; have hnb3_4 := NB3_4.out; have hnc4_3 := NB4_3.out; have hcz4_0 : w64.cell? ⟨gb4, 0, none⟩ = some (.int .i64 0) := (blk_cell BK4.out 0).trans rfl; have hcz4_1 : w64.cell? ⟨gb4, 1, none⟩ = some (.slice none 0 0) := (blk_cell BK4.out 1).trans rfl; have hcz4_2 : w64.cell? ⟨gb4, 2, none⟩ = some (.slice none 0 0) := (blk_cell BK4.out 2).trans rfl; have hfz4_0 := blk_frozen BK4.out 0; have hfz4_1 := blk_frozen BK4.out 1; have hfz4_2 := blk_frozen BK4.out 2; have hcy2_0 : w64.cell? ⟨gb2, 0, none⟩ = some (.int .i64 a0) := (blk_cell BK2.out 0).trans rfl; have hcy2_1 : w64.cell? ⟨gb2, 1, none⟩ = some (.slice A1 cs.length c1) := (blk_cell BK2.out 1).trans rfl; have hcy2_2 : w64.cell? ⟨gb2, 2, none⟩ = some (.slice A2 ts.length c2) := (blk_cell BK2.out 2).trans rfl; have hfy2_0 := blk_frozen BK2.out 0; have hfy2_1 := blk_frozen BK2.out 1; have hfy2_2 := blk_frozen BK2.out 2; have hcy3_0 : w64.cell? ⟨gb3, 0, none⟩ = some (.int .i64 0) := (blk_cell BK3.out 0).trans rfl; have hcy3_1 : w64.cell? ⟨gb3, 1, none⟩ = some (.slice none 0 0) := (blk_cell BK3.out 1).trans rfl; have hcy3_2 : w64.cell? ⟨gb3, 2, none⟩ = some (.slice none 0 0) := (blk_cell BK3.out 2).trans rfl; have hfy3_0 := blk_frozen BK3.out 0; have hfy3_1 := blk_frozen BK3.out 1; have hfy3_2 := blk_frozen BK3.out 2))
   have n0_ : Aside0 (Kd.S k56 56 (((w64.setCell ⟨gb4, 0, none⟩ (.int .i64 a0)).setCell ⟨gb4, 1, none⟩ (.slice D1 cs.length d1)).setCell ⟨gb4, 2, none⟩ (.slice D2 ts.length d2)) w.heap.size (fun _ => True) (.slice D1 cs.length d1) cs) := ⟨Kd.S_mono (Kd.S_far (p := ⟨gb4, 2, none⟩) (Kd.S_far (p := ⟨gb4, 1, none⟩) (Kd.S_far (p := ⟨gb4, 0, none⟩) (Kd.S_types HS.out BK4.out (by decide)) (fun _ hk => hk.2) (.int .i64 a0)) (fun _ hk => hk.2) (.slice D1 cs.length d1)) (fun _ hk => hk.2) (.slice D2 ts.length d2)) (fun _ _ => trivial)⟩
   have n1_ : Aside0 (Kd.R k35 35 (((w64.setCell ⟨gb4, 0, none⟩ (.int .i64 a0)).setCell ⟨gb4, 1, none⟩ (.slice D1 cs.length d1)).setCell ⟨gb4, 2, none⟩ (.slice D2 ts.length d2)) w.heap.size (fun _ => True) (.slice D2 ts.length d2) ts) := ⟨Kd.R_mono (Kd.R_far (p := ⟨gb4, 2, none⟩) (Kd.R_far (p := ⟨gb4, 1, none⟩) (Kd.R_far (p := ⟨gb4, 0, none⟩) (Kd.R_types HR.out BK4.out (by decide)) (fun _ hk => hk.2) (.int .i64 a0)) (fun _ hk => hk.2) (.slice D1 cs.length d1)) (fun _ hk => hk.2) (.slice D2 ts.length d2)) (fun _ _ => trivial)⟩
   have n2_ : Aside0 ((((w64.setCell ⟨gb4, 0, none⟩ (.int .i64 a0)).setCell ⟨gb4, 1, none⟩ (.slice D1 cs.length d1)).setCell ⟨gb4, 2, none⟩ (.slice D2 ts.length d2)).heap[gb3]? = some (.cells #[.int .i64 0, .slice none 0 0, .slice none 0 0] 28 (0, 0))) := ⟨by refine blk_far ?_ NB3_4.out _; (with_reducible repeat (first | refine blk_drewN ?_ _ | refine blk_drew ?_ | refine blk_alloc ?_ _)); refine blk_far ?_ NB3_4.out _; (with_reducible repeat (first | refine blk_drewN ?_ _ | refine blk_drew ?_ | refine blk_alloc ?_ _)); refine blk_far ?_ NB3_4.out _; exact BK3.out⟩
   have n3_ : Aside0 ((((w64.setCell ⟨gb4, 0, none⟩ (.int .i64 a0)).setCell ⟨gb4, 1, none⟩ (.slice D1 cs.length d1)).setCell ⟨gb4, 2, none⟩ (.slice D2 ts.length d2)).heap[gb4]? = some (.cells #[.int .i64 a0, .slice D1 cs.length d1, .slice D2 ts.length d2] 28 (0, 0))) := ⟨by refine blk_put (cs := #[.int .i64 a0, .slice D1 cs.length d1, .slice none 0 0]) ?_ 2 _ rfl; (with_reducible repeat (first | refine blk_drewN ?_ _ | refine blk_drew ?_ | refine blk_alloc ?_ _)); refine blk_put (cs := #[.int .i64 a0, .slice none 0 0, .slice none 0 0]) ?_ 1 _ rfl; (with_reducible repeat (first | refine blk_drewN ?_ _ | refine blk_drew ?_ | refine blk_alloc ?_ _)); refine blk_put (cs := #[.int .i64 0, .slice none 0 0, .slice none 0 0]) ?_ 0 _ rfl; exact BK4.out⟩
   have n4_ : Aside0 (Below w.heap.size w (((w64.setCell ⟨gb4, 0, none⟩ (.int .i64 a0)).setCell ⟨gb4, 1, none⟩ (.slice D1 cs.length d1)).setCell ⟨gb4, 2, none⟩ (.slice D2 ts.length d2))) := ⟨(by repeat (first | (with_reducible first | exact HB.out | apply below_alloc | apply pw_below_drewN | apply below_drew1 | refine below_set ?_ GE2.out | refine below_set ?_ GE3.out | refine below_set ?_ GE4.out) | exact HB.out))⟩
   clear HS HR BK2 BK3 BK4 HB
   generalize (((w64.setCell ⟨gb4, 0, none⟩ (.int .i64 a0)).setCell ⟨gb4, 1, none⟩ (.slice D1 cs.length d1)).setCell ⟨gb4, 2, none⟩ (.slice D2 ts.length d2)) = w7 at n0_ n1_ n2_ n3_ n4_ ⊢
   have HS := n0_
   have HR := n1_
   have BK3 := n2_
   have BK4 := n3_
   have HB := n4_
   clear n0_ n1_ n2_ n3_ n4_
   try go_wp2
   go_loopg [6, 28] (cs.length + 1) (fun kq u6 v28 w' => ∃ (i : Nat) (E2 : Option Addr) (e2 : Nat) (tq : List S35), Aside0 (tq = ts ++ sweepT a0 i) ∧ v28 = .int .i64 (i : Int) ∧ Aside0 (i ≤ cs.length) ∧ Aside0 (kq + i = cs.length + 1) ∧ Aside0 (Kd.R (Kd.int .u8) 5 w' w.heap.size (fun _ => True) u6 (sweepB (cs.take i))) ∧ Aside0 (Kd.S k56 56 w' w.heap.size (fun k_ => some k_ ≠ (u6 : Value).ownBlock) (.slice D1 cs.length d1) cs) ∧ Aside0 (Kd.R k35 35 w' w.heap.size (fun _ => True) (.slice E2 tq.length e2) tq) ∧ Aside0 (w'.heap[gb3]? = some (.cells #[.int .i64 0, .slice none 0 0, .slice none 0 0] 28 (0, 0))) ∧ Aside0 (w'.heap[gb4]? = some (.cells #[.int .i64 a0, .slice D1 cs.length d1, .slice E2 tq.length e2] 28 (0, 0))) ∧ Aside0 (Below w.heap.size w w'))
   case atStart =>
    have hz : ts ++ sweepT a0 0 = ts := by simp [sweepT]
    exact ⟨0, D2, d2, ts, ⟨hz.symm⟩, by first | rfl | (simp; done), ⟨Nat.zero_le _⟩, ⟨rfl⟩, ⟨Kd.R_nil _ _ _ _ _⟩, ⟨Kd.S_mono HS.out (fun _ _ => by simp [Value.ownBlock])⟩, HR, BK3, BK4, HB⟩
   case round =>
    clear HS HR BK3 BK4 HB
    obtain ⟨i, E2, e2, tq, HTQ, rfl, HI, HQ, HV, HS, HR, BK3, BK4, HB⟩ := hrel
    cases gk with
    | zero => exact absurd HQ.out (by have := HI.out; omega)
    | succ k1 =>
     have hcy3_0 : wr.cell? ⟨gb3, 0, none⟩ = some (.int .i64 0) := (blk_cell BK3.out 0).trans rfl
     have hcy3_1 : wr.cell? ⟨gb3, 1, none⟩ = some (.slice none 0 0) := (blk_cell BK3.out 1).trans rfl
     have hcy3_2 : wr.cell? ⟨gb3, 2, none⟩ = some (.slice none 0 0) := (blk_cell BK3.out 2).trans rfl
     have hfy3_0 := blk_frozen BK3.out 0
     have hfy3_1 := blk_frozen BK3.out 1
     have hfy3_2 := blk_frozen BK3.out 2
     have hcy4_0 : wr.cell? ⟨gb4, 0, none⟩ = some (.int .i64 a0) := (blk_cell BK4.out 0).trans rfl
     have hcy4_1 : wr.cell? ⟨gb4, 1, none⟩ = some (.slice D1 cs.length d1) := (blk_cell BK4.out 1).trans rfl
     have hcy4_2 : wr.cell? ⟨gb4, 2, none⟩ = some (.slice E2 tq.length e2) := (blk_cell BK4.out 2).trans rfl
     have hfy4_0 := blk_frozen BK4.out 0
     have hfy4_1 := blk_frozen BK4.out 1
     have hfy4_2 := blk_frozen BK4.out 2
     by_cases c3 : (i : Int) < (cs.length : Int)
     ·have LI : i < cs.length := by omega
      have AN := Aside0.mk LI
      have LW : wrap64 ((i : Int) + 1) = ((i + 1 : Nat) : Int) := by have := A128.out; rw [show ((i : Int) + 1) = ((i + 1 : Nat) : Int) from rfl]; unfold wrap64; omega
      have AW := Aside0.mk LW
      obtain ⟨cx, hcx⟩ : ∃ cx, cs.getD i z56 = cx := ⟨_, rfl⟩
      have ACX := Aside0.mk hcx
      have hcg : cs[i] = cx := by rw [← hcx, List.getD_eq_getElem?_getD, List.getElem?_eq_getElem LI]; rfl
      have hlc := AB.out _ (List.getElem_mem LI)
      rw [hcg] at hlc
      have hsb1 := sweepB_step LI
      rw [hcg] at hsb1
      have ASB := Aside0.mk hsb1
      have hst := sumC_take cs i
      have ALM : Aside0 ((sweepB (cs.take i)).length + cx.f0.length < 140737488355328) := ⟨by rw [sweepB_length]; have := AS.out; omega⟩
      have ALT : Aside0 (tq.length ≤ 1000000) := ⟨by rw [HTQ.out, List.length_append, sweepT_length]; have := AT.out; omega⟩
      obtain ⟨tr, htr⟩ : ∃ tr, tr = tq ++ [(⟨1, (i : Int), a0⟩ : S35)] := ⟨_, rfl⟩
      have ATR := Aside0.mk htr.symm
      have AST : Aside0 (tr = ts ++ sweepT a0 (i + 1)) := ⟨by rw [htr, HTQ.out]; exact sweepT_step a0 ts i⟩
      have ALN : Aside0 (tq.length + 1 = tr.length) := ⟨by rw [htr, List.length_append]; rfl⟩
      clear htr
      have c3b0 : decide ((i : Int) < (cs.length : Int)) = true := decide_eq_true c3
      have c3b1 : decide (i < cs.length) = true := decide_eq_true LI
      clear c3 LI LW hcx hcg hlc hsb1 hst
      go_wp2_with (first | ((with_reducible refine gate_callee (f := 24) rfl ?_); refine goesL_ (some 33) rfl rfl Tryd.func24 (by kernel_rfl) rfl #[.pointer (some ⟨gb4, 0, none⟩), .int .i64 (i : Int)] rfl (by (try simp only [List.map_toArray, List.map_cons, List.map_nil]); first | done | rfl) ?_; refine (memRead_calls (fun k_ => some k_ ≠ (u6 : Value).ownBlock) a0 cs tq i AN.out ALT.out gb4 D1 d1 E2 e2 cx ACX.out w _ ?sB ?sg ?sbk ?sS ?sR).mono ?_; (case sB => exact (by repeat first | exact HB.out | apply below_alloc | apply pw_below_drewN | apply below_drew1)); (case sg => exact GE4.out); (case sbk => exact (by repeat first | exact BK4.out | apply blk_drewN | apply blk_drew | apply blk_alloc)); (case sS => exact (by exact HS.out)); (case sR => exact (by exact HR.out)); rintro e w30 ⟨E3, e3, F2, f2, rfl, hbk4, hS4, hR4, hle, hC, hB4, hK⟩; refine ⟨_, rfl, ?_⟩; replace HV := Aside0.mk (row_past_read (by exact HV.out) (by repeat first | exact BK4.out | apply blk_drewN | apply blk_drew | apply blk_alloc) hK); replace BK3 : Aside0 (w30.heap[gb3]? = some (.cells #[.int .i64 0, .slice none 0 0, .slice none 0 0] 28 (0, 0))) := ⟨hK gb3 _ _ NB3_4.out (by decide) (by decide) (by repeat first | exact BK3.out | apply blk_drewN | apply blk_drew | apply blk_alloc)⟩; rw [ALN.out] at hbk4 hR4; rw [ATR.out] at hR4; clear BK4 HS HR HB hK; have BK4 : Aside0 (w30.heap[gb4]? = some (.cells #[.int .i64 a0, .slice D1 cs.length d1, .slice E3 tr.length e3] 28 (0, 0))) := ⟨hbk4⟩; have HS := Aside0.mk hS4; have HR := Aside0.mk hR4; have HLE := Aside0.mk hle; have HCB := Aside0.mk hC; have HB := Aside0.mk hB4; clear hbk4 hS4 hR4 hle hC hB4) | ((with_reducible refine gate_builtin (b := .append) (xs := #[.tmp 31, .tmp 33]) rfl ?_); at_builtin; refine Kd.R_append_rows (Kd.int .u8) (w0 := w) w.heap.size rfl (.tmp 31) (.tmp 33) 22 5 (.int .u8 0) 1 rfl Tryd.underlying22 info5 rfl (by decide) (by omega) u6 (sweepB (cs.take i)) cx.f0 _ _ _ (fun _ => True) (fun _ => False) rfl rfl ?aO ?aR (fun _ _ h => h) (fun _ h => h.elim) ?aF ?aB ?aS ?aL ?_; (case aR => repeat (first | exact HCB.out | (with_reducible refine Kd.C_alloc ?_ _) | (with_reducible refine Kd.C_drewN ?_ _) | (with_reducible refine Kd.C_drew ?_))); (case aB => exact (by repeat first | exact HB.out | apply below_alloc | apply pw_below_drewN | apply below_drew1)); (case aF => exact (fun _ _ => trivial)); (case aO => exact (by exact HV.out)); (case aS => exact (below_size (by repeat first | exact HB.out | apply below_alloc | apply pw_below_drewN | apply below_drew1))); (case aL => have := ALM.out; omega); intro v218 w35 ho hb hg hat; rw [ASB.out] at ho; have n0_ := Aside0.mk (Kd.S_after (ok := (fun _ => True)) (by (with_reducible repeat (first | apply Kd.S_alloc | apply Kd.S_drewN | apply Kd.S_drew)); exact Kd.S_mono HS.out (fun _ hk => ⟨trivial, hk⟩)) hg hat); have n1_ := Aside0.mk (Kd.R_over' (by exact HR.out) (Kd.R_typed (by exact HV.out)) (by decide) hg); have n2_ := Aside0.mk (blk_grown (g := gb3) (o := .cells #[.int .i64 0, .slice none 0 0, .slice none 0 0] 28 (0, 0)) (by repeat first | exact BK3.out | apply blk_drewN | apply blk_drew | apply blk_alloc) hg (Kd.R_ne HV.out BK3.out (by decide))); have n3_ := Aside0.mk (blk_grown (g := gb4) (o := .cells #[.int .i64 a0, .slice D1 cs.length d1, .slice E3 tr.length e3] 28 (0, 0)) (by repeat first | exact BK4.out | apply blk_drewN | apply blk_drew | apply blk_alloc) hg (Kd.R_ne HV.out BK4.out (by decide))); clear HS HR BK3 BK4 HV HB; have HS := n0_; have HR := n1_; have BK3 := n2_; have BK4 := n3_; have HB := Aside0.mk hb; have HV := Aside0.mk ho; clear n0_ n1_ n2_ n3_ ho hb hg hat))
      go_roundg k1
      case measure => have := HQ.out; omega
      case rel => exact ⟨i + 1, E3, e3, tr, AST, by first | (rw [AW.out]; done) | (simp [AW.out]; done), ⟨AN.out⟩, ⟨by have := HQ.out; omega⟩, ⟨by exact HV.out⟩, ⟨by (with_reducible repeat (first | apply Kd.S_alloc | apply Kd.S_drewN | apply Kd.S_drew)); exact Kd.S_mono HS.out (fun _ hk => hk.2)⟩, ⟨by exact HR.out⟩, ⟨(by repeat first | exact BK3.out | apply blk_drewN | apply blk_drew | apply blk_alloc)⟩, ⟨(by repeat first | exact BK4.out | apply blk_drewN | apply blk_drew | apply blk_alloc)⟩, ⟨(by repeat first | exact HB.out | apply below_alloc | apply pw_below_drewN | apply below_drew1)⟩⟩
     ·have c3b0 : decide ((i : Int) < (cs.length : Int)) = false := decide_eq_false c3
      have c3n : decide (i < cs.length) = false := decide_eq_false (by omega)
      have LE : i = cs.length := by have := HI.out; omega
      have AE := Aside0.mk LE
      clear c3 LE
      go_wp2
      have LE := AE.out
      subst LE
      have hv := HV.out
      rw [List.take_length] at hv
      have hr := HR.out
      have ht := HTQ.out
      refine bodyPost_ret (results_ctt rfl _ _ gb3 28 #[.int .i64 a0, .slice D1 cs.length d1, .slice E2 tq.length e2] (0, 0) _ rfl (by (with_reducible repeat (first | refine blk_drewN ?_ _ | refine blk_drew ?_ | refine blk_alloc ?_ _)); refine blk_put (cs := #[.int .i64 a0, .slice D1 cs.length d1, .slice none 0 0]) ?_ 2 _ rfl; (with_reducible repeat (first | refine blk_drewN ?_ _ | refine blk_drew ?_ | refine blk_alloc ?_ _)); refine blk_put (cs := #[.int .i64 a0, .slice none 0 0, .slice none 0 0]) ?_ 1 _ rfl; (with_reducible repeat (first | refine blk_drewN ?_ _ | refine blk_drew ?_ | refine blk_alloc ?_ _)); refine blk_put (cs := #[.int .i64 0, .slice none 0 0, .slice none 0 0]) ?_ 0 _ rfl; exact BK3.out) Tryd.underlying28 rfl (by kernel_rfl)) rfl ?_
      rw [← ht]
      exact ⟨_, _, u6, by first | rfl | (simp; done) | (simp [*]; done), by (with_reducible repeat (first | apply Kd.S_alloc | apply Kd.S_drewN | apply Kd.S_drew)); exact Kd.S_mono (Kd.S_far (p := ⟨gb3, 2, none⟩) (Kd.S_far (p := ⟨gb3, 1, none⟩) (Kd.S_far (p := ⟨gb3, 0, none⟩) (Kd.S_types HS.out BK3.out (by decide)) (fun _ hk => hk.2) (.int .i64 a0)) (fun _ hk => hk.2) (.slice D1 cs.length d1)) (fun _ hk => hk.2) (.slice E2 tq.length e2)) (fun _ hk => hk.1), by (with_reducible repeat (first | apply Kd.R_alloc | apply Kd.R_drewN | apply Kd.R_drew)); exact Kd.R_mono (Kd.R_far (p := ⟨gb3, 2, none⟩) (Kd.R_far (p := ⟨gb3, 1, none⟩) (Kd.R_far (p := ⟨gb3, 0, none⟩) (Kd.R_types HR.out BK3.out (by decide)) (fun _ hk => hk.2) (.int .i64 a0)) (fun _ hk => hk.2) (.slice D1 cs.length d1)) (fun _ hk => hk.2) (.slice E2 tq.length e2)) (fun _ _ => trivial), by (with_reducible repeat (first | apply Kd.R_alloc | apply Kd.R_drewN | apply Kd.R_drew)); exact Kd.R_mono (Kd.R_far (p := ⟨gb3, 2, none⟩) (Kd.R_far (p := ⟨gb3, 1, none⟩) (Kd.R_far (p := ⟨gb3, 0, none⟩) (Kd.R_types hv BK3.out (by decide)) (fun _ hk => hk.2) (.int .i64 a0)) (fun _ hk => hk.2) (.slice D1 cs.length d1)) (fun _ hk => hk.2) (.slice E2 tq.length e2)) (fun _ _ => trivial), by repeat (first | (with_reducible first | exact HB.out | apply below_alloc | apply pw_below_drewN | apply below_drew1 | refine below_set ?_ GE2.out | refine below_set ?_ GE3.out | refine below_set ?_ GE4.out) | exact HB.out)⟩
 ·have AM := Aside0.mk (impl_isMem_f a0 cs ts (k := 6201) (by omega))
  rw [Bool.eq_false_iff.mpr hm] at AM
  have hF : memSweepF a0 cs ts = (0, [], [], [], 1) := by unfold memSweepF; rw [if_neg hm]
  rw [hF]
  clear hF
  go_enter Tryd.func11, Tryd.ntmps11
  go_wp2_with (first | ((with_reducible refine gate_dst (N := 1) rfl ?_); (try (refine gate_guard (by rfl) ?_; dsimp only)); refine box_event ?hg (N := 1) ?hd (cs := #[.int .i64 a0, .slice A1 cs.length c1, .slice A2 ts.length c2]) (t := 28) ?hr ?_; (case hd => rfl); (case hg => rfl); (case hr => first | (go_simp; done) | (go_simp; rfl)); intro gb2 hg w62 hbox hb; have BK2 := Aside0.mk (hbox); have GE2 := Aside0.mk ((by rw [hg]; exact (below_size (by repeat first | exact HB.out | apply below_alloc | apply pw_below_drewN | apply below_drew1)) : w.heap.size ≤ gb2)); replace HB := Aside0.mk (below_step (by repeat first | exact HB.out | apply below_alloc | apply pw_below_drewN | apply below_drew1) hb); clear hb hbox hg; have hcz2_0 : w62.cell? ⟨gb2, 0, none⟩ = some (.int .i64 a0) := (blk_cell BK2.out 0).trans rfl; have hcz2_1 : w62.cell? ⟨gb2, 1, none⟩ = some (.slice A1 cs.length c1) := (blk_cell BK2.out 1).trans rfl; have hcz2_2 : w62.cell? ⟨gb2, 2, none⟩ = some (.slice A2 ts.length c2) := (blk_cell BK2.out 2).trans rfl; have hfz2_0 := blk_frozen BK2.out 0; have hfz2_1 := blk_frozen BK2.out 1; have hfz2_2 := blk_frozen BK2.out 2) | ((with_reducible refine gate_dst (N := 2) rfl ?_); (try (refine gate_guard (by rfl) ?_; dsimp only)); refine box_event ?hg (N := 2) ?hd (cs := #[.int .i64 0, .slice none 0 0, .slice none 0 0]) (t := 28) ?hr ?_; (case hd => rfl); (case hg => rfl); (case hr => first | (go_simp; done) | (go_simp; rfl)); intro gb3 hg w63 hbox hb; have BK3 := Aside0.mk (hbox); have GE3 := Aside0.mk ((by rw [hg]; exact (below_size (by repeat first | exact HB.out | apply below_alloc | apply pw_below_drewN | apply below_drew1)) : w.heap.size ≤ gb3)); have NB2_3 := Aside0.mk ((by rw [hg]; exact Nat.ne_of_lt (blk_lt (g := gb2) (o := .cells #[.int .i64 a0, .slice A1 cs.length c1, .slice A2 ts.length c2] 28 (0, 0)) (by repeat first | exact BK2.out | apply blk_drewN | apply blk_drew | apply blk_alloc)) : gb2 ≠ gb3)); have NB3_2 := Aside0.mk (NB2_3.out.symm); replace BK2 := Aside0.mk (blk_below (g := gb2) (o := .cells #[.int .i64 a0, .slice A1 cs.length c1, .slice A2 ts.length c2] 28 (0, 0)) (by repeat first | exact BK2.out | apply blk_drewN | apply blk_drew | apply blk_alloc) hb); replace HB := Aside0.mk (below_step (by repeat first | exact HB.out | apply below_alloc | apply pw_below_drewN | apply below_drew1) hb); clear hb hbox hg; have hnb2_3 := NB2_3.out; have hnc3_2 := NB3_2.out; have hcz3_0 : w63.cell? ⟨gb3, 0, none⟩ = some (.int .i64 0) := (blk_cell BK3.out 0).trans rfl; have hcz3_1 : w63.cell? ⟨gb3, 1, none⟩ = some (.slice none 0 0) := (blk_cell BK3.out 1).trans rfl; have hcz3_2 : w63.cell? ⟨gb3, 2, none⟩ = some (.slice none 0 0) := (blk_cell BK3.out 2).trans rfl; have hfz3_0 := blk_frozen BK3.out 0; have hfz3_1 := blk_frozen BK3.out 1; have hfz3_2 := blk_frozen BK3.out 2; have hcy2_0 : w63.cell? ⟨gb2, 0, none⟩ = some (.int .i64 a0) := (blk_cell BK2.out 0).trans rfl; have hcy2_1 : w63.cell? ⟨gb2, 1, none⟩ = some (.slice A1 cs.length c1) := (blk_cell BK2.out 1).trans rfl; have hcy2_2 : w63.cell? ⟨gb2, 2, none⟩ = some (.slice A2 ts.length c2) := (blk_cell BK2.out 2).trans rfl; have hfy2_0 := blk_frozen BK2.out 0; have hfy2_1 := blk_frozen BK2.out 1; have hfy2_2 := blk_frozen BK2.out 2) | ((with_reducible refine gate_callee (f := 20) rfl ?_); refine goesL_ (some 10) rfl rfl Tryd.func20 (by kernel_rfl) rfl #[.agg #[.int .i64 a0, .slice A1 cs.length c1, .slice A2 ts.length c2]] rfl (by (try simp only [List.map_toArray, List.map_cons, List.map_nil]); first | done | rfl) ?_; (with_reducible refine (impl_isMem.calls 6201 a0 _ _ cs _ _ ts false _ ?side1 ?side2 ?side3 ?side4 AM.out).mono ?_); (case side1 => (repeat (first | exact (Kd.C_below HR1.out HB.out) | (with_reducible refine Kd.C_alloc ?_ _) | (with_reducible refine Kd.C_drewN ?_ _) | (with_reducible refine Kd.C_drew ?_)))); (case side2 => exact HC1.out); (case side3 => (repeat (first | exact (Kd.C_below HR2.out HB.out) | (with_reducible refine Kd.C_alloc ?_ _) | (with_reducible refine Kd.C_drewN ?_ _) | (with_reducible refine Kd.C_drew ?_)))); (case side4 => exact HC2.out); rintro e w10 ⟨rfl, hb⟩; refine ⟨_, rfl, ?_⟩; replace BK2 := Aside0.mk (blk_below (g := gb2) (o := .cells #[.int .i64 a0, .slice A1 cs.length c1, .slice A2 ts.length c2] 28 (0, 0)) (by repeat first | exact BK2.out | apply blk_drewN | apply blk_drew | apply blk_alloc) hb); replace BK3 := Aside0.mk (blk_below (g := gb3) (o := .cells #[.int .i64 0, .slice none 0 0, .slice none 0 0] 28 (0, 0)) (by repeat first | exact BK3.out | apply blk_drewN | apply blk_drew | apply blk_alloc) hb); replace HB := Aside0.mk (below_step (by repeat first | exact HB.out | apply below_alloc | apply pw_below_drewN | apply below_drew1) hb); clear hb; have hcy2_0 : w10.cell? ⟨gb2, 0, none⟩ = some (.int .i64 a0) := (blk_cell BK2.out 0).trans rfl; have hcy2_1 : w10.cell? ⟨gb2, 1, none⟩ = some (.slice A1 cs.length c1) := (blk_cell BK2.out 1).trans rfl; have hcy2_2 : w10.cell? ⟨gb2, 2, none⟩ = some (.slice A2 ts.length c2) := (blk_cell BK2.out 2).trans rfl; have hfy2_0 := blk_frozen BK2.out 0; have hfy2_1 := blk_frozen BK2.out 1; have hfy2_2 := blk_frozen BK2.out 2; have hcy3_0 : w10.cell? ⟨gb3, 0, none⟩ = some (.int .i64 0) := (blk_cell BK3.out 0).trans rfl; have hcy3_1 : w10.cell? ⟨gb3, 1, none⟩ = some (.slice none 0 0) := (blk_cell BK3.out 1).trans rfl; have hcy3_2 : w10.cell? ⟨gb3, 2, none⟩ = some (.slice none 0 0) := (blk_cell BK3.out 2).trans rfl; have hfy3_0 := blk_frozen BK3.out 0; have hfy3_1 := blk_frozen BK3.out 1; have hfy3_2 := blk_frozen BK3.out 2))
  refine bodyPost_ret (results_ctt rfl _ _ gb3 28 #[.int .i64 0, .slice none 0 0, .slice none 0 0] (0, 0) _ rfl (by (with_reducible repeat (first | refine blk_drewN ?_ _ | refine blk_drew ?_ | refine blk_alloc ?_ _)); refine blk_put (cs := #[.int .i64 0, .slice none 0 0, .slice none 0 0]) ?_ 2 _ rfl; (with_reducible repeat (first | refine blk_drewN ?_ _ | refine blk_drew ?_ | refine blk_alloc ?_ _)); refine blk_put (cs := #[.int .i64 0, .slice none 0 0, .slice none 0 0]) ?_ 1 _ rfl; (with_reducible repeat (first | refine blk_drewN ?_ _ | refine blk_drew ?_ | refine blk_alloc ?_ _)); refine blk_put (cs := #[.int .i64 0, .slice none 0 0, .slice none 0 0]) ?_ 0 _ rfl; exact BK3.out) Tryd.underlying28 rfl (by kernel_rfl)) rfl ?_
  exact ⟨_, _, _, by first | rfl | (simp; done) | (simp [*]; done), by first | exact Kd.S_nil _ _ _ _ _ | exact Kd.R_nil _ _ _ _ _, by first | exact Kd.S_nil _ _ _ _ _ | exact Kd.R_nil _ _ _ _ _, by first | exact Kd.S_nil _ _ _ _ _ | exact Kd.R_nil _ _ _ _ _, by repeat (first | (with_reducible first | exact HB.out | apply below_alloc | apply pw_below_drewN | apply below_drew1 | refine below_set ?_ GE2.out | refine below_set ?_ GE3.out | refine below_set ?_ GE4.out) | exact HB.out)⟩

end Mm
/-- what a sweep gives -/
def impl_MemSweep.f (a0_0 : Int) (l0_1 : List S56) (l0_2 : List S35) : Option (Int × List S56 × List S35 × List Int × Int) := some (Mm.memSweepF a0_0 l0_1 l0_2)
theorem impl_MemSweep.calls (a0_0 : Int) (A0_1 : Option Addr) (c0_1 : Nat) (l0_1 : List S56) (A0_2 : Option Addr) (c0_2 : Nat) (l0_2 : List S35) (r1 : Int) (r2 : List S56) (r3 : List S35) (r4 : List Int) (r5 : Int) (w : World) (hr0_1 : Kd.C k56 w A0_1 l0_1.length l0_1) (hc0_1 : l0_1.length ≤ c0_1) (hr0_2 : Kd.C k35 w A0_2 l0_2.length l0_2) (hc0_2 : l0_2.length ≤ c0_2) (h : impl_MemSweep.f a0_0 l0_1 l0_2 = some (r1, r2, r3, r4, r5)) :
  Calls Tryd.prog 11 #[.agg #[.int .i64 a0_0, .slice A0_1 l0_1.length c0_1, .slice A0_2 l0_2.length c0_2]] w fun e w' => ∃ v1_ v2_ v3_ : Value, e = .returned (.tuple #[.agg #[.int .i64 r1, v1_, v2_], v3_, .int .i64 r5]) ∧ Kd.S k56 56 w' w.heap.size (fun k_ => some k_ ≠ (v3_ : Value).ownBlock) v1_ r2 ∧ Kd.R k35 35 w' w.heap.size (fun _ => True) v2_ r3 ∧ Kd.R (Kd.int .u8) 5 w' w.heap.size (fun _ => True) v3_ r4 ∧ Below w.heap.size w w' := by
 have e := Option.some.inj h
 have hh := Mm.implMemSweep_calls a0_0 A0_1 c0_1 l0_1 A0_2 c0_2 l0_2 w hr0_1 hc0_1 hr0_2 hc0_2
 rw [e] at hh
 exact hh

/-! ### laws_sameLog: function 12 -/
def laws_sameLog.l0 : Nat → List (S35) → List (S35) → Int → Option (Bool)
 | 0, _, _, _ => none
 | k + 1, x0, x1, x5 => if x5 < (x0.length : Int) then (if 0 ≤ x5 then (if x5 < (x1.length : Int) then (if (!(((rd_T35 x0 x5).f0) == ((rd_T35 x1 x5).f0)) || (!(((rd_T35 x0 x5).f1) == ((rd_T35 x1 x5).f1)) || (!(((rd_T35 x0 x5).f2) == ((rd_T35 x1 x5).f2))))) = true then (some false) else (laws_sameLog.l0 k x0 x1 (wrap64 (x5 + 1)))) else (none)) else (none)) else (some true)
def laws_sameLog.f (k : Nat) (l0 : List (S35)) (l1 : List (S35)) : Option (Bool) := if (l0.length : Int) = (l1.length : Int) then (laws_sameLog.l0 k l0 l1 0) else (some false)
set_option maxHeartbeats 8000000 in
set_option maxRecDepth 100000 in
theorem laws_sameLog.calls (k : Nat) (A0 : Option Addr) (c0 : Nat) (l0 : List (S35)) (A1 : Option Addr) (c1 : Nat) (l1 : List (S35)) (r : Bool) (w : World) (hr0 : Kd.C k35 w A0 l0.length l0) (hc0 : l0.length ≤ c0) (hr1 : Kd.C k35 w A1 l1.length l1) (hc1 : l1.length ≤ c1) (h : laws_sameLog.f k l0 l1 = some r) :
  Calls Tryd.prog 12 #[.slice A0 l0.length c0, .slice A1 l1.length c1] w fun e w' => e = .returned (.bool r) ∧ Drawn0 w w' := by
 have hu35 := Tryd.underlying35
 have HR0 := Aside0.mk hr0
 have HC0 := Aside0.mk hc0
 clear hr0 hc0
 have HR1 := Aside0.mk hr1
 have HC1 := Aside0.mk hc1
 clear hr1 hc1
 have H : (if (l0.length : Int) = (l1.length : Int) then (laws_sameLog.l0 k l0 l1 0) else (some false)) = some r := h
 clear h
 by_cases c3 : (l0.length : Int) = (l1.length : Int)
 ·rw [if_pos c3] at H
  have c3b0 : ((l0.length : Int) == (l1.length : Int)) = true := beq_iff_eq.mpr c3
  have c3b1 : ((l0.length : Int) != (l1.length : Int)) = false := bne_eq_false_iff_eq.mpr c3
  have c3b2 : (l0.length == l1.length) = true := by first | simpa using c3 | (simp at c3 ⊢; omega)
  clear c3
  have H' := Aside0.mk H
  clear H
  go_enter Tryd.func12, Tryd.ntmps12
  go_wp2
  repeat (go_quiet (fail); try go_wp2)
  go_loopg [5] k (fun kq v5 w' => ∃ (x5_1 : Int), v5 = .int .i64 x5_1 ∧ Aside0 (laws_sameLog.l0 kq l0 l1 x5_1 = some r) ∧ Aside0 (kq ≤ k) ∧ Drawn0 w w')
  case atStart => exact ⟨(0), (by first | rfl | (simp; done) | (simp [*]; done)), H', ⟨Nat.le_refl _⟩, by repeat (first | exact Drawn0.refl _ | apply Drawn0.step)⟩
  case round =>
   clear H'
   try clear c1
   try clear p2
   try clear c3
   try clear c3b0
   try clear c3b1
   try clear c3b2
   obtain ⟨x5_1, rfl, HA, HK1, ⟨m1, rfl⟩⟩ := hrel
   cases gk with
   | zero => exact absurd HA.out (by simp [laws_sameLog.l0])
   | succ k1 =>
    have H := HA.out
    clear HA
    simp only [laws_sameLog.l0] at H
    by_cases c4 : x5_1 < (l0.length : Int)
    ·rw [if_pos c4] at H
     have c4b0 : decide (x5_1 < (l0.length : Int)) = true := decide_eq_true c4
     clear c4
     by_cases c5 : 0 ≤ x5_1
     ·rw [if_pos c5] at H
      have c5b0 : decide (0 ≤ x5_1) = true := decide_eq_true c5
      clear c5
      by_cases c6 : x5_1 < (l1.length : Int)
      ·rw [if_pos c6] at H
       have c6b0 : decide (x5_1 < (l1.length : Int)) = true := decide_eq_true c6
       clear c6
       by_cases c7 : (!(((rd_T35 l0 x5_1).f0) == ((rd_T35 l1 x5_1).f0)) || (!(((rd_T35 l0 x5_1).f1) == ((rd_T35 l1 x5_1).f1)) || (!(((rd_T35 l0 x5_1).f2) == ((rd_T35 l1 x5_1).f2))))) = true
       ·rw [if_pos c7] at H
        have c7b0 : (!(((rd_T35 l0 x5_1).f0) == ((rd_T35 l1 x5_1).f0)) || (!(((rd_T35 l0 x5_1).f1) == ((rd_T35 l1 x5_1).f1)) || (!(((rd_T35 l0 x5_1).f2) == ((rd_T35 l1 x5_1).f2))))) = true := c7
        clear c7
        obtain rfl := Option.some.inj H
        have p147 : 0 ≤ (x5_1 : Int) := of_decide_eq_true (by first | (with_reducible assumption) | assumption)
        have q147 : x5_1 < (l0.length : Int) := of_decide_eq_true (by first | (with_reducible assumption) | assumption)
        obtain ⟨ad147, e147, hx147_0, hx147_1, hx147_2⟩ := at_T35 HR0.out x5_1 p147 q147
        cases e147
        replace p147 := eq_true p147
        replace q147 := eq_true q147
        have p148 : 0 ≤ (x5_1 : Int) := of_decide_eq_true (by first | (with_reducible assumption) | assumption)
        have q148 : x5_1 < (l1.length : Int) := of_decide_eq_true (by first | (with_reducible assumption) | assumption)
        obtain ⟨ad148, e148, hx148_0, hx148_1, hx148_2⟩ := at_T35 HR1.out x5_1 p148 q148
        cases e148
        replace p148 := eq_true p148
        replace q148 := eq_true q148
        go_wp2
        repeat (go_quiet (fail); try go_wp2)
        go_ret
        exact ⟨by first | rfl | (simp; done) | (simp [*]; done), by repeat (first | exact Drawn0.refl _ | apply Drawn0.step)⟩
       ·rw [if_neg c7] at H
        have c7b0 : (!(((rd_T35 l0 x5_1).f0) == ((rd_T35 l1 x5_1).f0)) || (!(((rd_T35 l0 x5_1).f1) == ((rd_T35 l1 x5_1).f1)) || (!(((rd_T35 l0 x5_1).f2) == ((rd_T35 l1 x5_1).f2))))) = false := by simpa using c7
        clear c7
        have H' := Aside0.mk H
        clear H
        have p147 : 0 ≤ (x5_1 : Int) := of_decide_eq_true (by first | (with_reducible assumption) | assumption)
        have q147 : x5_1 < (l0.length : Int) := of_decide_eq_true (by first | (with_reducible assumption) | assumption)
        obtain ⟨ad147, e147, hx147_0, hx147_1, hx147_2⟩ := at_T35 HR0.out x5_1 p147 q147
        cases e147
        replace p147 := eq_true p147
        replace q147 := eq_true q147
        have p148 : 0 ≤ (x5_1 : Int) := of_decide_eq_true (by first | (with_reducible assumption) | assumption)
        have q148 : x5_1 < (l1.length : Int) := of_decide_eq_true (by first | (with_reducible assumption) | assumption)
        obtain ⟨ad148, e148, hx148_0, hx148_1, hx148_2⟩ := at_T35 HR1.out x5_1 p148 q148
        cases e148
        replace p148 := eq_true p148
        replace q148 := eq_true q148
        go_wp2
        repeat (go_quiet (fail); try go_wp2)
        go_roundg k1
        case measure => have := HK1.out; omega
        case rel => exact ⟨(wrap64 (x5_1 + 1)), (by first | rfl | (simp; done) | (simp [*]; done)), H', ⟨by have := HK1.out; omega⟩, by repeat (first | exact Drawn0.refl _ | apply Drawn0.step)⟩
      ·rw [if_neg c6] at H
       exact absurd H (by simp)
     ·rw [if_neg c5] at H
      exact absurd H (by simp)
    ·rw [if_neg c4] at H
     have c4b0 : decide (x5_1 < (l0.length : Int)) = false := decide_eq_false c4
     clear c4
     obtain rfl := Option.some.inj H
     go_wp2
     repeat (go_quiet (fail); try go_wp2)
     go_ret
     exact ⟨by first | rfl | (simp; done) | (simp [*]; done), by repeat (first | exact Drawn0.refl _ | apply Drawn0.step)⟩
 ·rw [if_neg c3] at H
  have c3b0 : ((l0.length : Int) == (l1.length : Int)) = false := beq_eq_false_iff_ne.mpr c3
  have c3b1 : ((l0.length : Int) != (l1.length : Int)) = true := bne_iff_ne.mpr c3
  have c3b2 : (l0.length == l1.length) = false := by first | simpa using c3 | (simp at c3 ⊢; omega)
  obtain rfl := Option.some.inj H
  go_enter Tryd.func12, Tryd.ntmps12
  go_wp2
  repeat (go_quiet (fail); try go_wp2)
  go_ret
  exact ⟨by first | rfl | (simp; done) | (simp [*]; done), by repeat (first | exact Drawn0.refl _ | apply Drawn0.step)⟩

-- NOT PRINTED: function 41 (strconv_small)

-- NOT PRINTED: function 47 (strconv_log10Pow2)

-- NOT PRINTED: function 48 (bits_Len64)

-- NOT PRINTED: function 49 (strconv_bool2_int)

-- NOT PRINTED: function 42 (strconv_numDigits)

-- NOT PRINTED: function 43 (strconv_formatBase10)

-- NOT PRINTED: function 50 (strconv_isPowerOfTwo)

-- NOT PRINTED: function 52 (bits_TrailingZeros32)

-- NOT PRINTED: function 53 (bits_TrailingZeros64)

-- NOT PRINTED: function 51 (bits_TrailingZeros)

-- NOT PRINTED: function 44 (strconv_formatBits)

-- NOT PRINTED: function 38 (strconv_FormatInt)

-- NOT PRINTED: function 33 (strconv_Itoa_33)

/-! ### strconv_Itoa_25: function 25 -/
/-- the library's table of the powers of ten stands as its initialiser lays it, here and in whatever comes of it -/
def DoorW (w : World) : Prop := Lib.TabBelow Tryd.prog w.heap.size w "internal/strconv.uint64pow10" .u64 Lib.pow10Tab
theorem DoorW.below {w w1 : World} (h : DoorW w) (hb : Below w.heap.size w w1) : DoorW w1 := fun w' h' => h w' (below_step hb h')
theorem DoorW.drewN {w : World} (h : DoorW w) (n : Nat) : DoorW (w.drewN n) := h.below (pw_below_drewN (Below.refl _ _) n)
theorem DoorW.drew {w : World} (h : DoorW w) : DoorW w.drew := h.below (below_drew (Below.refl _ _))
theorem DoorW.alloc {w : World} (h : DoorW w) (o : Obj) : DoorW (w.alloc o) := h.below (below_alloc (Below.refl _ _) o)
def strconv_Itoa_25.f (a0 : Int) : Option (ByteArray) := if -9223372036854775808 ≤ a0 then (if a0 ≤ 9223372036854775807 then some ⟨(Lib.itoa a0).toArray⟩ else none) else none
theorem strconv_Itoa_25.calls (a0 : Int) (r : ByteArray) (w : World) (h : strconv_Itoa_25.f a0 = some r) (hDoor : DoorW w) :
  Calls Tryd.prog 25 #[.int .i64 a0] w fun e w' => e = .returned (.string r) ∧ Below w.heap.size w w' := by
 unfold strconv_Itoa_25.f at h
 by_cases h1 : -9223372036854775808 ≤ a0
 ·rw [if_pos h1] at h
  by_cases h2 : a0 ≤ 9223372036854775807
  ·rw [if_pos h2] at h
   obtain rfl := Option.some.inj h
   refine (Tryd.strconv_Itoa a0 h1 h2 w hDoor.here).mono ?_
   rintro e w' ⟨rfl, k, os, rfl⟩
   exact ⟨rfl, Lib.below_grow _ w (Nat.le_refl _) k os⟩
  ·rw [if_neg h2] at h
   exact absurd h (by simp)
 ·rw [if_neg h1] at h
  exact absurd h (by simp)

-- NOT PRINTED: function 45 (abi_NoEscape)

-- NOT PRINTED: function 39 (strings_Builder_copyCheck)

-- NOT PRINTED: function 46 (bytealg_MakeNoZero)

-- NOT PRINTED: function 40 (strings_Builder_grow)

-- NOT PRINTED: function 34 (strings_Builder_Grow)

-- NOT PRINTED: function 35 (strings_Builder_WriteString)

-- NOT PRINTED: function 36 (strings_Builder_String)

/-! ### strings_Join: function 26 -/
def strings_Join.f (l0 : List ByteArray) (a1 : ByteArray) : Option (ByteArray) := if l0.length ≤ 140737488355328 then (if (Lib.join (l0.map (·.data.toList)) a1.data.toList).length ≤ 140737488355328 then some ⟨(Lib.join (l0.map (·.data.toList)) a1.data.toList).toArray⟩ else none) else none
set_option maxHeartbeats 8000000 in
theorem strings_Join.calls (A0 : Option Addr) (c0 : Nat) (l0 : List ByteArray) (a1 : ByteArray) (r : ByteArray) (w : World) (hr0 : Kd.C Kd.string w A0 l0.length l0) (hc0 : l0.length ≤ c0) (h : strings_Join.f l0 a1 = some r) :
  Calls Tryd.prog 26 #[.slice A0 l0.length c0, .string a1] w fun e w' => e = .returned (.string r) ∧ Below w.heap.size w w' := by
 unfold strings_Join.f at h
 by_cases h1 : l0.length ≤ 140737488355328
 ·rw [if_pos h1] at h
  by_cases h2 : (Lib.join (l0.map (·.data.toList)) a1.data.toList).length ≤ 140737488355328
  ·rw [if_pos h2] at h
   obtain rfl := Option.some.inj h
   cases l0 with
   | nil =>
    refine (Tryd.strings_Join_none A0 c0 a1 w).mono ?_
    rintro e w' ⟨rfl, rfl⟩
    exact ⟨rfl, Below.refl _ _⟩
   | cons x xs =>
    obtain ⟨ad, rfl, hcell⟩ := hr0.2.2 (Nat.succ_pos _)
    have hc : ∀ (j : Nat) (y : ByteArray), (x :: xs)[j]? = some y → w.cell? (ad.add j) = some (.string y) := fun j y hj => by
     obtain ⟨c, hl, hR, hu⟩ := hcell j y hj
     have e : c = [.string y] := hR
     subst e
     have := hu 0 _ rfl
     rw [show j * Kd.string.sz + 0 = j from by show j * 1 + 0 = j; omega] at this
     exact this
    obtain ⟨bk, o, sp⟩ := ad
    have hx := hc 0 x rfl
    have hsp : sp = none := by
     cases sp with
     | none => rfl
     | some q =>
      exfalso
      unfold World.cell? at hx
      simp [Addr.add] at hx
      split at hx <;> simp_all
    subst hsp
    have hbk : bk < w.heap.size := World.block_lt_of_cell? w _ hx
    exact Tryd.strings_Join bk o c0 (x :: xs) a1 w (fun j y hj => by
     have q := hc j y hj
     by_cases e : j = 0
     ·subst e; simpa [Addr.add] using q
     ·simpa [Addr.add, e] using q) hbk h1 hc0 h2
  ·rw [if_neg h2] at h
   exact absurd h (by simp)
 ·rw [if_neg h1] at h
  exact absurd h (by simp)

end Go.Proofs.YtoceiaaigiflpaaDoor.PFnMemBook
