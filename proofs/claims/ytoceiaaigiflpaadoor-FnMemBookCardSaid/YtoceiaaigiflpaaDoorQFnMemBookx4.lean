/- The functions that the law FnMemBook reaches, as plain Lean functions, and the walks that show that Go comes to their answers; part 4. Its lines are the print's, turned where Lean refused them. -/
import Derived.Test.YtoceiaaigiflpaaDoorQFnMemBookx0
import Derived.Test.YtoceiaaigiflpaaDoorQFnMemBookx3
namespace Go.Proofs.YtoceiaaigiflpaaDoor.PFnMemBook
open Go.RowKit Go.Proofs.YtoceiaaigiflpaaDoorW.PrintWords Go.Proofs.YtoceiaaigiflpaaDoorW.PrintLast Go.Proofs.YtoceiaaigiflpaaDoorW.PrintMore
attribute [local go_sem] max2_int min2_int max_two min_two max_three min_three max_four min_four   -- for this text's walks alone
set_option linter.unusedVariables false
set_option linter.unusedSimpArgs false

/-! ### impl_cloneMem: function 21 -/
def impl_cloneMem.l0 : Nat → List (S56) → Int → Int → Int → List (S56) → List (S35) → Option (Int × (List (S56)) × (List (S35)))
 | 0, _, _, _, _, _, _ => none
 | k + 1, x13, x14, x15, x133000, x133001, x133002 => if x15 < x14 then (if 0 ≤ x15 then (if x15 < (x13.length : Int) then ((bytes_Clone.f ((rd_T56 x13 x15).f0)).bind fun t135 => (if x133001.length < 5864062014805 then (impl_cloneMem.l0 k x13 x14 (wrap64 (x15 + 1)) x133000 (x133001 ++ [(⟨t135⟩ : S56)]) x133002) else (none))) else (none)) else (none)) else (some (x133000, x133001, x133002))
def impl_cloneMem.f (k : Nat) (a0_0 : Int) (l0_1 : List (S56)) (l0_2 : List (S35)) : Option (Int × (List (S56)) × (List (S35))) := (impl_Touch.f l0_2).bind fun t129 => (impl_cloneMem.l0 k l0_1 (l0_1.length : Int) 0 a0_0 ([] : List (S56)) t129)
def impl_cloneMem.T1 : Bool × List (List Nat × List Nat) := (true, [([], []), ([0], [0]), ([], []), ([2], [2]), ([3], [3]), ([1, 4], [1, 4]), ([], []), ([6, 5, 4, 0, 1, 2, 3, 4, 5, 6], [5, 6])])
def impl_cloneMem.B1 : List Nat := [0, 1, 0, 4, 12, 31, 0, 127]
theorem impl_cloneMem.tab1 : rtab .any (opsOf Tryd.f21 1) = impl_cloneMem.T1 := by kernel_rfl
theorem impl_cloneMem.bits1 : waitsOk impl_cloneMem.T1.2 impl_cloneMem.B1 = true := by kernel_rfl
def impl_cloneMem.T5 : Bool × List (List Nat × List Nat) := (true, [([], []), ([0], [0]), ([], []), ([2], [2]), ([3], [3]), ([4], [4]), ([5], [5]), ([1, 6, 4], [1, 6]), ([0, 1, 2, 3, 4, 5, 6, 7], []), ([8, 7, 7, 0, 1, 2, 3, 4, 5, 6, 7], [7, 8])])
def impl_cloneMem.B5 : List Nat := [0, 1, 0, 4, 12, 28, 60, 127, 255, 511]
theorem impl_cloneMem.tab5 : rtab .any (opsOf Tryd.f21 5) = impl_cloneMem.T5 := by kernel_rfl
theorem impl_cloneMem.bits5 : waitsOk impl_cloneMem.T5.2 impl_cloneMem.B5 = true := by kernel_rfl
set_option maxHeartbeats 8000000 in
set_option maxRecDepth 100000 in
theorem impl_cloneMem.calls (k : Nat) (a0_0 : Int) (A0_1 : Option Addr) (c0_1 : Nat) (l0_1 : List (S56)) (A0_2 : Option Addr) (c0_2 : Nat) (l0_2 : List (S35)) (r1 : Int) (r2 : List (S56)) (r3 : List (S35)) (w : World) (hr0_1 : Kd.C k56 w A0_1 l0_1.length l0_1) (hc0_1 : l0_1.length ≤ c0_1) (hr0_2 : Kd.C k35 w A0_2 l0_2.length l0_2) (hc0_2 : l0_2.length ≤ c0_2) (h : impl_cloneMem.f k a0_0 l0_1 l0_2 = some (r1, r2, r3)) :
  Calls Tryd.prog 21 #[.agg #[.int .i64 a0_0, .slice A0_1 l0_1.length c0_1, .slice A0_2 l0_2.length c0_2]] w fun e w' => ∃ v1_ v2_ : Value, e = .returned (.agg #[.int .i64 r1, v1_, v2_]) ∧ Kd.S k56 56 w' w.heap.size (fun _ => True) v1_ r2 ∧ Kd.R k35 35 w' w.heap.size (fun _ => True) v2_ r3 ∧ Below w.heap.size w w' := by
 have hu28 := Tryd.underlying28
 have hu56 := Tryd.underlying56
 have HR0_1 := Aside0.mk hr0_1
 have HC0_1 := Aside0.mk hc0_1
 clear hr0_1 hc0_1
 have HR0_2 := Aside0.mk hr0_2
 have HC0_2 := Aside0.mk hc0_2
 clear hr0_2 hc0_2
 have HB := Aside0.mk (Below.refl w.heap.size w)
 have H : ((impl_Touch.f l0_2).bind fun t129 => (impl_cloneMem.l0 k l0_1 (l0_1.length : Int) 0 a0_0 ([] : List (S56)) t129)) = some (r1, r2, r3) := h
 clear h
 replace H := Option.bind_eq_some_iff.mp H
 obtain ⟨t129, A20, H⟩ := H
 replace H : (impl_cloneMem.l0 k l0_1 (l0_1.length : Int) 0 a0_0 ([] : List (S56)) t129) = some (r1, r2, r3) := H
 have A2 := Aside0.mk A20
 clear A20
 have H' := Aside0.mk H
 clear H
 go_enter Tryd.func21, Tryd.ntmps21
 try go_wp2_with (first | ((with_reducible refine gate_dst (N := 1) rfl ?_); refine box_event ?hg (N := 1) ?hd (cs := #[.int .i64 a0_0, .slice A0_1 l0_1.length c0_1, .slice A0_2 l0_2.length c0_2]) (t := 28) ?hr ?_; (case hd => rfl); (case hg => rfl); (case hr => first | (go_simp; done) | (go_simp; rfl)); intro gb127 hg w3 hbox hb; have n0_ := Aside0.mk (below_step (by exact HB.out) hb); have n1_ := Aside0.mk (hbox); have n2_ := Aside0.mk ((by rw [hg]; exact (below_size (by exact HB.out)) : w.heap.size ≤ gb127)); have n3_ := Aside0.mk ((by rw [hg]; exact (below_size (by exact HB.out)) : w.heap.size ≤ gb127)); clear HB; have HB := n0_; have BK127 := n1_; have GW127 := n2_; have GE127 := n3_; clear n0_ n1_ n2_ n3_; clear hb hbox hg) | ((with_reducible refine gate_dst (N := 2) rfl ?_); refine box_event ?hg (N := 2) ?hd (cs := #[.int .i64 0, .slice none 0 0, .slice none 0 0]) (t := 28) ?hr ?_; (case hd => rfl); (case hg => rfl); (case hr => first | (go_simp; done) | (go_simp; rfl)); intro gb128 hg w4 hbox hb; have n0_ := Aside0.mk (blk_below (g := gb127) (o := .cells #[.int .i64 a0_0, .slice A0_1 l0_1.length c0_1, .slice A0_2 l0_2.length c0_2] 28 (0, 0)) (by exact BK127.out) hb); have n1_ := Aside0.mk (below_step (by exact HB.out) hb); have n2_ := Aside0.mk (hbox); have n3_ := Aside0.mk ((by rw [hg]; exact (below_size (by exact HB.out)) : w.heap.size ≤ gb128)); have n4_ := Aside0.mk ((by rw [hg]; exact (below_size (by exact HB.out)) : w.heap.size ≤ gb128)); have n5_ := Aside0.mk ((by rw [hg]; exact Nat.ne_of_lt (blk_lt (g := gb127) (o := .cells #[.int .i64 a0_0, .slice A0_1 l0_1.length c0_1, .slice A0_2 l0_2.length c0_2] 28 (0, 0)) (by exact BK127.out)) : gb127 ≠ gb128)); have n6_ := Aside0.mk ((by rw [hg]; exact Nat.ne_of_gt (blk_lt (g := gb127) (o := .cells #[.int .i64 a0_0, .slice A0_1 l0_1.length c0_1, .slice A0_2 l0_2.length c0_2] 28 (0, 0)) (by exact BK127.out)) : gb128 ≠ gb127)); clear BK127; clear HB; have BK127 := n0_; have HB := n1_; have BK128 := n2_; have GW128 := n3_; have GE128 := n4_; have NB127_128 := n5_; have NB128_127 := n6_; clear n0_ n1_ n2_ n3_ n4_ n5_ n6_; clear hb hbox hg))
 have n0_ := Aside0.mk (blk_drew BK127.out)
 have n1_ := Aside0.mk (blk_drew BK128.out)
 have n2_ := Aside0.mk (below_drew1 HB.out)
 clear BK127
 clear BK128
 clear HB
 have BK127 := n0_
 have BK128 := n1_
 have HB := n2_
 clear n0_ n1_ n2_
 refine start_ (n := 8) (S := fun w' => w'.cell? ⟨gb127, 0, none⟩ = some (.int .i64 a0_0) ∧ w'.cell? ⟨gb127, 1, none⟩ = some (.slice A0_1 l0_1.length c0_1) ∧ w'.cell? ⟨gb127, 2, none⟩ = some (.slice A0_2 l0_2.length c0_2)) (ds := []) #[false, false, false, false, false, false, false, false] (by kernel_rfl) rfl rfl ⟨(blk_cell BK127.out 0).trans rfl, (blk_cell BK127.out 1).trans rfl, (blk_cell BK127.out 2).trans rfl⟩ (fun hHeld => ?_); refine with_tabW impl_cloneMem.tab1 impl_cloneMem.bits1 (fun HT_ HW_ => ?_)
 generalize w4.drew = w5 at BK127 BK128 HB hHeld ⊢
 refine pure_ (i := 0) (N := some 6) (v := ?_) (a' := ?_) #[true, false, false, false, false, false, false, false] rfl rfl (any_of HT_.out (by kernel_rfl)) (fun _ _ _ h => h) (Or.inl ⟨by rfl, ?_⟩) ?_ ?_
 rotate_left
 ·intro w'
  go_simp
  with_reducible rfl
 rotate_left
 ·simp only [Act.put, List.setIfInBounds_toArray, List.set_cons_zero, List.set_cons_succ, i64_w, i32_w]
  rfl
 refine pure_ (i := 2) (N := some 8) (v := ?_) (a' := ?_) #[true, false, true, false, false, false, false, false] rfl rfl (any_of HT_.out (by kernel_rfl)) (fun _ _ _ h => h) (Or.inl ⟨by rfl, ?_⟩) ?_ ?_
 rotate_left
 ·intro w'
  go_simp
  with_reducible rfl
 rotate_left
 ·simp only [Act.put, List.setIfInBounds_toArray, List.set_cons_zero, List.set_cons_succ, i64_w, i32_w]
  rfl
 refine take_ (i := 1) (N := some 7) (v := ?_) (a' := ?_) #[true, true, true, false, false, false, false, false] rfl rfl (take_ofW HT_.out HW_.out (by kernel_rfl)) (fun _ _ _ h => h) (Or.inl ⟨by rfl, ?_⟩) hHeld ?_ ?_
 rotate_left
 ·rintro w' ⟨s0, s1, s2⟩
  go_simp
  with_reducible rfl
 rotate_left
 ·simp only [Act.put, List.setIfInBounds_toArray, List.set_cons_zero, List.set_cons_succ, i64_w, i32_w]
  rfl
 refine take_ (i := 3) (N := some 9) (v := ?_) (a' := ?_) #[true, true, true, true, false, false, false, false] rfl rfl (take_ofW HT_.out HW_.out (by kernel_rfl)) (fun _ _ _ h => h) (Or.inl ⟨by rfl, ?_⟩) hHeld ?_ ?_
 rotate_left
 ·rintro w' ⟨s0, s1, s2⟩
  go_simp
  with_reducible rfl
 rotate_left
 ·simp only [Act.put, List.setIfInBounds_toArray, List.set_cons_zero, List.set_cons_succ, i64_w, i32_w]
  rfl
 refine join_ (σ := Value × Nat) 1 #[true, true, true, true, true, true, true, false] (fun s_ => [(10, s_.1), (3, .pointer (some ⟨s_.2, 0, none⟩)), (11, .agg #[.int .i64 a0_0, .slice none 0 0, s_.1])]) (fun s_ w' => (w'.cell? ⟨gb127, 0, none⟩ = some (.int .i64 a0_0) ∧ w'.cell? ⟨gb127, 1, none⟩ = some (.slice A0_1 l0_1.length c0_1) ∧ w'.cell? ⟨gb127, 2, none⟩ = some (.slice A0_2 l0_2.length c0_2)) ∧ (Kd.R k35 35 w' w.heap.size (fun _ => True) s_.1 t129) ∧ (w'.heap[gb127]? = some (.cells #[.int .i64 a0_0, .slice A0_1 l0_1.length c0_1, .slice A0_2 l0_2.length c0_2] 28 (0, 0))) ∧ (w'.heap[gb128]? = some (.cells #[.int .i64 0, .slice none 0 0, .slice none 0 0] 28 (0, 0))) ∧ (w'.heap[s_.2]? = some (.cells #[.int .i64 0, .slice none 0 0, .slice none 0 0] 28 (0, 0))) ∧ (w.heap.size ≤ s_.2) ∧ (w.heap.size ≤ s_.2) ∧ (gb127 ≠ s_.2) ∧ (s_.2 ≠ gb127) ∧ (gb128 ≠ s_.2) ∧ (s_.2 ≠ gb128) ∧ (Below w.heap.size w w')) ?_ ?_
 rotate_left
 ·intro hCont
  refine two_ (i := 4) (j := 6) (Ni := some 10) (Nj := some 3) #[true, true, true, true, true, false, false, false] #[true, true, true, true, false, false, true, false] rfl rfl rfl rfl (two_of HT_.out (by kernel_rfl)) (by decide) (by decide) (fun K hK => ?_) (fun K hK => ?_)
  ·skip
   refine goes_ Tryd.func32 (by kernel_rfl) rfl #[.slice A0_2 l0_2.length c0_2] (by rfl) rfl rfl (by (try simp only [List.map_toArray, List.map_cons, List.map_nil]); first | done | rfl | (simp only [List.length_drop, List.length_take]; rfl)) ?_
   with_reducible refine (impl_Touch.calls _ _ l0_2 t129 _ ?side1 ?side2 A2.out).mono ?_
   (case side1 => repeat (first | exact (Kd.C_below HR0_2.out HB.out) | (with_reducible refine Kd.C_alloc ?_ _) | (with_reducible refine Kd.C_drewN ?_ _) | (with_reducible refine Kd.C_drew ?_)))
   (case side2 => exact HC0_2.out)
   rintro e w6 ⟨v130, rfl, ho0, hb⟩
   refine ⟨_, rfl, ?_⟩
   have n0_ := Aside0.mk (Kd.R_lower ho0 (below_size (by exact HB.out)))
   have n1_ := Aside0.mk (blk_below (g := gb127) (o := .cells #[.int .i64 a0_0, .slice A0_1 l0_1.length c0_1, .slice A0_2 l0_2.length c0_2] 28 (0, 0)) (by exact BK127.out) hb)
   have n2_ := Aside0.mk (blk_below (g := gb128) (o := .cells #[.int .i64 0, .slice none 0 0, .slice none 0 0] 28 (0, 0)) (by exact BK128.out) hb)
   have n3_ := Aside0.mk (below_step (by exact HB.out) hb)
   clear BK127
   clear BK128
   clear HB
   have HO131 := n0_
   have BK127 := n1_
   have BK128 := n2_
   have HB := n3_
   clear n0_ n1_ n2_ n3_
   (try clear hb)
   (try clear hb2)
   (try clear hk)
   (try clear hi)
   (try clear ho0)
   obtain ⟨Ao7, co7, eo7⟩ := Kd.R_slice HO131.out
   (first | subst eo7 | (injection eo7 with f1_ f2_ f3_; have f4_ := f1_.symm; have f5_ := f3_.symm; clear f1_ f2_ f3_; subst f4_; subst f5_))
   refine hK.out _ _ ⟨(blk_cell BK127.out 0).trans rfl, (blk_cell BK127.out 1).trans rfl, (blk_cell BK127.out 2).trans rfl⟩ (fun hHeld => ?_)
   clear hK K
   refine norm_ (a' := ?_) ?_ ?_
   rotate_left
   ·show Act.put _ (some 10) _ = _
    simp only [Act.put, List.setIfInBounds_toArray, List.set_cons_zero, List.set_cons_succ, i64_w, i32_w]
    rfl
   refine pure_ (i := 5) (N := some 11) (v := ?_) (a' := ?_) #[true, true, true, true, true, true, false, false] rfl rfl (any_of HT_.out (by kernel_rfl)) (fun _ _ _ h => h) (Or.inl ⟨by rfl, ?_⟩) ?_ ?_
   rotate_left
   ·intro w'
    go_simp
    with_reducible rfl
   rotate_left
   ·simp only [Act.put, List.setIfInBounds_toArray, List.set_cons_zero, List.set_cons_succ, i64_w, i32_w]
    rfl
   refine one_ (i := 6) (N := some 3) #[true, true, true, true, true, true, true, false] rfl rfl (one_of HT_.out (by kernel_rfl)) (by decide) (fun K hK => ?_)
   refine box_step ?hg (N := 3) ?hd (cs := #[.int .i64 0, .slice none 0 0, .slice none 0 0]) (t := 28) ?hr ?_; (case hd => rfl); (case hg => rfl); (case hr => first | (go_simp; done) | (go_simp; rfl))
   intro gb132 hg w8 hbox hb
   have n0_ := Aside0.mk (Kd.R_below (by exact HO131.out) hb)
   have n1_ := Aside0.mk (blk_below (g := gb127) (o := .cells #[.int .i64 a0_0, .slice A0_1 l0_1.length c0_1, .slice A0_2 l0_2.length c0_2] 28 (0, 0)) (by exact BK127.out) hb)
   have n2_ := Aside0.mk (blk_below (g := gb128) (o := .cells #[.int .i64 0, .slice none 0 0, .slice none 0 0] 28 (0, 0)) (by exact BK128.out) hb)
   have n3_ := Aside0.mk (below_step (by exact HB.out) hb)
   have n4_ := Aside0.mk (hbox)
   have n5_ := Aside0.mk ((by rw [hg]; exact (below_size (by exact HB.out)) : w.heap.size ≤ gb132))
   have n6_ := Aside0.mk ((by rw [hg]; exact (below_size (by exact HB.out)) : w.heap.size ≤ gb132))
   have n7_ := Aside0.mk ((by rw [hg]; exact Nat.ne_of_lt (blk_lt (g := gb127) (o := .cells #[.int .i64 a0_0, .slice A0_1 l0_1.length c0_1, .slice A0_2 l0_2.length c0_2] 28 (0, 0)) (by exact BK127.out)) : gb127 ≠ gb132))
   have n8_ := Aside0.mk ((by rw [hg]; exact Nat.ne_of_gt (blk_lt (g := gb127) (o := .cells #[.int .i64 a0_0, .slice A0_1 l0_1.length c0_1, .slice A0_2 l0_2.length c0_2] 28 (0, 0)) (by exact BK127.out)) : gb132 ≠ gb127))
   have n9_ := Aside0.mk ((by rw [hg]; exact Nat.ne_of_lt (blk_lt (g := gb128) (o := .cells #[.int .i64 0, .slice none 0 0, .slice none 0 0] 28 (0, 0)) (by exact BK128.out)) : gb128 ≠ gb132))
   have n10_ := Aside0.mk ((by rw [hg]; exact Nat.ne_of_gt (blk_lt (g := gb128) (o := .cells #[.int .i64 0, .slice none 0 0, .slice none 0 0] 28 (0, 0)) (by exact BK128.out)) : gb132 ≠ gb128))
   clear HO131
   clear BK127
   clear BK128
   clear HB
   have HO131 := n0_
   have BK127 := n1_
   have BK128 := n2_
   have HB := n3_
   have BK132 := n4_
   have GW132 := n5_
   have GE132 := n6_
   have NB127_132 := n7_
   have NB132_127 := n8_
   have NB128_132 := n9_
   have NB132_128 := n10_
   clear n0_ n1_ n2_ n3_ n4_ n5_ n6_ n7_ n8_ n9_ n10_
   clear hb hbox hg
   refine hK.out _ _ ⟨(blk_cell BK127.out 0).trans rfl, (blk_cell BK127.out 1).trans rfl, (blk_cell BK127.out 2).trans rfl⟩ (fun hHeld => ?_)
   clear hK K
   refine norm_ (a' := ?_) ?_ ?_
   rotate_left
   ·show Act.put _ (some 3) _ = _
    simp only [Act.put, List.setIfInBounds_toArray, List.set_cons_zero, List.set_cons_succ, i64_w, i32_w]
    rfl
   exact norm_ (by simp only [putAll, Act.put, List.setIfInBounds_toArray, List.set_cons_zero, List.set_cons_succ]) (hCont (.slice Ao7 t129.length co7, gb132) _ ⟨hHeld, (by exact HO131.out), (by exact BK127.out), (by exact BK128.out), (by exact BK132.out), GW132.out, GE132.out, NB127_132.out, NB132_127.out, NB128_132.out, NB132_128.out, (by exact HB.out)⟩)
  ·skip
   refine box_step ?hg (N := 3) ?hd (cs := #[.int .i64 0, .slice none 0 0, .slice none 0 0]) (t := 28) ?hr ?_; (case hd => rfl); (case hg => rfl); (case hr => first | (go_simp; done) | (go_simp; rfl))
   intro gb132 hg w6 hbox hb
   have n0_ := Aside0.mk (blk_below (g := gb127) (o := .cells #[.int .i64 a0_0, .slice A0_1 l0_1.length c0_1, .slice A0_2 l0_2.length c0_2] 28 (0, 0)) (by exact BK127.out) hb)
   have n1_ := Aside0.mk (blk_below (g := gb128) (o := .cells #[.int .i64 0, .slice none 0 0, .slice none 0 0] 28 (0, 0)) (by exact BK128.out) hb)
   have n2_ := Aside0.mk (below_step (by exact HB.out) hb)
   have n3_ := Aside0.mk (hbox)
   have n4_ := Aside0.mk ((by rw [hg]; exact (below_size (by exact HB.out)) : w.heap.size ≤ gb132))
   have n5_ := Aside0.mk ((by rw [hg]; exact (below_size (by exact HB.out)) : w.heap.size ≤ gb132))
   have n6_ := Aside0.mk ((by rw [hg]; exact Nat.ne_of_lt (blk_lt (g := gb127) (o := .cells #[.int .i64 a0_0, .slice A0_1 l0_1.length c0_1, .slice A0_2 l0_2.length c0_2] 28 (0, 0)) (by exact BK127.out)) : gb127 ≠ gb132))
   have n7_ := Aside0.mk ((by rw [hg]; exact Nat.ne_of_gt (blk_lt (g := gb127) (o := .cells #[.int .i64 a0_0, .slice A0_1 l0_1.length c0_1, .slice A0_2 l0_2.length c0_2] 28 (0, 0)) (by exact BK127.out)) : gb132 ≠ gb127))
   have n8_ := Aside0.mk ((by rw [hg]; exact Nat.ne_of_lt (blk_lt (g := gb128) (o := .cells #[.int .i64 0, .slice none 0 0, .slice none 0 0] 28 (0, 0)) (by exact BK128.out)) : gb128 ≠ gb132))
   have n9_ := Aside0.mk ((by rw [hg]; exact Nat.ne_of_gt (blk_lt (g := gb128) (o := .cells #[.int .i64 0, .slice none 0 0, .slice none 0 0] 28 (0, 0)) (by exact BK128.out)) : gb132 ≠ gb128))
   clear BK127
   clear BK128
   clear HB
   have BK127 := n0_
   have BK128 := n1_
   have HB := n2_
   have BK132 := n3_
   have GW132 := n4_
   have GE132 := n5_
   have NB127_132 := n6_
   have NB132_127 := n7_
   have NB128_132 := n8_
   have NB132_128 := n9_
   clear n0_ n1_ n2_ n3_ n4_ n5_ n6_ n7_ n8_ n9_
   clear hb hbox hg
   refine hK.out _ _ ⟨(blk_cell BK127.out 0).trans rfl, (blk_cell BK127.out 1).trans rfl, (blk_cell BK127.out 2).trans rfl⟩ (fun hHeld => ?_)
   clear hK K
   refine norm_ (a' := ?_) ?_ ?_
   rotate_left
   ·show Act.put _ (some 3) _ = _
    simp only [Act.put, List.setIfInBounds_toArray, List.set_cons_zero, List.set_cons_succ, i64_w, i32_w]
    rfl
   refine one_ (i := 4) (N := some 10) #[true, true, true, true, true, false, true, false] rfl rfl (one_of HT_.out (by kernel_rfl)) (by decide) (fun K hK => ?_)
   refine goes_ Tryd.func32 (by kernel_rfl) rfl #[.slice A0_2 l0_2.length c0_2] (by rfl) rfl rfl (by (try simp only [List.map_toArray, List.map_cons, List.map_nil]); first | done | rfl | (simp only [List.length_drop, List.length_take]; rfl)) ?_
   with_reducible refine (impl_Touch.calls _ _ l0_2 t129 _ ?side1 ?side2 A2.out).mono ?_
   (case side1 => repeat (first | exact (Kd.C_below HR0_2.out HB.out) | (with_reducible refine Kd.C_alloc ?_ _) | (with_reducible refine Kd.C_drewN ?_ _) | (with_reducible refine Kd.C_drew ?_)))
   (case side2 => exact HC0_2.out)
   rintro e w7 ⟨v130, rfl, ho0, hb⟩
   refine ⟨_, rfl, ?_⟩
   have n0_ := Aside0.mk (Kd.R_lower ho0 (below_size (by exact HB.out)))
   have n1_ := Aside0.mk (blk_below (g := gb127) (o := .cells #[.int .i64 a0_0, .slice A0_1 l0_1.length c0_1, .slice A0_2 l0_2.length c0_2] 28 (0, 0)) (by exact BK127.out) hb)
   have n2_ := Aside0.mk (blk_below (g := gb128) (o := .cells #[.int .i64 0, .slice none 0 0, .slice none 0 0] 28 (0, 0)) (by exact BK128.out) hb)
   have n3_ := Aside0.mk (blk_below (g := gb132) (o := .cells #[.int .i64 0, .slice none 0 0, .slice none 0 0] 28 (0, 0)) (by exact BK132.out) hb)
   have n4_ := Aside0.mk (below_step (by exact HB.out) hb)
   clear BK127
   clear BK128
   clear BK132
   clear HB
   have HO131 := n0_
   have BK127 := n1_
   have BK128 := n2_
   have BK132 := n3_
   have HB := n4_
   clear n0_ n1_ n2_ n3_ n4_
   (try clear hb)
   (try clear hb2)
   (try clear hk)
   (try clear hi)
   (try clear ho0)
   obtain ⟨Ao8, co8, eo8⟩ := Kd.R_slice HO131.out
   (first | subst eo8 | (injection eo8 with f1_ f2_ f3_; have f4_ := f1_.symm; have f5_ := f3_.symm; clear f1_ f2_ f3_; subst f4_; subst f5_))
   refine hK.out _ _ ⟨(blk_cell BK127.out 0).trans rfl, (blk_cell BK127.out 1).trans rfl, (blk_cell BK127.out 2).trans rfl⟩ (fun hHeld => ?_)
   clear hK K
   refine norm_ (a' := ?_) ?_ ?_
   rotate_left
   ·show Act.put _ (some 10) _ = _
    simp only [Act.put, List.setIfInBounds_toArray, List.set_cons_zero, List.set_cons_succ, i64_w, i32_w]
    rfl
   refine pure_ (i := 5) (N := some 11) (v := ?_) (a' := ?_) #[true, true, true, true, true, true, true, false] rfl rfl (any_of HT_.out (by kernel_rfl)) (fun _ _ _ h => h) (Or.inl ⟨by rfl, ?_⟩) ?_ ?_
   rotate_left
   ·intro w'
    go_simp
    with_reducible rfl
   rotate_left
   ·simp only [Act.put, List.setIfInBounds_toArray, List.set_cons_zero, List.set_cons_succ, i64_w, i32_w]
    rfl
   exact norm_ (by simp only [putAll, Act.put, List.setIfInBounds_toArray, List.set_cons_zero, List.set_cons_succ]) (hCont (.slice Ao8 t129.length co8, gb132) _ ⟨hHeld, (by exact HO131.out), (by exact BK127.out), (by exact BK128.out), (by exact BK132.out), GW132.out, GE132.out, NB127_132.out, NB132_127.out, NB128_132.out, NB132_128.out, (by exact HB.out)⟩)
 rintro ⟨v130, gb132⟩ w9 ⟨hS_, h0_, h1_, h2_, h3_, h4_, h5_, h6_, h7_, h8_, h9_, h10_⟩
 have n0_ : Aside0 (Kd.R k35 35 w9 w.heap.size (fun _ => True) v130 t129) := ⟨h0_⟩
 have n1_ : Aside0 (w9.heap[gb127]? = some (.cells #[.int .i64 a0_0, .slice A0_1 l0_1.length c0_1, .slice A0_2 l0_2.length c0_2] 28 (0, 0))) := ⟨h1_⟩
 have n2_ : Aside0 (w9.heap[gb128]? = some (.cells #[.int .i64 0, .slice none 0 0, .slice none 0 0] 28 (0, 0))) := ⟨h2_⟩
 have n3_ : Aside0 (w9.heap[gb132]? = some (.cells #[.int .i64 0, .slice none 0 0, .slice none 0 0] 28 (0, 0))) := ⟨h3_⟩
 have n4_ : Aside0 (w.heap.size ≤ gb132) := ⟨h4_⟩
 have n5_ : Aside0 (w.heap.size ≤ gb132) := ⟨h5_⟩
 have n6_ : Aside0 (gb127 ≠ gb132) := ⟨h6_⟩
 have n7_ : Aside0 (gb132 ≠ gb127) := ⟨h7_⟩
 have n8_ : Aside0 (gb128 ≠ gb132) := ⟨h8_⟩
 have n9_ : Aside0 (gb132 ≠ gb128) := ⟨h9_⟩
 have n10_ : Aside0 (Below w.heap.size w w9) := ⟨h10_⟩
 clear BK127
 clear BK128
 clear HB
 clear h0_ h1_ h2_ h3_ h4_ h5_ h6_ h7_ h8_ h9_ h10_
 have HO131 := n0_
 have BK127 := n1_
 have BK128 := n2_
 have BK132 := n3_
 have GW132 := n4_
 have GE132 := n5_
 have NB127_132 := n6_
 have NB132_127 := n7_
 have NB128_132 := n8_
 have NB132_128 := n9_
 have HB := n10_
 clear n0_ n1_ n2_ n3_ n4_ n5_ n6_ n7_ n8_ n9_ n10_
 have hHeld : w9.cell? ⟨gb127, 0, none⟩ = some (.int .i64 a0_0) ∧ w9.cell? ⟨gb127, 1, none⟩ = some (.slice A0_1 l0_1.length c0_1) ∧ w9.cell? ⟨gb127, 2, none⟩ = some (.slice A0_2 l0_2.length c0_2) := hS_
 obtain ⟨Ao10, co10, eo10⟩ := Kd.R_slice HO131.out
 (first | subst eo10 | (injection eo10 with f1_ f2_ f3_; have f4_ := f1_.symm; have f5_ := f3_.symm; clear f1_ f2_ f3_; subst f4_; subst f5_))
 refine norm_ (a' := ?_) ?_ ?_
 rotate_left
 ·simp only [putAll, Act.put, List.setIfInBounds_toArray, List.set_cons_zero, List.set_cons_succ]
  rfl
 refine one_ (i := 7) (N := none) #[true, true, true, true, true, true, true, true] rfl rfl (one_of HT_.out (by kernel_rfl)) (by decide) (fun K hK => ?_)
 have hs11 : w9.cell? ⟨gb132, 0, none⟩ = some (.int .i64 0) := (blk_cell BK132.out 0).trans rfl
 have hfs11 := blk_frozen BK132.out 0
 have hns11_0 := NB127_132.out
 have hns11_1 := NB128_132.out
 have hms11_0 := NB132_127.out
 have hms11_1 := NB132_128.out
 have hs12 : w9.cell? ⟨gb132, 1, none⟩ = some (.slice none 0 0) := (blk_cell BK132.out 1).trans rfl
 have hfs12 := blk_frozen BK132.out 1
 have hns12_0 := NB127_132.out
 have hns12_1 := NB128_132.out
 have hms12_0 := NB132_127.out
 have hms12_1 := NB132_128.out
 have hs13 : w9.cell? ⟨gb132, 2, none⟩ = some (.slice none 0 0) := (blk_cell BK132.out 2).trans rfl
 have hfs13 := blk_frozen BK132.out 2
 have hns13_0 := NB127_132.out
 have hns13_1 := NB128_132.out
 have hms13_0 := NB132_127.out
 have hms13_1 := NB132_128.out
 refine skip_ (w1 := ?_) (by rfl) rfl ?_ ?_
 rotate_left
 ·go_simp
  rfl
 refine hK.out _ _ ⟨((cell_far (p := ⟨gb132, _, none⟩) NB127_132.out _).trans (((cell_far (p := ⟨gb132, _, none⟩) NB127_132.out _).trans (((cell_far (p := ⟨gb132, _, none⟩) NB127_132.out _).trans (hHeld.1)))))), ((cell_far (p := ⟨gb132, _, none⟩) NB127_132.out _).trans (((cell_far (p := ⟨gb132, _, none⟩) NB127_132.out _).trans (((cell_far (p := ⟨gb132, _, none⟩) NB127_132.out _).trans (hHeld.2.1)))))), ((cell_far (p := ⟨gb132, _, none⟩) NB127_132.out _).trans (((cell_far (p := ⟨gb132, _, none⟩) NB127_132.out _).trans (((cell_far (p := ⟨gb132, _, none⟩) NB127_132.out _).trans (hHeld.2.2))))))⟩ (fun hHeld => ?_)
 clear hK K
 refine done_ (done_of HT_.out (by kernel_rfl)) ?_
 have hnb14 := NB127_128.out
 have hnc14 := NB128_127.out
 have hnb15 := NB127_132.out
 have hnc15 := NB132_127.out
 have hcz16_0 : w9.cell? ⟨gb127, 0, none⟩ = some (.int .i64 a0_0) := (blk_cell BK127.out 0).trans rfl
 have hcz16_1 : w9.cell? ⟨gb127, 1, none⟩ = some (.slice A0_1 l0_1.length c0_1) := (blk_cell BK127.out 1).trans rfl
 have hcz16_2 : w9.cell? ⟨gb127, 2, none⟩ = some (.slice A0_2 l0_2.length c0_2) := (blk_cell BK127.out 2).trans rfl
 have hfz16_0 := blk_frozen BK127.out 0
 have hfz16_1 := blk_frozen BK127.out 1
 have hfz16_2 := blk_frozen BK127.out 2
 try go_wp2
 go_loopg [15] k (fun kq v15 w' => ∃ (x15_1 : Int) (x133001_1 : List (S56)) (u133001 : Value), v15 = .int .i64 x15_1 ∧ Aside0 (impl_cloneMem.l0 kq l0_1 (l0_1.length : Int) x15_1 a0_0 x133001_1 t129 = some (r1, r2, r3)) ∧ Aside0 (kq ≤ k) ∧ Aside0 (Kd.S k56 56 w' w.heap.size (fun _ => True) u133001 x133001_1) ∧ Aside0 (Kd.R k35 35 w' w.heap.size (fun _ => True) (.slice Ao10 t129.length co10) t129) ∧ Aside0 (w'.heap[gb127]? = some (.cells #[.int .i64 a0_0, (.slice A0_1 l0_1.length c0_1), (.slice A0_2 l0_2.length c0_2)] 28 (0, 0))) ∧ Aside0 (w'.heap[gb128]? = some (.cells #[.int .i64 0, (.slice none 0 0), (.slice none 0 0)] 28 (0, 0))) ∧ Aside0 (w'.heap[gb132]? = some (.cells #[.int .i64 a0_0, u133001, (.slice Ao10 t129.length co10)] 28 (0, 0))) ∧ Aside0 (Below w.heap.size w w'))
 case atStart => exact ⟨(0), (([] : List (S56))), (.slice none 0 0), (by first | rfl | (simp; done) | (simp [*]; done)), H', ⟨Nat.le_refl _⟩, ⟨by first | exact Kd.S_nil _ _ _ _ _ | exact Kd.N_nil _ _ _ _ _ | exact Kd.V_nil _ _ _ _ _ | exact Kd.Q_nil _ _ _ _ _ | exact Kd.R_nil _ _ _ _ _⟩, ⟨by (with_reducible repeat (first | apply Kd.R_alloc | apply Kd.R_drewN | apply Kd.R_drew)); exact Kd.R_mono (Kd.R_far (p := ⟨gb132, 2, none⟩) (Kd.R_far (p := ⟨gb132, 1, none⟩) (Kd.R_far (p := ⟨gb132, 0, none⟩) (Kd.R_types HO131.out BK132.out (by decide)) (fun _ hk => hk.2) (.int .i64 a0_0)) (fun _ hk => hk.2) (.slice none 0 0)) (fun _ hk => hk.2) (.slice Ao10 t129.length co10)) (fun _ hk => trivial)⟩, ⟨by (with_reducible repeat (first | refine blk_drewN ?_ _ | refine blk_drew ?_ | refine blk_alloc ?_ _)); refine blk_far ?_ NB127_132.out _; (with_reducible repeat (first | refine blk_drewN ?_ _ | refine blk_drew ?_ | refine blk_alloc ?_ _)); refine blk_far ?_ NB127_132.out _; (with_reducible repeat (first | refine blk_drewN ?_ _ | refine blk_drew ?_ | refine blk_alloc ?_ _)); refine blk_far ?_ NB127_132.out _; exact BK127.out⟩, ⟨by (with_reducible repeat (first | refine blk_drewN ?_ _ | refine blk_drew ?_ | refine blk_alloc ?_ _)); refine blk_far ?_ NB128_132.out _; (with_reducible repeat (first | refine blk_drewN ?_ _ | refine blk_drew ?_ | refine blk_alloc ?_ _)); refine blk_far ?_ NB128_132.out _; (with_reducible repeat (first | refine blk_drewN ?_ _ | refine blk_drew ?_ | refine blk_alloc ?_ _)); refine blk_far ?_ NB128_132.out _; exact BK128.out⟩, ⟨by (with_reducible repeat (first | refine blk_drewN ?_ _ | refine blk_drew ?_ | refine blk_alloc ?_ _)); refine blk_put (cs := #[.int .i64 a0_0, .slice none 0 0, .slice none 0 0]) ?_ 2 _ rfl; (with_reducible repeat (first | refine blk_drewN ?_ _ | refine blk_drew ?_ | refine blk_alloc ?_ _)); refine blk_put (cs := #[.int .i64 a0_0, .slice none 0 0, .slice none 0 0]) ?_ 1 _ rfl; (with_reducible repeat (first | refine blk_drewN ?_ _ | refine blk_drew ?_ | refine blk_alloc ?_ _)); refine blk_put (cs := #[.int .i64 0, .slice none 0 0, .slice none 0 0]) ?_ 0 _ rfl; exact BK132.out⟩, ⟨by repeat (first | (with_reducible first | exact HB.out | apply below_alloc | apply pw_below_drewN | apply below_drew1 | refine below_set ?_ GE127.out | refine below_set ?_ GE128.out | refine below_set ?_ GE132.out) | exact HB.out)⟩⟩
 case round =>
  clear H'
  try clear c1
  try clear c2
  try clear p2
  try clear c3
  try clear c14
  try clear c15
  try clear hcz16_0
  try clear hcz16_1
  try clear hcz16_2
  try clear hfz16_0
  try clear hfz16_1
  try clear hfz16_2
  obtain ⟨x15_1, x133001_1, u133001, rfl, HA, HK1, HO_133001, HO_133002, BK127, BK128, BK132, HB⟩ := hrel
  cases gk with
  | zero => exact absurd HA.out (by simp [impl_cloneMem.l0])
  | succ k1 =>
   have H := HA.out
   clear HA
   simp only [impl_cloneMem.l0] at H
   by_cases c17 : x15_1 < (l0_1.length : Int)
   ·rw [if_pos c17] at H
    have c17b0 : decide (x15_1 < (l0_1.length : Int)) = true := decide_eq_true c17
    clear c17
    by_cases c18 : 0 ≤ x15_1
    ·rw [if_pos c18] at H
     have c18b0 : decide (0 ≤ x15_1) = true := decide_eq_true c18
     clear c18
     by_cases c19 : x15_1 < (l0_1.length : Int)
     ·rw [if_pos c19] at H
      have c19b0 : decide (x15_1 < (l0_1.length : Int)) = true := decide_eq_true c19
      clear c19
      replace H := Option.bind_eq_some_iff.mp H
      obtain ⟨t135, A200, H⟩ := H
      replace H : (if x133001_1.length < 5864062014805 then (impl_cloneMem.l0 k1 l0_1 (l0_1.length : Int) (wrap64 (x15_1 + 1)) a0_0 (x133001_1 ++ [(⟨t135⟩ : S56)]) t129) else (none)) = some (r1, r2, r3) := H
      have A20 := Aside0.mk A200
      clear A200
      by_cases c21 : x133001_1.length < 5864062014805
      ·rw [if_pos c21] at H
       have LMc21 := Aside0.mk c21
       clear c21
       obtain ⟨y138, hy138⟩ : ∃ y_ : List (S56), y_ = (x133001_1 ++ [(⟨t135⟩ : S56)]) := ⟨_, rfl⟩
       replace H : (impl_cloneMem.l0 k1 l0_1 (l0_1.length : Int) (wrap64 (x15_1 + 1)) a0_0 y138 t129) = some (r1, r2, r3) := by first | (rw [hy138]; with_reducible exact H) | (have H2_ := (Option.bind_some _ _).symm.trans H; rw [hy138]; with_reducible exact H2_) | (have H2_ := (Option.bind_some _ _).symm.trans H; with_reducible exact H2_) | with_reducible exact H | (rw [hy138]; exact H) | exact H
       have Ny138 := Aside0.mk hy138
       clear hy138
       have H' := Aside0.mk H
       clear H
       have p133 : 0 ≤ (x15_1 : Int) := of_decide_eq_true (by first | (with_reducible assumption) | assumption)
       have q133 : x15_1 < (l0_1.length : Int) := of_decide_eq_true (by first | (with_reducible assumption) | assumption)
       obtain ⟨ad133, A133_0, c133_0, e133, hx133_0, hl133_0, hi133_0⟩ := at_T56 HR0_1.out x15_1 p133 q133
       cases e133
       replace hx133_0 := (HB.out.cell (World.block_lt_of_cell? w _ hx133_0)).trans hx133_0
       have HR133_0 := Aside0.mk hi133_0
       have HC133_0 := Aside0.mk hl133_0
       clear hi133_0 hl133_0
       replace p133 := eq_true p133
       replace q133 := eq_true q133
       try go_wp2_with (first | ((with_reducible refine gate_dst (N := 5) rfl ?_); refine box_event ?hg (N := 5) ?hd (cs := #[.slice none 0 0]) (t := 56) ?hr ?_; (case hd => rfl); (case hg => rfl); (case hr => first | (go_simp; done) | (go_simp; rfl)); intro gb134 hg w22 hbox hb; have n0_ := Aside0.mk (Kd.S_below (Kd.S_elderB (by exact HO_133001.out) gb134 (Nat.le_of_eq hg.symm)) hb); have n1_ := Aside0.mk (Kd.R_below (by exact HO_133002.out) hb); have n2_ := Aside0.mk (blk_below (g := gb127) (o := .cells #[.int .i64 a0_0, .slice (some ad133) l0_1.length c0_1, .slice A0_2 l0_2.length c0_2] 28 (0, 0)) (by exact BK127.out) hb); have n3_ := Aside0.mk (blk_below (g := gb128) (o := .cells #[.int .i64 0, .slice none 0 0, .slice none 0 0] 28 (0, 0)) (by exact BK128.out) hb); have n4_ := Aside0.mk (blk_below (g := gb132) (o := .cells #[.int .i64 a0_0, u133001, .slice Ao10 t129.length co10] 28 (0, 0)) (by exact BK132.out) hb); have n5_ := Aside0.mk (below_step (by exact HB.out) hb); have n6_ := Aside0.mk (hbox); have n7_ := Aside0.mk ((by rw [hg]; exact (below_size (by exact HB.out)) : w.heap.size ≤ gb134)); have n8_ := Aside0.mk ((by rw [hg]; exact (below_size (by exact HB.out)) : w.heap.size ≤ gb134)); have n9_ := Aside0.mk ((by rw [hg]; exact Nat.ne_of_lt (blk_lt (g := gb127) (o := .cells #[.int .i64 a0_0, .slice (some ad133) l0_1.length c0_1, .slice A0_2 l0_2.length c0_2] 28 (0, 0)) (by exact BK127.out)) : gb127 ≠ gb134)); have n10_ := Aside0.mk ((by rw [hg]; exact Nat.ne_of_gt (blk_lt (g := gb127) (o := .cells #[.int .i64 a0_0, .slice (some ad133) l0_1.length c0_1, .slice A0_2 l0_2.length c0_2] 28 (0, 0)) (by exact BK127.out)) : gb134 ≠ gb127)); have n11_ := Aside0.mk ((by rw [hg]; exact Nat.ne_of_lt (blk_lt (g := gb128) (o := .cells #[.int .i64 0, .slice none 0 0, .slice none 0 0] 28 (0, 0)) (by exact BK128.out)) : gb128 ≠ gb134)); have n12_ := Aside0.mk ((by rw [hg]; exact Nat.ne_of_gt (blk_lt (g := gb128) (o := .cells #[.int .i64 0, .slice none 0 0, .slice none 0 0] 28 (0, 0)) (by exact BK128.out)) : gb134 ≠ gb128)); have n13_ := Aside0.mk ((by rw [hg]; exact Nat.ne_of_lt (blk_lt (g := gb132) (o := .cells #[.int .i64 a0_0, u133001, .slice Ao10 t129.length co10] 28 (0, 0)) (by exact BK132.out)) : gb132 ≠ gb134)); have n14_ := Aside0.mk ((by rw [hg]; exact Nat.ne_of_gt (blk_lt (g := gb132) (o := .cells #[.int .i64 a0_0, u133001, .slice Ao10 t129.length co10] 28 (0, 0)) (by exact BK132.out)) : gb134 ≠ gb132)); clear HO_133001; clear HO_133002; clear BK127; clear BK128; clear BK132; clear HB; have HO_133001 := n0_; have HO_133002 := n1_; have BK127 := n2_; have BK128 := n3_; have BK132 := n4_; have HB := n5_; have BK134 := n6_; have GW134 := n7_; have GE134 := n8_; have NB127_134 := n9_; have NB134_127 := n10_; have NB128_134 := n11_; have NB134_128 := n12_; have NB132_134 := n13_; have NB134_132 := n14_; clear n0_ n1_ n2_ n3_ n4_ n5_ n6_ n7_ n8_ n9_ n10_ n11_ n12_ n13_ n14_; clear hb hbox hg; have hnb23 := NB134_127.out; have hnc23 := NB127_134.out; have hnb24 := NB134_128.out; have hnc24 := NB128_134.out; have hnb25 := NB134_132.out; have hnc25 := NB132_134.out; have hcz26_0 : w22.cell? ⟨gb134, 0, none⟩ = some (.slice none 0 0) := (blk_cell BK134.out 0).trans rfl; have hfz26_0 := blk_frozen BK134.out 0))
       have n0_ : Aside0 (Kd.S k56 56 (w22.setCell ⟨gb134, 0, none⟩ (.slice A133_0 ((rd_T56 l0_1 x15_1).f0).length c133_0)) w.heap.size (fun k_ => k_ ≠ gb134) u133001 x133001_1) := ⟨by (with_reducible repeat (first | apply Kd.S_alloc | apply Kd.S_drewN | apply Kd.S_drew)); exact Kd.S_mono (Kd.S_far (p := ⟨gb134, 0, none⟩) (Kd.S_mono HO_133001.out (fun k_ hk => (⟨hk, hk.2⟩ : _ ∧ k_ ≠ gb134))) (fun _ hk => hk.2) (.slice A133_0 ((rd_T56 l0_1 x15_1).f0).length c133_0)) (fun _ hk => hk.1.2)⟩
       have n1_ : Aside0 (Kd.R k35 35 (w22.setCell ⟨gb134, 0, none⟩ (.slice A133_0 ((rd_T56 l0_1 x15_1).f0).length c133_0)) w.heap.size (fun _ => True) (.slice Ao10 t129.length co10) t129) := ⟨by (with_reducible repeat (first | apply Kd.R_alloc | apply Kd.R_drewN | apply Kd.R_drew)); exact Kd.R_mono (Kd.R_far (p := ⟨gb134, 0, none⟩) (Kd.R_types HO_133002.out BK134.out (by decide)) (fun _ hk => hk.2) (.slice A133_0 ((rd_T56 l0_1 x15_1).f0).length c133_0)) (fun _ hk => trivial)⟩
       have n2_ : Aside0 ((w22.setCell ⟨gb134, 0, none⟩ (.slice A133_0 ((rd_T56 l0_1 x15_1).f0).length c133_0)).heap[gb127]? = some (.cells #[.int .i64 a0_0, .slice (some ad133) l0_1.length c0_1, .slice A0_2 l0_2.length c0_2] 28 (0, 0))) := ⟨by (with_reducible repeat (first | refine blk_drewN ?_ _ | refine blk_drew ?_ | refine blk_alloc ?_ _)); refine blk_far ?_ NB127_134.out _; exact BK127.out⟩
       have n3_ : Aside0 ((w22.setCell ⟨gb134, 0, none⟩ (.slice A133_0 ((rd_T56 l0_1 x15_1).f0).length c133_0)).heap[gb128]? = some (.cells #[.int .i64 0, .slice none 0 0, .slice none 0 0] 28 (0, 0))) := ⟨by (with_reducible repeat (first | refine blk_drewN ?_ _ | refine blk_drew ?_ | refine blk_alloc ?_ _)); refine blk_far ?_ NB128_134.out _; exact BK128.out⟩
       have n4_ : Aside0 ((w22.setCell ⟨gb134, 0, none⟩ (.slice A133_0 ((rd_T56 l0_1 x15_1).f0).length c133_0)).heap[gb132]? = some (.cells #[.int .i64 a0_0, u133001, .slice Ao10 t129.length co10] 28 (0, 0))) := ⟨by (with_reducible repeat (first | refine blk_drewN ?_ _ | refine blk_drew ?_ | refine blk_alloc ?_ _)); refine blk_far ?_ NB132_134.out _; exact BK132.out⟩
       have n5_ : Aside0 ((w22.setCell ⟨gb134, 0, none⟩ (.slice A133_0 ((rd_T56 l0_1 x15_1).f0).length c133_0)).heap[gb134]? = some (.cells #[.slice A133_0 ((rd_T56 l0_1 x15_1).f0).length c133_0] 56 (0, 0))) := ⟨by (with_reducible repeat (first | refine blk_drewN ?_ _ | refine blk_drew ?_ | refine blk_alloc ?_ _)); refine blk_put (cs := #[.slice none 0 0]) ?_ 0 _ rfl; exact BK134.out⟩
       have n6_ : Aside0 (Below w.heap.size w (w22.setCell ⟨gb134, 0, none⟩ (.slice A133_0 ((rd_T56 l0_1 x15_1).f0).length c133_0))) := ⟨by repeat (first | (with_reducible first | exact HB.out | apply below_alloc | apply pw_below_drewN | apply below_drew1 | refine below_set ?_ GE127.out | refine below_set ?_ GE128.out | refine below_set ?_ GE132.out | refine below_set ?_ GE134.out) | exact HB.out)⟩
       (try clear HO_133001)
       (try clear HO_133002)
       (try clear BK127)
       (try clear BK128)
       (try clear BK132)
       (try clear BK134)
       (try clear HB)
       generalize (w22.setCell ⟨gb134, 0, none⟩ (.slice A133_0 ((rd_T56 l0_1 x15_1).f0).length c133_0)) = w27 at n0_ n1_ n2_ n3_ n4_ n5_ n6_ ⊢
       have HO_133001 := n0_
       have HO_133002 := n1_
       have BK127 := n2_
       have BK128 := n3_
       have BK132 := n4_
       have BK134 := n5_
       have HB := n6_
       clear n0_ n1_ n2_ n3_ n4_ n5_ n6_
       have n0_ := Aside0.mk (Kd.S_drew HO_133001.out)
       have n1_ := Aside0.mk (Kd.R_drew HO_133002.out)
       have n2_ := Aside0.mk (blk_drew BK127.out)
       have n3_ := Aside0.mk (blk_drew BK128.out)
       have n4_ := Aside0.mk (blk_drew BK132.out)
       have n5_ := Aside0.mk (blk_drew BK134.out)
       have n6_ := Aside0.mk (below_drew1 HB.out)
       clear HO_133001
       clear HO_133002
       clear BK127
       clear BK128
       clear BK132
       clear BK134
       clear HB
       have HO_133001 := n0_
       have HO_133002 := n1_
       have BK127 := n2_
       have BK128 := n3_
       have BK132 := n4_
       have BK134 := n5_
       have HB := n6_
       clear n0_ n1_ n2_ n3_ n4_ n5_ n6_
       refine start_ (n := 10) (S := fun w' => w'.cell? ⟨gb132, 0, none⟩ = some (.int .i64 a0_0) ∧ w'.cell? ⟨gb132, 1, none⟩ = some (u133001) ∧ w'.cell? ⟨gb132, 2, none⟩ = some (.slice Ao10 t129.length co10) ∧ w'.cell? ⟨gb134, 0, none⟩ = some (.slice A133_0 ((rd_T56 l0_1 x15_1).f0).length c133_0)) (ds := [9]) #[false, false, false, false, false, false, false, false, false, false] (by kernel_rfl) rfl rfl ⟨(blk_cell BK132.out 0).trans rfl, (blk_cell BK132.out 1).trans rfl, (blk_cell BK132.out 2).trans rfl, (blk_cell BK134.out 0).trans rfl⟩ (fun hHeld => ?_); refine with_tabW impl_cloneMem.tab5 impl_cloneMem.bits5 (fun HT_ HW_ => ?_)
       generalize w27.drew = w28 at HO_133001 HO_133002 BK127 BK128 BK132 BK134 HB hHeld ⊢
       refine pure_ (i := 0) (N := some 19) (v := ?_) (a' := ?_) #[true, false, false, false, false, false, false, false, false, false] rfl rfl (any_of HT_.out (by kernel_rfl)) (fun _ _ _ h => h) (Or.inl ⟨by rfl, ?_⟩) ?_ ?_
       rotate_left
       ·intro w'
        go_simp
        with_reducible rfl
       rotate_left
       ·simp only [Act.put, List.setIfInBounds_toArray, List.set_cons_zero, List.set_cons_succ, i64_w, i32_w]
        rfl
       refine pure_ (i := 2) (N := some 21) (v := ?_) (a' := ?_) #[true, false, true, false, false, false, false, false, false, false] rfl rfl (any_of HT_.out (by kernel_rfl)) (fun _ _ _ h => h) (Or.inl ⟨by rfl, ?_⟩) ?_ ?_
       rotate_left
       ·intro w'
        go_simp
        with_reducible rfl
       rotate_left
       ·simp only [Act.put, List.setIfInBounds_toArray, List.set_cons_zero, List.set_cons_succ, i64_w, i32_w]
        rfl
       refine take_ (i := 1) (N := some 20) (v := ?_) (a' := ?_) #[true, true, true, false, false, false, false, false, false, false] rfl rfl (take_ofW HT_.out HW_.out (by kernel_rfl)) (fun _ _ _ h => h) (Or.inl ⟨by rfl, ?_⟩) hHeld ?_ ?_
       rotate_left
       ·rintro w' ⟨s0, s1, s2, s3⟩
        go_simp
        with_reducible rfl
       rotate_left
       ·simp only [Act.put, List.setIfInBounds_toArray, List.set_cons_zero, List.set_cons_succ, i64_w, i32_w]
        rfl
       refine take_ (i := 3) (N := some 22) (v := ?_) (a' := ?_) #[true, true, true, true, false, false, false, false, false, false] rfl rfl (take_ofW HT_.out HW_.out (by kernel_rfl)) (fun _ _ _ h => h) (Or.inl ⟨by rfl, ?_⟩) hHeld ?_ ?_
       rotate_left
       ·rintro w' ⟨s0, s1, s2, s3⟩
        go_simp
        with_reducible rfl
       rotate_left
       ·simp only [Act.put, List.setIfInBounds_toArray, List.set_cons_zero, List.set_cons_succ, i64_w, i32_w]
        rfl
       refine one_ (i := 4) (N := some 23) #[true, true, true, true, true, false, false, false, false, false] rfl rfl (one_of HT_.out (by kernel_rfl)) (by decide) (fun K hK => ?_)
       refine goes_ Tryd.func23 (by kernel_rfl) rfl #[.slice A133_0 ((rd_T56 l0_1 x15_1).f0).length c133_0] (by rfl) rfl rfl (by (try simp only [List.map_toArray, List.map_cons, List.map_nil]); first | done | rfl | (simp only [List.length_drop, List.length_take]; rfl)) ?_
       with_reducible refine (bytes_Clone.calls _ _ ((rd_T56 l0_1 x15_1).f0) t135 _ ?side1 ?side2 A20.out).mono ?_
       (case side1 => repeat (first | exact (Kd.C_below HR133_0.out HB.out) | (with_reducible refine Kd.C_alloc ?_ _) | (with_reducible refine Kd.C_drewN ?_ _) | (with_reducible refine Kd.C_drew ?_)))
       (case side2 => exact HC133_0.out)
       rintro e w29 ⟨v136, rfl, ho0, hb⟩
       refine ⟨_, rfl, ?_⟩
       have n0_ := Aside0.mk (Kd.S_elder' (by exact HO_133001.out) (Kd.R_base ho0) hb)
       have n1_ := Aside0.mk (Kd.R_below (by exact HO_133002.out) hb)
       have n2_ := Aside0.mk (Kd.R_lower ho0 (below_size (by exact HB.out)))
       have n3_ := Aside0.mk (blk_below (g := gb127) (o := .cells #[.int .i64 a0_0, .slice (some ad133) l0_1.length c0_1, .slice A0_2 l0_2.length c0_2] 28 (0, 0)) (by exact BK127.out) hb)
       have n4_ := Aside0.mk (blk_below (g := gb128) (o := .cells #[.int .i64 0, .slice none 0 0, .slice none 0 0] 28 (0, 0)) (by exact BK128.out) hb)
       have n5_ := Aside0.mk (blk_below (g := gb132) (o := .cells #[.int .i64 a0_0, u133001, .slice Ao10 t129.length co10] 28 (0, 0)) (by exact BK132.out) hb)
       have n6_ := Aside0.mk (blk_below (g := gb134) (o := .cells #[.slice A133_0 ((rd_T56 l0_1 x15_1).f0).length c133_0] 56 (0, 0)) (by exact BK134.out) hb)
       have n7_ := Aside0.mk (below_step (by exact HB.out) hb)
       clear HO_133001
       clear HO_133002
       clear BK127
       clear BK128
       clear BK132
       clear BK134
       clear HB
       have HO_133001 := n0_
       have HO_133002 := n1_
       have HO137 := n2_
       have BK127 := n3_
       have BK128 := n4_
       have BK132 := n5_
       have BK134 := n6_
       have HB := n7_
       clear n0_ n1_ n2_ n3_ n4_ n5_ n6_ n7_
       (try clear hb)
       (try clear hb2)
       (try clear hk)
       (try clear hi)
       (try clear ho0)
       obtain ⟨Ao30, co30, eo30⟩ := Kd.R_slice HO137.out
       (first | subst eo30 | (injection eo30 with f1_ f2_ f3_; have f4_ := f1_.symm; have f5_ := f3_.symm; clear f1_ f2_ f3_; subst f4_; subst f5_))
       refine hK.out _ _ ⟨(blk_cell BK132.out 0).trans rfl, (blk_cell BK132.out 1).trans rfl, (blk_cell BK132.out 2).trans rfl, (blk_cell BK134.out 0).trans rfl⟩ (fun hHeld => ?_)
       clear hK K
       refine norm_ (a' := ?_) ?_ ?_
       rotate_left
       ·show Act.put _ (some 23) _ = _
        simp only [Act.put, List.setIfInBounds_toArray, List.set_cons_zero, List.set_cons_succ, i64_w, i32_w]
        rfl
       refine pure_ (i := 5) (N := some 24) (v := ?_) (a' := ?_) #[true, true, true, true, true, true, false, false, false, false] rfl rfl (any_of HT_.out (by kernel_rfl)) (fun _ _ _ h => h) (Or.inl ⟨by rfl, ?_⟩) ?_ ?_
       rotate_left
       ·intro w'
        go_simp
        with_reducible rfl
       rotate_left
       ·simp only [Act.put, List.setIfInBounds_toArray, List.set_cons_zero, List.set_cons_succ, i64_w, i32_w]
        rfl
       refine one_ (i := 6) (N := some 25) #[true, true, true, true, true, true, true, false, false, false] rfl rfl (one_of HT_.out (by kernel_rfl)) (by decide) (fun K hK => ?_)
       refine value_ (w1 := ?_) (v := ?_) (by rfl) rfl ?_ ?_
       rotate_left 2
       ·go_simp
        constructor
        ·rfl
        ·rfl
       refine hK.out _ _ ⟨(blk_cell (blk_alloc BK132.out _) 0).trans rfl, (blk_cell (blk_alloc BK132.out _) 1).trans rfl, (blk_cell (blk_alloc BK132.out _) 2).trans rfl, (blk_cell (blk_alloc BK134.out _) 0).trans rfl⟩ (fun hHeld => ?_)
       clear hK K
       refine norm_ (a' := ?_) ?_ ?_
       rotate_left
       ·show Act.put _ (some 25) _ = _
        simp only [Act.put, List.setIfInBounds_toArray, List.set_cons_zero, List.set_cons_succ, i64_w, i32_w]
        rfl
       refine one_ (i := 7) (N := some 26) #[true, true, true, true, true, true, true, true, false, false] rfl rfl (one_of HT_.out (by kernel_rfl)) (by decide) (fun K hK => ?_)
       refine Kd.S_append_step k56 (w0 := w) w.heap.size (by rfl) (.tmp 20) (.tmp 25) 25 56 (.agg #[(.slice none 0 0)]) 24 rfl Tryd.underlying25 info56 rfl (by decide) (by omega) u133001 x133001_1 (⟨t135⟩ : S56) [.slice Ao30 t135.length co30] (fun k_ => k_ ≠ gb134) (fun k_ => some k_ = (.slice Ao30 t135.length co30 : Value).ownBlock) rfl rfl ?aP (fun k_ hk_ => ((Kd.R_mono (ok' := fun k_ => ((fun k_ => k_ ≠ gb134)) k_ ∧ some k_ ≠ (u133001 : Value).ownBlock) (Kd.R_types (Kd.R_apart' (HO137.out) (Kd.S_typed HO_133001.out) (by decide)) BK134.out (by decide)) (fun k_ hk => ⟨hk.2, hk.1.2⟩))).1 k_ hk_.symm) ?aF ?aO ?aB ?aS ?aL ?_
       (case aP => exact k56_mkM _ _ _ (⟨t135⟩ : S56) (Kd.R_mono (Kd.R_tight rfl (Kd.R_mono (ok' := fun k_ => ((fun k_ => k_ ≠ gb134)) k_ ∧ some k_ ≠ (u133001 : Value).ownBlock) (Kd.R_types (Kd.R_apart' (HO137.out) (Kd.S_typed HO_133001.out) (by decide)) BK134.out (by decide)) (fun k_ hk => ⟨hk.2, hk.1.2⟩))) (fun _ h_ => h_)))
       (case aB => exact (by exact HB.out))
       (case aF => exact (fun k_ hk => Kd.freshB (g := gb134) (o := .cells #[.slice A133_0 ((rd_T56 l0_1 x15_1).f0).length c133_0] 56 (0, 0)) (by exact BK134.out) k_ hk))
       (case aO => exact (by (with_reducible repeat (first | apply Kd.S_alloc | apply Kd.S_drewN | apply Kd.S_drew)); exact Kd.S_mono HO_133001.out (fun k_ hk => ⟨hk.1, fun e_ => hk.2 e_⟩)))
       (case aS => exact (below_size (by exact HB.out)))
       (case aL => have := LMc21.out; omega)
       intro v139 w31 ho hb hg hat
       rw [← Ny138.out] at ho
       have n0_ := Aside0.mk (Kd.R_over' (by exact HO_133002.out) (Kd.S_typed (by exact HO_133001.out)) (by decide) hg)
       have n1_ := Aside0.mk (blk_grown (g := gb127) (o := .cells #[.int .i64 a0_0, .slice (some ad133) l0_1.length c0_1, .slice A0_2 l0_2.length c0_2] 28 (0, 0)) (by exact BK127.out) hg (Kd.S_ne HO_133001.out BK127.out (by decide)))
       have n2_ := Aside0.mk (blk_grown (g := gb128) (o := .cells #[.int .i64 0, .slice none 0 0, .slice none 0 0] 28 (0, 0)) (by exact BK128.out) hg (Kd.S_ne HO_133001.out BK128.out (by decide)))
       have n3_ := Aside0.mk (blk_grown (g := gb132) (o := .cells #[.int .i64 a0_0, u133001, .slice Ao10 t129.length co10] 28 (0, 0)) (by exact BK132.out) hg (Kd.S_ne HO_133001.out BK132.out (by decide)))
       have n4_ := Aside0.mk (blk_grown (g := gb134) (o := .cells #[.slice A133_0 ((rd_T56 l0_1 x15_1).f0).length c133_0] 56 (0, 0)) (by exact BK134.out) hg (Kd.S_away HO_133001.out (fun _ hk => hk.1)))
       have n5_ := Aside0.mk (hb)
       have n6_ := Aside0.mk (ho)
       clear HO_133002
       clear BK127
       clear BK128
       clear BK132
       clear BK134
       clear HB
       clear HO_133001
       clear HO137
       have HO_133002 := n0_
       have BK127 := n1_
       have BK128 := n2_
       have BK132 := n3_
       have BK134 := n4_
       have HB := n5_
       have HO140 := n6_
       clear n0_ n1_ n2_ n3_ n4_ n5_ n6_
       clear ho hb hg hat
       obtain ⟨Ao32, co32, eo32⟩ := Kd.S_slice HO140.out
       (first | subst eo32 | (injection eo32 with f1_ f2_ f3_; have f4_ := f1_.symm; have f5_ := f3_.symm; clear f1_ f2_ f3_; subst f4_; subst f5_))
       refine hK.out _ _ ⟨(blk_cell BK132.out 0).trans rfl, (blk_cell BK132.out 1).trans rfl, (blk_cell BK132.out 2).trans rfl, (blk_cell BK134.out 0).trans rfl⟩ (fun hHeld => ?_)
       clear hK K
       refine norm_ (a' := ?_) ?_ ?_
       rotate_left
       ·show Act.put _ (some 26) _ = _
        simp only [Act.put, List.setIfInBounds_toArray, List.set_cons_zero, List.set_cons_succ, i64_w, i32_w]
        rfl
       refine pure_ (i := 8) (N := some 27) (v := ?_) (a' := ?_) #[true, true, true, true, true, true, true, true, true, false] rfl rfl (any_of HT_.out (by kernel_rfl)) (fun _ _ _ h => h) (Or.inl ⟨by rfl, ?_⟩) ?_ ?_
       rotate_left
       ·intro w'
        go_simp
        with_reducible rfl
       rotate_left
       ·simp only [Act.put, List.setIfInBounds_toArray, List.set_cons_zero, List.set_cons_succ, i64_w, i32_w]
        rfl
       refine last_ (i := 9) (N := none) #[true, true, true, true, true, true, true, true, true, true] rfl rfl (one_of HT_.out (by kernel_rfl)) (by decide) (fun K hK => ?_)
       have hs33 : w31.cell? ⟨gb132, 1, none⟩ = some (u133001) := (blk_cell BK132.out 1).trans rfl
       have hfs33 := blk_frozen BK132.out 1
       have hns33_0 := NB127_132.out
       have hns33_1 := NB128_132.out
       have hns33_3 := NB134_132.out
       have hms33_0 := NB132_127.out
       have hms33_1 := NB132_128.out
       have hms33_3 := NB132_134.out
       refine skip_ (w1 := ?_) (by rfl) rfl ?_ ?_
       rotate_left
       ·go_simp
        rfl
       refine hK.out _ _ ?_
       clear hK K
       refine done_ (done_of HT_.out (by kernel_rfl)) ?_
       try go_wp2
       go_roundg k1
       case measure => have := HK1.out; omega
       case rel => exact ⟨(wrap64 (x15_1 + 1)), (y138), (.slice Ao32 y138.length co32), (by first | rfl | (simp; done) | (simp [*]; done)), H', ⟨by have := HK1.out; omega⟩, ⟨by (with_reducible repeat (first | apply Kd.S_alloc | apply Kd.S_drewN | apply Kd.S_drew)); exact Kd.S_mono (Kd.S_far (p := ⟨gb132, 1, none⟩) (Kd.S_types HO140.out BK132.out (by decide)) (fun _ hk => hk.2) (.slice Ao32 y138.length co32)) (fun _ hk => trivial)⟩, ⟨by (with_reducible repeat (first | apply Kd.R_alloc | apply Kd.R_drewN | apply Kd.R_drew)); exact Kd.R_mono (Kd.R_far (p := ⟨gb132, 1, none⟩) (Kd.R_types HO_133002.out BK132.out (by decide)) (fun _ hk => hk.2) (.slice Ao32 y138.length co32)) (fun _ hk => trivial)⟩, ⟨by (with_reducible repeat (first | refine blk_drewN ?_ _ | refine blk_drew ?_ | refine blk_alloc ?_ _)); refine blk_far ?_ NB127_132.out _; exact BK127.out⟩, ⟨by (with_reducible repeat (first | refine blk_drewN ?_ _ | refine blk_drew ?_ | refine blk_alloc ?_ _)); refine blk_far ?_ NB128_132.out _; exact BK128.out⟩, ⟨by (with_reducible repeat (first | refine blk_drewN ?_ _ | refine blk_drew ?_ | refine blk_alloc ?_ _)); refine blk_put (cs := #[.int .i64 a0_0, u133001, .slice Ao10 t129.length co10]) ?_ 1 _ rfl; exact BK132.out⟩, ⟨by repeat (first | (with_reducible first | exact HB.out | apply below_alloc | apply pw_below_drewN | apply below_drew1 | refine below_set ?_ GE127.out | refine below_set ?_ GE128.out | refine below_set ?_ GE132.out | refine below_set ?_ GE134.out) | exact HB.out)⟩⟩
      ·rw [if_neg c21] at H
       exact absurd H (by simp)
     ·rw [if_neg c19] at H
      exact absurd H (by simp)
    ·rw [if_neg c18] at H
     exact absurd H (by simp)
   ·rw [if_neg c17] at H
    have c17b0 : decide (x15_1 < (l0_1.length : Int)) = false := decide_eq_false c17
    clear c17
    simp only [Option.some.injEq, Prod.mk.injEq] at H
    obtain ⟨rfl, rfl, rfl⟩ := H
    have hnb34 := NB132_127.out
    have hnc34 := NB127_132.out
    have hnb35 := NB132_128.out
    have hnc35 := NB128_132.out
    have hcz36_0 : wr.cell? ⟨gb132, 0, none⟩ = some (.int .i64 a0_0) := (blk_cell BK132.out 0).trans rfl
    have hcz36_1 : wr.cell? ⟨gb132, 1, none⟩ = some (u133001) := (blk_cell BK132.out 1).trans rfl
    have hcz36_2 : wr.cell? ⟨gb132, 2, none⟩ = some (.slice Ao10 t129.length co10) := (blk_cell BK132.out 2).trans rfl
    have hfz36_0 := blk_frozen BK132.out 0
    have hfz36_1 := blk_frozen BK132.out 1
    have hfz36_2 := blk_frozen BK132.out 2
    have hnb37 := NB128_127.out
    have hnc37 := NB127_128.out
    have hcz38_0 : wr.cell? ⟨gb128, 0, none⟩ = some (.int .i64 0) := (blk_cell BK128.out 0).trans rfl
    have hcz38_1 : wr.cell? ⟨gb128, 1, none⟩ = some (.slice none 0 0) := (blk_cell BK128.out 1).trans rfl
    have hcz38_2 : wr.cell? ⟨gb128, 2, none⟩ = some (.slice none 0 0) := (blk_cell BK128.out 2).trans rfl
    have hfz38_0 := blk_frozen BK128.out 0
    have hfz38_1 := blk_frozen BK128.out 1
    have hfz38_2 := blk_frozen BK128.out 2
    obtain ⟨Ao39, co39, eo39⟩ := Kd.S_slice HO_133001.out
    subst eo39
    go_wp2
    refine bodyPost_ret (results_cell_row rfl _ _ gb128 28 #[.int .i64 a0_0, .slice Ao39 x133001_1.length co39, .slice Ao10 t129.length co10] (0, 0) _ rfl (by (with_reducible repeat (first | refine blk_drewN ?_ _ | refine blk_drew ?_ | refine blk_alloc ?_ _)); refine blk_put (cs := #[.int .i64 a0_0, .slice Ao39 x133001_1.length co39, .slice none 0 0]) ?_ 2 _ rfl; (with_reducible repeat (first | refine blk_drewN ?_ _ | refine blk_drew ?_ | refine blk_alloc ?_ _)); refine blk_put (cs := #[.int .i64 a0_0, .slice none 0 0, .slice none 0 0]) ?_ 1 _ rfl; (with_reducible repeat (first | refine blk_drewN ?_ _ | refine blk_drew ?_ | refine blk_alloc ?_ _)); refine blk_put (cs := #[.int .i64 0, .slice none 0 0, .slice none 0 0]) ?_ 0 _ rfl; exact BK128.out) Tryd.underlying28 rfl (by kernel_rfl)) rfl ?_
    exact ⟨_, _, by first | rfl | (simp [errW_none, errW_some] <;> rfl) | (simp [*, errW_none, errW_some] <;> rfl), by (with_reducible repeat (first | apply Kd.S_alloc | apply Kd.S_drewN | apply Kd.S_drew)); exact Kd.S_mono (Kd.S_far (p := ⟨gb128, 2, none⟩) (Kd.S_far (p := ⟨gb128, 1, none⟩) (Kd.S_far (p := ⟨gb128, 0, none⟩) (Kd.S_types HO_133001.out BK128.out (by decide)) (fun _ hk => hk.2) (.int .i64 a0_0)) (fun _ hk => hk.2) (.slice Ao39 x133001_1.length co39)) (fun _ hk => hk.2) (.slice Ao10 t129.length co10)) (fun _ hk => trivial), by (with_reducible repeat (first | apply Kd.R_alloc | apply Kd.R_drewN | apply Kd.R_drew)); exact Kd.R_mono (Kd.R_far (p := ⟨gb128, 2, none⟩) (Kd.R_far (p := ⟨gb128, 1, none⟩) (Kd.R_far (p := ⟨gb128, 0, none⟩) (Kd.R_types HO_133002.out BK128.out (by decide)) (fun _ hk => hk.2) (.int .i64 a0_0)) (fun _ hk => hk.2) (.slice Ao39 x133001_1.length co39)) (fun _ hk => hk.2) (.slice Ao10 t129.length co10)) (fun _ hk => trivial), by repeat (first | (with_reducible first | exact HB.out | apply below_alloc | apply pw_below_drewN | apply below_drew1 | refine below_set ?_ GE127.out | refine below_set ?_ GE128.out | refine below_set ?_ GE132.out) | exact HB.out)⟩

-- NOT PRINTED: function 22 (impl_Mem_write)

end Go.Proofs.YtoceiaaigiflpaaDoor.PFnMemBook
