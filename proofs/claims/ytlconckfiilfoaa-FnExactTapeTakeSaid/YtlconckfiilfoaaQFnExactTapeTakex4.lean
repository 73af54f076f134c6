/- The functions that the law FnExactTapeTake reaches, as plain Lean functions, and the walks that show that Go comes to their answers; part 4. Its lines are the print's, turned where Lean refused them. -/
import Derived.Test.YtlconckfiilfoaaQFnExactTapeTakex0
import Derived.Test.YtlconckfiilfoaaQFnExactTapeTakex1
import Derived.Test.YtlconckfiilfoaaQFnExactTapeTakex2
import Derived.Test.YtlconckfiilfoaaQFnExactTapeTakex3
namespace Go.Proofs.Ytlconckfiilfoaa.PFnExactTapeTake
open Go.RowKit Go.Proofs.YtlconckfiilfoaaW.PrintWords Go.Proofs.YtlconckfiilfoaaW.PrintLast Go.Proofs.YtlconckfiilfoaaW.PrintMore
attribute [local go_sem] max2_int min2_int max_two min_two max_three min_three max_four min_four   -- for this text's walks alone
set_option linter.unusedVariables false
set_option linter.unusedSimpArgs false

/-! ### laws_FnExactTapeTake: function 5 -/
mutual
def laws_FnExactTapeTake.j0 : Nat → Int → Bool → Int → Bool → Bool → List Int → Int → List Int → Int → List Int → Int → List Int → Int → Option (Bool)
  | 0, _, _, _, _, _, _, _, _, _, _, _, _, _ => none
  | k + 1, x5, x6, x9, x10, x50, x149000, x149001, x161000, x161001, x166000, x166001, x173000, x173001 => if x50 = true then (some false) else ((laws_toTape.f k x149000 x149001).bind fun bt174 => ((laws_eqTape.f k x166000 x166001 bt174.1 bt174.2).bind fun t178 => (if t178 = true then ((laws_markTape.f k x166000 x166001 1).bind fun bt179 => (if bt179.1 < 0 then (laws_FnExactTapeTake.j1 k x5 x6 true x149000 x149001 x161000 x161001 x173000 x173001) else ((laws_eqTape.f k x173000 x173001 x161000 x161001).bind fun t181 => (if t181 = true then (if x9 = x5 then (laws_FnExactTapeTake.j1 k x5 x6 (x10 != x6) x149000 x149001 x161000 x161001 x173000 x173001) else (laws_FnExactTapeTake.j1 k x5 x6 true x149000 x149001 x161000 x161001 x173000 x173001)) else (laws_FnExactTapeTake.j1 k x5 x6 true x149000 x149001 x161000 x161001 x173000 x173001))))) else (some false))))
def laws_FnExactTapeTake.j1 : Nat → Int → Bool → Bool → List Int → Int → List Int → Int → List Int → Int → Option (Bool)
  | 0, _, _, _, _, _, _, _, _, _ => none
  | k + 1, x5, x6, x76, x149000, x149001, x161000, x161001, x173000, x173001 => if x76 = true then (some false) else ((laws_markTape.f k x173000 x173001 1).bind fun bt182 => ((laws_heldTape.f k bt182.2 x173001 1).bind fun t184 => (if t184 < 0 then (some false) else (if t184 = bt182.1 then ((laws_toTape.f k x149000 x149001).bind fun bt185 => ((impl_TapeTake.f bt185.1 bt185.2).bind fun bt189 => ((laws_eqTape.f k bt189.1 bt189.2.1 x161000 x161001).bind fun t196 => (if t196 = true then (if bt189.2.2.1 = x5 then (laws_FnExactTapeTake.j2 k bt182.1 (bt189.2.2.2 != x6) bt182.2 x173001) else (laws_FnExactTapeTake.j2 k bt182.1 true bt182.2 x173001)) else (laws_FnExactTapeTake.j2 k bt182.1 true bt182.2 x173001))))) else (some false)))))
def laws_FnExactTapeTake.j2 : Nat → Int → Bool → List Int → Int → Option (Bool)
  | 0, _, _, _, _ => none
  | k + 1, x12, x108, x173000, x173001 => if x108 = true then (some false) else ((laws_heldTape.f k x173000 x173001 1).bind fun t197 => (if t197 < 0 then (some false) else (if t197 = x12 then (some true) else (some false))))
end
def laws_FnExactTapeTake.f (k : Nat) (l0_0 : List Int) (a0_1 : Int) : Option (Bool) := (laws_szTape.f l0_0 a0_1 1048576).bind fun t149 => (if t149 < 0 then (some true) else ((laws_toTape.f k l0_0 a0_1).bind fun bt150 => ((spec_TapeTake.f k bt150.1 bt150.2).bind fun bt154 => ((laws_toTape.f k l0_0 a0_1).bind fun bt161 => ((impl_TapeTake.f bt161.1 bt161.2).bind fun bt166 => ((laws_eqTape.f k bt166.1 bt166.2.1 bt154.1 bt154.2.1).bind fun t173 => (if t173 = true then (if bt166.2.2.1 = bt154.2.2.1 then (laws_FnExactTapeTake.j0 k bt154.2.2.1 bt154.2.2.2 bt166.2.2.1 bt166.2.2.2 (bt166.2.2.2 != bt154.2.2.2) l0_0 a0_1 bt154.1 bt154.2.1 bt161.1 bt161.2 bt166.1 bt166.2.1) else (laws_FnExactTapeTake.j0 k bt154.2.2.1 bt154.2.2.2 bt166.2.2.1 bt166.2.2.2 true l0_0 a0_1 bt154.1 bt154.2.1 bt161.1 bt161.2 bt166.1 bt166.2.1)) else (laws_FnExactTapeTake.j0 k bt154.2.2.1 bt154.2.2.2 bt166.2.2.1 bt166.2.2.2 true l0_0 a0_1 bt154.1 bt154.2.1 bt161.1 bt161.2 bt166.1 bt166.2.1))))))))
theorem laws_FnExactTapeTake.mono_l : ∀ k, (∀ y0 y1 y2 y3 y4 y5 y6 y7 y8 y9 y10 y11 y12, LeO (laws_FnExactTapeTake.j0 k y0 y1 y2 y3 y4 y5 y6 y7 y8 y9 y10 y11 y12) (laws_FnExactTapeTake.j0 (k + 1) y0 y1 y2 y3 y4 y5 y6 y7 y8 y9 y10 y11 y12)) ∧ (∀ y0 y1 y2 y3 y4 y5 y6 y7 y8, LeO (laws_FnExactTapeTake.j1 k y0 y1 y2 y3 y4 y5 y6 y7 y8) (laws_FnExactTapeTake.j1 (k + 1) y0 y1 y2 y3 y4 y5 y6 y7 y8)) ∧ (∀ y0 y1 y2 y3, LeO (laws_FnExactTapeTake.j2 k y0 y1 y2 y3) (laws_FnExactTapeTake.j2 (k + 1) y0 y1 y2 y3))
  | 0 => ⟨fun _ _ _ _ _ _ _ _ _ _ _ _ _ r h => by simp [laws_FnExactTapeTake.j0] at h, fun _ _ _ _ _ _ _ _ _ r h => by simp [laws_FnExactTapeTake.j1] at h, fun _ _ _ _ r h => by simp [laws_FnExactTapeTake.j2] at h⟩
  | k + 1 => by
    obtain ⟨ih0, ih1, ih2⟩ := laws_FnExactTapeTake.mono_l k
    refine ⟨?_, ?_, ?_⟩
    · intro y0 y1 y2 y3 y4 y5 y6 y7 y8 y9 y10 y11 y12
      unfold laws_FnExactTapeTake.j0
      repeat' first
      | (with_reducible exact ih0 _ _ _ _ _ _ _ _ _ _ _ _ _)
      | (with_reducible exact ih1 _ _ _ _ _ _ _ _ _)
      | (with_reducible exact ih2 _ _ _ _)
      | (with_reducible exact laws_eqTape.mono _ _ _ _ _)
      | (with_reducible exact laws_heldTape.mono _ _ _ _)
      | (with_reducible exact laws_markTape.mono _ _ _ _)
      | (with_reducible exact laws_toTape.mono _ _ _)
      | (with_reducible exact spec_TapeTake.mono _ _ _)
      | (with_reducible exact LeO.refl _)
      | (with_reducible exact LeO.none _)
      | (with_reducible refine LeO.ite ?_ ?_)
      | (with_reducible refine LeO.bind ?_ (fun _ => ?_))
      | exact ih0 _ _ _ _ _ _ _ _ _ _ _ _ _
      | exact ih1 _ _ _ _ _ _ _ _ _
      | exact ih2 _ _ _ _
      | exact laws_eqTape.mono _ _ _ _ _
      | exact laws_heldTape.mono _ _ _ _
      | exact laws_markTape.mono _ _ _ _
      | exact laws_toTape.mono _ _ _
      | exact spec_TapeTake.mono _ _ _
      | exact LeO.none _
      | refine LeO.ite ?_ ?_
      | refine LeO.bind ?_ (fun _ => ?_)
    · intro y0 y1 y2 y3 y4 y5 y6 y7 y8
      unfold laws_FnExactTapeTake.j1
      repeat' first
      | (with_reducible exact ih0 _ _ _ _ _ _ _ _ _ _ _ _ _)
      | (with_reducible exact ih1 _ _ _ _ _ _ _ _ _)
      | (with_reducible exact ih2 _ _ _ _)
      | (with_reducible exact laws_eqTape.mono _ _ _ _ _)
      | (with_reducible exact laws_heldTape.mono _ _ _ _)
      | (with_reducible exact laws_markTape.mono _ _ _ _)
      | (with_reducible exact laws_toTape.mono _ _ _)
      | (with_reducible exact spec_TapeTake.mono _ _ _)
      | (with_reducible exact LeO.refl _)
      | (with_reducible exact LeO.none _)
      | (with_reducible refine LeO.ite ?_ ?_)
      | (with_reducible refine LeO.bind ?_ (fun _ => ?_))
      | exact ih0 _ _ _ _ _ _ _ _ _ _ _ _ _
      | exact ih1 _ _ _ _ _ _ _ _ _
      | exact ih2 _ _ _ _
      | exact laws_eqTape.mono _ _ _ _ _
      | exact laws_heldTape.mono _ _ _ _
      | exact laws_markTape.mono _ _ _ _
      | exact laws_toTape.mono _ _ _
      | exact spec_TapeTake.mono _ _ _
      | exact LeO.none _
      | refine LeO.ite ?_ ?_
      | refine LeO.bind ?_ (fun _ => ?_)
    · intro y0 y1 y2 y3
      unfold laws_FnExactTapeTake.j2
      repeat' first
      | (with_reducible exact ih0 _ _ _ _ _ _ _ _ _ _ _ _ _)
      | (with_reducible exact ih1 _ _ _ _ _ _ _ _ _)
      | (with_reducible exact ih2 _ _ _ _)
      | (with_reducible exact laws_eqTape.mono _ _ _ _ _)
      | (with_reducible exact laws_heldTape.mono _ _ _ _)
      | (with_reducible exact laws_markTape.mono _ _ _ _)
      | (with_reducible exact laws_toTape.mono _ _ _)
      | (with_reducible exact spec_TapeTake.mono _ _ _)
      | (with_reducible exact LeO.refl _)
      | (with_reducible exact LeO.none _)
      | (with_reducible refine LeO.ite ?_ ?_)
      | (with_reducible refine LeO.bind ?_ (fun _ => ?_))
      | exact ih0 _ _ _ _ _ _ _ _ _ _ _ _ _
      | exact ih1 _ _ _ _ _ _ _ _ _
      | exact ih2 _ _ _ _
      | exact laws_eqTape.mono _ _ _ _ _
      | exact laws_heldTape.mono _ _ _ _
      | exact laws_markTape.mono _ _ _ _
      | exact laws_toTape.mono _ _ _
      | exact spec_TapeTake.mono _ _ _
      | exact LeO.none _
      | refine LeO.ite ?_ ?_
      | refine LeO.bind ?_ (fun _ => ?_)
theorem laws_FnExactTapeTake.mono : ∀ a0 a1 k, LeO (laws_FnExactTapeTake.f k a0 a1) (laws_FnExactTapeTake.f (k + 1) a0 a1) := by
  intro a0 a1 k
  obtain ⟨ih0, ih1, ih2⟩ := laws_FnExactTapeTake.mono_l k
  unfold laws_FnExactTapeTake.f
  repeat' first
      | (with_reducible exact ih0 _ _ _ _ _ _ _ _ _ _ _ _ _)
      | (with_reducible exact ih1 _ _ _ _ _ _ _ _ _)
      | (with_reducible exact ih2 _ _ _ _)
      | (with_reducible exact laws_eqTape.mono _ _ _ _ _)
      | (with_reducible exact laws_heldTape.mono _ _ _ _)
      | (with_reducible exact laws_markTape.mono _ _ _ _)
      | (with_reducible exact laws_toTape.mono _ _ _)
      | (with_reducible exact spec_TapeTake.mono _ _ _)
      | (with_reducible exact LeO.refl _)
      | (with_reducible exact LeO.none _)
      | (with_reducible refine LeO.ite ?_ ?_)
      | (with_reducible refine LeO.bind ?_ (fun _ => ?_))
      | exact ih0 _ _ _ _ _ _ _ _ _ _ _ _ _
      | exact ih1 _ _ _ _ _ _ _ _ _
      | exact ih2 _ _ _ _
      | exact laws_eqTape.mono _ _ _ _ _
      | exact laws_heldTape.mono _ _ _ _
      | exact laws_markTape.mono _ _ _ _
      | exact laws_toTape.mono _ _ _
      | exact spec_TapeTake.mono _ _ _
      | exact LeO.none _
      | refine LeO.ite ?_ ?_
      | refine LeO.bind ?_ (fun _ => ?_)
set_option maxHeartbeats 8000000 in
set_option maxRecDepth 100000 in
theorem laws_FnExactTapeTake.calls (k : Nat) (A0_0 : Option Addr) (c0_0 : Nat) (l0_0 : List Int) (a0_1 : Int) (r : Bool) (w : World) (hr0_0 : Kd.C (Kd.int .i64) w A0_0 l0_0.length l0_0) (hc0_0 : l0_0.length ≤ c0_0) (h : laws_FnExactTapeTake.f k l0_0 a0_1 = some r) :
    Calls Try.prog 5 #[.agg #[.slice A0_0 l0_0.length c0_0, .int .i64 a0_1]] w fun e w' => e = .returned (.bool r) ∧ Below w.heap.size w w' := by
  have hu24 := Try.underlying24
  have hu27 := Try.underlying27
  have HR0_0 := Aside0.mk hr0_0
  have HC0_0 := Aside0.mk hc0_0
  clear hr0_0 hc0_0
  have HB := Aside0.mk (Below.refl w.heap.size w)
  have H : ((laws_szTape.f l0_0 a0_1 1048576).bind fun t149 => (if t149 < 0 then (some true) else ((laws_toTape.f k l0_0 a0_1).bind fun bt150 => ((spec_TapeTake.f k bt150.1 bt150.2).bind fun bt154 => ((laws_toTape.f k l0_0 a0_1).bind fun bt161 => ((impl_TapeTake.f bt161.1 bt161.2).bind fun bt166 => ((laws_eqTape.f k bt166.1 bt166.2.1 bt154.1 bt154.2.1).bind fun t173 => (if t173 = true then (if bt166.2.2.1 = bt154.2.2.1 then (laws_FnExactTapeTake.j0 k bt154.2.2.1 bt154.2.2.2 bt166.2.2.1 bt166.2.2.2 (bt166.2.2.2 != bt154.2.2.2) l0_0 a0_1 bt154.1 bt154.2.1 bt161.1 bt161.2 bt166.1 bt166.2.1) else (laws_FnExactTapeTake.j0 k bt154.2.2.1 bt154.2.2.2 bt166.2.2.1 bt166.2.2.2 true l0_0 a0_1 bt154.1 bt154.2.1 bt161.1 bt161.2 bt166.1 bt166.2.1)) else (laws_FnExactTapeTake.j0 k bt154.2.2.1 bt154.2.2.2 bt166.2.2.1 bt166.2.2.2 true l0_0 a0_1 bt154.1 bt154.2.1 bt161.1 bt161.2 bt166.1 bt166.2.1))))))))) = some r := h
  clear h
  replace H := Option.bind_eq_some_iff.mp H
  obtain ⟨t149, A20, H⟩ := H
  replace H : (if t149 < 0 then (some true) else ((laws_toTape.f k l0_0 a0_1).bind fun bt150 => ((spec_TapeTake.f k bt150.1 bt150.2).bind fun bt154 => ((laws_toTape.f k l0_0 a0_1).bind fun bt161 => ((impl_TapeTake.f bt161.1 bt161.2).bind fun bt166 => ((laws_eqTape.f k bt166.1 bt166.2.1 bt154.1 bt154.2.1).bind fun t173 => (if t173 = true then (if bt166.2.2.1 = bt154.2.2.1 then (laws_FnExactTapeTake.j0 k bt154.2.2.1 bt154.2.2.2 bt166.2.2.1 bt166.2.2.2 (bt166.2.2.2 != bt154.2.2.2) l0_0 a0_1 bt154.1 bt154.2.1 bt161.1 bt161.2 bt166.1 bt166.2.1) else (laws_FnExactTapeTake.j0 k bt154.2.2.1 bt154.2.2.2 bt166.2.2.1 bt166.2.2.2 true l0_0 a0_1 bt154.1 bt154.2.1 bt161.1 bt161.2 bt166.1 bt166.2.1)) else (laws_FnExactTapeTake.j0 k bt154.2.2.1 bt154.2.2.2 bt166.2.2.1 bt166.2.2.2 true l0_0 a0_1 bt154.1 bt154.2.1 bt161.1 bt161.2 bt166.1 bt166.2.1)))))))) = some r := H
  have A2 := Aside0.mk A20
  clear A20
  by_cases c3 : t149 < 0
  · rw [if_pos c3] at H
    have c3b0 : decide (t149 < 0) = true := decide_eq_true c3
    clear c3
    obtain rfl := Option.some.inj H
    go_enter Try.func5, Try.ntmps5
    go_wp2_with (first | ((with_reducible refine gate_dst (N := 1) rfl ?_); refine box_event ?hg (N := 1) ?hd (cs := #[.slice A0_0 l0_0.length c0_0, .int .i64 a0_1]) (t := 24) ?hr ?_; (case hd => rfl); (case hg => rfl); (case hr => first | (go_simp; done) | (go_simp; rfl)); intro gb148 hg w4 hbox hb; have n0_ := Aside0.mk (below_step (by repeat (first | (with_reducible first | exact HB.out | apply below_alloc | apply pw_below_drewN | apply below_drew1) | exact HB.out)) hb); have n1_ := Aside0.mk (hbox); have n2_ := Aside0.mk ((by rw [hg]; exact (below_size (by repeat (first | (with_reducible first | exact HB.out | apply below_alloc | apply pw_below_drewN | apply below_drew1) | exact HB.out))) : w.heap.size ≤ gb148)); have n3_ := Aside0.mk ((by rw [hg]; exact (below_size (by repeat (first | (with_reducible first | exact HB.out | apply below_alloc | apply pw_below_drewN | apply below_drew1) | exact HB.out))) : w.heap.size ≤ gb148)); clear HB; have HB := n0_; have BK148 := n1_; have GW148 := n2_; have GE148 := n3_; clear n0_ n1_ n2_ n3_; clear hb hbox hg; have hcz5_0 : w4.cell? ⟨gb148, 0, none⟩ = some (.slice A0_0 l0_0.length c0_0) := (blk_cell BK148.out 0).trans rfl; have hcz5_1 : w4.cell? ⟨gb148, 1, none⟩ = some (.int .i64 a0_1) := (blk_cell BK148.out 1).trans rfl; have hfz5_0 := blk_frozen BK148.out 0; have hfz5_1 := blk_frozen BK148.out 1) | ((with_reducible refine gate_callee (f := 8) rfl ?_); refine goesL_ (some 19) rfl rfl Try.func8 (by kernel_rfl) rfl #[.agg #[.slice A0_0 l0_0.length c0_0, .int .i64 a0_1], .int .i64 1048576] rfl (by (try simp only [List.map_toArray, List.map_cons, List.map_nil]); first | done | rfl | (simp only [List.length_drop, List.length_take]; rfl)) ?_; (with_reducible refine (laws_szTape.calls _ _ l0_0 a0_1 1048576 t149 _ ?side1 ?side2 A2.out).mono ?_); (case side1 => repeat (first | exact (Kd.C_below HR0_0.out HB.out) | (with_reducible refine Kd.C_alloc ?_ _) | (with_reducible refine Kd.C_drewN ?_ _) | (with_reducible refine Kd.C_drew ?_))); (case side2 => exact HC0_0.out); rintro e w6 ⟨rfl, hb⟩; refine ⟨_, rfl, ?_⟩; have n0_ := Aside0.mk (blk_below (g := gb148) (o := .cells #[.slice A0_0 l0_0.length c0_0, .int .i64 a0_1] 24 (0, 0)) (by (with_reducible repeat (first | refine blk_drewN ?_ _ | refine blk_drew ?_ | refine blk_alloc ?_ _)); exact BK148.out) hb); have n1_ := Aside0.mk (below_step (by repeat (first | (with_reducible first | exact HB.out | apply below_alloc | apply pw_below_drewN | apply below_drew1 | refine below_set ?_ GE148.out) | exact HB.out)) hb); clear BK148; clear HB; have BK148 := n0_; have HB := n1_; clear n0_ n1_; (try clear hb); (try clear hb2); (try clear hk); (try clear hi)))
    go_ret
    exact ⟨by first | rfl | (simp [errW_none, errW_some] <;> rfl) | (simp [*, errW_none, errW_some] <;> rfl), by repeat (first | (with_reducible first | exact HB.out | apply below_alloc | apply pw_below_drewN | apply below_drew1 | refine below_set ?_ GE148.out) | exact HB.out)⟩
  · rw [if_neg c3] at H
    have c3b0 : decide (t149 < 0) = false := decide_eq_false c3
    clear c3
    replace H := Option.bind_eq_some_iff.mp H
    obtain ⟨⟨t150, t153⟩, A70, H⟩ := H
    replace H : ((spec_TapeTake.f k t150 t153).bind fun bt154 => ((laws_toTape.f k l0_0 a0_1).bind fun bt161 => ((impl_TapeTake.f bt161.1 bt161.2).bind fun bt166 => ((laws_eqTape.f k bt166.1 bt166.2.1 bt154.1 bt154.2.1).bind fun t173 => (if t173 = true then (if bt166.2.2.1 = bt154.2.2.1 then (laws_FnExactTapeTake.j0 k bt154.2.2.1 bt154.2.2.2 bt166.2.2.1 bt166.2.2.2 (bt166.2.2.2 != bt154.2.2.2) l0_0 a0_1 bt154.1 bt154.2.1 bt161.1 bt161.2 bt166.1 bt166.2.1) else (laws_FnExactTapeTake.j0 k bt154.2.2.1 bt154.2.2.2 bt166.2.2.1 bt166.2.2.2 true l0_0 a0_1 bt154.1 bt154.2.1 bt161.1 bt161.2 bt166.1 bt166.2.1)) else (laws_FnExactTapeTake.j0 k bt154.2.2.1 bt154.2.2.2 bt166.2.2.1 bt166.2.2.2 true l0_0 a0_1 bt154.1 bt154.2.1 bt161.1 bt161.2 bt166.1 bt166.2.1)))))) = some r := H
    have A7 := Aside0.mk A70
    clear A70
    replace H := Option.bind_eq_some_iff.mp H
    obtain ⟨⟨t154, t157, t158, t159⟩, A80, H⟩ := H
    replace H : ((laws_toTape.f k l0_0 a0_1).bind fun bt161 => ((impl_TapeTake.f bt161.1 bt161.2).bind fun bt166 => ((laws_eqTape.f k bt166.1 bt166.2.1 t154 t157).bind fun t173 => (if t173 = true then (if bt166.2.2.1 = t158 then (laws_FnExactTapeTake.j0 k t158 t159 bt166.2.2.1 bt166.2.2.2 (bt166.2.2.2 != t159) l0_0 a0_1 t154 t157 bt161.1 bt161.2 bt166.1 bt166.2.1) else (laws_FnExactTapeTake.j0 k t158 t159 bt166.2.2.1 bt166.2.2.2 true l0_0 a0_1 t154 t157 bt161.1 bt161.2 bt166.1 bt166.2.1)) else (laws_FnExactTapeTake.j0 k t158 t159 bt166.2.2.1 bt166.2.2.2 true l0_0 a0_1 t154 t157 bt161.1 bt161.2 bt166.1 bt166.2.1))))) = some r := H
    have A8 := Aside0.mk A80
    clear A80
    replace H := Option.bind_eq_some_iff.mp H
    obtain ⟨⟨t161, t164⟩, A90, H⟩ := H
    replace H : ((impl_TapeTake.f t161 t164).bind fun bt166 => ((laws_eqTape.f k bt166.1 bt166.2.1 t154 t157).bind fun t173 => (if t173 = true then (if bt166.2.2.1 = t158 then (laws_FnExactTapeTake.j0 k t158 t159 bt166.2.2.1 bt166.2.2.2 (bt166.2.2.2 != t159) l0_0 a0_1 t154 t157 t161 t164 bt166.1 bt166.2.1) else (laws_FnExactTapeTake.j0 k t158 t159 bt166.2.2.1 bt166.2.2.2 true l0_0 a0_1 t154 t157 t161 t164 bt166.1 bt166.2.1)) else (laws_FnExactTapeTake.j0 k t158 t159 bt166.2.2.1 bt166.2.2.2 true l0_0 a0_1 t154 t157 t161 t164 bt166.1 bt166.2.1)))) = some r := H
    have A9 := Aside0.mk A90
    clear A90
    replace H := Option.bind_eq_some_iff.mp H
    obtain ⟨⟨t166, t169, t170, t171⟩, A100, H⟩ := H
    replace H : ((laws_eqTape.f k t166 t169 t154 t157).bind fun t173 => (if t173 = true then (if t170 = t158 then (laws_FnExactTapeTake.j0 k t158 t159 t170 t171 (t171 != t159) l0_0 a0_1 t154 t157 t161 t164 t166 t169) else (laws_FnExactTapeTake.j0 k t158 t159 t170 t171 true l0_0 a0_1 t154 t157 t161 t164 t166 t169)) else (laws_FnExactTapeTake.j0 k t158 t159 t170 t171 true l0_0 a0_1 t154 t157 t161 t164 t166 t169))) = some r := H
    have A10 := Aside0.mk A100
    clear A100
    have HC11 := Aside0.mk H
    clear H
    go_enter Try.func5, Try.ntmps5
    go_upto_region 8 with (first | ((with_reducible refine gate_dst (N := 1) rfl ?_); refine box_event ?hg (N := 1) ?hd (cs := #[.slice A0_0 l0_0.length c0_0, .int .i64 a0_1]) (t := 24) ?hr ?_; (case hd => rfl); (case hg => rfl); (case hr => first | (go_simp; done) | (go_simp; rfl)); intro gb148 hg w12 hbox hb; have n0_ := Aside0.mk (below_step (by repeat (first | (with_reducible first | exact HB.out | apply below_alloc | apply pw_below_drewN | apply below_drew1) | exact HB.out)) hb); have n1_ := Aside0.mk (hbox); have n2_ := Aside0.mk ((by rw [hg]; exact (below_size (by repeat (first | (with_reducible first | exact HB.out | apply below_alloc | apply pw_below_drewN | apply below_drew1) | exact HB.out))) : w.heap.size ≤ gb148)); have n3_ := Aside0.mk ((by rw [hg]; exact (below_size (by repeat (first | (with_reducible first | exact HB.out | apply below_alloc | apply pw_below_drewN | apply below_drew1) | exact HB.out))) : w.heap.size ≤ gb148)); clear HB; have HB := n0_; have BK148 := n1_; have GW148 := n2_; have GE148 := n3_; clear n0_ n1_ n2_ n3_; clear hb hbox hg; have hcz13_0 : w12.cell? ⟨gb148, 0, none⟩ = some (.slice A0_0 l0_0.length c0_0) := (blk_cell BK148.out 0).trans rfl; have hcz13_1 : w12.cell? ⟨gb148, 1, none⟩ = some (.int .i64 a0_1) := (blk_cell BK148.out 1).trans rfl; have hfz13_0 := blk_frozen BK148.out 0; have hfz13_1 := blk_frozen BK148.out 1) | ((with_reducible refine gate_callee (f := 8) rfl ?_); refine goesL_ (some 19) rfl rfl Try.func8 (by kernel_rfl) rfl #[.agg #[.slice A0_0 l0_0.length c0_0, .int .i64 a0_1], .int .i64 1048576] rfl (by (try simp only [List.map_toArray, List.map_cons, List.map_nil]); first | done | rfl | (simp only [List.length_drop, List.length_take]; rfl)) ?_; (with_reducible refine (laws_szTape.calls _ _ l0_0 a0_1 1048576 t149 _ ?side1 ?side2 A2.out).mono ?_); (case side1 => repeat (first | exact (Kd.C_below HR0_0.out HB.out) | (with_reducible refine Kd.C_alloc ?_ _) | (with_reducible refine Kd.C_drewN ?_ _) | (with_reducible refine Kd.C_drew ?_))); (case side2 => exact HC0_0.out); rintro e w14 ⟨rfl, hb⟩; refine ⟨_, rfl, ?_⟩; have n0_ := Aside0.mk (blk_below (g := gb148) (o := .cells #[.slice A0_0 l0_0.length c0_0, .int .i64 a0_1] 24 (0, 0)) (by (with_reducible repeat (first | refine blk_drewN ?_ _ | refine blk_drew ?_ | refine blk_alloc ?_ _)); exact BK148.out) hb); have n1_ := Aside0.mk (below_step (by repeat (first | (with_reducible first | exact HB.out | apply below_alloc | apply pw_below_drewN | apply below_drew1 | refine below_set ?_ GE148.out) | exact HB.out)) hb); clear BK148; clear HB; have BK148 := n0_; have HB := n1_; clear n0_ n1_; (try clear hb); (try clear hb2); (try clear hk); (try clear hi); have hcz15_0 : w14.cell? ⟨gb148, 0, none⟩ = some (.slice A0_0 l0_0.length c0_0) := (blk_cell BK148.out 0).trans rfl; have hcz15_1 : w14.cell? ⟨gb148, 1, none⟩ = some (.int .i64 a0_1) := (blk_cell BK148.out 1).trans rfl; have hfz15_0 := blk_frozen BK148.out 0; have hfz15_1 := blk_frozen BK148.out 1) | ((with_reducible refine gate_callee (f := 10) rfl ?_); refine goesL_ (some 24) rfl rfl Try.func10 (by kernel_rfl) rfl #[.agg #[.slice A0_0 l0_0.length c0_0, .int .i64 a0_1]] rfl (by (try simp only [List.map_toArray, List.map_cons, List.map_nil]); first | done | rfl | (simp only [List.length_drop, List.length_take]; rfl)) ?_; (with_reducible refine (laws_toTape.calls k _ _ l0_0 a0_1 t150 t153 _ ?side1 ?side2 A7.out).mono ?_); (case side1 => repeat (first | exact (Kd.C_below HR0_0.out HB.out) | (with_reducible refine Kd.C_alloc ?_ _) | (with_reducible refine Kd.C_drewN ?_ _) | (with_reducible refine Kd.C_drew ?_))); (case side2 => exact HC0_0.out); rintro e w16 ⟨v151, rfl, ho0, hb⟩; refine ⟨_, rfl, ?_⟩; have n0_ := Aside0.mk (Kd.R_lower ho0 (below_size (by repeat (first | (with_reducible first | exact HB.out | apply below_alloc | apply pw_below_drewN | apply below_drew1 | refine below_set ?_ GE148.out) | exact HB.out)))); have n1_ := Aside0.mk (blk_below (g := gb148) (o := .cells #[.slice A0_0 l0_0.length c0_0, .int .i64 a0_1] 24 (0, 0)) (by (with_reducible repeat (first | refine blk_drewN ?_ _ | refine blk_drew ?_ | refine blk_alloc ?_ _)); exact BK148.out) hb); have n2_ := Aside0.mk (below_step (by repeat (first | (with_reducible first | exact HB.out | apply below_alloc | apply pw_below_drewN | apply below_drew1 | refine below_set ?_ GE148.out) | exact HB.out)) hb); clear BK148; clear HB; have HO152 := n0_; have BK148 := n1_; have HB := n2_; clear n0_ n1_ n2_; (try clear hb); (try clear hb2); (try clear hk); (try clear hi); (try clear ho0); obtain ⟨Ao17, co17, eo17⟩ := Kd.R_slice HO152.out; subst eo17) | ((with_reducible refine gate_callee (f := 15) rfl ?_); refine goesL_ (some 25) rfl rfl Try.func15 (by kernel_rfl) rfl #[.agg #[.slice Ao17 t150.length co17, .int .i64 t153]] rfl (by (try simp only [List.map_toArray, List.map_cons, List.map_nil]); first | done | rfl | (simp only [List.length_drop, List.length_take]; rfl)) ?_; (with_reducible refine (spec_TapeTake.calls k _ _ t150 t153 t154 t157 t158 t159 _ ?side1 ?side2 A8.out).mono ?_); (case side1 => repeat (first | exact (Kd.R_reads' HO152.out).2.2 | (with_reducible refine Kd.C_alloc ?_ _) | (with_reducible refine Kd.C_drewN ?_ _) | (with_reducible refine Kd.C_drew ?_))); (case side2 => exact (Kd.R_reads' HO152.out).2.1); rintro e w18 ⟨v155, rfl, ho0, hb⟩; refine ⟨_, rfl, ?_⟩; have n0_ := Aside0.mk (Kd.R_elder' (by (with_reducible repeat (first | apply Kd.R_alloc | apply Kd.R_drewN | apply Kd.R_drew)); exact HO152.out) (Kd.R_base ho0) hb); have n1_ := Aside0.mk (Kd.R_lower (Kd.R_new' ho0 (Kd.R_lt (by (with_reducible repeat (first | apply Kd.R_alloc | apply Kd.R_drewN | apply Kd.R_drew)); exact HO152.out))) (below_size (by repeat (first | (with_reducible first | exact HB.out | apply below_alloc | apply pw_below_drewN | apply below_drew1 | refine below_set ?_ GE148.out) | exact HB.out)))); have n2_ := Aside0.mk (blk_below (g := gb148) (o := .cells #[.slice A0_0 l0_0.length c0_0, .int .i64 a0_1] 24 (0, 0)) (by (with_reducible repeat (first | refine blk_drewN ?_ _ | refine blk_drew ?_ | refine blk_alloc ?_ _)); exact BK148.out) hb); have n3_ := Aside0.mk (below_step (by repeat (first | (with_reducible first | exact HB.out | apply below_alloc | apply pw_below_drewN | apply below_drew1 | refine below_set ?_ GE148.out) | exact HB.out)) hb); clear HO152; clear BK148; clear HB; have HO152 := n0_; have HO156 := n1_; have BK148 := n2_; have HB := n3_; clear n0_ n1_ n2_ n3_; (try clear hb); (try clear hb2); (try clear hk); (try clear hi); (try clear ho0)) | ((with_reducible refine gate_dst (N := 4) rfl ?_); refine box_event ?hg (N := 4) ?hd (cs := #[.slice none 0 0, .int .i64 0]) (t := 27) ?hr ?_; (case hd => rfl); (case hg => rfl); (case hr => first | (go_simp; done) | (go_simp; rfl)); intro gb160 hg w19 hbox hb; have n0_ := Aside0.mk (Kd.R_below (by (with_reducible repeat (first | apply Kd.R_alloc | apply Kd.R_drewN | apply Kd.R_drew)); exact HO152.out) hb); have n1_ := Aside0.mk (Kd.R_below (by (with_reducible repeat (first | apply Kd.R_alloc | apply Kd.R_drewN | apply Kd.R_drew)); exact HO156.out) hb); have n2_ := Aside0.mk (blk_below (g := gb148) (o := .cells #[.slice A0_0 l0_0.length c0_0, .int .i64 a0_1] 24 (0, 0)) (by (with_reducible repeat (first | refine blk_drewN ?_ _ | refine blk_drew ?_ | refine blk_alloc ?_ _)); exact BK148.out) hb); have n3_ := Aside0.mk (below_step (by repeat (first | (with_reducible first | exact HB.out | apply below_alloc | apply pw_below_drewN | apply below_drew1 | refine below_set ?_ GE148.out) | exact HB.out)) hb); have n4_ := Aside0.mk (hbox); have n5_ := Aside0.mk ((by rw [hg]; exact (below_size (by repeat (first | (with_reducible first | exact HB.out | apply below_alloc | apply pw_below_drewN | apply below_drew1 | refine below_set ?_ GE148.out) | exact HB.out))) : w.heap.size ≤ gb160)); have n6_ := Aside0.mk ((by rw [hg]; exact (below_size (by repeat (first | (with_reducible first | exact HB.out | apply below_alloc | apply pw_below_drewN | apply below_drew1 | refine below_set ?_ GE148.out) | exact HB.out))) : w.heap.size ≤ gb160)); have n7_ := Aside0.mk ((by rw [hg]; exact Nat.ne_of_lt (blk_lt (g := gb148) (o := .cells #[.slice A0_0 l0_0.length c0_0, .int .i64 a0_1] 24 (0, 0)) (by (with_reducible repeat (first | refine blk_drewN ?_ _ | refine blk_drew ?_ | refine blk_alloc ?_ _)); exact BK148.out)) : gb148 ≠ gb160)); have n8_ := Aside0.mk ((by rw [hg]; exact Nat.ne_of_gt (blk_lt (g := gb148) (o := .cells #[.slice A0_0 l0_0.length c0_0, .int .i64 a0_1] 24 (0, 0)) (by (with_reducible repeat (first | refine blk_drewN ?_ _ | refine blk_drew ?_ | refine blk_alloc ?_ _)); exact BK148.out)) : gb160 ≠ gb148)); clear HO152; clear HO156; clear BK148; clear HB; have HO152 := n0_; have HO156 := n1_; have BK148 := n2_; have HB := n3_; have BK160 := n4_; have GW160 := n5_; have GE160 := n6_; have NB148_160 := n7_; have NB160_148 := n8_; clear n0_ n1_ n2_ n3_ n4_ n5_ n6_ n7_ n8_; clear hb hbox hg; obtain ⟨Ao20, co20, eo20⟩ := Kd.R_slice HO156.out; subst eo20; have hnb21 := NB160_148.out; have hnc21 := NB148_160.out; have hcz22_0 : w19.cell? ⟨gb160, 0, none⟩ = some (.slice none 0 0) := (blk_cell BK160.out 0).trans rfl; have hcz22_1 : w19.cell? ⟨gb160, 1, none⟩ = some (.int .i64 0) := (blk_cell BK160.out 1).trans rfl; have hfz22_0 := blk_frozen BK160.out 0; have hfz22_1 := blk_frozen BK160.out 1; have hcz23_0 : w19.cell? ⟨gb148, 0, none⟩ = some (.slice A0_0 l0_0.length c0_0) := (blk_cell BK148.out 0).trans rfl; have hcz23_1 : w19.cell? ⟨gb148, 1, none⟩ = some (.int .i64 a0_1) := (blk_cell BK148.out 1).trans rfl; have hfz23_0 := blk_frozen BK148.out 0; have hfz23_1 := blk_frozen BK148.out 1) | ((with_reducible refine gate_callee (f := 10) rfl ?_); refine goesL_ (some 30) rfl rfl Try.func10 (by kernel_rfl) rfl #[.agg #[.slice A0_0 l0_0.length c0_0, .int .i64 a0_1]] rfl (by (try simp only [List.map_toArray, List.map_cons, List.map_nil]); first | done | rfl | (simp only [List.length_drop, List.length_take]; rfl)) ?_; (with_reducible refine (laws_toTape.calls k _ _ l0_0 a0_1 t161 t164 _ ?side1 ?side2 A9.out).mono ?_); (case side1 => exact Kd.C_below HR0_0.out (by repeat (first | (with_reducible first | exact HB.out | apply below_alloc | apply pw_below_drewN | apply below_drew1 | refine below_set ?_ GE148.out | refine below_set ?_ GE160.out) | exact HB.out))); (case side2 => exact HC0_0.out); rintro e w24 ⟨v162, rfl, ho0, hb⟩; refine ⟨_, rfl, ?_⟩; have n0_ := Aside0.mk (Kd.R_elder' (by (with_reducible repeat (first | apply Kd.R_alloc | apply Kd.R_drewN | apply Kd.R_drew)); exact (Kd.R_mono (Kd.R_far (p := ⟨gb160, 1, none⟩) (Kd.R_far (p := ⟨gb160, 0, none⟩) (Kd.R_types HO152.out BK160.out (by decide)) (fun _ hk => hk.2) (.slice Ao20 t154.length co20)) (fun _ hk => hk.2) (.int .i64 t157)) (fun _ h_ => h_.1))) (Kd.R_base ho0) hb); have n1_ := Aside0.mk (Kd.R_elder' (by (with_reducible repeat (first | apply Kd.R_alloc | apply Kd.R_drewN | apply Kd.R_drew)); exact (Kd.R_mono (Kd.R_far (p := ⟨gb160, 1, none⟩) (Kd.R_far (p := ⟨gb160, 0, none⟩) (Kd.R_types HO156.out BK160.out (by decide)) (fun _ hk => hk.2) (.slice Ao20 t154.length co20)) (fun _ hk => hk.2) (.int .i64 t157)) (fun _ h_ => h_.1))) (Kd.R_base ho0) hb); have n2_ := Aside0.mk (Kd.R_lower (Kd.R_new' (Kd.R_new' ho0 (Kd.R_lt (by (with_reducible repeat (first | apply Kd.R_alloc | apply Kd.R_drewN | apply Kd.R_drew)); exact (Kd.R_mono (Kd.R_far (p := ⟨gb160, 1, none⟩) (Kd.R_far (p := ⟨gb160, 0, none⟩) (Kd.R_types HO152.out BK160.out (by decide)) (fun _ hk => hk.2) (.slice Ao20 t154.length co20)) (fun _ hk => hk.2) (.int .i64 t157)) (fun _ h_ => h_.1))))) (Kd.R_lt (by (with_reducible repeat (first | apply Kd.R_alloc | apply Kd.R_drewN | apply Kd.R_drew)); exact (Kd.R_mono (Kd.R_far (p := ⟨gb160, 1, none⟩) (Kd.R_far (p := ⟨gb160, 0, none⟩) (Kd.R_types HO156.out BK160.out (by decide)) (fun _ hk => hk.2) (.slice Ao20 t154.length co20)) (fun _ hk => hk.2) (.int .i64 t157)) (fun _ h_ => h_.1))))) (below_size (by repeat (first | (with_reducible first | exact HB.out | apply below_alloc | apply pw_below_drewN | apply below_drew1 | refine below_set ?_ GE148.out | refine below_set ?_ GE160.out) | exact HB.out)))); have n3_ := Aside0.mk (blk_below (g := gb148) (o := .cells #[.slice A0_0 l0_0.length c0_0, .int .i64 a0_1] 24 (0, 0)) (by (with_reducible repeat (first | refine blk_drewN ?_ _ | refine blk_drew ?_ | refine blk_alloc ?_ _)); refine blk_far ?_ NB148_160.out _; (with_reducible repeat (first | refine blk_drewN ?_ _ | refine blk_drew ?_ | refine blk_alloc ?_ _)); refine blk_far ?_ NB148_160.out _; (with_reducible repeat (first | refine blk_drewN ?_ _ | refine blk_drew ?_ | refine blk_alloc ?_ _)); exact BK148.out) hb); have n4_ := Aside0.mk (blk_below (g := gb160) (o := .cells #[.slice Ao20 t154.length co20, .int .i64 t157] 27 (0, 0)) (by (with_reducible repeat (first | refine blk_drewN ?_ _ | refine blk_drew ?_ | refine blk_alloc ?_ _)); refine blk_put (cs := #[.slice Ao20 t154.length co20, .int .i64 0]) ?_ 1 _ rfl; (with_reducible repeat (first | refine blk_drewN ?_ _ | refine blk_drew ?_ | refine blk_alloc ?_ _)); refine blk_put (cs := #[.slice none 0 0, .int .i64 0]) ?_ 0 _ rfl; (with_reducible repeat (first | refine blk_drewN ?_ _ | refine blk_drew ?_ | refine blk_alloc ?_ _)); exact BK160.out) hb); have n5_ := Aside0.mk (below_step (by repeat (first | (with_reducible first | exact HB.out | apply below_alloc | apply pw_below_drewN | apply below_drew1 | refine below_set ?_ GE148.out | refine below_set ?_ GE160.out) | exact HB.out)) hb); clear HO152; clear HO156; clear BK148; clear BK160; clear HB; have HO152 := n0_; have HO156 := n1_; have HO163 := n2_; have BK148 := n3_; have BK160 := n4_; have HB := n5_; clear n0_ n1_ n2_ n3_ n4_ n5_; (try clear hb); (try clear hb2); (try clear hk); (try clear hi); (try clear ho0)) | ((with_reducible refine gate_dst (N := 7) rfl ?_); refine box_event ?hg (N := 7) ?hd (cs := #[.slice none 0 0, .int .i64 0]) (t := 27) ?hr ?_; (case hd => rfl); (case hg => rfl); (case hr => first | (go_simp; done) | (go_simp; rfl)); intro gb165 hg w25 hbox hb; have n0_ := Aside0.mk (Kd.R_below (by (with_reducible repeat (first | apply Kd.R_alloc | apply Kd.R_drewN | apply Kd.R_drew)); exact HO152.out) hb); have n1_ := Aside0.mk (Kd.R_below (by (with_reducible repeat (first | apply Kd.R_alloc | apply Kd.R_drewN | apply Kd.R_drew)); exact HO156.out) hb); have n2_ := Aside0.mk (Kd.R_below (by (with_reducible repeat (first | apply Kd.R_alloc | apply Kd.R_drewN | apply Kd.R_drew)); exact HO163.out) hb); have n3_ := Aside0.mk (blk_below (g := gb148) (o := .cells #[.slice A0_0 l0_0.length c0_0, .int .i64 a0_1] 24 (0, 0)) (by (with_reducible repeat (first | refine blk_drewN ?_ _ | refine blk_drew ?_ | refine blk_alloc ?_ _)); exact BK148.out) hb); have n4_ := Aside0.mk (blk_below (g := gb160) (o := .cells #[.slice Ao20 t154.length co20, .int .i64 t157] 27 (0, 0)) (by (with_reducible repeat (first | refine blk_drewN ?_ _ | refine blk_drew ?_ | refine blk_alloc ?_ _)); exact BK160.out) hb); have n5_ := Aside0.mk (below_step (by repeat (first | (with_reducible first | exact HB.out | apply below_alloc | apply pw_below_drewN | apply below_drew1 | refine below_set ?_ GE148.out | refine below_set ?_ GE160.out) | exact HB.out)) hb); have n6_ := Aside0.mk (hbox); have n7_ := Aside0.mk ((by rw [hg]; exact (below_size (by repeat (first | (with_reducible first | exact HB.out | apply below_alloc | apply pw_below_drewN | apply below_drew1 | refine below_set ?_ GE148.out | refine below_set ?_ GE160.out) | exact HB.out))) : w.heap.size ≤ gb165)); have n8_ := Aside0.mk ((by rw [hg]; exact (below_size (by repeat (first | (with_reducible first | exact HB.out | apply below_alloc | apply pw_below_drewN | apply below_drew1 | refine below_set ?_ GE148.out | refine below_set ?_ GE160.out) | exact HB.out))) : w.heap.size ≤ gb165)); have n9_ := Aside0.mk ((by rw [hg]; exact Nat.ne_of_lt (blk_lt (g := gb148) (o := .cells #[.slice A0_0 l0_0.length c0_0, .int .i64 a0_1] 24 (0, 0)) (by (with_reducible repeat (first | refine blk_drewN ?_ _ | refine blk_drew ?_ | refine blk_alloc ?_ _)); exact BK148.out)) : gb148 ≠ gb165)); have n10_ := Aside0.mk ((by rw [hg]; exact Nat.ne_of_gt (blk_lt (g := gb148) (o := .cells #[.slice A0_0 l0_0.length c0_0, .int .i64 a0_1] 24 (0, 0)) (by (with_reducible repeat (first | refine blk_drewN ?_ _ | refine blk_drew ?_ | refine blk_alloc ?_ _)); exact BK148.out)) : gb165 ≠ gb148)); have n11_ := Aside0.mk ((by rw [hg]; exact Nat.ne_of_lt (blk_lt (g := gb160) (o := .cells #[.slice Ao20 t154.length co20, .int .i64 t157] 27 (0, 0)) (by (with_reducible repeat (first | refine blk_drewN ?_ _ | refine blk_drew ?_ | refine blk_alloc ?_ _)); exact BK160.out)) : gb160 ≠ gb165)); have n12_ := Aside0.mk ((by rw [hg]; exact Nat.ne_of_gt (blk_lt (g := gb160) (o := .cells #[.slice Ao20 t154.length co20, .int .i64 t157] 27 (0, 0)) (by (with_reducible repeat (first | refine blk_drewN ?_ _ | refine blk_drew ?_ | refine blk_alloc ?_ _)); exact BK160.out)) : gb165 ≠ gb160)); clear HO152; clear HO156; clear HO163; clear BK148; clear BK160; clear HB; have HO152 := n0_; have HO156 := n1_; have HO163 := n2_; have BK148 := n3_; have BK160 := n4_; have HB := n5_; have BK165 := n6_; have GW165 := n7_; have GE165 := n8_; have NB148_165 := n9_; have NB165_148 := n10_; have NB160_165 := n11_; have NB165_160 := n12_; clear n0_ n1_ n2_ n3_ n4_ n5_ n6_ n7_ n8_ n9_ n10_ n11_ n12_; clear hb hbox hg; obtain ⟨Ao26, co26, eo26⟩ := Kd.R_slice HO163.out; subst eo26; have hnb27 := NB165_148.out; have hnc27 := NB148_165.out; have hnb28 := NB165_160.out; have hnc28 := NB160_165.out; have hcz29_0 : w25.cell? ⟨gb165, 0, none⟩ = some (.slice none 0 0) := (blk_cell BK165.out 0).trans rfl; have hcz29_1 : w25.cell? ⟨gb165, 1, none⟩ = some (.int .i64 0) := (blk_cell BK165.out 1).trans rfl; have hfz29_0 := blk_frozen BK165.out 0; have hfz29_1 := blk_frozen BK165.out 1) | ((with_reducible refine gate_callee (f := 16) rfl ?_); refine goesL_ (some 33) rfl rfl Try.func16 (by kernel_rfl) rfl #[.agg #[.slice Ao26 t161.length co26, .int .i64 t164]] rfl (by (try simp only [List.map_toArray, List.map_cons, List.map_nil]); first | done | rfl | (simp only [List.length_drop, List.length_take]; rfl)) ?_; (with_reducible refine (impl_TapeTake.calls _ _ t161 t164 t166 t169 t170 t171 _ ?side1 ?side2 A10.out).mono ?_); (case side1 => refine (Kd.R_reads' (e := 3) (base := w.heap.size) (ok := fun k_ => ((True ∧ some k_ ≠ (.slice Ao17 t150.length co17 : Value).ownBlock) ∧ some k_ ≠ (.slice Ao20 t154.length co20 : Value).ownBlock)) (n := t161.length) (c := co26) ?_).2.2; exact (by (with_reducible repeat (first | apply Kd.R_alloc | apply Kd.R_drewN | apply Kd.R_drew)); exact (Kd.R_mono (Kd.R_far (p := ⟨gb165, 1, none⟩) (Kd.R_far (p := ⟨gb165, 0, none⟩) (Kd.R_types HO163.out BK165.out (by decide)) (fun _ hk => hk.2) (.slice Ao26 t161.length co26)) (fun _ hk => hk.2) (.int .i64 t164)) (fun _ h_ => h_.1)))); (case side2 => exact (Kd.R_reads' HO163.out).2.1); rintro e w30 ⟨v167, rfl, ho0, hb⟩; refine ⟨_, rfl, ?_⟩; have n0_ := Aside0.mk (Kd.R_elder' (by (with_reducible repeat (first | apply Kd.R_alloc | apply Kd.R_drewN | apply Kd.R_drew)); exact (Kd.R_mono (Kd.R_far (p := ⟨gb165, 1, none⟩) (Kd.R_far (p := ⟨gb165, 0, none⟩) (Kd.R_types HO152.out BK165.out (by decide)) (fun _ hk => hk.2) (.slice Ao26 t161.length co26)) (fun _ hk => hk.2) (.int .i64 t164)) (fun _ h_ => h_.1))) (Kd.R_base ho0) hb); have n1_ := Aside0.mk (Kd.R_elder' (by (with_reducible repeat (first | apply Kd.R_alloc | apply Kd.R_drewN | apply Kd.R_drew)); exact (Kd.R_mono (Kd.R_far (p := ⟨gb165, 1, none⟩) (Kd.R_far (p := ⟨gb165, 0, none⟩) (Kd.R_types HO156.out BK165.out (by decide)) (fun _ hk => hk.2) (.slice Ao26 t161.length co26)) (fun _ hk => hk.2) (.int .i64 t164)) (fun _ h_ => h_.1))) (Kd.R_base ho0) hb); have n2_ := Aside0.mk (Kd.R_elder' (by (with_reducible repeat (first | apply Kd.R_alloc | apply Kd.R_drewN | apply Kd.R_drew)); exact (Kd.R_mono (Kd.R_far (p := ⟨gb165, 1, none⟩) (Kd.R_far (p := ⟨gb165, 0, none⟩) (Kd.R_types HO163.out BK165.out (by decide)) (fun _ hk => hk.2) (.slice Ao26 t161.length co26)) (fun _ hk => hk.2) (.int .i64 t164)) (fun _ h_ => h_.1))) (Kd.R_base ho0) hb); have n3_ := Aside0.mk (Kd.R_lower (Kd.R_new' (Kd.R_new' (Kd.R_new' ho0 (Kd.R_lt (by (with_reducible repeat (first | apply Kd.R_alloc | apply Kd.R_drewN | apply Kd.R_drew)); exact (Kd.R_mono (Kd.R_far (p := ⟨gb165, 1, none⟩) (Kd.R_far (p := ⟨gb165, 0, none⟩) (Kd.R_types HO152.out BK165.out (by decide)) (fun _ hk => hk.2) (.slice Ao26 t161.length co26)) (fun _ hk => hk.2) (.int .i64 t164)) (fun _ h_ => h_.1))))) (Kd.R_lt (by (with_reducible repeat (first | apply Kd.R_alloc | apply Kd.R_drewN | apply Kd.R_drew)); exact (Kd.R_mono (Kd.R_far (p := ⟨gb165, 1, none⟩) (Kd.R_far (p := ⟨gb165, 0, none⟩) (Kd.R_types HO156.out BK165.out (by decide)) (fun _ hk => hk.2) (.slice Ao26 t161.length co26)) (fun _ hk => hk.2) (.int .i64 t164)) (fun _ h_ => h_.1))))) (Kd.R_lt (by (with_reducible repeat (first | apply Kd.R_alloc | apply Kd.R_drewN | apply Kd.R_drew)); exact (Kd.R_mono (Kd.R_far (p := ⟨gb165, 1, none⟩) (Kd.R_far (p := ⟨gb165, 0, none⟩) (Kd.R_types HO163.out BK165.out (by decide)) (fun _ hk => hk.2) (.slice Ao26 t161.length co26)) (fun _ hk => hk.2) (.int .i64 t164)) (fun _ h_ => h_.1))))) (below_size (by repeat (first | (with_reducible first | exact HB.out | apply below_alloc | apply pw_below_drewN | apply below_drew1 | refine below_set ?_ GE148.out | refine below_set ?_ GE160.out | refine below_set ?_ GE165.out) | exact HB.out)))); have n4_ := Aside0.mk (blk_below (g := gb148) (o := .cells #[.slice A0_0 l0_0.length c0_0, .int .i64 a0_1] 24 (0, 0)) (by (with_reducible repeat (first | refine blk_drewN ?_ _ | refine blk_drew ?_ | refine blk_alloc ?_ _)); refine blk_far ?_ NB148_165.out _; (with_reducible repeat (first | refine blk_drewN ?_ _ | refine blk_drew ?_ | refine blk_alloc ?_ _)); refine blk_far ?_ NB148_165.out _; (with_reducible repeat (first | refine blk_drewN ?_ _ | refine blk_drew ?_ | refine blk_alloc ?_ _)); exact BK148.out) hb); have n5_ := Aside0.mk (blk_below (g := gb160) (o := .cells #[.slice Ao20 t154.length co20, .int .i64 t157] 27 (0, 0)) (by (with_reducible repeat (first | refine blk_drewN ?_ _ | refine blk_drew ?_ | refine blk_alloc ?_ _)); refine blk_far ?_ NB160_165.out _; (with_reducible repeat (first | refine blk_drewN ?_ _ | refine blk_drew ?_ | refine blk_alloc ?_ _)); refine blk_far ?_ NB160_165.out _; (with_reducible repeat (first | refine blk_drewN ?_ _ | refine blk_drew ?_ | refine blk_alloc ?_ _)); exact BK160.out) hb); have n6_ := Aside0.mk (blk_below (g := gb165) (o := .cells #[.slice Ao26 t161.length co26, .int .i64 t164] 27 (0, 0)) (by (with_reducible repeat (first | refine blk_drewN ?_ _ | refine blk_drew ?_ | refine blk_alloc ?_ _)); refine blk_put (cs := #[.slice Ao26 t161.length co26, .int .i64 0]) ?_ 1 _ rfl; (with_reducible repeat (first | refine blk_drewN ?_ _ | refine blk_drew ?_ | refine blk_alloc ?_ _)); refine blk_put (cs := #[.slice none 0 0, .int .i64 0]) ?_ 0 _ rfl; (with_reducible repeat (first | refine blk_drewN ?_ _ | refine blk_drew ?_ | refine blk_alloc ?_ _)); exact BK165.out) hb); have n7_ := Aside0.mk (below_step (by repeat (first | (with_reducible first | exact HB.out | apply below_alloc | apply pw_below_drewN | apply below_drew1 | refine below_set ?_ GE148.out | refine below_set ?_ GE160.out | refine below_set ?_ GE165.out) | exact HB.out)) hb); clear HO152; clear HO156; clear HO163; clear BK148; clear BK160; clear BK165; clear HB; have HO152 := n0_; have HO156 := n1_; have HO163 := n2_; have HO168 := n3_; have BK148 := n4_; have BK160 := n5_; have BK165 := n6_; have HB := n7_; clear n0_ n1_ n2_ n3_ n4_ n5_ n6_ n7_; (try clear hb); (try clear hb2); (try clear hk); (try clear hi); (try clear ho0)) | ((with_reducible refine gate_dst (N := 8) rfl ?_); refine box_event ?hg (N := 8) ?hd (cs := #[.slice none 0 0, .int .i64 0]) (t := 27) ?hr ?_; (case hd => rfl); (case hg => rfl); (case hr => first | (go_simp; done) | (go_simp; rfl)); intro gb172 hg w31 hbox hb; have n0_ := Aside0.mk (Kd.R_below (by (with_reducible repeat (first | apply Kd.R_alloc | apply Kd.R_drewN | apply Kd.R_drew)); exact HO152.out) hb); have n1_ := Aside0.mk (Kd.R_below (by (with_reducible repeat (first | apply Kd.R_alloc | apply Kd.R_drewN | apply Kd.R_drew)); exact HO156.out) hb); have n2_ := Aside0.mk (Kd.R_below (by (with_reducible repeat (first | apply Kd.R_alloc | apply Kd.R_drewN | apply Kd.R_drew)); exact HO163.out) hb); have n3_ := Aside0.mk (Kd.R_below (by (with_reducible repeat (first | apply Kd.R_alloc | apply Kd.R_drewN | apply Kd.R_drew)); exact HO168.out) hb); have n4_ := Aside0.mk (blk_below (g := gb148) (o := .cells #[.slice A0_0 l0_0.length c0_0, .int .i64 a0_1] 24 (0, 0)) (by (with_reducible repeat (first | refine blk_drewN ?_ _ | refine blk_drew ?_ | refine blk_alloc ?_ _)); exact BK148.out) hb); have n5_ := Aside0.mk (blk_below (g := gb160) (o := .cells #[.slice Ao20 t154.length co20, .int .i64 t157] 27 (0, 0)) (by (with_reducible repeat (first | refine blk_drewN ?_ _ | refine blk_drew ?_ | refine blk_alloc ?_ _)); exact BK160.out) hb); have n6_ := Aside0.mk (blk_below (g := gb165) (o := .cells #[.slice Ao26 t161.length co26, .int .i64 t164] 27 (0, 0)) (by (with_reducible repeat (first | refine blk_drewN ?_ _ | refine blk_drew ?_ | refine blk_alloc ?_ _)); exact BK165.out) hb); have n7_ := Aside0.mk (below_step (by repeat (first | (with_reducible first | exact HB.out | apply below_alloc | apply pw_below_drewN | apply below_drew1 | refine below_set ?_ GE148.out | refine below_set ?_ GE160.out | refine below_set ?_ GE165.out) | exact HB.out)) hb); have n8_ := Aside0.mk (hbox); have n9_ := Aside0.mk ((by rw [hg]; exact (below_size (by repeat (first | (with_reducible first | exact HB.out | apply below_alloc | apply pw_below_drewN | apply below_drew1 | refine below_set ?_ GE148.out | refine below_set ?_ GE160.out | refine below_set ?_ GE165.out) | exact HB.out))) : w.heap.size ≤ gb172)); have n10_ := Aside0.mk ((by rw [hg]; exact (below_size (by repeat (first | (with_reducible first | exact HB.out | apply below_alloc | apply pw_below_drewN | apply below_drew1 | refine below_set ?_ GE148.out | refine below_set ?_ GE160.out | refine below_set ?_ GE165.out) | exact HB.out))) : w.heap.size ≤ gb172)); have n11_ := Aside0.mk ((by rw [hg]; exact Nat.ne_of_lt (blk_lt (g := gb148) (o := .cells #[.slice A0_0 l0_0.length c0_0, .int .i64 a0_1] 24 (0, 0)) (by (with_reducible repeat (first | refine blk_drewN ?_ _ | refine blk_drew ?_ | refine blk_alloc ?_ _)); exact BK148.out)) : gb148 ≠ gb172)); have n12_ := Aside0.mk ((by rw [hg]; exact Nat.ne_of_gt (blk_lt (g := gb148) (o := .cells #[.slice A0_0 l0_0.length c0_0, .int .i64 a0_1] 24 (0, 0)) (by (with_reducible repeat (first | refine blk_drewN ?_ _ | refine blk_drew ?_ | refine blk_alloc ?_ _)); exact BK148.out)) : gb172 ≠ gb148)); have n13_ := Aside0.mk ((by rw [hg]; exact Nat.ne_of_lt (blk_lt (g := gb160) (o := .cells #[.slice Ao20 t154.length co20, .int .i64 t157] 27 (0, 0)) (by (with_reducible repeat (first | refine blk_drewN ?_ _ | refine blk_drew ?_ | refine blk_alloc ?_ _)); exact BK160.out)) : gb160 ≠ gb172)); have n14_ := Aside0.mk ((by rw [hg]; exact Nat.ne_of_gt (blk_lt (g := gb160) (o := .cells #[.slice Ao20 t154.length co20, .int .i64 t157] 27 (0, 0)) (by (with_reducible repeat (first | refine blk_drewN ?_ _ | refine blk_drew ?_ | refine blk_alloc ?_ _)); exact BK160.out)) : gb172 ≠ gb160)); have n15_ := Aside0.mk ((by rw [hg]; exact Nat.ne_of_lt (blk_lt (g := gb165) (o := .cells #[.slice Ao26 t161.length co26, .int .i64 t164] 27 (0, 0)) (by (with_reducible repeat (first | refine blk_drewN ?_ _ | refine blk_drew ?_ | refine blk_alloc ?_ _)); exact BK165.out)) : gb165 ≠ gb172)); have n16_ := Aside0.mk ((by rw [hg]; exact Nat.ne_of_gt (blk_lt (g := gb165) (o := .cells #[.slice Ao26 t161.length co26, .int .i64 t164] 27 (0, 0)) (by (with_reducible repeat (first | refine blk_drewN ?_ _ | refine blk_drew ?_ | refine blk_alloc ?_ _)); exact BK165.out)) : gb172 ≠ gb165)); clear HO152; clear HO156; clear HO163; clear HO168; clear BK148; clear BK160; clear BK165; clear HB; have HO152 := n0_; have HO156 := n1_; have HO163 := n2_; have HO168 := n3_; have BK148 := n4_; have BK160 := n5_; have BK165 := n6_; have HB := n7_; have BK172 := n8_; have GW172 := n9_; have GE172 := n10_; have NB148_172 := n11_; have NB172_148 := n12_; have NB160_172 := n13_; have NB172_160 := n14_; have NB165_172 := n15_; have NB172_165 := n16_; clear n0_ n1_ n2_ n3_ n4_ n5_ n6_ n7_ n8_ n9_ n10_ n11_ n12_ n13_ n14_ n15_ n16_; clear hb hbox hg; obtain ⟨Ao32, co32, eo32⟩ := Kd.R_slice HO168.out; subst eo32; have hnb33 := NB172_148.out; have hnc33 := NB148_172.out; have hnb34 := NB172_160.out; have hnc34 := NB160_172.out; have hnb35 := NB172_165.out; have hnc35 := NB165_172.out; have hcz36_0 : w31.cell? ⟨gb172, 0, none⟩ = some (.slice none 0 0) := (blk_cell BK172.out 0).trans rfl; have hcz36_1 : w31.cell? ⟨gb172, 1, none⟩ = some (.int .i64 0) := (blk_cell BK172.out 1).trans rfl; have hfz36_0 := blk_frozen BK172.out 0; have hfz36_1 := blk_frozen BK172.out 1))
    (try simp only [Act.put, List.setIfInBounds_toArray, List.set_cons_zero, List.set_cons_succ])
    go_cut [50] (fun v50 wc => ∃ (kq : Nat) (x50_10 : Bool), v50 = .bool x50_10 ∧ Aside0 (laws_FnExactTapeTake.j0 kq t158 t159 t170 t171 x50_10 l0_0 a0_1 t154 t157 t161 t164 t166 t169 = some r) ∧ Aside0 (kq ≤ k) ∧ Aside0 (Kd.R (Kd.int .i64) 3 wc w.heap.size (fun k_ => some k_ ≠ ((.slice Ao26 t161.length co26) : Value).ownBlock ∧ some k_ ≠ ((.slice Ao32 t166.length co32) : Value).ownBlock) (.slice Ao20 t154.length co20) t154) ∧ Aside0 (Kd.R (Kd.int .i64) 3 wc w.heap.size (fun k_ => some k_ ≠ ((.slice Ao20 t154.length co20) : Value).ownBlock ∧ some k_ ≠ ((.slice Ao32 t166.length co32) : Value).ownBlock) (.slice Ao26 t161.length co26) t161) ∧ Aside0 (Kd.R (Kd.int .i64) 3 wc w.heap.size (fun k_ => some k_ ≠ ((.slice Ao20 t154.length co20) : Value).ownBlock ∧ some k_ ≠ ((.slice Ao26 t161.length co26) : Value).ownBlock) (.slice Ao32 t166.length co32) t166) ∧ Aside0 (wc.heap[gb148]? = some (.cells #[(.slice A0_0 l0_0.length c0_0), .int .i64 a0_1] 24 (0, 0))) ∧ Aside0 (wc.heap[gb160]? = some (.cells #[(.slice Ao20 t154.length co20), .int .i64 t157] 27 (0, 0))) ∧ Aside0 (wc.heap[gb165]? = some (.cells #[(.slice Ao26 t161.length co26), .int .i64 t164] 27 (0, 0))) ∧ Aside0 (wc.heap[gb172]? = some (.cells #[(.slice Ao32 t166.length co32), .int .i64 t169] 27 (0, 0))) ∧ Aside0 (Below w.heap.size w wc))
    case first =>
      have H := HC11.out
      clear HC11
      replace H := Option.bind_eq_some_iff.mp H
      obtain ⟨t173, A370, H⟩ := H
      replace H : (if t173 = true then (if t170 = t158 then (laws_FnExactTapeTake.j0 k t158 t159 t170 t171 (t171 != t159) l0_0 a0_1 t154 t157 t161 t164 t166 t169) else (laws_FnExactTapeTake.j0 k t158 t159 t170 t171 true l0_0 a0_1 t154 t157 t161 t164 t166 t169)) else (laws_FnExactTapeTake.j0 k t158 t159 t170 t171 true l0_0 a0_1 t154 t157 t161 t164 t166 t169)) = some r := H
      have A37 := Aside0.mk A370
      clear A370
      by_cases c38 : t173 = true
      · subst c38
        have H1 : (if t170 = t158 then (laws_FnExactTapeTake.j0 k t158 t159 t170 t171 (t171 != t159) l0_0 a0_1 t154 t157 t161 t164 t166 t169) else (laws_FnExactTapeTake.j0 k t158 t159 t170 t171 true l0_0 a0_1 t154 t157 t161 t164 t166 t169)) = some r := by rw [if_pos rfl] at H; exact H
        clear H
        have H := H1
        clear H1
        by_cases c39 : t170 = t158
        · rw [if_pos c39] at H
          have c39b0 : (t170 == t158) = true := beq_iff_eq.mpr c39
          have c39b1 : (t170 != t158) = false := bne_eq_false_iff_eq.mpr c39
          clear c39
          (first | rw [c39b0] | (simp only [i64_w, i32_w]; rw [c39b0]) | skip)
          have H' := Aside0.mk H
          clear H
          have hnb40 := NB172_148.out
          have hnc40 := NB148_172.out
          have hnb41 := NB172_160.out
          have hnc41 := NB160_172.out
          have hnb42 := NB172_165.out
          have hnc42 := NB165_172.out
          have hcz43_0 : w31.cell? ⟨gb172, 0, none⟩ = some (.slice none 0 0) := (blk_cell BK172.out 0).trans rfl
          have hcz43_1 : w31.cell? ⟨gb172, 1, none⟩ = some (.int .i64 0) := (blk_cell BK172.out 1).trans rfl
          have hfz43_0 := blk_frozen BK172.out 0
          have hfz43_1 := blk_frozen BK172.out 1
          have hnb44 := NB160_148.out
          have hnc44 := NB148_160.out
          have hnb45 := NB160_165.out
          have hnc45 := NB165_160.out
          have hcz46_0 : w31.cell? ⟨gb160, 0, none⟩ = some (.slice Ao20 t154.length co20) := (blk_cell BK160.out 0).trans rfl
          have hcz46_1 : w31.cell? ⟨gb160, 1, none⟩ = some (.int .i64 t157) := (blk_cell BK160.out 1).trans rfl
          have hfz46_0 := blk_frozen BK160.out 0
          have hfz46_1 := blk_frozen BK160.out 1
          go_wp2_with (first | ((with_reducible refine gate_callee (f := 12) rfl ?_); refine goesL_ (some 39) rfl rfl Try.func12 (by kernel_rfl) rfl #[.agg #[.slice Ao32 t166.length co32, .int .i64 t169], .agg #[.slice Ao20 t154.length co20, .int .i64 t157]] rfl (by (try simp only [List.map_toArray, List.map_cons, List.map_nil]); first | done | rfl | (simp only [List.length_drop, List.length_take]; rfl)) ?_; (with_reducible refine (laws_eqTape.calls k _ _ t166 t169 _ _ t154 t157 true _ ?side1 ?side2 ?side3 ?side4 A37.out).mono ?_); (case side1 => refine (Kd.R_reads' (e := 3) (base := w.heap.size) (ok := fun k_ => (((True ∧ some k_ ≠ (.slice Ao17 t150.length co17 : Value).ownBlock) ∧ some k_ ≠ (.slice Ao20 t154.length co20 : Value).ownBlock) ∧ some k_ ≠ (.slice Ao26 t161.length co26 : Value).ownBlock)) (n := t166.length) (c := co32) ?_).2.2; exact (by (with_reducible repeat (first | apply Kd.R_alloc | apply Kd.R_drewN | apply Kd.R_drew)); exact (Kd.R_mono (Kd.R_far (p := ⟨gb172, 1, none⟩) (Kd.R_far (p := ⟨gb172, 0, none⟩) (Kd.R_types HO168.out BK172.out (by decide)) (fun _ hk => hk.2) (.slice Ao32 t166.length co32)) (fun _ hk => hk.2) (.int .i64 t169)) (fun _ h_ => h_.1)))); (case side2 => exact (Kd.R_reads' HO168.out).2.1); (case side3 => refine (Kd.R_reads' (e := 3) (base := w.heap.size) (ok := fun k_ => (((True ∧ some k_ ≠ (.slice Ao17 t150.length co17 : Value).ownBlock) ∧ some k_ ≠ (.slice Ao26 t161.length co26 : Value).ownBlock) ∧ some k_ ≠ (.slice Ao32 t166.length co32 : Value).ownBlock)) (n := t154.length) (c := co20) ?_).2.2; exact (by (with_reducible repeat (first | apply Kd.R_alloc | apply Kd.R_drewN | apply Kd.R_drew)); exact (Kd.R_mono (Kd.R_far (p := ⟨gb172, 1, none⟩) (Kd.R_far (p := ⟨gb172, 0, none⟩) (Kd.R_types HO156.out BK172.out (by decide)) (fun _ hk => hk.2) (.slice Ao32 t166.length co32)) (fun _ hk => hk.2) (.int .i64 t169)) (fun _ h_ => h_.1)))); (case side4 => exact (Kd.R_reads' HO156.out).2.1); rintro e w47 ⟨rfl, hb⟩; refine ⟨_, rfl, ?_⟩; have n0_ := Aside0.mk (Kd.R_below (by (with_reducible repeat (first | apply Kd.R_alloc | apply Kd.R_drewN | apply Kd.R_drew)); exact (Kd.R_mono (Kd.R_far (p := ⟨gb172, 1, none⟩) (Kd.R_far (p := ⟨gb172, 0, none⟩) (Kd.R_types HO152.out BK172.out (by decide)) (fun _ hk => hk.2) (.slice Ao32 t166.length co32)) (fun _ hk => hk.2) (.int .i64 t169)) (fun _ h_ => h_.1))) hb); have n1_ := Aside0.mk (Kd.R_below (by (with_reducible repeat (first | apply Kd.R_alloc | apply Kd.R_drewN | apply Kd.R_drew)); exact (Kd.R_mono (Kd.R_far (p := ⟨gb172, 1, none⟩) (Kd.R_far (p := ⟨gb172, 0, none⟩) (Kd.R_types HO156.out BK172.out (by decide)) (fun _ hk => hk.2) (.slice Ao32 t166.length co32)) (fun _ hk => hk.2) (.int .i64 t169)) (fun _ h_ => h_.1))) hb); have n2_ := Aside0.mk (Kd.R_below (by (with_reducible repeat (first | apply Kd.R_alloc | apply Kd.R_drewN | apply Kd.R_drew)); exact (Kd.R_mono (Kd.R_far (p := ⟨gb172, 1, none⟩) (Kd.R_far (p := ⟨gb172, 0, none⟩) (Kd.R_types HO163.out BK172.out (by decide)) (fun _ hk => hk.2) (.slice Ao32 t166.length co32)) (fun _ hk => hk.2) (.int .i64 t169)) (fun _ h_ => h_.1))) hb); have n3_ := Aside0.mk (Kd.R_below (by (with_reducible repeat (first | apply Kd.R_alloc | apply Kd.R_drewN | apply Kd.R_drew)); exact (Kd.R_mono (Kd.R_far (p := ⟨gb172, 1, none⟩) (Kd.R_far (p := ⟨gb172, 0, none⟩) (Kd.R_types HO168.out BK172.out (by decide)) (fun _ hk => hk.2) (.slice Ao32 t166.length co32)) (fun _ hk => hk.2) (.int .i64 t169)) (fun _ h_ => h_.1))) hb); have n4_ := Aside0.mk (blk_below (g := gb148) (o := .cells #[.slice A0_0 l0_0.length c0_0, .int .i64 a0_1] 24 (0, 0)) (by (with_reducible repeat (first | refine blk_drewN ?_ _ | refine blk_drew ?_ | refine blk_alloc ?_ _)); refine blk_far ?_ NB148_172.out _; (with_reducible repeat (first | refine blk_drewN ?_ _ | refine blk_drew ?_ | refine blk_alloc ?_ _)); refine blk_far ?_ NB148_172.out _; (with_reducible repeat (first | refine blk_drewN ?_ _ | refine blk_drew ?_ | refine blk_alloc ?_ _)); exact BK148.out) hb); have n5_ := Aside0.mk (blk_below (g := gb160) (o := .cells #[.slice Ao20 t154.length co20, .int .i64 t157] 27 (0, 0)) (by (with_reducible repeat (first | refine blk_drewN ?_ _ | refine blk_drew ?_ | refine blk_alloc ?_ _)); refine blk_far ?_ NB160_172.out _; (with_reducible repeat (first | refine blk_drewN ?_ _ | refine blk_drew ?_ | refine blk_alloc ?_ _)); refine blk_far ?_ NB160_172.out _; (with_reducible repeat (first | refine blk_drewN ?_ _ | refine blk_drew ?_ | refine blk_alloc ?_ _)); exact BK160.out) hb); have n6_ := Aside0.mk (blk_below (g := gb165) (o := .cells #[.slice Ao26 t161.length co26, .int .i64 t164] 27 (0, 0)) (by (with_reducible repeat (first | refine blk_drewN ?_ _ | refine blk_drew ?_ | refine blk_alloc ?_ _)); refine blk_far ?_ NB165_172.out _; (with_reducible repeat (first | refine blk_drewN ?_ _ | refine blk_drew ?_ | refine blk_alloc ?_ _)); refine blk_far ?_ NB165_172.out _; (with_reducible repeat (first | refine blk_drewN ?_ _ | refine blk_drew ?_ | refine blk_alloc ?_ _)); exact BK165.out) hb); have n7_ := Aside0.mk (blk_below (g := gb172) (o := .cells #[.slice Ao32 t166.length co32, .int .i64 t169] 27 (0, 0)) (by (with_reducible repeat (first | refine blk_drewN ?_ _ | refine blk_drew ?_ | refine blk_alloc ?_ _)); refine blk_put (cs := #[.slice Ao32 t166.length co32, .int .i64 0]) ?_ 1 _ rfl; (with_reducible repeat (first | refine blk_drewN ?_ _ | refine blk_drew ?_ | refine blk_alloc ?_ _)); refine blk_put (cs := #[.slice none 0 0, .int .i64 0]) ?_ 0 _ rfl; (with_reducible repeat (first | refine blk_drewN ?_ _ | refine blk_drew ?_ | refine blk_alloc ?_ _)); exact BK172.out) hb); have n8_ := Aside0.mk (below_step (by repeat (first | (with_reducible first | exact HB.out | apply below_alloc | apply pw_below_drewN | apply below_drew1 | refine below_set ?_ GE148.out | refine below_set ?_ GE160.out | refine below_set ?_ GE165.out | refine below_set ?_ GE172.out) | exact HB.out)) hb); clear HO152; clear HO156; clear HO163; clear HO168; clear BK148; clear BK160; clear BK165; clear BK172; clear HB; have HO152 := n0_; have HO156 := n1_; have HO163 := n2_; have HO168 := n3_; have BK148 := n4_; have BK160 := n5_; have BK165 := n6_; have BK172 := n7_; have HB := n8_; clear n0_ n1_ n2_ n3_ n4_ n5_ n6_ n7_ n8_; (try clear hb); (try clear hb2); (try clear hk); (try clear hi)))
          go_meet
          case rel => exact ⟨_, ((t171 != t159)), (by first | rfl | (simp; done) | (simp [*]; done)), H', ⟨by first | omega | exact Nat.le_refl _⟩, ⟨by (with_reducible repeat (first | apply Kd.R_alloc | apply Kd.R_drewN | apply Kd.R_drew)); exact Kd.R_mono HO156.out (fun _ hk => ⟨hk.1.2, hk.2⟩)⟩, ⟨by (with_reducible repeat (first | apply Kd.R_alloc | apply Kd.R_drewN | apply Kd.R_drew)); exact Kd.R_mono HO163.out (fun _ hk => ⟨hk.1.2, hk.2⟩)⟩, ⟨by (with_reducible repeat (first | apply Kd.R_alloc | apply Kd.R_drewN | apply Kd.R_drew)); exact Kd.R_mono HO168.out (fun _ hk => ⟨hk.1.2, hk.2⟩)⟩, ⟨by (with_reducible repeat (first | refine blk_drewN ?_ _ | refine blk_drew ?_ | refine blk_alloc ?_ _)); exact BK148.out⟩, ⟨by (with_reducible repeat (first | refine blk_drewN ?_ _ | refine blk_drew ?_ | refine blk_alloc ?_ _)); exact BK160.out⟩, ⟨by (with_reducible repeat (first | refine blk_drewN ?_ _ | refine blk_drew ?_ | refine blk_alloc ?_ _)); exact BK165.out⟩, ⟨by (with_reducible repeat (first | refine blk_drewN ?_ _ | refine blk_drew ?_ | refine blk_alloc ?_ _)); exact BK172.out⟩, ⟨by repeat (first | (with_reducible first | exact HB.out | apply below_alloc | apply pw_below_drewN | apply below_drew1 | refine below_set ?_ GE148.out | refine below_set ?_ GE160.out | refine below_set ?_ GE165.out | refine below_set ?_ GE172.out) | exact HB.out)⟩⟩
        · rw [if_neg c39] at H
          have c39b0 : (t170 == t158) = false := beq_eq_false_iff_ne.mpr c39
          have c39b1 : (t170 != t158) = true := bne_iff_ne.mpr c39
          (first | rw [c39b0] | (simp only [i64_w, i32_w]; rw [c39b0]) | skip)
          have H' := Aside0.mk H
          clear H
          have hnb48 := NB172_148.out
          have hnc48 := NB148_172.out
          have hnb49 := NB172_160.out
          have hnc49 := NB160_172.out
          have hnb50 := NB172_165.out
          have hnc50 := NB165_172.out
          have hcz51_0 : w31.cell? ⟨gb172, 0, none⟩ = some (.slice none 0 0) := (blk_cell BK172.out 0).trans rfl
          have hcz51_1 : w31.cell? ⟨gb172, 1, none⟩ = some (.int .i64 0) := (blk_cell BK172.out 1).trans rfl
          have hfz51_0 := blk_frozen BK172.out 0
          have hfz51_1 := blk_frozen BK172.out 1
          have hnb52 := NB160_148.out
          have hnc52 := NB148_160.out
          have hnb53 := NB160_165.out
          have hnc53 := NB165_160.out
          have hcz54_0 : w31.cell? ⟨gb160, 0, none⟩ = some (.slice Ao20 t154.length co20) := (blk_cell BK160.out 0).trans rfl
          have hcz54_1 : w31.cell? ⟨gb160, 1, none⟩ = some (.int .i64 t157) := (blk_cell BK160.out 1).trans rfl
          have hfz54_0 := blk_frozen BK160.out 0
          have hfz54_1 := blk_frozen BK160.out 1
          go_wp2_with (first | ((with_reducible refine gate_callee (f := 12) rfl ?_); refine goesL_ (some 39) rfl rfl Try.func12 (by kernel_rfl) rfl #[.agg #[.slice Ao32 t166.length co32, .int .i64 t169], .agg #[.slice Ao20 t154.length co20, .int .i64 t157]] rfl (by (try simp only [List.map_toArray, List.map_cons, List.map_nil]); first | done | rfl | (simp only [List.length_drop, List.length_take]; rfl)) ?_; (with_reducible refine (laws_eqTape.calls k _ _ t166 t169 _ _ t154 t157 true _ ?side1 ?side2 ?side3 ?side4 A37.out).mono ?_); (case side1 => refine (Kd.R_reads' (e := 3) (base := w.heap.size) (ok := fun k_ => (((True ∧ some k_ ≠ (.slice Ao17 t150.length co17 : Value).ownBlock) ∧ some k_ ≠ (.slice Ao20 t154.length co20 : Value).ownBlock) ∧ some k_ ≠ (.slice Ao26 t161.length co26 : Value).ownBlock)) (n := t166.length) (c := co32) ?_).2.2; exact (by (with_reducible repeat (first | apply Kd.R_alloc | apply Kd.R_drewN | apply Kd.R_drew)); exact (Kd.R_mono (Kd.R_far (p := ⟨gb172, 1, none⟩) (Kd.R_far (p := ⟨gb172, 0, none⟩) (Kd.R_types HO168.out BK172.out (by decide)) (fun _ hk => hk.2) (.slice Ao32 t166.length co32)) (fun _ hk => hk.2) (.int .i64 t169)) (fun _ h_ => h_.1)))); (case side2 => exact (Kd.R_reads' HO168.out).2.1); (case side3 => refine (Kd.R_reads' (e := 3) (base := w.heap.size) (ok := fun k_ => (((True ∧ some k_ ≠ (.slice Ao17 t150.length co17 : Value).ownBlock) ∧ some k_ ≠ (.slice Ao26 t161.length co26 : Value).ownBlock) ∧ some k_ ≠ (.slice Ao32 t166.length co32 : Value).ownBlock)) (n := t154.length) (c := co20) ?_).2.2; exact (by (with_reducible repeat (first | apply Kd.R_alloc | apply Kd.R_drewN | apply Kd.R_drew)); exact (Kd.R_mono (Kd.R_far (p := ⟨gb172, 1, none⟩) (Kd.R_far (p := ⟨gb172, 0, none⟩) (Kd.R_types HO156.out BK172.out (by decide)) (fun _ hk => hk.2) (.slice Ao32 t166.length co32)) (fun _ hk => hk.2) (.int .i64 t169)) (fun _ h_ => h_.1)))); (case side4 => exact (Kd.R_reads' HO156.out).2.1); rintro e w55 ⟨rfl, hb⟩; refine ⟨_, rfl, ?_⟩; have n0_ := Aside0.mk (Kd.R_below (by (with_reducible repeat (first | apply Kd.R_alloc | apply Kd.R_drewN | apply Kd.R_drew)); exact (Kd.R_mono (Kd.R_far (p := ⟨gb172, 1, none⟩) (Kd.R_far (p := ⟨gb172, 0, none⟩) (Kd.R_types HO152.out BK172.out (by decide)) (fun _ hk => hk.2) (.slice Ao32 t166.length co32)) (fun _ hk => hk.2) (.int .i64 t169)) (fun _ h_ => h_.1))) hb); have n1_ := Aside0.mk (Kd.R_below (by (with_reducible repeat (first | apply Kd.R_alloc | apply Kd.R_drewN | apply Kd.R_drew)); exact (Kd.R_mono (Kd.R_far (p := ⟨gb172, 1, none⟩) (Kd.R_far (p := ⟨gb172, 0, none⟩) (Kd.R_types HO156.out BK172.out (by decide)) (fun _ hk => hk.2) (.slice Ao32 t166.length co32)) (fun _ hk => hk.2) (.int .i64 t169)) (fun _ h_ => h_.1))) hb); have n2_ := Aside0.mk (Kd.R_below (by (with_reducible repeat (first | apply Kd.R_alloc | apply Kd.R_drewN | apply Kd.R_drew)); exact (Kd.R_mono (Kd.R_far (p := ⟨gb172, 1, none⟩) (Kd.R_far (p := ⟨gb172, 0, none⟩) (Kd.R_types HO163.out BK172.out (by decide)) (fun _ hk => hk.2) (.slice Ao32 t166.length co32)) (fun _ hk => hk.2) (.int .i64 t169)) (fun _ h_ => h_.1))) hb); have n3_ := Aside0.mk (Kd.R_below (by (with_reducible repeat (first | apply Kd.R_alloc | apply Kd.R_drewN | apply Kd.R_drew)); exact (Kd.R_mono (Kd.R_far (p := ⟨gb172, 1, none⟩) (Kd.R_far (p := ⟨gb172, 0, none⟩) (Kd.R_types HO168.out BK172.out (by decide)) (fun _ hk => hk.2) (.slice Ao32 t166.length co32)) (fun _ hk => hk.2) (.int .i64 t169)) (fun _ h_ => h_.1))) hb); have n4_ := Aside0.mk (blk_below (g := gb148) (o := .cells #[.slice A0_0 l0_0.length c0_0, .int .i64 a0_1] 24 (0, 0)) (by (with_reducible repeat (first | refine blk_drewN ?_ _ | refine blk_drew ?_ | refine blk_alloc ?_ _)); refine blk_far ?_ NB148_172.out _; (with_reducible repeat (first | refine blk_drewN ?_ _ | refine blk_drew ?_ | refine blk_alloc ?_ _)); refine blk_far ?_ NB148_172.out _; (with_reducible repeat (first | refine blk_drewN ?_ _ | refine blk_drew ?_ | refine blk_alloc ?_ _)); exact BK148.out) hb); have n5_ := Aside0.mk (blk_below (g := gb160) (o := .cells #[.slice Ao20 t154.length co20, .int .i64 t157] 27 (0, 0)) (by (with_reducible repeat (first | refine blk_drewN ?_ _ | refine blk_drew ?_ | refine blk_alloc ?_ _)); refine blk_far ?_ NB160_172.out _; (with_reducible repeat (first | refine blk_drewN ?_ _ | refine blk_drew ?_ | refine blk_alloc ?_ _)); refine blk_far ?_ NB160_172.out _; (with_reducible repeat (first | refine blk_drewN ?_ _ | refine blk_drew ?_ | refine blk_alloc ?_ _)); exact BK160.out) hb); have n6_ := Aside0.mk (blk_below (g := gb165) (o := .cells #[.slice Ao26 t161.length co26, .int .i64 t164] 27 (0, 0)) (by (with_reducible repeat (first | refine blk_drewN ?_ _ | refine blk_drew ?_ | refine blk_alloc ?_ _)); refine blk_far ?_ NB165_172.out _; (with_reducible repeat (first | refine blk_drewN ?_ _ | refine blk_drew ?_ | refine blk_alloc ?_ _)); refine blk_far ?_ NB165_172.out _; (with_reducible repeat (first | refine blk_drewN ?_ _ | refine blk_drew ?_ | refine blk_alloc ?_ _)); exact BK165.out) hb); have n7_ := Aside0.mk (blk_below (g := gb172) (o := .cells #[.slice Ao32 t166.length co32, .int .i64 t169] 27 (0, 0)) (by (with_reducible repeat (first | refine blk_drewN ?_ _ | refine blk_drew ?_ | refine blk_alloc ?_ _)); refine blk_put (cs := #[.slice Ao32 t166.length co32, .int .i64 0]) ?_ 1 _ rfl; (with_reducible repeat (first | refine blk_drewN ?_ _ | refine blk_drew ?_ | refine blk_alloc ?_ _)); refine blk_put (cs := #[.slice none 0 0, .int .i64 0]) ?_ 0 _ rfl; (with_reducible repeat (first | refine blk_drewN ?_ _ | refine blk_drew ?_ | refine blk_alloc ?_ _)); exact BK172.out) hb); have n8_ := Aside0.mk (below_step (by repeat (first | (with_reducible first | exact HB.out | apply below_alloc | apply pw_below_drewN | apply below_drew1 | refine below_set ?_ GE148.out | refine below_set ?_ GE160.out | refine below_set ?_ GE165.out | refine below_set ?_ GE172.out) | exact HB.out)) hb); clear HO152; clear HO156; clear HO163; clear HO168; clear BK148; clear BK160; clear BK165; clear BK172; clear HB; have HO152 := n0_; have HO156 := n1_; have HO163 := n2_; have HO168 := n3_; have BK148 := n4_; have BK160 := n5_; have BK165 := n6_; have BK172 := n7_; have HB := n8_; clear n0_ n1_ n2_ n3_ n4_ n5_ n6_ n7_ n8_; (try clear hb); (try clear hb2); (try clear hk); (try clear hi)))
          go_meet
          case rel => exact ⟨_, (true), (by first | rfl | (simp; done) | (simp [*]; done)), H', ⟨by first | omega | exact Nat.le_refl _⟩, ⟨by (with_reducible repeat (first | apply Kd.R_alloc | apply Kd.R_drewN | apply Kd.R_drew)); exact Kd.R_mono HO156.out (fun _ hk => ⟨hk.1.2, hk.2⟩)⟩, ⟨by (with_reducible repeat (first | apply Kd.R_alloc | apply Kd.R_drewN | apply Kd.R_drew)); exact Kd.R_mono HO163.out (fun _ hk => ⟨hk.1.2, hk.2⟩)⟩, ⟨by (with_reducible repeat (first | apply Kd.R_alloc | apply Kd.R_drewN | apply Kd.R_drew)); exact Kd.R_mono HO168.out (fun _ hk => ⟨hk.1.2, hk.2⟩)⟩, ⟨by (with_reducible repeat (first | refine blk_drewN ?_ _ | refine blk_drew ?_ | refine blk_alloc ?_ _)); exact BK148.out⟩, ⟨by (with_reducible repeat (first | refine blk_drewN ?_ _ | refine blk_drew ?_ | refine blk_alloc ?_ _)); exact BK160.out⟩, ⟨by (with_reducible repeat (first | refine blk_drewN ?_ _ | refine blk_drew ?_ | refine blk_alloc ?_ _)); exact BK165.out⟩, ⟨by (with_reducible repeat (first | refine blk_drewN ?_ _ | refine blk_drew ?_ | refine blk_alloc ?_ _)); exact BK172.out⟩, ⟨by repeat (first | (with_reducible first | exact HB.out | apply below_alloc | apply pw_below_drewN | apply below_drew1 | refine below_set ?_ GE148.out | refine below_set ?_ GE160.out | refine below_set ?_ GE165.out | refine below_set ?_ GE172.out) | exact HB.out)⟩⟩
      · replace c38 := Bool.eq_false_iff.mpr c38
        subst c38
        have H1 : (laws_FnExactTapeTake.j0 k t158 t159 t170 t171 true l0_0 a0_1 t154 t157 t161 t164 t166 t169) = some r := by rw [if_neg (show ¬ (false = true) by decide)] at H; exact H
        clear H
        have H := H1
        clear H1
        have H' := Aside0.mk H
        clear H
        have hnb56 := NB172_148.out
        have hnc56 := NB148_172.out
        have hnb57 := NB172_160.out
        have hnc57 := NB160_172.out
        have hnb58 := NB172_165.out
        have hnc58 := NB165_172.out
        have hcz59_0 : w31.cell? ⟨gb172, 0, none⟩ = some (.slice none 0 0) := (blk_cell BK172.out 0).trans rfl
        have hcz59_1 : w31.cell? ⟨gb172, 1, none⟩ = some (.int .i64 0) := (blk_cell BK172.out 1).trans rfl
        have hfz59_0 := blk_frozen BK172.out 0
        have hfz59_1 := blk_frozen BK172.out 1
        have hnb60 := NB160_148.out
        have hnc60 := NB148_160.out
        have hnb61 := NB160_165.out
        have hnc61 := NB165_160.out
        have hcz62_0 : w31.cell? ⟨gb160, 0, none⟩ = some (.slice Ao20 t154.length co20) := (blk_cell BK160.out 0).trans rfl
        have hcz62_1 : w31.cell? ⟨gb160, 1, none⟩ = some (.int .i64 t157) := (blk_cell BK160.out 1).trans rfl
        have hfz62_0 := blk_frozen BK160.out 0
        have hfz62_1 := blk_frozen BK160.out 1
        go_wp2_with (first | ((with_reducible refine gate_callee (f := 12) rfl ?_); refine goesL_ (some 39) rfl rfl Try.func12 (by kernel_rfl) rfl #[.agg #[.slice Ao32 t166.length co32, .int .i64 t169], .agg #[.slice Ao20 t154.length co20, .int .i64 t157]] rfl (by (try simp only [List.map_toArray, List.map_cons, List.map_nil]); first | done | rfl | (simp only [List.length_drop, List.length_take]; rfl)) ?_; (with_reducible refine (laws_eqTape.calls k _ _ t166 t169 _ _ t154 t157 false _ ?side1 ?side2 ?side3 ?side4 A37.out).mono ?_); (case side1 => refine (Kd.R_reads' (e := 3) (base := w.heap.size) (ok := fun k_ => (((True ∧ some k_ ≠ (.slice Ao17 t150.length co17 : Value).ownBlock) ∧ some k_ ≠ (.slice Ao20 t154.length co20 : Value).ownBlock) ∧ some k_ ≠ (.slice Ao26 t161.length co26 : Value).ownBlock)) (n := t166.length) (c := co32) ?_).2.2; exact (by (with_reducible repeat (first | apply Kd.R_alloc | apply Kd.R_drewN | apply Kd.R_drew)); exact (Kd.R_mono (Kd.R_far (p := ⟨gb172, 1, none⟩) (Kd.R_far (p := ⟨gb172, 0, none⟩) (Kd.R_types HO168.out BK172.out (by decide)) (fun _ hk => hk.2) (.slice Ao32 t166.length co32)) (fun _ hk => hk.2) (.int .i64 t169)) (fun _ h_ => h_.1)))); (case side2 => exact (Kd.R_reads' HO168.out).2.1); (case side3 => refine (Kd.R_reads' (e := 3) (base := w.heap.size) (ok := fun k_ => (((True ∧ some k_ ≠ (.slice Ao17 t150.length co17 : Value).ownBlock) ∧ some k_ ≠ (.slice Ao26 t161.length co26 : Value).ownBlock) ∧ some k_ ≠ (.slice Ao32 t166.length co32 : Value).ownBlock)) (n := t154.length) (c := co20) ?_).2.2; exact (by (with_reducible repeat (first | apply Kd.R_alloc | apply Kd.R_drewN | apply Kd.R_drew)); exact (Kd.R_mono (Kd.R_far (p := ⟨gb172, 1, none⟩) (Kd.R_far (p := ⟨gb172, 0, none⟩) (Kd.R_types HO156.out BK172.out (by decide)) (fun _ hk => hk.2) (.slice Ao32 t166.length co32)) (fun _ hk => hk.2) (.int .i64 t169)) (fun _ h_ => h_.1)))); (case side4 => exact (Kd.R_reads' HO156.out).2.1); rintro e w63 ⟨rfl, hb⟩; refine ⟨_, rfl, ?_⟩; have n0_ := Aside0.mk (Kd.R_below (by (with_reducible repeat (first | apply Kd.R_alloc | apply Kd.R_drewN | apply Kd.R_drew)); exact (Kd.R_mono (Kd.R_far (p := ⟨gb172, 1, none⟩) (Kd.R_far (p := ⟨gb172, 0, none⟩) (Kd.R_types HO152.out BK172.out (by decide)) (fun _ hk => hk.2) (.slice Ao32 t166.length co32)) (fun _ hk => hk.2) (.int .i64 t169)) (fun _ h_ => h_.1))) hb); have n1_ := Aside0.mk (Kd.R_below (by (with_reducible repeat (first | apply Kd.R_alloc | apply Kd.R_drewN | apply Kd.R_drew)); exact (Kd.R_mono (Kd.R_far (p := ⟨gb172, 1, none⟩) (Kd.R_far (p := ⟨gb172, 0, none⟩) (Kd.R_types HO156.out BK172.out (by decide)) (fun _ hk => hk.2) (.slice Ao32 t166.length co32)) (fun _ hk => hk.2) (.int .i64 t169)) (fun _ h_ => h_.1))) hb); have n2_ := Aside0.mk (Kd.R_below (by (with_reducible repeat (first | apply Kd.R_alloc | apply Kd.R_drewN | apply Kd.R_drew)); exact (Kd.R_mono (Kd.R_far (p := ⟨gb172, 1, none⟩) (Kd.R_far (p := ⟨gb172, 0, none⟩) (Kd.R_types HO163.out BK172.out (by decide)) (fun _ hk => hk.2) (.slice Ao32 t166.length co32)) (fun _ hk => hk.2) (.int .i64 t169)) (fun _ h_ => h_.1))) hb); have n3_ := Aside0.mk (Kd.R_below (by (with_reducible repeat (first | apply Kd.R_alloc | apply Kd.R_drewN | apply Kd.R_drew)); exact (Kd.R_mono (Kd.R_far (p := ⟨gb172, 1, none⟩) (Kd.R_far (p := ⟨gb172, 0, none⟩) (Kd.R_types HO168.out BK172.out (by decide)) (fun _ hk => hk.2) (.slice Ao32 t166.length co32)) (fun _ hk => hk.2) (.int .i64 t169)) (fun _ h_ => h_.1))) hb); have n4_ := Aside0.mk (blk_below (g := gb148) (o := .cells #[.slice A0_0 l0_0.length c0_0, .int .i64 a0_1] 24 (0, 0)) (by (with_reducible repeat (first | refine blk_drewN ?_ _ | refine blk_drew ?_ | refine blk_alloc ?_ _)); refine blk_far ?_ NB148_172.out _; (with_reducible repeat (first | refine blk_drewN ?_ _ | refine blk_drew ?_ | refine blk_alloc ?_ _)); refine blk_far ?_ NB148_172.out _; (with_reducible repeat (first | refine blk_drewN ?_ _ | refine blk_drew ?_ | refine blk_alloc ?_ _)); exact BK148.out) hb); have n5_ := Aside0.mk (blk_below (g := gb160) (o := .cells #[.slice Ao20 t154.length co20, .int .i64 t157] 27 (0, 0)) (by (with_reducible repeat (first | refine blk_drewN ?_ _ | refine blk_drew ?_ | refine blk_alloc ?_ _)); refine blk_far ?_ NB160_172.out _; (with_reducible repeat (first | refine blk_drewN ?_ _ | refine blk_drew ?_ | refine blk_alloc ?_ _)); refine blk_far ?_ NB160_172.out _; (with_reducible repeat (first | refine blk_drewN ?_ _ | refine blk_drew ?_ | refine blk_alloc ?_ _)); exact BK160.out) hb); have n6_ := Aside0.mk (blk_below (g := gb165) (o := .cells #[.slice Ao26 t161.length co26, .int .i64 t164] 27 (0, 0)) (by (with_reducible repeat (first | refine blk_drewN ?_ _ | refine blk_drew ?_ | refine blk_alloc ?_ _)); refine blk_far ?_ NB165_172.out _; (with_reducible repeat (first | refine blk_drewN ?_ _ | refine blk_drew ?_ | refine blk_alloc ?_ _)); refine blk_far ?_ NB165_172.out _; (with_reducible repeat (first | refine blk_drewN ?_ _ | refine blk_drew ?_ | refine blk_alloc ?_ _)); exact BK165.out) hb); have n7_ := Aside0.mk (blk_below (g := gb172) (o := .cells #[.slice Ao32 t166.length co32, .int .i64 t169] 27 (0, 0)) (by (with_reducible repeat (first | refine blk_drewN ?_ _ | refine blk_drew ?_ | refine blk_alloc ?_ _)); refine blk_put (cs := #[.slice Ao32 t166.length co32, .int .i64 0]) ?_ 1 _ rfl; (with_reducible repeat (first | refine blk_drewN ?_ _ | refine blk_drew ?_ | refine blk_alloc ?_ _)); refine blk_put (cs := #[.slice none 0 0, .int .i64 0]) ?_ 0 _ rfl; (with_reducible repeat (first | refine blk_drewN ?_ _ | refine blk_drew ?_ | refine blk_alloc ?_ _)); exact BK172.out) hb); have n8_ := Aside0.mk (below_step (by repeat (first | (with_reducible first | exact HB.out | apply below_alloc | apply pw_below_drewN | apply below_drew1 | refine below_set ?_ GE148.out | refine below_set ?_ GE160.out | refine below_set ?_ GE165.out | refine below_set ?_ GE172.out) | exact HB.out)) hb); clear HO152; clear HO156; clear HO163; clear HO168; clear BK148; clear BK160; clear BK165; clear BK172; clear HB; have HO152 := n0_; have HO156 := n1_; have HO163 := n2_; have HO168 := n3_; have BK148 := n4_; have BK160 := n5_; have BK165 := n6_; have BK172 := n7_; have HB := n8_; clear n0_ n1_ n2_ n3_ n4_ n5_ n6_ n7_ n8_; (try clear hb); (try clear hb2); (try clear hk); (try clear hi)))
        go_meet
        case rel => exact ⟨_, (true), (by first | rfl | (simp; done) | (simp [*]; done)), H', ⟨by first | omega | exact Nat.le_refl _⟩, ⟨by (with_reducible repeat (first | apply Kd.R_alloc | apply Kd.R_drewN | apply Kd.R_drew)); exact Kd.R_mono HO156.out (fun _ hk => ⟨hk.1.2, hk.2⟩)⟩, ⟨by (with_reducible repeat (first | apply Kd.R_alloc | apply Kd.R_drewN | apply Kd.R_drew)); exact Kd.R_mono HO163.out (fun _ hk => ⟨hk.1.2, hk.2⟩)⟩, ⟨by (with_reducible repeat (first | apply Kd.R_alloc | apply Kd.R_drewN | apply Kd.R_drew)); exact Kd.R_mono HO168.out (fun _ hk => ⟨hk.1.2, hk.2⟩)⟩, ⟨by (with_reducible repeat (first | refine blk_drewN ?_ _ | refine blk_drew ?_ | refine blk_alloc ?_ _)); exact BK148.out⟩, ⟨by (with_reducible repeat (first | refine blk_drewN ?_ _ | refine blk_drew ?_ | refine blk_alloc ?_ _)); exact BK160.out⟩, ⟨by (with_reducible repeat (first | refine blk_drewN ?_ _ | refine blk_drew ?_ | refine blk_alloc ?_ _)); exact BK165.out⟩, ⟨by (with_reducible repeat (first | refine blk_drewN ?_ _ | refine blk_drew ?_ | refine blk_alloc ?_ _)); exact BK172.out⟩, ⟨by repeat (first | (with_reducible first | exact HB.out | apply below_alloc | apply pw_below_drewN | apply below_drew1 | refine below_set ?_ GE148.out | refine below_set ?_ GE160.out | refine below_set ?_ GE165.out | refine below_set ?_ GE172.out) | exact HB.out)⟩⟩
    case rest =>
      clear HC11
      try clear c1
      try clear c2
      try clear p2
      try clear c3
      try clear c3b0
      try clear c4
      try clear c5
      try clear c6
      try clear c8
      try clear c10
      try clear c12
      try clear c15
      try clear c16
      try clear c21
      try clear c27
      try clear c28
      try clear c33
      try clear c34
      try clear c35
      try clear c38
      try clear c39
      try clear c39b0
      try clear c39b1
      try clear c40
      try clear c41
      try clear c42
      try clear c44
      try clear c45
      try clear c48
      try clear c49
      try clear c50
      try clear c52
      try clear c53
      try clear c56
      try clear c57
      try clear c58
      try clear c60
      try clear c61
      try clear hcz13_0
      try clear hcz13_1
      try clear hcz15_0
      try clear hcz15_1
      try clear hcz22_0
      try clear hcz22_1
      try clear hcz23_0
      try clear hcz23_1
      try clear hcz29_0
      try clear hcz29_1
      try clear hcz36_0
      try clear hcz36_1
      try clear hcz43_0
      try clear hcz43_1
      try clear hcz46_0
      try clear hcz46_1
      try clear hcz51_0
      try clear hcz51_1
      try clear hcz54_0
      try clear hcz54_1
      try clear hcz59_0
      try clear hcz59_1
      try clear hcz5_0
      try clear hcz5_1
      try clear hcz62_0
      try clear hcz62_1
      try clear hfz13_0
      try clear hfz13_1
      try clear hfz15_0
      try clear hfz15_1
      try clear hfz22_0
      try clear hfz22_1
      try clear hfz23_0
      try clear hfz23_1
      try clear hfz29_0
      try clear hfz29_1
      try clear hfz36_0
      try clear hfz36_1
      try clear hfz43_0
      try clear hfz43_1
      try clear hfz46_0
      try clear hfz46_1
      try clear hfz51_0
      try clear hfz51_1
      try clear hfz54_0
      try clear hfz54_1
      try clear hfz59_0
      try clear hfz59_1
      try clear hfz5_0
      try clear hfz5_1
      try clear hfz62_0
      try clear hfz62_1
      obtain ⟨kq, x50_10, rfl, HA, HJ10, HO_161000, HO_166000, HO_173000, BK148, BK160, BK165, BK172, HB⟩ := hcut
      cases kq with
      | zero => exact absurd HA.out (by simp [laws_FnExactTapeTake.j0])
      | succ kj10 =>
        have H := HA.out
        clear HA
        simp only [laws_FnExactTapeTake.j0] at H
        by_cases c64 : x50_10 = true
        · subst c64
          have H1 : (some false) = some r := by rw [if_pos rfl] at H; exact H
          clear H
          have H := H1
          clear H1
          obtain rfl := Option.some.inj H
          go_wp2
          go_ret
          exact ⟨by first | rfl | (simp [errW_none, errW_some] <;> rfl) | (simp [*, errW_none, errW_some] <;> rfl), by repeat (first | (with_reducible first | exact HB.out | apply below_alloc | apply pw_below_drewN | apply below_drew1 | refine below_set ?_ GE148.out | refine below_set ?_ GE160.out | refine below_set ?_ GE165.out | refine below_set ?_ GE172.out) | exact HB.out)⟩
        · replace c64 := Bool.eq_false_iff.mpr c64
          subst c64
          have H1 : ((laws_toTape.f kj10 l0_0 a0_1).bind fun bt174 => ((laws_eqTape.f kj10 t161 t164 bt174.1 bt174.2).bind fun t178 => (if t178 = true then ((laws_markTape.f kj10 t161 t164 1).bind fun bt179 => (if bt179.1 < 0 then (laws_FnExactTapeTake.j1 kj10 t158 t159 true l0_0 a0_1 t154 t157 t166 t169) else ((laws_eqTape.f kj10 t166 t169 t154 t157).bind fun t181 => (if t181 = true then (if t170 = t158 then (laws_FnExactTapeTake.j1 kj10 t158 t159 (t171 != t159) l0_0 a0_1 t154 t157 t166 t169) else (laws_FnExactTapeTake.j1 kj10 t158 t159 true l0_0 a0_1 t154 t157 t166 t169)) else (laws_FnExactTapeTake.j1 kj10 t158 t159 true l0_0 a0_1 t154 t157 t166 t169))))) else (some false)))) = some r := by rw [if_neg (show ¬ (false = true) by decide)] at H; exact H
          clear H
          have H := H1
          clear H1
          replace H := Option.bind_eq_some_iff.mp H
          obtain ⟨⟨t174, t177⟩, A650, H⟩ := H
          replace H : ((laws_eqTape.f kj10 t161 t164 t174 t177).bind fun t178 => (if t178 = true then ((laws_markTape.f kj10 t161 t164 1).bind fun bt179 => (if bt179.1 < 0 then (laws_FnExactTapeTake.j1 kj10 t158 t159 true l0_0 a0_1 t154 t157 t166 t169) else ((laws_eqTape.f kj10 t166 t169 t154 t157).bind fun t181 => (if t181 = true then (if t170 = t158 then (laws_FnExactTapeTake.j1 kj10 t158 t159 (t171 != t159) l0_0 a0_1 t154 t157 t166 t169) else (laws_FnExactTapeTake.j1 kj10 t158 t159 true l0_0 a0_1 t154 t157 t166 t169)) else (laws_FnExactTapeTake.j1 kj10 t158 t159 true l0_0 a0_1 t154 t157 t166 t169))))) else (some false))) = some r := H
          have A65 := Aside0.mk A650
          clear A650
          replace H := Option.bind_eq_some_iff.mp H
          obtain ⟨t178, A660, H⟩ := H
          replace H : (if t178 = true then ((laws_markTape.f kj10 t161 t164 1).bind fun bt179 => (if bt179.1 < 0 then (laws_FnExactTapeTake.j1 kj10 t158 t159 true l0_0 a0_1 t154 t157 t166 t169) else ((laws_eqTape.f kj10 t166 t169 t154 t157).bind fun t181 => (if t181 = true then (if t170 = t158 then (laws_FnExactTapeTake.j1 kj10 t158 t159 (t171 != t159) l0_0 a0_1 t154 t157 t166 t169) else (laws_FnExactTapeTake.j1 kj10 t158 t159 true l0_0 a0_1 t154 t157 t166 t169)) else (laws_FnExactTapeTake.j1 kj10 t158 t159 true l0_0 a0_1 t154 t157 t166 t169))))) else (some false)) = some r := H
          have A66 := Aside0.mk A660
          clear A660
          by_cases c67 : t178 = true
          · subst c67
            have H1 : ((laws_markTape.f kj10 t161 t164 1).bind fun bt179 => (if bt179.1 < 0 then (laws_FnExactTapeTake.j1 kj10 t158 t159 true l0_0 a0_1 t154 t157 t166 t169) else ((laws_eqTape.f kj10 t166 t169 t154 t157).bind fun t181 => (if t181 = true then (if t170 = t158 then (laws_FnExactTapeTake.j1 kj10 t158 t159 (t171 != t159) l0_0 a0_1 t154 t157 t166 t169) else (laws_FnExactTapeTake.j1 kj10 t158 t159 true l0_0 a0_1 t154 t157 t166 t169)) else (laws_FnExactTapeTake.j1 kj10 t158 t159 true l0_0 a0_1 t154 t157 t166 t169))))) = some r := by rw [if_pos rfl] at H; exact H
            clear H
            have H := H1
            clear H1
            replace H := Option.bind_eq_some_iff.mp H
            obtain ⟨⟨t179, t180⟩, A680, H⟩ := H
            replace H : (if t179 < 0 then (laws_FnExactTapeTake.j1 kj10 t158 t159 true l0_0 a0_1 t154 t157 t166 t169) else ((laws_eqTape.f kj10 t166 t169 t154 t157).bind fun t181 => (if t181 = true then (if t170 = t158 then (laws_FnExactTapeTake.j1 kj10 t158 t159 (t171 != t159) l0_0 a0_1 t154 t157 t166 t169) else (laws_FnExactTapeTake.j1 kj10 t158 t159 true l0_0 a0_1 t154 t157 t166 t169)) else (laws_FnExactTapeTake.j1 kj10 t158 t159 true l0_0 a0_1 t154 t157 t166 t169)))) = some r := H
            have A68 := Aside0.mk A680
            clear A680
            have HC69 := Aside0.mk H
            clear H
            try go_wp2
            have n0_ := Aside0.mk (Kd.R_drew HO_161000.out)
            have n1_ := Aside0.mk (Kd.R_drew HO_166000.out)
            have n2_ := Aside0.mk (Kd.R_drew HO_173000.out)
            have n3_ := Aside0.mk (blk_drew BK148.out)
            have n4_ := Aside0.mk (blk_drew BK160.out)
            have n5_ := Aside0.mk (blk_drew BK165.out)
            have n6_ := Aside0.mk (blk_drew BK172.out)
            have n7_ := Aside0.mk (below_drew1 HB.out)
            clear HO_161000
            clear HO_166000
            clear HO_173000
            clear BK148
            clear BK160
            clear BK165
            clear BK172
            clear HB
            have HO_161000 := n0_
            have HO_166000 := n1_
            have HO_173000 := n2_
            have BK148 := n3_
            have BK160 := n4_
            have BK165 := n5_
            have BK172 := n6_
            have HB := n7_
            clear n0_ n1_ n2_ n3_ n4_ n5_ n6_ n7_
            refine start_ (n := 5) (S := fun w' => w'.cell? ⟨gb165, 0, none⟩ = some (.slice Ao26 t161.length co26) ∧ w'.cell? ⟨gb165, 1, none⟩ = some (.int .i64 t164) ∧ w'.cell? ⟨gb148, 0, none⟩ = some (.slice A0_0 l0_0.length c0_0) ∧ w'.cell? ⟨gb148, 1, none⟩ = some (.int .i64 a0_1)) (ds := []) #[false, false, false, false, false] (by kernel_rfl) rfl rfl ⟨(blk_cell BK165.out 0).trans rfl, (blk_cell BK165.out 1).trans rfl, (blk_cell BK148.out 0).trans rfl, (blk_cell BK148.out 1).trans rfl⟩ (fun hHeld => ?_)
            generalize wc.drew = w70 at HO_161000 HO_166000 HO_173000 BK148 BK160 BK165 BK172 HB hHeld ⊢
            refine take_ (i := 0) (N := some 51) (v := ?_) (a' := ?_) #[true, false, false, false, false] rfl rfl (by kernel_rfl) (fun _ _ _ h => h) (Or.inl ⟨by rfl, ?_⟩) hHeld ?_ ?_
            rotate_left
            · rintro w' ⟨s0, s1, s2, s3⟩
              go_simp
              with_reducible rfl
            rotate_left
            · simp only [Act.put, List.setIfInBounds_toArray, List.set_cons_zero, List.set_cons_succ, i64_w, i32_w]
              rfl
            refine take_ (i := 1) (N := some 52) (v := ?_) (a' := ?_) #[true, true, false, false, false] rfl rfl (by kernel_rfl) (fun _ _ _ h => h) (Or.inl ⟨by rfl, ?_⟩) hHeld ?_ ?_
            rotate_left
            · rintro w' ⟨s0, s1, s2, s3⟩
              go_simp
              with_reducible rfl
            rotate_left
            · simp only [Act.put, List.setIfInBounds_toArray, List.set_cons_zero, List.set_cons_succ, i64_w, i32_w]
              rfl
            refine one_ (i := 2) (N := some 53) #[true, true, true, false, false] rfl rfl (by kernel_rfl) (by decide) (fun K hK => ?_)
            refine goes_ Try.func10 (by kernel_rfl) rfl #[.agg #[.slice A0_0 l0_0.length c0_0, .int .i64 a0_1]] (by rfl) rfl rfl (by (try simp only [List.map_toArray, List.map_cons, List.map_nil]); first | done | rfl | (simp only [List.length_drop, List.length_take]; rfl)) ?_
            with_reducible refine (laws_toTape.calls kj10 _ _ l0_0 a0_1 t174 t177 _ ?side1 ?side2 A65.out).mono ?_
            (case side1 => repeat (first | exact (Kd.C_below HR0_0.out HB.out) | (with_reducible refine Kd.C_alloc ?_ _) | (with_reducible refine Kd.C_drewN ?_ _) | (with_reducible refine Kd.C_drew ?_)))
            (case side2 => exact HC0_0.out)
            rintro e w71 ⟨v175, rfl, ho0, hb⟩
            refine ⟨_, rfl, ?_⟩
            have n0_ := Aside0.mk (Kd.R_elder' (by (with_reducible repeat (first | apply Kd.R_alloc | apply Kd.R_drewN | apply Kd.R_drew)); exact HO_161000.out) (Kd.R_base ho0) hb)
            have n1_ := Aside0.mk (Kd.R_elder' (by (with_reducible repeat (first | apply Kd.R_alloc | apply Kd.R_drewN | apply Kd.R_drew)); exact HO_166000.out) (Kd.R_base ho0) hb)
            have n2_ := Aside0.mk (Kd.R_elder' (by (with_reducible repeat (first | apply Kd.R_alloc | apply Kd.R_drewN | apply Kd.R_drew)); exact HO_173000.out) (Kd.R_base ho0) hb)
            have n3_ := Aside0.mk (Kd.R_lower (Kd.R_new' (Kd.R_new' (Kd.R_new' ho0 (Kd.R_lt (by (with_reducible repeat (first | apply Kd.R_alloc | apply Kd.R_drewN | apply Kd.R_drew)); exact HO_161000.out))) (Kd.R_lt (by (with_reducible repeat (first | apply Kd.R_alloc | apply Kd.R_drewN | apply Kd.R_drew)); exact HO_166000.out))) (Kd.R_lt (by (with_reducible repeat (first | apply Kd.R_alloc | apply Kd.R_drewN | apply Kd.R_drew)); exact HO_173000.out))) (below_size (by repeat (first | (with_reducible first | exact HB.out | apply below_alloc | apply pw_below_drewN | apply below_drew1 | refine below_set ?_ GE148.out | refine below_set ?_ GE160.out | refine below_set ?_ GE165.out | refine below_set ?_ GE172.out) | exact HB.out))))
            have n4_ := Aside0.mk (blk_below (g := gb148) (o := .cells #[.slice A0_0 l0_0.length c0_0, .int .i64 a0_1] 24 (0, 0)) (by (with_reducible repeat (first | refine blk_drewN ?_ _ | refine blk_drew ?_ | refine blk_alloc ?_ _)); exact BK148.out) hb)
            have n5_ := Aside0.mk (blk_below (g := gb160) (o := .cells #[.slice Ao20 t154.length co20, .int .i64 t157] 27 (0, 0)) (by (with_reducible repeat (first | refine blk_drewN ?_ _ | refine blk_drew ?_ | refine blk_alloc ?_ _)); exact BK160.out) hb)
            have n6_ := Aside0.mk (blk_below (g := gb165) (o := .cells #[.slice Ao26 t161.length co26, .int .i64 t164] 27 (0, 0)) (by (with_reducible repeat (first | refine blk_drewN ?_ _ | refine blk_drew ?_ | refine blk_alloc ?_ _)); exact BK165.out) hb)
            have n7_ := Aside0.mk (blk_below (g := gb172) (o := .cells #[.slice Ao32 t166.length co32, .int .i64 t169] 27 (0, 0)) (by (with_reducible repeat (first | refine blk_drewN ?_ _ | refine blk_drew ?_ | refine blk_alloc ?_ _)); exact BK172.out) hb)
            have n8_ := Aside0.mk (below_step (by repeat (first | (with_reducible first | exact HB.out | apply below_alloc | apply pw_below_drewN | apply below_drew1 | refine below_set ?_ GE148.out | refine below_set ?_ GE160.out | refine below_set ?_ GE165.out | refine below_set ?_ GE172.out) | exact HB.out)) hb)
            clear HO_161000
            clear HO_166000
            clear HO_173000
            clear BK148
            clear BK160
            clear BK165
            clear BK172
            clear HB
            have HO_161000 := n0_
            have HO_166000 := n1_
            have HO_173000 := n2_
            have HO176 := n3_
            have BK148 := n4_
            have BK160 := n5_
            have BK165 := n6_
            have BK172 := n7_
            have HB := n8_
            clear n0_ n1_ n2_ n3_ n4_ n5_ n6_ n7_ n8_
            (try clear hb)
            (try clear hb2)
            (try clear hk)
            (try clear hi)
            (try clear ho0)
            obtain ⟨Ao72, co72, eo72⟩ := Kd.R_slice HO176.out
            (first | subst eo72 | (injection eo72 with f1_ f2_ f3_; have f4_ := f1_.symm; have f5_ := f3_.symm; clear f1_ f2_ f3_; subst f4_; subst f5_))
            refine hK.out _ _ ⟨(blk_cell BK165.out 0).trans rfl, (blk_cell BK165.out 1).trans rfl, (blk_cell BK148.out 0).trans rfl, (blk_cell BK148.out 1).trans rfl⟩ (fun hHeld => ?_)
            clear hK K
            refine norm_ (a' := ?_) ?_ ?_
            rotate_left
            · show Act.put _ (some 53) _ = _
              simp only [Act.put, List.setIfInBounds_toArray, List.set_cons_zero, List.set_cons_succ, i64_w, i32_w]
              rfl
            refine one_ (i := 3) (N := some 54) #[true, true, true, true, false] rfl rfl (by kernel_rfl) (by decide) (fun K hK => ?_)
            refine goes_ Try.func12 (by kernel_rfl) rfl #[.agg #[.slice Ao26 t161.length co26, .int .i64 t164], .agg #[.slice Ao72 t174.length co72, .int .i64 t177]] (by rfl) rfl rfl (by (try simp only [List.map_toArray, List.map_cons, List.map_nil]); first | done | rfl | (simp only [List.length_drop, List.length_take]; rfl)) ?_
            with_reducible refine (laws_eqTape.calls kj10 _ _ t161 t164 _ _ t174 t177 true _ ?side1 ?side2 ?side3 ?side4 A66.out).mono ?_
            (case side1 => repeat (first | exact (Kd.R_reads' HO_166000.out).2.2 | (with_reducible refine Kd.C_alloc ?_ _) | (with_reducible refine Kd.C_drewN ?_ _) | (with_reducible refine Kd.C_drew ?_)))
            (case side2 => exact (Kd.R_reads' HO_166000.out).2.1)
            (case side3 => repeat (first | exact (Kd.R_reads' HO176.out).2.2 | (with_reducible refine Kd.C_alloc ?_ _) | (with_reducible refine Kd.C_drewN ?_ _) | (with_reducible refine Kd.C_drew ?_)))
            (case side4 => exact (Kd.R_reads' HO176.out).2.1)
            rintro e w73 ⟨rfl, hb⟩
            refine ⟨_, rfl, ?_⟩
            have n0_ := Aside0.mk (Kd.R_below (by (with_reducible repeat (first | apply Kd.R_alloc | apply Kd.R_drewN | apply Kd.R_drew)); exact HO_161000.out) hb)
            have n1_ := Aside0.mk (Kd.R_below (by (with_reducible repeat (first | apply Kd.R_alloc | apply Kd.R_drewN | apply Kd.R_drew)); exact HO_166000.out) hb)
            have n2_ := Aside0.mk (Kd.R_below (by (with_reducible repeat (first | apply Kd.R_alloc | apply Kd.R_drewN | apply Kd.R_drew)); exact HO_173000.out) hb)
            have n3_ := Aside0.mk (Kd.R_below (by (with_reducible repeat (first | apply Kd.R_alloc | apply Kd.R_drewN | apply Kd.R_drew)); exact HO176.out) hb)
            have n4_ := Aside0.mk (blk_below (g := gb148) (o := .cells #[.slice A0_0 l0_0.length c0_0, .int .i64 a0_1] 24 (0, 0)) (by (with_reducible repeat (first | refine blk_drewN ?_ _ | refine blk_drew ?_ | refine blk_alloc ?_ _)); exact BK148.out) hb)
            have n5_ := Aside0.mk (blk_below (g := gb160) (o := .cells #[.slice Ao20 t154.length co20, .int .i64 t157] 27 (0, 0)) (by (with_reducible repeat (first | refine blk_drewN ?_ _ | refine blk_drew ?_ | refine blk_alloc ?_ _)); exact BK160.out) hb)
            have n6_ := Aside0.mk (blk_below (g := gb165) (o := .cells #[.slice Ao26 t161.length co26, .int .i64 t164] 27 (0, 0)) (by (with_reducible repeat (first | refine blk_drewN ?_ _ | refine blk_drew ?_ | refine blk_alloc ?_ _)); exact BK165.out) hb)
            have n7_ := Aside0.mk (blk_below (g := gb172) (o := .cells #[.slice Ao32 t166.length co32, .int .i64 t169] 27 (0, 0)) (by (with_reducible repeat (first | refine blk_drewN ?_ _ | refine blk_drew ?_ | refine blk_alloc ?_ _)); exact BK172.out) hb)
            have n8_ := Aside0.mk (below_step (by repeat (first | (with_reducible first | exact HB.out | apply below_alloc | apply pw_below_drewN | apply below_drew1 | refine below_set ?_ GE148.out | refine below_set ?_ GE160.out | refine below_set ?_ GE165.out | refine below_set ?_ GE172.out) | exact HB.out)) hb)
            clear HO_161000
            clear HO_166000
            clear HO_173000
            clear HO176
            clear BK148
            clear BK160
            clear BK165
            clear BK172
            clear HB
            have HO_161000 := n0_
            have HO_166000 := n1_
            have HO_173000 := n2_
            have HO176 := n3_
            have BK148 := n4_
            have BK160 := n5_
            have BK165 := n6_
            have BK172 := n7_
            have HB := n8_
            clear n0_ n1_ n2_ n3_ n4_ n5_ n6_ n7_ n8_
            (try clear hb)
            (try clear hb2)
            (try clear hk)
            (try clear hi)
            refine hK.out _ _ ⟨(blk_cell BK165.out 0).trans rfl, (blk_cell BK165.out 1).trans rfl, (blk_cell BK148.out 0).trans rfl, (blk_cell BK148.out 1).trans rfl⟩ (fun hHeld => ?_)
            clear hK K
            refine norm_ (a' := ?_) ?_ ?_
            rotate_left
            · show Act.put _ (some 54) _ = _
              simp only [Act.put, List.setIfInBounds_toArray, List.set_cons_zero, List.set_cons_succ, i64_w, i32_w]
              rfl
            refine pure_ (i := 4) (N := some 55) (v := ?_) (a' := ?_) #[true, true, true, true, true] rfl rfl (by kernel_rfl) (fun _ _ _ h => h) (Or.inl ⟨by rfl, ?_⟩) ?_ ?_
            rotate_left
            · intro w'
              go_simp
              with_reducible rfl
            rotate_left
            · simp only [Act.put, List.setIfInBounds_toArray, List.set_cons_zero, List.set_cons_succ, i64_w, i32_w]
              rfl
            refine done_ (by kernel_rfl) ?_
            have hnb74 := NB165_148.out
            have hnc74 := NB148_165.out
            have hnb75 := NB165_160.out
            have hnc75 := NB160_165.out
            have hnb76 := NB165_172.out
            have hnc76 := NB172_165.out
            have hcz77_0 : w73.cell? ⟨gb165, 0, none⟩ = some (.slice Ao26 t161.length co26) := (blk_cell BK165.out 0).trans rfl
            have hcz77_1 : w73.cell? ⟨gb165, 1, none⟩ = some (.int .i64 t164) := (blk_cell BK165.out 1).trans rfl
            have hfz77_0 := blk_frozen BK165.out 0
            have hfz77_1 := blk_frozen BK165.out 1
            go_upto_region 14 with (first | ((with_reducible refine gate_callee (f := 17) rfl ?_); refine goesL_ (some 58) rfl rfl Try.func17 (by kernel_rfl) rfl #[.agg #[.slice Ao26 t161.length co26, .int .i64 t164], .int .i64 1] rfl (by (try simp only [List.map_toArray, List.map_cons, List.map_nil]); first | done | rfl | (simp only [List.length_drop, List.length_take]; rfl)) ?_; (with_reducible refine (laws_markTape.calls kj10 (fun k_ => some k_ = (.slice Ao26 t161.length co26 : Value).ownBlock) (.slice Ao26 t161.length co26) t161 t164 1 t179 t180 w _ ?side1 ?side2 A68.out).mono ?_); (case side1 => repeat (first | (with_reducible first | exact HB.out | apply below_alloc | apply pw_below_drewN | apply below_drew1 | refine below_set ?_ GE148.out | refine below_set ?_ GE160.out | refine below_set ?_ GE165.out | refine below_set ?_ GE172.out) | exact HB.out)); (case side2 => exact Kd.R_tight rfl HO_166000.out); rintro e w78 ⟨rfl, hy0, hb, hkp⟩; refine ⟨_, rfl, ?_⟩; have n0_ := Aside0.mk (Kd.R_mono (ok' := fun k_ => some k_ ≠ (.slice Ao26 t161.length co26 : Value).ownBlock ∧ some k_ ≠ (.slice Ao32 t166.length co32 : Value).ownBlock ∧ some k_ ≠ (.slice Ao72 t174.length co72 : Value).ownBlock) (Kd.R_keptB (HO_161000.out) hkp (fun k_ hk_ hs_ => (hk_.1.1) hs_)) (fun k_ hk_ => ⟨hk_.1.1.1, hk_.1.1.2, hk_.1.2⟩)); have n1_ := Aside0.mk (Kd.R_reok rfl hy0 (fun k_ e_ => HO_166000.out.1 k_ e_)); have n2_ := Aside0.mk (Kd.R_mono (ok' := fun k_ => some k_ ≠ (.slice Ao20 t154.length co20 : Value).ownBlock ∧ some k_ ≠ (.slice Ao26 t161.length co26 : Value).ownBlock ∧ some k_ ≠ (.slice Ao72 t174.length co72 : Value).ownBlock) (Kd.R_keptB (HO_173000.out) hkp (fun k_ hk_ hs_ => (hk_.1.2) hs_)) (fun k_ hk_ => ⟨hk_.1.1.1, hk_.1.1.2, hk_.1.2⟩)); have n3_ := Aside0.mk (blk_kept (by (with_reducible repeat (first | refine blk_drewN ?_ _ | refine blk_drew ?_ | refine blk_alloc ?_ _)); exact BK148.out) hkp (fun hs_ => (fun e_ => (Kd.R_ne HO_166000.out BK148.out (by decide)) e_) hs_)); have n4_ := Aside0.mk (blk_kept (by (with_reducible repeat (first | refine blk_drewN ?_ _ | refine blk_drew ?_ | refine blk_alloc ?_ _)); exact BK160.out) hkp (fun hs_ => (fun e_ => (Kd.R_ne HO_166000.out BK160.out (by decide)) e_) hs_)); have n5_ := Aside0.mk (blk_kept (by (with_reducible repeat (first | refine blk_drewN ?_ _ | refine blk_drew ?_ | refine blk_alloc ?_ _)); exact BK165.out) hkp (fun hs_ => (fun e_ => (Kd.R_ne HO_166000.out BK165.out (by decide)) e_) hs_)); have n6_ := Aside0.mk (blk_kept (by (with_reducible repeat (first | refine blk_drewN ?_ _ | refine blk_drew ?_ | refine blk_alloc ?_ _)); exact BK172.out) hkp (fun hs_ => (fun e_ => (Kd.R_ne HO_166000.out BK172.out (by decide)) e_) hs_)); have n7_ := Aside0.mk (Kd.R_mono (ok' := fun k_ => some k_ ≠ (.slice Ao20 t154.length co20 : Value).ownBlock ∧ some k_ ≠ (.slice Ao26 t161.length co26 : Value).ownBlock ∧ some k_ ≠ (.slice Ao32 t166.length co32 : Value).ownBlock) (Kd.R_keptB (HO176.out) hkp (fun k_ hk_ hs_ => (hk_.1.2) hs_)) (fun k_ hk_ => ⟨hk_.1.1.1.2, hk_.1.1.2, hk_.1.2⟩)); have n8_ := Aside0.mk (hb); clear HO_161000; clear HO_166000; clear HO_173000; clear BK148; clear BK160; clear BK165; clear BK172; clear HO176; clear HB; have HO_161000 := n0_; have HO_166000 := n1_; have HO_173000 := n2_; have BK148 := n3_; have BK160 := n4_; have BK165 := n5_; have BK172 := n6_; have HO176 := n7_; have HB := n8_; clear n0_ n1_ n2_ n3_ n4_ n5_ n6_ n7_ n8_; (try clear hb); (try clear hkp); (try clear hy0)))
            (try simp only [Act.put, List.setIfInBounds_toArray, List.set_cons_zero, List.set_cons_succ])
            go_cut [76] (fun v76 wc => ∃ (kq : Nat) (x76_68 : Bool), v76 = .bool x76_68 ∧ Aside0 (laws_FnExactTapeTake.j1 kq t158 t159 x76_68 l0_0 a0_1 t154 t157 t166 t169 = some r) ∧ Aside0 (kq ≤ kj10) ∧ Aside0 (Kd.R (Kd.int .i64) 3 wc w.heap.size (fun k_ => some k_ ≠ ((.slice Ao26 t161.length co26) : Value).ownBlock ∧ some k_ ≠ ((.slice Ao32 t166.length co32) : Value).ownBlock) (.slice Ao20 t154.length co20) t154) ∧ Aside0 (Kd.R (Kd.int .i64) 3 wc w.heap.size (fun k_ => some k_ ≠ ((.slice Ao20 t154.length co20) : Value).ownBlock ∧ some k_ ≠ ((.slice Ao32 t166.length co32) : Value).ownBlock) (.slice Ao26 t161.length co26) t180) ∧ Aside0 (Kd.R (Kd.int .i64) 3 wc w.heap.size (fun k_ => some k_ ≠ ((.slice Ao20 t154.length co20) : Value).ownBlock ∧ some k_ ≠ ((.slice Ao26 t161.length co26) : Value).ownBlock) (.slice Ao32 t166.length co32) t166) ∧ Aside0 (wc.heap[gb148]? = some (.cells #[(.slice A0_0 l0_0.length c0_0), .int .i64 a0_1] 24 (0, 0))) ∧ Aside0 (wc.heap[gb160]? = some (.cells #[(.slice Ao20 t154.length co20), .int .i64 t157] 27 (0, 0))) ∧ Aside0 (wc.heap[gb165]? = some (.cells #[(.slice Ao26 t161.length co26), .int .i64 t164] 27 (0, 0))) ∧ Aside0 (wc.heap[gb172]? = some (.cells #[(.slice Ao32 t166.length co32), .int .i64 t169] 27 (0, 0))) ∧ Aside0 (Below w.heap.size w wc))
            case first =>
              have H := HC69.out
              clear HC69
              by_cases c79 : t179 < 0
              · rw [if_pos c79] at H
                have c79b0 : decide (t179 < 0) = true := decide_eq_true c79
                clear c79
                (first | rw [c79b0] | (simp only [i64_w, i32_w]; rw [c79b0]) | skip)
                have H' := Aside0.mk H
                clear H
                go_wp2
                go_meet
                case rel => exact ⟨_, (true), (by first | rfl | (simp; done) | (simp [*]; done)), H', ⟨by have := HJ10.out; first | omega | exact Nat.le_refl _⟩, ⟨by (with_reducible repeat (first | apply Kd.R_alloc | apply Kd.R_drewN | apply Kd.R_drew)); exact Kd.R_mono HO_161000.out (fun _ hk => ⟨hk.1, hk.2.1⟩)⟩, ⟨by (with_reducible repeat (first | apply Kd.R_alloc | apply Kd.R_drewN | apply Kd.R_drew)); exact Kd.R_mono HO_166000.out (fun _ hk => ⟨hk.1.1, hk.1.2⟩)⟩, ⟨by (with_reducible repeat (first | apply Kd.R_alloc | apply Kd.R_drewN | apply Kd.R_drew)); exact Kd.R_mono HO_173000.out (fun _ hk => ⟨hk.1, hk.2.1⟩)⟩, ⟨by (with_reducible repeat (first | refine blk_drewN ?_ _ | refine blk_drew ?_ | refine blk_alloc ?_ _)); exact BK148.out⟩, ⟨by (with_reducible repeat (first | refine blk_drewN ?_ _ | refine blk_drew ?_ | refine blk_alloc ?_ _)); exact BK160.out⟩, ⟨by (with_reducible repeat (first | refine blk_drewN ?_ _ | refine blk_drew ?_ | refine blk_alloc ?_ _)); exact BK165.out⟩, ⟨by (with_reducible repeat (first | refine blk_drewN ?_ _ | refine blk_drew ?_ | refine blk_alloc ?_ _)); exact BK172.out⟩, ⟨by repeat (first | (with_reducible first | exact HB.out | apply below_alloc | apply pw_below_drewN | apply below_drew1 | refine below_set ?_ GE148.out | refine below_set ?_ GE160.out | refine below_set ?_ GE165.out | refine below_set ?_ GE172.out) | exact HB.out)⟩⟩
              · rw [if_neg c79] at H
                have c79b0 : decide (t179 < 0) = false := decide_eq_false c79
                clear c79
                (first | rw [c79b0] | (simp only [i64_w, i32_w]; rw [c79b0]) | skip)
                replace H := Option.bind_eq_some_iff.mp H
                obtain ⟨t181, A800, H⟩ := H
                replace H : (if t181 = true then (if t170 = t158 then (laws_FnExactTapeTake.j1 kj10 t158 t159 (t171 != t159) l0_0 a0_1 t154 t157 t166 t169) else (laws_FnExactTapeTake.j1 kj10 t158 t159 true l0_0 a0_1 t154 t157 t166 t169)) else (laws_FnExactTapeTake.j1 kj10 t158 t159 true l0_0 a0_1 t154 t157 t166 t169)) = some r := H
                have A80 := Aside0.mk A800
                clear A800
                by_cases c81 : t181 = true
                · subst c81
                  have H1 : (if t170 = t158 then (laws_FnExactTapeTake.j1 kj10 t158 t159 (t171 != t159) l0_0 a0_1 t154 t157 t166 t169) else (laws_FnExactTapeTake.j1 kj10 t158 t159 true l0_0 a0_1 t154 t157 t166 t169)) = some r := by rw [if_pos rfl] at H; exact H
                  clear H
                  have H := H1
                  clear H1
                  by_cases c82 : t170 = t158
                  · rw [if_pos c82] at H
                    have c82b0 : (t170 == t158) = true := beq_iff_eq.mpr c82
                    have c82b1 : (t170 != t158) = false := bne_eq_false_iff_eq.mpr c82
                    clear c82
                    have H' := Aside0.mk H
                    clear H
                    have hnb83 := NB172_148.out
                    have hnc83 := NB148_172.out
                    have hnb84 := NB172_160.out
                    have hnc84 := NB160_172.out
                    have hnb85 := NB172_165.out
                    have hnc85 := NB165_172.out
                    have hcz86_0 : w78.cell? ⟨gb172, 0, none⟩ = some (.slice Ao32 t166.length co32) := (blk_cell BK172.out 0).trans rfl
                    have hcz86_1 : w78.cell? ⟨gb172, 1, none⟩ = some (.int .i64 t169) := (blk_cell BK172.out 1).trans rfl
                    have hfz86_0 := blk_frozen BK172.out 0
                    have hfz86_1 := blk_frozen BK172.out 1
                    have hnb87 := NB160_148.out
                    have hnc87 := NB148_160.out
                    have hnb88 := NB160_165.out
                    have hnc88 := NB165_160.out
                    have hcz89_0 : w78.cell? ⟨gb160, 0, none⟩ = some (.slice Ao20 t154.length co20) := (blk_cell BK160.out 0).trans rfl
                    have hcz89_1 : w78.cell? ⟨gb160, 1, none⟩ = some (.int .i64 t157) := (blk_cell BK160.out 1).trans rfl
                    have hfz89_0 := blk_frozen BK160.out 0
                    have hfz89_1 := blk_frozen BK160.out 1
                    go_wp2_with (first | (go_at_call 12; (with_reducible refine (laws_eqTape.calls kj10 _ _ t166 t169 _ _ t154 t157 true _ ?side1 ?side2 ?side3 ?side4 A80.out).mono ?_); (case side1 => repeat (first | exact (Kd.R_reads' HO_173000.out).2.2 | (with_reducible refine Kd.C_alloc ?_ _) | (with_reducible refine Kd.C_drewN ?_ _) | (with_reducible refine Kd.C_drew ?_))); (case side2 => exact (Kd.R_reads' HO_173000.out).2.1); (case side3 => repeat (first | exact (Kd.R_reads' HO_161000.out).2.2 | (with_reducible refine Kd.C_alloc ?_ _) | (with_reducible refine Kd.C_drewN ?_ _) | (with_reducible refine Kd.C_drew ?_))); (case side4 => exact (Kd.R_reads' HO_161000.out).2.1); rintro e w90 ⟨rfl, hb⟩; have n0_ := Aside0.mk (Kd.R_below (by (with_reducible repeat (first | apply Kd.R_alloc | apply Kd.R_drewN | apply Kd.R_drew)); exact HO_161000.out) hb); have n1_ := Aside0.mk (Kd.R_below (by (with_reducible repeat (first | apply Kd.R_alloc | apply Kd.R_drewN | apply Kd.R_drew)); exact HO_166000.out) hb); have n2_ := Aside0.mk (Kd.R_below (by (with_reducible repeat (first | apply Kd.R_alloc | apply Kd.R_drewN | apply Kd.R_drew)); exact HO_173000.out) hb); have n3_ := Aside0.mk (Kd.R_below (by (with_reducible repeat (first | apply Kd.R_alloc | apply Kd.R_drewN | apply Kd.R_drew)); exact HO176.out) hb); have n4_ := Aside0.mk (blk_below (g := gb148) (o := .cells #[.slice A0_0 l0_0.length c0_0, .int .i64 a0_1] 24 (0, 0)) (by (with_reducible repeat (first | refine blk_drewN ?_ _ | refine blk_drew ?_ | refine blk_alloc ?_ _)); exact BK148.out) hb); have n5_ := Aside0.mk (blk_below (g := gb160) (o := .cells #[.slice Ao20 t154.length co20, .int .i64 t157] 27 (0, 0)) (by (with_reducible repeat (first | refine blk_drewN ?_ _ | refine blk_drew ?_ | refine blk_alloc ?_ _)); exact BK160.out) hb); have n6_ := Aside0.mk (blk_below (g := gb165) (o := .cells #[.slice Ao26 t161.length co26, .int .i64 t164] 27 (0, 0)) (by (with_reducible repeat (first | refine blk_drewN ?_ _ | refine blk_drew ?_ | refine blk_alloc ?_ _)); exact BK165.out) hb); have n7_ := Aside0.mk (blk_below (g := gb172) (o := .cells #[.slice Ao32 t166.length co32, .int .i64 t169] 27 (0, 0)) (by (with_reducible repeat (first | refine blk_drewN ?_ _ | refine blk_drew ?_ | refine blk_alloc ?_ _)); exact BK172.out) hb); have n8_ := Aside0.mk (below_step (by repeat (first | (with_reducible first | exact HB.out | apply below_alloc | apply pw_below_drewN | apply below_drew1 | refine below_set ?_ GE148.out | refine below_set ?_ GE160.out | refine below_set ?_ GE165.out | refine below_set ?_ GE172.out) | exact HB.out)) hb); clear HO_161000; clear HO_166000; clear HO_173000; clear HO176; clear BK148; clear BK160; clear BK165; clear BK172; clear HB; have HO_161000 := n0_; have HO_166000 := n1_; have HO_173000 := n2_; have HO176 := n3_; have BK148 := n4_; have BK160 := n5_; have BK165 := n6_; have BK172 := n7_; have HB := n8_; clear n0_ n1_ n2_ n3_ n4_ n5_ n6_ n7_ n8_; (try clear hb); (try clear hb2); (try clear hk); (try clear hi)))
                    go_meet
                    case rel => exact ⟨_, ((t171 != t159)), (by first | rfl | (simp; done) | (simp [*]; done)), H', ⟨by have := HJ10.out; first | omega | exact Nat.le_refl _⟩, ⟨by (with_reducible repeat (first | apply Kd.R_alloc | apply Kd.R_drewN | apply Kd.R_drew)); exact Kd.R_mono HO_161000.out (fun _ hk => ⟨hk.1, hk.2.1⟩)⟩, ⟨by (with_reducible repeat (first | apply Kd.R_alloc | apply Kd.R_drewN | apply Kd.R_drew)); exact Kd.R_mono HO_166000.out (fun _ hk => ⟨hk.1.1, hk.1.2⟩)⟩, ⟨by (with_reducible repeat (first | apply Kd.R_alloc | apply Kd.R_drewN | apply Kd.R_drew)); exact Kd.R_mono HO_173000.out (fun _ hk => ⟨hk.1, hk.2.1⟩)⟩, ⟨by (with_reducible repeat (first | refine blk_drewN ?_ _ | refine blk_drew ?_ | refine blk_alloc ?_ _)); exact BK148.out⟩, ⟨by (with_reducible repeat (first | refine blk_drewN ?_ _ | refine blk_drew ?_ | refine blk_alloc ?_ _)); exact BK160.out⟩, ⟨by (with_reducible repeat (first | refine blk_drewN ?_ _ | refine blk_drew ?_ | refine blk_alloc ?_ _)); exact BK165.out⟩, ⟨by (with_reducible repeat (first | refine blk_drewN ?_ _ | refine blk_drew ?_ | refine blk_alloc ?_ _)); exact BK172.out⟩, ⟨by repeat (first | (with_reducible first | exact HB.out | apply below_alloc | apply pw_below_drewN | apply below_drew1 | refine below_set ?_ GE148.out | refine below_set ?_ GE160.out | refine below_set ?_ GE165.out | refine below_set ?_ GE172.out) | exact HB.out)⟩⟩
                  · rw [if_neg c82] at H
                    have c82b0 : (t170 == t158) = false := beq_eq_false_iff_ne.mpr c82
                    have c82b1 : (t170 != t158) = true := bne_iff_ne.mpr c82
                    have H' := Aside0.mk H
                    clear H
                    have hnb91 := NB172_148.out
                    have hnc91 := NB148_172.out
                    have hnb92 := NB172_160.out
                    have hnc92 := NB160_172.out
                    have hnb93 := NB172_165.out
                    have hnc93 := NB165_172.out
                    have hcz94_0 : w78.cell? ⟨gb172, 0, none⟩ = some (.slice Ao32 t166.length co32) := (blk_cell BK172.out 0).trans rfl
                    have hcz94_1 : w78.cell? ⟨gb172, 1, none⟩ = some (.int .i64 t169) := (blk_cell BK172.out 1).trans rfl
                    have hfz94_0 := blk_frozen BK172.out 0
                    have hfz94_1 := blk_frozen BK172.out 1
                    have hnb95 := NB160_148.out
                    have hnc95 := NB148_160.out
                    have hnb96 := NB160_165.out
                    have hnc96 := NB165_160.out
                    have hcz97_0 : w78.cell? ⟨gb160, 0, none⟩ = some (.slice Ao20 t154.length co20) := (blk_cell BK160.out 0).trans rfl
                    have hcz97_1 : w78.cell? ⟨gb160, 1, none⟩ = some (.int .i64 t157) := (blk_cell BK160.out 1).trans rfl
                    have hfz97_0 := blk_frozen BK160.out 0
                    have hfz97_1 := blk_frozen BK160.out 1
                    go_wp2_with (first | (go_at_call 12; (with_reducible refine (laws_eqTape.calls kj10 _ _ t166 t169 _ _ t154 t157 true _ ?side1 ?side2 ?side3 ?side4 A80.out).mono ?_); (case side1 => repeat (first | exact (Kd.R_reads' HO_173000.out).2.2 | (with_reducible refine Kd.C_alloc ?_ _) | (with_reducible refine Kd.C_drewN ?_ _) | (with_reducible refine Kd.C_drew ?_))); (case side2 => exact (Kd.R_reads' HO_173000.out).2.1); (case side3 => repeat (first | exact (Kd.R_reads' HO_161000.out).2.2 | (with_reducible refine Kd.C_alloc ?_ _) | (with_reducible refine Kd.C_drewN ?_ _) | (with_reducible refine Kd.C_drew ?_))); (case side4 => exact (Kd.R_reads' HO_161000.out).2.1); rintro e w98 ⟨rfl, hb⟩; have n0_ := Aside0.mk (Kd.R_below (by (with_reducible repeat (first | apply Kd.R_alloc | apply Kd.R_drewN | apply Kd.R_drew)); exact HO_161000.out) hb); have n1_ := Aside0.mk (Kd.R_below (by (with_reducible repeat (first | apply Kd.R_alloc | apply Kd.R_drewN | apply Kd.R_drew)); exact HO_166000.out) hb); have n2_ := Aside0.mk (Kd.R_below (by (with_reducible repeat (first | apply Kd.R_alloc | apply Kd.R_drewN | apply Kd.R_drew)); exact HO_173000.out) hb); have n3_ := Aside0.mk (Kd.R_below (by (with_reducible repeat (first | apply Kd.R_alloc | apply Kd.R_drewN | apply Kd.R_drew)); exact HO176.out) hb); have n4_ := Aside0.mk (blk_below (g := gb148) (o := .cells #[.slice A0_0 l0_0.length c0_0, .int .i64 a0_1] 24 (0, 0)) (by (with_reducible repeat (first | refine blk_drewN ?_ _ | refine blk_drew ?_ | refine blk_alloc ?_ _)); exact BK148.out) hb); have n5_ := Aside0.mk (blk_below (g := gb160) (o := .cells #[.slice Ao20 t154.length co20, .int .i64 t157] 27 (0, 0)) (by (with_reducible repeat (first | refine blk_drewN ?_ _ | refine blk_drew ?_ | refine blk_alloc ?_ _)); exact BK160.out) hb); have n6_ := Aside0.mk (blk_below (g := gb165) (o := .cells #[.slice Ao26 t161.length co26, .int .i64 t164] 27 (0, 0)) (by (with_reducible repeat (first | refine blk_drewN ?_ _ | refine blk_drew ?_ | refine blk_alloc ?_ _)); exact BK165.out) hb); have n7_ := Aside0.mk (blk_below (g := gb172) (o := .cells #[.slice Ao32 t166.length co32, .int .i64 t169] 27 (0, 0)) (by (with_reducible repeat (first | refine blk_drewN ?_ _ | refine blk_drew ?_ | refine blk_alloc ?_ _)); exact BK172.out) hb); have n8_ := Aside0.mk (below_step (by repeat (first | (with_reducible first | exact HB.out | apply below_alloc | apply pw_below_drewN | apply below_drew1 | refine below_set ?_ GE148.out | refine below_set ?_ GE160.out | refine below_set ?_ GE165.out | refine below_set ?_ GE172.out) | exact HB.out)) hb); clear HO_161000; clear HO_166000; clear HO_173000; clear HO176; clear BK148; clear BK160; clear BK165; clear BK172; clear HB; have HO_161000 := n0_; have HO_166000 := n1_; have HO_173000 := n2_; have HO176 := n3_; have BK148 := n4_; have BK160 := n5_; have BK165 := n6_; have BK172 := n7_; have HB := n8_; clear n0_ n1_ n2_ n3_ n4_ n5_ n6_ n7_ n8_; (try clear hb); (try clear hb2); (try clear hk); (try clear hi)))
                    go_meet
                    case rel => exact ⟨_, (true), (by first | rfl | (simp; done) | (simp [*]; done)), H', ⟨by have := HJ10.out; first | omega | exact Nat.le_refl _⟩, ⟨by (with_reducible repeat (first | apply Kd.R_alloc | apply Kd.R_drewN | apply Kd.R_drew)); exact Kd.R_mono HO_161000.out (fun _ hk => ⟨hk.1, hk.2.1⟩)⟩, ⟨by (with_reducible repeat (first | apply Kd.R_alloc | apply Kd.R_drewN | apply Kd.R_drew)); exact Kd.R_mono HO_166000.out (fun _ hk => ⟨hk.1.1, hk.1.2⟩)⟩, ⟨by (with_reducible repeat (first | apply Kd.R_alloc | apply Kd.R_drewN | apply Kd.R_drew)); exact Kd.R_mono HO_173000.out (fun _ hk => ⟨hk.1, hk.2.1⟩)⟩, ⟨by (with_reducible repeat (first | refine blk_drewN ?_ _ | refine blk_drew ?_ | refine blk_alloc ?_ _)); exact BK148.out⟩, ⟨by (with_reducible repeat (first | refine blk_drewN ?_ _ | refine blk_drew ?_ | refine blk_alloc ?_ _)); exact BK160.out⟩, ⟨by (with_reducible repeat (first | refine blk_drewN ?_ _ | refine blk_drew ?_ | refine blk_alloc ?_ _)); exact BK165.out⟩, ⟨by (with_reducible repeat (first | refine blk_drewN ?_ _ | refine blk_drew ?_ | refine blk_alloc ?_ _)); exact BK172.out⟩, ⟨by repeat (first | (with_reducible first | exact HB.out | apply below_alloc | apply pw_below_drewN | apply below_drew1 | refine below_set ?_ GE148.out | refine below_set ?_ GE160.out | refine below_set ?_ GE165.out | refine below_set ?_ GE172.out) | exact HB.out)⟩⟩
                · replace c81 := Bool.eq_false_iff.mpr c81
                  subst c81
                  have H1 : (laws_FnExactTapeTake.j1 kj10 t158 t159 true l0_0 a0_1 t154 t157 t166 t169) = some r := by rw [if_neg (show ¬ (false = true) by decide)] at H; exact H
                  clear H
                  have H := H1
                  clear H1
                  have H' := Aside0.mk H
                  clear H
                  have hnb99 := NB172_148.out
                  have hnc99 := NB148_172.out
                  have hnb100 := NB172_160.out
                  have hnc100 := NB160_172.out
                  have hnb101 := NB172_165.out
                  have hnc101 := NB165_172.out
                  have hcz102_0 : w78.cell? ⟨gb172, 0, none⟩ = some (.slice Ao32 t166.length co32) := (blk_cell BK172.out 0).trans rfl
                  have hcz102_1 : w78.cell? ⟨gb172, 1, none⟩ = some (.int .i64 t169) := (blk_cell BK172.out 1).trans rfl
                  have hfz102_0 := blk_frozen BK172.out 0
                  have hfz102_1 := blk_frozen BK172.out 1
                  have hnb103 := NB160_148.out
                  have hnc103 := NB148_160.out
                  have hnb104 := NB160_165.out
                  have hnc104 := NB165_160.out
                  have hcz105_0 : w78.cell? ⟨gb160, 0, none⟩ = some (.slice Ao20 t154.length co20) := (blk_cell BK160.out 0).trans rfl
                  have hcz105_1 : w78.cell? ⟨gb160, 1, none⟩ = some (.int .i64 t157) := (blk_cell BK160.out 1).trans rfl
                  have hfz105_0 := blk_frozen BK160.out 0
                  have hfz105_1 := blk_frozen BK160.out 1
                  go_wp2_with (first | (go_at_call 12; (with_reducible refine (laws_eqTape.calls kj10 _ _ t166 t169 _ _ t154 t157 false _ ?side1 ?side2 ?side3 ?side4 A80.out).mono ?_); (case side1 => repeat (first | exact (Kd.R_reads' HO_173000.out).2.2 | (with_reducible refine Kd.C_alloc ?_ _) | (with_reducible refine Kd.C_drewN ?_ _) | (with_reducible refine Kd.C_drew ?_))); (case side2 => exact (Kd.R_reads' HO_173000.out).2.1); (case side3 => repeat (first | exact (Kd.R_reads' HO_161000.out).2.2 | (with_reducible refine Kd.C_alloc ?_ _) | (with_reducible refine Kd.C_drewN ?_ _) | (with_reducible refine Kd.C_drew ?_))); (case side4 => exact (Kd.R_reads' HO_161000.out).2.1); rintro e w106 ⟨rfl, hb⟩; have n0_ := Aside0.mk (Kd.R_below (by (with_reducible repeat (first | apply Kd.R_alloc | apply Kd.R_drewN | apply Kd.R_drew)); exact HO_161000.out) hb); have n1_ := Aside0.mk (Kd.R_below (by (with_reducible repeat (first | apply Kd.R_alloc | apply Kd.R_drewN | apply Kd.R_drew)); exact HO_166000.out) hb); have n2_ := Aside0.mk (Kd.R_below (by (with_reducible repeat (first | apply Kd.R_alloc | apply Kd.R_drewN | apply Kd.R_drew)); exact HO_173000.out) hb); have n3_ := Aside0.mk (Kd.R_below (by (with_reducible repeat (first | apply Kd.R_alloc | apply Kd.R_drewN | apply Kd.R_drew)); exact HO176.out) hb); have n4_ := Aside0.mk (blk_below (g := gb148) (o := .cells #[.slice A0_0 l0_0.length c0_0, .int .i64 a0_1] 24 (0, 0)) (by (with_reducible repeat (first | refine blk_drewN ?_ _ | refine blk_drew ?_ | refine blk_alloc ?_ _)); exact BK148.out) hb); have n5_ := Aside0.mk (blk_below (g := gb160) (o := .cells #[.slice Ao20 t154.length co20, .int .i64 t157] 27 (0, 0)) (by (with_reducible repeat (first | refine blk_drewN ?_ _ | refine blk_drew ?_ | refine blk_alloc ?_ _)); exact BK160.out) hb); have n6_ := Aside0.mk (blk_below (g := gb165) (o := .cells #[.slice Ao26 t161.length co26, .int .i64 t164] 27 (0, 0)) (by (with_reducible repeat (first | refine blk_drewN ?_ _ | refine blk_drew ?_ | refine blk_alloc ?_ _)); exact BK165.out) hb); have n7_ := Aside0.mk (blk_below (g := gb172) (o := .cells #[.slice Ao32 t166.length co32, .int .i64 t169] 27 (0, 0)) (by (with_reducible repeat (first | refine blk_drewN ?_ _ | refine blk_drew ?_ | refine blk_alloc ?_ _)); exact BK172.out) hb); have n8_ := Aside0.mk (below_step (by repeat (first | (with_reducible first | exact HB.out | apply below_alloc | apply pw_below_drewN | apply below_drew1 | refine below_set ?_ GE148.out | refine below_set ?_ GE160.out | refine below_set ?_ GE165.out | refine below_set ?_ GE172.out) | exact HB.out)) hb); clear HO_161000; clear HO_166000; clear HO_173000; clear HO176; clear BK148; clear BK160; clear BK165; clear BK172; clear HB; have HO_161000 := n0_; have HO_166000 := n1_; have HO_173000 := n2_; have HO176 := n3_; have BK148 := n4_; have BK160 := n5_; have BK165 := n6_; have BK172 := n7_; have HB := n8_; clear n0_ n1_ n2_ n3_ n4_ n5_ n6_ n7_ n8_; (try clear hb); (try clear hb2); (try clear hk); (try clear hi)))
                  go_meet
                  case rel => exact ⟨_, (true), (by first | rfl | (simp; done) | (simp [*]; done)), H', ⟨by have := HJ10.out; first | omega | exact Nat.le_refl _⟩, ⟨by (with_reducible repeat (first | apply Kd.R_alloc | apply Kd.R_drewN | apply Kd.R_drew)); exact Kd.R_mono HO_161000.out (fun _ hk => ⟨hk.1, hk.2.1⟩)⟩, ⟨by (with_reducible repeat (first | apply Kd.R_alloc | apply Kd.R_drewN | apply Kd.R_drew)); exact Kd.R_mono HO_166000.out (fun _ hk => ⟨hk.1.1, hk.1.2⟩)⟩, ⟨by (with_reducible repeat (first | apply Kd.R_alloc | apply Kd.R_drewN | apply Kd.R_drew)); exact Kd.R_mono HO_173000.out (fun _ hk => ⟨hk.1, hk.2.1⟩)⟩, ⟨by (with_reducible repeat (first | refine blk_drewN ?_ _ | refine blk_drew ?_ | refine blk_alloc ?_ _)); exact BK148.out⟩, ⟨by (with_reducible repeat (first | refine blk_drewN ?_ _ | refine blk_drew ?_ | refine blk_alloc ?_ _)); exact BK160.out⟩, ⟨by (with_reducible repeat (first | refine blk_drewN ?_ _ | refine blk_drew ?_ | refine blk_alloc ?_ _)); exact BK165.out⟩, ⟨by (with_reducible repeat (first | refine blk_drewN ?_ _ | refine blk_drew ?_ | refine blk_alloc ?_ _)); exact BK172.out⟩, ⟨by repeat (first | (with_reducible first | exact HB.out | apply below_alloc | apply pw_below_drewN | apply below_drew1 | refine below_set ?_ GE148.out | refine below_set ?_ GE160.out | refine below_set ?_ GE165.out | refine below_set ?_ GE172.out) | exact HB.out)⟩⟩
            case rest =>
              clear HC69
              try clear c1
              try clear c2
              try clear p2
              try clear c3
              try clear c3b0
              try clear c4
              try clear c5
              try clear c6
              try clear c7
              try clear c8
              try clear c9
              try clear c10
              try clear c12
              try clear c15
              try clear c16
              try clear c17
              try clear c21
              try clear c27
              try clear c28
              try clear c33
              try clear c34
              try clear c35
              try clear c38
              try clear c39
              try clear c39b0
              try clear c39b1
              try clear c40
              try clear c41
              try clear c42
              try clear c44
              try clear c45
              try clear c48
              try clear c49
              try clear c50
              try clear c52
              try clear c53
              try clear c56
              try clear c57
              try clear c58
              try clear c60
              try clear c61
              try clear c64
              try clear c67
              try clear c74
              try clear c75
              try clear c76
              try clear c79
              try clear c79b0
              try clear c81
              try clear c82
              try clear c82b0
              try clear c82b1
              try clear c83
              try clear c84
              try clear c85
              try clear c87
              try clear c88
              try clear c91
              try clear c92
              try clear c93
              try clear c95
              try clear c96
              try clear c99
              try clear c100
              try clear c101
              try clear c103
              try clear c104
              try clear hcz102_0
              try clear hcz102_1
              try clear hcz105_0
              try clear hcz105_1
              try clear hcz13_0
              try clear hcz13_1
              try clear hcz15_0
              try clear hcz15_1
              try clear hcz22_0
              try clear hcz22_1
              try clear hcz23_0
              try clear hcz23_1
              try clear hcz29_0
              try clear hcz29_1
              try clear hcz36_0
              try clear hcz36_1
              try clear hcz43_0
              try clear hcz43_1
              try clear hcz46_0
              try clear hcz46_1
              try clear hcz51_0
              try clear hcz51_1
              try clear hcz54_0
              try clear hcz54_1
              try clear hcz59_0
              try clear hcz59_1
              try clear hcz5_0
              try clear hcz5_1
              try clear hcz62_0
              try clear hcz62_1
              try clear hcz77_0
              try clear hcz77_1
              try clear hcz86_0
              try clear hcz86_1
              try clear hcz89_0
              try clear hcz89_1
              try clear hcz94_0
              try clear hcz94_1
              try clear hcz97_0
              try clear hcz97_1
              try clear hfz102_0
              try clear hfz102_1
              try clear hfz105_0
              try clear hfz105_1
              try clear hfz13_0
              try clear hfz13_1
              try clear hfz15_0
              try clear hfz15_1
              try clear hfz22_0
              try clear hfz22_1
              try clear hfz23_0
              try clear hfz23_1
              try clear hfz29_0
              try clear hfz29_1
              try clear hfz36_0
              try clear hfz36_1
              try clear hfz43_0
              try clear hfz43_1
              try clear hfz46_0
              try clear hfz46_1
              try clear hfz51_0
              try clear hfz51_1
              try clear hfz54_0
              try clear hfz54_1
              try clear hfz59_0
              try clear hfz59_1
              try clear hfz5_0
              try clear hfz5_1
              try clear hfz62_0
              try clear hfz62_1
              try clear hfz77_0
              try clear hfz77_1
              try clear hfz86_0
              try clear hfz86_1
              try clear hfz89_0
              try clear hfz89_1
              try clear hfz94_0
              try clear hfz94_1
              try clear hfz97_0
              try clear hfz97_1
              try clear p2
              obtain ⟨kq, x76_68, rfl, HA, HJ68, HO_161000, HO_166000, HO_173000, BK148, BK160, BK165, BK172, HB⟩ := hcut
              have hl166000_68 := (Kd.R_reads' HO_166000.out).1
              rw [hl166000_68] at HO_166000
              (try simp only [hl166000_68])
              (try simp only [hl166000_68] at BK148)
              (try simp only [hl166000_68] at BK160)
              (try simp only [hl166000_68] at BK165)
              (try simp only [hl166000_68] at BK172)
              (try simp only [hl166000_68] at HO_161000)
              (try simp only [hl166000_68] at HO_173000)
              cases kq with
              | zero => exact absurd HA.out (by simp [laws_FnExactTapeTake.j1])
              | succ kj68 =>
                have H := HA.out
                clear HA
                simp only [laws_FnExactTapeTake.j1] at H
                by_cases c107 : x76_68 = true
                · subst c107
                  have H1 : (some false) = some r := by rw [if_pos rfl] at H; exact H
                  clear H
                  have H := H1
                  clear H1
                  obtain rfl := Option.some.inj H
                  go_wp2
                  go_ret
                  exact ⟨by first | rfl | (simp [errW_none, errW_some] <;> rfl) | (simp [*, errW_none, errW_some] <;> rfl), by repeat (first | (with_reducible first | exact HB.out | apply below_alloc | apply pw_below_drewN | apply below_drew1 | refine below_set ?_ GE148.out | refine below_set ?_ GE160.out | refine below_set ?_ GE165.out | refine below_set ?_ GE172.out) | exact HB.out)⟩
                · replace c107 := Bool.eq_false_iff.mpr c107
                  subst c107
                  have H1 : ((laws_markTape.f kj68 t166 t169 1).bind fun bt182 => ((laws_heldTape.f kj68 bt182.2 t169 1).bind fun t184 => (if t184 < 0 then (some false) else (if t184 = bt182.1 then ((laws_toTape.f kj68 l0_0 a0_1).bind fun bt185 => ((impl_TapeTake.f bt185.1 bt185.2).bind fun bt189 => ((laws_eqTape.f kj68 bt189.1 bt189.2.1 t154 t157).bind fun t196 => (if t196 = true then (if bt189.2.2.1 = t158 then (laws_FnExactTapeTake.j2 kj68 bt182.1 (bt189.2.2.2 != t159) bt182.2 t169) else (laws_FnExactTapeTake.j2 kj68 bt182.1 true bt182.2 t169)) else (laws_FnExactTapeTake.j2 kj68 bt182.1 true bt182.2 t169))))) else (some false))))) = some r := by rw [if_neg (show ¬ (false = true) by decide)] at H; exact H
                  clear H
                  have H := H1
                  clear H1
                  replace H := Option.bind_eq_some_iff.mp H
                  obtain ⟨⟨t182, t183⟩, A1080, H⟩ := H
                  replace H : ((laws_heldTape.f kj68 t183 t169 1).bind fun t184 => (if t184 < 0 then (some false) else (if t184 = t182 then ((laws_toTape.f kj68 l0_0 a0_1).bind fun bt185 => ((impl_TapeTake.f bt185.1 bt185.2).bind fun bt189 => ((laws_eqTape.f kj68 bt189.1 bt189.2.1 t154 t157).bind fun t196 => (if t196 = true then (if bt189.2.2.1 = t158 then (laws_FnExactTapeTake.j2 kj68 t182 (bt189.2.2.2 != t159) t183 t169) else (laws_FnExactTapeTake.j2 kj68 t182 true t183 t169)) else (laws_FnExactTapeTake.j2 kj68 t182 true t183 t169))))) else (some false)))) = some r := H
                  have A108 := Aside0.mk A1080
                  clear A1080
                  replace H := Option.bind_eq_some_iff.mp H
                  obtain ⟨t184, A1090, H⟩ := H
                  replace H : (if t184 < 0 then (some false) else (if t184 = t182 then ((laws_toTape.f kj68 l0_0 a0_1).bind fun bt185 => ((impl_TapeTake.f bt185.1 bt185.2).bind fun bt189 => ((laws_eqTape.f kj68 bt189.1 bt189.2.1 t154 t157).bind fun t196 => (if t196 = true then (if bt189.2.2.1 = t158 then (laws_FnExactTapeTake.j2 kj68 t182 (bt189.2.2.2 != t159) t183 t169) else (laws_FnExactTapeTake.j2 kj68 t182 true t183 t169)) else (laws_FnExactTapeTake.j2 kj68 t182 true t183 t169))))) else (some false))) = some r := H
                  have A109 := Aside0.mk A1090
                  clear A1090
                  by_cases c110 : t184 < 0
                  · rw [if_pos c110] at H
                    have c110b0 : decide (t184 < 0) = true := decide_eq_true c110
                    clear c110
                    obtain rfl := Option.some.inj H
                    have hnb111 := NB172_148.out
                    have hnc111 := NB148_172.out
                    have hnb112 := NB172_160.out
                    have hnc112 := NB160_172.out
                    have hnb113 := NB172_165.out
                    have hnc113 := NB165_172.out
                    have hcz114_0 : wc.cell? ⟨gb172, 0, none⟩ = some (.slice Ao32 t166.length co32) := (blk_cell BK172.out 0).trans rfl
                    have hcz114_1 : wc.cell? ⟨gb172, 1, none⟩ = some (.int .i64 t169) := (blk_cell BK172.out 1).trans rfl
                    have hfz114_0 := blk_frozen BK172.out 0
                    have hfz114_1 := blk_frozen BK172.out 1
                    go_wp2_with (first | ((with_reducible refine gate_callee (f := 17) rfl ?_); refine goesL_ (some 79) rfl rfl Try.func17 (by kernel_rfl) rfl #[.agg #[.slice Ao32 t166.length co32, .int .i64 t169], .int .i64 1] rfl (by (try simp only [List.map_toArray, List.map_cons, List.map_nil]); first | done | rfl | (simp only [List.length_drop, List.length_take]; rfl)) ?_; (with_reducible refine (laws_markTape.calls kj68 (fun k_ => some k_ = (.slice Ao32 t166.length co32 : Value).ownBlock) (.slice Ao32 t166.length co32) t166 t169 1 t182 t183 w _ ?side1 ?side2 A108.out).mono ?_); (case side1 => repeat (first | (with_reducible first | exact HB.out | apply below_alloc | apply pw_below_drewN | apply below_drew1 | refine below_set ?_ GE148.out | refine below_set ?_ GE160.out | refine below_set ?_ GE165.out | refine below_set ?_ GE172.out) | exact HB.out)); (case side2 => exact Kd.R_tight rfl HO_173000.out); rintro e w115 ⟨rfl, hy0, hb, hkp⟩; refine ⟨_, rfl, ?_⟩; have n0_ := Aside0.mk (Kd.R_mono (ok' := fun k_ => some k_ ≠ (.slice Ao26 t180.length co26 : Value).ownBlock ∧ some k_ ≠ (.slice Ao32 t166.length co32 : Value).ownBlock) (Kd.R_keptB (HO_161000.out) hkp (fun k_ hk_ hs_ => (hk_.2) hs_)) (fun k_ hk_ => ⟨hk_.1.1, hk_.1.2⟩)); have n1_ := Aside0.mk (Kd.R_mono (ok' := fun k_ => some k_ ≠ (.slice Ao20 t154.length co20 : Value).ownBlock ∧ some k_ ≠ (.slice Ao32 t166.length co32 : Value).ownBlock) (Kd.R_keptB (HO_166000.out) hkp (fun k_ hk_ hs_ => (hk_.2) hs_)) (fun k_ hk_ => ⟨hk_.1.1, hk_.1.2⟩)); have n2_ := Aside0.mk (Kd.R_reok rfl hy0 (fun k_ e_ => HO_173000.out.1 k_ e_)); have n3_ := Aside0.mk (blk_kept (by (with_reducible repeat (first | refine blk_drewN ?_ _ | refine blk_drew ?_ | refine blk_alloc ?_ _)); exact BK148.out) hkp (fun hs_ => (fun e_ => (Kd.R_ne HO_173000.out BK148.out (by decide)) e_) hs_)); have n4_ := Aside0.mk (blk_kept (by (with_reducible repeat (first | refine blk_drewN ?_ _ | refine blk_drew ?_ | refine blk_alloc ?_ _)); exact BK160.out) hkp (fun hs_ => (fun e_ => (Kd.R_ne HO_173000.out BK160.out (by decide)) e_) hs_)); have n5_ := Aside0.mk (blk_kept (by (with_reducible repeat (first | refine blk_drewN ?_ _ | refine blk_drew ?_ | refine blk_alloc ?_ _)); exact BK165.out) hkp (fun hs_ => (fun e_ => (Kd.R_ne HO_173000.out BK165.out (by decide)) e_) hs_)); have n6_ := Aside0.mk (blk_kept (by (with_reducible repeat (first | refine blk_drewN ?_ _ | refine blk_drew ?_ | refine blk_alloc ?_ _)); exact BK172.out) hkp (fun hs_ => (fun e_ => (Kd.R_ne HO_173000.out BK172.out (by decide)) e_) hs_)); have n7_ := Aside0.mk (hb); clear HO_161000; clear HO_166000; clear HO_173000; clear BK148; clear BK160; clear BK165; clear BK172; clear HB; have HO_161000 := n0_; have HO_166000 := n1_; have HO_173000 := n2_; have BK148 := n3_; have BK160 := n4_; have BK165 := n5_; have BK172 := n6_; have HB := n7_; clear n0_ n1_ n2_ n3_ n4_ n5_ n6_ n7_; (try clear hb); (try clear hkp); (try clear hy0); have hcz116_0 : w115.cell? ⟨gb172, 0, none⟩ = some (.slice Ao32 t166.length co32) := (blk_cell BK172.out 0).trans rfl; have hcz116_1 : w115.cell? ⟨gb172, 1, none⟩ = some (.int .i64 t169) := (blk_cell BK172.out 1).trans rfl; have hfz116_0 := blk_frozen BK172.out 0; have hfz116_1 := blk_frozen BK172.out 1) | ((with_reducible refine gate_callee (f := 18) rfl ?_); refine goesL_ (some 82) rfl rfl Try.func18 (by kernel_rfl) rfl #[.agg #[.slice Ao32 t183.length co32, .int .i64 t169], .int .i64 1] rfl (by (try simp only [List.map_toArray, List.map_cons, List.map_nil]); first | done | (rw [show t183.length = t166.length from (Kd.R_reads' HO_173000.out).1.symm] <;> rfl) | rfl | (simp only [List.length_drop, List.length_take]; rfl)) ?_; (with_reducible refine (laws_heldTape.calls kj68 _ _ t183 t169 1 t184 _ ?side1 ?side2 A109.out).mono ?_); (case side1 => repeat (first | exact (Kd.R_reads' HO_173000.out).2.2 | (with_reducible refine Kd.C_alloc ?_ _) | (with_reducible refine Kd.C_drewN ?_ _) | (with_reducible refine Kd.C_drew ?_))); (case side2 => rw [show t183.length = t166.length from (Kd.R_reads' HO_173000.out).1.symm]; exact (Kd.R_reads' HO_173000.out).2.1); rintro e w117 ⟨rfl, hb⟩; refine ⟨_, rfl, ?_⟩; have n0_ := Aside0.mk (Kd.R_below (by (with_reducible repeat (first | apply Kd.R_alloc | apply Kd.R_drewN | apply Kd.R_drew)); exact HO_161000.out) hb); have n1_ := Aside0.mk (Kd.R_below (by (with_reducible repeat (first | apply Kd.R_alloc | apply Kd.R_drewN | apply Kd.R_drew)); exact HO_166000.out) hb); have n2_ := Aside0.mk (Kd.R_below (by (with_reducible repeat (first | apply Kd.R_alloc | apply Kd.R_drewN | apply Kd.R_drew)); exact HO_173000.out) hb); have n3_ := Aside0.mk (blk_below (g := gb148) (o := .cells #[.slice A0_0 l0_0.length c0_0, .int .i64 a0_1] 24 (0, 0)) (by (with_reducible repeat (first | refine blk_drewN ?_ _ | refine blk_drew ?_ | refine blk_alloc ?_ _)); exact BK148.out) hb); have n4_ := Aside0.mk (blk_below (g := gb160) (o := .cells #[.slice Ao20 t154.length co20, .int .i64 t157] 27 (0, 0)) (by (with_reducible repeat (first | refine blk_drewN ?_ _ | refine blk_drew ?_ | refine blk_alloc ?_ _)); exact BK160.out) hb); have n5_ := Aside0.mk (blk_below (g := gb165) (o := .cells #[.slice Ao26 t180.length co26, .int .i64 t164] 27 (0, 0)) (by (with_reducible repeat (first | refine blk_drewN ?_ _ | refine blk_drew ?_ | refine blk_alloc ?_ _)); exact BK165.out) hb); have n6_ := Aside0.mk (blk_below (g := gb172) (o := .cells #[.slice Ao32 t166.length co32, .int .i64 t169] 27 (0, 0)) (by (with_reducible repeat (first | refine blk_drewN ?_ _ | refine blk_drew ?_ | refine blk_alloc ?_ _)); exact BK172.out) hb); have n7_ := Aside0.mk (below_step (by repeat (first | (with_reducible first | exact HB.out | apply below_alloc | apply pw_below_drewN | apply below_drew1 | refine below_set ?_ GE148.out | refine below_set ?_ GE160.out | refine below_set ?_ GE165.out | refine below_set ?_ GE172.out) | exact HB.out)) hb); clear HO_161000; clear HO_166000; clear HO_173000; clear BK148; clear BK160; clear BK165; clear BK172; clear HB; have HO_161000 := n0_; have HO_166000 := n1_; have HO_173000 := n2_; have BK148 := n3_; have BK160 := n4_; have BK165 := n5_; have BK172 := n6_; have HB := n7_; clear n0_ n1_ n2_ n3_ n4_ n5_ n6_ n7_; (try clear hb); (try clear hb2); (try clear hk); (try clear hi)))
                    go_ret
                    exact ⟨by first | rfl | (simp [errW_none, errW_some] <;> rfl) | (simp [*, errW_none, errW_some] <;> rfl), by repeat (first | (with_reducible first | exact HB.out | apply below_alloc | apply pw_below_drewN | apply below_drew1 | refine below_set ?_ GE148.out | refine below_set ?_ GE160.out | refine below_set ?_ GE165.out | refine below_set ?_ GE172.out) | exact HB.out)⟩
                  · rw [if_neg c110] at H
                    have c110b0 : decide (t184 < 0) = false := decide_eq_false c110
                    clear c110
                    by_cases c118 : t184 = t182
                    · rw [if_pos c118] at H
                      have c118b0 : (t184 == t182) = true := beq_iff_eq.mpr c118
                      have c118b1 : (t184 != t182) = false := bne_eq_false_iff_eq.mpr c118
                      clear c118
                      replace H := Option.bind_eq_some_iff.mp H
                      obtain ⟨⟨t185, t188⟩, A1190, H⟩ := H
                      replace H : ((impl_TapeTake.f t185 t188).bind fun bt189 => ((laws_eqTape.f kj68 bt189.1 bt189.2.1 t154 t157).bind fun t196 => (if t196 = true then (if bt189.2.2.1 = t158 then (laws_FnExactTapeTake.j2 kj68 t182 (bt189.2.2.2 != t159) t183 t169) else (laws_FnExactTapeTake.j2 kj68 t182 true t183 t169)) else (laws_FnExactTapeTake.j2 kj68 t182 true t183 t169)))) = some r := H
                      have A119 := Aside0.mk A1190
                      clear A1190
                      replace H := Option.bind_eq_some_iff.mp H
                      obtain ⟨⟨t189, t192, t193, t194⟩, A1200, H⟩ := H
                      replace H : ((laws_eqTape.f kj68 t189 t192 t154 t157).bind fun t196 => (if t196 = true then (if t193 = t158 then (laws_FnExactTapeTake.j2 kj68 t182 (t194 != t159) t183 t169) else (laws_FnExactTapeTake.j2 kj68 t182 true t183 t169)) else (laws_FnExactTapeTake.j2 kj68 t182 true t183 t169))) = some r := H
                      have A120 := Aside0.mk A1200
                      clear A1200
                      have HC121 := Aside0.mk H
                      clear H
                      have hnb122 := NB172_148.out
                      have hnc122 := NB148_172.out
                      have hnb123 := NB172_160.out
                      have hnc123 := NB160_172.out
                      have hnb124 := NB172_165.out
                      have hnc124 := NB165_172.out
                      have hcz125_0 : wc.cell? ⟨gb172, 0, none⟩ = some (.slice Ao32 t166.length co32) := (blk_cell BK172.out 0).trans rfl
                      have hcz125_1 : wc.cell? ⟨gb172, 1, none⟩ = some (.int .i64 t169) := (blk_cell BK172.out 1).trans rfl
                      have hfz125_0 := blk_frozen BK172.out 0
                      have hfz125_1 := blk_frozen BK172.out 1
                      go_upto_region 25 with (first | ((with_reducible refine gate_callee (f := 17) rfl ?_); refine goesL_ (some 79) rfl rfl Try.func17 (by kernel_rfl) rfl #[.agg #[.slice Ao32 t166.length co32, .int .i64 t169], .int .i64 1] rfl (by (try simp only [List.map_toArray, List.map_cons, List.map_nil]); first | done | rfl | (simp only [List.length_drop, List.length_take]; rfl)) ?_; (with_reducible refine (laws_markTape.calls kj68 (fun k_ => some k_ = (.slice Ao32 t166.length co32 : Value).ownBlock) (.slice Ao32 t166.length co32) t166 t169 1 t182 t183 w _ ?side1 ?side2 A108.out).mono ?_); (case side1 => repeat (first | (with_reducible first | exact HB.out | apply below_alloc | apply pw_below_drewN | apply below_drew1 | refine below_set ?_ GE148.out | refine below_set ?_ GE160.out | refine below_set ?_ GE165.out | refine below_set ?_ GE172.out) | exact HB.out)); (case side2 => exact Kd.R_tight rfl HO_173000.out); rintro e w126 ⟨rfl, hy0, hb, hkp⟩; refine ⟨_, rfl, ?_⟩; have n0_ := Aside0.mk (Kd.R_mono (ok' := fun k_ => some k_ ≠ (.slice Ao26 t180.length co26 : Value).ownBlock ∧ some k_ ≠ (.slice Ao32 t166.length co32 : Value).ownBlock) (Kd.R_keptB (HO_161000.out) hkp (fun k_ hk_ hs_ => (hk_.2) hs_)) (fun k_ hk_ => ⟨hk_.1.1, hk_.1.2⟩)); have n1_ := Aside0.mk (Kd.R_mono (ok' := fun k_ => some k_ ≠ (.slice Ao20 t154.length co20 : Value).ownBlock ∧ some k_ ≠ (.slice Ao32 t166.length co32 : Value).ownBlock) (Kd.R_keptB (HO_166000.out) hkp (fun k_ hk_ hs_ => (hk_.2) hs_)) (fun k_ hk_ => ⟨hk_.1.1, hk_.1.2⟩)); have n2_ := Aside0.mk (Kd.R_reok rfl hy0 (fun k_ e_ => HO_173000.out.1 k_ e_)); have n3_ := Aside0.mk (blk_kept (by (with_reducible repeat (first | refine blk_drewN ?_ _ | refine blk_drew ?_ | refine blk_alloc ?_ _)); exact BK148.out) hkp (fun hs_ => (fun e_ => (Kd.R_ne HO_173000.out BK148.out (by decide)) e_) hs_)); have n4_ := Aside0.mk (blk_kept (by (with_reducible repeat (first | refine blk_drewN ?_ _ | refine blk_drew ?_ | refine blk_alloc ?_ _)); exact BK160.out) hkp (fun hs_ => (fun e_ => (Kd.R_ne HO_173000.out BK160.out (by decide)) e_) hs_)); have n5_ := Aside0.mk (blk_kept (by (with_reducible repeat (first | refine blk_drewN ?_ _ | refine blk_drew ?_ | refine blk_alloc ?_ _)); exact BK165.out) hkp (fun hs_ => (fun e_ => (Kd.R_ne HO_173000.out BK165.out (by decide)) e_) hs_)); have n6_ := Aside0.mk (blk_kept (by (with_reducible repeat (first | refine blk_drewN ?_ _ | refine blk_drew ?_ | refine blk_alloc ?_ _)); exact BK172.out) hkp (fun hs_ => (fun e_ => (Kd.R_ne HO_173000.out BK172.out (by decide)) e_) hs_)); have n7_ := Aside0.mk (hb); clear HO_161000; clear HO_166000; clear HO_173000; clear BK148; clear BK160; clear BK165; clear BK172; clear HB; have HO_161000 := n0_; have HO_166000 := n1_; have HO_173000 := n2_; have BK148 := n3_; have BK160 := n4_; have BK165 := n5_; have BK172 := n6_; have HB := n7_; clear n0_ n1_ n2_ n3_ n4_ n5_ n6_ n7_; (try clear hb); (try clear hkp); (try clear hy0); have hcz127_0 : w126.cell? ⟨gb172, 0, none⟩ = some (.slice Ao32 t166.length co32) := (blk_cell BK172.out 0).trans rfl; have hcz127_1 : w126.cell? ⟨gb172, 1, none⟩ = some (.int .i64 t169) := (blk_cell BK172.out 1).trans rfl; have hfz127_0 := blk_frozen BK172.out 0; have hfz127_1 := blk_frozen BK172.out 1) | ((with_reducible refine gate_callee (f := 18) rfl ?_); refine goesL_ (some 82) rfl rfl Try.func18 (by kernel_rfl) rfl #[.agg #[.slice Ao32 t183.length co32, .int .i64 t169], .int .i64 1] rfl (by (try simp only [List.map_toArray, List.map_cons, List.map_nil]); first | done | (rw [show t183.length = t166.length from (Kd.R_reads' HO_173000.out).1.symm] <;> rfl) | rfl | (simp only [List.length_drop, List.length_take]; rfl)) ?_; (with_reducible refine (laws_heldTape.calls kj68 _ _ t183 t169 1 t184 _ ?side1 ?side2 A109.out).mono ?_); (case side1 => repeat (first | exact (Kd.R_reads' HO_173000.out).2.2 | (with_reducible refine Kd.C_alloc ?_ _) | (with_reducible refine Kd.C_drewN ?_ _) | (with_reducible refine Kd.C_drew ?_))); (case side2 => rw [show t183.length = t166.length from (Kd.R_reads' HO_173000.out).1.symm]; exact (Kd.R_reads' HO_173000.out).2.1); rintro e w128 ⟨rfl, hb⟩; refine ⟨_, rfl, ?_⟩; have n0_ := Aside0.mk (Kd.R_below (by (with_reducible repeat (first | apply Kd.R_alloc | apply Kd.R_drewN | apply Kd.R_drew)); exact HO_161000.out) hb); have n1_ := Aside0.mk (Kd.R_below (by (with_reducible repeat (first | apply Kd.R_alloc | apply Kd.R_drewN | apply Kd.R_drew)); exact HO_166000.out) hb); have n2_ := Aside0.mk (Kd.R_below (by (with_reducible repeat (first | apply Kd.R_alloc | apply Kd.R_drewN | apply Kd.R_drew)); exact HO_173000.out) hb); have n3_ := Aside0.mk (blk_below (g := gb148) (o := .cells #[.slice A0_0 l0_0.length c0_0, .int .i64 a0_1] 24 (0, 0)) (by (with_reducible repeat (first | refine blk_drewN ?_ _ | refine blk_drew ?_ | refine blk_alloc ?_ _)); exact BK148.out) hb); have n4_ := Aside0.mk (blk_below (g := gb160) (o := .cells #[.slice Ao20 t154.length co20, .int .i64 t157] 27 (0, 0)) (by (with_reducible repeat (first | refine blk_drewN ?_ _ | refine blk_drew ?_ | refine blk_alloc ?_ _)); exact BK160.out) hb); have n5_ := Aside0.mk (blk_below (g := gb165) (o := .cells #[.slice Ao26 t180.length co26, .int .i64 t164] 27 (0, 0)) (by (with_reducible repeat (first | refine blk_drewN ?_ _ | refine blk_drew ?_ | refine blk_alloc ?_ _)); exact BK165.out) hb); have n6_ := Aside0.mk (blk_below (g := gb172) (o := .cells #[.slice Ao32 t166.length co32, .int .i64 t169] 27 (0, 0)) (by (with_reducible repeat (first | refine blk_drewN ?_ _ | refine blk_drew ?_ | refine blk_alloc ?_ _)); exact BK172.out) hb); have n7_ := Aside0.mk (below_step (by repeat (first | (with_reducible first | exact HB.out | apply below_alloc | apply pw_below_drewN | apply below_drew1 | refine below_set ?_ GE148.out | refine below_set ?_ GE160.out | refine below_set ?_ GE165.out | refine below_set ?_ GE172.out) | exact HB.out)) hb); clear HO_161000; clear HO_166000; clear HO_173000; clear BK148; clear BK160; clear BK165; clear BK172; clear HB; have HO_161000 := n0_; have HO_166000 := n1_; have HO_173000 := n2_; have BK148 := n3_; have BK160 := n4_; have BK165 := n5_; have BK172 := n6_; have HB := n7_; clear n0_ n1_ n2_ n3_ n4_ n5_ n6_ n7_; (try clear hb); (try clear hb2); (try clear hk); (try clear hi); have hnb129 := NB148_160.out; have hnc129 := NB160_148.out; have hnb130 := NB148_165.out; have hnc130 := NB165_148.out; have hcz131_0 : w128.cell? ⟨gb148, 0, none⟩ = some (.slice A0_0 l0_0.length c0_0) := (blk_cell BK148.out 0).trans rfl; have hcz131_1 : w128.cell? ⟨gb148, 1, none⟩ = some (.int .i64 a0_1) := (blk_cell BK148.out 1).trans rfl; have hfz131_0 := blk_frozen BK148.out 0; have hfz131_1 := blk_frozen BK148.out 1) | ((with_reducible refine gate_callee (f := 10) rfl ?_); refine goesL_ (some 90) rfl rfl Try.func10 (by kernel_rfl) rfl #[.agg #[.slice A0_0 l0_0.length c0_0, .int .i64 a0_1]] rfl (by (try simp only [List.map_toArray, List.map_cons, List.map_nil]); first | done | rfl | (simp only [List.length_drop, List.length_take]; rfl)) ?_; (with_reducible refine (laws_toTape.calls kj68 _ _ l0_0 a0_1 t185 t188 _ ?side1 ?side2 A119.out).mono ?_); (case side1 => repeat (first | exact (Kd.C_below HR0_0.out HB.out) | (with_reducible refine Kd.C_alloc ?_ _) | (with_reducible refine Kd.C_drewN ?_ _) | (with_reducible refine Kd.C_drew ?_))); (case side2 => exact HC0_0.out); rintro e w132 ⟨v186, rfl, ho0, hb⟩; refine ⟨_, rfl, ?_⟩; have n0_ := Aside0.mk (Kd.R_elder' (by (with_reducible repeat (first | apply Kd.R_alloc | apply Kd.R_drewN | apply Kd.R_drew)); exact HO_161000.out) (Kd.R_base ho0) hb); have n1_ := Aside0.mk (Kd.R_elder' (by (with_reducible repeat (first | apply Kd.R_alloc | apply Kd.R_drewN | apply Kd.R_drew)); exact HO_166000.out) (Kd.R_base ho0) hb); have n2_ := Aside0.mk (Kd.R_elder' (by (with_reducible repeat (first | apply Kd.R_alloc | apply Kd.R_drewN | apply Kd.R_drew)); exact HO_173000.out) (Kd.R_base ho0) hb); have n3_ := Aside0.mk (Kd.R_lower (Kd.R_new' (Kd.R_new' (Kd.R_new' ho0 (Kd.R_lt (by (with_reducible repeat (first | apply Kd.R_alloc | apply Kd.R_drewN | apply Kd.R_drew)); exact HO_161000.out))) (Kd.R_lt (by (with_reducible repeat (first | apply Kd.R_alloc | apply Kd.R_drewN | apply Kd.R_drew)); exact HO_166000.out))) (Kd.R_lt (by (with_reducible repeat (first | apply Kd.R_alloc | apply Kd.R_drewN | apply Kd.R_drew)); exact HO_173000.out))) (below_size (by repeat (first | (with_reducible first | exact HB.out | apply below_alloc | apply pw_below_drewN | apply below_drew1 | refine below_set ?_ GE148.out | refine below_set ?_ GE160.out | refine below_set ?_ GE165.out | refine below_set ?_ GE172.out) | exact HB.out)))); have n4_ := Aside0.mk (blk_below (g := gb148) (o := .cells #[.slice A0_0 l0_0.length c0_0, .int .i64 a0_1] 24 (0, 0)) (by (with_reducible repeat (first | refine blk_drewN ?_ _ | refine blk_drew ?_ | refine blk_alloc ?_ _)); exact BK148.out) hb); have n5_ := Aside0.mk (blk_below (g := gb160) (o := .cells #[.slice Ao20 t154.length co20, .int .i64 t157] 27 (0, 0)) (by (with_reducible repeat (first | refine blk_drewN ?_ _ | refine blk_drew ?_ | refine blk_alloc ?_ _)); exact BK160.out) hb); have n6_ := Aside0.mk (blk_below (g := gb165) (o := .cells #[.slice Ao26 t180.length co26, .int .i64 t164] 27 (0, 0)) (by (with_reducible repeat (first | refine blk_drewN ?_ _ | refine blk_drew ?_ | refine blk_alloc ?_ _)); exact BK165.out) hb); have n7_ := Aside0.mk (blk_below (g := gb172) (o := .cells #[.slice Ao32 t166.length co32, .int .i64 t169] 27 (0, 0)) (by (with_reducible repeat (first | refine blk_drewN ?_ _ | refine blk_drew ?_ | refine blk_alloc ?_ _)); exact BK172.out) hb); have n8_ := Aside0.mk (below_step (by repeat (first | (with_reducible first | exact HB.out | apply below_alloc | apply pw_below_drewN | apply below_drew1 | refine below_set ?_ GE148.out | refine below_set ?_ GE160.out | refine below_set ?_ GE165.out | refine below_set ?_ GE172.out) | exact HB.out)) hb); clear HO_161000; clear HO_166000; clear HO_173000; clear BK148; clear BK160; clear BK165; clear BK172; clear HB; have HO_161000 := n0_; have HO_166000 := n1_; have HO_173000 := n2_; have HO187 := n3_; have BK148 := n4_; have BK160 := n5_; have BK165 := n6_; have BK172 := n7_; have HB := n8_; clear n0_ n1_ n2_ n3_ n4_ n5_ n6_ n7_ n8_; (try clear hb); (try clear hb2); (try clear hk); (try clear hi); (try clear ho0); obtain ⟨Ao133, co133, eo133⟩ := Kd.R_slice HO187.out; subst eo133) | ((with_reducible refine gate_callee (f := 16) rfl ?_); refine goesL_ (some 91) rfl rfl Try.func16 (by kernel_rfl) rfl #[.agg #[.slice Ao133 t185.length co133, .int .i64 t188]] rfl (by (try simp only [List.map_toArray, List.map_cons, List.map_nil]); first | done | rfl | (simp only [List.length_drop, List.length_take]; rfl)) ?_; (with_reducible refine (impl_TapeTake.calls _ _ t185 t188 t189 t192 t193 t194 _ ?side1 ?side2 A120.out).mono ?_); (case side1 => repeat (first | exact (Kd.R_reads' HO187.out).2.2 | (with_reducible refine Kd.C_alloc ?_ _) | (with_reducible refine Kd.C_drewN ?_ _) | (with_reducible refine Kd.C_drew ?_))); (case side2 => exact (Kd.R_reads' HO187.out).2.1); rintro e w134 ⟨v190, rfl, ho0, hb⟩; refine ⟨_, rfl, ?_⟩; have n0_ := Aside0.mk (Kd.R_elder' (by (with_reducible repeat (first | apply Kd.R_alloc | apply Kd.R_drewN | apply Kd.R_drew)); exact HO_161000.out) (Kd.R_base ho0) hb); have n1_ := Aside0.mk (Kd.R_elder' (by (with_reducible repeat (first | apply Kd.R_alloc | apply Kd.R_drewN | apply Kd.R_drew)); exact HO_166000.out) (Kd.R_base ho0) hb); have n2_ := Aside0.mk (Kd.R_elder' (by (with_reducible repeat (first | apply Kd.R_alloc | apply Kd.R_drewN | apply Kd.R_drew)); exact HO_173000.out) (Kd.R_base ho0) hb); have n3_ := Aside0.mk (Kd.R_elder' (by (with_reducible repeat (first | apply Kd.R_alloc | apply Kd.R_drewN | apply Kd.R_drew)); exact HO187.out) (Kd.R_base ho0) hb); have n4_ := Aside0.mk (Kd.R_lower (Kd.R_new' (Kd.R_new' (Kd.R_new' (Kd.R_new' ho0 (Kd.R_lt (by (with_reducible repeat (first | apply Kd.R_alloc | apply Kd.R_drewN | apply Kd.R_drew)); exact HO_161000.out))) (Kd.R_lt (by (with_reducible repeat (first | apply Kd.R_alloc | apply Kd.R_drewN | apply Kd.R_drew)); exact HO_166000.out))) (Kd.R_lt (by (with_reducible repeat (first | apply Kd.R_alloc | apply Kd.R_drewN | apply Kd.R_drew)); exact HO_173000.out))) (Kd.R_lt (by (with_reducible repeat (first | apply Kd.R_alloc | apply Kd.R_drewN | apply Kd.R_drew)); exact HO187.out))) (below_size (by repeat (first | (with_reducible first | exact HB.out | apply below_alloc | apply pw_below_drewN | apply below_drew1 | refine below_set ?_ GE148.out | refine below_set ?_ GE160.out | refine below_set ?_ GE165.out | refine below_set ?_ GE172.out) | exact HB.out)))); have n5_ := Aside0.mk (blk_below (g := gb148) (o := .cells #[.slice A0_0 l0_0.length c0_0, .int .i64 a0_1] 24 (0, 0)) (by (with_reducible repeat (first | refine blk_drewN ?_ _ | refine blk_drew ?_ | refine blk_alloc ?_ _)); exact BK148.out) hb); have n6_ := Aside0.mk (blk_below (g := gb160) (o := .cells #[.slice Ao20 t154.length co20, .int .i64 t157] 27 (0, 0)) (by (with_reducible repeat (first | refine blk_drewN ?_ _ | refine blk_drew ?_ | refine blk_alloc ?_ _)); exact BK160.out) hb); have n7_ := Aside0.mk (blk_below (g := gb165) (o := .cells #[.slice Ao26 t180.length co26, .int .i64 t164] 27 (0, 0)) (by (with_reducible repeat (first | refine blk_drewN ?_ _ | refine blk_drew ?_ | refine blk_alloc ?_ _)); exact BK165.out) hb); have n8_ := Aside0.mk (blk_below (g := gb172) (o := .cells #[.slice Ao32 t166.length co32, .int .i64 t169] 27 (0, 0)) (by (with_reducible repeat (first | refine blk_drewN ?_ _ | refine blk_drew ?_ | refine blk_alloc ?_ _)); exact BK172.out) hb); have n9_ := Aside0.mk (below_step (by repeat (first | (with_reducible first | exact HB.out | apply below_alloc | apply pw_below_drewN | apply below_drew1 | refine below_set ?_ GE148.out | refine below_set ?_ GE160.out | refine below_set ?_ GE165.out | refine below_set ?_ GE172.out) | exact HB.out)) hb); clear HO_161000; clear HO_166000; clear HO_173000; clear HO187; clear BK148; clear BK160; clear BK165; clear BK172; clear HB; have HO_161000 := n0_; have HO_166000 := n1_; have HO_173000 := n2_; have HO187 := n3_; have HO191 := n4_; have BK148 := n5_; have BK160 := n6_; have BK165 := n7_; have BK172 := n8_; have HB := n9_; clear n0_ n1_ n2_ n3_ n4_ n5_ n6_ n7_ n8_ n9_; (try clear hb); (try clear hb2); (try clear hk); (try clear hi); (try clear ho0)) | ((with_reducible refine gate_dst (N := 14) rfl ?_); refine box_event ?hg (N := 14) ?hd (cs := #[.slice none 0 0, .int .i64 0]) (t := 27) ?hr ?_; (case hd => rfl); (case hg => rfl); (case hr => first | (go_simp; done) | (go_simp; rfl)); intro gb195 hg w135 hbox hb; have n0_ := Aside0.mk (Kd.R_below (by (with_reducible repeat (first | apply Kd.R_alloc | apply Kd.R_drewN | apply Kd.R_drew)); exact HO_161000.out) hb); have n1_ := Aside0.mk (Kd.R_below (by (with_reducible repeat (first | apply Kd.R_alloc | apply Kd.R_drewN | apply Kd.R_drew)); exact HO_166000.out) hb); have n2_ := Aside0.mk (Kd.R_below (by (with_reducible repeat (first | apply Kd.R_alloc | apply Kd.R_drewN | apply Kd.R_drew)); exact HO_173000.out) hb); have n3_ := Aside0.mk (Kd.R_below (by (with_reducible repeat (first | apply Kd.R_alloc | apply Kd.R_drewN | apply Kd.R_drew)); exact HO187.out) hb); have n4_ := Aside0.mk (Kd.R_below (by (with_reducible repeat (first | apply Kd.R_alloc | apply Kd.R_drewN | apply Kd.R_drew)); exact HO191.out) hb); have n5_ := Aside0.mk (blk_below (g := gb148) (o := .cells #[.slice A0_0 l0_0.length c0_0, .int .i64 a0_1] 24 (0, 0)) (by (with_reducible repeat (first | refine blk_drewN ?_ _ | refine blk_drew ?_ | refine blk_alloc ?_ _)); exact BK148.out) hb); have n6_ := Aside0.mk (blk_below (g := gb160) (o := .cells #[.slice Ao20 t154.length co20, .int .i64 t157] 27 (0, 0)) (by (with_reducible repeat (first | refine blk_drewN ?_ _ | refine blk_drew ?_ | refine blk_alloc ?_ _)); exact BK160.out) hb); have n7_ := Aside0.mk (blk_below (g := gb165) (o := .cells #[.slice Ao26 t180.length co26, .int .i64 t164] 27 (0, 0)) (by (with_reducible repeat (first | refine blk_drewN ?_ _ | refine blk_drew ?_ | refine blk_alloc ?_ _)); exact BK165.out) hb); have n8_ := Aside0.mk (blk_below (g := gb172) (o := .cells #[.slice Ao32 t166.length co32, .int .i64 t169] 27 (0, 0)) (by (with_reducible repeat (first | refine blk_drewN ?_ _ | refine blk_drew ?_ | refine blk_alloc ?_ _)); exact BK172.out) hb); have n9_ := Aside0.mk (below_step (by repeat (first | (with_reducible first | exact HB.out | apply below_alloc | apply pw_below_drewN | apply below_drew1 | refine below_set ?_ GE148.out | refine below_set ?_ GE160.out | refine below_set ?_ GE165.out | refine below_set ?_ GE172.out) | exact HB.out)) hb); have n10_ := Aside0.mk (hbox); have n11_ := Aside0.mk ((by rw [hg]; exact (below_size (by repeat (first | (with_reducible first | exact HB.out | apply below_alloc | apply pw_below_drewN | apply below_drew1 | refine below_set ?_ GE148.out | refine below_set ?_ GE160.out | refine below_set ?_ GE165.out | refine below_set ?_ GE172.out) | exact HB.out))) : w.heap.size ≤ gb195)); have n12_ := Aside0.mk ((by rw [hg]; exact (below_size (by repeat (first | (with_reducible first | exact HB.out | apply below_alloc | apply pw_below_drewN | apply below_drew1 | refine below_set ?_ GE148.out | refine below_set ?_ GE160.out | refine below_set ?_ GE165.out | refine below_set ?_ GE172.out) | exact HB.out))) : w.heap.size ≤ gb195)); have n13_ := Aside0.mk ((by rw [hg]; exact Nat.ne_of_lt (blk_lt (g := gb148) (o := .cells #[.slice A0_0 l0_0.length c0_0, .int .i64 a0_1] 24 (0, 0)) (by (with_reducible repeat (first | refine blk_drewN ?_ _ | refine blk_drew ?_ | refine blk_alloc ?_ _)); exact BK148.out)) : gb148 ≠ gb195)); have n14_ := Aside0.mk ((by rw [hg]; exact Nat.ne_of_gt (blk_lt (g := gb148) (o := .cells #[.slice A0_0 l0_0.length c0_0, .int .i64 a0_1] 24 (0, 0)) (by (with_reducible repeat (first | refine blk_drewN ?_ _ | refine blk_drew ?_ | refine blk_alloc ?_ _)); exact BK148.out)) : gb195 ≠ gb148)); have n15_ := Aside0.mk ((by rw [hg]; exact Nat.ne_of_lt (blk_lt (g := gb160) (o := .cells #[.slice Ao20 t154.length co20, .int .i64 t157] 27 (0, 0)) (by (with_reducible repeat (first | refine blk_drewN ?_ _ | refine blk_drew ?_ | refine blk_alloc ?_ _)); exact BK160.out)) : gb160 ≠ gb195)); have n16_ := Aside0.mk ((by rw [hg]; exact Nat.ne_of_gt (blk_lt (g := gb160) (o := .cells #[.slice Ao20 t154.length co20, .int .i64 t157] 27 (0, 0)) (by (with_reducible repeat (first | refine blk_drewN ?_ _ | refine blk_drew ?_ | refine blk_alloc ?_ _)); exact BK160.out)) : gb195 ≠ gb160)); have n17_ := Aside0.mk ((by rw [hg]; exact Nat.ne_of_lt (blk_lt (g := gb165) (o := .cells #[.slice Ao26 t180.length co26, .int .i64 t164] 27 (0, 0)) (by (with_reducible repeat (first | refine blk_drewN ?_ _ | refine blk_drew ?_ | refine blk_alloc ?_ _)); exact BK165.out)) : gb165 ≠ gb195)); have n18_ := Aside0.mk ((by rw [hg]; exact Nat.ne_of_gt (blk_lt (g := gb165) (o := .cells #[.slice Ao26 t180.length co26, .int .i64 t164] 27 (0, 0)) (by (with_reducible repeat (first | refine blk_drewN ?_ _ | refine blk_drew ?_ | refine blk_alloc ?_ _)); exact BK165.out)) : gb195 ≠ gb165)); have n19_ := Aside0.mk ((by rw [hg]; exact Nat.ne_of_lt (blk_lt (g := gb172) (o := .cells #[.slice Ao32 t166.length co32, .int .i64 t169] 27 (0, 0)) (by (with_reducible repeat (first | refine blk_drewN ?_ _ | refine blk_drew ?_ | refine blk_alloc ?_ _)); exact BK172.out)) : gb172 ≠ gb195)); have n20_ := Aside0.mk ((by rw [hg]; exact Nat.ne_of_gt (blk_lt (g := gb172) (o := .cells #[.slice Ao32 t166.length co32, .int .i64 t169] 27 (0, 0)) (by (with_reducible repeat (first | refine blk_drewN ?_ _ | refine blk_drew ?_ | refine blk_alloc ?_ _)); exact BK172.out)) : gb195 ≠ gb172)); clear HO_161000; clear HO_166000; clear HO_173000; clear HO187; clear HO191; clear BK148; clear BK160; clear BK165; clear BK172; clear HB; have HO_161000 := n0_; have HO_166000 := n1_; have HO_173000 := n2_; have HO187 := n3_; have HO191 := n4_; have BK148 := n5_; have BK160 := n6_; have BK165 := n7_; have BK172 := n8_; have HB := n9_; have BK195 := n10_; have GW195 := n11_; have GE195 := n12_; have NB148_195 := n13_; have NB195_148 := n14_; have NB160_195 := n15_; have NB195_160 := n16_; have NB165_195 := n17_; have NB195_165 := n18_; have NB172_195 := n19_; have NB195_172 := n20_; clear n0_ n1_ n2_ n3_ n4_ n5_ n6_ n7_ n8_ n9_ n10_ n11_ n12_ n13_ n14_ n15_ n16_ n17_ n18_ n19_ n20_; clear hb hbox hg; obtain ⟨Ao136, co136, eo136⟩ := Kd.R_slice HO191.out; subst eo136; have hnb137 := NB195_148.out; have hnc137 := NB148_195.out; have hnb138 := NB195_160.out; have hnc138 := NB160_195.out; have hnb139 := NB195_165.out; have hnc139 := NB165_195.out; have hnb140 := NB195_172.out; have hnc140 := NB172_195.out; have hcz141_0 : w135.cell? ⟨gb195, 0, none⟩ = some (.slice none 0 0) := (blk_cell BK195.out 0).trans rfl; have hcz141_1 : w135.cell? ⟨gb195, 1, none⟩ = some (.int .i64 0) := (blk_cell BK195.out 1).trans rfl; have hfz141_0 := blk_frozen BK195.out 0; have hfz141_1 := blk_frozen BK195.out 1))
                      (try simp only [Act.put, List.setIfInBounds_toArray, List.set_cons_zero, List.set_cons_succ])
                      go_cut [108] (fun v108 wc => ∃ (kq : Nat) (x108_120 : Bool), v108 = .bool x108_120 ∧ Aside0 (laws_FnExactTapeTake.j2 kq t182 x108_120 t183 t169 = some r) ∧ Aside0 (kq ≤ kj68) ∧ Aside0 (Kd.R (Kd.int .i64) 3 wc w.heap.size (fun k_ => some k_ ≠ ((.slice Ao26 t180.length co26) : Value).ownBlock ∧ some k_ ≠ ((.slice Ao32 t166.length co32) : Value).ownBlock ∧ some k_ ≠ ((.slice Ao136 t189.length co136) : Value).ownBlock) (.slice Ao20 t154.length co20) t154) ∧ Aside0 (Kd.R (Kd.int .i64) 3 wc w.heap.size (fun k_ => some k_ ≠ ((.slice Ao20 t154.length co20) : Value).ownBlock ∧ some k_ ≠ ((.slice Ao32 t166.length co32) : Value).ownBlock ∧ some k_ ≠ ((.slice Ao136 t189.length co136) : Value).ownBlock) (.slice Ao26 t180.length co26) t180) ∧ Aside0 (Kd.R (Kd.int .i64) 3 wc w.heap.size (fun k_ => some k_ ≠ ((.slice Ao20 t154.length co20) : Value).ownBlock ∧ some k_ ≠ ((.slice Ao26 t180.length co26) : Value).ownBlock ∧ some k_ ≠ ((.slice Ao136 t189.length co136) : Value).ownBlock) (.slice Ao32 t166.length co32) t183) ∧ Aside0 (Kd.R (Kd.int .i64) 3 wc w.heap.size (fun k_ => some k_ ≠ ((.slice Ao20 t154.length co20) : Value).ownBlock ∧ some k_ ≠ ((.slice Ao26 t180.length co26) : Value).ownBlock ∧ some k_ ≠ ((.slice Ao32 t166.length co32) : Value).ownBlock) (.slice Ao136 t189.length co136) t189) ∧ Aside0 (wc.heap[gb148]? = some (.cells #[(.slice A0_0 l0_0.length c0_0), .int .i64 a0_1] 24 (0, 0))) ∧ Aside0 (wc.heap[gb160]? = some (.cells #[(.slice Ao20 t154.length co20), .int .i64 t157] 27 (0, 0))) ∧ Aside0 (wc.heap[gb165]? = some (.cells #[(.slice Ao26 t180.length co26), .int .i64 t164] 27 (0, 0))) ∧ Aside0 (wc.heap[gb172]? = some (.cells #[(.slice Ao32 t166.length co32), .int .i64 t169] 27 (0, 0))) ∧ Aside0 (wc.heap[gb195]? = some (.cells #[(.slice Ao136 t189.length co136), .int .i64 t192] 27 (0, 0))) ∧ Aside0 (Below w.heap.size w wc))
                      case first =>
                        have H := HC121.out
                        clear HC121
                        replace H := Option.bind_eq_some_iff.mp H
                        obtain ⟨t196, A1420, H⟩ := H
                        replace H : (if t196 = true then (if t193 = t158 then (laws_FnExactTapeTake.j2 kj68 t182 (t194 != t159) t183 t169) else (laws_FnExactTapeTake.j2 kj68 t182 true t183 t169)) else (laws_FnExactTapeTake.j2 kj68 t182 true t183 t169)) = some r := H
                        have A142 := Aside0.mk A1420
                        clear A1420
                        by_cases c143 : t196 = true
                        · subst c143
                          have H1 : (if t193 = t158 then (laws_FnExactTapeTake.j2 kj68 t182 (t194 != t159) t183 t169) else (laws_FnExactTapeTake.j2 kj68 t182 true t183 t169)) = some r := by rw [if_pos rfl] at H; exact H
                          clear H
                          have H := H1
                          clear H1
                          by_cases c144 : t193 = t158
                          · rw [if_pos c144] at H
                            have c144b0 : (t193 == t158) = true := beq_iff_eq.mpr c144
                            have c144b1 : (t193 != t158) = false := bne_eq_false_iff_eq.mpr c144
                            clear c144
                            (first | rw [c144b0] | (simp only [i64_w, i32_w]; rw [c144b0]) | skip)
                            have H' := Aside0.mk H
                            clear H
                            have hnb145 := NB195_148.out
                            have hnc145 := NB148_195.out
                            have hnb146 := NB195_160.out
                            have hnc146 := NB160_195.out
                            have hnb147 := NB195_165.out
                            have hnc147 := NB165_195.out
                            have hnb148 := NB195_172.out
                            have hnc148 := NB172_195.out
                            have hcz149_0 : w135.cell? ⟨gb195, 0, none⟩ = some (.slice none 0 0) := (blk_cell BK195.out 0).trans rfl
                            have hcz149_1 : w135.cell? ⟨gb195, 1, none⟩ = some (.int .i64 0) := (blk_cell BK195.out 1).trans rfl
                            have hfz149_0 := blk_frozen BK195.out 0
                            have hfz149_1 := blk_frozen BK195.out 1
                            have hnb150 := NB160_148.out
                            have hnc150 := NB148_160.out
                            have hnb151 := NB160_165.out
                            have hnc151 := NB165_160.out
                            have hnb152 := NB160_172.out
                            have hnc152 := NB172_160.out
                            have hcz153_0 : w135.cell? ⟨gb160, 0, none⟩ = some (.slice Ao20 t154.length co20) := (blk_cell BK160.out 0).trans rfl
                            have hcz153_1 : w135.cell? ⟨gb160, 1, none⟩ = some (.int .i64 t157) := (blk_cell BK160.out 1).trans rfl
                            have hfz153_0 := blk_frozen BK160.out 0
                            have hfz153_1 := blk_frozen BK160.out 1
                            go_wp2_with (first | ((with_reducible refine gate_callee (f := 12) rfl ?_); refine goesL_ (some 97) rfl rfl Try.func12 (by kernel_rfl) rfl #[.agg #[.slice Ao136 t189.length co136, .int .i64 t192], .agg #[.slice Ao20 t154.length co20, .int .i64 t157]] rfl (by (try simp only [List.map_toArray, List.map_cons, List.map_nil]); first | done | rfl | (simp only [List.length_drop, List.length_take]; rfl)) ?_; (with_reducible refine (laws_eqTape.calls kj68 _ _ t189 t192 _ _ t154 t157 true _ ?side1 ?side2 ?side3 ?side4 A142.out).mono ?_); (case side1 => refine (Kd.R_reads' (e := 3) (base := w.heap.size) (ok := fun k_ => ((((True ∧ some k_ ≠ (.slice Ao20 t154.length co20 : Value).ownBlock) ∧ some k_ ≠ (.slice Ao26 t180.length co26 : Value).ownBlock) ∧ some k_ ≠ (.slice Ao32 t166.length co32 : Value).ownBlock) ∧ some k_ ≠ (.slice Ao133 t185.length co133 : Value).ownBlock)) (n := t189.length) (c := co136) ?_).2.2; exact (by (with_reducible repeat (first | apply Kd.R_alloc | apply Kd.R_drewN | apply Kd.R_drew)); exact (Kd.R_mono (Kd.R_far (p := ⟨gb195, 1, none⟩) (Kd.R_far (p := ⟨gb195, 0, none⟩) (Kd.R_types HO191.out BK195.out (by decide)) (fun _ hk => hk.2) (.slice Ao136 t189.length co136)) (fun _ hk => hk.2) (.int .i64 t192)) (fun _ h_ => h_.1)))); (case side2 => exact (Kd.R_reads' HO191.out).2.1); (case side3 => refine (Kd.R_reads' (e := 3) (base := w.heap.size) (ok := fun k_ => (((some k_ ≠ (.slice Ao26 t180.length co26 : Value).ownBlock ∧ some k_ ≠ (.slice Ao32 t166.length co32 : Value).ownBlock) ∧ some k_ ≠ (.slice Ao133 t185.length co133 : Value).ownBlock) ∧ some k_ ≠ (.slice Ao136 t189.length co136 : Value).ownBlock)) (n := t154.length) (c := co20) ?_).2.2; exact (by (with_reducible repeat (first | apply Kd.R_alloc | apply Kd.R_drewN | apply Kd.R_drew)); exact (Kd.R_mono (Kd.R_far (p := ⟨gb195, 1, none⟩) (Kd.R_far (p := ⟨gb195, 0, none⟩) (Kd.R_types HO_161000.out BK195.out (by decide)) (fun _ hk => hk.2) (.slice Ao136 t189.length co136)) (fun _ hk => hk.2) (.int .i64 t192)) (fun _ h_ => h_.1)))); (case side4 => exact (Kd.R_reads' HO_161000.out).2.1); rintro e w154 ⟨rfl, hb⟩; refine ⟨_, rfl, ?_⟩; have n0_ := Aside0.mk (Kd.R_below (by (with_reducible repeat (first | apply Kd.R_alloc | apply Kd.R_drewN | apply Kd.R_drew)); exact (Kd.R_mono (Kd.R_far (p := ⟨gb195, 1, none⟩) (Kd.R_far (p := ⟨gb195, 0, none⟩) (Kd.R_types HO_161000.out BK195.out (by decide)) (fun _ hk => hk.2) (.slice Ao136 t189.length co136)) (fun _ hk => hk.2) (.int .i64 t192)) (fun _ h_ => h_.1))) hb); have n1_ := Aside0.mk (Kd.R_below (by (with_reducible repeat (first | apply Kd.R_alloc | apply Kd.R_drewN | apply Kd.R_drew)); exact (Kd.R_mono (Kd.R_far (p := ⟨gb195, 1, none⟩) (Kd.R_far (p := ⟨gb195, 0, none⟩) (Kd.R_types HO_166000.out BK195.out (by decide)) (fun _ hk => hk.2) (.slice Ao136 t189.length co136)) (fun _ hk => hk.2) (.int .i64 t192)) (fun _ h_ => h_.1))) hb); have n2_ := Aside0.mk (Kd.R_below (by (with_reducible repeat (first | apply Kd.R_alloc | apply Kd.R_drewN | apply Kd.R_drew)); exact (Kd.R_mono (Kd.R_far (p := ⟨gb195, 1, none⟩) (Kd.R_far (p := ⟨gb195, 0, none⟩) (Kd.R_types HO_173000.out BK195.out (by decide)) (fun _ hk => hk.2) (.slice Ao136 t189.length co136)) (fun _ hk => hk.2) (.int .i64 t192)) (fun _ h_ => h_.1))) hb); have n3_ := Aside0.mk (Kd.R_below (by (with_reducible repeat (first | apply Kd.R_alloc | apply Kd.R_drewN | apply Kd.R_drew)); exact (Kd.R_mono (Kd.R_far (p := ⟨gb195, 1, none⟩) (Kd.R_far (p := ⟨gb195, 0, none⟩) (Kd.R_types HO187.out BK195.out (by decide)) (fun _ hk => hk.2) (.slice Ao136 t189.length co136)) (fun _ hk => hk.2) (.int .i64 t192)) (fun _ h_ => h_.1))) hb); have n4_ := Aside0.mk (Kd.R_below (by (with_reducible repeat (first | apply Kd.R_alloc | apply Kd.R_drewN | apply Kd.R_drew)); exact (Kd.R_mono (Kd.R_far (p := ⟨gb195, 1, none⟩) (Kd.R_far (p := ⟨gb195, 0, none⟩) (Kd.R_types HO191.out BK195.out (by decide)) (fun _ hk => hk.2) (.slice Ao136 t189.length co136)) (fun _ hk => hk.2) (.int .i64 t192)) (fun _ h_ => h_.1))) hb); have n5_ := Aside0.mk (blk_below (g := gb148) (o := .cells #[.slice A0_0 l0_0.length c0_0, .int .i64 a0_1] 24 (0, 0)) (by (with_reducible repeat (first | refine blk_drewN ?_ _ | refine blk_drew ?_ | refine blk_alloc ?_ _)); refine blk_far ?_ NB148_195.out _; (with_reducible repeat (first | refine blk_drewN ?_ _ | refine blk_drew ?_ | refine blk_alloc ?_ _)); refine blk_far ?_ NB148_195.out _; (with_reducible repeat (first | refine blk_drewN ?_ _ | refine blk_drew ?_ | refine blk_alloc ?_ _)); exact BK148.out) hb); have n6_ := Aside0.mk (blk_below (g := gb160) (o := .cells #[.slice Ao20 t154.length co20, .int .i64 t157] 27 (0, 0)) (by (with_reducible repeat (first | refine blk_drewN ?_ _ | refine blk_drew ?_ | refine blk_alloc ?_ _)); refine blk_far ?_ NB160_195.out _; (with_reducible repeat (first | refine blk_drewN ?_ _ | refine blk_drew ?_ | refine blk_alloc ?_ _)); refine blk_far ?_ NB160_195.out _; (with_reducible repeat (first | refine blk_drewN ?_ _ | refine blk_drew ?_ | refine blk_alloc ?_ _)); exact BK160.out) hb); have n7_ := Aside0.mk (blk_below (g := gb165) (o := .cells #[.slice Ao26 t180.length co26, .int .i64 t164] 27 (0, 0)) (by (with_reducible repeat (first | refine blk_drewN ?_ _ | refine blk_drew ?_ | refine blk_alloc ?_ _)); refine blk_far ?_ NB165_195.out _; (with_reducible repeat (first | refine blk_drewN ?_ _ | refine blk_drew ?_ | refine blk_alloc ?_ _)); refine blk_far ?_ NB165_195.out _; (with_reducible repeat (first | refine blk_drewN ?_ _ | refine blk_drew ?_ | refine blk_alloc ?_ _)); exact BK165.out) hb); have n8_ := Aside0.mk (blk_below (g := gb172) (o := .cells #[.slice Ao32 t166.length co32, .int .i64 t169] 27 (0, 0)) (by (with_reducible repeat (first | refine blk_drewN ?_ _ | refine blk_drew ?_ | refine blk_alloc ?_ _)); refine blk_far ?_ NB172_195.out _; (with_reducible repeat (first | refine blk_drewN ?_ _ | refine blk_drew ?_ | refine blk_alloc ?_ _)); refine blk_far ?_ NB172_195.out _; (with_reducible repeat (first | refine blk_drewN ?_ _ | refine blk_drew ?_ | refine blk_alloc ?_ _)); exact BK172.out) hb); have n9_ := Aside0.mk (blk_below (g := gb195) (o := .cells #[.slice Ao136 t189.length co136, .int .i64 t192] 27 (0, 0)) (by (with_reducible repeat (first | refine blk_drewN ?_ _ | refine blk_drew ?_ | refine blk_alloc ?_ _)); refine blk_put (cs := #[.slice Ao136 t189.length co136, .int .i64 0]) ?_ 1 _ rfl; (with_reducible repeat (first | refine blk_drewN ?_ _ | refine blk_drew ?_ | refine blk_alloc ?_ _)); refine blk_put (cs := #[.slice none 0 0, .int .i64 0]) ?_ 0 _ rfl; (with_reducible repeat (first | refine blk_drewN ?_ _ | refine blk_drew ?_ | refine blk_alloc ?_ _)); exact BK195.out) hb); have n10_ := Aside0.mk (below_step (by repeat (first | (with_reducible first | exact HB.out | apply below_alloc | apply pw_below_drewN | apply below_drew1 | refine below_set ?_ GE148.out | refine below_set ?_ GE160.out | refine below_set ?_ GE165.out | refine below_set ?_ GE172.out | refine below_set ?_ GE195.out) | exact HB.out)) hb); clear HO_161000; clear HO_166000; clear HO_173000; clear HO187; clear HO191; clear BK148; clear BK160; clear BK165; clear BK172; clear BK195; clear HB; have HO_161000 := n0_; have HO_166000 := n1_; have HO_173000 := n2_; have HO187 := n3_; have HO191 := n4_; have BK148 := n5_; have BK160 := n6_; have BK165 := n7_; have BK172 := n8_; have BK195 := n9_; have HB := n10_; clear n0_ n1_ n2_ n3_ n4_ n5_ n6_ n7_ n8_ n9_ n10_; (try clear hb); (try clear hb2); (try clear hk); (try clear hi)))
                            go_meet
                            case rel => exact ⟨_, ((t194 != t159)), (by first | rfl | (simp; done) | (simp [*]; done)), H', ⟨by have := HJ10.out; have := HJ68.out; first | omega | exact Nat.le_refl _⟩, ⟨by (try simp only [hl166000_68]); (with_reducible repeat (first | apply Kd.R_alloc | apply Kd.R_drewN | apply Kd.R_drew)); exact Kd.R_mono HO_161000.out (fun _ hk => ⟨hk.1.1.1, ⟨hk.1.1.2, hk.2⟩⟩)⟩, ⟨by (try simp only [hl166000_68]); (with_reducible repeat (first | apply Kd.R_alloc | apply Kd.R_drewN | apply Kd.R_drew)); exact Kd.R_mono HO_166000.out (fun _ hk => ⟨hk.1.1.1, ⟨hk.1.1.2, hk.2⟩⟩)⟩, ⟨by (try simp only [hl166000_68]); (with_reducible repeat (first | apply Kd.R_alloc | apply Kd.R_drewN | apply Kd.R_drew)); exact Kd.R_mono HO_173000.out (fun _ hk => ⟨hk.1.1.1, ⟨hk.1.1.2, hk.2⟩⟩)⟩, ⟨by (try simp only [hl166000_68]); (with_reducible repeat (first | apply Kd.R_alloc | apply Kd.R_drewN | apply Kd.R_drew)); exact Kd.R_mono HO191.out (fun _ hk => ⟨hk.1.1.1.2, ⟨hk.1.1.2, hk.1.2⟩⟩)⟩, ⟨by (try simp only [hl166000_68]); (with_reducible repeat (first | refine blk_drewN ?_ _ | refine blk_drew ?_ | refine blk_alloc ?_ _)); exact BK148.out⟩, ⟨by (try simp only [hl166000_68]); (with_reducible repeat (first | refine blk_drewN ?_ _ | refine blk_drew ?_ | refine blk_alloc ?_ _)); exact BK160.out⟩, ⟨by (try simp only [hl166000_68]); (with_reducible repeat (first | refine blk_drewN ?_ _ | refine blk_drew ?_ | refine blk_alloc ?_ _)); exact BK165.out⟩, ⟨by (try simp only [hl166000_68]); (with_reducible repeat (first | refine blk_drewN ?_ _ | refine blk_drew ?_ | refine blk_alloc ?_ _)); exact BK172.out⟩, ⟨by (try simp only [hl166000_68]); (with_reducible repeat (first | refine blk_drewN ?_ _ | refine blk_drew ?_ | refine blk_alloc ?_ _)); exact BK195.out⟩, ⟨by repeat (first | (with_reducible first | exact HB.out | apply below_alloc | apply pw_below_drewN | apply below_drew1 | refine below_set ?_ GE148.out | refine below_set ?_ GE160.out | refine below_set ?_ GE165.out | refine below_set ?_ GE172.out | refine below_set ?_ GE195.out) | exact HB.out)⟩⟩
                          · rw [if_neg c144] at H
                            have c144b0 : (t193 == t158) = false := beq_eq_false_iff_ne.mpr c144
                            have c144b1 : (t193 != t158) = true := bne_iff_ne.mpr c144
                            (first | rw [c144b0] | (simp only [i64_w, i32_w]; rw [c144b0]) | skip)
                            have H' := Aside0.mk H
                            clear H
                            have hnb155 := NB195_148.out
                            have hnc155 := NB148_195.out
                            have hnb156 := NB195_160.out
                            have hnc156 := NB160_195.out
                            have hnb157 := NB195_165.out
                            have hnc157 := NB165_195.out
                            have hnb158 := NB195_172.out
                            have hnc158 := NB172_195.out
                            have hcz159_0 : w135.cell? ⟨gb195, 0, none⟩ = some (.slice none 0 0) := (blk_cell BK195.out 0).trans rfl
                            have hcz159_1 : w135.cell? ⟨gb195, 1, none⟩ = some (.int .i64 0) := (blk_cell BK195.out 1).trans rfl
                            have hfz159_0 := blk_frozen BK195.out 0
                            have hfz159_1 := blk_frozen BK195.out 1
                            have hnb160 := NB160_148.out
                            have hnc160 := NB148_160.out
                            have hnb161 := NB160_165.out
                            have hnc161 := NB165_160.out
                            have hnb162 := NB160_172.out
                            have hnc162 := NB172_160.out
                            have hcz163_0 : w135.cell? ⟨gb160, 0, none⟩ = some (.slice Ao20 t154.length co20) := (blk_cell BK160.out 0).trans rfl
                            have hcz163_1 : w135.cell? ⟨gb160, 1, none⟩ = some (.int .i64 t157) := (blk_cell BK160.out 1).trans rfl
                            have hfz163_0 := blk_frozen BK160.out 0
                            have hfz163_1 := blk_frozen BK160.out 1
                            go_wp2_with (first | ((with_reducible refine gate_callee (f := 12) rfl ?_); refine goesL_ (some 97) rfl rfl Try.func12 (by kernel_rfl) rfl #[.agg #[.slice Ao136 t189.length co136, .int .i64 t192], .agg #[.slice Ao20 t154.length co20, .int .i64 t157]] rfl (by (try simp only [List.map_toArray, List.map_cons, List.map_nil]); first | done | rfl | (simp only [List.length_drop, List.length_take]; rfl)) ?_; (with_reducible refine (laws_eqTape.calls kj68 _ _ t189 t192 _ _ t154 t157 true _ ?side1 ?side2 ?side3 ?side4 A142.out).mono ?_); (case side1 => refine (Kd.R_reads' (e := 3) (base := w.heap.size) (ok := fun k_ => ((((True ∧ some k_ ≠ (.slice Ao20 t154.length co20 : Value).ownBlock) ∧ some k_ ≠ (.slice Ao26 t180.length co26 : Value).ownBlock) ∧ some k_ ≠ (.slice Ao32 t166.length co32 : Value).ownBlock) ∧ some k_ ≠ (.slice Ao133 t185.length co133 : Value).ownBlock)) (n := t189.length) (c := co136) ?_).2.2; exact (by (with_reducible repeat (first | apply Kd.R_alloc | apply Kd.R_drewN | apply Kd.R_drew)); exact (Kd.R_mono (Kd.R_far (p := ⟨gb195, 1, none⟩) (Kd.R_far (p := ⟨gb195, 0, none⟩) (Kd.R_types HO191.out BK195.out (by decide)) (fun _ hk => hk.2) (.slice Ao136 t189.length co136)) (fun _ hk => hk.2) (.int .i64 t192)) (fun _ h_ => h_.1)))); (case side2 => exact (Kd.R_reads' HO191.out).2.1); (case side3 => refine (Kd.R_reads' (e := 3) (base := w.heap.size) (ok := fun k_ => (((some k_ ≠ (.slice Ao26 t180.length co26 : Value).ownBlock ∧ some k_ ≠ (.slice Ao32 t166.length co32 : Value).ownBlock) ∧ some k_ ≠ (.slice Ao133 t185.length co133 : Value).ownBlock) ∧ some k_ ≠ (.slice Ao136 t189.length co136 : Value).ownBlock)) (n := t154.length) (c := co20) ?_).2.2; exact (by (with_reducible repeat (first | apply Kd.R_alloc | apply Kd.R_drewN | apply Kd.R_drew)); exact (Kd.R_mono (Kd.R_far (p := ⟨gb195, 1, none⟩) (Kd.R_far (p := ⟨gb195, 0, none⟩) (Kd.R_types HO_161000.out BK195.out (by decide)) (fun _ hk => hk.2) (.slice Ao136 t189.length co136)) (fun _ hk => hk.2) (.int .i64 t192)) (fun _ h_ => h_.1)))); (case side4 => exact (Kd.R_reads' HO_161000.out).2.1); rintro e w164 ⟨rfl, hb⟩; refine ⟨_, rfl, ?_⟩; have n0_ := Aside0.mk (Kd.R_below (by (with_reducible repeat (first | apply Kd.R_alloc | apply Kd.R_drewN | apply Kd.R_drew)); exact (Kd.R_mono (Kd.R_far (p := ⟨gb195, 1, none⟩) (Kd.R_far (p := ⟨gb195, 0, none⟩) (Kd.R_types HO_161000.out BK195.out (by decide)) (fun _ hk => hk.2) (.slice Ao136 t189.length co136)) (fun _ hk => hk.2) (.int .i64 t192)) (fun _ h_ => h_.1))) hb); have n1_ := Aside0.mk (Kd.R_below (by (with_reducible repeat (first | apply Kd.R_alloc | apply Kd.R_drewN | apply Kd.R_drew)); exact (Kd.R_mono (Kd.R_far (p := ⟨gb195, 1, none⟩) (Kd.R_far (p := ⟨gb195, 0, none⟩) (Kd.R_types HO_166000.out BK195.out (by decide)) (fun _ hk => hk.2) (.slice Ao136 t189.length co136)) (fun _ hk => hk.2) (.int .i64 t192)) (fun _ h_ => h_.1))) hb); have n2_ := Aside0.mk (Kd.R_below (by (with_reducible repeat (first | apply Kd.R_alloc | apply Kd.R_drewN | apply Kd.R_drew)); exact (Kd.R_mono (Kd.R_far (p := ⟨gb195, 1, none⟩) (Kd.R_far (p := ⟨gb195, 0, none⟩) (Kd.R_types HO_173000.out BK195.out (by decide)) (fun _ hk => hk.2) (.slice Ao136 t189.length co136)) (fun _ hk => hk.2) (.int .i64 t192)) (fun _ h_ => h_.1))) hb); have n3_ := Aside0.mk (Kd.R_below (by (with_reducible repeat (first | apply Kd.R_alloc | apply Kd.R_drewN | apply Kd.R_drew)); exact (Kd.R_mono (Kd.R_far (p := ⟨gb195, 1, none⟩) (Kd.R_far (p := ⟨gb195, 0, none⟩) (Kd.R_types HO187.out BK195.out (by decide)) (fun _ hk => hk.2) (.slice Ao136 t189.length co136)) (fun _ hk => hk.2) (.int .i64 t192)) (fun _ h_ => h_.1))) hb); have n4_ := Aside0.mk (Kd.R_below (by (with_reducible repeat (first | apply Kd.R_alloc | apply Kd.R_drewN | apply Kd.R_drew)); exact (Kd.R_mono (Kd.R_far (p := ⟨gb195, 1, none⟩) (Kd.R_far (p := ⟨gb195, 0, none⟩) (Kd.R_types HO191.out BK195.out (by decide)) (fun _ hk => hk.2) (.slice Ao136 t189.length co136)) (fun _ hk => hk.2) (.int .i64 t192)) (fun _ h_ => h_.1))) hb); have n5_ := Aside0.mk (blk_below (g := gb148) (o := .cells #[.slice A0_0 l0_0.length c0_0, .int .i64 a0_1] 24 (0, 0)) (by (with_reducible repeat (first | refine blk_drewN ?_ _ | refine blk_drew ?_ | refine blk_alloc ?_ _)); refine blk_far ?_ NB148_195.out _; (with_reducible repeat (first | refine blk_drewN ?_ _ | refine blk_drew ?_ | refine blk_alloc ?_ _)); refine blk_far ?_ NB148_195.out _; (with_reducible repeat (first | refine blk_drewN ?_ _ | refine blk_drew ?_ | refine blk_alloc ?_ _)); exact BK148.out) hb); have n6_ := Aside0.mk (blk_below (g := gb160) (o := .cells #[.slice Ao20 t154.length co20, .int .i64 t157] 27 (0, 0)) (by (with_reducible repeat (first | refine blk_drewN ?_ _ | refine blk_drew ?_ | refine blk_alloc ?_ _)); refine blk_far ?_ NB160_195.out _; (with_reducible repeat (first | refine blk_drewN ?_ _ | refine blk_drew ?_ | refine blk_alloc ?_ _)); refine blk_far ?_ NB160_195.out _; (with_reducible repeat (first | refine blk_drewN ?_ _ | refine blk_drew ?_ | refine blk_alloc ?_ _)); exact BK160.out) hb); have n7_ := Aside0.mk (blk_below (g := gb165) (o := .cells #[.slice Ao26 t180.length co26, .int .i64 t164] 27 (0, 0)) (by (with_reducible repeat (first | refine blk_drewN ?_ _ | refine blk_drew ?_ | refine blk_alloc ?_ _)); refine blk_far ?_ NB165_195.out _; (with_reducible repeat (first | refine blk_drewN ?_ _ | refine blk_drew ?_ | refine blk_alloc ?_ _)); refine blk_far ?_ NB165_195.out _; (with_reducible repeat (first | refine blk_drewN ?_ _ | refine blk_drew ?_ | refine blk_alloc ?_ _)); exact BK165.out) hb); have n8_ := Aside0.mk (blk_below (g := gb172) (o := .cells #[.slice Ao32 t166.length co32, .int .i64 t169] 27 (0, 0)) (by (with_reducible repeat (first | refine blk_drewN ?_ _ | refine blk_drew ?_ | refine blk_alloc ?_ _)); refine blk_far ?_ NB172_195.out _; (with_reducible repeat (first | refine blk_drewN ?_ _ | refine blk_drew ?_ | refine blk_alloc ?_ _)); refine blk_far ?_ NB172_195.out _; (with_reducible repeat (first | refine blk_drewN ?_ _ | refine blk_drew ?_ | refine blk_alloc ?_ _)); exact BK172.out) hb); have n9_ := Aside0.mk (blk_below (g := gb195) (o := .cells #[.slice Ao136 t189.length co136, .int .i64 t192] 27 (0, 0)) (by (with_reducible repeat (first | refine blk_drewN ?_ _ | refine blk_drew ?_ | refine blk_alloc ?_ _)); refine blk_put (cs := #[.slice Ao136 t189.length co136, .int .i64 0]) ?_ 1 _ rfl; (with_reducible repeat (first | refine blk_drewN ?_ _ | refine blk_drew ?_ | refine blk_alloc ?_ _)); refine blk_put (cs := #[.slice none 0 0, .int .i64 0]) ?_ 0 _ rfl; (with_reducible repeat (first | refine blk_drewN ?_ _ | refine blk_drew ?_ | refine blk_alloc ?_ _)); exact BK195.out) hb); have n10_ := Aside0.mk (below_step (by repeat (first | (with_reducible first | exact HB.out | apply below_alloc | apply pw_below_drewN | apply below_drew1 | refine below_set ?_ GE148.out | refine below_set ?_ GE160.out | refine below_set ?_ GE165.out | refine below_set ?_ GE172.out | refine below_set ?_ GE195.out) | exact HB.out)) hb); clear HO_161000; clear HO_166000; clear HO_173000; clear HO187; clear HO191; clear BK148; clear BK160; clear BK165; clear BK172; clear BK195; clear HB; have HO_161000 := n0_; have HO_166000 := n1_; have HO_173000 := n2_; have HO187 := n3_; have HO191 := n4_; have BK148 := n5_; have BK160 := n6_; have BK165 := n7_; have BK172 := n8_; have BK195 := n9_; have HB := n10_; clear n0_ n1_ n2_ n3_ n4_ n5_ n6_ n7_ n8_ n9_ n10_; (try clear hb); (try clear hb2); (try clear hk); (try clear hi)))
                            go_meet
                            case rel => exact ⟨_, (true), (by first | rfl | (simp; done) | (simp [*]; done)), H', ⟨by have := HJ10.out; have := HJ68.out; first | omega | exact Nat.le_refl _⟩, ⟨by (try simp only [hl166000_68]); (with_reducible repeat (first | apply Kd.R_alloc | apply Kd.R_drewN | apply Kd.R_drew)); exact Kd.R_mono HO_161000.out (fun _ hk => ⟨hk.1.1.1, ⟨hk.1.1.2, hk.2⟩⟩)⟩, ⟨by (try simp only [hl166000_68]); (with_reducible repeat (first | apply Kd.R_alloc | apply Kd.R_drewN | apply Kd.R_drew)); exact Kd.R_mono HO_166000.out (fun _ hk => ⟨hk.1.1.1, ⟨hk.1.1.2, hk.2⟩⟩)⟩, ⟨by (try simp only [hl166000_68]); (with_reducible repeat (first | apply Kd.R_alloc | apply Kd.R_drewN | apply Kd.R_drew)); exact Kd.R_mono HO_173000.out (fun _ hk => ⟨hk.1.1.1, ⟨hk.1.1.2, hk.2⟩⟩)⟩, ⟨by (try simp only [hl166000_68]); (with_reducible repeat (first | apply Kd.R_alloc | apply Kd.R_drewN | apply Kd.R_drew)); exact Kd.R_mono HO191.out (fun _ hk => ⟨hk.1.1.1.2, ⟨hk.1.1.2, hk.1.2⟩⟩)⟩, ⟨by (try simp only [hl166000_68]); (with_reducible repeat (first | refine blk_drewN ?_ _ | refine blk_drew ?_ | refine blk_alloc ?_ _)); exact BK148.out⟩, ⟨by (try simp only [hl166000_68]); (with_reducible repeat (first | refine blk_drewN ?_ _ | refine blk_drew ?_ | refine blk_alloc ?_ _)); exact BK160.out⟩, ⟨by (try simp only [hl166000_68]); (with_reducible repeat (first | refine blk_drewN ?_ _ | refine blk_drew ?_ | refine blk_alloc ?_ _)); exact BK165.out⟩, ⟨by (try simp only [hl166000_68]); (with_reducible repeat (first | refine blk_drewN ?_ _ | refine blk_drew ?_ | refine blk_alloc ?_ _)); exact BK172.out⟩, ⟨by (try simp only [hl166000_68]); (with_reducible repeat (first | refine blk_drewN ?_ _ | refine blk_drew ?_ | refine blk_alloc ?_ _)); exact BK195.out⟩, ⟨by repeat (first | (with_reducible first | exact HB.out | apply below_alloc | apply pw_below_drewN | apply below_drew1 | refine below_set ?_ GE148.out | refine below_set ?_ GE160.out | refine below_set ?_ GE165.out | refine below_set ?_ GE172.out | refine below_set ?_ GE195.out) | exact HB.out)⟩⟩
                        · replace c143 := Bool.eq_false_iff.mpr c143
                          subst c143
                          have H1 : (laws_FnExactTapeTake.j2 kj68 t182 true t183 t169) = some r := by rw [if_neg (show ¬ (false = true) by decide)] at H; exact H
                          clear H
                          have H := H1
                          clear H1
                          have H' := Aside0.mk H
                          clear H
                          have hnb165 := NB195_148.out
                          have hnc165 := NB148_195.out
                          have hnb166 := NB195_160.out
                          have hnc166 := NB160_195.out
                          have hnb167 := NB195_165.out
                          have hnc167 := NB165_195.out
                          have hnb168 := NB195_172.out
                          have hnc168 := NB172_195.out
                          have hcz169_0 : w135.cell? ⟨gb195, 0, none⟩ = some (.slice none 0 0) := (blk_cell BK195.out 0).trans rfl
                          have hcz169_1 : w135.cell? ⟨gb195, 1, none⟩ = some (.int .i64 0) := (blk_cell BK195.out 1).trans rfl
                          have hfz169_0 := blk_frozen BK195.out 0
                          have hfz169_1 := blk_frozen BK195.out 1
                          have hnb170 := NB160_148.out
                          have hnc170 := NB148_160.out
                          have hnb171 := NB160_165.out
                          have hnc171 := NB165_160.out
                          have hnb172 := NB160_172.out
                          have hnc172 := NB172_160.out
                          have hcz173_0 : w135.cell? ⟨gb160, 0, none⟩ = some (.slice Ao20 t154.length co20) := (blk_cell BK160.out 0).trans rfl
                          have hcz173_1 : w135.cell? ⟨gb160, 1, none⟩ = some (.int .i64 t157) := (blk_cell BK160.out 1).trans rfl
                          have hfz173_0 := blk_frozen BK160.out 0
                          have hfz173_1 := blk_frozen BK160.out 1
                          go_wp2_with (first | ((with_reducible refine gate_callee (f := 12) rfl ?_); refine goesL_ (some 97) rfl rfl Try.func12 (by kernel_rfl) rfl #[.agg #[.slice Ao136 t189.length co136, .int .i64 t192], .agg #[.slice Ao20 t154.length co20, .int .i64 t157]] rfl (by (try simp only [List.map_toArray, List.map_cons, List.map_nil]); first | done | rfl | (simp only [List.length_drop, List.length_take]; rfl)) ?_; (with_reducible refine (laws_eqTape.calls kj68 _ _ t189 t192 _ _ t154 t157 false _ ?side1 ?side2 ?side3 ?side4 A142.out).mono ?_); (case side1 => refine (Kd.R_reads' (e := 3) (base := w.heap.size) (ok := fun k_ => ((((True ∧ some k_ ≠ (.slice Ao20 t154.length co20 : Value).ownBlock) ∧ some k_ ≠ (.slice Ao26 t180.length co26 : Value).ownBlock) ∧ some k_ ≠ (.slice Ao32 t166.length co32 : Value).ownBlock) ∧ some k_ ≠ (.slice Ao133 t185.length co133 : Value).ownBlock)) (n := t189.length) (c := co136) ?_).2.2; exact (by (with_reducible repeat (first | apply Kd.R_alloc | apply Kd.R_drewN | apply Kd.R_drew)); exact (Kd.R_mono (Kd.R_far (p := ⟨gb195, 1, none⟩) (Kd.R_far (p := ⟨gb195, 0, none⟩) (Kd.R_types HO191.out BK195.out (by decide)) (fun _ hk => hk.2) (.slice Ao136 t189.length co136)) (fun _ hk => hk.2) (.int .i64 t192)) (fun _ h_ => h_.1)))); (case side2 => exact (Kd.R_reads' HO191.out).2.1); (case side3 => refine (Kd.R_reads' (e := 3) (base := w.heap.size) (ok := fun k_ => (((some k_ ≠ (.slice Ao26 t180.length co26 : Value).ownBlock ∧ some k_ ≠ (.slice Ao32 t166.length co32 : Value).ownBlock) ∧ some k_ ≠ (.slice Ao133 t185.length co133 : Value).ownBlock) ∧ some k_ ≠ (.slice Ao136 t189.length co136 : Value).ownBlock)) (n := t154.length) (c := co20) ?_).2.2; exact (by (with_reducible repeat (first | apply Kd.R_alloc | apply Kd.R_drewN | apply Kd.R_drew)); exact (Kd.R_mono (Kd.R_far (p := ⟨gb195, 1, none⟩) (Kd.R_far (p := ⟨gb195, 0, none⟩) (Kd.R_types HO_161000.out BK195.out (by decide)) (fun _ hk => hk.2) (.slice Ao136 t189.length co136)) (fun _ hk => hk.2) (.int .i64 t192)) (fun _ h_ => h_.1)))); (case side4 => exact (Kd.R_reads' HO_161000.out).2.1); rintro e w174 ⟨rfl, hb⟩; refine ⟨_, rfl, ?_⟩; have n0_ := Aside0.mk (Kd.R_below (by (with_reducible repeat (first | apply Kd.R_alloc | apply Kd.R_drewN | apply Kd.R_drew)); exact (Kd.R_mono (Kd.R_far (p := ⟨gb195, 1, none⟩) (Kd.R_far (p := ⟨gb195, 0, none⟩) (Kd.R_types HO_161000.out BK195.out (by decide)) (fun _ hk => hk.2) (.slice Ao136 t189.length co136)) (fun _ hk => hk.2) (.int .i64 t192)) (fun _ h_ => h_.1))) hb); have n1_ := Aside0.mk (Kd.R_below (by (with_reducible repeat (first | apply Kd.R_alloc | apply Kd.R_drewN | apply Kd.R_drew)); exact (Kd.R_mono (Kd.R_far (p := ⟨gb195, 1, none⟩) (Kd.R_far (p := ⟨gb195, 0, none⟩) (Kd.R_types HO_166000.out BK195.out (by decide)) (fun _ hk => hk.2) (.slice Ao136 t189.length co136)) (fun _ hk => hk.2) (.int .i64 t192)) (fun _ h_ => h_.1))) hb); have n2_ := Aside0.mk (Kd.R_below (by (with_reducible repeat (first | apply Kd.R_alloc | apply Kd.R_drewN | apply Kd.R_drew)); exact (Kd.R_mono (Kd.R_far (p := ⟨gb195, 1, none⟩) (Kd.R_far (p := ⟨gb195, 0, none⟩) (Kd.R_types HO_173000.out BK195.out (by decide)) (fun _ hk => hk.2) (.slice Ao136 t189.length co136)) (fun _ hk => hk.2) (.int .i64 t192)) (fun _ h_ => h_.1))) hb); have n3_ := Aside0.mk (Kd.R_below (by (with_reducible repeat (first | apply Kd.R_alloc | apply Kd.R_drewN | apply Kd.R_drew)); exact (Kd.R_mono (Kd.R_far (p := ⟨gb195, 1, none⟩) (Kd.R_far (p := ⟨gb195, 0, none⟩) (Kd.R_types HO187.out BK195.out (by decide)) (fun _ hk => hk.2) (.slice Ao136 t189.length co136)) (fun _ hk => hk.2) (.int .i64 t192)) (fun _ h_ => h_.1))) hb); have n4_ := Aside0.mk (Kd.R_below (by (with_reducible repeat (first | apply Kd.R_alloc | apply Kd.R_drewN | apply Kd.R_drew)); exact (Kd.R_mono (Kd.R_far (p := ⟨gb195, 1, none⟩) (Kd.R_far (p := ⟨gb195, 0, none⟩) (Kd.R_types HO191.out BK195.out (by decide)) (fun _ hk => hk.2) (.slice Ao136 t189.length co136)) (fun _ hk => hk.2) (.int .i64 t192)) (fun _ h_ => h_.1))) hb); have n5_ := Aside0.mk (blk_below (g := gb148) (o := .cells #[.slice A0_0 l0_0.length c0_0, .int .i64 a0_1] 24 (0, 0)) (by (with_reducible repeat (first | refine blk_drewN ?_ _ | refine blk_drew ?_ | refine blk_alloc ?_ _)); refine blk_far ?_ NB148_195.out _; (with_reducible repeat (first | refine blk_drewN ?_ _ | refine blk_drew ?_ | refine blk_alloc ?_ _)); refine blk_far ?_ NB148_195.out _; (with_reducible repeat (first | refine blk_drewN ?_ _ | refine blk_drew ?_ | refine blk_alloc ?_ _)); exact BK148.out) hb); have n6_ := Aside0.mk (blk_below (g := gb160) (o := .cells #[.slice Ao20 t154.length co20, .int .i64 t157] 27 (0, 0)) (by (with_reducible repeat (first | refine blk_drewN ?_ _ | refine blk_drew ?_ | refine blk_alloc ?_ _)); refine blk_far ?_ NB160_195.out _; (with_reducible repeat (first | refine blk_drewN ?_ _ | refine blk_drew ?_ | refine blk_alloc ?_ _)); refine blk_far ?_ NB160_195.out _; (with_reducible repeat (first | refine blk_drewN ?_ _ | refine blk_drew ?_ | refine blk_alloc ?_ _)); exact BK160.out) hb); have n7_ := Aside0.mk (blk_below (g := gb165) (o := .cells #[.slice Ao26 t180.length co26, .int .i64 t164] 27 (0, 0)) (by (with_reducible repeat (first | refine blk_drewN ?_ _ | refine blk_drew ?_ | refine blk_alloc ?_ _)); refine blk_far ?_ NB165_195.out _; (with_reducible repeat (first | refine blk_drewN ?_ _ | refine blk_drew ?_ | refine blk_alloc ?_ _)); refine blk_far ?_ NB165_195.out _; (with_reducible repeat (first | refine blk_drewN ?_ _ | refine blk_drew ?_ | refine blk_alloc ?_ _)); exact BK165.out) hb); have n8_ := Aside0.mk (blk_below (g := gb172) (o := .cells #[.slice Ao32 t166.length co32, .int .i64 t169] 27 (0, 0)) (by (with_reducible repeat (first | refine blk_drewN ?_ _ | refine blk_drew ?_ | refine blk_alloc ?_ _)); refine blk_far ?_ NB172_195.out _; (with_reducible repeat (first | refine blk_drewN ?_ _ | refine blk_drew ?_ | refine blk_alloc ?_ _)); refine blk_far ?_ NB172_195.out _; (with_reducible repeat (first | refine blk_drewN ?_ _ | refine blk_drew ?_ | refine blk_alloc ?_ _)); exact BK172.out) hb); have n9_ := Aside0.mk (blk_below (g := gb195) (o := .cells #[.slice Ao136 t189.length co136, .int .i64 t192] 27 (0, 0)) (by (with_reducible repeat (first | refine blk_drewN ?_ _ | refine blk_drew ?_ | refine blk_alloc ?_ _)); refine blk_put (cs := #[.slice Ao136 t189.length co136, .int .i64 0]) ?_ 1 _ rfl; (with_reducible repeat (first | refine blk_drewN ?_ _ | refine blk_drew ?_ | refine blk_alloc ?_ _)); refine blk_put (cs := #[.slice none 0 0, .int .i64 0]) ?_ 0 _ rfl; (with_reducible repeat (first | refine blk_drewN ?_ _ | refine blk_drew ?_ | refine blk_alloc ?_ _)); exact BK195.out) hb); have n10_ := Aside0.mk (below_step (by repeat (first | (with_reducible first | exact HB.out | apply below_alloc | apply pw_below_drewN | apply below_drew1 | refine below_set ?_ GE148.out | refine below_set ?_ GE160.out | refine below_set ?_ GE165.out | refine below_set ?_ GE172.out | refine below_set ?_ GE195.out) | exact HB.out)) hb); clear HO_161000; clear HO_166000; clear HO_173000; clear HO187; clear HO191; clear BK148; clear BK160; clear BK165; clear BK172; clear BK195; clear HB; have HO_161000 := n0_; have HO_166000 := n1_; have HO_173000 := n2_; have HO187 := n3_; have HO191 := n4_; have BK148 := n5_; have BK160 := n6_; have BK165 := n7_; have BK172 := n8_; have BK195 := n9_; have HB := n10_; clear n0_ n1_ n2_ n3_ n4_ n5_ n6_ n7_ n8_ n9_ n10_; (try clear hb); (try clear hb2); (try clear hk); (try clear hi)))
                          go_meet
                          case rel => exact ⟨_, (true), (by first | rfl | (simp; done) | (simp [*]; done)), H', ⟨by have := HJ10.out; have := HJ68.out; first | omega | exact Nat.le_refl _⟩, ⟨by (try simp only [hl166000_68]); (with_reducible repeat (first | apply Kd.R_alloc | apply Kd.R_drewN | apply Kd.R_drew)); exact Kd.R_mono HO_161000.out (fun _ hk => ⟨hk.1.1.1, ⟨hk.1.1.2, hk.2⟩⟩)⟩, ⟨by (try simp only [hl166000_68]); (with_reducible repeat (first | apply Kd.R_alloc | apply Kd.R_drewN | apply Kd.R_drew)); exact Kd.R_mono HO_166000.out (fun _ hk => ⟨hk.1.1.1, ⟨hk.1.1.2, hk.2⟩⟩)⟩, ⟨by (try simp only [hl166000_68]); (with_reducible repeat (first | apply Kd.R_alloc | apply Kd.R_drewN | apply Kd.R_drew)); exact Kd.R_mono HO_173000.out (fun _ hk => ⟨hk.1.1.1, ⟨hk.1.1.2, hk.2⟩⟩)⟩, ⟨by (try simp only [hl166000_68]); (with_reducible repeat (first | apply Kd.R_alloc | apply Kd.R_drewN | apply Kd.R_drew)); exact Kd.R_mono HO191.out (fun _ hk => ⟨hk.1.1.1.2, ⟨hk.1.1.2, hk.1.2⟩⟩)⟩, ⟨by (try simp only [hl166000_68]); (with_reducible repeat (first | refine blk_drewN ?_ _ | refine blk_drew ?_ | refine blk_alloc ?_ _)); exact BK148.out⟩, ⟨by (try simp only [hl166000_68]); (with_reducible repeat (first | refine blk_drewN ?_ _ | refine blk_drew ?_ | refine blk_alloc ?_ _)); exact BK160.out⟩, ⟨by (try simp only [hl166000_68]); (with_reducible repeat (first | refine blk_drewN ?_ _ | refine blk_drew ?_ | refine blk_alloc ?_ _)); exact BK165.out⟩, ⟨by (try simp only [hl166000_68]); (with_reducible repeat (first | refine blk_drewN ?_ _ | refine blk_drew ?_ | refine blk_alloc ?_ _)); exact BK172.out⟩, ⟨by (try simp only [hl166000_68]); (with_reducible repeat (first | refine blk_drewN ?_ _ | refine blk_drew ?_ | refine blk_alloc ?_ _)); exact BK195.out⟩, ⟨by repeat (first | (with_reducible first | exact HB.out | apply below_alloc | apply pw_below_drewN | apply below_drew1 | refine below_set ?_ GE148.out | refine below_set ?_ GE160.out | refine below_set ?_ GE165.out | refine below_set ?_ GE172.out | refine below_set ?_ GE195.out) | exact HB.out)⟩⟩
                      case rest =>
                        clear HC121
                        try clear c1
                        try clear c2
                        try clear p2
                        try clear c3
                        try clear c3b0
                        try clear c4
                        try clear c5
                        try clear c6
                        try clear c7
                        try clear c8
                        try clear c9
                        try clear c10
                        try clear c11
                        try clear c12
                        try clear c13
                        try clear c14
                        try clear c15
                        try clear c16
                        try clear c17
                        try clear c18
                        try clear c21
                        try clear c27
                        try clear c28
                        try clear c33
                        try clear c34
                        try clear c35
                        try clear c38
                        try clear c39
                        try clear c39b0
                        try clear c39b1
                        try clear c40
                        try clear c41
                        try clear c42
                        try clear c44
                        try clear c45
                        try clear c48
                        try clear c49
                        try clear c50
                        try clear c52
                        try clear c53
                        try clear c56
                        try clear c57
                        try clear c58
                        try clear c60
                        try clear c61
                        try clear c64
                        try clear c67
                        try clear c74
                        try clear c75
                        try clear c76
                        try clear c79
                        try clear c79b0
                        try clear c81
                        try clear c82
                        try clear c82b0
                        try clear c82b1
                        try clear c83
                        try clear c84
                        try clear c85
                        try clear c87
                        try clear c88
                        try clear c91
                        try clear c92
                        try clear c93
                        try clear c95
                        try clear c96
                        try clear c99
                        try clear c100
                        try clear c101
                        try clear c103
                        try clear c104
                        try clear c107
                        try clear c110
                        try clear c110b0
                        try clear c111
                        try clear c112
                        try clear c113
                        try clear c118
                        try clear c118b0
                        try clear c118b1
                        try clear c122
                        try clear c123
                        try clear c124
                        try clear c129
                        try clear c130
                        try clear c137
                        try clear c138
                        try clear c139
                        try clear c140
                        try clear c143
                        try clear c144
                        try clear c144b0
                        try clear c144b1
                        try clear c145
                        try clear c146
                        try clear c147
                        try clear c148
                        try clear c150
                        try clear c151
                        try clear c152
                        try clear c155
                        try clear c156
                        try clear c157
                        try clear c158
                        try clear c160
                        try clear c161
                        try clear c162
                        try clear c165
                        try clear c166
                        try clear c167
                        try clear c168
                        try clear c170
                        try clear c171
                        try clear c172
                        try clear hcz102_0
                        try clear hcz102_1
                        try clear hcz105_0
                        try clear hcz105_1
                        try clear hcz114_0
                        try clear hcz114_1
                        try clear hcz116_0
                        try clear hcz116_1
                        try clear hcz125_0
                        try clear hcz125_1
                        try clear hcz127_0
                        try clear hcz127_1
                        try clear hcz131_0
                        try clear hcz131_1
                        try clear hcz13_0
                        try clear hcz13_1
                        try clear hcz141_0
                        try clear hcz141_1
                        try clear hcz149_0
                        try clear hcz149_1
                        try clear hcz153_0
                        try clear hcz153_1
                        try clear hcz159_0
                        try clear hcz159_1
                        try clear hcz15_0
                        try clear hcz15_1
                        try clear hcz163_0
                        try clear hcz163_1
                        try clear hcz169_0
                        try clear hcz169_1
                        try clear hcz173_0
                        try clear hcz173_1
                        try clear hcz22_0
                        try clear hcz22_1
                        try clear hcz23_0
                        try clear hcz23_1
                        try clear hcz29_0
                        try clear hcz29_1
                        try clear hcz36_0
                        try clear hcz36_1
                        try clear hcz43_0
                        try clear hcz43_1
                        try clear hcz46_0
                        try clear hcz46_1
                        try clear hcz51_0
                        try clear hcz51_1
                        try clear hcz54_0
                        try clear hcz54_1
                        try clear hcz59_0
                        try clear hcz59_1
                        try clear hcz5_0
                        try clear hcz5_1
                        try clear hcz62_0
                        try clear hcz62_1
                        try clear hcz77_0
                        try clear hcz77_1
                        try clear hcz86_0
                        try clear hcz86_1
                        try clear hcz89_0
                        try clear hcz89_1
                        try clear hcz94_0
                        try clear hcz94_1
                        try clear hcz97_0
                        try clear hcz97_1
                        try clear hfz102_0
                        try clear hfz102_1
                        try clear hfz105_0
                        try clear hfz105_1
                        try clear hfz114_0
                        try clear hfz114_1
                        try clear hfz116_0
                        try clear hfz116_1
                        try clear hfz125_0
                        try clear hfz125_1
                        try clear hfz127_0
                        try clear hfz127_1
                        try clear hfz131_0
                        try clear hfz131_1
                        try clear hfz13_0
                        try clear hfz13_1
                        try clear hfz141_0
                        try clear hfz141_1
                        try clear hfz149_0
                        try clear hfz149_1
                        try clear hfz153_0
                        try clear hfz153_1
                        try clear hfz159_0
                        try clear hfz159_1
                        try clear hfz15_0
                        try clear hfz15_1
                        try clear hfz163_0
                        try clear hfz163_1
                        try clear hfz169_0
                        try clear hfz169_1
                        try clear hfz173_0
                        try clear hfz173_1
                        try clear hfz22_0
                        try clear hfz22_1
                        try clear hfz23_0
                        try clear hfz23_1
                        try clear hfz29_0
                        try clear hfz29_1
                        try clear hfz36_0
                        try clear hfz36_1
                        try clear hfz43_0
                        try clear hfz43_1
                        try clear hfz46_0
                        try clear hfz46_1
                        try clear hfz51_0
                        try clear hfz51_1
                        try clear hfz54_0
                        try clear hfz54_1
                        try clear hfz59_0
                        try clear hfz59_1
                        try clear hfz5_0
                        try clear hfz5_1
                        try clear hfz62_0
                        try clear hfz62_1
                        try clear hfz77_0
                        try clear hfz77_1
                        try clear hfz86_0
                        try clear hfz86_1
                        try clear hfz89_0
                        try clear hfz89_1
                        try clear hfz94_0
                        try clear hfz94_1
                        try clear hfz97_0
                        try clear hfz97_1
                        try clear p2
                        obtain ⟨kq, x108_120, rfl, HA, HJ120, HO_161000, HO_166000, HO_173000, HO_196000, BK148, BK160, BK165, BK172, BK195, HB⟩ := hcut
                        have hl173000_120 := (Kd.R_reads' HO_173000.out).1
                        rw [hl173000_120] at HO_173000
                        (try simp only [hl173000_120])
                        (try simp only [hl173000_120] at BK148)
                        (try simp only [hl173000_120] at BK160)
                        (try simp only [hl173000_120] at BK165)
                        (try simp only [hl173000_120] at BK172)
                        (try simp only [hl173000_120] at BK195)
                        (try simp only [hl173000_120] at HO_161000)
                        (try simp only [hl173000_120] at HO_166000)
                        (try simp only [hl173000_120] at HO_196000)
                        cases kq with
                        | zero => exact absurd HA.out (by simp [laws_FnExactTapeTake.j2])
                        | succ kj120 =>
                          have H := HA.out
                          clear HA
                          simp only [laws_FnExactTapeTake.j2] at H
                          by_cases c175 : x108_120 = true
                          · subst c175
                            have H1 : (some false) = some r := by rw [if_pos rfl] at H; exact H
                            clear H
                            have H := H1
                            clear H1
                            obtain rfl := Option.some.inj H
                            go_wp2
                            go_ret
                            exact ⟨by first | rfl | (simp [errW_none, errW_some] <;> rfl) | (simp [*, errW_none, errW_some] <;> rfl), by repeat (first | (with_reducible first | exact HB.out | apply below_alloc | apply pw_below_drewN | apply below_drew1 | refine below_set ?_ GE148.out | refine below_set ?_ GE160.out | refine below_set ?_ GE165.out | refine below_set ?_ GE172.out | refine below_set ?_ GE195.out) | exact HB.out)⟩
                          · replace c175 := Bool.eq_false_iff.mpr c175
                            subst c175
                            have H1 : ((laws_heldTape.f kj120 t183 t169 1).bind fun t197 => (if t197 < 0 then (some false) else (if t197 = t182 then (some true) else (some false)))) = some r := by rw [if_neg (show ¬ (false = true) by decide)] at H; exact H
                            clear H
                            have H := H1
                            clear H1
                            replace H := Option.bind_eq_some_iff.mp H
                            obtain ⟨t197, A1760, H⟩ := H
                            replace H : (if t197 < 0 then (some false) else (if t197 = t182 then (some true) else (some false))) = some r := H
                            have A176 := Aside0.mk A1760
                            clear A1760
                            by_cases c177 : t197 < 0
                            · rw [if_pos c177] at H
                              have c177b0 : decide (t197 < 0) = true := decide_eq_true c177
                              clear c177
                              obtain rfl := Option.some.inj H
                              have hnb178 := NB172_148.out
                              have hnc178 := NB148_172.out
                              have hnb179 := NB172_160.out
                              have hnc179 := NB160_172.out
                              have hnb180 := NB172_165.out
                              have hnc180 := NB165_172.out
                              have hnb181 := NB172_195.out
                              have hnc181 := NB195_172.out
                              have hcz182_0 : wc.cell? ⟨gb172, 0, none⟩ = some (.slice Ao32 t183.length co32) := (blk_cell BK172.out 0).trans rfl
                              have hcz182_1 : wc.cell? ⟨gb172, 1, none⟩ = some (.int .i64 t169) := (blk_cell BK172.out 1).trans rfl
                              have hfz182_0 := blk_frozen BK172.out 0
                              have hfz182_1 := blk_frozen BK172.out 1
                              go_wp2_with (first | ((with_reducible refine gate_callee (f := 18) rfl ?_); refine goesL_ (some 111) rfl rfl Try.func18 (by kernel_rfl) rfl #[.agg #[.slice Ao32 t183.length co32, .int .i64 t169], .int .i64 1] rfl (by (try simp only [List.map_toArray, List.map_cons, List.map_nil]); first | done | rfl | (simp only [List.length_drop, List.length_take]; rfl)) ?_; (with_reducible refine (laws_heldTape.calls kj120 _ _ t183 t169 1 t197 _ ?side1 ?side2 A176.out).mono ?_); (case side1 => repeat (first | exact (Kd.R_reads' HO_173000.out).2.2 | (with_reducible refine Kd.C_alloc ?_ _) | (with_reducible refine Kd.C_drewN ?_ _) | (with_reducible refine Kd.C_drew ?_))); (case side2 => exact (Kd.R_reads' HO_173000.out).2.1); rintro e w183 ⟨rfl, hb⟩; refine ⟨_, rfl, ?_⟩; have n0_ := Aside0.mk (Kd.R_below (by (with_reducible repeat (first | apply Kd.R_alloc | apply Kd.R_drewN | apply Kd.R_drew)); exact HO_161000.out) hb); have n1_ := Aside0.mk (Kd.R_below (by (with_reducible repeat (first | apply Kd.R_alloc | apply Kd.R_drewN | apply Kd.R_drew)); exact HO_166000.out) hb); have n2_ := Aside0.mk (Kd.R_below (by (with_reducible repeat (first | apply Kd.R_alloc | apply Kd.R_drewN | apply Kd.R_drew)); exact HO_173000.out) hb); have n3_ := Aside0.mk (Kd.R_below (by (with_reducible repeat (first | apply Kd.R_alloc | apply Kd.R_drewN | apply Kd.R_drew)); exact HO_196000.out) hb); have n4_ := Aside0.mk (blk_below (g := gb148) (o := .cells #[.slice A0_0 l0_0.length c0_0, .int .i64 a0_1] 24 (0, 0)) (by (with_reducible repeat (first | refine blk_drewN ?_ _ | refine blk_drew ?_ | refine blk_alloc ?_ _)); exact BK148.out) hb); have n5_ := Aside0.mk (blk_below (g := gb160) (o := .cells #[.slice Ao20 t154.length co20, .int .i64 t157] 27 (0, 0)) (by (with_reducible repeat (first | refine blk_drewN ?_ _ | refine blk_drew ?_ | refine blk_alloc ?_ _)); exact BK160.out) hb); have n6_ := Aside0.mk (blk_below (g := gb165) (o := .cells #[.slice Ao26 t180.length co26, .int .i64 t164] 27 (0, 0)) (by (with_reducible repeat (first | refine blk_drewN ?_ _ | refine blk_drew ?_ | refine blk_alloc ?_ _)); exact BK165.out) hb); have n7_ := Aside0.mk (blk_below (g := gb172) (o := .cells #[.slice Ao32 t183.length co32, .int .i64 t169] 27 (0, 0)) (by (with_reducible repeat (first | refine blk_drewN ?_ _ | refine blk_drew ?_ | refine blk_alloc ?_ _)); exact BK172.out) hb); have n8_ := Aside0.mk (blk_below (g := gb195) (o := .cells #[.slice Ao136 t189.length co136, .int .i64 t192] 27 (0, 0)) (by (with_reducible repeat (first | refine blk_drewN ?_ _ | refine blk_drew ?_ | refine blk_alloc ?_ _)); exact BK195.out) hb); have n9_ := Aside0.mk (below_step (by repeat (first | (with_reducible first | exact HB.out | apply below_alloc | apply pw_below_drewN | apply below_drew1 | refine below_set ?_ GE148.out | refine below_set ?_ GE160.out | refine below_set ?_ GE165.out | refine below_set ?_ GE172.out | refine below_set ?_ GE195.out) | exact HB.out)) hb); clear HO_161000; clear HO_166000; clear HO_173000; clear HO_196000; clear BK148; clear BK160; clear BK165; clear BK172; clear BK195; clear HB; have HO_161000 := n0_; have HO_166000 := n1_; have HO_173000 := n2_; have HO_196000 := n3_; have BK148 := n4_; have BK160 := n5_; have BK165 := n6_; have BK172 := n7_; have BK195 := n8_; have HB := n9_; clear n0_ n1_ n2_ n3_ n4_ n5_ n6_ n7_ n8_ n9_; (try clear hb); (try clear hb2); (try clear hk); (try clear hi)))
                              go_ret
                              exact ⟨by first | rfl | (simp [errW_none, errW_some] <;> rfl) | (simp [*, errW_none, errW_some] <;> rfl), by repeat (first | (with_reducible first | exact HB.out | apply below_alloc | apply pw_below_drewN | apply below_drew1 | refine below_set ?_ GE148.out | refine below_set ?_ GE160.out | refine below_set ?_ GE165.out | refine below_set ?_ GE172.out | refine below_set ?_ GE195.out) | exact HB.out)⟩
                            · rw [if_neg c177] at H
                              have c177b0 : decide (t197 < 0) = false := decide_eq_false c177
                              clear c177
                              by_cases c184 : t197 = t182
                              · rw [if_pos c184] at H
                                have c184b0 : (t197 == t182) = true := beq_iff_eq.mpr c184
                                have c184b1 : (t197 != t182) = false := bne_eq_false_iff_eq.mpr c184
                                clear c184
                                obtain rfl := Option.some.inj H
                                have hnb185 := NB172_148.out
                                have hnc185 := NB148_172.out
                                have hnb186 := NB172_160.out
                                have hnc186 := NB160_172.out
                                have hnb187 := NB172_165.out
                                have hnc187 := NB165_172.out
                                have hnb188 := NB172_195.out
                                have hnc188 := NB195_172.out
                                have hcz189_0 : wc.cell? ⟨gb172, 0, none⟩ = some (.slice Ao32 t183.length co32) := (blk_cell BK172.out 0).trans rfl
                                have hcz189_1 : wc.cell? ⟨gb172, 1, none⟩ = some (.int .i64 t169) := (blk_cell BK172.out 1).trans rfl
                                have hfz189_0 := blk_frozen BK172.out 0
                                have hfz189_1 := blk_frozen BK172.out 1
                                go_wp2_with (first | ((with_reducible refine gate_callee (f := 18) rfl ?_); refine goesL_ (some 111) rfl rfl Try.func18 (by kernel_rfl) rfl #[.agg #[.slice Ao32 t183.length co32, .int .i64 t169], .int .i64 1] rfl (by (try simp only [List.map_toArray, List.map_cons, List.map_nil]); first | done | rfl | (simp only [List.length_drop, List.length_take]; rfl)) ?_; (with_reducible refine (laws_heldTape.calls kj120 _ _ t183 t169 1 t197 _ ?side1 ?side2 A176.out).mono ?_); (case side1 => repeat (first | exact (Kd.R_reads' HO_173000.out).2.2 | (with_reducible refine Kd.C_alloc ?_ _) | (with_reducible refine Kd.C_drewN ?_ _) | (with_reducible refine Kd.C_drew ?_))); (case side2 => exact (Kd.R_reads' HO_173000.out).2.1); rintro e w190 ⟨rfl, hb⟩; refine ⟨_, rfl, ?_⟩; have n0_ := Aside0.mk (Kd.R_below (by (with_reducible repeat (first | apply Kd.R_alloc | apply Kd.R_drewN | apply Kd.R_drew)); exact HO_161000.out) hb); have n1_ := Aside0.mk (Kd.R_below (by (with_reducible repeat (first | apply Kd.R_alloc | apply Kd.R_drewN | apply Kd.R_drew)); exact HO_166000.out) hb); have n2_ := Aside0.mk (Kd.R_below (by (with_reducible repeat (first | apply Kd.R_alloc | apply Kd.R_drewN | apply Kd.R_drew)); exact HO_173000.out) hb); have n3_ := Aside0.mk (Kd.R_below (by (with_reducible repeat (first | apply Kd.R_alloc | apply Kd.R_drewN | apply Kd.R_drew)); exact HO_196000.out) hb); have n4_ := Aside0.mk (blk_below (g := gb148) (o := .cells #[.slice A0_0 l0_0.length c0_0, .int .i64 a0_1] 24 (0, 0)) (by (with_reducible repeat (first | refine blk_drewN ?_ _ | refine blk_drew ?_ | refine blk_alloc ?_ _)); exact BK148.out) hb); have n5_ := Aside0.mk (blk_below (g := gb160) (o := .cells #[.slice Ao20 t154.length co20, .int .i64 t157] 27 (0, 0)) (by (with_reducible repeat (first | refine blk_drewN ?_ _ | refine blk_drew ?_ | refine blk_alloc ?_ _)); exact BK160.out) hb); have n6_ := Aside0.mk (blk_below (g := gb165) (o := .cells #[.slice Ao26 t180.length co26, .int .i64 t164] 27 (0, 0)) (by (with_reducible repeat (first | refine blk_drewN ?_ _ | refine blk_drew ?_ | refine blk_alloc ?_ _)); exact BK165.out) hb); have n7_ := Aside0.mk (blk_below (g := gb172) (o := .cells #[.slice Ao32 t183.length co32, .int .i64 t169] 27 (0, 0)) (by (with_reducible repeat (first | refine blk_drewN ?_ _ | refine blk_drew ?_ | refine blk_alloc ?_ _)); exact BK172.out) hb); have n8_ := Aside0.mk (blk_below (g := gb195) (o := .cells #[.slice Ao136 t189.length co136, .int .i64 t192] 27 (0, 0)) (by (with_reducible repeat (first | refine blk_drewN ?_ _ | refine blk_drew ?_ | refine blk_alloc ?_ _)); exact BK195.out) hb); have n9_ := Aside0.mk (below_step (by repeat (first | (with_reducible first | exact HB.out | apply below_alloc | apply pw_below_drewN | apply below_drew1 | refine below_set ?_ GE148.out | refine below_set ?_ GE160.out | refine below_set ?_ GE165.out | refine below_set ?_ GE172.out | refine below_set ?_ GE195.out) | exact HB.out)) hb); clear HO_161000; clear HO_166000; clear HO_173000; clear HO_196000; clear BK148; clear BK160; clear BK165; clear BK172; clear BK195; clear HB; have HO_161000 := n0_; have HO_166000 := n1_; have HO_173000 := n2_; have HO_196000 := n3_; have BK148 := n4_; have BK160 := n5_; have BK165 := n6_; have BK172 := n7_; have BK195 := n8_; have HB := n9_; clear n0_ n1_ n2_ n3_ n4_ n5_ n6_ n7_ n8_ n9_; (try clear hb); (try clear hb2); (try clear hk); (try clear hi)))
                                go_ret
                                exact ⟨by first | rfl | (simp [errW_none, errW_some] <;> rfl) | (simp [*, errW_none, errW_some] <;> rfl), by repeat (first | (with_reducible first | exact HB.out | apply below_alloc | apply pw_below_drewN | apply below_drew1 | refine below_set ?_ GE148.out | refine below_set ?_ GE160.out | refine below_set ?_ GE165.out | refine below_set ?_ GE172.out | refine below_set ?_ GE195.out) | exact HB.out)⟩
                              · rw [if_neg c184] at H
                                have c184b0 : (t197 == t182) = false := beq_eq_false_iff_ne.mpr c184
                                have c184b1 : (t197 != t182) = true := bne_iff_ne.mpr c184
                                obtain rfl := Option.some.inj H
                                have hnb191 := NB172_148.out
                                have hnc191 := NB148_172.out
                                have hnb192 := NB172_160.out
                                have hnc192 := NB160_172.out
                                have hnb193 := NB172_165.out
                                have hnc193 := NB165_172.out
                                have hnb194 := NB172_195.out
                                have hnc194 := NB195_172.out
                                have hcz195_0 : wc.cell? ⟨gb172, 0, none⟩ = some (.slice Ao32 t183.length co32) := (blk_cell BK172.out 0).trans rfl
                                have hcz195_1 : wc.cell? ⟨gb172, 1, none⟩ = some (.int .i64 t169) := (blk_cell BK172.out 1).trans rfl
                                have hfz195_0 := blk_frozen BK172.out 0
                                have hfz195_1 := blk_frozen BK172.out 1
                                go_wp2_with (first | ((with_reducible refine gate_callee (f := 18) rfl ?_); refine goesL_ (some 111) rfl rfl Try.func18 (by kernel_rfl) rfl #[.agg #[.slice Ao32 t183.length co32, .int .i64 t169], .int .i64 1] rfl (by (try simp only [List.map_toArray, List.map_cons, List.map_nil]); first | done | rfl | (simp only [List.length_drop, List.length_take]; rfl)) ?_; (with_reducible refine (laws_heldTape.calls kj120 _ _ t183 t169 1 t197 _ ?side1 ?side2 A176.out).mono ?_); (case side1 => repeat (first | exact (Kd.R_reads' HO_173000.out).2.2 | (with_reducible refine Kd.C_alloc ?_ _) | (with_reducible refine Kd.C_drewN ?_ _) | (with_reducible refine Kd.C_drew ?_))); (case side2 => exact (Kd.R_reads' HO_173000.out).2.1); rintro e w196 ⟨rfl, hb⟩; refine ⟨_, rfl, ?_⟩; have n0_ := Aside0.mk (Kd.R_below (by (with_reducible repeat (first | apply Kd.R_alloc | apply Kd.R_drewN | apply Kd.R_drew)); exact HO_161000.out) hb); have n1_ := Aside0.mk (Kd.R_below (by (with_reducible repeat (first | apply Kd.R_alloc | apply Kd.R_drewN | apply Kd.R_drew)); exact HO_166000.out) hb); have n2_ := Aside0.mk (Kd.R_below (by (with_reducible repeat (first | apply Kd.R_alloc | apply Kd.R_drewN | apply Kd.R_drew)); exact HO_173000.out) hb); have n3_ := Aside0.mk (Kd.R_below (by (with_reducible repeat (first | apply Kd.R_alloc | apply Kd.R_drewN | apply Kd.R_drew)); exact HO_196000.out) hb); have n4_ := Aside0.mk (blk_below (g := gb148) (o := .cells #[.slice A0_0 l0_0.length c0_0, .int .i64 a0_1] 24 (0, 0)) (by (with_reducible repeat (first | refine blk_drewN ?_ _ | refine blk_drew ?_ | refine blk_alloc ?_ _)); exact BK148.out) hb); have n5_ := Aside0.mk (blk_below (g := gb160) (o := .cells #[.slice Ao20 t154.length co20, .int .i64 t157] 27 (0, 0)) (by (with_reducible repeat (first | refine blk_drewN ?_ _ | refine blk_drew ?_ | refine blk_alloc ?_ _)); exact BK160.out) hb); have n6_ := Aside0.mk (blk_below (g := gb165) (o := .cells #[.slice Ao26 t180.length co26, .int .i64 t164] 27 (0, 0)) (by (with_reducible repeat (first | refine blk_drewN ?_ _ | refine blk_drew ?_ | refine blk_alloc ?_ _)); exact BK165.out) hb); have n7_ := Aside0.mk (blk_below (g := gb172) (o := .cells #[.slice Ao32 t183.length co32, .int .i64 t169] 27 (0, 0)) (by (with_reducible repeat (first | refine blk_drewN ?_ _ | refine blk_drew ?_ | refine blk_alloc ?_ _)); exact BK172.out) hb); have n8_ := Aside0.mk (blk_below (g := gb195) (o := .cells #[.slice Ao136 t189.length co136, .int .i64 t192] 27 (0, 0)) (by (with_reducible repeat (first | refine blk_drewN ?_ _ | refine blk_drew ?_ | refine blk_alloc ?_ _)); exact BK195.out) hb); have n9_ := Aside0.mk (below_step (by repeat (first | (with_reducible first | exact HB.out | apply below_alloc | apply pw_below_drewN | apply below_drew1 | refine below_set ?_ GE148.out | refine below_set ?_ GE160.out | refine below_set ?_ GE165.out | refine below_set ?_ GE172.out | refine below_set ?_ GE195.out) | exact HB.out)) hb); clear HO_161000; clear HO_166000; clear HO_173000; clear HO_196000; clear BK148; clear BK160; clear BK165; clear BK172; clear BK195; clear HB; have HO_161000 := n0_; have HO_166000 := n1_; have HO_173000 := n2_; have HO_196000 := n3_; have BK148 := n4_; have BK160 := n5_; have BK165 := n6_; have BK172 := n7_; have BK195 := n8_; have HB := n9_; clear n0_ n1_ n2_ n3_ n4_ n5_ n6_ n7_ n8_ n9_; (try clear hb); (try clear hb2); (try clear hk); (try clear hi)))
                                go_ret
                                exact ⟨by first | rfl | (simp [errW_none, errW_some] <;> rfl) | (simp [*, errW_none, errW_some] <;> rfl), by repeat (first | (with_reducible first | exact HB.out | apply below_alloc | apply pw_below_drewN | apply below_drew1 | refine below_set ?_ GE148.out | refine below_set ?_ GE160.out | refine below_set ?_ GE165.out | refine below_set ?_ GE172.out | refine below_set ?_ GE195.out) | exact HB.out)⟩
                    · rw [if_neg c118] at H
                      have c118b0 : (t184 == t182) = false := beq_eq_false_iff_ne.mpr c118
                      have c118b1 : (t184 != t182) = true := bne_iff_ne.mpr c118
                      obtain rfl := Option.some.inj H
                      have hnb197 := NB172_148.out
                      have hnc197 := NB148_172.out
                      have hnb198 := NB172_160.out
                      have hnc198 := NB160_172.out
                      have hnb199 := NB172_165.out
                      have hnc199 := NB165_172.out
                      have hcz200_0 : wc.cell? ⟨gb172, 0, none⟩ = some (.slice Ao32 t166.length co32) := (blk_cell BK172.out 0).trans rfl
                      have hcz200_1 : wc.cell? ⟨gb172, 1, none⟩ = some (.int .i64 t169) := (blk_cell BK172.out 1).trans rfl
                      have hfz200_0 := blk_frozen BK172.out 0
                      have hfz200_1 := blk_frozen BK172.out 1
                      go_wp2_with (first | ((with_reducible refine gate_callee (f := 17) rfl ?_); refine goesL_ (some 79) rfl rfl Try.func17 (by kernel_rfl) rfl #[.agg #[.slice Ao32 t166.length co32, .int .i64 t169], .int .i64 1] rfl (by (try simp only [List.map_toArray, List.map_cons, List.map_nil]); first | done | rfl | (simp only [List.length_drop, List.length_take]; rfl)) ?_; (with_reducible refine (laws_markTape.calls kj68 (fun k_ => some k_ = (.slice Ao32 t166.length co32 : Value).ownBlock) (.slice Ao32 t166.length co32) t166 t169 1 t182 t183 w _ ?side1 ?side2 A108.out).mono ?_); (case side1 => repeat (first | (with_reducible first | exact HB.out | apply below_alloc | apply pw_below_drewN | apply below_drew1 | refine below_set ?_ GE148.out | refine below_set ?_ GE160.out | refine below_set ?_ GE165.out | refine below_set ?_ GE172.out) | exact HB.out)); (case side2 => exact Kd.R_tight rfl HO_173000.out); rintro e w201 ⟨rfl, hy0, hb, hkp⟩; refine ⟨_, rfl, ?_⟩; have n0_ := Aside0.mk (Kd.R_mono (ok' := fun k_ => some k_ ≠ (.slice Ao26 t180.length co26 : Value).ownBlock ∧ some k_ ≠ (.slice Ao32 t166.length co32 : Value).ownBlock) (Kd.R_keptB (HO_161000.out) hkp (fun k_ hk_ hs_ => (hk_.2) hs_)) (fun k_ hk_ => ⟨hk_.1.1, hk_.1.2⟩)); have n1_ := Aside0.mk (Kd.R_mono (ok' := fun k_ => some k_ ≠ (.slice Ao20 t154.length co20 : Value).ownBlock ∧ some k_ ≠ (.slice Ao32 t166.length co32 : Value).ownBlock) (Kd.R_keptB (HO_166000.out) hkp (fun k_ hk_ hs_ => (hk_.2) hs_)) (fun k_ hk_ => ⟨hk_.1.1, hk_.1.2⟩)); have n2_ := Aside0.mk (Kd.R_reok rfl hy0 (fun k_ e_ => HO_173000.out.1 k_ e_)); have n3_ := Aside0.mk (blk_kept (by (with_reducible repeat (first | refine blk_drewN ?_ _ | refine blk_drew ?_ | refine blk_alloc ?_ _)); exact BK148.out) hkp (fun hs_ => (fun e_ => (Kd.R_ne HO_173000.out BK148.out (by decide)) e_) hs_)); have n4_ := Aside0.mk (blk_kept (by (with_reducible repeat (first | refine blk_drewN ?_ _ | refine blk_drew ?_ | refine blk_alloc ?_ _)); exact BK160.out) hkp (fun hs_ => (fun e_ => (Kd.R_ne HO_173000.out BK160.out (by decide)) e_) hs_)); have n5_ := Aside0.mk (blk_kept (by (with_reducible repeat (first | refine blk_drewN ?_ _ | refine blk_drew ?_ | refine blk_alloc ?_ _)); exact BK165.out) hkp (fun hs_ => (fun e_ => (Kd.R_ne HO_173000.out BK165.out (by decide)) e_) hs_)); have n6_ := Aside0.mk (blk_kept (by (with_reducible repeat (first | refine blk_drewN ?_ _ | refine blk_drew ?_ | refine blk_alloc ?_ _)); exact BK172.out) hkp (fun hs_ => (fun e_ => (Kd.R_ne HO_173000.out BK172.out (by decide)) e_) hs_)); have n7_ := Aside0.mk (hb); clear HO_161000; clear HO_166000; clear HO_173000; clear BK148; clear BK160; clear BK165; clear BK172; clear HB; have HO_161000 := n0_; have HO_166000 := n1_; have HO_173000 := n2_; have BK148 := n3_; have BK160 := n4_; have BK165 := n5_; have BK172 := n6_; have HB := n7_; clear n0_ n1_ n2_ n3_ n4_ n5_ n6_ n7_; (try clear hb); (try clear hkp); (try clear hy0); have hcz202_0 : w201.cell? ⟨gb172, 0, none⟩ = some (.slice Ao32 t166.length co32) := (blk_cell BK172.out 0).trans rfl; have hcz202_1 : w201.cell? ⟨gb172, 1, none⟩ = some (.int .i64 t169) := (blk_cell BK172.out 1).trans rfl; have hfz202_0 := blk_frozen BK172.out 0; have hfz202_1 := blk_frozen BK172.out 1) | ((with_reducible refine gate_callee (f := 18) rfl ?_); refine goesL_ (some 82) rfl rfl Try.func18 (by kernel_rfl) rfl #[.agg #[.slice Ao32 t183.length co32, .int .i64 t169], .int .i64 1] rfl (by (try simp only [List.map_toArray, List.map_cons, List.map_nil]); first | done | (rw [show t183.length = t166.length from (Kd.R_reads' HO_173000.out).1.symm] <;> rfl) | rfl | (simp only [List.length_drop, List.length_take]; rfl)) ?_; (with_reducible refine (laws_heldTape.calls kj68 _ _ t183 t169 1 t184 _ ?side1 ?side2 A109.out).mono ?_); (case side1 => repeat (first | exact (Kd.R_reads' HO_173000.out).2.2 | (with_reducible refine Kd.C_alloc ?_ _) | (with_reducible refine Kd.C_drewN ?_ _) | (with_reducible refine Kd.C_drew ?_))); (case side2 => rw [show t183.length = t166.length from (Kd.R_reads' HO_173000.out).1.symm]; exact (Kd.R_reads' HO_173000.out).2.1); rintro e w203 ⟨rfl, hb⟩; refine ⟨_, rfl, ?_⟩; have n0_ := Aside0.mk (Kd.R_below (by (with_reducible repeat (first | apply Kd.R_alloc | apply Kd.R_drewN | apply Kd.R_drew)); exact HO_161000.out) hb); have n1_ := Aside0.mk (Kd.R_below (by (with_reducible repeat (first | apply Kd.R_alloc | apply Kd.R_drewN | apply Kd.R_drew)); exact HO_166000.out) hb); have n2_ := Aside0.mk (Kd.R_below (by (with_reducible repeat (first | apply Kd.R_alloc | apply Kd.R_drewN | apply Kd.R_drew)); exact HO_173000.out) hb); have n3_ := Aside0.mk (blk_below (g := gb148) (o := .cells #[.slice A0_0 l0_0.length c0_0, .int .i64 a0_1] 24 (0, 0)) (by (with_reducible repeat (first | refine blk_drewN ?_ _ | refine blk_drew ?_ | refine blk_alloc ?_ _)); exact BK148.out) hb); have n4_ := Aside0.mk (blk_below (g := gb160) (o := .cells #[.slice Ao20 t154.length co20, .int .i64 t157] 27 (0, 0)) (by (with_reducible repeat (first | refine blk_drewN ?_ _ | refine blk_drew ?_ | refine blk_alloc ?_ _)); exact BK160.out) hb); have n5_ := Aside0.mk (blk_below (g := gb165) (o := .cells #[.slice Ao26 t180.length co26, .int .i64 t164] 27 (0, 0)) (by (with_reducible repeat (first | refine blk_drewN ?_ _ | refine blk_drew ?_ | refine blk_alloc ?_ _)); exact BK165.out) hb); have n6_ := Aside0.mk (blk_below (g := gb172) (o := .cells #[.slice Ao32 t166.length co32, .int .i64 t169] 27 (0, 0)) (by (with_reducible repeat (first | refine blk_drewN ?_ _ | refine blk_drew ?_ | refine blk_alloc ?_ _)); exact BK172.out) hb); have n7_ := Aside0.mk (below_step (by repeat (first | (with_reducible first | exact HB.out | apply below_alloc | apply pw_below_drewN | apply below_drew1 | refine below_set ?_ GE148.out | refine below_set ?_ GE160.out | refine below_set ?_ GE165.out | refine below_set ?_ GE172.out) | exact HB.out)) hb); clear HO_161000; clear HO_166000; clear HO_173000; clear BK148; clear BK160; clear BK165; clear BK172; clear HB; have HO_161000 := n0_; have HO_166000 := n1_; have HO_173000 := n2_; have BK148 := n3_; have BK160 := n4_; have BK165 := n5_; have BK172 := n6_; have HB := n7_; clear n0_ n1_ n2_ n3_ n4_ n5_ n6_ n7_; (try clear hb); (try clear hb2); (try clear hk); (try clear hi)))
                      go_ret
                      exact ⟨by first | rfl | (simp [errW_none, errW_some] <;> rfl) | (simp [*, errW_none, errW_some] <;> rfl), by repeat (first | (with_reducible first | exact HB.out | apply below_alloc | apply pw_below_drewN | apply below_drew1 | refine below_set ?_ GE148.out | refine below_set ?_ GE160.out | refine below_set ?_ GE165.out | refine below_set ?_ GE172.out) | exact HB.out)⟩
          · replace c67 := Bool.eq_false_iff.mpr c67
            subst c67
            have H1 : (some false) = some r := by rw [if_neg (show ¬ (false = true) by decide)] at H; exact H
            clear H
            have H := H1
            clear H1
            obtain rfl := Option.some.inj H
            try go_wp2
            have n0_ := Aside0.mk (Kd.R_drew HO_161000.out)
            have n1_ := Aside0.mk (Kd.R_drew HO_166000.out)
            have n2_ := Aside0.mk (Kd.R_drew HO_173000.out)
            have n3_ := Aside0.mk (blk_drew BK148.out)
            have n4_ := Aside0.mk (blk_drew BK160.out)
            have n5_ := Aside0.mk (blk_drew BK165.out)
            have n6_ := Aside0.mk (blk_drew BK172.out)
            have n7_ := Aside0.mk (below_drew1 HB.out)
            clear HO_161000
            clear HO_166000
            clear HO_173000
            clear BK148
            clear BK160
            clear BK165
            clear BK172
            clear HB
            have HO_161000 := n0_
            have HO_166000 := n1_
            have HO_173000 := n2_
            have BK148 := n3_
            have BK160 := n4_
            have BK165 := n5_
            have BK172 := n6_
            have HB := n7_
            clear n0_ n1_ n2_ n3_ n4_ n5_ n6_ n7_
            refine start_ (n := 5) (S := fun w' => w'.cell? ⟨gb165, 0, none⟩ = some (.slice Ao26 t161.length co26) ∧ w'.cell? ⟨gb165, 1, none⟩ = some (.int .i64 t164) ∧ w'.cell? ⟨gb148, 0, none⟩ = some (.slice A0_0 l0_0.length c0_0) ∧ w'.cell? ⟨gb148, 1, none⟩ = some (.int .i64 a0_1)) (ds := []) #[false, false, false, false, false] (by kernel_rfl) rfl rfl ⟨(blk_cell BK165.out 0).trans rfl, (blk_cell BK165.out 1).trans rfl, (blk_cell BK148.out 0).trans rfl, (blk_cell BK148.out 1).trans rfl⟩ (fun hHeld => ?_)
            generalize wc.drew = w204 at HO_161000 HO_166000 HO_173000 BK148 BK160 BK165 BK172 HB hHeld ⊢
            refine take_ (i := 0) (N := some 51) (v := ?_) (a' := ?_) #[true, false, false, false, false] rfl rfl (by kernel_rfl) (fun _ _ _ h => h) (Or.inl ⟨by rfl, ?_⟩) hHeld ?_ ?_
            rotate_left
            · rintro w' ⟨s0, s1, s2, s3⟩
              go_simp
              with_reducible rfl
            rotate_left
            · simp only [Act.put, List.setIfInBounds_toArray, List.set_cons_zero, List.set_cons_succ, i64_w, i32_w]
              rfl
            refine take_ (i := 1) (N := some 52) (v := ?_) (a' := ?_) #[true, true, false, false, false] rfl rfl (by kernel_rfl) (fun _ _ _ h => h) (Or.inl ⟨by rfl, ?_⟩) hHeld ?_ ?_
            rotate_left
            · rintro w' ⟨s0, s1, s2, s3⟩
              go_simp
              with_reducible rfl
            rotate_left
            · simp only [Act.put, List.setIfInBounds_toArray, List.set_cons_zero, List.set_cons_succ, i64_w, i32_w]
              rfl
            refine one_ (i := 2) (N := some 53) #[true, true, true, false, false] rfl rfl (by kernel_rfl) (by decide) (fun K hK => ?_)
            refine goes_ Try.func10 (by kernel_rfl) rfl #[.agg #[.slice A0_0 l0_0.length c0_0, .int .i64 a0_1]] (by rfl) rfl rfl (by (try simp only [List.map_toArray, List.map_cons, List.map_nil]); first | done | rfl | (simp only [List.length_drop, List.length_take]; rfl)) ?_
            with_reducible refine (laws_toTape.calls kj10 _ _ l0_0 a0_1 t174 t177 _ ?side1 ?side2 A65.out).mono ?_
            (case side1 => repeat (first | exact (Kd.C_below HR0_0.out HB.out) | (with_reducible refine Kd.C_alloc ?_ _) | (with_reducible refine Kd.C_drewN ?_ _) | (with_reducible refine Kd.C_drew ?_)))
            (case side2 => exact HC0_0.out)
            rintro e w205 ⟨v175, rfl, ho0, hb⟩
            refine ⟨_, rfl, ?_⟩
            have n0_ := Aside0.mk (Kd.R_elder' (by (with_reducible repeat (first | apply Kd.R_alloc | apply Kd.R_drewN | apply Kd.R_drew)); exact HO_161000.out) (Kd.R_base ho0) hb)
            have n1_ := Aside0.mk (Kd.R_elder' (by (with_reducible repeat (first | apply Kd.R_alloc | apply Kd.R_drewN | apply Kd.R_drew)); exact HO_166000.out) (Kd.R_base ho0) hb)
            have n2_ := Aside0.mk (Kd.R_elder' (by (with_reducible repeat (first | apply Kd.R_alloc | apply Kd.R_drewN | apply Kd.R_drew)); exact HO_173000.out) (Kd.R_base ho0) hb)
            have n3_ := Aside0.mk (Kd.R_lower (Kd.R_new' (Kd.R_new' (Kd.R_new' ho0 (Kd.R_lt (by (with_reducible repeat (first | apply Kd.R_alloc | apply Kd.R_drewN | apply Kd.R_drew)); exact HO_161000.out))) (Kd.R_lt (by (with_reducible repeat (first | apply Kd.R_alloc | apply Kd.R_drewN | apply Kd.R_drew)); exact HO_166000.out))) (Kd.R_lt (by (with_reducible repeat (first | apply Kd.R_alloc | apply Kd.R_drewN | apply Kd.R_drew)); exact HO_173000.out))) (below_size (by repeat (first | (with_reducible first | exact HB.out | apply below_alloc | apply pw_below_drewN | apply below_drew1 | refine below_set ?_ GE148.out | refine below_set ?_ GE160.out | refine below_set ?_ GE165.out | refine below_set ?_ GE172.out) | exact HB.out))))
            have n4_ := Aside0.mk (blk_below (g := gb148) (o := .cells #[.slice A0_0 l0_0.length c0_0, .int .i64 a0_1] 24 (0, 0)) (by (with_reducible repeat (first | refine blk_drewN ?_ _ | refine blk_drew ?_ | refine blk_alloc ?_ _)); exact BK148.out) hb)
            have n5_ := Aside0.mk (blk_below (g := gb160) (o := .cells #[.slice Ao20 t154.length co20, .int .i64 t157] 27 (0, 0)) (by (with_reducible repeat (first | refine blk_drewN ?_ _ | refine blk_drew ?_ | refine blk_alloc ?_ _)); exact BK160.out) hb)
            have n6_ := Aside0.mk (blk_below (g := gb165) (o := .cells #[.slice Ao26 t161.length co26, .int .i64 t164] 27 (0, 0)) (by (with_reducible repeat (first | refine blk_drewN ?_ _ | refine blk_drew ?_ | refine blk_alloc ?_ _)); exact BK165.out) hb)
            have n7_ := Aside0.mk (blk_below (g := gb172) (o := .cells #[.slice Ao32 t166.length co32, .int .i64 t169] 27 (0, 0)) (by (with_reducible repeat (first | refine blk_drewN ?_ _ | refine blk_drew ?_ | refine blk_alloc ?_ _)); exact BK172.out) hb)
            have n8_ := Aside0.mk (below_step (by repeat (first | (with_reducible first | exact HB.out | apply below_alloc | apply pw_below_drewN | apply below_drew1 | refine below_set ?_ GE148.out | refine below_set ?_ GE160.out | refine below_set ?_ GE165.out | refine below_set ?_ GE172.out) | exact HB.out)) hb)
            clear HO_161000
            clear HO_166000
            clear HO_173000
            clear BK148
            clear BK160
            clear BK165
            clear BK172
            clear HB
            have HO_161000 := n0_
            have HO_166000 := n1_
            have HO_173000 := n2_
            have HO176 := n3_
            have BK148 := n4_
            have BK160 := n5_
            have BK165 := n6_
            have BK172 := n7_
            have HB := n8_
            clear n0_ n1_ n2_ n3_ n4_ n5_ n6_ n7_ n8_
            (try clear hb)
            (try clear hb2)
            (try clear hk)
            (try clear hi)
            (try clear ho0)
            obtain ⟨Ao206, co206, eo206⟩ := Kd.R_slice HO176.out
            (first | subst eo206 | (injection eo206 with f1_ f2_ f3_; have f4_ := f1_.symm; have f5_ := f3_.symm; clear f1_ f2_ f3_; subst f4_; subst f5_))
            refine hK.out _ _ ⟨(blk_cell BK165.out 0).trans rfl, (blk_cell BK165.out 1).trans rfl, (blk_cell BK148.out 0).trans rfl, (blk_cell BK148.out 1).trans rfl⟩ (fun hHeld => ?_)
            clear hK K
            refine norm_ (a' := ?_) ?_ ?_
            rotate_left
            · show Act.put _ (some 53) _ = _
              simp only [Act.put, List.setIfInBounds_toArray, List.set_cons_zero, List.set_cons_succ, i64_w, i32_w]
              rfl
            refine one_ (i := 3) (N := some 54) #[true, true, true, true, false] rfl rfl (by kernel_rfl) (by decide) (fun K hK => ?_)
            refine goes_ Try.func12 (by kernel_rfl) rfl #[.agg #[.slice Ao26 t161.length co26, .int .i64 t164], .agg #[.slice Ao206 t174.length co206, .int .i64 t177]] (by rfl) rfl rfl (by (try simp only [List.map_toArray, List.map_cons, List.map_nil]); first | done | rfl | (simp only [List.length_drop, List.length_take]; rfl)) ?_
            with_reducible refine (laws_eqTape.calls kj10 _ _ t161 t164 _ _ t174 t177 false _ ?side1 ?side2 ?side3 ?side4 A66.out).mono ?_
            (case side1 => repeat (first | exact (Kd.R_reads' HO_166000.out).2.2 | (with_reducible refine Kd.C_alloc ?_ _) | (with_reducible refine Kd.C_drewN ?_ _) | (with_reducible refine Kd.C_drew ?_)))
            (case side2 => exact (Kd.R_reads' HO_166000.out).2.1)
            (case side3 => repeat (first | exact (Kd.R_reads' HO176.out).2.2 | (with_reducible refine Kd.C_alloc ?_ _) | (with_reducible refine Kd.C_drewN ?_ _) | (with_reducible refine Kd.C_drew ?_)))
            (case side4 => exact (Kd.R_reads' HO176.out).2.1)
            rintro e w207 ⟨rfl, hb⟩
            refine ⟨_, rfl, ?_⟩
            have n0_ := Aside0.mk (Kd.R_below (by (with_reducible repeat (first | apply Kd.R_alloc | apply Kd.R_drewN | apply Kd.R_drew)); exact HO_161000.out) hb)
            have n1_ := Aside0.mk (Kd.R_below (by (with_reducible repeat (first | apply Kd.R_alloc | apply Kd.R_drewN | apply Kd.R_drew)); exact HO_166000.out) hb)
            have n2_ := Aside0.mk (Kd.R_below (by (with_reducible repeat (first | apply Kd.R_alloc | apply Kd.R_drewN | apply Kd.R_drew)); exact HO_173000.out) hb)
            have n3_ := Aside0.mk (Kd.R_below (by (with_reducible repeat (first | apply Kd.R_alloc | apply Kd.R_drewN | apply Kd.R_drew)); exact HO176.out) hb)
            have n4_ := Aside0.mk (blk_below (g := gb148) (o := .cells #[.slice A0_0 l0_0.length c0_0, .int .i64 a0_1] 24 (0, 0)) (by (with_reducible repeat (first | refine blk_drewN ?_ _ | refine blk_drew ?_ | refine blk_alloc ?_ _)); exact BK148.out) hb)
            have n5_ := Aside0.mk (blk_below (g := gb160) (o := .cells #[.slice Ao20 t154.length co20, .int .i64 t157] 27 (0, 0)) (by (with_reducible repeat (first | refine blk_drewN ?_ _ | refine blk_drew ?_ | refine blk_alloc ?_ _)); exact BK160.out) hb)
            have n6_ := Aside0.mk (blk_below (g := gb165) (o := .cells #[.slice Ao26 t161.length co26, .int .i64 t164] 27 (0, 0)) (by (with_reducible repeat (first | refine blk_drewN ?_ _ | refine blk_drew ?_ | refine blk_alloc ?_ _)); exact BK165.out) hb)
            have n7_ := Aside0.mk (blk_below (g := gb172) (o := .cells #[.slice Ao32 t166.length co32, .int .i64 t169] 27 (0, 0)) (by (with_reducible repeat (first | refine blk_drewN ?_ _ | refine blk_drew ?_ | refine blk_alloc ?_ _)); exact BK172.out) hb)
            have n8_ := Aside0.mk (below_step (by repeat (first | (with_reducible first | exact HB.out | apply below_alloc | apply pw_below_drewN | apply below_drew1 | refine below_set ?_ GE148.out | refine below_set ?_ GE160.out | refine below_set ?_ GE165.out | refine below_set ?_ GE172.out) | exact HB.out)) hb)
            clear HO_161000
            clear HO_166000
            clear HO_173000
            clear HO176
            clear BK148
            clear BK160
            clear BK165
            clear BK172
            clear HB
            have HO_161000 := n0_
            have HO_166000 := n1_
            have HO_173000 := n2_
            have HO176 := n3_
            have BK148 := n4_
            have BK160 := n5_
            have BK165 := n6_
            have BK172 := n7_
            have HB := n8_
            clear n0_ n1_ n2_ n3_ n4_ n5_ n6_ n7_ n8_
            (try clear hb)
            (try clear hb2)
            (try clear hk)
            (try clear hi)
            refine hK.out _ _ ⟨(blk_cell BK165.out 0).trans rfl, (blk_cell BK165.out 1).trans rfl, (blk_cell BK148.out 0).trans rfl, (blk_cell BK148.out 1).trans rfl⟩ (fun hHeld => ?_)
            clear hK K
            refine norm_ (a' := ?_) ?_ ?_
            rotate_left
            · show Act.put _ (some 54) _ = _
              simp only [Act.put, List.setIfInBounds_toArray, List.set_cons_zero, List.set_cons_succ, i64_w, i32_w]
              rfl
            refine pure_ (i := 4) (N := some 55) (v := ?_) (a' := ?_) #[true, true, true, true, true] rfl rfl (by kernel_rfl) (fun _ _ _ h => h) (Or.inl ⟨by rfl, ?_⟩) ?_ ?_
            rotate_left
            · intro w'
              go_simp
              with_reducible rfl
            rotate_left
            · simp only [Act.put, List.setIfInBounds_toArray, List.set_cons_zero, List.set_cons_succ, i64_w, i32_w]
              rfl
            refine done_ (by kernel_rfl) ?_
            try go_wp2
            go_ret
            exact ⟨by first | rfl | (simp [errW_none, errW_some] <;> rfl) | (simp [*, errW_none, errW_some] <;> rfl), by repeat (first | (with_reducible first | exact HB.out | apply below_alloc | apply pw_below_drewN | apply below_drew1 | refine below_set ?_ GE148.out | refine below_set ?_ GE160.out | refine below_set ?_ GE165.out | refine below_set ?_ GE172.out) | exact HB.out)⟩

end Go.Proofs.Ytlconckfiilfoaa.PFnExactTapeTake
