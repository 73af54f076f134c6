/- The functions that the law FnEditsLeast reaches, as plain Lean functions, and the walks that show that Go comes to their answers; part 5. Its lines are the print's, turned where Lean refused them. -/
import Derived.Test.YtnmalfhdndnelaaQFnEditsLeastx0
import Derived.Test.YtnmalfhdndnelaaQFnEditsLeastx1
import Derived.Test.YtnmalfhdndnelaaQFnEditsLeastx3
import Derived.Test.YtnmalfhdndnelaaQFnEditsLeastx4
namespace Go.Proofs.Ytnmalfhdndnelaa.PFnEditsLeast
open Go.RowKit Go.Proofs.YtnmalfhdndnelaaW.PrintWords Go.Proofs.YtnmalfhdndnelaaW.PrintLast Go.Proofs.YtnmalfhdndnelaaW.PrintMore
attribute [local go_sem] max2_int min2_int max_two min_two max_three min_three max_four min_four   -- for this text's walks alone
set_option linter.unusedVariables false
set_option linter.unusedSimpArgs false

/-! ### spec_Distance: function 36 -/
def spec_Distance.f (k : Nat) (a0 : ByteArray) (a1 : ByteArray) : Option (Int) := (spec_l05Long.f a0 a1).bind fun t177 => (if t177 = true then (some (-1)) else ((spec_l05Table.f k a0 a1).bind fun t178 => (if 0 < (t178.length : Int) then (if 0 < ((rd_L2 t178 0).length : Int) then (some (rd (rd_L2 t178 0) 0)) else (none)) else (none))))
theorem spec_Distance.mono : ∀ a0 a1 k, LeO (spec_Distance.f k a0 a1) (spec_Distance.f (k + 1) a0 a1) := by
 intro a0 a1 k
 unfold spec_Distance.f
 repeat' first
   | (with_reducible exact spec_l05Table.mono _ _ _)
   | (with_reducible exact LeO.refl _)
   | (with_reducible exact LeO.none _)
   | (with_reducible refine LeO.ite ?_ ?_)
   | (with_reducible refine LeO.bind ?_ (fun _ => ?_))
   | exact spec_l05Table.mono _ _ _
   | exact LeO.none _
   | refine LeO.ite ?_ ?_
   | refine LeO.bind ?_ (fun _ => ?_)
set_option maxHeartbeats 8000000 in
set_option maxRecDepth 100000 in
theorem spec_Distance.calls (k : Nat) (a0 : ByteArray) (a1 : ByteArray) (r : Int) (w : World) (h : spec_Distance.f k a0 a1 = some r) :
  Calls Try.prog 36 #[.string a0, .string a1] w fun e w' => e = .returned (.int .i64 r) ∧ Below w.heap.size w w' := by
 have HB := Aside0.mk (Below.refl w.heap.size w)
 have H : ((spec_l05Long.f a0 a1).bind fun t177 => (if t177 = true then (some (-1)) else ((spec_l05Table.f k a0 a1).bind fun t178 => (if 0 < (t178.length : Int) then (if 0 < ((rd_L2 t178 0).length : Int) then (some (rd (rd_L2 t178 0) 0)) else (none)) else (none))))) = some r := h
 clear h
 replace H := Option.bind_eq_some_iff.mp H
 obtain ⟨t177, A30, H⟩ := H
 replace H : (if t177 = true then (some (-1)) else ((spec_l05Table.f k a0 a1).bind fun t178 => (if 0 < (t178.length : Int) then (if 0 < ((rd_L2 t178 0).length : Int) then (some (rd (rd_L2 t178 0) 0)) else (none)) else (none)))) = some r := H
 have A3 := Aside0.mk A30
 clear A30
 by_cases c4 : t177 = true
 ·subst c4
  have H1 : (some (-1)) = some r := by rw [if_pos rfl] at H; exact H
  clear H
  have H := H1
  clear H1
  obtain rfl := Option.some.inj H
  go_enter Try.func36, Try.ntmps36
  go_wp2_with (first | ((with_reducible refine gate_callee (f := 62) rfl ?_); refine goesL_ (some 7) rfl rfl Try.func62 (by kernel_rfl) rfl #[.string a0, .string a1] rfl (by (try simp only [List.map_toArray, List.map_cons, List.map_nil]); first | done | rfl | (simp only [List.length_drop, List.length_take]; rfl)) ?_; (with_reducible refine (spec_l05Long.calls a0 a1 true _ A3.out).mono ?_); rintro e w' ⟨rfl, ⟨nd, rfl⟩⟩; refine ⟨_, rfl, ?_⟩))
  go_ret
  exact ⟨by first | rfl | (simp [errW_none, errW_some] <;> rfl) | (simp [*, errW_none, errW_some] <;> rfl), by repeat (first | (with_reducible first | exact HB.out | apply below_alloc | apply pw_below_drewN | apply below_drew1) | exact HB.out)⟩
 ·replace c4 := Bool.eq_false_iff.mpr c4
  subst c4
  have H1 : ((spec_l05Table.f k a0 a1).bind fun t178 => (if 0 < (t178.length : Int) then (if 0 < ((rd_L2 t178 0).length : Int) then (some (rd (rd_L2 t178 0) 0)) else (none)) else (none))) = some r := by rw [if_neg (show ¬ (false = true) by decide)] at H; exact H
  clear H
  have H := H1
  clear H1
  replace H := Option.bind_eq_some_iff.mp H
  obtain ⟨t178, A50, H⟩ := H
  replace H : (if 0 < (t178.length : Int) then (if 0 < ((rd_L2 t178 0).length : Int) then (some (rd (rd_L2 t178 0) 0)) else (none)) else (none)) = some r := H
  have A5 := Aside0.mk A50
  clear A50
  by_cases c6 : 0 < (t178.length : Int)
  ·rw [if_pos c6] at H
   have c6b0 : decide (0 < (t178.length : Int)) = true := decide_eq_true c6
   have c6b1 : decide (0 < t178.length) = true := decide_eq_true (by omega)
   clear c6
   by_cases c7 : 0 < ((rd_L2 t178 0).length : Int)
   ·rw [if_pos c7] at H
    have c7b0 : decide (0 < ((rd_L2 t178 0).length : Int)) = true := decide_eq_true c7
    have c7b1 : decide (0 < (rd_L2 t178 0).length) = true := decide_eq_true (by omega)
    clear c7
    obtain rfl := Option.some.inj H
    go_enter Try.func36, Try.ntmps36
    go_wp2_with (first | ((with_reducible refine gate_callee (f := 62) rfl ?_); refine goesL_ (some 7) rfl rfl Try.func62 (by kernel_rfl) rfl #[.string a0, .string a1] rfl (by (try simp only [List.map_toArray, List.map_cons, List.map_nil]); first | done | rfl | (simp only [List.length_drop, List.length_take]; rfl)) ?_; (with_reducible refine (spec_l05Long.calls a0 a1 false _ A3.out).mono ?_); rintro e w' ⟨rfl, ⟨nd, rfl⟩⟩; refine ⟨_, rfl, ?_⟩) | ((with_reducible refine gate_callee (f := 63) rfl ?_); refine goesL_ (some 10) rfl rfl Try.func63 (by kernel_rfl) rfl #[.string a0, .string a1] rfl (by (try simp only [List.map_toArray, List.map_cons, List.map_nil]); first | done | rfl | (simp only [List.length_drop, List.length_take]; rfl)) ?_; (with_reducible refine (spec_l05Table.calls k a0 a1 t178 _ A5.out).mono ?_); rintro e w8 ⟨v179, rfl, ho0, hb⟩; refine ⟨_, rfl, ?_⟩; have n0_ := Aside0.mk (Kd.S_lower ho0 (below_size (by repeat (first | (with_reducible first | exact HB.out | apply below_alloc | apply pw_below_drewN | apply below_drew1) | exact HB.out)))); have n1_ := Aside0.mk (below_step (by repeat (first | (with_reducible first | exact HB.out | apply below_alloc | apply pw_below_drewN | apply below_drew1) | exact HB.out)) hb); clear HB; have HO180 := n0_; have HB := n1_; clear n0_ n1_; (try clear hb); (try clear hb2); (try clear hk); (try clear hi); (try clear ho0); obtain ⟨Ao9, co9, eo9⟩ := Kd.S_slice HO180.out; subst eo9; have p181 : 0 ≤ (0 : Int) := (by omega); have q181 : 0 < (t178.length : Int) := of_decide_eq_true (by first | (with_reducible assumption) | assumption); obtain ⟨ad181, A181_0, c181_0, e181, hx181_0, hl181_0, hi181_0⟩ := at_L2 (Kd.S_reads' HO180.out).2.2 0 p181 q181; cases e181; obtain ⟨ce181, hce181, hMe181, hcc181⟩ := Kd.S_get HO180.out [] 0 p181 (by first | exact q181 | exact of_decide_eq_true (by first | (with_reducible assumption) | assumption) | (have e_ := (Kd.S_reads' HO180.out).1; omega)); obtain ⟨ve181_0, rfl, ge181_0⟩ := hMe181; have hv181_0 := hcc181 0 _ rfl; rw [Nat.add_zero, show ((Kd.slice 3 (Kd.int .i64))).sz = 1 from rfl, Nat.mul_one] at hv181_0; replace hv181_0 := Option.some.inj (hv181_0.symm.trans hx181_0); rw [hv181_0] at ge181_0; have HL181_0 := Aside0.mk (show Kd.R (Kd.int .i64) 3 _ _ _ _ (rd_L2 t178 0) from ge181_0); clear hv181_0 ge181_0; clear hcc181 hce181; have qi181 : (0 < t178.length) = True := eq_true (by omega); (try rw [show ((0 : Int)).toNat = 0 from rfl] at hx181_0); (try rw [Addr.add_zero'] at hx181_0); have HR181_0 := Aside0.mk hi181_0; have HC181_0 := Aside0.mk hl181_0; clear hi181_0 hl181_0; replace p181 := eq_true p181; replace q181 := eq_true q181; have p182 : 0 ≤ (0 : Int) := (by omega); have q182 : 0 < ((rd_L2 t178 0).length : Int) := of_decide_eq_true (by first | (with_reducible assumption) | assumption); obtain ⟨ad182, e182, hx182_0⟩ := Kd.at_int (by repeat (first | (with_reducible exact HR181_0.out) | (with_reducible refine Kd.C_alloc ?_ _) | (with_reducible refine Kd.C_drewN ?_ _) | (with_reducible refine Kd.C_drew ?_) | exact HR181_0.out)) 0 p182 q182; cases e182; have qi182 : (0 < (rd_L2 t178 0).length) = True := eq_true (by omega); (try rw [show ((0 : Int)).toNat = 0 from rfl] at hx182_0); (try rw [Addr.add_zero'] at hx182_0); replace p182 := eq_true p182; replace q182 := eq_true q182))
    go_ret
    exact ⟨by first | rfl | (simp [errW_none, errW_some] <;> rfl) | (simp [*, errW_none, errW_some] <;> rfl), by repeat (first | (with_reducible first | exact HB.out | apply below_alloc | apply pw_below_drewN | apply below_drew1) | exact HB.out)⟩
   ·rw [if_neg c7] at H
    exact absurd H (by simp)
  ·rw [if_neg c6] at H
   exact absurd H (by simp)

/-! ### impl_EditCost: function 47 -/
mutual
def impl_EditCost.j0 : Nat → ByteArray → ByteArray → ByteArray → Bool → Option (Int)
 | 0, _, _, _, _ => none
 | k + 1, x0, x1, x2, x20 => if x20 = true then (some (-1)) else (impl_EditCost.l0 k x0 x1 x2 0 0 0 (x0.size : Int) 0)
def impl_EditCost.l0 : Nat → ByteArray → ByteArray → ByteArray → Int → Int → Int → Int → Int → Option (Int)
 | 0, _, _, _, _, _, _, _, _ => none
 | k + 1, x0, x1, x2, x7, x8, x9, x22, x23 => if x23 < x22 then (if 0 ≤ x23 then (if x23 < (x0.size : Int) then (if (bt x0 x23) = 100 then (if x7 = (x1.size : Int) then (impl_EditCost.j2 k x0 x1 x2 x7 x8 x9 (bt x0 x23) x22 x23 true) else (if (bt x0 x23) = 105 then (impl_EditCost.j2 k x0 x1 x2 x7 x8 x9 (bt x0 x23) x22 x23 (x8 == (x2.size : Int))) else (if (bt x0 x23) = 107 then (impl_EditCost.j2 k x0 x1 x2 x7 x8 x9 (bt x0 x23) x22 x23 (x8 == (x2.size : Int))) else (if (bt x0 x23) = 115 then (impl_EditCost.j2 k x0 x1 x2 x7 x8 x9 (bt x0 x23) x22 x23 (x8 == (x2.size : Int))) else (impl_EditCost.j2 k x0 x1 x2 x7 x8 x9 (bt x0 x23) x22 x23 false))))) else (if (bt x0 x23) = 107 then (if x7 = (x1.size : Int) then (impl_EditCost.j2 k x0 x1 x2 x7 x8 x9 (bt x0 x23) x22 x23 true) else (if (bt x0 x23) = 105 then (impl_EditCost.j2 k x0 x1 x2 x7 x8 x9 (bt x0 x23) x22 x23 (x8 == (x2.size : Int))) else (impl_EditCost.j2 k x0 x1 x2 x7 x8 x9 (bt x0 x23) x22 x23 (x8 == (x2.size : Int))))) else (if (bt x0 x23) = 115 then (if x7 = (x1.size : Int) then (impl_EditCost.j2 k x0 x1 x2 x7 x8 x9 (bt x0 x23) x22 x23 true) else (if (bt x0 x23) = 105 then (impl_EditCost.j2 k x0 x1 x2 x7 x8 x9 (bt x0 x23) x22 x23 (x8 == (x2.size : Int))) else (impl_EditCost.j2 k x0 x1 x2 x7 x8 x9 (bt x0 x23) x22 x23 (x8 == (x2.size : Int))))) else (if (bt x0 x23) = 105 then (impl_EditCost.j2 k x0 x1 x2 x7 x8 x9 (bt x0 x23) x22 x23 (x8 == (x2.size : Int))) else (impl_EditCost.j2 k x0 x1 x2 x7 x8 x9 (bt x0 x23) x22 x23 false))))) else (none)) else (none)) else (if x7 < (x1.size : Int) then (some (-1)) else (if x8 < (x2.size : Int) then (some (-1)) else (some x9)))
def impl_EditCost.j2 : Nat → ByteArray → ByteArray → ByteArray → Int → Int → Int → Int → Int → Int → Bool → Option (Int)
 | 0, _, _, _, _, _, _, _, _, _, _ => none
 | k + 1, x0, x1, x2, x7, x8, x9, x11, x22, x23, x62 => if x62 = true then (some (-1)) else (if x11 = 100 then (if x11 = 107 then (impl_EditCost.l0 k x0 x1 x2 (wrap64 (x7 + 1)) x8 x9 x22 (wrap64 (x23 + 1))) else (impl_EditCost.l0 k x0 x1 x2 (wrap64 (x7 + 1)) x8 (wrap64 (x9 + 1)) x22 (wrap64 (x23 + 1)))) else (if x11 = 105 then (if x11 = 107 then (impl_EditCost.l0 k x0 x1 x2 x7 (wrap64 (x8 + 1)) x9 x22 (wrap64 (x23 + 1))) else (impl_EditCost.l0 k x0 x1 x2 x7 (wrap64 (x8 + 1)) (wrap64 (x9 + 1)) x22 (wrap64 (x23 + 1)))) else (if x11 = 107 then (impl_EditCost.j3 k x0 x1 x2 x7 x8 x9 x11 x22 x23 (x11 == 107)) else (impl_EditCost.j3 k x0 x1 x2 x7 x8 x9 x11 x22 x23 (x11 == 115)))))
def impl_EditCost.j3 : Nat → ByteArray → ByteArray → ByteArray → Int → Int → Int → Int → Int → Int → Bool → Option (Int)
 | 0, _, _, _, _, _, _, _, _, _, _ => none
 | k + 1, x0, x1, x2, x7, x8, x9, x11, x22, x23, x72 => if x72 = true then (if 0 ≤ x7 then (if x7 < (x1.size : Int) then (if 0 ≤ x8 then (if x8 < (x2.size : Int) then (if (((bt x1 x7) == (bt x2 x8)) != (x11 == 107)) = true then (some (-1)) else (if x11 = 107 then (impl_EditCost.l0 k x0 x1 x2 (wrap64 (x7 + 1)) (wrap64 (x8 + 1)) x9 x22 (wrap64 (x23 + 1))) else (impl_EditCost.l0 k x0 x1 x2 (wrap64 (x7 + 1)) (wrap64 (x8 + 1)) (wrap64 (x9 + 1)) x22 (wrap64 (x23 + 1))))) else (none)) else (none)) else (none)) else (none)) else (some (-1))
end
def impl_EditCost.f (k : Nat) (a0 : ByteArray) (a1 : ByteArray) (a2 : ByteArray) : Option (Int) := (impl_areShort.f a1 a2).bind fun t183 => (if t183 = true then (impl_EditCost.j0 k a0 a1 a2 (decide ((a0.size : Int) > 64))) else (impl_EditCost.j0 k a0 a1 a2 true))
theorem impl_EditCost.mono_l : ∀ k, (∀ y0 y1 y2 y3, LeO (impl_EditCost.j0 k y0 y1 y2 y3) (impl_EditCost.j0 (k + 1) y0 y1 y2 y3)) ∧ (∀ y0 y1 y2 y3 y4 y5 y6 y7, LeO (impl_EditCost.l0 k y0 y1 y2 y3 y4 y5 y6 y7) (impl_EditCost.l0 (k + 1) y0 y1 y2 y3 y4 y5 y6 y7)) ∧ (∀ y0 y1 y2 y3 y4 y5 y6 y7 y8 y9, LeO (impl_EditCost.j2 k y0 y1 y2 y3 y4 y5 y6 y7 y8 y9) (impl_EditCost.j2 (k + 1) y0 y1 y2 y3 y4 y5 y6 y7 y8 y9)) ∧ (∀ y0 y1 y2 y3 y4 y5 y6 y7 y8 y9, LeO (impl_EditCost.j3 k y0 y1 y2 y3 y4 y5 y6 y7 y8 y9) (impl_EditCost.j3 (k + 1) y0 y1 y2 y3 y4 y5 y6 y7 y8 y9))
 | 0 => ⟨fun _ _ _ _ r h => by simp [impl_EditCost.j0] at h, fun _ _ _ _ _ _ _ _ r h => by simp [impl_EditCost.l0] at h, fun _ _ _ _ _ _ _ _ _ _ r h => by simp [impl_EditCost.j2] at h, fun _ _ _ _ _ _ _ _ _ _ r h => by simp [impl_EditCost.j3] at h⟩
 | k + 1 => by
  obtain ⟨ih0, ih1, ih2, ih3⟩ := impl_EditCost.mono_l k
  refine ⟨?_, ?_, ?_, ?_⟩
  ·intro y0 y1 y2 y3
   unfold impl_EditCost.j0
   repeat' first
   | (with_reducible exact ih0 _ _ _ _)
   | (with_reducible exact ih1 _ _ _ _ _ _ _ _)
   | (with_reducible exact ih2 _ _ _ _ _ _ _ _ _ _)
   | (with_reducible exact ih3 _ _ _ _ _ _ _ _ _ _)
   | (with_reducible exact LeO.refl _)
   | (with_reducible exact LeO.none _)
   | (with_reducible refine LeO.ite ?_ ?_)
   | (with_reducible refine LeO.bind ?_ (fun _ => ?_))
   | exact ih0 _ _ _ _
   | exact ih1 _ _ _ _ _ _ _ _
   | exact ih2 _ _ _ _ _ _ _ _ _ _
   | exact ih3 _ _ _ _ _ _ _ _ _ _
   | exact LeO.none _
   | refine LeO.ite ?_ ?_
   | refine LeO.bind ?_ (fun _ => ?_)
  ·intro y0 y1 y2 y3 y4 y5 y6 y7
   unfold impl_EditCost.l0
   repeat' first
   | (with_reducible exact ih0 _ _ _ _)
   | (with_reducible exact ih1 _ _ _ _ _ _ _ _)
   | (with_reducible exact ih2 _ _ _ _ _ _ _ _ _ _)
   | (with_reducible exact ih3 _ _ _ _ _ _ _ _ _ _)
   | (with_reducible exact LeO.refl _)
   | (with_reducible exact LeO.none _)
   | (with_reducible refine LeO.ite ?_ ?_)
   | (with_reducible refine LeO.bind ?_ (fun _ => ?_))
   | exact ih0 _ _ _ _
   | exact ih1 _ _ _ _ _ _ _ _
   | exact ih2 _ _ _ _ _ _ _ _ _ _
   | exact ih3 _ _ _ _ _ _ _ _ _ _
   | exact LeO.none _
   | refine LeO.ite ?_ ?_
   | refine LeO.bind ?_ (fun _ => ?_)
  ·intro y0 y1 y2 y3 y4 y5 y6 y7 y8 y9
   unfold impl_EditCost.j2
   repeat' first
   | (with_reducible exact ih0 _ _ _ _)
   | (with_reducible exact ih1 _ _ _ _ _ _ _ _)
   | (with_reducible exact ih2 _ _ _ _ _ _ _ _ _ _)
   | (with_reducible exact ih3 _ _ _ _ _ _ _ _ _ _)
   | (with_reducible exact LeO.refl _)
   | (with_reducible exact LeO.none _)
   | (with_reducible refine LeO.ite ?_ ?_)
   | (with_reducible refine LeO.bind ?_ (fun _ => ?_))
   | exact ih0 _ _ _ _
   | exact ih1 _ _ _ _ _ _ _ _
   | exact ih2 _ _ _ _ _ _ _ _ _ _
   | exact ih3 _ _ _ _ _ _ _ _ _ _
   | exact LeO.none _
   | refine LeO.ite ?_ ?_
   | refine LeO.bind ?_ (fun _ => ?_)
  ·intro y0 y1 y2 y3 y4 y5 y6 y7 y8 y9
   unfold impl_EditCost.j3
   repeat' first
   | (with_reducible exact ih0 _ _ _ _)
   | (with_reducible exact ih1 _ _ _ _ _ _ _ _)
   | (with_reducible exact ih2 _ _ _ _ _ _ _ _ _ _)
   | (with_reducible exact ih3 _ _ _ _ _ _ _ _ _ _)
   | (with_reducible exact LeO.refl _)
   | (with_reducible exact LeO.none _)
   | (with_reducible refine LeO.ite ?_ ?_)
   | (with_reducible refine LeO.bind ?_ (fun _ => ?_))
   | exact ih0 _ _ _ _
   | exact ih1 _ _ _ _ _ _ _ _
   | exact ih2 _ _ _ _ _ _ _ _ _ _
   | exact ih3 _ _ _ _ _ _ _ _ _ _
   | exact LeO.none _
   | refine LeO.ite ?_ ?_
   | refine LeO.bind ?_ (fun _ => ?_)
theorem impl_EditCost.mono : ∀ a0 a1 a2 k, LeO (impl_EditCost.f k a0 a1 a2) (impl_EditCost.f (k + 1) a0 a1 a2) := by
 intro a0 a1 a2 k
 obtain ⟨ih0, ih1, ih2, ih3⟩ := impl_EditCost.mono_l k
 unfold impl_EditCost.f
 repeat' first
   | (with_reducible exact ih0 _ _ _ _)
   | (with_reducible exact ih1 _ _ _ _ _ _ _ _)
   | (with_reducible exact ih2 _ _ _ _ _ _ _ _ _ _)
   | (with_reducible exact ih3 _ _ _ _ _ _ _ _ _ _)
   | (with_reducible exact LeO.refl _)
   | (with_reducible exact LeO.none _)
   | (with_reducible refine LeO.ite ?_ ?_)
   | (with_reducible refine LeO.bind ?_ (fun _ => ?_))
   | exact ih0 _ _ _ _
   | exact ih1 _ _ _ _ _ _ _ _
   | exact ih2 _ _ _ _ _ _ _ _ _ _
   | exact ih3 _ _ _ _ _ _ _ _ _ _
   | exact LeO.none _
   | refine LeO.ite ?_ ?_
   | refine LeO.bind ?_ (fun _ => ?_)
set_option maxHeartbeats 8000000 in
set_option maxRecDepth 100000 in
theorem impl_EditCost.calls (k : Nat) (a0 : ByteArray) (a1 : ByteArray) (a2 : ByteArray) (r : Int) (w : World) (h : impl_EditCost.f k a0 a1 a2 = some r) :
  Calls Try.prog 47 #[.string a0, .string a1, .string a2] w fun e w' => e = .returned (.int .i64 r) ∧ Drawn0 w w' := by
 have H : ((impl_areShort.f a1 a2).bind fun t183 => (if t183 = true then (impl_EditCost.j0 k a0 a1 a2 (decide ((a0.size : Int) > 64))) else (impl_EditCost.j0 k a0 a1 a2 true))) = some r := h
 clear h
 have HC4 := Aside0.mk H
 clear H
 go_enter Try.func47, Try.ntmps47
 go_upto_region 1 with (fail)
 repeat (go_quiet (fail); go_upto_region 1 with (fail))
 go_cut [20] (fun v20 wc => ∃ (kq : Nat) (x20_3 : Bool), v20 = .bool x20_3 ∧ Aside0 (impl_EditCost.j0 kq a0 a1 a2 x20_3 = some r) ∧ Aside0 (kq ≤ k) ∧ Drawn0 w wc)
 case first =>
  have H := HC4.out
  clear HC4
  replace H := Option.bind_eq_some_iff.mp H
  obtain ⟨t183, A50, H⟩ := H
  replace H : (if t183 = true then (impl_EditCost.j0 k a0 a1 a2 (decide ((a0.size : Int) > 64))) else (impl_EditCost.j0 k a0 a1 a2 true)) = some r := H
  have A5 := Aside0.mk A50
  clear A50
  by_cases c6 : t183 = true
  ·subst c6
   have H1 : (impl_EditCost.j0 k a0 a1 a2 (decide ((a0.size : Int) > 64))) = some r := by rw [if_pos rfl] at H; exact H
   clear H
   have H := H1
   clear H1
   have H' := Aside0.mk H
   clear H
   go_wp2_with (first | (go_at_call 64; (with_reducible refine (impl_areShort.calls a1 a2 true _ A5.out).mono ?_); rintro e w' ⟨rfl, ⟨nd, rfl⟩⟩; (try first | exact ⟨rfl, _, World.drewN_drewN _ _ _⟩ | exact ⟨rfl, _, Eq.trans (World.drewN_drewN _ _ _) (congrArg (World.drewN _) (Nat.add_assoc _ _ _))⟩)))
   repeat (go_quiet (first | (go_at_call 64; (with_reducible refine (impl_areShort.calls a1 a2 true _ A5.out).mono ?_); rintro e w' ⟨rfl, ⟨nd, rfl⟩⟩; (try first | exact ⟨rfl, _, World.drewN_drewN _ _ _⟩ | exact ⟨rfl, _, Eq.trans (World.drewN_drewN _ _ _) (congrArg (World.drewN _) (Nat.add_assoc _ _ _))⟩))); try go_wp2_with (first | (go_at_call 64; (with_reducible refine (impl_areShort.calls a1 a2 true _ A5.out).mono ?_); rintro e w' ⟨rfl, ⟨nd, rfl⟩⟩; (try first | exact ⟨rfl, _, World.drewN_drewN _ _ _⟩ | exact ⟨rfl, _, Eq.trans (World.drewN_drewN _ _ _) (congrArg (World.drewN _) (Nat.add_assoc _ _ _))⟩))))
   go_meet
   case rel => exact ⟨_, (decide ((a0.size : Int) > 64)), (by first | rfl | (simp; done) | (simp [*]; done)), H', ⟨by first | omega | exact Nat.le_refl _⟩, by repeat (first | exact Drawn0.refl _ | apply Drawn0.step)⟩
  ·replace c6 := Bool.eq_false_iff.mpr c6
   subst c6
   have H1 : (impl_EditCost.j0 k a0 a1 a2 true) = some r := by rw [if_neg (show ¬ (false = true) by decide)] at H; exact H
   clear H
   have H := H1
   clear H1
   have H' := Aside0.mk H
   clear H
   go_wp2_with (first | (go_at_call 64; (with_reducible refine (impl_areShort.calls a1 a2 false _ A5.out).mono ?_); rintro e w' ⟨rfl, ⟨nd, rfl⟩⟩; (try first | exact ⟨rfl, _, World.drewN_drewN _ _ _⟩ | exact ⟨rfl, _, Eq.trans (World.drewN_drewN _ _ _) (congrArg (World.drewN _) (Nat.add_assoc _ _ _))⟩)))
   repeat (go_quiet (first | (go_at_call 64; (with_reducible refine (impl_areShort.calls a1 a2 false _ A5.out).mono ?_); rintro e w' ⟨rfl, ⟨nd, rfl⟩⟩; (try first | exact ⟨rfl, _, World.drewN_drewN _ _ _⟩ | exact ⟨rfl, _, Eq.trans (World.drewN_drewN _ _ _) (congrArg (World.drewN _) (Nat.add_assoc _ _ _))⟩))); try go_wp2_with (first | (go_at_call 64; (with_reducible refine (impl_areShort.calls a1 a2 false _ A5.out).mono ?_); rintro e w' ⟨rfl, ⟨nd, rfl⟩⟩; (try first | exact ⟨rfl, _, World.drewN_drewN _ _ _⟩ | exact ⟨rfl, _, Eq.trans (World.drewN_drewN _ _ _) (congrArg (World.drewN _) (Nat.add_assoc _ _ _))⟩))))
   go_meet
   case rel => exact ⟨_, (true), (by first | rfl | (simp; done) | (simp [*]; done)), H', ⟨by first | omega | exact Nat.le_refl _⟩, by repeat (first | exact Drawn0.refl _ | apply Drawn0.step)⟩
 case rest =>
  clear HC4
  try clear p2
  try clear c4
  try clear c6
  obtain ⟨kq, x20_3, rfl, HA, HJ3, ⟨mc3, rfl⟩⟩ := hcut
  cases kq with
  | zero => exact absurd HA.out (by simp [impl_EditCost.j0])
  | succ kj3 =>
   have H := HA.out
   clear HA
   simp only [impl_EditCost.j0] at H
   by_cases c7 : x20_3 = true
   ·subst c7
    have H1 : (some (-1)) = some r := by rw [if_pos rfl] at H; exact H
    clear H
    have H := H1
    clear H1
    obtain rfl := Option.some.inj H
    go_wp2
    repeat (go_quiet (fail); try go_wp2)
    go_ret
    exact ⟨by first | rfl | (simp; done) | (simp [*]; done), by repeat (first | exact Drawn0.refl _ | apply Drawn0.step)⟩
   ·replace c7 := Bool.eq_false_iff.mpr c7
    subst c7
    have H1 : (impl_EditCost.l0 kj3 a0 a1 a2 0 0 0 (a0.size : Int) 0) = some r := by rw [if_neg (show ¬ (false = true) by decide)] at H; exact H
    clear H
    have H := H1
    clear H1
    have H' := Aside0.mk H
    clear H
    go_wp2
    repeat (go_quiet (fail); try go_wp2)
    go_loopg [7, 8, 9, 23] kj3 (fun kq v7 v8 v9 v23 w' => ∃ (x7_2 : Int) (x8_2 : Int) (x9_2 : Int) (x23_2 : Int), v7 = .int .i64 x7_2 ∧ v8 = .int .i64 x8_2 ∧ v9 = .int .i64 x9_2 ∧ v23 = .int .i64 x23_2 ∧ Aside0 (impl_EditCost.l0 kq a0 a1 a2 x7_2 x8_2 x9_2 (a0.size : Int) x23_2 = some r) ∧ Aside0 (kq ≤ kj3) ∧ Drawn0 w w')
    case atStart => exact ⟨(0), (0), (0), (0), (by first | rfl | (simp; done) | (simp [*]; done)), (by first | rfl | (simp; done) | (simp [*]; done)), (by first | rfl | (simp; done) | (simp [*]; done)), (by first | rfl | (simp; done) | (simp [*]; done)), H', ⟨Nat.le_refl _⟩, by repeat (first | exact Drawn0.refl _ | apply Drawn0.step)⟩
    case round =>
     clear H'
     try clear p2
     try clear c3
     try clear c4
     try clear c6
     try clear c7
     try clear p2
     obtain ⟨x7_2, x8_2, x9_2, x23_2, rfl, rfl, rfl, rfl, HA, HK2, ⟨m2, rfl⟩⟩ := hrel
     cases gk with
     | zero => exact absurd HA.out (by simp [impl_EditCost.l0])
     | succ k2 =>
      have H := HA.out
      clear HA
      simp only [impl_EditCost.l0] at H
      by_cases c8 : x23_2 < (a0.size : Int)
      ·rw [if_pos c8] at H
       have c8b0 : decide (x23_2 < (a0.size : Int)) = true := decide_eq_true c8
       clear c8
       by_cases c9 : 0 ≤ x23_2
       ·rw [if_pos c9] at H
        have c9b0 : decide (0 ≤ x23_2) = true := decide_eq_true c9
        clear c9
        by_cases c10 : x23_2 < (a0.size : Int)
        ·rw [if_pos c10] at H
         have c10b0 : decide (x23_2 < (a0.size : Int)) = true := decide_eq_true c10
         clear c10
         have HC12 := Aside0.mk H
         clear H
         have p11 : 0 ≤ (x23_2 : Int) := of_decide_eq_true (by first | (with_reducible assumption) | assumption)
         have q11 : x23_2 < (a0.size : Int) := of_decide_eq_true (by first | (with_reducible assumption) | assumption)
         have hx11 := bt_at a0 x23_2
         replace p11 := eq_true p11
         replace q11 := eq_true q11
         go_upto_region 8 with (fail)
         repeat (go_quiet (fail); go_upto_region 8 with (fail))
         go_cut [62] (fun v62 wc => ∃ (kq : Nat) (x62_11 : Bool), v62 = .bool x62_11 ∧ Aside0 (impl_EditCost.j2 kq a0 a1 a2 x7_2 x8_2 x9_2 (bt a0 x23_2) (a0.size : Int) x23_2 x62_11 = some r) ∧ Aside0 (kq ≤ k2) ∧ Drawn0 w wc)
         case first =>
          have H := HC12.out
          clear HC12
          by_cases c13 : (bt a0 x23_2) = 100
          ·rw [if_pos c13] at H
           have c13b0 : ((bt a0 x23_2) == 100) = true := beq_iff_eq.mpr c13
           have c13b1 : ((bt a0 x23_2) != 100) = false := bne_eq_false_iff_eq.mpr c13
           clear c13
           (first | rw [c13b0] | (simp only [i64_w, i32_w]; rw [c13b0]) | skip)
           by_cases c14 : x7_2 = (a1.size : Int)
           ·rw [if_pos c14] at H
            have c14b0 : (x7_2 == (a1.size : Int)) = true := beq_iff_eq.mpr c14
            have c14b1 : (x7_2 != (a1.size : Int)) = false := bne_eq_false_iff_eq.mpr c14
            clear c14
            have H' := Aside0.mk H
            clear H
            go_wp2
            repeat (go_quiet (fail); try go_wp2)
            go_meet
            case rel => exact ⟨_, (true), (by first | rfl | (simp; done) | (simp [*]; done)), H', ⟨by have := HJ3.out; have := HK2.out; first | omega | exact Nat.le_refl _⟩, by repeat (first | exact Drawn0.refl _ | apply Drawn0.step)⟩
           ·rw [if_neg c14] at H
            have c14b0 : (x7_2 == (a1.size : Int)) = false := beq_eq_false_iff_ne.mpr c14
            have c14b1 : (x7_2 != (a1.size : Int)) = true := bne_iff_ne.mpr c14
            by_cases c15 : (bt a0 x23_2) = 105
            ·rw [if_pos c15] at H
             have c15b0 : ((bt a0 x23_2) == 105) = true := beq_iff_eq.mpr c15
             have c15b1 : ((bt a0 x23_2) != 105) = false := bne_eq_false_iff_eq.mpr c15
             clear c15
             have H' := Aside0.mk H
             clear H
             go_wp2
             repeat (go_quiet (fail); try go_wp2)
             go_meet
             case rel => exact ⟨_, ((x8_2 == (a2.size : Int))), (by first | rfl | (simp; done) | (simp [*]; done)), H', ⟨by have := HJ3.out; have := HK2.out; first | omega | exact Nat.le_refl _⟩, by repeat (first | exact Drawn0.refl _ | apply Drawn0.step)⟩
            ·rw [if_neg c15] at H
             have c15b0 : ((bt a0 x23_2) == 105) = false := beq_eq_false_iff_ne.mpr c15
             have c15b1 : ((bt a0 x23_2) != 105) = true := bne_iff_ne.mpr c15
             by_cases c16 : (bt a0 x23_2) = 107
             ·rw [if_pos c16] at H
              have c16b0 : ((bt a0 x23_2) == 107) = true := beq_iff_eq.mpr c16
              have c16b1 : ((bt a0 x23_2) != 107) = false := bne_eq_false_iff_eq.mpr c16
              clear c16
              have H' := Aside0.mk H
              clear H
              go_wp2
              repeat (go_quiet (fail); try go_wp2)
              go_meet
              case rel => exact ⟨_, ((x8_2 == (a2.size : Int))), (by first | rfl | (simp; done) | (simp [*]; done)), H', ⟨by have := HJ3.out; have := HK2.out; first | omega | exact Nat.le_refl _⟩, by repeat (first | exact Drawn0.refl _ | apply Drawn0.step)⟩
             ·rw [if_neg c16] at H
              have c16b0 : ((bt a0 x23_2) == 107) = false := beq_eq_false_iff_ne.mpr c16
              have c16b1 : ((bt a0 x23_2) != 107) = true := bne_iff_ne.mpr c16
              by_cases c17 : (bt a0 x23_2) = 115
              ·rw [if_pos c17] at H
               have c17b0 : ((bt a0 x23_2) == 115) = true := beq_iff_eq.mpr c17
               have c17b1 : ((bt a0 x23_2) != 115) = false := bne_eq_false_iff_eq.mpr c17
               clear c17
               have H' := Aside0.mk H
               clear H
               go_wp2
               repeat (go_quiet (fail); try go_wp2)
               go_meet
               case rel => exact ⟨_, ((x8_2 == (a2.size : Int))), (by first | rfl | (simp; done) | (simp [*]; done)), H', ⟨by have := HJ3.out; have := HK2.out; first | omega | exact Nat.le_refl _⟩, by repeat (first | exact Drawn0.refl _ | apply Drawn0.step)⟩
              ·rw [if_neg c17] at H
               have c17b0 : ((bt a0 x23_2) == 115) = false := beq_eq_false_iff_ne.mpr c17
               have c17b1 : ((bt a0 x23_2) != 115) = true := bne_iff_ne.mpr c17
               have H' := Aside0.mk H
               clear H
               go_wp2
               repeat (go_quiet (fail); try go_wp2)
               go_meet
               case rel => exact ⟨_, (false), (by first | rfl | (simp; done) | (simp [*]; done)), H', ⟨by have := HJ3.out; have := HK2.out; first | omega | exact Nat.le_refl _⟩, by repeat (first | exact Drawn0.refl _ | apply Drawn0.step)⟩
          ·rw [if_neg c13] at H
           have c13b0 : ((bt a0 x23_2) == 100) = false := beq_eq_false_iff_ne.mpr c13
           have c13b1 : ((bt a0 x23_2) != 100) = true := bne_iff_ne.mpr c13
           (first | rw [c13b0] | (simp only [i64_w, i32_w]; rw [c13b0]) | skip)
           by_cases c18 : (bt a0 x23_2) = 107
           ·rw [if_pos c18] at H
            have c18b0 : ((bt a0 x23_2) == 107) = true := beq_iff_eq.mpr c18
            have c18b1 : ((bt a0 x23_2) != 107) = false := bne_eq_false_iff_eq.mpr c18
            clear c18
            by_cases c19 : x7_2 = (a1.size : Int)
            ·rw [if_pos c19] at H
             have c19b0 : (x7_2 == (a1.size : Int)) = true := beq_iff_eq.mpr c19
             have c19b1 : (x7_2 != (a1.size : Int)) = false := bne_eq_false_iff_eq.mpr c19
             clear c19
             have H' := Aside0.mk H
             clear H
             go_wp2
             repeat (go_quiet (fail); try go_wp2)
             go_meet
             case rel => exact ⟨_, (true), (by first | rfl | (simp; done) | (simp [*]; done)), H', ⟨by have := HJ3.out; have := HK2.out; first | omega | exact Nat.le_refl _⟩, by repeat (first | exact Drawn0.refl _ | apply Drawn0.step)⟩
            ·rw [if_neg c19] at H
             have c19b0 : (x7_2 == (a1.size : Int)) = false := beq_eq_false_iff_ne.mpr c19
             have c19b1 : (x7_2 != (a1.size : Int)) = true := bne_iff_ne.mpr c19
             by_cases c20 : (bt a0 x23_2) = 105
             ·rw [if_pos c20] at H
              have c20b0 : ((bt a0 x23_2) == 105) = true := beq_iff_eq.mpr c20
              have c20b1 : ((bt a0 x23_2) != 105) = false := bne_eq_false_iff_eq.mpr c20
              clear c20
              have H' := Aside0.mk H
              clear H
              go_wp2
              repeat (go_quiet (fail); try go_wp2)
              go_meet
              case rel => exact ⟨_, ((x8_2 == (a2.size : Int))), (by first | rfl | (simp; done) | (simp [*]; done)), H', ⟨by have := HJ3.out; have := HK2.out; first | omega | exact Nat.le_refl _⟩, by repeat (first | exact Drawn0.refl _ | apply Drawn0.step)⟩
             ·rw [if_neg c20] at H
              have c20b0 : ((bt a0 x23_2) == 105) = false := beq_eq_false_iff_ne.mpr c20
              have c20b1 : ((bt a0 x23_2) != 105) = true := bne_iff_ne.mpr c20
              have H' := Aside0.mk H
              clear H
              go_wp2
              repeat (go_quiet (fail); try go_wp2)
              go_meet
              case rel => exact ⟨_, ((x8_2 == (a2.size : Int))), (by first | rfl | (simp; done) | (simp [*]; done)), H', ⟨by have := HJ3.out; have := HK2.out; first | omega | exact Nat.le_refl _⟩, by repeat (first | exact Drawn0.refl _ | apply Drawn0.step)⟩
           ·rw [if_neg c18] at H
            have c18b0 : ((bt a0 x23_2) == 107) = false := beq_eq_false_iff_ne.mpr c18
            have c18b1 : ((bt a0 x23_2) != 107) = true := bne_iff_ne.mpr c18
            by_cases c21 : (bt a0 x23_2) = 115
            ·rw [if_pos c21] at H
             have c21b0 : ((bt a0 x23_2) == 115) = true := beq_iff_eq.mpr c21
             have c21b1 : ((bt a0 x23_2) != 115) = false := bne_eq_false_iff_eq.mpr c21
             clear c21
             by_cases c22 : x7_2 = (a1.size : Int)
             ·rw [if_pos c22] at H
              have c22b0 : (x7_2 == (a1.size : Int)) = true := beq_iff_eq.mpr c22
              have c22b1 : (x7_2 != (a1.size : Int)) = false := bne_eq_false_iff_eq.mpr c22
              clear c22
              have H' := Aside0.mk H
              clear H
              go_wp2
              repeat (go_quiet (fail); try go_wp2)
              go_meet
              case rel => exact ⟨_, (true), (by first | rfl | (simp; done) | (simp [*]; done)), H', ⟨by have := HJ3.out; have := HK2.out; first | omega | exact Nat.le_refl _⟩, by repeat (first | exact Drawn0.refl _ | apply Drawn0.step)⟩
             ·rw [if_neg c22] at H
              have c22b0 : (x7_2 == (a1.size : Int)) = false := beq_eq_false_iff_ne.mpr c22
              have c22b1 : (x7_2 != (a1.size : Int)) = true := bne_iff_ne.mpr c22
              by_cases c23 : (bt a0 x23_2) = 105
              ·rw [if_pos c23] at H
               have c23b0 : ((bt a0 x23_2) == 105) = true := beq_iff_eq.mpr c23
               have c23b1 : ((bt a0 x23_2) != 105) = false := bne_eq_false_iff_eq.mpr c23
               clear c23
               have H' := Aside0.mk H
               clear H
               go_wp2
               repeat (go_quiet (fail); try go_wp2)
               go_meet
               case rel => exact ⟨_, ((x8_2 == (a2.size : Int))), (by first | rfl | (simp; done) | (simp [*]; done)), H', ⟨by have := HJ3.out; have := HK2.out; first | omega | exact Nat.le_refl _⟩, by repeat (first | exact Drawn0.refl _ | apply Drawn0.step)⟩
              ·rw [if_neg c23] at H
               have c23b0 : ((bt a0 x23_2) == 105) = false := beq_eq_false_iff_ne.mpr c23
               have c23b1 : ((bt a0 x23_2) != 105) = true := bne_iff_ne.mpr c23
               have H' := Aside0.mk H
               clear H
               go_wp2
               repeat (go_quiet (fail); try go_wp2)
               go_meet
               case rel => exact ⟨_, ((x8_2 == (a2.size : Int))), (by first | rfl | (simp; done) | (simp [*]; done)), H', ⟨by have := HJ3.out; have := HK2.out; first | omega | exact Nat.le_refl _⟩, by repeat (first | exact Drawn0.refl _ | apply Drawn0.step)⟩
            ·rw [if_neg c21] at H
             have c21b0 : ((bt a0 x23_2) == 115) = false := beq_eq_false_iff_ne.mpr c21
             have c21b1 : ((bt a0 x23_2) != 115) = true := bne_iff_ne.mpr c21
             by_cases c24 : (bt a0 x23_2) = 105
             ·rw [if_pos c24] at H
              have c24b0 : ((bt a0 x23_2) == 105) = true := beq_iff_eq.mpr c24
              have c24b1 : ((bt a0 x23_2) != 105) = false := bne_eq_false_iff_eq.mpr c24
              clear c24
              have H' := Aside0.mk H
              clear H
              go_wp2
              repeat (go_quiet (fail); try go_wp2)
              go_meet
              case rel => exact ⟨_, ((x8_2 == (a2.size : Int))), (by first | rfl | (simp; done) | (simp [*]; done)), H', ⟨by have := HJ3.out; have := HK2.out; first | omega | exact Nat.le_refl _⟩, by repeat (first | exact Drawn0.refl _ | apply Drawn0.step)⟩
             ·rw [if_neg c24] at H
              have c24b0 : ((bt a0 x23_2) == 105) = false := beq_eq_false_iff_ne.mpr c24
              have c24b1 : ((bt a0 x23_2) != 105) = true := bne_iff_ne.mpr c24
              have H' := Aside0.mk H
              clear H
              go_wp2
              repeat (go_quiet (fail); try go_wp2)
              go_meet
              case rel => exact ⟨_, (false), (by first | rfl | (simp; done) | (simp [*]; done)), H', ⟨by have := HJ3.out; have := HK2.out; first | omega | exact Nat.le_refl _⟩, by repeat (first | exact Drawn0.refl _ | apply Drawn0.step)⟩
         case rest =>
          clear HC12
          try clear c1
          try clear p1
          try clear q1
          try clear hx1
          try clear c2
          try clear p2
          try clear c3
          try clear c4
          try clear c6
          try clear c7
          try clear c8
          try clear c8b0
          try clear c9
          try clear c9b0
          try clear c10
          try clear c10b0
          try clear p11
          try clear q11
          try clear hx11
          try clear c13
          try clear c13b0
          try clear c13b1
          try clear c14
          try clear c14b0
          try clear c14b1
          try clear c15
          try clear c15b0
          try clear c15b1
          try clear c16
          try clear c16b0
          try clear c16b1
          try clear c17
          try clear c17b0
          try clear c17b1
          try clear c18
          try clear c18b0
          try clear c18b1
          try clear c19
          try clear c19b0
          try clear c19b1
          try clear c20
          try clear c20b0
          try clear c20b1
          try clear c21
          try clear c21b0
          try clear c21b1
          try clear c22
          try clear c22b0
          try clear c22b1
          try clear c23
          try clear c23b0
          try clear c23b1
          try clear c24
          try clear c24b0
          try clear c24b1
          try clear p11
          try clear p2
          try clear q11
          obtain ⟨kq, x62_11, rfl, HA, HJ11, ⟨mc11, rfl⟩⟩ := hcut
          cases kq with
          | zero => exact absurd HA.out (by simp [impl_EditCost.j2])
          | succ kj11 =>
           have H := HA.out
           clear HA
           simp only [impl_EditCost.j2] at H
           by_cases c25 : x62_11 = true
           ·subst c25
            have H1 : (some (-1)) = some r := by rw [if_pos rfl] at H; exact H
            clear H
            have H := H1
            clear H1
            obtain rfl := Option.some.inj H
            go_wp2
            repeat (go_quiet (fail); try go_wp2)
            go_ret
            exact ⟨by first | rfl | (simp; done) | (simp [*]; done), by repeat (first | exact Drawn0.refl _ | apply Drawn0.step)⟩
           ·replace c25 := Bool.eq_false_iff.mpr c25
            subst c25
            have H1 : (if (bt a0 x23_2) = 100 then (if (bt a0 x23_2) = 107 then (impl_EditCost.l0 kj11 a0 a1 a2 (wrap64 (x7_2 + 1)) x8_2 x9_2 (a0.size : Int) (wrap64 (x23_2 + 1))) else (impl_EditCost.l0 kj11 a0 a1 a2 (wrap64 (x7_2 + 1)) x8_2 (wrap64 (x9_2 + 1)) (a0.size : Int) (wrap64 (x23_2 + 1)))) else (if (bt a0 x23_2) = 105 then (if (bt a0 x23_2) = 107 then (impl_EditCost.l0 kj11 a0 a1 a2 x7_2 (wrap64 (x8_2 + 1)) x9_2 (a0.size : Int) (wrap64 (x23_2 + 1))) else (impl_EditCost.l0 kj11 a0 a1 a2 x7_2 (wrap64 (x8_2 + 1)) (wrap64 (x9_2 + 1)) (a0.size : Int) (wrap64 (x23_2 + 1)))) else (if (bt a0 x23_2) = 107 then (impl_EditCost.j3 kj11 a0 a1 a2 x7_2 x8_2 x9_2 (bt a0 x23_2) (a0.size : Int) x23_2 ((bt a0 x23_2) == 107)) else (impl_EditCost.j3 kj11 a0 a1 a2 x7_2 x8_2 x9_2 (bt a0 x23_2) (a0.size : Int) x23_2 ((bt a0 x23_2) == 115))))) = some r := by rw [if_neg (show ¬ (false = true) by decide)] at H; exact H
            clear H
            have H := H1
            clear H1
            by_cases c26 : (bt a0 x23_2) = 100
            ·rw [if_pos c26] at H
             have c26b0 : ((bt a0 x23_2) == 100) = true := beq_iff_eq.mpr c26
             have c26b1 : ((bt a0 x23_2) != 100) = false := bne_eq_false_iff_eq.mpr c26
             clear c26
             by_cases c27 : (bt a0 x23_2) = 107
             ·rw [if_pos c27] at H
              have c27b0 : ((bt a0 x23_2) == 107) = true := beq_iff_eq.mpr c27
              have c27b1 : ((bt a0 x23_2) != 107) = false := bne_eq_false_iff_eq.mpr c27
              clear c27
              have H' := Aside0.mk H
              clear H
              go_wp2
              repeat (go_quiet (fail); try go_wp2)
              go_roundg kj11
              case measure => have := HJ3.out; have := HK2.out; have := HJ11.out; omega
              case rel => exact ⟨(wrap64 (x7_2 + 1)), (x8_2), (x9_2), (wrap64 (x23_2 + 1)), (by first | rfl | (simp; done) | (simp [*]; done)), (by first | rfl | (simp; done) | (simp [*]; done)), (by first | rfl | (simp; done) | (simp [*]; done)), (by first | rfl | (simp; done) | (simp [*]; done)), H', ⟨by have := HJ3.out; have := HK2.out; have := HJ11.out; omega⟩, by repeat (first | exact Drawn0.refl _ | apply Drawn0.step)⟩
             ·rw [if_neg c27] at H
              have c27b0 : ((bt a0 x23_2) == 107) = false := beq_eq_false_iff_ne.mpr c27
              have c27b1 : ((bt a0 x23_2) != 107) = true := bne_iff_ne.mpr c27
              have H' := Aside0.mk H
              clear H
              go_wp2
              repeat (go_quiet (fail); try go_wp2)
              go_roundg kj11
              case measure => have := HJ3.out; have := HK2.out; have := HJ11.out; omega
              case rel => exact ⟨(wrap64 (x7_2 + 1)), (x8_2), (wrap64 (x9_2 + 1)), (wrap64 (x23_2 + 1)), (by first | rfl | (simp; done) | (simp [*]; done)), (by first | rfl | (simp; done) | (simp [*]; done)), (by first | rfl | (simp; done) | (simp [*]; done)), (by first | rfl | (simp; done) | (simp [*]; done)), H', ⟨by have := HJ3.out; have := HK2.out; have := HJ11.out; omega⟩, by repeat (first | exact Drawn0.refl _ | apply Drawn0.step)⟩
            ·rw [if_neg c26] at H
             have c26b0 : ((bt a0 x23_2) == 100) = false := beq_eq_false_iff_ne.mpr c26
             have c26b1 : ((bt a0 x23_2) != 100) = true := bne_iff_ne.mpr c26
             by_cases c28 : (bt a0 x23_2) = 105
             ·rw [if_pos c28] at H
              have c28b0 : ((bt a0 x23_2) == 105) = true := beq_iff_eq.mpr c28
              have c28b1 : ((bt a0 x23_2) != 105) = false := bne_eq_false_iff_eq.mpr c28
              clear c28
              by_cases c29 : (bt a0 x23_2) = 107
              ·rw [if_pos c29] at H
               have c29b0 : ((bt a0 x23_2) == 107) = true := beq_iff_eq.mpr c29
               have c29b1 : ((bt a0 x23_2) != 107) = false := bne_eq_false_iff_eq.mpr c29
               clear c29
               have H' := Aside0.mk H
               clear H
               go_wp2
               repeat (go_quiet (fail); try go_wp2)
               go_roundg kj11
               case measure => have := HJ3.out; have := HK2.out; have := HJ11.out; omega
               case rel => exact ⟨(x7_2), (wrap64 (x8_2 + 1)), (x9_2), (wrap64 (x23_2 + 1)), (by first | rfl | (simp; done) | (simp [*]; done)), (by first | rfl | (simp; done) | (simp [*]; done)), (by first | rfl | (simp; done) | (simp [*]; done)), (by first | rfl | (simp; done) | (simp [*]; done)), H', ⟨by have := HJ3.out; have := HK2.out; have := HJ11.out; omega⟩, by repeat (first | exact Drawn0.refl _ | apply Drawn0.step)⟩
              ·rw [if_neg c29] at H
               have c29b0 : ((bt a0 x23_2) == 107) = false := beq_eq_false_iff_ne.mpr c29
               have c29b1 : ((bt a0 x23_2) != 107) = true := bne_iff_ne.mpr c29
               have H' := Aside0.mk H
               clear H
               go_wp2
               repeat (go_quiet (fail); try go_wp2)
               go_roundg kj11
               case measure => have := HJ3.out; have := HK2.out; have := HJ11.out; omega
               case rel => exact ⟨(x7_2), (wrap64 (x8_2 + 1)), (wrap64 (x9_2 + 1)), (wrap64 (x23_2 + 1)), (by first | rfl | (simp; done) | (simp [*]; done)), (by first | rfl | (simp; done) | (simp [*]; done)), (by first | rfl | (simp; done) | (simp [*]; done)), (by first | rfl | (simp; done) | (simp [*]; done)), H', ⟨by have := HJ3.out; have := HK2.out; have := HJ11.out; omega⟩, by repeat (first | exact Drawn0.refl _ | apply Drawn0.step)⟩
             ·rw [if_neg c28] at H
              have c28b0 : ((bt a0 x23_2) == 105) = false := beq_eq_false_iff_ne.mpr c28
              have c28b1 : ((bt a0 x23_2) != 105) = true := bne_iff_ne.mpr c28
              have HC30 := Aside0.mk H
              clear H
              go_upto_if 72 with (fail)
              repeat (go_quiet (fail); go_upto_if 72 with (fail))
              go_cut [72] (fun v72 wc => ∃ (kq : Nat) (x72_29 : Bool), v72 = .bool x72_29 ∧ Aside0 (impl_EditCost.j3 kq a0 a1 a2 x7_2 x8_2 x9_2 (bt a0 x23_2) (a0.size : Int) x23_2 x72_29 = some r) ∧ Aside0 (kq ≤ kj11) ∧ Drawn0 w wc)
              case first =>
               have H := HC30.out
               clear HC30
               by_cases c31 : (bt a0 x23_2) = 107
               ·rw [if_pos c31] at H
                have c31b0 : ((bt a0 x23_2) == 107) = true := beq_iff_eq.mpr c31
                have c31b1 : ((bt a0 x23_2) != 107) = false := bne_eq_false_iff_eq.mpr c31
                clear c31
                (first | rw [c31b0] | (simp only [i64_w, i32_w]; rw [c31b0]) | skip)
                have H' := Aside0.mk H
                clear H
                go_wp2
                repeat (go_quiet (fail); try go_wp2)
                go_meet
                case rel => exact ⟨_, (((bt a0 x23_2) == 107)), (by first | rfl | (simp; done) | (simp [*]; done)), H', ⟨by have := HJ3.out; have := HK2.out; have := HJ11.out; first | omega | exact Nat.le_refl _⟩, by repeat (first | exact Drawn0.refl _ | apply Drawn0.step)⟩
               ·rw [if_neg c31] at H
                have c31b0 : ((bt a0 x23_2) == 107) = false := beq_eq_false_iff_ne.mpr c31
                have c31b1 : ((bt a0 x23_2) != 107) = true := bne_iff_ne.mpr c31
                (first | rw [c31b0] | (simp only [i64_w, i32_w]; rw [c31b0]) | skip)
                have H' := Aside0.mk H
                clear H
                go_wp2
                repeat (go_quiet (fail); try go_wp2)
                go_meet
                case rel => exact ⟨_, (((bt a0 x23_2) == 115)), (by first | rfl | (simp; done) | (simp [*]; done)), H', ⟨by have := HJ3.out; have := HK2.out; have := HJ11.out; first | omega | exact Nat.le_refl _⟩, by repeat (first | exact Drawn0.refl _ | apply Drawn0.step)⟩
              case rest =>
               clear HC30
               try clear c1
               try clear p1
               try clear q1
               try clear hx1
               try clear c2
               try clear p2
               try clear c3
               try clear c4
               try clear c6
               try clear p6
               try clear c7
               try clear c8
               try clear c8b0
               try clear c9
               try clear c9b0
               try clear c10
               try clear c10b0
               try clear c11
               try clear p11
               try clear q11
               try clear hx11
               try clear c13
               try clear c13b0
               try clear c13b1
               try clear c14
               try clear c14b0
               try clear c14b1
               try clear c15
               try clear c15b0
               try clear c15b1
               try clear c16
               try clear c16b0
               try clear c16b1
               try clear c17
               try clear c17b0
               try clear c17b1
               try clear c18
               try clear c18b0
               try clear c18b1
               try clear c19
               try clear c19b0
               try clear c19b1
               try clear c20
               try clear c20b0
               try clear c20b1
               try clear c21
               try clear c21b0
               try clear c21b1
               try clear c22
               try clear c22b0
               try clear c22b1
               try clear c23
               try clear c23b0
               try clear c23b1
               try clear c24
               try clear c24b0
               try clear c24b1
               try clear c25
               try clear c26
               try clear c26b0
               try clear c26b1
               try clear c27
               try clear c27b0
               try clear c27b1
               try clear c28
               try clear c28b0
               try clear c28b1
               try clear c29
               try clear c29b0
               try clear c29b1
               try clear c31
               try clear c31b0
               try clear c31b1
               try clear p1
               try clear p11
               try clear p2
               try clear q1
               try clear q11
               obtain ⟨kq, x72_29, rfl, HA, HJ29, ⟨mc29, rfl⟩⟩ := hcut
               cases kq with
               | zero => exact absurd HA.out (by simp [impl_EditCost.j3])
               | succ kj29 =>
                have H := HA.out
                clear HA
                simp only [impl_EditCost.j3] at H
                by_cases c32 : x72_29 = true
                ·subst c32
                 have H1 : (if 0 ≤ x7_2 then (if x7_2 < (a1.size : Int) then (if 0 ≤ x8_2 then (if x8_2 < (a2.size : Int) then (if (((bt a1 x7_2) == (bt a2 x8_2)) != ((bt a0 x23_2) == 107)) = true then (some (-1)) else (if (bt a0 x23_2) = 107 then (impl_EditCost.l0 kj29 a0 a1 a2 (wrap64 (x7_2 + 1)) (wrap64 (x8_2 + 1)) x9_2 (a0.size : Int) (wrap64 (x23_2 + 1))) else (impl_EditCost.l0 kj29 a0 a1 a2 (wrap64 (x7_2 + 1)) (wrap64 (x8_2 + 1)) (wrap64 (x9_2 + 1)) (a0.size : Int) (wrap64 (x23_2 + 1))))) else (none)) else (none)) else (none)) else (none)) = some r := by rw [if_pos rfl] at H; exact H
                 clear H
                 have H := H1
                 clear H1
                 by_cases c33 : 0 ≤ x7_2
                 ·rw [if_pos c33] at H
                  have c33b0 : decide (0 ≤ x7_2) = true := decide_eq_true c33
                  clear c33
                  by_cases c34 : x7_2 < (a1.size : Int)
                  ·rw [if_pos c34] at H
                   have c34b0 : decide (x7_2 < (a1.size : Int)) = true := decide_eq_true c34
                   clear c34
                   by_cases c36 : 0 ≤ x8_2
                   ·rw [if_pos c36] at H
                    have c36b0 : decide (0 ≤ x8_2) = true := decide_eq_true c36
                    clear c36
                    by_cases c37 : x8_2 < (a2.size : Int)
                    ·rw [if_pos c37] at H
                     have c37b0 : decide (x8_2 < (a2.size : Int)) = true := decide_eq_true c37
                     clear c37
                     by_cases c39 : (((bt a1 x7_2) == (bt a2 x8_2)) != ((bt a0 x23_2) == 107)) = true
                     ·rw [if_pos c39] at H
                      have c39b0 : (((bt a1 x7_2) == (bt a2 x8_2)) != ((bt a0 x23_2) == 107)) = true := c39
                      (try (have c39b1 : decide (((bt a1 x7_2) == (bt a2 x8_2)) = ((bt a0 x23_2) == 107)) = false := by simpa using c39))
                      (try (have c39b2 : (((bt a1 x7_2) == (bt a2 x8_2)) == ((bt a0 x23_2) == 107)) = false := by simpa using c39))
                      (try (have c39b3 : ¬ (((bt a1 x7_2) == (bt a2 x8_2)) = ((bt a0 x23_2) == 107)) := by simpa using c39))
                      clear c39
                      obtain rfl := Option.some.inj H
                      have p35 : 0 ≤ (x7_2 : Int) := of_decide_eq_true (by first | (with_reducible assumption) | assumption)
                      have q35 : x7_2 < (a1.size : Int) := of_decide_eq_true (by first | (with_reducible assumption) | assumption)
                      have hx35 := bt_at a1 x7_2
                      replace p35 := eq_true p35
                      replace q35 := eq_true q35
                      have p38 : 0 ≤ (x8_2 : Int) := of_decide_eq_true (by first | (with_reducible assumption) | assumption)
                      have q38 : x8_2 < (a2.size : Int) := of_decide_eq_true (by first | (with_reducible assumption) | assumption)
                      have hx38 := bt_at a2 x8_2
                      replace p38 := eq_true p38
                      replace q38 := eq_true q38
                      go_wp2
                      repeat (go_quiet (fail); try go_wp2)
                      go_ret
                      exact ⟨by first | rfl | (simp; done) | (simp [*]; done), by repeat (first | exact Drawn0.refl _ | apply Drawn0.step)⟩
                     ·rw [if_neg c39] at H
                      have c39b0 : (((bt a1 x7_2) == (bt a2 x8_2)) != ((bt a0 x23_2) == 107)) = false := by simpa using c39
                      (try (have c39b1 : decide (((bt a1 x7_2) == (bt a2 x8_2)) = ((bt a0 x23_2) == 107)) = true := by simpa using c39))
                      (try (have c39b2 : (((bt a1 x7_2) == (bt a2 x8_2)) == ((bt a0 x23_2) == 107)) = true := by simpa using c39))
                      clear c39
                      by_cases c40 : (bt a0 x23_2) = 107
                      ·rw [if_pos c40] at H
                       have c40b0 : ((bt a0 x23_2) == 107) = true := beq_iff_eq.mpr c40
                       (try (have c39b3 : ((bt a1 x7_2) == (bt a2 x8_2)) = false := by simpa [c40b0] using c39b0))
                       (try (have c39b3 : ((bt a1 x7_2) == (bt a2 x8_2)) = true := by simpa [c40b0] using c39b0))
                       have c40b1 : ((bt a0 x23_2) != 107) = false := bne_eq_false_iff_eq.mpr c40
                       clear c40
                       have H' := Aside0.mk H
                       clear H
                       have p35 : 0 ≤ (x7_2 : Int) := of_decide_eq_true (by first | (with_reducible assumption) | assumption)
                       have q35 : x7_2 < (a1.size : Int) := of_decide_eq_true (by first | (with_reducible assumption) | assumption)
                       have hx35 := bt_at a1 x7_2
                       replace p35 := eq_true p35
                       replace q35 := eq_true q35
                       have p38 : 0 ≤ (x8_2 : Int) := of_decide_eq_true (by first | (with_reducible assumption) | assumption)
                       have q38 : x8_2 < (a2.size : Int) := of_decide_eq_true (by first | (with_reducible assumption) | assumption)
                       have hx38 := bt_at a2 x8_2
                       replace p38 := eq_true p38
                       replace q38 := eq_true q38
                       go_wp2
                       repeat (go_quiet (fail); try go_wp2)
                       go_roundg kj29
                       case measure => have := HJ3.out; have := HK2.out; have := HJ11.out; have := HJ29.out; omega
                       case rel => exact ⟨(wrap64 (x7_2 + 1)), (wrap64 (x8_2 + 1)), (x9_2), (wrap64 (x23_2 + 1)), (by first | rfl | (simp; done) | (simp [*]; done)), (by first | rfl | (simp; done) | (simp [*]; done)), (by first | rfl | (simp; done) | (simp [*]; done)), (by first | rfl | (simp; done) | (simp [*]; done)), H', ⟨by have := HJ3.out; have := HK2.out; have := HJ11.out; have := HJ29.out; omega⟩, by repeat (first | exact Drawn0.refl _ | apply Drawn0.step)⟩
                      ·rw [if_neg c40] at H
                       have c40b0 : ((bt a0 x23_2) == 107) = false := beq_eq_false_iff_ne.mpr c40
                       (try (have c39b3 : ((bt a1 x7_2) == (bt a2 x8_2)) = true := by simpa [c40b0] using c39b0))
                       (try (have c39b3 : ((bt a1 x7_2) == (bt a2 x8_2)) = false := by simpa [c40b0] using c39b0))
                       have c40b1 : ((bt a0 x23_2) != 107) = true := bne_iff_ne.mpr c40
                       have H' := Aside0.mk H
                       clear H
                       have p35 : 0 ≤ (x7_2 : Int) := of_decide_eq_true (by first | (with_reducible assumption) | assumption)
                       have q35 : x7_2 < (a1.size : Int) := of_decide_eq_true (by first | (with_reducible assumption) | assumption)
                       have hx35 := bt_at a1 x7_2
                       replace p35 := eq_true p35
                       replace q35 := eq_true q35
                       have p38 : 0 ≤ (x8_2 : Int) := of_decide_eq_true (by first | (with_reducible assumption) | assumption)
                       have q38 : x8_2 < (a2.size : Int) := of_decide_eq_true (by first | (with_reducible assumption) | assumption)
                       have hx38 := bt_at a2 x8_2
                       replace p38 := eq_true p38
                       replace q38 := eq_true q38
                       go_wp2
                       repeat (go_quiet (fail); try go_wp2)
                       go_roundg kj29
                       case measure => have := HJ3.out; have := HK2.out; have := HJ11.out; have := HJ29.out; omega
                       case rel => exact ⟨(wrap64 (x7_2 + 1)), (wrap64 (x8_2 + 1)), (wrap64 (x9_2 + 1)), (wrap64 (x23_2 + 1)), (by first | rfl | (simp; done) | (simp [*]; done)), (by first | rfl | (simp; done) | (simp [*]; done)), (by first | rfl | (simp; done) | (simp [*]; done)), (by first | rfl | (simp; done) | (simp [*]; done)), H', ⟨by have := HJ3.out; have := HK2.out; have := HJ11.out; have := HJ29.out; omega⟩, by repeat (first | exact Drawn0.refl _ | apply Drawn0.step)⟩
                    ·rw [if_neg c37] at H
                     exact absurd H (by simp)
                   ·rw [if_neg c36] at H
                    exact absurd H (by simp)
                  ·rw [if_neg c34] at H
                   exact absurd H (by simp)
                 ·rw [if_neg c33] at H
                  exact absurd H (by simp)
                ·replace c32 := Bool.eq_false_iff.mpr c32
                 subst c32
                 have H1 : (some (-1)) = some r := by rw [if_neg (show ¬ (false = true) by decide)] at H; exact H
                 clear H
                 have H := H1
                 clear H1
                 obtain rfl := Option.some.inj H
                 go_wp2
                 repeat (go_quiet (fail); try go_wp2)
                 go_ret
                 exact ⟨by first | rfl | (simp; done) | (simp [*]; done), by repeat (first | exact Drawn0.refl _ | apply Drawn0.step)⟩
        ·rw [if_neg c10] at H
         exact absurd H (by simp)
       ·rw [if_neg c9] at H
        exact absurd H (by simp)
      ·rw [if_neg c8] at H
       have c8b0 : decide (x23_2 < (a0.size : Int)) = false := decide_eq_false c8
       clear c8
       by_cases c41 : x7_2 < (a1.size : Int)
       ·rw [if_pos c41] at H
        have c41b0 : decide (x7_2 < (a1.size : Int)) = true := decide_eq_true c41
        clear c41
        obtain rfl := Option.some.inj H
        go_wp2
        repeat (go_quiet (fail); try go_wp2)
        go_ret
        exact ⟨by first | rfl | (simp; done) | (simp [*]; done), by repeat (first | exact Drawn0.refl _ | apply Drawn0.step)⟩
       ·rw [if_neg c41] at H
        have c41b0 : decide (x7_2 < (a1.size : Int)) = false := decide_eq_false c41
        clear c41
        by_cases c42 : x8_2 < (a2.size : Int)
        ·rw [if_pos c42] at H
         have c42b0 : decide (x8_2 < (a2.size : Int)) = true := decide_eq_true c42
         clear c42
         obtain rfl := Option.some.inj H
         go_wp2
         repeat (go_quiet (fail); try go_wp2)
         go_ret
         exact ⟨by first | rfl | (simp; done) | (simp [*]; done), by repeat (first | exact Drawn0.refl _ | apply Drawn0.step)⟩
        ·rw [if_neg c42] at H
         have c42b0 : decide (x8_2 < (a2.size : Int)) = false := decide_eq_false c42
         clear c42
         obtain rfl := Option.some.inj H
         go_wp2
         repeat (go_quiet (fail); try go_wp2)
         go_ret
         exact ⟨by first | rfl | (simp; done) | (simp [*]; done), by repeat (first | exact Drawn0.refl _ | apply Drawn0.step)⟩

end Go.Proofs.Ytnmalfhdndnelaa.PFnEditsLeast
