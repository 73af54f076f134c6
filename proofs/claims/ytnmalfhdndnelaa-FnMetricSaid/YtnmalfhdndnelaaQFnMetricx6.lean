/- The functions that the law FnMetric reaches, as plain Lean functions, and the walks that show that Go comes to their answers; part 6. Its lines are the print's, turned where Lean refused them. -/
import Derived.Test.YtnmalfhdndnelaaQFnMetricx0
import Derived.Test.YtnmalfhdndnelaaQFnMetricx1
import Derived.Test.YtnmalfhdndnelaaQFnMetricx2
import Derived.Test.YtnmalfhdndnelaaQFnMetricx4
import Derived.Test.YtnmalfhdndnelaaQFnMetricx5
namespace Go.Proofs.Ytnmalfhdndnelaa.PFnMetric
open Go.RowKit Go.Proofs.YtnmalfhdndnelaaW.PrintWords Go.Proofs.YtnmalfhdndnelaaW.PrintLast Go.Proofs.YtnmalfhdndnelaaW.PrintMore
attribute [local go_sem] max2_int min2_int max_two min_two max_three min_three max_four min_four   -- for this text's walks alone
set_option linter.unusedVariables false
set_option linter.unusedSimpArgs false

/-! ### spec_Distance: function 36 -/
def spec_Distance.f (k : Nat) (a0 : ByteArray) (a1 : ByteArray) : Option (Int) := (spec_l05Long.f a0 a1).bind fun t269 => (if t269 = true then (some (-1)) else ((spec_l05Table.f k a0 a1).bind fun t270 => (if 0 < (t270.length : Int) then (if 0 < ((rd_L3 t270 0).length : Int) then (some (rd (rd_L3 t270 0) 0)) else (none)) else (none))))
theorem spec_Distance.mono : ∀ a0 a1 k, LeO (spec_Distance.f k a0 a1) (spec_Distance.f (k + 1) a0 a1) := by
  intro a0 a1 k
  unfold spec_Distance.f
  repeat' first
      | (with_reducible exact spec_l05Table.mono _ _ _)
      | (with_reducible exact LeO.refl _)
      | (with_reducible exact LeO.none _)
      | (with_reducible refine LeO.ite ?_ ?_)
      | (with_reducible refine LeO.bind ?_ (fun _ => ?_))
      | exact spec_l05Table.mono _ _ _
      | exact LeO.none _
      | refine LeO.ite ?_ ?_
      | refine LeO.bind ?_ (fun _ => ?_)
set_option maxHeartbeats 8000000 in
set_option maxRecDepth 100000 in
theorem spec_Distance.calls (k : Nat) (a0 : ByteArray) (a1 : ByteArray) (r : Int) (w : World) (h : spec_Distance.f k a0 a1 = some r) :
    Calls Try.prog 36 #[.string a0, .string a1] w fun e w' => e = .returned (.int .i64 r) ∧ Below w.heap.size w w' := by
  have HB := Aside0.mk (Below.refl w.heap.size w)
  have H : ((spec_l05Long.f a0 a1).bind fun t269 => (if t269 = true then (some (-1)) else ((spec_l05Table.f k a0 a1).bind fun t270 => (if 0 < (t270.length : Int) then (if 0 < ((rd_L3 t270 0).length : Int) then (some (rd (rd_L3 t270 0) 0)) else (none)) else (none))))) = some r := h
  clear h
  replace H := Option.bind_eq_some_iff.mp H
  obtain ⟨t269, A30, H⟩ := H
  replace H : (if t269 = true then (some (-1)) else ((spec_l05Table.f k a0 a1).bind fun t270 => (if 0 < (t270.length : Int) then (if 0 < ((rd_L3 t270 0).length : Int) then (some (rd (rd_L3 t270 0) 0)) else (none)) else (none)))) = some r := H
  have A3 := Aside0.mk A30
  clear A30
  by_cases c4 : t269 = true
  · subst c4
    have H1 : (some (-1)) = some r := by rw [if_pos rfl] at H; exact H
    clear H
    have H := H1
    clear H1
    obtain rfl := Option.some.inj H
    go_enter Try.func36, Try.ntmps36
    go_wp2_with (first | ((with_reducible refine gate_callee (f := 62) rfl ?_); refine goesL_ (some 7) rfl rfl Try.func62 (by kernel_rfl) rfl #[.string a0, .string a1] rfl (by (try simp only [List.map_toArray, List.map_cons, List.map_nil]); first | done | rfl | (simp only [List.length_drop, List.length_take]; rfl)) ?_; (with_reducible refine (spec_l05Long.calls a0 a1 true _ A3.out).mono ?_); rintro e w' ⟨rfl, ⟨nd, rfl⟩⟩; refine ⟨_, rfl, ?_⟩))
    go_ret
    exact ⟨by first | rfl | (simp [errW_none, errW_some] <;> rfl) | (simp [*, errW_none, errW_some] <;> rfl), by repeat (first | (with_reducible first | exact HB.out | apply below_alloc | apply pw_below_drewN | apply below_drew1) | exact HB.out)⟩
  · replace c4 := Bool.eq_false_iff.mpr c4
    subst c4
    have H1 : ((spec_l05Table.f k a0 a1).bind fun t270 => (if 0 < (t270.length : Int) then (if 0 < ((rd_L3 t270 0).length : Int) then (some (rd (rd_L3 t270 0) 0)) else (none)) else (none))) = some r := by rw [if_neg (show ¬ (false = true) by decide)] at H; exact H
    clear H
    have H := H1
    clear H1
    replace H := Option.bind_eq_some_iff.mp H
    obtain ⟨t270, A50, H⟩ := H
    replace H : (if 0 < (t270.length : Int) then (if 0 < ((rd_L3 t270 0).length : Int) then (some (rd (rd_L3 t270 0) 0)) else (none)) else (none)) = some r := H
    have A5 := Aside0.mk A50
    clear A50
    by_cases c6 : 0 < (t270.length : Int)
    · rw [if_pos c6] at H
      have c6b0 : decide (0 < (t270.length : Int)) = true := decide_eq_true c6
      have c6b1 : decide (0 < t270.length) = true := decide_eq_true (by omega)
      clear c6
      by_cases c7 : 0 < ((rd_L3 t270 0).length : Int)
      · rw [if_pos c7] at H
        have c7b0 : decide (0 < ((rd_L3 t270 0).length : Int)) = true := decide_eq_true c7
        have c7b1 : decide (0 < (rd_L3 t270 0).length) = true := decide_eq_true (by omega)
        clear c7
        obtain rfl := Option.some.inj H
        go_enter Try.func36, Try.ntmps36
        go_wp2_with (first | ((with_reducible refine gate_callee (f := 62) rfl ?_); refine goesL_ (some 7) rfl rfl Try.func62 (by kernel_rfl) rfl #[.string a0, .string a1] rfl (by (try simp only [List.map_toArray, List.map_cons, List.map_nil]); first | done | rfl | (simp only [List.length_drop, List.length_take]; rfl)) ?_; (with_reducible refine (spec_l05Long.calls a0 a1 false _ A3.out).mono ?_); rintro e w' ⟨rfl, ⟨nd, rfl⟩⟩; refine ⟨_, rfl, ?_⟩) | ((with_reducible refine gate_callee (f := 63) rfl ?_); refine goesL_ (some 10) rfl rfl Try.func63 (by kernel_rfl) rfl #[.string a0, .string a1] rfl (by (try simp only [List.map_toArray, List.map_cons, List.map_nil]); first | done | rfl | (simp only [List.length_drop, List.length_take]; rfl)) ?_; (with_reducible refine (spec_l05Table.calls k a0 a1 t270 _ A5.out).mono ?_); rintro e w8 ⟨v271, rfl, ho0, hb⟩; refine ⟨_, rfl, ?_⟩; have n0_ := Aside0.mk (Kd.S_lower ho0 (below_size (by repeat (first | (with_reducible first | exact HB.out | apply below_alloc | apply pw_below_drewN | apply below_drew1) | exact HB.out)))); have n1_ := Aside0.mk (below_step (by repeat (first | (with_reducible first | exact HB.out | apply below_alloc | apply pw_below_drewN | apply below_drew1) | exact HB.out)) hb); clear HB; have HO272 := n0_; have HB := n1_; clear n0_ n1_; (try clear hb); (try clear hb2); (try clear hk); (try clear hi); (try clear ho0); obtain ⟨Ao9, co9, eo9⟩ := Kd.S_slice HO272.out; subst eo9; have p273 : 0 ≤ (0 : Int) := (by omega); have q273 : 0 < (t270.length : Int) := of_decide_eq_true (by first | (with_reducible assumption) | assumption); obtain ⟨ad273, A273_0, c273_0, e273, hx273_0, hl273_0, hi273_0⟩ := at_L3 (Kd.S_reads' HO272.out).2.2 0 p273 q273; cases e273; obtain ⟨ce273, hce273, hMe273, hcc273⟩ := Kd.S_get HO272.out [] 0 p273 (by first | exact q273 | exact of_decide_eq_true (by first | (with_reducible assumption) | assumption) | (have e_ := (Kd.S_reads' HO272.out).1; omega)); obtain ⟨ve273_0, rfl, ge273_0⟩ := hMe273; have hv273_0 := hcc273 0 _ rfl; rw [Nat.add_zero, show ((Kd.slice 3 (Kd.int .i64))).sz = 1 from rfl, Nat.mul_one] at hv273_0; replace hv273_0 := Option.some.inj (hv273_0.symm.trans hx273_0); rw [hv273_0] at ge273_0; have HL273_0 := Aside0.mk (show Kd.R (Kd.int .i64) 3 _ _ _ _ (rd_L3 t270 0) from ge273_0); clear hv273_0 ge273_0; clear hcc273 hce273; have qi273 : (0 < t270.length) = True := eq_true (by omega); (try rw [show ((0 : Int)).toNat = 0 from rfl] at hx273_0); (try rw [Addr.add_zero'] at hx273_0); have HR273_0 := Aside0.mk hi273_0; have HC273_0 := Aside0.mk hl273_0; clear hi273_0 hl273_0; replace p273 := eq_true p273; replace q273 := eq_true q273; have p274 : 0 ≤ (0 : Int) := (by omega); have q274 : 0 < ((rd_L3 t270 0).length : Int) := of_decide_eq_true (by first | (with_reducible assumption) | assumption); obtain ⟨ad274, e274, hx274_0⟩ := Kd.at_int (by repeat (first | (with_reducible exact HR273_0.out) | (with_reducible refine Kd.C_alloc ?_ _) | (with_reducible refine Kd.C_drewN ?_ _) | (with_reducible refine Kd.C_drew ?_) | exact HR273_0.out)) 0 p274 q274; cases e274; have qi274 : (0 < (rd_L3 t270 0).length) = True := eq_true (by omega); (try rw [show ((0 : Int)).toNat = 0 from rfl] at hx274_0); (try rw [Addr.add_zero'] at hx274_0); replace p274 := eq_true p274; replace q274 := eq_true q274))
        go_ret
        exact ⟨by first | rfl | (simp [errW_none, errW_some] <;> rfl) | (simp [*, errW_none, errW_some] <;> rfl), by repeat (first | (with_reducible first | exact HB.out | apply below_alloc | apply pw_below_drewN | apply below_drew1) | exact HB.out)⟩
      · rw [if_neg c7] at H
        exact absurd H (by simp)
    · rw [if_neg c6] at H
      exact absurd H (by simp)

/-! ### laws_FnMetric: function 7 -/
def laws_FnMetric.j0 : Nat → ByteArray → ByteArray → ByteArray → Bool → Option (Bool)
  | 0, _, _, _, _ => none
  | k + 1, x3, x4, x6, x37 => if x37 = true then ((impl_Distance.f k x3 x4).bind fun t281 => ((spec_Distance.f k x3 x4).bind fun t282 => (some (t281 == t282)))) else ((impl_Distance.f k x3 x4).bind fun t283 => ((impl_Distance.f k x4 x3).bind fun t284 => (if t283 = t284 then (if ((t283 == 0) == (x3.toList == x4.toList)) = true then ((impl_Distance.f k x3 x6).bind fun t285 => ((impl_Distance.f k x6 x4).bind fun t286 => (if t283 ≤ (wrap64 (t285 + t286)) then (if t283 ≥ (wrap64 ((x3.size : Int) - (x4.size : Int))) then (if t283 ≥ (wrap64 (-(wrap64 ((x3.size : Int) - (x4.size : Int))))) then (some (decide (t283 ≤ (mx (x3.size : Int) (x4.size : Int))))) else (some false)) else (some false)) else (some false)))) else (some false)) else (some false))))
def laws_FnMetric.f (k : Nat) (l0 : List Int) : Option (Bool) := (laws_big.f l0).bind fun t275 => (if t275 = true then (some true) else ((spec_DrawDistance.f k l0).bind fun bt276 => (if 0 ≤ (wrap64 ((l0.length : Int) / 2)) then (if (wrap64 ((l0.length : Int) / 2)) ≤ (l0.length : Int) then ((spec_DrawCapped.f k (l0.drop ((wrap64 ((l0.length : Int) / 2)) : Int).toNat)).bind fun bt279 => (if (bt276.1.size : Int) > 32 then (laws_FnMetric.j0 k bt276.1 bt276.2 bt279.2 true) else (if (bt276.2.size : Int) > 32 then (laws_FnMetric.j0 k bt276.1 bt276.2 bt279.2 true) else (laws_FnMetric.j0 k bt276.1 bt276.2 bt279.2 (decide ((bt279.2.size : Int) > 32)))))) else (none)) else (none))))
theorem laws_FnMetric.mono_l : ∀ k, (∀ y0 y1 y2 y3, LeO (laws_FnMetric.j0 k y0 y1 y2 y3) (laws_FnMetric.j0 (k + 1) y0 y1 y2 y3))
  | 0 => fun _ _ _ _ r h => by simp [laws_FnMetric.j0] at h
  | k + 1 => by
    have ih0 := laws_FnMetric.mono_l k
    · intro y0 y1 y2 y3
      unfold laws_FnMetric.j0
      repeat' first
      | (with_reducible exact ih0 _ _ _ _)
      | (with_reducible exact impl_Distance.mono _ _ _)
      | (with_reducible exact spec_Distance.mono _ _ _)
      | (with_reducible exact spec_DrawCapped.mono _ _)
      | (with_reducible exact spec_DrawDistance.mono _ _)
      | (with_reducible exact LeO.refl _)
      | (with_reducible exact LeO.none _)
      | (with_reducible refine LeO.ite ?_ ?_)
      | (with_reducible refine LeO.bind ?_ (fun _ => ?_))
      | exact ih0 _ _ _ _
      | exact impl_Distance.mono _ _ _
      | exact spec_Distance.mono _ _ _
      | exact spec_DrawCapped.mono _ _
      | exact spec_DrawDistance.mono _ _
      | exact LeO.none _
      | refine LeO.ite ?_ ?_
      | refine LeO.bind ?_ (fun _ => ?_)
theorem laws_FnMetric.mono : ∀ a0 k, LeO (laws_FnMetric.f k a0) (laws_FnMetric.f (k + 1) a0) := by
  intro a0 k
  have ih0 := laws_FnMetric.mono_l k
  unfold laws_FnMetric.f
  repeat' first
      | (with_reducible exact ih0 _ _ _ _)
      | (with_reducible exact impl_Distance.mono _ _ _)
      | (with_reducible exact spec_Distance.mono _ _ _)
      | (with_reducible exact spec_DrawCapped.mono _ _)
      | (with_reducible exact spec_DrawDistance.mono _ _)
      | (with_reducible exact LeO.refl _)
      | (with_reducible exact LeO.none _)
      | (with_reducible refine LeO.ite ?_ ?_)
      | (with_reducible refine LeO.bind ?_ (fun _ => ?_))
      | exact ih0 _ _ _ _
      | exact impl_Distance.mono _ _ _
      | exact spec_Distance.mono _ _ _
      | exact spec_DrawCapped.mono _ _
      | exact spec_DrawDistance.mono _ _
      | exact LeO.none _
      | refine LeO.ite ?_ ?_
      | refine LeO.bind ?_ (fun _ => ?_)
set_option maxHeartbeats 8000000 in
set_option maxRecDepth 100000 in
theorem laws_FnMetric.calls (k : Nat) (A0 : Option Addr) (c0 : Nat) (l0 : List Int) (r : Bool) (w : World) (hr0 : Kd.C (Kd.int .u8) w A0 l0.length l0) (hc0 : l0.length ≤ c0) (h : laws_FnMetric.f k l0 = some r) :
    Calls Try.prog 7 #[.slice A0 l0.length c0] w fun e w' => e = .returned (.bool r) ∧ Below w.heap.size w w' := by
  have HR0 := Aside0.mk hr0
  have HC0 := Aside0.mk hc0
  clear hr0 hc0
  have HB := Aside0.mk (Below.refl w.heap.size w)
  have H : ((laws_big.f l0).bind fun t275 => (if t275 = true then (some true) else ((spec_DrawDistance.f k l0).bind fun bt276 => (if 0 ≤ (wrap64 ((l0.length : Int) / 2)) then (if (wrap64 ((l0.length : Int) / 2)) ≤ (l0.length : Int) then ((spec_DrawCapped.f k (l0.drop ((wrap64 ((l0.length : Int) / 2)) : Int).toNat)).bind fun bt279 => (if (bt276.1.size : Int) > 32 then (laws_FnMetric.j0 k bt276.1 bt276.2 bt279.2 true) else (if (bt276.2.size : Int) > 32 then (laws_FnMetric.j0 k bt276.1 bt276.2 bt279.2 true) else (laws_FnMetric.j0 k bt276.1 bt276.2 bt279.2 (decide ((bt279.2.size : Int) > 32)))))) else (none)) else (none))))) = some r := h
  clear h
  replace H := Option.bind_eq_some_iff.mp H
  obtain ⟨t275, A20, H⟩ := H
  replace H : (if t275 = true then (some true) else ((spec_DrawDistance.f k l0).bind fun bt276 => (if 0 ≤ (wrap64 ((l0.length : Int) / 2)) then (if (wrap64 ((l0.length : Int) / 2)) ≤ (l0.length : Int) then ((spec_DrawCapped.f k (l0.drop ((wrap64 ((l0.length : Int) / 2)) : Int).toNat)).bind fun bt279 => (if (bt276.1.size : Int) > 32 then (laws_FnMetric.j0 k bt276.1 bt276.2 bt279.2 true) else (if (bt276.2.size : Int) > 32 then (laws_FnMetric.j0 k bt276.1 bt276.2 bt279.2 true) else (laws_FnMetric.j0 k bt276.1 bt276.2 bt279.2 (decide ((bt279.2.size : Int) > 32)))))) else (none)) else (none)))) = some r := H
  have A2 := Aside0.mk A20
  clear A20
  by_cases c3 : t275 = true
  · subst c3
    have H1 : (some true) = some r := by rw [if_pos rfl] at H; exact H
    clear H
    have H := H1
    clear H1
    obtain rfl := Option.some.inj H
    go_enter Try.func7, Try.ntmps7
    go_wp2_with (first | ((with_reducible refine gate_callee (f := 13) rfl ?_); refine goesL_ (some 10) rfl rfl Try.func13 (by kernel_rfl) rfl #[.slice A0 l0.length c0] rfl (by (try simp only [List.map_toArray, List.map_cons, List.map_nil]); first | done | rfl | (simp only [List.length_drop, List.length_take]; rfl)) ?_; (with_reducible refine (laws_big.calls _ _ l0 true _ ?side1 ?side2 A2.out).mono ?_); (case side1 => repeat (first | exact HR0.out | (with_reducible refine Kd.C_alloc ?_ _) | (with_reducible refine Kd.C_drewN ?_ _) | (with_reducible refine Kd.C_drew ?_))); (case side2 => exact HC0.out); rintro e w' ⟨rfl, ⟨nd, rfl⟩⟩; refine ⟨_, rfl, ?_⟩))
    go_ret
    exact ⟨by first | rfl | (simp [errW_none, errW_some] <;> rfl) | (simp [*, errW_none, errW_some] <;> rfl), by repeat (first | (with_reducible first | exact HB.out | apply below_alloc | apply pw_below_drewN | apply below_drew1) | exact HB.out)⟩
  · replace c3 := Bool.eq_false_iff.mpr c3
    subst c3
    have H1 : ((spec_DrawDistance.f k l0).bind fun bt276 => (if 0 ≤ (wrap64 ((l0.length : Int) / 2)) then (if (wrap64 ((l0.length : Int) / 2)) ≤ (l0.length : Int) then ((spec_DrawCapped.f k (l0.drop ((wrap64 ((l0.length : Int) / 2)) : Int).toNat)).bind fun bt279 => (if (bt276.1.size : Int) > 32 then (laws_FnMetric.j0 k bt276.1 bt276.2 bt279.2 true) else (if (bt276.2.size : Int) > 32 then (laws_FnMetric.j0 k bt276.1 bt276.2 bt279.2 true) else (laws_FnMetric.j0 k bt276.1 bt276.2 bt279.2 (decide ((bt279.2.size : Int) > 32)))))) else (none)) else (none))) = some r := by rw [if_neg (show ¬ (false = true) by decide)] at H; exact H
    clear H
    have H := H1
    clear H1
    replace H := Option.bind_eq_some_iff.mp H
    obtain ⟨⟨t276, t277⟩, A40, H⟩ := H
    replace H : (if 0 ≤ (wrap64 ((l0.length : Int) / 2)) then (if (wrap64 ((l0.length : Int) / 2)) ≤ (l0.length : Int) then ((spec_DrawCapped.f k (l0.drop ((wrap64 ((l0.length : Int) / 2)) : Int).toNat)).bind fun bt279 => (if (t276.size : Int) > 32 then (laws_FnMetric.j0 k t276 t277 bt279.2 true) else (if (t277.size : Int) > 32 then (laws_FnMetric.j0 k t276 t277 bt279.2 true) else (laws_FnMetric.j0 k t276 t277 bt279.2 (decide ((bt279.2.size : Int) > 32)))))) else (none)) else (none)) = some r := H
    have A4 := Aside0.mk A40
    clear A40
    obtain ⟨ji5, hji5⟩ : ∃ j_ : Int, (wrap64 ((l0.length : Int) / 2)) = j_ := ⟨_, rfl⟩
    replace H : (if 0 ≤ (ji5) then (if (ji5) ≤ (l0.length : Int) then ((spec_DrawCapped.f k (l0.drop ((ji5) : Int).toNat)).bind fun bt279 => (if (t276.size : Int) > 32 then (laws_FnMetric.j0 k t276 t277 bt279.2 true) else (if (t277.size : Int) > 32 then (laws_FnMetric.j0 k t276 t277 bt279.2 true) else (laws_FnMetric.j0 k t276 t277 bt279.2 (decide ((bt279.2.size : Int) > 32)))))) else (none)) else (none)) = some r := by first | (rw [hji5] at H; exact H) | (simp only [hji5] at H ⊢; exact H)
    (try rw [hji5] at A2)
    (try rw [hji5] at A4)
    have hji5w : (IntKind.i64.wrap ((l0.length : Int) / 2)) = ji5 := (i64_w _).trans hji5
    by_cases c6 : 0 ≤ (ji5)
    · rw [if_pos c6] at H
      have c6b0 := eq_true c6
      have c6b1 : decide (0 ≤ (ji5)) = true := decide_eq_true c6
      clear c6
      by_cases c7 : (ji5) ≤ (l0.length : Int)
      · rw [if_pos c7] at H
        have c7b0 := eq_true c7
        have c7b1 : decide ((ji5) ≤ (l0.length : Int)) = true := decide_eq_true c7
        clear c7
        replace H := Option.bind_eq_some_iff.mp H
        obtain ⟨⟨t279, t280⟩, A80, H⟩ := H
        replace H : (if (t276.size : Int) > 32 then (laws_FnMetric.j0 k t276 t277 t280 true) else (if (t277.size : Int) > 32 then (laws_FnMetric.j0 k t276 t277 t280 true) else (laws_FnMetric.j0 k t276 t277 t280 (decide ((t280.size : Int) > 32))))) = some r := H
        have A8 := Aside0.mk A80
        clear A80
        have HC9 := Aside0.mk H
        clear H
        go_enter Try.func7, Try.ntmps7
        go_upto_region 5 with (first | ((with_reducible refine gate_callee (f := 13) rfl ?_); refine goesL_ (some 10) rfl rfl Try.func13 (by kernel_rfl) rfl #[.slice A0 l0.length c0] rfl (by (try simp only [List.map_toArray, List.map_cons, List.map_nil]); first | done | rfl | (simp only [List.length_drop, List.length_take]; rfl)) ?_; (with_reducible refine (laws_big.calls _ _ l0 false _ ?side1 ?side2 A2.out).mono ?_); (case side1 => repeat (first | exact HR0.out | (with_reducible refine Kd.C_alloc ?_ _) | (with_reducible refine Kd.C_drewN ?_ _) | (with_reducible refine Kd.C_drew ?_))); (case side2 => exact HC0.out); rintro e w' ⟨rfl, ⟨nd, rfl⟩⟩; refine ⟨_, rfl, ?_⟩) | ((with_reducible refine gate_callee (f := 33) rfl ?_); refine goesL_ (some 13) rfl rfl Try.func33 (by kernel_rfl) rfl #[.slice A0 l0.length c0] rfl (by (try simp only [List.map_toArray, List.map_cons, List.map_nil]); first | done | rfl | (simp only [List.length_drop, List.length_take]; rfl)) ?_; (with_reducible refine (spec_DrawDistance.calls k _ _ l0 t276 t277 _ ?side1 ?side2 A4.out).mono ?_); (case side1 => repeat (first | exact HR0.out | (with_reducible refine Kd.C_alloc ?_ _) | (with_reducible refine Kd.C_drewN ?_ _) | (with_reducible refine Kd.C_drew ?_))); (case side2 => exact HC0.out); rintro e w10 ⟨rfl, hb⟩; refine ⟨_, rfl, ?_⟩; have n0_ := Aside0.mk (below_step (by repeat (first | (with_reducible first | exact HB.out | apply below_alloc | apply pw_below_drewN | apply below_drew1) | exact HB.out)) hb); clear HB; have HB := n0_; clear n0_; (try clear hb); (try clear hb2); (try clear hk); (try clear hi); obtain ⟨i011, hi011, _, hsz11, _⟩ := info_parts info5; obtain ⟨A11, hcut11, hA11, hC11⟩ := print_drop_of (P := Try.prog) (Value.int .u8) 0 22 5 .i64 Try.underlying22 hi011 hsz11 A0 c0 l0 (ji5) (of_decide_eq_true (by first | (with_reducible assumption) | assumption)) (of_decide_eq_true (by first | (with_reducible assumption) | assumption)) HC0.out; have HR278 := Aside0.mk (Kd.C_of_reads (h1 := fun _ => rfl) (hA11 _ (Kd.reads_of_C HR0.out))); have HC278 := Aside0.mk hC11; clear hA11 hC11 hi011 hsz11) | ((with_reducible refine gate_callee (f := 34) rfl ?_); refine goesL_ (some 22) rfl rfl Try.func34 (by kernel_rfl) rfl #[.slice A11 (l0.drop ((ji5) : Int).toNat).length (c0 - (ji5).toNat)] rfl (by (try simp only [List.map_toArray, List.map_cons, List.map_nil]); first | done | (rw [show (l0.drop ((ji5) : Int).toNat).length = (l0.length - (ji5).toNat) from List.length_drop] <;> rfl) | (simp only [hji5]; rfl) | rfl | (simp only [List.length_drop, List.length_take]; rfl)) ?_; (with_reducible refine (spec_DrawCapped.calls k _ _ (l0.drop ((ji5) : Int).toNat) t279 t280 _ ?side1 ?side2 A8.out).mono ?_); (case side1 => repeat (first | exact (Kd.C_below HR278.out HB.out) | (with_reducible refine Kd.C_alloc ?_ _) | (with_reducible refine Kd.C_drewN ?_ _) | (with_reducible refine Kd.C_drew ?_))); (case side2 => exact HC278.out); rintro e w12 ⟨rfl, hb⟩; refine ⟨_, rfl, ?_⟩; have n0_ := Aside0.mk (below_step (by repeat (first | (with_reducible first | exact HB.out | apply below_alloc | apply pw_below_drewN | apply below_drew1) | exact HB.out)) hb); clear HB; have HB := n0_; clear n0_; (try clear hb); (try clear hb2); (try clear hk); (try clear hi)))
        (try simp only [Act.put, List.setIfInBounds_toArray, List.set_cons_zero, List.set_cons_succ])
        go_cut [37] (fun v37 wc => ∃ (kq : Nat) (x37_8 : Bool), v37 = .bool x37_8 ∧ Aside0 (laws_FnMetric.j0 kq t276 t277 t280 x37_8 = some r) ∧ Aside0 (kq ≤ k) ∧ Aside0 (Below w.heap.size w wc))
        case first =>
          have H := HC9.out
          clear HC9
          by_cases c13 : (t276.size : Int) > 32
          · rw [if_pos c13] at H
            have c13b0 : decide (32 < (t276.size : Int)) = true := decide_eq_true c13
            have c13b1 : decide (32 < t276.size) = true := decide_eq_true (by omega)
            clear c13
            (first | rw [c13b0] | (simp only [i64_w, i32_w]; rw [c13b0]) | skip)
            have H' := Aside0.mk H
            clear H
            go_wp2
            go_meet
            case rel => exact ⟨_, (true), (by first | rfl | (simp; done) | (simp [*]; done)), H', ⟨by first | omega | exact Nat.le_refl _⟩, ⟨by repeat (first | (with_reducible first | exact HB.out | apply below_alloc | apply pw_below_drewN | apply below_drew1) | exact HB.out)⟩⟩
          · rw [if_neg c13] at H
            have c13b0 : decide (32 < (t276.size : Int)) = false := decide_eq_false c13
            have c13b1 : decide (32 < t276.size) = false := decide_eq_false (by omega)
            clear c13
            (first | rw [c13b0] | (simp only [i64_w, i32_w]; rw [c13b0]) | skip)
            by_cases c14 : (t277.size : Int) > 32
            · rw [if_pos c14] at H
              have c14b0 : decide (32 < (t277.size : Int)) = true := decide_eq_true c14
              have c14b1 : decide (32 < t277.size) = true := decide_eq_true (by omega)
              clear c14
              have H' := Aside0.mk H
              clear H
              go_wp2
              go_meet
              case rel => exact ⟨_, (true), (by first | rfl | (simp; done) | (simp [*]; done)), H', ⟨by first | omega | exact Nat.le_refl _⟩, ⟨by repeat (first | (with_reducible first | exact HB.out | apply below_alloc | apply pw_below_drewN | apply below_drew1) | exact HB.out)⟩⟩
            · rw [if_neg c14] at H
              have c14b0 : decide (32 < (t277.size : Int)) = false := decide_eq_false c14
              have c14b1 : decide (32 < t277.size) = false := decide_eq_false (by omega)
              clear c14
              have H' := Aside0.mk H
              clear H
              go_wp2
              go_meet
              case rel => exact ⟨_, (decide ((t280.size : Int) > 32)), (by first | rfl | (simp; done) | (simp [*]; done)), H', ⟨by first | omega | exact Nat.le_refl _⟩, ⟨by repeat (first | (with_reducible first | exact HB.out | apply below_alloc | apply pw_below_drewN | apply below_drew1) | exact HB.out)⟩⟩
        case rest =>
          clear HC9
          try clear c1
          try clear p2
          try clear c3
          try clear c6
          try clear c6b0
          try clear c6b1
          try clear p6
          try clear c7
          try clear c7b0
          try clear c7b1
          try clear c13
          try clear c13b0
          try clear c13b1
          try clear c14
          try clear c14b0
          try clear c14b1
          obtain ⟨kq, x37_8, rfl, HA, HJ8, HB⟩ := hcut
          cases kq with
          | zero => exact absurd HA.out (by simp [laws_FnMetric.j0])
          | succ kj8 =>
            have H := HA.out
            clear HA
            simp only [laws_FnMetric.j0] at H
            by_cases c15 : x37_8 = true
            · subst c15
              have H1 : ((impl_Distance.f kj8 t276 t277).bind fun t281 => ((spec_Distance.f kj8 t276 t277).bind fun t282 => (some (t281 == t282)))) = some r := by rw [if_pos rfl] at H; exact H
              clear H
              have H := H1
              clear H1
              replace H := Option.bind_eq_some_iff.mp H
              obtain ⟨t281, A160, H⟩ := H
              replace H : ((spec_Distance.f kj8 t276 t277).bind fun t282 => (some (t281 == t282))) = some r := H
              have A16 := Aside0.mk A160
              clear A160
              replace H := Option.bind_eq_some_iff.mp H
              obtain ⟨t282, A170, H⟩ := H
              replace H : (some (t281 == t282)) = some r := H
              have A17 := Aside0.mk A170
              clear A170
              obtain rfl := Option.some.inj H
              go_wp2_with (first | ((with_reducible refine gate_callee (f := 35) rfl ?_); refine goesL_ (some 40) rfl rfl Try.func35 (by kernel_rfl) rfl #[.string t276, .string t277] rfl (by (try simp only [List.map_toArray, List.map_cons, List.map_nil]); first | done | rfl | (simp only [List.length_drop, List.length_take]; rfl)) ?_; (with_reducible refine (impl_Distance.calls kj8 t276 t277 t281 _ A16.out).mono ?_); rintro e w18 ⟨rfl, hb⟩; refine ⟨_, rfl, ?_⟩; have n0_ := Aside0.mk (below_step (by repeat (first | (with_reducible first | exact HB.out | apply below_alloc | apply pw_below_drewN | apply below_drew1) | exact HB.out)) hb); clear HB; have HB := n0_; clear n0_; (try clear hb); (try clear hb2); (try clear hk); (try clear hi)) | ((with_reducible refine gate_callee (f := 36) rfl ?_); refine goesL_ (some 43) rfl rfl Try.func36 (by kernel_rfl) rfl #[.string t276, .string t277] rfl (by (try simp only [List.map_toArray, List.map_cons, List.map_nil]); first | done | rfl | (simp only [List.length_drop, List.length_take]; rfl)) ?_; (with_reducible refine (spec_Distance.calls kj8 t276 t277 t282 _ A17.out).mono ?_); rintro e w19 ⟨rfl, hb⟩; refine ⟨_, rfl, ?_⟩; have n0_ := Aside0.mk (below_step (by repeat (first | (with_reducible first | exact HB.out | apply below_alloc | apply pw_below_drewN | apply below_drew1) | exact HB.out)) hb); clear HB; have HB := n0_; clear n0_; (try clear hb); (try clear hb2); (try clear hk); (try clear hi)))
              go_ret
              exact ⟨by first | rfl | (simp [errW_none, errW_some] <;> rfl) | (simp only [← hji5]; first | rfl | (simp [errW_none, errW_some] <;> rfl)) | (simp [*, errW_none, errW_some] <;> rfl), by repeat (first | (with_reducible first | exact HB.out | apply below_alloc | apply pw_below_drewN | apply below_drew1) | exact HB.out)⟩
            · replace c15 := Bool.eq_false_iff.mpr c15
              subst c15
              have H1 : ((impl_Distance.f kj8 t276 t277).bind fun t283 => ((impl_Distance.f kj8 t277 t276).bind fun t284 => (if t283 = t284 then (if ((t283 == 0) == (t276.toList == t277.toList)) = true then ((impl_Distance.f kj8 t276 t280).bind fun t285 => ((impl_Distance.f kj8 t280 t277).bind fun t286 => (if t283 ≤ (wrap64 (t285 + t286)) then (if t283 ≥ (wrap64 ((t276.size : Int) - (t277.size : Int))) then (if t283 ≥ (wrap64 (-(wrap64 ((t276.size : Int) - (t277.size : Int))))) then (some (decide (t283 ≤ (mx (t276.size : Int) (t277.size : Int))))) else (some false)) else (some false)) else (some false)))) else (some false)) else (some false)))) = some r := by rw [if_neg (show ¬ (false = true) by decide)] at H; exact H
              clear H
              have H := H1
              clear H1
              replace H := Option.bind_eq_some_iff.mp H
              obtain ⟨t283, A200, H⟩ := H
              replace H : ((impl_Distance.f kj8 t277 t276).bind fun t284 => (if t283 = t284 then (if ((t283 == 0) == (t276.toList == t277.toList)) = true then ((impl_Distance.f kj8 t276 t280).bind fun t285 => ((impl_Distance.f kj8 t280 t277).bind fun t286 => (if t283 ≤ (wrap64 (t285 + t286)) then (if t283 ≥ (wrap64 ((t276.size : Int) - (t277.size : Int))) then (if t283 ≥ (wrap64 (-(wrap64 ((t276.size : Int) - (t277.size : Int))))) then (some (decide (t283 ≤ (mx (t276.size : Int) (t277.size : Int))))) else (some false)) else (some false)) else (some false)))) else (some false)) else (some false))) = some r := H
              have A20 := Aside0.mk A200
              clear A200
              replace H := Option.bind_eq_some_iff.mp H
              obtain ⟨t284, A210, H⟩ := H
              replace H : (if t283 = t284 then (if ((t283 == 0) == (t276.toList == t277.toList)) = true then ((impl_Distance.f kj8 t276 t280).bind fun t285 => ((impl_Distance.f kj8 t280 t277).bind fun t286 => (if t283 ≤ (wrap64 (t285 + t286)) then (if t283 ≥ (wrap64 ((t276.size : Int) - (t277.size : Int))) then (if t283 ≥ (wrap64 (-(wrap64 ((t276.size : Int) - (t277.size : Int))))) then (some (decide (t283 ≤ (mx (t276.size : Int) (t277.size : Int))))) else (some false)) else (some false)) else (some false)))) else (some false)) else (some false)) = some r := H
              have A21 := Aside0.mk A210
              clear A210
              by_cases c22 : t283 = t284
              · rw [if_pos c22] at H
                have c22b0 : (t283 == t284) = true := beq_iff_eq.mpr c22
                have c22b1 : (t283 != t284) = false := bne_eq_false_iff_eq.mpr c22
                clear c22
                by_cases c23 : ((t283 == 0) == (t276.toList == t277.toList)) = true
                · rw [if_pos c23] at H
                  have c23b0 : ((t283 == 0) == (t276.toList == t277.toList)) = true := c23
                  (try (have c23b1 : decide ((t283 == 0) = (t276.toList == t277.toList)) = true := by simpa using c23))
                  (try (have c23b2 : ((t283 == 0) == (t276.toList == t277.toList)) = true := by simpa using c23))
                  clear c23
                  replace H := Option.bind_eq_some_iff.mp H
                  obtain ⟨t285, A240, H⟩ := H
                  replace H : ((impl_Distance.f kj8 t280 t277).bind fun t286 => (if t283 ≤ (wrap64 (t285 + t286)) then (if t283 ≥ (wrap64 ((t276.size : Int) - (t277.size : Int))) then (if t283 ≥ (wrap64 (-(wrap64 ((t276.size : Int) - (t277.size : Int))))) then (some (decide (t283 ≤ (mx (t276.size : Int) (t277.size : Int))))) else (some false)) else (some false)) else (some false))) = some r := H
                  have A24 := Aside0.mk A240
                  clear A240
                  replace H := Option.bind_eq_some_iff.mp H
                  obtain ⟨t286, A250, H⟩ := H
                  replace H : (if t283 ≤ (wrap64 (t285 + t286)) then (if t283 ≥ (wrap64 ((t276.size : Int) - (t277.size : Int))) then (if t283 ≥ (wrap64 (-(wrap64 ((t276.size : Int) - (t277.size : Int))))) then (some (decide (t283 ≤ (mx (t276.size : Int) (t277.size : Int))))) else (some false)) else (some false)) else (some false)) = some r := H
                  have A25 := Aside0.mk A250
                  clear A250
                  by_cases c26 : t283 ≤ (wrap64 (t285 + t286))
                  · rw [if_pos c26] at H
                    have c26b0 : decide (t283 ≤ (wrap64 (t285 + t286))) = true := decide_eq_true c26
                    clear c26
                    by_cases c27 : t283 ≥ (wrap64 ((t276.size : Int) - (t277.size : Int)))
                    · rw [if_pos c27] at H
                      have c27b0 : decide ((wrap64 ((t276.size : Int) - (t277.size : Int))) ≤ t283) = true := decide_eq_true c27
                      clear c27
                      by_cases c28 : t283 ≥ (wrap64 (-(wrap64 ((t276.size : Int) - (t277.size : Int)))))
                      · rw [if_pos c28] at H
                        have c28b0 : decide ((wrap64 (-(wrap64 ((t276.size : Int) - (t277.size : Int))))) ≤ t283) = true := decide_eq_true c28
                        clear c28
                        obtain ⟨ji29, hji29⟩ : ∃ j_ : Int, (mx (t276.size : Int) (t277.size : Int)) = j_ := ⟨_, rfl⟩
                        replace H : (some (decide (t283 ≤ (ji29)))) = some r := by first | (rw [hji29] at H; exact H) | (simp only [hji29] at H ⊢; exact H)
                        (try rw [hji29] at A20)
                        (try rw [hji29] at A21)
                        (try rw [hji29] at A24)
                        (try rw [hji29] at A25)
                        have hji29_ : (if (t276.size : Int) < (t277.size : Int) then (t277.size : Int) else (t276.size : Int)) = ji29 := hji29
                        obtain rfl := Option.some.inj H
                        go_wp2_with (first | ((with_reducible refine gate_callee (f := 35) rfl ?_); refine goesL_ (some 47) rfl rfl Try.func35 (by kernel_rfl) rfl #[.string t276, .string t277] rfl (by (try simp only [List.map_toArray, List.map_cons, List.map_nil]); first | done | rfl | (simp only [List.length_drop, List.length_take]; rfl)) ?_; (with_reducible refine (impl_Distance.calls kj8 t276 t277 t283 _ A20.out).mono ?_); rintro e w30 ⟨rfl, hb⟩; refine ⟨_, rfl, ?_⟩; have n0_ := Aside0.mk (below_step (by repeat (first | (with_reducible first | exact HB.out | apply below_alloc | apply pw_below_drewN | apply below_drew1) | exact HB.out)) hb); clear HB; have HB := n0_; clear n0_; (try clear hb); (try clear hb2); (try clear hk); (try clear hi)) | ((with_reducible refine gate_callee (f := 35) rfl ?_); refine goesL_ (some 56) rfl rfl Try.func35 (by kernel_rfl) rfl #[.string t277, .string t276] rfl (by (try simp only [List.map_toArray, List.map_cons, List.map_nil]); first | done | rfl | (simp only [List.length_drop, List.length_take]; rfl)) ?_; (with_reducible refine (impl_Distance.calls kj8 t277 t276 t284 _ A21.out).mono ?_); rintro e w31 ⟨rfl, hb⟩; refine ⟨_, rfl, ?_⟩; have n0_ := Aside0.mk (below_step (by repeat (first | (with_reducible first | exact HB.out | apply below_alloc | apply pw_below_drewN | apply below_drew1) | exact HB.out)) hb); clear HB; have HB := n0_; clear n0_; (try clear hb); (try clear hb2); (try clear hk); (try clear hi)) | (go_at_call 35; (with_reducible refine (impl_Distance.calls kj8 t276 t280 t285 _ A24.out).mono ?_); rintro e w32 ⟨rfl, hb⟩; have n0_ := Aside0.mk (below_step (by repeat (first | (with_reducible first | exact HB.out | apply below_alloc | apply pw_below_drewN | apply below_drew1) | exact HB.out)) hb); clear HB; have HB := n0_; clear n0_; (try clear hb); (try clear hb2); (try clear hk); (try clear hi)) | (go_at_call 35; (with_reducible refine (impl_Distance.calls kj8 t280 t277 t286 _ A25.out).mono ?_); rintro e w33 ⟨rfl, hb⟩; have n0_ := Aside0.mk (below_step (by repeat (first | (with_reducible first | exact HB.out | apply below_alloc | apply pw_below_drewN | apply below_drew1) | exact HB.out)) hb); clear HB; have HB := n0_; clear n0_; (try clear hb); (try clear hb2); (try clear hk); (try clear hi)))
                        all_goals go_ret
                        all_goals exact ⟨by first | rfl | (simp only [← hji29]; (first | unfold mx | unfold mn); (first | rw [if_pos (by omega)] | rw [if_neg (by omega)]); first | rfl | (simp; done)) | (simp [errW_none, errW_some] <;> rfl) | (simp only [← hji5, ← hji29]; first | rfl | (simp [errW_none, errW_some] <;> rfl)) | (simp [*, errW_none, errW_some] <;> rfl), by repeat (first | (with_reducible first | exact HB.out | apply below_alloc | apply pw_below_drewN | apply below_drew1) | exact HB.out)⟩
                      · rw [if_neg c28] at H
                        have c28b0 : decide ((wrap64 (-(wrap64 ((t276.size : Int) - (t277.size : Int))))) ≤ t283) = false := decide_eq_false c28
                        clear c28
                        obtain rfl := Option.some.inj H
                        go_wp2_with (first | ((with_reducible refine gate_callee (f := 35) rfl ?_); refine goesL_ (some 47) rfl rfl Try.func35 (by kernel_rfl) rfl #[.string t276, .string t277] rfl (by (try simp only [List.map_toArray, List.map_cons, List.map_nil]); first | done | rfl | (simp only [List.length_drop, List.length_take]; rfl)) ?_; (with_reducible refine (impl_Distance.calls kj8 t276 t277 t283 _ A20.out).mono ?_); rintro e w34 ⟨rfl, hb⟩; refine ⟨_, rfl, ?_⟩; have n0_ := Aside0.mk (below_step (by repeat (first | (with_reducible first | exact HB.out | apply below_alloc | apply pw_below_drewN | apply below_drew1) | exact HB.out)) hb); clear HB; have HB := n0_; clear n0_; (try clear hb); (try clear hb2); (try clear hk); (try clear hi)) | ((with_reducible refine gate_callee (f := 35) rfl ?_); refine goesL_ (some 56) rfl rfl Try.func35 (by kernel_rfl) rfl #[.string t277, .string t276] rfl (by (try simp only [List.map_toArray, List.map_cons, List.map_nil]); first | done | rfl | (simp only [List.length_drop, List.length_take]; rfl)) ?_; (with_reducible refine (impl_Distance.calls kj8 t277 t276 t284 _ A21.out).mono ?_); rintro e w35 ⟨rfl, hb⟩; refine ⟨_, rfl, ?_⟩; have n0_ := Aside0.mk (below_step (by repeat (first | (with_reducible first | exact HB.out | apply below_alloc | apply pw_below_drewN | apply below_drew1) | exact HB.out)) hb); clear HB; have HB := n0_; clear n0_; (try clear hb); (try clear hb2); (try clear hk); (try clear hi)) | (go_at_call 35; (with_reducible refine (impl_Distance.calls kj8 t276 t280 t285 _ A24.out).mono ?_); rintro e w36 ⟨rfl, hb⟩; have n0_ := Aside0.mk (below_step (by repeat (first | (with_reducible first | exact HB.out | apply below_alloc | apply pw_below_drewN | apply below_drew1) | exact HB.out)) hb); clear HB; have HB := n0_; clear n0_; (try clear hb); (try clear hb2); (try clear hk); (try clear hi)) | (go_at_call 35; (with_reducible refine (impl_Distance.calls kj8 t280 t277 t286 _ A25.out).mono ?_); rintro e w37 ⟨rfl, hb⟩; have n0_ := Aside0.mk (below_step (by repeat (first | (with_reducible first | exact HB.out | apply below_alloc | apply pw_below_drewN | apply below_drew1) | exact HB.out)) hb); clear HB; have HB := n0_; clear n0_; (try clear hb); (try clear hb2); (try clear hk); (try clear hi)))
                        go_ret
                        exact ⟨by first | rfl | (simp [errW_none, errW_some] <;> rfl) | (simp only [← hji5]; first | rfl | (simp [errW_none, errW_some] <;> rfl)) | (simp [*, errW_none, errW_some] <;> rfl), by repeat (first | (with_reducible first | exact HB.out | apply below_alloc | apply pw_below_drewN | apply below_drew1) | exact HB.out)⟩
                    · rw [if_neg c27] at H
                      have c27b0 : decide ((wrap64 ((t276.size : Int) - (t277.size : Int))) ≤ t283) = false := decide_eq_false c27
                      clear c27
                      obtain rfl := Option.some.inj H
                      go_wp2_with (first | ((with_reducible refine gate_callee (f := 35) rfl ?_); refine goesL_ (some 47) rfl rfl Try.func35 (by kernel_rfl) rfl #[.string t276, .string t277] rfl (by (try simp only [List.map_toArray, List.map_cons, List.map_nil]); first | done | rfl | (simp only [List.length_drop, List.length_take]; rfl)) ?_; (with_reducible refine (impl_Distance.calls kj8 t276 t277 t283 _ A20.out).mono ?_); rintro e w38 ⟨rfl, hb⟩; refine ⟨_, rfl, ?_⟩; have n0_ := Aside0.mk (below_step (by repeat (first | (with_reducible first | exact HB.out | apply below_alloc | apply pw_below_drewN | apply below_drew1) | exact HB.out)) hb); clear HB; have HB := n0_; clear n0_; (try clear hb); (try clear hb2); (try clear hk); (try clear hi)) | ((with_reducible refine gate_callee (f := 35) rfl ?_); refine goesL_ (some 56) rfl rfl Try.func35 (by kernel_rfl) rfl #[.string t277, .string t276] rfl (by (try simp only [List.map_toArray, List.map_cons, List.map_nil]); first | done | rfl | (simp only [List.length_drop, List.length_take]; rfl)) ?_; (with_reducible refine (impl_Distance.calls kj8 t277 t276 t284 _ A21.out).mono ?_); rintro e w39 ⟨rfl, hb⟩; refine ⟨_, rfl, ?_⟩; have n0_ := Aside0.mk (below_step (by repeat (first | (with_reducible first | exact HB.out | apply below_alloc | apply pw_below_drewN | apply below_drew1) | exact HB.out)) hb); clear HB; have HB := n0_; clear n0_; (try clear hb); (try clear hb2); (try clear hk); (try clear hi)) | (go_at_call 35; (with_reducible refine (impl_Distance.calls kj8 t276 t280 t285 _ A24.out).mono ?_); rintro e w40 ⟨rfl, hb⟩; have n0_ := Aside0.mk (below_step (by repeat (first | (with_reducible first | exact HB.out | apply below_alloc | apply pw_below_drewN | apply below_drew1) | exact HB.out)) hb); clear HB; have HB := n0_; clear n0_; (try clear hb); (try clear hb2); (try clear hk); (try clear hi)) | (go_at_call 35; (with_reducible refine (impl_Distance.calls kj8 t280 t277 t286 _ A25.out).mono ?_); rintro e w41 ⟨rfl, hb⟩; have n0_ := Aside0.mk (below_step (by repeat (first | (with_reducible first | exact HB.out | apply below_alloc | apply pw_below_drewN | apply below_drew1) | exact HB.out)) hb); clear HB; have HB := n0_; clear n0_; (try clear hb); (try clear hb2); (try clear hk); (try clear hi)))
                      go_ret
                      exact ⟨by first | rfl | (simp [errW_none, errW_some] <;> rfl) | (simp only [← hji5]; first | rfl | (simp [errW_none, errW_some] <;> rfl)) | (simp [*, errW_none, errW_some] <;> rfl), by repeat (first | (with_reducible first | exact HB.out | apply below_alloc | apply pw_below_drewN | apply below_drew1) | exact HB.out)⟩
                  · rw [if_neg c26] at H
                    have c26b0 : decide (t283 ≤ (wrap64 (t285 + t286))) = false := decide_eq_false c26
                    clear c26
                    obtain rfl := Option.some.inj H
                    go_wp2_with (first | ((with_reducible refine gate_callee (f := 35) rfl ?_); refine goesL_ (some 47) rfl rfl Try.func35 (by kernel_rfl) rfl #[.string t276, .string t277] rfl (by (try simp only [List.map_toArray, List.map_cons, List.map_nil]); first | done | rfl | (simp only [List.length_drop, List.length_take]; rfl)) ?_; (with_reducible refine (impl_Distance.calls kj8 t276 t277 t283 _ A20.out).mono ?_); rintro e w42 ⟨rfl, hb⟩; refine ⟨_, rfl, ?_⟩; have n0_ := Aside0.mk (below_step (by repeat (first | (with_reducible first | exact HB.out | apply below_alloc | apply pw_below_drewN | apply below_drew1) | exact HB.out)) hb); clear HB; have HB := n0_; clear n0_; (try clear hb); (try clear hb2); (try clear hk); (try clear hi)) | ((with_reducible refine gate_callee (f := 35) rfl ?_); refine goesL_ (some 56) rfl rfl Try.func35 (by kernel_rfl) rfl #[.string t277, .string t276] rfl (by (try simp only [List.map_toArray, List.map_cons, List.map_nil]); first | done | rfl | (simp only [List.length_drop, List.length_take]; rfl)) ?_; (with_reducible refine (impl_Distance.calls kj8 t277 t276 t284 _ A21.out).mono ?_); rintro e w43 ⟨rfl, hb⟩; refine ⟨_, rfl, ?_⟩; have n0_ := Aside0.mk (below_step (by repeat (first | (with_reducible first | exact HB.out | apply below_alloc | apply pw_below_drewN | apply below_drew1) | exact HB.out)) hb); clear HB; have HB := n0_; clear n0_; (try clear hb); (try clear hb2); (try clear hk); (try clear hi)) | (go_at_call 35; (with_reducible refine (impl_Distance.calls kj8 t276 t280 t285 _ A24.out).mono ?_); rintro e w44 ⟨rfl, hb⟩; have n0_ := Aside0.mk (below_step (by repeat (first | (with_reducible first | exact HB.out | apply below_alloc | apply pw_below_drewN | apply below_drew1) | exact HB.out)) hb); clear HB; have HB := n0_; clear n0_; (try clear hb); (try clear hb2); (try clear hk); (try clear hi)) | (go_at_call 35; (with_reducible refine (impl_Distance.calls kj8 t280 t277 t286 _ A25.out).mono ?_); rintro e w45 ⟨rfl, hb⟩; have n0_ := Aside0.mk (below_step (by repeat (first | (with_reducible first | exact HB.out | apply below_alloc | apply pw_below_drewN | apply below_drew1) | exact HB.out)) hb); clear HB; have HB := n0_; clear n0_; (try clear hb); (try clear hb2); (try clear hk); (try clear hi)))
                    go_ret
                    exact ⟨by first | rfl | (simp [errW_none, errW_some] <;> rfl) | (simp only [← hji5]; first | rfl | (simp [errW_none, errW_some] <;> rfl)) | (simp [*, errW_none, errW_some] <;> rfl), by repeat (first | (with_reducible first | exact HB.out | apply below_alloc | apply pw_below_drewN | apply below_drew1) | exact HB.out)⟩
                · rw [if_neg c23] at H
                  have c23b0 : ((t283 == 0) == (t276.toList == t277.toList)) = false := by simpa using c23
                  (try (have c23b1 : decide ((t283 == 0) = (t276.toList == t277.toList)) = false := by simpa using c23))
                  (try (have c23b2 : ((t283 == 0) == (t276.toList == t277.toList)) = false := by simpa using c23))
                  (try (have c23b3 : ¬ ((t283 == 0) = (t276.toList == t277.toList)) := by simpa using c23))
                  clear c23
                  obtain rfl := Option.some.inj H
                  go_wp2_with (first | ((with_reducible refine gate_callee (f := 35) rfl ?_); refine goesL_ (some 47) rfl rfl Try.func35 (by kernel_rfl) rfl #[.string t276, .string t277] rfl (by (try simp only [List.map_toArray, List.map_cons, List.map_nil]); first | done | rfl | (simp only [List.length_drop, List.length_take]; rfl)) ?_; (with_reducible refine (impl_Distance.calls kj8 t276 t277 t283 _ A20.out).mono ?_); rintro e w46 ⟨rfl, hb⟩; refine ⟨_, rfl, ?_⟩; have n0_ := Aside0.mk (below_step (by repeat (first | (with_reducible first | exact HB.out | apply below_alloc | apply pw_below_drewN | apply below_drew1) | exact HB.out)) hb); clear HB; have HB := n0_; clear n0_; (try clear hb); (try clear hb2); (try clear hk); (try clear hi)) | ((with_reducible refine gate_callee (f := 35) rfl ?_); refine goesL_ (some 56) rfl rfl Try.func35 (by kernel_rfl) rfl #[.string t277, .string t276] rfl (by (try simp only [List.map_toArray, List.map_cons, List.map_nil]); first | done | rfl | (simp only [List.length_drop, List.length_take]; rfl)) ?_; (with_reducible refine (impl_Distance.calls kj8 t277 t276 t284 _ A21.out).mono ?_); rintro e w47 ⟨rfl, hb⟩; refine ⟨_, rfl, ?_⟩; have n0_ := Aside0.mk (below_step (by repeat (first | (with_reducible first | exact HB.out | apply below_alloc | apply pw_below_drewN | apply below_drew1) | exact HB.out)) hb); clear HB; have HB := n0_; clear n0_; (try clear hb); (try clear hb2); (try clear hk); (try clear hi)))
                  go_ret
                  exact ⟨by first | rfl | (simp [errW_none, errW_some] <;> rfl) | (simp only [← hji5]; first | rfl | (simp [errW_none, errW_some] <;> rfl)) | (simp [*, errW_none, errW_some] <;> rfl), by repeat (first | (with_reducible first | exact HB.out | apply below_alloc | apply pw_below_drewN | apply below_drew1) | exact HB.out)⟩
              · rw [if_neg c22] at H
                have c22b0 : (t283 == t284) = false := beq_eq_false_iff_ne.mpr c22
                have c22b1 : (t283 != t284) = true := bne_iff_ne.mpr c22
                obtain rfl := Option.some.inj H
                go_wp2_with (first | ((with_reducible refine gate_callee (f := 35) rfl ?_); refine goesL_ (some 47) rfl rfl Try.func35 (by kernel_rfl) rfl #[.string t276, .string t277] rfl (by (try simp only [List.map_toArray, List.map_cons, List.map_nil]); first | done | rfl | (simp only [List.length_drop, List.length_take]; rfl)) ?_; (with_reducible refine (impl_Distance.calls kj8 t276 t277 t283 _ A20.out).mono ?_); rintro e w48 ⟨rfl, hb⟩; refine ⟨_, rfl, ?_⟩; have n0_ := Aside0.mk (below_step (by repeat (first | (with_reducible first | exact HB.out | apply below_alloc | apply pw_below_drewN | apply below_drew1) | exact HB.out)) hb); clear HB; have HB := n0_; clear n0_; (try clear hb); (try clear hb2); (try clear hk); (try clear hi)) | ((with_reducible refine gate_callee (f := 35) rfl ?_); refine goesL_ (some 56) rfl rfl Try.func35 (by kernel_rfl) rfl #[.string t277, .string t276] rfl (by (try simp only [List.map_toArray, List.map_cons, List.map_nil]); first | done | rfl | (simp only [List.length_drop, List.length_take]; rfl)) ?_; (with_reducible refine (impl_Distance.calls kj8 t277 t276 t284 _ A21.out).mono ?_); rintro e w49 ⟨rfl, hb⟩; refine ⟨_, rfl, ?_⟩; have n0_ := Aside0.mk (below_step (by repeat (first | (with_reducible first | exact HB.out | apply below_alloc | apply pw_below_drewN | apply below_drew1) | exact HB.out)) hb); clear HB; have HB := n0_; clear n0_; (try clear hb); (try clear hb2); (try clear hk); (try clear hi)))
                go_ret
                exact ⟨by first | rfl | (simp [errW_none, errW_some] <;> rfl) | (simp only [← hji5]; first | rfl | (simp [errW_none, errW_some] <;> rfl)) | (simp [*, errW_none, errW_some] <;> rfl), by repeat (first | (with_reducible first | exact HB.out | apply below_alloc | apply pw_below_drewN | apply below_drew1) | exact HB.out)⟩
      · rw [if_neg c7] at H
        exact absurd H (by simp)
    · rw [if_neg c6] at H
      exact absurd H (by simp)

/-- THE ONE PURE STATEMENT of laws_FnMetric: yours. -/
def laws_FnMetric.Pure : Prop := ∀ (l0 : List Int), l0.length ≤ maxLen → l0.length * 1 ≤ 140737488351232 → (∀ x ∈ l0, (Lit.int .u8 x).wf = true) → ∃ k, laws_FnMetric.f k l0 = some true
theorem laws_FnMetric.walk (P : laws_FnMetric.Pure) (a0 : Option Addr) (len0 cap0 : Nat) (z0 : List Int) (w : World) (w0 : (a0 = none ∧ len0 = 0 ∧ cap0 = 0 ∧ z0 = []) ∨ ∃ x, a0 = some x ∧ len0 ≤ cap0 ∧ cap0 ≤ maxLen ∧ z0.length = cap0 ∧ (∀ i, i < z0.length → w.cell? (x.add i) = some (.int .u8 (z0.getD i 0))) ∧ ∀ n ∈ z0, (Lit.int .u8 n).wf = true) (y0 : len0 * 1 ≤ 140737488351232) :
    Calls Try.prog 7 #[.slice a0 len0 cap0] w fun e w' => e = .returned (.bool true) ∧ Below w.heap.size w w' := by
  obtain ⟨l0, rfl, hr0, hm0, hw0, hc0⟩ := ReadsInt.ofRowC w0
  obtain ⟨k, h⟩ := P l0 hm0 y0 hw0
  refine (laws_FnMetric.calls k _ _ l0 true w (Kd.C_of_reads (d := (0 : Int)) (h1 := fun _ => rfl) hr0) hc0 h).mono ?_
  rintro e w' ⟨rfl, hd⟩
  exact ⟨rfl, hd⟩

end Go.Proofs.Ytnmalfhdndnelaa.PFnMetric
