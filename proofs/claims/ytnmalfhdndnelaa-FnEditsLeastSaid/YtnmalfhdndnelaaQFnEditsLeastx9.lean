/- The functions that the law FnEditsLeast reaches, as plain Lean functions, and the walks that show that Go comes to their answers; part 9. Its lines are the print's, turned where Lean refused them. -/
import Derived.Test.YtnmalfhdndnelaaQFnEditsLeastx0
import Derived.Test.YtnmalfhdndnelaaQFnEditsLeastx6
import Derived.Test.YtnmalfhdndnelaaQFnEditsLeastx7
import Derived.Test.YtnmalfhdndnelaaQFnEditsLeastx8
namespace Go.Proofs.Ytnmalfhdndnelaa.PFnEditsLeast
open Go.RowKit Go.Proofs.YtnmalfhdndnelaaW.PrintWords Go.Proofs.YtnmalfhdndnelaaW.PrintLast Go.Proofs.YtnmalfhdndnelaaW.PrintMore
attribute [local go_sem] max2_int min2_int max_two min_two max_three min_three max_four min_four   -- for this text's walks alone
set_option linter.unusedVariables false
set_option linter.unusedSimpArgs false

/-! ### spec_DrawEditCost: function 48 -/
mutual
def spec_DrawEditCost.l0 : Nat → ByteArray → ByteArray → ByteArray → Int → Option (ByteArray × ByteArray × ByteArray)
 | 0, _, _, _, _ => none
 | k + 1, x6, x7, x8, x10 => if x10 > 0 then (if x8.size + 1 ≤ 9223372036854775807 then (spec_DrawEditCost.l0 k x6 x7 (x8 ++ (⟨#[100]⟩ : ByteArray)) (wrap64 (x10 - 1))) else (none)) else (spec_DrawEditCost.l1 k x6 x7 x8 (x7.size : Int))
def spec_DrawEditCost.l1 : Nat → ByteArray → ByteArray → ByteArray → Int → Option (ByteArray × ByteArray × ByteArray)
 | 0, _, _, _, _ => none
 | k + 1, x6, x7, x8, x11 => if x11 > 0 then (if x8.size + 1 ≤ 9223372036854775807 then (spec_DrawEditCost.l1 k x6 x7 (x8 ++ (⟨#[105]⟩ : ByteArray)) (wrap64 (x11 - 1))) else (none)) else (some (x8, x6, x7))
end
def spec_DrawEditCost.f (k : Nat) (l0 : List Int) : Option (ByteArray × ByteArray × ByteArray) := (spec_l01Open.f l0).bind fun bt300 => ((spec_l01Cur_pair.f k bt300.1 bt300.2.1 bt300.2.2).bind fun bt304 => ((spec_EditText.f k bt304.1 bt304.2.1).bind fun t308 => ((spec_l01Cur_pick.f bt300.1 bt304.2.2.1 bt304.2.2.2 4).bind fun bt309 => (if bt309.1 = 0 then ((spec_l01Cur_pick.f bt300.1 bt309.2.1 bt309.2.2 (wrap64 ((t308.size : Int) + 1))).bind fun bt312 => (if 0 ≤ bt312.1 then (if bt312.1 ≤ (t308.size : Int) then ((some (([(⟨#[100, 105]⟩ : ByteArray), (⟨#[105, 100]⟩ : ByteArray), (⟨#[107]⟩ : ByteArray), (⟨#[120]⟩ : ByteArray), (⟨#[115]⟩ : ByteArray)] : List ByteArray) : List ByteArray)).bind fun y315 => ((spec_l01Cur_pick.f bt300.1 bt312.2.1 bt312.2.2 5).bind fun bt318 => (if 0 ≤ bt318.1 then (if bt318.1 < (y315.length : Int) then (if (t308.extract 0 (bt312.1 : Int).toNat).size + (rdOf ByteArray.empty y315 bt318.1).size ≤ 9223372036854775807 then ((spec_l01Cur_pick.f bt300.1 bt318.2.1 bt318.2.2 2).bind fun bt322 => (if 0 ≤ (mn (t308.size : Int) (wrap64 (bt312.1 + bt322.1))) then (if (mn (t308.size : Int) (wrap64 (bt312.1 + bt322.1))) ≤ (t308.size : Int) then (if ((t308.extract 0 (bt312.1 : Int).toNat) ++ (rdOf ByteArray.empty y315 bt318.1)).size + (t308.extract ((mn (t308.size : Int) (wrap64 (bt312.1 + bt322.1))) : Int).toNat t308.size).size ≤ 9223372036854775807 then (some (((t308.extract 0 (bt312.1 : Int).toNat) ++ (rdOf ByteArray.empty y315 bt318.1)) ++ (t308.extract ((mn (t308.size : Int) (wrap64 (bt312.1 + bt322.1))) : Int).toNat t308.size), bt304.1, bt304.2.1)) else (none)) else (none)) else (none))) else (none)) else (none)) else (none)))) else (none)) else (none))) else (if bt309.1 = 1 then (spec_DrawEditCost.l0 k bt304.1 bt304.2.1 (⟨#[]⟩ : ByteArray) (bt304.1.size : Int)) else (some (t308, bt304.1, bt304.2.1)))))))
theorem spec_DrawEditCost.mono_l : ∀ k, (∀ y0 y1 y2 y3, LeO (spec_DrawEditCost.l0 k y0 y1 y2 y3) (spec_DrawEditCost.l0 (k + 1) y0 y1 y2 y3)) ∧ (∀ y0 y1 y2 y3, LeO (spec_DrawEditCost.l1 k y0 y1 y2 y3) (spec_DrawEditCost.l1 (k + 1) y0 y1 y2 y3))
 | 0 => ⟨fun _ _ _ _ r h => by simp [spec_DrawEditCost.l0] at h, fun _ _ _ _ r h => by simp [spec_DrawEditCost.l1] at h⟩
 | k + 1 => by
  obtain ⟨ih0, ih1⟩ := spec_DrawEditCost.mono_l k
  refine ⟨?_, ?_⟩
  ·intro y0 y1 y2 y3
   unfold spec_DrawEditCost.l0
   repeat' first
   | (with_reducible exact ih0 _ _ _ _)
   | (with_reducible exact ih1 _ _ _ _)
   | (with_reducible exact spec_EditText.mono _ _ _)
   | (with_reducible exact spec_l01Cur_pair.mono _ _ _ _)
   | (with_reducible exact LeO.refl _)
   | (with_reducible exact LeO.none _)
   | (with_reducible refine LeO.ite ?_ ?_)
   | (with_reducible refine LeO.bind ?_ (fun _ => ?_))
   | exact ih0 _ _ _ _
   | exact ih1 _ _ _ _
   | exact spec_EditText.mono _ _ _
   | exact spec_l01Cur_pair.mono _ _ _ _
   | exact LeO.none _
   | refine LeO.ite ?_ ?_
   | refine LeO.bind ?_ (fun _ => ?_)
  ·intro y0 y1 y2 y3
   unfold spec_DrawEditCost.l1
   repeat' first
   | (with_reducible exact ih0 _ _ _ _)
   | (with_reducible exact ih1 _ _ _ _)
   | (with_reducible exact spec_EditText.mono _ _ _)
   | (with_reducible exact spec_l01Cur_pair.mono _ _ _ _)
   | (with_reducible exact LeO.refl _)
   | (with_reducible exact LeO.none _)
   | (with_reducible refine LeO.ite ?_ ?_)
   | (with_reducible refine LeO.bind ?_ (fun _ => ?_))
   | exact ih0 _ _ _ _
   | exact ih1 _ _ _ _
   | exact spec_EditText.mono _ _ _
   | exact spec_l01Cur_pair.mono _ _ _ _
   | exact LeO.none _
   | refine LeO.ite ?_ ?_
   | refine LeO.bind ?_ (fun _ => ?_)
theorem spec_DrawEditCost.mono : ∀ a0 k, LeO (spec_DrawEditCost.f k a0) (spec_DrawEditCost.f (k + 1) a0) := by
 intro a0 k
 obtain ⟨ih0, ih1⟩ := spec_DrawEditCost.mono_l k
 unfold spec_DrawEditCost.f
 repeat' first
   | (with_reducible exact ih0 _ _ _ _)
   | (with_reducible exact ih1 _ _ _ _)
   | (with_reducible exact spec_EditText.mono _ _ _)
   | (with_reducible exact spec_l01Cur_pair.mono _ _ _ _)
   | (with_reducible exact LeO.refl _)
   | (with_reducible exact LeO.none _)
   | (with_reducible refine LeO.ite ?_ ?_)
   | (with_reducible refine LeO.bind ?_ (fun _ => ?_))
   | exact ih0 _ _ _ _
   | exact ih1 _ _ _ _
   | exact spec_EditText.mono _ _ _
   | exact spec_l01Cur_pair.mono _ _ _ _
   | exact LeO.none _
   | refine LeO.ite ?_ ?_
   | refine LeO.bind ?_ (fun _ => ?_)
def spec_DrawEditCost.T7 : Bool × List (List Nat × List Nat) := (true, [([], []), ([], []), ([0, 1], [0, 1]), ([], []), ([], []), ([4], [4]), ([3, 5], [3, 5]), ([6], [6]), ([2, 7], [2, 7]), ([], []), ([], []), ([10], [10]), ([], []), ([], []), ([13, 5], [13]), ([12, 14], [12, 14]), ([11, 15], [11, 15]), ([9, 16], [9, 16]), ([8, 17], [8, 17]), ([18, 14, 0, 1, 2, 3, 4, 5, 6, 7, 8, 9, 10, 11, 12, 13, 14, 15, 16, 17, 18], [0, 9, 10, 18])])
def spec_DrawEditCost.B7 : List Nat := [0, 0, 3, 0, 0, 16, 56, 120, 255, 0, 0, 1024, 0, 0, 8240, 28720, 64560, 130608, 262143, 524287]
theorem spec_DrawEditCost.tab7 : rtab .any (opsOf Try.f48 7) = spec_DrawEditCost.T7 := by kernel_rfl
theorem spec_DrawEditCost.bits7 : waitsOk spec_DrawEditCost.T7.2 spec_DrawEditCost.B7 = true := by kernel_rfl
set_option maxHeartbeats 8000000 in
set_option maxRecDepth 100000 in
theorem spec_DrawEditCost.calls (k : Nat) (A0 : Option Addr) (c0 : Nat) (l0 : List Int) (r1 : ByteArray) (r2 : ByteArray) (r3 : ByteArray) (w : World) (hr0 : Kd.C (Kd.int .u8) w A0 l0.length l0) (hc0 : l0.length ≤ c0) (h : spec_DrawEditCost.f k l0 = some (r1, r2, r3)) :
  Calls Try.prog 48 #[.slice A0 l0.length c0] w fun e w' => e = .returned (.tuple #[.string r1, .string r2, .string r3]) ∧ Below w.heap.size w w' := by
 have HR0 := Aside0.mk hr0
 have HC0 := Aside0.mk hc0
 clear hr0 hc0
 have HB := Aside0.mk (Below.refl w.heap.size w)
 have H : ((spec_l01Open.f l0).bind fun bt300 => ((spec_l01Cur_pair.f k bt300.1 bt300.2.1 bt300.2.2).bind fun bt304 => ((spec_EditText.f k bt304.1 bt304.2.1).bind fun t308 => ((spec_l01Cur_pick.f bt300.1 bt304.2.2.1 bt304.2.2.2 4).bind fun bt309 => (if bt309.1 = 0 then ((spec_l01Cur_pick.f bt300.1 bt309.2.1 bt309.2.2 (wrap64 ((t308.size : Int) + 1))).bind fun bt312 => (if 0 ≤ bt312.1 then (if bt312.1 ≤ (t308.size : Int) then ((some (([(⟨#[100, 105]⟩ : ByteArray), (⟨#[105, 100]⟩ : ByteArray), (⟨#[107]⟩ : ByteArray), (⟨#[120]⟩ : ByteArray), (⟨#[115]⟩ : ByteArray)] : List ByteArray) : List ByteArray)).bind fun y315 => ((spec_l01Cur_pick.f bt300.1 bt312.2.1 bt312.2.2 5).bind fun bt318 => (if 0 ≤ bt318.1 then (if bt318.1 < (y315.length : Int) then (if (t308.extract 0 (bt312.1 : Int).toNat).size + (rdOf ByteArray.empty y315 bt318.1).size ≤ 9223372036854775807 then ((spec_l01Cur_pick.f bt300.1 bt318.2.1 bt318.2.2 2).bind fun bt322 => (if 0 ≤ (mn (t308.size : Int) (wrap64 (bt312.1 + bt322.1))) then (if (mn (t308.size : Int) (wrap64 (bt312.1 + bt322.1))) ≤ (t308.size : Int) then (if ((t308.extract 0 (bt312.1 : Int).toNat) ++ (rdOf ByteArray.empty y315 bt318.1)).size + (t308.extract ((mn (t308.size : Int) (wrap64 (bt312.1 + bt322.1))) : Int).toNat t308.size).size ≤ 9223372036854775807 then (some (((t308.extract 0 (bt312.1 : Int).toNat) ++ (rdOf ByteArray.empty y315 bt318.1)) ++ (t308.extract ((mn (t308.size : Int) (wrap64 (bt312.1 + bt322.1))) : Int).toNat t308.size), bt304.1, bt304.2.1)) else (none)) else (none)) else (none))) else (none)) else (none)) else (none)))) else (none)) else (none))) else (if bt309.1 = 1 then (spec_DrawEditCost.l0 k bt304.1 bt304.2.1 (⟨#[]⟩ : ByteArray) (bt304.1.size : Int)) else (some (t308, bt304.1, bt304.2.1)))))))) = some (r1, r2, r3) := h
 clear h
 replace H := Option.bind_eq_some_iff.mp H
 obtain ⟨⟨t300, t301, t302⟩, A20, H⟩ := H
 replace H : ((spec_l01Cur_pair.f k t300 t301 t302).bind fun bt304 => ((spec_EditText.f k bt304.1 bt304.2.1).bind fun t308 => ((spec_l01Cur_pick.f t300 bt304.2.2.1 bt304.2.2.2 4).bind fun bt309 => (if bt309.1 = 0 then ((spec_l01Cur_pick.f t300 bt309.2.1 bt309.2.2 (wrap64 ((t308.size : Int) + 1))).bind fun bt312 => (if 0 ≤ bt312.1 then (if bt312.1 ≤ (t308.size : Int) then ((some (([(⟨#[100, 105]⟩ : ByteArray), (⟨#[105, 100]⟩ : ByteArray), (⟨#[107]⟩ : ByteArray), (⟨#[120]⟩ : ByteArray), (⟨#[115]⟩ : ByteArray)] : List ByteArray) : List ByteArray)).bind fun y315 => ((spec_l01Cur_pick.f t300 bt312.2.1 bt312.2.2 5).bind fun bt318 => (if 0 ≤ bt318.1 then (if bt318.1 < (y315.length : Int) then (if (t308.extract 0 (bt312.1 : Int).toNat).size + (rdOf ByteArray.empty y315 bt318.1).size ≤ 9223372036854775807 then ((spec_l01Cur_pick.f t300 bt318.2.1 bt318.2.2 2).bind fun bt322 => (if 0 ≤ (mn (t308.size : Int) (wrap64 (bt312.1 + bt322.1))) then (if (mn (t308.size : Int) (wrap64 (bt312.1 + bt322.1))) ≤ (t308.size : Int) then (if ((t308.extract 0 (bt312.1 : Int).toNat) ++ (rdOf ByteArray.empty y315 bt318.1)).size + (t308.extract ((mn (t308.size : Int) (wrap64 (bt312.1 + bt322.1))) : Int).toNat t308.size).size ≤ 9223372036854775807 then (some (((t308.extract 0 (bt312.1 : Int).toNat) ++ (rdOf ByteArray.empty y315 bt318.1)) ++ (t308.extract ((mn (t308.size : Int) (wrap64 (bt312.1 + bt322.1))) : Int).toNat t308.size), bt304.1, bt304.2.1)) else (none)) else (none)) else (none))) else (none)) else (none)) else (none)))) else (none)) else (none))) else (if bt309.1 = 1 then (spec_DrawEditCost.l0 k bt304.1 bt304.2.1 (⟨#[]⟩ : ByteArray) (bt304.1.size : Int)) else (some (t308, bt304.1, bt304.2.1))))))) = some (r1, r2, r3) := H
 have A2 := Aside0.mk A20
 clear A20
 replace H := Option.bind_eq_some_iff.mp H
 obtain ⟨⟨t304, t305, t306, t307⟩, A30, H⟩ := H
 replace H : ((spec_EditText.f k t304 t305).bind fun t308 => ((spec_l01Cur_pick.f t300 t306 t307 4).bind fun bt309 => (if bt309.1 = 0 then ((spec_l01Cur_pick.f t300 bt309.2.1 bt309.2.2 (wrap64 ((t308.size : Int) + 1))).bind fun bt312 => (if 0 ≤ bt312.1 then (if bt312.1 ≤ (t308.size : Int) then ((some (([(⟨#[100, 105]⟩ : ByteArray), (⟨#[105, 100]⟩ : ByteArray), (⟨#[107]⟩ : ByteArray), (⟨#[120]⟩ : ByteArray), (⟨#[115]⟩ : ByteArray)] : List ByteArray) : List ByteArray)).bind fun y315 => ((spec_l01Cur_pick.f t300 bt312.2.1 bt312.2.2 5).bind fun bt318 => (if 0 ≤ bt318.1 then (if bt318.1 < (y315.length : Int) then (if (t308.extract 0 (bt312.1 : Int).toNat).size + (rdOf ByteArray.empty y315 bt318.1).size ≤ 9223372036854775807 then ((spec_l01Cur_pick.f t300 bt318.2.1 bt318.2.2 2).bind fun bt322 => (if 0 ≤ (mn (t308.size : Int) (wrap64 (bt312.1 + bt322.1))) then (if (mn (t308.size : Int) (wrap64 (bt312.1 + bt322.1))) ≤ (t308.size : Int) then (if ((t308.extract 0 (bt312.1 : Int).toNat) ++ (rdOf ByteArray.empty y315 bt318.1)).size + (t308.extract ((mn (t308.size : Int) (wrap64 (bt312.1 + bt322.1))) : Int).toNat t308.size).size ≤ 9223372036854775807 then (some (((t308.extract 0 (bt312.1 : Int).toNat) ++ (rdOf ByteArray.empty y315 bt318.1)) ++ (t308.extract ((mn (t308.size : Int) (wrap64 (bt312.1 + bt322.1))) : Int).toNat t308.size), t304, t305)) else (none)) else (none)) else (none))) else (none)) else (none)) else (none)))) else (none)) else (none))) else (if bt309.1 = 1 then (spec_DrawEditCost.l0 k t304 t305 (⟨#[]⟩ : ByteArray) (t304.size : Int)) else (some (t308, t304, t305)))))) = some (r1, r2, r3) := H
 have A3 := Aside0.mk A30
 clear A30
 replace H := Option.bind_eq_some_iff.mp H
 obtain ⟨t308, A40, H⟩ := H
 replace H : ((spec_l01Cur_pick.f t300 t306 t307 4).bind fun bt309 => (if bt309.1 = 0 then ((spec_l01Cur_pick.f t300 bt309.2.1 bt309.2.2 (wrap64 ((t308.size : Int) + 1))).bind fun bt312 => (if 0 ≤ bt312.1 then (if bt312.1 ≤ (t308.size : Int) then ((some (([(⟨#[100, 105]⟩ : ByteArray), (⟨#[105, 100]⟩ : ByteArray), (⟨#[107]⟩ : ByteArray), (⟨#[120]⟩ : ByteArray), (⟨#[115]⟩ : ByteArray)] : List ByteArray) : List ByteArray)).bind fun y315 => ((spec_l01Cur_pick.f t300 bt312.2.1 bt312.2.2 5).bind fun bt318 => (if 0 ≤ bt318.1 then (if bt318.1 < (y315.length : Int) then (if (t308.extract 0 (bt312.1 : Int).toNat).size + (rdOf ByteArray.empty y315 bt318.1).size ≤ 9223372036854775807 then ((spec_l01Cur_pick.f t300 bt318.2.1 bt318.2.2 2).bind fun bt322 => (if 0 ≤ (mn (t308.size : Int) (wrap64 (bt312.1 + bt322.1))) then (if (mn (t308.size : Int) (wrap64 (bt312.1 + bt322.1))) ≤ (t308.size : Int) then (if ((t308.extract 0 (bt312.1 : Int).toNat) ++ (rdOf ByteArray.empty y315 bt318.1)).size + (t308.extract ((mn (t308.size : Int) (wrap64 (bt312.1 + bt322.1))) : Int).toNat t308.size).size ≤ 9223372036854775807 then (some (((t308.extract 0 (bt312.1 : Int).toNat) ++ (rdOf ByteArray.empty y315 bt318.1)) ++ (t308.extract ((mn (t308.size : Int) (wrap64 (bt312.1 + bt322.1))) : Int).toNat t308.size), t304, t305)) else (none)) else (none)) else (none))) else (none)) else (none)) else (none)))) else (none)) else (none))) else (if bt309.1 = 1 then (spec_DrawEditCost.l0 k t304 t305 (⟨#[]⟩ : ByteArray) (t304.size : Int)) else (some (t308, t304, t305))))) = some (r1, r2, r3) := H
 have A4 := Aside0.mk A40
 clear A40
 replace H := Option.bind_eq_some_iff.mp H
 obtain ⟨⟨t309, t310, t311⟩, A50, H⟩ := H
 replace H : (if t309 = 0 then ((spec_l01Cur_pick.f t300 t310 t311 (wrap64 ((t308.size : Int) + 1))).bind fun bt312 => (if 0 ≤ bt312.1 then (if bt312.1 ≤ (t308.size : Int) then ((some (([(⟨#[100, 105]⟩ : ByteArray), (⟨#[105, 100]⟩ : ByteArray), (⟨#[107]⟩ : ByteArray), (⟨#[120]⟩ : ByteArray), (⟨#[115]⟩ : ByteArray)] : List ByteArray) : List ByteArray)).bind fun y315 => ((spec_l01Cur_pick.f t300 bt312.2.1 bt312.2.2 5).bind fun bt318 => (if 0 ≤ bt318.1 then (if bt318.1 < (y315.length : Int) then (if (t308.extract 0 (bt312.1 : Int).toNat).size + (rdOf ByteArray.empty y315 bt318.1).size ≤ 9223372036854775807 then ((spec_l01Cur_pick.f t300 bt318.2.1 bt318.2.2 2).bind fun bt322 => (if 0 ≤ (mn (t308.size : Int) (wrap64 (bt312.1 + bt322.1))) then (if (mn (t308.size : Int) (wrap64 (bt312.1 + bt322.1))) ≤ (t308.size : Int) then (if ((t308.extract 0 (bt312.1 : Int).toNat) ++ (rdOf ByteArray.empty y315 bt318.1)).size + (t308.extract ((mn (t308.size : Int) (wrap64 (bt312.1 + bt322.1))) : Int).toNat t308.size).size ≤ 9223372036854775807 then (some (((t308.extract 0 (bt312.1 : Int).toNat) ++ (rdOf ByteArray.empty y315 bt318.1)) ++ (t308.extract ((mn (t308.size : Int) (wrap64 (bt312.1 + bt322.1))) : Int).toNat t308.size), t304, t305)) else (none)) else (none)) else (none))) else (none)) else (none)) else (none)))) else (none)) else (none))) else (if t309 = 1 then (spec_DrawEditCost.l0 k t304 t305 (⟨#[]⟩ : ByteArray) (t304.size : Int)) else (some (t308, t304, t305)))) = some (r1, r2, r3) := H
 have A5 := Aside0.mk A50
 clear A50
 by_cases c6 : t309 = 0
 ·rw [if_pos c6] at H
  have c6b0 : (t309 == 0) = true := beq_iff_eq.mpr c6
  have c6b1 : (t309 != 0) = false := bne_eq_false_iff_eq.mpr c6
  clear c6
  replace H := Option.bind_eq_some_iff.mp H
  obtain ⟨⟨t312, t313, t314⟩, A70, H⟩ := H
  replace H : (if 0 ≤ t312 then (if t312 ≤ (t308.size : Int) then ((some (([(⟨#[100, 105]⟩ : ByteArray), (⟨#[105, 100]⟩ : ByteArray), (⟨#[107]⟩ : ByteArray), (⟨#[120]⟩ : ByteArray), (⟨#[115]⟩ : ByteArray)] : List ByteArray) : List ByteArray)).bind fun y315 => ((spec_l01Cur_pick.f t300 t313 t314 5).bind fun bt318 => (if 0 ≤ bt318.1 then (if bt318.1 < (y315.length : Int) then (if (t308.extract 0 (t312 : Int).toNat).size + (rdOf ByteArray.empty y315 bt318.1).size ≤ 9223372036854775807 then ((spec_l01Cur_pick.f t300 bt318.2.1 bt318.2.2 2).bind fun bt322 => (if 0 ≤ (mn (t308.size : Int) (wrap64 (t312 + bt322.1))) then (if (mn (t308.size : Int) (wrap64 (t312 + bt322.1))) ≤ (t308.size : Int) then (if ((t308.extract 0 (t312 : Int).toNat) ++ (rdOf ByteArray.empty y315 bt318.1)).size + (t308.extract ((mn (t308.size : Int) (wrap64 (t312 + bt322.1))) : Int).toNat t308.size).size ≤ 9223372036854775807 then (some (((t308.extract 0 (t312 : Int).toNat) ++ (rdOf ByteArray.empty y315 bt318.1)) ++ (t308.extract ((mn (t308.size : Int) (wrap64 (t312 + bt322.1))) : Int).toNat t308.size), t304, t305)) else (none)) else (none)) else (none))) else (none)) else (none)) else (none)))) else (none)) else (none)) = some (r1, r2, r3) := H
  have A7 := Aside0.mk A70
  clear A70
  by_cases c8 : 0 ≤ t312
  ·rw [if_pos c8] at H
   have c8b0 := eq_true c8
   have c8b1 : decide (0 ≤ t312) = true := decide_eq_true c8
   clear c8
   by_cases c9 : t312 ≤ (t308.size : Int)
   ·rw [if_pos c9] at H
    have c9b0 := eq_true c9
    have c9b1 : decide (t312 ≤ (t308.size : Int)) = true := decide_eq_true c9
    clear c9
    obtain ⟨y315, hy315⟩ : ∃ y_ : List ByteArray, y_ = (([(⟨#[100, 105]⟩ : ByteArray), (⟨#[105, 100]⟩ : ByteArray), (⟨#[107]⟩ : ByteArray), (⟨#[120]⟩ : ByteArray), (⟨#[115]⟩ : ByteArray)] : List ByteArray)) := ⟨_, rfl⟩
    replace H : ((spec_l01Cur_pick.f t300 t313 t314 5).bind fun bt318 => (if 0 ≤ bt318.1 then (if bt318.1 < (y315.length : Int) then (if (t308.extract 0 (t312 : Int).toNat).size + (rdOf ByteArray.empty y315 bt318.1).size ≤ 9223372036854775807 then ((spec_l01Cur_pick.f t300 bt318.2.1 bt318.2.2 2).bind fun bt322 => (if 0 ≤ (mn (t308.size : Int) (wrap64 (t312 + bt322.1))) then (if (mn (t308.size : Int) (wrap64 (t312 + bt322.1))) ≤ (t308.size : Int) then (if ((t308.extract 0 (t312 : Int).toNat) ++ (rdOf ByteArray.empty y315 bt318.1)).size + (t308.extract ((mn (t308.size : Int) (wrap64 (t312 + bt322.1))) : Int).toNat t308.size).size ≤ 9223372036854775807 then (some (((t308.extract 0 (t312 : Int).toNat) ++ (rdOf ByteArray.empty y315 bt318.1)) ++ (t308.extract ((mn (t308.size : Int) (wrap64 (t312 + bt322.1))) : Int).toNat t308.size), t304, t305)) else (none)) else (none)) else (none))) else (none)) else (none)) else (none))) = some (r1, r2, r3) := by first | (rw [hy315]; with_reducible exact H) | (have H2_ := (Option.bind_some _ _).symm.trans H; rw [hy315]; with_reducible exact H2_) | (have H2_ := (Option.bind_some _ _).symm.trans H; with_reducible exact H2_) | with_reducible exact H | (rw [hy315]; exact H) | exact H
    have Ny315 := Aside0.mk hy315
    clear hy315
    replace H := Option.bind_eq_some_iff.mp H
    obtain ⟨⟨t318, t319, t320⟩, A100, H⟩ := H
    replace H : (if 0 ≤ t318 then (if t318 < (y315.length : Int) then (if (t308.extract 0 (t312 : Int).toNat).size + (rdOf ByteArray.empty y315 t318).size ≤ 9223372036854775807 then ((spec_l01Cur_pick.f t300 t319 t320 2).bind fun bt322 => (if 0 ≤ (mn (t308.size : Int) (wrap64 (t312 + bt322.1))) then (if (mn (t308.size : Int) (wrap64 (t312 + bt322.1))) ≤ (t308.size : Int) then (if ((t308.extract 0 (t312 : Int).toNat) ++ (rdOf ByteArray.empty y315 t318)).size + (t308.extract ((mn (t308.size : Int) (wrap64 (t312 + bt322.1))) : Int).toNat t308.size).size ≤ 9223372036854775807 then (some (((t308.extract 0 (t312 : Int).toNat) ++ (rdOf ByteArray.empty y315 t318)) ++ (t308.extract ((mn (t308.size : Int) (wrap64 (t312 + bt322.1))) : Int).toNat t308.size), t304, t305)) else (none)) else (none)) else (none))) else (none)) else (none)) else (none)) = some (r1, r2, r3) := H
    have A10 := Aside0.mk A100
    clear A100
    by_cases c11 : 0 ≤ t318
    ·rw [if_pos c11] at H
     have c11b0 : decide (0 ≤ t318) = true := decide_eq_true c11
     clear c11
     by_cases c12 : t318 < (y315.length : Int)
     ·rw [if_pos c12] at H
      have c12b0 : decide (t318 < (y315.length : Int)) = true := decide_eq_true c12
      clear c12
      by_cases c13 : (t308.extract 0 (t312 : Int).toNat).size + (rdOf ByteArray.empty y315 t318).size ≤ 9223372036854775807
      ·rw [if_pos c13] at H
       have c13b0 := eq_true c13
       have c13b1 : decide ((t308.extract 0 (t312 : Int).toNat).size + (rdOf ByteArray.empty y315 t318).size ≤ 9223372036854775807) = true := decide_eq_true c13
       try have c13b2 : (9223372036854775807 < (t308.extract 0 (t312 : Int).toNat).size + (rdOf ByteArray.empty y315 t318).size) = False := eq_false (Nat.not_lt.2 c13)
       replace H := Option.bind_eq_some_iff.mp H
       obtain ⟨⟨t322, t323, t324⟩, A140, H⟩ := H
       replace H : (if 0 ≤ (mn (t308.size : Int) (wrap64 (t312 + t322))) then (if (mn (t308.size : Int) (wrap64 (t312 + t322))) ≤ (t308.size : Int) then (if ((t308.extract 0 (t312 : Int).toNat) ++ (rdOf ByteArray.empty y315 t318)).size + (t308.extract ((mn (t308.size : Int) (wrap64 (t312 + t322))) : Int).toNat t308.size).size ≤ 9223372036854775807 then (some (((t308.extract 0 (t312 : Int).toNat) ++ (rdOf ByteArray.empty y315 t318)) ++ (t308.extract ((mn (t308.size : Int) (wrap64 (t312 + t322))) : Int).toNat t308.size), t304, t305)) else (none)) else (none)) else (none)) = some (r1, r2, r3) := H
       have A14 := Aside0.mk A140
       clear A140
       obtain ⟨ji15, hji15⟩ : ∃ j_ : Int, (mn (t308.size : Int) (wrap64 (t312 + t322))) = j_ := ⟨_, rfl⟩
       replace H : (if 0 ≤ (ji15) then (if (ji15) ≤ (t308.size : Int) then (if ((t308.extract 0 (t312 : Int).toNat) ++ (rdOf ByteArray.empty y315 t318)).size + (t308.extract ((ji15) : Int).toNat t308.size).size ≤ 9223372036854775807 then (some (((t308.extract 0 (t312 : Int).toNat) ++ (rdOf ByteArray.empty y315 t318)) ++ (t308.extract ((ji15) : Int).toNat t308.size), t304, t305)) else (none)) else (none)) else (none)) = some (r1, r2, r3) := by first | (rw [hji15] at H; exact H) | (simp only [hji15] at H ⊢; exact H)
       (try rw [hji15] at A2)
       (try rw [hji15] at A3)
       (try rw [hji15] at A4)
       (try rw [hji15] at A5)
       (try rw [hji15] at A7)
       (try rw [hji15] at A10)
       (try rw [hji15] at A14)
       have hji15_ : (if (wrap64 (t312 + t322)) < (t308.size : Int) then (wrap64 (t312 + t322)) else (t308.size : Int)) = ji15 := hji15
       by_cases c16 : 0 ≤ (ji15)
       ·rw [if_pos c16] at H
        have c16b0 := eq_true c16
        have c16b1 : decide (0 ≤ (ji15)) = true := decide_eq_true c16
        clear c16
        by_cases c17 : (ji15) ≤ (t308.size : Int)
        ·rw [if_pos c17] at H
         have c17b0 := eq_true c17
         have c17b1 : decide ((ji15) ≤ (t308.size : Int)) = true := decide_eq_true c17
         clear c17
         by_cases c18 : ((t308.extract 0 (t312 : Int).toNat) ++ (rdOf ByteArray.empty y315 t318)).size + (t308.extract ((ji15) : Int).toNat t308.size).size ≤ 9223372036854775807
         ·rw [if_pos c18] at H
          have c18b0 := eq_true c18
          have c18b1 : decide (((t308.extract 0 (t312 : Int).toNat) ++ (rdOf ByteArray.empty y315 t318)).size + (t308.extract ((ji15) : Int).toNat t308.size).size ≤ 9223372036854775807) = true := decide_eq_true c18
          try have c18b2 : (9223372036854775807 < ((t308.extract 0 (t312 : Int).toNat) ++ (rdOf ByteArray.empty y315 t318)).size + (t308.extract ((ji15) : Int).toNat t308.size).size) = False := eq_false (Nat.not_lt.2 c18)
          simp only [Option.some.injEq, Prod.mk.injEq] at H
          obtain ⟨rfl, rfl, rfl⟩ := H
          go_enter Try.func48, Try.ntmps48
          try go_wp2_with (first | ((with_reducible refine gate_callee (f := 50) rfl ?_); refine goesL_ (some 13) rfl rfl Try.func50 (by kernel_rfl) rfl #[.slice A0 l0.length c0] rfl (by (try simp only [List.map_toArray, List.map_cons, List.map_nil]); first | done | rfl | (simp only [List.length_drop, List.length_take]; rfl)) ?_; (with_reducible refine (spec_l01Open.calls _ _ l0 t300 t301 t302 w _ ?side1 ?side2 ?side3 A2.out).mono ?_); (case side1 => repeat (first | (with_reducible first | exact HB.out | apply below_alloc | apply pw_below_drewN | apply below_drew1) | exact HB.out)); (case side2 => exact HR0.out); (case side3 => exact HC0.out); rintro e w19 ⟨g303, rfl, hi, hb, hb2⟩; refine ⟨_, rfl, ?_⟩; have n0_ := Aside0.mk (hb); have n1_ := Aside0.mk (hi); clear HB; have HB := n0_; have HI303 := n1_; clear n0_ n1_; (try clear hb); (try clear hb2); (try clear hk); (try clear hi)) | ((with_reducible refine gate_callee (f := 69) rfl ?_); refine goesL_ (some 16) rfl rfl Try.func69 (by kernel_rfl) rfl #[.pointer (some ⟨g303, 0, none⟩)] rfl (by (try simp only [List.map_toArray, List.map_cons, List.map_nil]); first | done | rfl | (simp only [List.length_drop, List.length_take]; rfl)) ?_; (with_reducible refine (spec_l01Cur_pair.calls k g303 t300 t301 t302 t304 t305 t306 t307 w _ ?side1 ?side2 A3.out).mono ?_); (case side1 => repeat (first | (with_reducible first | exact HI303.out | apply IsS79.alloc | apply IsS79.drewN | apply IsS79.drew | apply IsS79.set_1 | apply IsS79.set_2) | exact HI303.out)); (case side2 => repeat (first | (with_reducible first | exact HB.out | apply below_alloc | apply pw_below_drewN | apply below_drew1 | refine below_set ?_ (IsS79.ge HI303.out)) | exact HB.out)); rintro e w20 ⟨rfl, hi, hb, hk⟩; refine ⟨_, rfl, ?_⟩; have n0_ := Aside0.mk (hb); have n1_ := Aside0.mk (hi); clear HB; clear HI303; have HB := n0_; have HI303 := n1_; clear n0_ n1_; (try clear hb); (try clear hb2); (try clear hk); (try clear hi)) | ((with_reducible refine gate_callee (f := 25) rfl ?_); refine goesL_ (some 21) rfl rfl Try.func25 (by kernel_rfl) rfl #[.string t304, .string t305] rfl (by (try simp only [List.map_toArray, List.map_cons, List.map_nil]); first | done | rfl | (simp only [List.length_drop, List.length_take]; rfl)) ?_; (with_reducible refine (spec_EditText.calls k t304 t305 t308 _ A4.out).mono ?_); rintro e w21 ⟨rfl, hb⟩; refine ⟨_, rfl, ?_⟩; have n0_ := Aside0.mk (IsS79.below (by repeat (first | (with_reducible first | exact HI303.out | apply IsS79.alloc | apply IsS79.drewN | apply IsS79.drew | apply IsS79.set_1 | apply IsS79.set_2) | exact HI303.out)) hb); have n1_ := Aside0.mk (below_step (by repeat (first | (with_reducible first | exact HB.out | apply below_alloc | apply pw_below_drewN | apply below_drew1 | refine below_set ?_ (IsS79.ge HI303.out)) | exact HB.out)) hb); clear HI303; clear HB; have HI303 := n0_; have HB := n1_; clear n0_ n1_; (try clear hb); (try clear hb2); (try clear hk); (try clear hi)) | ((with_reducible refine gate_callee (f := 52) rfl ?_); refine goesL_ (some 23) rfl rfl Try.func52 (by kernel_rfl) rfl #[.pointer (some ⟨g303, 0, none⟩), .int .i64 4] rfl (by (try simp only [List.map_toArray, List.map_cons, List.map_nil]); first | done | rfl | (simp only [List.length_drop, List.length_take]; rfl)) ?_; (with_reducible refine (spec_l01Cur_pick.calls g303 t300 t306 t307 4 t309 t310 t311 w _ ?side1 ?side2 A5.out).mono ?_); (case side1 => repeat (first | (with_reducible first | exact HI303.out | apply IsS79.alloc | apply IsS79.drewN | apply IsS79.drew | apply IsS79.set_1 | apply IsS79.set_2) | exact HI303.out)); (case side2 => repeat (first | (with_reducible first | exact HB.out | apply below_alloc | apply pw_below_drewN | apply below_drew1 | refine below_set ?_ (IsS79.ge HI303.out)) | exact HB.out)); rintro e w22 ⟨rfl, hi, hb, hk⟩; refine ⟨_, rfl, ?_⟩; have n0_ := Aside0.mk (hb); have n1_ := Aside0.mk (hi); clear HB; clear HI303; have HB := n0_; have HI303 := n1_; clear n0_ n1_; (try clear hb); (try clear hb2); (try clear hk); (try clear hi)) | ((with_reducible refine gate_callee (f := 52) rfl ?_); refine goesL_ (some 30) rfl rfl Try.func52 (by kernel_rfl) rfl #[.pointer (some ⟨g303, 0, none⟩), .int .i64 (wrap64 ((t308.size : Int) + 1))] rfl (by (try simp only [List.map_toArray, List.map_cons, List.map_nil]); first | done | rfl | (simp only [List.length_drop, List.length_take]; rfl)) ?_; (with_reducible refine (spec_l01Cur_pick.calls g303 t300 t310 t311 (wrap64 ((t308.size : Int) + 1)) t312 t313 t314 w _ ?side1 ?side2 A7.out).mono ?_); (case side1 => repeat (first | (with_reducible first | exact HI303.out | apply IsS79.alloc | apply IsS79.drewN | apply IsS79.drew | apply IsS79.set_1 | apply IsS79.set_2) | exact HI303.out)); (case side2 => repeat (first | (with_reducible first | exact HB.out | apply below_alloc | apply pw_below_drewN | apply below_drew1 | refine below_set ?_ (IsS79.ge HI303.out)) | exact HB.out)); rintro e w23 ⟨rfl, hi, hb, hk⟩; refine ⟨_, rfl, ?_⟩; have n0_ := Aside0.mk (hb); have n1_ := Aside0.mk (hi); clear HB; clear HI303; have HB := n0_; have HI303 := n1_; clear n0_ n1_; (try clear hb); (try clear hb2); (try clear hk); (try clear hi)))
          have pi321 : (0 ≤ (t318 : Int)) = True := eq_true (of_decide_eq_true (by first | (with_reducible assumption) | assumption))
          have qi321 : (t318 < (y315.length : Int)) = True := eq_true (of_decide_eq_true (by first | (with_reducible assumption) | assumption))
          have n0_ := Aside0.mk (IsS79.drew HI303.out)
          have n1_ := Aside0.mk (below_drew1 HB.out)
          clear HI303
          clear HB
          have HI303 := n0_
          have HB := n1_
          clear n0_ n1_
          refine start_ (n := 20) (S := fun w' => True) (ds := []) #[false, false, false, false, false, false, false, false, false, false, false, false, false, false, false, false, false, false, false, false] (by kernel_rfl) rfl rfl trivial (fun hHeld => ?_); refine with_tabW spec_DrawEditCost.tab7 spec_DrawEditCost.bits7 (fun HT_ HW_ => ?_)
          generalize w23.drew = w24 at HI303 HB hHeld ⊢
          refine pure_ (i := 0) (N := some 31) (v := ?_) (a' := ?_) #[true, false, false, false, false, false, false, false, false, false, false, false, false, false, false, false, false, false, false, false] rfl rfl (any_of HT_.out (by kernel_rfl)) (fun _ _ _ h => h) (Or.inl ⟨by rfl, ?_⟩) ?_ ?_
          rotate_left
          ·intro w'
           go_simp
           with_reducible rfl
          rotate_left
          ·simp only [Act.put, List.setIfInBounds_toArray, List.set_cons_zero, List.set_cons_succ, i64_w, i32_w]
           rfl
          refine pure_ (i := 1) (N := some 32) (v := ?_) (a' := ?_) #[true, true, false, false, false, false, false, false, false, false, false, false, false, false, false, false, false, false, false, false] rfl rfl (any_of HT_.out (by kernel_rfl)) (fun _ _ _ h => h) (Or.inl ⟨by rfl, ?_⟩) ?_ ?_
          rotate_left
          ·intro w'
           go_simp
           with_reducible rfl
          rotate_left
          ·simp only [Act.put, List.setIfInBounds_toArray, List.set_cons_zero, List.set_cons_succ, i64_w, i32_w]
           rfl
          refine pure_ (i := 4) (N := some 35) (v := ?_) (a' := ?_) #[true, true, false, false, true, false, false, false, false, false, false, false, false, false, false, false, false, false, false, false] rfl rfl (any_of HT_.out (by kernel_rfl)) (fun _ _ _ h => h) (Or.inl ⟨by rfl, ?_⟩) ?_ ?_
          rotate_left
          ·intro w'
           go_simp
           with_reducible rfl
          rotate_left
          ·simp only [Act.put, List.setIfInBounds_toArray, List.set_cons_zero, List.set_cons_succ, i64_w, i32_w]
           rfl
          refine pure_ (i := 9) (N := some 40) (v := ?_) (a' := ?_) #[true, true, false, false, true, false, false, false, false, true, false, false, false, false, false, false, false, false, false, false] rfl rfl (any_of HT_.out (by kernel_rfl)) (fun _ _ _ h => h) (Or.inl ⟨by rfl, ?_⟩) ?_ ?_
          rotate_left
          ·intro w'
           go_simp
           with_reducible rfl
          rotate_left
          ·simp only [Act.put, List.setIfInBounds_toArray, List.set_cons_zero, List.set_cons_succ, i64_w, i32_w]
           rfl
          refine pure_ (i := 10) (N := some 41) (v := ?_) (a' := ?_) #[true, true, false, false, true, false, false, false, false, true, true, false, false, false, false, false, false, false, false, false] rfl rfl (any_of HT_.out (by kernel_rfl)) (fun _ _ _ h => h) (Or.inl ⟨by rfl, ?_⟩) ?_ ?_
          rotate_left
          ·intro w'
           go_simp
           with_reducible rfl
          rotate_left
          ·simp only [Act.put, List.setIfInBounds_toArray, List.set_cons_zero, List.set_cons_succ, i64_w, i32_w]
           rfl
          refine pure_ (i := 12) (N := some 43) (v := ?_) (a' := ?_) #[true, true, false, false, true, false, false, false, false, true, true, false, true, false, false, false, false, false, false, false] rfl rfl (any_of HT_.out (by kernel_rfl)) (fun _ _ _ h => h) (Or.inl ⟨by rfl, ?_⟩) ?_ ?_
          rotate_left
          ·intro w'
           go_simp
           with_reducible rfl
          rotate_left
          ·simp only [Act.put, List.setIfInBounds_toArray, List.set_cons_zero, List.set_cons_succ, i64_w, i32_w]
           rfl
          refine pure_ (i := 13) (N := some 44) (v := ?_) (a' := ?_) #[true, true, false, false, true, false, false, false, false, true, true, false, true, true, false, false, false, false, false, false] rfl rfl (any_of HT_.out (by kernel_rfl)) (fun _ _ _ h => h) (Or.inl ⟨by rfl, ?_⟩) ?_ ?_
          rotate_left
          ·intro w'
           go_simp
           with_reducible rfl
          rotate_left
          ·simp only [Act.put, List.setIfInBounds_toArray, List.set_cons_zero, List.set_cons_succ, i64_w, i32_w]
           rfl
          refine inv_at [2, 3, 5, 6, 7, 8, 11, 14, 15, 16, 17, 18, 19] (fun a0_ b a w' => ∃ (v316 : Value) (adz_v316 : Addr) (m6_ : Value), a = putSel a0_ b [(2, 33, .string (t308.extract 0 (t312 : Int).toNat)), (3, 34, v316), (5, 36, .int .i64 t318), (6, 37, m6_), (7, 38, .string (rdOf ByteArray.empty y315 t318)), (8, 39, .string ((t308.extract 0 (t312 : Int).toNat) ++ (rdOf ByteArray.empty y315 t318))), (11, 42, .int .i64 (t308.size : Int)), (14, 45, .int .i64 t322), (15, 46, .int .i64 (wrap64 (t312 + t322))), (16, 47, .int .i64 ji15), (17, 48, .string (t308.extract ((ji15) : Int).toNat t308.size)), (18, 49, .string (((t308.extract 0 (t312 : Int).toNat) ++ (rdOf ByteArray.empty y315 t318)) ++ (t308.extract ((ji15) : Int).toNat t308.size))), (19, 8, .string (((t308.extract 0 (t312 : Int).toNat) ++ (rdOf ByteArray.empty y315 t318)) ++ (t308.extract ((ji15) : Int).toNat t308.size)))] ∧ (b 5 = false → IsS79 w w' g303 t300 t313 t314) ∧ (Below w.heap.size w w') ∧ (b 3 = true → Kd.R Kd.string 9 w' w.heap.size (fun _ => True) v316 y315) ∧ (b 3 = true → ∃ c_, (v316 : Value) = .slice (some adz_v316) y315.length c_) ∧ (b 5 = true → b 14 = false → IsS79 w w' g303 t300 t319 t320) ∧ (b 14 = true → IsS79 w w' g303 t300 t323 t324) ∧ (b 6 = true → (m6_ : Value) = .pointer (some (adz_v316.add (t318).toNat)))) HT_.out HW_.out (by kernel_rfl) (by kernel_rfl) ?_ ?_ ?_
          ·exact ⟨.bool false, ⟨0, 0, none⟩, .bool false, by simp only [putSel, Bool.false_eq_true, if_false], fun _ => HI303.out, HB.out, fun h_ => absurd h_ (by decide), fun h_ => absurd h_ (by decide), fun h_ => absurd h_ (by decide), fun h_ => absurd h_ (by decide), fun h_ => absurd h_ (by decide)⟩
          ·skip
           clear HB HI303
           refine steps_cons ?_ ?_
           ·rintro b a w' ⟨v316, adz_v316, m6_, ha, Q_HI303, Q_HB, Q_HO317, Q_HA_HO317, Q_HI303_e5, Q_HI303_e14, Q_X6_⟩ hb_ hon hoff
            refine ⟨_, rfl, fun K hK => ?_⟩
            have e31 : a.tmps[31]? = some (.string t308) := by rw [ha]; exact (putSel_off rfl).trans rfl
            have e32 : a.tmps[32]? = some (.int .i64 t312) := by rw [ha]; exact (putSel_off rfl).trans rfl
            replace ha := Aside0.mk ha
            have HB := Aside0.mk Q_HB
            refine value_ (w1 := w') (v := .string (t308.extract 0 (t312 : Int).toNat)) (by rfl) rfl ?_ ?_
            ·go_simp
             (try simp only [i64_w])
             try rfl
            refine hK.out _ _ ⟨v316, adz_v316, m6_, (by rw [ha.out]; exact putSel_upk 0 hb_ rfl rfl rfl), Q_HI303, Q_HB, Q_HO317, Q_HA_HO317, Q_HI303_e5, Q_HI303_e14, Q_X6_⟩
           refine steps_cons ?_ ?_
           ·rintro b a w' ⟨v316, adz_v316, m6_, ha, Q_HI303, Q_HB, Q_HO317, Q_HA_HO317, Q_HI303_e5, Q_HI303_e14, Q_X6_⟩ hb_ hon hoff
            refine ⟨_, rfl, fun K hK => ?_⟩
            replace ha := Aside0.mk ha
            have HB := Aside0.mk Q_HB
            refine Kd.R_lit_step Kd.string _ 9 ?hg (N := 34) ?hd (xs := ([(⟨#[100, 105]⟩ : ByteArray), (⟨#[105, 100]⟩ : ByteArray), (⟨#[107]⟩ : ByteArray), (⟨#[120]⟩ : ByteArray), (⟨#[115]⟩ : ByteArray)] : List ByteArray)) (inner := [.string (⟨#[100, 105]⟩ : ByteArray), .string (⟨#[105, 100]⟩ : ByteArray), .string (⟨#[107]⟩ : ByteArray), .string (⟨#[120]⟩ : ByteArray), .string (⟨#[115]⟩ : ByteArray)]) (ok := fun _ => True) (okp := fun _ => True) ?hr ?hp (fun _ hk => hk) trivial (Below.refl _ _) (Nat.le_refl _) (by simp) ?_; (case hd => rfl); (case hg => rfl); (case hr => first | (go_simp; done) | (go_simp; rfl)); (case hp => exact (Reps.one (show Kd.M Kd.string _ _ _ (⟨#[100, 105]⟩ : ByteArray) [.string (⟨#[100, 105]⟩ : ByteArray)] from rfl) (Reps.one (show Kd.M Kd.string _ _ _ (⟨#[105, 100]⟩ : ByteArray) [.string (⟨#[105, 100]⟩ : ByteArray)] from rfl) (Reps.one (show Kd.M Kd.string _ _ _ (⟨#[107]⟩ : ByteArray) [.string (⟨#[107]⟩ : ByteArray)] from rfl) (Reps.one (show Kd.M Kd.string _ _ _ (⟨#[120]⟩ : ByteArray) [.string (⟨#[120]⟩ : ByteArray)] from rfl) (Reps.one (show Kd.M Kd.string _ _ _ (⟨#[115]⟩ : ByteArray) [.string (⟨#[115]⟩ : ByteArray)] from rfl) (Reps.none _ _)))))))
            intro v316 w25 ho26 hb hg_ hnew_
            clear hg_ hnew_
            (first | rw [← Ny315.out] at ho26 | (simp only [Int.reduceToNat] at ho26; rw [← Ny315.out] at ho26))
            have n0_ := Aside0.mk (Kd.R_lower ho26 (below_size (by repeat (first | (with_reducible first | exact HB.out | apply below_alloc | apply pw_below_drewN | apply below_drew1) | exact HB.out))))
            have n2_ := Aside0.mk (below_step (by repeat (first | (with_reducible first | exact HB.out | apply below_alloc | apply pw_below_drewN | apply below_drew1) | exact HB.out)) hb)
            have z_HI303 := fun (h0_ : b 5 = false) => (show IsS79 w w25 g303 t300 t313 t314 from by first | exact (IsS79.below (by repeat (first | (with_reducible first | exact (Q_HI303 h0_) | apply IsS79.alloc | apply IsS79.drewN | apply IsS79.drew | apply IsS79.set_1 | apply IsS79.set_2) | exact (Q_HI303 h0_))) hb))
            have z_HI303_e5 := fun (h0_ : b 5 = true) (h1_ : b 14 = false) => (show IsS79 w w25 g303 t300 t319 t320 from by first | exact (IsS79.below (by repeat (first | (with_reducible first | exact (Q_HI303_e5 h0_ h1_) | apply IsS79.alloc | apply IsS79.drewN | apply IsS79.drew | apply IsS79.set_1 | apply IsS79.set_2) | exact (Q_HI303_e5 h0_ h1_))) hb))
            have z_HI303_e14 := fun (h0_ : b 14 = true) => (show IsS79 w w25 g303 t300 t323 t324 from by first | exact (IsS79.below (by repeat (first | (with_reducible first | exact (Q_HI303_e14 h0_) | apply IsS79.alloc | apply IsS79.drewN | apply IsS79.drew | apply IsS79.set_1 | apply IsS79.set_2) | exact (Q_HI303_e14 h0_))) hb))
            clear HB
            have HO317 := n0_
            have HB := n2_
            clear n0_ n2_
            clear hb ho26
            obtain ⟨Ao27, co27, eo27⟩ := Kd.R_slice HO317.out
            subst eo27
            obtain ⟨ado27, fo27, _⟩ := Kd.at_string (Kd.R_reads' HO317.out).2.2 0 (by decide) (by rw [Ny315.out]; simp)
            cases fo27
            refine hK.out _ _ ⟨.slice (some ado27) y315.length co27, ado27, m6_, (by rw [ha.out]; exact putSel_upk 1 hb_ rfl rfl rfl), z_HI303, (by repeat (first | (with_reducible first | exact HB.out | apply below_alloc | apply pw_below_drewN | apply below_drew1) | exact HB.out)), fun _ => (by (with_reducible repeat (first | apply Kd.R_alloc | apply Kd.R_drewN | apply Kd.R_drew)); exact HO317.out), fun _ => ⟨_, rfl⟩, z_HI303_e5, z_HI303_e14, fun h0_ => absurd ((hoff 6 (by kernel_rfl)).symm.trans h0_) (by decide)⟩
           refine steps_cons ?_ ?_
           ·rintro b a w' ⟨v316, adz_v316, m6_, ha, Q_HI303, Q_HB, Q_HO317, Q_HA_HO317, Q_HI303_e5, Q_HI303_e14, Q_X6_⟩ hb_ hon hoff
            refine ⟨_, rfl, fun K hK => ?_⟩
            have e35 : a.tmps[35]? = some (.pointer (some ⟨g303, 0, none⟩)) := by rw [ha]; exact (putSel_off rfl).trans rfl
            replace ha := Aside0.mk ha
            have HI303 := Aside0.mk (Q_HI303 hb_)
            have HB := Aside0.mk Q_HB
            refine goes_ Try.func52 (by kernel_rfl) rfl #[.pointer (some ⟨g303, 0, none⟩), .int .i64 5] (by rfl) rfl rfl (by first | (simp only [List.map_toArray, List.map_cons, List.map_nil, Act.eval, Array.getD_eq_getD_getElem?, Option.getD_some, e35]; done) | (simp only [List.map_toArray, List.map_cons, List.map_nil, Act.eval, Array.getD_eq_getD_getElem?, Option.getD_some, e35]; rfl)) ?_
            with_reducible refine (spec_l01Cur_pick.calls g303 t300 t313 t314 5 t318 t319 t320 w _ ?side1 ?side2 A10.out).mono ?_
            (case side1 => repeat (first | (with_reducible first | exact HI303.out | apply IsS79.alloc | apply IsS79.drewN | apply IsS79.drew | apply IsS79.set_1 | apply IsS79.set_2) | exact HI303.out))
            (case side2 => repeat (first | (with_reducible first | exact HB.out | apply below_alloc | apply pw_below_drewN | apply below_drew1 | refine below_set ?_ (IsS79.ge HI303.out)) | exact HB.out))
            rintro e w25 ⟨rfl, hi, hb, hk⟩
            refine ⟨_, rfl, ?_⟩
            have n0_ := Aside0.mk (hb)
            have n1_ := Aside0.mk (hi)
            have z_HO317 := fun (h0_ : b 3 = true) => (show Kd.R Kd.string 9 w25 w.heap.size (fun _ => True) v316 y315 from by first | exact (Kd.R_mono (Kd.R_keep (IsS79.apart (show IsS79 w _ g303 t300 t313 t314 from by repeat (first | (with_reducible first | exact HI303.out | apply IsS79.alloc | apply IsS79.drewN | apply IsS79.drew | apply IsS79.set_1 | apply IsS79.set_2) | exact HI303.out)) (by (with_reducible repeat (first | apply Kd.R_alloc | apply Kd.R_drewN | apply Kd.R_drew)); exact (Q_HO317 h0_)) (by decide)) hk (fun _ h => h.2)) (fun _ h => h.1)) | exact Kd.R_mono (Kd.R_mono (Kd.R_keep (IsS79.apart (show IsS79 w _ g303 t300 t313 t314 from by repeat (first | (with_reducible first | exact HI303.out | apply IsS79.alloc | apply IsS79.drewN | apply IsS79.drew | apply IsS79.set_1 | apply IsS79.set_2) | exact HI303.out)) (by (with_reducible repeat (first | apply Kd.R_alloc | apply Kd.R_drewN | apply Kd.R_drew)); exact (Q_HO317 h0_)) (by decide)) hk (fun _ h => h.2)) (fun _ h => h.1)) (fun _ h_ => by first | trivial | exact h_ | exact h_.1))
            clear HB
            clear HI303
            have HB := n0_
            have HI303 := n1_
            clear n0_ n1_
            (try clear hb)
            (try clear hb2)
            (try clear hk)
            (try clear hi)
            refine hK.out _ _ ⟨v316, adz_v316, m6_, (by rw [ha.out]; exact putSel_upk 2 hb_ rfl rfl rfl), fun h0_ => absurd ((up_self b 5).symm.trans h0_) (by decide), (by repeat (first | (with_reducible first | exact HB.out | apply below_alloc | apply pw_below_drewN | apply below_drew1 | refine below_set ?_ (IsS79.ge HI303.out)) | exact HB.out)), z_HO317, Q_HA_HO317, fun _ _ => (by repeat (first | (with_reducible first | exact HI303.out | apply IsS79.alloc | apply IsS79.drewN | apply IsS79.drew | apply IsS79.set_1 | apply IsS79.set_2) | exact HI303.out)), fun h0_ => absurd ((hoff 14 (by kernel_rfl)).symm.trans h0_) (by decide), fun h0_ => absurd ((hoff 6 (by kernel_rfl)).symm.trans h0_) (by decide)⟩
           refine steps_cons ?_ ?_
           ·rintro b a w' ⟨v316, adz_v316, m6_, ha, Q_HI303, Q_HB, Q_HO317, Q_HA_HO317, Q_HI303_e5, Q_HI303_e14, Q_X6_⟩ hb_ hon hoff
            refine ⟨_, rfl, fun K hK => ?_⟩
            have e34 : a.tmps[34]? = some (v316) := by rw [ha]; exact putSel_on (e := (3, 34, v316)) 1 rfl rfl (hon 3 (by kernel_rfl)) rfl
            have e36 : a.tmps[36]? = some (.int .i64 t318) := by rw [ha]; exact putSel_on (e := (5, 36, .int .i64 t318)) 2 rfl rfl (hon 5 (by kernel_rfl)) rfl
            replace ha := Aside0.mk ha
            have HB := Aside0.mk Q_HB
            have HO317 := Aside0.mk (Q_HO317 (hon 3 (by kernel_rfl)))
            have HA_HO317 := Aside0.mk (Q_HA_HO317 (hon 3 (by kernel_rfl)))
            obtain ⟨c_, hv_⟩ := HA_HO317.out
            rw [hv_] at e34
            refine value_ (w1 := w') (v := .pointer (some (adz_v316.add (t318).toNat))) (by rfl) rfl ?_ ?_
            ·go_simp
             (try simp only [i64_w])
             try rfl
            refine hK.out _ _ ⟨v316, adz_v316, (.pointer (some (adz_v316.add (t318).toNat))), (by rw [ha.out]; exact putSel_upk 3 hb_ rfl rfl rfl), fun h0_ => absurd ((hon 5 (by kernel_rfl)).symm.trans h0_) (by decide), Q_HB, Q_HO317, Q_HA_HO317, Q_HI303_e5, Q_HI303_e14, fun _ => rfl⟩
           refine steps_cons ?_ ?_
           ·rintro b a w' ⟨v316, adz_v316, m6_, ha, Q_HI303, Q_HB, Q_HO317, Q_HA_HO317, Q_HI303_e5, Q_HI303_e14, Q_X6_⟩ hb_ hon hoff
            refine ⟨_, rfl, fun K hK => ?_⟩
            have e37 : a.tmps[37]? = some (m6_) := by rw [ha]; exact putSel_on (e := (6, 37, m6_)) 3 rfl rfl (hon 6 (by kernel_rfl)) rfl
            rw [Q_X6_ (hon 6 (by kernel_rfl))] at e37
            replace ha := Aside0.mk ha
            have HB := Aside0.mk Q_HB
            have HO317 := Aside0.mk (Q_HO317 (hon 3 (by kernel_rfl)))
            have HA_HO317 := Aside0.mk (Q_HA_HO317 (hon 3 (by kernel_rfl)))
            obtain ⟨c_, hv_⟩ := HA_HO317.out
            have hF_ := HO317.out
            rw [hv_] at hF_
            obtain ⟨ad_, ea_, hx_⟩ := Kd.at_string (Kd.R_reads' hF_).2.2 t318 (of_eq_true pi321) (of_eq_true qi321)
            cases ea_
            refine value_ (w1 := w') (v := .string (rdOf ByteArray.empty y315 t318)) (by rfl) rfl ?_ ?_
            ·go_simp
             (try simp only [i64_w])
             try rfl
            refine hK.out _ _ ⟨v316, adz_v316, m6_, (by rw [ha.out]; exact putSel_upk 4 hb_ rfl rfl rfl), fun h0_ => absurd ((hon 5 (by kernel_rfl)).symm.trans h0_) (by decide), Q_HB, Q_HO317, Q_HA_HO317, Q_HI303_e5, Q_HI303_e14, Q_X6_⟩
           refine steps_cons ?_ ?_
           ·rintro b a w' ⟨v316, adz_v316, m6_, ha, Q_HI303, Q_HB, Q_HO317, Q_HA_HO317, Q_HI303_e5, Q_HI303_e14, Q_X6_⟩ hb_ hon hoff
            refine ⟨_, rfl, fun K hK => ?_⟩
            have e33 : a.tmps[33]? = some (.string (t308.extract 0 (t312 : Int).toNat)) := by rw [ha]; exact putSel_on (e := (2, 33, .string (t308.extract 0 (t312 : Int).toNat))) 0 rfl rfl (hon 2 (by kernel_rfl)) rfl
            have e38 : a.tmps[38]? = some (.string (rdOf ByteArray.empty y315 t318)) := by rw [ha]; exact putSel_on (e := (7, 38, .string (rdOf ByteArray.empty y315 t318))) 4 rfl rfl (hon 7 (by kernel_rfl)) rfl
            replace ha := Aside0.mk ha
            have HB := Aside0.mk Q_HB
            have HO317 := Aside0.mk (Q_HO317 (hon 3 (by kernel_rfl)))
            have HA_HO317 := Aside0.mk (Q_HA_HO317 (hon 3 (by kernel_rfl)))
            refine value_ (w1 := w') (v := .string ((t308.extract 0 (t312 : Int).toNat) ++ (rdOf ByteArray.empty y315 t318))) (by rfl) rfl ?_ ?_
            ·go_simp
             all_goals (try (have z1_ := c13; have y0_ := of_eq_true c8b0; have y1_ := of_eq_true c9b0; have y2_ := of_eq_true c16b0; have y3_ := of_eq_true c17b0; simp only [ByteArray.size_append, ByteArray.size_extract] at z1_; omega))
             all_goals (try (have z1_ := c18; have y0_ := of_eq_true c8b0; have y1_ := of_eq_true c9b0; have y2_ := of_eq_true c16b0; have y3_ := of_eq_true c17b0; simp only [ByteArray.size_append, ByteArray.size_extract] at z1_; omega))
             (try simp only [i64_w])
             try rfl
            refine hK.out _ _ ⟨v316, adz_v316, m6_, (by rw [ha.out]; exact putSel_upk 5 hb_ rfl rfl rfl), fun h0_ => absurd ((hon 5 (by kernel_rfl)).symm.trans h0_) (by decide), Q_HB, Q_HO317, Q_HA_HO317, Q_HI303_e5, Q_HI303_e14, Q_X6_⟩
           refine steps_cons ?_ ?_
           ·rintro b a w' ⟨v316, adz_v316, m6_, ha, Q_HI303, Q_HB, Q_HO317, Q_HA_HO317, Q_HI303_e5, Q_HI303_e14, Q_X6_⟩ hb_ hon hoff
            refine ⟨_, rfl, fun K hK => ?_⟩
            have e41 : a.tmps[41]? = some (.string t308) := by rw [ha]; exact (putSel_off rfl).trans rfl
            replace ha := Aside0.mk ha
            have HB := Aside0.mk Q_HB
            refine value_ (w1 := w') (v := .int .i64 (t308.size : Int)) (by rfl) rfl ?_ ?_
            ·go_simp
             (try simp only [i64_w])
             try rfl
            refine hK.out _ _ ⟨v316, adz_v316, m6_, (by rw [ha.out]; exact putSel_upk 6 hb_ rfl rfl rfl), Q_HI303, Q_HB, Q_HO317, Q_HA_HO317, Q_HI303_e5, Q_HI303_e14, Q_X6_⟩
           refine steps_cons ?_ ?_
           ·rintro b a w' ⟨v316, adz_v316, m6_, ha, Q_HI303, Q_HB, Q_HO317, Q_HA_HO317, Q_HI303_e5, Q_HI303_e14, Q_X6_⟩ hb_ hon hoff
            refine ⟨_, rfl, fun K hK => ?_⟩
            have e44 : a.tmps[44]? = some (.pointer (some ⟨g303, 0, none⟩)) := by rw [ha]; exact (putSel_off rfl).trans rfl
            replace ha := Aside0.mk ha
            have HB := Aside0.mk Q_HB
            have HI303 := Aside0.mk (Q_HI303_e5 (hon 5 (by kernel_rfl)) hb_)
            refine goes_ Try.func52 (by kernel_rfl) rfl #[.pointer (some ⟨g303, 0, none⟩), .int .i64 2] (by rfl) rfl rfl (by first | (simp only [List.map_toArray, List.map_cons, List.map_nil, Act.eval, Array.getD_eq_getD_getElem?, Option.getD_some, e44]; done) | (simp only [List.map_toArray, List.map_cons, List.map_nil, Act.eval, Array.getD_eq_getD_getElem?, Option.getD_some, e44]; rfl)) ?_
            with_reducible refine (spec_l01Cur_pick.calls g303 t300 t319 t320 2 t322 t323 t324 w _ ?side1 ?side2 A14.out).mono ?_
            (case side1 => repeat (first | (with_reducible first | exact HI303.out | apply IsS79.alloc | apply IsS79.drewN | apply IsS79.drew | apply IsS79.set_1 | apply IsS79.set_2) | exact HI303.out))
            (case side2 => repeat (first | (with_reducible first | exact HB.out | apply below_alloc | apply pw_below_drewN | apply below_drew1 | refine below_set ?_ (IsS79.ge HI303.out)) | exact HB.out))
            rintro e w27 ⟨rfl, hi, hb, hk⟩
            refine ⟨_, rfl, ?_⟩
            have n0_ := Aside0.mk (hb)
            have n1_ := Aside0.mk (hi)
            have z_HO317 := fun (h0_ : b 3 = true) => (show Kd.R Kd.string 9 w27 w.heap.size (fun _ => True) v316 y315 from by first | exact (Kd.R_mono (Kd.R_keep (IsS79.apart (show IsS79 w _ g303 t300 t319 t320 from by repeat (first | (with_reducible first | exact HI303.out | apply IsS79.alloc | apply IsS79.drewN | apply IsS79.drew | apply IsS79.set_1 | apply IsS79.set_2) | exact HI303.out)) (by (with_reducible repeat (first | apply Kd.R_alloc | apply Kd.R_drewN | apply Kd.R_drew)); exact (Q_HO317 h0_)) (by decide)) hk (fun _ h => h.2)) (fun _ h => h.1)) | exact Kd.R_mono (Kd.R_mono (Kd.R_keep (IsS79.apart (show IsS79 w _ g303 t300 t319 t320 from by repeat (first | (with_reducible first | exact HI303.out | apply IsS79.alloc | apply IsS79.drewN | apply IsS79.drew | apply IsS79.set_1 | apply IsS79.set_2) | exact HI303.out)) (by (with_reducible repeat (first | apply Kd.R_alloc | apply Kd.R_drewN | apply Kd.R_drew)); exact (Q_HO317 h0_)) (by decide)) hk (fun _ h => h.2)) (fun _ h => h.1)) (fun _ h_ => by first | trivial | exact h_ | exact h_.1))
            clear HB
            clear HI303
            have HB := n0_
            have HI303 := n1_
            clear n0_ n1_
            (try clear hb)
            (try clear hb2)
            (try clear hk)
            (try clear hi)
            refine hK.out _ _ ⟨v316, adz_v316, m6_, (by rw [ha.out]; exact putSel_upk 7 hb_ rfl rfl rfl), fun h0_ => absurd ((hon 5 (by kernel_rfl)).symm.trans h0_) (by decide), (by repeat (first | (with_reducible first | exact HB.out | apply below_alloc | apply pw_below_drewN | apply below_drew1 | refine below_set ?_ (IsS79.ge HI303.out)) | exact HB.out)), z_HO317, Q_HA_HO317, fun _ h1_ => absurd ((up_self b 14).symm.trans h1_) (by decide), fun _ => (by repeat (first | (with_reducible first | exact HI303.out | apply IsS79.alloc | apply IsS79.drewN | apply IsS79.drew | apply IsS79.set_1 | apply IsS79.set_2) | exact HI303.out)), Q_X6_⟩
           refine steps_cons ?_ ?_
           ·rintro b a w' ⟨v316, adz_v316, m6_, ha, Q_HI303, Q_HB, Q_HO317, Q_HA_HO317, Q_HI303_e5, Q_HI303_e14, Q_X6_⟩ hb_ hon hoff
            refine ⟨_, rfl, fun K hK => ?_⟩
            have e43 : a.tmps[43]? = some (.int .i64 t312) := by rw [ha]; exact (putSel_off rfl).trans rfl
            have e45 : a.tmps[45]? = some (.int .i64 t322) := by rw [ha]; exact putSel_on (e := (14, 45, .int .i64 t322)) 7 rfl rfl (hon 14 (by kernel_rfl)) rfl
            replace ha := Aside0.mk ha
            have HB := Aside0.mk Q_HB
            have HI303 := Aside0.mk (Q_HI303_e14 (hon 14 (by kernel_rfl)))
            refine value_ (w1 := w') (v := .int .i64 (wrap64 (t312 + t322))) (by rfl) rfl ?_ ?_
            ·go_simp
             (try simp only [i64_w])
             try rfl
            refine hK.out _ _ ⟨v316, adz_v316, m6_, (by rw [ha.out]; exact putSel_upk 8 hb_ rfl rfl rfl), fun h0_ => absurd ((hon 5 (by kernel_rfl)).symm.trans h0_) (by decide), Q_HB, Q_HO317, Q_HA_HO317, fun _ h1_ => absurd ((hon 14 (by kernel_rfl)).symm.trans h1_) (by decide), Q_HI303_e14, Q_X6_⟩
           refine steps_cons ?_ ?_
           ·rintro b a w' ⟨v316, adz_v316, m6_, ha, Q_HI303, Q_HB, Q_HO317, Q_HA_HO317, Q_HI303_e5, Q_HI303_e14, Q_X6_⟩ hb_ hon hoff
            refine ⟨_, rfl, fun K hK => ?_⟩
            have e42 : a.tmps[42]? = some (.int .i64 (t308.size : Int)) := by rw [ha]; exact putSel_on (e := (11, 42, .int .i64 (t308.size : Int))) 6 rfl rfl (hon 11 (by kernel_rfl)) rfl
            have e46 : a.tmps[46]? = some (.int .i64 (wrap64 (t312 + t322))) := by rw [ha]; exact putSel_on (e := (15, 46, .int .i64 (wrap64 (t312 + t322)))) 8 rfl rfl (hon 15 (by kernel_rfl)) rfl
            replace ha := Aside0.mk ha
            have HB := Aside0.mk Q_HB
            have HI303 := Aside0.mk (Q_HI303_e14 (hon 14 (by kernel_rfl)))
            refine value_ (w1 := w') (v := .int .i64 ji15) (by rfl) rfl ?_ ?_
            ·go_simp
             (try simp only [i64_w])
             try rfl
            refine hK.out _ _ ⟨v316, adz_v316, m6_, (by rw [ha.out]; exact putSel_upk 9 hb_ rfl rfl rfl), fun h0_ => absurd ((hon 5 (by kernel_rfl)).symm.trans h0_) (by decide), Q_HB, Q_HO317, Q_HA_HO317, fun _ h1_ => absurd ((hon 14 (by kernel_rfl)).symm.trans h1_) (by decide), Q_HI303_e14, Q_X6_⟩
           refine steps_cons ?_ ?_
           ·rintro b a w' ⟨v316, adz_v316, m6_, ha, Q_HI303, Q_HB, Q_HO317, Q_HA_HO317, Q_HI303_e5, Q_HI303_e14, Q_X6_⟩ hb_ hon hoff
            refine ⟨_, rfl, fun K hK => ?_⟩
            have e40 : a.tmps[40]? = some (.string t308) := by rw [ha]; exact (putSel_off rfl).trans rfl
            have e47 : a.tmps[47]? = some (.int .i64 ji15) := by rw [ha]; exact putSel_on (e := (16, 47, .int .i64 ji15)) 9 rfl rfl (hon 16 (by kernel_rfl)) rfl
            replace ha := Aside0.mk ha
            have HB := Aside0.mk Q_HB
            have HI303 := Aside0.mk (Q_HI303_e14 (hon 14 (by kernel_rfl)))
            refine value_ (w1 := w') (v := .string (t308.extract ((ji15) : Int).toNat t308.size)) (by rfl) rfl ?_ ?_
            ·go_simp
             (try simp only [i64_w])
             try rfl
            refine hK.out _ _ ⟨v316, adz_v316, m6_, (by rw [ha.out]; exact putSel_upk 10 hb_ rfl rfl rfl), fun h0_ => absurd ((hon 5 (by kernel_rfl)).symm.trans h0_) (by decide), Q_HB, Q_HO317, Q_HA_HO317, fun _ h1_ => absurd ((hon 14 (by kernel_rfl)).symm.trans h1_) (by decide), Q_HI303_e14, Q_X6_⟩
           refine steps_cons ?_ ?_
           ·rintro b a w' ⟨v316, adz_v316, m6_, ha, Q_HI303, Q_HB, Q_HO317, Q_HA_HO317, Q_HI303_e5, Q_HI303_e14, Q_X6_⟩ hb_ hon hoff
            refine ⟨_, rfl, fun K hK => ?_⟩
            have e39 : a.tmps[39]? = some (.string ((t308.extract 0 (t312 : Int).toNat) ++ (rdOf ByteArray.empty y315 t318))) := by rw [ha]; exact putSel_on (e := (8, 39, .string ((t308.extract 0 (t312 : Int).toNat) ++ (rdOf ByteArray.empty y315 t318)))) 5 rfl rfl (hon 8 (by kernel_rfl)) rfl
            have e48 : a.tmps[48]? = some (.string (t308.extract ((ji15) : Int).toNat t308.size)) := by rw [ha]; exact putSel_on (e := (17, 48, .string (t308.extract ((ji15) : Int).toNat t308.size))) 10 rfl rfl (hon 17 (by kernel_rfl)) rfl
            replace ha := Aside0.mk ha
            have HB := Aside0.mk Q_HB
            have HO317 := Aside0.mk (Q_HO317 (hon 3 (by kernel_rfl)))
            have HA_HO317 := Aside0.mk (Q_HA_HO317 (hon 3 (by kernel_rfl)))
            have HI303 := Aside0.mk (Q_HI303_e14 (hon 14 (by kernel_rfl)))
            refine value_ (w1 := w') (v := .string (((t308.extract 0 (t312 : Int).toNat) ++ (rdOf ByteArray.empty y315 t318)) ++ (t308.extract ((ji15) : Int).toNat t308.size))) (by rfl) rfl ?_ ?_
            ·go_simp
             all_goals (try (have z1_ := c13; have y0_ := of_eq_true c8b0; have y1_ := of_eq_true c9b0; have y2_ := of_eq_true c16b0; have y3_ := of_eq_true c17b0; simp only [ByteArray.size_append, ByteArray.size_extract] at z1_; omega))
             all_goals (try (have z1_ := c18; have y0_ := of_eq_true c8b0; have y1_ := of_eq_true c9b0; have y2_ := of_eq_true c16b0; have y3_ := of_eq_true c17b0; simp only [ByteArray.size_append, ByteArray.size_extract] at z1_; omega))
             (try simp only [i64_w])
             try rfl
            refine hK.out _ _ ⟨v316, adz_v316, m6_, (by rw [ha.out]; exact putSel_upk 11 hb_ rfl rfl rfl), fun h0_ => absurd ((hon 5 (by kernel_rfl)).symm.trans h0_) (by decide), Q_HB, Q_HO317, Q_HA_HO317, fun _ h1_ => absurd ((hon 14 (by kernel_rfl)).symm.trans h1_) (by decide), Q_HI303_e14, Q_X6_⟩
           refine steps_cons ?_ ?_
           ·rintro b a w' ⟨v316, adz_v316, m6_, ha, Q_HI303, Q_HB, Q_HO317, Q_HA_HO317, Q_HI303_e5, Q_HI303_e14, Q_X6_⟩ hb_ hon hoff
            refine ⟨_, rfl, fun K hK => ?_⟩
            have e49 : a.tmps[49]? = some (.string (((t308.extract 0 (t312 : Int).toNat) ++ (rdOf ByteArray.empty y315 t318)) ++ (t308.extract ((ji15) : Int).toNat t308.size))) := by rw [ha]; exact putSel_on (e := (18, 49, .string (((t308.extract 0 (t312 : Int).toNat) ++ (rdOf ByteArray.empty y315 t318)) ++ (t308.extract ((ji15) : Int).toNat t308.size)))) 11 rfl rfl (hon 18 (by kernel_rfl)) rfl
            replace ha := Aside0.mk ha
            have HB := Aside0.mk Q_HB
            have HO317 := Aside0.mk (Q_HO317 (hon 3 (by kernel_rfl)))
            have HA_HO317 := Aside0.mk (Q_HA_HO317 (hon 3 (by kernel_rfl)))
            have HI303 := Aside0.mk (Q_HI303_e14 (hon 14 (by kernel_rfl)))
            refine value_ (w1 := w') (v := .string (((t308.extract 0 (t312 : Int).toNat) ++ (rdOf ByteArray.empty y315 t318)) ++ (t308.extract ((ji15) : Int).toNat t308.size))) (by rfl) rfl ?_ ?_
            ·go_simp
             all_goals (try (have z1_ := c13; have y0_ := of_eq_true c8b0; have y1_ := of_eq_true c9b0; have y2_ := of_eq_true c16b0; have y3_ := of_eq_true c17b0; simp only [ByteArray.size_append, ByteArray.size_extract] at z1_; omega))
             all_goals (try (have z1_ := c18; have y0_ := of_eq_true c8b0; have y1_ := of_eq_true c9b0; have y2_ := of_eq_true c16b0; have y3_ := of_eq_true c17b0; simp only [ByteArray.size_append, ByteArray.size_extract] at z1_; omega))
             (try simp only [i64_w])
             try rfl
            refine hK.out _ _ ⟨v316, adz_v316, m6_, (by rw [ha.out]; exact putSel_upk 12 hb_ rfl rfl rfl), fun h0_ => absurd ((hon 5 (by kernel_rfl)).symm.trans h0_) (by decide), Q_HB, Q_HO317, Q_HA_HO317, fun _ h1_ => absurd ((hon 14 (by kernel_rfl)).symm.trans h1_) (by decide), Q_HI303_e14, Q_X6_⟩
           exact steps_nil
          rintro b a w30 hall ⟨v316, adz_v316, m6_, ha, Q_HI303, Q_HB, Q_HO317, Q_HA_HO317, Q_HI303_e5, Q_HI303_e14, Q_X6_⟩
          clear HB HI303
          have hb2_ := hall 2 (by kernel_rfl)
          have hb3_ := hall 3 (by kernel_rfl)
          have hb5_ := hall 5 (by kernel_rfl)
          have hb6_ := hall 6 (by kernel_rfl)
          have hb7_ := hall 7 (by kernel_rfl)
          have hb8_ := hall 8 (by kernel_rfl)
          have hb11_ := hall 11 (by kernel_rfl)
          have hb14_ := hall 14 (by kernel_rfl)
          have hb15_ := hall 15 (by kernel_rfl)
          have hb16_ := hall 16 (by kernel_rfl)
          have hb17_ := hall 17 (by kernel_rfl)
          have hb18_ := hall 18 (by kernel_rfl)
          have hb19_ := hall 19 (by kernel_rfl)
          subst ha
          obtain rfl := Q_X6_ hb6_
          simp only [putSel, hb2_, hb3_, hb5_, hb6_, hb7_, hb8_, hb11_, hb14_, hb15_, hb16_, hb17_, hb18_, hb19_, if_true, Act.put, List.setIfInBounds_toArray, List.set_cons_zero, List.set_cons_succ]
          clear Q_HI303
          have HB := Aside0.mk Q_HB
          clear Q_HB
          have HO317 := Aside0.mk (Q_HO317 hb3_)
          clear Q_HO317
          have HA_HO317 := Aside0.mk (Q_HA_HO317 hb3_)
          clear Q_HA_HO317
          clear Q_HI303_e5
          have HI303 := Aside0.mk (Q_HI303_e14 hb14_)
          clear Q_HI303_e14
          clear hall hb2_ hb3_ hb5_ hb6_ hb7_ hb8_ hb11_ hb14_ hb15_ hb16_ hb17_ hb18_ hb19_
          obtain ⟨co31, eo31⟩ := HA_HO317.out
          clear HA_HO317
          subst eo31
          try go_wp2
          go_ret3
          exact ⟨by first | rfl | (simp [errW_none, errW_some] <;> rfl) | (simp only [← hji15]; first | rfl | (simp [errW_none, errW_some] <;> rfl)) | (simp [*, errW_none, errW_some] <;> rfl), by repeat (first | (with_reducible first | exact HB.out | apply below_alloc | apply pw_below_drewN | apply below_drew1 | refine below_set ?_ (IsS79.ge HI303.out)) | exact HB.out)⟩
         ·rw [if_neg c18] at H
          exact absurd H (by simp)
        ·rw [if_neg c17] at H
         exact absurd H (by simp)
       ·rw [if_neg c16] at H
        exact absurd H (by simp)
      ·rw [if_neg c13] at H
       exact absurd H (by simp)
     ·rw [if_neg c12] at H
      exact absurd H (by simp)
    ·rw [if_neg c11] at H
     exact absurd H (by simp)
   ·rw [if_neg c9] at H
    exact absurd H (by simp)
  ·rw [if_neg c8] at H
   exact absurd H (by simp)
 ·rw [if_neg c6] at H
  have c6b0 : (t309 == 0) = false := beq_eq_false_iff_ne.mpr c6
  have c6b1 : (t309 != 0) = true := bne_iff_ne.mpr c6
  by_cases c32 : t309 = 1
  ·rw [if_pos c32] at H
   have c32b0 : (t309 == 1) = true := beq_iff_eq.mpr c32
   have c32b1 : (t309 != 1) = false := bne_eq_false_iff_eq.mpr c32
   clear c32
   have H' := Aside0.mk H
   clear H
   go_enter Try.func48, Try.ntmps48
   go_wp2_with (first | ((with_reducible refine gate_callee (f := 50) rfl ?_); refine goesL_ (some 13) rfl rfl Try.func50 (by kernel_rfl) rfl #[.slice A0 l0.length c0] rfl (by (try simp only [List.map_toArray, List.map_cons, List.map_nil]); first | done | rfl | (simp only [List.length_drop, List.length_take]; rfl)) ?_; (with_reducible refine (spec_l01Open.calls _ _ l0 t300 t301 t302 w _ ?side1 ?side2 ?side3 A2.out).mono ?_); (case side1 => repeat (first | (with_reducible first | exact HB.out | apply below_alloc | apply pw_below_drewN | apply below_drew1) | exact HB.out)); (case side2 => exact HR0.out); (case side3 => exact HC0.out); rintro e w33 ⟨g303, rfl, hi, hb, hb2⟩; refine ⟨_, rfl, ?_⟩; have n0_ := Aside0.mk (hb); have n1_ := Aside0.mk (hi); clear HB; have HB := n0_; have HI303 := n1_; clear n0_ n1_; (try clear hb); (try clear hb2); (try clear hk); (try clear hi)) | ((with_reducible refine gate_callee (f := 69) rfl ?_); refine goesL_ (some 16) rfl rfl Try.func69 (by kernel_rfl) rfl #[.pointer (some ⟨g303, 0, none⟩)] rfl (by (try simp only [List.map_toArray, List.map_cons, List.map_nil]); first | done | rfl | (simp only [List.length_drop, List.length_take]; rfl)) ?_; (with_reducible refine (spec_l01Cur_pair.calls k g303 t300 t301 t302 t304 t305 t306 t307 w _ ?side1 ?side2 A3.out).mono ?_); (case side1 => repeat (first | (with_reducible first | exact HI303.out | apply IsS79.alloc | apply IsS79.drewN | apply IsS79.drew | apply IsS79.set_1 | apply IsS79.set_2) | exact HI303.out)); (case side2 => repeat (first | (with_reducible first | exact HB.out | apply below_alloc | apply pw_below_drewN | apply below_drew1 | refine below_set ?_ (IsS79.ge HI303.out)) | exact HB.out)); rintro e w34 ⟨rfl, hi, hb, hk⟩; refine ⟨_, rfl, ?_⟩; have n0_ := Aside0.mk (hb); have n1_ := Aside0.mk (hi); clear HB; clear HI303; have HB := n0_; have HI303 := n1_; clear n0_ n1_; (try clear hb); (try clear hb2); (try clear hk); (try clear hi)) | ((with_reducible refine gate_callee (f := 25) rfl ?_); refine goesL_ (some 21) rfl rfl Try.func25 (by kernel_rfl) rfl #[.string t304, .string t305] rfl (by (try simp only [List.map_toArray, List.map_cons, List.map_nil]); first | done | rfl | (simp only [List.length_drop, List.length_take]; rfl)) ?_; (with_reducible refine (spec_EditText.calls k t304 t305 t308 _ A4.out).mono ?_); rintro e w35 ⟨rfl, hb⟩; refine ⟨_, rfl, ?_⟩; have n0_ := Aside0.mk (IsS79.below (by repeat (first | (with_reducible first | exact HI303.out | apply IsS79.alloc | apply IsS79.drewN | apply IsS79.drew | apply IsS79.set_1 | apply IsS79.set_2) | exact HI303.out)) hb); have n1_ := Aside0.mk (below_step (by repeat (first | (with_reducible first | exact HB.out | apply below_alloc | apply pw_below_drewN | apply below_drew1 | refine below_set ?_ (IsS79.ge HI303.out)) | exact HB.out)) hb); clear HI303; clear HB; have HI303 := n0_; have HB := n1_; clear n0_ n1_; (try clear hb); (try clear hb2); (try clear hk); (try clear hi)) | ((with_reducible refine gate_callee (f := 52) rfl ?_); refine goesL_ (some 23) rfl rfl Try.func52 (by kernel_rfl) rfl #[.pointer (some ⟨g303, 0, none⟩), .int .i64 4] rfl (by (try simp only [List.map_toArray, List.map_cons, List.map_nil]); first | done | rfl | (simp only [List.length_drop, List.length_take]; rfl)) ?_; (with_reducible refine (spec_l01Cur_pick.calls g303 t300 t306 t307 4 t309 t310 t311 w _ ?side1 ?side2 A5.out).mono ?_); (case side1 => repeat (first | (with_reducible first | exact HI303.out | apply IsS79.alloc | apply IsS79.drewN | apply IsS79.drew | apply IsS79.set_1 | apply IsS79.set_2) | exact HI303.out)); (case side2 => repeat (first | (with_reducible first | exact HB.out | apply below_alloc | apply pw_below_drewN | apply below_drew1 | refine below_set ?_ (IsS79.ge HI303.out)) | exact HB.out)); rintro e w36 ⟨rfl, hi, hb, hk⟩; refine ⟨_, rfl, ?_⟩; have n0_ := Aside0.mk (hb); have n1_ := Aside0.mk (hi); clear HB; clear HI303; have HB := n0_; have HI303 := n1_; clear n0_ n1_; (try clear hb); (try clear hb2); (try clear hk); (try clear hi)))
   go_loopg [8, 10] k (fun kq v8 v10 w' => ∃ (x8_1 : ByteArray) (x10_1 : Int), v8 = .string x8_1 ∧ v10 = .int .i64 x10_1 ∧ Aside0 (spec_DrawEditCost.l0 kq t304 t305 x8_1 x10_1 = some (r1, r2, r3)) ∧ Aside0 (kq ≤ k) ∧ Aside0 (Below w.heap.size w w'))
   case atStart => exact ⟨((⟨#[]⟩ : ByteArray)), ((t304.size : Int)), (by first | rfl | (simp; done) | (simp [*]; done)), (by first | rfl | (simp; done) | (simp [*]; done)), H', ⟨Nat.le_refl _⟩, ⟨by repeat (first | (with_reducible first | exact HB.out | apply below_alloc | apply pw_below_drewN | apply below_drew1 | refine below_set ?_ (IsS79.ge HI303.out)) | exact HB.out)⟩⟩
   case round =>
    clear H'
    try clear c1
    try clear c2
    try clear p2
    try clear c3
    try clear qi3
    try clear c4
    try clear c5
    try clear c6
    try clear c6b0
    try clear c6b1
    try clear p6
    try clear c8
    try clear c8b0
    try clear c8b1
    try clear c9
    try clear c9b0
    try clear c9b1
    try clear c11
    try clear c11b0
    try clear c12
    try clear c12b0
    try clear c13
    try clear c13b0
    try clear c13b1
    try clear c13b2
    try clear c16
    try clear c16b0
    try clear c16b1
    try clear c17
    try clear c17b0
    try clear c17b1
    try clear c18
    try clear c18b0
    try clear c18b1
    try clear c18b2
    try clear c25
    try clear c32
    try clear c32b0
    try clear c32b1
    try clear qi32
    obtain ⟨x8_1, x10_1, rfl, rfl, HA, HK1, HB⟩ := hrel
    cases gk with
    | zero => exact absurd HA.out (by simp [spec_DrawEditCost.l0])
    | succ k1 =>
     have H := HA.out
     clear HA
     simp only [spec_DrawEditCost.l0] at H
     by_cases c37 : x10_1 > 0
     ·rw [if_pos c37] at H
      have c37b0 : decide (0 < x10_1) = true := decide_eq_true c37
      clear c37
      by_cases c38 : x8_1.size + 1 ≤ 9223372036854775807
      ·rw [if_pos c38] at H
       have c38b0 := eq_true c38
       have c38b1 : decide (x8_1.size + 1 ≤ 9223372036854775807) = true := decide_eq_true c38
       try have c38b2 : (9223372036854775807 < x8_1.size + 1) = False := eq_false (Nat.not_lt.2 c38)
       have H' := Aside0.mk H
       clear H
       go_wp2
       go_roundg k1
       case measure => have := HK1.out; omega
       case rel => exact ⟨(x8_1 ++ (⟨#[100]⟩ : ByteArray)), (wrap64 (x10_1 - 1)), (by first | rfl | (simp; done) | (simp [*]; done)), (by first | rfl | (simp; done) | (simp [*]; done)), H', ⟨by have := HK1.out; omega⟩, ⟨by repeat (first | (with_reducible first | exact HB.out | apply below_alloc | apply pw_below_drewN | apply below_drew1) | exact HB.out)⟩⟩
      ·rw [if_neg c38] at H
       exact absurd H (by simp)
     ·rw [if_neg c37] at H
      have c37b0 : decide (0 < x10_1) = false := decide_eq_false c37
      clear c37
      have H' := Aside0.mk H
      clear H
      go_wp2
      go_loopg [8, 11] k1 (fun kq v8 v11 w' => ∃ (x8_2 : ByteArray) (x11_2 : Int), v8 = .string x8_2 ∧ v11 = .int .i64 x11_2 ∧ Aside0 (spec_DrawEditCost.l1 kq t304 t305 x8_2 x11_2 = some (r1, r2, r3)) ∧ Aside0 (kq ≤ k1) ∧ Aside0 (Below w.heap.size w w'))
      case atStart => exact ⟨(x8_1), ((t305.size : Int)), (by first | rfl | (simp; done) | (simp [*]; done)), (by first | rfl | (simp; done) | (simp [*]; done)), H', ⟨Nat.le_refl _⟩, ⟨by repeat (first | (with_reducible first | exact HB.out | apply below_alloc | apply pw_below_drewN | apply below_drew1) | exact HB.out)⟩⟩
      case round =>
       clear H'
       try clear c1
       try clear c2
       try clear p2
       try clear c3
       try clear qi3
       try clear c4
       try clear c5
       try clear c6
       try clear c6b0
       try clear c6b1
       try clear p6
       try clear c8
       try clear c8b0
       try clear c8b1
       try clear c9
       try clear c9b0
       try clear c9b1
       try clear c11
       try clear c11b0
       try clear c12
       try clear c12b0
       try clear c13
       try clear c13b0
       try clear c13b1
       try clear c13b2
       try clear c16
       try clear c16b0
       try clear c16b1
       try clear c17
       try clear c17b0
       try clear c17b1
       try clear c18
       try clear c18b0
       try clear c18b1
       try clear c18b2
       try clear c25
       try clear c32
       try clear c32b0
       try clear c32b1
       try clear qi32
       try clear c37
       try clear c37b0
       try clear c38
       try clear c38b0
       try clear c38b1
       try clear c38b2
       try clear p2
       try clear p6
       obtain ⟨x8_2, x11_2, rfl, rfl, HA, HK2, HB⟩ := hrel
       cases gk with
       | zero => exact absurd HA.out (by simp [spec_DrawEditCost.l1])
       | succ k2 =>
        have H := HA.out
        clear HA
        simp only [spec_DrawEditCost.l1] at H
        by_cases c39 : x11_2 > 0
        ·rw [if_pos c39] at H
         have c39b0 : decide (0 < x11_2) = true := decide_eq_true c39
         clear c39
         by_cases c40 : x8_2.size + 1 ≤ 9223372036854775807
         ·rw [if_pos c40] at H
          have c40b0 := eq_true c40
          have c40b1 : decide (x8_2.size + 1 ≤ 9223372036854775807) = true := decide_eq_true c40
          try have c40b2 : (9223372036854775807 < x8_2.size + 1) = False := eq_false (Nat.not_lt.2 c40)
          have H' := Aside0.mk H
          clear H
          go_wp2
          go_roundg k2
          case measure => have := HK1.out; have := HK2.out; omega
          case rel => exact ⟨(x8_2 ++ (⟨#[105]⟩ : ByteArray)), (wrap64 (x11_2 - 1)), (by first | rfl | (simp; done) | (simp [*]; done)), (by first | rfl | (simp; done) | (simp [*]; done)), H', ⟨by have := HK1.out; have := HK2.out; omega⟩, ⟨by repeat (first | (with_reducible first | exact HB.out | apply below_alloc | apply pw_below_drewN | apply below_drew1) | exact HB.out)⟩⟩
         ·rw [if_neg c40] at H
          exact absurd H (by simp)
        ·rw [if_neg c39] at H
         have c39b0 : decide (0 < x11_2) = false := decide_eq_false c39
         clear c39
         simp only [Option.some.injEq, Prod.mk.injEq] at H
         obtain ⟨rfl, rfl, rfl⟩ := H
         go_wp2
         go_ret3
         exact ⟨by first | rfl | (simp [errW_none, errW_some] <;> rfl) | (simp [*, errW_none, errW_some] <;> rfl), by repeat (first | (with_reducible first | exact HB.out | apply below_alloc | apply pw_below_drewN | apply below_drew1) | exact HB.out)⟩
  ·rw [if_neg c32] at H
   have c32b0 : (t309 == 1) = false := beq_eq_false_iff_ne.mpr c32
   have c32b1 : (t309 != 1) = true := bne_iff_ne.mpr c32
   simp only [Option.some.injEq, Prod.mk.injEq] at H
   obtain ⟨rfl, rfl, rfl⟩ := H
   go_enter Try.func48, Try.ntmps48
   go_wp2_with (first | ((with_reducible refine gate_callee (f := 50) rfl ?_); refine goesL_ (some 13) rfl rfl Try.func50 (by kernel_rfl) rfl #[.slice A0 l0.length c0] rfl (by (try simp only [List.map_toArray, List.map_cons, List.map_nil]); first | done | rfl | (simp only [List.length_drop, List.length_take]; rfl)) ?_; (with_reducible refine (spec_l01Open.calls _ _ l0 t300 t301 t302 w _ ?side1 ?side2 ?side3 A2.out).mono ?_); (case side1 => repeat (first | (with_reducible first | exact HB.out | apply below_alloc | apply pw_below_drewN | apply below_drew1) | exact HB.out)); (case side2 => exact HR0.out); (case side3 => exact HC0.out); rintro e w41 ⟨g303, rfl, hi, hb, hb2⟩; refine ⟨_, rfl, ?_⟩; have n0_ := Aside0.mk (hb); have n1_ := Aside0.mk (hi); clear HB; have HB := n0_; have HI303 := n1_; clear n0_ n1_; (try clear hb); (try clear hb2); (try clear hk); (try clear hi)) | ((with_reducible refine gate_callee (f := 69) rfl ?_); refine goesL_ (some 16) rfl rfl Try.func69 (by kernel_rfl) rfl #[.pointer (some ⟨g303, 0, none⟩)] rfl (by (try simp only [List.map_toArray, List.map_cons, List.map_nil]); first | done | rfl | (simp only [List.length_drop, List.length_take]; rfl)) ?_; (with_reducible refine (spec_l01Cur_pair.calls k g303 t300 t301 t302 t304 t305 t306 t307 w _ ?side1 ?side2 A3.out).mono ?_); (case side1 => repeat (first | (with_reducible first | exact HI303.out | apply IsS79.alloc | apply IsS79.drewN | apply IsS79.drew | apply IsS79.set_1 | apply IsS79.set_2) | exact HI303.out)); (case side2 => repeat (first | (with_reducible first | exact HB.out | apply below_alloc | apply pw_below_drewN | apply below_drew1 | refine below_set ?_ (IsS79.ge HI303.out)) | exact HB.out)); rintro e w42 ⟨rfl, hi, hb, hk⟩; refine ⟨_, rfl, ?_⟩; have n0_ := Aside0.mk (hb); have n1_ := Aside0.mk (hi); clear HB; clear HI303; have HB := n0_; have HI303 := n1_; clear n0_ n1_; (try clear hb); (try clear hb2); (try clear hk); (try clear hi)) | ((with_reducible refine gate_callee (f := 25) rfl ?_); refine goesL_ (some 21) rfl rfl Try.func25 (by kernel_rfl) rfl #[.string t304, .string t305] rfl (by (try simp only [List.map_toArray, List.map_cons, List.map_nil]); first | done | rfl | (simp only [List.length_drop, List.length_take]; rfl)) ?_; (with_reducible refine (spec_EditText.calls k t304 t305 t308 _ A4.out).mono ?_); rintro e w43 ⟨rfl, hb⟩; refine ⟨_, rfl, ?_⟩; have n0_ := Aside0.mk (IsS79.below (by repeat (first | (with_reducible first | exact HI303.out | apply IsS79.alloc | apply IsS79.drewN | apply IsS79.drew | apply IsS79.set_1 | apply IsS79.set_2) | exact HI303.out)) hb); have n1_ := Aside0.mk (below_step (by repeat (first | (with_reducible first | exact HB.out | apply below_alloc | apply pw_below_drewN | apply below_drew1 | refine below_set ?_ (IsS79.ge HI303.out)) | exact HB.out)) hb); clear HI303; clear HB; have HI303 := n0_; have HB := n1_; clear n0_ n1_; (try clear hb); (try clear hb2); (try clear hk); (try clear hi)) | ((with_reducible refine gate_callee (f := 52) rfl ?_); refine goesL_ (some 23) rfl rfl Try.func52 (by kernel_rfl) rfl #[.pointer (some ⟨g303, 0, none⟩), .int .i64 4] rfl (by (try simp only [List.map_toArray, List.map_cons, List.map_nil]); first | done | rfl | (simp only [List.length_drop, List.length_take]; rfl)) ?_; (with_reducible refine (spec_l01Cur_pick.calls g303 t300 t306 t307 4 t309 t310 t311 w _ ?side1 ?side2 A5.out).mono ?_); (case side1 => repeat (first | (with_reducible first | exact HI303.out | apply IsS79.alloc | apply IsS79.drewN | apply IsS79.drew | apply IsS79.set_1 | apply IsS79.set_2) | exact HI303.out)); (case side2 => repeat (first | (with_reducible first | exact HB.out | apply below_alloc | apply pw_below_drewN | apply below_drew1 | refine below_set ?_ (IsS79.ge HI303.out)) | exact HB.out)); rintro e w44 ⟨rfl, hi, hb, hk⟩; refine ⟨_, rfl, ?_⟩; have n0_ := Aside0.mk (hb); have n1_ := Aside0.mk (hi); clear HB; clear HI303; have HB := n0_; have HI303 := n1_; clear n0_ n1_; (try clear hb); (try clear hb2); (try clear hk); (try clear hi)))
   go_ret3
   exact ⟨by first | rfl | (simp [errW_none, errW_some] <;> rfl) | (simp [*, errW_none, errW_some] <;> rfl), by repeat (first | (with_reducible first | exact HB.out | apply below_alloc | apply pw_below_drewN | apply below_drew1 | refine below_set ?_ (IsS79.ge HI303.out)) | exact HB.out)⟩

end Go.Proofs.Ytnmalfhdndnelaa.PFnEditsLeast
