/- The functions that the law FnColumns reaches, as plain Lean functions, and the walks that show that Go comes to their answers; part 8. Its lines are the print's, turned where Lean refused them. -/
import Derived.Test.YtnmalfhdndnelaaQFnColumnsx0
import Derived.Test.YtnmalfhdndnelaaQFnColumnsx1
import Derived.Test.YtnmalfhdndnelaaQFnColumnsx2
import Derived.Test.YtnmalfhdndnelaaQFnColumnsx6
import Derived.Test.YtnmalfhdndnelaaQFnColumnsx7
namespace Go.Proofs.Ytnmalfhdndnelaa.PFnColumns
open Go.RowKit Go.Proofs.YtnmalfhdndnelaaW.PrintWords Go.Proofs.YtnmalfhdndnelaaW.PrintLast Go.Proofs.YtnmalfhdndnelaaW.PrintMore
attribute [local go_sem] max2_int min2_int max_two min_two max_three min_three max_four min_four   -- for this text's walks alone
set_option linter.unusedVariables false
set_option linter.unusedSimpArgs false

/-! ### spec_l01Cur_pair: function 69 -/
def spec_l01Cur_pair.l0 : Nat → ByteArray → ByteArray → Int → List Int → Int → Int → Option (ByteArray × ByteArray × Int × Int)
 | 0, _, _, _, _, _, _ => none
 | k + 1, x4, x5, x6, x1000, x1001, x1002 => if x6 > 0 then ((spec_l01Cur_pick.f x1000 x1001 x1002 (wrap64 ((x5.size : Int) + 1))).bind fun bt254 => (if 0 ≤ bt254.1 then (if bt254.1 ≤ (x5.size : Int) then ((some (([(⟨#[]⟩ : ByteArray), (⟨#[97]⟩ : ByteArray), (⟨#[98]⟩ : ByteArray), (⟨#[120]⟩ : ByteArray)] : List ByteArray) : List ByteArray)).bind fun y257 => ((spec_l01Cur_pick.f x1000 bt254.2.1 bt254.2.2 4).bind fun bt260 => (if 0 ≤ bt260.1 then (if bt260.1 < (y257.length : Int) then (if (x5.extract 0 (bt254.1 : Int).toNat).size + (rdOf ByteArray.empty y257 bt260.1).size ≤ 9223372036854775807 then ((spec_l01Cur_pick.f x1000 bt260.2.1 bt260.2.2 2).bind fun bt264 => (if 0 ≤ (mn (x5.size : Int) (wrap64 (bt254.1 + bt264.1))) then (if (mn (x5.size : Int) (wrap64 (bt254.1 + bt264.1))) ≤ (x5.size : Int) then (if ((x5.extract 0 (bt254.1 : Int).toNat) ++ (rdOf ByteArray.empty y257 bt260.1)).size + (x5.extract ((mn (x5.size : Int) (wrap64 (bt254.1 + bt264.1))) : Int).toNat x5.size).size ≤ 9223372036854775807 then (spec_l01Cur_pair.l0 k x4 (((x5.extract 0 (bt254.1 : Int).toNat) ++ (rdOf ByteArray.empty y257 bt260.1)) ++ (x5.extract ((mn (x5.size : Int) (wrap64 (bt254.1 + bt264.1))) : Int).toNat x5.size)) (wrap64 (x6 - 1)) x1000 bt264.2.1 bt264.2.2) else (none)) else (none)) else (none))) else (none)) else (none)) else (none)))) else (none)) else (none))) else (some (x4, x5, x1001, x1002))
def spec_l01Cur_pair.f (k : Nat) (s0_0 : List Int) (s0_1 : Int) (s0_2 : Int) : Option (ByteArray × ByteArray × Int × Int) := (spec_l01Cur_badWord.f k s0_0 s0_1 s0_2).bind fun bt242 => ((spec_l01Cur_once.f s0_0 bt242.2.1 bt242.2.2 3).bind fun bt245 => (if bt245.1 = true then ((spec_l01Cur_badWord.f k s0_0 bt245.2.1 bt245.2.2).bind fun bt248 => (some (bt242.1, bt248.1, bt248.2.1, bt248.2.2))) else ((spec_l01Cur_pick.f s0_0 bt245.2.1 bt245.2.2 4).bind fun bt251 => (spec_l01Cur_pair.l0 k bt242.1 bt242.1 bt251.1 s0_0 bt251.2.1 bt251.2.2))))
theorem spec_l01Cur_pair.mono_l : ∀ k, (∀ y0 y1 y2 y3 y4 y5, LeO (spec_l01Cur_pair.l0 k y0 y1 y2 y3 y4 y5) (spec_l01Cur_pair.l0 (k + 1) y0 y1 y2 y3 y4 y5))
 | 0 => fun _ _ _ _ _ _ r h => by simp [spec_l01Cur_pair.l0] at h
 | k + 1 => by
  have ih0 := spec_l01Cur_pair.mono_l k
  ·intro y0 y1 y2 y3 y4 y5
   unfold spec_l01Cur_pair.l0
   repeat' first
   | (with_reducible exact ih0 _ _ _ _ _ _)
   | (with_reducible exact spec_l01Cur_badWord.mono _ _ _ _)
   | (with_reducible exact LeO.refl _)
   | (with_reducible exact LeO.none _)
   | (with_reducible refine LeO.ite ?_ ?_)
   | (with_reducible refine LeO.bind ?_ (fun _ => ?_))
   | exact ih0 _ _ _ _ _ _
   | exact spec_l01Cur_badWord.mono _ _ _ _
   | exact LeO.none _
   | refine LeO.ite ?_ ?_
   | refine LeO.bind ?_ (fun _ => ?_)
theorem spec_l01Cur_pair.mono : ∀ a0 a1 a2 k, LeO (spec_l01Cur_pair.f k a0 a1 a2) (spec_l01Cur_pair.f (k + 1) a0 a1 a2) := by
 intro a0 a1 a2 k
 have ih0 := spec_l01Cur_pair.mono_l k
 unfold spec_l01Cur_pair.f
 repeat' first
   | (with_reducible exact ih0 _ _ _ _ _ _)
   | (with_reducible exact spec_l01Cur_badWord.mono _ _ _ _)
   | (with_reducible exact LeO.refl _)
   | (with_reducible exact LeO.none _)
   | (with_reducible refine LeO.ite ?_ ?_)
   | (with_reducible refine LeO.bind ?_ (fun _ => ?_))
   | exact ih0 _ _ _ _ _ _
   | exact spec_l01Cur_badWord.mono _ _ _ _
   | exact LeO.none _
   | refine LeO.ite ?_ ?_
   | refine LeO.bind ?_ (fun _ => ?_)
def spec_l01Cur_pair.T9 : Bool × List (List Nat × List Nat) := (true, [([], []), ([], []), ([0, 1], [0, 1]), ([], []), ([], []), ([4], [4]), ([3, 5], [3, 5]), ([6], [6]), ([2, 7], [2, 7]), ([], []), ([], []), ([10], [10]), ([], []), ([], []), ([13, 5], [13]), ([12, 14], [12, 14]), ([11, 15], [11, 15]), ([9, 16], [9, 16]), ([8, 17], [8, 17]), ([18, 14, 0, 1, 2, 3, 4, 5, 6, 7, 8, 9, 10, 11, 12, 13, 14, 15, 16, 17, 18], [0, 9, 10, 18])])
def spec_l01Cur_pair.B9 : List Nat := [0, 0, 3, 0, 0, 16, 56, 120, 255, 0, 0, 1024, 0, 0, 8240, 28720, 64560, 130608, 262143, 524287]
theorem spec_l01Cur_pair.tab9 : rtab .any (opsOf Try.f69 9) = spec_l01Cur_pair.T9 := by kernel_rfl
theorem spec_l01Cur_pair.bits9 : waitsOk spec_l01Cur_pair.T9.2 spec_l01Cur_pair.B9 = true := by kernel_rfl
set_option maxHeartbeats 8000000 in
set_option maxRecDepth 100000 in
theorem spec_l01Cur_pair.calls (k : Nat) (g : Nat) (s0_0 : List Int) (s0_1 : Int) (s0_2 : Int) (r1 : ByteArray) (r2 : ByteArray) (r3 : Int) (r4 : Int) (w0 w : World) (hI : IsS79 w0 w g s0_0 s0_1 s0_2) (hB : Below w0.heap.size w0 w) (h : spec_l01Cur_pair.f k s0_0 s0_1 s0_2 = some (r1, r2, r3, r4)) :
  Calls Try.prog 69 #[.pointer (some ⟨g, 0, none⟩)] w fun e w' => e = .returned (.tuple #[.string r1, .string r2]) ∧ IsS79 w0 w' g s0_0 r3 r4 ∧ Below w0.heap.size w0 w' ∧ KeepBut w w' g none := by
 have HI0 := Aside0.mk hI
 have HK := Aside0.mk (KeepBut.refl w g none)
 have HL := Aside0.mk hB.size
 clear hI
 have HW0 := Aside0.mk hB.size
 have HB := Aside0.mk hB
 clear hB
 have H : ((spec_l01Cur_badWord.f k s0_0 s0_1 s0_2).bind fun bt242 => ((spec_l01Cur_once.f s0_0 bt242.2.1 bt242.2.2 3).bind fun bt245 => (if bt245.1 = true then ((spec_l01Cur_badWord.f k s0_0 bt245.2.1 bt245.2.2).bind fun bt248 => (some (bt242.1, bt248.1, bt248.2.1, bt248.2.2))) else ((spec_l01Cur_pick.f s0_0 bt245.2.1 bt245.2.2 4).bind fun bt251 => (spec_l01Cur_pair.l0 k bt242.1 bt242.1 bt251.1 s0_0 bt251.2.1 bt251.2.2))))) = some (r1, r2, r3, r4) := h
 clear h
 replace H := Option.bind_eq_some_iff.mp H
 obtain ⟨⟨t242, t243, t244⟩, A20, H⟩ := H
 replace H : ((spec_l01Cur_once.f s0_0 t243 t244 3).bind fun bt245 => (if bt245.1 = true then ((spec_l01Cur_badWord.f k s0_0 bt245.2.1 bt245.2.2).bind fun bt248 => (some (t242, bt248.1, bt248.2.1, bt248.2.2))) else ((spec_l01Cur_pick.f s0_0 bt245.2.1 bt245.2.2 4).bind fun bt251 => (spec_l01Cur_pair.l0 k t242 t242 bt251.1 s0_0 bt251.2.1 bt251.2.2)))) = some (r1, r2, r3, r4) := H
 have A2 := Aside0.mk A20
 clear A20
 replace H := Option.bind_eq_some_iff.mp H
 obtain ⟨⟨t245, t246, t247⟩, A30, H⟩ := H
 replace H : (if t245 = true then ((spec_l01Cur_badWord.f k s0_0 t246 t247).bind fun bt248 => (some (t242, bt248.1, bt248.2.1, bt248.2.2))) else ((spec_l01Cur_pick.f s0_0 t246 t247 4).bind fun bt251 => (spec_l01Cur_pair.l0 k t242 t242 bt251.1 s0_0 bt251.2.1 bt251.2.2))) = some (r1, r2, r3, r4) := H
 have A3 := Aside0.mk A30
 clear A30
 by_cases c4 : t245 = true
 ·subst c4
  have H1 : ((spec_l01Cur_badWord.f k s0_0 t246 t247).bind fun bt248 => (some (t242, bt248.1, bt248.2.1, bt248.2.2))) = some (r1, r2, r3, r4) := by rw [if_pos rfl] at H; exact H
  clear H
  have H := H1
  clear H1
  replace H := Option.bind_eq_some_iff.mp H
  obtain ⟨⟨t248, t249, t250⟩, A50, H⟩ := H
  replace H : (some (t242, t248, t249, t250)) = some (r1, r2, r3, r4) := H
  have A5 := Aside0.mk A50
  clear A50
  simp only [Option.some.injEq, Prod.mk.injEq] at H
  obtain ⟨rfl, rfl, rfl, rfl⟩ := H
  go_enter Try.func69, Try.ntmps69
  go_wp2_with (first | ((with_reducible refine gate_callee (f := 80) rfl ?_); refine goesL_ (some 9) rfl rfl Try.func80 (by kernel_rfl) rfl #[.pointer (some ⟨g, 0, none⟩)] rfl (by (try simp only [List.map_toArray, List.map_cons, List.map_nil]); first | done | rfl | (simp only [List.length_drop, List.length_take]; rfl)) ?_; (with_reducible refine (spec_l01Cur_badWord.calls k g s0_0 s0_1 s0_2 t242 t243 t244 w0 _ ?side1 ?side2 A2.out).mono ?_); (case side1 => repeat (first | (with_reducible first | exact HI0.out | apply IsS79.alloc | apply IsS79.drewN | apply IsS79.drew | apply IsS79.set_1 | apply IsS79.set_2) | exact HI0.out)); (case side2 => repeat (first | (with_reducible first | exact HB.out | apply below_alloc | apply pw_below_drewN | apply below_drew1 | refine below_set ?_ (IsS79.ge HI0.out)) | exact HB.out)); rintro e w6 ⟨rfl, hi, hb, hk⟩; refine ⟨_, rfl, ?_⟩; have n0_ := Aside0.mk (KeepBut.trans (by repeat (first | (with_reducible first | exact HK.out | apply KeepBut.set_ | apply keep_drewN | apply keep_drew | apply keep_alloc) | exact HK.out)) hk (.inl rfl)); have n1_ := Aside0.mk (hb); have n2_ := Aside0.mk (hi); clear HK; clear HB; clear HI0; have HK := n0_; have HB := n1_; have HI0 := n2_; clear n0_ n1_ n2_; (try clear hb); (try clear hb2); (try clear hk); (try clear hi)) | ((with_reducible refine gate_callee (f := 53) rfl ?_); refine goesL_ (some 11) rfl rfl Try.func53 (by kernel_rfl) rfl #[.pointer (some ⟨g, 0, none⟩), .int .i64 3] rfl (by (try simp only [List.map_toArray, List.map_cons, List.map_nil]); first | done | rfl | (simp only [List.length_drop, List.length_take]; rfl)) ?_; (with_reducible refine (spec_l01Cur_once.calls g s0_0 t243 t244 3 true t246 t247 w0 _ ?side1 ?side2 A3.out).mono ?_); (case side1 => repeat (first | (with_reducible first | exact HI0.out | apply IsS79.alloc | apply IsS79.drewN | apply IsS79.drew | apply IsS79.set_1 | apply IsS79.set_2) | exact HI0.out)); (case side2 => repeat (first | (with_reducible first | exact HB.out | apply below_alloc | apply pw_below_drewN | apply below_drew1 | refine below_set ?_ (IsS79.ge HI0.out)) | exact HB.out)); rintro e w7 ⟨rfl, hi, hb, hk⟩; refine ⟨_, rfl, ?_⟩; have n0_ := Aside0.mk (KeepBut.trans (by repeat (first | (with_reducible first | exact HK.out | apply KeepBut.set_ | apply keep_drewN | apply keep_drew | apply keep_alloc) | exact HK.out)) hk (.inl rfl)); have n1_ := Aside0.mk (hb); have n2_ := Aside0.mk (hi); clear HK; clear HB; clear HI0; have HK := n0_; have HB := n1_; have HI0 := n2_; clear n0_ n1_ n2_; (try clear hb); (try clear hb2); (try clear hk); (try clear hi)) | ((with_reducible refine gate_callee (f := 80) rfl ?_); refine goesL_ (some 14) rfl rfl Try.func80 (by kernel_rfl) rfl #[.pointer (some ⟨g, 0, none⟩)] rfl (by (try simp only [List.map_toArray, List.map_cons, List.map_nil]); first | done | rfl | (simp only [List.length_drop, List.length_take]; rfl)) ?_; (with_reducible refine (spec_l01Cur_badWord.calls k g s0_0 t246 t247 t248 t249 t250 w0 _ ?side1 ?side2 A5.out).mono ?_); (case side1 => repeat (first | (with_reducible first | exact HI0.out | apply IsS79.alloc | apply IsS79.drewN | apply IsS79.drew | apply IsS79.set_1 | apply IsS79.set_2) | exact HI0.out)); (case side2 => repeat (first | (with_reducible first | exact HB.out | apply below_alloc | apply pw_below_drewN | apply below_drew1 | refine below_set ?_ (IsS79.ge HI0.out)) | exact HB.out)); rintro e w8 ⟨rfl, hi, hb, hk⟩; refine ⟨_, rfl, ?_⟩; have n0_ := Aside0.mk (KeepBut.trans (by repeat (first | (with_reducible first | exact HK.out | apply KeepBut.set_ | apply keep_drewN | apply keep_drew | apply keep_alloc) | exact HK.out)) hk (.inl rfl)); have n1_ := Aside0.mk (hb); have n2_ := Aside0.mk (hi); clear HK; clear HB; clear HI0; have HK := n0_; have HB := n1_; have HI0 := n2_; clear n0_ n1_ n2_; (try clear hb); (try clear hb2); (try clear hk); (try clear hi)))
  go_ret2
  exact ⟨by first | rfl | (simp [errW_none, errW_some] <;> rfl) | (simp [*, errW_none, errW_some] <;> rfl), by repeat (first | (with_reducible first | exact HI0.out | apply IsS79.alloc | apply IsS79.drewN | apply IsS79.drew | apply IsS79.set_1 | apply IsS79.set_2) | exact HI0.out), by repeat (first | (with_reducible first | exact HB.out | apply below_alloc | apply pw_below_drewN | apply below_drew1 | refine below_set ?_ (IsS79.ge HI0.out)) | exact HB.out), by repeat (first | (with_reducible first | exact HK.out | apply KeepBut.set_ | apply keep_drewN | apply keep_drew | apply keep_alloc) | exact HK.out)⟩
 ·replace c4 := Bool.eq_false_iff.mpr c4
  subst c4
  have H1 : ((spec_l01Cur_pick.f s0_0 t246 t247 4).bind fun bt251 => (spec_l01Cur_pair.l0 k t242 t242 bt251.1 s0_0 bt251.2.1 bt251.2.2)) = some (r1, r2, r3, r4) := by rw [if_neg (show ¬ (false = true) by decide)] at H; exact H
  clear H
  have H := H1
  clear H1
  replace H := Option.bind_eq_some_iff.mp H
  obtain ⟨⟨t251, t252, t253⟩, A90, H⟩ := H
  replace H : (spec_l01Cur_pair.l0 k t242 t242 t251 s0_0 t252 t253) = some (r1, r2, r3, r4) := H
  have A9 := Aside0.mk A90
  clear A90
  have H' := Aside0.mk H
  clear H
  go_enter Try.func69, Try.ntmps69
  go_wp2_with (first | ((with_reducible refine gate_callee (f := 80) rfl ?_); refine goesL_ (some 9) rfl rfl Try.func80 (by kernel_rfl) rfl #[.pointer (some ⟨g, 0, none⟩)] rfl (by (try simp only [List.map_toArray, List.map_cons, List.map_nil]); first | done | rfl | (simp only [List.length_drop, List.length_take]; rfl)) ?_; (with_reducible refine (spec_l01Cur_badWord.calls k g s0_0 s0_1 s0_2 t242 t243 t244 w0 _ ?side1 ?side2 A2.out).mono ?_); (case side1 => repeat (first | (with_reducible first | exact HI0.out | apply IsS79.alloc | apply IsS79.drewN | apply IsS79.drew | apply IsS79.set_1 | apply IsS79.set_2) | exact HI0.out)); (case side2 => repeat (first | (with_reducible first | exact HB.out | apply below_alloc | apply pw_below_drewN | apply below_drew1 | refine below_set ?_ (IsS79.ge HI0.out)) | exact HB.out)); rintro e w10 ⟨rfl, hi, hb, hk⟩; refine ⟨_, rfl, ?_⟩; have n0_ := Aside0.mk (KeepBut.trans (by repeat (first | (with_reducible first | exact HK.out | apply KeepBut.set_ | apply keep_drewN | apply keep_drew | apply keep_alloc) | exact HK.out)) hk (.inl rfl)); have n1_ := Aside0.mk (hb); have n2_ := Aside0.mk (hi); clear HK; clear HB; clear HI0; have HK := n0_; have HB := n1_; have HI0 := n2_; clear n0_ n1_ n2_; (try clear hb); (try clear hb2); (try clear hk); (try clear hi)) | ((with_reducible refine gate_callee (f := 53) rfl ?_); refine goesL_ (some 11) rfl rfl Try.func53 (by kernel_rfl) rfl #[.pointer (some ⟨g, 0, none⟩), .int .i64 3] rfl (by (try simp only [List.map_toArray, List.map_cons, List.map_nil]); first | done | rfl | (simp only [List.length_drop, List.length_take]; rfl)) ?_; (with_reducible refine (spec_l01Cur_once.calls g s0_0 t243 t244 3 false t246 t247 w0 _ ?side1 ?side2 A3.out).mono ?_); (case side1 => repeat (first | (with_reducible first | exact HI0.out | apply IsS79.alloc | apply IsS79.drewN | apply IsS79.drew | apply IsS79.set_1 | apply IsS79.set_2) | exact HI0.out)); (case side2 => repeat (first | (with_reducible first | exact HB.out | apply below_alloc | apply pw_below_drewN | apply below_drew1 | refine below_set ?_ (IsS79.ge HI0.out)) | exact HB.out)); rintro e w11 ⟨rfl, hi, hb, hk⟩; refine ⟨_, rfl, ?_⟩; have n0_ := Aside0.mk (KeepBut.trans (by repeat (first | (with_reducible first | exact HK.out | apply KeepBut.set_ | apply keep_drewN | apply keep_drew | apply keep_alloc) | exact HK.out)) hk (.inl rfl)); have n1_ := Aside0.mk (hb); have n2_ := Aside0.mk (hi); clear HK; clear HB; clear HI0; have HK := n0_; have HB := n1_; have HI0 := n2_; clear n0_ n1_ n2_; (try clear hb); (try clear hb2); (try clear hk); (try clear hi)) | ((with_reducible refine gate_callee (f := 52) rfl ?_); refine goesL_ (some 17) rfl rfl Try.func52 (by kernel_rfl) rfl #[.pointer (some ⟨g, 0, none⟩), .int .i64 4] rfl (by (try simp only [List.map_toArray, List.map_cons, List.map_nil]); first | done | rfl | (simp only [List.length_drop, List.length_take]; rfl)) ?_; (with_reducible refine (spec_l01Cur_pick.calls g s0_0 t246 t247 4 t251 t252 t253 w0 _ ?side1 ?side2 A9.out).mono ?_); (case side1 => repeat (first | (with_reducible first | exact HI0.out | apply IsS79.alloc | apply IsS79.drewN | apply IsS79.drew | apply IsS79.set_1 | apply IsS79.set_2) | exact HI0.out)); (case side2 => repeat (first | (with_reducible first | exact HB.out | apply below_alloc | apply pw_below_drewN | apply below_drew1 | refine below_set ?_ (IsS79.ge HI0.out)) | exact HB.out)); rintro e w12 ⟨rfl, hi, hb, hk⟩; refine ⟨_, rfl, ?_⟩; have n0_ := Aside0.mk (KeepBut.trans (by repeat (first | (with_reducible first | exact HK.out | apply KeepBut.set_ | apply keep_drewN | apply keep_drew | apply keep_alloc) | exact HK.out)) hk (.inl rfl)); have n1_ := Aside0.mk (hb); have n2_ := Aside0.mk (hi); clear HK; clear HB; clear HI0; have HK := n0_; have HB := n1_; have HI0 := n2_; clear n0_ n1_ n2_; (try clear hb); (try clear hb2); (try clear hk); (try clear hi)))
  go_loopg [5, 6] k (fun kq v5 v6 w' => ∃ (x5_1 : ByteArray) (x6_1 : Int) (x1001_1 : Int) (x1002_1 : Int), v5 = .string x5_1 ∧ v6 = .int .i64 x6_1 ∧ Aside0 (spec_l01Cur_pair.l0 kq t242 x5_1 x6_1 s0_0 x1001_1 x1002_1 = some (r1, r2, r3, r4)) ∧ Aside0 (kq ≤ k) ∧ Aside0 (IsS79 w0 w' g s0_0 x1001_1 x1002_1) ∧ Aside0 (KeepBut w w' g none) ∧ Aside0 (Below w0.heap.size w0 w'))
  case atStart => exact ⟨(t242), (t251), (t252), (t253), (by first | rfl | (simp; done) | (simp [*]; done)), (by first | rfl | (simp; done) | (simp [*]; done)), H', ⟨Nat.le_refl _⟩, ⟨by repeat (first | (with_reducible first | exact HI0.out | apply IsS79.alloc | apply IsS79.drewN | apply IsS79.drew | apply IsS79.set_1 | apply IsS79.set_2) | exact HI0.out)⟩, ⟨by repeat (first | (with_reducible first | exact HK.out | apply KeepBut.set_ | apply keep_drewN | apply keep_drew | apply keep_alloc) | exact HK.out)⟩, ⟨by repeat (first | (with_reducible first | exact HB.out | apply below_alloc | apply pw_below_drewN | apply below_drew1 | refine below_set ?_ (IsS79.ge HI0.out)) | exact HB.out)⟩⟩
  case round =>
   clear H'
   try clear p2
   try clear c4
   try clear c5
   try clear c6
   try clear c8
   obtain ⟨x5_1, x6_1, x1001_1, x1002_1, rfl, rfl, HA, HK1, HI0, HK, HB⟩ := hrel
   cases gk with
   | zero => exact absurd HA.out (by simp [spec_l01Cur_pair.l0])
   | succ k1 =>
    have H := HA.out
    clear HA
    simp only [spec_l01Cur_pair.l0] at H
    by_cases c13 : x6_1 > 0
    ·rw [if_pos c13] at H
     have c13b0 : decide (0 < x6_1) = true := decide_eq_true c13
     clear c13
     replace H := Option.bind_eq_some_iff.mp H
     obtain ⟨⟨t254, t255, t256⟩, A140, H⟩ := H
     replace H : (if 0 ≤ t254 then (if t254 ≤ (x5_1.size : Int) then ((some (([(⟨#[]⟩ : ByteArray), (⟨#[97]⟩ : ByteArray), (⟨#[98]⟩ : ByteArray), (⟨#[120]⟩ : ByteArray)] : List ByteArray) : List ByteArray)).bind fun y257 => ((spec_l01Cur_pick.f s0_0 t255 t256 4).bind fun bt260 => (if 0 ≤ bt260.1 then (if bt260.1 < (y257.length : Int) then (if (x5_1.extract 0 (t254 : Int).toNat).size + (rdOf ByteArray.empty y257 bt260.1).size ≤ 9223372036854775807 then ((spec_l01Cur_pick.f s0_0 bt260.2.1 bt260.2.2 2).bind fun bt264 => (if 0 ≤ (mn (x5_1.size : Int) (wrap64 (t254 + bt264.1))) then (if (mn (x5_1.size : Int) (wrap64 (t254 + bt264.1))) ≤ (x5_1.size : Int) then (if ((x5_1.extract 0 (t254 : Int).toNat) ++ (rdOf ByteArray.empty y257 bt260.1)).size + (x5_1.extract ((mn (x5_1.size : Int) (wrap64 (t254 + bt264.1))) : Int).toNat x5_1.size).size ≤ 9223372036854775807 then (spec_l01Cur_pair.l0 k1 t242 (((x5_1.extract 0 (t254 : Int).toNat) ++ (rdOf ByteArray.empty y257 bt260.1)) ++ (x5_1.extract ((mn (x5_1.size : Int) (wrap64 (t254 + bt264.1))) : Int).toNat x5_1.size)) (wrap64 (x6_1 - 1)) s0_0 bt264.2.1 bt264.2.2) else (none)) else (none)) else (none))) else (none)) else (none)) else (none)))) else (none)) else (none)) = some (r1, r2, r3, r4) := H
     have A14 := Aside0.mk A140
     clear A140
     by_cases c15 : 0 ≤ t254
     ·rw [if_pos c15] at H
      have c15b0 := eq_true c15
      have c15b1 : decide (0 ≤ t254) = true := decide_eq_true c15
      clear c15
      by_cases c16 : t254 ≤ (x5_1.size : Int)
      ·rw [if_pos c16] at H
       have c16b0 := eq_true c16
       have c16b1 : decide (t254 ≤ (x5_1.size : Int)) = true := decide_eq_true c16
       clear c16
       obtain ⟨y257, hy257⟩ : ∃ y_ : List ByteArray, y_ = (([(⟨#[]⟩ : ByteArray), (⟨#[97]⟩ : ByteArray), (⟨#[98]⟩ : ByteArray), (⟨#[120]⟩ : ByteArray)] : List ByteArray)) := ⟨_, rfl⟩
       replace H : ((spec_l01Cur_pick.f s0_0 t255 t256 4).bind fun bt260 => (if 0 ≤ bt260.1 then (if bt260.1 < (y257.length : Int) then (if (x5_1.extract 0 (t254 : Int).toNat).size + (rdOf ByteArray.empty y257 bt260.1).size ≤ 9223372036854775807 then ((spec_l01Cur_pick.f s0_0 bt260.2.1 bt260.2.2 2).bind fun bt264 => (if 0 ≤ (mn (x5_1.size : Int) (wrap64 (t254 + bt264.1))) then (if (mn (x5_1.size : Int) (wrap64 (t254 + bt264.1))) ≤ (x5_1.size : Int) then (if ((x5_1.extract 0 (t254 : Int).toNat) ++ (rdOf ByteArray.empty y257 bt260.1)).size + (x5_1.extract ((mn (x5_1.size : Int) (wrap64 (t254 + bt264.1))) : Int).toNat x5_1.size).size ≤ 9223372036854775807 then (spec_l01Cur_pair.l0 k1 t242 (((x5_1.extract 0 (t254 : Int).toNat) ++ (rdOf ByteArray.empty y257 bt260.1)) ++ (x5_1.extract ((mn (x5_1.size : Int) (wrap64 (t254 + bt264.1))) : Int).toNat x5_1.size)) (wrap64 (x6_1 - 1)) s0_0 bt264.2.1 bt264.2.2) else (none)) else (none)) else (none))) else (none)) else (none)) else (none))) = some (r1, r2, r3, r4) := by first | (rw [hy257]; with_reducible exact H) | (have H2_ := (Option.bind_some _ _).symm.trans H; rw [hy257]; with_reducible exact H2_) | (have H2_ := (Option.bind_some _ _).symm.trans H; with_reducible exact H2_) | with_reducible exact H | (rw [hy257]; exact H) | exact H
       have Ny257 := Aside0.mk hy257
       clear hy257
       replace H := Option.bind_eq_some_iff.mp H
       obtain ⟨⟨t260, t261, t262⟩, A170, H⟩ := H
       replace H : (if 0 ≤ t260 then (if t260 < (y257.length : Int) then (if (x5_1.extract 0 (t254 : Int).toNat).size + (rdOf ByteArray.empty y257 t260).size ≤ 9223372036854775807 then ((spec_l01Cur_pick.f s0_0 t261 t262 2).bind fun bt264 => (if 0 ≤ (mn (x5_1.size : Int) (wrap64 (t254 + bt264.1))) then (if (mn (x5_1.size : Int) (wrap64 (t254 + bt264.1))) ≤ (x5_1.size : Int) then (if ((x5_1.extract 0 (t254 : Int).toNat) ++ (rdOf ByteArray.empty y257 t260)).size + (x5_1.extract ((mn (x5_1.size : Int) (wrap64 (t254 + bt264.1))) : Int).toNat x5_1.size).size ≤ 9223372036854775807 then (spec_l01Cur_pair.l0 k1 t242 (((x5_1.extract 0 (t254 : Int).toNat) ++ (rdOf ByteArray.empty y257 t260)) ++ (x5_1.extract ((mn (x5_1.size : Int) (wrap64 (t254 + bt264.1))) : Int).toNat x5_1.size)) (wrap64 (x6_1 - 1)) s0_0 bt264.2.1 bt264.2.2) else (none)) else (none)) else (none))) else (none)) else (none)) else (none)) = some (r1, r2, r3, r4) := H
       have A17 := Aside0.mk A170
       clear A170
       by_cases c18 : 0 ≤ t260
       ·rw [if_pos c18] at H
        have c18b0 : decide (0 ≤ t260) = true := decide_eq_true c18
        clear c18
        by_cases c19 : t260 < (y257.length : Int)
        ·rw [if_pos c19] at H
         have c19b0 : decide (t260 < (y257.length : Int)) = true := decide_eq_true c19
         clear c19
         by_cases c20 : (x5_1.extract 0 (t254 : Int).toNat).size + (rdOf ByteArray.empty y257 t260).size ≤ 9223372036854775807
         ·rw [if_pos c20] at H
          have c20b0 := eq_true c20
          have c20b1 : decide ((x5_1.extract 0 (t254 : Int).toNat).size + (rdOf ByteArray.empty y257 t260).size ≤ 9223372036854775807) = true := decide_eq_true c20
          try have c20b2 : (9223372036854775807 < (x5_1.extract 0 (t254 : Int).toNat).size + (rdOf ByteArray.empty y257 t260).size) = False := eq_false (Nat.not_lt.2 c20)
          replace H := Option.bind_eq_some_iff.mp H
          obtain ⟨⟨t264, t265, t266⟩, A210, H⟩ := H
          replace H : (if 0 ≤ (mn (x5_1.size : Int) (wrap64 (t254 + t264))) then (if (mn (x5_1.size : Int) (wrap64 (t254 + t264))) ≤ (x5_1.size : Int) then (if ((x5_1.extract 0 (t254 : Int).toNat) ++ (rdOf ByteArray.empty y257 t260)).size + (x5_1.extract ((mn (x5_1.size : Int) (wrap64 (t254 + t264))) : Int).toNat x5_1.size).size ≤ 9223372036854775807 then (spec_l01Cur_pair.l0 k1 t242 (((x5_1.extract 0 (t254 : Int).toNat) ++ (rdOf ByteArray.empty y257 t260)) ++ (x5_1.extract ((mn (x5_1.size : Int) (wrap64 (t254 + t264))) : Int).toNat x5_1.size)) (wrap64 (x6_1 - 1)) s0_0 t265 t266) else (none)) else (none)) else (none)) = some (r1, r2, r3, r4) := H
          have A21 := Aside0.mk A210
          clear A210
          obtain ⟨ji22, hji22⟩ : ∃ j_ : Int, (mn (x5_1.size : Int) (wrap64 (t254 + t264))) = j_ := ⟨_, rfl⟩
          replace H : (if 0 ≤ (ji22) then (if (ji22) ≤ (x5_1.size : Int) then (if ((x5_1.extract 0 (t254 : Int).toNat) ++ (rdOf ByteArray.empty y257 t260)).size + (x5_1.extract ((ji22) : Int).toNat x5_1.size).size ≤ 9223372036854775807 then (spec_l01Cur_pair.l0 k1 t242 (((x5_1.extract 0 (t254 : Int).toNat) ++ (rdOf ByteArray.empty y257 t260)) ++ (x5_1.extract ((ji22) : Int).toNat x5_1.size)) (wrap64 (x6_1 - 1)) s0_0 t265 t266) else (none)) else (none)) else (none)) = some (r1, r2, r3, r4) := by first | (rw [hji22] at H; exact H) | (simp only [hji22] at H ⊢; exact H)
          (try rw [hji22] at A14)
          (try rw [hji22] at A17)
          (try rw [hji22] at A21)
          have hji22_ : (if (wrap64 (t254 + t264)) < (x5_1.size : Int) then (wrap64 (t254 + t264)) else (x5_1.size : Int)) = ji22 := hji22
          by_cases c23 : 0 ≤ (ji22)
          ·rw [if_pos c23] at H
           have c23b0 := eq_true c23
           have c23b1 : decide (0 ≤ (ji22)) = true := decide_eq_true c23
           clear c23
           by_cases c24 : (ji22) ≤ (x5_1.size : Int)
           ·rw [if_pos c24] at H
            have c24b0 := eq_true c24
            have c24b1 : decide ((ji22) ≤ (x5_1.size : Int)) = true := decide_eq_true c24
            clear c24
            by_cases c25 : ((x5_1.extract 0 (t254 : Int).toNat) ++ (rdOf ByteArray.empty y257 t260)).size + (x5_1.extract ((ji22) : Int).toNat x5_1.size).size ≤ 9223372036854775807
            ·rw [if_pos c25] at H
             have c25b0 := eq_true c25
             have c25b1 : decide (((x5_1.extract 0 (t254 : Int).toNat) ++ (rdOf ByteArray.empty y257 t260)).size + (x5_1.extract ((ji22) : Int).toNat x5_1.size).size ≤ 9223372036854775807) = true := decide_eq_true c25
             try have c25b2 : (9223372036854775807 < ((x5_1.extract 0 (t254 : Int).toNat) ++ (rdOf ByteArray.empty y257 t260)).size + (x5_1.extract ((ji22) : Int).toNat x5_1.size).size) = False := eq_false (Nat.not_lt.2 c25)
             have H' := Aside0.mk H
             clear H
             try go_wp2_with (first | ((with_reducible refine gate_callee (f := 52) rfl ?_); refine goesL_ (some 26) rfl rfl Try.func52 (by kernel_rfl) rfl #[.pointer (some ⟨g, 0, none⟩), .int .i64 (wrap64 ((x5_1.size : Int) + 1))] rfl (by (try simp only [List.map_toArray, List.map_cons, List.map_nil]); first | done | rfl | (simp only [List.length_drop, List.length_take]; rfl)) ?_; (with_reducible refine (spec_l01Cur_pick.calls g s0_0 x1001_1 x1002_1 (wrap64 ((x5_1.size : Int) + 1)) t254 t255 t256 w0 _ ?side1 ?side2 A14.out).mono ?_); (case side1 => repeat (first | (with_reducible first | exact HI0.out | apply IsS79.alloc | apply IsS79.drewN | apply IsS79.drew | apply IsS79.set_1 | apply IsS79.set_2) | exact HI0.out)); (case side2 => repeat (first | (with_reducible first | exact HB.out | apply below_alloc | apply pw_below_drewN | apply below_drew1 | refine below_set ?_ (IsS79.ge HI0.out)) | exact HB.out)); rintro e w26 ⟨rfl, hi, hb, hk⟩; refine ⟨_, rfl, ?_⟩; have n0_ := Aside0.mk (KeepBut.trans (by repeat (first | (with_reducible first | exact HK.out | apply KeepBut.set_ | apply keep_drewN | apply keep_drew | apply keep_alloc) | exact HK.out)) hk (.inl rfl)); have n1_ := Aside0.mk (hb); have n2_ := Aside0.mk (hi); clear HK; clear HB; clear HI0; have HK := n0_; have HB := n1_; have HI0 := n2_; clear n0_ n1_ n2_; (try clear hb); (try clear hb2); (try clear hk); (try clear hi)))
             have pi263 : (0 ≤ (t260 : Int)) = True := eq_true (of_decide_eq_true (by first | (with_reducible assumption) | assumption))
             have qi263 : (t260 < (y257.length : Int)) = True := eq_true (of_decide_eq_true (by first | (with_reducible assumption) | assumption))
             have n0_ := Aside0.mk (IsS79.drew HI0.out)
             have n1_ := Aside0.mk (keep_drew HK.out)
             have n2_ := Aside0.mk (below_drew1 HB.out)
             clear HI0
             clear HK
             clear HB
             have HI0 := n0_
             have HK := n1_
             have HB := n2_
             clear n0_ n1_ n2_
             refine start_ (n := 20) (S := fun w' => True) (ds := []) #[false, false, false, false, false, false, false, false, false, false, false, false, false, false, false, false, false, false, false, false] (by kernel_rfl) rfl rfl trivial (fun hHeld => ?_); refine with_tabW spec_l01Cur_pair.tab9 spec_l01Cur_pair.bits9 (fun HT_ HW_ => ?_)
             generalize w26.drew = w27 at HI0 HK HB hHeld ⊢
             refine pure_ (i := 0) (N := some 27) (v := ?_) (a' := ?_) #[true, false, false, false, false, false, false, false, false, false, false, false, false, false, false, false, false, false, false, false] rfl rfl (any_of HT_.out (by kernel_rfl)) (fun _ _ _ h => h) (Or.inl ⟨by rfl, ?_⟩) ?_ ?_
             rotate_left
             ·intro w'
              go_simp
              with_reducible rfl
             rotate_left
             ·simp only [Act.put, List.setIfInBounds_toArray, List.set_cons_zero, List.set_cons_succ, i64_w, i32_w]
              rfl
             refine pure_ (i := 1) (N := some 28) (v := ?_) (a' := ?_) #[true, true, false, false, false, false, false, false, false, false, false, false, false, false, false, false, false, false, false, false] rfl rfl (any_of HT_.out (by kernel_rfl)) (fun _ _ _ h => h) (Or.inl ⟨by rfl, ?_⟩) ?_ ?_
             rotate_left
             ·intro w'
              go_simp
              with_reducible rfl
             rotate_left
             ·simp only [Act.put, List.setIfInBounds_toArray, List.set_cons_zero, List.set_cons_succ, i64_w, i32_w]
              rfl
             refine pure_ (i := 4) (N := some 31) (v := ?_) (a' := ?_) #[true, true, false, false, true, false, false, false, false, false, false, false, false, false, false, false, false, false, false, false] rfl rfl (any_of HT_.out (by kernel_rfl)) (fun _ _ _ h => h) (Or.inl ⟨by rfl, ?_⟩) ?_ ?_
             rotate_left
             ·intro w'
              go_simp
              with_reducible rfl
             rotate_left
             ·simp only [Act.put, List.setIfInBounds_toArray, List.set_cons_zero, List.set_cons_succ, i64_w, i32_w]
              rfl
             refine pure_ (i := 9) (N := some 36) (v := ?_) (a' := ?_) #[true, true, false, false, true, false, false, false, false, true, false, false, false, false, false, false, false, false, false, false] rfl rfl (any_of HT_.out (by kernel_rfl)) (fun _ _ _ h => h) (Or.inl ⟨by rfl, ?_⟩) ?_ ?_
             rotate_left
             ·intro w'
              go_simp
              with_reducible rfl
             rotate_left
             ·simp only [Act.put, List.setIfInBounds_toArray, List.set_cons_zero, List.set_cons_succ, i64_w, i32_w]
              rfl
             refine pure_ (i := 10) (N := some 37) (v := ?_) (a' := ?_) #[true, true, false, false, true, false, false, false, false, true, true, false, false, false, false, false, false, false, false, false] rfl rfl (any_of HT_.out (by kernel_rfl)) (fun _ _ _ h => h) (Or.inl ⟨by rfl, ?_⟩) ?_ ?_
             rotate_left
             ·intro w'
              go_simp
              with_reducible rfl
             rotate_left
             ·simp only [Act.put, List.setIfInBounds_toArray, List.set_cons_zero, List.set_cons_succ, i64_w, i32_w]
              rfl
             refine pure_ (i := 12) (N := some 39) (v := ?_) (a' := ?_) #[true, true, false, false, true, false, false, false, false, true, true, false, true, false, false, false, false, false, false, false] rfl rfl (any_of HT_.out (by kernel_rfl)) (fun _ _ _ h => h) (Or.inl ⟨by rfl, ?_⟩) ?_ ?_
             rotate_left
             ·intro w'
              go_simp
              with_reducible rfl
             rotate_left
             ·simp only [Act.put, List.setIfInBounds_toArray, List.set_cons_zero, List.set_cons_succ, i64_w, i32_w]
              rfl
             refine pure_ (i := 13) (N := some 40) (v := ?_) (a' := ?_) #[true, true, false, false, true, false, false, false, false, true, true, false, true, true, false, false, false, false, false, false] rfl rfl (any_of HT_.out (by kernel_rfl)) (fun _ _ _ h => h) (Or.inl ⟨by rfl, ?_⟩) ?_ ?_
             rotate_left
             ·intro w'
              go_simp
              with_reducible rfl
             rotate_left
             ·simp only [Act.put, List.setIfInBounds_toArray, List.set_cons_zero, List.set_cons_succ, i64_w, i32_w]
              rfl
             refine inv_at [2, 3, 5, 6, 7, 8, 11, 14, 15, 16, 17, 18, 19] (fun a0_ b a w' => ∃ (v258 : Value) (adz_v258 : Addr) (m6_ : Value), a = putSel a0_ b [(2, 29, .string (x5_1.extract 0 (t254 : Int).toNat)), (3, 30, v258), (5, 32, .int .i64 t260), (6, 33, m6_), (7, 34, .string (rdOf ByteArray.empty y257 t260)), (8, 35, .string ((x5_1.extract 0 (t254 : Int).toNat) ++ (rdOf ByteArray.empty y257 t260))), (11, 38, .int .i64 (x5_1.size : Int)), (14, 41, .int .i64 t264), (15, 42, .int .i64 (wrap64 (t254 + t264))), (16, 43, .int .i64 ji22), (17, 44, .string (x5_1.extract ((ji22) : Int).toNat x5_1.size)), (18, 45, .string (((x5_1.extract 0 (t254 : Int).toNat) ++ (rdOf ByteArray.empty y257 t260)) ++ (x5_1.extract ((ji22) : Int).toNat x5_1.size))), (19, 5, .string (((x5_1.extract 0 (t254 : Int).toNat) ++ (rdOf ByteArray.empty y257 t260)) ++ (x5_1.extract ((ji22) : Int).toNat x5_1.size)))] ∧ (b 5 = false → IsS79 w0 w' g s0_0 t255 t256) ∧ (KeepBut w w' g none) ∧ (Below w0.heap.size w0 w') ∧ (b 3 = true → Kd.R Kd.string 9 w' w.heap.size (fun _ => True) v258 y257) ∧ (b 3 = true → ∃ c_, (v258 : Value) = .slice (some adz_v258) y257.length c_) ∧ (b 5 = true → b 14 = false → IsS79 w0 w' g s0_0 t261 t262) ∧ (b 14 = true → IsS79 w0 w' g s0_0 t265 t266) ∧ (b 6 = true → (m6_ : Value) = .pointer (some (adz_v258.add (t260).toNat)))) HT_.out HW_.out (by kernel_rfl) (by kernel_rfl) ?_ ?_ ?_
             ·exact ⟨.bool false, ⟨0, 0, none⟩, .bool false, by simp only [putSel, Bool.false_eq_true, if_false], fun _ => HI0.out, HK.out, HB.out, fun h_ => absurd h_ (by decide), fun h_ => absurd h_ (by decide), fun h_ => absurd h_ (by decide), fun h_ => absurd h_ (by decide), fun h_ => absurd h_ (by decide)⟩
             ·skip
              clear HB HI0 HK
              refine steps_cons ?_ ?_
              ·rintro b a w' ⟨v258, adz_v258, m6_, ha, Q_HI0, Q_HK, Q_HB, Q_HO259, Q_HA_HO259, Q_HI0_e5, Q_HI0_e14, Q_X6_⟩ hb_ hon hoff
               refine ⟨_, rfl, fun K hK => ?_⟩
               have e27 : a.tmps[27]? = some (.string x5_1) := by rw [ha]; exact (putSel_off rfl).trans rfl
               have e28 : a.tmps[28]? = some (.int .i64 t254) := by rw [ha]; exact (putSel_off rfl).trans rfl
               replace ha := Aside0.mk ha
               have HK := Aside0.mk Q_HK
               have HB := Aside0.mk Q_HB
               refine value_ (w1 := w') (v := .string (x5_1.extract 0 (t254 : Int).toNat)) (by rfl) rfl ?_ ?_
               ·go_simp
                (try simp only [i64_w])
                try rfl
               refine hK.out _ _ ⟨v258, adz_v258, m6_, (by rw [ha.out]; exact putSel_upk 0 hb_ rfl rfl rfl), Q_HI0, Q_HK, Q_HB, Q_HO259, Q_HA_HO259, Q_HI0_e5, Q_HI0_e14, Q_X6_⟩
              refine steps_cons ?_ ?_
              ·rintro b a w' ⟨v258, adz_v258, m6_, ha, Q_HI0, Q_HK, Q_HB, Q_HO259, Q_HA_HO259, Q_HI0_e5, Q_HI0_e14, Q_X6_⟩ hb_ hon hoff
               refine ⟨_, rfl, fun K hK => ?_⟩
               replace ha := Aside0.mk ha
               have HK := Aside0.mk Q_HK
               have HB := Aside0.mk Q_HB
               refine Kd.R_lit_step Kd.string _ 9 ?hg (N := 30) ?hd (xs := ([(⟨#[]⟩ : ByteArray), (⟨#[97]⟩ : ByteArray), (⟨#[98]⟩ : ByteArray), (⟨#[120]⟩ : ByteArray)] : List ByteArray)) (inner := [.string (⟨#[]⟩ : ByteArray), .string (⟨#[97]⟩ : ByteArray), .string (⟨#[98]⟩ : ByteArray), .string (⟨#[120]⟩ : ByteArray)]) (ok := fun _ => True) (okp := fun _ => True) ?hr ?hp (fun _ hk => hk) trivial (Below.refl _ _) (Nat.le_refl _) (by simp) ?_; (case hd => rfl); (case hg => rfl); (case hr => first | (go_simp; done) | (go_simp; rfl)); (case hp => exact (Reps.one (show Kd.M Kd.string _ _ _ (⟨#[]⟩ : ByteArray) [.string (⟨#[]⟩ : ByteArray)] from rfl) (Reps.one (show Kd.M Kd.string _ _ _ (⟨#[97]⟩ : ByteArray) [.string (⟨#[97]⟩ : ByteArray)] from rfl) (Reps.one (show Kd.M Kd.string _ _ _ (⟨#[98]⟩ : ByteArray) [.string (⟨#[98]⟩ : ByteArray)] from rfl) (Reps.one (show Kd.M Kd.string _ _ _ (⟨#[120]⟩ : ByteArray) [.string (⟨#[120]⟩ : ByteArray)] from rfl) (Reps.none _ _))))))
               intro v258 w28 ho29 hb hg_ hnew_
               clear hg_ hnew_
               (first | rw [← Ny257.out] at ho29 | (simp only [Int.reduceToNat] at ho29; rw [← Ny257.out] at ho29))
               have n0_ := Aside0.mk (Kd.R_lower ho29 (keep_size (w := w) (g := g) (row := none) (by repeat (first | (with_reducible first | exact HK.out | apply KeepBut.set_ | apply keep_drewN | apply keep_drew | apply keep_alloc) | exact HK.out))))
               have n2_ := Aside0.mk (KeepBut.trans (by repeat (first | (with_reducible first | exact HK.out | apply KeepBut.set_ | apply keep_drewN | apply keep_drew | apply keep_alloc) | exact HK.out)) (KeepBut.of_below hb g none) (.inl rfl))
               have n3_ := Aside0.mk (below_step (by repeat (first | (with_reducible first | exact HB.out | apply below_alloc | apply pw_below_drewN | apply below_drew1) | exact HB.out)) hb)
               have z_HI0 := fun (h0_ : b 5 = false) => (show IsS79 w0 w28 g s0_0 t255 t256 from by first | exact (IsS79.below (by repeat (first | (with_reducible first | exact (Q_HI0 h0_) | apply IsS79.alloc | apply IsS79.drewN | apply IsS79.drew | apply IsS79.set_1 | apply IsS79.set_2) | exact (Q_HI0 h0_))) hb))
               have z_HI0_e5 := fun (h0_ : b 5 = true) (h1_ : b 14 = false) => (show IsS79 w0 w28 g s0_0 t261 t262 from by first | exact (IsS79.below (by repeat (first | (with_reducible first | exact (Q_HI0_e5 h0_ h1_) | apply IsS79.alloc | apply IsS79.drewN | apply IsS79.drew | apply IsS79.set_1 | apply IsS79.set_2) | exact (Q_HI0_e5 h0_ h1_))) hb))
               have z_HI0_e14 := fun (h0_ : b 14 = true) => (show IsS79 w0 w28 g s0_0 t265 t266 from by first | exact (IsS79.below (by repeat (first | (with_reducible first | exact (Q_HI0_e14 h0_) | apply IsS79.alloc | apply IsS79.drewN | apply IsS79.drew | apply IsS79.set_1 | apply IsS79.set_2) | exact (Q_HI0_e14 h0_))) hb))
               clear HK
               clear HB
               have HO259 := n0_
               have HK := n2_
               have HB := n3_
               clear n0_ n2_ n3_
               clear hb ho29
               obtain ⟨Ao30, co30, eo30⟩ := Kd.R_slice HO259.out
               subst eo30
               obtain ⟨ado30, fo30, _⟩ := Kd.at_string (Kd.R_reads' HO259.out).2.2 0 (by decide) (by rw [Ny257.out]; simp)
               cases fo30
               refine hK.out _ _ ⟨.slice (some ado30) y257.length co30, ado30, m6_, (by rw [ha.out]; exact putSel_upk 1 hb_ rfl rfl rfl), z_HI0, (by repeat (first | (with_reducible first | exact HK.out | apply KeepBut.set_ | apply keep_drewN | apply keep_drew | apply keep_alloc) | exact HK.out)), (by repeat (first | (with_reducible first | exact HB.out | apply below_alloc | apply pw_below_drewN | apply below_drew1) | exact HB.out)), fun _ => (by (with_reducible repeat (first | apply Kd.R_alloc | apply Kd.R_drewN | apply Kd.R_drew)); exact HO259.out), fun _ => ⟨_, rfl⟩, z_HI0_e5, z_HI0_e14, fun h0_ => absurd ((hoff 6 (by kernel_rfl)).symm.trans h0_) (by decide)⟩
              refine steps_cons ?_ ?_
              ·rintro b a w' ⟨v258, adz_v258, m6_, ha, Q_HI0, Q_HK, Q_HB, Q_HO259, Q_HA_HO259, Q_HI0_e5, Q_HI0_e14, Q_X6_⟩ hb_ hon hoff
               refine ⟨_, rfl, fun K hK => ?_⟩
               have e31 : a.tmps[31]? = some (.pointer (some ⟨g, 0, none⟩)) := by rw [ha]; exact (putSel_off rfl).trans rfl
               replace ha := Aside0.mk ha
               have HI0 := Aside0.mk (Q_HI0 hb_)
               have HK := Aside0.mk Q_HK
               have HB := Aside0.mk Q_HB
               refine goes_ Try.func52 (by kernel_rfl) rfl #[.pointer (some ⟨g, 0, none⟩), .int .i64 4] (by rfl) rfl rfl (by first | (simp only [List.map_toArray, List.map_cons, List.map_nil, Act.eval, Array.getD_eq_getD_getElem?, Option.getD_some, e31]; done) | (simp only [List.map_toArray, List.map_cons, List.map_nil, Act.eval, Array.getD_eq_getD_getElem?, Option.getD_some, e31]; rfl)) ?_
               with_reducible refine (spec_l01Cur_pick.calls g s0_0 t255 t256 4 t260 t261 t262 w0 _ ?side1 ?side2 A17.out).mono ?_
               (case side1 => repeat (first | (with_reducible first | exact HI0.out | apply IsS79.alloc | apply IsS79.drewN | apply IsS79.drew | apply IsS79.set_1 | apply IsS79.set_2) | exact HI0.out))
               (case side2 => repeat (first | (with_reducible first | exact HB.out | apply below_alloc | apply pw_below_drewN | apply below_drew1 | refine below_set ?_ (IsS79.ge HI0.out)) | exact HB.out))
               rintro e w28 ⟨rfl, hi, hb, hk⟩
               refine ⟨_, rfl, ?_⟩
               have n0_ := Aside0.mk (KeepBut.trans (by repeat (first | (with_reducible first | exact HK.out | apply KeepBut.set_ | apply keep_drewN | apply keep_drew | apply keep_alloc) | exact HK.out)) hk (.inl rfl))
               have n1_ := Aside0.mk (hb)
               have n2_ := Aside0.mk (hi)
               have z_HO259 := fun (h0_ : b 3 = true) => (show Kd.R Kd.string 9 w28 w.heap.size (fun _ => True) v258 y257 from by first | exact (Kd.R_mono (Kd.R_keep (IsS79.apart (show IsS79 w0 _ g s0_0 t255 t256 from by repeat (first | (with_reducible first | exact HI0.out | apply IsS79.alloc | apply IsS79.drewN | apply IsS79.drew | apply IsS79.set_1 | apply IsS79.set_2) | exact HI0.out)) (by (with_reducible repeat (first | apply Kd.R_alloc | apply Kd.R_drewN | apply Kd.R_drew)); exact (Q_HO259 h0_)) (by decide)) hk (fun _ h => h.2)) (fun _ h => h.1)) | exact Kd.R_mono (Kd.R_mono (Kd.R_keep (IsS79.apart (show IsS79 w0 _ g s0_0 t255 t256 from by repeat (first | (with_reducible first | exact HI0.out | apply IsS79.alloc | apply IsS79.drewN | apply IsS79.drew | apply IsS79.set_1 | apply IsS79.set_2) | exact HI0.out)) (by (with_reducible repeat (first | apply Kd.R_alloc | apply Kd.R_drewN | apply Kd.R_drew)); exact (Q_HO259 h0_)) (by decide)) hk (fun _ h => h.2)) (fun _ h => h.1)) (fun _ h_ => by first | trivial | exact h_ | exact h_.1))
               clear HK
               clear HB
               clear HI0
               have HK := n0_
               have HB := n1_
               have HI0 := n2_
               clear n0_ n1_ n2_
               (try clear hb)
               (try clear hb2)
               (try clear hk)
               (try clear hi)
               refine hK.out _ _ ⟨v258, adz_v258, m6_, (by rw [ha.out]; exact putSel_upk 2 hb_ rfl rfl rfl), fun h0_ => absurd ((up_self b 5).symm.trans h0_) (by decide), (by repeat (first | (with_reducible first | exact HK.out | apply KeepBut.set_ | apply keep_drewN | apply keep_drew | apply keep_alloc) | exact HK.out)), (by repeat (first | (with_reducible first | exact HB.out | apply below_alloc | apply pw_below_drewN | apply below_drew1 | refine below_set ?_ (IsS79.ge HI0.out)) | exact HB.out)), z_HO259, Q_HA_HO259, fun _ _ => (by repeat (first | (with_reducible first | exact HI0.out | apply IsS79.alloc | apply IsS79.drewN | apply IsS79.drew | apply IsS79.set_1 | apply IsS79.set_2) | exact HI0.out)), fun h0_ => absurd ((hoff 14 (by kernel_rfl)).symm.trans h0_) (by decide), fun h0_ => absurd ((hoff 6 (by kernel_rfl)).symm.trans h0_) (by decide)⟩
              refine steps_cons ?_ ?_
              ·rintro b a w' ⟨v258, adz_v258, m6_, ha, Q_HI0, Q_HK, Q_HB, Q_HO259, Q_HA_HO259, Q_HI0_e5, Q_HI0_e14, Q_X6_⟩ hb_ hon hoff
               refine ⟨_, rfl, fun K hK => ?_⟩
               have e30 : a.tmps[30]? = some (v258) := by rw [ha]; exact putSel_on (e := (3, 30, v258)) 1 rfl rfl (hon 3 (by kernel_rfl)) rfl
               have e32 : a.tmps[32]? = some (.int .i64 t260) := by rw [ha]; exact putSel_on (e := (5, 32, .int .i64 t260)) 2 rfl rfl (hon 5 (by kernel_rfl)) rfl
               replace ha := Aside0.mk ha
               have HK := Aside0.mk Q_HK
               have HB := Aside0.mk Q_HB
               have HO259 := Aside0.mk (Q_HO259 (hon 3 (by kernel_rfl)))
               have HA_HO259 := Aside0.mk (Q_HA_HO259 (hon 3 (by kernel_rfl)))
               obtain ⟨c_, hv_⟩ := HA_HO259.out
               rw [hv_] at e30
               refine value_ (w1 := w') (v := .pointer (some (adz_v258.add (t260).toNat))) (by rfl) rfl ?_ ?_
               ·go_simp
                (try simp only [i64_w])
                try rfl
               refine hK.out _ _ ⟨v258, adz_v258, (.pointer (some (adz_v258.add (t260).toNat))), (by rw [ha.out]; exact putSel_upk 3 hb_ rfl rfl rfl), fun h0_ => absurd ((hon 5 (by kernel_rfl)).symm.trans h0_) (by decide), Q_HK, Q_HB, Q_HO259, Q_HA_HO259, Q_HI0_e5, Q_HI0_e14, fun _ => rfl⟩
              refine steps_cons ?_ ?_
              ·rintro b a w' ⟨v258, adz_v258, m6_, ha, Q_HI0, Q_HK, Q_HB, Q_HO259, Q_HA_HO259, Q_HI0_e5, Q_HI0_e14, Q_X6_⟩ hb_ hon hoff
               refine ⟨_, rfl, fun K hK => ?_⟩
               have e33 : a.tmps[33]? = some (m6_) := by rw [ha]; exact putSel_on (e := (6, 33, m6_)) 3 rfl rfl (hon 6 (by kernel_rfl)) rfl
               rw [Q_X6_ (hon 6 (by kernel_rfl))] at e33
               replace ha := Aside0.mk ha
               have HK := Aside0.mk Q_HK
               have HB := Aside0.mk Q_HB
               have HO259 := Aside0.mk (Q_HO259 (hon 3 (by kernel_rfl)))
               have HA_HO259 := Aside0.mk (Q_HA_HO259 (hon 3 (by kernel_rfl)))
               obtain ⟨c_, hv_⟩ := HA_HO259.out
               have hF_ := HO259.out
               rw [hv_] at hF_
               obtain ⟨ad_, ea_, hx_⟩ := Kd.at_string (Kd.R_reads' hF_).2.2 t260 (of_eq_true pi263) (of_eq_true qi263)
               cases ea_
               refine value_ (w1 := w') (v := .string (rdOf ByteArray.empty y257 t260)) (by rfl) rfl ?_ ?_
               ·go_simp
                (try simp only [i64_w])
                try rfl
               refine hK.out _ _ ⟨v258, adz_v258, m6_, (by rw [ha.out]; exact putSel_upk 4 hb_ rfl rfl rfl), fun h0_ => absurd ((hon 5 (by kernel_rfl)).symm.trans h0_) (by decide), Q_HK, Q_HB, Q_HO259, Q_HA_HO259, Q_HI0_e5, Q_HI0_e14, Q_X6_⟩
              refine steps_cons ?_ ?_
              ·rintro b a w' ⟨v258, adz_v258, m6_, ha, Q_HI0, Q_HK, Q_HB, Q_HO259, Q_HA_HO259, Q_HI0_e5, Q_HI0_e14, Q_X6_⟩ hb_ hon hoff
               refine ⟨_, rfl, fun K hK => ?_⟩
               have e29 : a.tmps[29]? = some (.string (x5_1.extract 0 (t254 : Int).toNat)) := by rw [ha]; exact putSel_on (e := (2, 29, .string (x5_1.extract 0 (t254 : Int).toNat))) 0 rfl rfl (hon 2 (by kernel_rfl)) rfl
               have e34 : a.tmps[34]? = some (.string (rdOf ByteArray.empty y257 t260)) := by rw [ha]; exact putSel_on (e := (7, 34, .string (rdOf ByteArray.empty y257 t260))) 4 rfl rfl (hon 7 (by kernel_rfl)) rfl
               replace ha := Aside0.mk ha
               have HK := Aside0.mk Q_HK
               have HB := Aside0.mk Q_HB
               have HO259 := Aside0.mk (Q_HO259 (hon 3 (by kernel_rfl)))
               have HA_HO259 := Aside0.mk (Q_HA_HO259 (hon 3 (by kernel_rfl)))
               refine value_ (w1 := w') (v := .string ((x5_1.extract 0 (t254 : Int).toNat) ++ (rdOf ByteArray.empty y257 t260))) (by rfl) rfl ?_ ?_
               ·go_simp
                all_goals (try (have z1_ := c20; have y0_ := of_eq_true c15b0; have y1_ := of_eq_true c16b0; have y2_ := of_eq_true c23b0; have y3_ := of_eq_true c24b0; simp only [ByteArray.size_append, ByteArray.size_extract] at z1_; omega))
                all_goals (try (have z1_ := c25; have y0_ := of_eq_true c15b0; have y1_ := of_eq_true c16b0; have y2_ := of_eq_true c23b0; have y3_ := of_eq_true c24b0; simp only [ByteArray.size_append, ByteArray.size_extract] at z1_; omega))
                (try simp only [i64_w])
                try rfl
               refine hK.out _ _ ⟨v258, adz_v258, m6_, (by rw [ha.out]; exact putSel_upk 5 hb_ rfl rfl rfl), fun h0_ => absurd ((hon 5 (by kernel_rfl)).symm.trans h0_) (by decide), Q_HK, Q_HB, Q_HO259, Q_HA_HO259, Q_HI0_e5, Q_HI0_e14, Q_X6_⟩
              refine steps_cons ?_ ?_
              ·rintro b a w' ⟨v258, adz_v258, m6_, ha, Q_HI0, Q_HK, Q_HB, Q_HO259, Q_HA_HO259, Q_HI0_e5, Q_HI0_e14, Q_X6_⟩ hb_ hon hoff
               refine ⟨_, rfl, fun K hK => ?_⟩
               have e37 : a.tmps[37]? = some (.string x5_1) := by rw [ha]; exact (putSel_off rfl).trans rfl
               replace ha := Aside0.mk ha
               have HK := Aside0.mk Q_HK
               have HB := Aside0.mk Q_HB
               refine value_ (w1 := w') (v := .int .i64 (x5_1.size : Int)) (by rfl) rfl ?_ ?_
               ·go_simp
                (try simp only [i64_w])
                try rfl
               refine hK.out _ _ ⟨v258, adz_v258, m6_, (by rw [ha.out]; exact putSel_upk 6 hb_ rfl rfl rfl), Q_HI0, Q_HK, Q_HB, Q_HO259, Q_HA_HO259, Q_HI0_e5, Q_HI0_e14, Q_X6_⟩
              refine steps_cons ?_ ?_
              ·rintro b a w' ⟨v258, adz_v258, m6_, ha, Q_HI0, Q_HK, Q_HB, Q_HO259, Q_HA_HO259, Q_HI0_e5, Q_HI0_e14, Q_X6_⟩ hb_ hon hoff
               refine ⟨_, rfl, fun K hK => ?_⟩
               have e40 : a.tmps[40]? = some (.pointer (some ⟨g, 0, none⟩)) := by rw [ha]; exact (putSel_off rfl).trans rfl
               replace ha := Aside0.mk ha
               have HK := Aside0.mk Q_HK
               have HB := Aside0.mk Q_HB
               have HI0 := Aside0.mk (Q_HI0_e5 (hon 5 (by kernel_rfl)) hb_)
               refine goes_ Try.func52 (by kernel_rfl) rfl #[.pointer (some ⟨g, 0, none⟩), .int .i64 2] (by rfl) rfl rfl (by first | (simp only [List.map_toArray, List.map_cons, List.map_nil, Act.eval, Array.getD_eq_getD_getElem?, Option.getD_some, e40]; done) | (simp only [List.map_toArray, List.map_cons, List.map_nil, Act.eval, Array.getD_eq_getD_getElem?, Option.getD_some, e40]; rfl)) ?_
               with_reducible refine (spec_l01Cur_pick.calls g s0_0 t261 t262 2 t264 t265 t266 w0 _ ?side1 ?side2 A21.out).mono ?_
               (case side1 => repeat (first | (with_reducible first | exact HI0.out | apply IsS79.alloc | apply IsS79.drewN | apply IsS79.drew | apply IsS79.set_1 | apply IsS79.set_2) | exact HI0.out))
               (case side2 => repeat (first | (with_reducible first | exact HB.out | apply below_alloc | apply pw_below_drewN | apply below_drew1 | refine below_set ?_ (IsS79.ge HI0.out)) | exact HB.out))
               rintro e w30 ⟨rfl, hi, hb, hk⟩
               refine ⟨_, rfl, ?_⟩
               have n0_ := Aside0.mk (KeepBut.trans (by repeat (first | (with_reducible first | exact HK.out | apply KeepBut.set_ | apply keep_drewN | apply keep_drew | apply keep_alloc) | exact HK.out)) hk (.inl rfl))
               have n1_ := Aside0.mk (hb)
               have n2_ := Aside0.mk (hi)
               have z_HO259 := fun (h0_ : b 3 = true) => (show Kd.R Kd.string 9 w30 w.heap.size (fun _ => True) v258 y257 from by first | exact (Kd.R_mono (Kd.R_keep (IsS79.apart (show IsS79 w0 _ g s0_0 t261 t262 from by repeat (first | (with_reducible first | exact HI0.out | apply IsS79.alloc | apply IsS79.drewN | apply IsS79.drew | apply IsS79.set_1 | apply IsS79.set_2) | exact HI0.out)) (by (with_reducible repeat (first | apply Kd.R_alloc | apply Kd.R_drewN | apply Kd.R_drew)); exact (Q_HO259 h0_)) (by decide)) hk (fun _ h => h.2)) (fun _ h => h.1)) | exact Kd.R_mono (Kd.R_mono (Kd.R_keep (IsS79.apart (show IsS79 w0 _ g s0_0 t261 t262 from by repeat (first | (with_reducible first | exact HI0.out | apply IsS79.alloc | apply IsS79.drewN | apply IsS79.drew | apply IsS79.set_1 | apply IsS79.set_2) | exact HI0.out)) (by (with_reducible repeat (first | apply Kd.R_alloc | apply Kd.R_drewN | apply Kd.R_drew)); exact (Q_HO259 h0_)) (by decide)) hk (fun _ h => h.2)) (fun _ h => h.1)) (fun _ h_ => by first | trivial | exact h_ | exact h_.1))
               clear HK
               clear HB
               clear HI0
               have HK := n0_
               have HB := n1_
               have HI0 := n2_
               clear n0_ n1_ n2_
               (try clear hb)
               (try clear hb2)
               (try clear hk)
               (try clear hi)
               refine hK.out _ _ ⟨v258, adz_v258, m6_, (by rw [ha.out]; exact putSel_upk 7 hb_ rfl rfl rfl), fun h0_ => absurd ((hon 5 (by kernel_rfl)).symm.trans h0_) (by decide), (by repeat (first | (with_reducible first | exact HK.out | apply KeepBut.set_ | apply keep_drewN | apply keep_drew | apply keep_alloc) | exact HK.out)), (by repeat (first | (with_reducible first | exact HB.out | apply below_alloc | apply pw_below_drewN | apply below_drew1 | refine below_set ?_ (IsS79.ge HI0.out)) | exact HB.out)), z_HO259, Q_HA_HO259, fun _ h1_ => absurd ((up_self b 14).symm.trans h1_) (by decide), fun _ => (by repeat (first | (with_reducible first | exact HI0.out | apply IsS79.alloc | apply IsS79.drewN | apply IsS79.drew | apply IsS79.set_1 | apply IsS79.set_2) | exact HI0.out)), Q_X6_⟩
              refine steps_cons ?_ ?_
              ·rintro b a w' ⟨v258, adz_v258, m6_, ha, Q_HI0, Q_HK, Q_HB, Q_HO259, Q_HA_HO259, Q_HI0_e5, Q_HI0_e14, Q_X6_⟩ hb_ hon hoff
               refine ⟨_, rfl, fun K hK => ?_⟩
               have e39 : a.tmps[39]? = some (.int .i64 t254) := by rw [ha]; exact (putSel_off rfl).trans rfl
               have e41 : a.tmps[41]? = some (.int .i64 t264) := by rw [ha]; exact putSel_on (e := (14, 41, .int .i64 t264)) 7 rfl rfl (hon 14 (by kernel_rfl)) rfl
               replace ha := Aside0.mk ha
               have HK := Aside0.mk Q_HK
               have HB := Aside0.mk Q_HB
               have HI0 := Aside0.mk (Q_HI0_e14 (hon 14 (by kernel_rfl)))
               refine value_ (w1 := w') (v := .int .i64 (wrap64 (t254 + t264))) (by rfl) rfl ?_ ?_
               ·go_simp
                (try simp only [i64_w])
                try rfl
               refine hK.out _ _ ⟨v258, adz_v258, m6_, (by rw [ha.out]; exact putSel_upk 8 hb_ rfl rfl rfl), fun h0_ => absurd ((hon 5 (by kernel_rfl)).symm.trans h0_) (by decide), Q_HK, Q_HB, Q_HO259, Q_HA_HO259, fun _ h1_ => absurd ((hon 14 (by kernel_rfl)).symm.trans h1_) (by decide), Q_HI0_e14, Q_X6_⟩
              refine steps_cons ?_ ?_
              ·rintro b a w' ⟨v258, adz_v258, m6_, ha, Q_HI0, Q_HK, Q_HB, Q_HO259, Q_HA_HO259, Q_HI0_e5, Q_HI0_e14, Q_X6_⟩ hb_ hon hoff
               refine ⟨_, rfl, fun K hK => ?_⟩
               have e38 : a.tmps[38]? = some (.int .i64 (x5_1.size : Int)) := by rw [ha]; exact putSel_on (e := (11, 38, .int .i64 (x5_1.size : Int))) 6 rfl rfl (hon 11 (by kernel_rfl)) rfl
               have e42 : a.tmps[42]? = some (.int .i64 (wrap64 (t254 + t264))) := by rw [ha]; exact putSel_on (e := (15, 42, .int .i64 (wrap64 (t254 + t264)))) 8 rfl rfl (hon 15 (by kernel_rfl)) rfl
               replace ha := Aside0.mk ha
               have HK := Aside0.mk Q_HK
               have HB := Aside0.mk Q_HB
               have HI0 := Aside0.mk (Q_HI0_e14 (hon 14 (by kernel_rfl)))
               refine value_ (w1 := w') (v := .int .i64 ji22) (by rfl) rfl ?_ ?_
               ·go_simp
                (try simp only [i64_w])
                try rfl
               refine hK.out _ _ ⟨v258, adz_v258, m6_, (by rw [ha.out]; exact putSel_upk 9 hb_ rfl rfl rfl), fun h0_ => absurd ((hon 5 (by kernel_rfl)).symm.trans h0_) (by decide), Q_HK, Q_HB, Q_HO259, Q_HA_HO259, fun _ h1_ => absurd ((hon 14 (by kernel_rfl)).symm.trans h1_) (by decide), Q_HI0_e14, Q_X6_⟩
              refine steps_cons ?_ ?_
              ·rintro b a w' ⟨v258, adz_v258, m6_, ha, Q_HI0, Q_HK, Q_HB, Q_HO259, Q_HA_HO259, Q_HI0_e5, Q_HI0_e14, Q_X6_⟩ hb_ hon hoff
               refine ⟨_, rfl, fun K hK => ?_⟩
               have e36 : a.tmps[36]? = some (.string x5_1) := by rw [ha]; exact (putSel_off rfl).trans rfl
               have e43 : a.tmps[43]? = some (.int .i64 ji22) := by rw [ha]; exact putSel_on (e := (16, 43, .int .i64 ji22)) 9 rfl rfl (hon 16 (by kernel_rfl)) rfl
               replace ha := Aside0.mk ha
               have HK := Aside0.mk Q_HK
               have HB := Aside0.mk Q_HB
               have HI0 := Aside0.mk (Q_HI0_e14 (hon 14 (by kernel_rfl)))
               refine value_ (w1 := w') (v := .string (x5_1.extract ((ji22) : Int).toNat x5_1.size)) (by rfl) rfl ?_ ?_
               ·go_simp
                (try simp only [i64_w])
                try rfl
               refine hK.out _ _ ⟨v258, adz_v258, m6_, (by rw [ha.out]; exact putSel_upk 10 hb_ rfl rfl rfl), fun h0_ => absurd ((hon 5 (by kernel_rfl)).symm.trans h0_) (by decide), Q_HK, Q_HB, Q_HO259, Q_HA_HO259, fun _ h1_ => absurd ((hon 14 (by kernel_rfl)).symm.trans h1_) (by decide), Q_HI0_e14, Q_X6_⟩
              refine steps_cons ?_ ?_
              ·rintro b a w' ⟨v258, adz_v258, m6_, ha, Q_HI0, Q_HK, Q_HB, Q_HO259, Q_HA_HO259, Q_HI0_e5, Q_HI0_e14, Q_X6_⟩ hb_ hon hoff
               refine ⟨_, rfl, fun K hK => ?_⟩
               have e35 : a.tmps[35]? = some (.string ((x5_1.extract 0 (t254 : Int).toNat) ++ (rdOf ByteArray.empty y257 t260))) := by rw [ha]; exact putSel_on (e := (8, 35, .string ((x5_1.extract 0 (t254 : Int).toNat) ++ (rdOf ByteArray.empty y257 t260)))) 5 rfl rfl (hon 8 (by kernel_rfl)) rfl
               have e44 : a.tmps[44]? = some (.string (x5_1.extract ((ji22) : Int).toNat x5_1.size)) := by rw [ha]; exact putSel_on (e := (17, 44, .string (x5_1.extract ((ji22) : Int).toNat x5_1.size))) 10 rfl rfl (hon 17 (by kernel_rfl)) rfl
               replace ha := Aside0.mk ha
               have HK := Aside0.mk Q_HK
               have HB := Aside0.mk Q_HB
               have HO259 := Aside0.mk (Q_HO259 (hon 3 (by kernel_rfl)))
               have HA_HO259 := Aside0.mk (Q_HA_HO259 (hon 3 (by kernel_rfl)))
               have HI0 := Aside0.mk (Q_HI0_e14 (hon 14 (by kernel_rfl)))
               refine value_ (w1 := w') (v := .string (((x5_1.extract 0 (t254 : Int).toNat) ++ (rdOf ByteArray.empty y257 t260)) ++ (x5_1.extract ((ji22) : Int).toNat x5_1.size))) (by rfl) rfl ?_ ?_
               ·go_simp
                all_goals (try (have z1_ := c20; have y0_ := of_eq_true c15b0; have y1_ := of_eq_true c16b0; have y2_ := of_eq_true c23b0; have y3_ := of_eq_true c24b0; simp only [ByteArray.size_append, ByteArray.size_extract] at z1_; omega))
                all_goals (try (have z1_ := c25; have y0_ := of_eq_true c15b0; have y1_ := of_eq_true c16b0; have y2_ := of_eq_true c23b0; have y3_ := of_eq_true c24b0; simp only [ByteArray.size_append, ByteArray.size_extract] at z1_; omega))
                (try simp only [i64_w])
                try rfl
               refine hK.out _ _ ⟨v258, adz_v258, m6_, (by rw [ha.out]; exact putSel_upk 11 hb_ rfl rfl rfl), fun h0_ => absurd ((hon 5 (by kernel_rfl)).symm.trans h0_) (by decide), Q_HK, Q_HB, Q_HO259, Q_HA_HO259, fun _ h1_ => absurd ((hon 14 (by kernel_rfl)).symm.trans h1_) (by decide), Q_HI0_e14, Q_X6_⟩
              refine steps_cons ?_ ?_
              ·rintro b a w' ⟨v258, adz_v258, m6_, ha, Q_HI0, Q_HK, Q_HB, Q_HO259, Q_HA_HO259, Q_HI0_e5, Q_HI0_e14, Q_X6_⟩ hb_ hon hoff
               refine ⟨_, rfl, fun K hK => ?_⟩
               have e45 : a.tmps[45]? = some (.string (((x5_1.extract 0 (t254 : Int).toNat) ++ (rdOf ByteArray.empty y257 t260)) ++ (x5_1.extract ((ji22) : Int).toNat x5_1.size))) := by rw [ha]; exact putSel_on (e := (18, 45, .string (((x5_1.extract 0 (t254 : Int).toNat) ++ (rdOf ByteArray.empty y257 t260)) ++ (x5_1.extract ((ji22) : Int).toNat x5_1.size)))) 11 rfl rfl (hon 18 (by kernel_rfl)) rfl
               replace ha := Aside0.mk ha
               have HK := Aside0.mk Q_HK
               have HB := Aside0.mk Q_HB
               have HO259 := Aside0.mk (Q_HO259 (hon 3 (by kernel_rfl)))
               have HA_HO259 := Aside0.mk (Q_HA_HO259 (hon 3 (by kernel_rfl)))
               have HI0 := Aside0.mk (Q_HI0_e14 (hon 14 (by kernel_rfl)))
               refine value_ (w1 := w') (v := .string (((x5_1.extract 0 (t254 : Int).toNat) ++ (rdOf ByteArray.empty y257 t260)) ++ (x5_1.extract ((ji22) : Int).toNat x5_1.size))) (by rfl) rfl ?_ ?_
               ·go_simp
                all_goals (try (have z1_ := c20; have y0_ := of_eq_true c15b0; have y1_ := of_eq_true c16b0; have y2_ := of_eq_true c23b0; have y3_ := of_eq_true c24b0; simp only [ByteArray.size_append, ByteArray.size_extract] at z1_; omega))
                all_goals (try (have z1_ := c25; have y0_ := of_eq_true c15b0; have y1_ := of_eq_true c16b0; have y2_ := of_eq_true c23b0; have y3_ := of_eq_true c24b0; simp only [ByteArray.size_append, ByteArray.size_extract] at z1_; omega))
                (try simp only [i64_w])
                try rfl
               refine hK.out _ _ ⟨v258, adz_v258, m6_, (by rw [ha.out]; exact putSel_upk 12 hb_ rfl rfl rfl), fun h0_ => absurd ((hon 5 (by kernel_rfl)).symm.trans h0_) (by decide), Q_HK, Q_HB, Q_HO259, Q_HA_HO259, fun _ h1_ => absurd ((hon 14 (by kernel_rfl)).symm.trans h1_) (by decide), Q_HI0_e14, Q_X6_⟩
              exact steps_nil
             rintro b a w33 hall ⟨v258, adz_v258, m6_, ha, Q_HI0, Q_HK, Q_HB, Q_HO259, Q_HA_HO259, Q_HI0_e5, Q_HI0_e14, Q_X6_⟩
             clear HB HI0 HK
             have hb2_ := hall 2 (by kernel_rfl)
             have hb3_ := hall 3 (by kernel_rfl)
             have hb5_ := hall 5 (by kernel_rfl)
             have hb6_ := hall 6 (by kernel_rfl)
             have hb7_ := hall 7 (by kernel_rfl)
             have hb8_ := hall 8 (by kernel_rfl)
             have hb11_ := hall 11 (by kernel_rfl)
             have hb14_ := hall 14 (by kernel_rfl)
             have hb15_ := hall 15 (by kernel_rfl)
             have hb16_ := hall 16 (by kernel_rfl)
             have hb17_ := hall 17 (by kernel_rfl)
             have hb18_ := hall 18 (by kernel_rfl)
             have hb19_ := hall 19 (by kernel_rfl)
             subst ha
             obtain rfl := Q_X6_ hb6_
             simp only [putSel, hb2_, hb3_, hb5_, hb6_, hb7_, hb8_, hb11_, hb14_, hb15_, hb16_, hb17_, hb18_, hb19_, if_true, Act.put, List.setIfInBounds_toArray, List.set_cons_zero, List.set_cons_succ]
             clear Q_HI0
             have HK := Aside0.mk Q_HK
             clear Q_HK
             have HB := Aside0.mk Q_HB
             clear Q_HB
             have HO259 := Aside0.mk (Q_HO259 hb3_)
             clear Q_HO259
             have HA_HO259 := Aside0.mk (Q_HA_HO259 hb3_)
             clear Q_HA_HO259
             clear Q_HI0_e5
             have HI0 := Aside0.mk (Q_HI0_e14 hb14_)
             clear Q_HI0_e14
             clear hall hb2_ hb3_ hb5_ hb6_ hb7_ hb8_ hb11_ hb14_ hb15_ hb16_ hb17_ hb18_ hb19_
             obtain ⟨co34, eo34⟩ := HA_HO259.out
             clear HA_HO259
             subst eo34
             try go_wp2
             go_roundg k1
             case measure => have := HK1.out; omega
             case rel => exact ⟨(((x5_1.extract 0 (t254 : Int).toNat) ++ (rdOf ByteArray.empty y257 t260)) ++ (x5_1.extract ((ji22) : Int).toNat x5_1.size)), (wrap64 (x6_1 - 1)), (t265), (t266), (by first | rfl | (simp; done) | (simp only [← hji22] <;> (first | rfl | simp)) | (simp [*]; done)), (by first | rfl | (simp; done) | (simp [*]; done)), H', ⟨by have := HK1.out; omega⟩, ⟨by repeat (first | (with_reducible first | exact HI0.out | apply IsS79.alloc | apply IsS79.drewN | apply IsS79.drew | apply IsS79.set_1 | apply IsS79.set_2) | exact HI0.out)⟩, ⟨by repeat (first | (with_reducible first | exact HK.out | apply KeepBut.set_ | apply keep_drewN | apply keep_drew | apply keep_alloc) | exact HK.out)⟩, ⟨by repeat (first | (with_reducible first | exact HB.out | apply below_alloc | apply pw_below_drewN | apply below_drew1 | refine below_set ?_ (IsS79.ge HI0.out)) | exact HB.out)⟩⟩
            ·rw [if_neg c25] at H
             exact absurd H (by simp)
           ·rw [if_neg c24] at H
            exact absurd H (by simp)
          ·rw [if_neg c23] at H
           exact absurd H (by simp)
         ·rw [if_neg c20] at H
          exact absurd H (by simp)
        ·rw [if_neg c19] at H
         exact absurd H (by simp)
       ·rw [if_neg c18] at H
        exact absurd H (by simp)
      ·rw [if_neg c16] at H
       exact absurd H (by simp)
     ·rw [if_neg c15] at H
      exact absurd H (by simp)
    ·rw [if_neg c13] at H
     have c13b0 : decide (0 < x6_1) = false := decide_eq_false c13
     clear c13
     simp only [Option.some.injEq, Prod.mk.injEq] at H
     obtain ⟨rfl, rfl, rfl, rfl⟩ := H
     go_wp2
     go_ret2
     exact ⟨by first | rfl | (simp [errW_none, errW_some] <;> rfl) | (simp [*, errW_none, errW_some] <;> rfl), by repeat (first | (with_reducible first | exact HI0.out | apply IsS79.alloc | apply IsS79.drewN | apply IsS79.drew | apply IsS79.set_1 | apply IsS79.set_2) | exact HI0.out), by repeat (first | (with_reducible first | exact HB.out | apply below_alloc | apply pw_below_drewN | apply below_drew1 | refine below_set ?_ (IsS79.ge HI0.out)) | exact HB.out), by repeat (first | (with_reducible first | exact HK.out | apply KeepBut.set_ | apply keep_drewN | apply keep_drew | apply keep_alloc) | exact HK.out)⟩

/-! ### spec_DrawMyersRun: function 42 -/
def spec_DrawMyersRun.f (k : Nat) (l0 : List Int) : Option (ByteArray × ByteArray) := (spec_l01Open.f l0).bind fun bt267 => ((spec_l01Cur_pair.f k bt267.1 bt267.2.1 bt267.2.2).bind fun bt271 => (some (bt271.1, bt271.2.1)))
theorem spec_DrawMyersRun.mono : ∀ a0 k, LeO (spec_DrawMyersRun.f k a0) (spec_DrawMyersRun.f (k + 1) a0) := by
 intro a0 k
 unfold spec_DrawMyersRun.f
 repeat' first
   | (with_reducible exact spec_l01Cur_pair.mono _ _ _ _)
   | (with_reducible exact LeO.refl _)
   | (with_reducible exact LeO.none _)
   | (with_reducible refine LeO.ite ?_ ?_)
   | (with_reducible refine LeO.bind ?_ (fun _ => ?_))
   | exact spec_l01Cur_pair.mono _ _ _ _
   | exact LeO.none _
   | refine LeO.ite ?_ ?_
   | refine LeO.bind ?_ (fun _ => ?_)
set_option maxHeartbeats 8000000 in
set_option maxRecDepth 100000 in
theorem spec_DrawMyersRun.calls (k : Nat) (A0 : Option Addr) (c0 : Nat) (l0 : List Int) (r1 : ByteArray) (r2 : ByteArray) (w : World) (hr0 : Kd.C (Kd.int .u8) w A0 l0.length l0) (hc0 : l0.length ≤ c0) (h : spec_DrawMyersRun.f k l0 = some (r1, r2)) :
  Calls Try.prog 42 #[.slice A0 l0.length c0] w fun e w' => e = .returned (.tuple #[.string r1, .string r2]) ∧ Below w.heap.size w w' := by
 have HR0 := Aside0.mk hr0
 have HC0 := Aside0.mk hc0
 clear hr0 hc0
 have HB := Aside0.mk (Below.refl w.heap.size w)
 have H : ((spec_l01Open.f l0).bind fun bt267 => ((spec_l01Cur_pair.f k bt267.1 bt267.2.1 bt267.2.2).bind fun bt271 => (some (bt271.1, bt271.2.1)))) = some (r1, r2) := h
 clear h
 replace H := Option.bind_eq_some_iff.mp H
 obtain ⟨⟨t267, t268, t269⟩, A20, H⟩ := H
 replace H : ((spec_l01Cur_pair.f k t267 t268 t269).bind fun bt271 => (some (bt271.1, bt271.2.1))) = some (r1, r2) := H
 have A2 := Aside0.mk A20
 clear A20
 replace H := Option.bind_eq_some_iff.mp H
 obtain ⟨⟨t271, t272, t273, t274⟩, A30, H⟩ := H
 replace H : (some (t271, t272)) = some (r1, r2) := H
 have A3 := Aside0.mk A30
 clear A30
 simp only [Option.some.injEq, Prod.mk.injEq] at H
 obtain ⟨rfl, rfl⟩ := H
 go_enter Try.func42, Try.ntmps42
 go_wp2_with (first | ((with_reducible refine gate_callee (f := 50) rfl ?_); refine goesL_ (some 6) rfl rfl Try.func50 (by kernel_rfl) rfl #[.slice A0 l0.length c0] rfl (by (try simp only [List.map_toArray, List.map_cons, List.map_nil]); first | done | rfl | (simp only [List.length_drop, List.length_take]; rfl)) ?_; (with_reducible refine (spec_l01Open.calls _ _ l0 t267 t268 t269 w _ ?side1 ?side2 ?side3 A2.out).mono ?_); (case side1 => repeat (first | (with_reducible first | exact HB.out | apply below_alloc | apply pw_below_drewN | apply below_drew1) | exact HB.out)); (case side2 => exact HR0.out); (case side3 => exact HC0.out); rintro e w4 ⟨g270, rfl, hi, hb, hb2⟩; refine ⟨_, rfl, ?_⟩; have n0_ := Aside0.mk (hb); have n1_ := Aside0.mk (hi); clear HB; have HB := n0_; have HI270 := n1_; clear n0_ n1_; (try clear hb); (try clear hb2); (try clear hk); (try clear hi)) | ((with_reducible refine gate_callee (f := 69) rfl ?_); refine goesL_ (some 8) rfl rfl Try.func69 (by kernel_rfl) rfl #[.pointer (some ⟨g270, 0, none⟩)] rfl (by (try simp only [List.map_toArray, List.map_cons, List.map_nil]); first | done | rfl | (simp only [List.length_drop, List.length_take]; rfl)) ?_; (with_reducible refine (spec_l01Cur_pair.calls k g270 t267 t268 t269 t271 t272 t273 t274 w _ ?side1 ?side2 A3.out).mono ?_); (case side1 => repeat (first | (with_reducible first | exact HI270.out | apply IsS79.alloc | apply IsS79.drewN | apply IsS79.drew | apply IsS79.set_1 | apply IsS79.set_2) | exact HI270.out)); (case side2 => repeat (first | (with_reducible first | exact HB.out | apply below_alloc | apply pw_below_drewN | apply below_drew1 | refine below_set ?_ (IsS79.ge HI270.out)) | exact HB.out)); rintro e w5 ⟨rfl, hi, hb, hk⟩; refine ⟨_, rfl, ?_⟩; have n0_ := Aside0.mk (hb); have n1_ := Aside0.mk (hi); clear HB; clear HI270; have HB := n0_; have HI270 := n1_; clear n0_ n1_; (try clear hb); (try clear hb2); (try clear hk); (try clear hi)))
 go_ret2
 exact ⟨by first | rfl | (simp [errW_none, errW_some] <;> rfl) | (simp [*, errW_none, errW_some] <;> rfl), by repeat (first | (with_reducible first | exact HB.out | apply below_alloc | apply pw_below_drewN | apply below_drew1 | refine below_set ?_ (IsS79.ge HI270.out)) | exact HB.out)⟩

/-! ### impl_MyersStart: function 43 -/
def impl_MyersStart.f (a0 : ByteArray) : Option (Int × Int × Int × Int) := if (a0.size : Int) > 32 then (some (0, 0, 0, 0)) else ((impl_MaskLow.f (a0.size : Int)).bind fun t276 => (some (t276, 0, (a0.size : Int), (a0.size : Int))))
set_option maxHeartbeats 8000000 in
set_option maxRecDepth 100000 in
theorem impl_MyersStart.calls (a0 : ByteArray) (r1 : Int) (r2 : Int) (r3 : Int) (r4 : Int) (w : World) (h : impl_MyersStart.f a0 = some (r1, r2, r3, r4)) :
  Calls Try.prog 43 #[.string a0] w fun e w' => e = .returned (.agg #[.int .u64 r1, .int .u64 r2, .int .i64 r3, .int .i64 r4]) ∧ Below w.heap.size w w' := by
 have hu43 := Try.underlying43
 have HB := Aside0.mk (Below.refl w.heap.size w)
 have H : (if (a0.size : Int) > 32 then (some (0, 0, 0, 0)) else ((impl_MaskLow.f (a0.size : Int)).bind fun t276 => (some (t276, 0, (a0.size : Int), (a0.size : Int))))) = some (r1, r2, r3, r4) := h
 clear h
 by_cases c2 : (a0.size : Int) > 32
 ·rw [if_pos c2] at H
  have c2b0 : decide (32 < (a0.size : Int)) = true := decide_eq_true c2
  have c2b1 : decide (32 < a0.size) = true := decide_eq_true (by omega)
  clear c2
  simp only [Option.some.injEq, Prod.mk.injEq] at H
  obtain ⟨rfl, rfl, rfl, rfl⟩ := H
  go_enter Try.func43, Try.ntmps43
  go_wp2_with (first | ((with_reducible refine gate_dst (N := 2) rfl ?_); refine box_event ?hg (N := 2) ?hd (cs := #[.int .u64 0, .int .u64 0, .int .i64 0, .int .i64 0]) (t := 43) ?hr ?_; (case hd => rfl); (case hg => rfl); (case hr => first | (go_simp; done) | (go_simp; rfl)); intro gb275 hg w3 hbox hb; have n0_ := Aside0.mk (below_step (by repeat (first | (with_reducible first | exact HB.out | apply below_alloc | apply pw_below_drewN | apply below_drew1) | exact HB.out)) hb); have n1_ := Aside0.mk (hbox); have n2_ := Aside0.mk ((by rw [hg]; exact (below_size (by repeat (first | (with_reducible first | exact HB.out | apply below_alloc | apply pw_below_drewN | apply below_drew1) | exact HB.out))) : w.heap.size ≤ gb275)); have n3_ := Aside0.mk ((by rw [hg]; exact (below_size (by repeat (first | (with_reducible first | exact HB.out | apply below_alloc | apply pw_below_drewN | apply below_drew1) | exact HB.out))) : w.heap.size ≤ gb275)); clear HB; have HB := n0_; have BK275 := n1_; have GW275 := n2_; have GE275 := n3_; clear n0_ n1_ n2_ n3_; clear hb hbox hg; have hcz4_0 : w3.cell? ⟨gb275, 0, none⟩ = some (.int .u64 0) := (blk_cell BK275.out 0).trans rfl; have hcz4_1 : w3.cell? ⟨gb275, 1, none⟩ = some (.int .u64 0) := (blk_cell BK275.out 1).trans rfl; have hcz4_2 : w3.cell? ⟨gb275, 2, none⟩ = some (.int .i64 0) := (blk_cell BK275.out 2).trans rfl; have hcz4_3 : w3.cell? ⟨gb275, 3, none⟩ = some (.int .i64 0) := (blk_cell BK275.out 3).trans rfl; have hfz4_0 := blk_frozen BK275.out 0; have hfz4_1 := blk_frozen BK275.out 1; have hfz4_2 := blk_frozen BK275.out 2; have hfz4_3 := blk_frozen BK275.out 3))
  refine bodyPost_ret (results_cell_row rfl _ _ gb275 43 #[.int .u64 0, .int .u64 0, .int .i64 0, .int .i64 0] (0, 0) _ rfl (by (with_reducible repeat (first | refine blk_drewN ?_ _ | refine blk_drew ?_ | refine blk_alloc ?_ _)); refine blk_put (cs := #[.int .u64 0, .int .u64 0, .int .i64 0, .int .i64 0]) ?_ 3 _ rfl; (with_reducible repeat (first | refine blk_drewN ?_ _ | refine blk_drew ?_ | refine blk_alloc ?_ _)); refine blk_put (cs := #[.int .u64 0, .int .u64 0, .int .i64 0, .int .i64 0]) ?_ 2 _ rfl; (with_reducible repeat (first | refine blk_drewN ?_ _ | refine blk_drew ?_ | refine blk_alloc ?_ _)); refine blk_put (cs := #[.int .u64 0, .int .u64 0, .int .i64 0, .int .i64 0]) ?_ 1 _ rfl; (with_reducible repeat (first | refine blk_drewN ?_ _ | refine blk_drew ?_ | refine blk_alloc ?_ _)); refine blk_put (cs := #[.int .u64 0, .int .u64 0, .int .i64 0, .int .i64 0]) ?_ 0 _ rfl; (with_reducible repeat (first | refine blk_drewN ?_ _ | refine blk_drew ?_ | refine blk_alloc ?_ _)); exact BK275.out) Try.underlying43 rfl (by kernel_rfl)) rfl ?_
  exact ⟨by first | rfl | (simp [errW_none, errW_some] <;> rfl) | (simp [*, errW_none, errW_some] <;> rfl), by repeat (first | (with_reducible first | exact HB.out | apply below_alloc | apply pw_below_drewN | apply below_drew1 | refine below_set ?_ GE275.out) | exact HB.out)⟩
 ·rw [if_neg c2] at H
  have c2b0 : decide (32 < (a0.size : Int)) = false := decide_eq_false c2
  have c2b1 : decide (32 < a0.size) = false := decide_eq_false (by omega)
  clear c2
  replace H := Option.bind_eq_some_iff.mp H
  obtain ⟨t276, A50, H⟩ := H
  replace H : (some (t276, 0, (a0.size : Int), (a0.size : Int))) = some (r1, r2, r3, r4) := H
  have A5 := Aside0.mk A50
  clear A50
  simp only [Option.some.injEq, Prod.mk.injEq] at H
  obtain ⟨rfl, rfl, rfl, rfl⟩ := H
  go_enter Try.func43, Try.ntmps43
  go_wp2_with (first | ((with_reducible refine gate_dst (N := 2) rfl ?_); refine box_event ?hg (N := 2) ?hd (cs := #[.int .u64 0, .int .u64 0, .int .i64 0, .int .i64 0]) (t := 43) ?hr ?_; (case hd => rfl); (case hg => rfl); (case hr => first | (go_simp; done) | (go_simp; rfl)); intro gb275 hg w6 hbox hb; have n0_ := Aside0.mk (below_step (by repeat (first | (with_reducible first | exact HB.out | apply below_alloc | apply pw_below_drewN | apply below_drew1) | exact HB.out)) hb); have n1_ := Aside0.mk (hbox); have n2_ := Aside0.mk ((by rw [hg]; exact (below_size (by repeat (first | (with_reducible first | exact HB.out | apply below_alloc | apply pw_below_drewN | apply below_drew1) | exact HB.out))) : w.heap.size ≤ gb275)); have n3_ := Aside0.mk ((by rw [hg]; exact (below_size (by repeat (first | (with_reducible first | exact HB.out | apply below_alloc | apply pw_below_drewN | apply below_drew1) | exact HB.out))) : w.heap.size ≤ gb275)); clear HB; have HB := n0_; have BK275 := n1_; have GW275 := n2_; have GE275 := n3_; clear n0_ n1_ n2_ n3_; clear hb hbox hg) | ((with_reducible refine gate_callee (f := 17) rfl ?_); refine goesL_ (some 9) rfl rfl Try.func17 (by kernel_rfl) rfl #[.int .i64 (a0.size : Int)] rfl (by (try simp only [List.map_toArray, List.map_cons, List.map_nil]); first | done | rfl | (simp only [List.length_drop, List.length_take]; rfl)) ?_; (with_reducible refine (impl_MaskLow.calls (a0.size : Int) t276 _ A5.out).mono ?_); rintro e w' ⟨rfl, ⟨nd, rfl⟩⟩; refine ⟨_, rfl, ?_⟩; (try (rw [drewN_self w6]; generalize hq_ : World.drewN w6 _ = w6; have n0_ : Aside0 (w6.heap[gb275]? = some (.cells #[.int .u64 0, .int .u64 0, .int .i64 0, .int .i64 0] 43 (0, 0))) := ⟨by rw [← hq_]; exact (by (with_reducible repeat (first | refine blk_drewN ?_ _ | refine blk_drew ?_ | refine blk_alloc ?_ _)); exact BK275.out)⟩; have n1_ : Aside0 (Below w.heap.size w w6) := ⟨by rw [← hq_]; exact (by repeat (first | (with_reducible first | exact HB.out | apply below_alloc | apply pw_below_drewN | apply below_drew1 | refine below_set ?_ GE275.out) | exact HB.out))⟩; clear BK275 HB hq_; have BK275 := n0_; have HB := n1_; clear n0_ n1_)); have hcz7_0 : w6.cell? ⟨gb275, 0, none⟩ = some (.int .u64 0) := (blk_cell BK275.out 0).trans rfl; have hcz7_1 : w6.cell? ⟨gb275, 1, none⟩ = some (.int .u64 0) := (blk_cell BK275.out 1).trans rfl; have hcz7_2 : w6.cell? ⟨gb275, 2, none⟩ = some (.int .i64 0) := (blk_cell BK275.out 2).trans rfl; have hcz7_3 : w6.cell? ⟨gb275, 3, none⟩ = some (.int .i64 0) := (blk_cell BK275.out 3).trans rfl; have hfz7_0 := blk_frozen BK275.out 0; have hfz7_1 := blk_frozen BK275.out 1; have hfz7_2 := blk_frozen BK275.out 2; have hfz7_3 := blk_frozen BK275.out 3))
  refine bodyPost_ret (results_cell_row rfl _ _ gb275 43 #[.int .u64 t276, .int .u64 0, .int .i64 (a0.size : Int), .int .i64 (a0.size : Int)] (0, 0) _ rfl (by (with_reducible repeat (first | refine blk_drewN ?_ _ | refine blk_drew ?_ | refine blk_alloc ?_ _)); refine blk_put (cs := #[.int .u64 t276, .int .u64 0, .int .i64 (a0.size : Int), .int .i64 0]) ?_ 3 _ rfl; (with_reducible repeat (first | refine blk_drewN ?_ _ | refine blk_drew ?_ | refine blk_alloc ?_ _)); refine blk_put (cs := #[.int .u64 t276, .int .u64 0, .int .i64 0, .int .i64 0]) ?_ 2 _ rfl; (with_reducible repeat (first | refine blk_drewN ?_ _ | refine blk_drew ?_ | refine blk_alloc ?_ _)); refine blk_put (cs := #[.int .u64 t276, .int .u64 0, .int .i64 0, .int .i64 0]) ?_ 1 _ rfl; (with_reducible repeat (first | refine blk_drewN ?_ _ | refine blk_drew ?_ | refine blk_alloc ?_ _)); refine blk_put (cs := #[.int .u64 0, .int .u64 0, .int .i64 0, .int .i64 0]) ?_ 0 _ rfl; (with_reducible repeat (first | refine blk_drewN ?_ _ | refine blk_drew ?_ | refine blk_alloc ?_ _)); exact BK275.out) Try.underlying43 rfl (by kernel_rfl)) rfl ?_
  exact ⟨by first | rfl | (simp [errW_none, errW_some] <;> rfl) | (simp [*, errW_none, errW_some] <;> rfl), by repeat (first | (with_reducible first | exact HB.out | apply below_alloc | apply pw_below_drewN | apply below_drew1 | refine below_set ?_ GE275.out) | exact HB.out)⟩

/-! ### impl_BitsOk: function 44 -/
def impl_BitsOk.f (k : Nat) (a0_0 : Int) (a0_1 : Int) (a0_2 : Int) (a0_3 : Int) : Option (Bool) := (impl_columnOf.f k a0_0 a0_1 a0_2 a0_3).bind fun bt278 => (some bt278.2)
theorem impl_BitsOk.mono : ∀ a0 a1 a2 a3 k, LeO (impl_BitsOk.f k a0 a1 a2 a3) (impl_BitsOk.f (k + 1) a0 a1 a2 a3) := by
 intro a0 a1 a2 a3 k
 unfold impl_BitsOk.f
 repeat' first
   | (with_reducible exact impl_columnOf.mono _ _ _ _ _)
   | (with_reducible exact LeO.refl _)
   | (with_reducible exact LeO.none _)
   | (with_reducible refine LeO.ite ?_ ?_)
   | (with_reducible refine LeO.bind ?_ (fun _ => ?_))
   | exact impl_columnOf.mono _ _ _ _ _
   | exact LeO.none _
   | refine LeO.ite ?_ ?_
   | refine LeO.bind ?_ (fun _ => ?_)
set_option maxHeartbeats 8000000 in
set_option maxRecDepth 100000 in
theorem impl_BitsOk.calls (k : Nat) (a0_0 : Int) (a0_1 : Int) (a0_2 : Int) (a0_3 : Int) (r : Bool) (w : World) (h : impl_BitsOk.f k a0_0 a0_1 a0_2 a0_3 = some r) :
  Calls Try.prog 44 #[.agg #[.int .u64 a0_0, .int .u64 a0_1, .int .i64 a0_2, .int .i64 a0_3]] w fun e w' => e = .returned (.bool r) ∧ Below w.heap.size w w' := by
 have hu43 := Try.underlying43
 have HB := Aside0.mk (Below.refl w.heap.size w)
 have H : ((impl_columnOf.f k a0_0 a0_1 a0_2 a0_3).bind fun bt278 => (some bt278.2)) = some r := h
 clear h
 replace H := Option.bind_eq_some_iff.mp H
 obtain ⟨⟨t278, t281⟩, A20, H⟩ := H
 replace H : (some t281) = some r := H
 have A2 := Aside0.mk A20
 clear A20
 obtain rfl := Option.some.inj H
 go_enter Try.func44, Try.ntmps44
 go_wp2_with (first | ((with_reducible refine gate_dst (N := 1) rfl ?_); refine box_event ?hg (N := 1) ?hd (cs := #[.int .u64 a0_0, .int .u64 a0_1, .int .i64 a0_2, .int .i64 a0_3]) (t := 43) ?hr ?_; (case hd => rfl); (case hg => rfl); (case hr => first | (go_simp; done) | (go_simp; rfl)); intro gb277 hg w3 hbox hb; have n0_ := Aside0.mk (below_step (by repeat (first | (with_reducible first | exact HB.out | apply below_alloc | apply pw_below_drewN | apply below_drew1) | exact HB.out)) hb); have n1_ := Aside0.mk (hbox); have n2_ := Aside0.mk ((by rw [hg]; exact (below_size (by repeat (first | (with_reducible first | exact HB.out | apply below_alloc | apply pw_below_drewN | apply below_drew1) | exact HB.out))) : w.heap.size ≤ gb277)); have n3_ := Aside0.mk ((by rw [hg]; exact (below_size (by repeat (first | (with_reducible first | exact HB.out | apply below_alloc | apply pw_below_drewN | apply below_drew1) | exact HB.out))) : w.heap.size ≤ gb277)); clear HB; have HB := n0_; have BK277 := n1_; have GW277 := n2_; have GE277 := n3_; clear n0_ n1_ n2_ n3_; clear hb hbox hg; have hcz4_0 : w3.cell? ⟨gb277, 0, none⟩ = some (.int .u64 a0_0) := (blk_cell BK277.out 0).trans rfl; have hcz4_1 : w3.cell? ⟨gb277, 1, none⟩ = some (.int .u64 a0_1) := (blk_cell BK277.out 1).trans rfl; have hcz4_2 : w3.cell? ⟨gb277, 2, none⟩ = some (.int .i64 a0_2) := (blk_cell BK277.out 2).trans rfl; have hcz4_3 : w3.cell? ⟨gb277, 3, none⟩ = some (.int .i64 a0_3) := (blk_cell BK277.out 3).trans rfl; have hfz4_0 := blk_frozen BK277.out 0; have hfz4_1 := blk_frozen BK277.out 1; have hfz4_2 := blk_frozen BK277.out 2; have hfz4_3 := blk_frozen BK277.out 3) | ((with_reducible refine gate_callee (f := 68) rfl ?_); refine goesL_ (some 7) rfl rfl Try.func68 (by kernel_rfl) rfl #[.agg #[.int .u64 a0_0, .int .u64 a0_1, .int .i64 a0_2, .int .i64 a0_3]] rfl (by (try simp only [List.map_toArray, List.map_cons, List.map_nil]); first | done | rfl | (simp only [List.length_drop, List.length_take]; rfl)) ?_; (with_reducible refine (impl_columnOf.calls k a0_0 a0_1 a0_2 a0_3 t278 t281 _ A2.out).mono ?_); rintro e w5 ⟨v279, rfl, ho0, hb⟩; refine ⟨_, rfl, ?_⟩; have n0_ := Aside0.mk (Kd.R_lower ho0 (below_size (by repeat (first | (with_reducible first | exact HB.out | apply below_alloc | apply pw_below_drewN | apply below_drew1 | refine below_set ?_ GE277.out) | exact HB.out)))); have n1_ := Aside0.mk (blk_below (g := gb277) (o := .cells #[.int .u64 a0_0, .int .u64 a0_1, .int .i64 a0_2, .int .i64 a0_3] 43 (0, 0)) (by (with_reducible repeat (first | refine blk_drewN ?_ _ | refine blk_drew ?_ | refine blk_alloc ?_ _)); exact BK277.out) hb); have n2_ := Aside0.mk (below_step (by repeat (first | (with_reducible first | exact HB.out | apply below_alloc | apply pw_below_drewN | apply below_drew1 | refine below_set ?_ GE277.out) | exact HB.out)) hb); clear BK277; clear HB; have HO280 := n0_; have BK277 := n1_; have HB := n2_; clear n0_ n1_ n2_; (try clear hb); (try clear hb2); (try clear hk); (try clear hi); (try clear ho0)))
 go_ret
 exact ⟨by first | rfl | (simp [errW_none, errW_some] <;> rfl) | (simp [*, errW_none, errW_some] <;> rfl), by repeat (first | (with_reducible first | exact HB.out | apply below_alloc | apply pw_below_drewN | apply below_drew1 | refine below_set ?_ GE277.out) | exact HB.out)⟩

/-! ### impl_peq: function 76 -/
def impl_peq.l0 : Nat → ByteArray → Int → Int → Int → Int → Option (Int)
 | 0, _, _, _, _, _ => none
 | k + 1, x0, x1, x5, x8, x9 => if x9 < x8 then (if 0 ≤ x9 then (if x9 < (x0.size : Int) then (if (bt x0 x9) = x1 then (impl_peq.l0 k x0 x1 (Go.bits .or .u64 x5 (shl .u64 1 x9)) x8 (wrap64 (x9 + 1))) else (impl_peq.l0 k x0 x1 x5 x8 (wrap64 (x9 + 1)))) else (none)) else (none)) else (some x5)
def impl_peq.f (k : Nat) (a0 : ByteArray) (a1 : Int) : Option (Int) := impl_peq.l0 k a0 a1 0 (a0.size : Int) 0
theorem impl_peq.mono_l : ∀ k, (∀ y0 y1 y2 y3 y4, LeO (impl_peq.l0 k y0 y1 y2 y3 y4) (impl_peq.l0 (k + 1) y0 y1 y2 y3 y4))
 | 0 => fun _ _ _ _ _ r h => by simp [impl_peq.l0] at h
 | k + 1 => by
  have ih0 := impl_peq.mono_l k
  ·intro y0 y1 y2 y3 y4
   unfold impl_peq.l0
   repeat' first
   | (with_reducible exact ih0 _ _ _ _ _)
   | (with_reducible exact LeO.refl _)
   | (with_reducible exact LeO.none _)
   | (with_reducible refine LeO.ite ?_ ?_)
   | (with_reducible refine LeO.bind ?_ (fun _ => ?_))
   | exact ih0 _ _ _ _ _
   | exact LeO.none _
   | refine LeO.ite ?_ ?_
   | refine LeO.bind ?_ (fun _ => ?_)
theorem impl_peq.mono : ∀ a0 a1 k, LeO (impl_peq.f k a0 a1) (impl_peq.f (k + 1) a0 a1) := by
 intro a0 a1 k
 have ih0 := impl_peq.mono_l k
 unfold impl_peq.f
 repeat' first
   | (with_reducible exact ih0 _ _ _ _ _)
   | (with_reducible exact LeO.refl _)
   | (with_reducible exact LeO.none _)
   | (with_reducible refine LeO.ite ?_ ?_)
   | (with_reducible refine LeO.bind ?_ (fun _ => ?_))
   | exact ih0 _ _ _ _ _
   | exact LeO.none _
   | refine LeO.ite ?_ ?_
   | refine LeO.bind ?_ (fun _ => ?_)
set_option maxHeartbeats 8000000 in
set_option maxRecDepth 100000 in
theorem impl_peq.calls (k : Nat) (a0 : ByteArray) (a1 : Int) (r : Int) (w : World) (h : impl_peq.f k a0 a1 = some r) :
  Calls Try.prog 76 #[.string a0, .int .u8 a1] w fun e w' => e = .returned (.int .u64 r) ∧ Drawn0 w w' := by
 have H : (impl_peq.l0 k a0 a1 0 (a0.size : Int) 0) = some r := h
 clear h
 have H' := Aside0.mk H
 clear H
 go_enter Try.func76, Try.ntmps76
 go_wp2
 go_loopg [5, 9] k (fun kq v5 v9 w' => ∃ (x5_1 : Int) (x9_1 : Int), v5 = .int .u64 x5_1 ∧ v9 = .int .i64 x9_1 ∧ Aside0 (impl_peq.l0 kq a0 a1 x5_1 (a0.size : Int) x9_1 = some r) ∧ Aside0 (kq ≤ k) ∧ Drawn0 w w')
 case atStart => exact ⟨(0), (0), (by first | rfl | (simp; done) | (simp [*]; done)), (by first | rfl | (simp; done) | (simp [*]; done)), H', ⟨Nat.le_refl _⟩, by repeat (first | exact Drawn0.refl _ | apply Drawn0.step)⟩
 case round =>
  clear H'
  try clear p2
  obtain ⟨x5_1, x9_1, rfl, rfl, HA, HK1, ⟨m1, rfl⟩⟩ := hrel
  cases gk with
  | zero => exact absurd HA.out (by simp [impl_peq.l0])
  | succ k1 =>
   have H := HA.out
   clear HA
   simp only [impl_peq.l0] at H
   by_cases c3 : x9_1 < (a0.size : Int)
   ·rw [if_pos c3] at H
    have c3b0 : decide (x9_1 < (a0.size : Int)) = true := decide_eq_true c3
    clear c3
    by_cases c4 : 0 ≤ x9_1
    ·rw [if_pos c4] at H
     have c4b0 : decide (0 ≤ x9_1) = true := decide_eq_true c4
     clear c4
     by_cases c5 : x9_1 < (a0.size : Int)
     ·rw [if_pos c5] at H
      have c5b0 : decide (x9_1 < (a0.size : Int)) = true := decide_eq_true c5
      clear c5
      by_cases c7 : (bt a0 x9_1) = a1
      ·rw [if_pos c7] at H
       have c7b0 : ((bt a0 x9_1) == a1) = true := beq_iff_eq.mpr c7
       have c7b1 : ((bt a0 x9_1) != a1) = false := bne_eq_false_iff_eq.mpr c7
       clear c7
       have c8b0 := eq_true (of_decide_eq_true (by first | (with_reducible assumption) | assumption) : 0 ≤ x9_1)
       obtain ⟨ji9, hji9⟩ : ∃ j_ : Int, (shl .u64 1 x9_1) = j_ := ⟨_, rfl⟩
       replace H : (impl_peq.l0 k1 a0 a1 (Go.bits .or .u64 x5_1 (ji9)) (a0.size : Int) (wrap64 (x9_1 + 1))) = some r := by first | (rw [hji9] at H; exact H) | (simp only [hji9] at H ⊢; exact H)
       have hji9_ : (IntKind.u64.wrap (1 * 2 ^ min x9_1.toNat 64)) = ji9 := hji9
       have hji9z : x9_1 ≤ 64 → (IntKind.u64.wrap (1 * 2 ^ x9_1.toNat)) = ji9 := shl_small hji9
       have hji9u : (IntKind.u64.wrap (2 ^ min x9_1.toNat 64)) = ji9 := by have h_ := hji9_; rw [Int.one_mul] at h_; exact h_
       have hji9v : x9_1 ≤ 64 → (IntKind.u64.wrap (2 ^ x9_1.toNat)) = ji9 := fun hle_ => by have h_ := hji9z hle_; rw [Int.one_mul] at h_; exact h_
       have H' := Aside0.mk H
       clear H
       have p6 : 0 ≤ (x9_1 : Int) := of_decide_eq_true (by first | (with_reducible assumption) | assumption)
       have q6 : x9_1 < (a0.size : Int) := of_decide_eq_true (by first | (with_reducible assumption) | assumption)
       have hx6 := bt_at a0 x9_1
       replace p6 := eq_true p6
       replace q6 := eq_true q6
       go_wp2
       go_roundg k1
       case measure => have := HK1.out; omega
       case rel => exact ⟨(Go.bits .or .u64 x5_1 (ji9)), (wrap64 (x9_1 + 1)), (by first | rfl | (simp; done) | (simp only [← hji9] <;> (first | rfl | simp)) | (simp [*]; done)), (by first | rfl | (simp; done) | (simp [*]; done)), H', ⟨by have := HK1.out; omega⟩, by repeat (first | exact Drawn0.refl _ | apply Drawn0.step)⟩
      ·rw [if_neg c7] at H
       have c7b0 : ((bt a0 x9_1) == a1) = false := beq_eq_false_iff_ne.mpr c7
       have c7b1 : ((bt a0 x9_1) != a1) = true := bne_iff_ne.mpr c7
       have H' := Aside0.mk H
       clear H
       have p6 : 0 ≤ (x9_1 : Int) := of_decide_eq_true (by first | (with_reducible assumption) | assumption)
       have q6 : x9_1 < (a0.size : Int) := of_decide_eq_true (by first | (with_reducible assumption) | assumption)
       have hx6 := bt_at a0 x9_1
       replace p6 := eq_true p6
       replace q6 := eq_true q6
       go_wp2
       go_roundg k1
       case measure => have := HK1.out; omega
       case rel => exact ⟨(x5_1), (wrap64 (x9_1 + 1)), (by first | rfl | (simp; done) | (simp [*]; done)), (by first | rfl | (simp; done) | (simp [*]; done)), H', ⟨by have := HK1.out; omega⟩, by repeat (first | exact Drawn0.refl _ | apply Drawn0.step)⟩
     ·rw [if_neg c5] at H
      exact absurd H (by simp)
    ·rw [if_neg c4] at H
     exact absurd H (by simp)
   ·rw [if_neg c3] at H
    have c3b0 : decide (x9_1 < (a0.size : Int)) = false := decide_eq_false c3
    clear c3
    obtain rfl := Option.some.inj H
    go_wp2
    go_ret
    exact ⟨by first | rfl | (simp; done) | (simp [*]; done), by repeat (first | exact Drawn0.refl _ | apply Drawn0.step)⟩

/-! ### impl_MyersPeq: function 45 -/
def impl_MyersPeq.f (k : Nat) (a0 : ByteArray) (a1 : Int) : Option (Int) := if (a0.size : Int) > 32 then (some 0) else ((impl_peq.f k a0 a1).bind fun t282 => (some t282))
theorem impl_MyersPeq.mono : ∀ a0 a1 k, LeO (impl_MyersPeq.f k a0 a1) (impl_MyersPeq.f (k + 1) a0 a1) := by
 intro a0 a1 k
 unfold impl_MyersPeq.f
 repeat' first
   | (with_reducible exact impl_peq.mono _ _ _)
   | (with_reducible exact LeO.refl _)
   | (with_reducible exact LeO.none _)
   | (with_reducible refine LeO.ite ?_ ?_)
   | (with_reducible refine LeO.bind ?_ (fun _ => ?_))
   | exact impl_peq.mono _ _ _
   | exact LeO.none _
   | refine LeO.ite ?_ ?_
   | refine LeO.bind ?_ (fun _ => ?_)
set_option maxHeartbeats 8000000 in
set_option maxRecDepth 100000 in
theorem impl_MyersPeq.calls (k : Nat) (a0 : ByteArray) (a1 : Int) (r : Int) (w : World) (h : impl_MyersPeq.f k a0 a1 = some r) :
  Calls Try.prog 45 #[.string a0, .int .u8 a1] w fun e w' => e = .returned (.int .u64 r) ∧ Drawn0 w w' := by
 have H : (if (a0.size : Int) > 32 then (some 0) else ((impl_peq.f k a0 a1).bind fun t282 => (some t282))) = some r := h
 clear h
 by_cases c3 : (a0.size : Int) > 32
 ·rw [if_pos c3] at H
  have c3b0 : decide (32 < (a0.size : Int)) = true := decide_eq_true c3
  have c3b1 : decide (32 < a0.size) = true := decide_eq_true (by omega)
  clear c3
  obtain rfl := Option.some.inj H
  go_enter Try.func45, Try.ntmps45
  go_wp2
  go_ret
  exact ⟨by first | rfl | (simp; done) | (simp [*]; done), by repeat (first | exact Drawn0.refl _ | apply Drawn0.step)⟩
 ·rw [if_neg c3] at H
  have c3b0 : decide (32 < (a0.size : Int)) = false := decide_eq_false c3
  have c3b1 : decide (32 < a0.size) = false := decide_eq_false (by omega)
  clear c3
  replace H := Option.bind_eq_some_iff.mp H
  obtain ⟨t282, A40, H⟩ := H
  replace H : (some t282) = some r := H
  have A4 := Aside0.mk A40
  clear A40
  obtain rfl := Option.some.inj H
  go_enter Try.func45, Try.ntmps45
  go_wp2_with (first | ((with_reducible refine gate_callee (f := 76) rfl ?_); refine goesL_ (some 10) rfl rfl Try.func76 (by kernel_rfl) rfl #[.string a0, .int .u8 a1] rfl (by (try simp only [List.map_toArray, List.map_cons, List.map_nil]); first | done | rfl | (simp only [List.length_drop, List.length_take]; rfl)) ?_; (with_reducible refine (impl_peq.calls k a0 a1 t282 _ A4.out).mono ?_); rintro e w' ⟨rfl, ⟨nd, rfl⟩⟩; refine ⟨_, rfl, ?_⟩))
  go_ret
  exact ⟨by first | rfl | (simp; done) | (simp [*]; done), by repeat (first | exact Drawn0.refl _ | apply Drawn0.step)⟩

end Go.Proofs.Ytnmalfhdndnelaa.PFnColumns
