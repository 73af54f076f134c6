/- The functions that the law FnMyers reaches, as plain Lean functions, and the walks that show that Go comes to their answers; part 5. Its lines are the print's, turned where Lean refused them. -/
import Derived.Test.YtbibgmmoompoiaaQFnMyersx0
import Derived.Test.YtbibgmmoompoiaaQFnMyersx3
import Derived.Test.YtbibgmmoompoiaaQFnMyersx4
namespace Go.Proofs.Ytbibgmmoompoiaa.PFnMyers
open Go.RowKit Go.Proofs.YtbibgmmoompoiaaW.PrintWords Go.Proofs.YtbibgmmoompoiaaW.PrintLast Go.Proofs.YtbibgmmoompoiaaW.PrintMore
attribute [local go_sem] max2_int min2_int max_two min_two max_three min_three max_four min_four   -- for this text's walks alone
set_option linter.unusedVariables false
set_option linter.unusedSimpArgs false

/-! ### spec_l01Cur_pair: function 32 -/
def spec_l01Cur_pair.l0 : Nat → ByteArray → ByteArray → Int → List Int → Int → Int → Option (ByteArray × ByteArray × Int × Int)
  | 0, _, _, _, _, _, _ => none
  | k + 1, x4, x5, x6, x1000, x1001, x1002 => if x6 > 0 then ((spec_l01Cur_pick.f x1000 x1001 x1002 (wrap64 ((x5.size : Int) + 1))).bind fun bt220 => (if 0 ≤ bt220.1 then (if bt220.1 ≤ (x5.size : Int) then ((some (([(⟨#[]⟩ : ByteArray), (⟨#[97]⟩ : ByteArray), (⟨#[98]⟩ : ByteArray), (⟨#[120]⟩ : ByteArray)] : List ByteArray) : List ByteArray)).bind fun y223 => ((spec_l01Cur_pick.f x1000 bt220.2.1 bt220.2.2 4).bind fun bt226 => (if 0 ≤ bt226.1 then (if bt226.1 < (y223.length : Int) then (if (x5.extract 0 (bt220.1 : Int).toNat).size + (rdOf ByteArray.empty y223 bt226.1).size ≤ 9223372036854775807 then ((spec_l01Cur_pick.f x1000 bt226.2.1 bt226.2.2 2).bind fun bt230 => (if 0 ≤ (mn (x5.size : Int) (wrap64 (bt220.1 + bt230.1))) then (if (mn (x5.size : Int) (wrap64 (bt220.1 + bt230.1))) ≤ (x5.size : Int) then (if ((x5.extract 0 (bt220.1 : Int).toNat) ++ (rdOf ByteArray.empty y223 bt226.1)).size + (x5.extract ((mn (x5.size : Int) (wrap64 (bt220.1 + bt230.1))) : Int).toNat x5.size).size ≤ 9223372036854775807 then (spec_l01Cur_pair.l0 k x4 (((x5.extract 0 (bt220.1 : Int).toNat) ++ (rdOf ByteArray.empty y223 bt226.1)) ++ (x5.extract ((mn (x5.size : Int) (wrap64 (bt220.1 + bt230.1))) : Int).toNat x5.size)) (wrap64 (x6 - 1)) x1000 bt230.2.1 bt230.2.2) else (none)) else (none)) else (none))) else (none)) else (none)) else (none)))) else (none)) else (none))) else (some (x4, x5, x1001, x1002))
def spec_l01Cur_pair.f (k : Nat) (s0_0 : List Int) (s0_1 : Int) (s0_2 : Int) : Option (ByteArray × ByteArray × Int × Int) := (spec_l01Cur_badWord.f k s0_0 s0_1 s0_2).bind fun bt208 => ((spec_l01Cur_once.f s0_0 bt208.2.1 bt208.2.2 3).bind fun bt211 => (if bt211.1 = true then ((spec_l01Cur_badWord.f k s0_0 bt211.2.1 bt211.2.2).bind fun bt214 => (some (bt208.1, bt214.1, bt214.2.1, bt214.2.2))) else ((spec_l01Cur_pick.f s0_0 bt211.2.1 bt211.2.2 4).bind fun bt217 => (spec_l01Cur_pair.l0 k bt208.1 bt208.1 bt217.1 s0_0 bt217.2.1 bt217.2.2))))
theorem spec_l01Cur_pair.mono_l : ∀ k, (∀ y0 y1 y2 y3 y4 y5, LeO (spec_l01Cur_pair.l0 k y0 y1 y2 y3 y4 y5) (spec_l01Cur_pair.l0 (k + 1) y0 y1 y2 y3 y4 y5))
  | 0 => fun _ _ _ _ _ _ r h => by simp [spec_l01Cur_pair.l0] at h
  | k + 1 => by
    have ih0 := spec_l01Cur_pair.mono_l k
    · intro y0 y1 y2 y3 y4 y5
      unfold spec_l01Cur_pair.l0
      repeat' first
      | (with_reducible exact ih0 _ _ _ _ _ _)
      | (with_reducible exact spec_l01Cur_badWord.mono _ _ _ _)
      | (with_reducible exact LeO.refl _)
      | (with_reducible exact LeO.none _)
      | (with_reducible refine LeO.ite ?_ ?_)
      | (with_reducible refine LeO.bind ?_ (fun _ => ?_))
      | exact ih0 _ _ _ _ _ _
      | exact spec_l01Cur_badWord.mono _ _ _ _
      | exact LeO.none _
      | refine LeO.ite ?_ ?_
      | refine LeO.bind ?_ (fun _ => ?_)
theorem spec_l01Cur_pair.mono : ∀ a0 a1 a2 k, LeO (spec_l01Cur_pair.f k a0 a1 a2) (spec_l01Cur_pair.f (k + 1) a0 a1 a2) := by
  intro a0 a1 a2 k
  have ih0 := spec_l01Cur_pair.mono_l k
  unfold spec_l01Cur_pair.f
  repeat' first
      | (with_reducible exact ih0 _ _ _ _ _ _)
      | (with_reducible exact spec_l01Cur_badWord.mono _ _ _ _)
      | (with_reducible exact LeO.refl _)
      | (with_reducible exact LeO.none _)
      | (with_reducible refine LeO.ite ?_ ?_)
      | (with_reducible refine LeO.bind ?_ (fun _ => ?_))
      | exact ih0 _ _ _ _ _ _
      | exact spec_l01Cur_badWord.mono _ _ _ _
      | exact LeO.none _
      | refine LeO.ite ?_ ?_
      | refine LeO.bind ?_ (fun _ => ?_)
def spec_l01Cur_pair.T9 : Bool × List (List Nat × List Nat) := (true, [([], []), ([], []), ([0, 1], [0, 1]), ([], []), ([], []), ([4], [4]), ([3, 5], [3, 5]), ([6], [6]), ([2, 7], [2, 7]), ([], []), ([], []), ([10], [10]), ([], []), ([], []), ([13, 5], [13]), ([12, 14], [12, 14]), ([11, 15], [11, 15]), ([9, 16], [9, 16]), ([8, 17], [8, 17]), ([18, 14, 0, 1, 2, 3, 4, 5, 6, 7, 8, 9, 10, 11, 12, 13, 14, 15, 16, 17, 18], [0, 9, 10, 18])])
def spec_l01Cur_pair.B9 : List Nat := [0, 0, 3, 0, 0, 16, 56, 120, 255, 0, 0, 1024, 0, 0, 8240, 28720, 64560, 130608, 262143, 524287]
theorem spec_l01Cur_pair.tab9 : rtab .any (opsOf Try.f32 9) = spec_l01Cur_pair.T9 := by kernel_rfl
theorem spec_l01Cur_pair.bits9 : waitsOk spec_l01Cur_pair.T9.2 spec_l01Cur_pair.B9 = true := by kernel_rfl
set_option maxHeartbeats 8000000 in
set_option maxRecDepth 100000 in
theorem spec_l01Cur_pair.calls (k : Nat) (g : Nat) (s0_0 : List Int) (s0_1 : Int) (s0_2 : Int) (r1 : ByteArray) (r2 : ByteArray) (r3 : Int) (r4 : Int) (w0 w : World) (hI : IsS46 w0 w g s0_0 s0_1 s0_2) (hB : Below w0.heap.size w0 w) (h : spec_l01Cur_pair.f k s0_0 s0_1 s0_2 = some (r1, r2, r3, r4)) :
    Calls Try.prog 32 #[.pointer (some ⟨g, 0, none⟩)] w fun e w' => e = .returned (.tuple #[.string r1, .string r2]) ∧ IsS46 w0 w' g s0_0 r3 r4 ∧ Below w0.heap.size w0 w' ∧ KeepBut w w' g none := by
  have HI0 := Aside0.mk hI
  have HK := Aside0.mk (KeepBut.refl w g none)
  have HL := Aside0.mk hB.size
  clear hI
  have HW0 := Aside0.mk hB.size
  have HB := Aside0.mk hB
  clear hB
  have H : ((spec_l01Cur_badWord.f k s0_0 s0_1 s0_2).bind fun bt208 => ((spec_l01Cur_once.f s0_0 bt208.2.1 bt208.2.2 3).bind fun bt211 => (if bt211.1 = true then ((spec_l01Cur_badWord.f k s0_0 bt211.2.1 bt211.2.2).bind fun bt214 => (some (bt208.1, bt214.1, bt214.2.1, bt214.2.2))) else ((spec_l01Cur_pick.f s0_0 bt211.2.1 bt211.2.2 4).bind fun bt217 => (spec_l01Cur_pair.l0 k bt208.1 bt208.1 bt217.1 s0_0 bt217.2.1 bt217.2.2))))) = some (r1, r2, r3, r4) := h
  clear h
  replace H := Option.bind_eq_some_iff.mp H
  obtain ⟨⟨t208, t209, t210⟩, A20, H⟩ := H
  replace H : ((spec_l01Cur_once.f s0_0 t209 t210 3).bind fun bt211 => (if bt211.1 = true then ((spec_l01Cur_badWord.f k s0_0 bt211.2.1 bt211.2.2).bind fun bt214 => (some (t208, bt214.1, bt214.2.1, bt214.2.2))) else ((spec_l01Cur_pick.f s0_0 bt211.2.1 bt211.2.2 4).bind fun bt217 => (spec_l01Cur_pair.l0 k t208 t208 bt217.1 s0_0 bt217.2.1 bt217.2.2)))) = some (r1, r2, r3, r4) := H
  have A2 := Aside0.mk A20
  clear A20
  replace H := Option.bind_eq_some_iff.mp H
  obtain ⟨⟨t211, t212, t213⟩, A30, H⟩ := H
  replace H : (if t211 = true then ((spec_l01Cur_badWord.f k s0_0 t212 t213).bind fun bt214 => (some (t208, bt214.1, bt214.2.1, bt214.2.2))) else ((spec_l01Cur_pick.f s0_0 t212 t213 4).bind fun bt217 => (spec_l01Cur_pair.l0 k t208 t208 bt217.1 s0_0 bt217.2.1 bt217.2.2))) = some (r1, r2, r3, r4) := H
  have A3 := Aside0.mk A30
  clear A30
  by_cases c4 : t211 = true
  · subst c4
    have H1 : ((spec_l01Cur_badWord.f k s0_0 t212 t213).bind fun bt214 => (some (t208, bt214.1, bt214.2.1, bt214.2.2))) = some (r1, r2, r3, r4) := by rw [if_pos rfl] at H; exact H
    clear H
    have H := H1
    clear H1
    replace H := Option.bind_eq_some_iff.mp H
    obtain ⟨⟨t214, t215, t216⟩, A50, H⟩ := H
    replace H : (some (t208, t214, t215, t216)) = some (r1, r2, r3, r4) := H
    have A5 := Aside0.mk A50
    clear A50
    simp only [Option.some.injEq, Prod.mk.injEq] at H
    obtain ⟨rfl, rfl, rfl, rfl⟩ := H
    go_enter Try.func32, Try.ntmps32
    go_wp2_with (first | ((with_reducible refine gate_callee (f := 29) rfl ?_); refine goesL_ (some 9) rfl rfl Try.func29 (by kernel_rfl) rfl #[.pointer (some ⟨g, 0, none⟩)] rfl (by (try simp only [List.map_toArray, List.map_cons, List.map_nil]); first | done | rfl | (simp only [List.length_drop, List.length_take]; rfl)) ?_; (with_reducible refine (spec_l01Cur_badWord.calls k g s0_0 s0_1 s0_2 t208 t209 t210 w0 _ ?side1 ?side2 A2.out).mono ?_); (case side1 => repeat (first | (with_reducible first | exact HI0.out | apply IsS46.alloc | apply IsS46.drewN | apply IsS46.drew | apply IsS46.set_1 | apply IsS46.set_2) | exact HI0.out)); (case side2 => repeat (first | (with_reducible first | exact HB.out | apply below_alloc | apply pw_below_drewN | apply below_drew1 | refine below_set ?_ (IsS46.ge HI0.out)) | exact HB.out)); rintro e w6 ⟨rfl, hi, hb, hk⟩; refine ⟨_, rfl, ?_⟩; have n0_ := Aside0.mk (KeepBut.trans (by repeat (first | (with_reducible first | exact HK.out | apply KeepBut.set_ | apply keep_drewN | apply keep_drew | apply keep_alloc) | exact HK.out)) hk (.inl rfl)); have n1_ := Aside0.mk (hb); have n2_ := Aside0.mk (hi); clear HK; clear HB; clear HI0; have HK := n0_; have HB := n1_; have HI0 := n2_; clear n0_ n1_ n2_; (try clear hb); (try clear hb2); (try clear hk); (try clear hi)) | ((with_reducible refine gate_callee (f := 41) rfl ?_); refine goesL_ (some 11) rfl rfl Try.func41 (by kernel_rfl) rfl #[.pointer (some ⟨g, 0, none⟩), .int .i64 3] rfl (by (try simp only [List.map_toArray, List.map_cons, List.map_nil]); first | done | rfl | (simp only [List.length_drop, List.length_take]; rfl)) ?_; (with_reducible refine (spec_l01Cur_once.calls g s0_0 t209 t210 3 true t212 t213 w0 _ ?side1 ?side2 A3.out).mono ?_); (case side1 => repeat (first | (with_reducible first | exact HI0.out | apply IsS46.alloc | apply IsS46.drewN | apply IsS46.drew | apply IsS46.set_1 | apply IsS46.set_2) | exact HI0.out)); (case side2 => repeat (first | (with_reducible first | exact HB.out | apply below_alloc | apply pw_below_drewN | apply below_drew1 | refine below_set ?_ (IsS46.ge HI0.out)) | exact HB.out)); rintro e w7 ⟨rfl, hi, hb, hk⟩; refine ⟨_, rfl, ?_⟩; have n0_ := Aside0.mk (KeepBut.trans (by repeat (first | (with_reducible first | exact HK.out | apply KeepBut.set_ | apply keep_drewN | apply keep_drew | apply keep_alloc) | exact HK.out)) hk (.inl rfl)); have n1_ := Aside0.mk (hb); have n2_ := Aside0.mk (hi); clear HK; clear HB; clear HI0; have HK := n0_; have HB := n1_; have HI0 := n2_; clear n0_ n1_ n2_; (try clear hb); (try clear hb2); (try clear hk); (try clear hi)) | ((with_reducible refine gate_callee (f := 29) rfl ?_); refine goesL_ (some 14) rfl rfl Try.func29 (by kernel_rfl) rfl #[.pointer (some ⟨g, 0, none⟩)] rfl (by (try simp only [List.map_toArray, List.map_cons, List.map_nil]); first | done | rfl | (simp only [List.length_drop, List.length_take]; rfl)) ?_; (with_reducible refine (spec_l01Cur_badWord.calls k g s0_0 t212 t213 t214 t215 t216 w0 _ ?side1 ?side2 A5.out).mono ?_); (case side1 => repeat (first | (with_reducible first | exact HI0.out | apply IsS46.alloc | apply IsS46.drewN | apply IsS46.drew | apply IsS46.set_1 | apply IsS46.set_2) | exact HI0.out)); (case side2 => repeat (first | (with_reducible first | exact HB.out | apply below_alloc | apply pw_below_drewN | apply below_drew1 | refine below_set ?_ (IsS46.ge HI0.out)) | exact HB.out)); rintro e w8 ⟨rfl, hi, hb, hk⟩; refine ⟨_, rfl, ?_⟩; have n0_ := Aside0.mk (KeepBut.trans (by repeat (first | (with_reducible first | exact HK.out | apply KeepBut.set_ | apply keep_drewN | apply keep_drew | apply keep_alloc) | exact HK.out)) hk (.inl rfl)); have n1_ := Aside0.mk (hb); have n2_ := Aside0.mk (hi); clear HK; clear HB; clear HI0; have HK := n0_; have HB := n1_; have HI0 := n2_; clear n0_ n1_ n2_; (try clear hb); (try clear hb2); (try clear hk); (try clear hi)))
    go_ret2
    exact ⟨by first | rfl | (simp [errW_none, errW_some] <;> rfl) | (simp [*, errW_none, errW_some] <;> rfl), by repeat (first | (with_reducible first | exact HI0.out | apply IsS46.alloc | apply IsS46.drewN | apply IsS46.drew | apply IsS46.set_1 | apply IsS46.set_2) | exact HI0.out), by repeat (first | (with_reducible first | exact HB.out | apply below_alloc | apply pw_below_drewN | apply below_drew1 | refine below_set ?_ (IsS46.ge HI0.out)) | exact HB.out), by repeat (first | (with_reducible first | exact HK.out | apply KeepBut.set_ | apply keep_drewN | apply keep_drew | apply keep_alloc) | exact HK.out)⟩
  · replace c4 := Bool.eq_false_iff.mpr c4
    subst c4
    have H1 : ((spec_l01Cur_pick.f s0_0 t212 t213 4).bind fun bt217 => (spec_l01Cur_pair.l0 k t208 t208 bt217.1 s0_0 bt217.2.1 bt217.2.2)) = some (r1, r2, r3, r4) := by rw [if_neg (show ¬ (false = true) by decide)] at H; exact H
    clear H
    have H := H1
    clear H1
    replace H := Option.bind_eq_some_iff.mp H
    obtain ⟨⟨t217, t218, t219⟩, A90, H⟩ := H
    replace H : (spec_l01Cur_pair.l0 k t208 t208 t217 s0_0 t218 t219) = some (r1, r2, r3, r4) := H
    have A9 := Aside0.mk A90
    clear A90
    have H' := Aside0.mk H
    clear H
    go_enter Try.func32, Try.ntmps32
    go_wp2_with (first | ((with_reducible refine gate_callee (f := 29) rfl ?_); refine goesL_ (some 9) rfl rfl Try.func29 (by kernel_rfl) rfl #[.pointer (some ⟨g, 0, none⟩)] rfl (by (try simp only [List.map_toArray, List.map_cons, List.map_nil]); first | done | rfl | (simp only [List.length_drop, List.length_take]; rfl)) ?_; (with_reducible refine (spec_l01Cur_badWord.calls k g s0_0 s0_1 s0_2 t208 t209 t210 w0 _ ?side1 ?side2 A2.out).mono ?_); (case side1 => repeat (first | (with_reducible first | exact HI0.out | apply IsS46.alloc | apply IsS46.drewN | apply IsS46.drew | apply IsS46.set_1 | apply IsS46.set_2) | exact HI0.out)); (case side2 => repeat (first | (with_reducible first | exact HB.out | apply below_alloc | apply pw_below_drewN | apply below_drew1 | refine below_set ?_ (IsS46.ge HI0.out)) | exact HB.out)); rintro e w10 ⟨rfl, hi, hb, hk⟩; refine ⟨_, rfl, ?_⟩; have n0_ := Aside0.mk (KeepBut.trans (by repeat (first | (with_reducible first | exact HK.out | apply KeepBut.set_ | apply keep_drewN | apply keep_drew | apply keep_alloc) | exact HK.out)) hk (.inl rfl)); have n1_ := Aside0.mk (hb); have n2_ := Aside0.mk (hi); clear HK; clear HB; clear HI0; have HK := n0_; have HB := n1_; have HI0 := n2_; clear n0_ n1_ n2_; (try clear hb); (try clear hb2); (try clear hk); (try clear hi)) | ((with_reducible refine gate_callee (f := 41) rfl ?_); refine goesL_ (some 11) rfl rfl Try.func41 (by kernel_rfl) rfl #[.pointer (some ⟨g, 0, none⟩), .int .i64 3] rfl (by (try simp only [List.map_toArray, List.map_cons, List.map_nil]); first | done | rfl | (simp only [List.length_drop, List.length_take]; rfl)) ?_; (with_reducible refine (spec_l01Cur_once.calls g s0_0 t209 t210 3 false t212 t213 w0 _ ?side1 ?side2 A3.out).mono ?_); (case side1 => repeat (first | (with_reducible first | exact HI0.out | apply IsS46.alloc | apply IsS46.drewN | apply IsS46.drew | apply IsS46.set_1 | apply IsS46.set_2) | exact HI0.out)); (case side2 => repeat (first | (with_reducible first | exact HB.out | apply below_alloc | apply pw_below_drewN | apply below_drew1 | refine below_set ?_ (IsS46.ge HI0.out)) | exact HB.out)); rintro e w11 ⟨rfl, hi, hb, hk⟩; refine ⟨_, rfl, ?_⟩; have n0_ := Aside0.mk (KeepBut.trans (by repeat (first | (with_reducible first | exact HK.out | apply KeepBut.set_ | apply keep_drewN | apply keep_drew | apply keep_alloc) | exact HK.out)) hk (.inl rfl)); have n1_ := Aside0.mk (hb); have n2_ := Aside0.mk (hi); clear HK; clear HB; clear HI0; have HK := n0_; have HB := n1_; have HI0 := n2_; clear n0_ n1_ n2_; (try clear hb); (try clear hb2); (try clear hk); (try clear hi)) | ((with_reducible refine gate_callee (f := 37) rfl ?_); refine goesL_ (some 17) rfl rfl Try.func37 (by kernel_rfl) rfl #[.pointer (some ⟨g, 0, none⟩), .int .i64 4] rfl (by (try simp only [List.map_toArray, List.map_cons, List.map_nil]); first | done | rfl | (simp only [List.length_drop, List.length_take]; rfl)) ?_; (with_reducible refine (spec_l01Cur_pick.calls g s0_0 t212 t213 4 t217 t218 t219 w0 _ ?side1 ?side2 A9.out).mono ?_); (case side1 => repeat (first | (with_reducible first | exact HI0.out | apply IsS46.alloc | apply IsS46.drewN | apply IsS46.drew | apply IsS46.set_1 | apply IsS46.set_2) | exact HI0.out)); (case side2 => repeat (first | (with_reducible first | exact HB.out | apply below_alloc | apply pw_below_drewN | apply below_drew1 | refine below_set ?_ (IsS46.ge HI0.out)) | exact HB.out)); rintro e w12 ⟨rfl, hi, hb, hk⟩; refine ⟨_, rfl, ?_⟩; have n0_ := Aside0.mk (KeepBut.trans (by repeat (first | (with_reducible first | exact HK.out | apply KeepBut.set_ | apply keep_drewN | apply keep_drew | apply keep_alloc) | exact HK.out)) hk (.inl rfl)); have n1_ := Aside0.mk (hb); have n2_ := Aside0.mk (hi); clear HK; clear HB; clear HI0; have HK := n0_; have HB := n1_; have HI0 := n2_; clear n0_ n1_ n2_; (try clear hb); (try clear hb2); (try clear hk); (try clear hi)))
    go_loopg [5, 6] k (fun kq v5 v6 w' => ∃ (x5_1 : ByteArray) (x6_1 : Int) (x1001_1 : Int) (x1002_1 : Int), v5 = .string x5_1 ∧ v6 = .int .i64 x6_1 ∧ Aside0 (spec_l01Cur_pair.l0 kq t208 x5_1 x6_1 s0_0 x1001_1 x1002_1 = some (r1, r2, r3, r4)) ∧ Aside0 (kq ≤ k) ∧ Aside0 (IsS46 w0 w' g s0_0 x1001_1 x1002_1) ∧ Aside0 (KeepBut w w' g none) ∧ Aside0 (Below w0.heap.size w0 w'))
    case atStart => exact ⟨(t208), (t217), (t218), (t219), (by first | rfl | (simp; done) | (simp [*]; done)), (by first | rfl | (simp; done) | (simp [*]; done)), H', ⟨Nat.le_refl _⟩, ⟨by repeat (first | (with_reducible first | exact HI0.out | apply IsS46.alloc | apply IsS46.drewN | apply IsS46.drew | apply IsS46.set_1 | apply IsS46.set_2) | exact HI0.out)⟩, ⟨by repeat (first | (with_reducible first | exact HK.out | apply KeepBut.set_ | apply keep_drewN | apply keep_drew | apply keep_alloc) | exact HK.out)⟩, ⟨by repeat (first | (with_reducible first | exact HB.out | apply below_alloc | apply pw_below_drewN | apply below_drew1 | refine below_set ?_ (IsS46.ge HI0.out)) | exact HB.out)⟩⟩
    case round =>
      clear H'
      try clear c2
      try clear p2
      try clear c3
      try clear c4
      obtain ⟨x5_1, x6_1, x1001_1, x1002_1, rfl, rfl, HA, HK1, HI0, HK, HB⟩ := hrel
      cases gk with
      | zero => exact absurd HA.out (by simp [spec_l01Cur_pair.l0])
      | succ k1 =>
        have H := HA.out
        clear HA
        simp only [spec_l01Cur_pair.l0] at H
        by_cases c13 : x6_1 > 0
        · rw [if_pos c13] at H
          have c13b0 : decide (0 < x6_1) = true := decide_eq_true c13
          clear c13
          replace H := Option.bind_eq_some_iff.mp H
          obtain ⟨⟨t220, t221, t222⟩, A140, H⟩ := H
          replace H : (if 0 ≤ t220 then (if t220 ≤ (x5_1.size : Int) then ((some (([(⟨#[]⟩ : ByteArray), (⟨#[97]⟩ : ByteArray), (⟨#[98]⟩ : ByteArray), (⟨#[120]⟩ : ByteArray)] : List ByteArray) : List ByteArray)).bind fun y223 => ((spec_l01Cur_pick.f s0_0 t221 t222 4).bind fun bt226 => (if 0 ≤ bt226.1 then (if bt226.1 < (y223.length : Int) then (if (x5_1.extract 0 (t220 : Int).toNat).size + (rdOf ByteArray.empty y223 bt226.1).size ≤ 9223372036854775807 then ((spec_l01Cur_pick.f s0_0 bt226.2.1 bt226.2.2 2).bind fun bt230 => (if 0 ≤ (mn (x5_1.size : Int) (wrap64 (t220 + bt230.1))) then (if (mn (x5_1.size : Int) (wrap64 (t220 + bt230.1))) ≤ (x5_1.size : Int) then (if ((x5_1.extract 0 (t220 : Int).toNat) ++ (rdOf ByteArray.empty y223 bt226.1)).size + (x5_1.extract ((mn (x5_1.size : Int) (wrap64 (t220 + bt230.1))) : Int).toNat x5_1.size).size ≤ 9223372036854775807 then (spec_l01Cur_pair.l0 k1 t208 (((x5_1.extract 0 (t220 : Int).toNat) ++ (rdOf ByteArray.empty y223 bt226.1)) ++ (x5_1.extract ((mn (x5_1.size : Int) (wrap64 (t220 + bt230.1))) : Int).toNat x5_1.size)) (wrap64 (x6_1 - 1)) s0_0 bt230.2.1 bt230.2.2) else (none)) else (none)) else (none))) else (none)) else (none)) else (none)))) else (none)) else (none)) = some (r1, r2, r3, r4) := H
          have A14 := Aside0.mk A140
          clear A140
          by_cases c15 : 0 ≤ t220
          · rw [if_pos c15] at H
            have c15b0 := eq_true c15
            have c15b1 : decide (0 ≤ t220) = true := decide_eq_true c15
            clear c15
            by_cases c16 : t220 ≤ (x5_1.size : Int)
            · rw [if_pos c16] at H
              have c16b0 := eq_true c16
              have c16b1 : decide (t220 ≤ (x5_1.size : Int)) = true := decide_eq_true c16
              clear c16
              obtain ⟨y223, hy223⟩ : ∃ y_ : List ByteArray, y_ = (([(⟨#[]⟩ : ByteArray), (⟨#[97]⟩ : ByteArray), (⟨#[98]⟩ : ByteArray), (⟨#[120]⟩ : ByteArray)] : List ByteArray)) := ⟨_, rfl⟩
              replace H : ((spec_l01Cur_pick.f s0_0 t221 t222 4).bind fun bt226 => (if 0 ≤ bt226.1 then (if bt226.1 < (y223.length : Int) then (if (x5_1.extract 0 (t220 : Int).toNat).size + (rdOf ByteArray.empty y223 bt226.1).size ≤ 9223372036854775807 then ((spec_l01Cur_pick.f s0_0 bt226.2.1 bt226.2.2 2).bind fun bt230 => (if 0 ≤ (mn (x5_1.size : Int) (wrap64 (t220 + bt230.1))) then (if (mn (x5_1.size : Int) (wrap64 (t220 + bt230.1))) ≤ (x5_1.size : Int) then (if ((x5_1.extract 0 (t220 : Int).toNat) ++ (rdOf ByteArray.empty y223 bt226.1)).size + (x5_1.extract ((mn (x5_1.size : Int) (wrap64 (t220 + bt230.1))) : Int).toNat x5_1.size).size ≤ 9223372036854775807 then (spec_l01Cur_pair.l0 k1 t208 (((x5_1.extract 0 (t220 : Int).toNat) ++ (rdOf ByteArray.empty y223 bt226.1)) ++ (x5_1.extract ((mn (x5_1.size : Int) (wrap64 (t220 + bt230.1))) : Int).toNat x5_1.size)) (wrap64 (x6_1 - 1)) s0_0 bt230.2.1 bt230.2.2) else (none)) else (none)) else (none))) else (none)) else (none)) else (none))) = some (r1, r2, r3, r4) := by first | (rw [hy223]; with_reducible exact H) | (have H2_ := (Option.bind_some _ _).symm.trans H; rw [hy223]; with_reducible exact H2_) | (have H2_ := (Option.bind_some _ _).symm.trans H; with_reducible exact H2_) | with_reducible exact H | (rw [hy223]; exact H) | exact H
              have Ny223 := Aside0.mk hy223
              clear hy223
              replace H := Option.bind_eq_some_iff.mp H
              obtain ⟨⟨t226, t227, t228⟩, A170, H⟩ := H
              replace H : (if 0 ≤ t226 then (if t226 < (y223.length : Int) then (if (x5_1.extract 0 (t220 : Int).toNat).size + (rdOf ByteArray.empty y223 t226).size ≤ 9223372036854775807 then ((spec_l01Cur_pick.f s0_0 t227 t228 2).bind fun bt230 => (if 0 ≤ (mn (x5_1.size : Int) (wrap64 (t220 + bt230.1))) then (if (mn (x5_1.size : Int) (wrap64 (t220 + bt230.1))) ≤ (x5_1.size : Int) then (if ((x5_1.extract 0 (t220 : Int).toNat) ++ (rdOf ByteArray.empty y223 t226)).size + (x5_1.extract ((mn (x5_1.size : Int) (wrap64 (t220 + bt230.1))) : Int).toNat x5_1.size).size ≤ 9223372036854775807 then (spec_l01Cur_pair.l0 k1 t208 (((x5_1.extract 0 (t220 : Int).toNat) ++ (rdOf ByteArray.empty y223 t226)) ++ (x5_1.extract ((mn (x5_1.size : Int) (wrap64 (t220 + bt230.1))) : Int).toNat x5_1.size)) (wrap64 (x6_1 - 1)) s0_0 bt230.2.1 bt230.2.2) else (none)) else (none)) else (none))) else (none)) else (none)) else (none)) = some (r1, r2, r3, r4) := H
              have A17 := Aside0.mk A170
              clear A170
              by_cases c18 : 0 ≤ t226
              · rw [if_pos c18] at H
                have c18b0 : decide (0 ≤ t226) = true := decide_eq_true c18
                clear c18
                by_cases c19 : t226 < (y223.length : Int)
                · rw [if_pos c19] at H
                  have c19b0 : decide (t226 < (y223.length : Int)) = true := decide_eq_true c19
                  clear c19
                  by_cases c20 : (x5_1.extract 0 (t220 : Int).toNat).size + (rdOf ByteArray.empty y223 t226).size ≤ 9223372036854775807
                  · rw [if_pos c20] at H
                    have c20b0 := eq_true c20
                    have c20b1 : decide ((x5_1.extract 0 (t220 : Int).toNat).size + (rdOf ByteArray.empty y223 t226).size ≤ 9223372036854775807) = true := decide_eq_true c20
                    try have c20b2 : (9223372036854775807 < (x5_1.extract 0 (t220 : Int).toNat).size + (rdOf ByteArray.empty y223 t226).size) = False := eq_false (Nat.not_lt.2 c20)
                    replace H := Option.bind_eq_some_iff.mp H
                    obtain ⟨⟨t230, t231, t232⟩, A210, H⟩ := H
                    replace H : (if 0 ≤ (mn (x5_1.size : Int) (wrap64 (t220 + t230))) then (if (mn (x5_1.size : Int) (wrap64 (t220 + t230))) ≤ (x5_1.size : Int) then (if ((x5_1.extract 0 (t220 : Int).toNat) ++ (rdOf ByteArray.empty y223 t226)).size + (x5_1.extract ((mn (x5_1.size : Int) (wrap64 (t220 + t230))) : Int).toNat x5_1.size).size ≤ 9223372036854775807 then (spec_l01Cur_pair.l0 k1 t208 (((x5_1.extract 0 (t220 : Int).toNat) ++ (rdOf ByteArray.empty y223 t226)) ++ (x5_1.extract ((mn (x5_1.size : Int) (wrap64 (t220 + t230))) : Int).toNat x5_1.size)) (wrap64 (x6_1 - 1)) s0_0 t231 t232) else (none)) else (none)) else (none)) = some (r1, r2, r3, r4) := H
                    have A21 := Aside0.mk A210
                    clear A210
                    obtain ⟨ji22, hji22⟩ : ∃ j_ : Int, (mn (x5_1.size : Int) (wrap64 (t220 + t230))) = j_ := ⟨_, rfl⟩
                    replace H : (if 0 ≤ (ji22) then (if (ji22) ≤ (x5_1.size : Int) then (if ((x5_1.extract 0 (t220 : Int).toNat) ++ (rdOf ByteArray.empty y223 t226)).size + (x5_1.extract ((ji22) : Int).toNat x5_1.size).size ≤ 9223372036854775807 then (spec_l01Cur_pair.l0 k1 t208 (((x5_1.extract 0 (t220 : Int).toNat) ++ (rdOf ByteArray.empty y223 t226)) ++ (x5_1.extract ((ji22) : Int).toNat x5_1.size)) (wrap64 (x6_1 - 1)) s0_0 t231 t232) else (none)) else (none)) else (none)) = some (r1, r2, r3, r4) := by first | (rw [hji22] at H; exact H) | (simp only [hji22] at H ⊢; exact H)
                    (try rw [hji22] at A14)
                    (try rw [hji22] at A17)
                    (try rw [hji22] at A21)
                    have hji22_ : (if (wrap64 (t220 + t230)) < (x5_1.size : Int) then (wrap64 (t220 + t230)) else (x5_1.size : Int)) = ji22 := hji22
                    by_cases c23 : 0 ≤ (ji22)
                    · rw [if_pos c23] at H
                      have c23b0 := eq_true c23
                      have c23b1 : decide (0 ≤ (ji22)) = true := decide_eq_true c23
                      clear c23
                      by_cases c24 : (ji22) ≤ (x5_1.size : Int)
                      · rw [if_pos c24] at H
                        have c24b0 := eq_true c24
                        have c24b1 : decide ((ji22) ≤ (x5_1.size : Int)) = true := decide_eq_true c24
                        clear c24
                        by_cases c25 : ((x5_1.extract 0 (t220 : Int).toNat) ++ (rdOf ByteArray.empty y223 t226)).size + (x5_1.extract ((ji22) : Int).toNat x5_1.size).size ≤ 9223372036854775807
                        · rw [if_pos c25] at H
                          have c25b0 := eq_true c25
                          have c25b1 : decide (((x5_1.extract 0 (t220 : Int).toNat) ++ (rdOf ByteArray.empty y223 t226)).size + (x5_1.extract ((ji22) : Int).toNat x5_1.size).size ≤ 9223372036854775807) = true := decide_eq_true c25
                          try have c25b2 : (9223372036854775807 < ((x5_1.extract 0 (t220 : Int).toNat) ++ (rdOf ByteArray.empty y223 t226)).size + (x5_1.extract ((ji22) : Int).toNat x5_1.size).size) = False := eq_false (Nat.not_lt.2 c25)
                          have H' := Aside0.mk H
                          clear H
                          try go_wp2_with (first | ((with_reducible refine gate_callee (f := 37) rfl ?_); refine goesL_ (some 26) rfl rfl Try.func37 (by kernel_rfl) rfl #[.pointer (some ⟨g, 0, none⟩), .int .i64 (wrap64 ((x5_1.size : Int) + 1))] rfl (by (try simp only [List.map_toArray, List.map_cons, List.map_nil]); first | done | rfl | (simp only [List.length_drop, List.length_take]; rfl)) ?_; (with_reducible refine (spec_l01Cur_pick.calls g s0_0 x1001_1 x1002_1 (wrap64 ((x5_1.size : Int) + 1)) t220 t221 t222 w0 _ ?side1 ?side2 A14.out).mono ?_); (case side1 => repeat (first | (with_reducible first | exact HI0.out | apply IsS46.alloc | apply IsS46.drewN | apply IsS46.drew | apply IsS46.set_1 | apply IsS46.set_2) | exact HI0.out)); (case side2 => repeat (first | (with_reducible first | exact HB.out | apply below_alloc | apply pw_below_drewN | apply below_drew1 | refine below_set ?_ (IsS46.ge HI0.out)) | exact HB.out)); rintro e w26 ⟨rfl, hi, hb, hk⟩; refine ⟨_, rfl, ?_⟩; have n0_ := Aside0.mk (KeepBut.trans (by repeat (first | (with_reducible first | exact HK.out | apply KeepBut.set_ | apply keep_drewN | apply keep_drew | apply keep_alloc) | exact HK.out)) hk (.inl rfl)); have n1_ := Aside0.mk (hb); have n2_ := Aside0.mk (hi); clear HK; clear HB; clear HI0; have HK := n0_; have HB := n1_; have HI0 := n2_; clear n0_ n1_ n2_; (try clear hb); (try clear hb2); (try clear hk); (try clear hi)))
                          have pi229 : (0 ≤ (t226 : Int)) = True := eq_true (of_decide_eq_true (by first | (with_reducible assumption) | assumption))
                          have qi229 : (t226 < (y223.length : Int)) = True := eq_true (of_decide_eq_true (by first | (with_reducible assumption) | assumption))
                          have n0_ := Aside0.mk (IsS46.drew HI0.out)
                          have n1_ := Aside0.mk (keep_drew HK.out)
                          have n2_ := Aside0.mk (below_drew1 HB.out)
                          clear HI0
                          clear HK
                          clear HB
                          have HI0 := n0_
                          have HK := n1_
                          have HB := n2_
                          clear n0_ n1_ n2_
                          refine start_ (n := 20) (S := fun w' => True) (ds := []) #[false, false, false, false, false, false, false, false, false, false, false, false, false, false, false, false, false, false, false, false] (by kernel_rfl) rfl rfl trivial (fun hHeld => ?_); refine with_tabW spec_l01Cur_pair.tab9 spec_l01Cur_pair.bits9 (fun HT_ HW_ => ?_)
                          generalize w26.drew = w27 at HI0 HK HB hHeld ⊢
                          refine pure_ (i := 0) (N := some 27) (v := ?_) (a' := ?_) #[true, false, false, false, false, false, false, false, false, false, false, false, false, false, false, false, false, false, false, false] rfl rfl (any_of HT_.out (by kernel_rfl)) (fun _ _ _ h => h) (Or.inl ⟨by rfl, ?_⟩) ?_ ?_
                          rotate_left
                          · intro w'
                            go_simp
                            with_reducible rfl
                          rotate_left
                          · simp only [Act.put, List.setIfInBounds_toArray, List.set_cons_zero, List.set_cons_succ, i64_w, i32_w]
                            rfl
                          refine pure_ (i := 1) (N := some 28) (v := ?_) (a' := ?_) #[true, true, false, false, false, false, false, false, false, false, false, false, false, false, false, false, false, false, false, false] rfl rfl (any_of HT_.out (by kernel_rfl)) (fun _ _ _ h => h) (Or.inl ⟨by rfl, ?_⟩) ?_ ?_
                          rotate_left
                          · intro w'
                            go_simp
                            with_reducible rfl
                          rotate_left
                          · simp only [Act.put, List.setIfInBounds_toArray, List.set_cons_zero, List.set_cons_succ, i64_w, i32_w]
                            rfl
                          refine pure_ (i := 4) (N := some 31) (v := ?_) (a' := ?_) #[true, true, false, false, true, false, false, false, false, false, false, false, false, false, false, false, false, false, false, false] rfl rfl (any_of HT_.out (by kernel_rfl)) (fun _ _ _ h => h) (Or.inl ⟨by rfl, ?_⟩) ?_ ?_
                          rotate_left
                          · intro w'
                            go_simp
                            with_reducible rfl
                          rotate_left
                          · simp only [Act.put, List.setIfInBounds_toArray, List.set_cons_zero, List.set_cons_succ, i64_w, i32_w]
                            rfl
                          refine pure_ (i := 9) (N := some 36) (v := ?_) (a' := ?_) #[true, true, false, false, true, false, false, false, false, true, false, false, false, false, false, false, false, false, false, false] rfl rfl (any_of HT_.out (by kernel_rfl)) (fun _ _ _ h => h) (Or.inl ⟨by rfl, ?_⟩) ?_ ?_
                          rotate_left
                          · intro w'
                            go_simp
                            with_reducible rfl
                          rotate_left
                          · simp only [Act.put, List.setIfInBounds_toArray, List.set_cons_zero, List.set_cons_succ, i64_w, i32_w]
                            rfl
                          refine pure_ (i := 10) (N := some 37) (v := ?_) (a' := ?_) #[true, true, false, false, true, false, false, false, false, true, true, false, false, false, false, false, false, false, false, false] rfl rfl (any_of HT_.out (by kernel_rfl)) (fun _ _ _ h => h) (Or.inl ⟨by rfl, ?_⟩) ?_ ?_
                          rotate_left
                          · intro w'
                            go_simp
                            with_reducible rfl
                          rotate_left
                          · simp only [Act.put, List.setIfInBounds_toArray, List.set_cons_zero, List.set_cons_succ, i64_w, i32_w]
                            rfl
                          refine pure_ (i := 12) (N := some 39) (v := ?_) (a' := ?_) #[true, true, false, false, true, false, false, false, false, true, true, false, true, false, false, false, false, false, false, false] rfl rfl (any_of HT_.out (by kernel_rfl)) (fun _ _ _ h => h) (Or.inl ⟨by rfl, ?_⟩) ?_ ?_
                          rotate_left
                          · intro w'
                            go_simp
                            with_reducible rfl
                          rotate_left
                          · simp only [Act.put, List.setIfInBounds_toArray, List.set_cons_zero, List.set_cons_succ, i64_w, i32_w]
                            rfl
                          refine pure_ (i := 13) (N := some 40) (v := ?_) (a' := ?_) #[true, true, false, false, true, false, false, false, false, true, true, false, true, true, false, false, false, false, false, false] rfl rfl (any_of HT_.out (by kernel_rfl)) (fun _ _ _ h => h) (Or.inl ⟨by rfl, ?_⟩) ?_ ?_
                          rotate_left
                          · intro w'
                            go_simp
                            with_reducible rfl
                          rotate_left
                          · simp only [Act.put, List.setIfInBounds_toArray, List.set_cons_zero, List.set_cons_succ, i64_w, i32_w]
                            rfl
                          refine inv_at [2, 3, 5, 6, 7, 8, 11, 14, 15, 16, 17, 18, 19] (fun a0_ b a w' => ∃ (v224 : Value) (adz_v224 : Addr) (m6_ : Value), a = putSel a0_ b [(2, 29, .string (x5_1.extract 0 (t220 : Int).toNat)), (3, 30, v224), (5, 32, .int .i64 t226), (6, 33, m6_), (7, 34, .string (rdOf ByteArray.empty y223 t226)), (8, 35, .string ((x5_1.extract 0 (t220 : Int).toNat) ++ (rdOf ByteArray.empty y223 t226))), (11, 38, .int .i64 (x5_1.size : Int)), (14, 41, .int .i64 t230), (15, 42, .int .i64 (wrap64 (t220 + t230))), (16, 43, .int .i64 ji22), (17, 44, .string (x5_1.extract ((ji22) : Int).toNat x5_1.size)), (18, 45, .string (((x5_1.extract 0 (t220 : Int).toNat) ++ (rdOf ByteArray.empty y223 t226)) ++ (x5_1.extract ((ji22) : Int).toNat x5_1.size))), (19, 5, .string (((x5_1.extract 0 (t220 : Int).toNat) ++ (rdOf ByteArray.empty y223 t226)) ++ (x5_1.extract ((ji22) : Int).toNat x5_1.size)))] ∧ (b 5 = false → IsS46 w0 w' g s0_0 t221 t222) ∧ (KeepBut w w' g none) ∧ (Below w0.heap.size w0 w') ∧ (b 3 = true → Kd.R Kd.string 9 w' w.heap.size (fun _ => True) v224 y223) ∧ (b 3 = true → ∃ c_, (v224 : Value) = .slice (some adz_v224) y223.length c_) ∧ (b 5 = true → b 14 = false → IsS46 w0 w' g s0_0 t227 t228) ∧ (b 14 = true → IsS46 w0 w' g s0_0 t231 t232) ∧ (b 6 = true → (m6_ : Value) = .pointer (some (adz_v224.add (t226).toNat)))) HT_.out HW_.out (by kernel_rfl) (by kernel_rfl) ?_ ?_ ?_
                          · exact ⟨.bool false, ⟨0, 0, none⟩, .bool false, by simp only [putSel, Bool.false_eq_true, if_false], fun _ => HI0.out, HK.out, HB.out, fun h_ => absurd h_ (by decide), fun h_ => absurd h_ (by decide), fun h_ => absurd h_ (by decide), fun h_ => absurd h_ (by decide), fun h_ => absurd h_ (by decide)⟩
                          · skip
                            clear HB HI0 HK
                            refine steps_cons ?_ ?_
                            · rintro b a w' ⟨v224, adz_v224, m6_, ha, Q_HI0, Q_HK, Q_HB, Q_HO225, Q_HA_HO225, Q_HI0_e5, Q_HI0_e14, Q_X6_⟩ hb_ hon hoff
                              refine ⟨_, rfl, fun K hK => ?_⟩
                              have e27 : a.tmps[27]? = some (.string x5_1) := by rw [ha]; exact (putSel_off rfl).trans rfl
                              have e28 : a.tmps[28]? = some (.int .i64 t220) := by rw [ha]; exact (putSel_off rfl).trans rfl
                              replace ha := Aside0.mk ha
                              have HK := Aside0.mk Q_HK
                              have HB := Aside0.mk Q_HB
                              refine value_ (w1 := w') (v := .string (x5_1.extract 0 (t220 : Int).toNat)) (by rfl) rfl ?_ ?_
                              · go_simp
                                (try simp only [i64_w])
                                try rfl
                              refine hK.out _ _ ⟨v224, adz_v224, m6_, (by rw [ha.out]; exact putSel_upk 0 hb_ rfl rfl rfl), Q_HI0, Q_HK, Q_HB, Q_HO225, Q_HA_HO225, Q_HI0_e5, Q_HI0_e14, Q_X6_⟩
                            refine steps_cons ?_ ?_
                            · rintro b a w' ⟨v224, adz_v224, m6_, ha, Q_HI0, Q_HK, Q_HB, Q_HO225, Q_HA_HO225, Q_HI0_e5, Q_HI0_e14, Q_X6_⟩ hb_ hon hoff
                              refine ⟨_, rfl, fun K hK => ?_⟩
                              replace ha := Aside0.mk ha
                              have HK := Aside0.mk Q_HK
                              have HB := Aside0.mk Q_HB
                              refine Kd.R_lit_step Kd.string _ 9 ?hg (N := 30) ?hd (xs := ([(⟨#[]⟩ : ByteArray), (⟨#[97]⟩ : ByteArray), (⟨#[98]⟩ : ByteArray), (⟨#[120]⟩ : ByteArray)] : List ByteArray)) (inner := [.string (⟨#[]⟩ : ByteArray), .string (⟨#[97]⟩ : ByteArray), .string (⟨#[98]⟩ : ByteArray), .string (⟨#[120]⟩ : ByteArray)]) (ok := fun _ => True) (okp := fun _ => True) ?hr ?hp (fun _ hk => hk) trivial (Below.refl _ _) (Nat.le_refl _) (by simp) ?_; (case hd => rfl); (case hg => rfl); (case hr => first | (go_simp; done) | (go_simp; rfl)); (case hp => exact (Reps.one (show Kd.M Kd.string _ _ _ (⟨#[]⟩ : ByteArray) [.string (⟨#[]⟩ : ByteArray)] from rfl) (Reps.one (show Kd.M Kd.string _ _ _ (⟨#[97]⟩ : ByteArray) [.string (⟨#[97]⟩ : ByteArray)] from rfl) (Reps.one (show Kd.M Kd.string _ _ _ (⟨#[98]⟩ : ByteArray) [.string (⟨#[98]⟩ : ByteArray)] from rfl) (Reps.one (show Kd.M Kd.string _ _ _ (⟨#[120]⟩ : ByteArray) [.string (⟨#[120]⟩ : ByteArray)] from rfl) (Reps.none _ _))))))
                              intro v224 w28 ho29 hb hg_ hnew_
                              clear hg_ hnew_
                              (first | rw [← Ny223.out] at ho29 | (simp only [Int.reduceToNat] at ho29; rw [← Ny223.out] at ho29))
                              have n0_ := Aside0.mk (Kd.R_lower ho29 (keep_size (w := w) (g := g) (row := none) (by repeat (first | (with_reducible first | exact HK.out | apply KeepBut.set_ | apply keep_drewN | apply keep_drew | apply keep_alloc) | exact HK.out))))
                              have n2_ := Aside0.mk (KeepBut.trans (by repeat (first | (with_reducible first | exact HK.out | apply KeepBut.set_ | apply keep_drewN | apply keep_drew | apply keep_alloc) | exact HK.out)) (KeepBut.of_below hb g none) (.inl rfl))
                              have n3_ := Aside0.mk (below_step (by repeat (first | (with_reducible first | exact HB.out | apply below_alloc | apply pw_below_drewN | apply below_drew1) | exact HB.out)) hb)
                              have z_HI0 := fun (h0_ : b 5 = false) => (show IsS46 w0 w28 g s0_0 t221 t222 from by first | exact (IsS46.below (by repeat (first | (with_reducible first | exact (Q_HI0 h0_) | apply IsS46.alloc | apply IsS46.drewN | apply IsS46.drew | apply IsS46.set_1 | apply IsS46.set_2) | exact (Q_HI0 h0_))) hb))
                              have z_HI0_e5 := fun (h0_ : b 5 = true) (h1_ : b 14 = false) => (show IsS46 w0 w28 g s0_0 t227 t228 from by first | exact (IsS46.below (by repeat (first | (with_reducible first | exact (Q_HI0_e5 h0_ h1_) | apply IsS46.alloc | apply IsS46.drewN | apply IsS46.drew | apply IsS46.set_1 | apply IsS46.set_2) | exact (Q_HI0_e5 h0_ h1_))) hb))
                              have z_HI0_e14 := fun (h0_ : b 14 = true) => (show IsS46 w0 w28 g s0_0 t231 t232 from by first | exact (IsS46.below (by repeat (first | (with_reducible first | exact (Q_HI0_e14 h0_) | apply IsS46.alloc | apply IsS46.drewN | apply IsS46.drew | apply IsS46.set_1 | apply IsS46.set_2) | exact (Q_HI0_e14 h0_))) hb))
                              clear HK
                              clear HB
                              have HO225 := n0_
                              have HK := n2_
                              have HB := n3_
                              clear n0_ n2_ n3_
                              clear hb ho29
                              obtain ⟨Ao30, co30, eo30⟩ := Kd.R_slice HO225.out
                              subst eo30
                              obtain ⟨ado30, fo30, _⟩ := Kd.at_string (Kd.R_reads' HO225.out).2.2 0 (by decide) (by rw [Ny223.out]; simp)
                              cases fo30
                              refine hK.out _ _ ⟨.slice (some ado30) y223.length co30, ado30, m6_, (by rw [ha.out]; exact putSel_upk 1 hb_ rfl rfl rfl), z_HI0, (by repeat (first | (with_reducible first | exact HK.out | apply KeepBut.set_ | apply keep_drewN | apply keep_drew | apply keep_alloc) | exact HK.out)), (by repeat (first | (with_reducible first | exact HB.out | apply below_alloc | apply pw_below_drewN | apply below_drew1) | exact HB.out)), fun _ => (by (with_reducible repeat (first | apply Kd.R_alloc | apply Kd.R_drewN | apply Kd.R_drew)); exact HO225.out), fun _ => ⟨_, rfl⟩, z_HI0_e5, z_HI0_e14, fun h0_ => absurd ((hoff 6 (by kernel_rfl)).symm.trans h0_) (by decide)⟩
                            refine steps_cons ?_ ?_
                            · rintro b a w' ⟨v224, adz_v224, m6_, ha, Q_HI0, Q_HK, Q_HB, Q_HO225, Q_HA_HO225, Q_HI0_e5, Q_HI0_e14, Q_X6_⟩ hb_ hon hoff
                              refine ⟨_, rfl, fun K hK => ?_⟩
                              have e31 : a.tmps[31]? = some (.pointer (some ⟨g, 0, none⟩)) := by rw [ha]; exact (putSel_off rfl).trans rfl
                              replace ha := Aside0.mk ha
                              have HI0 := Aside0.mk (Q_HI0 hb_)
                              have HK := Aside0.mk Q_HK
                              have HB := Aside0.mk Q_HB
                              refine goes_ Try.func37 (by kernel_rfl) rfl #[.pointer (some ⟨g, 0, none⟩), .int .i64 4] (by rfl) rfl rfl (by first | (simp only [List.map_toArray, List.map_cons, List.map_nil, Act.eval, Array.getD_eq_getD_getElem?, Option.getD_some, e31]; done) | (simp only [List.map_toArray, List.map_cons, List.map_nil, Act.eval, Array.getD_eq_getD_getElem?, Option.getD_some, e31]; rfl)) ?_
                              with_reducible refine (spec_l01Cur_pick.calls g s0_0 t221 t222 4 t226 t227 t228 w0 _ ?side1 ?side2 A17.out).mono ?_
                              (case side1 => repeat (first | (with_reducible first | exact HI0.out | apply IsS46.alloc | apply IsS46.drewN | apply IsS46.drew | apply IsS46.set_1 | apply IsS46.set_2) | exact HI0.out))
                              (case side2 => repeat (first | (with_reducible first | exact HB.out | apply below_alloc | apply pw_below_drewN | apply below_drew1 | refine below_set ?_ (IsS46.ge HI0.out)) | exact HB.out))
                              rintro e w28 ⟨rfl, hi, hb, hk⟩
                              refine ⟨_, rfl, ?_⟩
                              have n0_ := Aside0.mk (KeepBut.trans (by repeat (first | (with_reducible first | exact HK.out | apply KeepBut.set_ | apply keep_drewN | apply keep_drew | apply keep_alloc) | exact HK.out)) hk (.inl rfl))
                              have n1_ := Aside0.mk (hb)
                              have n2_ := Aside0.mk (hi)
                              have z_HO225 := fun (h0_ : b 3 = true) => (show Kd.R Kd.string 9 w28 w.heap.size (fun _ => True) v224 y223 from by first | exact (Kd.R_mono (Kd.R_keep (IsS46.apart (show IsS46 w0 _ g s0_0 t221 t222 from by repeat (first | (with_reducible first | exact HI0.out | apply IsS46.alloc | apply IsS46.drewN | apply IsS46.drew | apply IsS46.set_1 | apply IsS46.set_2) | exact HI0.out)) (by (with_reducible repeat (first | apply Kd.R_alloc | apply Kd.R_drewN | apply Kd.R_drew)); exact (Q_HO225 h0_)) (by decide)) hk (fun _ h => h.2)) (fun _ h => h.1)) | exact Kd.R_mono (Kd.R_mono (Kd.R_keep (IsS46.apart (show IsS46 w0 _ g s0_0 t221 t222 from by repeat (first | (with_reducible first | exact HI0.out | apply IsS46.alloc | apply IsS46.drewN | apply IsS46.drew | apply IsS46.set_1 | apply IsS46.set_2) | exact HI0.out)) (by (with_reducible repeat (first | apply Kd.R_alloc | apply Kd.R_drewN | apply Kd.R_drew)); exact (Q_HO225 h0_)) (by decide)) hk (fun _ h => h.2)) (fun _ h => h.1)) (fun _ h_ => by first | trivial | exact h_ | exact h_.1))
                              clear HK
                              clear HB
                              clear HI0
                              have HK := n0_
                              have HB := n1_
                              have HI0 := n2_
                              clear n0_ n1_ n2_
                              (try clear hb)
                              (try clear hb2)
                              (try clear hk)
                              (try clear hi)
                              refine hK.out _ _ ⟨v224, adz_v224, m6_, (by rw [ha.out]; exact putSel_upk 2 hb_ rfl rfl rfl), fun h0_ => absurd ((up_self b 5).symm.trans h0_) (by decide), (by repeat (first | (with_reducible first | exact HK.out | apply KeepBut.set_ | apply keep_drewN | apply keep_drew | apply keep_alloc) | exact HK.out)), (by repeat (first | (with_reducible first | exact HB.out | apply below_alloc | apply pw_below_drewN | apply below_drew1 | refine below_set ?_ (IsS46.ge HI0.out)) | exact HB.out)), z_HO225, Q_HA_HO225, fun _ _ => (by repeat (first | (with_reducible first | exact HI0.out | apply IsS46.alloc | apply IsS46.drewN | apply IsS46.drew | apply IsS46.set_1 | apply IsS46.set_2) | exact HI0.out)), fun h0_ => absurd ((hoff 14 (by kernel_rfl)).symm.trans h0_) (by decide), fun h0_ => absurd ((hoff 6 (by kernel_rfl)).symm.trans h0_) (by decide)⟩
                            refine steps_cons ?_ ?_
                            · rintro b a w' ⟨v224, adz_v224, m6_, ha, Q_HI0, Q_HK, Q_HB, Q_HO225, Q_HA_HO225, Q_HI0_e5, Q_HI0_e14, Q_X6_⟩ hb_ hon hoff
                              refine ⟨_, rfl, fun K hK => ?_⟩
                              have e30 : a.tmps[30]? = some (v224) := by rw [ha]; exact putSel_on (e := (3, 30, v224)) 1 rfl rfl (hon 3 (by kernel_rfl)) rfl
                              have e32 : a.tmps[32]? = some (.int .i64 t226) := by rw [ha]; exact putSel_on (e := (5, 32, .int .i64 t226)) 2 rfl rfl (hon 5 (by kernel_rfl)) rfl
                              replace ha := Aside0.mk ha
                              have HK := Aside0.mk Q_HK
                              have HB := Aside0.mk Q_HB
                              have HO225 := Aside0.mk (Q_HO225 (hon 3 (by kernel_rfl)))
                              have HA_HO225 := Aside0.mk (Q_HA_HO225 (hon 3 (by kernel_rfl)))
                              obtain ⟨c_, hv_⟩ := HA_HO225.out
                              rw [hv_] at e30
                              refine value_ (w1 := w') (v := .pointer (some (adz_v224.add (t226).toNat))) (by rfl) rfl ?_ ?_
                              · go_simp
                                (try simp only [i64_w])
                                try rfl
                              refine hK.out _ _ ⟨v224, adz_v224, (.pointer (some (adz_v224.add (t226).toNat))), (by rw [ha.out]; exact putSel_upk 3 hb_ rfl rfl rfl), fun h0_ => absurd ((hon 5 (by kernel_rfl)).symm.trans h0_) (by decide), Q_HK, Q_HB, Q_HO225, Q_HA_HO225, Q_HI0_e5, Q_HI0_e14, fun _ => rfl⟩
                            refine steps_cons ?_ ?_
                            · rintro b a w' ⟨v224, adz_v224, m6_, ha, Q_HI0, Q_HK, Q_HB, Q_HO225, Q_HA_HO225, Q_HI0_e5, Q_HI0_e14, Q_X6_⟩ hb_ hon hoff
                              refine ⟨_, rfl, fun K hK => ?_⟩
                              have e33 : a.tmps[33]? = some (m6_) := by rw [ha]; exact putSel_on (e := (6, 33, m6_)) 3 rfl rfl (hon 6 (by kernel_rfl)) rfl
                              rw [Q_X6_ (hon 6 (by kernel_rfl))] at e33
                              replace ha := Aside0.mk ha
                              have HK := Aside0.mk Q_HK
                              have HB := Aside0.mk Q_HB
                              have HO225 := Aside0.mk (Q_HO225 (hon 3 (by kernel_rfl)))
                              have HA_HO225 := Aside0.mk (Q_HA_HO225 (hon 3 (by kernel_rfl)))
                              obtain ⟨c_, hv_⟩ := HA_HO225.out
                              have hF_ := HO225.out
                              rw [hv_] at hF_
                              obtain ⟨ad_, ea_, hx_⟩ := Kd.at_string (Kd.R_reads' hF_).2.2 t226 (of_eq_true pi229) (of_eq_true qi229)
                              cases ea_
                              refine value_ (w1 := w') (v := .string (rdOf ByteArray.empty y223 t226)) (by rfl) rfl ?_ ?_
                              · go_simp
                                (try simp only [i64_w])
                                try rfl
                              refine hK.out _ _ ⟨v224, adz_v224, m6_, (by rw [ha.out]; exact putSel_upk 4 hb_ rfl rfl rfl), fun h0_ => absurd ((hon 5 (by kernel_rfl)).symm.trans h0_) (by decide), Q_HK, Q_HB, Q_HO225, Q_HA_HO225, Q_HI0_e5, Q_HI0_e14, Q_X6_⟩
                            refine steps_cons ?_ ?_
                            · rintro b a w' ⟨v224, adz_v224, m6_, ha, Q_HI0, Q_HK, Q_HB, Q_HO225, Q_HA_HO225, Q_HI0_e5, Q_HI0_e14, Q_X6_⟩ hb_ hon hoff
                              refine ⟨_, rfl, fun K hK => ?_⟩
                              have e29 : a.tmps[29]? = some (.string (x5_1.extract 0 (t220 : Int).toNat)) := by rw [ha]; exact putSel_on (e := (2, 29, .string (x5_1.extract 0 (t220 : Int).toNat))) 0 rfl rfl (hon 2 (by kernel_rfl)) rfl
                              have e34 : a.tmps[34]? = some (.string (rdOf ByteArray.empty y223 t226)) := by rw [ha]; exact putSel_on (e := (7, 34, .string (rdOf ByteArray.empty y223 t226))) 4 rfl rfl (hon 7 (by kernel_rfl)) rfl
                              replace ha := Aside0.mk ha
                              have HK := Aside0.mk Q_HK
                              have HB := Aside0.mk Q_HB
                              have HO225 := Aside0.mk (Q_HO225 (hon 3 (by kernel_rfl)))
                              have HA_HO225 := Aside0.mk (Q_HA_HO225 (hon 3 (by kernel_rfl)))
                              refine value_ (w1 := w') (v := .string ((x5_1.extract 0 (t220 : Int).toNat) ++ (rdOf ByteArray.empty y223 t226))) (by rfl) rfl ?_ ?_
                              · go_simp
                                all_goals (try (have z1_ := c20; have y0_ := of_eq_true c15b0; have y1_ := of_eq_true c16b0; have y2_ := of_eq_true c23b0; have y3_ := of_eq_true c24b0; simp only [ByteArray.size_append, ByteArray.size_extract] at z1_; omega))
                                all_goals (try (have z1_ := c25; have y0_ := of_eq_true c15b0; have y1_ := of_eq_true c16b0; have y2_ := of_eq_true c23b0; have y3_ := of_eq_true c24b0; simp only [ByteArray.size_append, ByteArray.size_extract] at z1_; omega))
                                (try simp only [i64_w])
                                try rfl
                              refine hK.out _ _ ⟨v224, adz_v224, m6_, (by rw [ha.out]; exact putSel_upk 5 hb_ rfl rfl rfl), fun h0_ => absurd ((hon 5 (by kernel_rfl)).symm.trans h0_) (by decide), Q_HK, Q_HB, Q_HO225, Q_HA_HO225, Q_HI0_e5, Q_HI0_e14, Q_X6_⟩
                            refine steps_cons ?_ ?_
                            · rintro b a w' ⟨v224, adz_v224, m6_, ha, Q_HI0, Q_HK, Q_HB, Q_HO225, Q_HA_HO225, Q_HI0_e5, Q_HI0_e14, Q_X6_⟩ hb_ hon hoff
                              refine ⟨_, rfl, fun K hK => ?_⟩
                              have e37 : a.tmps[37]? = some (.string x5_1) := by rw [ha]; exact (putSel_off rfl).trans rfl
                              replace ha := Aside0.mk ha
                              have HK := Aside0.mk Q_HK
                              have HB := Aside0.mk Q_HB
                              refine value_ (w1 := w') (v := .int .i64 (x5_1.size : Int)) (by rfl) rfl ?_ ?_
                              · go_simp
                                (try simp only [i64_w])
                                try rfl
                              refine hK.out _ _ ⟨v224, adz_v224, m6_, (by rw [ha.out]; exact putSel_upk 6 hb_ rfl rfl rfl), Q_HI0, Q_HK, Q_HB, Q_HO225, Q_HA_HO225, Q_HI0_e5, Q_HI0_e14, Q_X6_⟩
                            refine steps_cons ?_ ?_
                            · rintro b a w' ⟨v224, adz_v224, m6_, ha, Q_HI0, Q_HK, Q_HB, Q_HO225, Q_HA_HO225, Q_HI0_e5, Q_HI0_e14, Q_X6_⟩ hb_ hon hoff
                              refine ⟨_, rfl, fun K hK => ?_⟩
                              have e40 : a.tmps[40]? = some (.pointer (some ⟨g, 0, none⟩)) := by rw [ha]; exact (putSel_off rfl).trans rfl
                              replace ha := Aside0.mk ha
                              have HK := Aside0.mk Q_HK
                              have HB := Aside0.mk Q_HB
                              have HI0 := Aside0.mk (Q_HI0_e5 (hon 5 (by kernel_rfl)) hb_)
                              refine goes_ Try.func37 (by kernel_rfl) rfl #[.pointer (some ⟨g, 0, none⟩), .int .i64 2] (by rfl) rfl rfl (by first | (simp only [List.map_toArray, List.map_cons, List.map_nil, Act.eval, Array.getD_eq_getD_getElem?, Option.getD_some, e40]; done) | (simp only [List.map_toArray, List.map_cons, List.map_nil, Act.eval, Array.getD_eq_getD_getElem?, Option.getD_some, e40]; rfl)) ?_
                              with_reducible refine (spec_l01Cur_pick.calls g s0_0 t227 t228 2 t230 t231 t232 w0 _ ?side1 ?side2 A21.out).mono ?_
                              (case side1 => repeat (first | (with_reducible first | exact HI0.out | apply IsS46.alloc | apply IsS46.drewN | apply IsS46.drew | apply IsS46.set_1 | apply IsS46.set_2) | exact HI0.out))
                              (case side2 => repeat (first | (with_reducible first | exact HB.out | apply below_alloc | apply pw_below_drewN | apply below_drew1 | refine below_set ?_ (IsS46.ge HI0.out)) | exact HB.out))
                              rintro e w30 ⟨rfl, hi, hb, hk⟩
                              refine ⟨_, rfl, ?_⟩
                              have n0_ := Aside0.mk (KeepBut.trans (by repeat (first | (with_reducible first | exact HK.out | apply KeepBut.set_ | apply keep_drewN | apply keep_drew | apply keep_alloc) | exact HK.out)) hk (.inl rfl))
                              have n1_ := Aside0.mk (hb)
                              have n2_ := Aside0.mk (hi)
                              have z_HO225 := fun (h0_ : b 3 = true) => (show Kd.R Kd.string 9 w30 w.heap.size (fun _ => True) v224 y223 from by first | exact (Kd.R_mono (Kd.R_keep (IsS46.apart (show IsS46 w0 _ g s0_0 t227 t228 from by repeat (first | (with_reducible first | exact HI0.out | apply IsS46.alloc | apply IsS46.drewN | apply IsS46.drew | apply IsS46.set_1 | apply IsS46.set_2) | exact HI0.out)) (by (with_reducible repeat (first | apply Kd.R_alloc | apply Kd.R_drewN | apply Kd.R_drew)); exact (Q_HO225 h0_)) (by decide)) hk (fun _ h => h.2)) (fun _ h => h.1)) | exact Kd.R_mono (Kd.R_mono (Kd.R_keep (IsS46.apart (show IsS46 w0 _ g s0_0 t227 t228 from by repeat (first | (with_reducible first | exact HI0.out | apply IsS46.alloc | apply IsS46.drewN | apply IsS46.drew | apply IsS46.set_1 | apply IsS46.set_2) | exact HI0.out)) (by (with_reducible repeat (first | apply Kd.R_alloc | apply Kd.R_drewN | apply Kd.R_drew)); exact (Q_HO225 h0_)) (by decide)) hk (fun _ h => h.2)) (fun _ h => h.1)) (fun _ h_ => by first | trivial | exact h_ | exact h_.1))
                              clear HK
                              clear HB
                              clear HI0
                              have HK := n0_
                              have HB := n1_
                              have HI0 := n2_
                              clear n0_ n1_ n2_
                              (try clear hb)
                              (try clear hb2)
                              (try clear hk)
                              (try clear hi)
                              refine hK.out _ _ ⟨v224, adz_v224, m6_, (by rw [ha.out]; exact putSel_upk 7 hb_ rfl rfl rfl), fun h0_ => absurd ((hon 5 (by kernel_rfl)).symm.trans h0_) (by decide), (by repeat (first | (with_reducible first | exact HK.out | apply KeepBut.set_ | apply keep_drewN | apply keep_drew | apply keep_alloc) | exact HK.out)), (by repeat (first | (with_reducible first | exact HB.out | apply below_alloc | apply pw_below_drewN | apply below_drew1 | refine below_set ?_ (IsS46.ge HI0.out)) | exact HB.out)), z_HO225, Q_HA_HO225, fun _ h1_ => absurd ((up_self b 14).symm.trans h1_) (by decide), fun _ => (by repeat (first | (with_reducible first | exact HI0.out | apply IsS46.alloc | apply IsS46.drewN | apply IsS46.drew | apply IsS46.set_1 | apply IsS46.set_2) | exact HI0.out)), Q_X6_⟩
                            refine steps_cons ?_ ?_
                            · rintro b a w' ⟨v224, adz_v224, m6_, ha, Q_HI0, Q_HK, Q_HB, Q_HO225, Q_HA_HO225, Q_HI0_e5, Q_HI0_e14, Q_X6_⟩ hb_ hon hoff
                              refine ⟨_, rfl, fun K hK => ?_⟩
                              have e39 : a.tmps[39]? = some (.int .i64 t220) := by rw [ha]; exact (putSel_off rfl).trans rfl
                              have e41 : a.tmps[41]? = some (.int .i64 t230) := by rw [ha]; exact putSel_on (e := (14, 41, .int .i64 t230)) 7 rfl rfl (hon 14 (by kernel_rfl)) rfl
                              replace ha := Aside0.mk ha
                              have HK := Aside0.mk Q_HK
                              have HB := Aside0.mk Q_HB
                              have HI0 := Aside0.mk (Q_HI0_e14 (hon 14 (by kernel_rfl)))
                              refine value_ (w1 := w') (v := .int .i64 (wrap64 (t220 + t230))) (by rfl) rfl ?_ ?_
                              · go_simp
                                (try simp only [i64_w])
                                try rfl
                              refine hK.out _ _ ⟨v224, adz_v224, m6_, (by rw [ha.out]; exact putSel_upk 8 hb_ rfl rfl rfl), fun h0_ => absurd ((hon 5 (by kernel_rfl)).symm.trans h0_) (by decide), Q_HK, Q_HB, Q_HO225, Q_HA_HO225, fun _ h1_ => absurd ((hon 14 (by kernel_rfl)).symm.trans h1_) (by decide), Q_HI0_e14, Q_X6_⟩
                            refine steps_cons ?_ ?_
                            · rintro b a w' ⟨v224, adz_v224, m6_, ha, Q_HI0, Q_HK, Q_HB, Q_HO225, Q_HA_HO225, Q_HI0_e5, Q_HI0_e14, Q_X6_⟩ hb_ hon hoff
                              refine ⟨_, rfl, fun K hK => ?_⟩
                              have e38 : a.tmps[38]? = some (.int .i64 (x5_1.size : Int)) := by rw [ha]; exact putSel_on (e := (11, 38, .int .i64 (x5_1.size : Int))) 6 rfl rfl (hon 11 (by kernel_rfl)) rfl
                              have e42 : a.tmps[42]? = some (.int .i64 (wrap64 (t220 + t230))) := by rw [ha]; exact putSel_on (e := (15, 42, .int .i64 (wrap64 (t220 + t230)))) 8 rfl rfl (hon 15 (by kernel_rfl)) rfl
                              replace ha := Aside0.mk ha
                              have HK := Aside0.mk Q_HK
                              have HB := Aside0.mk Q_HB
                              have HI0 := Aside0.mk (Q_HI0_e14 (hon 14 (by kernel_rfl)))
                              refine value_ (w1 := w') (v := .int .i64 ji22) (by rfl) rfl ?_ ?_
                              · go_simp
                                (try simp only [i64_w])
                                try rfl
                              refine hK.out _ _ ⟨v224, adz_v224, m6_, (by rw [ha.out]; exact putSel_upk 9 hb_ rfl rfl rfl), fun h0_ => absurd ((hon 5 (by kernel_rfl)).symm.trans h0_) (by decide), Q_HK, Q_HB, Q_HO225, Q_HA_HO225, fun _ h1_ => absurd ((hon 14 (by kernel_rfl)).symm.trans h1_) (by decide), Q_HI0_e14, Q_X6_⟩
                            refine steps_cons ?_ ?_
                            · rintro b a w' ⟨v224, adz_v224, m6_, ha, Q_HI0, Q_HK, Q_HB, Q_HO225, Q_HA_HO225, Q_HI0_e5, Q_HI0_e14, Q_X6_⟩ hb_ hon hoff
                              refine ⟨_, rfl, fun K hK => ?_⟩
                              have e36 : a.tmps[36]? = some (.string x5_1) := by rw [ha]; exact (putSel_off rfl).trans rfl
                              have e43 : a.tmps[43]? = some (.int .i64 ji22) := by rw [ha]; exact putSel_on (e := (16, 43, .int .i64 ji22)) 9 rfl rfl (hon 16 (by kernel_rfl)) rfl
                              replace ha := Aside0.mk ha
                              have HK := Aside0.mk Q_HK
                              have HB := Aside0.mk Q_HB
                              have HI0 := Aside0.mk (Q_HI0_e14 (hon 14 (by kernel_rfl)))
                              refine value_ (w1 := w') (v := .string (x5_1.extract ((ji22) : Int).toNat x5_1.size)) (by rfl) rfl ?_ ?_
                              · go_simp
                                (try simp only [i64_w])
                                try rfl
                              refine hK.out _ _ ⟨v224, adz_v224, m6_, (by rw [ha.out]; exact putSel_upk 10 hb_ rfl rfl rfl), fun h0_ => absurd ((hon 5 (by kernel_rfl)).symm.trans h0_) (by decide), Q_HK, Q_HB, Q_HO225, Q_HA_HO225, fun _ h1_ => absurd ((hon 14 (by kernel_rfl)).symm.trans h1_) (by decide), Q_HI0_e14, Q_X6_⟩
                            refine steps_cons ?_ ?_
                            · rintro b a w' ⟨v224, adz_v224, m6_, ha, Q_HI0, Q_HK, Q_HB, Q_HO225, Q_HA_HO225, Q_HI0_e5, Q_HI0_e14, Q_X6_⟩ hb_ hon hoff
                              refine ⟨_, rfl, fun K hK => ?_⟩
                              have e35 : a.tmps[35]? = some (.string ((x5_1.extract 0 (t220 : Int).toNat) ++ (rdOf ByteArray.empty y223 t226))) := by rw [ha]; exact putSel_on (e := (8, 35, .string ((x5_1.extract 0 (t220 : Int).toNat) ++ (rdOf ByteArray.empty y223 t226)))) 5 rfl rfl (hon 8 (by kernel_rfl)) rfl
                              have e44 : a.tmps[44]? = some (.string (x5_1.extract ((ji22) : Int).toNat x5_1.size)) := by rw [ha]; exact putSel_on (e := (17, 44, .string (x5_1.extract ((ji22) : Int).toNat x5_1.size))) 10 rfl rfl (hon 17 (by kernel_rfl)) rfl
                              replace ha := Aside0.mk ha
                              have HK := Aside0.mk Q_HK
                              have HB := Aside0.mk Q_HB
                              have HO225 := Aside0.mk (Q_HO225 (hon 3 (by kernel_rfl)))
                              have HA_HO225 := Aside0.mk (Q_HA_HO225 (hon 3 (by kernel_rfl)))
                              have HI0 := Aside0.mk (Q_HI0_e14 (hon 14 (by kernel_rfl)))
                              refine value_ (w1 := w') (v := .string (((x5_1.extract 0 (t220 : Int).toNat) ++ (rdOf ByteArray.empty y223 t226)) ++ (x5_1.extract ((ji22) : Int).toNat x5_1.size))) (by rfl) rfl ?_ ?_
                              · go_simp
                                all_goals (try (have z1_ := c20; have y0_ := of_eq_true c15b0; have y1_ := of_eq_true c16b0; have y2_ := of_eq_true c23b0; have y3_ := of_eq_true c24b0; simp only [ByteArray.size_append, ByteArray.size_extract] at z1_; omega))
                                all_goals (try (have z1_ := c25; have y0_ := of_eq_true c15b0; have y1_ := of_eq_true c16b0; have y2_ := of_eq_true c23b0; have y3_ := of_eq_true c24b0; simp only [ByteArray.size_append, ByteArray.size_extract] at z1_; omega))
                                (try simp only [i64_w])
                                try rfl
                              refine hK.out _ _ ⟨v224, adz_v224, m6_, (by rw [ha.out]; exact putSel_upk 11 hb_ rfl rfl rfl), fun h0_ => absurd ((hon 5 (by kernel_rfl)).symm.trans h0_) (by decide), Q_HK, Q_HB, Q_HO225, Q_HA_HO225, fun _ h1_ => absurd ((hon 14 (by kernel_rfl)).symm.trans h1_) (by decide), Q_HI0_e14, Q_X6_⟩
                            refine steps_cons ?_ ?_
                            · rintro b a w' ⟨v224, adz_v224, m6_, ha, Q_HI0, Q_HK, Q_HB, Q_HO225, Q_HA_HO225, Q_HI0_e5, Q_HI0_e14, Q_X6_⟩ hb_ hon hoff
                              refine ⟨_, rfl, fun K hK => ?_⟩
                              have e45 : a.tmps[45]? = some (.string (((x5_1.extract 0 (t220 : Int).toNat) ++ (rdOf ByteArray.empty y223 t226)) ++ (x5_1.extract ((ji22) : Int).toNat x5_1.size))) := by rw [ha]; exact putSel_on (e := (18, 45, .string (((x5_1.extract 0 (t220 : Int).toNat) ++ (rdOf ByteArray.empty y223 t226)) ++ (x5_1.extract ((ji22) : Int).toNat x5_1.size)))) 11 rfl rfl (hon 18 (by kernel_rfl)) rfl
                              replace ha := Aside0.mk ha
                              have HK := Aside0.mk Q_HK
                              have HB := Aside0.mk Q_HB
                              have HO225 := Aside0.mk (Q_HO225 (hon 3 (by kernel_rfl)))
                              have HA_HO225 := Aside0.mk (Q_HA_HO225 (hon 3 (by kernel_rfl)))
                              have HI0 := Aside0.mk (Q_HI0_e14 (hon 14 (by kernel_rfl)))
                              refine value_ (w1 := w') (v := .string (((x5_1.extract 0 (t220 : Int).toNat) ++ (rdOf ByteArray.empty y223 t226)) ++ (x5_1.extract ((ji22) : Int).toNat x5_1.size))) (by rfl) rfl ?_ ?_
                              · go_simp
                                all_goals (try (have z1_ := c20; have y0_ := of_eq_true c15b0; have y1_ := of_eq_true c16b0; have y2_ := of_eq_true c23b0; have y3_ := of_eq_true c24b0; simp only [ByteArray.size_append, ByteArray.size_extract] at z1_; omega))
                                all_goals (try (have z1_ := c25; have y0_ := of_eq_true c15b0; have y1_ := of_eq_true c16b0; have y2_ := of_eq_true c23b0; have y3_ := of_eq_true c24b0; simp only [ByteArray.size_append, ByteArray.size_extract] at z1_; omega))
                                (try simp only [i64_w])
                                try rfl
                              refine hK.out _ _ ⟨v224, adz_v224, m6_, (by rw [ha.out]; exact putSel_upk 12 hb_ rfl rfl rfl), fun h0_ => absurd ((hon 5 (by kernel_rfl)).symm.trans h0_) (by decide), Q_HK, Q_HB, Q_HO225, Q_HA_HO225, fun _ h1_ => absurd ((hon 14 (by kernel_rfl)).symm.trans h1_) (by decide), Q_HI0_e14, Q_X6_⟩
                            exact steps_nil
                          rintro b a w33 hall ⟨v224, adz_v224, m6_, ha, Q_HI0, Q_HK, Q_HB, Q_HO225, Q_HA_HO225, Q_HI0_e5, Q_HI0_e14, Q_X6_⟩
                          clear HB HI0 HK
                          have hb2_ := hall 2 (by kernel_rfl)
                          have hb3_ := hall 3 (by kernel_rfl)
                          have hb5_ := hall 5 (by kernel_rfl)
                          have hb6_ := hall 6 (by kernel_rfl)
                          have hb7_ := hall 7 (by kernel_rfl)
                          have hb8_ := hall 8 (by kernel_rfl)
                          have hb11_ := hall 11 (by kernel_rfl)
                          have hb14_ := hall 14 (by kernel_rfl)
                          have hb15_ := hall 15 (by kernel_rfl)
                          have hb16_ := hall 16 (by kernel_rfl)
                          have hb17_ := hall 17 (by kernel_rfl)
                          have hb18_ := hall 18 (by kernel_rfl)
                          have hb19_ := hall 19 (by kernel_rfl)
                          subst ha
                          obtain rfl := Q_X6_ hb6_
                          simp only [putSel, hb2_, hb3_, hb5_, hb6_, hb7_, hb8_, hb11_, hb14_, hb15_, hb16_, hb17_, hb18_, hb19_, if_true, Act.put, List.setIfInBounds_toArray, List.set_cons_zero, List.set_cons_succ]
                          clear Q_HI0
                          have HK := Aside0.mk Q_HK
                          clear Q_HK
                          have HB := Aside0.mk Q_HB
                          clear Q_HB
                          have HO225 := Aside0.mk (Q_HO225 hb3_)
                          clear Q_HO225
                          have HA_HO225 := Aside0.mk (Q_HA_HO225 hb3_)
                          clear Q_HA_HO225
                          clear Q_HI0_e5
                          have HI0 := Aside0.mk (Q_HI0_e14 hb14_)
                          clear Q_HI0_e14
                          clear hall hb2_ hb3_ hb5_ hb6_ hb7_ hb8_ hb11_ hb14_ hb15_ hb16_ hb17_ hb18_ hb19_
                          obtain ⟨co34, eo34⟩ := HA_HO225.out
                          clear HA_HO225
                          subst eo34
                          try go_wp2
                          go_roundg k1
                          case measure => have := HK1.out; omega
                          case rel => exact ⟨(((x5_1.extract 0 (t220 : Int).toNat) ++ (rdOf ByteArray.empty y223 t226)) ++ (x5_1.extract ((ji22) : Int).toNat x5_1.size)), (wrap64 (x6_1 - 1)), (t231), (t232), (by first | rfl | (simp; done) | (simp only [← hji22] <;> (first | rfl | simp)) | (simp [*]; done)), (by first | rfl | (simp; done) | (simp [*]; done)), H', ⟨by have := HK1.out; omega⟩, ⟨by repeat (first | (with_reducible first | exact HI0.out | apply IsS46.alloc | apply IsS46.drewN | apply IsS46.drew | apply IsS46.set_1 | apply IsS46.set_2) | exact HI0.out)⟩, ⟨by repeat (first | (with_reducible first | exact HK.out | apply KeepBut.set_ | apply keep_drewN | apply keep_drew | apply keep_alloc) | exact HK.out)⟩, ⟨by repeat (first | (with_reducible first | exact HB.out | apply below_alloc | apply pw_below_drewN | apply below_drew1 | refine below_set ?_ (IsS46.ge HI0.out)) | exact HB.out)⟩⟩
                        · rw [if_neg c25] at H
                          exact absurd H (by simp)
                      · rw [if_neg c24] at H
                        exact absurd H (by simp)
                    · rw [if_neg c23] at H
                      exact absurd H (by simp)
                  · rw [if_neg c20] at H
                    exact absurd H (by simp)
                · rw [if_neg c19] at H
                  exact absurd H (by simp)
              · rw [if_neg c18] at H
                exact absurd H (by simp)
            · rw [if_neg c16] at H
              exact absurd H (by simp)
          · rw [if_neg c15] at H
            exact absurd H (by simp)
        · rw [if_neg c13] at H
          have c13b0 : decide (0 < x6_1) = false := decide_eq_false c13
          clear c13
          simp only [Option.some.injEq, Prod.mk.injEq] at H
          obtain ⟨rfl, rfl, rfl, rfl⟩ := H
          go_wp2
          go_ret2
          exact ⟨by first | rfl | (simp [errW_none, errW_some] <;> rfl) | (simp [*, errW_none, errW_some] <;> rfl), by repeat (first | (with_reducible first | exact HI0.out | apply IsS46.alloc | apply IsS46.drewN | apply IsS46.drew | apply IsS46.set_1 | apply IsS46.set_2) | exact HI0.out), by repeat (first | (with_reducible first | exact HB.out | apply below_alloc | apply pw_below_drewN | apply below_drew1 | refine below_set ?_ (IsS46.ge HI0.out)) | exact HB.out), by repeat (first | (with_reducible first | exact HK.out | apply KeepBut.set_ | apply keep_drewN | apply keep_drew | apply keep_alloc) | exact HK.out)⟩

/-! ### spec_DrawMyersRun: function 22 -/
def spec_DrawMyersRun.f (k : Nat) (l0 : List Int) : Option (ByteArray × ByteArray) := (spec_l01Open.f l0).bind fun bt233 => ((spec_l01Cur_pair.f k bt233.1 bt233.2.1 bt233.2.2).bind fun bt237 => (some (bt237.1, bt237.2.1)))
theorem spec_DrawMyersRun.mono : ∀ a0 k, LeO (spec_DrawMyersRun.f k a0) (spec_DrawMyersRun.f (k + 1) a0) := by
  intro a0 k
  unfold spec_DrawMyersRun.f
  repeat' first
      | (with_reducible exact spec_l01Cur_pair.mono _ _ _ _)
      | (with_reducible exact LeO.refl _)
      | (with_reducible exact LeO.none _)
      | (with_reducible refine LeO.ite ?_ ?_)
      | (with_reducible refine LeO.bind ?_ (fun _ => ?_))
      | exact spec_l01Cur_pair.mono _ _ _ _
      | exact LeO.none _
      | refine LeO.ite ?_ ?_
      | refine LeO.bind ?_ (fun _ => ?_)
set_option maxHeartbeats 8000000 in
set_option maxRecDepth 100000 in
theorem spec_DrawMyersRun.calls (k : Nat) (A0 : Option Addr) (c0 : Nat) (l0 : List Int) (r1 : ByteArray) (r2 : ByteArray) (w : World) (hr0 : Kd.C (Kd.int .u8) w A0 l0.length l0) (hc0 : l0.length ≤ c0) (h : spec_DrawMyersRun.f k l0 = some (r1, r2)) :
    Calls Try.prog 22 #[.slice A0 l0.length c0] w fun e w' => e = .returned (.tuple #[.string r1, .string r2]) ∧ Below w.heap.size w w' := by
  have HR0 := Aside0.mk hr0
  have HC0 := Aside0.mk hc0
  clear hr0 hc0
  have HB := Aside0.mk (Below.refl w.heap.size w)
  have H : ((spec_l01Open.f l0).bind fun bt233 => ((spec_l01Cur_pair.f k bt233.1 bt233.2.1 bt233.2.2).bind fun bt237 => (some (bt237.1, bt237.2.1)))) = some (r1, r2) := h
  clear h
  replace H := Option.bind_eq_some_iff.mp H
  obtain ⟨⟨t233, t234, t235⟩, A20, H⟩ := H
  replace H : ((spec_l01Cur_pair.f k t233 t234 t235).bind fun bt237 => (some (bt237.1, bt237.2.1))) = some (r1, r2) := H
  have A2 := Aside0.mk A20
  clear A20
  replace H := Option.bind_eq_some_iff.mp H
  obtain ⟨⟨t237, t238, t239, t240⟩, A30, H⟩ := H
  replace H : (some (t237, t238)) = some (r1, r2) := H
  have A3 := Aside0.mk A30
  clear A30
  simp only [Option.some.injEq, Prod.mk.injEq] at H
  obtain ⟨rfl, rfl⟩ := H
  go_enter Try.func22, Try.ntmps22
  go_wp2_with (first | ((with_reducible refine gate_callee (f := 28) rfl ?_); refine goesL_ (some 6) rfl rfl Try.func28 (by kernel_rfl) rfl #[.slice A0 l0.length c0] rfl (by (try simp only [List.map_toArray, List.map_cons, List.map_nil]); first | done | rfl | (simp only [List.length_drop, List.length_take]; rfl)) ?_; (with_reducible refine (spec_l01Open.calls _ _ l0 t233 t234 t235 w _ ?side1 ?side2 ?side3 A2.out).mono ?_); (case side1 => repeat (first | (with_reducible first | exact HB.out | apply below_alloc | apply pw_below_drewN | apply below_drew1) | exact HB.out)); (case side2 => exact HR0.out); (case side3 => exact HC0.out); rintro e w4 ⟨g236, rfl, hi, hb, hb2⟩; refine ⟨_, rfl, ?_⟩; have n0_ := Aside0.mk (hb); have n1_ := Aside0.mk (hi); clear HB; have HB := n0_; have HI236 := n1_; clear n0_ n1_; (try clear hb); (try clear hb2); (try clear hk); (try clear hi)) | ((with_reducible refine gate_callee (f := 32) rfl ?_); refine goesL_ (some 8) rfl rfl Try.func32 (by kernel_rfl) rfl #[.pointer (some ⟨g236, 0, none⟩)] rfl (by (try simp only [List.map_toArray, List.map_cons, List.map_nil]); first | done | rfl | (simp only [List.length_drop, List.length_take]; rfl)) ?_; (with_reducible refine (spec_l01Cur_pair.calls k g236 t233 t234 t235 t237 t238 t239 t240 w _ ?side1 ?side2 A3.out).mono ?_); (case side1 => repeat (first | (with_reducible first | exact HI236.out | apply IsS46.alloc | apply IsS46.drewN | apply IsS46.drew | apply IsS46.set_1 | apply IsS46.set_2) | exact HI236.out)); (case side2 => repeat (first | (with_reducible first | exact HB.out | apply below_alloc | apply pw_below_drewN | apply below_drew1 | refine below_set ?_ (IsS46.ge HI236.out)) | exact HB.out)); rintro e w5 ⟨rfl, hi, hb, hk⟩; refine ⟨_, rfl, ?_⟩; have n0_ := Aside0.mk (hb); have n1_ := Aside0.mk (hi); clear HB; clear HI236; have HB := n0_; have HI236 := n1_; clear n0_ n1_; (try clear hb); (try clear hb2); (try clear hk); (try clear hi)))
  go_ret2
  exact ⟨by first | rfl | (simp [errW_none, errW_some] <;> rfl) | (simp [*, errW_none, errW_some] <;> rfl), by repeat (first | (with_reducible first | exact HB.out | apply below_alloc | apply pw_below_drewN | apply below_drew1 | refine below_set ?_ (IsS46.ge HI236.out)) | exact HB.out)⟩

/-! ### spec_l05Long: function 33 -/
def spec_l05Long.f (a0 : ByteArray) (a1 : ByteArray) : Option (Bool) := if (a0.size : Int) > 32 then (some true) else (some (decide ((a1.size : Int) > 32)))
set_option maxHeartbeats 8000000 in
set_option maxRecDepth 100000 in
theorem spec_l05Long.calls (a0 : ByteArray) (a1 : ByteArray) (r : Bool) (w : World) (h : spec_l05Long.f a0 a1 = some r) :
    Calls Try.prog 33 #[.string a0, .string a1] w fun e w' => e = .returned (.bool r) ∧ Drawn0 w w' := by
  have H : (if (a0.size : Int) > 32 then (some true) else (some (decide ((a1.size : Int) > 32)))) = some r := h
  clear h
  by_cases c3 : (a0.size : Int) > 32
  · rw [if_pos c3] at H
    have c3b0 : decide (32 < (a0.size : Int)) = true := decide_eq_true c3
    have c3b1 : decide (32 < a0.size) = true := decide_eq_true (by omega)
    clear c3
    obtain rfl := Option.some.inj H
    go_enter Try.func33, Try.ntmps33
    go_wp2
    go_ret
    exact ⟨by first | rfl | (simp; done) | (simp [*]; done), by repeat (first | exact Drawn0.refl _ | apply Drawn0.step)⟩
  · rw [if_neg c3] at H
    have c3b0 : decide (32 < (a0.size : Int)) = false := decide_eq_false c3
    have c3b1 : decide (32 < a0.size) = false := decide_eq_false (by omega)
    clear c3
    obtain rfl := Option.some.inj H
    go_enter Try.func33, Try.ntmps33
    go_wp2
    go_ret
    exact ⟨by first | rfl | (simp; done) | (simp [*]; done), by repeat (first | exact Drawn0.refl _ | apply Drawn0.step)⟩

end Go.Proofs.Ytbibgmmoompoiaa.PFnMyers
