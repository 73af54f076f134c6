/- The walk of the law FnMemBook. Its lines are the print's, turned where Lean refused them. -/
import Derived.Test.YtoceiaaigiflpaaDoorQFnMemBookx10
namespace Go.Proofs.YtoceiaaigiflpaaDoor.PFnMemBook
open Go.RowKit Go.Proofs.YtoceiaaigiflpaaDoorW.PrintWords Go.Proofs.YtoceiaaigiflpaaDoorW.PrintLast Go.Proofs.YtoceiaaigiflpaaDoorW.PrintMore
attribute [local go_sem] max2_int min2_int max_two min_two max_three min_three max_four min_four   -- for this text's walks alone
set_option linter.unusedVariables false
set_option linter.unusedSimpArgs false

set_option maxHeartbeats 8000000 in
set_option maxRecDepth 100000 in
theorem laws_FnMemBook.calls (k : Nat) (A0 : Option Addr) (c0 : Nat) (l0 : List Int) (r : Bool) (w : World) (hr0 : Kd.C (Kd.int .u8) w A0 l0.length l0) (hc0 : l0.length ≤ c0) (h : laws_FnMemBook.f k l0 = some r) (hDoor : DoorW w) :
  Calls Tryd.prog 3 #[.slice A0 l0.length c0] w fun e w' => e = .returned (.bool r) ∧ Below w.heap.size w w' := by
 have HDoor := Aside0.mk hDoor
 clear hDoor
 have hu28 := Tryd.underlying28
 have hu35 := Tryd.underlying35
 have HR0 := Aside0.mk hr0
 have HC0 := Aside0.mk hc0
 clear hr0 hc0
 have HB := Aside0.mk (Below.refl w.heap.size w)
 have H : ((laws_big.f l0).bind fun t213 => (if t213 = true then (some true) else ((laws_pick.f k l0 1 6).bind fun t214 => ((laws_pick.f k l0 2 4).bind fun t215 => ((impl_MemNew.f k (wrap64 (1 + t214)) (wrap64 (1 + t215))).bind fun bt216 => (if 0 ≤ (wrap64 (1 + t214)) then (if (wrap64 (1 + t214) : Int).toNat ≤ 17592186044416 then (laws_FnMemBook.l0 k l0 (wrap64 (1 + t214)) (wrap64 (1 + t215)) (List.replicate (wrap64 (1 + t214) : Int).toNat (⟨#[]⟩ : ByteArray)) (([] : List (S35))) 0 bt216.1 bt216.2.1 bt216.2.2) else (none)) else (none))))))) = some r := h
 clear h
 replace H := Option.bind_eq_some_iff.mp H
 obtain ⟨t213, A20, H⟩ := H
 replace H : (if t213 = true then (some true) else ((laws_pick.f k l0 1 6).bind fun t214 => ((laws_pick.f k l0 2 4).bind fun t215 => ((impl_MemNew.f k (wrap64 (1 + t214)) (wrap64 (1 + t215))).bind fun bt216 => (if 0 ≤ (wrap64 (1 + t214)) then (if (wrap64 (1 + t214) : Int).toNat ≤ 17592186044416 then (laws_FnMemBook.l0 k l0 (wrap64 (1 + t214)) (wrap64 (1 + t215)) (List.replicate (wrap64 (1 + t214) : Int).toNat (⟨#[]⟩ : ByteArray)) (([] : List (S35))) 0 bt216.1 bt216.2.1 bt216.2.2) else (none)) else (none)))))) = some r := H
 have A2 := Aside0.mk A20
 clear A20
 by_cases c3 : t213 = true
 ·subst c3
  have H1 : (some true) = some r := by rw [if_pos rfl] at H; exact H
  clear H
  have H := H1
  clear H1
  obtain rfl := Option.some.inj H
  go_enter Tryd.func3, Tryd.ntmps3
  go_wp2_with (first | ((with_reducible refine gate_callee (f := 5) rfl ?_); refine goesL_ (some 23) rfl rfl Tryd.func5 (by kernel_rfl) rfl #[.slice A0 l0.length c0] rfl (by (try simp only [List.map_toArray, List.map_cons, List.map_nil]); first | done | rfl | (simp only [List.length_drop, List.length_take]; rfl)) ?_; (with_reducible refine (laws_big.calls _ _ l0 true _ ?side1 ?side2 A2.out).mono ?_); (case side1 => repeat (first | exact HR0.out | (with_reducible refine Kd.C_alloc ?_ _) | (with_reducible refine Kd.C_drewN ?_ _) | (with_reducible refine Kd.C_drew ?_))); (case side2 => exact HC0.out); rintro e w' ⟨rfl, ⟨nd, rfl⟩⟩; refine ⟨_, rfl, ?_⟩))
  go_ret
  exact ⟨by first | rfl | (simp [errW_none, errW_some] <;> rfl) | (simp [*, errW_none, errW_some] <;> rfl), by repeat (first | (with_reducible first | exact HB.out | apply below_alloc | apply pw_below_drewN | apply below_drew1) | exact HB.out)⟩
 ·replace c3 := Bool.eq_false_iff.mpr c3
  subst c3
  have H1 : ((laws_pick.f k l0 1 6).bind fun t214 => ((laws_pick.f k l0 2 4).bind fun t215 => ((impl_MemNew.f k (wrap64 (1 + t214)) (wrap64 (1 + t215))).bind fun bt216 => (if 0 ≤ (wrap64 (1 + t214)) then (if (wrap64 (1 + t214) : Int).toNat ≤ 17592186044416 then (laws_FnMemBook.l0 k l0 (wrap64 (1 + t214)) (wrap64 (1 + t215)) (List.replicate (wrap64 (1 + t214) : Int).toNat (⟨#[]⟩ : ByteArray)) (([] : List (S35))) 0 bt216.1 bt216.2.1 bt216.2.2) else (none)) else (none))))) = some r := by rw [if_neg (show ¬ (false = true) by decide)] at H; exact H
  clear H
  have H := H1
  clear H1
  replace H := Option.bind_eq_some_iff.mp H
  obtain ⟨t214, A40, H⟩ := H
  replace H : ((laws_pick.f k l0 2 4).bind fun t215 => ((impl_MemNew.f k (wrap64 (1 + t214)) (wrap64 (1 + t215))).bind fun bt216 => (if 0 ≤ (wrap64 (1 + t214)) then (if (wrap64 (1 + t214) : Int).toNat ≤ 17592186044416 then (laws_FnMemBook.l0 k l0 (wrap64 (1 + t214)) (wrap64 (1 + t215)) (List.replicate (wrap64 (1 + t214) : Int).toNat (⟨#[]⟩ : ByteArray)) (([] : List (S35))) 0 bt216.1 bt216.2.1 bt216.2.2) else (none)) else (none)))) = some r := H
  have A4 := Aside0.mk A40
  clear A40
  replace H := Option.bind_eq_some_iff.mp H
  obtain ⟨t215, A50, H⟩ := H
  replace H : ((impl_MemNew.f k (wrap64 (1 + t214)) (wrap64 (1 + t215))).bind fun bt216 => (if 0 ≤ (wrap64 (1 + t214)) then (if (wrap64 (1 + t214) : Int).toNat ≤ 17592186044416 then (laws_FnMemBook.l0 k l0 (wrap64 (1 + t214)) (wrap64 (1 + t215)) (List.replicate (wrap64 (1 + t214) : Int).toNat (⟨#[]⟩ : ByteArray)) (([] : List (S35))) 0 bt216.1 bt216.2.1 bt216.2.2) else (none)) else (none))) = some r := H
  have A5 := Aside0.mk A50
  clear A50
  replace H := Option.bind_eq_some_iff.mp H
  obtain ⟨⟨t216, t217, t220⟩, A60, H⟩ := H
  replace H : (if 0 ≤ (wrap64 (1 + t214)) then (if (wrap64 (1 + t214) : Int).toNat ≤ 17592186044416 then (laws_FnMemBook.l0 k l0 (wrap64 (1 + t214)) (wrap64 (1 + t215)) (List.replicate (wrap64 (1 + t214) : Int).toNat (⟨#[]⟩ : ByteArray)) (([] : List (S35))) 0 t216 t217 t220) else (none)) else (none)) = some r := H
  have A6 := Aside0.mk A60
  clear A60
  obtain ⟨ji7, hji7⟩ : ∃ j_ : Int, (wrap64 (1 + t214)) = j_ := ⟨_, rfl⟩
  replace H : (if 0 ≤ (ji7) then (if (ji7 : Int).toNat ≤ 17592186044416 then (laws_FnMemBook.l0 k l0 ji7 (wrap64 (1 + t215)) (List.replicate (ji7 : Int).toNat (⟨#[]⟩ : ByteArray)) (([] : List (S35))) 0 t216 t217 t220) else (none)) else (none)) = some r := by first | (rw [hji7] at H; exact H) | (simp only [hji7] at H ⊢; exact H)
  (try rw [hji7] at A2)
  (try rw [hji7] at A4)
  (try rw [hji7] at A5)
  (try rw [hji7] at A6)
  have hji7w : (IntKind.i64.wrap (1 + t214)) = ji7 := (i64_w _).trans hji7
  obtain ⟨ji20, hji20⟩ : ∃ j_ : Int, (wrap64 (1 + t215)) = j_ := ⟨_, rfl⟩
  rw [hji20] at H
  (try rw [hji20] at A2)
  (try rw [hji20] at A4)
  (try rw [hji20] at A5)
  (try rw [hji20] at A6)
  have hji20w : (IntKind.i64.wrap (1 + t215)) = ji20 := (i64_w _).trans hji20
  by_cases c8 : 0 ≤ (ji7)
  ·rw [if_pos c8] at H
   have c8b0 := eq_true c8
   have c8b1 : decide (0 ≤ (ji7)) = true := decide_eq_true c8
   clear c8
   by_cases c9 : (ji7 : Int).toNat ≤ 17592186044416
   ·rw [if_pos c9] at H
    have c9b0 := eq_true c9
    have c9b1 : decide ((ji7 : Int).toNat ≤ 17592186044416) = true := decide_eq_true c9
    clear c9
    obtain ⟨y224, hy224⟩ : ∃ y_ : List ByteArray, y_ = (List.replicate (ji7 : Int).toNat (⟨#[]⟩ : ByteArray)) := ⟨_, rfl⟩
    replace H : (laws_FnMemBook.l0 k l0 ji7 (ji20) y224 (([] : List (S35))) 0 t216 t217 t220) = some r := by first | (rw [hy224]; with_reducible exact H) | (have H2_ := (Option.bind_some _ _).symm.trans H; rw [hy224]; with_reducible exact H2_) | (have H2_ := (Option.bind_some _ _).symm.trans H; with_reducible exact H2_) | with_reducible exact H | (rw [hy224]; exact H) | exact H
    have Ny224 := Aside0.mk hy224
    clear hy224
    obtain ⟨y227, hy227⟩ : ∃ y_ : List (S35), y_ = (([] : List (S35))) := ⟨_, rfl⟩
    replace H : (laws_FnMemBook.l0 k l0 ji7 (ji20) y224 y227 0 t216 t217 t220) = some r := by first | (rw [hy227]; with_reducible exact H) | (have H2_ := (Option.bind_some _ _).symm.trans H; rw [hy227]; with_reducible exact H2_) | (have H2_ := (Option.bind_some _ _).symm.trans H; with_reducible exact H2_) | with_reducible exact H | (rw [hy227]; exact H) | exact H
    have Ny227 := Aside0.mk hy227
    clear hy227
    have H' := Aside0.mk H
    clear H
    go_enter Tryd.func3, Tryd.ntmps3
    go_wp2_with (first | ((with_reducible refine gate_callee (f := 5) rfl ?_); refine goesL_ (some 23) rfl rfl Tryd.func5 (by kernel_rfl) rfl #[.slice A0 l0.length c0] rfl (by (try simp only [List.map_toArray, List.map_cons, List.map_nil]); first | done | rfl | (simp only [List.length_drop, List.length_take]; rfl)) ?_; (with_reducible refine (laws_big.calls _ _ l0 false _ ?side1 ?side2 A2.out).mono ?_); (case side1 => repeat (first | exact HR0.out | (with_reducible refine Kd.C_alloc ?_ _) | (with_reducible refine Kd.C_drewN ?_ _) | (with_reducible refine Kd.C_drew ?_))); (case side2 => exact HC0.out); rintro e w' ⟨rfl, ⟨nd, rfl⟩⟩; refine ⟨_, rfl, ?_⟩) | ((with_reducible refine gate_callee (f := 6) rfl ?_); refine goesL_ (some 25) rfl rfl Tryd.func6 (by kernel_rfl) rfl #[.slice A0 l0.length c0, .int .i64 1, .int .i64 6] rfl (by (try simp only [List.map_toArray, List.map_cons, List.map_nil]); first | done | rfl | (simp only [List.length_drop, List.length_take]; rfl)) ?_; (with_reducible refine (laws_pick.calls k _ _ l0 1 6 t214 _ ?side1 ?side2 A4.out).mono ?_); (case side1 => repeat (first | exact HR0.out | (with_reducible refine Kd.C_alloc ?_ _) | (with_reducible refine Kd.C_drewN ?_ _) | (with_reducible refine Kd.C_drew ?_))); (case side2 => exact HC0.out); rintro e w' ⟨rfl, ⟨nd, rfl⟩⟩; refine ⟨_, rfl, ?_⟩) | ((with_reducible refine gate_callee (f := 6) rfl ?_); refine goesL_ (some 28) rfl rfl Tryd.func6 (by kernel_rfl) rfl #[.slice A0 l0.length c0, .int .i64 2, .int .i64 4] rfl (by (try simp only [List.map_toArray, List.map_cons, List.map_nil]); first | done | rfl | (simp only [List.length_drop, List.length_take]; rfl)) ?_; (with_reducible refine (laws_pick.calls k _ _ l0 2 4 t215 _ ?side1 ?side2 A5.out).mono ?_); (case side1 => repeat (first | exact HR0.out | (with_reducible refine Kd.C_alloc ?_ _) | (with_reducible refine Kd.C_drewN ?_ _) | (with_reducible refine Kd.C_drew ?_))); (case side2 => exact HC0.out); rintro e w' ⟨rfl, ⟨nd, rfl⟩⟩; refine ⟨_, rfl, ?_⟩) | ((with_reducible refine gate_callee (f := 7) rfl ?_); refine goesL_ (some 32) rfl rfl Tryd.func7 (by kernel_rfl) rfl #[.int .i64 ji7, .int .i64 (ji20)] rfl (by (try simp only [List.map_toArray, List.map_cons, List.map_nil]); first | done | (simp only [hji7]; rfl) | rfl | (simp only [List.length_drop, List.length_take]; rfl)) ?_; (with_reducible refine (impl_MemNew.calls k ji7 (ji20) t216 t217 t220 _ A6.out).mono ?_); rintro e w10 ⟨v218, v221, rfl, ho0, ho1, hb⟩; refine ⟨_, rfl, ?_⟩; have n0_ := Aside0.mk (Kd.S_lower ho0 (below_size (by repeat (first | (with_reducible first | exact HB.out | apply below_alloc | apply pw_below_drewN | apply below_drew1) | exact HB.out)))); have n1_ := Aside0.mk (Kd.R_lower ho1 (below_size (by repeat (first | (with_reducible first | exact HB.out | apply below_alloc | apply pw_below_drewN | apply below_drew1) | exact HB.out)))); have n2_ := Aside0.mk (below_step (by repeat (first | (with_reducible first | exact HB.out | apply below_alloc | apply pw_below_drewN | apply below_drew1) | exact HB.out)) hb); clear HB; have HO219 := n0_; have HO222 := n1_; have HB := n2_; clear n0_ n1_ n2_; (try clear hb); (try clear hb2); (try clear hk); (try clear hi); (try clear ho0); (try clear ho1)) | ((with_reducible refine gate_dst (N := 5) rfl ?_); refine box_event ?hg (N := 5) ?hd (cs := #[.int .i64 0, .slice none 0 0, .slice none 0 0]) (t := 28) ?hr ?_; (case hd => rfl); (case hg => rfl); (case hr => first | (go_simp; done) | (go_simp; rfl)); intro gb223 hg w11 hbox hb; have n0_ := Aside0.mk (Kd.S_below (by exact HO219.out) hb); have n1_ := Aside0.mk (Kd.R_below (by exact HO222.out) hb); have n2_ := Aside0.mk (below_step (by exact HB.out) hb); have n3_ := Aside0.mk (hbox); have n4_ := Aside0.mk ((by rw [hg]; exact (below_size (by exact HB.out)) : w.heap.size ≤ gb223)); have n5_ := Aside0.mk ((by rw [hg]; exact (below_size (by exact HB.out)) : w.heap.size ≤ gb223)); clear HO219; clear HO222; clear HB; have HO219 := n0_; have HO222 := n1_; have HB := n2_; have BK223 := n3_; have GW223 := n4_; have GE223 := n5_; clear n0_ n1_ n2_ n3_ n4_ n5_; clear hb hbox hg; have hcz12_0 : w11.cell? ⟨gb223, 0, none⟩ = some (.int .i64 0) := (blk_cell BK223.out 0).trans rfl; have hcz12_1 : w11.cell? ⟨gb223, 1, none⟩ = some (.slice none 0 0) := (blk_cell BK223.out 1).trans rfl; have hcz12_2 : w11.cell? ⟨gb223, 2, none⟩ = some (.slice none 0 0) := (blk_cell BK223.out 2).trans rfl; have hfz12_0 := blk_frozen BK223.out 0; have hfz12_1 := blk_frozen BK223.out 1; have hfz12_2 := blk_frozen BK223.out 2; obtain ⟨Ao13, co13, eo13⟩ := Kd.S_slice HO219.out; subst eo13; obtain ⟨Ao14, co14, eo14⟩ := Kd.R_slice HO222.out; subst eo14) | ((with_reducible refine gate_dst (N := 34) rfl ?_); refine Kd.R_make Kd.string _ 9 rfl (N := 34) rfl 30 _ _ rfl ji7 rfl rfl Tryd.underlying30 (.string ⟨#[]⟩) 16 info9 rfl (by decide) (by omega) (⟨#[]⟩ : ByteArray) (ok := fun _ => True) (okp := fun _ => True) rfl (fun _ hk => hk) trivial (of_decide_eq_true (by first | (with_reducible assumption) | assumption)) (Nat.le_trans (Nat.mul_le_mul_right _ (of_decide_eq_true (by first | (with_reducible assumption) | assumption) : ji7.toNat ≤ 17592186044416)) (by omega)) (Below.refl _ _) (Nat.le_refl _) ?_; intro v225 w15 ho16 hb hg_ hnew_; clear hg_ hnew_; (first | rw [← Ny224.out] at ho16 | (simp only [Int.reduceToNat] at ho16; rw [← Ny224.out] at ho16)); have n0_ := Aside0.mk (Kd.S_below (by (with_reducible repeat (first | apply Kd.S_alloc | apply Kd.S_drewN | apply Kd.S_drew)); exact (Kd.S_mono (Kd.S_far (p := ⟨gb223, 2, none⟩) (Kd.S_far (p := ⟨gb223, 1, none⟩) (Kd.S_far (p := ⟨gb223, 0, none⟩) (Kd.S_types HO219.out BK223.out (by decide)) (fun _ hk => hk.2) (.int .i64 t216)) (fun _ hk => hk.2) (.slice Ao13 t217.length co13)) (fun _ hk => hk.2) (.slice Ao14 t220.length co14)) (fun _ h_ => h_.1))) hb); have n1_ := Aside0.mk (Kd.R_below (by (with_reducible repeat (first | apply Kd.R_alloc | apply Kd.R_drewN | apply Kd.R_drew)); exact (Kd.R_mono (Kd.R_far (p := ⟨gb223, 2, none⟩) (Kd.R_far (p := ⟨gb223, 1, none⟩) (Kd.R_far (p := ⟨gb223, 0, none⟩) (Kd.R_types HO222.out BK223.out (by decide)) (fun _ hk => hk.2) (.int .i64 t216)) (fun _ hk => hk.2) (.slice Ao13 t217.length co13)) (fun _ hk => hk.2) (.slice Ao14 t220.length co14)) (fun _ h_ => h_.1))) hb); have n2_ := Aside0.mk (Kd.R_lower ho16 (below_size (by repeat (first | (with_reducible first | exact HB.out | apply below_alloc | apply pw_below_drewN | apply below_drew1 | refine below_set ?_ GE223.out) | exact HB.out)))); have n3_ := Aside0.mk (blk_below (g := gb223) (o := .cells #[.int .i64 t216, .slice Ao13 t217.length co13, .slice Ao14 t220.length co14] 28 (0, 0)) (by (with_reducible repeat (first | refine blk_drewN ?_ _ | refine blk_drew ?_ | refine blk_alloc ?_ _)); refine blk_put (cs := #[.int .i64 t216, .slice Ao13 t217.length co13, .slice none 0 0]) ?_ 2 _ rfl; (with_reducible repeat (first | refine blk_drewN ?_ _ | refine blk_drew ?_ | refine blk_alloc ?_ _)); refine blk_put (cs := #[.int .i64 t216, .slice none 0 0, .slice none 0 0]) ?_ 1 _ rfl; (with_reducible repeat (first | refine blk_drewN ?_ _ | refine blk_drew ?_ | refine blk_alloc ?_ _)); refine blk_put (cs := #[.int .i64 0, .slice none 0 0, .slice none 0 0]) ?_ 0 _ rfl; exact BK223.out) hb); have n4_ := Aside0.mk (below_step (by repeat (first | (with_reducible first | exact HB.out | apply below_alloc | apply pw_below_drewN | apply below_drew1 | refine below_set ?_ GE223.out) | exact HB.out)) hb); clear HO219; clear HO222; clear BK223; clear HB; have HO219 := n0_; have HO222 := n1_; have HO226 := n2_; have BK223 := n3_; have HB := n4_; clear n0_ n1_ n2_ n3_ n4_; clear hb ho16) | ((with_reducible refine gate_dst (N := 35) rfl ?_); refine Kd.R_lit k35 _ 35 ?hg (N := 35) ?hd (xs := ([] : List (S35))) (inner := []) (ok := fun _ => True) (okp := fun _ => True) ?hr ?hp (fun _ hk => hk) trivial (Below.refl _ _) (Nat.le_refl _) (by simp) ?_; (case hd => rfl); (case hg => rfl); (case hr => first | (go_simp; done) | (go_simp; rfl)); (case hp => exact (Reps.none _ _)); intro v228 w17 ho18 hb hg_ hnew_; clear hg_ hnew_; (first | rw [← Ny227.out] at ho18 | (simp only [Int.reduceToNat] at ho18; rw [← Ny227.out] at ho18)); have n0_ := Aside0.mk (Kd.S_below (by exact HO219.out) hb); have n1_ := Aside0.mk (Kd.R_elder' (by exact HO222.out) (Kd.R_base ho18) hb); have n2_ := Aside0.mk (Kd.R_below (by exact HO226.out) hb); have n3_ := Aside0.mk (Kd.R_lower (Kd.R_new' ho18 (Kd.R_lt (by exact HO222.out))) (below_size (by exact HB.out))); have n4_ := Aside0.mk (blk_below (g := gb223) (o := .cells #[.int .i64 t216, .slice Ao13 t217.length co13, .slice Ao14 t220.length co14] 28 (0, 0)) (by exact BK223.out) hb); have n5_ := Aside0.mk (below_step (by exact HB.out) hb); clear HO219; clear HO222; clear HO226; clear BK223; clear HB; have HO219 := n0_; have HO222 := n1_; have HO226 := n2_; have HO229 := n3_; have BK223 := n4_; have HB := n5_; clear n0_ n1_ n2_ n3_ n4_ n5_; clear hb ho18))
    go_loopg [8] k (fun kq v8 w' => ∃ (x6_1 : List ByteArray) (x8_1 : Int), v8 = .int .i64 x8_1 ∧ Aside0 (laws_FnMemBook.l0 kq l0 ji7 (ji20) x6_1 y227 x8_1 t216 t217 t220 = some r) ∧ Aside0 (kq ≤ k) ∧ Aside0 (Kd.R Kd.string 9 w' w.heap.size (fun _ => True) v225 x6_1) ∧ Aside0 (Kd.R k35 35 w' w.heap.size (fun k_ => some k_ ≠ ((.slice Ao14 t220.length co14) : Value).ownBlock) v228 y227) ∧ Aside0 (Kd.S k56 56 w' w.heap.size (fun _ => True) (.slice Ao13 t217.length co13) t217) ∧ Aside0 (Kd.R k35 35 w' w.heap.size (fun k_ => some k_ ≠ (v228 : Value).ownBlock) (.slice Ao14 t220.length co14) t220) ∧ Aside0 (w'.heap[gb223]? = some (.cells #[.int .i64 t216, (.slice Ao13 t217.length co13), (.slice Ao14 t220.length co14)] 28 (0, 0))) ∧ Aside0 (Below w.heap.size w w'))
    case atStart => exact ⟨(y224), (0), (by first | rfl | (simp; done) | (simp [*]; done)), H', ⟨Nat.le_refl _⟩, ⟨by exact HO226.out⟩, ⟨by (with_reducible repeat (first | apply Kd.R_alloc | apply Kd.R_drewN | apply Kd.R_drew)); exact Kd.R_mono HO229.out (fun _ hk => hk.2)⟩, ⟨by exact HO219.out⟩, ⟨by (with_reducible repeat (first | apply Kd.R_alloc | apply Kd.R_drewN | apply Kd.R_drew)); exact Kd.R_mono HO222.out (fun _ hk => hk.2)⟩, ⟨by exact BK223.out⟩, ⟨by exact HB.out⟩⟩
    case round =>
     clear H'
     try clear p2
     try clear c3
     try clear c5
     try clear c6
     try clear p6
     try clear c7
     try clear c8
     try clear c8b0
     try clear c8b1
     try clear c9
     try clear c9b0
     try clear c9b1
     try clear hcz12_0
     try clear hcz12_1
     try clear hcz12_2
     try clear hfz12_0
     try clear hfz12_1
     try clear hfz12_2
     obtain ⟨x6_1, x8_1, rfl, HA, HK1, HO_6, HO_7, HO_224001, HO_224002, BK223, HB⟩ := hrel
     cases gk with
     | zero => exact absurd HA.out (by simp [laws_FnMemBook.l0])
     | succ k1 =>
      have H := HA.out
      clear HA
      simp only [laws_FnMemBook.l0] at H
      by_cases c19 : x8_1 < ji7
      ·rw [if_pos c19] at H
       have c19b0 : decide (x8_1 < ji7) = true := decide_eq_true c19
       clear c19
       by_cases c21 : 0 ≤ (ji20)
       ·rw [if_pos c21] at H
        have c21b0 := eq_true c21
        have c21b1 : decide (0 ≤ (ji20)) = true := decide_eq_true c21
        clear c21
        by_cases c22 : ((ji20) : Int).toNat ≤ 281474976710656
        ·rw [if_pos c22] at H
         have c22b0 := eq_true c22
         have c22b1 : decide (((ji20) : Int).toNat ≤ 281474976710656) = true := decide_eq_true c22
         clear c22
         obtain ⟨y230, hy230⟩ : ∃ y_ : List Int, y_ = (List.replicate ((ji20) : Int).toNat 0) := ⟨_, rfl⟩
         replace H : (if 0 ≤ x8_1 then (if x8_1 < (x6_1.length : Int) then (laws_FnMemBook.l0 k1 l0 ji7 (ji20) (x6_1.set (x8_1 : Int).toNat (strOfNums y230)) y227 (wrap64 (x8_1 + 1)) t216 t217 t220) else (none)) else (none)) = some r := by first | (rw [hy230]; with_reducible exact H) | (have H2_ := (Option.bind_some _ _).symm.trans H; rw [hy230]; with_reducible exact H2_) | (have H2_ := (Option.bind_some _ _).symm.trans H; with_reducible exact H2_) | with_reducible exact H | (rw [hy230]; exact H) | exact H
         have Ny230 := Aside0.mk hy230
         clear hy230
         by_cases c23 : 0 ≤ x8_1
         ·rw [if_pos c23] at H
          have c23b0 : decide (0 ≤ x8_1) = true := decide_eq_true c23
          clear c23
          by_cases c24 : x8_1 < (x6_1.length : Int)
          ·rw [if_pos c24] at H
           have c24b0 : decide (x8_1 < (x6_1.length : Int)) = true := decide_eq_true c24
           clear c24
           obtain ⟨y233, hy233⟩ : ∃ y_ : List ByteArray, y_ = (x6_1.set (x8_1 : Int).toNat (strOfNums y230)) := ⟨_, rfl⟩
           replace H : (laws_FnMemBook.l0 k1 l0 ji7 (ji20) y233 y227 (wrap64 (x8_1 + 1)) t216 t217 t220) = some r := by first | (rw [hy233]; with_reducible exact H) | (have H2_ := (Option.bind_some _ _).symm.trans H; rw [hy233]; with_reducible exact H2_) | (have H2_ := (Option.bind_some _ _).symm.trans H; with_reducible exact H2_) | with_reducible exact H | (rw [hy233]; exact H) | exact H
           have Ny233 := Aside0.mk hy233
           clear hy233
           have H' := Aside0.mk H
           clear H
           go_wp2_with (first | ((with_reducible refine gate_dst (N := 44) rfl ?_); refine Kd.R_make (Kd.int .u8) _ 5 rfl (N := 44) rfl 22 _ _ rfl (ji20) (by first | rfl | exact congrArg (Value.int .i64) hji20) (by first | rfl | exact congrArg (Value.int .i64) hji20) Tryd.underlying22 (.int .u8 0) 1 info5 rfl (by decide) (by omega) 0 (ok := fun _ => True) (okp := fun _ => True) rfl (fun _ hk => hk) trivial (of_decide_eq_true (by first | (with_reducible assumption) | assumption)) (Nat.le_trans (Nat.mul_le_mul_right _ (of_decide_eq_true (by first | (with_reducible assumption) | assumption) : (ji20).toNat ≤ 281474976710656)) (by omega)) (Below.refl _ _) (Nat.le_refl _) ?_; intro v231 w26 ho27 hb hg_ hnew_; clear hg_ hnew_; (first | rw [← Ny230.out] at ho27 | (simp only [Int.reduceToNat] at ho27; rw [← Ny230.out] at ho27)); have n0_ := Aside0.mk (Kd.R_below (by exact HO_6.out) hb); have n1_ := Aside0.mk (Kd.R_below (by exact HO_7.out) hb); have n2_ := Aside0.mk (Kd.S_elder' (by exact HO_224001.out) (Kd.R_base ho27) hb); have n3_ := Aside0.mk (Kd.R_below (by exact HO_224002.out) hb); have n4_ := Aside0.mk (Kd.R_lower ho27 (below_size (by exact HB.out))); have n5_ := Aside0.mk (blk_below (g := gb223) (o := .cells #[.int .i64 t216, .slice Ao13 t217.length co13, .slice Ao14 t220.length co14] 28 (0, 0)) (by exact BK223.out) hb); have n6_ := Aside0.mk (below_step (by exact HB.out) hb); clear HO_6; clear HO_7; clear HO_224001; clear HO_224002; clear BK223; clear HB; have HO_6 := n0_; have HO_7 := n1_; have HO_224001 := n2_; have HO_224002 := n3_; have HO232 := n4_; have BK223 := n5_; have HB := n6_; clear n0_ n1_ n2_ n3_ n4_ n5_ n6_; clear hb ho27; have hcv28 := own_string (P := Tryd.prog) Tryd.underlying22 Tryd.underlying5 Tryd.underlying9 (Kd.own_of_R HO232.out); have p25 : 0 ≤ (x8_1 : Int) := of_decide_eq_true (by first | (with_reducible assumption) | assumption); have q25 : (x8_1 : Int) < ((x6_1.length : Int) : Int) := of_decide_eq_true (by first | (with_reducible assumption) | assumption); obtain ⟨go25, co25, eo25, gb25, gl25, cl25, HG25⟩ := Kd.R_form HO_6.out (by omega); (first | cases eo25 | (injection eo25 with ea_ en_ ec_; (first | subst ea_ | (injection ea_ with ea_; subst ea_)); subst ec_; clear en_)); have GB25 := Aside0.mk gb25; have GG25 := Aside0.mk HG25; clear gb25 gl25 HG25; obtain ⟨hx25_0, hf25_0⟩ := Kd.R_celln (⟨#[]⟩ : ByteArray) HO_6.out (x8_1 : Int) p25 q25; replace p25 := eq_true p25; replace q25 := eq_true q25; obtain ⟨hy29_, hz29_⟩ := Kd.R_celln (⟨#[]⟩ : ByteArray) HO_6.out (x8_1 : Int) (of_decide_eq_true (by first | (with_reducible assumption) | assumption)) (of_decide_eq_true (by first | (with_reducible assumption) | assumption)); have HP29 := Kd.R_putg HO_6.out (x8_1 : Int) (strOfNums y230)) | ((with_reducible refine gate_store (t := 9) (p := 46) rfl ?_); refine store_event (t := 9) (p := 46) (v := ?vo_w30) (w1 := (w26.setCell ⟨go25, (x8_1 : Int).toNat, none⟩ (.string (strOfNums y230)))) ?hg ?ho ?hn ?hr ?_; (case ho => rfl); (case hg => rfl); (case hn => rfl); (case hr => first | (go_simp; done) | (go_simp; rfl)); intro w30 hw; have hg : w26.grownBy w30 (some go25) := (by rw [hw]; exact HP29.2); have hp_ : Kd.R Kd.string 9 w30 w.heap.size (fun _ => True) (.slice (some ⟨go25, 0, none⟩) x6_1.length co25) y233 := (by rw [hw, Ny233.out]; exact HP29.1); clear HP29; have n0_ := Aside0.mk (hp_); have n1_ := Aside0.mk (Kd.R_over' (v := (.slice (some ⟨go25, 0, none⟩) x6_1.length co25)) (by exact HO_7.out) (Kd.R_typed HO_6.out) (by decide) hg); have n2_ := Aside0.mk (Kd.S_over' (v := (.slice (some ⟨go25, 0, none⟩) x6_1.length co25)) (by exact HO_224001.out) (Kd.R_typed HO_6.out) (by decide) hg); have n3_ := Aside0.mk (Kd.R_over' (v := (.slice (some ⟨go25, 0, none⟩) x6_1.length co25)) (by exact HO_224002.out) (Kd.R_typed HO_6.out) (by decide) hg); have n4_ := Aside0.mk (blk_grown (g := gb223) (o := .cells #[.int .i64 t216, .slice Ao13 t217.length co13, .slice Ao14 t220.length co14] 28 (0, 0)) (by exact BK223.out) hg (Kd.R_ne HO_6.out BK223.out (by decide))); have n5_ := Aside0.mk (Kd.R_over' (v := (.slice (some ⟨go25, 0, none⟩) x6_1.length co25)) (by exact HO232.out) (Kd.R_typed HO_6.out) (by decide) hg); have n6_ := Aside0.mk ((by rw [hw]; exact below_set (HB.out) GB25.out : Below w.heap.size w w30)); clear HO_6; clear HO_7; clear HO_224001; clear HO_224002; clear BK223; clear HO232; clear HB; have HO_6 := n0_; have HO_7 := n1_; have HO_224001 := n2_; have HO_224002 := n3_; have BK223 := n4_; have HO232 := n5_; have HB := n6_; clear n0_ n1_ n2_ n3_ n4_ n5_ n6_; clear hg hw hp_))
           go_roundg k1
           case measure => have := HK1.out; omega
           case rel => exact ⟨(y233), (wrap64 (x8_1 + 1)), (by first | rfl | (simp; done) | (simp [*]; done)), H', ⟨by have := HK1.out; omega⟩, ⟨by exact HO_6.out⟩, ⟨by exact HO_7.out⟩, ⟨by (with_reducible repeat (first | apply Kd.S_alloc | apply Kd.S_drewN | apply Kd.S_drew)); exact Kd.S_mono HO_224001.out (fun _ hk => trivial)⟩, ⟨by exact HO_224002.out⟩, ⟨by exact BK223.out⟩, ⟨by exact HB.out⟩⟩
          ·rw [if_neg c24] at H
           exact absurd H (by simp)
         ·rw [if_neg c23] at H
          exact absurd H (by simp)
        ·rw [if_neg c22] at H
         exact absurd H (by simp)
       ·rw [if_neg c21] at H
        exact absurd H (by simp)
      ·rw [if_neg c19] at H
       have c19b0 : decide (x8_1 < ji7) = false := decide_eq_false c19
       clear c19
       have H' := Aside0.mk H
       clear H
       go_wp2
       go_loopg [7, 9] k1 (fun kq v7 v9 w' => ∃ (x6_2 : List ByteArray) (x7_2 : List (S35)) (x9_2 : Int) (x224000_2 : Int) (x224001_2 : List (S56)) (x224002_2 : List (S35)) (u224001 : Value) (u224002 : Value), v9 = .int .i64 x9_2 ∧ Aside0 (laws_FnMemBook.l1 kq l0 ji7 (ji20) x6_2 x7_2 x9_2 x224000_2 x224001_2 x224002_2 = some r) ∧ Aside0 (kq ≤ k1) ∧ Aside0 (Kd.R Kd.string 9 w' w.heap.size (fun _ => True) v225 x6_2) ∧ Aside0 (Kd.R k35 35 w' w.heap.size (fun k_ => some k_ ≠ (u224002 : Value).ownBlock) v7 x7_2) ∧ Aside0 (Kd.S k56 56 w' w.heap.size (fun _ => True) u224001 x224001_2) ∧ Aside0 (Kd.R k35 35 w' w.heap.size (fun k_ => some k_ ≠ (v7 : Value).ownBlock) u224002 x224002_2) ∧ Aside0 (w'.heap[gb223]? = some (.cells #[.int .i64 x224000_2, u224001, u224002] 28 (0, 0))) ∧ Aside0 (Below w.heap.size w w'))
       case atStart => exact ⟨(x6_1), (y227), (0), (t216), (t217), (t220), (.slice Ao13 t217.length co13), (.slice Ao14 t220.length co14), (by first | rfl | (simp; done) | (simp [*]; done)), H', ⟨Nat.le_refl _⟩, ⟨by exact HO_6.out⟩, ⟨by exact HO_7.out⟩, ⟨by exact HO_224001.out⟩, ⟨by exact HO_224002.out⟩, ⟨by exact BK223.out⟩, ⟨by exact HB.out⟩⟩
       case round =>
        clear H'
        try clear c1
        try clear c2
        try clear p2
        try clear q2
        try clear hx2
        try clear hcv2
        try clear hf2
        try clear c3
        try clear c5
        try clear c6
        try clear p6
        try clear c7
        try clear c8
        try clear c8b0
        try clear c8b1
        try clear c9
        try clear c9b0
        try clear c9b1
        try clear c19
        try clear c19b0
        try clear c21
        try clear c21b0
        try clear c21b1
        try clear c22
        try clear c22b0
        try clear c22b1
        try clear c23
        try clear c23b0
        try clear c24
        try clear c24b0
        try clear p25
        try clear q25
        try clear hx25
        try clear hf25
        try clear hcv28
        try clear hcz12_0
        try clear hcz12_1
        try clear hcz12_2
        try clear hfz12_0
        try clear hfz12_1
        try clear hfz12_2
        try clear hx25_0
        try clear p2
        try clear p25
        try clear p6
        try clear q25
        obtain ⟨x6_2, x7_2, x9_2, x224000_2, x224001_2, x224002_2, u224001, u224002, rfl, HA, HK2, HO_6, HO_7, HO_224001, HO_224002, BK223, HB⟩ := hrel
        cases gk with
        | zero => exact absurd HA.out (by simp [laws_FnMemBook.l1])
        | succ k2 =>
         have H := HA.out
         clear HA
         simp only [laws_FnMemBook.l1] at H
         obtain ⟨ji31, hji31⟩ : ∃ j_ : Int, (mn 40 (l0.length : Int)) = j_ := ⟨_, rfl⟩
         replace H : (if x9_2 < (ji31) then ((laws_pick.f k2 l0 x9_2 (wrap64 (ji7 + 1))).bind fun t234 => ((laws_pick.f k2 l0 (wrap64 (x9_2 + 3)) 2).bind fun t235 => (if t235 = 0 then (laws_FnMemBook.l2 k2 l0 ji7 (ji20) x6_2 x7_2 x9_2 t234 (([] : List Int)) x224000_2 x224001_2 x224002_2) else ((impl_MemRead.f x224000_2 x224001_2 x224002_2 t234).bind fun bt259 => (if ((bt259.2.2.2.2 == 0) != (decide (t234 < ji7))) = true then (laws_FnMemBook.j4 k2 l0 ji7 (ji20) x6_2 x7_2 x9_2 t234 true x224000_2 x224001_2 x224002_2 bt259.1 bt259.2.1 bt259.2.2.1) else (if t234 < ji7 then (if 0 ≤ t234 then (if t234 < (x6_2.length : Int) then (laws_FnMemBook.j4 k2 l0 ji7 (ji20) x6_2 x7_2 x9_2 t234 ((strOfNums bt259.2.2.2.1).toList != (rdOf ByteArray.empty x6_2 t234).toList) x224000_2 x224001_2 x224002_2 bt259.1 bt259.2.1 bt259.2.2.1) else (none)) else (none)) else (laws_FnMemBook.j4 k2 l0 ji7 (ji20) x6_2 x7_2 x9_2 t234 false x224000_2 x224001_2 x224002_2 bt259.1 bt259.2.1 bt259.2.2.1))))))) else (laws_FnMemBook.l3 k2 ji7 x6_2 x7_2 (⟨#[]⟩ : ByteArray) 0 x224000_2 x224001_2 x224002_2)) = some r := by first | (rw [hji31] at H; exact H) | (simp only [hji31] at H ⊢; exact H)
         have hji31_ : (if (l0.length : Int) < 40 then (l0.length : Int) else 40) = ji31 := hji31
         by_cases c32 : x9_2 < (ji31)
         ·rw [if_pos c32] at H
          have c32b0 : decide (x9_2 < (ji31)) = true := decide_eq_true c32
          clear c32
          replace H := Option.bind_eq_some_iff.mp H
          obtain ⟨t234, A330, H⟩ := H
          replace H : ((laws_pick.f k2 l0 (wrap64 (x9_2 + 3)) 2).bind fun t235 => (if t235 = 0 then (laws_FnMemBook.l2 k2 l0 ji7 (ji20) x6_2 x7_2 x9_2 t234 (([] : List Int)) x224000_2 x224001_2 x224002_2) else ((impl_MemRead.f x224000_2 x224001_2 x224002_2 t234).bind fun bt259 => (if ((bt259.2.2.2.2 == 0) != (decide (t234 < ji7))) = true then (laws_FnMemBook.j4 k2 l0 ji7 (ji20) x6_2 x7_2 x9_2 t234 true x224000_2 x224001_2 x224002_2 bt259.1 bt259.2.1 bt259.2.2.1) else (if t234 < ji7 then (if 0 ≤ t234 then (if t234 < (x6_2.length : Int) then (laws_FnMemBook.j4 k2 l0 ji7 (ji20) x6_2 x7_2 x9_2 t234 ((strOfNums bt259.2.2.2.1).toList != (rdOf ByteArray.empty x6_2 t234).toList) x224000_2 x224001_2 x224002_2 bt259.1 bt259.2.1 bt259.2.2.1) else (none)) else (none)) else (laws_FnMemBook.j4 k2 l0 ji7 (ji20) x6_2 x7_2 x9_2 t234 false x224000_2 x224001_2 x224002_2 bt259.1 bt259.2.1 bt259.2.2.1)))))) = some r := H
          have A33 := Aside0.mk A330
          clear A330
          replace H := Option.bind_eq_some_iff.mp H
          obtain ⟨t235, A340, H⟩ := H
          replace H : (if t235 = 0 then (laws_FnMemBook.l2 k2 l0 ji7 (ji20) x6_2 x7_2 x9_2 t234 (([] : List Int)) x224000_2 x224001_2 x224002_2) else ((impl_MemRead.f x224000_2 x224001_2 x224002_2 t234).bind fun bt259 => (if ((bt259.2.2.2.2 == 0) != (decide (t234 < ji7))) = true then (laws_FnMemBook.j4 k2 l0 ji7 (ji20) x6_2 x7_2 x9_2 t234 true x224000_2 x224001_2 x224002_2 bt259.1 bt259.2.1 bt259.2.2.1) else (if t234 < ji7 then (if 0 ≤ t234 then (if t234 < (x6_2.length : Int) then (laws_FnMemBook.j4 k2 l0 ji7 (ji20) x6_2 x7_2 x9_2 t234 ((strOfNums bt259.2.2.2.1).toList != (rdOf ByteArray.empty x6_2 t234).toList) x224000_2 x224001_2 x224002_2 bt259.1 bt259.2.1 bt259.2.2.1) else (none)) else (none)) else (laws_FnMemBook.j4 k2 l0 ji7 (ji20) x6_2 x7_2 x9_2 t234 false x224000_2 x224001_2 x224002_2 bt259.1 bt259.2.1 bt259.2.2.1))))) = some r := H
          have A34 := Aside0.mk A340
          clear A340
          by_cases c35 : t235 = 0
          ·rw [if_pos c35] at H
           have c35b0 : (t235 == 0) = true := beq_iff_eq.mpr c35
           have c35b1 : (t235 != 0) = false := bne_eq_false_iff_eq.mpr c35
           clear c35
           obtain ⟨y236, hy236⟩ : ∃ y_ : List Int, y_ = (([] : List Int)) := ⟨_, rfl⟩
           replace H : (laws_FnMemBook.l2 k2 l0 ji7 (ji20) x6_2 x7_2 x9_2 t234 y236 x224000_2 x224001_2 x224002_2) = some r := by first | (rw [hy236]; with_reducible exact H) | (have H2_ := (Option.bind_some _ _).symm.trans H; rw [hy236]; with_reducible exact H2_) | (have H2_ := (Option.bind_some _ _).symm.trans H; with_reducible exact H2_) | with_reducible exact H | (rw [hy236]; exact H) | exact H
           have Ny236 := Aside0.mk hy236
           clear hy236
           have H' := Aside0.mk H
           clear H
           go_wp2_with (first | ((with_reducible refine gate_callee (f := 6) rfl ?_); refine goesL_ (some 58) rfl rfl Tryd.func6 (by kernel_rfl) rfl #[.slice A0 l0.length c0, .int .i64 x9_2, .int .i64 (wrap64 (ji7 + 1))] rfl (by (try simp only [List.map_toArray, List.map_cons, List.map_nil]); first | done | (simp only [hji7]; rfl) | rfl | (simp only [List.length_drop, List.length_take]; rfl)) ?_; (with_reducible refine (laws_pick.calls k2 _ _ l0 x9_2 (wrap64 (ji7 + 1)) t234 _ ?side1 ?side2 A33.out).mono ?_); (case side1 => repeat (first | exact (Kd.C_below HR0.out HB.out) | (with_reducible refine Kd.C_alloc ?_ _) | (with_reducible refine Kd.C_drewN ?_ _) | (with_reducible refine Kd.C_drew ?_))); (case side2 => exact HC0.out); rintro e w' ⟨rfl, ⟨nd, rfl⟩⟩; refine ⟨_, rfl, ?_⟩) | ((with_reducible refine gate_callee (f := 6) rfl ?_); refine goesL_ (some 62) rfl rfl Tryd.func6 (by kernel_rfl) rfl #[.slice A0 l0.length c0, .int .i64 (wrap64 (x9_2 + 3)), .int .i64 2] rfl (by (try simp only [List.map_toArray, List.map_cons, List.map_nil]); first | done | rfl | (simp only [List.length_drop, List.length_take]; rfl)) ?_; (with_reducible refine (laws_pick.calls k2 _ _ l0 (wrap64 (x9_2 + 3)) 2 t235 _ ?side1 ?side2 A34.out).mono ?_); (case side1 => repeat (first | exact (Kd.C_below HR0.out (by repeat (first | (with_reducible first | exact HB.out | apply below_alloc | apply pw_below_drewN | apply below_drew1 | refine below_set ?_ GE223.out) | exact HB.out))) | (with_reducible refine Kd.C_alloc ?_ _) | (with_reducible refine Kd.C_drewN ?_ _) | (with_reducible refine Kd.C_drew ?_))); (case side2 => exact HC0.out); rintro e w' ⟨rfl, ⟨nd, rfl⟩⟩; refine ⟨_, rfl, ?_⟩) | ((with_reducible refine gate_dst (N := 64) rfl ?_); refine Kd.R_lit (Kd.int .u8) _ 5 ?hg (N := 64) ?hd (xs := ([] : List Int)) (inner := []) (ok := fun _ => True) (okp := fun _ => True) ?hr ?hp (fun _ hk => hk) trivial (Below.refl _ _) (Nat.le_refl _) (by simp) ?_; (case hd => rfl); (case hg => rfl); (case hr => first | (go_simp; done) | (go_simp; rfl)); (case hp => exact (Reps.none _ _)); intro v237 w36 ho37 hb hg_ hnew_; clear hg_ hnew_; (first | rw [← Ny236.out] at ho37 | (simp only [Int.reduceToNat] at ho37; rw [← Ny236.out] at ho37)); have n0_ := Aside0.mk (Kd.R_below (by (with_reducible repeat (first | apply Kd.R_alloc | apply Kd.R_drewN | apply Kd.R_drew)); exact HO_6.out) hb); have n1_ := Aside0.mk (Kd.R_below (by (with_reducible repeat (first | apply Kd.R_alloc | apply Kd.R_drewN | apply Kd.R_drew)); exact HO_7.out) hb); have n2_ := Aside0.mk (Kd.S_elder' (by (with_reducible repeat (first | apply Kd.S_alloc | apply Kd.S_drewN | apply Kd.S_drew)); exact HO_224001.out) (Kd.R_base ho37) hb); have n3_ := Aside0.mk (Kd.R_below (by (with_reducible repeat (first | apply Kd.R_alloc | apply Kd.R_drewN | apply Kd.R_drew)); exact HO_224002.out) hb); have n4_ := Aside0.mk (Kd.R_lower ho37 (below_size (by repeat (first | (with_reducible first | exact HB.out | apply below_alloc | apply pw_below_drewN | apply below_drew1 | refine below_set ?_ GE223.out) | exact HB.out)))); have n5_ := Aside0.mk (blk_below (g := gb223) (o := .cells #[.int .i64 x224000_2, u224001, u224002] 28 (0, 0)) (by (with_reducible repeat (first | refine blk_drewN ?_ _ | refine blk_drew ?_ | refine blk_alloc ?_ _)); exact BK223.out) hb); have n6_ := Aside0.mk (below_step (by repeat (first | (with_reducible first | exact HB.out | apply below_alloc | apply pw_below_drewN | apply below_drew1 | refine below_set ?_ GE223.out) | exact HB.out)) hb); clear HO_6; clear HO_7; clear HO_224001; clear HO_224002; clear BK223; clear HB; have HO_6 := n0_; have HO_7 := n1_; have HO_224001 := n2_; have HO_224002 := n3_; have HO238 := n4_; have BK223 := n5_; have HB := n6_; clear n0_ n1_ n2_ n3_ n4_ n5_ n6_; clear hb ho37))
           go_loopg [11] k2 (fun kq v11 w' => ∃ (x11_3 : List Int), Aside0 (laws_FnMemBook.l2 kq l0 ji7 (ji20) x6_2 x7_2 x9_2 t234 x11_3 x224000_2 x224001_2 x224002_2 = some r) ∧ Aside0 (kq ≤ k2) ∧ Aside0 (Kd.R Kd.string 9 w' w.heap.size (fun _ => True) v225 x6_2) ∧ Aside0 (Kd.R k35 35 w' w.heap.size (fun k_ => some k_ ≠ (u224002 : Value).ownBlock) u7 x7_2) ∧ Aside0 (Kd.R (Kd.int .u8) 5 w' w.heap.size (fun _ => True) v11 x11_3) ∧ Aside0 (Kd.S k56 56 w' w.heap.size (fun k_ => some k_ ≠ (v11 : Value).ownBlock) u224001 x224001_2) ∧ Aside0 (Kd.R k35 35 w' w.heap.size (fun k_ => some k_ ≠ (u7 : Value).ownBlock) u224002 x224002_2) ∧ Aside0 (w'.heap[gb223]? = some (.cells #[.int .i64 x224000_2, u224001, u224002] 28 (0, 0))) ∧ Aside0 (Below w.heap.size w w'))
           case atStart => exact ⟨(y236), H', ⟨Nat.le_refl _⟩, ⟨by exact HO_6.out⟩, ⟨by exact HO_7.out⟩, ⟨by exact HO238.out⟩, ⟨by (with_reducible repeat (first | apply Kd.S_alloc | apply Kd.S_drewN | apply Kd.S_drew)); exact Kd.S_mono HO_224001.out (fun _ hk => hk.2)⟩, ⟨by exact HO_224002.out⟩, ⟨by exact BK223.out⟩, ⟨by exact HB.out⟩⟩
           case round =>
            clear H'
            try clear c1
            try clear c2
            try clear p2
            try clear q2
            try clear hx2
            try clear hcv2
            try clear hf2
            try clear c3
            try clear c5
            try clear c6
            try clear p6
            try clear c7
            try clear c8
            try clear c8b0
            try clear c8b1
            try clear c9
            try clear c9b0
            try clear c9b1
            try clear c19
            try clear c19b0
            try clear c21
            try clear c21b0
            try clear c21b1
            try clear c22
            try clear c22b0
            try clear c22b1
            try clear c23
            try clear c23b0
            try clear c24
            try clear c24b0
            try clear p25
            try clear q25
            try clear hx25
            try clear hf25
            try clear hcv28
            try clear c32
            try clear c32b0
            try clear c35
            try clear c35b0
            try clear c35b1
            try clear hcz12_0
            try clear hcz12_1
            try clear hcz12_2
            try clear hfz12_0
            try clear hfz12_1
            try clear hfz12_2
            try clear hx25_0
            try clear p2
            try clear p25
            try clear p6
            try clear q2
            try clear q25
            obtain ⟨x11_3, HA, HK3, HO_6, HO_7, HO_11, HO_224001, HO_224002, BK223, HB⟩ := hrel
            cases gk with
            | zero => exact absurd HA.out (by simp [laws_FnMemBook.l2])
            | succ k3 =>
             have H := HA.out
             clear HA
             simp only [laws_FnMemBook.l2] at H
             by_cases c38 : (x11_3.length : Int) < (ji20)
             ·rw [if_pos c38] at H
              have c38b0 : decide ((x11_3.length : Int) < (ji20)) = true := decide_eq_true c38
              clear c38
              replace H := Option.bind_eq_some_iff.mp H
              obtain ⟨t239, A390, H⟩ := H
              replace H : (if x11_3.length < 140737488355328 then (laws_FnMemBook.l2 k3 l0 ji7 (ji20) x6_2 x7_2 x9_2 t234 (x11_3 ++ [(t239) % 256]) x224000_2 x224001_2 x224002_2) else (none)) = some r := H
              have A39 := Aside0.mk A390
              clear A390
              by_cases c40 : x11_3.length < 140737488355328
              ·rw [if_pos c40] at H
               have LMc40 := Aside0.mk c40
               clear c40
               obtain ⟨y240, hy240⟩ : ∃ y_ : List Int, y_ = (x11_3 ++ [(t239) % 256]) := ⟨_, rfl⟩
               replace H : (laws_FnMemBook.l2 k3 l0 ji7 (ji20) x6_2 x7_2 x9_2 t234 y240 x224000_2 x224001_2 x224002_2) = some r := by first | (rw [hy240]; with_reducible exact H) | (have H2_ := (Option.bind_some _ _).symm.trans H; rw [hy240]; with_reducible exact H2_) | (have H2_ := (Option.bind_some _ _).symm.trans H; with_reducible exact H2_) | with_reducible exact H | (rw [hy240]; exact H) | exact H
               have Ny240 := Aside0.mk hy240
               clear hy240
               have H' := Aside0.mk H
               clear H
               obtain ⟨Ao41, co41, eo41⟩ := Kd.R_slice HO_11.out
               subst eo41
               go_wp2_with (first | ((with_reducible refine gate_callee (f := 6) rfl ?_); refine goesL_ (some 76) rfl rfl Tryd.func6 (by kernel_rfl) rfl #[.slice A0 l0.length c0, .int .i64 (wrap64 ((wrap64 (x9_2 + (x11_3.length : Int))) + 5)), .int .i64 256] rfl (by (try simp only [List.map_toArray, List.map_cons, List.map_nil]); first | done | rfl | (simp only [List.length_drop, List.length_take]; rfl)) ?_; (with_reducible refine (laws_pick.calls k3 _ _ l0 (wrap64 ((wrap64 (x9_2 + (x11_3.length : Int))) + 5)) 256 t239 _ ?side1 ?side2 A39.out).mono ?_); (case side1 => repeat (first | exact (Kd.C_below HR0.out HB.out) | (with_reducible refine Kd.C_alloc ?_ _) | (with_reducible refine Kd.C_drewN ?_ _) | (with_reducible refine Kd.C_drew ?_))); (case side2 => exact HC0.out); rintro e w' ⟨rfl, ⟨nd, rfl⟩⟩; refine ⟨_, rfl, ?_⟩) | ((with_reducible refine gate_builtin (b := .append) (xs := #[.tmp 69, .tmp 78]) rfl ?_); at_builtin; refine Kd.R_append (Kd.int .u8) (w0 := w) w.heap.size rfl (.tmp 69) (.tmp 78) 22 5 (.int .u8 0) 1 rfl Tryd.underlying22 info5 rfl (by decide) (by omega) (.slice Ao41 x11_3.length co41) x11_3 ((t239) % 256) [.int .u8 ((t239) % 256)] (fun _ => True) (fun _ => False) rfl rfl ?aP (fun _ hk => hk.elim) ?aF ?aO ?aB ?aS ?aL ?_; (case aP => exact rfl); (case aB => exact (by repeat (first | (with_reducible first | exact HB.out | apply below_alloc | apply pw_below_drewN | apply below_drew1 | refine below_set ?_ GE223.out) | exact HB.out))); (case aF => exact (fun _ _ => trivial)); (case aO => exact (by (with_reducible repeat (first | apply Kd.R_alloc | apply Kd.R_drewN | apply Kd.R_drew)); exact HO_11.out)); (case aS => exact (below_size (by repeat (first | (with_reducible first | exact HB.out | apply below_alloc | apply pw_below_drewN | apply below_drew1 | refine below_set ?_ GE223.out) | exact HB.out)))); (case aL => have := LMc40.out; omega); intro v241 w42 ho hb hg hat; rw [← Ny240.out] at ho; have n0_ := Aside0.mk (Kd.R_over' (by (with_reducible repeat (first | apply Kd.R_alloc | apply Kd.R_drewN | apply Kd.R_drew)); exact HO_6.out) (Kd.R_typed (by (with_reducible repeat (first | apply Kd.R_alloc | apply Kd.R_drewN | apply Kd.R_drew)); exact HO_11.out)) (by decide) hg); have n1_ := Aside0.mk (Kd.R_over' (by (with_reducible repeat (first | apply Kd.R_alloc | apply Kd.R_drewN | apply Kd.R_drew)); exact HO_7.out) (Kd.R_typed (by (with_reducible repeat (first | apply Kd.R_alloc | apply Kd.R_drewN | apply Kd.R_drew)); exact HO_11.out)) (by decide) hg); have n2_ := Aside0.mk (Kd.S_after (ok := (fun _ => True)) (by (with_reducible repeat (first | apply Kd.S_alloc | apply Kd.S_drewN | apply Kd.S_drew)); exact Kd.S_mono HO_224001.out (fun _ hk => ⟨trivial, hk⟩)) hg hat); have n3_ := Aside0.mk (Kd.R_over' (by (with_reducible repeat (first | apply Kd.R_alloc | apply Kd.R_drewN | apply Kd.R_drew)); exact HO_224002.out) (Kd.R_typed (by (with_reducible repeat (first | apply Kd.R_alloc | apply Kd.R_drewN | apply Kd.R_drew)); exact HO_11.out)) (by decide) hg); have n4_ := Aside0.mk (blk_grown (g := gb223) (o := .cells #[.int .i64 x224000_2, u224001, u224002] 28 (0, 0)) (by (with_reducible repeat (first | refine blk_drewN ?_ _ | refine blk_drew ?_ | refine blk_alloc ?_ _)); exact BK223.out) hg (Kd.R_ne HO_11.out BK223.out (by decide))); have n5_ := Aside0.mk (hb); have n6_ := Aside0.mk (ho); clear HO_6; clear HO_7; clear HO_224001; clear HO_224002; clear BK223; clear HB; clear HO_11; have HO_6 := n0_; have HO_7 := n1_; have HO_224001 := n2_; have HO_224002 := n3_; have BK223 := n4_; have HB := n5_; have HO242 := n6_; clear n0_ n1_ n2_ n3_ n4_ n5_ n6_; clear ho hb hg hat))
               go_roundg k3
               case measure => have := HK1.out; have := HK2.out; have := HK3.out; omega
               case rel => exact ⟨(y240), H', ⟨by have := HK1.out; have := HK2.out; have := HK3.out; omega⟩, ⟨by exact HO_6.out⟩, ⟨by exact HO_7.out⟩, ⟨by exact HO242.out⟩, ⟨by (with_reducible repeat (first | apply Kd.S_alloc | apply Kd.S_drewN | apply Kd.S_drew)); exact Kd.S_mono HO_224001.out (fun _ hk => hk.2)⟩, ⟨by exact HO_224002.out⟩, ⟨by exact BK223.out⟩, ⟨by exact HB.out⟩⟩
              ·rw [if_neg c40] at H
               exact absurd H (by simp)
             ·rw [if_neg c38] at H
              have c38b0 : decide ((x11_3.length : Int) < (ji20)) = false := decide_eq_false c38
              clear c38
              replace H := Option.bind_eq_some_iff.mp H
              obtain ⟨t243, A430, H⟩ := H
              replace H : ((impl_MemWrite.f x224000_2 x224001_2 x224002_2 t234 t243).bind fun bt246 => (if ((bt246.2.2.2 == 0) != (decide (t234 < ji7))) = true then (laws_FnMemBook.j3 k3 l0 ji7 (ji20) x6_2 x7_2 x9_2 t234 x11_3 true x224000_2 x224001_2 x224002_2 bt246.1 bt246.2.1 bt246.2.2.1) else (if t234 = ji7 then (laws_FnMemBook.j3 k3 l0 ji7 (ji20) x6_2 x7_2 x9_2 t234 x11_3 (bt246.2.2.2 != 2) x224000_2 x224001_2 x224002_2 bt246.1 bt246.2.1 bt246.2.2.1) else (laws_FnMemBook.j3 k3 l0 ji7 (ji20) x6_2 x7_2 x9_2 t234 x11_3 false x224000_2 x224001_2 x224002_2 bt246.1 bt246.2.1 bt246.2.2.1)))) = some r := H
              have A43 := Aside0.mk A430
              clear A430
              replace H := Option.bind_eq_some_iff.mp H
              obtain ⟨⟨t246, t247, t250, t253⟩, A440, H⟩ := H
              replace H : (if ((t253 == 0) != (decide (t234 < ji7))) = true then (laws_FnMemBook.j3 k3 l0 ji7 (ji20) x6_2 x7_2 x9_2 t234 x11_3 true x224000_2 x224001_2 x224002_2 t246 t247 t250) else (if t234 = ji7 then (laws_FnMemBook.j3 k3 l0 ji7 (ji20) x6_2 x7_2 x9_2 t234 x11_3 (t253 != 2) x224000_2 x224001_2 x224002_2 t246 t247 t250) else (laws_FnMemBook.j3 k3 l0 ji7 (ji20) x6_2 x7_2 x9_2 t234 x11_3 false x224000_2 x224001_2 x224002_2 t246 t247 t250))) = some r := H
              have A44 := Aside0.mk A440
              clear A440
              have HC45 := Aside0.mk H
              clear H
              obtain ⟨Ao46, co46, eo46⟩ := Kd.R_slice HO_11.out
              subst eo46
              obtain ⟨Ao47, co47, eo47⟩ := Kd.S_slice HO_224001.out
              subst eo47
              obtain ⟨Ao48, co48, eo48⟩ := Kd.R_slice HO_224002.out
              subst eo48
              try go_wp2
              have n0_ := Aside0.mk (Kd.R_drew HO_6.out)
              have n1_ := Aside0.mk (Kd.R_drew HO_7.out)
              have n2_ := Aside0.mk (Kd.R_drew HO_11.out)
              have n3_ := Aside0.mk (Kd.S_drew HO_224001.out)
              have n4_ := Aside0.mk (Kd.R_drew HO_224002.out)
              have n5_ := Aside0.mk (blk_drew BK223.out)
              have n6_ := Aside0.mk (below_drew1 HB.out)
              clear HO_6
              clear HO_7
              clear HO_11
              clear HO_224001
              clear HO_224002
              clear BK223
              clear HB
              have HO_6 := n0_
              have HO_7 := n1_
              have HO_11 := n2_
              have HO_224001 := n3_
              have HO_224002 := n4_
              have BK223 := n5_
              have HB := n6_
              clear n0_ n1_ n2_ n3_ n4_ n5_ n6_
              refine start_ (n := 11) (S := fun w' => w'.cell? ⟨gb223, 0, none⟩ = some (.int .i64 x224000_2) ∧ w'.cell? ⟨gb223, 1, none⟩ = some (.slice Ao47 x224001_2.length co47) ∧ w'.cell? ⟨gb223, 2, none⟩ = some (.slice Ao48 x224002_2.length co48)) (ds := []) #[false, false, false, false, false, false, false, false, false, false, false] (by kernel_rfl) rfl rfl ⟨(blk_cell BK223.out 0).trans rfl, (blk_cell BK223.out 1).trans rfl, (blk_cell BK223.out 2).trans rfl⟩ (fun hHeld => ?_); refine with_tabW laws_FnMemBook.tab20 laws_FnMemBook.bits20 (fun HT_ HW_ => ?_)
              generalize wr.drew = w49 at HO_6 HO_7 HO_11 HO_224001 HO_224002 BK223 HB hHeld ⊢
              refine pure_ (i := 1) (N := some 82) (v := ?_) (a' := ?_) #[false, true, false, false, false, false, false, false, false, false, false] rfl rfl (any_of HT_.out (by kernel_rfl)) (fun _ _ _ h => h) (Or.inl ⟨by rfl, ?_⟩) ?_ ?_
              rotate_left
              ·intro w'
               go_simp
               with_reducible rfl
              rotate_left
              ·simp only [Act.put, List.setIfInBounds_toArray, List.set_cons_zero, List.set_cons_succ, i64_w, i32_w]
               rfl
              refine pure_ (i := 2) (N := some 83) (v := ?_) (a' := ?_) #[false, true, true, false, false, false, false, false, false, false, false] rfl rfl (any_of HT_.out (by kernel_rfl)) (fun _ _ _ h => h) (Or.inl ⟨by rfl, ?_⟩) ?_ ?_
              rotate_left
              ·intro w'
               go_simp
               with_reducible rfl
              rotate_left
              ·simp only [Act.put, List.setIfInBounds_toArray, List.set_cons_zero, List.set_cons_succ, i64_w, i32_w]
               rfl
              refine take_ (i := 0) (N := some 81) (v := ?_) (a' := ?_) #[true, true, true, false, false, false, false, false, false, false, false] rfl rfl (take_ofW HT_.out HW_.out (by kernel_rfl)) (fun _ _ _ h => h) (Or.inl ⟨by rfl, ?_⟩) hHeld ?_ ?_
              rotate_left
              ·rintro w' ⟨s0, s1, s2⟩
               go_simp
               with_reducible rfl
              rotate_left
              ·simp only [Act.put, List.setIfInBounds_toArray, List.set_cons_zero, List.set_cons_succ, i64_w, i32_w]
               rfl
              refine join_ (σ := Value × Value × Value × Nat) 2 #[true, true, true, true, true, true, true, true, true, false, false] (fun s_ => [(84, s_.1), (85, .tuple #[.agg #[.int .i64 t246, s_.2.1, s_.2.2.1], .int .i64 t253]), (12, .pointer (some ⟨s_.2.2.2, 0, none⟩)), (80, .tuple #[.agg #[.int .i64 t246, s_.2.1, s_.2.2.1], .int .i64 t253]), (86, .agg #[.int .i64 t246, s_.2.1, s_.2.2.1]), (87, .int .i64 t253)]) (fun s_ w' => (w'.cell? ⟨gb223, 0, none⟩ = some (.int .i64 x224000_2) ∧ w'.cell? ⟨gb223, 1, none⟩ = some (.slice Ao47 x224001_2.length co47) ∧ w'.cell? ⟨gb223, 2, none⟩ = some (.slice Ao48 x224002_2.length co48)) ∧ (Kd.R (Kd.int .u8) 5 w' w.heap.size (fun k_ => some k_ ≠ (.slice Ao46 x11_3.length co46 : Value).ownBlock) s_.1 t243) ∧ (Kd.S k56 56 w' w.heap.size (fun k_ => some k_ ≠ (s_.1 : Value).ownBlock ∧ some k_ ≠ (.slice Ao46 x11_3.length co46 : Value).ownBlock ∧ some k_ ≠ (.slice Ao47 x224001_2.length co47 : Value).ownBlock) s_.2.1 t247) ∧ (Kd.R k35 35 w' w.heap.size (fun k_ => some k_ ≠ (.slice Ao48 x224002_2.length co48 : Value).ownBlock ∧ some k_ ≠ (u7 : Value).ownBlock) s_.2.2.1 t250) ∧ (Kd.R (Kd.int .u8) 5 w' w.heap.size (fun k_ => some k_ ≠ (s_.1 : Value).ownBlock) (.slice Ao46 x11_3.length co46) x11_3) ∧ (Kd.S k56 56 w' w.heap.size (fun k_ => some k_ ≠ (s_.1 : Value).ownBlock ∧ some k_ ≠ (s_.2.1 : Value).ownBlock ∧ some k_ ≠ (.slice Ao46 x11_3.length co46 : Value).ownBlock) (.slice Ao47 x224001_2.length co47) x224001_2) ∧ (Kd.R k35 35 w' w.heap.size (fun k_ => some k_ ≠ (s_.2.2.1 : Value).ownBlock ∧ some k_ ≠ (u7 : Value).ownBlock) (.slice Ao48 x224002_2.length co48) x224002_2) ∧ (Kd.R Kd.string 9 w' w.heap.size (fun _ => True) v225 x6_2) ∧ (Kd.R k35 35 w' w.heap.size (fun k_ => some k_ ≠ (s_.2.2.1 : Value).ownBlock ∧ some k_ ≠ (.slice Ao48 x224002_2.length co48 : Value).ownBlock) u7 x7_2) ∧ (w'.heap[gb223]? = some (.cells #[.int .i64 x224000_2, .slice Ao47 x224001_2.length co47, .slice Ao48 x224002_2.length co48] 28 (0, 0))) ∧ (w'.heap[s_.2.2.2]? = some (.cells #[.int .i64 0, .slice none 0 0, .slice none 0 0] 28 (0, 0))) ∧ (w.heap.size ≤ s_.2.2.2) ∧ (w.heap.size ≤ s_.2.2.2) ∧ (gb223 ≠ s_.2.2.2) ∧ (s_.2.2.2 ≠ gb223) ∧ (Below w.heap.size w w')) ?_ ?_
              rotate_left
              ·intro hCont
               refine two_ (i := 3) (j := 8) (Ni := some 84) (Nj := some 12) #[true, true, true, true, false, false, false, false, false, false, false] #[true, true, true, false, false, false, false, false, true, false, false] rfl rfl rfl rfl (two_of HT_.out (by kernel_rfl)) (by decide) (by decide) (fun K hK => ?_) (fun K hK => ?_)
               ·skip
                refine goes_ Tryd.func9 (by kernel_rfl) rfl #[.slice Ao46 x11_3.length co46] (by rfl) rfl rfl (by (try simp only [List.map_toArray, List.map_cons, List.map_nil]); first | done | rfl | (simp only [List.length_drop, List.length_take]; rfl)) ?_
                with_reducible refine (laws_bytesOf.calls _ _ x11_3 t243 _ ?side1 ?side2 A43.out).mono ?_
                (case side1 => repeat (first | exact (Kd.R_reads' HO_11.out).2.2 | (with_reducible refine Kd.C_alloc ?_ _) | (with_reducible refine Kd.C_drewN ?_ _) | (with_reducible refine Kd.C_drew ?_)))
                (case side2 => exact (Kd.R_reads' HO_11.out).2.1)
                rintro e w50 ⟨v244, rfl, ho0, hb⟩
                refine ⟨_, rfl, ?_⟩
                have n0_ := Aside0.mk (Kd.R_below (by exact HO_6.out) hb)
                have n1_ := Aside0.mk (Kd.R_below (by exact HO_7.out) hb)
                have n2_ := Aside0.mk (Kd.R_elder' (by exact HO_11.out) (Kd.R_base ho0) hb)
                have n3_ := Aside0.mk (Kd.S_elder' (by exact HO_224001.out) (Kd.R_base ho0) hb)
                have n4_ := Aside0.mk (Kd.R_below (by exact HO_224002.out) hb)
                have n5_ := Aside0.mk (Kd.R_lower (Kd.R_new' ho0 (Kd.R_lt (by exact HO_11.out))) (below_size (by exact HB.out)))
                have n6_ := Aside0.mk (blk_below (g := gb223) (o := .cells #[.int .i64 x224000_2, .slice Ao47 x224001_2.length co47, .slice Ao48 x224002_2.length co48] 28 (0, 0)) (by exact BK223.out) hb)
                have n7_ := Aside0.mk (below_step (by exact HB.out) hb)
                clear HO_6
                clear HO_7
                clear HO_11
                clear HO_224001
                clear HO_224002
                clear BK223
                clear HB
                have HO_6 := n0_
                have HO_7 := n1_
                have HO_11 := n2_
                have HO_224001 := n3_
                have HO_224002 := n4_
                have HO245 := n5_
                have BK223 := n6_
                have HB := n7_
                clear n0_ n1_ n2_ n3_ n4_ n5_ n6_ n7_
                (try clear hb)
                (try clear hb2)
                (try clear hk)
                (try clear hi)
                (try clear ho0)
                obtain ⟨Ao51, co51, eo51⟩ := Kd.R_slice HO245.out
                (first | subst eo51 | (injection eo51 with f1_ f2_ f3_; have f4_ := f1_.symm; have f5_ := f3_.symm; clear f1_ f2_ f3_; subst f4_; subst f5_))
                refine hK.out _ _ ⟨(blk_cell BK223.out 0).trans rfl, (blk_cell BK223.out 1).trans rfl, (blk_cell BK223.out 2).trans rfl⟩ (fun hHeld => ?_)
                clear hK K
                refine norm_ (a' := ?_) ?_ ?_
                rotate_left
                ·show Act.put _ (some 84) _ = _
                 simp only [Act.put, List.setIfInBounds_toArray, List.set_cons_zero, List.set_cons_succ, i64_w, i32_w]
                 rfl
                refine two_ (i := 4) (j := 8) (Ni := some 85) (Nj := some 12) #[true, true, true, true, true, false, false, false, false, false, false] #[true, true, true, true, false, false, false, false, true, false, false] rfl rfl rfl rfl (two_of HT_.out (by kernel_rfl)) (by decide) (by decide) (fun K hK => ?_) (fun K hK => ?_)
                ·skip
                 refine goes_ Tryd.func8 (by kernel_rfl) rfl #[.agg #[.int .i64 x224000_2, .slice Ao47 x224001_2.length co47, .slice Ao48 x224002_2.length co48], .int .i64 t234, .slice Ao51 t243.length co51] (by rfl) rfl rfl (by (try simp only [List.map_toArray, List.map_cons, List.map_nil]); first | done | rfl | (simp only [List.length_drop, List.length_take]; rfl)) ?_
                 with_reducible refine (impl_MemWrite.calls x224000_2 _ _ x224001_2 _ _ x224002_2 t234 _ _ t243 t246 t247 t250 t253 _ ?side1 ?side2 ?side3 ?side4 ?side5 ?side6 A44.out).mono ?_
                 (case side1 => repeat (first | exact (Kd.S_reads' HO_224001.out).2.2 | (with_reducible refine Kd.C_alloc ?_ _) | (with_reducible refine Kd.C_drewN ?_ _) | (with_reducible refine Kd.C_drew ?_)))
                 (case side2 => exact (Kd.S_reads' HO_224001.out).2.1)
                 (case side3 => repeat (first | exact (Kd.R_reads' HO_224002.out).2.2 | (with_reducible refine Kd.C_alloc ?_ _) | (with_reducible refine Kd.C_drewN ?_ _) | (with_reducible refine Kd.C_drew ?_)))
                 (case side4 => exact (Kd.R_reads' HO_224002.out).2.1)
                 (case side5 => repeat (first | exact (Kd.R_reads' HO245.out).2.2 | (with_reducible refine Kd.C_alloc ?_ _) | (with_reducible refine Kd.C_drewN ?_ _) | (with_reducible refine Kd.C_drew ?_)))
                 (case side6 => exact (Kd.R_reads' HO245.out).2.1)
                 rintro e w52 ⟨v248, v251, rfl, ho0, ho1, hb⟩
                 refine ⟨_, rfl, ?_⟩
                 have n0_ := Aside0.mk (Kd.R_below (by exact HO_6.out) hb)
                 have n1_ := Aside0.mk (Kd.R_elder' (by exact HO_7.out) (Kd.R_base ho1) hb)
                 have n2_ := Aside0.mk (Kd.R_below (by exact HO_11.out) hb)
                 have n3_ := Aside0.mk (Kd.S_elder' (by exact HO_224001.out) (Kd.S_base ho0) hb)
                 have n4_ := Aside0.mk (Kd.R_elder' (by exact HO_224002.out) (Kd.R_base ho1) hb)
                 have n5_ := Aside0.mk (Kd.R_below (by exact HO245.out) hb)
                 have n6_ := Aside0.mk (Kd.S_lower (Kd.S_new' (Kd.S_new' (Kd.S_new' ho0 (Kd.R_lt (by exact HO_11.out))) (Kd.S_lt (by exact HO_224001.out))) (Kd.R_lt (by exact HO245.out))) (below_size (by exact HB.out)))
                 have n7_ := Aside0.mk (Kd.R_lower (Kd.R_new' (Kd.R_new' ho1 (Kd.R_lt (by exact HO_7.out))) (Kd.R_lt (by exact HO_224002.out))) (below_size (by exact HB.out)))
                 have n8_ := Aside0.mk (blk_below (g := gb223) (o := .cells #[.int .i64 x224000_2, .slice Ao47 x224001_2.length co47, .slice Ao48 x224002_2.length co48] 28 (0, 0)) (by exact BK223.out) hb)
                 have n9_ := Aside0.mk (below_step (by exact HB.out) hb)
                 clear HO_6
                 clear HO_7
                 clear HO_11
                 clear HO_224001
                 clear HO_224002
                 clear HO245
                 clear BK223
                 clear HB
                 have HO_6 := n0_
                 have HO_7 := n1_
                 have HO_11 := n2_
                 have HO_224001 := n3_
                 have HO_224002 := n4_
                 have HO245 := n5_
                 have HO249 := n6_
                 have HO252 := n7_
                 have BK223 := n8_
                 have HB := n9_
                 clear n0_ n1_ n2_ n3_ n4_ n5_ n6_ n7_ n8_ n9_
                 (try clear hb)
                 (try clear hb2)
                 (try clear hk)
                 (try clear hi)
                 (try clear ho0)
                 (try clear ho1)
                 refine hK.out _ _ ⟨(blk_cell BK223.out 0).trans rfl, (blk_cell BK223.out 1).trans rfl, (blk_cell BK223.out 2).trans rfl⟩ (fun hHeld => ?_)
                 clear hK K
                 refine norm_ (a' := ?_) ?_ ?_
                 rotate_left
                 ·show Act.put _ (some 85) _ = _
                  simp only [Act.put, List.setIfInBounds_toArray, List.set_cons_zero, List.set_cons_succ, i64_w, i32_w]
                  rfl
                 refine pure_ (i := 5) (N := some 80) (v := ?_) (a' := ?_) #[true, true, true, true, true, true, false, false, false, false, false] rfl rfl (any_of HT_.out (by kernel_rfl)) (fun _ _ _ h => h) (Or.inl ⟨by rfl, ?_⟩) ?_ ?_
                 rotate_left
                 ·intro w'
                  go_simp
                  with_reducible rfl
                 rotate_left
                 ·simp only [Act.put, List.setIfInBounds_toArray, List.set_cons_zero, List.set_cons_succ, i64_w, i32_w]
                  rfl
                 refine pure_ (i := 6) (N := some 86) (v := ?_) (a' := ?_) #[true, true, true, true, true, true, true, false, false, false, false] rfl rfl (any_of HT_.out (by kernel_rfl)) (fun _ _ _ h => h) (Or.inl ⟨by rfl, ?_⟩) ?_ ?_
                 rotate_left
                 ·intro w'
                  go_simp
                  with_reducible rfl
                 rotate_left
                 ·simp only [Act.put, List.setIfInBounds_toArray, List.set_cons_zero, List.set_cons_succ, i64_w, i32_w]
                  rfl
                 refine pure_ (i := 7) (N := some 87) (v := ?_) (a' := ?_) #[true, true, true, true, true, true, true, true, false, false, false] rfl rfl (any_of HT_.out (by kernel_rfl)) (fun _ _ _ h => h) (Or.inl ⟨by rfl, ?_⟩) ?_ ?_
                 rotate_left
                 ·intro w'
                  go_simp
                  with_reducible rfl
                 rotate_left
                 ·simp only [Act.put, List.setIfInBounds_toArray, List.set_cons_zero, List.set_cons_succ, i64_w, i32_w]
                  rfl
                 refine one_ (i := 8) (N := some 12) #[true, true, true, true, true, true, true, true, true, false, false] rfl rfl (one_of HT_.out (by kernel_rfl)) (by decide) (fun K hK => ?_)
                 refine box_step ?hg (N := 12) ?hd (cs := #[.int .i64 0, .slice none 0 0, .slice none 0 0]) (t := 28) ?hr ?_; (case hd => rfl); (case hg => rfl); (case hr => first | (go_simp; done) | (go_simp; rfl))
                 intro gb254 hg w53 hbox hb
                 have n0_ := Aside0.mk (Kd.R_below (by exact HO_6.out) hb)
                 have n1_ := Aside0.mk (Kd.R_below (by exact HO_7.out) hb)
                 have n2_ := Aside0.mk (Kd.R_below (by exact HO_11.out) hb)
                 have n3_ := Aside0.mk (Kd.S_below (by exact HO_224001.out) hb)
                 have n4_ := Aside0.mk (Kd.R_below (by exact HO_224002.out) hb)
                 have n5_ := Aside0.mk (Kd.R_below (by exact HO245.out) hb)
                 have n6_ := Aside0.mk (Kd.S_below (by exact HO249.out) hb)
                 have n7_ := Aside0.mk (Kd.R_below (by exact HO252.out) hb)
                 have n8_ := Aside0.mk (blk_below (g := gb223) (o := .cells #[.int .i64 x224000_2, .slice Ao47 x224001_2.length co47, .slice Ao48 x224002_2.length co48] 28 (0, 0)) (by exact BK223.out) hb)
                 have n9_ := Aside0.mk (below_step (by exact HB.out) hb)
                 have n10_ := Aside0.mk (hbox)
                 have n11_ := Aside0.mk ((by rw [hg]; exact (below_size (by exact HB.out)) : w.heap.size ≤ gb254))
                 have n12_ := Aside0.mk ((by rw [hg]; exact (below_size (by exact HB.out)) : w.heap.size ≤ gb254))
                 have n13_ := Aside0.mk ((by rw [hg]; exact Nat.ne_of_lt (blk_lt (g := gb223) (o := .cells #[.int .i64 x224000_2, .slice Ao47 x224001_2.length co47, .slice Ao48 x224002_2.length co48] 28 (0, 0)) (by exact BK223.out)) : gb223 ≠ gb254))
                 have n14_ := Aside0.mk ((by rw [hg]; exact Nat.ne_of_gt (blk_lt (g := gb223) (o := .cells #[.int .i64 x224000_2, .slice Ao47 x224001_2.length co47, .slice Ao48 x224002_2.length co48] 28 (0, 0)) (by exact BK223.out)) : gb254 ≠ gb223))
                 clear HO_6
                 clear HO_7
                 clear HO_11
                 clear HO_224001
                 clear HO_224002
                 clear HO245
                 clear HO249
                 clear HO252
                 clear BK223
                 clear HB
                 have HO_6 := n0_
                 have HO_7 := n1_
                 have HO_11 := n2_
                 have HO_224001 := n3_
                 have HO_224002 := n4_
                 have HO245 := n5_
                 have HO249 := n6_
                 have HO252 := n7_
                 have BK223 := n8_
                 have HB := n9_
                 have BK254 := n10_
                 have GW254 := n11_
                 have GE254 := n12_
                 have NB223_254 := n13_
                 have NB254_223 := n14_
                 clear n0_ n1_ n2_ n3_ n4_ n5_ n6_ n7_ n8_ n9_ n10_ n11_ n12_ n13_ n14_
                 clear hb hbox hg
                 refine hK.out _ _ ⟨(blk_cell BK223.out 0).trans rfl, (blk_cell BK223.out 1).trans rfl, (blk_cell BK223.out 2).trans rfl⟩ (fun hHeld => ?_)
                 clear hK K
                 refine norm_ (a' := ?_) ?_ ?_
                 rotate_left
                 ·show Act.put _ (some 12) _ = _
                  simp only [Act.put, List.setIfInBounds_toArray, List.set_cons_zero, List.set_cons_succ, i64_w, i32_w]
                  rfl
                 exact norm_ (by simp only [putAll, Act.put, List.setIfInBounds_toArray, List.set_cons_zero, List.set_cons_succ]) (hCont (.slice Ao51 t243.length co51, v248, v251, gb254) _ ⟨hHeld, (by (with_reducible repeat (first | apply Kd.R_alloc | apply Kd.R_drewN | apply Kd.R_drew)); exact Kd.R_mono HO245.out (fun _ hk => hk.2)), (by (with_reducible repeat (first | apply Kd.S_alloc | apply Kd.S_drewN | apply Kd.S_drew)); exact Kd.S_mono HO249.out (fun _ hk => ⟨hk.2, ⟨hk.1.1.2, hk.1.2⟩⟩)), (by (with_reducible repeat (first | apply Kd.R_alloc | apply Kd.R_drewN | apply Kd.R_drew)); exact Kd.R_mono HO252.out (fun _ hk => ⟨hk.2, hk.1.2⟩)), (by (with_reducible repeat (first | apply Kd.R_alloc | apply Kd.R_drewN | apply Kd.R_drew)); exact Kd.R_mono HO_11.out (fun _ hk => hk.2)), (by (with_reducible repeat (first | apply Kd.S_alloc | apply Kd.S_drewN | apply Kd.S_drew)); exact Kd.S_mono HO_224001.out (fun _ hk => ⟨hk.1.2, ⟨hk.2, hk.1.1⟩⟩)), (by (with_reducible repeat (first | apply Kd.R_alloc | apply Kd.R_drewN | apply Kd.R_drew)); exact Kd.R_mono HO_224002.out (fun _ hk => ⟨hk.2, hk.1⟩)), (by exact HO_6.out), (by (with_reducible repeat (first | apply Kd.R_alloc | apply Kd.R_drewN | apply Kd.R_drew)); exact Kd.R_mono HO_7.out (fun _ hk => ⟨hk.2, hk.1⟩)), (by exact BK223.out), (by exact BK254.out), GW254.out, GE254.out, NB223_254.out, NB254_223.out, (by exact HB.out)⟩)
                ·skip
                 refine box_step ?hg (N := 12) ?hd (cs := #[.int .i64 0, .slice none 0 0, .slice none 0 0]) (t := 28) ?hr ?_; (case hd => rfl); (case hg => rfl); (case hr => first | (go_simp; done) | (go_simp; rfl))
                 intro gb254 hg w51 hbox hb
                 have n0_ := Aside0.mk (Kd.R_below (by exact HO_6.out) hb)
                 have n1_ := Aside0.mk (Kd.R_below (by exact HO_7.out) hb)
                 have n2_ := Aside0.mk (Kd.R_below (by exact HO_11.out) hb)
                 have n3_ := Aside0.mk (Kd.S_below (by exact HO_224001.out) hb)
                 have n4_ := Aside0.mk (Kd.R_below (by exact HO_224002.out) hb)
                 have n5_ := Aside0.mk (Kd.R_below (by exact HO245.out) hb)
                 have n6_ := Aside0.mk (blk_below (g := gb223) (o := .cells #[.int .i64 x224000_2, .slice Ao47 x224001_2.length co47, .slice Ao48 x224002_2.length co48] 28 (0, 0)) (by exact BK223.out) hb)
                 have n7_ := Aside0.mk (below_step (by exact HB.out) hb)
                 have n8_ := Aside0.mk (hbox)
                 have n9_ := Aside0.mk ((by rw [hg]; exact (below_size (by exact HB.out)) : w.heap.size ≤ gb254))
                 have n10_ := Aside0.mk ((by rw [hg]; exact (below_size (by exact HB.out)) : w.heap.size ≤ gb254))
                 have n11_ := Aside0.mk ((by rw [hg]; exact Nat.ne_of_lt (blk_lt (g := gb223) (o := .cells #[.int .i64 x224000_2, .slice Ao47 x224001_2.length co47, .slice Ao48 x224002_2.length co48] 28 (0, 0)) (by exact BK223.out)) : gb223 ≠ gb254))
                 have n12_ := Aside0.mk ((by rw [hg]; exact Nat.ne_of_gt (blk_lt (g := gb223) (o := .cells #[.int .i64 x224000_2, .slice Ao47 x224001_2.length co47, .slice Ao48 x224002_2.length co48] 28 (0, 0)) (by exact BK223.out)) : gb254 ≠ gb223))
                 clear HO_6
                 clear HO_7
                 clear HO_11
                 clear HO_224001
                 clear HO_224002
                 clear HO245
                 clear BK223
                 clear HB
                 have HO_6 := n0_
                 have HO_7 := n1_
                 have HO_11 := n2_
                 have HO_224001 := n3_
                 have HO_224002 := n4_
                 have HO245 := n5_
                 have BK223 := n6_
                 have HB := n7_
                 have BK254 := n8_
                 have GW254 := n9_
                 have GE254 := n10_
                 have NB223_254 := n11_
                 have NB254_223 := n12_
                 clear n0_ n1_ n2_ n3_ n4_ n5_ n6_ n7_ n8_ n9_ n10_ n11_ n12_
                 clear hb hbox hg
                 obtain ⟨Ao52, co52, eo52⟩ := Kd.R_slice HO245.out
                 (first | subst eo52 | (injection eo52 with f1_ f2_ f3_; have f4_ := f1_.symm; have f5_ := f3_.symm; clear f1_ f2_ f3_; subst f4_; subst f5_))
                 refine hK.out _ _ ⟨(blk_cell BK223.out 0).trans rfl, (blk_cell BK223.out 1).trans rfl, (blk_cell BK223.out 2).trans rfl⟩ (fun hHeld => ?_)
                 clear hK K
                 refine norm_ (a' := ?_) ?_ ?_
                 rotate_left
                 ·show Act.put _ (some 12) _ = _
                  simp only [Act.put, List.setIfInBounds_toArray, List.set_cons_zero, List.set_cons_succ, i64_w, i32_w]
                  rfl
                 refine one_ (i := 4) (N := some 85) #[true, true, true, true, true, false, false, false, true, false, false] rfl rfl (one_of HT_.out (by kernel_rfl)) (by decide) (fun K hK => ?_)
                 refine goes_ Tryd.func8 (by kernel_rfl) rfl #[.agg #[.int .i64 x224000_2, .slice Ao47 x224001_2.length co47, .slice Ao48 x224002_2.length co48], .int .i64 t234, .slice Ao52 t243.length co52] (by rfl) rfl rfl (by (try simp only [List.map_toArray, List.map_cons, List.map_nil]); first | done | rfl | (simp only [List.length_drop, List.length_take]; rfl)) ?_
                 with_reducible refine (impl_MemWrite.calls x224000_2 _ _ x224001_2 _ _ x224002_2 t234 _ _ t243 t246 t247 t250 t253 _ ?side1 ?side2 ?side3 ?side4 ?side5 ?side6 A44.out).mono ?_
                 (case side1 => repeat (first | exact (Kd.S_reads' HO_224001.out).2.2 | (with_reducible refine Kd.C_alloc ?_ _) | (with_reducible refine Kd.C_drewN ?_ _) | (with_reducible refine Kd.C_drew ?_)))
                 (case side2 => exact (Kd.S_reads' HO_224001.out).2.1)
                 (case side3 => repeat (first | exact (Kd.R_reads' HO_224002.out).2.2 | (with_reducible refine Kd.C_alloc ?_ _) | (with_reducible refine Kd.C_drewN ?_ _) | (with_reducible refine Kd.C_drew ?_)))
                 (case side4 => exact (Kd.R_reads' HO_224002.out).2.1)
                 (case side5 => repeat (first | exact (Kd.R_reads' HO245.out).2.2 | (with_reducible refine Kd.C_alloc ?_ _) | (with_reducible refine Kd.C_drewN ?_ _) | (with_reducible refine Kd.C_drew ?_)))
                 (case side6 => exact (Kd.R_reads' HO245.out).2.1)
                 rintro e w53 ⟨v248, v251, rfl, ho0, ho1, hb⟩
                 refine ⟨_, rfl, ?_⟩
                 have n0_ := Aside0.mk (Kd.R_below (by exact HO_6.out) hb)
                 have n1_ := Aside0.mk (Kd.R_elder' (by exact HO_7.out) (Kd.R_base ho1) hb)
                 have n2_ := Aside0.mk (Kd.R_below (by exact HO_11.out) hb)
                 have n3_ := Aside0.mk (Kd.S_elder' (by exact HO_224001.out) (Kd.S_base ho0) hb)
                 have n4_ := Aside0.mk (Kd.R_elder' (by exact HO_224002.out) (Kd.R_base ho1) hb)
                 have n5_ := Aside0.mk (Kd.R_below (by exact HO245.out) hb)
                 have n6_ := Aside0.mk (Kd.S_lower (Kd.S_new' (Kd.S_new' (Kd.S_new' ho0 (Kd.R_lt (by exact HO_11.out))) (Kd.S_lt (by exact HO_224001.out))) (Kd.R_lt (by exact HO245.out))) (below_size (by exact HB.out)))
                 have n7_ := Aside0.mk (Kd.R_lower (Kd.R_new' (Kd.R_new' ho1 (Kd.R_lt (by exact HO_7.out))) (Kd.R_lt (by exact HO_224002.out))) (below_size (by exact HB.out)))
                 have n8_ := Aside0.mk (blk_below (g := gb223) (o := .cells #[.int .i64 x224000_2, .slice Ao47 x224001_2.length co47, .slice Ao48 x224002_2.length co48] 28 (0, 0)) (by exact BK223.out) hb)
                 have n9_ := Aside0.mk (blk_below (g := gb254) (o := .cells #[.int .i64 0, .slice none 0 0, .slice none 0 0] 28 (0, 0)) (by exact BK254.out) hb)
                 have n10_ := Aside0.mk (below_step (by exact HB.out) hb)
                 clear HO_6
                 clear HO_7
                 clear HO_11
                 clear HO_224001
                 clear HO_224002
                 clear HO245
                 clear BK223
                 clear BK254
                 clear HB
                 have HO_6 := n0_
                 have HO_7 := n1_
                 have HO_11 := n2_
                 have HO_224001 := n3_
                 have HO_224002 := n4_
                 have HO245 := n5_
                 have HO249 := n6_
                 have HO252 := n7_
                 have BK223 := n8_
                 have BK254 := n9_
                 have HB := n10_
                 clear n0_ n1_ n2_ n3_ n4_ n5_ n6_ n7_ n8_ n9_ n10_
                 (try clear hb)
                 (try clear hb2)
                 (try clear hk)
                 (try clear hi)
                 (try clear ho0)
                 (try clear ho1)
                 refine hK.out _ _ ⟨(blk_cell BK223.out 0).trans rfl, (blk_cell BK223.out 1).trans rfl, (blk_cell BK223.out 2).trans rfl⟩ (fun hHeld => ?_)
                 clear hK K
                 refine norm_ (a' := ?_) ?_ ?_
                 rotate_left
                 ·show Act.put _ (some 85) _ = _
                  simp only [Act.put, List.setIfInBounds_toArray, List.set_cons_zero, List.set_cons_succ, i64_w, i32_w]
                  rfl
                 refine pure_ (i := 5) (N := some 80) (v := ?_) (a' := ?_) #[true, true, true, true, true, true, false, false, true, false, false] rfl rfl (any_of HT_.out (by kernel_rfl)) (fun _ _ _ h => h) (Or.inl ⟨by rfl, ?_⟩) ?_ ?_
                 rotate_left
                 ·intro w'
                  go_simp
                  with_reducible rfl
                 rotate_left
                 ·simp only [Act.put, List.setIfInBounds_toArray, List.set_cons_zero, List.set_cons_succ, i64_w, i32_w]
                  rfl
                 refine pure_ (i := 6) (N := some 86) (v := ?_) (a' := ?_) #[true, true, true, true, true, true, true, false, true, false, false] rfl rfl (any_of HT_.out (by kernel_rfl)) (fun _ _ _ h => h) (Or.inl ⟨by rfl, ?_⟩) ?_ ?_
                 rotate_left
                 ·intro w'
                  go_simp
                  with_reducible rfl
                 rotate_left
                 ·simp only [Act.put, List.setIfInBounds_toArray, List.set_cons_zero, List.set_cons_succ, i64_w, i32_w]
                  rfl
                 refine pure_ (i := 7) (N := some 87) (v := ?_) (a' := ?_) #[true, true, true, true, true, true, true, true, true, false, false] rfl rfl (any_of HT_.out (by kernel_rfl)) (fun _ _ _ h => h) (Or.inl ⟨by rfl, ?_⟩) ?_ ?_
                 rotate_left
                 ·intro w'
                  go_simp
                  with_reducible rfl
                 rotate_left
                 ·simp only [Act.put, List.setIfInBounds_toArray, List.set_cons_zero, List.set_cons_succ, i64_w, i32_w]
                  rfl
                 exact norm_ (by simp only [putAll, Act.put, List.setIfInBounds_toArray, List.set_cons_zero, List.set_cons_succ]) (hCont (.slice Ao52 t243.length co52, v248, v251, gb254) _ ⟨hHeld, (by (with_reducible repeat (first | apply Kd.R_alloc | apply Kd.R_drewN | apply Kd.R_drew)); exact Kd.R_mono HO245.out (fun _ hk => hk.2)), (by (with_reducible repeat (first | apply Kd.S_alloc | apply Kd.S_drewN | apply Kd.S_drew)); exact Kd.S_mono HO249.out (fun _ hk => ⟨hk.2, ⟨hk.1.1.2, hk.1.2⟩⟩)), (by (with_reducible repeat (first | apply Kd.R_alloc | apply Kd.R_drewN | apply Kd.R_drew)); exact Kd.R_mono HO252.out (fun _ hk => ⟨hk.2, hk.1.2⟩)), (by (with_reducible repeat (first | apply Kd.R_alloc | apply Kd.R_drewN | apply Kd.R_drew)); exact Kd.R_mono HO_11.out (fun _ hk => hk.2)), (by (with_reducible repeat (first | apply Kd.S_alloc | apply Kd.S_drewN | apply Kd.S_drew)); exact Kd.S_mono HO_224001.out (fun _ hk => ⟨hk.1.2, ⟨hk.2, hk.1.1⟩⟩)), (by (with_reducible repeat (first | apply Kd.R_alloc | apply Kd.R_drewN | apply Kd.R_drew)); exact Kd.R_mono HO_224002.out (fun _ hk => ⟨hk.2, hk.1⟩)), (by exact HO_6.out), (by (with_reducible repeat (first | apply Kd.R_alloc | apply Kd.R_drewN | apply Kd.R_drew)); exact Kd.R_mono HO_7.out (fun _ hk => ⟨hk.2, hk.1⟩)), (by exact BK223.out), (by exact BK254.out), GW254.out, GE254.out, NB223_254.out, NB254_223.out, (by exact HB.out)⟩)
               ·skip
                refine box_step ?hg (N := 12) ?hd (cs := #[.int .i64 0, .slice none 0 0, .slice none 0 0]) (t := 28) ?hr ?_; (case hd => rfl); (case hg => rfl); (case hr => first | (go_simp; done) | (go_simp; rfl))
                intro gb254 hg w50 hbox hb
                have n0_ := Aside0.mk (Kd.R_below (by exact HO_6.out) hb)
                have n1_ := Aside0.mk (Kd.R_below (by exact HO_7.out) hb)
                have n2_ := Aside0.mk (Kd.R_below (by exact HO_11.out) hb)
                have n3_ := Aside0.mk (Kd.S_below (by exact HO_224001.out) hb)
                have n4_ := Aside0.mk (Kd.R_below (by exact HO_224002.out) hb)
                have n5_ := Aside0.mk (blk_below (g := gb223) (o := .cells #[.int .i64 x224000_2, .slice Ao47 x224001_2.length co47, .slice Ao48 x224002_2.length co48] 28 (0, 0)) (by exact BK223.out) hb)
                have n6_ := Aside0.mk (below_step (by exact HB.out) hb)
                have n7_ := Aside0.mk (hbox)
                have n8_ := Aside0.mk ((by rw [hg]; exact (below_size (by exact HB.out)) : w.heap.size ≤ gb254))
                have n9_ := Aside0.mk ((by rw [hg]; exact (below_size (by exact HB.out)) : w.heap.size ≤ gb254))
                have n10_ := Aside0.mk ((by rw [hg]; exact Nat.ne_of_lt (blk_lt (g := gb223) (o := .cells #[.int .i64 x224000_2, .slice Ao47 x224001_2.length co47, .slice Ao48 x224002_2.length co48] 28 (0, 0)) (by exact BK223.out)) : gb223 ≠ gb254))
                have n11_ := Aside0.mk ((by rw [hg]; exact Nat.ne_of_gt (blk_lt (g := gb223) (o := .cells #[.int .i64 x224000_2, .slice Ao47 x224001_2.length co47, .slice Ao48 x224002_2.length co48] 28 (0, 0)) (by exact BK223.out)) : gb254 ≠ gb223))
                clear HO_6
                clear HO_7
                clear HO_11
                clear HO_224001
                clear HO_224002
                clear BK223
                clear HB
                have HO_6 := n0_
                have HO_7 := n1_
                have HO_11 := n2_
                have HO_224001 := n3_
                have HO_224002 := n4_
                have BK223 := n5_
                have HB := n6_
                have BK254 := n7_
                have GW254 := n8_
                have GE254 := n9_
                have NB223_254 := n10_
                have NB254_223 := n11_
                clear n0_ n1_ n2_ n3_ n4_ n5_ n6_ n7_ n8_ n9_ n10_ n11_
                clear hb hbox hg
                refine hK.out _ _ ⟨(blk_cell BK223.out 0).trans rfl, (blk_cell BK223.out 1).trans rfl, (blk_cell BK223.out 2).trans rfl⟩ (fun hHeld => ?_)
                clear hK K
                refine norm_ (a' := ?_) ?_ ?_
                rotate_left
                ·show Act.put _ (some 12) _ = _
                 simp only [Act.put, List.setIfInBounds_toArray, List.set_cons_zero, List.set_cons_succ, i64_w, i32_w]
                 rfl
                refine one_ (i := 3) (N := some 84) #[true, true, true, true, false, false, false, false, true, false, false] rfl rfl (one_of HT_.out (by kernel_rfl)) (by decide) (fun K hK => ?_)
                refine goes_ Tryd.func9 (by kernel_rfl) rfl #[.slice Ao46 x11_3.length co46] (by rfl) rfl rfl (by (try simp only [List.map_toArray, List.map_cons, List.map_nil]); first | done | rfl | (simp only [List.length_drop, List.length_take]; rfl)) ?_
                with_reducible refine (laws_bytesOf.calls _ _ x11_3 t243 _ ?side1 ?side2 A43.out).mono ?_
                (case side1 => repeat (first | exact (Kd.R_reads' HO_11.out).2.2 | (with_reducible refine Kd.C_alloc ?_ _) | (with_reducible refine Kd.C_drewN ?_ _) | (with_reducible refine Kd.C_drew ?_)))
                (case side2 => exact (Kd.R_reads' HO_11.out).2.1)
                rintro e w51 ⟨v244, rfl, ho0, hb⟩
                refine ⟨_, rfl, ?_⟩
                have n0_ := Aside0.mk (Kd.R_below (by exact HO_6.out) hb)
                have n1_ := Aside0.mk (Kd.R_below (by exact HO_7.out) hb)
                have n2_ := Aside0.mk (Kd.R_elder' (by exact HO_11.out) (Kd.R_base ho0) hb)
                have n3_ := Aside0.mk (Kd.S_elder' (by exact HO_224001.out) (Kd.R_base ho0) hb)
                have n4_ := Aside0.mk (Kd.R_below (by exact HO_224002.out) hb)
                have n5_ := Aside0.mk (Kd.R_lower (Kd.R_new' ho0 (Kd.R_lt (by exact HO_11.out))) (below_size (by exact HB.out)))
                have n6_ := Aside0.mk (blk_below (g := gb223) (o := .cells #[.int .i64 x224000_2, .slice Ao47 x224001_2.length co47, .slice Ao48 x224002_2.length co48] 28 (0, 0)) (by exact BK223.out) hb)
                have n7_ := Aside0.mk (blk_below (g := gb254) (o := .cells #[.int .i64 0, .slice none 0 0, .slice none 0 0] 28 (0, 0)) (by exact BK254.out) hb)
                have n8_ := Aside0.mk (below_step (by exact HB.out) hb)
                clear HO_6
                clear HO_7
                clear HO_11
                clear HO_224001
                clear HO_224002
                clear BK223
                clear BK254
                clear HB
                have HO_6 := n0_
                have HO_7 := n1_
                have HO_11 := n2_
                have HO_224001 := n3_
                have HO_224002 := n4_
                have HO245 := n5_
                have BK223 := n6_
                have BK254 := n7_
                have HB := n8_
                clear n0_ n1_ n2_ n3_ n4_ n5_ n6_ n7_ n8_
                (try clear hb)
                (try clear hb2)
                (try clear hk)
                (try clear hi)
                (try clear ho0)
                obtain ⟨Ao52, co52, eo52⟩ := Kd.R_slice HO245.out
                (first | subst eo52 | (injection eo52 with f1_ f2_ f3_; have f4_ := f1_.symm; have f5_ := f3_.symm; clear f1_ f2_ f3_; subst f4_; subst f5_))
                refine hK.out _ _ ⟨(blk_cell BK223.out 0).trans rfl, (blk_cell BK223.out 1).trans rfl, (blk_cell BK223.out 2).trans rfl⟩ (fun hHeld => ?_)
                clear hK K
                refine norm_ (a' := ?_) ?_ ?_
                rotate_left
                ·show Act.put _ (some 84) _ = _
                 simp only [Act.put, List.setIfInBounds_toArray, List.set_cons_zero, List.set_cons_succ, i64_w, i32_w]
                 rfl
                refine one_ (i := 4) (N := some 85) #[true, true, true, true, true, false, false, false, true, false, false] rfl rfl (one_of HT_.out (by kernel_rfl)) (by decide) (fun K hK => ?_)
                refine goes_ Tryd.func8 (by kernel_rfl) rfl #[.agg #[.int .i64 x224000_2, .slice Ao47 x224001_2.length co47, .slice Ao48 x224002_2.length co48], .int .i64 t234, .slice Ao52 t243.length co52] (by rfl) rfl rfl (by (try simp only [List.map_toArray, List.map_cons, List.map_nil]); first | done | rfl | (simp only [List.length_drop, List.length_take]; rfl)) ?_
                with_reducible refine (impl_MemWrite.calls x224000_2 _ _ x224001_2 _ _ x224002_2 t234 _ _ t243 t246 t247 t250 t253 _ ?side1 ?side2 ?side3 ?side4 ?side5 ?side6 A44.out).mono ?_
                (case side1 => repeat (first | exact (Kd.S_reads' HO_224001.out).2.2 | (with_reducible refine Kd.C_alloc ?_ _) | (with_reducible refine Kd.C_drewN ?_ _) | (with_reducible refine Kd.C_drew ?_)))
                (case side2 => exact (Kd.S_reads' HO_224001.out).2.1)
                (case side3 => repeat (first | exact (Kd.R_reads' HO_224002.out).2.2 | (with_reducible refine Kd.C_alloc ?_ _) | (with_reducible refine Kd.C_drewN ?_ _) | (with_reducible refine Kd.C_drew ?_)))
                (case side4 => exact (Kd.R_reads' HO_224002.out).2.1)
                (case side5 => repeat (first | exact (Kd.R_reads' HO245.out).2.2 | (with_reducible refine Kd.C_alloc ?_ _) | (with_reducible refine Kd.C_drewN ?_ _) | (with_reducible refine Kd.C_drew ?_)))
                (case side6 => exact (Kd.R_reads' HO245.out).2.1)
                rintro e w53 ⟨v248, v251, rfl, ho0, ho1, hb⟩
                refine ⟨_, rfl, ?_⟩
                have n0_ := Aside0.mk (Kd.R_below (by exact HO_6.out) hb)
                have n1_ := Aside0.mk (Kd.R_elder' (by exact HO_7.out) (Kd.R_base ho1) hb)
                have n2_ := Aside0.mk (Kd.R_below (by exact HO_11.out) hb)
                have n3_ := Aside0.mk (Kd.S_elder' (by exact HO_224001.out) (Kd.S_base ho0) hb)
                have n4_ := Aside0.mk (Kd.R_elder' (by exact HO_224002.out) (Kd.R_base ho1) hb)
                have n5_ := Aside0.mk (Kd.R_below (by exact HO245.out) hb)
                have n6_ := Aside0.mk (Kd.S_lower (Kd.S_new' (Kd.S_new' (Kd.S_new' ho0 (Kd.R_lt (by exact HO_11.out))) (Kd.S_lt (by exact HO_224001.out))) (Kd.R_lt (by exact HO245.out))) (below_size (by exact HB.out)))
                have n7_ := Aside0.mk (Kd.R_lower (Kd.R_new' (Kd.R_new' ho1 (Kd.R_lt (by exact HO_7.out))) (Kd.R_lt (by exact HO_224002.out))) (below_size (by exact HB.out)))
                have n8_ := Aside0.mk (blk_below (g := gb223) (o := .cells #[.int .i64 x224000_2, .slice Ao47 x224001_2.length co47, .slice Ao48 x224002_2.length co48] 28 (0, 0)) (by exact BK223.out) hb)
                have n9_ := Aside0.mk (blk_below (g := gb254) (o := .cells #[.int .i64 0, .slice none 0 0, .slice none 0 0] 28 (0, 0)) (by exact BK254.out) hb)
                have n10_ := Aside0.mk (below_step (by exact HB.out) hb)
                clear HO_6
                clear HO_7
                clear HO_11
                clear HO_224001
                clear HO_224002
                clear HO245
                clear BK223
                clear BK254
                clear HB
                have HO_6 := n0_
                have HO_7 := n1_
                have HO_11 := n2_
                have HO_224001 := n3_
                have HO_224002 := n4_
                have HO245 := n5_
                have HO249 := n6_
                have HO252 := n7_
                have BK223 := n8_
                have BK254 := n9_
                have HB := n10_
                clear n0_ n1_ n2_ n3_ n4_ n5_ n6_ n7_ n8_ n9_ n10_
                (try clear hb)
                (try clear hb2)
                (try clear hk)
                (try clear hi)
                (try clear ho0)
                (try clear ho1)
                refine hK.out _ _ ⟨(blk_cell BK223.out 0).trans rfl, (blk_cell BK223.out 1).trans rfl, (blk_cell BK223.out 2).trans rfl⟩ (fun hHeld => ?_)
                clear hK K
                refine norm_ (a' := ?_) ?_ ?_
                rotate_left
                ·show Act.put _ (some 85) _ = _
                 simp only [Act.put, List.setIfInBounds_toArray, List.set_cons_zero, List.set_cons_succ, i64_w, i32_w]
                 rfl
                refine pure_ (i := 5) (N := some 80) (v := ?_) (a' := ?_) #[true, true, true, true, true, true, false, false, true, false, false] rfl rfl (any_of HT_.out (by kernel_rfl)) (fun _ _ _ h => h) (Or.inl ⟨by rfl, ?_⟩) ?_ ?_
                rotate_left
                ·intro w'
                 go_simp
                 with_reducible rfl
                rotate_left
                ·simp only [Act.put, List.setIfInBounds_toArray, List.set_cons_zero, List.set_cons_succ, i64_w, i32_w]
                 rfl
                refine pure_ (i := 6) (N := some 86) (v := ?_) (a' := ?_) #[true, true, true, true, true, true, true, false, true, false, false] rfl rfl (any_of HT_.out (by kernel_rfl)) (fun _ _ _ h => h) (Or.inl ⟨by rfl, ?_⟩) ?_ ?_
                rotate_left
                ·intro w'
                 go_simp
                 with_reducible rfl
                rotate_left
                ·simp only [Act.put, List.setIfInBounds_toArray, List.set_cons_zero, List.set_cons_succ, i64_w, i32_w]
                 rfl
                refine pure_ (i := 7) (N := some 87) (v := ?_) (a' := ?_) #[true, true, true, true, true, true, true, true, true, false, false] rfl rfl (any_of HT_.out (by kernel_rfl)) (fun _ _ _ h => h) (Or.inl ⟨by rfl, ?_⟩) ?_ ?_
                rotate_left
                ·intro w'
                 go_simp
                 with_reducible rfl
                rotate_left
                ·simp only [Act.put, List.setIfInBounds_toArray, List.set_cons_zero, List.set_cons_succ, i64_w, i32_w]
                 rfl
                exact norm_ (by simp only [putAll, Act.put, List.setIfInBounds_toArray, List.set_cons_zero, List.set_cons_succ]) (hCont (.slice Ao52 t243.length co52, v248, v251, gb254) _ ⟨hHeld, (by (with_reducible repeat (first | apply Kd.R_alloc | apply Kd.R_drewN | apply Kd.R_drew)); exact Kd.R_mono HO245.out (fun _ hk => hk.2)), (by (with_reducible repeat (first | apply Kd.S_alloc | apply Kd.S_drewN | apply Kd.S_drew)); exact Kd.S_mono HO249.out (fun _ hk => ⟨hk.2, ⟨hk.1.1.2, hk.1.2⟩⟩)), (by (with_reducible repeat (first | apply Kd.R_alloc | apply Kd.R_drewN | apply Kd.R_drew)); exact Kd.R_mono HO252.out (fun _ hk => ⟨hk.2, hk.1.2⟩)), (by (with_reducible repeat (first | apply Kd.R_alloc | apply Kd.R_drewN | apply Kd.R_drew)); exact Kd.R_mono HO_11.out (fun _ hk => hk.2)), (by (with_reducible repeat (first | apply Kd.S_alloc | apply Kd.S_drewN | apply Kd.S_drew)); exact Kd.S_mono HO_224001.out (fun _ hk => ⟨hk.1.2, ⟨hk.2, hk.1.1⟩⟩)), (by (with_reducible repeat (first | apply Kd.R_alloc | apply Kd.R_drewN | apply Kd.R_drew)); exact Kd.R_mono HO_224002.out (fun _ hk => ⟨hk.2, hk.1⟩)), (by exact HO_6.out), (by (with_reducible repeat (first | apply Kd.R_alloc | apply Kd.R_drewN | apply Kd.R_drew)); exact Kd.R_mono HO_7.out (fun _ hk => ⟨hk.2, hk.1⟩)), (by exact BK223.out), (by exact BK254.out), GW254.out, GE254.out, NB223_254.out, NB254_223.out, (by exact HB.out)⟩)
              rintro ⟨v244, v248, v251, gb254⟩ w54 ⟨hS_, h0_, h1_, h2_, h3_, h4_, h5_, h6_, h7_, h8_, h9_, h10_, h11_, h12_, h13_, h14_⟩
              have n0_ : Aside0 (Kd.R (Kd.int .u8) 5 w54 w.heap.size (fun k_ => some k_ ≠ (.slice Ao46 x11_3.length co46 : Value).ownBlock) v244 t243) := ⟨h0_⟩
              have n1_ : Aside0 (Kd.S k56 56 w54 w.heap.size (fun k_ => some k_ ≠ (v244 : Value).ownBlock ∧ some k_ ≠ (.slice Ao46 x11_3.length co46 : Value).ownBlock ∧ some k_ ≠ (.slice Ao47 x224001_2.length co47 : Value).ownBlock) v248 t247) := ⟨h1_⟩
              have n2_ : Aside0 (Kd.R k35 35 w54 w.heap.size (fun k_ => some k_ ≠ (.slice Ao48 x224002_2.length co48 : Value).ownBlock ∧ some k_ ≠ (u7 : Value).ownBlock) v251 t250) := ⟨h2_⟩
              have n3_ : Aside0 (Kd.R (Kd.int .u8) 5 w54 w.heap.size (fun k_ => some k_ ≠ (v244 : Value).ownBlock) (.slice Ao46 x11_3.length co46) x11_3) := ⟨h3_⟩
              have n4_ : Aside0 (Kd.S k56 56 w54 w.heap.size (fun k_ => some k_ ≠ (v244 : Value).ownBlock ∧ some k_ ≠ (v248 : Value).ownBlock ∧ some k_ ≠ (.slice Ao46 x11_3.length co46 : Value).ownBlock) (.slice Ao47 x224001_2.length co47) x224001_2) := ⟨h4_⟩
              have n5_ : Aside0 (Kd.R k35 35 w54 w.heap.size (fun k_ => some k_ ≠ (v251 : Value).ownBlock ∧ some k_ ≠ (u7 : Value).ownBlock) (.slice Ao48 x224002_2.length co48) x224002_2) := ⟨h5_⟩
              have n6_ : Aside0 (Kd.R Kd.string 9 w54 w.heap.size (fun _ => True) v225 x6_2) := ⟨h6_⟩
              have n7_ : Aside0 (Kd.R k35 35 w54 w.heap.size (fun k_ => some k_ ≠ (v251 : Value).ownBlock ∧ some k_ ≠ (.slice Ao48 x224002_2.length co48 : Value).ownBlock) u7 x7_2) := ⟨h7_⟩
              have n8_ : Aside0 (w54.heap[gb223]? = some (.cells #[.int .i64 x224000_2, .slice Ao47 x224001_2.length co47, .slice Ao48 x224002_2.length co48] 28 (0, 0))) := ⟨h8_⟩
              have n9_ : Aside0 (w54.heap[gb254]? = some (.cells #[.int .i64 0, .slice none 0 0, .slice none 0 0] 28 (0, 0))) := ⟨h9_⟩
              have n10_ : Aside0 (w.heap.size ≤ gb254) := ⟨h10_⟩
              have n11_ : Aside0 (w.heap.size ≤ gb254) := ⟨h11_⟩
              have n12_ : Aside0 (gb223 ≠ gb254) := ⟨h12_⟩
              have n13_ : Aside0 (gb254 ≠ gb223) := ⟨h13_⟩
              have n14_ : Aside0 (Below w.heap.size w w54) := ⟨h14_⟩
              clear HO_6
              clear HO_7
              clear HO_11
              clear HO_224001
              clear HO_224002
              clear BK223
              clear HB
              clear h0_ h1_ h2_ h3_ h4_ h5_ h6_ h7_ h8_ h9_ h10_ h11_ h12_ h13_ h14_
              have HO245 := n0_
              have HO249 := n1_
              have HO252 := n2_
              have HO_11 := n3_
              have HO_224001 := n4_
              have HO_224002 := n5_
              have HO_6 := n6_
              have HO_7 := n7_
              have BK223 := n8_
              have BK254 := n9_
              have GW254 := n10_
              have GE254 := n11_
              have NB223_254 := n12_
              have NB254_223 := n13_
              have HB := n14_
              clear n0_ n1_ n2_ n3_ n4_ n5_ n6_ n7_ n8_ n9_ n10_ n11_ n12_ n13_ n14_
              have hHeld : w54.cell? ⟨gb223, 0, none⟩ = some (.int .i64 x224000_2) ∧ w54.cell? ⟨gb223, 1, none⟩ = some (.slice Ao47 x224001_2.length co47) ∧ w54.cell? ⟨gb223, 2, none⟩ = some (.slice Ao48 x224002_2.length co48) := hS_
              obtain ⟨Ao56, co56, eo56⟩ := Kd.S_slice HO249.out
              (first | subst eo56 | (injection eo56 with f1_ f2_ f3_; have f4_ := f1_.symm; have f5_ := f3_.symm; clear f1_ f2_ f3_; subst f4_; subst f5_))
              obtain ⟨Ao58, co58, eo58⟩ := Kd.R_slice HO252.out
              (first | subst eo58 | (injection eo58 with f1_ f2_ f3_; have f4_ := f1_.symm; have f5_ := f3_.symm; clear f1_ f2_ f3_; subst f4_; subst f5_))
              refine norm_ (a' := ?_) ?_ ?_
              rotate_left
              ·simp only [putAll, Act.put, List.setIfInBounds_toArray, List.set_cons_zero, List.set_cons_succ]
               rfl
              refine one_ (i := 9) (N := none) #[true, true, true, true, true, true, true, true, true, true, false] rfl rfl (one_of HT_.out (by kernel_rfl)) (by decide) (fun K hK => ?_)
              have hs55 : w54.cell? ⟨gb254, 0, none⟩ = some (.int .i64 0) := (blk_cell BK254.out 0).trans rfl
              have hfs55 := blk_frozen BK254.out 0
              have hns55_0 := NB223_254.out
              have hms55_0 := NB254_223.out
              have hs57 : w54.cell? ⟨gb254, 1, none⟩ = some (.slice none 0 0) := (blk_cell BK254.out 1).trans rfl
              have hfs57 := blk_frozen BK254.out 1
              have hns57_0 := NB223_254.out
              have hms57_0 := NB254_223.out
              have hs59 : w54.cell? ⟨gb254, 2, none⟩ = some (.slice none 0 0) := (blk_cell BK254.out 2).trans rfl
              have hfs59 := blk_frozen BK254.out 2
              have hns59_0 := NB223_254.out
              have hms59_0 := NB254_223.out
              refine skip_ (w1 := ?_) (by rfl) rfl ?_ ?_
              rotate_left
              ·go_simp
               rfl
              refine hK.out _ _ ⟨((cell_far (p := ⟨gb254, _, none⟩) NB223_254.out _).trans (((cell_far (p := ⟨gb254, _, none⟩) NB223_254.out _).trans (((cell_far (p := ⟨gb254, _, none⟩) NB223_254.out _).trans (hHeld.1)))))), ((cell_far (p := ⟨gb254, _, none⟩) NB223_254.out _).trans (((cell_far (p := ⟨gb254, _, none⟩) NB223_254.out _).trans (((cell_far (p := ⟨gb254, _, none⟩) NB223_254.out _).trans (hHeld.2.1)))))), ((cell_far (p := ⟨gb254, _, none⟩) NB223_254.out _).trans (((cell_far (p := ⟨gb254, _, none⟩) NB223_254.out _).trans (((cell_far (p := ⟨gb254, _, none⟩) NB223_254.out _).trans (hHeld.2.2))))))⟩ (fun hHeld => ?_)
              clear hK K
              refine pure_ (i := 10) (N := some 13) (v := ?_) (a' := ?_) #[true, true, true, true, true, true, true, true, true, true, true] rfl rfl (any_of HT_.out (by kernel_rfl)) (fun _ _ _ h => h) (Or.inl ⟨by rfl, ?_⟩) ?_ ?_
              rotate_left
              ·intro w'
               go_simp
               with_reducible rfl
              rotate_left
              ·simp only [Act.put, List.setIfInBounds_toArray, List.set_cons_zero, List.set_cons_succ, i64_w, i32_w]
               rfl
              refine done_ (done_of HT_.out (by kernel_rfl)) ?_
              go_upto_region 21 with (fail)
              go_cut [102] (fun v102 wc => ∃ (kq : Nat) (x102_44 : Bool), v102 = .bool x102_44 ∧ Aside0 (laws_FnMemBook.j3 kq l0 ji7 (ji20) x6_2 x7_2 x9_2 t234 x11_3 x102_44 x224000_2 x224001_2 x224002_2 t246 t247 t250 = some r) ∧ Aside0 (kq ≤ k3) ∧ Aside0 (Kd.R Kd.string 9 wc w.heap.size (fun _ => True) v225 x6_2) ∧ Aside0 (Kd.R k35 35 wc w.heap.size (fun k_ => some k_ ≠ ((.slice Ao48 x224002_2.length co48) : Value).ownBlock ∧ some k_ ≠ ((.slice Ao58 t250.length co58) : Value).ownBlock) u7 x7_2) ∧ Aside0 (Kd.R (Kd.int .u8) 5 wc w.heap.size (fun _ => True) (.slice Ao46 x11_3.length co46) x11_3) ∧ Aside0 (Kd.S k56 56 wc w.heap.size (fun k_ => some k_ ≠ ((.slice Ao46 x11_3.length co46) : Value).ownBlock ∧ some k_ ≠ ((.slice Ao56 t247.length co56) : Value).ownBlock) (.slice Ao47 x224001_2.length co47) x224001_2) ∧ Aside0 (Kd.R k35 35 wc w.heap.size (fun k_ => some k_ ≠ (u7 : Value).ownBlock ∧ some k_ ≠ ((.slice Ao58 t250.length co58) : Value).ownBlock) (.slice Ao48 x224002_2.length co48) x224002_2) ∧ Aside0 (Kd.S k56 56 wc w.heap.size (fun k_ => some k_ ≠ ((.slice Ao46 x11_3.length co46) : Value).ownBlock ∧ some k_ ≠ ((.slice Ao47 x224001_2.length co47) : Value).ownBlock) (.slice Ao56 t247.length co56) t247) ∧ Aside0 (Kd.R k35 35 wc w.heap.size (fun k_ => some k_ ≠ (u7 : Value).ownBlock ∧ some k_ ≠ ((.slice Ao48 x224002_2.length co48) : Value).ownBlock) (.slice Ao58 t250.length co58) t250) ∧ Aside0 (wc.heap[gb223]? = some (.cells #[.int .i64 x224000_2, (.slice Ao47 x224001_2.length co47), (.slice Ao48 x224002_2.length co48)] 28 (0, 0))) ∧ Aside0 (wc.heap[gb254]? = some (.cells #[.int .i64 t246, (.slice Ao56 t247.length co56), (.slice Ao58 t250.length co58)] 28 (0, 0))) ∧ Aside0 (Below w.heap.size w wc))
              case first =>
               have H := HC45.out
               clear HC45
               by_cases c60 : ((t253 == 0) != (decide (t234 < ji7))) = true
               ·rw [if_pos c60] at H
                have c60b0 : ((t253 == 0) != (decide (t234 < ji7))) = true := c60
                (try (have c60b1 : decide ((t253 == 0) = (decide (t234 < ji7))) = false := by simpa using c60))
                (try (have c60b2 : ((t253 == 0) == (decide (t234 < ji7))) = false := by simpa using c60))
                (try (have c60b3 : ¬ ((t253 == 0) = (decide (t234 < ji7))) := by simpa using c60))
                clear c60
                (first | rw [c60b0] | (simp only [i64_w, i32_w]; rw [c60b0]) | skip)
                have H' := Aside0.mk H
                clear H
                go_wp2
                go_meet
                case rel => exact ⟨_, (true), (by first | rfl | (simp; done) | (simp [*]; done)), H', ⟨by have := HK1.out; have := HK2.out; have := HK3.out; first | omega | exact Nat.le_refl _⟩, ⟨by (with_reducible repeat (first | apply Kd.R_alloc | apply Kd.R_drewN | apply Kd.R_drew)); exact Kd.R_mono (Kd.R_far (p := ⟨gb254, 2, none⟩) (Kd.R_far (p := ⟨gb254, 1, none⟩) (Kd.R_far (p := ⟨gb254, 0, none⟩) (Kd.R_types HO_6.out BK254.out (by decide)) (fun _ hk => hk.2) (.int .i64 t246)) (fun _ hk => hk.2) (.slice Ao56 t247.length co56)) (fun _ hk => hk.2) (.slice Ao58 t250.length co58)) (fun _ hk => trivial)⟩, ⟨by (with_reducible repeat (first | apply Kd.R_alloc | apply Kd.R_drewN | apply Kd.R_drew)); exact Kd.R_mono (Kd.R_far (p := ⟨gb254, 2, none⟩) (Kd.R_far (p := ⟨gb254, 1, none⟩) (Kd.R_far (p := ⟨gb254, 0, none⟩) (Kd.R_types HO_7.out BK254.out (by decide)) (fun _ hk => hk.2) (.int .i64 t246)) (fun _ hk => hk.2) (.slice Ao56 t247.length co56)) (fun _ hk => hk.2) (.slice Ao58 t250.length co58)) (fun _ hk => ⟨hk.1.2, hk.1.1⟩)⟩, ⟨by (with_reducible repeat (first | apply Kd.R_alloc | apply Kd.R_drewN | apply Kd.R_drew)); exact Kd.R_mono (Kd.R_far (p := ⟨gb254, 2, none⟩) (Kd.R_far (p := ⟨gb254, 1, none⟩) (Kd.R_far (p := ⟨gb254, 0, none⟩) (Kd.R_types HO_11.out BK254.out (by decide)) (fun _ hk => hk.2) (.int .i64 t246)) (fun _ hk => hk.2) (.slice Ao56 t247.length co56)) (fun _ hk => hk.2) (.slice Ao58 t250.length co58)) (fun _ hk => trivial)⟩, ⟨by (with_reducible repeat (first | apply Kd.S_alloc | apply Kd.S_drewN | apply Kd.S_drew)); exact Kd.S_mono (Kd.S_far (p := ⟨gb254, 2, none⟩) (Kd.S_far (p := ⟨gb254, 1, none⟩) (Kd.S_far (p := ⟨gb254, 0, none⟩) (Kd.S_types HO_224001.out BK254.out (by decide)) (fun _ hk => hk.2) (.int .i64 t246)) (fun _ hk => hk.2) (.slice Ao56 t247.length co56)) (fun _ hk => hk.2) (.slice Ao58 t250.length co58)) (fun _ hk => ⟨hk.1.2.2, hk.1.2.1⟩)⟩, ⟨by (with_reducible repeat (first | apply Kd.R_alloc | apply Kd.R_drewN | apply Kd.R_drew)); exact Kd.R_mono (Kd.R_far (p := ⟨gb254, 2, none⟩) (Kd.R_far (p := ⟨gb254, 1, none⟩) (Kd.R_far (p := ⟨gb254, 0, none⟩) (Kd.R_types HO_224002.out BK254.out (by decide)) (fun _ hk => hk.2) (.int .i64 t246)) (fun _ hk => hk.2) (.slice Ao56 t247.length co56)) (fun _ hk => hk.2) (.slice Ao58 t250.length co58)) (fun _ hk => ⟨hk.1.2, hk.1.1⟩)⟩, ⟨by (with_reducible repeat (first | apply Kd.S_alloc | apply Kd.S_drewN | apply Kd.S_drew)); exact Kd.S_mono (Kd.S_far (p := ⟨gb254, 2, none⟩) (Kd.S_far (p := ⟨gb254, 1, none⟩) (Kd.S_far (p := ⟨gb254, 0, none⟩) (Kd.S_types HO249.out BK254.out (by decide)) (fun _ hk => hk.2) (.int .i64 t246)) (fun _ hk => hk.2) (.slice Ao56 t247.length co56)) (fun _ hk => hk.2) (.slice Ao58 t250.length co58)) (fun _ hk => ⟨hk.1.2.1, hk.1.2.2⟩)⟩, ⟨by (with_reducible repeat (first | apply Kd.R_alloc | apply Kd.R_drewN | apply Kd.R_drew)); exact Kd.R_mono (Kd.R_far (p := ⟨gb254, 2, none⟩) (Kd.R_far (p := ⟨gb254, 1, none⟩) (Kd.R_far (p := ⟨gb254, 0, none⟩) (Kd.R_types HO252.out BK254.out (by decide)) (fun _ hk => hk.2) (.int .i64 t246)) (fun _ hk => hk.2) (.slice Ao56 t247.length co56)) (fun _ hk => hk.2) (.slice Ao58 t250.length co58)) (fun _ hk => ⟨hk.1.2, hk.1.1⟩)⟩, ⟨by (with_reducible repeat (first | refine blk_drewN ?_ _ | refine blk_drew ?_ | refine blk_alloc ?_ _)); refine blk_far ?_ NB223_254.out _; (with_reducible repeat (first | refine blk_drewN ?_ _ | refine blk_drew ?_ | refine blk_alloc ?_ _)); refine blk_far ?_ NB223_254.out _; (with_reducible repeat (first | refine blk_drewN ?_ _ | refine blk_drew ?_ | refine blk_alloc ?_ _)); refine blk_far ?_ NB223_254.out _; exact BK223.out⟩, ⟨by (with_reducible repeat (first | refine blk_drewN ?_ _ | refine blk_drew ?_ | refine blk_alloc ?_ _)); refine blk_put (cs := #[.int .i64 t246, .slice Ao56 t247.length co56, .slice none 0 0]) ?_ 2 _ rfl; (with_reducible repeat (first | refine blk_drewN ?_ _ | refine blk_drew ?_ | refine blk_alloc ?_ _)); refine blk_put (cs := #[.int .i64 t246, .slice none 0 0, .slice none 0 0]) ?_ 1 _ rfl; (with_reducible repeat (first | refine blk_drewN ?_ _ | refine blk_drew ?_ | refine blk_alloc ?_ _)); refine blk_put (cs := #[.int .i64 0, .slice none 0 0, .slice none 0 0]) ?_ 0 _ rfl; exact BK254.out⟩, ⟨by repeat (first | (with_reducible first | exact HB.out | apply below_alloc | apply pw_below_drewN | apply below_drew1 | refine below_set ?_ GE223.out | refine below_set ?_ GE254.out) | exact HB.out)⟩⟩
               ·rw [if_neg c60] at H
                have c60b0 : ((t253 == 0) != (decide (t234 < ji7))) = false := by simpa using c60
                (try (have c60b1 : decide ((t253 == 0) = (decide (t234 < ji7))) = true := by simpa using c60))
                (try (have c60b2 : ((t253 == 0) == (decide (t234 < ji7))) = true := by simpa using c60))
                clear c60
                (first | rw [c60b0] | (simp only [i64_w, i32_w]; rw [c60b0]) | skip)
                by_cases c61 : t234 = ji7
                ·rw [if_pos c61] at H
                 have c61b0 : (t234 == ji7) = true := beq_iff_eq.mpr c61
                 have c61b1 : (t234 != ji7) = false := bne_eq_false_iff_eq.mpr c61
                 clear c61
                 have H' := Aside0.mk H
                 clear H
                 go_wp2
                 go_meet
                 case rel => exact ⟨_, ((t253 != 2)), (by first | rfl | (simp; done) | (simp [*]; done)), H', ⟨by have := HK1.out; have := HK2.out; have := HK3.out; first | omega | exact Nat.le_refl _⟩, ⟨by (with_reducible repeat (first | apply Kd.R_alloc | apply Kd.R_drewN | apply Kd.R_drew)); exact Kd.R_mono (Kd.R_far (p := ⟨gb254, 2, none⟩) (Kd.R_far (p := ⟨gb254, 1, none⟩) (Kd.R_far (p := ⟨gb254, 0, none⟩) (Kd.R_types HO_6.out BK254.out (by decide)) (fun _ hk => hk.2) (.int .i64 t246)) (fun _ hk => hk.2) (.slice Ao56 t247.length co56)) (fun _ hk => hk.2) (.slice Ao58 t250.length co58)) (fun _ hk => trivial)⟩, ⟨by (with_reducible repeat (first | apply Kd.R_alloc | apply Kd.R_drewN | apply Kd.R_drew)); exact Kd.R_mono (Kd.R_far (p := ⟨gb254, 2, none⟩) (Kd.R_far (p := ⟨gb254, 1, none⟩) (Kd.R_far (p := ⟨gb254, 0, none⟩) (Kd.R_types HO_7.out BK254.out (by decide)) (fun _ hk => hk.2) (.int .i64 t246)) (fun _ hk => hk.2) (.slice Ao56 t247.length co56)) (fun _ hk => hk.2) (.slice Ao58 t250.length co58)) (fun _ hk => ⟨hk.1.2, hk.1.1⟩)⟩, ⟨by (with_reducible repeat (first | apply Kd.R_alloc | apply Kd.R_drewN | apply Kd.R_drew)); exact Kd.R_mono (Kd.R_far (p := ⟨gb254, 2, none⟩) (Kd.R_far (p := ⟨gb254, 1, none⟩) (Kd.R_far (p := ⟨gb254, 0, none⟩) (Kd.R_types HO_11.out BK254.out (by decide)) (fun _ hk => hk.2) (.int .i64 t246)) (fun _ hk => hk.2) (.slice Ao56 t247.length co56)) (fun _ hk => hk.2) (.slice Ao58 t250.length co58)) (fun _ hk => trivial)⟩, ⟨by (with_reducible repeat (first | apply Kd.S_alloc | apply Kd.S_drewN | apply Kd.S_drew)); exact Kd.S_mono (Kd.S_far (p := ⟨gb254, 2, none⟩) (Kd.S_far (p := ⟨gb254, 1, none⟩) (Kd.S_far (p := ⟨gb254, 0, none⟩) (Kd.S_types HO_224001.out BK254.out (by decide)) (fun _ hk => hk.2) (.int .i64 t246)) (fun _ hk => hk.2) (.slice Ao56 t247.length co56)) (fun _ hk => hk.2) (.slice Ao58 t250.length co58)) (fun _ hk => ⟨hk.1.2.2, hk.1.2.1⟩)⟩, ⟨by (with_reducible repeat (first | apply Kd.R_alloc | apply Kd.R_drewN | apply Kd.R_drew)); exact Kd.R_mono (Kd.R_far (p := ⟨gb254, 2, none⟩) (Kd.R_far (p := ⟨gb254, 1, none⟩) (Kd.R_far (p := ⟨gb254, 0, none⟩) (Kd.R_types HO_224002.out BK254.out (by decide)) (fun _ hk => hk.2) (.int .i64 t246)) (fun _ hk => hk.2) (.slice Ao56 t247.length co56)) (fun _ hk => hk.2) (.slice Ao58 t250.length co58)) (fun _ hk => ⟨hk.1.2, hk.1.1⟩)⟩, ⟨by (with_reducible repeat (first | apply Kd.S_alloc | apply Kd.S_drewN | apply Kd.S_drew)); exact Kd.S_mono (Kd.S_far (p := ⟨gb254, 2, none⟩) (Kd.S_far (p := ⟨gb254, 1, none⟩) (Kd.S_far (p := ⟨gb254, 0, none⟩) (Kd.S_types HO249.out BK254.out (by decide)) (fun _ hk => hk.2) (.int .i64 t246)) (fun _ hk => hk.2) (.slice Ao56 t247.length co56)) (fun _ hk => hk.2) (.slice Ao58 t250.length co58)) (fun _ hk => ⟨hk.1.2.1, hk.1.2.2⟩)⟩, ⟨by (with_reducible repeat (first | apply Kd.R_alloc | apply Kd.R_drewN | apply Kd.R_drew)); exact Kd.R_mono (Kd.R_far (p := ⟨gb254, 2, none⟩) (Kd.R_far (p := ⟨gb254, 1, none⟩) (Kd.R_far (p := ⟨gb254, 0, none⟩) (Kd.R_types HO252.out BK254.out (by decide)) (fun _ hk => hk.2) (.int .i64 t246)) (fun _ hk => hk.2) (.slice Ao56 t247.length co56)) (fun _ hk => hk.2) (.slice Ao58 t250.length co58)) (fun _ hk => ⟨hk.1.2, hk.1.1⟩)⟩, ⟨by (with_reducible repeat (first | refine blk_drewN ?_ _ | refine blk_drew ?_ | refine blk_alloc ?_ _)); refine blk_far ?_ NB223_254.out _; (with_reducible repeat (first | refine blk_drewN ?_ _ | refine blk_drew ?_ | refine blk_alloc ?_ _)); refine blk_far ?_ NB223_254.out _; (with_reducible repeat (first | refine blk_drewN ?_ _ | refine blk_drew ?_ | refine blk_alloc ?_ _)); refine blk_far ?_ NB223_254.out _; exact BK223.out⟩, ⟨by (with_reducible repeat (first | refine blk_drewN ?_ _ | refine blk_drew ?_ | refine blk_alloc ?_ _)); refine blk_put (cs := #[.int .i64 t246, .slice Ao56 t247.length co56, .slice none 0 0]) ?_ 2 _ rfl; (with_reducible repeat (first | refine blk_drewN ?_ _ | refine blk_drew ?_ | refine blk_alloc ?_ _)); refine blk_put (cs := #[.int .i64 t246, .slice none 0 0, .slice none 0 0]) ?_ 1 _ rfl; (with_reducible repeat (first | refine blk_drewN ?_ _ | refine blk_drew ?_ | refine blk_alloc ?_ _)); refine blk_put (cs := #[.int .i64 0, .slice none 0 0, .slice none 0 0]) ?_ 0 _ rfl; exact BK254.out⟩, ⟨by repeat (first | (with_reducible first | exact HB.out | apply below_alloc | apply pw_below_drewN | apply below_drew1 | refine below_set ?_ GE223.out | refine below_set ?_ GE254.out) | exact HB.out)⟩⟩
                ·rw [if_neg c61] at H
                 have c61b0 : (t234 == ji7) = false := beq_eq_false_iff_ne.mpr c61
                 have c61b1 : (t234 != ji7) = true := bne_iff_ne.mpr c61
                 have H' := Aside0.mk H
                 clear H
                 go_wp2
                 go_meet
                 case rel => exact ⟨_, (false), (by first | rfl | (simp; done) | (simp [*]; done)), H', ⟨by have := HK1.out; have := HK2.out; have := HK3.out; first | omega | exact Nat.le_refl _⟩, ⟨by (with_reducible repeat (first | apply Kd.R_alloc | apply Kd.R_drewN | apply Kd.R_drew)); exact Kd.R_mono (Kd.R_far (p := ⟨gb254, 2, none⟩) (Kd.R_far (p := ⟨gb254, 1, none⟩) (Kd.R_far (p := ⟨gb254, 0, none⟩) (Kd.R_types HO_6.out BK254.out (by decide)) (fun _ hk => hk.2) (.int .i64 t246)) (fun _ hk => hk.2) (.slice Ao56 t247.length co56)) (fun _ hk => hk.2) (.slice Ao58 t250.length co58)) (fun _ hk => trivial)⟩, ⟨by (with_reducible repeat (first | apply Kd.R_alloc | apply Kd.R_drewN | apply Kd.R_drew)); exact Kd.R_mono (Kd.R_far (p := ⟨gb254, 2, none⟩) (Kd.R_far (p := ⟨gb254, 1, none⟩) (Kd.R_far (p := ⟨gb254, 0, none⟩) (Kd.R_types HO_7.out BK254.out (by decide)) (fun _ hk => hk.2) (.int .i64 t246)) (fun _ hk => hk.2) (.slice Ao56 t247.length co56)) (fun _ hk => hk.2) (.slice Ao58 t250.length co58)) (fun _ hk => ⟨hk.1.2, hk.1.1⟩)⟩, ⟨by (with_reducible repeat (first | apply Kd.R_alloc | apply Kd.R_drewN | apply Kd.R_drew)); exact Kd.R_mono (Kd.R_far (p := ⟨gb254, 2, none⟩) (Kd.R_far (p := ⟨gb254, 1, none⟩) (Kd.R_far (p := ⟨gb254, 0, none⟩) (Kd.R_types HO_11.out BK254.out (by decide)) (fun _ hk => hk.2) (.int .i64 t246)) (fun _ hk => hk.2) (.slice Ao56 t247.length co56)) (fun _ hk => hk.2) (.slice Ao58 t250.length co58)) (fun _ hk => trivial)⟩, ⟨by (with_reducible repeat (first | apply Kd.S_alloc | apply Kd.S_drewN | apply Kd.S_drew)); exact Kd.S_mono (Kd.S_far (p := ⟨gb254, 2, none⟩) (Kd.S_far (p := ⟨gb254, 1, none⟩) (Kd.S_far (p := ⟨gb254, 0, none⟩) (Kd.S_types HO_224001.out BK254.out (by decide)) (fun _ hk => hk.2) (.int .i64 t246)) (fun _ hk => hk.2) (.slice Ao56 t247.length co56)) (fun _ hk => hk.2) (.slice Ao58 t250.length co58)) (fun _ hk => ⟨hk.1.2.2, hk.1.2.1⟩)⟩, ⟨by (with_reducible repeat (first | apply Kd.R_alloc | apply Kd.R_drewN | apply Kd.R_drew)); exact Kd.R_mono (Kd.R_far (p := ⟨gb254, 2, none⟩) (Kd.R_far (p := ⟨gb254, 1, none⟩) (Kd.R_far (p := ⟨gb254, 0, none⟩) (Kd.R_types HO_224002.out BK254.out (by decide)) (fun _ hk => hk.2) (.int .i64 t246)) (fun _ hk => hk.2) (.slice Ao56 t247.length co56)) (fun _ hk => hk.2) (.slice Ao58 t250.length co58)) (fun _ hk => ⟨hk.1.2, hk.1.1⟩)⟩, ⟨by (with_reducible repeat (first | apply Kd.S_alloc | apply Kd.S_drewN | apply Kd.S_drew)); exact Kd.S_mono (Kd.S_far (p := ⟨gb254, 2, none⟩) (Kd.S_far (p := ⟨gb254, 1, none⟩) (Kd.S_far (p := ⟨gb254, 0, none⟩) (Kd.S_types HO249.out BK254.out (by decide)) (fun _ hk => hk.2) (.int .i64 t246)) (fun _ hk => hk.2) (.slice Ao56 t247.length co56)) (fun _ hk => hk.2) (.slice Ao58 t250.length co58)) (fun _ hk => ⟨hk.1.2.1, hk.1.2.2⟩)⟩, ⟨by (with_reducible repeat (first | apply Kd.R_alloc | apply Kd.R_drewN | apply Kd.R_drew)); exact Kd.R_mono (Kd.R_far (p := ⟨gb254, 2, none⟩) (Kd.R_far (p := ⟨gb254, 1, none⟩) (Kd.R_far (p := ⟨gb254, 0, none⟩) (Kd.R_types HO252.out BK254.out (by decide)) (fun _ hk => hk.2) (.int .i64 t246)) (fun _ hk => hk.2) (.slice Ao56 t247.length co56)) (fun _ hk => hk.2) (.slice Ao58 t250.length co58)) (fun _ hk => ⟨hk.1.2, hk.1.1⟩)⟩, ⟨by (with_reducible repeat (first | refine blk_drewN ?_ _ | refine blk_drew ?_ | refine blk_alloc ?_ _)); refine blk_far ?_ NB223_254.out _; (with_reducible repeat (first | refine blk_drewN ?_ _ | refine blk_drew ?_ | refine blk_alloc ?_ _)); refine blk_far ?_ NB223_254.out _; (with_reducible repeat (first | refine blk_drewN ?_ _ | refine blk_drew ?_ | refine blk_alloc ?_ _)); refine blk_far ?_ NB223_254.out _; exact BK223.out⟩, ⟨by (with_reducible repeat (first | refine blk_drewN ?_ _ | refine blk_drew ?_ | refine blk_alloc ?_ _)); refine blk_put (cs := #[.int .i64 t246, .slice Ao56 t247.length co56, .slice none 0 0]) ?_ 2 _ rfl; (with_reducible repeat (first | refine blk_drewN ?_ _ | refine blk_drew ?_ | refine blk_alloc ?_ _)); refine blk_put (cs := #[.int .i64 t246, .slice none 0 0, .slice none 0 0]) ?_ 1 _ rfl; (with_reducible repeat (first | refine blk_drewN ?_ _ | refine blk_drew ?_ | refine blk_alloc ?_ _)); refine blk_put (cs := #[.int .i64 0, .slice none 0 0, .slice none 0 0]) ?_ 0 _ rfl; exact BK254.out⟩, ⟨by repeat (first | (with_reducible first | exact HB.out | apply below_alloc | apply pw_below_drewN | apply below_drew1 | refine below_set ?_ GE223.out | refine below_set ?_ GE254.out) | exact HB.out)⟩⟩
              case rest =>
               clear HC45
               try clear p2
               try clear c6
               try clear p6
               try clear c8
               try clear c9
               try clear c60
               try clear c60b0
               try clear c60b1
               try clear c60b2
               try clear c61
               try clear c61b0
               try clear c61b1
               obtain ⟨kq, x102_44, rfl, HA, HJ44, HO_6, HO_7, HO_11, HO_224001, HO_224002, HO_255001, HO_255002, BK223, BK254, HB⟩ := hcut
               cases kq with
               | zero => exact absurd HA.out (by simp [laws_FnMemBook.j3])
               | succ kj44 =>
                have H := HA.out
                clear HA
                simp only [laws_FnMemBook.j3] at H
                by_cases c62 : x102_44 = true
                ·subst c62
                 have H1 : (some false) = some r := by rw [if_pos rfl] at H; exact H
                 clear H
                 have H := H1
                 clear H1
                 obtain rfl := Option.some.inj H
                 go_wp2
                 go_ret
                 exact ⟨by first | rfl | (simp [errW_none, errW_some] <;> rfl) | (simp only [← hji7, ← hji31]; first | rfl | (simp [errW_none, errW_some] <;> rfl)) | (simp [*, errW_none, errW_some] <;> rfl), by exact HB.out⟩
                ·replace c62 := Bool.eq_false_iff.mpr c62
                 subst c62
                 have H1 : (if t234 < ji7 then (if 0 ≤ t234 then (if t234 < (x6_2.length : Int) then (if x7_2.length < 5864062014805 then (laws_FnMemBook.l1 kj44 l0 ji7 (ji20) (x6_2.set (t234 : Int).toNat (strOfNums x11_3)) (x7_2 ++ [(⟨2, t234, (ji20)⟩ : S35)]) (wrap64 (x9_2 + 1)) t246 t247 t250) else (none)) else (none)) else (none)) else (laws_FnMemBook.l1 kj44 l0 ji7 (ji20) x6_2 x7_2 (wrap64 (x9_2 + 1)) x224000_2 x224001_2 x224002_2)) = some r := by rw [if_neg (show ¬ (false = true) by decide)] at H; exact H
                 clear H
                 have H := H1
                 clear H1
                 by_cases c63 : t234 < ji7
                 ·rw [if_pos c63] at H
                  have c63b0 : decide (t234 < ji7) = true := decide_eq_true c63
                  (try (have c60b5 : (t253 == 0) = true := by simpa [c63b0] using c60b0))
                  (try (have c60b6 : (t253 != 0) = false := by simpa [c63b0] using c60b0))
                  clear c63
                  by_cases c64 : 0 ≤ t234
                  ·rw [if_pos c64] at H
                   have c64b0 : decide (0 ≤ t234) = true := decide_eq_true c64
                   clear c64
                   by_cases c65 : t234 < (x6_2.length : Int)
                   ·rw [if_pos c65] at H
                    have c65b0 : decide (t234 < (x6_2.length : Int)) = true := decide_eq_true c65
                    clear c65
                    obtain ⟨y255, hy255⟩ : ∃ y_ : List ByteArray, y_ = (x6_2.set (t234 : Int).toNat (strOfNums x11_3)) := ⟨_, rfl⟩
                    replace H : (if x7_2.length < 5864062014805 then (laws_FnMemBook.l1 kj44 l0 ji7 (ji20) y255 (x7_2 ++ [(⟨2, t234, (ji20)⟩ : S35)]) (wrap64 (x9_2 + 1)) t246 t247 t250) else (none)) = some r := by first | (rw [hy255]; with_reducible exact H) | (have H2_ := (Option.bind_some _ _).symm.trans H; rw [hy255]; with_reducible exact H2_) | (have H2_ := (Option.bind_some _ _).symm.trans H; with_reducible exact H2_) | with_reducible exact H | (rw [hy255]; exact H) | exact H
                    have Ny255 := Aside0.mk hy255
                    clear hy255
                    by_cases c67 : x7_2.length < 5864062014805
                    ·rw [if_pos c67] at H
                     have LMc67 := Aside0.mk c67
                     clear c67
                     obtain ⟨y256, hy256⟩ : ∃ y_ : List (S35), y_ = (x7_2 ++ [(⟨2, t234, (ji20)⟩ : S35)]) := ⟨_, rfl⟩
                     replace H : (laws_FnMemBook.l1 kj44 l0 ji7 (ji20) y255 y256 (wrap64 (x9_2 + 1)) t246 t247 t250) = some r := by first | (rw [hy256]; with_reducible exact H) | (have H2_ := (Option.bind_some _ _).symm.trans H; rw [hy256]; with_reducible exact H2_) | (have H2_ := (Option.bind_some _ _).symm.trans H; with_reducible exact H2_) | with_reducible exact H | (rw [hy256]; exact H) | exact H
                     have Ny256 := Aside0.mk hy256
                     clear hy256
                     have H' := Aside0.mk H
                     clear H
                     have hnb68 := NB254_223.out
                     have hnc68 := NB223_254.out
                     have hcz69_0 : wc.cell? ⟨gb254, 0, none⟩ = some (.int .i64 t246) := (blk_cell BK254.out 0).trans rfl
                     have hcz69_1 : wc.cell? ⟨gb254, 1, none⟩ = some (.slice Ao56 t247.length co56) := (blk_cell BK254.out 1).trans rfl
                     have hcz69_2 : wc.cell? ⟨gb254, 2, none⟩ = some (.slice Ao58 t250.length co58) := (blk_cell BK254.out 2).trans rfl
                     have hfz69_0 := blk_frozen BK254.out 0
                     have hfz69_1 := blk_frozen BK254.out 1
                     have hfz69_2 := blk_frozen BK254.out 2
                     have hcz70_0 : wc.cell? ⟨gb223, 0, none⟩ = some (.int .i64 x224000_2) := (blk_cell BK223.out 0).trans rfl
                     have hcz70_1 : wc.cell? ⟨gb223, 1, none⟩ = some (.slice Ao47 x224001_2.length co47) := (blk_cell BK223.out 1).trans rfl
                     have hcz70_2 : wc.cell? ⟨gb223, 2, none⟩ = some (.slice Ao48 x224002_2.length co48) := (blk_cell BK223.out 2).trans rfl
                     have hfz70_0 := blk_frozen BK223.out 0
                     have hfz70_1 := blk_frozen BK223.out 1
                     have hfz70_2 := blk_frozen BK223.out 2
                     go_wp2_with (first | ((with_reducible refine gate_store (t := 28) (p := 5) rfl ?_); refine store_event (t := 28) (p := 5) (v := ?vo_w71) (w1 := (((wc.setCell ⟨gb223, 0, none⟩ (.int .i64 t246)).setCell ⟨gb223, 1, none⟩ (.slice Ao56 t247.length co56)).setCell ⟨gb223, 2, none⟩ (.slice Ao58 t250.length co58))) ?hg ?ho ?hn ?hr ?_; (case ho => rfl); (case hg => rfl); (case hn => rfl); (case hr => first | (go_simp; done) | (go_simp; rfl)); intro w71 hw; have n0_ : Aside0 (Kd.R Kd.string 9 w71 w.heap.size (fun _ => True) v225 x6_2) := ⟨(by rw [hw]; exact (by (with_reducible repeat (first | apply Kd.R_alloc | apply Kd.R_drewN | apply Kd.R_drew)); exact Kd.R_mono (Kd.R_far (p := ⟨gb223, 2, none⟩) (Kd.R_far (p := ⟨gb223, 1, none⟩) (Kd.R_far (p := ⟨gb223, 0, none⟩) (Kd.R_types HO_6.out BK223.out (by decide)) (fun _ hk => hk.2) (.int .i64 t246)) (fun _ hk => hk.2) (.slice Ao56 t247.length co56)) (fun _ hk => hk.2) (.slice Ao58 t250.length co58)) (fun _ hk => trivial)))⟩; have n1_ : Aside0 (Kd.R k35 35 w71 w.heap.size (fun k_ => some k_ ≠ (.slice Ao48 x224002_2.length co48 : Value).ownBlock ∧ some k_ ≠ (.slice Ao58 t250.length co58 : Value).ownBlock) u7 x7_2) := ⟨(by rw [hw]; exact (by (with_reducible repeat (first | apply Kd.R_alloc | apply Kd.R_drewN | apply Kd.R_drew)); exact Kd.R_mono (Kd.R_far (p := ⟨gb223, 2, none⟩) (Kd.R_far (p := ⟨gb223, 1, none⟩) (Kd.R_far (p := ⟨gb223, 0, none⟩) (Kd.R_types HO_7.out BK223.out (by decide)) (fun _ hk => hk.2) (.int .i64 t246)) (fun _ hk => hk.2) (.slice Ao56 t247.length co56)) (fun _ hk => hk.2) (.slice Ao58 t250.length co58)) (fun _ hk => ⟨hk.1.1, hk.1.2⟩)))⟩; have n2_ : Aside0 (Kd.R (Kd.int .u8) 5 w71 w.heap.size (fun _ => True) (.slice Ao46 x11_3.length co46) x11_3) := ⟨(by rw [hw]; exact (by (with_reducible repeat (first | apply Kd.R_alloc | apply Kd.R_drewN | apply Kd.R_drew)); exact Kd.R_mono (Kd.R_far (p := ⟨gb223, 2, none⟩) (Kd.R_far (p := ⟨gb223, 1, none⟩) (Kd.R_far (p := ⟨gb223, 0, none⟩) (Kd.R_types HO_11.out BK223.out (by decide)) (fun _ hk => hk.2) (.int .i64 t246)) (fun _ hk => hk.2) (.slice Ao56 t247.length co56)) (fun _ hk => hk.2) (.slice Ao58 t250.length co58)) (fun _ hk => trivial)))⟩; have n3_ : Aside0 (Kd.S k56 56 w71 w.heap.size (fun k_ => some k_ ≠ (.slice Ao46 x11_3.length co46 : Value).ownBlock ∧ some k_ ≠ (.slice Ao56 t247.length co56 : Value).ownBlock) (.slice Ao47 x224001_2.length co47) x224001_2) := ⟨(by rw [hw]; exact (by (with_reducible repeat (first | apply Kd.S_alloc | apply Kd.S_drewN | apply Kd.S_drew)); exact Kd.S_mono (Kd.S_far (p := ⟨gb223, 2, none⟩) (Kd.S_far (p := ⟨gb223, 1, none⟩) (Kd.S_far (p := ⟨gb223, 0, none⟩) (Kd.S_types HO_224001.out BK223.out (by decide)) (fun _ hk => hk.2) (.int .i64 t246)) (fun _ hk => hk.2) (.slice Ao56 t247.length co56)) (fun _ hk => hk.2) (.slice Ao58 t250.length co58)) (fun _ hk => ⟨hk.1.1, hk.1.2⟩)))⟩; have n4_ : Aside0 (Kd.R k35 35 w71 w.heap.size (fun k_ => some k_ ≠ (u7 : Value).ownBlock ∧ some k_ ≠ (.slice Ao58 t250.length co58 : Value).ownBlock) (.slice Ao48 x224002_2.length co48) x224002_2) := ⟨(by rw [hw]; exact (by (with_reducible repeat (first | apply Kd.R_alloc | apply Kd.R_drewN | apply Kd.R_drew)); exact Kd.R_mono (Kd.R_far (p := ⟨gb223, 2, none⟩) (Kd.R_far (p := ⟨gb223, 1, none⟩) (Kd.R_far (p := ⟨gb223, 0, none⟩) (Kd.R_types HO_224002.out BK223.out (by decide)) (fun _ hk => hk.2) (.int .i64 t246)) (fun _ hk => hk.2) (.slice Ao56 t247.length co56)) (fun _ hk => hk.2) (.slice Ao58 t250.length co58)) (fun _ hk => ⟨hk.1.1, hk.1.2⟩)))⟩; have n5_ : Aside0 (Kd.S k56 56 w71 w.heap.size (fun k_ => some k_ ≠ (.slice Ao46 x11_3.length co46 : Value).ownBlock ∧ some k_ ≠ (.slice Ao47 x224001_2.length co47 : Value).ownBlock) (.slice Ao56 t247.length co56) t247) := ⟨(by rw [hw]; exact (by (with_reducible repeat (first | apply Kd.S_alloc | apply Kd.S_drewN | apply Kd.S_drew)); exact Kd.S_mono (Kd.S_far (p := ⟨gb223, 2, none⟩) (Kd.S_far (p := ⟨gb223, 1, none⟩) (Kd.S_far (p := ⟨gb223, 0, none⟩) (Kd.S_types HO_255001.out BK223.out (by decide)) (fun _ hk => hk.2) (.int .i64 t246)) (fun _ hk => hk.2) (.slice Ao56 t247.length co56)) (fun _ hk => hk.2) (.slice Ao58 t250.length co58)) (fun _ hk => ⟨hk.1.1, hk.1.2⟩)))⟩; have n6_ : Aside0 (Kd.R k35 35 w71 w.heap.size (fun k_ => some k_ ≠ (u7 : Value).ownBlock ∧ some k_ ≠ (.slice Ao48 x224002_2.length co48 : Value).ownBlock) (.slice Ao58 t250.length co58) t250) := ⟨(by rw [hw]; exact (by (with_reducible repeat (first | apply Kd.R_alloc | apply Kd.R_drewN | apply Kd.R_drew)); exact Kd.R_mono (Kd.R_far (p := ⟨gb223, 2, none⟩) (Kd.R_far (p := ⟨gb223, 1, none⟩) (Kd.R_far (p := ⟨gb223, 0, none⟩) (Kd.R_types HO_255002.out BK223.out (by decide)) (fun _ hk => hk.2) (.int .i64 t246)) (fun _ hk => hk.2) (.slice Ao56 t247.length co56)) (fun _ hk => hk.2) (.slice Ao58 t250.length co58)) (fun _ hk => ⟨hk.1.1, hk.1.2⟩)))⟩; have n7_ : Aside0 (w71.heap[gb223]? = some (.cells #[.int .i64 t246, .slice Ao56 t247.length co56, .slice Ao58 t250.length co58] 28 (0, 0))) := ⟨(by rw [hw]; exact (by (with_reducible repeat (first | refine blk_drewN ?_ _ | refine blk_drew ?_ | refine blk_alloc ?_ _)); refine blk_put (cs := #[.int .i64 t246, .slice Ao56 t247.length co56, .slice Ao48 x224002_2.length co48]) ?_ 2 _ rfl; (with_reducible repeat (first | refine blk_drewN ?_ _ | refine blk_drew ?_ | refine blk_alloc ?_ _)); refine blk_put (cs := #[.int .i64 t246, .slice Ao47 x224001_2.length co47, .slice Ao48 x224002_2.length co48]) ?_ 1 _ rfl; (with_reducible repeat (first | refine blk_drewN ?_ _ | refine blk_drew ?_ | refine blk_alloc ?_ _)); refine blk_put (cs := #[.int .i64 x224000_2, .slice Ao47 x224001_2.length co47, .slice Ao48 x224002_2.length co48]) ?_ 0 _ rfl; exact BK223.out))⟩; have n8_ : Aside0 (w71.heap[gb254]? = some (.cells #[.int .i64 t246, .slice Ao56 t247.length co56, .slice Ao58 t250.length co58] 28 (0, 0))) := ⟨(by rw [hw]; exact (by (with_reducible repeat (first | refine blk_drewN ?_ _ | refine blk_drew ?_ | refine blk_alloc ?_ _)); refine blk_far ?_ NB254_223.out _; (with_reducible repeat (first | refine blk_drewN ?_ _ | refine blk_drew ?_ | refine blk_alloc ?_ _)); refine blk_far ?_ NB254_223.out _; (with_reducible repeat (first | refine blk_drewN ?_ _ | refine blk_drew ?_ | refine blk_alloc ?_ _)); refine blk_far ?_ NB254_223.out _; exact BK254.out))⟩; have n9_ : Aside0 (Below w.heap.size w w71) := ⟨(by rw [hw]; exact (by repeat (first | (with_reducible first | exact HB.out | apply below_alloc | apply pw_below_drewN | apply below_drew1 | refine below_set ?_ GE223.out | refine below_set ?_ GE254.out) | exact HB.out)))⟩; clear hw; clear HO_6; clear HO_7; clear HO_11; clear HO_224001; clear HO_224002; clear HO_255001; clear HO_255002; clear BK223; clear BK254; clear HB; have HO_6 := n0_; have HO_7 := n1_; have HO_11 := n2_; have HO_224001 := n3_; have HO_224002 := n4_; have HO_255001 := n5_; have HO_255002 := n6_; have BK223 := n7_; have BK254 := n8_; have HB := n9_; clear n0_ n1_ n2_ n3_ n4_ n5_ n6_ n7_ n8_ n9_; have hcv72 := own_string (P := Tryd.prog) Tryd.underlying22 Tryd.underlying5 Tryd.underlying9 (Kd.own_of_R HO_11.out); have p66 : 0 ≤ (t234 : Int) := of_decide_eq_true (by first | (with_reducible assumption) | assumption); have q66 : (t234 : Int) < ((x6_2.length : Int) : Int) := of_decide_eq_true (by first | (with_reducible assumption) | assumption); obtain ⟨go66, co66, eo66, gb66, gl66, cl66, HG66⟩ := Kd.R_form HO_6.out (by omega); (first | cases eo66 | (injection eo66 with ea_ en_ ec_; (first | subst ea_ | (injection ea_ with ea_; subst ea_)); subst ec_; clear en_)); have GB66 := Aside0.mk gb66; have GG66 := Aside0.mk HG66; clear gb66 gl66 HG66; obtain ⟨hx66_0, hf66_0⟩ := Kd.R_celln (⟨#[]⟩ : ByteArray) HO_6.out (t234 : Int) p66 q66; replace p66 := eq_true p66; replace q66 := eq_true q66; obtain ⟨hy73_, hz73_⟩ := Kd.R_celln (⟨#[]⟩ : ByteArray) HO_6.out (t234 : Int) (of_decide_eq_true (by first | (with_reducible assumption) | assumption)) (of_decide_eq_true (by first | (with_reducible assumption) | assumption)); have HP73 := Kd.R_putg HO_6.out (t234 : Int) (strOfNums x11_3)) | ((with_reducible refine gate_store (t := 9) (p := 111) rfl ?_); refine store_event (t := 9) (p := 111) (v := ?vo_w74) (w1 := (w71.setCell ⟨go66, (t234 : Int).toNat, none⟩ (.string (strOfNums x11_3)))) ?hg ?ho ?hn ?hr ?_; (case ho => rfl); (case hg => rfl); (case hn => rfl); (case hr => first | (go_simp; done) | (go_simp; rfl)); intro w74 hw; have hg : w71.grownBy w74 (some go66) := (by rw [hw]; exact HP73.2); have hp_ : Kd.R Kd.string 9 w74 w.heap.size (fun _ => True) (.slice (some ⟨go66, 0, none⟩) x6_2.length co66) y255 := (by rw [hw, Ny255.out]; exact HP73.1); clear HP73; have n0_ := Aside0.mk (hp_); have n1_ := Aside0.mk (Kd.R_over' (v := (.slice (some ⟨go66, 0, none⟩) x6_2.length co66)) (by exact HO_7.out) (Kd.R_typed HO_6.out) (by decide) hg); have n2_ := Aside0.mk (Kd.R_over' (v := (.slice (some ⟨go66, 0, none⟩) x6_2.length co66)) (by exact HO_11.out) (Kd.R_typed HO_6.out) (by decide) hg); have n3_ := Aside0.mk (Kd.S_over' (v := (.slice (some ⟨go66, 0, none⟩) x6_2.length co66)) (by exact HO_224001.out) (Kd.R_typed HO_6.out) (by decide) hg); have n4_ := Aside0.mk (Kd.R_over' (v := (.slice (some ⟨go66, 0, none⟩) x6_2.length co66)) (by exact HO_224002.out) (Kd.R_typed HO_6.out) (by decide) hg); have n5_ := Aside0.mk (Kd.S_over' (v := (.slice (some ⟨go66, 0, none⟩) x6_2.length co66)) (by exact HO_255001.out) (Kd.R_typed HO_6.out) (by decide) hg); have n6_ := Aside0.mk (Kd.R_over' (v := (.slice (some ⟨go66, 0, none⟩) x6_2.length co66)) (by exact HO_255002.out) (Kd.R_typed HO_6.out) (by decide) hg); have n7_ := Aside0.mk (blk_grown (g := gb223) (o := .cells #[.int .i64 t246, .slice Ao56 t247.length co56, .slice Ao58 t250.length co58] 28 (0, 0)) (by exact BK223.out) hg (Kd.R_ne HO_6.out BK223.out (by decide))); have n8_ := Aside0.mk (blk_grown (g := gb254) (o := .cells #[.int .i64 t246, .slice Ao56 t247.length co56, .slice Ao58 t250.length co58] 28 (0, 0)) (by exact BK254.out) hg (Kd.R_ne HO_6.out BK254.out (by decide))); have n9_ := Aside0.mk ((by rw [hw]; exact below_set (HB.out) GB66.out : Below w.heap.size w w74)); clear HO_6; clear HO_7; clear HO_11; clear HO_224001; clear HO_224002; clear HO_255001; clear HO_255002; clear BK223; clear BK254; clear HB; have HO_6 := n0_; have HO_7 := n1_; have HO_11 := n2_; have HO_224001 := n3_; have HO_224002 := n4_; have HO_255001 := n5_; have HO_255002 := n6_; have BK223 := n7_; have BK254 := n8_; have HB := n9_; clear n0_ n1_ n2_ n3_ n4_ n5_ n6_ n7_ n8_ n9_; clear hg hw hp_) | ((with_reducible refine gate_builtin (b := .append) (xs := #[.tmp 112, .tmp 116]) rfl ?_); at_builtin; refine Kd.R_append k35 (w0 := w) w.heap.size rfl (.tmp 112) (.tmp 116) 26 35 (.agg #[(.int .i64 0), (.int .i64 0), (.int .i64 0)]) 24 rfl Tryd.underlying26 info35 rfl (by decide) (by omega) u7 x7_2 (⟨2, t234, (ji20)⟩ : S35) [.int .i64 2, .int .i64 t234, .int .i64 (ji20)] (fun k_ => some k_ ≠ (.slice Ao48 x224002_2.length co48 : Value).ownBlock ∧ some k_ ≠ (.slice Ao58 t250.length co58 : Value).ownBlock) (fun _ => False) rfl rfl ?aP (fun _ hk => hk.elim) ?aF ?aO ?aB ?aS ?aL ?_; (case aP => exact k35_mkM _ _ _ (⟨2, t234, (ji20)⟩ : S35)); (case aB => exact (by exact HB.out)); (case aF => exact (fun k_ hk => ⟨Kd.fresh' (Kd.R_lt (by exact HO_224002.out)) k_ hk, Kd.fresh' (Kd.R_lt (by exact HO_255002.out)) k_ hk⟩)); (case aO => exact (by exact HO_7.out)); (case aS => exact (below_size (by exact HB.out))); (case aL => have := LMc67.out; omega); intro v257 w75 ho hb hg hat; rw [← Ny256.out] at ho; have n0_ := Aside0.mk (Kd.R_over' (by exact HO_6.out) (Kd.R_typed (by exact HO_7.out)) (by decide) hg); have n1_ := Aside0.mk (Kd.R_over' (by exact HO_11.out) (Kd.R_typed (by exact HO_7.out)) (by decide) hg); have n2_ := Aside0.mk (Kd.S_over' (by exact HO_224001.out) (Kd.R_typed (by exact HO_7.out)) (by decide) hg); have n3_ := Aside0.mk (Kd.R_after (ok := (fun k_ => some k_ ≠ (.slice Ao58 t250.length co58 : Value).ownBlock)) (by (with_reducible repeat (first | apply Kd.R_alloc | apply Kd.R_drewN | apply Kd.R_drew)); exact Kd.R_mono HO_224002.out (fun _ hk => ⟨hk.2, hk.1⟩)) hg hat); have n4_ := Aside0.mk (Kd.S_over' (by exact HO_255001.out) (Kd.R_typed (by exact HO_7.out)) (by decide) hg); have n5_ := Aside0.mk (Kd.R_after (ok := (fun k_ => some k_ ≠ (.slice Ao48 x224002_2.length co48 : Value).ownBlock)) (by (with_reducible repeat (first | apply Kd.R_alloc | apply Kd.R_drewN | apply Kd.R_drew)); exact Kd.R_mono HO_255002.out (fun _ hk => ⟨hk.2, hk.1⟩)) hg hat); have n6_ := Aside0.mk (blk_grown (g := gb223) (o := .cells #[.int .i64 t246, .slice Ao56 t247.length co56, .slice Ao58 t250.length co58] 28 (0, 0)) (by exact BK223.out) hg (Kd.R_ne HO_7.out BK223.out (by decide))); have n7_ := Aside0.mk (blk_grown (g := gb254) (o := .cells #[.int .i64 t246, .slice Ao56 t247.length co56, .slice Ao58 t250.length co58] 28 (0, 0)) (by exact BK254.out) hg (Kd.R_ne HO_7.out BK254.out (by decide))); have n8_ := Aside0.mk (hb); have n9_ := Aside0.mk (ho); clear HO_6; clear HO_11; clear HO_224001; clear HO_224002; clear HO_255001; clear HO_255002; clear BK223; clear BK254; clear HB; clear HO_7; have HO_6 := n0_; have HO_11 := n1_; have HO_224001 := n2_; have HO_224002 := n3_; have HO_255001 := n4_; have HO_255002 := n5_; have BK223 := n6_; have BK254 := n7_; have HB := n8_; have HO258 := n9_; clear n0_ n1_ n2_ n3_ n4_ n5_ n6_ n7_ n8_ n9_; clear ho hb hg hat))
                     go_roundg kj44
                     case measure => have := HK1.out; have := HK2.out; have := HK3.out; have := HJ44.out; omega
                     case rel => exact ⟨(y255), (y256), (wrap64 (x9_2 + 1)), (t246), (t247), (t250), (.slice Ao56 t247.length co56), (.slice Ao58 t250.length co58), (by first | rfl | (simp; done) | (simp [*]; done)), H', ⟨by have := HK1.out; have := HK2.out; have := HK3.out; have := HJ44.out; omega⟩, ⟨by exact HO_6.out⟩, ⟨by (with_reducible repeat (first | apply Kd.R_alloc | apply Kd.R_drewN | apply Kd.R_drew)); exact Kd.R_mono HO258.out (fun _ hk => hk.2)⟩, ⟨by (with_reducible repeat (first | apply Kd.S_alloc | apply Kd.S_drewN | apply Kd.S_drew)); exact Kd.S_mono HO_255001.out (fun _ hk => trivial)⟩, ⟨by (with_reducible repeat (first | apply Kd.R_alloc | apply Kd.R_drewN | apply Kd.R_drew)); exact Kd.R_mono HO_255002.out (fun _ hk => hk.2)⟩, ⟨by exact BK223.out⟩, ⟨by exact HB.out⟩⟩
                    ·rw [if_neg c67] at H
                     exact absurd H (by simp)
                   ·rw [if_neg c65] at H
                    exact absurd H (by simp)
                  ·rw [if_neg c64] at H
                   exact absurd H (by simp)
                 ·rw [if_neg c63] at H
                  have c63b0 : decide (t234 < ji7) = false := decide_eq_false c63
                  (try (have c60b5 : (t253 == 0) = false := by simpa [c63b0] using c60b0))
                  (try (have c60b6 : (t253 != 0) = true := by simpa [c63b0] using c60b0))
                  clear c63
                  have H' := Aside0.mk H
                  clear H
                  go_wp2
                  go_roundg kj44
                  case measure => have := HK1.out; have := HK2.out; have := HK3.out; have := HJ44.out; omega
                  case rel => exact ⟨(x6_2), (x7_2), (wrap64 (x9_2 + 1)), (x224000_2), (x224001_2), (x224002_2), (.slice Ao47 x224001_2.length co47), (.slice Ao48 x224002_2.length co48), (by first | rfl | (simp; done) | (simp [*]; done)), H', ⟨by have := HK1.out; have := HK2.out; have := HK3.out; have := HJ44.out; omega⟩, ⟨by exact HO_6.out⟩, ⟨by (with_reducible repeat (first | apply Kd.R_alloc | apply Kd.R_drewN | apply Kd.R_drew)); exact Kd.R_mono HO_7.out (fun _ hk => hk.1)⟩, ⟨by (with_reducible repeat (first | apply Kd.S_alloc | apply Kd.S_drewN | apply Kd.S_drew)); exact Kd.S_mono HO_224001.out (fun _ hk => trivial)⟩, ⟨by (with_reducible repeat (first | apply Kd.R_alloc | apply Kd.R_drewN | apply Kd.R_drew)); exact Kd.R_mono HO_224002.out (fun _ hk => hk.1)⟩, ⟨by exact BK223.out⟩, ⟨by exact HB.out⟩⟩
          ·rw [if_neg c35] at H
           have c35b0 : (t235 == 0) = false := beq_eq_false_iff_ne.mpr c35
           have c35b1 : (t235 != 0) = true := bne_iff_ne.mpr c35
           replace H := Option.bind_eq_some_iff.mp H
           obtain ⟨⟨t259, t260, t263, t266, t269⟩, A760, H⟩ := H
           replace H : (if ((t269 == 0) != (decide (t234 < ji7))) = true then (laws_FnMemBook.j4 k2 l0 ji7 (ji20) x6_2 x7_2 x9_2 t234 true x224000_2 x224001_2 x224002_2 t259 t260 t263) else (if t234 < ji7 then (if 0 ≤ t234 then (if t234 < (x6_2.length : Int) then (laws_FnMemBook.j4 k2 l0 ji7 (ji20) x6_2 x7_2 x9_2 t234 ((strOfNums t266).toList != (rdOf ByteArray.empty x6_2 t234).toList) x224000_2 x224001_2 x224002_2 t259 t260 t263) else (none)) else (none)) else (laws_FnMemBook.j4 k2 l0 ji7 (ji20) x6_2 x7_2 x9_2 t234 false x224000_2 x224001_2 x224002_2 t259 t260 t263))) = some r := H
           have A76 := Aside0.mk A760
           clear A760
           have HC77 := Aside0.mk H
           clear H
           go_upto_region 28 with (first | ((with_reducible refine gate_callee (f := 6) rfl ?_); refine goesL_ (some 58) rfl rfl Tryd.func6 (by kernel_rfl) rfl #[.slice A0 l0.length c0, .int .i64 x9_2, .int .i64 (wrap64 (ji7 + 1))] rfl (by (try simp only [List.map_toArray, List.map_cons, List.map_nil]); first | done | (simp only [hji7]; rfl) | rfl | (simp only [List.length_drop, List.length_take]; rfl)) ?_; (with_reducible refine (laws_pick.calls k2 _ _ l0 x9_2 (wrap64 (ji7 + 1)) t234 _ ?side1 ?side2 A33.out).mono ?_); (case side1 => repeat (first | exact (Kd.C_below HR0.out HB.out) | (with_reducible refine Kd.C_alloc ?_ _) | (with_reducible refine Kd.C_drewN ?_ _) | (with_reducible refine Kd.C_drew ?_))); (case side2 => exact HC0.out); rintro e w' ⟨rfl, ⟨nd, rfl⟩⟩; refine ⟨_, rfl, ?_⟩; (try (rw [drewN_self wr]; generalize hq_ : World.drewN wr _ = wr; have n0_ : Aside0 (Kd.S k56 56 wr w.heap.size (fun _ => True) u224001 x224001_2) := ⟨by rw [← hq_]; exact (by (with_reducible repeat (first | apply Kd.S_alloc | apply Kd.S_drewN | apply Kd.S_drew)); exact HO_224001.out)⟩; have n1_ : Aside0 (Kd.R k35 35 wr w.heap.size (fun k_ => some k_ ≠ (u7 : Value).ownBlock) u224002 x224002_2) := ⟨by rw [← hq_]; exact (by (with_reducible repeat (first | apply Kd.R_alloc | apply Kd.R_drewN | apply Kd.R_drew)); exact HO_224002.out)⟩; have n2_ : Aside0 (Kd.R Kd.string 9 wr w.heap.size (fun _ => True) v225 x6_2) := ⟨by rw [← hq_]; exact (by (with_reducible repeat (first | apply Kd.R_alloc | apply Kd.R_drewN | apply Kd.R_drew)); exact HO_6.out)⟩; have n3_ : Aside0 (Kd.R k35 35 wr w.heap.size (fun k_ => some k_ ≠ (u224002 : Value).ownBlock) u7 x7_2) := ⟨by rw [← hq_]; exact (by (with_reducible repeat (first | apply Kd.R_alloc | apply Kd.R_drewN | apply Kd.R_drew)); exact HO_7.out)⟩; have n4_ : Aside0 (wr.heap[gb223]? = some (.cells #[.int .i64 x224000_2, u224001, u224002] 28 (0, 0))) := ⟨by rw [← hq_]; exact (by (with_reducible repeat (first | refine blk_drewN ?_ _ | refine blk_drew ?_ | refine blk_alloc ?_ _)); exact BK223.out)⟩; have n5_ : Aside0 (Below w.heap.size w wr) := ⟨by rw [← hq_]; exact (by repeat (first | (with_reducible first | exact HB.out | apply below_alloc | apply pw_below_drewN | apply below_drew1 | refine below_set ?_ GE223.out) | exact HB.out))⟩; clear HO_224001 HO_224002 HO_6 HO_7 BK223 HB hq_; have HO_224001 := n0_; have HO_224002 := n1_; have HO_6 := n2_; have HO_7 := n3_; have BK223 := n4_; have HB := n5_; clear n0_ n1_ n2_ n3_ n4_ n5_))) | ((with_reducible refine gate_callee (f := 6) rfl ?_); refine goesL_ (some 62) rfl rfl Tryd.func6 (by kernel_rfl) rfl #[.slice A0 l0.length c0, .int .i64 (wrap64 (x9_2 + 3)), .int .i64 2] rfl (by (try simp only [List.map_toArray, List.map_cons, List.map_nil]); first | done | rfl | (simp only [List.length_drop, List.length_take]; rfl)) ?_; (with_reducible refine (laws_pick.calls k2 _ _ l0 (wrap64 (x9_2 + 3)) 2 t235 _ ?side1 ?side2 A34.out).mono ?_); (case side1 => repeat (first | exact (Kd.C_below HR0.out HB.out) | (with_reducible refine Kd.C_alloc ?_ _) | (with_reducible refine Kd.C_drewN ?_ _) | (with_reducible refine Kd.C_drew ?_))); (case side2 => exact HC0.out); rintro e w' ⟨rfl, ⟨nd, rfl⟩⟩; refine ⟨_, rfl, ?_⟩; (try (rw [drewN_self wr]; generalize hq_ : World.drewN wr _ = wr; have n0_ : Aside0 (Kd.S k56 56 wr w.heap.size (fun _ => True) u224001 x224001_2) := ⟨by rw [← hq_]; exact (by (with_reducible repeat (first | apply Kd.S_alloc | apply Kd.S_drewN | apply Kd.S_drew)); exact HO_224001.out)⟩; have n1_ : Aside0 (Kd.R k35 35 wr w.heap.size (fun k_ => some k_ ≠ (u7 : Value).ownBlock) u224002 x224002_2) := ⟨by rw [← hq_]; exact (by (with_reducible repeat (first | apply Kd.R_alloc | apply Kd.R_drewN | apply Kd.R_drew)); exact HO_224002.out)⟩; have n2_ : Aside0 (Kd.R Kd.string 9 wr w.heap.size (fun _ => True) v225 x6_2) := ⟨by rw [← hq_]; exact (by (with_reducible repeat (first | apply Kd.R_alloc | apply Kd.R_drewN | apply Kd.R_drew)); exact HO_6.out)⟩; have n3_ : Aside0 (Kd.R k35 35 wr w.heap.size (fun k_ => some k_ ≠ (u224002 : Value).ownBlock) u7 x7_2) := ⟨by rw [← hq_]; exact (by (with_reducible repeat (first | apply Kd.R_alloc | apply Kd.R_drewN | apply Kd.R_drew)); exact HO_7.out)⟩; have n4_ : Aside0 (wr.heap[gb223]? = some (.cells #[.int .i64 x224000_2, u224001, u224002] 28 (0, 0))) := ⟨by rw [← hq_]; exact (by (with_reducible repeat (first | refine blk_drewN ?_ _ | refine blk_drew ?_ | refine blk_alloc ?_ _)); exact BK223.out)⟩; have n5_ : Aside0 (Below w.heap.size w wr) := ⟨by rw [← hq_]; exact (by repeat (first | (with_reducible first | exact HB.out | apply below_alloc | apply pw_below_drewN | apply below_drew1 | refine below_set ?_ GE223.out) | exact HB.out))⟩; clear HO_224001 HO_224002 HO_6 HO_7 BK223 HB hq_; have HO_224001 := n0_; have HO_224002 := n1_; have HO_6 := n2_; have HO_7 := n3_; have BK223 := n4_; have HB := n5_; clear n0_ n1_ n2_ n3_ n4_ n5_)); have hcz78_0 : wr.cell? ⟨gb223, 0, none⟩ = some (.int .i64 x224000_2) := (blk_cell BK223.out 0).trans rfl; have hcz78_1 : wr.cell? ⟨gb223, 1, none⟩ = some (u224001) := (blk_cell BK223.out 1).trans rfl; have hcz78_2 : wr.cell? ⟨gb223, 2, none⟩ = some (u224002) := (blk_cell BK223.out 2).trans rfl; have hfz78_0 := blk_frozen BK223.out 0; have hfz78_1 := blk_frozen BK223.out 1; have hfz78_2 := blk_frozen BK223.out 2; obtain ⟨Ao79, co79, eo79⟩ := Kd.S_slice HO_224001.out; subst eo79; obtain ⟨Ao80, co80, eo80⟩ := Kd.R_slice HO_224002.out; subst eo80) | ((with_reducible refine gate_callee (f := 10) rfl ?_); refine goesL_ (some 121) rfl rfl Tryd.func10 (by kernel_rfl) rfl #[.agg #[.int .i64 x224000_2, .slice Ao79 x224001_2.length co79, .slice Ao80 x224002_2.length co80], .int .i64 t234] rfl (by (try simp only [List.map_toArray, List.map_cons, List.map_nil]); first | done | rfl | (simp only [List.length_drop, List.length_take]; rfl)) ?_; (with_reducible refine (impl_MemRead.calls x224000_2 _ _ x224001_2 _ _ x224002_2 t234 t259 t260 t263 t266 t269 _ ?side1 ?side2 ?side3 ?side4 A76.out).mono ?_); (case side1 => repeat (first | exact (Kd.S_reads' HO_224001.out).2.2 | (with_reducible refine Kd.C_alloc ?_ _) | (with_reducible refine Kd.C_drewN ?_ _) | (with_reducible refine Kd.C_drew ?_))); (case side2 => exact (Kd.S_reads' HO_224001.out).2.1); (case side3 => repeat (first | exact (Kd.R_reads' HO_224002.out).2.2 | (with_reducible refine Kd.C_alloc ?_ _) | (with_reducible refine Kd.C_drewN ?_ _) | (with_reducible refine Kd.C_drew ?_))); (case side4 => exact (Kd.R_reads' HO_224002.out).2.1); rintro e w81 ⟨v261, v264, v267, rfl, ho0, ho1, ho2, hb⟩; refine ⟨_, rfl, ?_⟩; have n0_ := Aside0.mk (Kd.R_below (by exact HO_6.out) hb); have n1_ := Aside0.mk (Kd.R_elder' (by exact HO_7.out) (Kd.R_base ho1) hb); have n2_ := Aside0.mk (Kd.S_mono (Kd.S_told (Kd.S_told (Kd.S_old (by exact HO_224001.out) hb) (Kd.S_base ho0)) (Kd.R_base ho2)) (fun _ h_ => h_.1)); have n3_ := Aside0.mk (Kd.R_elder' (by exact HO_224002.out) (Kd.R_base ho1) hb); have n4_ := Aside0.mk (Kd.S_lower (Kd.S_new' ho0 (Kd.S_lt (by exact HO_224001.out))) (below_size (by exact HB.out))); have n5_ := Aside0.mk (Kd.R_lower (Kd.R_new' (Kd.R_new' ho1 (Kd.R_lt (by exact HO_7.out))) (Kd.R_lt (by exact HO_224002.out))) (below_size (by exact HB.out))); have n6_ := Aside0.mk (Kd.R_lower ho2 (below_size (by exact HB.out))); have n7_ := Aside0.mk (blk_below (g := gb223) (o := .cells #[.int .i64 x224000_2, .slice Ao79 x224001_2.length co79, .slice Ao80 x224002_2.length co80] 28 (0, 0)) (by exact BK223.out) hb); have n8_ := Aside0.mk (below_step (by exact HB.out) hb); clear HO_6; clear HO_7; clear HO_224001; clear HO_224002; clear BK223; clear HB; have HO_6 := n0_; have HO_7 := n1_; have HO_224001 := n2_; have HO_224002 := n3_; have HO262 := n4_; have HO265 := n5_; have HO268 := n6_; have BK223 := n7_; have HB := n8_; clear n0_ n1_ n2_ n3_ n4_ n5_ n6_ n7_ n8_; (try clear hb); (try clear hb2); (try clear hk); (try clear hi); (try clear ho0); (try clear ho1); (try clear ho2)) | ((with_reducible refine gate_dst (N := 14) rfl ?_); refine box_event ?hg (N := 14) ?hd (cs := #[.int .i64 0, .slice none 0 0, .slice none 0 0]) (t := 28) ?hr ?_; (case hd => rfl); (case hg => rfl); (case hr => first | (go_simp; done) | (go_simp; rfl)); intro gb270 hg w82 hbox hb; have n0_ := Aside0.mk (Kd.R_below (by exact HO_6.out) hb); have n1_ := Aside0.mk (Kd.R_below (by exact HO_7.out) hb); have n2_ := Aside0.mk (Kd.S_below (by exact HO_224001.out) hb); have n3_ := Aside0.mk (Kd.R_below (by exact HO_224002.out) hb); have n4_ := Aside0.mk (Kd.S_below (by exact HO262.out) hb); have n5_ := Aside0.mk (Kd.R_below (by exact HO265.out) hb); have n6_ := Aside0.mk (Kd.R_below (by exact HO268.out) hb); have n7_ := Aside0.mk (blk_below (g := gb223) (o := .cells #[.int .i64 x224000_2, .slice Ao79 x224001_2.length co79, .slice Ao80 x224002_2.length co80] 28 (0, 0)) (by exact BK223.out) hb); have n8_ := Aside0.mk (below_step (by exact HB.out) hb); have n9_ := Aside0.mk (hbox); have n10_ := Aside0.mk ((by rw [hg]; exact (below_size (by exact HB.out)) : w.heap.size ≤ gb270)); have n11_ := Aside0.mk ((by rw [hg]; exact (below_size (by exact HB.out)) : w.heap.size ≤ gb270)); have n12_ := Aside0.mk ((by rw [hg]; exact Nat.ne_of_lt (blk_lt (g := gb223) (o := .cells #[.int .i64 x224000_2, .slice Ao79 x224001_2.length co79, .slice Ao80 x224002_2.length co80] 28 (0, 0)) (by exact BK223.out)) : gb223 ≠ gb270)); have n13_ := Aside0.mk ((by rw [hg]; exact Nat.ne_of_gt (blk_lt (g := gb223) (o := .cells #[.int .i64 x224000_2, .slice Ao79 x224001_2.length co79, .slice Ao80 x224002_2.length co80] 28 (0, 0)) (by exact BK223.out)) : gb270 ≠ gb223)); clear HO_6; clear HO_7; clear HO_224001; clear HO_224002; clear HO262; clear HO265; clear HO268; clear BK223; clear HB; have HO_6 := n0_; have HO_7 := n1_; have HO_224001 := n2_; have HO_224002 := n3_; have HO262 := n4_; have HO265 := n5_; have HO268 := n6_; have BK223 := n7_; have HB := n8_; have BK270 := n9_; have GW270 := n10_; have GE270 := n11_; have NB223_270 := n12_; have NB270_223 := n13_; clear n0_ n1_ n2_ n3_ n4_ n5_ n6_ n7_ n8_ n9_ n10_ n11_ n12_ n13_; clear hb hbox hg; have hnb83 := NB270_223.out; have hnc83 := NB223_270.out; have hcz84_0 : w82.cell? ⟨gb270, 0, none⟩ = some (.int .i64 0) := (blk_cell BK270.out 0).trans rfl; have hcz84_1 : w82.cell? ⟨gb270, 1, none⟩ = some (.slice none 0 0) := (blk_cell BK270.out 1).trans rfl; have hcz84_2 : w82.cell? ⟨gb270, 2, none⟩ = some (.slice none 0 0) := (blk_cell BK270.out 2).trans rfl; have hfz84_0 := blk_frozen BK270.out 0; have hfz84_1 := blk_frozen BK270.out 1; have hfz84_2 := blk_frozen BK270.out 2; obtain ⟨Ao85, co85, eo85⟩ := Kd.S_slice HO262.out; subst eo85; obtain ⟨Ao86, co86, eo86⟩ := Kd.R_slice HO265.out; subst eo86))
           (try simp only [Act.put, List.setIfInBounds_toArray, List.set_cons_zero, List.set_cons_succ])
           go_cut [144] (fun v144 wc => ∃ (kq : Nat) (x144_76 : Bool), v144 = .bool x144_76 ∧ Aside0 (laws_FnMemBook.j4 kq l0 ji7 (ji20) x6_2 x7_2 x9_2 t234 x144_76 x224000_2 x224001_2 x224002_2 t259 t260 t263 = some r) ∧ Aside0 (kq ≤ k2) ∧ Aside0 (Kd.R Kd.string 9 wc w.heap.size (fun _ => True) v225 x6_2) ∧ Aside0 (Kd.R k35 35 wc w.heap.size (fun k_ => some k_ ≠ ((.slice Ao80 x224002_2.length co80) : Value).ownBlock ∧ some k_ ≠ ((.slice Ao86 t263.length co86) : Value).ownBlock) u7 x7_2) ∧ Aside0 (Kd.S k56 56 wc w.heap.size (fun k_ => some k_ ≠ ((.slice Ao85 t260.length co85) : Value).ownBlock) (.slice Ao79 x224001_2.length co79) x224001_2) ∧ Aside0 (Kd.R k35 35 wc w.heap.size (fun k_ => some k_ ≠ (u7 : Value).ownBlock ∧ some k_ ≠ ((.slice Ao86 t263.length co86) : Value).ownBlock) (.slice Ao80 x224002_2.length co80) x224002_2) ∧ Aside0 (Kd.S k56 56 wc w.heap.size (fun k_ => some k_ ≠ ((.slice Ao79 x224001_2.length co79) : Value).ownBlock) (.slice Ao85 t260.length co85) t260) ∧ Aside0 (Kd.R k35 35 wc w.heap.size (fun k_ => some k_ ≠ (u7 : Value).ownBlock ∧ some k_ ≠ ((.slice Ao80 x224002_2.length co80) : Value).ownBlock) (.slice Ao86 t263.length co86) t263) ∧ Aside0 (wc.heap[gb223]? = some (.cells #[.int .i64 x224000_2, (.slice Ao79 x224001_2.length co79), (.slice Ao80 x224002_2.length co80)] 28 (0, 0))) ∧ Aside0 (wc.heap[gb270]? = some (.cells #[.int .i64 t259, (.slice Ao85 t260.length co85), (.slice Ao86 t263.length co86)] 28 (0, 0))) ∧ Aside0 (Below w.heap.size w wc))
           case first =>
            have H := HC77.out
            clear HC77
            by_cases c87 : ((t269 == 0) != (decide (t234 < ji7))) = true
            ·rw [if_pos c87] at H
             have c87b0 : ((t269 == 0) != (decide (t234 < ji7))) = true := c87
             (try (have c87b1 : decide ((t269 == 0) = (decide (t234 < ji7))) = false := by simpa using c87))
             (try (have c87b2 : ((t269 == 0) == (decide (t234 < ji7))) = false := by simpa using c87))
             (try (have c87b3 : ¬ ((t269 == 0) = (decide (t234 < ji7))) := by simpa using c87))
             clear c87
             (first | rw [c87b0] | (simp only [i64_w, i32_w]; rw [c87b0]) | skip)
             have H' := Aside0.mk H
             clear H
             try go_wp2
             have n0_ : Aside0 (Kd.R Kd.string 9 (((w82.setCell ⟨gb270, 0, none⟩ (.int .i64 t259)).setCell ⟨gb270, 1, none⟩ (.slice Ao85 t260.length co85)).setCell ⟨gb270, 2, none⟩ (.slice Ao86 t263.length co86)) w.heap.size (fun _ => True) v225 x6_2) := ⟨by (with_reducible repeat (first | apply Kd.R_alloc | apply Kd.R_drewN | apply Kd.R_drew)); exact Kd.R_mono (Kd.R_far (p := ⟨gb270, 2, none⟩) (Kd.R_far (p := ⟨gb270, 1, none⟩) (Kd.R_far (p := ⟨gb270, 0, none⟩) (Kd.R_types HO_6.out BK270.out (by decide)) (fun _ hk => hk.2) (.int .i64 t259)) (fun _ hk => hk.2) (.slice Ao85 t260.length co85)) (fun _ hk => hk.2) (.slice Ao86 t263.length co86)) (fun _ hk => trivial)⟩
             have n1_ : Aside0 (Kd.R k35 35 (((w82.setCell ⟨gb270, 0, none⟩ (.int .i64 t259)).setCell ⟨gb270, 1, none⟩ (.slice Ao85 t260.length co85)).setCell ⟨gb270, 2, none⟩ (.slice Ao86 t263.length co86)) w.heap.size (fun k_ => some k_ ≠ (.slice Ao80 x224002_2.length co80 : Value).ownBlock ∧ some k_ ≠ (.slice Ao86 t263.length co86 : Value).ownBlock) u7 x7_2) := ⟨by (with_reducible repeat (first | apply Kd.R_alloc | apply Kd.R_drewN | apply Kd.R_drew)); exact Kd.R_mono (Kd.R_far (p := ⟨gb270, 2, none⟩) (Kd.R_far (p := ⟨gb270, 1, none⟩) (Kd.R_far (p := ⟨gb270, 0, none⟩) (Kd.R_types HO_7.out BK270.out (by decide)) (fun _ hk => hk.2) (.int .i64 t259)) (fun _ hk => hk.2) (.slice Ao85 t260.length co85)) (fun _ hk => hk.2) (.slice Ao86 t263.length co86)) (fun _ hk => ⟨hk.1.1, hk.1.2⟩)⟩
             have n2_ : Aside0 (Kd.S k56 56 (((w82.setCell ⟨gb270, 0, none⟩ (.int .i64 t259)).setCell ⟨gb270, 1, none⟩ (.slice Ao85 t260.length co85)).setCell ⟨gb270, 2, none⟩ (.slice Ao86 t263.length co86)) w.heap.size (fun k_ => some k_ ≠ (.slice Ao85 t260.length co85 : Value).ownBlock ∧ some k_ ≠ (v267 : Value).ownBlock) (.slice Ao79 x224001_2.length co79) x224001_2) := ⟨by (with_reducible repeat (first | apply Kd.S_alloc | apply Kd.S_drewN | apply Kd.S_drew)); exact Kd.S_mono (Kd.S_far (p := ⟨gb270, 2, none⟩) (Kd.S_far (p := ⟨gb270, 1, none⟩) (Kd.S_far (p := ⟨gb270, 0, none⟩) (Kd.S_types HO_224001.out BK270.out (by decide)) (fun _ hk => hk.2) (.int .i64 t259)) (fun _ hk => hk.2) (.slice Ao85 t260.length co85)) (fun _ hk => hk.2) (.slice Ao86 t263.length co86)) (fun _ hk => ⟨hk.1.1.2, hk.1.2⟩)⟩
             have n3_ : Aside0 (Kd.R k35 35 (((w82.setCell ⟨gb270, 0, none⟩ (.int .i64 t259)).setCell ⟨gb270, 1, none⟩ (.slice Ao85 t260.length co85)).setCell ⟨gb270, 2, none⟩ (.slice Ao86 t263.length co86)) w.heap.size (fun k_ => some k_ ≠ (u7 : Value).ownBlock ∧ some k_ ≠ (.slice Ao86 t263.length co86 : Value).ownBlock) (.slice Ao80 x224002_2.length co80) x224002_2) := ⟨by (with_reducible repeat (first | apply Kd.R_alloc | apply Kd.R_drewN | apply Kd.R_drew)); exact Kd.R_mono (Kd.R_far (p := ⟨gb270, 2, none⟩) (Kd.R_far (p := ⟨gb270, 1, none⟩) (Kd.R_far (p := ⟨gb270, 0, none⟩) (Kd.R_types HO_224002.out BK270.out (by decide)) (fun _ hk => hk.2) (.int .i64 t259)) (fun _ hk => hk.2) (.slice Ao85 t260.length co85)) (fun _ hk => hk.2) (.slice Ao86 t263.length co86)) (fun _ hk => ⟨hk.1.1, hk.1.2⟩)⟩
             have n4_ : Aside0 (Kd.S k56 56 (((w82.setCell ⟨gb270, 0, none⟩ (.int .i64 t259)).setCell ⟨gb270, 1, none⟩ (.slice Ao85 t260.length co85)).setCell ⟨gb270, 2, none⟩ (.slice Ao86 t263.length co86)) w.heap.size (fun k_ => some k_ ≠ (.slice Ao79 x224001_2.length co79 : Value).ownBlock ∧ some k_ ≠ (v267 : Value).ownBlock) (.slice Ao85 t260.length co85) t260) := ⟨by (with_reducible repeat (first | apply Kd.S_alloc | apply Kd.S_drewN | apply Kd.S_drew)); exact Kd.S_mono (Kd.S_far (p := ⟨gb270, 2, none⟩) (Kd.S_far (p := ⟨gb270, 1, none⟩) (Kd.S_far (p := ⟨gb270, 0, none⟩) (Kd.S_types HO262.out BK270.out (by decide)) (fun _ hk => hk.2) (.int .i64 t259)) (fun _ hk => hk.2) (.slice Ao85 t260.length co85)) (fun _ hk => hk.2) (.slice Ao86 t263.length co86)) (fun _ hk => ⟨hk.1.2, hk.1.1⟩)⟩
             have n5_ : Aside0 (Kd.R k35 35 (((w82.setCell ⟨gb270, 0, none⟩ (.int .i64 t259)).setCell ⟨gb270, 1, none⟩ (.slice Ao85 t260.length co85)).setCell ⟨gb270, 2, none⟩ (.slice Ao86 t263.length co86)) w.heap.size (fun k_ => some k_ ≠ (u7 : Value).ownBlock ∧ some k_ ≠ (.slice Ao80 x224002_2.length co80 : Value).ownBlock) (.slice Ao86 t263.length co86) t263) := ⟨by (with_reducible repeat (first | apply Kd.R_alloc | apply Kd.R_drewN | apply Kd.R_drew)); exact Kd.R_mono (Kd.R_far (p := ⟨gb270, 2, none⟩) (Kd.R_far (p := ⟨gb270, 1, none⟩) (Kd.R_far (p := ⟨gb270, 0, none⟩) (Kd.R_types HO265.out BK270.out (by decide)) (fun _ hk => hk.2) (.int .i64 t259)) (fun _ hk => hk.2) (.slice Ao85 t260.length co85)) (fun _ hk => hk.2) (.slice Ao86 t263.length co86)) (fun _ hk => ⟨hk.1.1.2, hk.1.2⟩)⟩
             have n6_ : Aside0 (Kd.R (Kd.int .u8) 5 (((w82.setCell ⟨gb270, 0, none⟩ (.int .i64 t259)).setCell ⟨gb270, 1, none⟩ (.slice Ao85 t260.length co85)).setCell ⟨gb270, 2, none⟩ (.slice Ao86 t263.length co86)) w.heap.size (fun _ => True) v267 t266) := ⟨by (with_reducible repeat (first | apply Kd.R_alloc | apply Kd.R_drewN | apply Kd.R_drew)); exact Kd.R_mono (Kd.R_far (p := ⟨gb270, 2, none⟩) (Kd.R_far (p := ⟨gb270, 1, none⟩) (Kd.R_far (p := ⟨gb270, 0, none⟩) (Kd.R_types HO268.out BK270.out (by decide)) (fun _ hk => hk.2) (.int .i64 t259)) (fun _ hk => hk.2) (.slice Ao85 t260.length co85)) (fun _ hk => hk.2) (.slice Ao86 t263.length co86)) (fun _ hk => trivial)⟩
             have n7_ : Aside0 ((((w82.setCell ⟨gb270, 0, none⟩ (.int .i64 t259)).setCell ⟨gb270, 1, none⟩ (.slice Ao85 t260.length co85)).setCell ⟨gb270, 2, none⟩ (.slice Ao86 t263.length co86)).heap[gb223]? = some (.cells #[.int .i64 x224000_2, .slice Ao79 x224001_2.length co79, .slice Ao80 x224002_2.length co80] 28 (0, 0))) := ⟨by (with_reducible repeat (first | refine blk_drewN ?_ _ | refine blk_drew ?_ | refine blk_alloc ?_ _)); refine blk_far ?_ NB223_270.out _; (with_reducible repeat (first | refine blk_drewN ?_ _ | refine blk_drew ?_ | refine blk_alloc ?_ _)); refine blk_far ?_ NB223_270.out _; (with_reducible repeat (first | refine blk_drewN ?_ _ | refine blk_drew ?_ | refine blk_alloc ?_ _)); refine blk_far ?_ NB223_270.out _; exact BK223.out⟩
             have n8_ : Aside0 ((((w82.setCell ⟨gb270, 0, none⟩ (.int .i64 t259)).setCell ⟨gb270, 1, none⟩ (.slice Ao85 t260.length co85)).setCell ⟨gb270, 2, none⟩ (.slice Ao86 t263.length co86)).heap[gb270]? = some (.cells #[.int .i64 t259, .slice Ao85 t260.length co85, .slice Ao86 t263.length co86] 28 (0, 0))) := ⟨by (with_reducible repeat (first | refine blk_drewN ?_ _ | refine blk_drew ?_ | refine blk_alloc ?_ _)); refine blk_put (cs := #[.int .i64 t259, .slice Ao85 t260.length co85, .slice none 0 0]) ?_ 2 _ rfl; (with_reducible repeat (first | refine blk_drewN ?_ _ | refine blk_drew ?_ | refine blk_alloc ?_ _)); refine blk_put (cs := #[.int .i64 t259, .slice none 0 0, .slice none 0 0]) ?_ 1 _ rfl; (with_reducible repeat (first | refine blk_drewN ?_ _ | refine blk_drew ?_ | refine blk_alloc ?_ _)); refine blk_put (cs := #[.int .i64 0, .slice none 0 0, .slice none 0 0]) ?_ 0 _ rfl; exact BK270.out⟩
             have n9_ : Aside0 (Below w.heap.size w (((w82.setCell ⟨gb270, 0, none⟩ (.int .i64 t259)).setCell ⟨gb270, 1, none⟩ (.slice Ao85 t260.length co85)).setCell ⟨gb270, 2, none⟩ (.slice Ao86 t263.length co86))) := ⟨by repeat (first | (with_reducible first | exact HB.out | apply below_alloc | apply pw_below_drewN | apply below_drew1 | refine below_set ?_ GE223.out | refine below_set ?_ GE270.out) | exact HB.out)⟩
             (try clear HO_6)
             (try clear HO_7)
             (try clear HO_224001)
             (try clear HO_224002)
             (try clear HO262)
             (try clear HO265)
             (try clear HO268)
             (try clear BK223)
             (try clear BK270)
             (try clear HB)
             generalize (((w82.setCell ⟨gb270, 0, none⟩ (.int .i64 t259)).setCell ⟨gb270, 1, none⟩ (.slice Ao85 t260.length co85)).setCell ⟨gb270, 2, none⟩ (.slice Ao86 t263.length co86)) = w88 at n0_ n1_ n2_ n3_ n4_ n5_ n6_ n7_ n8_ n9_ ⊢
             have HO_6 := n0_
             have HO_7 := n1_
             have HO_224001 := n2_
             have HO_224002 := n3_
             have HO262 := n4_
             have HO265 := n5_
             have HO268 := n6_
             have BK223 := n7_
             have BK270 := n8_
             have HB := n9_
             clear n0_ n1_ n2_ n3_ n4_ n5_ n6_ n7_ n8_ n9_
             have n0_ := Aside0.mk (Kd.R_drew HO_6.out)
             have n1_ := Aside0.mk (Kd.R_drew HO_7.out)
             have n2_ := Aside0.mk (Kd.S_drew HO_224001.out)
             have n3_ := Aside0.mk (Kd.R_drew HO_224002.out)
             have n4_ := Aside0.mk (Kd.S_drew HO262.out)
             have n5_ := Aside0.mk (Kd.R_drew HO265.out)
             have n6_ := Aside0.mk (Kd.R_drew HO268.out)
             have n7_ := Aside0.mk (blk_drew BK223.out)
             have n8_ := Aside0.mk (blk_drew BK270.out)
             have n9_ := Aside0.mk (below_drew1 HB.out)
             clear HO_6
             clear HO_7
             clear HO_224001
             clear HO_224002
             clear HO262
             clear HO265
             clear HO268
             clear BK223
             clear BK270
             clear HB
             have HO_6 := n0_
             have HO_7 := n1_
             have HO_224001 := n2_
             have HO_224002 := n3_
             have HO262 := n4_
             have HO265 := n5_
             have HO268 := n6_
             have BK223 := n7_
             have BK270 := n8_
             have HB := n9_
             clear n0_ n1_ n2_ n3_ n4_ n5_ n6_ n7_ n8_ n9_
             refine start_ (n := 20) (S := fun w' => True) (ds := []) #[false, false, false, false, false, false, false, false, false, false, false, false, false, false, false, false, false, false, false, false] (by kernel_rfl) rfl rfl trivial (fun hHeld => ?_); refine with_tabW laws_FnMemBook.tab28 laws_FnMemBook.bits28 (fun HT_ HW_ => ?_)
             generalize w88.drew = w89 at HO_6 HO_7 HO_224001 HO_224002 HO262 HO265 HO268 BK223 BK270 HB hHeld ⊢
             refine pure_ (i := 0) (N := some 125) (v := ?_) (a' := ?_) #[true, false, false, false, false, false, false, false, false, false, false, false, false, false, false, false, false, false, false, false] rfl rfl (any_of HT_.out (by kernel_rfl)) (fun _ _ _ h => h) (Or.inl ⟨by rfl, ?_⟩) ?_ ?_
             rotate_left
             ·intro w'
              go_simp
              with_reducible rfl
             rotate_left
             ·simp only [Act.put, List.setIfInBounds_toArray, List.set_cons_zero, List.set_cons_succ, i64_w, i32_w]
              rfl
             refine pure_ (i := 1) (N := some 126) (v := ?_) (a' := ?_) #[true, true, false, false, false, false, false, false, false, false, false, false, false, false, false, false, false, false, false, false] rfl rfl (any_of HT_.out (by kernel_rfl)) (fun _ _ _ h => h) (Or.inl ⟨by rfl, ?_⟩) ?_ ?_
             rotate_left
             ·intro w'
              go_simp
              with_reducible rfl
             rotate_left
             ·simp only [Act.put, List.setIfInBounds_toArray, List.set_cons_zero, List.set_cons_succ, i64_w, i32_w]
              rfl
             refine pure_ (i := 2) (N := some 127) (v := ?_) (a' := ?_) #[true, true, true, false, false, false, false, false, false, false, false, false, false, false, false, false, false, false, false, false] rfl rfl (any_of HT_.out (by kernel_rfl)) (fun _ _ _ h => h) (Or.inl ⟨by rfl, ?_⟩) ?_ ?_
             rotate_left
             ·intro w'
              go_simp
              with_reducible rfl
             rotate_left
             ·simp only [Act.put, List.setIfInBounds_toArray, List.set_cons_zero, List.set_cons_succ, i64_w, i32_w]
              rfl
             refine pure_ (i := 3) (N := some 128) (v := ?_) (a' := ?_) #[true, true, true, true, false, false, false, false, false, false, false, false, false, false, false, false, false, false, false, false] rfl rfl (any_of HT_.out (by kernel_rfl)) (fun _ _ _ h => h) (Or.inl ⟨by rfl, ?_⟩) ?_ ?_
             rotate_left
             ·intro w'
              go_simp
              with_reducible rfl
             rotate_left
             ·simp only [Act.put, List.setIfInBounds_toArray, List.set_cons_zero, List.set_cons_succ, i64_w, i32_w]
              rfl
             refine pure_ (i := 4) (N := some 129) (v := ?_) (a' := ?_) #[true, true, true, true, true, false, false, false, false, false, false, false, false, false, false, false, false, false, false, false] rfl rfl (any_of HT_.out (by kernel_rfl)) (fun _ _ _ h => h) (Or.inl ⟨by rfl, ?_⟩) ?_ ?_
             rotate_left
             ·intro w'
              go_simp
              with_reducible rfl
             rotate_left
             ·simp only [Act.put, List.setIfInBounds_toArray, List.set_cons_zero, List.set_cons_succ, i64_w, i32_w]
              rfl
             refine pure_ (i := 5) (N := some 130) (v := ?_) (a' := ?_) #[true, true, true, true, true, true, false, false, false, false, false, false, false, false, false, false, false, false, false, false] rfl rfl (any_of HT_.out (by kernel_rfl)) (fun _ _ _ h => h) (Or.inl ⟨by rfl, ?_⟩) ?_ ?_
             rotate_left
             ·intro w'
              go_simp
              with_reducible rfl
             rotate_left
             ·simp only [Act.put, List.setIfInBounds_toArray, List.set_cons_zero, List.set_cons_succ, i64_w, i32_w]
              rfl
             refine pure_ (i := 6) (N := some 131) (v := ?_) (a' := ?_) #[true, true, true, true, true, true, true, false, false, false, false, false, false, false, false, false, false, false, false, false] rfl rfl (any_of HT_.out (by kernel_rfl)) (fun _ _ _ h => h) (Or.inl ⟨by rfl, ?_⟩) ?_ ?_
             rotate_left
             ·intro w'
              go_simp
              with_reducible rfl
             rotate_left
             ·simp only [Act.put, List.setIfInBounds_toArray, List.set_cons_zero, List.set_cons_succ, i64_w, i32_w]
              rfl
             refine pure_ (i := 7) (N := some 132) (v := undef) (a' := ?_) #[true, true, true, true, true, true, true, true, false, false, false, false, false, false, false, false, false, false, false, false] rfl rfl (any_of HT_.out (by kernel_rfl)) (fun _ _ _ h => h) (Or.inr ⟨by rfl, rfl⟩) ?_ ?_
             rotate_left
             ·simp only [Act.put, List.setIfInBounds_toArray, List.set_cons_zero, List.set_cons_succ, i64_w, i32_w]
              rfl
             refine pure_ (i := 8) (N := some 133) (v := undef) (a' := ?_) #[true, true, true, true, true, true, true, true, true, false, false, false, false, false, false, false, false, false, false, false] rfl rfl (any_of HT_.out (by kernel_rfl)) (fun _ _ _ h => h) (Or.inr ⟨by rfl, rfl⟩) ?_ ?_
             rotate_left
             ·simp only [Act.put, List.setIfInBounds_toArray, List.set_cons_zero, List.set_cons_succ, i64_w, i32_w]
              rfl
             refine pure_ (i := 9) (N := some 134) (v := undef) (a' := ?_) #[true, true, true, true, true, true, true, true, true, true, false, false, false, false, false, false, false, false, false, false] rfl rfl (any_of HT_.out (by kernel_rfl)) (fun _ _ _ h => h) (Or.inr ⟨by rfl, rfl⟩) ?_ ?_
             rotate_left
             ·simp only [Act.put, List.setIfInBounds_toArray, List.set_cons_zero, List.set_cons_succ, i64_w, i32_w]
              rfl
             refine pure_ (i := 10) (N := some 135) (v := undef) (a' := ?_) #[true, true, true, true, true, true, true, true, true, true, true, false, false, false, false, false, false, false, false, false] rfl rfl (any_of HT_.out (by kernel_rfl)) (fun _ _ _ h => h) (Or.inr ⟨by rfl, rfl⟩) ?_ ?_
             rotate_left
             ·simp only [Act.put, List.setIfInBounds_toArray, List.set_cons_zero, List.set_cons_succ, i64_w, i32_w]
              rfl
             refine pure_ (i := 11) (N := some 136) (v := undef) (a' := ?_) #[true, true, true, true, true, true, true, true, true, true, true, true, false, false, false, false, false, false, false, false] rfl rfl (any_of HT_.out (by kernel_rfl)) (fun _ _ _ h => h) (Or.inr ⟨by rfl, rfl⟩) ?_ ?_
             rotate_left
             ·simp only [Act.put, List.setIfInBounds_toArray, List.set_cons_zero, List.set_cons_succ, i64_w, i32_w]
              rfl
             refine pure_ (i := 12) (N := some 137) (v := undef) (a' := ?_) #[true, true, true, true, true, true, true, true, true, true, true, true, true, false, false, false, false, false, false, false] rfl rfl (any_of HT_.out (by kernel_rfl)) (fun _ _ _ h => h) (Or.inr ⟨by rfl, rfl⟩) ?_ ?_
             rotate_left
             ·simp only [Act.put, List.setIfInBounds_toArray, List.set_cons_zero, List.set_cons_succ, i64_w, i32_w]
              rfl
             refine pure_ (i := 13) (N := some 138) (v := undef) (a' := ?_) #[true, true, true, true, true, true, true, true, true, true, true, true, true, true, false, false, false, false, false, false] rfl rfl (any_of HT_.out (by kernel_rfl)) (fun _ _ _ h => h) (Or.inr ⟨by rfl, rfl⟩) ?_ ?_
             rotate_left
             ·simp only [Act.put, List.setIfInBounds_toArray, List.set_cons_zero, List.set_cons_succ, i64_w, i32_w]
              rfl
             refine pure_ (i := 14) (N := some 139) (v := undef) (a' := ?_) #[true, true, true, true, true, true, true, true, true, true, true, true, true, true, true, false, false, false, false, false] rfl rfl (any_of HT_.out (by kernel_rfl)) (fun _ _ _ h => h) (Or.inr ⟨by rfl, rfl⟩) ?_ ?_
             rotate_left
             ·simp only [Act.put, List.setIfInBounds_toArray, List.set_cons_zero, List.set_cons_succ, i64_w, i32_w]
              rfl
             refine pure_ (i := 15) (N := some 140) (v := undef) (a' := ?_) #[true, true, true, true, true, true, true, true, true, true, true, true, true, true, true, true, false, false, false, false] rfl rfl (any_of HT_.out (by kernel_rfl)) (fun _ _ _ h => h) (Or.inr ⟨by rfl, rfl⟩) ?_ ?_
             rotate_left
             ·simp only [Act.put, List.setIfInBounds_toArray, List.set_cons_zero, List.set_cons_succ, i64_w, i32_w]
              rfl
             refine pure_ (i := 16) (N := some 141) (v := undef) (a' := ?_) #[true, true, true, true, true, true, true, true, true, true, true, true, true, true, true, true, true, false, false, false] rfl rfl (any_of HT_.out (by kernel_rfl)) (fun _ _ _ h => h) (Or.inr ⟨by rfl, rfl⟩) ?_ ?_
             rotate_left
             ·simp only [Act.put, List.setIfInBounds_toArray, List.set_cons_zero, List.set_cons_succ, i64_w, i32_w]
              rfl
             refine pure_ (i := 17) (N := some 142) (v := undef) (a' := ?_) #[true, true, true, true, true, true, true, true, true, true, true, true, true, true, true, true, true, true, false, false] rfl rfl (any_of HT_.out (by kernel_rfl)) (fun _ _ _ h => h) (Or.inr ⟨by rfl, rfl⟩) ?_ ?_
             rotate_left
             ·simp only [Act.put, List.setIfInBounds_toArray, List.set_cons_zero, List.set_cons_succ, i64_w, i32_w]
              rfl
             refine pure_ (i := 18) (N := some 143) (v := undef) (a' := ?_) #[true, true, true, true, true, true, true, true, true, true, true, true, true, true, true, true, true, true, true, false] rfl rfl (any_of HT_.out (by kernel_rfl)) (fun _ _ _ h => h) (Or.inr ⟨by rfl, rfl⟩) ?_ ?_
             rotate_left
             ·simp only [Act.put, List.setIfInBounds_toArray, List.set_cons_zero, List.set_cons_succ, i64_w, i32_w]
              rfl
             refine pure_ (i := 19) (N := some 144) (v := ?_) (a' := ?_) #[true, true, true, true, true, true, true, true, true, true, true, true, true, true, true, true, true, true, true, true] rfl rfl (any_of HT_.out (by kernel_rfl)) (fun _ _ _ h => h) (Or.inl ⟨by rfl, ?_⟩) ?_ ?_
             rotate_left
             ·intro w'
              go_simp
              with_reducible rfl
             rotate_left
             ·simp only [Act.put, List.setIfInBounds_toArray, List.set_cons_zero, List.set_cons_succ, i64_w, i32_w]
              rfl
             refine done_ (done_of HT_.out (by kernel_rfl)) ?_
             try go_wp2
             go_meet
             case rel => exact ⟨_, (true), (by first | rfl | (simp; done) | (simp [*]; done)), H', ⟨by have := HK1.out; have := HK2.out; first | omega | exact Nat.le_refl _⟩, ⟨by exact HO_6.out⟩, ⟨by exact HO_7.out⟩, ⟨by (with_reducible repeat (first | apply Kd.S_alloc | apply Kd.S_drewN | apply Kd.S_drew)); exact Kd.S_mono HO_224001.out (fun _ hk => hk.1)⟩, ⟨by exact HO_224002.out⟩, ⟨by (with_reducible repeat (first | apply Kd.S_alloc | apply Kd.S_drewN | apply Kd.S_drew)); exact Kd.S_mono HO262.out (fun _ hk => hk.1)⟩, ⟨by exact HO265.out⟩, ⟨by exact BK223.out⟩, ⟨by exact BK270.out⟩, ⟨by exact HB.out⟩⟩
            ·rw [if_neg c87] at H
             have c87b0 : ((t269 == 0) != (decide (t234 < ji7))) = false := by simpa using c87
             (try (have c87b1 : decide ((t269 == 0) = (decide (t234 < ji7))) = true := by simpa using c87))
             (try (have c87b2 : ((t269 == 0) == (decide (t234 < ji7))) = true := by simpa using c87))
             clear c87
             (first | rw [c87b0] | (simp only [i64_w, i32_w]; rw [c87b0]) | skip)
             by_cases c90 : t234 < ji7
             ·rw [if_pos c90] at H
              have c90b0 : decide (t234 < ji7) = true := decide_eq_true c90
              (try (have c87b5 : (t269 == 0) = true := by simpa [c90b0] using c87b0))
              (try (have c87b6 : (t269 != 0) = false := by simpa [c90b0] using c87b0))
              clear c90
              by_cases c91 : 0 ≤ t234
              ·rw [if_pos c91] at H
               have c91b0 : decide (0 ≤ t234) = true := decide_eq_true c91
               clear c91
               by_cases c92 : t234 < (x6_2.length : Int)
               ·rw [if_pos c92] at H
                have c92b0 : decide (t234 < (x6_2.length : Int)) = true := decide_eq_true c92
                clear c92
                have H' := Aside0.mk H
                clear H
                try go_wp2
                have n0_ : Aside0 (Kd.R Kd.string 9 (((w82.setCell ⟨gb270, 0, none⟩ (.int .i64 t259)).setCell ⟨gb270, 1, none⟩ (.slice Ao85 t260.length co85)).setCell ⟨gb270, 2, none⟩ (.slice Ao86 t263.length co86)) w.heap.size (fun _ => True) v225 x6_2) := ⟨by (with_reducible repeat (first | apply Kd.R_alloc | apply Kd.R_drewN | apply Kd.R_drew)); exact Kd.R_mono (Kd.R_far (p := ⟨gb270, 2, none⟩) (Kd.R_far (p := ⟨gb270, 1, none⟩) (Kd.R_far (p := ⟨gb270, 0, none⟩) (Kd.R_types HO_6.out BK270.out (by decide)) (fun _ hk => hk.2) (.int .i64 t259)) (fun _ hk => hk.2) (.slice Ao85 t260.length co85)) (fun _ hk => hk.2) (.slice Ao86 t263.length co86)) (fun _ hk => trivial)⟩
                have n1_ : Aside0 (Kd.R k35 35 (((w82.setCell ⟨gb270, 0, none⟩ (.int .i64 t259)).setCell ⟨gb270, 1, none⟩ (.slice Ao85 t260.length co85)).setCell ⟨gb270, 2, none⟩ (.slice Ao86 t263.length co86)) w.heap.size (fun k_ => some k_ ≠ (.slice Ao80 x224002_2.length co80 : Value).ownBlock ∧ some k_ ≠ (.slice Ao86 t263.length co86 : Value).ownBlock) u7 x7_2) := ⟨by (with_reducible repeat (first | apply Kd.R_alloc | apply Kd.R_drewN | apply Kd.R_drew)); exact Kd.R_mono (Kd.R_far (p := ⟨gb270, 2, none⟩) (Kd.R_far (p := ⟨gb270, 1, none⟩) (Kd.R_far (p := ⟨gb270, 0, none⟩) (Kd.R_types HO_7.out BK270.out (by decide)) (fun _ hk => hk.2) (.int .i64 t259)) (fun _ hk => hk.2) (.slice Ao85 t260.length co85)) (fun _ hk => hk.2) (.slice Ao86 t263.length co86)) (fun _ hk => ⟨hk.1.1, hk.1.2⟩)⟩
                have n2_ : Aside0 (Kd.S k56 56 (((w82.setCell ⟨gb270, 0, none⟩ (.int .i64 t259)).setCell ⟨gb270, 1, none⟩ (.slice Ao85 t260.length co85)).setCell ⟨gb270, 2, none⟩ (.slice Ao86 t263.length co86)) w.heap.size (fun k_ => some k_ ≠ (.slice Ao85 t260.length co85 : Value).ownBlock ∧ some k_ ≠ (v267 : Value).ownBlock) (.slice Ao79 x224001_2.length co79) x224001_2) := ⟨by (with_reducible repeat (first | apply Kd.S_alloc | apply Kd.S_drewN | apply Kd.S_drew)); exact Kd.S_mono (Kd.S_far (p := ⟨gb270, 2, none⟩) (Kd.S_far (p := ⟨gb270, 1, none⟩) (Kd.S_far (p := ⟨gb270, 0, none⟩) (Kd.S_types HO_224001.out BK270.out (by decide)) (fun _ hk => hk.2) (.int .i64 t259)) (fun _ hk => hk.2) (.slice Ao85 t260.length co85)) (fun _ hk => hk.2) (.slice Ao86 t263.length co86)) (fun _ hk => ⟨hk.1.1.2, hk.1.2⟩)⟩
                have n3_ : Aside0 (Kd.R k35 35 (((w82.setCell ⟨gb270, 0, none⟩ (.int .i64 t259)).setCell ⟨gb270, 1, none⟩ (.slice Ao85 t260.length co85)).setCell ⟨gb270, 2, none⟩ (.slice Ao86 t263.length co86)) w.heap.size (fun k_ => some k_ ≠ (u7 : Value).ownBlock ∧ some k_ ≠ (.slice Ao86 t263.length co86 : Value).ownBlock) (.slice Ao80 x224002_2.length co80) x224002_2) := ⟨by (with_reducible repeat (first | apply Kd.R_alloc | apply Kd.R_drewN | apply Kd.R_drew)); exact Kd.R_mono (Kd.R_far (p := ⟨gb270, 2, none⟩) (Kd.R_far (p := ⟨gb270, 1, none⟩) (Kd.R_far (p := ⟨gb270, 0, none⟩) (Kd.R_types HO_224002.out BK270.out (by decide)) (fun _ hk => hk.2) (.int .i64 t259)) (fun _ hk => hk.2) (.slice Ao85 t260.length co85)) (fun _ hk => hk.2) (.slice Ao86 t263.length co86)) (fun _ hk => ⟨hk.1.1, hk.1.2⟩)⟩
                have n4_ : Aside0 (Kd.S k56 56 (((w82.setCell ⟨gb270, 0, none⟩ (.int .i64 t259)).setCell ⟨gb270, 1, none⟩ (.slice Ao85 t260.length co85)).setCell ⟨gb270, 2, none⟩ (.slice Ao86 t263.length co86)) w.heap.size (fun k_ => some k_ ≠ (.slice Ao79 x224001_2.length co79 : Value).ownBlock ∧ some k_ ≠ (v267 : Value).ownBlock) (.slice Ao85 t260.length co85) t260) := ⟨by (with_reducible repeat (first | apply Kd.S_alloc | apply Kd.S_drewN | apply Kd.S_drew)); exact Kd.S_mono (Kd.S_far (p := ⟨gb270, 2, none⟩) (Kd.S_far (p := ⟨gb270, 1, none⟩) (Kd.S_far (p := ⟨gb270, 0, none⟩) (Kd.S_types HO262.out BK270.out (by decide)) (fun _ hk => hk.2) (.int .i64 t259)) (fun _ hk => hk.2) (.slice Ao85 t260.length co85)) (fun _ hk => hk.2) (.slice Ao86 t263.length co86)) (fun _ hk => ⟨hk.1.2, hk.1.1⟩)⟩
                have n5_ : Aside0 (Kd.R k35 35 (((w82.setCell ⟨gb270, 0, none⟩ (.int .i64 t259)).setCell ⟨gb270, 1, none⟩ (.slice Ao85 t260.length co85)).setCell ⟨gb270, 2, none⟩ (.slice Ao86 t263.length co86)) w.heap.size (fun k_ => some k_ ≠ (u7 : Value).ownBlock ∧ some k_ ≠ (.slice Ao80 x224002_2.length co80 : Value).ownBlock) (.slice Ao86 t263.length co86) t263) := ⟨by (with_reducible repeat (first | apply Kd.R_alloc | apply Kd.R_drewN | apply Kd.R_drew)); exact Kd.R_mono (Kd.R_far (p := ⟨gb270, 2, none⟩) (Kd.R_far (p := ⟨gb270, 1, none⟩) (Kd.R_far (p := ⟨gb270, 0, none⟩) (Kd.R_types HO265.out BK270.out (by decide)) (fun _ hk => hk.2) (.int .i64 t259)) (fun _ hk => hk.2) (.slice Ao85 t260.length co85)) (fun _ hk => hk.2) (.slice Ao86 t263.length co86)) (fun _ hk => ⟨hk.1.1.2, hk.1.2⟩)⟩
                have n6_ : Aside0 (Kd.R (Kd.int .u8) 5 (((w82.setCell ⟨gb270, 0, none⟩ (.int .i64 t259)).setCell ⟨gb270, 1, none⟩ (.slice Ao85 t260.length co85)).setCell ⟨gb270, 2, none⟩ (.slice Ao86 t263.length co86)) w.heap.size (fun _ => True) v267 t266) := ⟨by (with_reducible repeat (first | apply Kd.R_alloc | apply Kd.R_drewN | apply Kd.R_drew)); exact Kd.R_mono (Kd.R_far (p := ⟨gb270, 2, none⟩) (Kd.R_far (p := ⟨gb270, 1, none⟩) (Kd.R_far (p := ⟨gb270, 0, none⟩) (Kd.R_types HO268.out BK270.out (by decide)) (fun _ hk => hk.2) (.int .i64 t259)) (fun _ hk => hk.2) (.slice Ao85 t260.length co85)) (fun _ hk => hk.2) (.slice Ao86 t263.length co86)) (fun _ hk => trivial)⟩
                have n7_ : Aside0 ((((w82.setCell ⟨gb270, 0, none⟩ (.int .i64 t259)).setCell ⟨gb270, 1, none⟩ (.slice Ao85 t260.length co85)).setCell ⟨gb270, 2, none⟩ (.slice Ao86 t263.length co86)).heap[gb223]? = some (.cells #[.int .i64 x224000_2, .slice Ao79 x224001_2.length co79, .slice Ao80 x224002_2.length co80] 28 (0, 0))) := ⟨by (with_reducible repeat (first | refine blk_drewN ?_ _ | refine blk_drew ?_ | refine blk_alloc ?_ _)); refine blk_far ?_ NB223_270.out _; (with_reducible repeat (first | refine blk_drewN ?_ _ | refine blk_drew ?_ | refine blk_alloc ?_ _)); refine blk_far ?_ NB223_270.out _; (with_reducible repeat (first | refine blk_drewN ?_ _ | refine blk_drew ?_ | refine blk_alloc ?_ _)); refine blk_far ?_ NB223_270.out _; exact BK223.out⟩
                have n8_ : Aside0 ((((w82.setCell ⟨gb270, 0, none⟩ (.int .i64 t259)).setCell ⟨gb270, 1, none⟩ (.slice Ao85 t260.length co85)).setCell ⟨gb270, 2, none⟩ (.slice Ao86 t263.length co86)).heap[gb270]? = some (.cells #[.int .i64 t259, .slice Ao85 t260.length co85, .slice Ao86 t263.length co86] 28 (0, 0))) := ⟨by (with_reducible repeat (first | refine blk_drewN ?_ _ | refine blk_drew ?_ | refine blk_alloc ?_ _)); refine blk_put (cs := #[.int .i64 t259, .slice Ao85 t260.length co85, .slice none 0 0]) ?_ 2 _ rfl; (with_reducible repeat (first | refine blk_drewN ?_ _ | refine blk_drew ?_ | refine blk_alloc ?_ _)); refine blk_put (cs := #[.int .i64 t259, .slice none 0 0, .slice none 0 0]) ?_ 1 _ rfl; (with_reducible repeat (first | refine blk_drewN ?_ _ | refine blk_drew ?_ | refine blk_alloc ?_ _)); refine blk_put (cs := #[.int .i64 0, .slice none 0 0, .slice none 0 0]) ?_ 0 _ rfl; exact BK270.out⟩
                have n9_ : Aside0 (Below w.heap.size w (((w82.setCell ⟨gb270, 0, none⟩ (.int .i64 t259)).setCell ⟨gb270, 1, none⟩ (.slice Ao85 t260.length co85)).setCell ⟨gb270, 2, none⟩ (.slice Ao86 t263.length co86))) := ⟨by repeat (first | (with_reducible first | exact HB.out | apply below_alloc | apply pw_below_drewN | apply below_drew1 | refine below_set ?_ GE223.out | refine below_set ?_ GE270.out) | exact HB.out)⟩
                (try clear HO_6)
                (try clear HO_7)
                (try clear HO_224001)
                (try clear HO_224002)
                (try clear HO262)
                (try clear HO265)
                (try clear HO268)
                (try clear BK223)
                (try clear BK270)
                (try clear HB)
                generalize (((w82.setCell ⟨gb270, 0, none⟩ (.int .i64 t259)).setCell ⟨gb270, 1, none⟩ (.slice Ao85 t260.length co85)).setCell ⟨gb270, 2, none⟩ (.slice Ao86 t263.length co86)) = w93 at n0_ n1_ n2_ n3_ n4_ n5_ n6_ n7_ n8_ n9_ ⊢
                have HO_6 := n0_
                have HO_7 := n1_
                have HO_224001 := n2_
                have HO_224002 := n3_
                have HO262 := n4_
                have HO265 := n5_
                have HO268 := n6_
                have BK223 := n7_
                have BK270 := n8_
                have HB := n9_
                clear n0_ n1_ n2_ n3_ n4_ n5_ n6_ n7_ n8_ n9_
                have n0_ := Aside0.mk (Kd.R_drew HO_6.out)
                have n1_ := Aside0.mk (Kd.R_drew HO_7.out)
                have n2_ := Aside0.mk (Kd.S_drew HO_224001.out)
                have n3_ := Aside0.mk (Kd.R_drew HO_224002.out)
                have n4_ := Aside0.mk (Kd.S_drew HO262.out)
                have n5_ := Aside0.mk (Kd.R_drew HO265.out)
                have n6_ := Aside0.mk (Kd.R_drew HO268.out)
                have n7_ := Aside0.mk (blk_drew BK223.out)
                have n8_ := Aside0.mk (blk_drew BK270.out)
                have n9_ := Aside0.mk (below_drew1 HB.out)
                clear HO_6
                clear HO_7
                clear HO_224001
                clear HO_224002
                clear HO262
                clear HO265
                clear HO268
                clear BK223
                clear BK270
                clear HB
                have HO_6 := n0_
                have HO_7 := n1_
                have HO_224001 := n2_
                have HO_224002 := n3_
                have HO262 := n4_
                have HO265 := n5_
                have HO268 := n6_
                have BK223 := n7_
                have BK270 := n8_
                have HB := n9_
                clear n0_ n1_ n2_ n3_ n4_ n5_ n6_ n7_ n8_ n9_
                obtain ⟨Ao95, co95, eo95⟩ := Kd.R_slice HO_6.out
                (first | subst eo95 | (injection eo95 with f1_ f2_ f3_; have f4_ := f1_.symm; have f5_ := f3_.symm; clear f1_ f2_ f3_; subst f4_; subst f5_))
                have p271 : 0 ≤ (t234 : Int) := of_decide_eq_true (by first | (with_reducible assumption) | assumption)
                have q271 : t234 < (x6_2.length : Int) := of_decide_eq_true (by first | (with_reducible assumption) | assumption)
                obtain ⟨ad271, e271, hx271_0⟩ := Kd.at_string (Kd.R_reads' HO_6.out).2.2 t234 p271 q271
                cases e271
                replace p271 := eq_true p271
                replace q271 := eq_true q271
                have hcv96 := own_string (P := Tryd.prog) Tryd.underlying22 Tryd.underlying5 Tryd.underlying9 (Kd.own_of_R HO268.out)
                refine start_ (n := 20) (S := fun w' => w'.cell? (ad271.add (t234).toNat) = some (.string (rdOf ByteArray.empty x6_2 t234)) ∧ (convert 22 9 v267).run Tryd.prog w' = .ok (.string (strOfNums t266)) w') (ds := []) #[false, false, false, false, false, false, false, false, false, false, false, false, false, false, false, false, false, false, false, false] (by kernel_rfl) rfl rfl ⟨hx271_0, hcv96⟩ (fun hHeld => ?_); refine with_tabW laws_FnMemBook.tab28 laws_FnMemBook.bits28 (fun HT_ HW_ => ?_)
                generalize w93.drew = w94 at HO_6 HO_7 HO_224001 HO_224002 HO262 HO265 HO268 BK223 BK270 HB hx271_0 hHeld ⊢
                refine pure_ (i := 0) (N := some 125) (v := ?_) (a' := ?_) #[true, false, false, false, false, false, false, false, false, false, false, false, false, false, false, false, false, false, false, false] rfl rfl (any_of HT_.out (by kernel_rfl)) (fun _ _ _ h => h) (Or.inl ⟨by rfl, ?_⟩) ?_ ?_
                rotate_left
                ·intro w'
                 go_simp
                 with_reducible rfl
                rotate_left
                ·simp only [Act.put, List.setIfInBounds_toArray, List.set_cons_zero, List.set_cons_succ, i64_w, i32_w]
                 rfl
                refine pure_ (i := 1) (N := some 126) (v := ?_) (a' := ?_) #[true, true, false, false, false, false, false, false, false, false, false, false, false, false, false, false, false, false, false, false] rfl rfl (any_of HT_.out (by kernel_rfl)) (fun _ _ _ h => h) (Or.inl ⟨by rfl, ?_⟩) ?_ ?_
                rotate_left
                ·intro w'
                 go_simp
                 with_reducible rfl
                rotate_left
                ·simp only [Act.put, List.setIfInBounds_toArray, List.set_cons_zero, List.set_cons_succ, i64_w, i32_w]
                 rfl
                refine pure_ (i := 2) (N := some 127) (v := ?_) (a' := ?_) #[true, true, true, false, false, false, false, false, false, false, false, false, false, false, false, false, false, false, false, false] rfl rfl (any_of HT_.out (by kernel_rfl)) (fun _ _ _ h => h) (Or.inl ⟨by rfl, ?_⟩) ?_ ?_
                rotate_left
                ·intro w'
                 go_simp
                 with_reducible rfl
                rotate_left
                ·simp only [Act.put, List.setIfInBounds_toArray, List.set_cons_zero, List.set_cons_succ, i64_w, i32_w]
                 rfl
                refine pure_ (i := 3) (N := some 128) (v := ?_) (a' := ?_) #[true, true, true, true, false, false, false, false, false, false, false, false, false, false, false, false, false, false, false, false] rfl rfl (any_of HT_.out (by kernel_rfl)) (fun _ _ _ h => h) (Or.inl ⟨by rfl, ?_⟩) ?_ ?_
                rotate_left
                ·intro w'
                 go_simp
                 with_reducible rfl
                rotate_left
                ·simp only [Act.put, List.setIfInBounds_toArray, List.set_cons_zero, List.set_cons_succ, i64_w, i32_w]
                 rfl
                refine pure_ (i := 4) (N := some 129) (v := ?_) (a' := ?_) #[true, true, true, true, true, false, false, false, false, false, false, false, false, false, false, false, false, false, false, false] rfl rfl (any_of HT_.out (by kernel_rfl)) (fun _ _ _ h => h) (Or.inl ⟨by rfl, ?_⟩) ?_ ?_
                rotate_left
                ·intro w'
                 go_simp
                 with_reducible rfl
                rotate_left
                ·simp only [Act.put, List.setIfInBounds_toArray, List.set_cons_zero, List.set_cons_succ, i64_w, i32_w]
                 rfl
                refine pure_ (i := 5) (N := some 130) (v := ?_) (a' := ?_) #[true, true, true, true, true, true, false, false, false, false, false, false, false, false, false, false, false, false, false, false] rfl rfl (any_of HT_.out (by kernel_rfl)) (fun _ _ _ h => h) (Or.inl ⟨by rfl, ?_⟩) ?_ ?_
                rotate_left
                ·intro w'
                 go_simp
                 with_reducible rfl
                rotate_left
                ·simp only [Act.put, List.setIfInBounds_toArray, List.set_cons_zero, List.set_cons_succ, i64_w, i32_w]
                 rfl
                refine pure_ (i := 6) (N := some 131) (v := ?_) (a' := ?_) #[true, true, true, true, true, true, true, false, false, false, false, false, false, false, false, false, false, false, false, false] rfl rfl (any_of HT_.out (by kernel_rfl)) (fun _ _ _ h => h) (Or.inl ⟨by rfl, ?_⟩) ?_ ?_
                rotate_left
                ·intro w'
                 go_simp
                 with_reducible rfl
                rotate_left
                ·simp only [Act.put, List.setIfInBounds_toArray, List.set_cons_zero, List.set_cons_succ, i64_w, i32_w]
                 rfl
                refine pure_ (i := 7) (N := some 132) (v := ?_) (a' := ?_) #[true, true, true, true, true, true, true, true, false, false, false, false, false, false, false, false, false, false, false, false] rfl rfl (any_of HT_.out (by kernel_rfl)) (fun _ _ _ h => h) (Or.inl ⟨by rfl, ?_⟩) ?_ ?_
                rotate_left
                ·intro w'
                 go_simp
                 with_reducible rfl
                rotate_left
                ·simp only [Act.put, List.setIfInBounds_toArray, List.set_cons_zero, List.set_cons_succ, i64_w, i32_w]
                 rfl
                refine pure_ (i := 8) (N := some 133) (v := ?_) (a' := ?_) #[true, true, true, true, true, true, true, true, true, false, false, false, false, false, false, false, false, false, false, false] rfl rfl (any_of HT_.out (by kernel_rfl)) (fun _ _ _ h => h) (Or.inl ⟨by rfl, ?_⟩) ?_ ?_
                rotate_left
                ·intro w'
                 go_simp
                 with_reducible rfl
                rotate_left
                ·simp only [Act.put, List.setIfInBounds_toArray, List.set_cons_zero, List.set_cons_succ, i64_w, i32_w]
                 rfl
                refine pure_ (i := 9) (N := some 134) (v := ?_) (a' := ?_) #[true, true, true, true, true, true, true, true, true, true, false, false, false, false, false, false, false, false, false, false] rfl rfl (any_of HT_.out (by kernel_rfl)) (fun _ _ _ h => h) (Or.inl ⟨by rfl, ?_⟩) ?_ ?_
                rotate_left
                ·intro w'
                 go_simp
                 with_reducible rfl
                rotate_left
                ·simp only [Act.put, List.setIfInBounds_toArray, List.set_cons_zero, List.set_cons_succ, i64_w, i32_w]
                 rfl
                refine pure_ (i := 10) (N := some 135) (v := ?_) (a' := ?_) #[true, true, true, true, true, true, true, true, true, true, true, false, false, false, false, false, false, false, false, false] rfl rfl (any_of HT_.out (by kernel_rfl)) (fun _ _ _ h => h) (Or.inl ⟨by rfl, ?_⟩) ?_ ?_
                rotate_left
                ·intro w'
                 go_simp
                 with_reducible rfl
                rotate_left
                ·simp only [Act.put, List.setIfInBounds_toArray, List.set_cons_zero, List.set_cons_succ, i64_w, i32_w]
                 rfl
                refine pure_ (i := 11) (N := some 136) (v := ?_) (a' := ?_) #[true, true, true, true, true, true, true, true, true, true, true, true, false, false, false, false, false, false, false, false] rfl rfl (any_of HT_.out (by kernel_rfl)) (fun _ _ _ h => h) (Or.inl ⟨by rfl, ?_⟩) ?_ ?_
                rotate_left
                ·intro w'
                 go_simp
                 with_reducible rfl
                rotate_left
                ·simp only [Act.put, List.setIfInBounds_toArray, List.set_cons_zero, List.set_cons_succ, i64_w, i32_w]
                 rfl
                refine take_ (i := 12) (N := some 137) (v := ?_) (a' := ?_) #[true, true, true, true, true, true, true, true, true, true, true, true, true, false, false, false, false, false, false, false] rfl rfl (take_ofW HT_.out HW_.out (by kernel_rfl)) (fun _ _ _ h => h) (Or.inl ⟨by rfl, ?_⟩) hHeld ?_ ?_
                rotate_left
                ·rintro w' ⟨s0, s1⟩
                 go_simp
                 with_reducible rfl
                rotate_left
                ·simp only [Act.put, List.setIfInBounds_toArray, List.set_cons_zero, List.set_cons_succ, i64_w, i32_w]
                 rfl
                refine pure_ (i := 13) (N := some 138) (v := ?_) (a' := ?_) #[true, true, true, true, true, true, true, true, true, true, true, true, true, true, false, false, false, false, false, false] rfl rfl (any_of HT_.out (by kernel_rfl)) (fun _ _ _ h => h) (Or.inl ⟨by rfl, ?_⟩) ?_ ?_
                rotate_left
                ·intro w'
                 go_simp
                 with_reducible rfl
                rotate_left
                ·simp only [Act.put, List.setIfInBounds_toArray, List.set_cons_zero, List.set_cons_succ, i64_w, i32_w]
                 rfl
                refine pure_ (i := 14) (N := some 139) (v := ?_) (a' := ?_) #[true, true, true, true, true, true, true, true, true, true, true, true, true, true, true, false, false, false, false, false] rfl rfl (any_of HT_.out (by kernel_rfl)) (fun _ _ _ h => h) (Or.inl ⟨by rfl, ?_⟩) ?_ ?_
                rotate_left
                ·intro w'
                 go_simp
                 with_reducible rfl
                rotate_left
                ·simp only [Act.put, List.setIfInBounds_toArray, List.set_cons_zero, List.set_cons_succ, i64_w, i32_w]
                 rfl
                refine pure_ (i := 15) (N := some 140) (v := ?_) (a' := ?_) #[true, true, true, true, true, true, true, true, true, true, true, true, true, true, true, true, false, false, false, false] rfl rfl (any_of HT_.out (by kernel_rfl)) (fun _ _ _ h => h) (Or.inl ⟨by rfl, ?_⟩) ?_ ?_
                rotate_left
                ·intro w'
                 go_simp
                 with_reducible rfl
                rotate_left
                ·simp only [Act.put, List.setIfInBounds_toArray, List.set_cons_zero, List.set_cons_succ, i64_w, i32_w]
                 rfl
                refine take_ (i := 16) (N := some 141) (v := ?_) (a' := ?_) #[true, true, true, true, true, true, true, true, true, true, true, true, true, true, true, true, true, false, false, false] rfl rfl (take_ofW HT_.out HW_.out (by kernel_rfl)) (fun _ _ _ h => h) (Or.inl ⟨by rfl, ?_⟩) hHeld ?_ ?_
                rotate_left
                ·rintro w' ⟨s0, s1⟩
                 go_simp
                 with_reducible rfl
                rotate_left
                ·simp only [Act.put, List.setIfInBounds_toArray, List.set_cons_zero, List.set_cons_succ, i64_w, i32_w]
                 rfl
                refine pure_ (i := 17) (N := some 142) (v := ?_) (a' := ?_) #[true, true, true, true, true, true, true, true, true, true, true, true, true, true, true, true, true, true, false, false] rfl rfl (any_of HT_.out (by kernel_rfl)) (fun _ _ _ h => h) (Or.inl ⟨by rfl, ?_⟩) ?_ ?_
                rotate_left
                ·intro w'
                 go_simp
                 with_reducible rfl
                rotate_left
                ·simp only [Act.put, List.setIfInBounds_toArray, List.set_cons_zero, List.set_cons_succ, i64_w, i32_w]
                 rfl
                refine pure_ (i := 18) (N := some 143) (v := ?_) (a' := ?_) #[true, true, true, true, true, true, true, true, true, true, true, true, true, true, true, true, true, true, true, false] rfl rfl (any_of HT_.out (by kernel_rfl)) (fun _ _ _ h => h) (Or.inl ⟨by rfl, ?_⟩) ?_ ?_
                rotate_left
                ·intro w'
                 go_simp
                 with_reducible rfl
                rotate_left
                ·simp only [Act.put, List.setIfInBounds_toArray, List.set_cons_zero, List.set_cons_succ, i64_w, i32_w]
                 rfl
                refine pure_ (i := 19) (N := some 144) (v := ?_) (a' := ?_) #[true, true, true, true, true, true, true, true, true, true, true, true, true, true, true, true, true, true, true, true] rfl rfl (any_of HT_.out (by kernel_rfl)) (fun _ _ _ h => h) (Or.inl ⟨by rfl, ?_⟩) ?_ ?_
                rotate_left
                ·intro w'
                 go_simp
                 with_reducible rfl
                rotate_left
                ·simp only [Act.put, List.setIfInBounds_toArray, List.set_cons_zero, List.set_cons_succ, i64_w, i32_w]
                 rfl
                refine done_ (done_of HT_.out (by kernel_rfl)) ?_
                try go_wp2
                go_meet
                case rel => exact ⟨_, (((strOfNums t266).toList != (rdOf ByteArray.empty x6_2 t234).toList)), (by first | rfl | (simp; done) | (simp [*]; done)), H', ⟨by have := HK1.out; have := HK2.out; first | omega | exact Nat.le_refl _⟩, ⟨by exact HO_6.out⟩, ⟨by exact HO_7.out⟩, ⟨by (with_reducible repeat (first | apply Kd.S_alloc | apply Kd.S_drewN | apply Kd.S_drew)); exact Kd.S_mono HO_224001.out (fun _ hk => hk.1)⟩, ⟨by exact HO_224002.out⟩, ⟨by (with_reducible repeat (first | apply Kd.S_alloc | apply Kd.S_drewN | apply Kd.S_drew)); exact Kd.S_mono HO262.out (fun _ hk => hk.1)⟩, ⟨by exact HO265.out⟩, ⟨by exact BK223.out⟩, ⟨by exact BK270.out⟩, ⟨by exact HB.out⟩⟩
               ·rw [if_neg c92] at H
                exact absurd H (by simp)
              ·rw [if_neg c91] at H
               exact absurd H (by simp)
             ·rw [if_neg c90] at H
              have c90b0 : decide (t234 < ji7) = false := decide_eq_false c90
              (try (have c87b5 : (t269 == 0) = false := by simpa [c90b0] using c87b0))
              (try (have c87b6 : (t269 != 0) = true := by simpa [c90b0] using c87b0))
              clear c90
              have H' := Aside0.mk H
              clear H
              try go_wp2
              have n0_ : Aside0 (Kd.R Kd.string 9 (((w82.setCell ⟨gb270, 0, none⟩ (.int .i64 t259)).setCell ⟨gb270, 1, none⟩ (.slice Ao85 t260.length co85)).setCell ⟨gb270, 2, none⟩ (.slice Ao86 t263.length co86)) w.heap.size (fun _ => True) v225 x6_2) := ⟨by (with_reducible repeat (first | apply Kd.R_alloc | apply Kd.R_drewN | apply Kd.R_drew)); exact Kd.R_mono (Kd.R_far (p := ⟨gb270, 2, none⟩) (Kd.R_far (p := ⟨gb270, 1, none⟩) (Kd.R_far (p := ⟨gb270, 0, none⟩) (Kd.R_types HO_6.out BK270.out (by decide)) (fun _ hk => hk.2) (.int .i64 t259)) (fun _ hk => hk.2) (.slice Ao85 t260.length co85)) (fun _ hk => hk.2) (.slice Ao86 t263.length co86)) (fun _ hk => trivial)⟩
              have n1_ : Aside0 (Kd.R k35 35 (((w82.setCell ⟨gb270, 0, none⟩ (.int .i64 t259)).setCell ⟨gb270, 1, none⟩ (.slice Ao85 t260.length co85)).setCell ⟨gb270, 2, none⟩ (.slice Ao86 t263.length co86)) w.heap.size (fun k_ => some k_ ≠ (.slice Ao80 x224002_2.length co80 : Value).ownBlock ∧ some k_ ≠ (.slice Ao86 t263.length co86 : Value).ownBlock) u7 x7_2) := ⟨by (with_reducible repeat (first | apply Kd.R_alloc | apply Kd.R_drewN | apply Kd.R_drew)); exact Kd.R_mono (Kd.R_far (p := ⟨gb270, 2, none⟩) (Kd.R_far (p := ⟨gb270, 1, none⟩) (Kd.R_far (p := ⟨gb270, 0, none⟩) (Kd.R_types HO_7.out BK270.out (by decide)) (fun _ hk => hk.2) (.int .i64 t259)) (fun _ hk => hk.2) (.slice Ao85 t260.length co85)) (fun _ hk => hk.2) (.slice Ao86 t263.length co86)) (fun _ hk => ⟨hk.1.1, hk.1.2⟩)⟩
              have n2_ : Aside0 (Kd.S k56 56 (((w82.setCell ⟨gb270, 0, none⟩ (.int .i64 t259)).setCell ⟨gb270, 1, none⟩ (.slice Ao85 t260.length co85)).setCell ⟨gb270, 2, none⟩ (.slice Ao86 t263.length co86)) w.heap.size (fun k_ => some k_ ≠ (.slice Ao85 t260.length co85 : Value).ownBlock ∧ some k_ ≠ (v267 : Value).ownBlock) (.slice Ao79 x224001_2.length co79) x224001_2) := ⟨by (with_reducible repeat (first | apply Kd.S_alloc | apply Kd.S_drewN | apply Kd.S_drew)); exact Kd.S_mono (Kd.S_far (p := ⟨gb270, 2, none⟩) (Kd.S_far (p := ⟨gb270, 1, none⟩) (Kd.S_far (p := ⟨gb270, 0, none⟩) (Kd.S_types HO_224001.out BK270.out (by decide)) (fun _ hk => hk.2) (.int .i64 t259)) (fun _ hk => hk.2) (.slice Ao85 t260.length co85)) (fun _ hk => hk.2) (.slice Ao86 t263.length co86)) (fun _ hk => ⟨hk.1.1.2, hk.1.2⟩)⟩
              have n3_ : Aside0 (Kd.R k35 35 (((w82.setCell ⟨gb270, 0, none⟩ (.int .i64 t259)).setCell ⟨gb270, 1, none⟩ (.slice Ao85 t260.length co85)).setCell ⟨gb270, 2, none⟩ (.slice Ao86 t263.length co86)) w.heap.size (fun k_ => some k_ ≠ (u7 : Value).ownBlock ∧ some k_ ≠ (.slice Ao86 t263.length co86 : Value).ownBlock) (.slice Ao80 x224002_2.length co80) x224002_2) := ⟨by (with_reducible repeat (first | apply Kd.R_alloc | apply Kd.R_drewN | apply Kd.R_drew)); exact Kd.R_mono (Kd.R_far (p := ⟨gb270, 2, none⟩) (Kd.R_far (p := ⟨gb270, 1, none⟩) (Kd.R_far (p := ⟨gb270, 0, none⟩) (Kd.R_types HO_224002.out BK270.out (by decide)) (fun _ hk => hk.2) (.int .i64 t259)) (fun _ hk => hk.2) (.slice Ao85 t260.length co85)) (fun _ hk => hk.2) (.slice Ao86 t263.length co86)) (fun _ hk => ⟨hk.1.1, hk.1.2⟩)⟩
              have n4_ : Aside0 (Kd.S k56 56 (((w82.setCell ⟨gb270, 0, none⟩ (.int .i64 t259)).setCell ⟨gb270, 1, none⟩ (.slice Ao85 t260.length co85)).setCell ⟨gb270, 2, none⟩ (.slice Ao86 t263.length co86)) w.heap.size (fun k_ => some k_ ≠ (.slice Ao79 x224001_2.length co79 : Value).ownBlock ∧ some k_ ≠ (v267 : Value).ownBlock) (.slice Ao85 t260.length co85) t260) := ⟨by (with_reducible repeat (first | apply Kd.S_alloc | apply Kd.S_drewN | apply Kd.S_drew)); exact Kd.S_mono (Kd.S_far (p := ⟨gb270, 2, none⟩) (Kd.S_far (p := ⟨gb270, 1, none⟩) (Kd.S_far (p := ⟨gb270, 0, none⟩) (Kd.S_types HO262.out BK270.out (by decide)) (fun _ hk => hk.2) (.int .i64 t259)) (fun _ hk => hk.2) (.slice Ao85 t260.length co85)) (fun _ hk => hk.2) (.slice Ao86 t263.length co86)) (fun _ hk => ⟨hk.1.2, hk.1.1⟩)⟩
              have n5_ : Aside0 (Kd.R k35 35 (((w82.setCell ⟨gb270, 0, none⟩ (.int .i64 t259)).setCell ⟨gb270, 1, none⟩ (.slice Ao85 t260.length co85)).setCell ⟨gb270, 2, none⟩ (.slice Ao86 t263.length co86)) w.heap.size (fun k_ => some k_ ≠ (u7 : Value).ownBlock ∧ some k_ ≠ (.slice Ao80 x224002_2.length co80 : Value).ownBlock) (.slice Ao86 t263.length co86) t263) := ⟨by (with_reducible repeat (first | apply Kd.R_alloc | apply Kd.R_drewN | apply Kd.R_drew)); exact Kd.R_mono (Kd.R_far (p := ⟨gb270, 2, none⟩) (Kd.R_far (p := ⟨gb270, 1, none⟩) (Kd.R_far (p := ⟨gb270, 0, none⟩) (Kd.R_types HO265.out BK270.out (by decide)) (fun _ hk => hk.2) (.int .i64 t259)) (fun _ hk => hk.2) (.slice Ao85 t260.length co85)) (fun _ hk => hk.2) (.slice Ao86 t263.length co86)) (fun _ hk => ⟨hk.1.1.2, hk.1.2⟩)⟩
              have n6_ : Aside0 (Kd.R (Kd.int .u8) 5 (((w82.setCell ⟨gb270, 0, none⟩ (.int .i64 t259)).setCell ⟨gb270, 1, none⟩ (.slice Ao85 t260.length co85)).setCell ⟨gb270, 2, none⟩ (.slice Ao86 t263.length co86)) w.heap.size (fun _ => True) v267 t266) := ⟨by (with_reducible repeat (first | apply Kd.R_alloc | apply Kd.R_drewN | apply Kd.R_drew)); exact Kd.R_mono (Kd.R_far (p := ⟨gb270, 2, none⟩) (Kd.R_far (p := ⟨gb270, 1, none⟩) (Kd.R_far (p := ⟨gb270, 0, none⟩) (Kd.R_types HO268.out BK270.out (by decide)) (fun _ hk => hk.2) (.int .i64 t259)) (fun _ hk => hk.2) (.slice Ao85 t260.length co85)) (fun _ hk => hk.2) (.slice Ao86 t263.length co86)) (fun _ hk => trivial)⟩
              have n7_ : Aside0 ((((w82.setCell ⟨gb270, 0, none⟩ (.int .i64 t259)).setCell ⟨gb270, 1, none⟩ (.slice Ao85 t260.length co85)).setCell ⟨gb270, 2, none⟩ (.slice Ao86 t263.length co86)).heap[gb223]? = some (.cells #[.int .i64 x224000_2, .slice Ao79 x224001_2.length co79, .slice Ao80 x224002_2.length co80] 28 (0, 0))) := ⟨by (with_reducible repeat (first | refine blk_drewN ?_ _ | refine blk_drew ?_ | refine blk_alloc ?_ _)); refine blk_far ?_ NB223_270.out _; (with_reducible repeat (first | refine blk_drewN ?_ _ | refine blk_drew ?_ | refine blk_alloc ?_ _)); refine blk_far ?_ NB223_270.out _; (with_reducible repeat (first | refine blk_drewN ?_ _ | refine blk_drew ?_ | refine blk_alloc ?_ _)); refine blk_far ?_ NB223_270.out _; exact BK223.out⟩
              have n8_ : Aside0 ((((w82.setCell ⟨gb270, 0, none⟩ (.int .i64 t259)).setCell ⟨gb270, 1, none⟩ (.slice Ao85 t260.length co85)).setCell ⟨gb270, 2, none⟩ (.slice Ao86 t263.length co86)).heap[gb270]? = some (.cells #[.int .i64 t259, .slice Ao85 t260.length co85, .slice Ao86 t263.length co86] 28 (0, 0))) := ⟨by (with_reducible repeat (first | refine blk_drewN ?_ _ | refine blk_drew ?_ | refine blk_alloc ?_ _)); refine blk_put (cs := #[.int .i64 t259, .slice Ao85 t260.length co85, .slice none 0 0]) ?_ 2 _ rfl; (with_reducible repeat (first | refine blk_drewN ?_ _ | refine blk_drew ?_ | refine blk_alloc ?_ _)); refine blk_put (cs := #[.int .i64 t259, .slice none 0 0, .slice none 0 0]) ?_ 1 _ rfl; (with_reducible repeat (first | refine blk_drewN ?_ _ | refine blk_drew ?_ | refine blk_alloc ?_ _)); refine blk_put (cs := #[.int .i64 0, .slice none 0 0, .slice none 0 0]) ?_ 0 _ rfl; exact BK270.out⟩
              have n9_ : Aside0 (Below w.heap.size w (((w82.setCell ⟨gb270, 0, none⟩ (.int .i64 t259)).setCell ⟨gb270, 1, none⟩ (.slice Ao85 t260.length co85)).setCell ⟨gb270, 2, none⟩ (.slice Ao86 t263.length co86))) := ⟨by repeat (first | (with_reducible first | exact HB.out | apply below_alloc | apply pw_below_drewN | apply below_drew1 | refine below_set ?_ GE223.out | refine below_set ?_ GE270.out) | exact HB.out)⟩
              (try clear HO_6)
              (try clear HO_7)
              (try clear HO_224001)
              (try clear HO_224002)
              (try clear HO262)
              (try clear HO265)
              (try clear HO268)
              (try clear BK223)
              (try clear BK270)
              (try clear HB)
              generalize (((w82.setCell ⟨gb270, 0, none⟩ (.int .i64 t259)).setCell ⟨gb270, 1, none⟩ (.slice Ao85 t260.length co85)).setCell ⟨gb270, 2, none⟩ (.slice Ao86 t263.length co86)) = w97 at n0_ n1_ n2_ n3_ n4_ n5_ n6_ n7_ n8_ n9_ ⊢
              have HO_6 := n0_
              have HO_7 := n1_
              have HO_224001 := n2_
              have HO_224002 := n3_
              have HO262 := n4_
              have HO265 := n5_
              have HO268 := n6_
              have BK223 := n7_
              have BK270 := n8_
              have HB := n9_
              clear n0_ n1_ n2_ n3_ n4_ n5_ n6_ n7_ n8_ n9_
              have n0_ := Aside0.mk (Kd.R_drew HO_6.out)
              have n1_ := Aside0.mk (Kd.R_drew HO_7.out)
              have n2_ := Aside0.mk (Kd.S_drew HO_224001.out)
              have n3_ := Aside0.mk (Kd.R_drew HO_224002.out)
              have n4_ := Aside0.mk (Kd.S_drew HO262.out)
              have n5_ := Aside0.mk (Kd.R_drew HO265.out)
              have n6_ := Aside0.mk (Kd.R_drew HO268.out)
              have n7_ := Aside0.mk (blk_drew BK223.out)
              have n8_ := Aside0.mk (blk_drew BK270.out)
              have n9_ := Aside0.mk (below_drew1 HB.out)
              clear HO_6
              clear HO_7
              clear HO_224001
              clear HO_224002
              clear HO262
              clear HO265
              clear HO268
              clear BK223
              clear BK270
              clear HB
              have HO_6 := n0_
              have HO_7 := n1_
              have HO_224001 := n2_
              have HO_224002 := n3_
              have HO262 := n4_
              have HO265 := n5_
              have HO268 := n6_
              have BK223 := n7_
              have BK270 := n8_
              have HB := n9_
              clear n0_ n1_ n2_ n3_ n4_ n5_ n6_ n7_ n8_ n9_
              refine start_ (n := 20) (S := fun w' => True) (ds := []) #[false, false, false, false, false, false, false, false, false, false, false, false, false, false, false, false, false, false, false, false] (by kernel_rfl) rfl rfl trivial (fun hHeld => ?_); refine with_tabW laws_FnMemBook.tab28 laws_FnMemBook.bits28 (fun HT_ HW_ => ?_)
              generalize w97.drew = w98 at HO_6 HO_7 HO_224001 HO_224002 HO262 HO265 HO268 BK223 BK270 HB hHeld ⊢
              refine pure_ (i := 0) (N := some 125) (v := ?_) (a' := ?_) #[true, false, false, false, false, false, false, false, false, false, false, false, false, false, false, false, false, false, false, false] rfl rfl (any_of HT_.out (by kernel_rfl)) (fun _ _ _ h => h) (Or.inl ⟨by rfl, ?_⟩) ?_ ?_
              rotate_left
              ·intro w'
               go_simp
               with_reducible rfl
              rotate_left
              ·simp only [Act.put, List.setIfInBounds_toArray, List.set_cons_zero, List.set_cons_succ, i64_w, i32_w]
               rfl
              refine pure_ (i := 1) (N := some 126) (v := ?_) (a' := ?_) #[true, true, false, false, false, false, false, false, false, false, false, false, false, false, false, false, false, false, false, false] rfl rfl (any_of HT_.out (by kernel_rfl)) (fun _ _ _ h => h) (Or.inl ⟨by rfl, ?_⟩) ?_ ?_
              rotate_left
              ·intro w'
               go_simp
               with_reducible rfl
              rotate_left
              ·simp only [Act.put, List.setIfInBounds_toArray, List.set_cons_zero, List.set_cons_succ, i64_w, i32_w]
               rfl
              refine pure_ (i := 2) (N := some 127) (v := ?_) (a' := ?_) #[true, true, true, false, false, false, false, false, false, false, false, false, false, false, false, false, false, false, false, false] rfl rfl (any_of HT_.out (by kernel_rfl)) (fun _ _ _ h => h) (Or.inl ⟨by rfl, ?_⟩) ?_ ?_
              rotate_left
              ·intro w'
               go_simp
               with_reducible rfl
              rotate_left
              ·simp only [Act.put, List.setIfInBounds_toArray, List.set_cons_zero, List.set_cons_succ, i64_w, i32_w]
               rfl
              refine pure_ (i := 3) (N := some 128) (v := ?_) (a' := ?_) #[true, true, true, true, false, false, false, false, false, false, false, false, false, false, false, false, false, false, false, false] rfl rfl (any_of HT_.out (by kernel_rfl)) (fun _ _ _ h => h) (Or.inl ⟨by rfl, ?_⟩) ?_ ?_
              rotate_left
              ·intro w'
               go_simp
               with_reducible rfl
              rotate_left
              ·simp only [Act.put, List.setIfInBounds_toArray, List.set_cons_zero, List.set_cons_succ, i64_w, i32_w]
               rfl
              refine pure_ (i := 4) (N := some 129) (v := ?_) (a' := ?_) #[true, true, true, true, true, false, false, false, false, false, false, false, false, false, false, false, false, false, false, false] rfl rfl (any_of HT_.out (by kernel_rfl)) (fun _ _ _ h => h) (Or.inl ⟨by rfl, ?_⟩) ?_ ?_
              rotate_left
              ·intro w'
               go_simp
               with_reducible rfl
              rotate_left
              ·simp only [Act.put, List.setIfInBounds_toArray, List.set_cons_zero, List.set_cons_succ, i64_w, i32_w]
               rfl
              refine pure_ (i := 5) (N := some 130) (v := ?_) (a' := ?_) #[true, true, true, true, true, true, false, false, false, false, false, false, false, false, false, false, false, false, false, false] rfl rfl (any_of HT_.out (by kernel_rfl)) (fun _ _ _ h => h) (Or.inl ⟨by rfl, ?_⟩) ?_ ?_
              rotate_left
              ·intro w'
               go_simp
               with_reducible rfl
              rotate_left
              ·simp only [Act.put, List.setIfInBounds_toArray, List.set_cons_zero, List.set_cons_succ, i64_w, i32_w]
               rfl
              refine pure_ (i := 6) (N := some 131) (v := ?_) (a' := ?_) #[true, true, true, true, true, true, true, false, false, false, false, false, false, false, false, false, false, false, false, false] rfl rfl (any_of HT_.out (by kernel_rfl)) (fun _ _ _ h => h) (Or.inl ⟨by rfl, ?_⟩) ?_ ?_
              rotate_left
              ·intro w'
               go_simp
               with_reducible rfl
              rotate_left
              ·simp only [Act.put, List.setIfInBounds_toArray, List.set_cons_zero, List.set_cons_succ, i64_w, i32_w]
               rfl
              refine pure_ (i := 7) (N := some 132) (v := ?_) (a' := ?_) #[true, true, true, true, true, true, true, true, false, false, false, false, false, false, false, false, false, false, false, false] rfl rfl (any_of HT_.out (by kernel_rfl)) (fun _ _ _ h => h) (Or.inl ⟨by rfl, ?_⟩) ?_ ?_
              rotate_left
              ·intro w'
               go_simp
               with_reducible rfl
              rotate_left
              ·simp only [Act.put, List.setIfInBounds_toArray, List.set_cons_zero, List.set_cons_succ, i64_w, i32_w]
               rfl
              refine pure_ (i := 8) (N := some 133) (v := ?_) (a' := ?_) #[true, true, true, true, true, true, true, true, true, false, false, false, false, false, false, false, false, false, false, false] rfl rfl (any_of HT_.out (by kernel_rfl)) (fun _ _ _ h => h) (Or.inl ⟨by rfl, ?_⟩) ?_ ?_
              rotate_left
              ·intro w'
               go_simp
               with_reducible rfl
              rotate_left
              ·simp only [Act.put, List.setIfInBounds_toArray, List.set_cons_zero, List.set_cons_succ, i64_w, i32_w]
               rfl
              refine pure_ (i := 9) (N := some 134) (v := ?_) (a' := ?_) #[true, true, true, true, true, true, true, true, true, true, false, false, false, false, false, false, false, false, false, false] rfl rfl (any_of HT_.out (by kernel_rfl)) (fun _ _ _ h => h) (Or.inl ⟨by rfl, ?_⟩) ?_ ?_
              rotate_left
              ·intro w'
               go_simp
               with_reducible rfl
              rotate_left
              ·simp only [Act.put, List.setIfInBounds_toArray, List.set_cons_zero, List.set_cons_succ, i64_w, i32_w]
               rfl
              refine pure_ (i := 10) (N := some 135) (v := ?_) (a' := ?_) #[true, true, true, true, true, true, true, true, true, true, true, false, false, false, false, false, false, false, false, false] rfl rfl (any_of HT_.out (by kernel_rfl)) (fun _ _ _ h => h) (Or.inl ⟨by rfl, ?_⟩) ?_ ?_
              rotate_left
              ·intro w'
               go_simp
               with_reducible rfl
              rotate_left
              ·simp only [Act.put, List.setIfInBounds_toArray, List.set_cons_zero, List.set_cons_succ, i64_w, i32_w]
               rfl
              refine pure_ (i := 11) (N := some 136) (v := undef) (a' := ?_) #[true, true, true, true, true, true, true, true, true, true, true, true, false, false, false, false, false, false, false, false] rfl rfl (any_of HT_.out (by kernel_rfl)) (fun _ _ _ h => h) (Or.inr ⟨by rfl, rfl⟩) ?_ ?_
              rotate_left
              ·simp only [Act.put, List.setIfInBounds_toArray, List.set_cons_zero, List.set_cons_succ, i64_w, i32_w]
               rfl
              refine pure_ (i := 12) (N := some 137) (v := undef) (a' := ?_) #[true, true, true, true, true, true, true, true, true, true, true, true, true, false, false, false, false, false, false, false] rfl rfl (any_of HT_.out (by kernel_rfl)) (fun _ _ _ h => h) (Or.inr ⟨by rfl, rfl⟩) ?_ ?_
              rotate_left
              ·simp only [Act.put, List.setIfInBounds_toArray, List.set_cons_zero, List.set_cons_succ, i64_w, i32_w]
               rfl
              refine pure_ (i := 13) (N := some 138) (v := undef) (a' := ?_) #[true, true, true, true, true, true, true, true, true, true, true, true, true, true, false, false, false, false, false, false] rfl rfl (any_of HT_.out (by kernel_rfl)) (fun _ _ _ h => h) (Or.inr ⟨by rfl, rfl⟩) ?_ ?_
              rotate_left
              ·simp only [Act.put, List.setIfInBounds_toArray, List.set_cons_zero, List.set_cons_succ, i64_w, i32_w]
               rfl
              refine pure_ (i := 14) (N := some 139) (v := undef) (a' := ?_) #[true, true, true, true, true, true, true, true, true, true, true, true, true, true, true, false, false, false, false, false] rfl rfl (any_of HT_.out (by kernel_rfl)) (fun _ _ _ h => h) (Or.inr ⟨by rfl, rfl⟩) ?_ ?_
              rotate_left
              ·simp only [Act.put, List.setIfInBounds_toArray, List.set_cons_zero, List.set_cons_succ, i64_w, i32_w]
               rfl
              refine pure_ (i := 15) (N := some 140) (v := undef) (a' := ?_) #[true, true, true, true, true, true, true, true, true, true, true, true, true, true, true, true, false, false, false, false] rfl rfl (any_of HT_.out (by kernel_rfl)) (fun _ _ _ h => h) (Or.inr ⟨by rfl, rfl⟩) ?_ ?_
              rotate_left
              ·simp only [Act.put, List.setIfInBounds_toArray, List.set_cons_zero, List.set_cons_succ, i64_w, i32_w]
               rfl
              refine pure_ (i := 16) (N := some 141) (v := undef) (a' := ?_) #[true, true, true, true, true, true, true, true, true, true, true, true, true, true, true, true, true, false, false, false] rfl rfl (any_of HT_.out (by kernel_rfl)) (fun _ _ _ h => h) (Or.inr ⟨by rfl, rfl⟩) ?_ ?_
              rotate_left
              ·simp only [Act.put, List.setIfInBounds_toArray, List.set_cons_zero, List.set_cons_succ, i64_w, i32_w]
               rfl
              refine pure_ (i := 17) (N := some 142) (v := undef) (a' := ?_) #[true, true, true, true, true, true, true, true, true, true, true, true, true, true, true, true, true, true, false, false] rfl rfl (any_of HT_.out (by kernel_rfl)) (fun _ _ _ h => h) (Or.inr ⟨by rfl, rfl⟩) ?_ ?_
              rotate_left
              ·simp only [Act.put, List.setIfInBounds_toArray, List.set_cons_zero, List.set_cons_succ, i64_w, i32_w]
               rfl
              refine pure_ (i := 18) (N := some 143) (v := ?_) (a' := ?_) #[true, true, true, true, true, true, true, true, true, true, true, true, true, true, true, true, true, true, true, false] rfl rfl (any_of HT_.out (by kernel_rfl)) (fun _ _ _ h => h) (Or.inl ⟨by rfl, ?_⟩) ?_ ?_
              rotate_left
              ·intro w'
               go_simp
               with_reducible rfl
              rotate_left
              ·simp only [Act.put, List.setIfInBounds_toArray, List.set_cons_zero, List.set_cons_succ, i64_w, i32_w]
               rfl
              refine pure_ (i := 19) (N := some 144) (v := ?_) (a' := ?_) #[true, true, true, true, true, true, true, true, true, true, true, true, true, true, true, true, true, true, true, true] rfl rfl (any_of HT_.out (by kernel_rfl)) (fun _ _ _ h => h) (Or.inl ⟨by rfl, ?_⟩) ?_ ?_
              rotate_left
              ·intro w'
               go_simp
               with_reducible rfl
              rotate_left
              ·simp only [Act.put, List.setIfInBounds_toArray, List.set_cons_zero, List.set_cons_succ, i64_w, i32_w]
               rfl
              refine done_ (done_of HT_.out (by kernel_rfl)) ?_
              try go_wp2
              go_meet
              case rel => exact ⟨_, (false), (by first | rfl | (simp; done) | (simp [*]; done)), H', ⟨by have := HK1.out; have := HK2.out; first | omega | exact Nat.le_refl _⟩, ⟨by exact HO_6.out⟩, ⟨by exact HO_7.out⟩, ⟨by (with_reducible repeat (first | apply Kd.S_alloc | apply Kd.S_drewN | apply Kd.S_drew)); exact Kd.S_mono HO_224001.out (fun _ hk => hk.1)⟩, ⟨by exact HO_224002.out⟩, ⟨by (with_reducible repeat (first | apply Kd.S_alloc | apply Kd.S_drewN | apply Kd.S_drew)); exact Kd.S_mono HO262.out (fun _ hk => hk.1)⟩, ⟨by exact HO265.out⟩, ⟨by exact BK223.out⟩, ⟨by exact BK270.out⟩, ⟨by exact HB.out⟩⟩
           case rest =>
            clear HC77
            try clear p2
            try clear q2
            try clear hx2
            try clear c8
            try clear c9
            try clear hcv9
            try clear p27
            try clear q27
            try clear hx27
            try clear c87
            try clear c87b0
            try clear c87b1
            try clear c87b2
            try clear c90
            try clear c90b0
            try clear c91
            try clear c91b0
            try clear c92
            try clear c92b0
            try clear hcv96
            try clear hx271_0
            try clear p271
            try clear q271
            obtain ⟨kq, x144_76, rfl, HA, HJ76, HO_6, HO_7, HO_224001, HO_224002, HO_271001, HO_271002, BK223, BK270, HB⟩ := hcut
            cases kq with
            | zero => exact absurd HA.out (by simp [laws_FnMemBook.j4])
            | succ kj76 =>
             have H := HA.out
             clear HA
             simp only [laws_FnMemBook.j4] at H
             by_cases c99 : x144_76 = true
             ·subst c99
              have H1 : (some false) = some r := by rw [if_pos rfl] at H; exact H
              clear H
              have H := H1
              clear H1
              obtain rfl := Option.some.inj H
              go_wp2
              go_ret
              exact ⟨by first | rfl | (simp [errW_none, errW_some] <;> rfl) | (simp only [← hji7, ← hji31]; first | rfl | (simp [errW_none, errW_some] <;> rfl)) | (simp [*, errW_none, errW_some] <;> rfl), by exact HB.out⟩
             ·replace c99 := Bool.eq_false_iff.mpr c99
              subst c99
              have H1 : (if t234 < ji7 then (if x7_2.length < 5864062014805 then (laws_FnMemBook.l1 kj76 l0 ji7 (ji20) x6_2 (x7_2 ++ [(⟨1, t234, (ji20)⟩ : S35)]) (wrap64 (x9_2 + 1)) t259 t260 t263) else (none)) else (laws_FnMemBook.l1 kj76 l0 ji7 (ji20) x6_2 x7_2 (wrap64 (x9_2 + 1)) x224000_2 x224001_2 x224002_2)) = some r := by rw [if_neg (show ¬ (false = true) by decide)] at H; exact H
              clear H
              have H := H1
              clear H1
              by_cases c100 : t234 < ji7
              ·rw [if_pos c100] at H
               have c100b0 : decide (t234 < ji7) = true := decide_eq_true c100
               (try (have c87b5 : (t269 == 0) = true := by simpa [c100b0] using c87b0))
               (try (have c87b6 : (t269 != 0) = false := by simpa [c100b0] using c87b0))
               clear c100
               by_cases c101 : x7_2.length < 5864062014805
               ·rw [if_pos c101] at H
                have LMc101 := Aside0.mk c101
                clear c101
                obtain ⟨y272, hy272⟩ : ∃ y_ : List (S35), y_ = (x7_2 ++ [(⟨1, t234, (ji20)⟩ : S35)]) := ⟨_, rfl⟩
                replace H : (laws_FnMemBook.l1 kj76 l0 ji7 (ji20) x6_2 y272 (wrap64 (x9_2 + 1)) t259 t260 t263) = some r := by first | (rw [hy272]; with_reducible exact H) | (have H2_ := (Option.bind_some _ _).symm.trans H; rw [hy272]; with_reducible exact H2_) | (have H2_ := (Option.bind_some _ _).symm.trans H; with_reducible exact H2_) | with_reducible exact H | (rw [hy272]; exact H) | exact H
                have Ny272 := Aside0.mk hy272
                clear hy272
                have H' := Aside0.mk H
                clear H
                have hnb102 := NB270_223.out
                have hnc102 := NB223_270.out
                have hcz103_0 : wc.cell? ⟨gb270, 0, none⟩ = some (.int .i64 t259) := (blk_cell BK270.out 0).trans rfl
                have hcz103_1 : wc.cell? ⟨gb270, 1, none⟩ = some (.slice Ao85 t260.length co85) := (blk_cell BK270.out 1).trans rfl
                have hcz103_2 : wc.cell? ⟨gb270, 2, none⟩ = some (.slice Ao86 t263.length co86) := (blk_cell BK270.out 2).trans rfl
                have hfz103_0 := blk_frozen BK270.out 0
                have hfz103_1 := blk_frozen BK270.out 1
                have hfz103_2 := blk_frozen BK270.out 2
                have hcz104_0 : wc.cell? ⟨gb223, 0, none⟩ = some (.int .i64 x224000_2) := (blk_cell BK223.out 0).trans rfl
                have hcz104_1 : wc.cell? ⟨gb223, 1, none⟩ = some (.slice Ao79 x224001_2.length co79) := (blk_cell BK223.out 1).trans rfl
                have hcz104_2 : wc.cell? ⟨gb223, 2, none⟩ = some (.slice Ao80 x224002_2.length co80) := (blk_cell BK223.out 2).trans rfl
                have hfz104_0 := blk_frozen BK223.out 0
                have hfz104_1 := blk_frozen BK223.out 1
                have hfz104_2 := blk_frozen BK223.out 2
                go_wp2_with (first | ((with_reducible refine gate_builtin (b := .append) (xs := #[.tmp 149, .tmp 153]) rfl ?_); at_builtin; refine Kd.R_append k35 (w0 := w) w.heap.size rfl (.tmp 149) (.tmp 153) 26 35 (.agg #[(.int .i64 0), (.int .i64 0), (.int .i64 0)]) 24 rfl Tryd.underlying26 info35 rfl (by decide) (by omega) u7 x7_2 (⟨1, t234, (ji20)⟩ : S35) [.int .i64 1, .int .i64 t234, .int .i64 (ji20)] (fun k_ => some k_ ≠ (.slice Ao80 x224002_2.length co80 : Value).ownBlock ∧ some k_ ≠ (.slice Ao86 t263.length co86 : Value).ownBlock) (fun _ => False) rfl (by first | (go_simp; done) | (go_simp; rfl)) ?aP (fun _ hk => hk.elim) ?aF ?aO ?aB ?aS ?aL ?_; (case aP => exact k35_mkM _ _ _ (⟨1, t234, (ji20)⟩ : S35)); (case aB => exact (by repeat (first | (with_reducible first | exact HB.out | apply below_alloc | apply pw_below_drewN | apply below_drew1 | refine below_set ?_ GE223.out | refine below_set ?_ GE270.out) | exact HB.out))); (case aF => exact (fun k_ hk => ⟨Kd.fresh' (Kd.R_lt (by (with_reducible repeat (first | apply Kd.R_alloc | apply Kd.R_drewN | apply Kd.R_drew)); exact (Kd.R_mono (Kd.R_far (p := ⟨gb223, 2, none⟩) (Kd.R_far (p := ⟨gb223, 1, none⟩) (Kd.R_far (p := ⟨gb223, 0, none⟩) (Kd.R_types HO_224002.out BK223.out (by decide)) (fun _ hk => hk.2) (.int .i64 t259)) (fun _ hk => hk.2) (.slice Ao85 t260.length co85)) (fun _ hk => hk.2) (.slice Ao86 t263.length co86)) (fun _ h_ => h_.1)))) k_ hk, Kd.fresh' (Kd.R_lt (by (with_reducible repeat (first | apply Kd.R_alloc | apply Kd.R_drewN | apply Kd.R_drew)); exact (Kd.R_mono (Kd.R_far (p := ⟨gb223, 2, none⟩) (Kd.R_far (p := ⟨gb223, 1, none⟩) (Kd.R_far (p := ⟨gb223, 0, none⟩) (Kd.R_types HO_271002.out BK223.out (by decide)) (fun _ hk => hk.2) (.int .i64 t259)) (fun _ hk => hk.2) (.slice Ao85 t260.length co85)) (fun _ hk => hk.2) (.slice Ao86 t263.length co86)) (fun _ h_ => h_.1)))) k_ hk⟩)); (case aO => exact (by (with_reducible repeat (first | apply Kd.R_alloc | apply Kd.R_drewN | apply Kd.R_drew)); exact Kd.R_mono (Kd.R_far (p := ⟨gb223, 2, none⟩) (Kd.R_far (p := ⟨gb223, 1, none⟩) (Kd.R_far (p := ⟨gb223, 0, none⟩) (Kd.R_types HO_7.out BK223.out (by decide)) (fun _ hk => hk.2) (.int .i64 t259)) (fun _ hk => hk.2) (.slice Ao85 t260.length co85)) (fun _ hk => hk.2) (.slice Ao86 t263.length co86)) (fun _ hk => ⟨hk.1.1, hk.1.2⟩))); (case aS => exact (below_size (by repeat (first | (with_reducible first | exact HB.out | apply below_alloc | apply pw_below_drewN | apply below_drew1 | refine below_set ?_ GE223.out | refine below_set ?_ GE270.out) | exact HB.out)))); (case aL => have := LMc101.out; omega); intro v273 w105 ho hb hg hat; rw [← Ny272.out] at ho; have n0_ := Aside0.mk (Kd.R_over' (by (with_reducible repeat (first | apply Kd.R_alloc | apply Kd.R_drewN | apply Kd.R_drew)); exact (Kd.R_mono (Kd.R_far (p := ⟨gb223, 2, none⟩) (Kd.R_far (p := ⟨gb223, 1, none⟩) (Kd.R_far (p := ⟨gb223, 0, none⟩) (Kd.R_types HO_6.out BK223.out (by decide)) (fun _ hk => hk.2) (.int .i64 t259)) (fun _ hk => hk.2) (.slice Ao85 t260.length co85)) (fun _ hk => hk.2) (.slice Ao86 t263.length co86)) (fun _ h_ => h_.1))) (Kd.R_typed (by (with_reducible repeat (first | apply Kd.R_alloc | apply Kd.R_drewN | apply Kd.R_drew)); exact (Kd.R_mono (Kd.R_far (p := ⟨gb223, 2, none⟩) (Kd.R_far (p := ⟨gb223, 1, none⟩) (Kd.R_far (p := ⟨gb223, 0, none⟩) (Kd.R_types HO_7.out BK223.out (by decide)) (fun _ hk => hk.2) (.int .i64 t259)) (fun _ hk => hk.2) (.slice Ao85 t260.length co85)) (fun _ hk => hk.2) (.slice Ao86 t263.length co86)) (fun _ h_ => h_.1)))) (by decide) hg); have n1_ := Aside0.mk (Kd.S_over' (by (with_reducible repeat (first | apply Kd.S_alloc | apply Kd.S_drewN | apply Kd.S_drew)); exact (Kd.S_mono (Kd.S_far (p := ⟨gb223, 2, none⟩) (Kd.S_far (p := ⟨gb223, 1, none⟩) (Kd.S_far (p := ⟨gb223, 0, none⟩) (Kd.S_types HO_224001.out BK223.out (by decide)) (fun _ hk => hk.2) (.int .i64 t259)) (fun _ hk => hk.2) (.slice Ao85 t260.length co85)) (fun _ hk => hk.2) (.slice Ao86 t263.length co86)) (fun _ h_ => h_.1))) (Kd.R_typed (by (with_reducible repeat (first | apply Kd.R_alloc | apply Kd.R_drewN | apply Kd.R_drew)); exact (Kd.R_mono (Kd.R_far (p := ⟨gb223, 2, none⟩) (Kd.R_far (p := ⟨gb223, 1, none⟩) (Kd.R_far (p := ⟨gb223, 0, none⟩) (Kd.R_types HO_7.out BK223.out (by decide)) (fun _ hk => hk.2) (.int .i64 t259)) (fun _ hk => hk.2) (.slice Ao85 t260.length co85)) (fun _ hk => hk.2) (.slice Ao86 t263.length co86)) (fun _ h_ => h_.1)))) (by decide) hg); have n2_ := Aside0.mk (Kd.R_after (ok := (fun k_ => some k_ ≠ (.slice Ao86 t263.length co86 : Value).ownBlock)) (by (with_reducible repeat (first | apply Kd.R_alloc | apply Kd.R_drewN | apply Kd.R_drew)); exact Kd.R_mono (Kd.R_far (p := ⟨gb223, 2, none⟩) (Kd.R_far (p := ⟨gb223, 1, none⟩) (Kd.R_far (p := ⟨gb223, 0, none⟩) (Kd.R_types HO_224002.out BK223.out (by decide)) (fun _ hk => hk.2) (.int .i64 t259)) (fun _ hk => hk.2) (.slice Ao85 t260.length co85)) (fun _ hk => hk.2) (.slice Ao86 t263.length co86)) (fun _ hk => ⟨hk.1.2, hk.1.1⟩)) hg hat); have n3_ := Aside0.mk (Kd.S_over' (by (with_reducible repeat (first | apply Kd.S_alloc | apply Kd.S_drewN | apply Kd.S_drew)); exact (Kd.S_mono (Kd.S_far (p := ⟨gb223, 2, none⟩) (Kd.S_far (p := ⟨gb223, 1, none⟩) (Kd.S_far (p := ⟨gb223, 0, none⟩) (Kd.S_types HO_271001.out BK223.out (by decide)) (fun _ hk => hk.2) (.int .i64 t259)) (fun _ hk => hk.2) (.slice Ao85 t260.length co85)) (fun _ hk => hk.2) (.slice Ao86 t263.length co86)) (fun _ h_ => h_.1))) (Kd.R_typed (by (with_reducible repeat (first | apply Kd.R_alloc | apply Kd.R_drewN | apply Kd.R_drew)); exact (Kd.R_mono (Kd.R_far (p := ⟨gb223, 2, none⟩) (Kd.R_far (p := ⟨gb223, 1, none⟩) (Kd.R_far (p := ⟨gb223, 0, none⟩) (Kd.R_types HO_7.out BK223.out (by decide)) (fun _ hk => hk.2) (.int .i64 t259)) (fun _ hk => hk.2) (.slice Ao85 t260.length co85)) (fun _ hk => hk.2) (.slice Ao86 t263.length co86)) (fun _ h_ => h_.1)))) (by decide) hg); have n4_ := Aside0.mk (Kd.R_after (ok := (fun k_ => some k_ ≠ (.slice Ao80 x224002_2.length co80 : Value).ownBlock)) (by (with_reducible repeat (first | apply Kd.R_alloc | apply Kd.R_drewN | apply Kd.R_drew)); exact Kd.R_mono (Kd.R_far (p := ⟨gb223, 2, none⟩) (Kd.R_far (p := ⟨gb223, 1, none⟩) (Kd.R_far (p := ⟨gb223, 0, none⟩) (Kd.R_types HO_271002.out BK223.out (by decide)) (fun _ hk => hk.2) (.int .i64 t259)) (fun _ hk => hk.2) (.slice Ao85 t260.length co85)) (fun _ hk => hk.2) (.slice Ao86 t263.length co86)) (fun _ hk => ⟨hk.1.2, hk.1.1⟩)) hg hat); have n5_ := Aside0.mk (blk_grown (g := gb223) (o := .cells #[.int .i64 t259, .slice Ao85 t260.length co85, .slice Ao86 t263.length co86] 28 (0, 0)) (by (with_reducible repeat (first | refine blk_drewN ?_ _ | refine blk_drew ?_ | refine blk_alloc ?_ _)); refine blk_put (cs := #[.int .i64 t259, .slice Ao85 t260.length co85, .slice Ao80 x224002_2.length co80]) ?_ 2 _ rfl; (with_reducible repeat (first | refine blk_drewN ?_ _ | refine blk_drew ?_ | refine blk_alloc ?_ _)); refine blk_put (cs := #[.int .i64 t259, .slice Ao79 x224001_2.length co79, .slice Ao80 x224002_2.length co80]) ?_ 1 _ rfl; (with_reducible repeat (first | refine blk_drewN ?_ _ | refine blk_drew ?_ | refine blk_alloc ?_ _)); refine blk_put (cs := #[.int .i64 x224000_2, .slice Ao79 x224001_2.length co79, .slice Ao80 x224002_2.length co80]) ?_ 0 _ rfl; exact BK223.out) hg (Kd.R_ne HO_7.out BK223.out (by decide))); have n6_ := Aside0.mk (blk_grown (g := gb270) (o := .cells #[.int .i64 t259, .slice Ao85 t260.length co85, .slice Ao86 t263.length co86] 28 (0, 0)) (by (with_reducible repeat (first | refine blk_drewN ?_ _ | refine blk_drew ?_ | refine blk_alloc ?_ _)); refine blk_far ?_ NB270_223.out _; (with_reducible repeat (first | refine blk_drewN ?_ _ | refine blk_drew ?_ | refine blk_alloc ?_ _)); refine blk_far ?_ NB270_223.out _; (with_reducible repeat (first | refine blk_drewN ?_ _ | refine blk_drew ?_ | refine blk_alloc ?_ _)); refine blk_far ?_ NB270_223.out _; exact BK270.out) hg (Kd.R_ne HO_7.out BK270.out (by decide))); have n7_ := Aside0.mk (hb); have n8_ := Aside0.mk (ho); clear HO_6; clear HO_224001; clear HO_224002; clear HO_271001; clear HO_271002; clear BK223; clear BK270; clear HB; clear HO_7; have HO_6 := n0_; have HO_224001 := n1_; have HO_224002 := n2_; have HO_271001 := n3_; have HO_271002 := n4_; have BK223 := n5_; have BK270 := n6_; have HB := n7_; have HO274 := n8_; clear n0_ n1_ n2_ n3_ n4_ n5_ n6_ n7_ n8_; clear ho hb hg hat))
                go_roundg kj76
                case measure => have := HK1.out; have := HK2.out; have := HJ76.out; omega
                case rel => exact ⟨(x6_2), (y272), (wrap64 (x9_2 + 1)), (t259), (t260), (t263), (.slice Ao85 t260.length co85), (.slice Ao86 t263.length co86), (by first | rfl | (simp; done) | (simp [*]; done)), H', ⟨by have := HK1.out; have := HK2.out; have := HJ76.out; omega⟩, ⟨by exact HO_6.out⟩, ⟨by (with_reducible repeat (first | apply Kd.R_alloc | apply Kd.R_drewN | apply Kd.R_drew)); exact Kd.R_mono HO274.out (fun _ hk => hk.2)⟩, ⟨by (with_reducible repeat (first | apply Kd.S_alloc | apply Kd.S_drewN | apply Kd.S_drew)); exact Kd.S_mono HO_271001.out (fun _ hk => trivial)⟩, ⟨by (with_reducible repeat (first | apply Kd.R_alloc | apply Kd.R_drewN | apply Kd.R_drew)); exact Kd.R_mono HO_271002.out (fun _ hk => hk.2)⟩, ⟨by exact BK223.out⟩, ⟨by exact HB.out⟩⟩
               ·rw [if_neg c101] at H
                exact absurd H (by simp)
              ·rw [if_neg c100] at H
               have c100b0 : decide (t234 < ji7) = false := decide_eq_false c100
               (try (have c87b5 : (t269 == 0) = false := by simpa [c100b0] using c87b0))
               (try (have c87b6 : (t269 != 0) = true := by simpa [c100b0] using c87b0))
               clear c100
               have H' := Aside0.mk H
               clear H
               go_wp2
               go_roundg kj76
               case measure => have := HK1.out; have := HK2.out; have := HJ76.out; omega
               case rel => exact ⟨(x6_2), (x7_2), (wrap64 (x9_2 + 1)), (x224000_2), (x224001_2), (x224002_2), (.slice Ao79 x224001_2.length co79), (.slice Ao80 x224002_2.length co80), (by first | rfl | (simp; done) | (simp [*]; done)), H', ⟨by have := HK1.out; have := HK2.out; have := HJ76.out; omega⟩, ⟨by exact HO_6.out⟩, ⟨by (with_reducible repeat (first | apply Kd.R_alloc | apply Kd.R_drewN | apply Kd.R_drew)); exact Kd.R_mono HO_7.out (fun _ hk => hk.1)⟩, ⟨by (with_reducible repeat (first | apply Kd.S_alloc | apply Kd.S_drewN | apply Kd.S_drew)); exact Kd.S_mono HO_224001.out (fun _ hk => trivial)⟩, ⟨by (with_reducible repeat (first | apply Kd.R_alloc | apply Kd.R_drewN | apply Kd.R_drew)); exact Kd.R_mono HO_224002.out (fun _ hk => hk.1)⟩, ⟨by exact BK223.out⟩, ⟨by exact HB.out⟩⟩
         ·rw [if_neg c32] at H
          have c32b0 : decide (x9_2 < (ji31)) = false := decide_eq_false c32
          clear c32
          have H' := Aside0.mk H
          clear H
          go_wp2
          go_loopg [17, 18] k2 (fun kq v17 v18 w' => ∃ (x17_3 : ByteArray) (x18_3 : Int), v17 = .string x17_3 ∧ v18 = .int .i64 x18_3 ∧ Aside0 (laws_FnMemBook.l3 kq ji7 x6_2 x7_2 x17_3 x18_3 x224000_2 x224001_2 x224002_2 = some r) ∧ Aside0 (kq ≤ k2) ∧ Aside0 (Kd.R Kd.string 9 w' w.heap.size (fun _ => True) v225 x6_2) ∧ Aside0 (Kd.R k35 35 w' w.heap.size (fun k_ => some k_ ≠ (u224002 : Value).ownBlock) u7 x7_2) ∧ Aside0 (Kd.S k56 56 w' w.heap.size (fun _ => True) u224001 x224001_2) ∧ Aside0 (Kd.R k35 35 w' w.heap.size (fun k_ => some k_ ≠ (u7 : Value).ownBlock) u224002 x224002_2) ∧ Aside0 (w'.heap[gb223]? = some (.cells #[.int .i64 x224000_2, u224001, u224002] 28 (0, 0))) ∧ Aside0 (Below w.heap.size w w'))
          case atStart => exact ⟨((⟨#[]⟩ : ByteArray)), (0), (by first | rfl | (simp; done) | (simp [*]; done)), (by first | rfl | (simp; done) | (simp [*]; done)), H', ⟨Nat.le_refl _⟩, ⟨by exact HO_6.out⟩, ⟨by exact HO_7.out⟩, ⟨by exact HO_224001.out⟩, ⟨by exact HO_224002.out⟩, ⟨by exact BK223.out⟩, ⟨by exact HB.out⟩⟩
          case round =>
           clear H'
           try clear c1
           try clear p2
           try clear q2
           try clear hx2
           try clear c3
           try clear p6
           try clear c8
           try clear c9
           try clear hcv9
           try clear c10
           try clear p27
           try clear q27
           try clear hx27
           try clear c32
           try clear c32b0
           try clear p64
           try clear c87
           try clear c87b0
           try clear c87b1
           try clear c87b2
           try clear c90
           try clear c90b0
           try clear c91
           try clear c91b0
           try clear c92
           try clear c92b0
           try clear hcv96
           try clear c99
           try clear c100
           try clear c100b0
           try clear c101
           try clear c102
           try clear hcz103_0
           try clear hcz103_1
           try clear hcz103_2
           try clear hcz104_0
           try clear hcz104_1
           try clear hcz104_2
           try clear hfz103_0
           try clear hfz103_1
           try clear hfz103_2
           try clear hfz104_0
           try clear hfz104_1
           try clear hfz104_2
           try clear hx271_0
           try clear p2
           try clear p27
           try clear p271
           try clear q2
           try clear q27
           try clear q271
           obtain ⟨x17_3, x18_3, rfl, rfl, HA, HK3, HO_6, HO_7, HO_224001, HO_224002, BK223, HB⟩ := hrel
           cases gk with
           | zero => exact absurd HA.out (by simp [laws_FnMemBook.l3])
           | succ k3 =>
            have H := HA.out
            clear HA
            simp only [laws_FnMemBook.l3] at H
            by_cases c106 : x18_3 < ji7
            ·rw [if_pos c106] at H
             have c106b0 : decide (x18_3 < ji7) = true := decide_eq_true c106
             clear c106
             by_cases c107 : 0 ≤ x18_3
             ·rw [if_pos c107] at H
              have c107b0 : decide (0 ≤ x18_3) = true := decide_eq_true c107
              clear c107
              by_cases c108 : x18_3 < (x6_2.length : Int)
              ·rw [if_pos c108] at H
               have c108b0 : decide (x18_3 < (x6_2.length : Int)) = true := decide_eq_true c108
               clear c108
               by_cases c109 : x17_3.size + (rdOf ByteArray.empty x6_2 x18_3).size ≤ 9223372036854775807
               ·rw [if_pos c109] at H
                have c109b0 := eq_true c109
                have c109b1 : decide (x17_3.size + (rdOf ByteArray.empty x6_2 x18_3).size ≤ 9223372036854775807) = true := decide_eq_true c109
                try have c109b2 : (9223372036854775807 < x17_3.size + (rdOf ByteArray.empty x6_2 x18_3).size) = False := eq_false (Nat.not_lt.2 c109)
                have H' := Aside0.mk H
                clear H
                obtain ⟨Ao110, co110, eo110⟩ := Kd.R_slice HO_6.out
                subst eo110
                have p275 : 0 ≤ (x18_3 : Int) := of_decide_eq_true (by first | (with_reducible assumption) | assumption)
                have q275 : x18_3 < (x6_2.length : Int) := of_decide_eq_true (by first | (with_reducible assumption) | assumption)
                obtain ⟨ad275, e275, hx275_0⟩ := Kd.at_string (Kd.R_reads' HO_6.out).2.2 x18_3 p275 q275
                cases e275
                replace p275 := eq_true p275
                replace q275 := eq_true q275
                go_wp2
                go_roundg k3
                case measure => have := HK1.out; have := HK2.out; have := HK3.out; omega
                case rel => exact ⟨(x17_3 ++ (rdOf ByteArray.empty x6_2 x18_3)), (wrap64 (x18_3 + 1)), (by first | rfl | (simp; done) | (simp [*]; done)), (by first | rfl | (simp; done) | (simp [*]; done)), H', ⟨by have := HK1.out; have := HK2.out; have := HK3.out; omega⟩, ⟨by exact HO_6.out⟩, ⟨by exact HO_7.out⟩, ⟨by exact HO_224001.out⟩, ⟨by exact HO_224002.out⟩, ⟨by exact BK223.out⟩, ⟨by exact HB.out⟩⟩
               ·rw [if_neg c109] at H
                exact absurd H (by simp)
              ·rw [if_neg c108] at H
               exact absurd H (by simp)
             ·rw [if_neg c107] at H
              exact absurd H (by simp)
            ·rw [if_neg c106] at H
             have c106b0 : decide (x18_3 < ji7) = false := decide_eq_false c106
             clear c106
             replace H := Option.bind_eq_some_iff.mp H
             obtain ⟨⟨t276, t277, t280, t283, t286⟩, A1110, H⟩ := H
             replace H : (if t286 = 0 then (if (strOfNums t283).toList = x17_3.toList then ((laws_sameLog.f k3 x224002_2 x7_2).bind fun t288 => (if t288 = true then ((impl_TouchText.f k3 x224002_2).bind fun t289 => ((spec_TouchText.f k3 x7_2).bind fun t290 => (some (t289.toList == t290.toList)))) else (some false))) else (some false)) else (some false)) = some r := H
             have A111 := Aside0.mk A1110
             clear A1110
             by_cases c112 : t286 = 0
             ·rw [if_pos c112] at H
              have c112b0 : (t286 == 0) = true := beq_iff_eq.mpr c112
              have c112b1 : (t286 != 0) = false := bne_eq_false_iff_eq.mpr c112
              clear c112
              by_cases c113 : (strOfNums t283).toList = x17_3.toList
              ·rw [if_pos c113] at H
               have c113b0 : ((strOfNums t283).toList == x17_3.toList) = true := beq_iff_eq.mpr c113
               have c113b1 : ((strOfNums t283).toList != x17_3.toList) = false := bne_eq_false_iff_eq.mpr c113
               clear c113
               replace H := Option.bind_eq_some_iff.mp H
               obtain ⟨t288, A1140, H⟩ := H
               replace H : (if t288 = true then ((impl_TouchText.f k3 x224002_2).bind fun t289 => ((spec_TouchText.f k3 x7_2).bind fun t290 => (some (t289.toList == t290.toList)))) else (some false)) = some r := H
               have A114 := Aside0.mk A1140
               clear A1140
               by_cases c115 : t288 = true
               ·subst c115
                have H1 : ((impl_TouchText.f k3 x224002_2).bind fun t289 => ((spec_TouchText.f k3 x7_2).bind fun t290 => (some (t289.toList == t290.toList)))) = some r := by rw [if_pos rfl] at H; exact H
                clear H
                have H := H1
                clear H1
                replace H := Option.bind_eq_some_iff.mp H
                obtain ⟨t289, A1160, H⟩ := H
                replace H : ((spec_TouchText.f k3 x7_2).bind fun t290 => (some (t289.toList == t290.toList))) = some r := H
                have A116 := Aside0.mk A1160
                clear A1160
                replace H := Option.bind_eq_some_iff.mp H
                obtain ⟨t290, A1170, H⟩ := H
                replace H : (some (t289.toList == t290.toList)) = some r := H
                have A117 := Aside0.mk A1170
                clear A1170
                obtain rfl := Option.some.inj H
                have hcz118_0 : wr.cell? ⟨gb223, 0, none⟩ = some (.int .i64 x224000_2) := (blk_cell BK223.out 0).trans rfl
                have hcz118_1 : wr.cell? ⟨gb223, 1, none⟩ = some (u224001) := (blk_cell BK223.out 1).trans rfl
                have hcz118_2 : wr.cell? ⟨gb223, 2, none⟩ = some (u224002) := (blk_cell BK223.out 2).trans rfl
                have hfz118_0 := blk_frozen BK223.out 0
                have hfz118_1 := blk_frozen BK223.out 1
                have hfz118_2 := blk_frozen BK223.out 2
                obtain ⟨Ao119, co119, eo119⟩ := Kd.S_slice HO_224001.out
                subst eo119
                obtain ⟨Ao120, co120, eo120⟩ := Kd.R_slice HO_224002.out
                subst eo120
                go_wp2_with (first | ((with_reducible refine gate_callee (f := 11) rfl ?_); refine goesL_ (some 168) rfl rfl Tryd.func11 (by kernel_rfl) rfl #[.agg #[.int .i64 x224000_2, .slice Ao119 x224001_2.length co119, .slice Ao120 x224002_2.length co120]] rfl (by (try simp only [List.map_toArray, List.map_cons, List.map_nil]); first | done | rfl | (simp only [List.length_drop, List.length_take]; rfl)) ?_; (with_reducible refine (impl_MemSweep.calls x224000_2 _ _ x224001_2 _ _ x224002_2 t276 t277 t280 t283 t286 _ ?side1 ?side2 ?side3 ?side4 A111.out).mono ?_); (case side1 => repeat (first | exact (Kd.S_reads' HO_224001.out).2.2 | (with_reducible refine Kd.C_alloc ?_ _) | (with_reducible refine Kd.C_drewN ?_ _) | (with_reducible refine Kd.C_drew ?_))); (case side2 => exact (Kd.S_reads' HO_224001.out).2.1); (case side3 => repeat (first | exact (Kd.R_reads' HO_224002.out).2.2 | (with_reducible refine Kd.C_alloc ?_ _) | (with_reducible refine Kd.C_drewN ?_ _) | (with_reducible refine Kd.C_drew ?_))); (case side4 => exact (Kd.R_reads' HO_224002.out).2.1); rintro e w121 ⟨v278, v281, v284, rfl, ho0, ho1, ho2, hb⟩; refine ⟨_, rfl, ?_⟩; have n0_ := Aside0.mk (Kd.R_below (by exact HO_6.out) hb); have n1_ := Aside0.mk (Kd.R_elder' (by exact HO_7.out) (Kd.R_base ho1) hb); have n2_ := Aside0.mk (Kd.S_mono (Kd.S_told (Kd.S_told (Kd.S_old (by exact HO_224001.out) hb) (Kd.S_base ho0)) (Kd.R_base ho2)) (fun _ h_ => h_.1)); have n3_ := Aside0.mk (Kd.R_elder' (by exact HO_224002.out) (Kd.R_base ho1) hb); have n4_ := Aside0.mk (Kd.S_lower (Kd.S_new' ho0 (Kd.S_lt (by exact HO_224001.out))) (below_size (by exact HB.out))); have n5_ := Aside0.mk (Kd.R_lower (Kd.R_new' (Kd.R_new' ho1 (Kd.R_lt (by exact HO_7.out))) (Kd.R_lt (by exact HO_224002.out))) (below_size (by exact HB.out))); have n6_ := Aside0.mk (Kd.R_lower ho2 (below_size (by exact HB.out))); have n7_ := Aside0.mk (blk_below (g := gb223) (o := .cells #[.int .i64 x224000_2, .slice Ao119 x224001_2.length co119, .slice Ao120 x224002_2.length co120] 28 (0, 0)) (by exact BK223.out) hb); have n8_ := Aside0.mk (below_step (by exact HB.out) hb); clear HO_6; clear HO_7; clear HO_224001; clear HO_224002; clear BK223; clear HB; have HO_6 := n0_; have HO_7 := n1_; have HO_224001 := n2_; have HO_224002 := n3_; have HO279 := n4_; have HO282 := n5_; have HO285 := n6_; have BK223 := n7_; have HB := n8_; clear n0_ n1_ n2_ n3_ n4_ n5_ n6_ n7_ n8_; (try clear hb); (try clear hb2); (try clear hk); (try clear hi); (try clear ho0); (try clear ho1); (try clear ho2)) | ((with_reducible refine gate_dst (N := 19) rfl ?_); refine box_event ?hg (N := 19) ?hd (cs := #[.int .i64 0, .slice none 0 0, .slice none 0 0]) (t := 28) ?hr ?_; (case hd => rfl); (case hg => rfl); (case hr => first | (go_simp; done) | (go_simp; rfl)); intro gb287 hg w122 hbox hb; have n0_ := Aside0.mk (Kd.R_below (by exact HO_6.out) hb); have n1_ := Aside0.mk (Kd.R_below (by exact HO_7.out) hb); have n2_ := Aside0.mk (Kd.S_below (by exact HO_224001.out) hb); have n3_ := Aside0.mk (Kd.R_below (by exact HO_224002.out) hb); have n4_ := Aside0.mk (Kd.S_below (by exact HO279.out) hb); have n5_ := Aside0.mk (Kd.R_below (by exact HO282.out) hb); have n6_ := Aside0.mk (Kd.R_below (by exact HO285.out) hb); have n7_ := Aside0.mk (blk_below (g := gb223) (o := .cells #[.int .i64 x224000_2, .slice Ao119 x224001_2.length co119, .slice Ao120 x224002_2.length co120] 28 (0, 0)) (by exact BK223.out) hb); have n8_ := Aside0.mk (below_step (by exact HB.out) hb); have n9_ := Aside0.mk (hbox); have n10_ := Aside0.mk ((by rw [hg]; exact (below_size (by exact HB.out)) : w.heap.size ≤ gb287)); have n11_ := Aside0.mk ((by rw [hg]; exact (below_size (by exact HB.out)) : w.heap.size ≤ gb287)); have n12_ := Aside0.mk ((by rw [hg]; exact Nat.ne_of_lt (blk_lt (g := gb223) (o := .cells #[.int .i64 x224000_2, .slice Ao119 x224001_2.length co119, .slice Ao120 x224002_2.length co120] 28 (0, 0)) (by exact BK223.out)) : gb223 ≠ gb287)); have n13_ := Aside0.mk ((by rw [hg]; exact Nat.ne_of_gt (blk_lt (g := gb223) (o := .cells #[.int .i64 x224000_2, .slice Ao119 x224001_2.length co119, .slice Ao120 x224002_2.length co120] 28 (0, 0)) (by exact BK223.out)) : gb287 ≠ gb223)); clear HO_6; clear HO_7; clear HO_224001; clear HO_224002; clear HO279; clear HO282; clear HO285; clear BK223; clear HB; have HO_6 := n0_; have HO_7 := n1_; have HO_224001 := n2_; have HO_224002 := n3_; have HO279 := n4_; have HO282 := n5_; have HO285 := n6_; have BK223 := n7_; have HB := n8_; have BK287 := n9_; have GW287 := n10_; have GE287 := n11_; have NB223_287 := n12_; have NB287_223 := n13_; clear n0_ n1_ n2_ n3_ n4_ n5_ n6_ n7_ n8_ n9_ n10_ n11_ n12_ n13_; clear hb hbox hg; have hnb123 := NB287_223.out; have hnc123 := NB223_287.out; have hcz124_0 : w122.cell? ⟨gb287, 0, none⟩ = some (.int .i64 0) := (blk_cell BK287.out 0).trans rfl; have hcz124_1 : w122.cell? ⟨gb287, 1, none⟩ = some (.slice none 0 0) := (blk_cell BK287.out 1).trans rfl; have hcz124_2 : w122.cell? ⟨gb287, 2, none⟩ = some (.slice none 0 0) := (blk_cell BK287.out 2).trans rfl; have hfz124_0 := blk_frozen BK287.out 0; have hfz124_1 := blk_frozen BK287.out 1; have hfz124_2 := blk_frozen BK287.out 2; obtain ⟨Ao125, co125, eo125⟩ := Kd.S_slice HO279.out; subst eo125; obtain ⟨Ao126, co126, eo126⟩ := Kd.R_slice HO282.out; subst eo126; have hcv127 := own_string (P := Tryd.prog) Tryd.underlying22 Tryd.underlying5 Tryd.underlying9 (Kd.own_of_R (Kd.R_far (p := ⟨gb287, 2, none⟩) (Kd.R_far (p := ⟨gb287, 1, none⟩) (Kd.R_far (p := ⟨gb287, 0, none⟩) (Kd.R_types HO285.out BK287.out (by decide)) (fun _ hk => hk.2) (.int .i64 t276)) (fun _ hk => hk.2) (.slice Ao125 t277.length co125)) (fun _ hk => hk.2) (.slice Ao126 t280.length co126))); have hcz128_0 : w122.cell? ⟨gb223, 0, none⟩ = some (.int .i64 x224000_2) := (blk_cell BK223.out 0).trans rfl; have hcz128_1 : w122.cell? ⟨gb223, 1, none⟩ = some (.slice Ao119 x224001_2.length co119) := (blk_cell BK223.out 1).trans rfl; have hcz128_2 : w122.cell? ⟨gb223, 2, none⟩ = some (.slice Ao120 x224002_2.length co120) := (blk_cell BK223.out 2).trans rfl; have hfz128_0 := blk_frozen BK223.out 0; have hfz128_1 := blk_frozen BK223.out 1; have hfz128_2 := blk_frozen BK223.out 2; obtain ⟨Ao129, co129, eo129⟩ := Kd.R_slice HO_7.out; subst eo129) | (go_at_call 12; (with_reducible refine (laws_sameLog.calls k3 _ _ x224002_2 _ _ x7_2 true _ ?side1 ?side2 ?side3 ?side4 A114.out).mono ?_); (case side1 => refine (Kd.R_reads' (e := 35) (base := w.heap.size) (ok := fun k_ => (some k_ ≠ (.slice Ao129 x7_2.length co129 : Value).ownBlock ∧ some k_ ≠ (.slice Ao126 t280.length co126 : Value).ownBlock)) (n := x224002_2.length) (c := co120) ?_).2.2; exact (by (with_reducible repeat (first | apply Kd.R_alloc | apply Kd.R_drewN | apply Kd.R_drew)); exact (Kd.R_mono (Kd.R_far (p := ⟨gb287, 2, none⟩) (Kd.R_far (p := ⟨gb287, 1, none⟩) (Kd.R_far (p := ⟨gb287, 0, none⟩) (Kd.R_types HO_224002.out BK287.out (by decide)) (fun _ hk => hk.2) (.int .i64 t276)) (fun _ hk => hk.2) (.slice Ao125 t277.length co125)) (fun _ hk => hk.2) (.slice Ao126 t280.length co126)) (fun _ h_ => h_.1)))); (case side2 => exact (Kd.R_reads' HO_224002.out).2.1); (case side3 => refine (Kd.R_reads' (e := 35) (base := w.heap.size) (ok := fun k_ => (some k_ ≠ (.slice Ao120 x224002_2.length co120 : Value).ownBlock ∧ some k_ ≠ (.slice Ao126 t280.length co126 : Value).ownBlock)) (n := x7_2.length) (c := co129) ?_).2.2; exact (by (with_reducible repeat (first | apply Kd.R_alloc | apply Kd.R_drewN | apply Kd.R_drew)); exact (Kd.R_mono (Kd.R_far (p := ⟨gb287, 2, none⟩) (Kd.R_far (p := ⟨gb287, 1, none⟩) (Kd.R_far (p := ⟨gb287, 0, none⟩) (Kd.R_types HO_7.out BK287.out (by decide)) (fun _ hk => hk.2) (.int .i64 t276)) (fun _ hk => hk.2) (.slice Ao125 t277.length co125)) (fun _ hk => hk.2) (.slice Ao126 t280.length co126)) (fun _ h_ => h_.1)))); (case side4 => exact (Kd.R_reads' HO_7.out).2.1); rintro e w' ⟨rfl, ⟨nd, rfl⟩⟩) | (go_at_call 13; (with_reducible refine (impl_TouchText.calls k3 _ _ x224002_2 t289 _ ?side1 ?side2 A116.out (by with_reducible repeat (first | exact HDoor.out | exact DoorW.below HDoor.out HB.out | refine DoorW.drewN ?_ _ | refine DoorW.drew ?_ | refine DoorW.alloc ?_ _ | exact DoorW.below HDoor.out (by repeat (first | (with_reducible first | exact HB.out | apply below_alloc | apply pw_below_drewN | apply below_drew1 | refine below_set ?_ GE223.out | refine below_set ?_ GE287.out) | exact HB.out))))).mono ?_); (case side1 => refine (Kd.R_reads' (e := 35) (base := w.heap.size) (ok := fun k_ => (some k_ ≠ (.slice Ao129 x7_2.length co129 : Value).ownBlock ∧ some k_ ≠ (.slice Ao126 t280.length co126 : Value).ownBlock)) (n := x224002_2.length) (c := co120) ?_).2.2; exact (by (with_reducible repeat (first | apply Kd.R_alloc | apply Kd.R_drewN | apply Kd.R_drew)); exact (Kd.R_mono (Kd.R_far (p := ⟨gb287, 2, none⟩) (Kd.R_far (p := ⟨gb287, 1, none⟩) (Kd.R_far (p := ⟨gb287, 0, none⟩) (Kd.R_types HO_224002.out BK287.out (by decide)) (fun _ hk => hk.2) (.int .i64 t276)) (fun _ hk => hk.2) (.slice Ao125 t277.length co125)) (fun _ hk => hk.2) (.slice Ao126 t280.length co126)) (fun _ h_ => h_.1)))); (case side2 => exact (Kd.R_reads' HO_224002.out).2.1); rintro e w130 ⟨rfl, hb⟩; have n0_ := Aside0.mk (Kd.R_below (by (with_reducible repeat (first | apply Kd.R_alloc | apply Kd.R_drewN | apply Kd.R_drew)); exact (Kd.R_mono (Kd.R_far (p := ⟨gb287, 2, none⟩) (Kd.R_far (p := ⟨gb287, 1, none⟩) (Kd.R_far (p := ⟨gb287, 0, none⟩) (Kd.R_types HO_6.out BK287.out (by decide)) (fun _ hk => hk.2) (.int .i64 t276)) (fun _ hk => hk.2) (.slice Ao125 t277.length co125)) (fun _ hk => hk.2) (.slice Ao126 t280.length co126)) (fun _ h_ => h_.1))) hb); have n1_ := Aside0.mk (Kd.R_below (by (with_reducible repeat (first | apply Kd.R_alloc | apply Kd.R_drewN | apply Kd.R_drew)); exact (Kd.R_mono (Kd.R_far (p := ⟨gb287, 2, none⟩) (Kd.R_far (p := ⟨gb287, 1, none⟩) (Kd.R_far (p := ⟨gb287, 0, none⟩) (Kd.R_types HO_7.out BK287.out (by decide)) (fun _ hk => hk.2) (.int .i64 t276)) (fun _ hk => hk.2) (.slice Ao125 t277.length co125)) (fun _ hk => hk.2) (.slice Ao126 t280.length co126)) (fun _ h_ => h_.1))) hb); have n2_ := Aside0.mk (Kd.S_below (by (with_reducible repeat (first | apply Kd.S_alloc | apply Kd.S_drewN | apply Kd.S_drew)); exact (Kd.S_mono (Kd.S_far (p := ⟨gb287, 2, none⟩) (Kd.S_far (p := ⟨gb287, 1, none⟩) (Kd.S_far (p := ⟨gb287, 0, none⟩) (Kd.S_types HO_224001.out BK287.out (by decide)) (fun _ hk => hk.2) (.int .i64 t276)) (fun _ hk => hk.2) (.slice Ao125 t277.length co125)) (fun _ hk => hk.2) (.slice Ao126 t280.length co126)) (fun _ h_ => h_.1))) hb); have n3_ := Aside0.mk (Kd.R_below (by (with_reducible repeat (first | apply Kd.R_alloc | apply Kd.R_drewN | apply Kd.R_drew)); exact (Kd.R_mono (Kd.R_far (p := ⟨gb287, 2, none⟩) (Kd.R_far (p := ⟨gb287, 1, none⟩) (Kd.R_far (p := ⟨gb287, 0, none⟩) (Kd.R_types HO_224002.out BK287.out (by decide)) (fun _ hk => hk.2) (.int .i64 t276)) (fun _ hk => hk.2) (.slice Ao125 t277.length co125)) (fun _ hk => hk.2) (.slice Ao126 t280.length co126)) (fun _ h_ => h_.1))) hb); have n4_ := Aside0.mk (Kd.S_below (by (with_reducible repeat (first | apply Kd.S_alloc | apply Kd.S_drewN | apply Kd.S_drew)); exact (Kd.S_mono (Kd.S_far (p := ⟨gb287, 2, none⟩) (Kd.S_far (p := ⟨gb287, 1, none⟩) (Kd.S_far (p := ⟨gb287, 0, none⟩) (Kd.S_types HO279.out BK287.out (by decide)) (fun _ hk => hk.2) (.int .i64 t276)) (fun _ hk => hk.2) (.slice Ao125 t277.length co125)) (fun _ hk => hk.2) (.slice Ao126 t280.length co126)) (fun _ h_ => h_.1))) hb); have n5_ := Aside0.mk (Kd.R_below (by (with_reducible repeat (first | apply Kd.R_alloc | apply Kd.R_drewN | apply Kd.R_drew)); exact (Kd.R_mono (Kd.R_far (p := ⟨gb287, 2, none⟩) (Kd.R_far (p := ⟨gb287, 1, none⟩) (Kd.R_far (p := ⟨gb287, 0, none⟩) (Kd.R_types HO282.out BK287.out (by decide)) (fun _ hk => hk.2) (.int .i64 t276)) (fun _ hk => hk.2) (.slice Ao125 t277.length co125)) (fun _ hk => hk.2) (.slice Ao126 t280.length co126)) (fun _ h_ => h_.1))) hb); have n6_ := Aside0.mk (Kd.R_below (by (with_reducible repeat (first | apply Kd.R_alloc | apply Kd.R_drewN | apply Kd.R_drew)); exact (Kd.R_mono (Kd.R_far (p := ⟨gb287, 2, none⟩) (Kd.R_far (p := ⟨gb287, 1, none⟩) (Kd.R_far (p := ⟨gb287, 0, none⟩) (Kd.R_types HO285.out BK287.out (by decide)) (fun _ hk => hk.2) (.int .i64 t276)) (fun _ hk => hk.2) (.slice Ao125 t277.length co125)) (fun _ hk => hk.2) (.slice Ao126 t280.length co126)) (fun _ h_ => h_.1))) hb); have n7_ := Aside0.mk (blk_below (g := gb223) (o := .cells #[.int .i64 x224000_2, .slice Ao119 x224001_2.length co119, .slice Ao120 x224002_2.length co120] 28 (0, 0)) (by (with_reducible repeat (first | refine blk_drewN ?_ _ | refine blk_drew ?_ | refine blk_alloc ?_ _)); refine blk_far ?_ NB223_287.out _; (with_reducible repeat (first | refine blk_drewN ?_ _ | refine blk_drew ?_ | refine blk_alloc ?_ _)); refine blk_far ?_ NB223_287.out _; (with_reducible repeat (first | refine blk_drewN ?_ _ | refine blk_drew ?_ | refine blk_alloc ?_ _)); refine blk_far ?_ NB223_287.out _; exact BK223.out) hb); have n8_ := Aside0.mk (blk_below (g := gb287) (o := .cells #[.int .i64 t276, .slice Ao125 t277.length co125, .slice Ao126 t280.length co126] 28 (0, 0)) (by (with_reducible repeat (first | refine blk_drewN ?_ _ | refine blk_drew ?_ | refine blk_alloc ?_ _)); refine blk_put (cs := #[.int .i64 t276, .slice Ao125 t277.length co125, .slice none 0 0]) ?_ 2 _ rfl; (with_reducible repeat (first | refine blk_drewN ?_ _ | refine blk_drew ?_ | refine blk_alloc ?_ _)); refine blk_put (cs := #[.int .i64 t276, .slice none 0 0, .slice none 0 0]) ?_ 1 _ rfl; (with_reducible repeat (first | refine blk_drewN ?_ _ | refine blk_drew ?_ | refine blk_alloc ?_ _)); refine blk_put (cs := #[.int .i64 0, .slice none 0 0, .slice none 0 0]) ?_ 0 _ rfl; exact BK287.out) hb); have n9_ := Aside0.mk (below_step (by repeat (first | (with_reducible first | exact HB.out | apply below_alloc | apply pw_below_drewN | apply below_drew1 | refine below_set ?_ GE223.out | refine below_set ?_ GE287.out) | exact HB.out)) hb); clear HO_6; clear HO_7; clear HO_224001; clear HO_224002; clear HO279; clear HO282; clear HO285; clear BK223; clear BK287; clear HB; have HO_6 := n0_; have HO_7 := n1_; have HO_224001 := n2_; have HO_224002 := n3_; have HO279 := n4_; have HO282 := n5_; have HO285 := n6_; have BK223 := n7_; have BK287 := n8_; have HB := n9_; clear n0_ n1_ n2_ n3_ n4_ n5_ n6_ n7_ n8_ n9_; (try clear hb); (try clear hb2); (try clear hk); (try clear hi)) | (go_at_call 14; (with_reducible refine (spec_TouchText.calls k3 _ _ x7_2 t290 _ ?side1 ?side2 A117.out).mono ?_); (case side1 => repeat (first | exact (Kd.R_reads' HO_7.out).2.2 | (with_reducible refine Kd.C_alloc ?_ _) | (with_reducible refine Kd.C_drewN ?_ _) | (with_reducible refine Kd.C_drew ?_))); (case side2 => exact (Kd.R_reads' HO_7.out).2.1); rintro e w131 ⟨rfl, hb⟩; have n0_ := Aside0.mk (Kd.R_below (by exact HO_6.out) hb); have n1_ := Aside0.mk (Kd.R_below (by exact HO_7.out) hb); have n2_ := Aside0.mk (Kd.S_below (by exact HO_224001.out) hb); have n3_ := Aside0.mk (Kd.R_below (by exact HO_224002.out) hb); have n4_ := Aside0.mk (Kd.S_below (by exact HO279.out) hb); have n5_ := Aside0.mk (Kd.R_below (by exact HO282.out) hb); have n6_ := Aside0.mk (Kd.R_below (by exact HO285.out) hb); have n7_ := Aside0.mk (blk_below (g := gb223) (o := .cells #[.int .i64 x224000_2, .slice Ao119 x224001_2.length co119, .slice Ao120 x224002_2.length co120] 28 (0, 0)) (by exact BK223.out) hb); have n8_ := Aside0.mk (blk_below (g := gb287) (o := .cells #[.int .i64 t276, .slice Ao125 t277.length co125, .slice Ao126 t280.length co126] 28 (0, 0)) (by exact BK287.out) hb); have n9_ := Aside0.mk (below_step (by exact HB.out) hb); clear HO_6; clear HO_7; clear HO_224001; clear HO_224002; clear HO279; clear HO282; clear HO285; clear BK223; clear BK287; clear HB; have HO_6 := n0_; have HO_7 := n1_; have HO_224001 := n2_; have HO_224002 := n3_; have HO279 := n4_; have HO282 := n5_; have HO285 := n6_; have BK223 := n7_; have BK287 := n8_; have HB := n9_; clear n0_ n1_ n2_ n3_ n4_ n5_ n6_ n7_ n8_ n9_; (try clear hb); (try clear hb2); (try clear hk); (try clear hi)))
                go_ret
                exact ⟨by first | rfl | (simp [errW_none, errW_some] <;> rfl) | (simp only [← hji7, ← hji31]; first | rfl | (simp [errW_none, errW_some] <;> rfl)) | (simp [*, errW_none, errW_some] <;> rfl), by exact HB.out⟩
               ·replace c115 := Bool.eq_false_iff.mpr c115
                subst c115
                have H1 : (some false) = some r := by rw [if_neg (show ¬ (false = true) by decide)] at H; exact H
                clear H
                have H := H1
                clear H1
                obtain rfl := Option.some.inj H
                have hcz132_0 : wr.cell? ⟨gb223, 0, none⟩ = some (.int .i64 x224000_2) := (blk_cell BK223.out 0).trans rfl
                have hcz132_1 : wr.cell? ⟨gb223, 1, none⟩ = some (u224001) := (blk_cell BK223.out 1).trans rfl
                have hcz132_2 : wr.cell? ⟨gb223, 2, none⟩ = some (u224002) := (blk_cell BK223.out 2).trans rfl
                have hfz132_0 := blk_frozen BK223.out 0
                have hfz132_1 := blk_frozen BK223.out 1
                have hfz132_2 := blk_frozen BK223.out 2
                obtain ⟨Ao133, co133, eo133⟩ := Kd.S_slice HO_224001.out
                subst eo133
                obtain ⟨Ao134, co134, eo134⟩ := Kd.R_slice HO_224002.out
                subst eo134
                go_wp2_with (first | ((with_reducible refine gate_callee (f := 11) rfl ?_); refine goesL_ (some 168) rfl rfl Tryd.func11 (by kernel_rfl) rfl #[.agg #[.int .i64 x224000_2, .slice Ao133 x224001_2.length co133, .slice Ao134 x224002_2.length co134]] rfl (by (try simp only [List.map_toArray, List.map_cons, List.map_nil]); first | done | rfl | (simp only [List.length_drop, List.length_take]; rfl)) ?_; (with_reducible refine (impl_MemSweep.calls x224000_2 _ _ x224001_2 _ _ x224002_2 t276 t277 t280 t283 t286 _ ?side1 ?side2 ?side3 ?side4 A111.out).mono ?_); (case side1 => repeat (first | exact (Kd.S_reads' HO_224001.out).2.2 | (with_reducible refine Kd.C_alloc ?_ _) | (with_reducible refine Kd.C_drewN ?_ _) | (with_reducible refine Kd.C_drew ?_))); (case side2 => exact (Kd.S_reads' HO_224001.out).2.1); (case side3 => repeat (first | exact (Kd.R_reads' HO_224002.out).2.2 | (with_reducible refine Kd.C_alloc ?_ _) | (with_reducible refine Kd.C_drewN ?_ _) | (with_reducible refine Kd.C_drew ?_))); (case side4 => exact (Kd.R_reads' HO_224002.out).2.1); rintro e w135 ⟨v278, v281, v284, rfl, ho0, ho1, ho2, hb⟩; refine ⟨_, rfl, ?_⟩; have n0_ := Aside0.mk (Kd.R_below (by exact HO_6.out) hb); have n1_ := Aside0.mk (Kd.R_elder' (by exact HO_7.out) (Kd.R_base ho1) hb); have n2_ := Aside0.mk (Kd.S_mono (Kd.S_told (Kd.S_told (Kd.S_old (by exact HO_224001.out) hb) (Kd.S_base ho0)) (Kd.R_base ho2)) (fun _ h_ => h_.1)); have n3_ := Aside0.mk (Kd.R_elder' (by exact HO_224002.out) (Kd.R_base ho1) hb); have n4_ := Aside0.mk (Kd.S_lower (Kd.S_new' ho0 (Kd.S_lt (by exact HO_224001.out))) (below_size (by exact HB.out))); have n5_ := Aside0.mk (Kd.R_lower (Kd.R_new' (Kd.R_new' ho1 (Kd.R_lt (by exact HO_7.out))) (Kd.R_lt (by exact HO_224002.out))) (below_size (by exact HB.out))); have n6_ := Aside0.mk (Kd.R_lower ho2 (below_size (by exact HB.out))); have n7_ := Aside0.mk (blk_below (g := gb223) (o := .cells #[.int .i64 x224000_2, .slice Ao133 x224001_2.length co133, .slice Ao134 x224002_2.length co134] 28 (0, 0)) (by exact BK223.out) hb); have n8_ := Aside0.mk (below_step (by exact HB.out) hb); clear HO_6; clear HO_7; clear HO_224001; clear HO_224002; clear BK223; clear HB; have HO_6 := n0_; have HO_7 := n1_; have HO_224001 := n2_; have HO_224002 := n3_; have HO279 := n4_; have HO282 := n5_; have HO285 := n6_; have BK223 := n7_; have HB := n8_; clear n0_ n1_ n2_ n3_ n4_ n5_ n6_ n7_ n8_; (try clear hb); (try clear hb2); (try clear hk); (try clear hi); (try clear ho0); (try clear ho1); (try clear ho2)) | ((with_reducible refine gate_dst (N := 19) rfl ?_); refine box_event ?hg (N := 19) ?hd (cs := #[.int .i64 0, .slice none 0 0, .slice none 0 0]) (t := 28) ?hr ?_; (case hd => rfl); (case hg => rfl); (case hr => first | (go_simp; done) | (go_simp; rfl)); intro gb287 hg w136 hbox hb; have n0_ := Aside0.mk (Kd.R_below (by exact HO_6.out) hb); have n1_ := Aside0.mk (Kd.R_below (by exact HO_7.out) hb); have n2_ := Aside0.mk (Kd.S_below (by exact HO_224001.out) hb); have n3_ := Aside0.mk (Kd.R_below (by exact HO_224002.out) hb); have n4_ := Aside0.mk (Kd.S_below (by exact HO279.out) hb); have n5_ := Aside0.mk (Kd.R_below (by exact HO282.out) hb); have n6_ := Aside0.mk (Kd.R_below (by exact HO285.out) hb); have n7_ := Aside0.mk (blk_below (g := gb223) (o := .cells #[.int .i64 x224000_2, .slice Ao133 x224001_2.length co133, .slice Ao134 x224002_2.length co134] 28 (0, 0)) (by exact BK223.out) hb); have n8_ := Aside0.mk (below_step (by exact HB.out) hb); have n9_ := Aside0.mk (hbox); have n10_ := Aside0.mk ((by rw [hg]; exact (below_size (by exact HB.out)) : w.heap.size ≤ gb287)); have n11_ := Aside0.mk ((by rw [hg]; exact (below_size (by exact HB.out)) : w.heap.size ≤ gb287)); have n12_ := Aside0.mk ((by rw [hg]; exact Nat.ne_of_lt (blk_lt (g := gb223) (o := .cells #[.int .i64 x224000_2, .slice Ao133 x224001_2.length co133, .slice Ao134 x224002_2.length co134] 28 (0, 0)) (by exact BK223.out)) : gb223 ≠ gb287)); have n13_ := Aside0.mk ((by rw [hg]; exact Nat.ne_of_gt (blk_lt (g := gb223) (o := .cells #[.int .i64 x224000_2, .slice Ao133 x224001_2.length co133, .slice Ao134 x224002_2.length co134] 28 (0, 0)) (by exact BK223.out)) : gb287 ≠ gb223)); clear HO_6; clear HO_7; clear HO_224001; clear HO_224002; clear HO279; clear HO282; clear HO285; clear BK223; clear HB; have HO_6 := n0_; have HO_7 := n1_; have HO_224001 := n2_; have HO_224002 := n3_; have HO279 := n4_; have HO282 := n5_; have HO285 := n6_; have BK223 := n7_; have HB := n8_; have BK287 := n9_; have GW287 := n10_; have GE287 := n11_; have NB223_287 := n12_; have NB287_223 := n13_; clear n0_ n1_ n2_ n3_ n4_ n5_ n6_ n7_ n8_ n9_ n10_ n11_ n12_ n13_; clear hb hbox hg; have hnb137 := NB287_223.out; have hnc137 := NB223_287.out; have hcz138_0 : w136.cell? ⟨gb287, 0, none⟩ = some (.int .i64 0) := (blk_cell BK287.out 0).trans rfl; have hcz138_1 : w136.cell? ⟨gb287, 1, none⟩ = some (.slice none 0 0) := (blk_cell BK287.out 1).trans rfl; have hcz138_2 : w136.cell? ⟨gb287, 2, none⟩ = some (.slice none 0 0) := (blk_cell BK287.out 2).trans rfl; have hfz138_0 := blk_frozen BK287.out 0; have hfz138_1 := blk_frozen BK287.out 1; have hfz138_2 := blk_frozen BK287.out 2; obtain ⟨Ao139, co139, eo139⟩ := Kd.S_slice HO279.out; subst eo139; obtain ⟨Ao140, co140, eo140⟩ := Kd.R_slice HO282.out; subst eo140; have hcv141 := own_string (P := Tryd.prog) Tryd.underlying22 Tryd.underlying5 Tryd.underlying9 (Kd.own_of_R (Kd.R_far (p := ⟨gb287, 2, none⟩) (Kd.R_far (p := ⟨gb287, 1, none⟩) (Kd.R_far (p := ⟨gb287, 0, none⟩) (Kd.R_types HO285.out BK287.out (by decide)) (fun _ hk => hk.2) (.int .i64 t276)) (fun _ hk => hk.2) (.slice Ao139 t277.length co139)) (fun _ hk => hk.2) (.slice Ao140 t280.length co140))); have hcz142_0 : w136.cell? ⟨gb223, 0, none⟩ = some (.int .i64 x224000_2) := (blk_cell BK223.out 0).trans rfl; have hcz142_1 : w136.cell? ⟨gb223, 1, none⟩ = some (.slice Ao133 x224001_2.length co133) := (blk_cell BK223.out 1).trans rfl; have hcz142_2 : w136.cell? ⟨gb223, 2, none⟩ = some (.slice Ao134 x224002_2.length co134) := (blk_cell BK223.out 2).trans rfl; have hfz142_0 := blk_frozen BK223.out 0; have hfz142_1 := blk_frozen BK223.out 1; have hfz142_2 := blk_frozen BK223.out 2; obtain ⟨Ao143, co143, eo143⟩ := Kd.R_slice HO_7.out; subst eo143) | (go_at_call 12; (with_reducible refine (laws_sameLog.calls k3 _ _ x224002_2 _ _ x7_2 false _ ?side1 ?side2 ?side3 ?side4 A114.out).mono ?_); (case side1 => refine (Kd.R_reads' (e := 35) (base := w.heap.size) (ok := fun k_ => (some k_ ≠ (.slice Ao143 x7_2.length co143 : Value).ownBlock ∧ some k_ ≠ (.slice Ao140 t280.length co140 : Value).ownBlock)) (n := x224002_2.length) (c := co134) ?_).2.2; exact (by (with_reducible repeat (first | apply Kd.R_alloc | apply Kd.R_drewN | apply Kd.R_drew)); exact (Kd.R_mono (Kd.R_far (p := ⟨gb287, 2, none⟩) (Kd.R_far (p := ⟨gb287, 1, none⟩) (Kd.R_far (p := ⟨gb287, 0, none⟩) (Kd.R_types HO_224002.out BK287.out (by decide)) (fun _ hk => hk.2) (.int .i64 t276)) (fun _ hk => hk.2) (.slice Ao139 t277.length co139)) (fun _ hk => hk.2) (.slice Ao140 t280.length co140)) (fun _ h_ => h_.1)))); (case side2 => exact (Kd.R_reads' HO_224002.out).2.1); (case side3 => refine (Kd.R_reads' (e := 35) (base := w.heap.size) (ok := fun k_ => (some k_ ≠ (.slice Ao134 x224002_2.length co134 : Value).ownBlock ∧ some k_ ≠ (.slice Ao140 t280.length co140 : Value).ownBlock)) (n := x7_2.length) (c := co143) ?_).2.2; exact (by (with_reducible repeat (first | apply Kd.R_alloc | apply Kd.R_drewN | apply Kd.R_drew)); exact (Kd.R_mono (Kd.R_far (p := ⟨gb287, 2, none⟩) (Kd.R_far (p := ⟨gb287, 1, none⟩) (Kd.R_far (p := ⟨gb287, 0, none⟩) (Kd.R_types HO_7.out BK287.out (by decide)) (fun _ hk => hk.2) (.int .i64 t276)) (fun _ hk => hk.2) (.slice Ao139 t277.length co139)) (fun _ hk => hk.2) (.slice Ao140 t280.length co140)) (fun _ h_ => h_.1)))); (case side4 => exact (Kd.R_reads' HO_7.out).2.1); rintro e w' ⟨rfl, ⟨nd, rfl⟩⟩))
                go_ret
                exact ⟨by first | rfl | (simp [errW_none, errW_some] <;> rfl) | (simp only [← hji7, ← hji31]; first | rfl | (simp [errW_none, errW_some] <;> rfl)) | (simp [*, errW_none, errW_some] <;> rfl), by repeat (first | (with_reducible first | exact HB.out | apply below_alloc | apply pw_below_drewN | apply below_drew1 | refine below_set ?_ GE223.out | refine below_set ?_ GE287.out) | exact HB.out)⟩
              ·rw [if_neg c113] at H
               have c113b0 : ((strOfNums t283).toList == x17_3.toList) = false := beq_eq_false_iff_ne.mpr c113
               have c113b1 : ((strOfNums t283).toList != x17_3.toList) = true := bne_iff_ne.mpr c113
               obtain rfl := Option.some.inj H
               have hcz144_0 : wr.cell? ⟨gb223, 0, none⟩ = some (.int .i64 x224000_2) := (blk_cell BK223.out 0).trans rfl
               have hcz144_1 : wr.cell? ⟨gb223, 1, none⟩ = some (u224001) := (blk_cell BK223.out 1).trans rfl
               have hcz144_2 : wr.cell? ⟨gb223, 2, none⟩ = some (u224002) := (blk_cell BK223.out 2).trans rfl
               have hfz144_0 := blk_frozen BK223.out 0
               have hfz144_1 := blk_frozen BK223.out 1
               have hfz144_2 := blk_frozen BK223.out 2
               obtain ⟨Ao145, co145, eo145⟩ := Kd.S_slice HO_224001.out
               subst eo145
               obtain ⟨Ao146, co146, eo146⟩ := Kd.R_slice HO_224002.out
               subst eo146
               go_wp2_with (first | ((with_reducible refine gate_callee (f := 11) rfl ?_); refine goesL_ (some 168) rfl rfl Tryd.func11 (by kernel_rfl) rfl #[.agg #[.int .i64 x224000_2, .slice Ao145 x224001_2.length co145, .slice Ao146 x224002_2.length co146]] rfl (by (try simp only [List.map_toArray, List.map_cons, List.map_nil]); first | done | rfl | (simp only [List.length_drop, List.length_take]; rfl)) ?_; (with_reducible refine (impl_MemSweep.calls x224000_2 _ _ x224001_2 _ _ x224002_2 t276 t277 t280 t283 t286 _ ?side1 ?side2 ?side3 ?side4 A111.out).mono ?_); (case side1 => repeat (first | exact (Kd.S_reads' HO_224001.out).2.2 | (with_reducible refine Kd.C_alloc ?_ _) | (with_reducible refine Kd.C_drewN ?_ _) | (with_reducible refine Kd.C_drew ?_))); (case side2 => exact (Kd.S_reads' HO_224001.out).2.1); (case side3 => repeat (first | exact (Kd.R_reads' HO_224002.out).2.2 | (with_reducible refine Kd.C_alloc ?_ _) | (with_reducible refine Kd.C_drewN ?_ _) | (with_reducible refine Kd.C_drew ?_))); (case side4 => exact (Kd.R_reads' HO_224002.out).2.1); rintro e w147 ⟨v278, v281, v284, rfl, ho0, ho1, ho2, hb⟩; refine ⟨_, rfl, ?_⟩; have n0_ := Aside0.mk (Kd.R_below (by exact HO_6.out) hb); have n1_ := Aside0.mk (Kd.R_elder' (by exact HO_7.out) (Kd.R_base ho1) hb); have n2_ := Aside0.mk (Kd.S_mono (Kd.S_told (Kd.S_told (Kd.S_old (by exact HO_224001.out) hb) (Kd.S_base ho0)) (Kd.R_base ho2)) (fun _ h_ => h_.1)); have n3_ := Aside0.mk (Kd.R_elder' (by exact HO_224002.out) (Kd.R_base ho1) hb); have n4_ := Aside0.mk (Kd.S_lower (Kd.S_new' ho0 (Kd.S_lt (by exact HO_224001.out))) (below_size (by exact HB.out))); have n5_ := Aside0.mk (Kd.R_lower (Kd.R_new' (Kd.R_new' ho1 (Kd.R_lt (by exact HO_7.out))) (Kd.R_lt (by exact HO_224002.out))) (below_size (by exact HB.out))); have n6_ := Aside0.mk (Kd.R_lower ho2 (below_size (by exact HB.out))); have n7_ := Aside0.mk (blk_below (g := gb223) (o := .cells #[.int .i64 x224000_2, .slice Ao145 x224001_2.length co145, .slice Ao146 x224002_2.length co146] 28 (0, 0)) (by exact BK223.out) hb); have n8_ := Aside0.mk (below_step (by exact HB.out) hb); clear HO_6; clear HO_7; clear HO_224001; clear HO_224002; clear BK223; clear HB; have HO_6 := n0_; have HO_7 := n1_; have HO_224001 := n2_; have HO_224002 := n3_; have HO279 := n4_; have HO282 := n5_; have HO285 := n6_; have BK223 := n7_; have HB := n8_; clear n0_ n1_ n2_ n3_ n4_ n5_ n6_ n7_ n8_; (try clear hb); (try clear hb2); (try clear hk); (try clear hi); (try clear ho0); (try clear ho1); (try clear ho2)) | ((with_reducible refine gate_dst (N := 19) rfl ?_); refine box_event ?hg (N := 19) ?hd (cs := #[.int .i64 0, .slice none 0 0, .slice none 0 0]) (t := 28) ?hr ?_; (case hd => rfl); (case hg => rfl); (case hr => first | (go_simp; done) | (go_simp; rfl)); intro gb287 hg w148 hbox hb; have n0_ := Aside0.mk (Kd.R_below (by exact HO_6.out) hb); have n1_ := Aside0.mk (Kd.R_below (by exact HO_7.out) hb); have n2_ := Aside0.mk (Kd.S_below (by exact HO_224001.out) hb); have n3_ := Aside0.mk (Kd.R_below (by exact HO_224002.out) hb); have n4_ := Aside0.mk (Kd.S_below (by exact HO279.out) hb); have n5_ := Aside0.mk (Kd.R_below (by exact HO282.out) hb); have n6_ := Aside0.mk (Kd.R_below (by exact HO285.out) hb); have n7_ := Aside0.mk (blk_below (g := gb223) (o := .cells #[.int .i64 x224000_2, .slice Ao145 x224001_2.length co145, .slice Ao146 x224002_2.length co146] 28 (0, 0)) (by exact BK223.out) hb); have n8_ := Aside0.mk (below_step (by exact HB.out) hb); have n9_ := Aside0.mk (hbox); have n10_ := Aside0.mk ((by rw [hg]; exact (below_size (by exact HB.out)) : w.heap.size ≤ gb287)); have n11_ := Aside0.mk ((by rw [hg]; exact (below_size (by exact HB.out)) : w.heap.size ≤ gb287)); have n12_ := Aside0.mk ((by rw [hg]; exact Nat.ne_of_lt (blk_lt (g := gb223) (o := .cells #[.int .i64 x224000_2, .slice Ao145 x224001_2.length co145, .slice Ao146 x224002_2.length co146] 28 (0, 0)) (by exact BK223.out)) : gb223 ≠ gb287)); have n13_ := Aside0.mk ((by rw [hg]; exact Nat.ne_of_gt (blk_lt (g := gb223) (o := .cells #[.int .i64 x224000_2, .slice Ao145 x224001_2.length co145, .slice Ao146 x224002_2.length co146] 28 (0, 0)) (by exact BK223.out)) : gb287 ≠ gb223)); clear HO_6; clear HO_7; clear HO_224001; clear HO_224002; clear HO279; clear HO282; clear HO285; clear BK223; clear HB; have HO_6 := n0_; have HO_7 := n1_; have HO_224001 := n2_; have HO_224002 := n3_; have HO279 := n4_; have HO282 := n5_; have HO285 := n6_; have BK223 := n7_; have HB := n8_; have BK287 := n9_; have GW287 := n10_; have GE287 := n11_; have NB223_287 := n12_; have NB287_223 := n13_; clear n0_ n1_ n2_ n3_ n4_ n5_ n6_ n7_ n8_ n9_ n10_ n11_ n12_ n13_; clear hb hbox hg; have hnb149 := NB287_223.out; have hnc149 := NB223_287.out; have hcz150_0 : w148.cell? ⟨gb287, 0, none⟩ = some (.int .i64 0) := (blk_cell BK287.out 0).trans rfl; have hcz150_1 : w148.cell? ⟨gb287, 1, none⟩ = some (.slice none 0 0) := (blk_cell BK287.out 1).trans rfl; have hcz150_2 : w148.cell? ⟨gb287, 2, none⟩ = some (.slice none 0 0) := (blk_cell BK287.out 2).trans rfl; have hfz150_0 := blk_frozen BK287.out 0; have hfz150_1 := blk_frozen BK287.out 1; have hfz150_2 := blk_frozen BK287.out 2; obtain ⟨Ao151, co151, eo151⟩ := Kd.S_slice HO279.out; subst eo151; obtain ⟨Ao152, co152, eo152⟩ := Kd.R_slice HO282.out; subst eo152; have hcv153 := own_string (P := Tryd.prog) Tryd.underlying22 Tryd.underlying5 Tryd.underlying9 (Kd.own_of_R (Kd.R_far (p := ⟨gb287, 2, none⟩) (Kd.R_far (p := ⟨gb287, 1, none⟩) (Kd.R_far (p := ⟨gb287, 0, none⟩) (Kd.R_types HO285.out BK287.out (by decide)) (fun _ hk => hk.2) (.int .i64 t276)) (fun _ hk => hk.2) (.slice Ao151 t277.length co151)) (fun _ hk => hk.2) (.slice Ao152 t280.length co152)))))
               go_ret
               exact ⟨by first | rfl | (simp [errW_none, errW_some] <;> rfl) | (simp only [← hji7, ← hji31]; first | rfl | (simp [errW_none, errW_some] <;> rfl)) | (simp [*, errW_none, errW_some] <;> rfl), by repeat (first | (with_reducible first | exact HB.out | apply below_alloc | apply pw_below_drewN | apply below_drew1 | refine below_set ?_ GE223.out | refine below_set ?_ GE287.out) | exact HB.out)⟩
             ·rw [if_neg c112] at H
              have c112b0 : (t286 == 0) = false := beq_eq_false_iff_ne.mpr c112
              have c112b1 : (t286 != 0) = true := bne_iff_ne.mpr c112
              obtain rfl := Option.some.inj H
              have hcz154_0 : wr.cell? ⟨gb223, 0, none⟩ = some (.int .i64 x224000_2) := (blk_cell BK223.out 0).trans rfl
              have hcz154_1 : wr.cell? ⟨gb223, 1, none⟩ = some (u224001) := (blk_cell BK223.out 1).trans rfl
              have hcz154_2 : wr.cell? ⟨gb223, 2, none⟩ = some (u224002) := (blk_cell BK223.out 2).trans rfl
              have hfz154_0 := blk_frozen BK223.out 0
              have hfz154_1 := blk_frozen BK223.out 1
              have hfz154_2 := blk_frozen BK223.out 2
              obtain ⟨Ao155, co155, eo155⟩ := Kd.S_slice HO_224001.out
              subst eo155
              obtain ⟨Ao156, co156, eo156⟩ := Kd.R_slice HO_224002.out
              subst eo156
              go_wp2_with (first | ((with_reducible refine gate_callee (f := 11) rfl ?_); refine goesL_ (some 168) rfl rfl Tryd.func11 (by kernel_rfl) rfl #[.agg #[.int .i64 x224000_2, .slice Ao155 x224001_2.length co155, .slice Ao156 x224002_2.length co156]] rfl (by (try simp only [List.map_toArray, List.map_cons, List.map_nil]); first | done | rfl | (simp only [List.length_drop, List.length_take]; rfl)) ?_; (with_reducible refine (impl_MemSweep.calls x224000_2 _ _ x224001_2 _ _ x224002_2 t276 t277 t280 t283 t286 _ ?side1 ?side2 ?side3 ?side4 A111.out).mono ?_); (case side1 => repeat (first | exact (Kd.S_reads' HO_224001.out).2.2 | (with_reducible refine Kd.C_alloc ?_ _) | (with_reducible refine Kd.C_drewN ?_ _) | (with_reducible refine Kd.C_drew ?_))); (case side2 => exact (Kd.S_reads' HO_224001.out).2.1); (case side3 => repeat (first | exact (Kd.R_reads' HO_224002.out).2.2 | (with_reducible refine Kd.C_alloc ?_ _) | (with_reducible refine Kd.C_drewN ?_ _) | (with_reducible refine Kd.C_drew ?_))); (case side4 => exact (Kd.R_reads' HO_224002.out).2.1); rintro e w157 ⟨v278, v281, v284, rfl, ho0, ho1, ho2, hb⟩; refine ⟨_, rfl, ?_⟩; have n0_ := Aside0.mk (Kd.R_below (by exact HO_6.out) hb); have n1_ := Aside0.mk (Kd.R_elder' (by exact HO_7.out) (Kd.R_base ho1) hb); have n2_ := Aside0.mk (Kd.S_mono (Kd.S_told (Kd.S_told (Kd.S_old (by exact HO_224001.out) hb) (Kd.S_base ho0)) (Kd.R_base ho2)) (fun _ h_ => h_.1)); have n3_ := Aside0.mk (Kd.R_elder' (by exact HO_224002.out) (Kd.R_base ho1) hb); have n4_ := Aside0.mk (Kd.S_lower (Kd.S_new' ho0 (Kd.S_lt (by exact HO_224001.out))) (below_size (by exact HB.out))); have n5_ := Aside0.mk (Kd.R_lower (Kd.R_new' (Kd.R_new' ho1 (Kd.R_lt (by exact HO_7.out))) (Kd.R_lt (by exact HO_224002.out))) (below_size (by exact HB.out))); have n6_ := Aside0.mk (Kd.R_lower ho2 (below_size (by exact HB.out))); have n7_ := Aside0.mk (blk_below (g := gb223) (o := .cells #[.int .i64 x224000_2, .slice Ao155 x224001_2.length co155, .slice Ao156 x224002_2.length co156] 28 (0, 0)) (by exact BK223.out) hb); have n8_ := Aside0.mk (below_step (by exact HB.out) hb); clear HO_6; clear HO_7; clear HO_224001; clear HO_224002; clear BK223; clear HB; have HO_6 := n0_; have HO_7 := n1_; have HO_224001 := n2_; have HO_224002 := n3_; have HO279 := n4_; have HO282 := n5_; have HO285 := n6_; have BK223 := n7_; have HB := n8_; clear n0_ n1_ n2_ n3_ n4_ n5_ n6_ n7_ n8_; (try clear hb); (try clear hb2); (try clear hk); (try clear hi); (try clear ho0); (try clear ho1); (try clear ho2)) | ((with_reducible refine gate_dst (N := 19) rfl ?_); refine box_event ?hg (N := 19) ?hd (cs := #[.int .i64 0, .slice none 0 0, .slice none 0 0]) (t := 28) ?hr ?_; (case hd => rfl); (case hg => rfl); (case hr => first | (go_simp; done) | (go_simp; rfl)); intro gb287 hg w158 hbox hb; have n0_ := Aside0.mk (Kd.R_below (by exact HO_6.out) hb); have n1_ := Aside0.mk (Kd.R_below (by exact HO_7.out) hb); have n2_ := Aside0.mk (Kd.S_below (by exact HO_224001.out) hb); have n3_ := Aside0.mk (Kd.R_below (by exact HO_224002.out) hb); have n4_ := Aside0.mk (Kd.S_below (by exact HO279.out) hb); have n5_ := Aside0.mk (Kd.R_below (by exact HO282.out) hb); have n6_ := Aside0.mk (Kd.R_below (by exact HO285.out) hb); have n7_ := Aside0.mk (blk_below (g := gb223) (o := .cells #[.int .i64 x224000_2, .slice Ao155 x224001_2.length co155, .slice Ao156 x224002_2.length co156] 28 (0, 0)) (by exact BK223.out) hb); have n8_ := Aside0.mk (below_step (by exact HB.out) hb); have n9_ := Aside0.mk (hbox); have n10_ := Aside0.mk ((by rw [hg]; exact (below_size (by exact HB.out)) : w.heap.size ≤ gb287)); have n11_ := Aside0.mk ((by rw [hg]; exact (below_size (by exact HB.out)) : w.heap.size ≤ gb287)); have n12_ := Aside0.mk ((by rw [hg]; exact Nat.ne_of_lt (blk_lt (g := gb223) (o := .cells #[.int .i64 x224000_2, .slice Ao155 x224001_2.length co155, .slice Ao156 x224002_2.length co156] 28 (0, 0)) (by exact BK223.out)) : gb223 ≠ gb287)); have n13_ := Aside0.mk ((by rw [hg]; exact Nat.ne_of_gt (blk_lt (g := gb223) (o := .cells #[.int .i64 x224000_2, .slice Ao155 x224001_2.length co155, .slice Ao156 x224002_2.length co156] 28 (0, 0)) (by exact BK223.out)) : gb287 ≠ gb223)); clear HO_6; clear HO_7; clear HO_224001; clear HO_224002; clear HO279; clear HO282; clear HO285; clear BK223; clear HB; have HO_6 := n0_; have HO_7 := n1_; have HO_224001 := n2_; have HO_224002 := n3_; have HO279 := n4_; have HO282 := n5_; have HO285 := n6_; have BK223 := n7_; have HB := n8_; have BK287 := n9_; have GW287 := n10_; have GE287 := n11_; have NB223_287 := n12_; have NB287_223 := n13_; clear n0_ n1_ n2_ n3_ n4_ n5_ n6_ n7_ n8_ n9_ n10_ n11_ n12_ n13_; clear hb hbox hg; have hnb159 := NB287_223.out; have hnc159 := NB223_287.out; have hcz160_0 : w158.cell? ⟨gb287, 0, none⟩ = some (.int .i64 0) := (blk_cell BK287.out 0).trans rfl; have hcz160_1 : w158.cell? ⟨gb287, 1, none⟩ = some (.slice none 0 0) := (blk_cell BK287.out 1).trans rfl; have hcz160_2 : w158.cell? ⟨gb287, 2, none⟩ = some (.slice none 0 0) := (blk_cell BK287.out 2).trans rfl; have hfz160_0 := blk_frozen BK287.out 0; have hfz160_1 := blk_frozen BK287.out 1; have hfz160_2 := blk_frozen BK287.out 2; obtain ⟨Ao161, co161, eo161⟩ := Kd.S_slice HO279.out; subst eo161; obtain ⟨Ao162, co162, eo162⟩ := Kd.R_slice HO282.out; subst eo162))
              go_ret
              exact ⟨by first | rfl | (simp [errW_none, errW_some] <;> rfl) | (simp only [← hji7, ← hji31]; first | rfl | (simp [errW_none, errW_some] <;> rfl)) | (simp [*, errW_none, errW_some] <;> rfl), by repeat (first | (with_reducible first | exact HB.out | apply below_alloc | apply pw_below_drewN | apply below_drew1 | refine below_set ?_ GE223.out | refine below_set ?_ GE287.out) | exact HB.out)⟩
   ·rw [if_neg c9] at H
    exact absurd H (by simp)
  ·rw [if_neg c8] at H
   exact absurd H (by simp)

/-- THE ONE PURE STATEMENT of laws_FnMemBook: yours. -/
def laws_FnMemBook.Pure : Prop := ∀ (l0 : List Int), l0.length ≤ maxLen → l0.length * 1 ≤ 140737488351232 → (∀ x ∈ l0, (Lit.int .u8 x).wf = true) → ∃ k, laws_FnMemBook.f k l0 = some true
theorem laws_FnMemBook.walk (P : laws_FnMemBook.Pure) (a0 : Option Addr) (len0 cap0 : Nat) (z0 : List Int) (w : World) (w0 : (a0 = none ∧ len0 = 0 ∧ cap0 = 0 ∧ z0 = []) ∨ ∃ x, a0 = some x ∧ len0 ≤ cap0 ∧ cap0 ≤ maxLen ∧ z0.length = cap0 ∧ (∀ i, i < z0.length → w.cell? (x.add i) = some (.int .u8 (z0.getD i 0))) ∧ ∀ n ∈ z0, (Lit.int .u8 n).wf = true) (y0 : len0 * 1 ≤ 140737488351232) (hDoor : DoorW w) :
  Calls Tryd.prog 3 #[.slice a0 len0 cap0] w fun e w' => e = .returned (.bool true) ∧ Below w.heap.size w w' := by
 have HDoor := Aside0.mk hDoor
 clear hDoor
 obtain ⟨l0, rfl, hr0, hm0, hw0, hc0⟩ := ReadsInt.ofRowC w0
 obtain ⟨k, h⟩ := P l0 hm0 y0 hw0
 refine (laws_FnMemBook.calls k _ _ l0 true w (Kd.C_of_reads (d := (0 : Int)) (h1 := fun _ => rfl) hr0) hc0 h (by with_reducible repeat (first | exact HDoor.out | exact DoorW.below HDoor.out HB.out | refine DoorW.drewN ?_ _ | refine DoorW.drew ?_ | refine DoorW.alloc ?_ _))).mono ?_
 rintro e w' ⟨rfl, hd⟩
 exact ⟨rfl, hd⟩

end Go.Proofs.YtoceiaaigiflpaaDoor.PFnMemBook
