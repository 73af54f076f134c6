/- The functions that the law FnMyers reaches, as plain Lean functions, and the walks that show that Go comes to their answers; part 6. Its lines are the print's, turned where Lean refused them. -/
import Derived.Test.YtbibgmmoompoiaaQFnMyersx0
namespace Go.Proofs.Ytbibgmmoompoiaa.PFnMyers
open Go.RowKit Go.Proofs.YtbibgmmoompoiaaW.PrintWords Go.Proofs.YtbibgmmoompoiaaW.PrintLast Go.Proofs.YtbibgmmoompoiaaW.PrintMore
attribute [local go_sem] max2_int min2_int max_two min_two max_three min_three max_four min_four   -- for this text's walks alone
set_option linter.unusedVariables false
set_option linter.unusedSimpArgs false

/-! ### spec_l05Table: function 34 -/
mutual
def spec_l05Table.l0 : Nat → ByteArray → ByteArray → List (List Int) → Int → Option ((List (List Int)))
  | 0, _, _, _, _ => none
  | k + 1, x0, x1, x5, x6 => if x6 ≥ 0 then (if 0 ≤ (wrap64 ((x1.size : Int) + 1)) then (if (wrap64 ((x1.size : Int) + 1) : Int).toNat ≤ 35184372088832 then (if 0 ≤ x6 then (if x6 < (x5.length : Int) then (spec_l05Table.l1 k x0 x1 (x5.set (x6 : Int).toNat (List.replicate (wrap64 ((x1.size : Int) + 1) : Int).toNat 0)) x6 (x1.size : Int)) else (none)) else (none)) else (none)) else (none)) else (some x5)
def spec_l05Table.l1 : Nat → ByteArray → ByteArray → List (List Int) → Int → Int → Option ((List (List Int)))
  | 0, _, _, _, _, _ => none
  | k + 1, x0, x1, x5, x6, x7 => if x7 ≥ 0 then (if x6 = (x0.size : Int) then (if 0 ≤ x6 then (if x6 < (x5.length : Int) then (if 0 ≤ x7 then (if x7 < ((rd_L2 x5 x6).length : Int) then (spec_l05Table.l1 k x0 x1 (x5.set (x6 : Int).toNat ((rd_L2 x5 x6).set (x7 : Int).toNat (wrap64 ((x1.size : Int) - x7)))) x6 (wrap64 (x7 - 1))) else (none)) else (none)) else (none)) else (none)) else (if x7 = (x1.size : Int) then (if 0 ≤ x6 then (if x6 < (x5.length : Int) then (if 0 ≤ x7 then (if x7 < ((rd_L2 x5 x6).length : Int) then (spec_l05Table.l1 k x0 x1 (x5.set (x6 : Int).toNat ((rd_L2 x5 x6).set (x7 : Int).toNat (wrap64 ((x0.size : Int) - x6)))) x6 (wrap64 (x7 - 1))) else (none)) else (none)) else (none)) else (none)) else (if 0 ≤ (wrap64 (x6 + 1)) then (if (wrap64 (x6 + 1)) < (x5.length : Int) then (if 0 ≤ x7 then (if x7 < ((rd_L2 x5 (wrap64 (x6 + 1))).length : Int) then (if 0 ≤ x6 then (if x6 < (x5.length : Int) then (if 0 ≤ (wrap64 (x7 + 1)) then (if (wrap64 (x7 + 1)) < ((rd_L2 x5 x6).length : Int) then (if (wrap64 (x7 + 1)) < ((rd_L2 x5 (wrap64 (x6 + 1))).length : Int) then (if x6 < (x0.size : Int) then (if x7 < (x1.size : Int) then (if (bt x0 x6) = (bt x1 x7) then (if x7 < ((rd_L2 x5 x6).length : Int) then (spec_l05Table.l1 k x0 x1 (x5.set (x6 : Int).toNat ((rd_L2 x5 x6).set (x7 : Int).toNat (mn (wrap64 (1 + (mn (mn (rd (rd_L2 x5 (wrap64 (x6 + 1))) x7) (rd (rd_L2 x5 x6) (wrap64 (x7 + 1)))) (rd (rd_L2 x5 (wrap64 (x6 + 1))) (wrap64 (x7 + 1)))))) (rd (rd_L2 x5 (wrap64 (x6 + 1))) (wrap64 (x7 + 1)))))) x6 (wrap64 (x7 - 1))) else (none)) else (if x7 < ((rd_L2 x5 x6).length : Int) then (spec_l05Table.l1 k x0 x1 (x5.set (x6 : Int).toNat ((rd_L2 x5 x6).set (x7 : Int).toNat (wrap64 (1 + (mn (mn (rd (rd_L2 x5 (wrap64 (x6 + 1))) x7) (rd (rd_L2 x5 x6) (wrap64 (x7 + 1)))) (rd (rd_L2 x5 (wrap64 (x6 + 1))) (wrap64 (x7 + 1)))))))) x6 (wrap64 (x7 - 1))) else (none))) else (none)) else (none)) else (none)) else (none)) else (none)) else (none)) else (none)) else (none)) else (none)) else (none)) else (none)))) else (spec_l05Table.l0 k x0 x1 x5 (wrap64 (x6 - 1)))
end
def spec_l05Table.f (k : Nat) (a0 : ByteArray) (a1 : ByteArray) : Option ((List (List Int))) := if 0 ≤ (wrap64 ((a0.size : Int) + 1)) then (if (wrap64 ((a0.size : Int) + 1) : Int).toNat ≤ 11728124029610 then (spec_l05Table.l0 k a0 a1 (List.replicate (wrap64 ((a0.size : Int) + 1) : Int).toNat []) (a0.size : Int)) else (none)) else (none)
theorem spec_l05Table.mono_l : ∀ k, (∀ y0 y1 y2 y3, LeO (spec_l05Table.l0 k y0 y1 y2 y3) (spec_l05Table.l0 (k + 1) y0 y1 y2 y3)) ∧ (∀ y0 y1 y2 y3 y4, LeO (spec_l05Table.l1 k y0 y1 y2 y3 y4) (spec_l05Table.l1 (k + 1) y0 y1 y2 y3 y4))
  | 0 => ⟨fun _ _ _ _ r h => by simp [spec_l05Table.l0] at h, fun _ _ _ _ _ r h => by simp [spec_l05Table.l1] at h⟩
  | k + 1 => by
    obtain ⟨ih0, ih1⟩ := spec_l05Table.mono_l k
    refine ⟨?_, ?_⟩
    · intro y0 y1 y2 y3
      unfold spec_l05Table.l0
      repeat' first
      | (with_reducible exact ih0 _ _ _ _)
      | (with_reducible exact ih1 _ _ _ _ _)
      | (with_reducible exact LeO.refl _)
      | (with_reducible exact LeO.none _)
      | (with_reducible refine LeO.ite ?_ ?_)
      | (with_reducible refine LeO.bind ?_ (fun _ => ?_))
      | exact ih0 _ _ _ _
      | exact ih1 _ _ _ _ _
      | exact LeO.none _
      | refine LeO.ite ?_ ?_
      | refine LeO.bind ?_ (fun _ => ?_)
    · intro y0 y1 y2 y3 y4
      unfold spec_l05Table.l1
      repeat' first
      | (with_reducible exact ih0 _ _ _ _)
      | (with_reducible exact ih1 _ _ _ _ _)
      | (with_reducible exact LeO.refl _)
      | (with_reducible exact LeO.none _)
      | (with_reducible refine LeO.ite ?_ ?_)
      | (with_reducible refine LeO.bind ?_ (fun _ => ?_))
      | exact ih0 _ _ _ _
      | exact ih1 _ _ _ _ _
      | exact LeO.none _
      | refine LeO.ite ?_ ?_
      | refine LeO.bind ?_ (fun _ => ?_)
theorem spec_l05Table.mono : ∀ a0 a1 k, LeO (spec_l05Table.f k a0 a1) (spec_l05Table.f (k + 1) a0 a1) := by
  intro a0 a1 k
  obtain ⟨ih0, ih1⟩ := spec_l05Table.mono_l k
  unfold spec_l05Table.f
  repeat' first
      | (with_reducible exact ih0 _ _ _ _)
      | (with_reducible exact ih1 _ _ _ _ _)
      | (with_reducible exact LeO.refl _)
      | (with_reducible exact LeO.none _)
      | (with_reducible refine LeO.ite ?_ ?_)
      | (with_reducible refine LeO.bind ?_ (fun _ => ?_))
      | exact ih0 _ _ _ _
      | exact ih1 _ _ _ _ _
      | exact LeO.none _
      | refine LeO.ite ?_ ?_
      | refine LeO.bind ?_ (fun _ => ?_)
set_option maxHeartbeats 8000000 in
set_option maxRecDepth 100000 in
theorem spec_l05Table.calls (k : Nat) (a0 : ByteArray) (a1 : ByteArray) (r : List (List Int)) (w : World) (h : spec_l05Table.f k a0 a1 = some r) :
    Calls Try.prog 34 #[.string a0, .string a1] w fun e w' => ∃ v0_ : Value, e = .returned (v0_) ∧ Kd.S (Kd.slice 3 (Kd.int .i64)) 39 w' w.heap.size (fun _ => True) v0_ r ∧ Below w.heap.size w w' := by
  have HB := Aside0.mk (Below.refl w.heap.size w)
  have H : (if 0 ≤ (wrap64 ((a0.size : Int) + 1)) then (if (wrap64 ((a0.size : Int) + 1) : Int).toNat ≤ 11728124029610 then (spec_l05Table.l0 k a0 a1 (List.replicate (wrap64 ((a0.size : Int) + 1) : Int).toNat []) (a0.size : Int)) else (none)) else (none)) = some r := h
  clear h
  obtain ⟨ji3, hji3⟩ : ∃ j_ : Int, (wrap64 ((a0.size : Int) + 1)) = j_ := ⟨_, rfl⟩
  replace H : (if 0 ≤ (ji3) then (if (ji3 : Int).toNat ≤ 11728124029610 then (spec_l05Table.l0 k a0 a1 (List.replicate (ji3 : Int).toNat []) (a0.size : Int)) else (none)) else (none)) = some r := by first | (rw [hji3] at H; exact H) | (simp only [hji3] at H ⊢; exact H)
  have hji3w : (IntKind.i64.wrap ((a0.size : Int) + 1)) = ji3 := (i64_w _).trans hji3
  by_cases c4 : 0 ≤ (ji3)
  · rw [if_pos c4] at H
    have c4b0 := eq_true c4
    have c4b1 : decide (0 ≤ (ji3)) = true := decide_eq_true c4
    clear c4
    by_cases c5 : (ji3 : Int).toNat ≤ 11728124029610
    · rw [if_pos c5] at H
      have c5b0 := eq_true c5
      have c5b1 : decide ((ji3 : Int).toNat ≤ 11728124029610) = true := decide_eq_true c5
      clear c5
      obtain ⟨y241, hy241⟩ : ∃ y_ : List (List Int), y_ = (List.replicate (ji3 : Int).toNat []) := ⟨_, rfl⟩
      replace H : (spec_l05Table.l0 k a0 a1 y241 (a0.size : Int)) = some r := by first | (rw [hy241]; with_reducible exact H) | (have H2_ := (Option.bind_some _ _).symm.trans H; rw [hy241]; with_reducible exact H2_) | (have H2_ := (Option.bind_some _ _).symm.trans H; with_reducible exact H2_) | with_reducible exact H | (rw [hy241]; exact H) | exact H
      have Ny241 := Aside0.mk hy241
      clear hy241
      have H' := Aside0.mk H
      clear H
      go_enter Try.func34, Try.ntmps34
      go_wp2_with (first | ((with_reducible refine gate_dst (N := 12) rfl ?_); refine Kd.S_make (Kd.slice 3 (Kd.int .i64)) _ 39 rfl (N := 12) rfl 40 _ _ rfl ji3 rfl rfl Try.underlying40 (.slice none 0 0) 24 info39 rfl (by decide) (by omega) [] (ok := fun _ => True) (okp := fun _ => True) ⟨_, rfl, Kd.R_nil _ _ _ _ _⟩ (fun _ hk => hk) trivial (of_decide_eq_true (by first | (with_reducible assumption) | assumption)) (Nat.le_trans (Nat.mul_le_mul_right _ (of_decide_eq_true (by first | (with_reducible assumption) | assumption) : ji3.toNat ≤ 11728124029610)) (by omega)) (Below.refl _ _) (Nat.le_refl _) ?_; intro v242 w6 ho7 hb hg_ hnew_; clear hg_ hnew_; (first | rw [← Ny241.out] at ho7 | (simp only [Int.reduceToNat] at ho7; rw [← Ny241.out] at ho7)); have n0_ := Aside0.mk (Kd.S_lower ho7 (below_size (by repeat (first | (with_reducible first | exact HB.out | apply below_alloc | apply pw_below_drewN | apply below_drew1) | exact HB.out)))); have n1_ := Aside0.mk (below_step (by repeat (first | (with_reducible first | exact HB.out | apply below_alloc | apply pw_below_drewN | apply below_drew1) | exact HB.out)) hb); clear HB; have HO243 := n0_; have HB := n1_; clear n0_ n1_; clear hb ho7))
      repeat (go_quiet (first | ((with_reducible refine gate_dst (N := 12) rfl ?_); refine Kd.S_make (Kd.slice 3 (Kd.int .i64)) _ 39 rfl (N := 12) rfl 40 _ _ rfl ji3 rfl rfl Try.underlying40 (.slice none 0 0) 24 info39 rfl (by decide) (by omega) [] (ok := fun _ => True) (okp := fun _ => True) ⟨_, rfl, Kd.R_nil _ _ _ _ _⟩ (fun _ hk => hk) trivial (of_decide_eq_true (by first | (with_reducible assumption) | assumption)) (Nat.le_trans (Nat.mul_le_mul_right _ (of_decide_eq_true (by first | (with_reducible assumption) | assumption) : ji3.toNat ≤ 11728124029610)) (by omega)) (Below.refl _ _) (Nat.le_refl _) ?_; intro v242 w6 ho7 hb hg_ hnew_; clear hg_ hnew_; (first | rw [← Ny241.out] at ho7 | (simp only [Int.reduceToNat] at ho7; rw [← Ny241.out] at ho7)); have n0_ := Aside0.mk (Kd.S_lower ho7 (below_size (by repeat (first | (with_reducible first | exact HB.out | apply below_alloc | apply pw_below_drewN | apply below_drew1) | exact HB.out)))); have n1_ := Aside0.mk (below_step (by repeat (first | (with_reducible first | exact HB.out | apply below_alloc | apply pw_below_drewN | apply below_drew1) | exact HB.out)) hb); clear HB; have HO243 := n0_; have HB := n1_; clear n0_ n1_; clear hb ho7)); try go_wp2_with (first | ((with_reducible refine gate_dst (N := 12) rfl ?_); refine Kd.S_make (Kd.slice 3 (Kd.int .i64)) _ 39 rfl (N := 12) rfl 40 _ _ rfl ji3 rfl rfl Try.underlying40 (.slice none 0 0) 24 info39 rfl (by decide) (by omega) [] (ok := fun _ => True) (okp := fun _ => True) ⟨_, rfl, Kd.R_nil _ _ _ _ _⟩ (fun _ hk => hk) trivial (of_decide_eq_true (by first | (with_reducible assumption) | assumption)) (Nat.le_trans (Nat.mul_le_mul_right _ (of_decide_eq_true (by first | (with_reducible assumption) | assumption) : ji3.toNat ≤ 11728124029610)) (by omega)) (Below.refl _ _) (Nat.le_refl _) ?_; intro v242 w6 ho7 hb hg_ hnew_; clear hg_ hnew_; (first | rw [← Ny241.out] at ho7 | (simp only [Int.reduceToNat] at ho7; rw [← Ny241.out] at ho7)); have n0_ := Aside0.mk (Kd.S_lower ho7 (below_size (by repeat (first | (with_reducible first | exact HB.out | apply below_alloc | apply pw_below_drewN | apply below_drew1) | exact HB.out)))); have n1_ := Aside0.mk (below_step (by repeat (first | (with_reducible first | exact HB.out | apply below_alloc | apply pw_below_drewN | apply below_drew1) | exact HB.out)) hb); clear HB; have HO243 := n0_; have HB := n1_; clear n0_ n1_; clear hb ho7)))
      go_loopg [6] k (fun kq v6 w' => ∃ (x5_1 : List (List Int)) (x6_1 : Int), v6 = .int .i64 x6_1 ∧ Aside0 (spec_l05Table.l0 kq a0 a1 x5_1 x6_1 = some r) ∧ Aside0 (kq ≤ k) ∧ Aside0 (Kd.S (Kd.slice 3 (Kd.int .i64)) 39 w' w.heap.size (fun _ => True) v242 x5_1) ∧ Aside0 (Below w.heap.size w w'))
      case atStart => exact ⟨(y241), ((a0.size : Int)), (by first | rfl | (simp; done) | (simp [*]; done)), H', ⟨Nat.le_refl _⟩, ⟨by (with_reducible repeat (first | apply Kd.S_alloc | apply Kd.S_drewN | apply Kd.S_drew)); exact HO243.out⟩, ⟨by repeat (first | (with_reducible first | exact HB.out | apply below_alloc | apply pw_below_drewN | apply below_drew1) | exact HB.out)⟩⟩
      case round =>
        clear H'
        try clear p2
        try clear c3
        try clear c4
        try clear c4b0
        try clear c4b1
        try clear c5
        try clear c5b0
        try clear c5b1
        try clear p6
        obtain ⟨x5_1, x6_1, rfl, HA, HK1, HO_5, HB⟩ := hrel
        cases gk with
        | zero => exact absurd HA.out (by simp [spec_l05Table.l0])
        | succ k1 =>
          have H := HA.out
          clear HA
          simp only [spec_l05Table.l0] at H
          by_cases c8 : x6_1 ≥ 0
          · rw [if_pos c8] at H
            have c8b0 : decide (0 ≤ x6_1) = true := decide_eq_true c8
            clear c8
            obtain ⟨ji9, hji9⟩ : ∃ j_ : Int, (wrap64 ((a1.size : Int) + 1)) = j_ := ⟨_, rfl⟩
            replace H : (if 0 ≤ (ji9) then (if (ji9 : Int).toNat ≤ 35184372088832 then (if 0 ≤ x6_1 then (if x6_1 < (x5_1.length : Int) then (spec_l05Table.l1 k1 a0 a1 (x5_1.set (x6_1 : Int).toNat (List.replicate (ji9 : Int).toNat 0)) x6_1 (a1.size : Int)) else (none)) else (none)) else (none)) else (none)) = some r := by first | (rw [hji9] at H; exact H) | (simp only [hji9] at H ⊢; exact H)
            have hji9w : (IntKind.i64.wrap ((a1.size : Int) + 1)) = ji9 := (i64_w _).trans hji9
            by_cases c10 : 0 ≤ (ji9)
            · rw [if_pos c10] at H
              have c10b0 := eq_true c10
              have c10b1 : decide (0 ≤ (ji9)) = true := decide_eq_true c10
              clear c10
              by_cases c11 : (ji9 : Int).toNat ≤ 35184372088832
              · rw [if_pos c11] at H
                have c11b0 := eq_true c11
                have c11b1 : decide ((ji9 : Int).toNat ≤ 35184372088832) = true := decide_eq_true c11
                clear c11
                obtain ⟨y244, hy244⟩ : ∃ y_ : List Int, y_ = (List.replicate (ji9 : Int).toNat 0) := ⟨_, rfl⟩
                replace H : (if 0 ≤ x6_1 then (if x6_1 < (x5_1.length : Int) then (spec_l05Table.l1 k1 a0 a1 (x5_1.set (x6_1 : Int).toNat y244) x6_1 (a1.size : Int)) else (none)) else (none)) = some r := by first | (rw [hy244]; with_reducible exact H) | (have H2_ := (Option.bind_some _ _).symm.trans H; rw [hy244]; with_reducible exact H2_) | (have H2_ := (Option.bind_some _ _).symm.trans H; with_reducible exact H2_) | with_reducible exact H | (rw [hy244]; exact H) | exact H
                have Ny244 := Aside0.mk hy244
                clear hy244
                by_cases c12 : 0 ≤ x6_1
                · rw [if_pos c12] at H
                  have c12b0 : decide (0 ≤ x6_1) = true := decide_eq_true c12
                  clear c12
                  by_cases c13 : x6_1 < (x5_1.length : Int)
                  · rw [if_pos c13] at H
                    have c13b0 : decide (x6_1 < (x5_1.length : Int)) = true := decide_eq_true c13
                    clear c13
                    obtain ⟨y247, hy247⟩ : ∃ y_ : List (List Int), y_ = (x5_1.set (x6_1 : Int).toNat y244) := ⟨_, rfl⟩
                    replace H : (spec_l05Table.l1 k1 a0 a1 y247 x6_1 (a1.size : Int)) = some r := by first | (rw [hy247]; with_reducible exact H) | (have H2_ := (Option.bind_some _ _).symm.trans H; rw [hy247]; with_reducible exact H2_) | (have H2_ := (Option.bind_some _ _).symm.trans H; with_reducible exact H2_) | with_reducible exact H | (rw [hy247]; exact H) | exact H
                    have Ny247 := Aside0.mk hy247
                    clear hy247
                    have H' := Aside0.mk H
                    clear H
                    go_wp2_with (first | ((with_reducible refine gate_dst (N := 24) rfl ?_); refine Kd.R_make (Kd.int .i64) _ 3 rfl (N := 24) rfl 39 _ _ rfl ji9 rfl rfl Try.underlying39 (.int .i64 0) 8 info3 rfl (by decide) (by omega) 0 (ok := fun _ => True) (okp := fun _ => True) rfl (fun _ hk => hk) trivial (of_decide_eq_true (by first | (with_reducible assumption) | assumption)) (Nat.le_trans (Nat.mul_le_mul_right _ (of_decide_eq_true (by first | (with_reducible assumption) | assumption) : ji9.toNat ≤ 35184372088832)) (by omega)) (Below.refl _ _) (Nat.le_refl _) ?_; intro v245 w15 ho16 hb hg_ hnew_; clear hg_ hnew_; (first | rw [← Ny244.out] at ho16 | (simp only [Int.reduceToNat] at ho16; rw [← Ny244.out] at ho16)); have n0_ := Aside0.mk (Kd.S_elder' (by (with_reducible repeat (first | apply Kd.S_alloc | apply Kd.S_drewN | apply Kd.S_drew)); exact HO_5.out) (Kd.R_base ho16) hb); have n1_ := Aside0.mk (Kd.R_lower ho16 (below_size (by repeat (first | (with_reducible first | exact HB.out | apply below_alloc | apply pw_below_drewN | apply below_drew1) | exact HB.out)))); have n2_ := Aside0.mk (below_step (by repeat (first | (with_reducible first | exact HB.out | apply below_alloc | apply pw_below_drewN | apply below_drew1) | exact HB.out)) hb); clear HO_5; clear HB; have HO_5 := n0_; have HO246 := n1_; have HB := n2_; clear n0_ n1_ n2_; clear hb ho16; have p14 : 0 ≤ (x6_1 : Int) := of_decide_eq_true (by first | (with_reducible assumption) | assumption); have q14 : (x6_1 : Int) < ((x5_1.length : Int) : Int) := of_decide_eq_true (by first | (with_reducible assumption) | assumption); obtain ⟨go14, co14, eo14, gb14, gl14, cl14, HG14⟩ := Kd.S_form HO_5.out (by omega); (first | cases eo14 | (injection eo14 with ea_ en_ ec_; (first | subst ea_ | (injection ea_ with ea_; subst ea_)); subst ec_; clear en_)); have GB14 := Aside0.mk gb14; have GG14 := Aside0.mk HG14; clear gb14 gl14 HG14; obtain ⟨_, ce14, hcl14, hM14, hcc14, hfr14, _, _⟩ := Kd.S_elem HO_5.out [] (x6_1 : Int) p14 q14; obtain ⟨ve14_0, rfl, ge14_0⟩ := hM14; have hx14_0 := hcc14 0 _ rfl; have hf14_0 := hfr14 0; (try simp only [show ((Kd.slice 3 (Kd.int .i64))).sz = 1 from rfl, Nat.mul_one, Nat.add_zero] at hx14_0); (try simp only [show ((Kd.slice 3 (Kd.int .i64))).sz = 1 from rfl, Nat.mul_one, Nat.add_zero] at hf14_0); clear hcl14 hcc14 hfr14; (try clear hM14); replace p14 := eq_true p14; replace q14 := eq_true q14; have n_ := Aside0.mk (Kd.S_mono (ok' := (fun k_ => some k_ ≠ (v245 : Value).ownBlock)) HO_5.out (fun k_ hk => hk.2)); clear HO_5; have HO_5 := n_; clear n_; have HX17 := Aside0.mk (show Kd.S (Kd.slice 3 (Kd.int .i64)) 39 w15 w.heap.size (fun k_ => ((fun _ => True)) k_ ∧ ¬ ((fun k_ => some k_ = (v245 : Value).ownBlock)) k_) (.slice (some ⟨go14, 0, none⟩) x5_1.length co14) x5_1 from (by (with_reducible repeat (first | apply Kd.S_alloc | apply Kd.S_drewN | apply Kd.S_drew)); exact Kd.S_mono HO_5.out (fun k_ hk => ⟨trivial, fun e_ => hk e_⟩))); obtain ⟨oki17, ce17, hcl17, hM17, hcc17, hfr17, hoki17, hH17⟩ := Kd.S_elem HX17.out [] (x6_1 : Int) (of_decide_eq_true (by first | (with_reducible assumption) | assumption)) (by have h_ : (x6_1 : Int) < ((x5_1.length : Int) : Int) := of_decide_eq_true (by first | (with_reducible assumption) | assumption); first | exact h_ | (have e_ := (Kd.S_reads' HO_5.out).1; omega) | simpa using h_); obtain ⟨ve17_0, rfl, ge17_0⟩ := hM17; have HP17 := Kd.S_seg hH17 (of_decide_eq_true (by first | (with_reducible assumption) | assumption)) (by have h_ : (x6_1 : Int) < ((x5_1.length : Int) : Int) := of_decide_eq_true (by first | (with_reducible assumption) | assumption); first | exact h_ | (have e_ := (Kd.S_reads' HO_5.out).1; omega) | simpa using h_) (seg := [v245]) (j := 0) (show 1 ≤ 1 from by decide) (x' := y244) (Kd.M_row (Kd.R_mono (Kd.R_tight rfl (Kd.R_mono (ok' := fun k_ => ((fun _ => True)) k_ ∧ k_ ≠ go14) (Kd.R_apart' (HO246.out) (Kd.S_typed HO_5.out) (by decide)) (fun k_ hk => ⟨trivial, fun e_ => (hk.2) (by rw [e_]; rfl)⟩))) (fun _ h_ => Or.inr (h_)))) (fun _ hk => hk) (fun k_ hk_ => ((Kd.R_mono (ok' := fun k_ => ((fun _ => True)) k_ ∧ k_ ≠ go14) (Kd.R_apart' (HO246.out) (Kd.S_typed HO_5.out) (by decide)) (fun k_ hk => ⟨trivial, fun e_ => (hk.2) (by rw [e_]; rfl)⟩))).1 k_ hk_.symm); have hx17_0 := hcc17 0 _ rfl; (try simp only [show ((Kd.slice 3 (Kd.int .i64))).sz = 1 from rfl, Nat.mul_one, Nat.add_zero] at hx17_0); have hf17_0 := hfr17 0; (try simp only [show ((Kd.slice 3 (Kd.int .i64))).sz = 1 from rfl, Nat.mul_one, Nat.add_zero] at hf17_0); clear hcl17 hcc17 hfr17 hoki17 hH17; (try clear hM17); (try simp only [show ((Kd.slice 3 (Kd.int .i64))).sz = 1 from rfl, Nat.mul_one, Nat.add_zero] at HP17)) | ((with_reducible refine gate_store (t := 39) (p := 25) rfl ?_); (try (rw [drewN_self w15]; generalize hq_ : World.drewN w15 _ = w15; have n0_ := Aside0.mk (Kd.S_at hq_ HO_5.out); have n1_ := Aside0.mk (below_at hq_ HB.out); clear hq_ HO_5 HB; have HO_5 := n0_; have HB := n1_; clear n0_ n1_; (try (have n_ := Aside0.mk (Kd.S_mono (ok' := (fun k_ => some k_ ≠ (v245 : Value).ownBlock)) HO_5.out (fun k_ hk => hk.2)); clear HO_5; have HO_5 := n_; clear n_)); (try (have HX17 := Aside0.mk (show Kd.S (Kd.slice 3 (Kd.int .i64)) 39 w15 w.heap.size (fun k_ => ((fun _ => True)) k_ ∧ ¬ ((fun k_ => some k_ = (v245 : Value).ownBlock)) k_) (.slice (some ⟨go14, 0, none⟩) x5_1.length co14) x5_1 from (by (with_reducible repeat (first | apply Kd.S_alloc | apply Kd.S_drewN | apply Kd.S_drew)); exact Kd.S_mono HO_5.out (fun k_ hk => ⟨trivial, fun e_ => hk e_⟩))))); (try (obtain ⟨oki17, ce17, hcl17, hM17, hcc17, hfr17, hoki17, hH17⟩ := Kd.S_elem HX17.out [] (x6_1 : Int) (of_decide_eq_true (by first | (with_reducible assumption) | assumption)) (by have h_ : (x6_1 : Int) < ((x5_1.length : Int) : Int) := of_decide_eq_true (by first | (with_reducible assumption) | assumption); first | exact h_ | (have e_ := (Kd.S_reads' HO_5.out).1; omega) | simpa using h_))); (try (obtain ⟨ve17_0, rfl, ge17_0⟩ := hM17)); (try (have HP17 := Kd.S_seg hH17 (of_decide_eq_true (by first | (with_reducible assumption) | assumption)) (by have h_ : (x6_1 : Int) < ((x5_1.length : Int) : Int) := of_decide_eq_true (by first | (with_reducible assumption) | assumption); first | exact h_ | (have e_ := (Kd.S_reads' HO_5.out).1; omega) | simpa using h_) (seg := [v245]) (j := 0) (show 1 ≤ 1 from by decide) (x' := y244) (Kd.M_row (Kd.R_mono (Kd.R_tight rfl (Kd.R_mono (ok' := fun k_ => ((fun _ => True)) k_ ∧ k_ ≠ go14) (Kd.R_apart' (HO246.out) (Kd.S_typed HO_5.out) (by decide)) (fun k_ hk => ⟨trivial, fun e_ => (hk.2) (by rw [e_]; rfl)⟩))) (fun _ h_ => Or.inr (h_)))) (fun _ hk => hk) (fun k_ hk_ => ((Kd.R_mono (ok' := fun k_ => ((fun _ => True)) k_ ∧ k_ ≠ go14) (Kd.R_apart' (HO246.out) (Kd.S_typed HO_5.out) (by decide)) (fun k_ hk => ⟨trivial, fun e_ => (hk.2) (by rw [e_]; rfl)⟩))).1 k_ hk_.symm))); (try (have hx17_0 := hcc17 0 _ rfl)); (try (try simp only [show ((Kd.slice 3 (Kd.int .i64))).sz = 1 from rfl, Nat.mul_one, Nat.add_zero] at hx17_0)); (try (have hf17_0 := hfr17 0)); (try (try simp only [show ((Kd.slice 3 (Kd.int .i64))).sz = 1 from rfl, Nat.mul_one, Nat.add_zero] at hf17_0)); (try (clear hcl17 hcc17 hfr17 hoki17 hH17; (try clear hM17))); (try (try simp only [show ((Kd.slice 3 (Kd.int .i64))).sz = 1 from rfl, Nat.mul_one, Nat.add_zero] at HP17)))); refine store_event (t := 39) (p := 25) (v := ?vo_w18) (w1 := (w15.setCell ⟨go14, (x6_1 : Int).toNat, none⟩ (v245))) ?hg ?ho ?hn ?hr ?_; (case ho => rfl); (case hg => rfl); (case hn => rfl); (case hr => first | (go_simp; done) | (go_simp; rfl) | (obtain ⟨A_, c_, rfl⟩ := Kd.R_slice HO246.out; first | (go_simp; done) | (go_simp; rfl))); intro w18 hw; have hg : w15.grownBy w18 (some go14) := (by rw [hw]; exact HP17.2); have hp_ : Kd.S (Kd.slice 3 (Kd.int .i64)) 39 w18 w.heap.size (fun _ => True) (.slice (some ⟨go14, 0, none⟩) x5_1.length co14) y247 := (by rw [hw, Ny247.out]; exact HP17.1); clear HP17; have n0_ := Aside0.mk (hp_); have n1_ := Aside0.mk ((by rw [hw]; exact below_set (HB.out) GB14.out : Below w.heap.size w w18)); clear HO_5; clear HB; clear HO246; have HO_5 := n0_; have HB := n1_; clear n0_ n1_; clear hg hw hp_))
                    repeat (go_quiet (first | ((with_reducible refine gate_dst (N := 24) rfl ?_); refine Kd.R_make (Kd.int .i64) _ 3 rfl (N := 24) rfl 39 _ _ rfl ji9 rfl rfl Try.underlying39 (.int .i64 0) 8 info3 rfl (by decide) (by omega) 0 (ok := fun _ => True) (okp := fun _ => True) rfl (fun _ hk => hk) trivial (of_decide_eq_true (by first | (with_reducible assumption) | assumption)) (Nat.le_trans (Nat.mul_le_mul_right _ (of_decide_eq_true (by first | (with_reducible assumption) | assumption) : ji9.toNat ≤ 35184372088832)) (by omega)) (Below.refl _ _) (Nat.le_refl _) ?_; intro v245 w15 ho16 hb hg_ hnew_; clear hg_ hnew_; (first | rw [← Ny244.out] at ho16 | (simp only [Int.reduceToNat] at ho16; rw [← Ny244.out] at ho16)); have n0_ := Aside0.mk (Kd.S_elder' (by (with_reducible repeat (first | apply Kd.S_alloc | apply Kd.S_drewN | apply Kd.S_drew)); exact HO_5.out) (Kd.R_base ho16) hb); have n1_ := Aside0.mk (Kd.R_lower ho16 (below_size (by repeat (first | (with_reducible first | exact HB.out | apply below_alloc | apply pw_below_drewN | apply below_drew1) | exact HB.out)))); have n2_ := Aside0.mk (below_step (by repeat (first | (with_reducible first | exact HB.out | apply below_alloc | apply pw_below_drewN | apply below_drew1) | exact HB.out)) hb); clear HO_5; clear HB; have HO_5 := n0_; have HO246 := n1_; have HB := n2_; clear n0_ n1_ n2_; clear hb ho16; have p14 : 0 ≤ (x6_1 : Int) := of_decide_eq_true (by first | (with_reducible assumption) | assumption); have q14 : (x6_1 : Int) < ((x5_1.length : Int) : Int) := of_decide_eq_true (by first | (with_reducible assumption) | assumption); obtain ⟨go14, co14, eo14, gb14, gl14, cl14, HG14⟩ := Kd.S_form HO_5.out (by omega); (first | cases eo14 | (injection eo14 with ea_ en_ ec_; (first | subst ea_ | (injection ea_ with ea_; subst ea_)); subst ec_; clear en_)); have GB14 := Aside0.mk gb14; have GG14 := Aside0.mk HG14; clear gb14 gl14 HG14; obtain ⟨_, ce14, hcl14, hM14, hcc14, hfr14, _, _⟩ := Kd.S_elem HO_5.out [] (x6_1 : Int) p14 q14; obtain ⟨ve14_0, rfl, ge14_0⟩ := hM14; have hx14_0 := hcc14 0 _ rfl; have hf14_0 := hfr14 0; (try simp only [show ((Kd.slice 3 (Kd.int .i64))).sz = 1 from rfl, Nat.mul_one, Nat.add_zero] at hx14_0); (try simp only [show ((Kd.slice 3 (Kd.int .i64))).sz = 1 from rfl, Nat.mul_one, Nat.add_zero] at hf14_0); clear hcl14 hcc14 hfr14; (try clear hM14); replace p14 := eq_true p14; replace q14 := eq_true q14; have n_ := Aside0.mk (Kd.S_mono (ok' := (fun k_ => some k_ ≠ (v245 : Value).ownBlock)) HO_5.out (fun k_ hk => hk.2)); clear HO_5; have HO_5 := n_; clear n_; have HX17 := Aside0.mk (show Kd.S (Kd.slice 3 (Kd.int .i64)) 39 w15 w.heap.size (fun k_ => ((fun _ => True)) k_ ∧ ¬ ((fun k_ => some k_ = (v245 : Value).ownBlock)) k_) (.slice (some ⟨go14, 0, none⟩) x5_1.length co14) x5_1 from (by (with_reducible repeat (first | apply Kd.S_alloc | apply Kd.S_drewN | apply Kd.S_drew)); exact Kd.S_mono HO_5.out (fun k_ hk => ⟨trivial, fun e_ => hk e_⟩))); obtain ⟨oki17, ce17, hcl17, hM17, hcc17, hfr17, hoki17, hH17⟩ := Kd.S_elem HX17.out [] (x6_1 : Int) (of_decide_eq_true (by first | (with_reducible assumption) | assumption)) (by have h_ : (x6_1 : Int) < ((x5_1.length : Int) : Int) := of_decide_eq_true (by first | (with_reducible assumption) | assumption); first | exact h_ | (have e_ := (Kd.S_reads' HO_5.out).1; omega) | simpa using h_); obtain ⟨ve17_0, rfl, ge17_0⟩ := hM17; have HP17 := Kd.S_seg hH17 (of_decide_eq_true (by first | (with_reducible assumption) | assumption)) (by have h_ : (x6_1 : Int) < ((x5_1.length : Int) : Int) := of_decide_eq_true (by first | (with_reducible assumption) | assumption); first | exact h_ | (have e_ := (Kd.S_reads' HO_5.out).1; omega) | simpa using h_) (seg := [v245]) (j := 0) (show 1 ≤ 1 from by decide) (x' := y244) (Kd.M_row (Kd.R_mono (Kd.R_tight rfl (Kd.R_mono (ok' := fun k_ => ((fun _ => True)) k_ ∧ k_ ≠ go14) (Kd.R_apart' (HO246.out) (Kd.S_typed HO_5.out) (by decide)) (fun k_ hk => ⟨trivial, fun e_ => (hk.2) (by rw [e_]; rfl)⟩))) (fun _ h_ => Or.inr (h_)))) (fun _ hk => hk) (fun k_ hk_ => ((Kd.R_mono (ok' := fun k_ => ((fun _ => True)) k_ ∧ k_ ≠ go14) (Kd.R_apart' (HO246.out) (Kd.S_typed HO_5.out) (by decide)) (fun k_ hk => ⟨trivial, fun e_ => (hk.2) (by rw [e_]; rfl)⟩))).1 k_ hk_.symm); have hx17_0 := hcc17 0 _ rfl; (try simp only [show ((Kd.slice 3 (Kd.int .i64))).sz = 1 from rfl, Nat.mul_one, Nat.add_zero] at hx17_0); have hf17_0 := hfr17 0; (try simp only [show ((Kd.slice 3 (Kd.int .i64))).sz = 1 from rfl, Nat.mul_one, Nat.add_zero] at hf17_0); clear hcl17 hcc17 hfr17 hoki17 hH17; (try clear hM17); (try simp only [show ((Kd.slice 3 (Kd.int .i64))).sz = 1 from rfl, Nat.mul_one, Nat.add_zero] at HP17)) | ((with_reducible refine gate_store (t := 39) (p := 25) rfl ?_); (try (rw [drewN_self w15]; generalize hq_ : World.drewN w15 _ = w15; have n0_ := Aside0.mk (Kd.S_at hq_ HO_5.out); have n1_ := Aside0.mk (below_at hq_ HB.out); clear hq_ HO_5 HB; have HO_5 := n0_; have HB := n1_; clear n0_ n1_; (try (have n_ := Aside0.mk (Kd.S_mono (ok' := (fun k_ => some k_ ≠ (v245 : Value).ownBlock)) HO_5.out (fun k_ hk => hk.2)); clear HO_5; have HO_5 := n_; clear n_)); (try (have HX17 := Aside0.mk (show Kd.S (Kd.slice 3 (Kd.int .i64)) 39 w15 w.heap.size (fun k_ => ((fun _ => True)) k_ ∧ ¬ ((fun k_ => some k_ = (v245 : Value).ownBlock)) k_) (.slice (some ⟨go14, 0, none⟩) x5_1.length co14) x5_1 from (by (with_reducible repeat (first | apply Kd.S_alloc | apply Kd.S_drewN | apply Kd.S_drew)); exact Kd.S_mono HO_5.out (fun k_ hk => ⟨trivial, fun e_ => hk e_⟩))))); (try (obtain ⟨oki17, ce17, hcl17, hM17, hcc17, hfr17, hoki17, hH17⟩ := Kd.S_elem HX17.out [] (x6_1 : Int) (of_decide_eq_true (by first | (with_reducible assumption) | assumption)) (by have h_ : (x6_1 : Int) < ((x5_1.length : Int) : Int) := of_decide_eq_true (by first | (with_reducible assumption) | assumption); first | exact h_ | (have e_ := (Kd.S_reads' HO_5.out).1; omega) | simpa using h_))); (try (obtain ⟨ve17_0, rfl, ge17_0⟩ := hM17)); (try (have HP17 := Kd.S_seg hH17 (of_decide_eq_true (by first | (with_reducible assumption) | assumption)) (by have h_ : (x6_1 : Int) < ((x5_1.length : Int) : Int) := of_decide_eq_true (by first | (with_reducible assumption) | assumption); first | exact h_ | (have e_ := (Kd.S_reads' HO_5.out).1; omega) | simpa using h_) (seg := [v245]) (j := 0) (show 1 ≤ 1 from by decide) (x' := y244) (Kd.M_row (Kd.R_mono (Kd.R_tight rfl (Kd.R_mono (ok' := fun k_ => ((fun _ => True)) k_ ∧ k_ ≠ go14) (Kd.R_apart' (HO246.out) (Kd.S_typed HO_5.out) (by decide)) (fun k_ hk => ⟨trivial, fun e_ => (hk.2) (by rw [e_]; rfl)⟩))) (fun _ h_ => Or.inr (h_)))) (fun _ hk => hk) (fun k_ hk_ => ((Kd.R_mono (ok' := fun k_ => ((fun _ => True)) k_ ∧ k_ ≠ go14) (Kd.R_apart' (HO246.out) (Kd.S_typed HO_5.out) (by decide)) (fun k_ hk => ⟨trivial, fun e_ => (hk.2) (by rw [e_]; rfl)⟩))).1 k_ hk_.symm))); (try (have hx17_0 := hcc17 0 _ rfl)); (try (try simp only [show ((Kd.slice 3 (Kd.int .i64))).sz = 1 from rfl, Nat.mul_one, Nat.add_zero] at hx17_0)); (try (have hf17_0 := hfr17 0)); (try (try simp only [show ((Kd.slice 3 (Kd.int .i64))).sz = 1 from rfl, Nat.mul_one, Nat.add_zero] at hf17_0)); (try (clear hcl17 hcc17 hfr17 hoki17 hH17; (try clear hM17))); (try (try simp only [show ((Kd.slice 3 (Kd.int .i64))).sz = 1 from rfl, Nat.mul_one, Nat.add_zero] at HP17)))); refine store_event (t := 39) (p := 25) (v := ?vo_w18) (w1 := (w15.setCell ⟨go14, (x6_1 : Int).toNat, none⟩ (v245))) ?hg ?ho ?hn ?hr ?_; (case ho => rfl); (case hg => rfl); (case hn => rfl); (case hr => first | (go_simp; done) | (go_simp; rfl) | (obtain ⟨A_, c_, rfl⟩ := Kd.R_slice HO246.out; first | (go_simp; done) | (go_simp; rfl))); intro w18 hw; have hg : w15.grownBy w18 (some go14) := (by rw [hw]; exact HP17.2); have hp_ : Kd.S (Kd.slice 3 (Kd.int .i64)) 39 w18 w.heap.size (fun _ => True) (.slice (some ⟨go14, 0, none⟩) x5_1.length co14) y247 := (by rw [hw, Ny247.out]; exact HP17.1); clear HP17; have n0_ := Aside0.mk (hp_); have n1_ := Aside0.mk ((by rw [hw]; exact below_set (HB.out) GB14.out : Below w.heap.size w w18)); clear HO_5; clear HB; clear HO246; have HO_5 := n0_; have HB := n1_; clear n0_ n1_; clear hg hw hp_)); try go_wp2_with (first | ((with_reducible refine gate_dst (N := 24) rfl ?_); refine Kd.R_make (Kd.int .i64) _ 3 rfl (N := 24) rfl 39 _ _ rfl ji9 rfl rfl Try.underlying39 (.int .i64 0) 8 info3 rfl (by decide) (by omega) 0 (ok := fun _ => True) (okp := fun _ => True) rfl (fun _ hk => hk) trivial (of_decide_eq_true (by first | (with_reducible assumption) | assumption)) (Nat.le_trans (Nat.mul_le_mul_right _ (of_decide_eq_true (by first | (with_reducible assumption) | assumption) : ji9.toNat ≤ 35184372088832)) (by omega)) (Below.refl _ _) (Nat.le_refl _) ?_; intro v245 w15 ho16 hb hg_ hnew_; clear hg_ hnew_; (first | rw [← Ny244.out] at ho16 | (simp only [Int.reduceToNat] at ho16; rw [← Ny244.out] at ho16)); have n0_ := Aside0.mk (Kd.S_elder' (by (with_reducible repeat (first | apply Kd.S_alloc | apply Kd.S_drewN | apply Kd.S_drew)); exact HO_5.out) (Kd.R_base ho16) hb); have n1_ := Aside0.mk (Kd.R_lower ho16 (below_size (by repeat (first | (with_reducible first | exact HB.out | apply below_alloc | apply pw_below_drewN | apply below_drew1) | exact HB.out)))); have n2_ := Aside0.mk (below_step (by repeat (first | (with_reducible first | exact HB.out | apply below_alloc | apply pw_below_drewN | apply below_drew1) | exact HB.out)) hb); clear HO_5; clear HB; have HO_5 := n0_; have HO246 := n1_; have HB := n2_; clear n0_ n1_ n2_; clear hb ho16; have p14 : 0 ≤ (x6_1 : Int) := of_decide_eq_true (by first | (with_reducible assumption) | assumption); have q14 : (x6_1 : Int) < ((x5_1.length : Int) : Int) := of_decide_eq_true (by first | (with_reducible assumption) | assumption); obtain ⟨go14, co14, eo14, gb14, gl14, cl14, HG14⟩ := Kd.S_form HO_5.out (by omega); (first | cases eo14 | (injection eo14 with ea_ en_ ec_; (first | subst ea_ | (injection ea_ with ea_; subst ea_)); subst ec_; clear en_)); have GB14 := Aside0.mk gb14; have GG14 := Aside0.mk HG14; clear gb14 gl14 HG14; obtain ⟨_, ce14, hcl14, hM14, hcc14, hfr14, _, _⟩ := Kd.S_elem HO_5.out [] (x6_1 : Int) p14 q14; obtain ⟨ve14_0, rfl, ge14_0⟩ := hM14; have hx14_0 := hcc14 0 _ rfl; have hf14_0 := hfr14 0; (try simp only [show ((Kd.slice 3 (Kd.int .i64))).sz = 1 from rfl, Nat.mul_one, Nat.add_zero] at hx14_0); (try simp only [show ((Kd.slice 3 (Kd.int .i64))).sz = 1 from rfl, Nat.mul_one, Nat.add_zero] at hf14_0); clear hcl14 hcc14 hfr14; (try clear hM14); replace p14 := eq_true p14; replace q14 := eq_true q14; have n_ := Aside0.mk (Kd.S_mono (ok' := (fun k_ => some k_ ≠ (v245 : Value).ownBlock)) HO_5.out (fun k_ hk => hk.2)); clear HO_5; have HO_5 := n_; clear n_; have HX17 := Aside0.mk (show Kd.S (Kd.slice 3 (Kd.int .i64)) 39 w15 w.heap.size (fun k_ => ((fun _ => True)) k_ ∧ ¬ ((fun k_ => some k_ = (v245 : Value).ownBlock)) k_) (.slice (some ⟨go14, 0, none⟩) x5_1.length co14) x5_1 from (by (with_reducible repeat (first | apply Kd.S_alloc | apply Kd.S_drewN | apply Kd.S_drew)); exact Kd.S_mono HO_5.out (fun k_ hk => ⟨trivial, fun e_ => hk e_⟩))); obtain ⟨oki17, ce17, hcl17, hM17, hcc17, hfr17, hoki17, hH17⟩ := Kd.S_elem HX17.out [] (x6_1 : Int) (of_decide_eq_true (by first | (with_reducible assumption) | assumption)) (by have h_ : (x6_1 : Int) < ((x5_1.length : Int) : Int) := of_decide_eq_true (by first | (with_reducible assumption) | assumption); first | exact h_ | (have e_ := (Kd.S_reads' HO_5.out).1; omega) | simpa using h_); obtain ⟨ve17_0, rfl, ge17_0⟩ := hM17; have HP17 := Kd.S_seg hH17 (of_decide_eq_true (by first | (with_reducible assumption) | assumption)) (by have h_ : (x6_1 : Int) < ((x5_1.length : Int) : Int) := of_decide_eq_true (by first | (with_reducible assumption) | assumption); first | exact h_ | (have e_ := (Kd.S_reads' HO_5.out).1; omega) | simpa using h_) (seg := [v245]) (j := 0) (show 1 ≤ 1 from by decide) (x' := y244) (Kd.M_row (Kd.R_mono (Kd.R_tight rfl (Kd.R_mono (ok' := fun k_ => ((fun _ => True)) k_ ∧ k_ ≠ go14) (Kd.R_apart' (HO246.out) (Kd.S_typed HO_5.out) (by decide)) (fun k_ hk => ⟨trivial, fun e_ => (hk.2) (by rw [e_]; rfl)⟩))) (fun _ h_ => Or.inr (h_)))) (fun _ hk => hk) (fun k_ hk_ => ((Kd.R_mono (ok' := fun k_ => ((fun _ => True)) k_ ∧ k_ ≠ go14) (Kd.R_apart' (HO246.out) (Kd.S_typed HO_5.out) (by decide)) (fun k_ hk => ⟨trivial, fun e_ => (hk.2) (by rw [e_]; rfl)⟩))).1 k_ hk_.symm); have hx17_0 := hcc17 0 _ rfl; (try simp only [show ((Kd.slice 3 (Kd.int .i64))).sz = 1 from rfl, Nat.mul_one, Nat.add_zero] at hx17_0); have hf17_0 := hfr17 0; (try simp only [show ((Kd.slice 3 (Kd.int .i64))).sz = 1 from rfl, Nat.mul_one, Nat.add_zero] at hf17_0); clear hcl17 hcc17 hfr17 hoki17 hH17; (try clear hM17); (try simp only [show ((Kd.slice 3 (Kd.int .i64))).sz = 1 from rfl, Nat.mul_one, Nat.add_zero] at HP17)) | ((with_reducible refine gate_store (t := 39) (p := 25) rfl ?_); (try (rw [drewN_self w15]; generalize hq_ : World.drewN w15 _ = w15; have n0_ := Aside0.mk (Kd.S_at hq_ HO_5.out); have n1_ := Aside0.mk (below_at hq_ HB.out); clear hq_ HO_5 HB; have HO_5 := n0_; have HB := n1_; clear n0_ n1_; (try (have n_ := Aside0.mk (Kd.S_mono (ok' := (fun k_ => some k_ ≠ (v245 : Value).ownBlock)) HO_5.out (fun k_ hk => hk.2)); clear HO_5; have HO_5 := n_; clear n_)); (try (have HX17 := Aside0.mk (show Kd.S (Kd.slice 3 (Kd.int .i64)) 39 w15 w.heap.size (fun k_ => ((fun _ => True)) k_ ∧ ¬ ((fun k_ => some k_ = (v245 : Value).ownBlock)) k_) (.slice (some ⟨go14, 0, none⟩) x5_1.length co14) x5_1 from (by (with_reducible repeat (first | apply Kd.S_alloc | apply Kd.S_drewN | apply Kd.S_drew)); exact Kd.S_mono HO_5.out (fun k_ hk => ⟨trivial, fun e_ => hk e_⟩))))); (try (obtain ⟨oki17, ce17, hcl17, hM17, hcc17, hfr17, hoki17, hH17⟩ := Kd.S_elem HX17.out [] (x6_1 : Int) (of_decide_eq_true (by first | (with_reducible assumption) | assumption)) (by have h_ : (x6_1 : Int) < ((x5_1.length : Int) : Int) := of_decide_eq_true (by first | (with_reducible assumption) | assumption); first | exact h_ | (have e_ := (Kd.S_reads' HO_5.out).1; omega) | simpa using h_))); (try (obtain ⟨ve17_0, rfl, ge17_0⟩ := hM17)); (try (have HP17 := Kd.S_seg hH17 (of_decide_eq_true (by first | (with_reducible assumption) | assumption)) (by have h_ : (x6_1 : Int) < ((x5_1.length : Int) : Int) := of_decide_eq_true (by first | (with_reducible assumption) | assumption); first | exact h_ | (have e_ := (Kd.S_reads' HO_5.out).1; omega) | simpa using h_) (seg := [v245]) (j := 0) (show 1 ≤ 1 from by decide) (x' := y244) (Kd.M_row (Kd.R_mono (Kd.R_tight rfl (Kd.R_mono (ok' := fun k_ => ((fun _ => True)) k_ ∧ k_ ≠ go14) (Kd.R_apart' (HO246.out) (Kd.S_typed HO_5.out) (by decide)) (fun k_ hk => ⟨trivial, fun e_ => (hk.2) (by rw [e_]; rfl)⟩))) (fun _ h_ => Or.inr (h_)))) (fun _ hk => hk) (fun k_ hk_ => ((Kd.R_mono (ok' := fun k_ => ((fun _ => True)) k_ ∧ k_ ≠ go14) (Kd.R_apart' (HO246.out) (Kd.S_typed HO_5.out) (by decide)) (fun k_ hk => ⟨trivial, fun e_ => (hk.2) (by rw [e_]; rfl)⟩))).1 k_ hk_.symm))); (try (have hx17_0 := hcc17 0 _ rfl)); (try (try simp only [show ((Kd.slice 3 (Kd.int .i64))).sz = 1 from rfl, Nat.mul_one, Nat.add_zero] at hx17_0)); (try (have hf17_0 := hfr17 0)); (try (try simp only [show ((Kd.slice 3 (Kd.int .i64))).sz = 1 from rfl, Nat.mul_one, Nat.add_zero] at hf17_0)); (try (clear hcl17 hcc17 hfr17 hoki17 hH17; (try clear hM17))); (try (try simp only [show ((Kd.slice 3 (Kd.int .i64))).sz = 1 from rfl, Nat.mul_one, Nat.add_zero] at HP17)))); refine store_event (t := 39) (p := 25) (v := ?vo_w18) (w1 := (w15.setCell ⟨go14, (x6_1 : Int).toNat, none⟩ (v245))) ?hg ?ho ?hn ?hr ?_; (case ho => rfl); (case hg => rfl); (case hn => rfl); (case hr => first | (go_simp; done) | (go_simp; rfl) | (obtain ⟨A_, c_, rfl⟩ := Kd.R_slice HO246.out; first | (go_simp; done) | (go_simp; rfl))); intro w18 hw; have hg : w15.grownBy w18 (some go14) := (by rw [hw]; exact HP17.2); have hp_ : Kd.S (Kd.slice 3 (Kd.int .i64)) 39 w18 w.heap.size (fun _ => True) (.slice (some ⟨go14, 0, none⟩) x5_1.length co14) y247 := (by rw [hw, Ny247.out]; exact HP17.1); clear HP17; have n0_ := Aside0.mk (hp_); have n1_ := Aside0.mk ((by rw [hw]; exact below_set (HB.out) GB14.out : Below w.heap.size w w18)); clear HO_5; clear HB; clear HO246; have HO_5 := n0_; have HB := n1_; clear n0_ n1_; clear hg hw hp_)))
                    go_loopg [7] k1 (fun kq v7 w' => ∃ (x5_2 : List (List Int)) (x7_2 : Int), v7 = .int .i64 x7_2 ∧ Aside0 (spec_l05Table.l1 kq a0 a1 x5_2 x6_1 x7_2 = some r) ∧ Aside0 (kq ≤ k1) ∧ Aside0 (Kd.S (Kd.slice 3 (Kd.int .i64)) 39 w' w.heap.size (fun _ => True) (.slice (some ⟨go14, 0, none⟩) x5_1.length co14) x5_2) ∧ Aside0 (Below w.heap.size w w'))
                    case atStart => exact ⟨(y247), ((a1.size : Int)), (by first | rfl | (simp; done) | (simp [*]; done)), H', ⟨Nat.le_refl _⟩, ⟨by (with_reducible repeat (first | apply Kd.S_alloc | apply Kd.S_drewN | apply Kd.S_drew)); exact HO_5.out⟩, ⟨by repeat (first | (with_reducible first | exact HB.out | apply below_alloc | apply pw_below_drewN | apply below_drew1) | exact HB.out)⟩⟩
                    case round =>
                      clear H'
                      try clear c1
                      try clear p1
                      try clear q1
                      try clear hx1
                      try clear p2
                      try clear c3
                      try clear c4
                      try clear c4b0
                      try clear c4b1
                      try clear c5
                      try clear c5b0
                      try clear c5b1
                      try clear p6
                      try clear c8
                      try clear c8b0
                      try clear c10
                      try clear c10b0
                      try clear c10b1
                      try clear c11
                      try clear c11b0
                      try clear c11b1
                      try clear c12
                      try clear c12b0
                      try clear c13
                      try clear c13b0
                      try clear c14
                      try clear p14
                      try clear q14
                      try clear hx14
                      try clear hf14
                      try clear c17
                      try clear hx17
                      try clear hf17
                      try clear hx14_0
                      try clear hx17_0
                      try clear p14
                      try clear p2
                      try clear p6
                      try clear q14
                      obtain ⟨x5_2, x7_2, rfl, HA, HK2, HO_5, HB⟩ := hrel
                      have hl5_2 := (Kd.S_reads' HO_5.out).1
                      rw [hl5_2] at HO_5
                      (try simp only [hl5_2])
                      cases gk with
                      | zero => exact absurd HA.out (by simp [spec_l05Table.l1])
                      | succ k2 =>
                        have H := HA.out
                        clear HA
                        simp only [spec_l05Table.l1] at H
                        by_cases c19 : x7_2 ≥ 0
                        · rw [if_pos c19] at H
                          have c19b0 : decide (0 ≤ x7_2) = true := decide_eq_true c19
                          clear c19
                          by_cases c20 : x6_1 = (a0.size : Int)
                          · rw [if_pos c20] at H
                            have c20b0 : (x6_1 == (a0.size : Int)) = true := beq_iff_eq.mpr c20
                            have c20b1 : (x6_1 != (a0.size : Int)) = false := bne_eq_false_iff_eq.mpr c20
                            clear c20
                            by_cases c21 : 0 ≤ x6_1
                            · rw [if_pos c21] at H
                              have c21b0 : decide (0 ≤ x6_1) = true := decide_eq_true c21
                              clear c21
                              by_cases c22 : x6_1 < (x5_2.length : Int)
                              · rw [if_pos c22] at H
                                have c22b0 : decide (x6_1 < (x5_2.length : Int)) = true := decide_eq_true c22
                                clear c22
                                by_cases c23 : 0 ≤ x7_2
                                · rw [if_pos c23] at H
                                  have c23b0 : decide (0 ≤ x7_2) = true := decide_eq_true c23
                                  clear c23
                                  by_cases c24 : x7_2 < ((rd_L2 x5_2 x6_1).length : Int)
                                  · rw [if_pos c24] at H
                                    have c24b0 : decide (x7_2 < ((rd_L2 x5_2 x6_1).length : Int)) = true := decide_eq_true c24
                                    clear c24
                                    obtain ⟨y249, hy249⟩ : ∃ y_ : List Int, y_ = ((rd_L2 x5_2 x6_1).set (x7_2 : Int).toNat (wrap64 ((a1.size : Int) - x7_2))) := ⟨_, rfl⟩
                                    replace H : (spec_l05Table.l1 k2 a0 a1 (x5_2.set (x6_1 : Int).toNat y249) x6_1 (wrap64 (x7_2 - 1))) = some r := by first | (rw [hy249]; with_reducible exact H) | (have H2_ := (Option.bind_some _ _).symm.trans H; rw [hy249]; with_reducible exact H2_) | (have H2_ := (Option.bind_some _ _).symm.trans H; with_reducible exact H2_) | with_reducible exact H | (rw [hy249]; exact H) | exact H
                                    have Ny249 := Aside0.mk hy249
                                    clear hy249
                                    obtain ⟨y251, hy251⟩ : ∃ y_ : List (List Int), y_ = (x5_2.set (x6_1 : Int).toNat y249) := ⟨_, rfl⟩
                                    replace H : (spec_l05Table.l1 k2 a0 a1 y251 x6_1 (wrap64 (x7_2 - 1))) = some r := by first | (rw [hy251]; with_reducible exact H) | (have H2_ := (Option.bind_some _ _).symm.trans H; rw [hy251]; with_reducible exact H2_) | (have H2_ := (Option.bind_some _ _).symm.trans H; with_reducible exact H2_) | with_reducible exact H | (rw [hy251]; exact H) | exact H
                                    have Ny251 := Aside0.mk hy251
                                    clear hy251
                                    have H' := Aside0.mk H
                                    clear H
                                    have p248 : 0 ≤ (x6_1 : Int) := of_decide_eq_true (by first | (with_reducible assumption) | assumption)
                                    have q248 : x6_1 < (x5_2.length : Int) := of_decide_eq_true (by first | (with_reducible assumption) | assumption)
                                    obtain ⟨ad248, A248_0, c248_0, e248, hx248_0, hl248_0, hi248_0⟩ := at_L2 (Kd.S_reads' HO_5.out).2.2 x6_1 p248 q248
                                    obtain rfl : (⟨go14, 0, none⟩ : Addr) = ad248 := (by injection e248)
                                    obtain ⟨ce248, hce248, hMe248, hcc248⟩ := Kd.S_get HO_5.out [] x6_1 p248 (by first | exact q248 | exact of_decide_eq_true (by first | (with_reducible assumption) | assumption) | (have e_ := (Kd.S_reads' HO_5.out).1; omega))
                                    obtain ⟨ve248_0, rfl, ge248_0⟩ := hMe248
                                    have hv248_0 := hcc248 0 _ rfl
                                    rw [Nat.add_zero, show ((Kd.slice 3 (Kd.int .i64))).sz = 1 from rfl, Nat.mul_one] at hv248_0
                                    replace hv248_0 := Option.some.inj (hv248_0.symm.trans hx248_0)
                                    rw [hv248_0] at ge248_0
                                    have HL248_0 := Aside0.mk (show Kd.R (Kd.int .i64) 3 _ _ _ _ (rd_L2 x5_2 x6_1) from ge248_0)
                                    clear hv248_0 ge248_0
                                    have HX248_0 := Aside0.mk hx248_0
                                    clear hcc248 hce248
                                    (first | simp only [add_plain] at hx248_0 | simp only [add_at] at hx248_0 | simp only [Addr.add, Nat.zero_add] at hx248_0 | skip)
                                    have HR248_0 := Aside0.mk hi248_0
                                    have HC248_0 := Aside0.mk hl248_0
                                    clear hi248_0 hl248_0
                                    replace p248 := eq_true p248
                                    replace q248 := eq_true q248
                                    have p25 : 0 ≤ (x7_2 : Int) := of_decide_eq_true (by first | (with_reducible assumption) | assumption)
                                    have q25 : (x7_2 : Int) < (((rd_L2 x5_2 x6_1).length : Int) : Int) := of_decide_eq_true (by first | (with_reducible assumption) | assumption)
                                    obtain ⟨go25, co25, eo25, gb25, gl25, cl25, HG25⟩ := Kd.R_form HL248_0.out (by omega)
                                    (first | cases eo25 | (injection eo25 with ea_ en_ ec_; (first | subst ea_ | (injection ea_ with ea_; subst ea_)); subst ec_; clear en_))
                                    have GB25 := Aside0.mk gb25
                                    have GG25 := Aside0.mk HG25
                                    clear gb25 gl25 HG25
                                    obtain ⟨hx25_0, hf25_0⟩ := Kd.R_celln 0 HL248_0.out (x7_2 : Int) p25 q25
                                    replace p25 := eq_true p25
                                    replace q25 := eq_true q25
                                    have hq26 : (x6_1 : Int) < (x5_2.length : Int) := (by have h_ : (x6_1 : Int) < ((x5_2.length : Int) : Int) := of_decide_eq_true (by first | (with_reducible assumption) | assumption); first | exact h_ | (have e_ := (Kd.S_reads' HO_5.out).1; omega) | simpa only [List.length_set, List.length_set] using h_)
                                    obtain ⟨oki26, ce26, hcl26, hM26, hcc26, hok26, hbk26⟩ := Kd.S_borrow HO_5.out [] (x6_1 : Int) (of_decide_eq_true (by first | (with_reducible assumption) | assumption)) hq26
                                    obtain ⟨ve26_0, rfl, ge26_0⟩ := hM26
                                    have hv26 := hcc26 0 _ rfl
                                    rw [Nat.add_zero, show ((Kd.slice 3 (Kd.int .i64))).sz = 1 from rfl, Nat.mul_one] at hv26
                                    replace hv26 := Option.some.inj (hv26.symm.trans HX248_0.out)
                                    subst hv26
                                    clear hcc26 hcl26
                                    replace ge26_0 := (show Kd.R (Kd.int .i64) 3 _ _ _ _ (rd_L2 x5_2 x6_1) from ge26_0)
                                    have HP26 := Kd.R_putg ge26_0 (x7_2 : Int) (wrap64 ((a1.size : Int) - x7_2))
                                    go_wp2_with (first | ((with_reducible refine gate_store (t := 3) (p := 98) rfl ?_); (try (rw [drewN_self wr]; generalize hq_ : World.drewN wr _ = wr; have n0_ := Aside0.mk (Kd.S_at hq_ HO_5.out); have n1_ := Aside0.mk (Kd.R_at hq_ HL248_0.out); have n3_ := Aside0.mk (cell_at hq_ HX248_0.out); have n2_ := Aside0.mk (below_at hq_ HB.out); clear HO_5 HX248_0 HB hx25_0 hf25_0; have HO_5 := n0_; have HX248_0 := n3_; have HB := n2_; obtain ⟨hx25_0, hf25_0⟩ := Kd.R_celln 0 n1_.out (x7_2 : Int) (of_eq_true p25) (of_eq_true q25); clear hq_ n0_ n1_ n2_ n3_; (try (have hq26 : (x6_1 : Int) < (x5_2.length : Int) := (by have h_ : (x6_1 : Int) < ((x5_2.length : Int) : Int) := of_decide_eq_true (by first | (with_reducible assumption) | assumption); first | exact h_ | (have e_ := (Kd.S_reads' HO_5.out).1; omega) | simpa only [List.length_set, List.length_set] using h_))); (try (obtain ⟨oki26, ce26, hcl26, hM26, hcc26, hok26, hbk26⟩ := Kd.S_borrow HO_5.out [] (x6_1 : Int) (of_decide_eq_true (by first | (with_reducible assumption) | assumption)) hq26)); (try (obtain ⟨ve26_0, rfl, ge26_0⟩ := hM26)); (try (have hv26 := hcc26 0 _ rfl)); (try (rw [Nat.add_zero, show ((Kd.slice 3 (Kd.int .i64))).sz = 1 from rfl, Nat.mul_one] at hv26)); (try (replace hv26 := Option.some.inj (hv26.symm.trans HX248_0.out))); (try (subst hv26)); (try (clear hcc26 hcl26)); (try (replace ge26_0 := (show Kd.R (Kd.int .i64) 3 _ _ _ _ (rd_L2 x5_2 x6_1) from ge26_0))); (try (have HP26 := Kd.R_putg ge26_0 (x7_2 : Int) (wrap64 ((a1.size : Int) - x7_2)))))); refine store_event (t := 3) (p := 98) (v := ?vo_w27) (w1 := (wr.setCell ⟨go25, (x7_2 : Int).toNat, none⟩ (.int .i64 (wrap64 ((a1.size : Int) - x7_2))))) ?hg ?ho ?hn ?hr ?_; (case ho => rfl); (case hg => rfl); (case hn => rfl); (case hr => first | (go_simp; done) | (go_simp; rfl)); intro w27 hw; have hg : wr.grownBy w27 (some go25) := (by rw [hw]; exact HP26.2); have hz_ : Kd.R (Kd.int .i64) 3 w27 w.heap.size oki26 (.slice (some ⟨go25, 0, none⟩) (rd_L2 x5_2 x6_1).length c248_0) y249 := (by rw [hw, Ny249.out]; exact HP26.1); have hp_ : Kd.S (Kd.slice 3 (Kd.int .i64)) 39 w27 w.heap.size (fun _ => True) (.slice (some ⟨go14, 0, none⟩) x5_2.length co14) y251 := (by rw [Ny251.out]; exact hbk26 hg (fun k_ e_ => by injection e_ with e_; subst e_; exact ge26_0.1 _ rfl) (Kd.M_row hz_)); have hm_ := Kd.R_mono hz_ hok26; clear HP26 hbk26; have n0_ := Aside0.mk (hp_); have n1_ := Aside0.mk ((by rw [hw]; exact below_set (HB.out) GB25.out : Below w.heap.size w w27)); have n2_ := Aside0.mk (hm_); have n3_ := Aside0.mk ((Kd.R_reads' hm_).2.1); clear HO_5; clear HB; clear HL248_0; have HO_5 := n0_; have HB := n1_; have HL272 := n2_; have HC250 := n3_; clear n0_ n1_ n2_ n3_; clear hg hw hp_ hz_ hm_ hok26))
                                    repeat (go_quiet (first | ((with_reducible refine gate_store (t := 3) (p := 98) rfl ?_); (try (rw [drewN_self wr]; generalize hq_ : World.drewN wr _ = wr; have n0_ := Aside0.mk (Kd.S_at hq_ HO_5.out); have n1_ := Aside0.mk (Kd.R_at hq_ HL248_0.out); have n3_ := Aside0.mk (cell_at hq_ HX248_0.out); have n2_ := Aside0.mk (below_at hq_ HB.out); clear HO_5 HX248_0 HB hx25_0 hf25_0; have HO_5 := n0_; have HX248_0 := n3_; have HB := n2_; obtain ⟨hx25_0, hf25_0⟩ := Kd.R_celln 0 n1_.out (x7_2 : Int) (of_eq_true p25) (of_eq_true q25); clear hq_ n0_ n1_ n2_ n3_; (try (have hq26 : (x6_1 : Int) < (x5_2.length : Int) := (by have h_ : (x6_1 : Int) < ((x5_2.length : Int) : Int) := of_decide_eq_true (by first | (with_reducible assumption) | assumption); first | exact h_ | (have e_ := (Kd.S_reads' HO_5.out).1; omega) | simpa only [List.length_set, List.length_set] using h_))); (try (obtain ⟨oki26, ce26, hcl26, hM26, hcc26, hok26, hbk26⟩ := Kd.S_borrow HO_5.out [] (x6_1 : Int) (of_decide_eq_true (by first | (with_reducible assumption) | assumption)) hq26)); (try (obtain ⟨ve26_0, rfl, ge26_0⟩ := hM26)); (try (have hv26 := hcc26 0 _ rfl)); (try (rw [Nat.add_zero, show ((Kd.slice 3 (Kd.int .i64))).sz = 1 from rfl, Nat.mul_one] at hv26)); (try (replace hv26 := Option.some.inj (hv26.symm.trans HX248_0.out))); (try (subst hv26)); (try (clear hcc26 hcl26)); (try (replace ge26_0 := (show Kd.R (Kd.int .i64) 3 _ _ _ _ (rd_L2 x5_2 x6_1) from ge26_0))); (try (have HP26 := Kd.R_putg ge26_0 (x7_2 : Int) (wrap64 ((a1.size : Int) - x7_2)))))); refine store_event (t := 3) (p := 98) (v := ?vo_w27) (w1 := (wr.setCell ⟨go25, (x7_2 : Int).toNat, none⟩ (.int .i64 (wrap64 ((a1.size : Int) - x7_2))))) ?hg ?ho ?hn ?hr ?_; (case ho => rfl); (case hg => rfl); (case hn => rfl); (case hr => first | (go_simp; done) | (go_simp; rfl)); intro w27 hw; have hg : wr.grownBy w27 (some go25) := (by rw [hw]; exact HP26.2); have hz_ : Kd.R (Kd.int .i64) 3 w27 w.heap.size oki26 (.slice (some ⟨go25, 0, none⟩) (rd_L2 x5_2 x6_1).length c248_0) y249 := (by rw [hw, Ny249.out]; exact HP26.1); have hp_ : Kd.S (Kd.slice 3 (Kd.int .i64)) 39 w27 w.heap.size (fun _ => True) (.slice (some ⟨go14, 0, none⟩) x5_2.length co14) y251 := (by rw [Ny251.out]; exact hbk26 hg (fun k_ e_ => by injection e_ with e_; subst e_; exact ge26_0.1 _ rfl) (Kd.M_row hz_)); have hm_ := Kd.R_mono hz_ hok26; clear HP26 hbk26; have n0_ := Aside0.mk (hp_); have n1_ := Aside0.mk ((by rw [hw]; exact below_set (HB.out) GB25.out : Below w.heap.size w w27)); have n2_ := Aside0.mk (hm_); have n3_ := Aside0.mk ((Kd.R_reads' hm_).2.1); clear HO_5; clear HB; clear HL248_0; have HO_5 := n0_; have HB := n1_; have HL272 := n2_; have HC250 := n3_; clear n0_ n1_ n2_ n3_; clear hg hw hp_ hz_ hm_ hok26)); try go_wp2_with (first | ((with_reducible refine gate_store (t := 3) (p := 98) rfl ?_); (try (rw [drewN_self wr]; generalize hq_ : World.drewN wr _ = wr; have n0_ := Aside0.mk (Kd.S_at hq_ HO_5.out); have n1_ := Aside0.mk (Kd.R_at hq_ HL248_0.out); have n3_ := Aside0.mk (cell_at hq_ HX248_0.out); have n2_ := Aside0.mk (below_at hq_ HB.out); clear HO_5 HX248_0 HB hx25_0 hf25_0; have HO_5 := n0_; have HX248_0 := n3_; have HB := n2_; obtain ⟨hx25_0, hf25_0⟩ := Kd.R_celln 0 n1_.out (x7_2 : Int) (of_eq_true p25) (of_eq_true q25); clear hq_ n0_ n1_ n2_ n3_; (try (have hq26 : (x6_1 : Int) < (x5_2.length : Int) := (by have h_ : (x6_1 : Int) < ((x5_2.length : Int) : Int) := of_decide_eq_true (by first | (with_reducible assumption) | assumption); first | exact h_ | (have e_ := (Kd.S_reads' HO_5.out).1; omega) | simpa only [List.length_set, List.length_set] using h_))); (try (obtain ⟨oki26, ce26, hcl26, hM26, hcc26, hok26, hbk26⟩ := Kd.S_borrow HO_5.out [] (x6_1 : Int) (of_decide_eq_true (by first | (with_reducible assumption) | assumption)) hq26)); (try (obtain ⟨ve26_0, rfl, ge26_0⟩ := hM26)); (try (have hv26 := hcc26 0 _ rfl)); (try (rw [Nat.add_zero, show ((Kd.slice 3 (Kd.int .i64))).sz = 1 from rfl, Nat.mul_one] at hv26)); (try (replace hv26 := Option.some.inj (hv26.symm.trans HX248_0.out))); (try (subst hv26)); (try (clear hcc26 hcl26)); (try (replace ge26_0 := (show Kd.R (Kd.int .i64) 3 _ _ _ _ (rd_L2 x5_2 x6_1) from ge26_0))); (try (have HP26 := Kd.R_putg ge26_0 (x7_2 : Int) (wrap64 ((a1.size : Int) - x7_2)))))); refine store_event (t := 3) (p := 98) (v := ?vo_w27) (w1 := (wr.setCell ⟨go25, (x7_2 : Int).toNat, none⟩ (.int .i64 (wrap64 ((a1.size : Int) - x7_2))))) ?hg ?ho ?hn ?hr ?_; (case ho => rfl); (case hg => rfl); (case hn => rfl); (case hr => first | (go_simp; done) | (go_simp; rfl)); intro w27 hw; have hg : wr.grownBy w27 (some go25) := (by rw [hw]; exact HP26.2); have hz_ : Kd.R (Kd.int .i64) 3 w27 w.heap.size oki26 (.slice (some ⟨go25, 0, none⟩) (rd_L2 x5_2 x6_1).length c248_0) y249 := (by rw [hw, Ny249.out]; exact HP26.1); have hp_ : Kd.S (Kd.slice 3 (Kd.int .i64)) 39 w27 w.heap.size (fun _ => True) (.slice (some ⟨go14, 0, none⟩) x5_2.length co14) y251 := (by rw [Ny251.out]; exact hbk26 hg (fun k_ e_ => by injection e_ with e_; subst e_; exact ge26_0.1 _ rfl) (Kd.M_row hz_)); have hm_ := Kd.R_mono hz_ hok26; clear HP26 hbk26; have n0_ := Aside0.mk (hp_); have n1_ := Aside0.mk ((by rw [hw]; exact below_set (HB.out) GB25.out : Below w.heap.size w w27)); have n2_ := Aside0.mk (hm_); have n3_ := Aside0.mk ((Kd.R_reads' hm_).2.1); clear HO_5; clear HB; clear HL248_0; have HO_5 := n0_; have HB := n1_; have HL272 := n2_; have HC250 := n3_; clear n0_ n1_ n2_ n3_; clear hg hw hp_ hz_ hm_ hok26)))
                                    (try simp only [← hl5_2])
                                    go_roundg k2
                                    case measure => have := HK1.out; have := HK2.out; omega
                                    case rel => exact ⟨(y251), (wrap64 (x7_2 - 1)), (by first | rfl | (simp; done) | (simp [*]; done)), H', ⟨by have := HK1.out; have := HK2.out; omega⟩, ⟨by (try simp only [hl5_2]); (with_reducible repeat (first | apply Kd.S_alloc | apply Kd.S_drewN | apply Kd.S_drew)); exact HO_5.out⟩, ⟨by repeat (first | (with_reducible first | exact HB.out | apply below_alloc | apply pw_below_drewN | apply below_drew1) | exact HB.out)⟩⟩
                                  · rw [if_neg c24] at H
                                    exact absurd H (by simp)
                                · rw [if_neg c23] at H
                                  exact absurd H (by simp)
                              · rw [if_neg c22] at H
                                exact absurd H (by simp)
                            · rw [if_neg c21] at H
                              exact absurd H (by simp)
                          · rw [if_neg c20] at H
                            have c20b0 : (x6_1 == (a0.size : Int)) = false := beq_eq_false_iff_ne.mpr c20
                            have c20b1 : (x6_1 != (a0.size : Int)) = true := bne_iff_ne.mpr c20
                            by_cases c28 : x7_2 = (a1.size : Int)
                            · rw [if_pos c28] at H
                              have c28b0 : (x7_2 == (a1.size : Int)) = true := beq_iff_eq.mpr c28
                              have c28b1 : (x7_2 != (a1.size : Int)) = false := bne_eq_false_iff_eq.mpr c28
                              clear c28
                              by_cases c29 : 0 ≤ x6_1
                              · rw [if_pos c29] at H
                                have c29b0 : decide (0 ≤ x6_1) = true := decide_eq_true c29
                                clear c29
                                by_cases c30 : x6_1 < (x5_2.length : Int)
                                · rw [if_pos c30] at H
                                  have c30b0 : decide (x6_1 < (x5_2.length : Int)) = true := decide_eq_true c30
                                  clear c30
                                  by_cases c31 : 0 ≤ x7_2
                                  · rw [if_pos c31] at H
                                    have c31b0 : decide (0 ≤ x7_2) = true := decide_eq_true c31
                                    clear c31
                                    by_cases c32 : x7_2 < ((rd_L2 x5_2 x6_1).length : Int)
                                    · rw [if_pos c32] at H
                                      have c32b0 : decide (x7_2 < ((rd_L2 x5_2 x6_1).length : Int)) = true := decide_eq_true c32
                                      clear c32
                                      obtain ⟨y253, hy253⟩ : ∃ y_ : List Int, y_ = ((rd_L2 x5_2 x6_1).set (x7_2 : Int).toNat (wrap64 ((a0.size : Int) - x6_1))) := ⟨_, rfl⟩
                                      replace H : (spec_l05Table.l1 k2 a0 a1 (x5_2.set (x6_1 : Int).toNat y253) x6_1 (wrap64 (x7_2 - 1))) = some r := by first | (rw [hy253]; with_reducible exact H) | (have H2_ := (Option.bind_some _ _).symm.trans H; rw [hy253]; with_reducible exact H2_) | (have H2_ := (Option.bind_some _ _).symm.trans H; with_reducible exact H2_) | with_reducible exact H | (rw [hy253]; exact H) | exact H
                                      have Ny253 := Aside0.mk hy253
                                      clear hy253
                                      obtain ⟨y255, hy255⟩ : ∃ y_ : List (List Int), y_ = (x5_2.set (x6_1 : Int).toNat y253) := ⟨_, rfl⟩
                                      replace H : (spec_l05Table.l1 k2 a0 a1 y255 x6_1 (wrap64 (x7_2 - 1))) = some r := by first | (rw [hy255]; with_reducible exact H) | (have H2_ := (Option.bind_some _ _).symm.trans H; rw [hy255]; with_reducible exact H2_) | (have H2_ := (Option.bind_some _ _).symm.trans H; with_reducible exact H2_) | with_reducible exact H | (rw [hy255]; exact H) | exact H
                                      have Ny255 := Aside0.mk hy255
                                      clear hy255
                                      have H' := Aside0.mk H
                                      clear H
                                      have p252 : 0 ≤ (x6_1 : Int) := of_decide_eq_true (by first | (with_reducible assumption) | assumption)
                                      have q252 : x6_1 < (x5_2.length : Int) := of_decide_eq_true (by first | (with_reducible assumption) | assumption)
                                      obtain ⟨ad252, A252_0, c252_0, e252, hx252_0, hl252_0, hi252_0⟩ := at_L2 (Kd.S_reads' HO_5.out).2.2 x6_1 p252 q252
                                      obtain rfl : (⟨go14, 0, none⟩ : Addr) = ad252 := (by injection e252)
                                      obtain ⟨ce252, hce252, hMe252, hcc252⟩ := Kd.S_get HO_5.out [] x6_1 p252 (by first | exact q252 | exact of_decide_eq_true (by first | (with_reducible assumption) | assumption) | (have e_ := (Kd.S_reads' HO_5.out).1; omega))
                                      obtain ⟨ve252_0, rfl, ge252_0⟩ := hMe252
                                      have hv252_0 := hcc252 0 _ rfl
                                      rw [Nat.add_zero, show ((Kd.slice 3 (Kd.int .i64))).sz = 1 from rfl, Nat.mul_one] at hv252_0
                                      replace hv252_0 := Option.some.inj (hv252_0.symm.trans hx252_0)
                                      rw [hv252_0] at ge252_0
                                      have HL252_0 := Aside0.mk (show Kd.R (Kd.int .i64) 3 _ _ _ _ (rd_L2 x5_2 x6_1) from ge252_0)
                                      clear hv252_0 ge252_0
                                      have HX252_0 := Aside0.mk hx252_0
                                      clear hcc252 hce252
                                      (first | simp only [add_plain] at hx252_0 | simp only [add_at] at hx252_0 | simp only [Addr.add, Nat.zero_add] at hx252_0 | skip)
                                      have HR252_0 := Aside0.mk hi252_0
                                      have HC252_0 := Aside0.mk hl252_0
                                      clear hi252_0 hl252_0
                                      replace p252 := eq_true p252
                                      replace q252 := eq_true q252
                                      have p33 : 0 ≤ (x7_2 : Int) := of_decide_eq_true (by first | (with_reducible assumption) | assumption)
                                      have q33 : (x7_2 : Int) < (((rd_L2 x5_2 x6_1).length : Int) : Int) := of_decide_eq_true (by first | (with_reducible assumption) | assumption)
                                      obtain ⟨go33, co33, eo33, gb33, gl33, cl33, HG33⟩ := Kd.R_form HL252_0.out (by omega)
                                      (first | cases eo33 | (injection eo33 with ea_ en_ ec_; (first | subst ea_ | (injection ea_ with ea_; subst ea_)); subst ec_; clear en_))
                                      have GB33 := Aside0.mk gb33
                                      have GG33 := Aside0.mk HG33
                                      clear gb33 gl33 HG33
                                      obtain ⟨hx33_0, hf33_0⟩ := Kd.R_celln 0 HL252_0.out (x7_2 : Int) p33 q33
                                      replace p33 := eq_true p33
                                      replace q33 := eq_true q33
                                      have hq34 : (x6_1 : Int) < (x5_2.length : Int) := (by have h_ : (x6_1 : Int) < ((x5_2.length : Int) : Int) := of_decide_eq_true (by first | (with_reducible assumption) | assumption); first | exact h_ | (have e_ := (Kd.S_reads' HO_5.out).1; omega) | simpa only [List.length_set, List.length_set] using h_)
                                      obtain ⟨oki34, ce34, hcl34, hM34, hcc34, hok34, hbk34⟩ := Kd.S_borrow HO_5.out [] (x6_1 : Int) (of_decide_eq_true (by first | (with_reducible assumption) | assumption)) hq34
                                      obtain ⟨ve34_0, rfl, ge34_0⟩ := hM34
                                      have hv34 := hcc34 0 _ rfl
                                      rw [Nat.add_zero, show ((Kd.slice 3 (Kd.int .i64))).sz = 1 from rfl, Nat.mul_one] at hv34
                                      replace hv34 := Option.some.inj (hv34.symm.trans HX252_0.out)
                                      subst hv34
                                      clear hcc34 hcl34
                                      replace ge34_0 := (show Kd.R (Kd.int .i64) 3 _ _ _ _ (rd_L2 x5_2 x6_1) from ge34_0)
                                      have HP34 := Kd.R_putg ge34_0 (x7_2 : Int) (wrap64 ((a0.size : Int) - x6_1))
                                      go_wp2_with (first | ((with_reducible refine gate_store (t := 3) (p := 113) rfl ?_); (try (rw [drewN_self wr]; generalize hq_ : World.drewN wr _ = wr; have n0_ := Aside0.mk (Kd.S_at hq_ HO_5.out); have n1_ := Aside0.mk (Kd.R_at hq_ HL252_0.out); have n3_ := Aside0.mk (cell_at hq_ HX252_0.out); have n2_ := Aside0.mk (below_at hq_ HB.out); clear HO_5 HX252_0 HB hx33_0 hf33_0; have HO_5 := n0_; have HX252_0 := n3_; have HB := n2_; obtain ⟨hx33_0, hf33_0⟩ := Kd.R_celln 0 n1_.out (x7_2 : Int) (of_eq_true p33) (of_eq_true q33); clear hq_ n0_ n1_ n2_ n3_; (try (have hq34 : (x6_1 : Int) < (x5_2.length : Int) := (by have h_ : (x6_1 : Int) < ((x5_2.length : Int) : Int) := of_decide_eq_true (by first | (with_reducible assumption) | assumption); first | exact h_ | (have e_ := (Kd.S_reads' HO_5.out).1; omega) | simpa only [List.length_set, List.length_set] using h_))); (try (obtain ⟨oki34, ce34, hcl34, hM34, hcc34, hok34, hbk34⟩ := Kd.S_borrow HO_5.out [] (x6_1 : Int) (of_decide_eq_true (by first | (with_reducible assumption) | assumption)) hq34)); (try (obtain ⟨ve34_0, rfl, ge34_0⟩ := hM34)); (try (have hv34 := hcc34 0 _ rfl)); (try (rw [Nat.add_zero, show ((Kd.slice 3 (Kd.int .i64))).sz = 1 from rfl, Nat.mul_one] at hv34)); (try (replace hv34 := Option.some.inj (hv34.symm.trans HX252_0.out))); (try (subst hv34)); (try (clear hcc34 hcl34)); (try (replace ge34_0 := (show Kd.R (Kd.int .i64) 3 _ _ _ _ (rd_L2 x5_2 x6_1) from ge34_0))); (try (have HP34 := Kd.R_putg ge34_0 (x7_2 : Int) (wrap64 ((a0.size : Int) - x6_1)))))); refine store_event (t := 3) (p := 113) (v := ?vo_w35) (w1 := (wr.setCell ⟨go33, (x7_2 : Int).toNat, none⟩ (.int .i64 (wrap64 ((a0.size : Int) - x6_1))))) ?hg ?ho ?hn ?hr ?_; (case ho => rfl); (case hg => rfl); (case hn => rfl); (case hr => first | (go_simp; done) | (go_simp; rfl)); intro w35 hw; have hg : wr.grownBy w35 (some go33) := (by rw [hw]; exact HP34.2); have hz_ : Kd.R (Kd.int .i64) 3 w35 w.heap.size oki34 (.slice (some ⟨go33, 0, none⟩) (rd_L2 x5_2 x6_1).length c252_0) y253 := (by rw [hw, Ny253.out]; exact HP34.1); have hp_ : Kd.S (Kd.slice 3 (Kd.int .i64)) 39 w35 w.heap.size (fun _ => True) (.slice (some ⟨go14, 0, none⟩) x5_2.length co14) y255 := (by rw [Ny255.out]; exact hbk34 hg (fun k_ e_ => by injection e_ with e_; subst e_; exact ge34_0.1 _ rfl) (Kd.M_row hz_)); have hm_ := Kd.R_mono hz_ hok34; clear HP34 hbk34; have n0_ := Aside0.mk (hp_); have n1_ := Aside0.mk ((by rw [hw]; exact below_set (HB.out) GB33.out : Below w.heap.size w w35)); have n2_ := Aside0.mk (hm_); have n3_ := Aside0.mk ((Kd.R_reads' hm_).2.1); clear HO_5; clear HB; clear HL252_0; have HO_5 := n0_; have HB := n1_; have HL273 := n2_; have HC254 := n3_; clear n0_ n1_ n2_ n3_; clear hg hw hp_ hz_ hm_ hok34))
                                      repeat (go_quiet (first | ((with_reducible refine gate_store (t := 3) (p := 113) rfl ?_); (try (rw [drewN_self wr]; generalize hq_ : World.drewN wr _ = wr; have n0_ := Aside0.mk (Kd.S_at hq_ HO_5.out); have n1_ := Aside0.mk (Kd.R_at hq_ HL252_0.out); have n3_ := Aside0.mk (cell_at hq_ HX252_0.out); have n2_ := Aside0.mk (below_at hq_ HB.out); clear HO_5 HX252_0 HB hx33_0 hf33_0; have HO_5 := n0_; have HX252_0 := n3_; have HB := n2_; obtain ⟨hx33_0, hf33_0⟩ := Kd.R_celln 0 n1_.out (x7_2 : Int) (of_eq_true p33) (of_eq_true q33); clear hq_ n0_ n1_ n2_ n3_; (try (have hq34 : (x6_1 : Int) < (x5_2.length : Int) := (by have h_ : (x6_1 : Int) < ((x5_2.length : Int) : Int) := of_decide_eq_true (by first | (with_reducible assumption) | assumption); first | exact h_ | (have e_ := (Kd.S_reads' HO_5.out).1; omega) | simpa only [List.length_set, List.length_set] using h_))); (try (obtain ⟨oki34, ce34, hcl34, hM34, hcc34, hok34, hbk34⟩ := Kd.S_borrow HO_5.out [] (x6_1 : Int) (of_decide_eq_true (by first | (with_reducible assumption) | assumption)) hq34)); (try (obtain ⟨ve34_0, rfl, ge34_0⟩ := hM34)); (try (have hv34 := hcc34 0 _ rfl)); (try (rw [Nat.add_zero, show ((Kd.slice 3 (Kd.int .i64))).sz = 1 from rfl, Nat.mul_one] at hv34)); (try (replace hv34 := Option.some.inj (hv34.symm.trans HX252_0.out))); (try (subst hv34)); (try (clear hcc34 hcl34)); (try (replace ge34_0 := (show Kd.R (Kd.int .i64) 3 _ _ _ _ (rd_L2 x5_2 x6_1) from ge34_0))); (try (have HP34 := Kd.R_putg ge34_0 (x7_2 : Int) (wrap64 ((a0.size : Int) - x6_1)))))); refine store_event (t := 3) (p := 113) (v := ?vo_w35) (w1 := (wr.setCell ⟨go33, (x7_2 : Int).toNat, none⟩ (.int .i64 (wrap64 ((a0.size : Int) - x6_1))))) ?hg ?ho ?hn ?hr ?_; (case ho => rfl); (case hg => rfl); (case hn => rfl); (case hr => first | (go_simp; done) | (go_simp; rfl)); intro w35 hw; have hg : wr.grownBy w35 (some go33) := (by rw [hw]; exact HP34.2); have hz_ : Kd.R (Kd.int .i64) 3 w35 w.heap.size oki34 (.slice (some ⟨go33, 0, none⟩) (rd_L2 x5_2 x6_1).length c252_0) y253 := (by rw [hw, Ny253.out]; exact HP34.1); have hp_ : Kd.S (Kd.slice 3 (Kd.int .i64)) 39 w35 w.heap.size (fun _ => True) (.slice (some ⟨go14, 0, none⟩) x5_2.length co14) y255 := (by rw [Ny255.out]; exact hbk34 hg (fun k_ e_ => by injection e_ with e_; subst e_; exact ge34_0.1 _ rfl) (Kd.M_row hz_)); have hm_ := Kd.R_mono hz_ hok34; clear HP34 hbk34; have n0_ := Aside0.mk (hp_); have n1_ := Aside0.mk ((by rw [hw]; exact below_set (HB.out) GB33.out : Below w.heap.size w w35)); have n2_ := Aside0.mk (hm_); have n3_ := Aside0.mk ((Kd.R_reads' hm_).2.1); clear HO_5; clear HB; clear HL252_0; have HO_5 := n0_; have HB := n1_; have HL273 := n2_; have HC254 := n3_; clear n0_ n1_ n2_ n3_; clear hg hw hp_ hz_ hm_ hok34)); try go_wp2_with (first | ((with_reducible refine gate_store (t := 3) (p := 113) rfl ?_); (try (rw [drewN_self wr]; generalize hq_ : World.drewN wr _ = wr; have n0_ := Aside0.mk (Kd.S_at hq_ HO_5.out); have n1_ := Aside0.mk (Kd.R_at hq_ HL252_0.out); have n3_ := Aside0.mk (cell_at hq_ HX252_0.out); have n2_ := Aside0.mk (below_at hq_ HB.out); clear HO_5 HX252_0 HB hx33_0 hf33_0; have HO_5 := n0_; have HX252_0 := n3_; have HB := n2_; obtain ⟨hx33_0, hf33_0⟩ := Kd.R_celln 0 n1_.out (x7_2 : Int) (of_eq_true p33) (of_eq_true q33); clear hq_ n0_ n1_ n2_ n3_; (try (have hq34 : (x6_1 : Int) < (x5_2.length : Int) := (by have h_ : (x6_1 : Int) < ((x5_2.length : Int) : Int) := of_decide_eq_true (by first | (with_reducible assumption) | assumption); first | exact h_ | (have e_ := (Kd.S_reads' HO_5.out).1; omega) | simpa only [List.length_set, List.length_set] using h_))); (try (obtain ⟨oki34, ce34, hcl34, hM34, hcc34, hok34, hbk34⟩ := Kd.S_borrow HO_5.out [] (x6_1 : Int) (of_decide_eq_true (by first | (with_reducible assumption) | assumption)) hq34)); (try (obtain ⟨ve34_0, rfl, ge34_0⟩ := hM34)); (try (have hv34 := hcc34 0 _ rfl)); (try (rw [Nat.add_zero, show ((Kd.slice 3 (Kd.int .i64))).sz = 1 from rfl, Nat.mul_one] at hv34)); (try (replace hv34 := Option.some.inj (hv34.symm.trans HX252_0.out))); (try (subst hv34)); (try (clear hcc34 hcl34)); (try (replace ge34_0 := (show Kd.R (Kd.int .i64) 3 _ _ _ _ (rd_L2 x5_2 x6_1) from ge34_0))); (try (have HP34 := Kd.R_putg ge34_0 (x7_2 : Int) (wrap64 ((a0.size : Int) - x6_1)))))); refine store_event (t := 3) (p := 113) (v := ?vo_w35) (w1 := (wr.setCell ⟨go33, (x7_2 : Int).toNat, none⟩ (.int .i64 (wrap64 ((a0.size : Int) - x6_1))))) ?hg ?ho ?hn ?hr ?_; (case ho => rfl); (case hg => rfl); (case hn => rfl); (case hr => first | (go_simp; done) | (go_simp; rfl)); intro w35 hw; have hg : wr.grownBy w35 (some go33) := (by rw [hw]; exact HP34.2); have hz_ : Kd.R (Kd.int .i64) 3 w35 w.heap.size oki34 (.slice (some ⟨go33, 0, none⟩) (rd_L2 x5_2 x6_1).length c252_0) y253 := (by rw [hw, Ny253.out]; exact HP34.1); have hp_ : Kd.S (Kd.slice 3 (Kd.int .i64)) 39 w35 w.heap.size (fun _ => True) (.slice (some ⟨go14, 0, none⟩) x5_2.length co14) y255 := (by rw [Ny255.out]; exact hbk34 hg (fun k_ e_ => by injection e_ with e_; subst e_; exact ge34_0.1 _ rfl) (Kd.M_row hz_)); have hm_ := Kd.R_mono hz_ hok34; clear HP34 hbk34; have n0_ := Aside0.mk (hp_); have n1_ := Aside0.mk ((by rw [hw]; exact below_set (HB.out) GB33.out : Below w.heap.size w w35)); have n2_ := Aside0.mk (hm_); have n3_ := Aside0.mk ((Kd.R_reads' hm_).2.1); clear HO_5; clear HB; clear HL252_0; have HO_5 := n0_; have HB := n1_; have HL273 := n2_; have HC254 := n3_; clear n0_ n1_ n2_ n3_; clear hg hw hp_ hz_ hm_ hok34)))
                                      (try simp only [← hl5_2])
                                      go_roundg k2
                                      case measure => have := HK1.out; have := HK2.out; omega
                                      case rel => exact ⟨(y255), (wrap64 (x7_2 - 1)), (by first | rfl | (simp; done) | (simp [*]; done)), H', ⟨by have := HK1.out; have := HK2.out; omega⟩, ⟨by (try simp only [hl5_2]); (with_reducible repeat (first | apply Kd.S_alloc | apply Kd.S_drewN | apply Kd.S_drew)); exact HO_5.out⟩, ⟨by repeat (first | (with_reducible first | exact HB.out | apply below_alloc | apply pw_below_drewN | apply below_drew1) | exact HB.out)⟩⟩
                                    · rw [if_neg c32] at H
                                      exact absurd H (by simp)
                                  · rw [if_neg c31] at H
                                    exact absurd H (by simp)
                                · rw [if_neg c30] at H
                                  exact absurd H (by simp)
                              · rw [if_neg c29] at H
                                exact absurd H (by simp)
                            · rw [if_neg c28] at H
                              have c28b0 : (x7_2 == (a1.size : Int)) = false := beq_eq_false_iff_ne.mpr c28
                              have c28b1 : (x7_2 != (a1.size : Int)) = true := bne_iff_ne.mpr c28
                              obtain ⟨ji36, hji36⟩ : ∃ j_ : Int, (wrap64 (x6_1 + 1)) = j_ := ⟨_, rfl⟩
                              replace H : (if 0 ≤ (ji36) then (if (ji36) < (x5_2.length : Int) then (if 0 ≤ x7_2 then (if x7_2 < ((rd_L2 x5_2 (ji36)).length : Int) then (if 0 ≤ x6_1 then (if x6_1 < (x5_2.length : Int) then (if 0 ≤ (wrap64 (x7_2 + 1)) then (if (wrap64 (x7_2 + 1)) < ((rd_L2 x5_2 x6_1).length : Int) then (if (wrap64 (x7_2 + 1)) < ((rd_L2 x5_2 (ji36)).length : Int) then (if x6_1 < (a0.size : Int) then (if x7_2 < (a1.size : Int) then (if (bt a0 x6_1) = (bt a1 x7_2) then (if x7_2 < ((rd_L2 x5_2 x6_1).length : Int) then (spec_l05Table.l1 k2 a0 a1 (x5_2.set (x6_1 : Int).toNat ((rd_L2 x5_2 x6_1).set (x7_2 : Int).toNat (mn (wrap64 (1 + (mn (mn (rd (rd_L2 x5_2 (ji36)) x7_2) (rd (rd_L2 x5_2 x6_1) (wrap64 (x7_2 + 1)))) (rd (rd_L2 x5_2 (ji36)) (wrap64 (x7_2 + 1)))))) (rd (rd_L2 x5_2 (ji36)) (wrap64 (x7_2 + 1)))))) x6_1 (wrap64 (x7_2 - 1))) else (none)) else (if x7_2 < ((rd_L2 x5_2 x6_1).length : Int) then (spec_l05Table.l1 k2 a0 a1 (x5_2.set (x6_1 : Int).toNat ((rd_L2 x5_2 x6_1).set (x7_2 : Int).toNat (wrap64 (1 + (mn (mn (rd (rd_L2 x5_2 (ji36)) x7_2) (rd (rd_L2 x5_2 x6_1) (wrap64 (x7_2 + 1)))) (rd (rd_L2 x5_2 (ji36)) (wrap64 (x7_2 + 1)))))))) x6_1 (wrap64 (x7_2 - 1))) else (none))) else (none)) else (none)) else (none)) else (none)) else (none)) else (none)) else (none)) else (none)) else (none)) else (none)) else (none)) = some r := by first | (rw [hji36] at H; exact H) | (simp only [hji36] at H ⊢; exact H)
                              have hji36w : (IntKind.i64.wrap (x6_1 + 1)) = ji36 := (i64_w _).trans hji36
                              by_cases c37 : 0 ≤ (ji36)
                              · rw [if_pos c37] at H
                                have c37b0 : decide (0 ≤ (ji36)) = true := decide_eq_true c37
                                clear c37
                                by_cases c38 : (ji36) < (x5_2.length : Int)
                                · rw [if_pos c38] at H
                                  have c38b0 : decide ((ji36) < (x5_2.length : Int)) = true := decide_eq_true c38
                                  clear c38
                                  by_cases c39 : 0 ≤ x7_2
                                  · rw [if_pos c39] at H
                                    have c39b0 : decide (0 ≤ x7_2) = true := decide_eq_true c39
                                    clear c39
                                    by_cases c40 : x7_2 < ((rd_L2 x5_2 (ji36)).length : Int)
                                    · rw [if_pos c40] at H
                                      have c40b0 : decide (x7_2 < ((rd_L2 x5_2 (ji36)).length : Int)) = true := decide_eq_true c40
                                      clear c40
                                      by_cases c41 : 0 ≤ x6_1
                                      · rw [if_pos c41] at H
                                        have c41b0 : decide (0 ≤ x6_1) = true := decide_eq_true c41
                                        clear c41
                                        by_cases c42 : x6_1 < (x5_2.length : Int)
                                        · rw [if_pos c42] at H
                                          have c42b0 : decide (x6_1 < (x5_2.length : Int)) = true := decide_eq_true c42
                                          clear c42
                                          obtain ⟨ji43, hji43⟩ : ∃ j_ : Int, (wrap64 (x7_2 + 1)) = j_ := ⟨_, rfl⟩
                                          replace H : (if 0 ≤ (ji43) then (if (ji43) < ((rd_L2 x5_2 x6_1).length : Int) then (if (ji43) < ((rd_L2 x5_2 (ji36)).length : Int) then (if x6_1 < (a0.size : Int) then (if x7_2 < (a1.size : Int) then (if (bt a0 x6_1) = (bt a1 x7_2) then (if x7_2 < ((rd_L2 x5_2 x6_1).length : Int) then (spec_l05Table.l1 k2 a0 a1 (x5_2.set (x6_1 : Int).toNat ((rd_L2 x5_2 x6_1).set (x7_2 : Int).toNat (mn (wrap64 (1 + (mn (mn (rd (rd_L2 x5_2 (ji36)) x7_2) (rd (rd_L2 x5_2 x6_1) (ji43))) (rd (rd_L2 x5_2 (ji36)) (ji43))))) (rd (rd_L2 x5_2 (ji36)) (ji43))))) x6_1 (wrap64 (x7_2 - 1))) else (none)) else (if x7_2 < ((rd_L2 x5_2 x6_1).length : Int) then (spec_l05Table.l1 k2 a0 a1 (x5_2.set (x6_1 : Int).toNat ((rd_L2 x5_2 x6_1).set (x7_2 : Int).toNat (wrap64 (1 + (mn (mn (rd (rd_L2 x5_2 (ji36)) x7_2) (rd (rd_L2 x5_2 x6_1) (ji43))) (rd (rd_L2 x5_2 (ji36)) (ji43))))))) x6_1 (wrap64 (x7_2 - 1))) else (none))) else (none)) else (none)) else (none)) else (none)) else (none)) = some r := by first | (rw [hji43] at H; exact H) | (simp only [hji43] at H ⊢; exact H)
                                          have hji43w : (IntKind.i64.wrap (x7_2 + 1)) = ji43 := (i64_w _).trans hji43
                                          by_cases c44 : 0 ≤ (ji43)
                                          · rw [if_pos c44] at H
                                            have c44b0 : decide (0 ≤ (ji43)) = true := decide_eq_true c44
                                            clear c44
                                            by_cases c45 : (ji43) < ((rd_L2 x5_2 x6_1).length : Int)
                                            · rw [if_pos c45] at H
                                              have c45b0 : decide ((ji43) < ((rd_L2 x5_2 x6_1).length : Int)) = true := decide_eq_true c45
                                              clear c45
                                              by_cases c46 : (ji43) < ((rd_L2 x5_2 (ji36)).length : Int)
                                              · rw [if_pos c46] at H
                                                have c46b0 : decide ((ji43) < ((rd_L2 x5_2 (ji36)).length : Int)) = true := decide_eq_true c46
                                                clear c46
                                                obtain ⟨ji47, hji47⟩ : ∃ j_ : Int, (mn (rd (rd_L2 x5_2 (ji36)) x7_2) (rd (rd_L2 x5_2 x6_1) (ji43))) = j_ := ⟨_, rfl⟩
                                                replace H : (if x6_1 < (a0.size : Int) then (if x7_2 < (a1.size : Int) then (if (bt a0 x6_1) = (bt a1 x7_2) then (if x7_2 < ((rd_L2 x5_2 x6_1).length : Int) then (spec_l05Table.l1 k2 a0 a1 (x5_2.set (x6_1 : Int).toNat ((rd_L2 x5_2 x6_1).set (x7_2 : Int).toNat (mn (wrap64 (1 + (mn (ji47) (rd (rd_L2 x5_2 (ji36)) (ji43))))) (rd (rd_L2 x5_2 (ji36)) (ji43))))) x6_1 (wrap64 (x7_2 - 1))) else (none)) else (if x7_2 < ((rd_L2 x5_2 x6_1).length : Int) then (spec_l05Table.l1 k2 a0 a1 (x5_2.set (x6_1 : Int).toNat ((rd_L2 x5_2 x6_1).set (x7_2 : Int).toNat (wrap64 (1 + (mn (ji47) (rd (rd_L2 x5_2 (ji36)) (ji43))))))) x6_1 (wrap64 (x7_2 - 1))) else (none))) else (none)) else (none)) = some r := by first | (rw [hji47] at H; exact H) | (simp only [hji47] at H ⊢; exact H)
                                                have hji47_ : (if (rd (rd_L2 x5_2 x6_1) (ji43)) < (rd (rd_L2 x5_2 (ji36)) x7_2) then (rd (rd_L2 x5_2 x6_1) (ji43)) else (rd (rd_L2 x5_2 (ji36)) x7_2)) = ji47 := hji47
                                                obtain ⟨ji48, hji48⟩ : ∃ j_ : Int, (mn (ji47) (rd (rd_L2 x5_2 (ji36)) (ji43))) = j_ := ⟨_, rfl⟩
                                                replace H : (if x6_1 < (a0.size : Int) then (if x7_2 < (a1.size : Int) then (if (bt a0 x6_1) = (bt a1 x7_2) then (if x7_2 < ((rd_L2 x5_2 x6_1).length : Int) then (spec_l05Table.l1 k2 a0 a1 (x5_2.set (x6_1 : Int).toNat ((rd_L2 x5_2 x6_1).set (x7_2 : Int).toNat (mn (wrap64 (1 + (ji48))) (rd (rd_L2 x5_2 (ji36)) (ji43))))) x6_1 (wrap64 (x7_2 - 1))) else (none)) else (if x7_2 < ((rd_L2 x5_2 x6_1).length : Int) then (spec_l05Table.l1 k2 a0 a1 (x5_2.set (x6_1 : Int).toNat ((rd_L2 x5_2 x6_1).set (x7_2 : Int).toNat (wrap64 (1 + (ji48))))) x6_1 (wrap64 (x7_2 - 1))) else (none))) else (none)) else (none)) = some r := by first | (rw [hji48] at H; exact H) | (simp only [hji48] at H ⊢; exact H)
                                                have hji48_ : (if (rd (rd_L2 x5_2 (ji36)) (ji43)) < (ji47) then (rd (rd_L2 x5_2 (ji36)) (ji43)) else (ji47)) = ji48 := hji48
                                                by_cases c49 : x6_1 < (a0.size : Int)
                                                · rw [if_pos c49] at H
                                                  have c49b0 : decide (x6_1 < (a0.size : Int)) = true := decide_eq_true c49
                                                  clear c49
                                                  by_cases c51 : x7_2 < (a1.size : Int)
                                                  · rw [if_pos c51] at H
                                                    have c51b0 : decide (x7_2 < (a1.size : Int)) = true := decide_eq_true c51
                                                    clear c51
                                                    by_cases c53 : (bt a0 x6_1) = (bt a1 x7_2)
                                                    · rw [if_pos c53] at H
                                                      have c53b0 : ((bt a0 x6_1) == (bt a1 x7_2)) = true := beq_iff_eq.mpr c53
                                                      have c53b1 : ((bt a0 x6_1) != (bt a1 x7_2)) = false := bne_eq_false_iff_eq.mpr c53
                                                      clear c53
                                                      obtain ⟨ji54, hji54⟩ : ∃ j_ : Int, (mn (wrap64 (1 + (ji48))) (rd (rd_L2 x5_2 (ji36)) (ji43))) = j_ := ⟨_, rfl⟩
                                                      replace H : (if x7_2 < ((rd_L2 x5_2 x6_1).length : Int) then (spec_l05Table.l1 k2 a0 a1 (x5_2.set (x6_1 : Int).toNat ((rd_L2 x5_2 x6_1).set (x7_2 : Int).toNat (ji54))) x6_1 (wrap64 (x7_2 - 1))) else (none)) = some r := by first | (rw [hji54] at H; exact H) | (simp only [hji54] at H ⊢; exact H)
                                                      have hji54_ : (if (rd (rd_L2 x5_2 (ji36)) (ji43)) < (wrap64 (1 + (ji48))) then (rd (rd_L2 x5_2 (ji36)) (ji43)) else (wrap64 (1 + (ji48)))) = ji54 := hji54
                                                      by_cases c55 : x7_2 < ((rd_L2 x5_2 x6_1).length : Int)
                                                      · rw [if_pos c55] at H
                                                        have c55b0 : decide (x7_2 < ((rd_L2 x5_2 x6_1).length : Int)) = true := decide_eq_true c55
                                                        clear c55
                                                        obtain ⟨y265, hy265⟩ : ∃ y_ : List Int, y_ = ((rd_L2 x5_2 x6_1).set (x7_2 : Int).toNat (ji54)) := ⟨_, rfl⟩
                                                        replace H : (spec_l05Table.l1 k2 a0 a1 (x5_2.set (x6_1 : Int).toNat y265) x6_1 (wrap64 (x7_2 - 1))) = some r := by first | (rw [hy265]; with_reducible exact H) | (have H2_ := (Option.bind_some _ _).symm.trans H; rw [hy265]; with_reducible exact H2_) | (have H2_ := (Option.bind_some _ _).symm.trans H; with_reducible exact H2_) | with_reducible exact H | (rw [hy265]; exact H) | exact H
                                                        have Ny265 := Aside0.mk hy265
                                                        clear hy265
                                                        obtain ⟨y267, hy267⟩ : ∃ y_ : List (List Int), y_ = (x5_2.set (x6_1 : Int).toNat y265) := ⟨_, rfl⟩
                                                        replace H : (spec_l05Table.l1 k2 a0 a1 y267 x6_1 (wrap64 (x7_2 - 1))) = some r := by first | (rw [hy267]; with_reducible exact H) | (have H2_ := (Option.bind_some _ _).symm.trans H; rw [hy267]; with_reducible exact H2_) | (have H2_ := (Option.bind_some _ _).symm.trans H; with_reducible exact H2_) | with_reducible exact H | (rw [hy267]; exact H) | exact H
                                                        have Ny267 := Aside0.mk hy267
                                                        clear hy267
                                                        have H' := Aside0.mk H
                                                        clear H
                                                        have p256 : 0 ≤ ((ji36) : Int) := of_decide_eq_true (by first | (with_reducible assumption) | assumption)
                                                        have q256 : (ji36) < (x5_2.length : Int) := of_decide_eq_true (by first | (with_reducible assumption) | assumption)
                                                        obtain ⟨ad256, A256_0, c256_0, e256, hx256_0, hl256_0, hi256_0⟩ := at_L2 (Kd.S_reads' HO_5.out).2.2 (ji36) p256 q256
                                                        obtain rfl : (⟨go14, 0, none⟩ : Addr) = ad256 := (by injection e256)
                                                        obtain ⟨ce256, hce256, hMe256, hcc256⟩ := Kd.S_get HO_5.out [] (ji36) p256 (by first | exact q256 | exact of_decide_eq_true (by first | (with_reducible assumption) | assumption) | (have e_ := (Kd.S_reads' HO_5.out).1; omega))
                                                        obtain ⟨ve256_0, rfl, ge256_0⟩ := hMe256
                                                        have hv256_0 := hcc256 0 _ rfl
                                                        rw [Nat.add_zero, show ((Kd.slice 3 (Kd.int .i64))).sz = 1 from rfl, Nat.mul_one] at hv256_0
                                                        replace hv256_0 := Option.some.inj (hv256_0.symm.trans hx256_0)
                                                        rw [hv256_0] at ge256_0
                                                        have HL256_0 := Aside0.mk (show Kd.R (Kd.int .i64) 3 _ _ _ _ (rd_L2 x5_2 (ji36)) from ge256_0)
                                                        clear hv256_0 ge256_0
                                                        have HX256_0 := Aside0.mk hx256_0
                                                        clear hcc256 hce256
                                                        (first | simp only [add_plain] at hx256_0 | simp only [add_at] at hx256_0 | simp only [Addr.add, Nat.zero_add] at hx256_0 | skip)
                                                        have HR256_0 := Aside0.mk hi256_0
                                                        have HC256_0 := Aside0.mk hl256_0
                                                        clear hi256_0 hl256_0
                                                        replace p256 := eq_true p256
                                                        replace q256 := eq_true q256
                                                        have p257 : 0 ≤ (x7_2 : Int) := of_decide_eq_true (by first | (with_reducible assumption) | assumption)
                                                        have q257 : x7_2 < ((rd_L2 x5_2 (ji36)).length : Int) := of_decide_eq_true (by first | (with_reducible assumption) | assumption)
                                                        obtain ⟨ad257, e257, hx257_0⟩ := Kd.at_int (by repeat (first | (with_reducible exact HR256_0.out) | (with_reducible refine Kd.C_alloc ?_ _) | (with_reducible refine Kd.C_drewN ?_ _) | (with_reducible refine Kd.C_drew ?_) | exact HR256_0.out)) x7_2 p257 q257
                                                        cases e257
                                                        replace p257 := eq_true p257
                                                        replace q257 := eq_true q257
                                                        have p258 : 0 ≤ (x6_1 : Int) := of_decide_eq_true (by first | (with_reducible assumption) | assumption)
                                                        have q258 : x6_1 < (x5_2.length : Int) := of_decide_eq_true (by first | (with_reducible assumption) | assumption)
                                                        obtain ⟨ad258, A258_0, c258_0, e258, hx258_0, hl258_0, hi258_0⟩ := at_L2 (Kd.S_reads' HO_5.out).2.2 x6_1 p258 q258
                                                        obtain rfl : (⟨go14, 0, none⟩ : Addr) = ad258 := (by injection e258)
                                                        obtain ⟨ce258, hce258, hMe258, hcc258⟩ := Kd.S_get HO_5.out [] x6_1 p258 (by first | exact q258 | exact of_decide_eq_true (by first | (with_reducible assumption) | assumption) | (have e_ := (Kd.S_reads' HO_5.out).1; omega))
                                                        obtain ⟨ve258_0, rfl, ge258_0⟩ := hMe258
                                                        have hv258_0 := hcc258 0 _ rfl
                                                        rw [Nat.add_zero, show ((Kd.slice 3 (Kd.int .i64))).sz = 1 from rfl, Nat.mul_one] at hv258_0
                                                        replace hv258_0 := Option.some.inj (hv258_0.symm.trans hx258_0)
                                                        rw [hv258_0] at ge258_0
                                                        have HL258_0 := Aside0.mk (show Kd.R (Kd.int .i64) 3 _ _ _ _ (rd_L2 x5_2 x6_1) from ge258_0)
                                                        clear hv258_0 ge258_0
                                                        have HX258_0 := Aside0.mk hx258_0
                                                        clear hcc258 hce258
                                                        (first | simp only [add_plain] at hx258_0 | simp only [add_at] at hx258_0 | simp only [Addr.add, Nat.zero_add] at hx258_0 | skip)
                                                        have HR258_0 := Aside0.mk hi258_0
                                                        have HC258_0 := Aside0.mk hl258_0
                                                        clear hi258_0 hl258_0
                                                        replace p258 := eq_true p258
                                                        replace q258 := eq_true q258
                                                        have p259 : 0 ≤ ((ji43) : Int) := of_decide_eq_true (by first | (with_reducible assumption) | assumption)
                                                        have q259 : (ji43) < ((rd_L2 x5_2 x6_1).length : Int) := of_decide_eq_true (by first | (with_reducible assumption) | assumption)
                                                        obtain ⟨ad259, e259, hx259_0⟩ := Kd.at_int (by repeat (first | (with_reducible exact HR258_0.out) | (with_reducible refine Kd.C_alloc ?_ _) | (with_reducible refine Kd.C_drewN ?_ _) | (with_reducible refine Kd.C_drew ?_) | exact HR258_0.out)) (ji43) p259 q259
                                                        cases e259
                                                        replace p259 := eq_true p259
                                                        replace q259 := eq_true q259
                                                        have p260 : 0 ≤ ((ji36) : Int) := of_decide_eq_true (by first | (with_reducible assumption) | assumption)
                                                        have q260 : (ji36) < (x5_2.length : Int) := of_decide_eq_true (by first | (with_reducible assumption) | assumption)
                                                        obtain ⟨ad260, A260_0, c260_0, e260, hx260_0, hl260_0, hi260_0⟩ := at_L2 (Kd.S_reads' HO_5.out).2.2 (ji36) p260 q260
                                                        obtain rfl : (⟨go14, 0, none⟩ : Addr) = ad260 := (by injection e260)
                                                        obtain ⟨ce260, hce260, hMe260, hcc260⟩ := Kd.S_get HO_5.out [] (ji36) p260 (by first | exact q260 | exact of_decide_eq_true (by first | (with_reducible assumption) | assumption) | (have e_ := (Kd.S_reads' HO_5.out).1; omega))
                                                        obtain ⟨ve260_0, rfl, ge260_0⟩ := hMe260
                                                        have hv260_0 := hcc260 0 _ rfl
                                                        rw [Nat.add_zero, show ((Kd.slice 3 (Kd.int .i64))).sz = 1 from rfl, Nat.mul_one] at hv260_0
                                                        replace hv260_0 := Option.some.inj (hv260_0.symm.trans hx260_0)
                                                        rw [hv260_0] at ge260_0
                                                        have HL260_0 := Aside0.mk (show Kd.R (Kd.int .i64) 3 _ _ _ _ (rd_L2 x5_2 (ji36)) from ge260_0)
                                                        clear hv260_0 ge260_0
                                                        have HX260_0 := Aside0.mk hx260_0
                                                        clear hcc260 hce260
                                                        (first | simp only [add_plain] at hx260_0 | simp only [add_at] at hx260_0 | simp only [Addr.add, Nat.zero_add] at hx260_0 | skip)
                                                        have HR260_0 := Aside0.mk hi260_0
                                                        have HC260_0 := Aside0.mk hl260_0
                                                        clear hi260_0 hl260_0
                                                        replace p260 := eq_true p260
                                                        replace q260 := eq_true q260
                                                        have ea_ := Option.some.inj (hx256_0.symm.trans hx260_0)
                                                        injection ea_ with ea_ en_ ec_
                                                        subst ea_
                                                        subst ec_
                                                        clear en_
                                                        have p261 : 0 ≤ ((ji43) : Int) := of_decide_eq_true (by first | (with_reducible assumption) | assumption)
                                                        have q261 : (ji43) < ((rd_L2 x5_2 (ji36)).length : Int) := of_decide_eq_true (by first | (with_reducible assumption) | assumption)
                                                        obtain ⟨ad261, e261, hx261_0⟩ := Kd.at_int (by repeat (first | (with_reducible exact HR260_0.out) | (with_reducible refine Kd.C_alloc ?_ _) | (with_reducible refine Kd.C_drewN ?_ _) | (with_reducible refine Kd.C_drew ?_) | exact HR260_0.out)) (ji43) p261 q261
                                                        cases e261
                                                        replace p261 := eq_true p261
                                                        replace q261 := eq_true q261
                                                        have p50 : 0 ≤ (x6_1 : Int) := of_decide_eq_true (by first | (with_reducible assumption) | assumption)
                                                        have q50 : x6_1 < (a0.size : Int) := of_decide_eq_true (by first | (with_reducible assumption) | assumption)
                                                        have hx50 := bt_at a0 x6_1
                                                        replace p50 := eq_true p50
                                                        replace q50 := eq_true q50
                                                        have p52 : 0 ≤ (x7_2 : Int) := of_decide_eq_true (by first | (with_reducible assumption) | assumption)
                                                        have q52 : x7_2 < (a1.size : Int) := of_decide_eq_true (by first | (with_reducible assumption) | assumption)
                                                        have hx52 := bt_at a1 x7_2
                                                        replace p52 := eq_true p52
                                                        replace q52 := eq_true q52
                                                        have p262 : 0 ≤ ((ji36) : Int) := of_decide_eq_true (by first | (with_reducible assumption) | assumption)
                                                        have q262 : (ji36) < (x5_2.length : Int) := of_decide_eq_true (by first | (with_reducible assumption) | assumption)
                                                        obtain ⟨ad262, A262_0, c262_0, e262, hx262_0, hl262_0, hi262_0⟩ := at_L2 (Kd.S_reads' HO_5.out).2.2 (ji36) p262 q262
                                                        obtain rfl : (⟨go14, 0, none⟩ : Addr) = ad262 := (by injection e262)
                                                        obtain ⟨ce262, hce262, hMe262, hcc262⟩ := Kd.S_get HO_5.out [] (ji36) p262 (by first | exact q262 | exact of_decide_eq_true (by first | (with_reducible assumption) | assumption) | (have e_ := (Kd.S_reads' HO_5.out).1; omega))
                                                        obtain ⟨ve262_0, rfl, ge262_0⟩ := hMe262
                                                        have hv262_0 := hcc262 0 _ rfl
                                                        rw [Nat.add_zero, show ((Kd.slice 3 (Kd.int .i64))).sz = 1 from rfl, Nat.mul_one] at hv262_0
                                                        replace hv262_0 := Option.some.inj (hv262_0.symm.trans hx262_0)
                                                        rw [hv262_0] at ge262_0
                                                        have HL262_0 := Aside0.mk (show Kd.R (Kd.int .i64) 3 _ _ _ _ (rd_L2 x5_2 (ji36)) from ge262_0)
                                                        clear hv262_0 ge262_0
                                                        have HX262_0 := Aside0.mk hx262_0
                                                        clear hcc262 hce262
                                                        (first | simp only [add_plain] at hx262_0 | simp only [add_at] at hx262_0 | simp only [Addr.add, Nat.zero_add] at hx262_0 | skip)
                                                        have HR262_0 := Aside0.mk hi262_0
                                                        have HC262_0 := Aside0.mk hl262_0
                                                        clear hi262_0 hl262_0
                                                        replace p262 := eq_true p262
                                                        replace q262 := eq_true q262
                                                        have ea_ := Option.some.inj (hx256_0.symm.trans hx262_0)
                                                        injection ea_ with ea_ en_ ec_
                                                        subst ea_
                                                        subst ec_
                                                        clear en_
                                                        have p263 : 0 ≤ ((ji43) : Int) := of_decide_eq_true (by first | (with_reducible assumption) | assumption)
                                                        have q263 : (ji43) < ((rd_L2 x5_2 (ji36)).length : Int) := of_decide_eq_true (by first | (with_reducible assumption) | assumption)
                                                        obtain ⟨ad263, e263, hx263_0⟩ := Kd.at_int (by repeat (first | (with_reducible exact HR262_0.out) | (with_reducible refine Kd.C_alloc ?_ _) | (with_reducible refine Kd.C_drewN ?_ _) | (with_reducible refine Kd.C_drew ?_) | exact HR262_0.out)) (ji43) p263 q263
                                                        cases e263
                                                        replace p263 := eq_true p263
                                                        replace q263 := eq_true q263
                                                        have p264 : 0 ≤ (x6_1 : Int) := of_decide_eq_true (by first | (with_reducible assumption) | assumption)
                                                        have q264 : x6_1 < (x5_2.length : Int) := of_decide_eq_true (by first | (with_reducible assumption) | assumption)
                                                        obtain ⟨ad264, A264_0, c264_0, e264, hx264_0, hl264_0, hi264_0⟩ := at_L2 (Kd.S_reads' HO_5.out).2.2 x6_1 p264 q264
                                                        obtain rfl : (⟨go14, 0, none⟩ : Addr) = ad264 := (by injection e264)
                                                        obtain ⟨ce264, hce264, hMe264, hcc264⟩ := Kd.S_get HO_5.out [] x6_1 p264 (by first | exact q264 | exact of_decide_eq_true (by first | (with_reducible assumption) | assumption) | (have e_ := (Kd.S_reads' HO_5.out).1; omega))
                                                        obtain ⟨ve264_0, rfl, ge264_0⟩ := hMe264
                                                        have hv264_0 := hcc264 0 _ rfl
                                                        rw [Nat.add_zero, show ((Kd.slice 3 (Kd.int .i64))).sz = 1 from rfl, Nat.mul_one] at hv264_0
                                                        replace hv264_0 := Option.some.inj (hv264_0.symm.trans hx264_0)
                                                        rw [hv264_0] at ge264_0
                                                        have HL264_0 := Aside0.mk (show Kd.R (Kd.int .i64) 3 _ _ _ _ (rd_L2 x5_2 x6_1) from ge264_0)
                                                        clear hv264_0 ge264_0
                                                        have HX264_0 := Aside0.mk hx264_0
                                                        clear hcc264 hce264
                                                        (first | simp only [add_plain] at hx264_0 | simp only [add_at] at hx264_0 | simp only [Addr.add, Nat.zero_add] at hx264_0 | skip)
                                                        have HR264_0 := Aside0.mk hi264_0
                                                        have HC264_0 := Aside0.mk hl264_0
                                                        clear hi264_0 hl264_0
                                                        replace p264 := eq_true p264
                                                        replace q264 := eq_true q264
                                                        have ea_ := Option.some.inj (hx258_0.symm.trans hx264_0)
                                                        injection ea_ with ea_ en_ ec_
                                                        subst ea_
                                                        subst ec_
                                                        clear en_
                                                        have p56 : 0 ≤ (x7_2 : Int) := of_decide_eq_true (by first | (with_reducible assumption) | assumption)
                                                        have q56 : (x7_2 : Int) < (((rd_L2 x5_2 x6_1).length : Int) : Int) := of_decide_eq_true (by first | (with_reducible assumption) | assumption)
                                                        obtain ⟨go56, co56, eo56, gb56, gl56, cl56, HG56⟩ := Kd.R_form HL264_0.out (by omega)
                                                        (first | cases eo56 | (injection eo56 with ea_ en_ ec_; (first | subst ea_ | (injection ea_ with ea_; subst ea_)); subst ec_; clear en_))
                                                        have GB56 := Aside0.mk gb56
                                                        have GG56 := Aside0.mk HG56
                                                        clear gb56 gl56 HG56
                                                        (first | simp only [add_plain] at hx259_0 | skip)
                                                        obtain ⟨hx56_0, hf56_0⟩ := Kd.R_celln 0 HL264_0.out (x7_2 : Int) p56 q56
                                                        replace p56 := eq_true p56
                                                        replace q56 := eq_true q56
                                                        have hq57 : (x6_1 : Int) < (x5_2.length : Int) := (by have h_ : (x6_1 : Int) < ((x5_2.length : Int) : Int) := of_decide_eq_true (by first | (with_reducible assumption) | assumption); first | exact h_ | (have e_ := (Kd.S_reads' HO_5.out).1; omega) | simpa only [List.length_set, List.length_set] using h_)
                                                        obtain ⟨oki57, ce57, hcl57, hM57, hcc57, hok57, hbk57⟩ := Kd.S_borrow HO_5.out [] (x6_1 : Int) (of_decide_eq_true (by first | (with_reducible assumption) | assumption)) hq57
                                                        obtain ⟨ve57_0, rfl, ge57_0⟩ := hM57
                                                        have hv57 := hcc57 0 _ rfl
                                                        rw [Nat.add_zero, show ((Kd.slice 3 (Kd.int .i64))).sz = 1 from rfl, Nat.mul_one] at hv57
                                                        replace hv57 := Option.some.inj (hv57.symm.trans HX264_0.out)
                                                        subst hv57
                                                        clear hcc57 hcl57
                                                        replace ge57_0 := (show Kd.R (Kd.int .i64) 3 _ _ _ _ (rd_L2 x5_2 x6_1) from ge57_0)
                                                        have HP57 := Kd.R_putg ge57_0 (x7_2 : Int) ji54
                                                        go_wp2_with (first | ((with_reducible refine gate_store (t := 3) (p := 83) rfl ?_); (try (rw [drewN_self wr]; generalize hq_ : World.drewN wr _ = wr; have n0_ := Aside0.mk (Kd.S_at hq_ HO_5.out); have n1_ := Aside0.mk (Kd.R_at hq_ HL264_0.out); have n3_ := Aside0.mk (cell_at hq_ HX264_0.out); have n2_ := Aside0.mk (below_at hq_ HB.out); clear HO_5 HX264_0 HB hx56_0 hf56_0; have HO_5 := n0_; have HX264_0 := n3_; have HB := n2_; obtain ⟨hx56_0, hf56_0⟩ := Kd.R_celln 0 n1_.out (x7_2 : Int) (of_eq_true p56) (of_eq_true q56); clear hq_ n0_ n1_ n2_ n3_; (try (have hq57 : (x6_1 : Int) < (x5_2.length : Int) := (by have h_ : (x6_1 : Int) < ((x5_2.length : Int) : Int) := of_decide_eq_true (by first | (with_reducible assumption) | assumption); first | exact h_ | (have e_ := (Kd.S_reads' HO_5.out).1; omega) | simpa only [List.length_set, List.length_set] using h_))); (try (obtain ⟨oki57, ce57, hcl57, hM57, hcc57, hok57, hbk57⟩ := Kd.S_borrow HO_5.out [] (x6_1 : Int) (of_decide_eq_true (by first | (with_reducible assumption) | assumption)) hq57)); (try (obtain ⟨ve57_0, rfl, ge57_0⟩ := hM57)); (try (have hv57 := hcc57 0 _ rfl)); (try (rw [Nat.add_zero, show ((Kd.slice 3 (Kd.int .i64))).sz = 1 from rfl, Nat.mul_one] at hv57)); (try (replace hv57 := Option.some.inj (hv57.symm.trans HX264_0.out))); (try (subst hv57)); (try (clear hcc57 hcl57)); (try (replace ge57_0 := (show Kd.R (Kd.int .i64) 3 _ _ _ _ (rd_L2 x5_2 x6_1) from ge57_0))); (try (have HP57 := Kd.R_putg ge57_0 (x7_2 : Int) ji54)))); refine store_event (t := 3) (p := 83) (v := ?vo_w58) (w1 := (wr.setCell ⟨go56, (x7_2 : Int).toNat, none⟩ (.int .i64 ji54))) ?hg ?ho ?hn ?hr ?_; (case ho => rfl); (case hg => rfl); (case hn => rfl); (case hr => first | (go_simp; done) | (go_simp; rfl)); intro w58 hw; have hg : wr.grownBy w58 (some go56) := (by rw [hw]; exact HP57.2); have hz_ : Kd.R (Kd.int .i64) 3 w58 w.heap.size oki57 (.slice (some ⟨go56, 0, none⟩) (rd_L2 x5_2 x6_1).length c258_0) y265 := (by rw [hw, Ny265.out]; exact HP57.1); have hp_ : Kd.S (Kd.slice 3 (Kd.int .i64)) 39 w58 w.heap.size (fun _ => True) (.slice (some ⟨go14, 0, none⟩) x5_2.length co14) y267 := (by rw [Ny267.out]; exact hbk57 hg (fun k_ e_ => by injection e_ with e_; subst e_; exact ge57_0.1 _ rfl) (Kd.M_row hz_)); have hm_ := Kd.R_mono hz_ hok57; clear HP57 hbk57; have n0_ := Aside0.mk (hp_); have n1_ := Aside0.mk ((by rw [hw]; exact below_set (HB.out) GB56.out : Below w.heap.size w w58)); have n2_ := Aside0.mk (hm_); have n3_ := Aside0.mk ((Kd.R_reads' hm_).2.1); clear HO_5; clear HB; clear HL256_0; clear HL258_0; clear HL260_0; clear HL262_0; clear HL264_0; have HO_5 := n0_; have HB := n1_; have HL274 := n2_; have HC266 := n3_; clear n0_ n1_ n2_ n3_; clear hg hw hp_ hz_ hm_ hok57))
                                                        repeat (go_quiet (first | ((with_reducible refine gate_store (t := 3) (p := 83) rfl ?_); (try (rw [drewN_self wr]; generalize hq_ : World.drewN wr _ = wr; have n0_ := Aside0.mk (Kd.S_at hq_ HO_5.out); have n1_ := Aside0.mk (Kd.R_at hq_ HL264_0.out); have n3_ := Aside0.mk (cell_at hq_ HX264_0.out); have n2_ := Aside0.mk (below_at hq_ HB.out); clear HO_5 HX264_0 HB hx56_0 hf56_0; have HO_5 := n0_; have HX264_0 := n3_; have HB := n2_; obtain ⟨hx56_0, hf56_0⟩ := Kd.R_celln 0 n1_.out (x7_2 : Int) (of_eq_true p56) (of_eq_true q56); clear hq_ n0_ n1_ n2_ n3_; (try (have hq57 : (x6_1 : Int) < (x5_2.length : Int) := (by have h_ : (x6_1 : Int) < ((x5_2.length : Int) : Int) := of_decide_eq_true (by first | (with_reducible assumption) | assumption); first | exact h_ | (have e_ := (Kd.S_reads' HO_5.out).1; omega) | simpa only [List.length_set, List.length_set] using h_))); (try (obtain ⟨oki57, ce57, hcl57, hM57, hcc57, hok57, hbk57⟩ := Kd.S_borrow HO_5.out [] (x6_1 : Int) (of_decide_eq_true (by first | (with_reducible assumption) | assumption)) hq57)); (try (obtain ⟨ve57_0, rfl, ge57_0⟩ := hM57)); (try (have hv57 := hcc57 0 _ rfl)); (try (rw [Nat.add_zero, show ((Kd.slice 3 (Kd.int .i64))).sz = 1 from rfl, Nat.mul_one] at hv57)); (try (replace hv57 := Option.some.inj (hv57.symm.trans HX264_0.out))); (try (subst hv57)); (try (clear hcc57 hcl57)); (try (replace ge57_0 := (show Kd.R (Kd.int .i64) 3 _ _ _ _ (rd_L2 x5_2 x6_1) from ge57_0))); (try (have HP57 := Kd.R_putg ge57_0 (x7_2 : Int) ji54)))); refine store_event (t := 3) (p := 83) (v := ?vo_w58) (w1 := (wr.setCell ⟨go56, (x7_2 : Int).toNat, none⟩ (.int .i64 ji54))) ?hg ?ho ?hn ?hr ?_; (case ho => rfl); (case hg => rfl); (case hn => rfl); (case hr => first | (go_simp; done) | (go_simp; rfl)); intro w58 hw; have hg : wr.grownBy w58 (some go56) := (by rw [hw]; exact HP57.2); have hz_ : Kd.R (Kd.int .i64) 3 w58 w.heap.size oki57 (.slice (some ⟨go56, 0, none⟩) (rd_L2 x5_2 x6_1).length c258_0) y265 := (by rw [hw, Ny265.out]; exact HP57.1); have hp_ : Kd.S (Kd.slice 3 (Kd.int .i64)) 39 w58 w.heap.size (fun _ => True) (.slice (some ⟨go14, 0, none⟩) x5_2.length co14) y267 := (by rw [Ny267.out]; exact hbk57 hg (fun k_ e_ => by injection e_ with e_; subst e_; exact ge57_0.1 _ rfl) (Kd.M_row hz_)); have hm_ := Kd.R_mono hz_ hok57; clear HP57 hbk57; have n0_ := Aside0.mk (hp_); have n1_ := Aside0.mk ((by rw [hw]; exact below_set (HB.out) GB56.out : Below w.heap.size w w58)); have n2_ := Aside0.mk (hm_); have n3_ := Aside0.mk ((Kd.R_reads' hm_).2.1); clear HO_5; clear HB; clear HL256_0; clear HL258_0; clear HL260_0; clear HL262_0; clear HL264_0; have HO_5 := n0_; have HB := n1_; have HL274 := n2_; have HC266 := n3_; clear n0_ n1_ n2_ n3_; clear hg hw hp_ hz_ hm_ hok57)); try go_wp2_with (first | ((with_reducible refine gate_store (t := 3) (p := 83) rfl ?_); (try (rw [drewN_self wr]; generalize hq_ : World.drewN wr _ = wr; have n0_ := Aside0.mk (Kd.S_at hq_ HO_5.out); have n1_ := Aside0.mk (Kd.R_at hq_ HL264_0.out); have n3_ := Aside0.mk (cell_at hq_ HX264_0.out); have n2_ := Aside0.mk (below_at hq_ HB.out); clear HO_5 HX264_0 HB hx56_0 hf56_0; have HO_5 := n0_; have HX264_0 := n3_; have HB := n2_; obtain ⟨hx56_0, hf56_0⟩ := Kd.R_celln 0 n1_.out (x7_2 : Int) (of_eq_true p56) (of_eq_true q56); clear hq_ n0_ n1_ n2_ n3_; (try (have hq57 : (x6_1 : Int) < (x5_2.length : Int) := (by have h_ : (x6_1 : Int) < ((x5_2.length : Int) : Int) := of_decide_eq_true (by first | (with_reducible assumption) | assumption); first | exact h_ | (have e_ := (Kd.S_reads' HO_5.out).1; omega) | simpa only [List.length_set, List.length_set] using h_))); (try (obtain ⟨oki57, ce57, hcl57, hM57, hcc57, hok57, hbk57⟩ := Kd.S_borrow HO_5.out [] (x6_1 : Int) (of_decide_eq_true (by first | (with_reducible assumption) | assumption)) hq57)); (try (obtain ⟨ve57_0, rfl, ge57_0⟩ := hM57)); (try (have hv57 := hcc57 0 _ rfl)); (try (rw [Nat.add_zero, show ((Kd.slice 3 (Kd.int .i64))).sz = 1 from rfl, Nat.mul_one] at hv57)); (try (replace hv57 := Option.some.inj (hv57.symm.trans HX264_0.out))); (try (subst hv57)); (try (clear hcc57 hcl57)); (try (replace ge57_0 := (show Kd.R (Kd.int .i64) 3 _ _ _ _ (rd_L2 x5_2 x6_1) from ge57_0))); (try (have HP57 := Kd.R_putg ge57_0 (x7_2 : Int) ji54)))); refine store_event (t := 3) (p := 83) (v := ?vo_w58) (w1 := (wr.setCell ⟨go56, (x7_2 : Int).toNat, none⟩ (.int .i64 ji54))) ?hg ?ho ?hn ?hr ?_; (case ho => rfl); (case hg => rfl); (case hn => rfl); (case hr => first | (go_simp; done) | (go_simp; rfl)); intro w58 hw; have hg : wr.grownBy w58 (some go56) := (by rw [hw]; exact HP57.2); have hz_ : Kd.R (Kd.int .i64) 3 w58 w.heap.size oki57 (.slice (some ⟨go56, 0, none⟩) (rd_L2 x5_2 x6_1).length c258_0) y265 := (by rw [hw, Ny265.out]; exact HP57.1); have hp_ : Kd.S (Kd.slice 3 (Kd.int .i64)) 39 w58 w.heap.size (fun _ => True) (.slice (some ⟨go14, 0, none⟩) x5_2.length co14) y267 := (by rw [Ny267.out]; exact hbk57 hg (fun k_ e_ => by injection e_ with e_; subst e_; exact ge57_0.1 _ rfl) (Kd.M_row hz_)); have hm_ := Kd.R_mono hz_ hok57; clear HP57 hbk57; have n0_ := Aside0.mk (hp_); have n1_ := Aside0.mk ((by rw [hw]; exact below_set (HB.out) GB56.out : Below w.heap.size w w58)); have n2_ := Aside0.mk (hm_); have n3_ := Aside0.mk ((Kd.R_reads' hm_).2.1); clear HO_5; clear HB; clear HL256_0; clear HL258_0; clear HL260_0; clear HL262_0; clear HL264_0; have HO_5 := n0_; have HB := n1_; have HL274 := n2_; have HC266 := n3_; clear n0_ n1_ n2_ n3_; clear hg hw hp_ hz_ hm_ hok57)))
                                                        (try simp only [← hl5_2])
                                                        go_roundg k2
                                                        case measure => have := HK1.out; have := HK2.out; omega
                                                        case rel => exact ⟨(y267), (wrap64 (x7_2 - 1)), (by first | rfl | (simp; done) | (simp [*]; done)), H', ⟨by have := HK1.out; have := HK2.out; omega⟩, ⟨by (try simp only [hl5_2]); (with_reducible repeat (first | apply Kd.S_alloc | apply Kd.S_drewN | apply Kd.S_drew)); exact HO_5.out⟩, ⟨by repeat (first | (with_reducible first | exact HB.out | apply below_alloc | apply pw_below_drewN | apply below_drew1) | exact HB.out)⟩⟩
                                                      · rw [if_neg c55] at H
                                                        exact absurd H (by simp)
                                                    · rw [if_neg c53] at H
                                                      have c53b0 : ((bt a0 x6_1) == (bt a1 x7_2)) = false := beq_eq_false_iff_ne.mpr c53
                                                      have c53b1 : ((bt a0 x6_1) != (bt a1 x7_2)) = true := bne_iff_ne.mpr c53
                                                      by_cases c59 : x7_2 < ((rd_L2 x5_2 x6_1).length : Int)
                                                      · rw [if_pos c59] at H
                                                        have c59b0 : decide (x7_2 < ((rd_L2 x5_2 x6_1).length : Int)) = true := decide_eq_true c59
                                                        clear c59
                                                        obtain ⟨y269, hy269⟩ : ∃ y_ : List Int, y_ = ((rd_L2 x5_2 x6_1).set (x7_2 : Int).toNat (wrap64 (1 + (ji48)))) := ⟨_, rfl⟩
                                                        replace H : (spec_l05Table.l1 k2 a0 a1 (x5_2.set (x6_1 : Int).toNat y269) x6_1 (wrap64 (x7_2 - 1))) = some r := by first | (rw [hy269]; with_reducible exact H) | (have H2_ := (Option.bind_some _ _).symm.trans H; rw [hy269]; with_reducible exact H2_) | (have H2_ := (Option.bind_some _ _).symm.trans H; with_reducible exact H2_) | with_reducible exact H | (rw [hy269]; exact H) | exact H
                                                        have Ny269 := Aside0.mk hy269
                                                        clear hy269
                                                        obtain ⟨y271, hy271⟩ : ∃ y_ : List (List Int), y_ = (x5_2.set (x6_1 : Int).toNat y269) := ⟨_, rfl⟩
                                                        replace H : (spec_l05Table.l1 k2 a0 a1 y271 x6_1 (wrap64 (x7_2 - 1))) = some r := by first | (rw [hy271]; with_reducible exact H) | (have H2_ := (Option.bind_some _ _).symm.trans H; rw [hy271]; with_reducible exact H2_) | (have H2_ := (Option.bind_some _ _).symm.trans H; with_reducible exact H2_) | with_reducible exact H | (rw [hy271]; exact H) | exact H
                                                        have Ny271 := Aside0.mk hy271
                                                        clear hy271
                                                        have H' := Aside0.mk H
                                                        clear H
                                                        have p256 : 0 ≤ ((ji36) : Int) := of_decide_eq_true (by first | (with_reducible assumption) | assumption)
                                                        have q256 : (ji36) < (x5_2.length : Int) := of_decide_eq_true (by first | (with_reducible assumption) | assumption)
                                                        obtain ⟨ad256, A256_0, c256_0, e256, hx256_0, hl256_0, hi256_0⟩ := at_L2 (Kd.S_reads' HO_5.out).2.2 (ji36) p256 q256
                                                        obtain rfl : (⟨go14, 0, none⟩ : Addr) = ad256 := (by injection e256)
                                                        obtain ⟨ce256, hce256, hMe256, hcc256⟩ := Kd.S_get HO_5.out [] (ji36) p256 (by first | exact q256 | exact of_decide_eq_true (by first | (with_reducible assumption) | assumption) | (have e_ := (Kd.S_reads' HO_5.out).1; omega))
                                                        obtain ⟨ve256_0, rfl, ge256_0⟩ := hMe256
                                                        have hv256_0 := hcc256 0 _ rfl
                                                        rw [Nat.add_zero, show ((Kd.slice 3 (Kd.int .i64))).sz = 1 from rfl, Nat.mul_one] at hv256_0
                                                        replace hv256_0 := Option.some.inj (hv256_0.symm.trans hx256_0)
                                                        rw [hv256_0] at ge256_0
                                                        have HL256_0 := Aside0.mk (show Kd.R (Kd.int .i64) 3 _ _ _ _ (rd_L2 x5_2 (ji36)) from ge256_0)
                                                        clear hv256_0 ge256_0
                                                        have HX256_0 := Aside0.mk hx256_0
                                                        clear hcc256 hce256
                                                        (first | simp only [add_plain] at hx256_0 | simp only [add_at] at hx256_0 | simp only [Addr.add, Nat.zero_add] at hx256_0 | skip)
                                                        have HR256_0 := Aside0.mk hi256_0
                                                        have HC256_0 := Aside0.mk hl256_0
                                                        clear hi256_0 hl256_0
                                                        replace p256 := eq_true p256
                                                        replace q256 := eq_true q256
                                                        have p257 : 0 ≤ (x7_2 : Int) := of_decide_eq_true (by first | (with_reducible assumption) | assumption)
                                                        have q257 : x7_2 < ((rd_L2 x5_2 (ji36)).length : Int) := of_decide_eq_true (by first | (with_reducible assumption) | assumption)
                                                        obtain ⟨ad257, e257, hx257_0⟩ := Kd.at_int (by repeat (first | (with_reducible exact HR256_0.out) | (with_reducible refine Kd.C_alloc ?_ _) | (with_reducible refine Kd.C_drewN ?_ _) | (with_reducible refine Kd.C_drew ?_) | exact HR256_0.out)) x7_2 p257 q257
                                                        cases e257
                                                        replace p257 := eq_true p257
                                                        replace q257 := eq_true q257
                                                        have p258 : 0 ≤ (x6_1 : Int) := of_decide_eq_true (by first | (with_reducible assumption) | assumption)
                                                        have q258 : x6_1 < (x5_2.length : Int) := of_decide_eq_true (by first | (with_reducible assumption) | assumption)
                                                        obtain ⟨ad258, A258_0, c258_0, e258, hx258_0, hl258_0, hi258_0⟩ := at_L2 (Kd.S_reads' HO_5.out).2.2 x6_1 p258 q258
                                                        obtain rfl : (⟨go14, 0, none⟩ : Addr) = ad258 := (by injection e258)
                                                        obtain ⟨ce258, hce258, hMe258, hcc258⟩ := Kd.S_get HO_5.out [] x6_1 p258 (by first | exact q258 | exact of_decide_eq_true (by first | (with_reducible assumption) | assumption) | (have e_ := (Kd.S_reads' HO_5.out).1; omega))
                                                        obtain ⟨ve258_0, rfl, ge258_0⟩ := hMe258
                                                        have hv258_0 := hcc258 0 _ rfl
                                                        rw [Nat.add_zero, show ((Kd.slice 3 (Kd.int .i64))).sz = 1 from rfl, Nat.mul_one] at hv258_0
                                                        replace hv258_0 := Option.some.inj (hv258_0.symm.trans hx258_0)
                                                        rw [hv258_0] at ge258_0
                                                        have HL258_0 := Aside0.mk (show Kd.R (Kd.int .i64) 3 _ _ _ _ (rd_L2 x5_2 x6_1) from ge258_0)
                                                        clear hv258_0 ge258_0
                                                        have HX258_0 := Aside0.mk hx258_0
                                                        clear hcc258 hce258
                                                        (first | simp only [add_plain] at hx258_0 | simp only [add_at] at hx258_0 | simp only [Addr.add, Nat.zero_add] at hx258_0 | skip)
                                                        have HR258_0 := Aside0.mk hi258_0
                                                        have HC258_0 := Aside0.mk hl258_0
                                                        clear hi258_0 hl258_0
                                                        replace p258 := eq_true p258
                                                        replace q258 := eq_true q258
                                                        have p259 : 0 ≤ ((ji43) : Int) := of_decide_eq_true (by first | (with_reducible assumption) | assumption)
                                                        have q259 : (ji43) < ((rd_L2 x5_2 x6_1).length : Int) := of_decide_eq_true (by first | (with_reducible assumption) | assumption)
                                                        obtain ⟨ad259, e259, hx259_0⟩ := Kd.at_int (by repeat (first | (with_reducible exact HR258_0.out) | (with_reducible refine Kd.C_alloc ?_ _) | (with_reducible refine Kd.C_drewN ?_ _) | (with_reducible refine Kd.C_drew ?_) | exact HR258_0.out)) (ji43) p259 q259
                                                        cases e259
                                                        replace p259 := eq_true p259
                                                        replace q259 := eq_true q259
                                                        have p260 : 0 ≤ ((ji36) : Int) := of_decide_eq_true (by first | (with_reducible assumption) | assumption)
                                                        have q260 : (ji36) < (x5_2.length : Int) := of_decide_eq_true (by first | (with_reducible assumption) | assumption)
                                                        obtain ⟨ad260, A260_0, c260_0, e260, hx260_0, hl260_0, hi260_0⟩ := at_L2 (Kd.S_reads' HO_5.out).2.2 (ji36) p260 q260
                                                        obtain rfl : (⟨go14, 0, none⟩ : Addr) = ad260 := (by injection e260)
                                                        obtain ⟨ce260, hce260, hMe260, hcc260⟩ := Kd.S_get HO_5.out [] (ji36) p260 (by first | exact q260 | exact of_decide_eq_true (by first | (with_reducible assumption) | assumption) | (have e_ := (Kd.S_reads' HO_5.out).1; omega))
                                                        obtain ⟨ve260_0, rfl, ge260_0⟩ := hMe260
                                                        have hv260_0 := hcc260 0 _ rfl
                                                        rw [Nat.add_zero, show ((Kd.slice 3 (Kd.int .i64))).sz = 1 from rfl, Nat.mul_one] at hv260_0
                                                        replace hv260_0 := Option.some.inj (hv260_0.symm.trans hx260_0)
                                                        rw [hv260_0] at ge260_0
                                                        have HL260_0 := Aside0.mk (show Kd.R (Kd.int .i64) 3 _ _ _ _ (rd_L2 x5_2 (ji36)) from ge260_0)
                                                        clear hv260_0 ge260_0
                                                        have HX260_0 := Aside0.mk hx260_0
                                                        clear hcc260 hce260
                                                        (first | simp only [add_plain] at hx260_0 | simp only [add_at] at hx260_0 | simp only [Addr.add, Nat.zero_add] at hx260_0 | skip)
                                                        have HR260_0 := Aside0.mk hi260_0
                                                        have HC260_0 := Aside0.mk hl260_0
                                                        clear hi260_0 hl260_0
                                                        replace p260 := eq_true p260
                                                        replace q260 := eq_true q260
                                                        have ea_ := Option.some.inj (hx256_0.symm.trans hx260_0)
                                                        injection ea_ with ea_ en_ ec_
                                                        subst ea_
                                                        subst ec_
                                                        clear en_
                                                        have p261 : 0 ≤ ((ji43) : Int) := of_decide_eq_true (by first | (with_reducible assumption) | assumption)
                                                        have q261 : (ji43) < ((rd_L2 x5_2 (ji36)).length : Int) := of_decide_eq_true (by first | (with_reducible assumption) | assumption)
                                                        obtain ⟨ad261, e261, hx261_0⟩ := Kd.at_int (by repeat (first | (with_reducible exact HR260_0.out) | (with_reducible refine Kd.C_alloc ?_ _) | (with_reducible refine Kd.C_drewN ?_ _) | (with_reducible refine Kd.C_drew ?_) | exact HR260_0.out)) (ji43) p261 q261
                                                        cases e261
                                                        replace p261 := eq_true p261
                                                        replace q261 := eq_true q261
                                                        have p50 : 0 ≤ (x6_1 : Int) := of_decide_eq_true (by first | (with_reducible assumption) | assumption)
                                                        have q50 : x6_1 < (a0.size : Int) := of_decide_eq_true (by first | (with_reducible assumption) | assumption)
                                                        have hx50 := bt_at a0 x6_1
                                                        replace p50 := eq_true p50
                                                        replace q50 := eq_true q50
                                                        have p52 : 0 ≤ (x7_2 : Int) := of_decide_eq_true (by first | (with_reducible assumption) | assumption)
                                                        have q52 : x7_2 < (a1.size : Int) := of_decide_eq_true (by first | (with_reducible assumption) | assumption)
                                                        have hx52 := bt_at a1 x7_2
                                                        replace p52 := eq_true p52
                                                        replace q52 := eq_true q52
                                                        have p268 : 0 ≤ (x6_1 : Int) := of_decide_eq_true (by first | (with_reducible assumption) | assumption)
                                                        have q268 : x6_1 < (x5_2.length : Int) := of_decide_eq_true (by first | (with_reducible assumption) | assumption)
                                                        obtain ⟨ad268, A268_0, c268_0, e268, hx268_0, hl268_0, hi268_0⟩ := at_L2 (Kd.S_reads' HO_5.out).2.2 x6_1 p268 q268
                                                        obtain rfl : (⟨go14, 0, none⟩ : Addr) = ad268 := (by injection e268)
                                                        obtain ⟨ce268, hce268, hMe268, hcc268⟩ := Kd.S_get HO_5.out [] x6_1 p268 (by first | exact q268 | exact of_decide_eq_true (by first | (with_reducible assumption) | assumption) | (have e_ := (Kd.S_reads' HO_5.out).1; omega))
                                                        obtain ⟨ve268_0, rfl, ge268_0⟩ := hMe268
                                                        have hv268_0 := hcc268 0 _ rfl
                                                        rw [Nat.add_zero, show ((Kd.slice 3 (Kd.int .i64))).sz = 1 from rfl, Nat.mul_one] at hv268_0
                                                        replace hv268_0 := Option.some.inj (hv268_0.symm.trans hx268_0)
                                                        rw [hv268_0] at ge268_0
                                                        have HL268_0 := Aside0.mk (show Kd.R (Kd.int .i64) 3 _ _ _ _ (rd_L2 x5_2 x6_1) from ge268_0)
                                                        clear hv268_0 ge268_0
                                                        have HX268_0 := Aside0.mk hx268_0
                                                        clear hcc268 hce268
                                                        (first | simp only [add_plain] at hx268_0 | simp only [add_at] at hx268_0 | simp only [Addr.add, Nat.zero_add] at hx268_0 | skip)
                                                        have HR268_0 := Aside0.mk hi268_0
                                                        have HC268_0 := Aside0.mk hl268_0
                                                        clear hi268_0 hl268_0
                                                        replace p268 := eq_true p268
                                                        replace q268 := eq_true q268
                                                        have ea_ := Option.some.inj (hx258_0.symm.trans hx268_0)
                                                        injection ea_ with ea_ en_ ec_
                                                        subst ea_
                                                        subst ec_
                                                        clear en_
                                                        have p60 : 0 ≤ (x7_2 : Int) := of_decide_eq_true (by first | (with_reducible assumption) | assumption)
                                                        have q60 : (x7_2 : Int) < (((rd_L2 x5_2 x6_1).length : Int) : Int) := of_decide_eq_true (by first | (with_reducible assumption) | assumption)
                                                        obtain ⟨go60, co60, eo60, gb60, gl60, cl60, HG60⟩ := Kd.R_form HL268_0.out (by omega)
                                                        (first | cases eo60 | (injection eo60 with ea_ en_ ec_; (first | subst ea_ | (injection ea_ with ea_; subst ea_)); subst ec_; clear en_))
                                                        have GB60 := Aside0.mk gb60
                                                        have GG60 := Aside0.mk HG60
                                                        clear gb60 gl60 HG60
                                                        (first | simp only [add_plain] at hx259_0 | skip)
                                                        obtain ⟨hx60_0, hf60_0⟩ := Kd.R_celln 0 HL268_0.out (x7_2 : Int) p60 q60
                                                        replace p60 := eq_true p60
                                                        replace q60 := eq_true q60
                                                        have hq61 : (x6_1 : Int) < (x5_2.length : Int) := (by have h_ : (x6_1 : Int) < ((x5_2.length : Int) : Int) := of_decide_eq_true (by first | (with_reducible assumption) | assumption); first | exact h_ | (have e_ := (Kd.S_reads' HO_5.out).1; omega) | simpa only [List.length_set, List.length_set] using h_)
                                                        obtain ⟨oki61, ce61, hcl61, hM61, hcc61, hok61, hbk61⟩ := Kd.S_borrow HO_5.out [] (x6_1 : Int) (of_decide_eq_true (by first | (with_reducible assumption) | assumption)) hq61
                                                        obtain ⟨ve61_0, rfl, ge61_0⟩ := hM61
                                                        have hv61 := hcc61 0 _ rfl
                                                        rw [Nat.add_zero, show ((Kd.slice 3 (Kd.int .i64))).sz = 1 from rfl, Nat.mul_one] at hv61
                                                        replace hv61 := Option.some.inj (hv61.symm.trans HX268_0.out)
                                                        subst hv61
                                                        clear hcc61 hcl61
                                                        replace ge61_0 := (show Kd.R (Kd.int .i64) 3 _ _ _ _ (rd_L2 x5_2 x6_1) from ge61_0)
                                                        have HP61 := Kd.R_putg ge61_0 (x7_2 : Int) (wrap64 (1 + (ji48)))
                                                        go_wp2_with (first | ((with_reducible refine gate_store (t := 3) (p := 83) rfl ?_); (try (rw [drewN_self wr]; generalize hq_ : World.drewN wr _ = wr; have n0_ := Aside0.mk (Kd.S_at hq_ HO_5.out); have n1_ := Aside0.mk (Kd.R_at hq_ HL268_0.out); have n3_ := Aside0.mk (cell_at hq_ HX268_0.out); have n2_ := Aside0.mk (below_at hq_ HB.out); clear HO_5 HX268_0 HB hx60_0 hf60_0; have HO_5 := n0_; have HX268_0 := n3_; have HB := n2_; obtain ⟨hx60_0, hf60_0⟩ := Kd.R_celln 0 n1_.out (x7_2 : Int) (of_eq_true p60) (of_eq_true q60); clear hq_ n0_ n1_ n2_ n3_; (try (have hq61 : (x6_1 : Int) < (x5_2.length : Int) := (by have h_ : (x6_1 : Int) < ((x5_2.length : Int) : Int) := of_decide_eq_true (by first | (with_reducible assumption) | assumption); first | exact h_ | (have e_ := (Kd.S_reads' HO_5.out).1; omega) | simpa only [List.length_set, List.length_set] using h_))); (try (obtain ⟨oki61, ce61, hcl61, hM61, hcc61, hok61, hbk61⟩ := Kd.S_borrow HO_5.out [] (x6_1 : Int) (of_decide_eq_true (by first | (with_reducible assumption) | assumption)) hq61)); (try (obtain ⟨ve61_0, rfl, ge61_0⟩ := hM61)); (try (have hv61 := hcc61 0 _ rfl)); (try (rw [Nat.add_zero, show ((Kd.slice 3 (Kd.int .i64))).sz = 1 from rfl, Nat.mul_one] at hv61)); (try (replace hv61 := Option.some.inj (hv61.symm.trans HX268_0.out))); (try (subst hv61)); (try (clear hcc61 hcl61)); (try (replace ge61_0 := (show Kd.R (Kd.int .i64) 3 _ _ _ _ (rd_L2 x5_2 x6_1) from ge61_0))); (try (have HP61 := Kd.R_putg ge61_0 (x7_2 : Int) (wrap64 (1 + (ji48))))))); refine store_event (t := 3) (p := 83) (v := ?vo_w62) (w1 := (wr.setCell ⟨go60, (x7_2 : Int).toNat, none⟩ (.int .i64 (wrap64 (1 + (ji48)))))) ?hg ?ho ?hn ?hr ?_; (case ho => rfl); (case hg => rfl); (case hn => rfl); (case hr => first | (go_simp; done) | (go_simp; rfl)); intro w62 hw; have hg : wr.grownBy w62 (some go60) := (by rw [hw]; exact HP61.2); have hz_ : Kd.R (Kd.int .i64) 3 w62 w.heap.size oki61 (.slice (some ⟨go60, 0, none⟩) (rd_L2 x5_2 x6_1).length c258_0) y269 := (by rw [hw, Ny269.out]; exact HP61.1); have hp_ : Kd.S (Kd.slice 3 (Kd.int .i64)) 39 w62 w.heap.size (fun _ => True) (.slice (some ⟨go14, 0, none⟩) x5_2.length co14) y271 := (by rw [Ny271.out]; exact hbk61 hg (fun k_ e_ => by injection e_ with e_; subst e_; exact ge61_0.1 _ rfl) (Kd.M_row hz_)); have hm_ := Kd.R_mono hz_ hok61; clear HP61 hbk61; have n0_ := Aside0.mk (hp_); have n1_ := Aside0.mk ((by rw [hw]; exact below_set (HB.out) GB60.out : Below w.heap.size w w62)); have n2_ := Aside0.mk (hm_); have n3_ := Aside0.mk ((Kd.R_reads' hm_).2.1); clear HO_5; clear HB; clear HL256_0; clear HL258_0; clear HL260_0; clear HL268_0; have HO_5 := n0_; have HB := n1_; have HL275 := n2_; have HC270 := n3_; clear n0_ n1_ n2_ n3_; clear hg hw hp_ hz_ hm_ hok61))
                                                        repeat (go_quiet (first | ((with_reducible refine gate_store (t := 3) (p := 83) rfl ?_); (try (rw [drewN_self wr]; generalize hq_ : World.drewN wr _ = wr; have n0_ := Aside0.mk (Kd.S_at hq_ HO_5.out); have n1_ := Aside0.mk (Kd.R_at hq_ HL268_0.out); have n3_ := Aside0.mk (cell_at hq_ HX268_0.out); have n2_ := Aside0.mk (below_at hq_ HB.out); clear HO_5 HX268_0 HB hx60_0 hf60_0; have HO_5 := n0_; have HX268_0 := n3_; have HB := n2_; obtain ⟨hx60_0, hf60_0⟩ := Kd.R_celln 0 n1_.out (x7_2 : Int) (of_eq_true p60) (of_eq_true q60); clear hq_ n0_ n1_ n2_ n3_; (try (have hq61 : (x6_1 : Int) < (x5_2.length : Int) := (by have h_ : (x6_1 : Int) < ((x5_2.length : Int) : Int) := of_decide_eq_true (by first | (with_reducible assumption) | assumption); first | exact h_ | (have e_ := (Kd.S_reads' HO_5.out).1; omega) | simpa only [List.length_set, List.length_set] using h_))); (try (obtain ⟨oki61, ce61, hcl61, hM61, hcc61, hok61, hbk61⟩ := Kd.S_borrow HO_5.out [] (x6_1 : Int) (of_decide_eq_true (by first | (with_reducible assumption) | assumption)) hq61)); (try (obtain ⟨ve61_0, rfl, ge61_0⟩ := hM61)); (try (have hv61 := hcc61 0 _ rfl)); (try (rw [Nat.add_zero, show ((Kd.slice 3 (Kd.int .i64))).sz = 1 from rfl, Nat.mul_one] at hv61)); (try (replace hv61 := Option.some.inj (hv61.symm.trans HX268_0.out))); (try (subst hv61)); (try (clear hcc61 hcl61)); (try (replace ge61_0 := (show Kd.R (Kd.int .i64) 3 _ _ _ _ (rd_L2 x5_2 x6_1) from ge61_0))); (try (have HP61 := Kd.R_putg ge61_0 (x7_2 : Int) (wrap64 (1 + (ji48))))))); refine store_event (t := 3) (p := 83) (v := ?vo_w62) (w1 := (wr.setCell ⟨go60, (x7_2 : Int).toNat, none⟩ (.int .i64 (wrap64 (1 + (ji48)))))) ?hg ?ho ?hn ?hr ?_; (case ho => rfl); (case hg => rfl); (case hn => rfl); (case hr => first | (go_simp; done) | (go_simp; rfl)); intro w62 hw; have hg : wr.grownBy w62 (some go60) := (by rw [hw]; exact HP61.2); have hz_ : Kd.R (Kd.int .i64) 3 w62 w.heap.size oki61 (.slice (some ⟨go60, 0, none⟩) (rd_L2 x5_2 x6_1).length c258_0) y269 := (by rw [hw, Ny269.out]; exact HP61.1); have hp_ : Kd.S (Kd.slice 3 (Kd.int .i64)) 39 w62 w.heap.size (fun _ => True) (.slice (some ⟨go14, 0, none⟩) x5_2.length co14) y271 := (by rw [Ny271.out]; exact hbk61 hg (fun k_ e_ => by injection e_ with e_; subst e_; exact ge61_0.1 _ rfl) (Kd.M_row hz_)); have hm_ := Kd.R_mono hz_ hok61; clear HP61 hbk61; have n0_ := Aside0.mk (hp_); have n1_ := Aside0.mk ((by rw [hw]; exact below_set (HB.out) GB60.out : Below w.heap.size w w62)); have n2_ := Aside0.mk (hm_); have n3_ := Aside0.mk ((Kd.R_reads' hm_).2.1); clear HO_5; clear HB; clear HL256_0; clear HL258_0; clear HL260_0; clear HL268_0; have HO_5 := n0_; have HB := n1_; have HL275 := n2_; have HC270 := n3_; clear n0_ n1_ n2_ n3_; clear hg hw hp_ hz_ hm_ hok61)); try go_wp2_with (first | ((with_reducible refine gate_store (t := 3) (p := 83) rfl ?_); (try (rw [drewN_self wr]; generalize hq_ : World.drewN wr _ = wr; have n0_ := Aside0.mk (Kd.S_at hq_ HO_5.out); have n1_ := Aside0.mk (Kd.R_at hq_ HL268_0.out); have n3_ := Aside0.mk (cell_at hq_ HX268_0.out); have n2_ := Aside0.mk (below_at hq_ HB.out); clear HO_5 HX268_0 HB hx60_0 hf60_0; have HO_5 := n0_; have HX268_0 := n3_; have HB := n2_; obtain ⟨hx60_0, hf60_0⟩ := Kd.R_celln 0 n1_.out (x7_2 : Int) (of_eq_true p60) (of_eq_true q60); clear hq_ n0_ n1_ n2_ n3_; (try (have hq61 : (x6_1 : Int) < (x5_2.length : Int) := (by have h_ : (x6_1 : Int) < ((x5_2.length : Int) : Int) := of_decide_eq_true (by first | (with_reducible assumption) | assumption); first | exact h_ | (have e_ := (Kd.S_reads' HO_5.out).1; omega) | simpa only [List.length_set, List.length_set] using h_))); (try (obtain ⟨oki61, ce61, hcl61, hM61, hcc61, hok61, hbk61⟩ := Kd.S_borrow HO_5.out [] (x6_1 : Int) (of_decide_eq_true (by first | (with_reducible assumption) | assumption)) hq61)); (try (obtain ⟨ve61_0, rfl, ge61_0⟩ := hM61)); (try (have hv61 := hcc61 0 _ rfl)); (try (rw [Nat.add_zero, show ((Kd.slice 3 (Kd.int .i64))).sz = 1 from rfl, Nat.mul_one] at hv61)); (try (replace hv61 := Option.some.inj (hv61.symm.trans HX268_0.out))); (try (subst hv61)); (try (clear hcc61 hcl61)); (try (replace ge61_0 := (show Kd.R (Kd.int .i64) 3 _ _ _ _ (rd_L2 x5_2 x6_1) from ge61_0))); (try (have HP61 := Kd.R_putg ge61_0 (x7_2 : Int) (wrap64 (1 + (ji48))))))); refine store_event (t := 3) (p := 83) (v := ?vo_w62) (w1 := (wr.setCell ⟨go60, (x7_2 : Int).toNat, none⟩ (.int .i64 (wrap64 (1 + (ji48)))))) ?hg ?ho ?hn ?hr ?_; (case ho => rfl); (case hg => rfl); (case hn => rfl); (case hr => first | (go_simp; done) | (go_simp; rfl)); intro w62 hw; have hg : wr.grownBy w62 (some go60) := (by rw [hw]; exact HP61.2); have hz_ : Kd.R (Kd.int .i64) 3 w62 w.heap.size oki61 (.slice (some ⟨go60, 0, none⟩) (rd_L2 x5_2 x6_1).length c258_0) y269 := (by rw [hw, Ny269.out]; exact HP61.1); have hp_ : Kd.S (Kd.slice 3 (Kd.int .i64)) 39 w62 w.heap.size (fun _ => True) (.slice (some ⟨go14, 0, none⟩) x5_2.length co14) y271 := (by rw [Ny271.out]; exact hbk61 hg (fun k_ e_ => by injection e_ with e_; subst e_; exact ge61_0.1 _ rfl) (Kd.M_row hz_)); have hm_ := Kd.R_mono hz_ hok61; clear HP61 hbk61; have n0_ := Aside0.mk (hp_); have n1_ := Aside0.mk ((by rw [hw]; exact below_set (HB.out) GB60.out : Below w.heap.size w w62)); have n2_ := Aside0.mk (hm_); have n3_ := Aside0.mk ((Kd.R_reads' hm_).2.1); clear HO_5; clear HB; clear HL256_0; clear HL258_0; clear HL260_0; clear HL268_0; have HO_5 := n0_; have HB := n1_; have HL275 := n2_; have HC270 := n3_; clear n0_ n1_ n2_ n3_; clear hg hw hp_ hz_ hm_ hok61)))
                                                        (try simp only [← hl5_2])
                                                        go_roundg k2
                                                        case measure => have := HK1.out; have := HK2.out; omega
                                                        case rel => exact ⟨(y271), (wrap64 (x7_2 - 1)), (by first | rfl | (simp; done) | (simp [*]; done)), H', ⟨by have := HK1.out; have := HK2.out; omega⟩, ⟨by (try simp only [hl5_2]); (with_reducible repeat (first | apply Kd.S_alloc | apply Kd.S_drewN | apply Kd.S_drew)); exact HO_5.out⟩, ⟨by repeat (first | (with_reducible first | exact HB.out | apply below_alloc | apply pw_below_drewN | apply below_drew1) | exact HB.out)⟩⟩
                                                      · rw [if_neg c59] at H
                                                        exact absurd H (by simp)
                                                  · rw [if_neg c51] at H
                                                    exact absurd H (by simp)
                                                · rw [if_neg c49] at H
                                                  exact absurd H (by simp)
                                              · rw [if_neg c46] at H
                                                exact absurd H (by simp)
                                            · rw [if_neg c45] at H
                                              exact absurd H (by simp)
                                          · rw [if_neg c44] at H
                                            exact absurd H (by simp)
                                        · rw [if_neg c42] at H
                                          exact absurd H (by simp)
                                      · rw [if_neg c41] at H
                                        exact absurd H (by simp)
                                    · rw [if_neg c40] at H
                                      exact absurd H (by simp)
                                  · rw [if_neg c39] at H
                                    exact absurd H (by simp)
                                · rw [if_neg c38] at H
                                  exact absurd H (by simp)
                              · rw [if_neg c37] at H
                                exact absurd H (by simp)
                        · rw [if_neg c19] at H
                          have c19b0 : decide (0 ≤ x7_2) = false := decide_eq_false c19
                          clear c19
                          have H' := Aside0.mk H
                          clear H
                          go_wp2
                          repeat (go_quiet (fail); try go_wp2)
                          (try simp only [← hl5_2])
                          go_roundg k2
                          case measure => have := HK1.out; have := HK2.out; omega
                          case rel => exact ⟨(x5_2), (wrap64 (x6_1 - 1)), (by first | rfl | (simp; done) | (simp [*]; done)), H', ⟨by have := HK1.out; have := HK2.out; omega⟩, ⟨by (try simp only [hl5_2]); (with_reducible repeat (first | apply Kd.S_alloc | apply Kd.S_drewN | apply Kd.S_drew)); exact HO_5.out⟩, ⟨by repeat (first | (with_reducible first | exact HB.out | apply below_alloc | apply pw_below_drewN | apply below_drew1) | exact HB.out)⟩⟩
                  · rw [if_neg c13] at H
                    exact absurd H (by simp)
                · rw [if_neg c12] at H
                  exact absurd H (by simp)
              · rw [if_neg c11] at H
                exact absurd H (by simp)
            · rw [if_neg c10] at H
              exact absurd H (by simp)
          · rw [if_neg c8] at H
            have c8b0 : decide (0 ≤ x6_1) = false := decide_eq_false c8
            clear c8
            obtain rfl := Option.some.inj H
            go_wp2
            repeat (go_quiet (fail); try go_wp2)
            go_ret
            exact ⟨_, by first | rfl | (simp [errW_none, errW_some] <;> rfl) | (simp only [← hji3]; first | rfl | (simp [errW_none, errW_some] <;> rfl)) | (simp [*, errW_none, errW_some] <;> rfl), by (with_reducible repeat (first | apply Kd.S_alloc | apply Kd.S_drewN | apply Kd.S_drew)); exact HO_5.out, by repeat (first | (with_reducible first | exact HB.out | apply below_alloc | apply pw_below_drewN | apply below_drew1) | exact HB.out)⟩
    · rw [if_neg c5] at H
      exact absurd H (by simp)
  · rw [if_neg c4] at H
    exact absurd H (by simp)

end Go.Proofs.Ytbibgmmoompoiaa.PFnMyers
