/- The functions that the law FnExactMyersPadded reaches, as plain Lean functions, and the walks that show that Go comes to their answers; part 8. Its lines are the print's, turned where Lean refused them. -/
import Derived.Test.YtbibgmmoompoiaaQFnExactMyersPaddedx0
import Derived.Test.YtbibgmmoompoiaaQFnExactMyersPaddedx7
namespace Go.Proofs.Ytbibgmmoompoiaa.PFnExactMyersPadded
open Go.RowKit Go.Proofs.YtbibgmmoompoiaaW.PrintWords Go.Proofs.YtbibgmmoompoiaaW.PrintLast Go.Proofs.YtbibgmmoompoiaaW.PrintMore
attribute [local go_sem] max2_int min2_int max_two min_two max_three min_three max_four min_four   -- for this text's walks alone
set_option linter.unusedVariables false
set_option linter.unusedSimpArgs false

/-! ### impl_Unpad: function 15 -/
def impl_Unpad.j0 : Nat → List Int → Bool → Option (ByteArray × Bool)
  | 0, _, _ => none
  | k + 1, x0, x13 => if x13 = true then (some ((⟨#[]⟩ : ByteArray), false)) else (if 0 < (x0.length : Int) then (if 1 ≤ ((1 + (rd x0 0)) % 256) then (if ((1 + (rd x0 0)) % 256) ≤ (x0.length : Int) then ((impl_isWord.f k (strOfNums ((x0.take (((1 + (rd x0 0)) % 256) : Int).toNat).drop 1))).bind fun t242 => (if t242 = true then ((impl_pad.f k (strOfNums ((x0.take (((1 + (rd x0 0)) % 256) : Int).toNat).drop 1))).bind fun t243 => ((bytes_Equal.f t243 x0).bind fun t246 => (if t246 = true then (some (strOfNums ((x0.take (((1 + (rd x0 0)) % 256) : Int).toNat).drop 1), true)) else (some ((⟨#[]⟩ : ByteArray), false))))) else (some ((⟨#[]⟩ : ByteArray), false)))) else (none)) else (none)) else (none))
def impl_Unpad.f (k : Nat) (l0 : List Int) : Option (ByteArray × Bool) := if (l0.length : Int) = 33 then (if 0 < (l0.length : Int) then (impl_Unpad.j0 k l0 (decide ((rd l0 0) > 32))) else (none)) else (impl_Unpad.j0 k l0 true)
theorem impl_Unpad.mono_l : ∀ k, (∀ y0 y1, LeO (impl_Unpad.j0 k y0 y1) (impl_Unpad.j0 (k + 1) y0 y1))
  | 0 => fun _ _ r h => by simp [impl_Unpad.j0] at h
  | k + 1 => by
    have ih0 := impl_Unpad.mono_l k
    · intro y0 y1
      unfold impl_Unpad.j0
      repeat' first
      | (with_reducible exact ih0 _ _)
      | (with_reducible exact impl_isWord.mono _ _)
      | (with_reducible exact impl_pad.mono _ _)
      | (with_reducible exact LeO.refl _)
      | (with_reducible exact LeO.none _)
      | (with_reducible refine LeO.ite ?_ ?_)
      | (with_reducible refine LeO.bind ?_ (fun _ => ?_))
      | exact ih0 _ _
      | exact impl_isWord.mono _ _
      | exact impl_pad.mono _ _
      | exact LeO.none _
      | refine LeO.ite ?_ ?_
      | refine LeO.bind ?_ (fun _ => ?_)
theorem impl_Unpad.mono : ∀ a0 k, LeO (impl_Unpad.f k a0) (impl_Unpad.f (k + 1) a0) := by
  intro a0 k
  have ih0 := impl_Unpad.mono_l k
  unfold impl_Unpad.f
  repeat' first
      | (with_reducible exact ih0 _ _)
      | (with_reducible exact impl_isWord.mono _ _)
      | (with_reducible exact impl_pad.mono _ _)
      | (with_reducible exact LeO.refl _)
      | (with_reducible exact LeO.none _)
      | (with_reducible refine LeO.ite ?_ ?_)
      | (with_reducible refine LeO.bind ?_ (fun _ => ?_))
      | exact ih0 _ _
      | exact impl_isWord.mono _ _
      | exact impl_pad.mono _ _
      | exact LeO.none _
      | refine LeO.ite ?_ ?_
      | refine LeO.bind ?_ (fun _ => ?_)
set_option maxHeartbeats 8000000 in
set_option maxRecDepth 100000 in
theorem impl_Unpad.calls (k : Nat) (A0 : Option Addr) (c0 : Nat) (l0 : List Int) (r1 : ByteArray) (r2 : Bool) (w : World) (hr0 : Kd.C (Kd.int .u8) w A0 l0.length l0) (hc0 : l0.length ≤ c0) (h : impl_Unpad.f k l0 = some (r1, r2)) :
    Calls Try.prog 15 #[.slice A0 l0.length c0] w fun e w' => e = .returned (.tuple #[.string r1, .bool r2]) ∧ Below w.heap.size w w' := by
  have HR0 := Aside0.mk hr0
  have HC0 := Aside0.mk hc0
  clear hr0 hc0
  have HB := Aside0.mk (Below.refl w.heap.size w)
  have H : (if (l0.length : Int) = 33 then (if 0 < (l0.length : Int) then (impl_Unpad.j0 k l0 (decide ((rd l0 0) > 32))) else (none)) else (impl_Unpad.j0 k l0 true)) = some (r1, r2) := h
  clear h
  have HC2 := Aside0.mk H
  clear H
  go_enter Try.func15, Try.ntmps15
  go_upto_region 1 with (fail)
  go_cut [13] (fun v13 wc => ∃ (kq : Nat) (x13_1 : Bool), v13 = .bool x13_1 ∧ Aside0 (impl_Unpad.j0 kq l0 x13_1 = some (r1, r2)) ∧ Aside0 (kq ≤ k) ∧ Aside0 (Below w.heap.size w wc))
  case first =>
    have H := HC2.out
    clear HC2
    by_cases c3 : (l0.length : Int) = 33
    · rw [if_pos c3] at H
      have c3b0 : ((l0.length : Int) == 33) = true := beq_iff_eq.mpr c3
      have c3b1 : ((l0.length : Int) != 33) = false := bne_eq_false_iff_eq.mpr c3
      clear c3
      (first | rw [c3b0] | (simp only [i64_w, i32_w]; rw [c3b0]) | skip)
      by_cases c4 : 0 < (l0.length : Int)
      · rw [if_pos c4] at H
        have c4b0 : decide (0 < (l0.length : Int)) = true := decide_eq_true c4
        have c4b1 : decide (0 < l0.length) = true := decide_eq_true (by omega)
        clear c4
        have H' := Aside0.mk H
        clear H
        have p239 : 0 ≤ (0 : Int) := (by omega)
        have q239 : 0 < (l0.length : Int) := of_decide_eq_true (by first | (with_reducible assumption) | assumption)
        obtain ⟨ad239, e239, hx239_0⟩ := Kd.at_int HR0.out 0 p239 q239
        cases e239
        have qi239 : (0 < l0.length) = True := eq_true (by omega)
        (try rw [show ((0 : Int)).toNat = 0 from rfl] at hx239_0)
        (try rw [Addr.add_zero'] at hx239_0)
        replace hx239_0 := (HB.out.cell (World.block_lt_of_cell? w _ hx239_0)).trans hx239_0
        replace p239 := eq_true p239
        replace q239 := eq_true q239
        go_wp2
        go_meet
        case rel => exact ⟨_, (decide ((rd l0 0) > 32)), (by first | rfl | (simp; done) | (simp [*]; done)), H', ⟨by first | omega | exact Nat.le_refl _⟩, ⟨by repeat (first | (with_reducible first | exact HB.out | apply below_alloc | apply pw_below_drewN | apply below_drew1) | exact HB.out)⟩⟩
      · rw [if_neg c4] at H
        exact absurd H (by simp)
    · rw [if_neg c3] at H
      have c3b0 : ((l0.length : Int) == 33) = false := beq_eq_false_iff_ne.mpr c3
      have c3b1 : ((l0.length : Int) != 33) = true := bne_iff_ne.mpr c3
      (first | rw [c3b0] | (simp only [i64_w, i32_w]; rw [c3b0]) | skip)
      have H' := Aside0.mk H
      clear H
      go_wp2
      go_meet
      case rel => exact ⟨_, (true), (by first | rfl | (simp; done) | (simp [*]; done)), H', ⟨by first | omega | exact Nat.le_refl _⟩, ⟨by repeat (first | (with_reducible first | exact HB.out | apply below_alloc | apply pw_below_drewN | apply below_drew1) | exact HB.out)⟩⟩
  case rest =>
    clear HC2
    try clear c1
    try clear p2
    try clear q2
    try clear hx2
    try clear qi2
    try clear c3
    try clear c3b0
    try clear c3b1
    try clear c4
    try clear c4b0
    try clear c4b1
    try clear hx239_0
    try clear p239
    try clear q239
    obtain ⟨kq, x13_1, rfl, HA, HJ1, HB⟩ := hcut
    cases kq with
    | zero => exact absurd HA.out (by simp [impl_Unpad.j0])
    | succ kj1 =>
      have H := HA.out
      clear HA
      simp only [impl_Unpad.j0] at H
      by_cases c5 : x13_1 = true
      · subst c5
        have H1 : (some ((⟨#[]⟩ : ByteArray), false)) = some (r1, r2) := by rw [if_pos rfl] at H; exact H
        clear H
        have H := H1
        clear H1
        simp only [Option.some.injEq, Prod.mk.injEq] at H
        obtain ⟨rfl, rfl⟩ := H
        go_wp2
        go_ret2
        exact ⟨by first | rfl | (simp [errW_none, errW_some] <;> rfl) | (simp [*, errW_none, errW_some] <;> rfl), by repeat (first | (with_reducible first | exact HB.out | apply below_alloc | apply pw_below_drewN | apply below_drew1) | exact HB.out)⟩
      · replace c5 := Bool.eq_false_iff.mpr c5
        subst c5
        have H1 : (if 0 < (l0.length : Int) then (if 1 ≤ ((1 + (rd l0 0)) % 256) then (if ((1 + (rd l0 0)) % 256) ≤ (l0.length : Int) then ((impl_isWord.f kj1 (strOfNums ((l0.take (((1 + (rd l0 0)) % 256) : Int).toNat).drop 1))).bind fun t242 => (if t242 = true then ((impl_pad.f kj1 (strOfNums ((l0.take (((1 + (rd l0 0)) % 256) : Int).toNat).drop 1))).bind fun t243 => ((bytes_Equal.f t243 l0).bind fun t246 => (if t246 = true then (some (strOfNums ((l0.take (((1 + (rd l0 0)) % 256) : Int).toNat).drop 1), true)) else (some ((⟨#[]⟩ : ByteArray), false))))) else (some ((⟨#[]⟩ : ByteArray), false)))) else (none)) else (none)) else (none)) = some (r1, r2) := by rw [if_neg (show ¬ (false = true) by decide)] at H; exact H
        clear H
        have H := H1
        clear H1
        by_cases c6 : 0 < (l0.length : Int)
        · rw [if_pos c6] at H
          have c6b0 : decide (0 < (l0.length : Int)) = true := decide_eq_true c6
          have c6b1 : decide (0 < l0.length) = true := decide_eq_true (by omega)
          clear c6
          by_cases c7 : 1 ≤ ((1 + (rd l0 0)) % 256)
          · rw [if_pos c7] at H
            have c7b0 := eq_true c7
            have c7b1 : decide (1 ≤ ((1 + (rd l0 0)) % 256)) = true := decide_eq_true c7
            by_cases c8 : ((1 + (rd l0 0)) % 256) ≤ (l0.length : Int)
            · rw [if_pos c8] at H
              have c8b0 := eq_true c8
              have c8b1 : decide (((1 + (rd l0 0)) % 256) ≤ (l0.length : Int)) = true := decide_eq_true c8
              replace H := Option.bind_eq_some_iff.mp H
              obtain ⟨t242, A90, H⟩ := H
              replace H : (if t242 = true then ((impl_pad.f kj1 (strOfNums ((l0.take (((1 + (rd l0 0)) % 256) : Int).toNat).drop 1))).bind fun t243 => ((bytes_Equal.f t243 l0).bind fun t246 => (if t246 = true then (some (strOfNums ((l0.take (((1 + (rd l0 0)) % 256) : Int).toNat).drop 1), true)) else (some ((⟨#[]⟩ : ByteArray), false))))) else (some ((⟨#[]⟩ : ByteArray), false))) = some (r1, r2) := H
              have A9 := Aside0.mk A90
              clear A90
              by_cases c10 : t242 = true
              · subst c10
                have H1 : ((impl_pad.f kj1 (strOfNums ((l0.take (((1 + (rd l0 0)) % 256) : Int).toNat).drop 1))).bind fun t243 => ((bytes_Equal.f t243 l0).bind fun t246 => (if t246 = true then (some (strOfNums ((l0.take (((1 + (rd l0 0)) % 256) : Int).toNat).drop 1), true)) else (some ((⟨#[]⟩ : ByteArray), false))))) = some (r1, r2) := by rw [if_pos rfl] at H; exact H
                clear H
                have H := H1
                clear H1
                replace H := Option.bind_eq_some_iff.mp H
                obtain ⟨t243, A110, H⟩ := H
                replace H : ((bytes_Equal.f t243 l0).bind fun t246 => (if t246 = true then (some (strOfNums ((l0.take (((1 + (rd l0 0)) % 256) : Int).toNat).drop 1), true)) else (some ((⟨#[]⟩ : ByteArray), false)))) = some (r1, r2) := H
                have A11 := Aside0.mk A110
                clear A110
                replace H := Option.bind_eq_some_iff.mp H
                obtain ⟨t246, A120, H⟩ := H
                replace H : (if t246 = true then (some (strOfNums ((l0.take (((1 + (rd l0 0)) % 256) : Int).toNat).drop 1), true)) else (some ((⟨#[]⟩ : ByteArray), false))) = some (r1, r2) := H
                have A12 := Aside0.mk A120
                clear A120
                by_cases c13 : t246 = true
                · subst c13
                  have H1 : (some (strOfNums ((l0.take (((1 + (rd l0 0)) % 256) : Int).toNat).drop 1), true)) = some (r1, r2) := by rw [if_pos rfl] at H; exact H
                  clear H
                  have H := H1
                  clear H1
                  simp only [Option.some.injEq, Prod.mk.injEq] at H
                  obtain ⟨rfl, rfl⟩ := H
                  have p240 : 0 ≤ (0 : Int) := (by omega)
                  have q240 : 0 < (l0.length : Int) := of_decide_eq_true (by first | (with_reducible assumption) | assumption)
                  obtain ⟨ad240, e240, hx240_0⟩ := Kd.at_int HR0.out 0 p240 q240
                  cases e240
                  have qi240 : (0 < l0.length) = True := eq_true (by omega)
                  (try rw [show ((0 : Int)).toNat = 0 from rfl] at hx240_0)
                  (try rw [Addr.add_zero'] at hx240_0)
                  replace hx240_0 := (HB.out.cell (World.block_lt_of_cell? w _ hx240_0)).trans hx240_0
                  replace p240 := eq_true p240
                  replace q240 := eq_true q240
                  obtain ⟨i014, hi014, _, hsz14, _⟩ := info_parts info5
                  obtain ⟨A14, hcut14, hA14, hC14⟩ := print_mid_of (P := Try.prog) (Value.int .u8) 0 22 5 .i64 .u8 Try.underlying22 hi014 hsz14 (some ad240) c0 l0 1 ((1 + (rd l0 0)) % 256) (by omega) (by first | omega | exact of_decide_eq_true (by first | (with_reducible assumption) | assumption)) (of_decide_eq_true (by first | (with_reducible assumption) | assumption)) HC0.out
                  have HR241 := Aside0.mk (Kd.C_of_reads (h1 := fun _ => rfl) (hA14 _ (Kd.reads_of_C HR0.out)))
                  have HC241 := Aside0.mk hC14
                  clear hA14 hC14 hi014 hsz14
                  have hcv15 := Kd.C_string (P := Try.prog) (A := A14) (c := (c0 - 1)) Try.underlying22 Try.underlying5 Try.underlying9 (Kd.C_below HR241.out HB.out)
                  try (have hln_ : (List.drop (Int.toNat 1) (List.take (Int.toNat ((1 + (rd l0 0)) % 256)) l0)).length = Int.toNat ((1 + (rd l0 0)) % 256) - 1 := (by simp only [List.length_drop, List.length_take]; omega); have hcv15b := hcv15; rw [hln_] at hcv15b; clear hln_; rw [show Int.toNat (1 : Int) = 1 from rfl] at hcv15b)
                  try (rw [show Int.toNat (1 : Int) = 1 from rfl] at hcv15)
                  generalize hsW_ : strOfNums ((l0.take (((1 + (rd l0 0)) % 256) : Int).toNat).drop 1) = sW_ at *; have HSW_ := Aside0.mk hsW_; clear hsW_
                  go_wp2_with (first | ((with_reducible refine gate_callee (f := 26) rfl ?_); refine goesL_ (some 22) rfl rfl Try.func26 (by kernel_rfl) rfl #[.string sW_] rfl (by (try simp only [List.map_toArray, List.map_cons, List.map_nil]); first | done | rfl | (simp only [List.length_drop, List.length_take]; rfl)) ?_; (with_reducible refine (impl_isWord.calls kj1 sW_ true _ A9.out).mono ?_); rintro e w' ⟨rfl, ⟨nd, rfl⟩⟩; refine ⟨_, rfl, ?_⟩) | (go_at_call 25; (with_reducible refine (impl_pad.calls kj1 sW_ t243 _ A11.out).mono ?_); rintro e w16 ⟨v244, rfl, ho0, hb⟩; have n0_ := Aside0.mk (Kd.R_lower ho0 (below_size (by repeat (first | (with_reducible first | exact HB.out | apply below_alloc | apply pw_below_drewN | apply below_drew1) | exact HB.out)))); have n1_ := Aside0.mk (below_step (by repeat (first | (with_reducible first | exact HB.out | apply below_alloc | apply pw_below_drewN | apply below_drew1) | exact HB.out)) hb); clear HB; have HO245 := n0_; have HB := n1_; clear n0_ n1_; (try clear hb); (try clear hb2); (try clear hk); (try clear hi); (try clear ho0); obtain ⟨Ao17, co17, eo17⟩ := Kd.R_slice HO245.out; subst eo17) | (go_at_call 27; (with_reducible refine (bytes_Equal.calls _ _ t243 _ _ l0 true _ ?side1 ?side2 ?side3 ?side4 A12.out).mono ?_); (case side1 => repeat (first | exact (Kd.R_reads' HO245.out).2.2 | (with_reducible refine Kd.C_alloc ?_ _) | (with_reducible refine Kd.C_drewN ?_ _) | (with_reducible refine Kd.C_drew ?_))); (case side2 => exact (Kd.R_reads' HO245.out).2.1); (case side3 => repeat (first | exact (Kd.C_below HR0.out HB.out) | (with_reducible refine Kd.C_alloc ?_ _) | (with_reducible refine Kd.C_drewN ?_ _) | (with_reducible refine Kd.C_drew ?_))); (case side4 => exact HC0.out); rintro e w' ⟨rfl, ⟨nd, rfl⟩⟩))
                  go_ret2
                  exact ⟨by first | rfl | (rw [HSW_.out]; rfl) | (rw [← HSW_.out]; rfl) | (simp [errW_none, errW_some] <;> rfl) | (simp [*, errW_none, errW_some] <;> rfl), by repeat (first | (with_reducible first | exact HB.out | apply below_alloc | apply pw_below_drewN | apply below_drew1) | exact HB.out)⟩
                · replace c13 := Bool.eq_false_iff.mpr c13
                  subst c13
                  have H1 : (some ((⟨#[]⟩ : ByteArray), false)) = some (r1, r2) := by rw [if_neg (show ¬ (false = true) by decide)] at H; exact H
                  clear H
                  have H := H1
                  clear H1
                  simp only [Option.some.injEq, Prod.mk.injEq] at H
                  obtain ⟨rfl, rfl⟩ := H
                  have p240 : 0 ≤ (0 : Int) := (by omega)
                  have q240 : 0 < (l0.length : Int) := of_decide_eq_true (by first | (with_reducible assumption) | assumption)
                  obtain ⟨ad240, e240, hx240_0⟩ := Kd.at_int HR0.out 0 p240 q240
                  cases e240
                  have qi240 : (0 < l0.length) = True := eq_true (by omega)
                  (try rw [show ((0 : Int)).toNat = 0 from rfl] at hx240_0)
                  (try rw [Addr.add_zero'] at hx240_0)
                  replace hx240_0 := (HB.out.cell (World.block_lt_of_cell? w _ hx240_0)).trans hx240_0
                  replace p240 := eq_true p240
                  replace q240 := eq_true q240
                  obtain ⟨i018, hi018, _, hsz18, _⟩ := info_parts info5
                  obtain ⟨A18, hcut18, hA18, hC18⟩ := print_mid_of (P := Try.prog) (Value.int .u8) 0 22 5 .i64 .u8 Try.underlying22 hi018 hsz18 (some ad240) c0 l0 1 ((1 + (rd l0 0)) % 256) (by omega) (by first | omega | exact of_decide_eq_true (by first | (with_reducible assumption) | assumption)) (of_decide_eq_true (by first | (with_reducible assumption) | assumption)) HC0.out
                  have HR241 := Aside0.mk (Kd.C_of_reads (h1 := fun _ => rfl) (hA18 _ (Kd.reads_of_C HR0.out)))
                  have HC241 := Aside0.mk hC18
                  clear hA18 hC18 hi018 hsz18
                  have hcv19 := Kd.C_string (P := Try.prog) (A := A18) (c := (c0 - 1)) Try.underlying22 Try.underlying5 Try.underlying9 (Kd.C_below HR241.out HB.out)
                  try (have hln_ : (List.drop (Int.toNat 1) (List.take (Int.toNat ((1 + (rd l0 0)) % 256)) l0)).length = Int.toNat ((1 + (rd l0 0)) % 256) - 1 := (by simp only [List.length_drop, List.length_take]; omega); have hcv19b := hcv19; rw [hln_] at hcv19b; clear hln_; rw [show Int.toNat (1 : Int) = 1 from rfl] at hcv19b)
                  try (rw [show Int.toNat (1 : Int) = 1 from rfl] at hcv19)
                  generalize hsW_ : strOfNums ((l0.take (((1 + (rd l0 0)) % 256) : Int).toNat).drop 1) = sW_ at *; have HSW_ := Aside0.mk hsW_; clear hsW_
                  go_wp2_with (first | ((with_reducible refine gate_callee (f := 26) rfl ?_); refine goesL_ (some 22) rfl rfl Try.func26 (by kernel_rfl) rfl #[.string sW_] rfl (by (try simp only [List.map_toArray, List.map_cons, List.map_nil]); first | done | rfl | (simp only [List.length_drop, List.length_take]; rfl)) ?_; (with_reducible refine (impl_isWord.calls kj1 sW_ true _ A9.out).mono ?_); rintro e w' ⟨rfl, ⟨nd, rfl⟩⟩; refine ⟨_, rfl, ?_⟩) | (go_at_call 25; (with_reducible refine (impl_pad.calls kj1 sW_ t243 _ A11.out).mono ?_); rintro e w20 ⟨v244, rfl, ho0, hb⟩; have n0_ := Aside0.mk (Kd.R_lower ho0 (below_size (by repeat (first | (with_reducible first | exact HB.out | apply below_alloc | apply pw_below_drewN | apply below_drew1) | exact HB.out)))); have n1_ := Aside0.mk (below_step (by repeat (first | (with_reducible first | exact HB.out | apply below_alloc | apply pw_below_drewN | apply below_drew1) | exact HB.out)) hb); clear HB; have HO245 := n0_; have HB := n1_; clear n0_ n1_; (try clear hb); (try clear hb2); (try clear hk); (try clear hi); (try clear ho0); obtain ⟨Ao21, co21, eo21⟩ := Kd.R_slice HO245.out; subst eo21) | (go_at_call 27; (with_reducible refine (bytes_Equal.calls _ _ t243 _ _ l0 false _ ?side1 ?side2 ?side3 ?side4 A12.out).mono ?_); (case side1 => repeat (first | exact (Kd.R_reads' HO245.out).2.2 | (with_reducible refine Kd.C_alloc ?_ _) | (with_reducible refine Kd.C_drewN ?_ _) | (with_reducible refine Kd.C_drew ?_))); (case side2 => exact (Kd.R_reads' HO245.out).2.1); (case side3 => repeat (first | exact (Kd.C_below HR0.out HB.out) | (with_reducible refine Kd.C_alloc ?_ _) | (with_reducible refine Kd.C_drewN ?_ _) | (with_reducible refine Kd.C_drew ?_))); (case side4 => exact HC0.out); rintro e w' ⟨rfl, ⟨nd, rfl⟩⟩))
                  go_ret2
                  exact ⟨by first | rfl | (rw [HSW_.out]; rfl) | (rw [← HSW_.out]; rfl) | (simp [errW_none, errW_some] <;> rfl) | (simp [*, errW_none, errW_some] <;> rfl), by repeat (first | (with_reducible first | exact HB.out | apply below_alloc | apply pw_below_drewN | apply below_drew1) | exact HB.out)⟩
              · replace c10 := Bool.eq_false_iff.mpr c10
                subst c10
                have H1 : (some ((⟨#[]⟩ : ByteArray), false)) = some (r1, r2) := by rw [if_neg (show ¬ (false = true) by decide)] at H; exact H
                clear H
                have H := H1
                clear H1
                simp only [Option.some.injEq, Prod.mk.injEq] at H
                obtain ⟨rfl, rfl⟩ := H
                have p240 : 0 ≤ (0 : Int) := (by omega)
                have q240 : 0 < (l0.length : Int) := of_decide_eq_true (by first | (with_reducible assumption) | assumption)
                obtain ⟨ad240, e240, hx240_0⟩ := Kd.at_int HR0.out 0 p240 q240
                cases e240
                have qi240 : (0 < l0.length) = True := eq_true (by omega)
                (try rw [show ((0 : Int)).toNat = 0 from rfl] at hx240_0)
                (try rw [Addr.add_zero'] at hx240_0)
                replace hx240_0 := (HB.out.cell (World.block_lt_of_cell? w _ hx240_0)).trans hx240_0
                replace p240 := eq_true p240
                replace q240 := eq_true q240
                obtain ⟨i022, hi022, _, hsz22, _⟩ := info_parts info5
                obtain ⟨A22, hcut22, hA22, hC22⟩ := print_mid_of (P := Try.prog) (Value.int .u8) 0 22 5 .i64 .u8 Try.underlying22 hi022 hsz22 (some ad240) c0 l0 1 ((1 + (rd l0 0)) % 256) (by omega) (by first | omega | exact of_decide_eq_true (by first | (with_reducible assumption) | assumption)) (of_decide_eq_true (by first | (with_reducible assumption) | assumption)) HC0.out
                have HR241 := Aside0.mk (Kd.C_of_reads (h1 := fun _ => rfl) (hA22 _ (Kd.reads_of_C HR0.out)))
                have HC241 := Aside0.mk hC22
                clear hA22 hC22 hi022 hsz22
                have hcv23 := Kd.C_string (P := Try.prog) (A := A22) (c := (c0 - 1)) Try.underlying22 Try.underlying5 Try.underlying9 (Kd.C_below HR241.out HB.out)
                try (have hln_ : (List.drop (Int.toNat 1) (List.take (Int.toNat ((1 + (rd l0 0)) % 256)) l0)).length = Int.toNat ((1 + (rd l0 0)) % 256) - 1 := (by simp only [List.length_drop, List.length_take]; omega); have hcv23b := hcv23; rw [hln_] at hcv23b; clear hln_; rw [show Int.toNat (1 : Int) = 1 from rfl] at hcv23b)
                try (rw [show Int.toNat (1 : Int) = 1 from rfl] at hcv23)
                generalize hsW_ : strOfNums ((l0.take (((1 + (rd l0 0)) % 256) : Int).toNat).drop 1) = sW_ at *; have HSW_ := Aside0.mk hsW_; clear hsW_
                go_wp2_with (first | ((with_reducible refine gate_callee (f := 26) rfl ?_); refine goesL_ (some 22) rfl rfl Try.func26 (by kernel_rfl) rfl #[.string sW_] rfl (by (try simp only [List.map_toArray, List.map_cons, List.map_nil]); first | done | rfl | (simp only [List.length_drop, List.length_take]; rfl)) ?_; (with_reducible refine (impl_isWord.calls kj1 sW_ false _ A9.out).mono ?_); rintro e w' ⟨rfl, ⟨nd, rfl⟩⟩; refine ⟨_, rfl, ?_⟩))
                go_ret2
                exact ⟨by first | rfl | (rw [HSW_.out]; rfl) | (rw [← HSW_.out]; rfl) | (simp [errW_none, errW_some] <;> rfl) | (simp [*, errW_none, errW_some] <;> rfl), by repeat (first | (with_reducible first | exact HB.out | apply below_alloc | apply pw_below_drewN | apply below_drew1) | exact HB.out)⟩
            · rw [if_neg c8] at H
              exact absurd H (by simp)
          · rw [if_neg c7] at H
            exact absurd H (by simp)
        · rw [if_neg c6] at H
          exact absurd H (by simp)

end Go.Proofs.Ytbibgmmoompoiaa.PFnExactMyersPadded
