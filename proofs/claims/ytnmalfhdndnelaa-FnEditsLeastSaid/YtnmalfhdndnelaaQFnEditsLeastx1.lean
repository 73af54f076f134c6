/- The functions that the law FnEditsLeast reaches, as plain Lean functions, and the walks that show that Go comes to their answers; part 1. Its lines are the print's, turned where Lean refused them. -/
import Derived.Test.YtnmalfhdndnelaaQFnEditsLeastx0
namespace Go.Proofs.Ytnmalfhdndnelaa.PFnEditsLeast
open Go.RowKit Go.Proofs.YtnmalfhdndnelaaW.PrintWords Go.Proofs.YtnmalfhdndnelaaW.PrintLast Go.Proofs.YtnmalfhdndnelaaW.PrintMore
attribute [local go_sem] max2_int min2_int max_two min_two max_three min_three max_four min_four   -- for this text's walks alone
set_option linter.unusedVariables false
set_option linter.unusedSimpArgs false

/-! ### laws_big: function 13 -/
def laws_big.f (l0 : List Int) : Option (Bool) := some (decide ((l0.length : Int) > 1048576))
set_option maxHeartbeats 8000000 in
set_option maxRecDepth 100000 in
theorem laws_big.calls (A0 : Option Addr) (c0 : Nat) (l0 : List Int) (r : Bool) (w : World) (hr0 : Kd.C (Kd.int .u8) w A0 l0.length l0) (hc0 : l0.length ≤ c0) (h : laws_big.f l0 = some r) :
  Calls Try.prog 13 #[.slice A0 l0.length c0] w fun e w' => e = .returned (.bool r) ∧ Drawn0 w w' := by
 have HR0 := Aside0.mk hr0
 have HC0 := Aside0.mk hc0
 clear hr0 hc0
 have H : (some (decide ((l0.length : Int) > 1048576))) = some r := h
 clear h
 obtain rfl := Option.some.inj H
 go_enter Try.func13, Try.ntmps13
 go_wp2
 go_ret
 exact ⟨by first | rfl | (simp; done) | (simp [*]; done), by repeat (first | exact Drawn0.refl _ | apply Drawn0.step)⟩

/-! ### impl_areShort: function 64 -/
def impl_areShort.f (a0 : ByteArray) (a1 : ByteArray) : Option (Bool) := if (a0.size : Int) ≤ 32 then (some (decide ((a1.size : Int) ≤ 32))) else (some false)
set_option maxHeartbeats 8000000 in
set_option maxRecDepth 100000 in
theorem impl_areShort.calls (a0 : ByteArray) (a1 : ByteArray) (r : Bool) (w : World) (h : impl_areShort.f a0 a1 = some r) :
  Calls Try.prog 64 #[.string a0, .string a1] w fun e w' => e = .returned (.bool r) ∧ Drawn0 w w' := by
 have H : (if (a0.size : Int) ≤ 32 then (some (decide ((a1.size : Int) ≤ 32))) else (some false)) = some r := h
 clear h
 by_cases c3 : (a0.size : Int) ≤ 32
 ·rw [if_pos c3] at H
  have c3b0 : decide ((a0.size : Int) ≤ 32) = true := decide_eq_true c3
  have c3b1 : decide (a0.size ≤ 32) = true := decide_eq_true (by omega)
  clear c3
  obtain rfl := Option.some.inj H
  go_enter Try.func64, Try.ntmps64
  go_wp2
  go_ret
  exact ⟨by first | rfl | (simp; done) | (simp [*]; done), by repeat (first | exact Drawn0.refl _ | apply Drawn0.step)⟩
 ·rw [if_neg c3] at H
  have c3b0 : decide ((a0.size : Int) ≤ 32) = false := decide_eq_false c3
  have c3b1 : decide (a0.size ≤ 32) = false := decide_eq_false (by omega)
  clear c3
  obtain rfl := Option.some.inj H
  go_enter Try.func64, Try.ntmps64
  go_wp2
  go_ret
  exact ⟨by first | rfl | (simp; done) | (simp [*]; done), by repeat (first | exact Drawn0.refl _ | apply Drawn0.step)⟩

end Go.Proofs.Ytnmalfhdndnelaa.PFnEditsLeast
