/- The row of the law FnExactBitsColumn: whatever the Bits that comes in, the call answers true and the argument reads as it did. -/
import Derived.Test.YtnmalfhdndnelaaRows
import Derived.Test.YtnmalfhdndnelaaQFnExactBitsColumnx5
import Derived.Test.YtnmalfhdndnelaaPureFnExactBitsColumn
import Derived.WalkKit
import Derived.ProofKit
import Derived.OpenShut
import Derived.ShutString
import Derived.ChangeOld
import Derived.Below
import Derived.SizedLaws
import Derived.Lib.SmallJoins
namespace Go.Proofs.Ytnmalfhdndnelaa.fnExactBitsColumn
open Go.ChangeShapes Go.WideShapes Go.ChangeAt Go.RowKit
set_option linter.unusedVariables false
theorem own : ownKnob Try.prog.godebug = none := by kernel_rfl
theorem laidOut : laidOutB Try.prog = true := by kernel_rfl
set_option maxRecDepth 100000 in
theorem lifted (os : Os) (started : os.Started) (H : Type) (enc : TypeId × Value → H) :
    ReturnsInHanded {} Try.checked os 6 .any (Rows.fnExactBitsColumnSpec.pre6 enc Try.prog Try.f6 Rows.fnExactBitsColumnRow.domain false) (Rows.fnExactBitsColumnSpec.post enc Try.prog Try.f6 false true false false) := by
  refine returnsInHanded_of_change_sized (C := Try.checked) own started (by kernel_rfl) Try.func6
    (ChangeSpec.witness6 (enc := enc) (C := Try.checked) false ⟨#[], #[.agg #[.int .u64 0, .int .u64 0, .int .i64 0, .int .i64 0]], []⟩ 8 (by kernel_rfl) (by kernel_rfl) (by kernel_rfl) (by kernel_rfl)) ?_
  intro W base args ds gs before hval0 hW hcnd hsz0 _
  have hval : ∀ (j : Nat) t v, Try.f6.params[j]? = some t → args[j]? = some v → Value.okWide Try.prog W .any base t v := hval0
  have hW' := hW
  obtain ⟨p, q, hA0, hV, rfl, hfz, hnd⟩ := hW
  have hA : DataW.TrodAll enc Try.prog W 0 (fun _ => true) true Try.f6.params.toList args.toList ds p := hA0
  rw [Try.params6] at hA hval
  obtain ⟨v0, vs0, d0, ds0, p0, q0, hargs, rfl, rfl, h0, r0⟩ := trodAll_cons hA
  obtain ⟨rfl, rfl, rfl⟩ := trodAll_nil r0
  obtain rfl : args = #[v0] := by cases args; simp_all
  obtain ⟨rfl, rfl⟩ := trodVars_none hV
  have k0 := h0
  have lt0 : ∀ x ∈ p0, x.block < W.heap.size := by obtain ⟨m, hm⟩ := k0; exact DataW.trod_lt m _ _ _ hm
  obtain ⟨c0, c1, c2, c3, y0, y1, y2, y3, n, rfl, ed, ep, e0, e1, e2, e3⟩ := Joins.open_agg4 Try.underlying40 (by kernel_rfl) (by kernel_rfl) (hval 0 40 v0 rfl rfl) h0
  obtain ⟨a0, i0, x0, w0⟩ := DataW.trod_int Try.underlying24 e0
  obtain ⟨a1, i1, x1, w1⟩ := DataW.trod_int Try.underlying24 e1
  obtain ⟨a2, i2, x2, w2⟩ := DataW.trod_int Try.underlying3 e2
  obtain ⟨a3, i3, x3, w3⟩ := DataW.trod_int Try.underlying3 e3
  obtain rfl : c0 = .int .u64 a0 := by simpa using i0
  obtain rfl : c1 = .int .u64 a1 := by simpa using i1
  obtain rfl : c2 = .int .i64 a2 := by simpa using i2
  obtain rfl : c3 = .int .i64 a3 := by simpa using i3
  clear hA0 hval0 hsz0
  obtain ⟨k, hk⟩ := Pure.FnExactBitsColumn a0 a1 a2 a3 w0 w1 w2 w3
  refine (PFnExactBitsColumn.laws_FnExactBitsColumn.calls k a0 a1 a2 a3 true W hk).mono fun e W' ⟨he, bel⟩ => ?_
  subst he
  exact ⟨_, rfl, _, _, _, [], _, [], hW', trodAll_mk1 (shut_bool Try.underlying4 _), (trodAll_cons_mk (Below.trod laidOut (by kernel_rfl) (of_decide_eq_true (by kernel_rfl)) k0 bel lt0) trodAll_mk0), rfl, bel.frame _, fun h => by cases h⟩
theorem over : Rows.fnExactBitsColumnRow.holds Try.pinned (OpenSpec.ofChange Rows.fnExactBitsColumnSpec) :=
  OpenClaim.holds_of_wide 6 Try.f6 rfl rfl rfl rfl rfl rfl rfl ⟨rfl, rfl, rfl, rfl, rfl⟩ rfl rfl rfl rfl rfl (by kernel_rfl) Try.func6 (by kernel_rfl)
    (of_decide_eq_true (by kernel_rfl)) (by unfold Func.isWrapper; first | (rw [if_pos (by decide +kernel)]; kernel_rfl) | (rw [if_neg (by decide +kernel)]; exact ⟨rfl, rfl⟩))
    (fun os started H enc _ => lifted os started H enc)
theorem proved : Rows.FnExactBitsColumnSaid := over
#print axioms proved
end Go.Proofs.Ytnmalfhdndnelaa.fnExactBitsColumn
namespace Go.Proofs.Ytnmalfhdndnelaa
/-- The row, under a short name, for the claim. -/
theorem fnExactBitsColumn_holds : Rows.FnExactBitsColumnSaid := fnExactBitsColumn.proved
end Go.Proofs.Ytnmalfhdndnelaa
