/- The row of the law FnExactMemWrite: whatever the Mem, the number and the bytes that come in, the call answers true and the arguments read as they did. -/
import Derived.Test.YtoceiaaigiflpaaRows
import Derived.Test.YtoceiaaigiflpaaQFnExactMemWritex9
import Derived.Test.YtoceiaaigiflpaaMidFnExactMemWrite
import Derived.Test.YtoceiaaigiflpaaLibOpen
import Derived.WalkKit
import Derived.ProofKit
import Derived.OpenShut
import Derived.ShutString
import Derived.ChangeOld
import Derived.Below
import Derived.SizedLaws
import Derived.Lib.SmallJoins
namespace Go.Proofs.Ytoceiaaigiflpaa.fnExactMemWrite
open Go.Proofs.YtoceiaaigiflpaaW.PrintWords Go.ChangeShapes Go.WideShapes Go.ChangeAt Go.RowKit Go.Proofs.Ytoceiaaigiflpaa.PFnExactMemWrite Go.Proofs.Ytoceiaaigiflpaa.L
set_option linter.unusedVariables false
theorem own : ownKnob Try.prog.godebug = none := by kernel_rfl
theorem laidOut : laidOutB Try.prog = true := by kernel_rfl
theorem told_cell {H : Type} {enc : TypeId × Value → H} {w : World} {base : Nat} {sp : Nat → Bool} {held : Bool} : TellsK enc Try.prog w base sp held 68 k68 := fun fuel cs x h => by
  obtain ⟨xs, n, rfl, rfl, hl, hn, hf⟩ := DataW.trod_struct Try.underlying68 h
  have hl1 : cs.length = 1 := hl.trans (by kernel_rfl)
  have h0 := hf 0 _ rfl
  obtain ⟨y, hy⟩ : ∃ y, xs[0]? = some y := ⟨xs[0]'(by rw [hn]; decide), by simp⟩
  rw [hy] at h0
  match cs, hl1 with
  | [c], _ =>
    have h1 : DataW.trod enc Try.prog w base sp held n 38 [c] = some y := h0
    obtain ⟨A, ys, cap, hcs, hle, hC⟩ := told_rows (d := Kd.int .u8) Try.underlying38 (by kernel_rfl) (told_int Try.underlying5) h1
    rw [hcs]
    exact ⟨⟨ys⟩, k68_mk w ⟨ys⟩ hle hC⟩
theorem told_touch {H : Type} {enc : TypeId × Value → H} {w : World} {base : Nat} {sp : Nat → Bool} {held : Bool} : TellsK enc Try.prog w base sp held 71 k71 := fun fuel cs x h => by
  obtain ⟨xs, n, rfl, rfl, hl, hn, hf⟩ := DataW.trod_struct Try.underlying71 h
  have hl1 : cs.length = 3 := hl.trans (by kernel_rfl)
  have hn3 : xs.length = 3 := hn
  have h0 := hf 0 _ rfl
  have h1 := hf 1 _ rfl
  have h2 := hf 2 _ rfl
  rw [List.getElem?_eq_getElem (by omega)] at h0 h1 h2
  match cs, hl1 with
  | [c0, c1, c2], _ =>
    have g0 : DataW.trod enc Try.prog w base sp held n 3 [c0] = some _ := h0
    have g1 : DataW.trod enc Try.prog w base sp held n 3 [c1] = some _ := h1
    have g2 : DataW.trod enc Try.prog w base sp held n 3 [c2] = some _ := h2
    obtain ⟨a0, e0, _, _⟩ := DataW.trod_int Try.underlying3 g0
    obtain ⟨a1, e1, _, _⟩ := DataW.trod_int Try.underlying3 g1
    obtain ⟨a2, e2, _, _⟩ := DataW.trod_int Try.underlying3 g2
    obtain rfl : c0 = .int .i64 a0 := by simpa using e0
    obtain rfl : c1 = .int .i64 a1 := by simpa using e1
    obtain rfl : c2 = .int .i64 a2 := by simpa using e2
    exact ⟨⟨a0, a1, a2⟩, k71_mk w ⟨a0, a1, a2⟩⟩
set_option maxRecDepth 100000 in
theorem lifted (os : Os) (started : os.Started) (H : Type) (enc : TypeId × Value → H) :
    ReturnsInHanded {} Try.checked os 7 .any (Rows.fnExactMemWriteSpec.pre6 enc Try.prog Try.f7 Rows.fnExactMemWriteRow.domain false) (Rows.fnExactMemWriteSpec.post enc Try.prog Try.f7 false true false false) := by
  refine returnsInHanded_of_change_sized (C := Try.checked) own started (by kernel_rfl) Try.func7
    (ChangeSpec.witness6 (enc := enc) (C := Try.checked) false ⟨#[], #[.agg #[.int .i64 0, .slice none 0 0, .slice none 0 0], .int .i64 0, .slice none 0 0], []⟩ 8 (by kernel_rfl) (by kernel_rfl) (by kernel_rfl) (by kernel_rfl)) ?_
  intro W base args ds gs before hval0 hW hcnd hsz0 _
  have hval : ∀ (j : Nat) t v, Try.f7.params[j]? = some t → args[j]? = some v → Value.okWide Try.prog W .any base t v := hval0
  have hW' := hW
  obtain ⟨p, q, hA0, hV, rfl, hfz, hnd⟩ := hW
  have hA : DataW.TrodAll enc Try.prog W 0 (fun _ => true) true Try.f7.params.toList args.toList ds p := hA0
  rw [Try.params7] at hA hval
  obtain ⟨v0, vs0, d0, ds0, p0, q0, hargs, rfl, rfl, h0, r0⟩ := trodAll_cons hA
  obtain ⟨v1, vs1, d1, ds1, p1, q1, rfl, rfl, rfl, h1, r1⟩ := trodAll_cons r0
  obtain ⟨v2, vs2, d2, ds2, p2, q2, rfl, rfl, rfl, h2, r2⟩ := trodAll_cons r1
  obtain ⟨rfl, rfl, rfl⟩ := trodAll_nil r2
  obtain rfl : args = #[v0, v1, v2] := by cases args; simp_all
  obtain ⟨rfl, rfl⟩ := trodVars_none hV
  have k0 := h0
  have lt0 : ∀ x ∈ p0, x.block < W.heap.size := by obtain ⟨m, hm⟩ := k0; exact DataW.trod_lt m _ _ _ hm
  obtain ⟨c0, c1, c2, y0, y1, y2, n, rfl, ed, ep, e0, e1, e2⟩ := Joins.open_agg3 Try.underlying33 (by kernel_rfl) (by kernel_rfl) (hval 0 33 v0 rfl rfl) h0
  obtain ⟨a0, i0, x0, w0⟩ := DataW.trod_int Try.underlying3 e0
  obtain rfl : c0 = .int .i64 a0 := by simpa using i0
  obtain ⟨A1, l1, cap1, i1, hle1, hC1⟩ := told_rows Try.underlying30 (by kernel_rfl) told_cell e1
  obtain rfl : c1 = .slice A1 l1.length cap1 := by simpa using i1
  obtain ⟨A2, l2, cap2, i2, hle2, hC2⟩ := told_rows Try.underlying31 (by kernel_rfl) told_touch e2
  obtain rfl : c2 = .slice A2 l2.length cap2 := by simpa using i2
  obtain ⟨at_, rfl, rfl, rfl, wat⟩ := open_int Try.underlying3 (hval 1 3 v1 rfl rfl) h1
  obtain ⟨Ax, nx, cx, rfl⟩ := okWide_slice Try.underlying38 (hval 2 38 v2 rfl rfl)
  have k2 := h2
  have lt2 : ∀ x ∈ p2, x.block < W.heap.size := by obtain ⟨m, hm⟩ := k2; exact DataW.trod_lt m _ _ _ hm
  obtain ⟨xs, hnx, hlx, hX⟩ : ∃ xs : List Int, nx = xs.length ∧ xs.length ≤ cx ∧ Kd.C (Kd.int .u8) W Ax xs.length xs := by
    obtain ⟨fuel2, hf2⟩ := h2
    obtain ⟨A', xs, c', ix, hl, hC⟩ := told_rows Try.underlying38 (by kernel_rfl) (told_int Try.underlying5) hf2
    simp [Value.cells] at ix
    obtain ⟨rfl, rfl, rfl⟩ := ix
    exact ⟨xs, rfl, hl, hC⟩
  subst hnx
  clear hA0 hval0 hsz0
  refine (Pure.law_calls a0 A1 cap1 l1 A2 cap2 l2 at_ Ax cx xs W hC1 hle1 hC2 hle2 hX hlx (fun i hi => by obtain ⟨_, _, _, _, _, _, h⟩ := at_T68 hC1 (i : Int) (by omega) (by omega); exact Kd.C_max h)).mono fun e W' ⟨he, bel⟩ => ?_
  subst he
  exact ⟨_, rfl, _, _, _, [], _, [], hW', trodAll_mk1 (shut_bool Try.underlying4 _), (trodAll_cons_mk (Below.trod laidOut (by kernel_rfl) (of_decide_eq_true (by kernel_rfl)) k0 bel lt0) (trodAll_cons_mk (shut_int Try.underlying3 wat) (trodAll_cons_mk (Below.trod laidOut (by kernel_rfl) (of_decide_eq_true (by kernel_rfl)) k2 bel lt2) trodAll_mk0))), rfl, bel.frame _, fun h => by cases h⟩
theorem over : Rows.fnExactMemWriteRow.holds Try.pinned (OpenSpec.ofChange Rows.fnExactMemWriteSpec) :=
  OpenClaim.holds_of_wide 7 Try.f7 rfl rfl rfl rfl rfl rfl rfl ⟨rfl, rfl, rfl, rfl, rfl⟩ rfl rfl rfl rfl rfl (by kernel_rfl) Try.func7 (by kernel_rfl)
    (of_decide_eq_true (by kernel_rfl)) (by unfold Func.isWrapper; first | (rw [if_pos (by decide +kernel)]; kernel_rfl) | (rw [if_neg (by decide +kernel)]; exact ⟨rfl, rfl⟩))
    (fun os started H enc _ => lifted os started H enc)
theorem proved : Rows.FnExactMemWriteSaid := over
#print axioms proved
end Go.Proofs.Ytoceiaaigiflpaa.fnExactMemWrite
namespace Go.Proofs.Ytoceiaaigiflpaa
/-- The row, under a short name, for the claim. -/
theorem fnExactMemWrite_holds : Rows.FnExactMemWriteSaid := fnExactMemWrite.proved
end Go.Proofs.Ytoceiaaigiflpaa
