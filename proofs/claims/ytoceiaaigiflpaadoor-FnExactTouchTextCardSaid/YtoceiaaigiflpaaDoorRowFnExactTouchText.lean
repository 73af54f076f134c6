/- The row of the law FnExactTouchText: whatever the log that comes in, the call answers true and the argument reads as it did. -/
import Derived.Test.YtoceiaaigiflpaaDoorRows
import Derived.Test.YtoceiaaigiflpaaDoorQFnExactTouchTextx5
import Derived.Test.YtoceiaaigiflpaaDoorPureFnExactTouchText
import Derived.Test.YtoceiaaigiflpaaDoorTie
import Derived.Test.YtoceiaaigiflpaaDoorCards
import Derived.Lay
import Derived.LaidLaws
import Derived.SevenTiedAt
import Derived.Lib.LaidTab
import Derived.Stop.LaidErr
import Derived.Test.YtoceiaaigiflpaaDoorLibOpenG
import Derived.WalkKit
import Derived.ProofKit
import Derived.OpenShut
import Derived.ShutString
import Derived.ChangeOld
import Derived.Below
import Derived.SizedLaws
import Derived.Lib.SmallJoins
namespace Go.Proofs.YtoceiaaigiflpaaDoor.fnExactTouchText
open Go Go.Proofs.YtoceiaaigiflpaaDoorW.PrintWords Go.ChangeShapes Go.WideShapes Go.ChangeAt Go.RowKit Go.Proofs.YtoceiaaigiflpaaDoor.PFnExactTouchText Go.Proofs.YtoceiaaigiflpaaDoor.L
set_option linter.unusedVariables false
/-- the listed variables, as the row lists them -/
def laidL : List (String × DataW Unit) := Rows.fnExactTouchTextRow.laid
theorem tabD : (Rows.laid_internal_strconv_uint64pow10 : DataW Unit) = Lib.tabData .u64 Lib.pow10Tab := by rfl
/-- what the listed table gives the walk -/
theorem doorW {W : World} (hL : laidMetH Tryd.prog laidL W) : PFnExactTouchText.DoorW W := by
  rw [MakeChecks.laidMetH_plain _ _ _ (by kernel_rfl)] at hL
  have h1 : laidMet Tryd.prog ((_, (Rows.laid_internal_strconv_uint64pow10 : DataW Unit)) :: []) W := hL.tail.tail
  rw [tabD] at h1
  exact Lib.tabBelow_of_tabIs (Lib.tabIs_of_head (g := 0) (t := 83) (e := 74) (n := 20) (by kernel_rfl) (by kernel_rfl) Tryd.underlying83 Tryd.underlying74 (by kernel_rfl) (by kernel_rfl) h1)
theorem own : ownKnob Tryd.prog.godebug = none := by kernel_rfl
theorem laidOut : laidOutB Tryd.prog = true := by kernel_rfl
theorem told_touch {H : Type} {enc : TypeId × Value → H} {w : World} {base : Nat} {sp : Nat → Bool} {held : Bool} : TellsG enc Tryd.prog w base sp held 53 k53 (fun t => Pure.OkT (Pure.touchOf t)) := fun fuel cs x h => by
  obtain ⟨xs, n, rfl, rfl, hl, hn, hf⟩ := DataW.trod_struct Tryd.underlying53 h
  have hl1 : cs.length = 3 := hl.trans (by kernel_rfl)
  have hn3 : xs.length = 3 := hn
  have h0 := hf 0 _ rfl
  have h1 := hf 1 _ rfl
  have h2 := hf 2 _ rfl
  rw [List.getElem?_eq_getElem (by omega)] at h0 h1 h2
  match cs, hl1 with
  | [c0, c1, c2], _ =>
    have g0 : DataW.trod enc Tryd.prog w base sp held n 3 [c0] = some _ := h0
    have g1 : DataW.trod enc Tryd.prog w base sp held n 3 [c1] = some _ := h1
    have g2 : DataW.trod enc Tryd.prog w base sp held n 3 [c2] = some _ := h2
    obtain ⟨a0, e0, _, _⟩ := DataW.trod_int Tryd.underlying3 g0
    obtain ⟨a1, e1, _, w1⟩ := DataW.trod_int Tryd.underlying3 g1
    obtain ⟨a2, e2, _, w2⟩ := DataW.trod_int Tryd.underlying3 g2
    obtain rfl : c0 = .int .i64 a0 := by simpa using e0
    obtain rfl : c1 = .int .i64 a1 := by simpa using e1
    obtain rfl : c2 = .int .i64 a2 := by simpa using e2
    exact ⟨⟨a0, a1, a2⟩, k53_mk w ⟨a0, a1, a2⟩, wf_i64 w1, wf_i64 w2⟩
set_option maxRecDepth 100000 in
theorem lifted (os : Os) (started : os.Started) (H : Type) (enc : TypeId × Value → H) :
    ReturnsInHanded {} Tryd.checked os 4 .any (fun w args => (Rows.fnExactTouchTextSpec.pre enc Tryd.prog Tryd.f4 [] false w args ∧ laidMetH Tryd.prog laidL w) ∧ sizedMet enc Tryd.prog Tryd.f4 (OpenSpec.ofChange Rows.fnExactTouchTextSpec) false w args) (Rows.fnExactTouchTextSpec.post enc Tryd.prog Tryd.f4 false true false false) := by
  refine returnsInHanded_of_change_and (C := Tryd.checked) (X := fun w _ => laidMetH Tryd.prog laidL w) (fun _ _ _ hh h => h.of_heap hh) own started (by kernel_rfl) Tryd.func4
    (ChangeSpec.witness_shaped (enc := enc) (C := Tryd.checked) (os := os) (X := fun w _ => laidMetH Tryd.prog laidL w) false (World.laidAll Tryd.prog os laidL) #[.slice none 0 0] 8 (World.laidAll_os _ _ _)
      (World.shaped_of_ZipB (by kernel_rfl) (by kernel_rfl)) (by kernel_rfl) (by kernel_rfl) (by kernel_rfl)
      (by rw [MakeChecks.laidMetH_plain _ _ _ (by kernel_rfl)]; exact laidMet_laidAll _ (by kernel_rfl) (by kernel_rfl))) ?_
  intro W base args ds gs before hval0 hW hcnd hsz0 hL _
  have hval : ∀ (j : Nat) t v, Tryd.f4.params[j]? = some t → args[j]? = some v → Value.okWide Tryd.prog W .any base t v := hval0
  have hW' := hW
  obtain ⟨p, q, hA0, hV, rfl, hfz, hnd⟩ := hW
  have hA : DataW.TrodAll enc Tryd.prog W 0 (fun _ => true) true Tryd.f4.params.toList args.toList ds p := hA0
  rw [Tryd.params4] at hA hval
  obtain ⟨v0, vs0, d0, ds0, p0, q0, hargs, rfl, rfl, h0, r0⟩ := trodAll_cons hA
  obtain ⟨rfl, rfl, rfl⟩ := trodAll_nil r0
  obtain rfl : args = #[v0] := by cases args; simp_all
  obtain ⟨rfl, rfl⟩ := trodVars_none hV
  have k0 := h0
  have lt0 : ∀ x ∈ p0, x.block < W.heap.size := by obtain ⟨m, hm⟩ := k0; exact DataW.trod_lt m _ _ _ hm
  obtain ⟨A0, n0, cap0, rfl⟩ := okWide_slice Tryd.underlying41 (hval 0 41 v0 rfl rfl)
  obtain ⟨m0, hm0⟩ := h0
  obtain ⟨A1, l1, cap1, i1, hle1, hC1, hG1⟩ := told_rowsG Tryd.underlying41 (by kernel_rfl) told_touch hm0
  have i2 : [Value.slice A0 n0 cap0] = [Value.slice A1 l1.length cap1] := i1
  obtain ⟨rfl, rfl, rfl⟩ : A0 = A1 ∧ n0 = l1.length ∧ cap0 = cap1 := by simpa using i2
  clear hA0 hval0 hsz0 i1 i2
  obtain ⟨k, hk⟩ := Pure.FnExactTouchText l1 (Kd.C_max hC1) hG1
  refine (PFnExactTouchText.laws_FnExactTouchText.calls k A0 cap0 l1 true W hC1 hle1 hk (doorW hL)).mono fun e W' ⟨he, bel⟩ => ?_
  subst he
  exact ⟨_, rfl, _, _, _, [], _, [], hW', trodAll_mk1 (shut_bool Tryd.underlying4 _), (trodAll_cons_mk (Below.trod laidOut (by kernel_rfl) (of_decide_eq_true (by kernel_rfl)) k0 bel lt0) trodAll_mk0), rfl, bel.frame _, fun h => by cases h⟩
theorem over : Rows.fnExactTouchTextRow.holds Tryd.pinned (OpenSpec.ofChange Rows.fnExactTouchTextSpec) :=
  OpenClaim.holds_of_wide 4 Tryd.f4 rfl rfl rfl rfl rfl rfl rfl ⟨rfl, rfl, rfl, rfl, rfl⟩ rfl rfl rfl rfl rfl (by kernel_rfl) Tryd.func4 (by kernel_rfl)
    (of_decide_eq_true (by kernel_rfl)) (by unfold Func.isWrapper; first | (rw [if_pos (by decide +kernel)]; kernel_rfl) | (rw [if_neg (by decide +kernel)]; exact ⟨rfl, rfl⟩))
    (fun os started H enc _ => lifted os started H enc)
theorem card : Rows.FnExactTouchTextCardSaid :=
  Claim7.holds_tied_plain_at .later [] [.data, .data, .data] true (true, "d06e45631818e2d11541fbb5317d932f87396ac1ce9a3532e70a8eed5a8a8e99") false over (fun _ h => by cases h) (by kernel_rfl) (fun _ h => by cases h) fnExactTouchText_row_tie rfl ⟨rfl, rfl⟩ (by kernel_rfl) rfl
    (fun f fn hf hfn => by
      obtain rfl : f = 4 := Option.some.inj ((show Tryd.prog.funcNamed Rows.fnExactTouchTextRow.func = some 4 by kernel_rfl).symm.trans hf) |>.symm
      obtain rfl : fn = Tryd.f4 := (Option.some.inj (Tryd.func4.symm.trans hfn)).symm
      exact ⟨by kernel_rfl, fun j t ht => by
        rw [Tryd.params4] at ht
        have hall : ([41].all fun u => !Tryd.prog.wantsStandIn u) = true := by kernel_rfl
        have hm := Array.mem_of_getElem? ht
        exact (show Tryd.prog.wantsStandIn t = false by simpa using List.all_eq_true.1 hall t (by simpa using hm))⟩)
    (by kernel_rfl)
#print axioms card
end Go.Proofs.YtoceiaaigiflpaaDoor.fnExactTouchText
namespace Go.Proofs.YtoceiaaigiflpaaDoor
/-- The row, under a short name, for the claim. -/
theorem fnExactTouchText_holds : Rows.FnExactTouchTextCardSaid := fnExactTouchText.card
end Go.Proofs.YtoceiaaigiflpaaDoor
