/- The functions that the law FnMyers reaches, as plain Lean functions, and the walks that show that Go comes to their answers; part 4. Its lines are the print's, turned where Lean refused them. -/
import Derived.Test.YtbibgmmoompoiaaQFnMyersx0
import Derived.Test.YtbibgmmoompoiaaQFnMyersx3
namespace Go.Proofs.Ytbibgmmoompoiaa.PFnMyers
open Go.RowKit Go.Proofs.YtbibgmmoompoiaaW.PrintWords Go.Proofs.YtbibgmmoompoiaaW.PrintLast Go.Proofs.YtbibgmmoompoiaaW.PrintMore
attribute [local go_sem] max2_int min2_int max_two min_two max_three min_three max_four min_four   -- for this text's walks alone
set_option linter.unusedVariables false
set_option linter.unusedSimpArgs false

/-! ### spec_l01Cur_badWord: function 29 -/
def spec_l01Cur_badWord.f (k : Nat) (s0_0 : List Int) (s0_1 : Int) (s0_2 : Int) : Option (ByteArray × Int × Int) := (spec_l01Cur_word.f k s0_0 s0_1 s0_2).bind fun bt186 => ((spec_l01Cur_pick.f s0_0 bt186.2.1 bt186.2.2 9).bind fun bt189 => (if bt189.1 = 0 then ((spec_l01Cur_pick.f s0_0 bt189.2.1 bt189.2.2 (wrap64 ((bt186.1.size : Int) + 1))).bind fun bt192 => (if 0 ≤ bt192.1 then (if bt192.1 ≤ (bt186.1.size : Int) then ((some (([(⟨#[]⟩ : ByteArray), (⟨#[65]⟩ : ByteArray), (⟨#[45]⟩ : ByteArray), (⟨#[0]⟩ : ByteArray), (⟨#[122, 122]⟩ : ByteArray), (⟨#[123]⟩ : ByteArray)] : List ByteArray) : List ByteArray)).bind fun y195 => ((spec_l01Cur_pick.f s0_0 bt192.2.1 bt192.2.2 6).bind fun bt198 => (if 0 ≤ bt198.1 then (if bt198.1 < (y195.length : Int) then (if (bt186.1.extract 0 (bt192.1 : Int).toNat).size + (rdOf ByteArray.empty y195 bt198.1).size ≤ 9223372036854775807 then (if ((bt186.1.extract 0 (bt192.1 : Int).toNat) ++ (rdOf ByteArray.empty y195 bt198.1)).size + (bt186.1.extract (bt192.1 : Int).toNat bt186.1.size).size ≤ 9223372036854775807 then (some (((bt186.1.extract 0 (bt192.1 : Int).toNat) ++ (rdOf ByteArray.empty y195 bt198.1)) ++ (bt186.1.extract (bt192.1 : Int).toNat bt186.1.size), bt198.2.1, bt198.2.2)) else (none)) else (none)) else (none)) else (none)))) else (none)) else (none))) else (if bt189.1 = 1 then (some ((⟨#[]⟩ : ByteArray), bt189.2.1, bt189.2.2)) else (if bt189.1 = 2 then (if bt186.1.size + bt186.1.size ≤ 9223372036854775807 then ((spec_l01Cur_pick.f s0_0 bt189.2.1 bt189.2.2 33).bind fun bt202 => (if 0 ≤ bt202.1 then (if bt202.1 ≤ 32 then (if (bt186.1 ++ bt186.1).size + ((⟨#[97, 97, 97, 97, 97, 97, 97, 97, 97, 97, 97, 97, 97, 97, 97, 97, 97, 97, 97, 97, 97, 97, 97, 97, 97, 97, 97, 97, 97, 97, 97, 97]⟩ : ByteArray).extract 0 (bt202.1 : Int).toNat).size ≤ 9223372036854775807 then (some ((bt186.1 ++ bt186.1) ++ ((⟨#[97, 97, 97, 97, 97, 97, 97, 97, 97, 97, 97, 97, 97, 97, 97, 97, 97, 97, 97, 97, 97, 97, 97, 97, 97, 97, 97, 97, 97, 97, 97, 97]⟩ : ByteArray).extract 0 (bt202.1 : Int).toNat), bt202.2.1, bt202.2.2)) else (none)) else (none)) else (none))) else (none)) else (some (bt186.1, bt189.2.1, bt189.2.2))))))
theorem spec_l01Cur_badWord.mono : ∀ a0 a1 a2 k, LeO (spec_l01Cur_badWord.f k a0 a1 a2) (spec_l01Cur_badWord.f (k + 1) a0 a1 a2) := by
  intro a0 a1 a2 k
  unfold spec_l01Cur_badWord.f
  repeat' first
      | (with_reducible exact spec_l01Cur_word.mono _ _ _ _)
      | (with_reducible exact LeO.refl _)
      | (with_reducible exact LeO.none _)
      | (with_reducible refine LeO.ite ?_ ?_)
      | (with_reducible refine LeO.bind ?_ (fun _ => ?_))
      | exact spec_l01Cur_word.mono _ _ _ _
      | exact LeO.none _
      | refine LeO.ite ?_ ?_
      | refine LeO.bind ?_ (fun _ => ?_)
def spec_l01Cur_badWord.T5 : Bool × List (List Nat × List Nat) := (true, [([], []), ([], []), ([0, 1], [0, 1]), ([], []), ([], []), ([4], [4]), ([3, 5], [3, 5]), ([6], [6]), ([2, 7], [2, 7]), ([], []), ([], []), ([9, 10], [9, 10]), ([8, 11], [8, 11]), ([12, 5, 0, 1, 2, 3, 4, 5, 6, 7, 8, 9, 10, 11, 12], [12])])
def spec_l01Cur_badWord.B5 : List Nat := [0, 0, 3, 0, 0, 16, 56, 120, 255, 0, 0, 1536, 4095, 8191]
theorem spec_l01Cur_badWord.tab5 : rtab .any (opsOf Try.f29 5) = spec_l01Cur_badWord.T5 := by kernel_rfl
theorem spec_l01Cur_badWord.bits5 : waitsOk spec_l01Cur_badWord.T5.2 spec_l01Cur_badWord.B5 = true := by kernel_rfl
set_option maxHeartbeats 8000000 in
set_option maxRecDepth 100000 in
theorem spec_l01Cur_badWord.calls (k : Nat) (g : Nat) (s0_0 : List Int) (s0_1 : Int) (s0_2 : Int) (r1 : ByteArray) (r2 : Int) (r3 : Int) (w0 w : World) (hI : IsS46 w0 w g s0_0 s0_1 s0_2) (hB : Below w0.heap.size w0 w) (h : spec_l01Cur_badWord.f k s0_0 s0_1 s0_2 = some (r1, r2, r3)) :
    Calls Try.prog 29 #[.pointer (some ⟨g, 0, none⟩)] w fun e w' => e = .returned (.string r1) ∧ IsS46 w0 w' g s0_0 r2 r3 ∧ Below w0.heap.size w0 w' ∧ KeepBut w w' g none := by
  have HI0 := Aside0.mk hI
  have HK := Aside0.mk (KeepBut.refl w g none)
  have HL := Aside0.mk hB.size
  clear hI
  have HW0 := Aside0.mk hB.size
  have HB := Aside0.mk hB
  clear hB
  have H : ((spec_l01Cur_word.f k s0_0 s0_1 s0_2).bind fun bt186 => ((spec_l01Cur_pick.f s0_0 bt186.2.1 bt186.2.2 9).bind fun bt189 => (if bt189.1 = 0 then ((spec_l01Cur_pick.f s0_0 bt189.2.1 bt189.2.2 (wrap64 ((bt186.1.size : Int) + 1))).bind fun bt192 => (if 0 ≤ bt192.1 then (if bt192.1 ≤ (bt186.1.size : Int) then ((some (([(⟨#[]⟩ : ByteArray), (⟨#[65]⟩ : ByteArray), (⟨#[45]⟩ : ByteArray), (⟨#[0]⟩ : ByteArray), (⟨#[122, 122]⟩ : ByteArray), (⟨#[123]⟩ : ByteArray)] : List ByteArray) : List ByteArray)).bind fun y195 => ((spec_l01Cur_pick.f s0_0 bt192.2.1 bt192.2.2 6).bind fun bt198 => (if 0 ≤ bt198.1 then (if bt198.1 < (y195.length : Int) then (if (bt186.1.extract 0 (bt192.1 : Int).toNat).size + (rdOf ByteArray.empty y195 bt198.1).size ≤ 9223372036854775807 then (if ((bt186.1.extract 0 (bt192.1 : Int).toNat) ++ (rdOf ByteArray.empty y195 bt198.1)).size + (bt186.1.extract (bt192.1 : Int).toNat bt186.1.size).size ≤ 9223372036854775807 then (some (((bt186.1.extract 0 (bt192.1 : Int).toNat) ++ (rdOf ByteArray.empty y195 bt198.1)) ++ (bt186.1.extract (bt192.1 : Int).toNat bt186.1.size), bt198.2.1, bt198.2.2)) else (none)) else (none)) else (none)) else (none)))) else (none)) else (none))) else (if bt189.1 = 1 then (some ((⟨#[]⟩ : ByteArray), bt189.2.1, bt189.2.2)) else (if bt189.1 = 2 then (if bt186.1.size + bt186.1.size ≤ 9223372036854775807 then ((spec_l01Cur_pick.f s0_0 bt189.2.1 bt189.2.2 33).bind fun bt202 => (if 0 ≤ bt202.1 then (if bt202.1 ≤ 32 then (if (bt186.1 ++ bt186.1).size + ((⟨#[97, 97, 97, 97, 97, 97, 97, 97, 97, 97, 97, 97, 97, 97, 97, 97, 97, 97, 97, 97, 97, 97, 97, 97, 97, 97, 97, 97, 97, 97, 97, 97]⟩ : ByteArray).extract 0 (bt202.1 : Int).toNat).size ≤ 9223372036854775807 then (some ((bt186.1 ++ bt186.1) ++ ((⟨#[97, 97, 97, 97, 97, 97, 97, 97, 97, 97, 97, 97, 97, 97, 97, 97, 97, 97, 97, 97, 97, 97, 97, 97, 97, 97, 97, 97, 97, 97, 97, 97]⟩ : ByteArray).extract 0 (bt202.1 : Int).toNat), bt202.2.1, bt202.2.2)) else (none)) else (none)) else (none))) else (none)) else (some (bt186.1, bt189.2.1, bt189.2.2))))))) = some (r1, r2, r3) := h
  clear h
  replace H := Option.bind_eq_some_iff.mp H
  obtain ⟨⟨t186, t187, t188⟩, A20, H⟩ := H
  replace H : ((spec_l01Cur_pick.f s0_0 t187 t188 9).bind fun bt189 => (if bt189.1 = 0 then ((spec_l01Cur_pick.f s0_0 bt189.2.1 bt189.2.2 (wrap64 ((t186.size : Int) + 1))).bind fun bt192 => (if 0 ≤ bt192.1 then (if bt192.1 ≤ (t186.size : Int) then ((some (([(⟨#[]⟩ : ByteArray), (⟨#[65]⟩ : ByteArray), (⟨#[45]⟩ : ByteArray), (⟨#[0]⟩ : ByteArray), (⟨#[122, 122]⟩ : ByteArray), (⟨#[123]⟩ : ByteArray)] : List ByteArray) : List ByteArray)).bind fun y195 => ((spec_l01Cur_pick.f s0_0 bt192.2.1 bt192.2.2 6).bind fun bt198 => (if 0 ≤ bt198.1 then (if bt198.1 < (y195.length : Int) then (if (t186.extract 0 (bt192.1 : Int).toNat).size + (rdOf ByteArray.empty y195 bt198.1).size ≤ 9223372036854775807 then (if ((t186.extract 0 (bt192.1 : Int).toNat) ++ (rdOf ByteArray.empty y195 bt198.1)).size + (t186.extract (bt192.1 : Int).toNat t186.size).size ≤ 9223372036854775807 then (some (((t186.extract 0 (bt192.1 : Int).toNat) ++ (rdOf ByteArray.empty y195 bt198.1)) ++ (t186.extract (bt192.1 : Int).toNat t186.size), bt198.2.1, bt198.2.2)) else (none)) else (none)) else (none)) else (none)))) else (none)) else (none))) else (if bt189.1 = 1 then (some ((⟨#[]⟩ : ByteArray), bt189.2.1, bt189.2.2)) else (if bt189.1 = 2 then (if t186.size + t186.size ≤ 9223372036854775807 then ((spec_l01Cur_pick.f s0_0 bt189.2.1 bt189.2.2 33).bind fun bt202 => (if 0 ≤ bt202.1 then (if bt202.1 ≤ 32 then (if (t186 ++ t186).size + ((⟨#[97, 97, 97, 97, 97, 97, 97, 97, 97, 97, 97, 97, 97, 97, 97, 97, 97, 97, 97, 97, 97, 97, 97, 97, 97, 97, 97, 97, 97, 97, 97, 97]⟩ : ByteArray).extract 0 (bt202.1 : Int).toNat).size ≤ 9223372036854775807 then (some ((t186 ++ t186) ++ ((⟨#[97, 97, 97, 97, 97, 97, 97, 97, 97, 97, 97, 97, 97, 97, 97, 97, 97, 97, 97, 97, 97, 97, 97, 97, 97, 97, 97, 97, 97, 97, 97, 97]⟩ : ByteArray).extract 0 (bt202.1 : Int).toNat), bt202.2.1, bt202.2.2)) else (none)) else (none)) else (none))) else (none)) else (some (t186, bt189.2.1, bt189.2.2)))))) = some (r1, r2, r3) := H
  have A2 := Aside0.mk A20
  clear A20
  replace H := Option.bind_eq_some_iff.mp H
  obtain ⟨⟨t189, t190, t191⟩, A30, H⟩ := H
  replace H : (if t189 = 0 then ((spec_l01Cur_pick.f s0_0 t190 t191 (wrap64 ((t186.size : Int) + 1))).bind fun bt192 => (if 0 ≤ bt192.1 then (if bt192.1 ≤ (t186.size : Int) then ((some (([(⟨#[]⟩ : ByteArray), (⟨#[65]⟩ : ByteArray), (⟨#[45]⟩ : ByteArray), (⟨#[0]⟩ : ByteArray), (⟨#[122, 122]⟩ : ByteArray), (⟨#[123]⟩ : ByteArray)] : List ByteArray) : List ByteArray)).bind fun y195 => ((spec_l01Cur_pick.f s0_0 bt192.2.1 bt192.2.2 6).bind fun bt198 => (if 0 ≤ bt198.1 then (if bt198.1 < (y195.length : Int) then (if (t186.extract 0 (bt192.1 : Int).toNat).size + (rdOf ByteArray.empty y195 bt198.1).size ≤ 9223372036854775807 then (if ((t186.extract 0 (bt192.1 : Int).toNat) ++ (rdOf ByteArray.empty y195 bt198.1)).size + (t186.extract (bt192.1 : Int).toNat t186.size).size ≤ 9223372036854775807 then (some (((t186.extract 0 (bt192.1 : Int).toNat) ++ (rdOf ByteArray.empty y195 bt198.1)) ++ (t186.extract (bt192.1 : Int).toNat t186.size), bt198.2.1, bt198.2.2)) else (none)) else (none)) else (none)) else (none)))) else (none)) else (none))) else (if t189 = 1 then (some ((⟨#[]⟩ : ByteArray), t190, t191)) else (if t189 = 2 then (if t186.size + t186.size ≤ 9223372036854775807 then ((spec_l01Cur_pick.f s0_0 t190 t191 33).bind fun bt202 => (if 0 ≤ bt202.1 then (if bt202.1 ≤ 32 then (if (t186 ++ t186).size + ((⟨#[97, 97, 97, 97, 97, 97, 97, 97, 97, 97, 97, 97, 97, 97, 97, 97, 97, 97, 97, 97, 97, 97, 97, 97, 97, 97, 97, 97, 97, 97, 97, 97]⟩ : ByteArray).extract 0 (bt202.1 : Int).toNat).size ≤ 9223372036854775807 then (some ((t186 ++ t186) ++ ((⟨#[97, 97, 97, 97, 97, 97, 97, 97, 97, 97, 97, 97, 97, 97, 97, 97, 97, 97, 97, 97, 97, 97, 97, 97, 97, 97, 97, 97, 97, 97, 97, 97]⟩ : ByteArray).extract 0 (bt202.1 : Int).toNat), bt202.2.1, bt202.2.2)) else (none)) else (none)) else (none))) else (none)) else (some (t186, t190, t191))))) = some (r1, r2, r3) := H
  have A3 := Aside0.mk A30
  clear A30
  by_cases c4 : t189 = 0
  · rw [if_pos c4] at H
    have c4b0 : (t189 == 0) = true := beq_iff_eq.mpr c4
    have c4b1 : (t189 != 0) = false := bne_eq_false_iff_eq.mpr c4
    clear c4
    replace H := Option.bind_eq_some_iff.mp H
    obtain ⟨⟨t192, t193, t194⟩, A50, H⟩ := H
    replace H : (if 0 ≤ t192 then (if t192 ≤ (t186.size : Int) then ((some (([(⟨#[]⟩ : ByteArray), (⟨#[65]⟩ : ByteArray), (⟨#[45]⟩ : ByteArray), (⟨#[0]⟩ : ByteArray), (⟨#[122, 122]⟩ : ByteArray), (⟨#[123]⟩ : ByteArray)] : List ByteArray) : List ByteArray)).bind fun y195 => ((spec_l01Cur_pick.f s0_0 t193 t194 6).bind fun bt198 => (if 0 ≤ bt198.1 then (if bt198.1 < (y195.length : Int) then (if (t186.extract 0 (t192 : Int).toNat).size + (rdOf ByteArray.empty y195 bt198.1).size ≤ 9223372036854775807 then (if ((t186.extract 0 (t192 : Int).toNat) ++ (rdOf ByteArray.empty y195 bt198.1)).size + (t186.extract (t192 : Int).toNat t186.size).size ≤ 9223372036854775807 then (some (((t186.extract 0 (t192 : Int).toNat) ++ (rdOf ByteArray.empty y195 bt198.1)) ++ (t186.extract (t192 : Int).toNat t186.size), bt198.2.1, bt198.2.2)) else (none)) else (none)) else (none)) else (none)))) else (none)) else (none)) = some (r1, r2, r3) := H
    have A5 := Aside0.mk A50
    clear A50
    by_cases c6 : 0 ≤ t192
    · rw [if_pos c6] at H
      have c6b0 := eq_true c6
      have c6b1 : decide (0 ≤ t192) = true := decide_eq_true c6
      clear c6
      by_cases c7 : t192 ≤ (t186.size : Int)
      · rw [if_pos c7] at H
        have c7b0 := eq_true c7
        have c7b1 : decide (t192 ≤ (t186.size : Int)) = true := decide_eq_true c7
        clear c7
        obtain ⟨y195, hy195⟩ : ∃ y_ : List ByteArray, y_ = (([(⟨#[]⟩ : ByteArray), (⟨#[65]⟩ : ByteArray), (⟨#[45]⟩ : ByteArray), (⟨#[0]⟩ : ByteArray), (⟨#[122, 122]⟩ : ByteArray), (⟨#[123]⟩ : ByteArray)] : List ByteArray)) := ⟨_, rfl⟩
        replace H : ((spec_l01Cur_pick.f s0_0 t193 t194 6).bind fun bt198 => (if 0 ≤ bt198.1 then (if bt198.1 < (y195.length : Int) then (if (t186.extract 0 (t192 : Int).toNat).size + (rdOf ByteArray.empty y195 bt198.1).size ≤ 9223372036854775807 then (if ((t186.extract 0 (t192 : Int).toNat) ++ (rdOf ByteArray.empty y195 bt198.1)).size + (t186.extract (t192 : Int).toNat t186.size).size ≤ 9223372036854775807 then (some (((t186.extract 0 (t192 : Int).toNat) ++ (rdOf ByteArray.empty y195 bt198.1)) ++ (t186.extract (t192 : Int).toNat t186.size), bt198.2.1, bt198.2.2)) else (none)) else (none)) else (none)) else (none))) = some (r1, r2, r3) := by first | (rw [hy195]; with_reducible exact H) | (have H2_ := (Option.bind_some _ _).symm.trans H; rw [hy195]; with_reducible exact H2_) | (have H2_ := (Option.bind_some _ _).symm.trans H; with_reducible exact H2_) | with_reducible exact H | (rw [hy195]; exact H) | exact H
        have Ny195 := Aside0.mk hy195
        clear hy195
        replace H := Option.bind_eq_some_iff.mp H
        obtain ⟨⟨t198, t199, t200⟩, A80, H⟩ := H
        replace H : (if 0 ≤ t198 then (if t198 < (y195.length : Int) then (if (t186.extract 0 (t192 : Int).toNat).size + (rdOf ByteArray.empty y195 t198).size ≤ 9223372036854775807 then (if ((t186.extract 0 (t192 : Int).toNat) ++ (rdOf ByteArray.empty y195 t198)).size + (t186.extract (t192 : Int).toNat t186.size).size ≤ 9223372036854775807 then (some (((t186.extract 0 (t192 : Int).toNat) ++ (rdOf ByteArray.empty y195 t198)) ++ (t186.extract (t192 : Int).toNat t186.size), t199, t200)) else (none)) else (none)) else (none)) else (none)) = some (r1, r2, r3) := H
        have A8 := Aside0.mk A80
        clear A80
        by_cases c9 : 0 ≤ t198
        · rw [if_pos c9] at H
          have c9b0 : decide (0 ≤ t198) = true := decide_eq_true c9
          clear c9
          by_cases c10 : t198 < (y195.length : Int)
          · rw [if_pos c10] at H
            have c10b0 : decide (t198 < (y195.length : Int)) = true := decide_eq_true c10
            clear c10
            by_cases c11 : (t186.extract 0 (t192 : Int).toNat).size + (rdOf ByteArray.empty y195 t198).size ≤ 9223372036854775807
            · rw [if_pos c11] at H
              have c11b0 := eq_true c11
              have c11b1 : decide ((t186.extract 0 (t192 : Int).toNat).size + (rdOf ByteArray.empty y195 t198).size ≤ 9223372036854775807) = true := decide_eq_true c11
              try have c11b2 : (9223372036854775807 < (t186.extract 0 (t192 : Int).toNat).size + (rdOf ByteArray.empty y195 t198).size) = False := eq_false (Nat.not_lt.2 c11)
              have c12b0 := eq_true (of_decide_eq_true (by first | (with_reducible assumption) | assumption) : 0 ≤ t192)
              have c13b0 := eq_true (of_decide_eq_true (by first | (with_reducible assumption) | assumption) : t192 ≤ (t186.size : Int))
              by_cases c14 : ((t186.extract 0 (t192 : Int).toNat) ++ (rdOf ByteArray.empty y195 t198)).size + (t186.extract (t192 : Int).toNat t186.size).size ≤ 9223372036854775807
              · rw [if_pos c14] at H
                have c14b0 := eq_true c14
                have c14b1 : decide (((t186.extract 0 (t192 : Int).toNat) ++ (rdOf ByteArray.empty y195 t198)).size + (t186.extract (t192 : Int).toNat t186.size).size ≤ 9223372036854775807) = true := decide_eq_true c14
                try have c14b2 : (9223372036854775807 < ((t186.extract 0 (t192 : Int).toNat) ++ (rdOf ByteArray.empty y195 t198)).size + (t186.extract (t192 : Int).toNat t186.size).size) = False := eq_false (Nat.not_lt.2 c14)
                simp only [Option.some.injEq, Prod.mk.injEq] at H
                obtain ⟨rfl, rfl, rfl⟩ := H
                go_enter Try.func29, Try.ntmps29
                try go_wp2_with (first | ((with_reducible refine gate_callee (f := 36) rfl ?_); refine goesL_ (some 6) rfl rfl Try.func36 (by kernel_rfl) rfl #[.pointer (some ⟨g, 0, none⟩)] rfl (by (try simp only [List.map_toArray, List.map_cons, List.map_nil]); first | done | rfl | (simp only [List.length_drop, List.length_take]; rfl)) ?_; (with_reducible refine (spec_l01Cur_word.calls k g s0_0 s0_1 s0_2 t186 t187 t188 w0 _ ?side1 ?side2 A2.out).mono ?_); (case side1 => repeat (first | (with_reducible first | exact HI0.out | apply IsS46.alloc | apply IsS46.drewN | apply IsS46.drew | apply IsS46.set_1 | apply IsS46.set_2) | exact HI0.out)); (case side2 => repeat (first | (with_reducible first | exact HB.out | apply below_alloc | apply pw_below_drewN | apply below_drew1 | refine below_set ?_ (IsS46.ge HI0.out)) | exact HB.out)); rintro e w15 ⟨rfl, hi, hb, hk⟩; refine ⟨_, rfl, ?_⟩; have n0_ := Aside0.mk (KeepBut.trans (by repeat (first | (with_reducible first | exact HK.out | apply KeepBut.set_ | apply keep_drewN | apply keep_drew | apply keep_alloc) | exact HK.out)) hk (.inl rfl)); have n1_ := Aside0.mk (hb); have n2_ := Aside0.mk (hi); clear HK; clear HB; clear HI0; have HK := n0_; have HB := n1_; have HI0 := n2_; clear n0_ n1_ n2_; (try clear hb); (try clear hb2); (try clear hk); (try clear hi)) | ((with_reducible refine gate_callee (f := 37) rfl ?_); refine goesL_ (some 8) rfl rfl Try.func37 (by kernel_rfl) rfl #[.pointer (some ⟨g, 0, none⟩), .int .i64 9] rfl (by (try simp only [List.map_toArray, List.map_cons, List.map_nil]); first | done | rfl | (simp only [List.length_drop, List.length_take]; rfl)) ?_; (with_reducible refine (spec_l01Cur_pick.calls g s0_0 t187 t188 9 t189 t190 t191 w0 _ ?side1 ?side2 A3.out).mono ?_); (case side1 => repeat (first | (with_reducible first | exact HI0.out | apply IsS46.alloc | apply IsS46.drewN | apply IsS46.drew | apply IsS46.set_1 | apply IsS46.set_2) | exact HI0.out)); (case side2 => repeat (first | (with_reducible first | exact HB.out | apply below_alloc | apply pw_below_drewN | apply below_drew1 | refine below_set ?_ (IsS46.ge HI0.out)) | exact HB.out)); rintro e w16 ⟨rfl, hi, hb, hk⟩; refine ⟨_, rfl, ?_⟩; have n0_ := Aside0.mk (KeepBut.trans (by repeat (first | (with_reducible first | exact HK.out | apply KeepBut.set_ | apply keep_drewN | apply keep_drew | apply keep_alloc) | exact HK.out)) hk (.inl rfl)); have n1_ := Aside0.mk (hb); have n2_ := Aside0.mk (hi); clear HK; clear HB; clear HI0; have HK := n0_; have HB := n1_; have HI0 := n2_; clear n0_ n1_ n2_; (try clear hb); (try clear hb2); (try clear hk); (try clear hi)) | ((with_reducible refine gate_callee (f := 37) rfl ?_); refine goesL_ (some 15) rfl rfl Try.func37 (by kernel_rfl) rfl #[.pointer (some ⟨g, 0, none⟩), .int .i64 (wrap64 ((t186.size : Int) + 1))] rfl (by (try simp only [List.map_toArray, List.map_cons, List.map_nil]); first | done | rfl | (simp only [List.length_drop, List.length_take]; rfl)) ?_; (with_reducible refine (spec_l01Cur_pick.calls g s0_0 t190 t191 (wrap64 ((t186.size : Int) + 1)) t192 t193 t194 w0 _ ?side1 ?side2 A5.out).mono ?_); (case side1 => repeat (first | (with_reducible first | exact HI0.out | apply IsS46.alloc | apply IsS46.drewN | apply IsS46.drew | apply IsS46.set_1 | apply IsS46.set_2) | exact HI0.out)); (case side2 => repeat (first | (with_reducible first | exact HB.out | apply below_alloc | apply pw_below_drewN | apply below_drew1 | refine below_set ?_ (IsS46.ge HI0.out)) | exact HB.out)); rintro e w17 ⟨rfl, hi, hb, hk⟩; refine ⟨_, rfl, ?_⟩; have n0_ := Aside0.mk (KeepBut.trans (by repeat (first | (with_reducible first | exact HK.out | apply KeepBut.set_ | apply keep_drewN | apply keep_drew | apply keep_alloc) | exact HK.out)) hk (.inl rfl)); have n1_ := Aside0.mk (hb); have n2_ := Aside0.mk (hi); clear HK; clear HB; clear HI0; have HK := n0_; have HB := n1_; have HI0 := n2_; clear n0_ n1_ n2_; (try clear hb); (try clear hb2); (try clear hk); (try clear hi)))
                have pi201 : (0 ≤ (t198 : Int)) = True := eq_true (of_decide_eq_true (by first | (with_reducible assumption) | assumption))
                have qi201 : (t198 < (y195.length : Int)) = True := eq_true (of_decide_eq_true (by first | (with_reducible assumption) | assumption))
                have n0_ := Aside0.mk (IsS46.drew HI0.out)
                have n1_ := Aside0.mk (keep_drew HK.out)
                have n2_ := Aside0.mk (below_drew1 HB.out)
                clear HI0
                clear HK
                clear HB
                have HI0 := n0_
                have HK := n1_
                have HB := n2_
                clear n0_ n1_ n2_
                refine start_ (n := 14) (S := fun w' => True) (ds := []) #[false, false, false, false, false, false, false, false, false, false, false, false, false, false] (by kernel_rfl) rfl rfl trivial (fun hHeld => ?_); refine with_tabW spec_l01Cur_badWord.tab5 spec_l01Cur_badWord.bits5 (fun HT_ HW_ => ?_)
                generalize w17.drew = w18 at HI0 HK HB hHeld ⊢
                refine pure_ (i := 0) (N := some 16) (v := ?_) (a' := ?_) #[true, false, false, false, false, false, false, false, false, false, false, false, false, false] rfl rfl (any_of HT_.out (by kernel_rfl)) (fun _ _ _ h => h) (Or.inl ⟨by rfl, ?_⟩) ?_ ?_
                rotate_left
                · intro w'
                  go_simp
                  with_reducible rfl
                rotate_left
                · simp only [Act.put, List.setIfInBounds_toArray, List.set_cons_zero, List.set_cons_succ, i64_w, i32_w]
                  rfl
                refine pure_ (i := 1) (N := some 17) (v := ?_) (a' := ?_) #[true, true, false, false, false, false, false, false, false, false, false, false, false, false] rfl rfl (any_of HT_.out (by kernel_rfl)) (fun _ _ _ h => h) (Or.inl ⟨by rfl, ?_⟩) ?_ ?_
                rotate_left
                · intro w'
                  go_simp
                  with_reducible rfl
                rotate_left
                · simp only [Act.put, List.setIfInBounds_toArray, List.set_cons_zero, List.set_cons_succ, i64_w, i32_w]
                  rfl
                refine pure_ (i := 4) (N := some 20) (v := ?_) (a' := ?_) #[true, true, false, false, true, false, false, false, false, false, false, false, false, false] rfl rfl (any_of HT_.out (by kernel_rfl)) (fun _ _ _ h => h) (Or.inl ⟨by rfl, ?_⟩) ?_ ?_
                rotate_left
                · intro w'
                  go_simp
                  with_reducible rfl
                rotate_left
                · simp only [Act.put, List.setIfInBounds_toArray, List.set_cons_zero, List.set_cons_succ, i64_w, i32_w]
                  rfl
                refine pure_ (i := 9) (N := some 25) (v := ?_) (a' := ?_) #[true, true, false, false, true, false, false, false, false, true, false, false, false, false] rfl rfl (any_of HT_.out (by kernel_rfl)) (fun _ _ _ h => h) (Or.inl ⟨by rfl, ?_⟩) ?_ ?_
                rotate_left
                · intro w'
                  go_simp
                  with_reducible rfl
                rotate_left
                · simp only [Act.put, List.setIfInBounds_toArray, List.set_cons_zero, List.set_cons_succ, i64_w, i32_w]
                  rfl
                refine pure_ (i := 10) (N := some 26) (v := ?_) (a' := ?_) #[true, true, false, false, true, false, false, false, false, true, true, false, false, false] rfl rfl (any_of HT_.out (by kernel_rfl)) (fun _ _ _ h => h) (Or.inl ⟨by rfl, ?_⟩) ?_ ?_
                rotate_left
                · intro w'
                  go_simp
                  with_reducible rfl
                rotate_left
                · simp only [Act.put, List.setIfInBounds_toArray, List.set_cons_zero, List.set_cons_succ, i64_w, i32_w]
                  rfl
                refine inv_at [2, 3, 5, 6, 7, 8, 11, 12, 13] (fun a0_ b a w' => ∃ (v196 : Value) (adz_v196 : Addr) (m6_ : Value), a = putSel a0_ b [(2, 18, .string (t186.extract 0 (t192 : Int).toNat)), (3, 19, v196), (5, 21, .int .i64 t198), (6, 22, m6_), (7, 23, .string (rdOf ByteArray.empty y195 t198)), (8, 24, .string ((t186.extract 0 (t192 : Int).toNat) ++ (rdOf ByteArray.empty y195 t198))), (11, 27, .string (t186.extract (t192 : Int).toNat t186.size)), (12, 28, .string (((t186.extract 0 (t192 : Int).toNat) ++ (rdOf ByteArray.empty y195 t198)) ++ (t186.extract (t192 : Int).toNat t186.size))), (13, 2, .string (((t186.extract 0 (t192 : Int).toNat) ++ (rdOf ByteArray.empty y195 t198)) ++ (t186.extract (t192 : Int).toNat t186.size)))] ∧ (b 5 = false → IsS46 w0 w' g s0_0 t193 t194) ∧ (KeepBut w w' g none) ∧ (Below w0.heap.size w0 w') ∧ (b 3 = true → Kd.R Kd.string 9 w' w.heap.size (fun _ => True) v196 y195) ∧ (b 3 = true → ∃ c_, (v196 : Value) = .slice (some adz_v196) y195.length c_) ∧ (b 5 = true → IsS46 w0 w' g s0_0 t199 t200) ∧ (b 6 = true → (m6_ : Value) = .pointer (some (adz_v196.add (t198).toNat)))) HT_.out HW_.out (by kernel_rfl) (by kernel_rfl) ?_ ?_ ?_
                · exact ⟨.bool false, ⟨0, 0, none⟩, .bool false, by simp only [putSel, Bool.false_eq_true, if_false], fun _ => HI0.out, HK.out, HB.out, fun h_ => absurd h_ (by decide), fun h_ => absurd h_ (by decide), fun h_ => absurd h_ (by decide), fun h_ => absurd h_ (by decide)⟩
                · skip
                  clear HB HI0 HK
                  refine steps_cons ?_ ?_
                  · rintro b a w' ⟨v196, adz_v196, m6_, ha, Q_HI0, Q_HK, Q_HB, Q_HO197, Q_HA_HO197, Q_HI0_e5, Q_X6_⟩ hb_ hon hoff
                    refine ⟨_, rfl, fun K hK => ?_⟩
                    have e16 : a.tmps[16]? = some (.string t186) := by rw [ha]; exact (putSel_off rfl).trans rfl
                    have e17 : a.tmps[17]? = some (.int .i64 t192) := by rw [ha]; exact (putSel_off rfl).trans rfl
                    replace ha := Aside0.mk ha
                    have HK := Aside0.mk Q_HK
                    have HB := Aside0.mk Q_HB
                    refine value_ (w1 := w') (v := .string (t186.extract 0 (t192 : Int).toNat)) (by rfl) rfl ?_ ?_
                    · go_simp
                      (try simp only [i64_w])
                      try rfl
                    refine hK.out _ _ ⟨v196, adz_v196, m6_, (by rw [ha.out]; exact putSel_upk 0 hb_ rfl rfl rfl), Q_HI0, Q_HK, Q_HB, Q_HO197, Q_HA_HO197, Q_HI0_e5, Q_X6_⟩
                  refine steps_cons ?_ ?_
                  · rintro b a w' ⟨v196, adz_v196, m6_, ha, Q_HI0, Q_HK, Q_HB, Q_HO197, Q_HA_HO197, Q_HI0_e5, Q_X6_⟩ hb_ hon hoff
                    refine ⟨_, rfl, fun K hK => ?_⟩
                    replace ha := Aside0.mk ha
                    have HK := Aside0.mk Q_HK
                    have HB := Aside0.mk Q_HB
                    refine Kd.R_lit_step Kd.string _ 9 ?hg (N := 19) ?hd (xs := ([(⟨#[]⟩ : ByteArray), (⟨#[65]⟩ : ByteArray), (⟨#[45]⟩ : ByteArray), (⟨#[0]⟩ : ByteArray), (⟨#[122, 122]⟩ : ByteArray), (⟨#[123]⟩ : ByteArray)] : List ByteArray)) (inner := [.string (⟨#[]⟩ : ByteArray), .string (⟨#[65]⟩ : ByteArray), .string (⟨#[45]⟩ : ByteArray), .string (⟨#[0]⟩ : ByteArray), .string (⟨#[122, 122]⟩ : ByteArray), .string (⟨#[123]⟩ : ByteArray)]) (ok := fun _ => True) (okp := fun _ => True) ?hr ?hp (fun _ hk => hk) trivial (Below.refl _ _) (Nat.le_refl _) (by simp) ?_; (case hd => rfl); (case hg => rfl); (case hr => first | (go_simp; done) | (go_simp; rfl)); (case hp => exact (Reps.one (show Kd.M Kd.string _ _ _ (⟨#[]⟩ : ByteArray) [.string (⟨#[]⟩ : ByteArray)] from rfl) (Reps.one (show Kd.M Kd.string _ _ _ (⟨#[65]⟩ : ByteArray) [.string (⟨#[65]⟩ : ByteArray)] from rfl) (Reps.one (show Kd.M Kd.string _ _ _ (⟨#[45]⟩ : ByteArray) [.string (⟨#[45]⟩ : ByteArray)] from rfl) (Reps.one (show Kd.M Kd.string _ _ _ (⟨#[0]⟩ : ByteArray) [.string (⟨#[0]⟩ : ByteArray)] from rfl) (Reps.one (show Kd.M Kd.string _ _ _ (⟨#[122, 122]⟩ : ByteArray) [.string (⟨#[122, 122]⟩ : ByteArray)] from rfl) (Reps.one (show Kd.M Kd.string _ _ _ (⟨#[123]⟩ : ByteArray) [.string (⟨#[123]⟩ : ByteArray)] from rfl) (Reps.none _ _))))))))
                    intro v196 w19 ho20 hb hg_ hnew_
                    clear hg_ hnew_
                    (first | rw [← Ny195.out] at ho20 | (simp only [Int.reduceToNat] at ho20; rw [← Ny195.out] at ho20))
                    have n0_ := Aside0.mk (Kd.R_lower ho20 (keep_size (w := w) (g := g) (row := none) (by repeat (first | (with_reducible first | exact HK.out | apply KeepBut.set_ | apply keep_drewN | apply keep_drew | apply keep_alloc) | exact HK.out))))
                    have n2_ := Aside0.mk (KeepBut.trans (by repeat (first | (with_reducible first | exact HK.out | apply KeepBut.set_ | apply keep_drewN | apply keep_drew | apply keep_alloc) | exact HK.out)) (KeepBut.of_below hb g none) (.inl rfl))
                    have n3_ := Aside0.mk (below_step (by repeat (first | (with_reducible first | exact HB.out | apply below_alloc | apply pw_below_drewN | apply below_drew1) | exact HB.out)) hb)
                    have z_HI0 := fun (h0_ : b 5 = false) => (show IsS46 w0 w19 g s0_0 t193 t194 from by first | exact (IsS46.below (by repeat (first | (with_reducible first | exact (Q_HI0 h0_) | apply IsS46.alloc | apply IsS46.drewN | apply IsS46.drew | apply IsS46.set_1 | apply IsS46.set_2) | exact (Q_HI0 h0_))) hb))
                    have z_HI0_e5 := fun (h0_ : b 5 = true) => (show IsS46 w0 w19 g s0_0 t199 t200 from by first | exact (IsS46.below (by repeat (first | (with_reducible first | exact (Q_HI0_e5 h0_) | apply IsS46.alloc | apply IsS46.drewN | apply IsS46.drew | apply IsS46.set_1 | apply IsS46.set_2) | exact (Q_HI0_e5 h0_))) hb))
                    clear HK
                    clear HB
                    have HO197 := n0_
                    have HK := n2_
                    have HB := n3_
                    clear n0_ n2_ n3_
                    clear hb ho20
                    obtain ⟨Ao21, co21, eo21⟩ := Kd.R_slice HO197.out
                    subst eo21
                    obtain ⟨ado21, fo21, _⟩ := Kd.at_string (Kd.R_reads' HO197.out).2.2 0 (by decide) (by rw [Ny195.out]; simp)
                    cases fo21
                    refine hK.out _ _ ⟨.slice (some ado21) y195.length co21, ado21, m6_, (by rw [ha.out]; exact putSel_upk 1 hb_ rfl rfl rfl), z_HI0, (by repeat (first | (with_reducible first | exact HK.out | apply KeepBut.set_ | apply keep_drewN | apply keep_drew | apply keep_alloc) | exact HK.out)), (by repeat (first | (with_reducible first | exact HB.out | apply below_alloc | apply pw_below_drewN | apply below_drew1) | exact HB.out)), fun _ => (by (with_reducible repeat (first | apply Kd.R_alloc | apply Kd.R_drewN | apply Kd.R_drew)); exact HO197.out), fun _ => ⟨_, rfl⟩, z_HI0_e5, fun h0_ => absurd ((hoff 6 (by kernel_rfl)).symm.trans h0_) (by decide)⟩
                  refine steps_cons ?_ ?_
                  · rintro b a w' ⟨v196, adz_v196, m6_, ha, Q_HI0, Q_HK, Q_HB, Q_HO197, Q_HA_HO197, Q_HI0_e5, Q_X6_⟩ hb_ hon hoff
                    refine ⟨_, rfl, fun K hK => ?_⟩
                    have e20 : a.tmps[20]? = some (.pointer (some ⟨g, 0, none⟩)) := by rw [ha]; exact (putSel_off rfl).trans rfl
                    replace ha := Aside0.mk ha
                    have HI0 := Aside0.mk (Q_HI0 hb_)
                    have HK := Aside0.mk Q_HK
                    have HB := Aside0.mk Q_HB
                    refine goes_ Try.func37 (by kernel_rfl) rfl #[.pointer (some ⟨g, 0, none⟩), .int .i64 6] (by rfl) rfl rfl (by first | (simp only [List.map_toArray, List.map_cons, List.map_nil, Act.eval, Array.getD_eq_getD_getElem?, Option.getD_some, e20]; done) | (simp only [List.map_toArray, List.map_cons, List.map_nil, Act.eval, Array.getD_eq_getD_getElem?, Option.getD_some, e20]; rfl)) ?_
                    with_reducible refine (spec_l01Cur_pick.calls g s0_0 t193 t194 6 t198 t199 t200 w0 _ ?side1 ?side2 A8.out).mono ?_
                    (case side1 => repeat (first | (with_reducible first | exact HI0.out | apply IsS46.alloc | apply IsS46.drewN | apply IsS46.drew | apply IsS46.set_1 | apply IsS46.set_2) | exact HI0.out))
                    (case side2 => repeat (first | (with_reducible first | exact HB.out | apply below_alloc | apply pw_below_drewN | apply below_drew1 | refine below_set ?_ (IsS46.ge HI0.out)) | exact HB.out))
                    rintro e w19 ⟨rfl, hi, hb, hk⟩
                    refine ⟨_, rfl, ?_⟩
                    have n0_ := Aside0.mk (KeepBut.trans (by repeat (first | (with_reducible first | exact HK.out | apply KeepBut.set_ | apply keep_drewN | apply keep_drew | apply keep_alloc) | exact HK.out)) hk (.inl rfl))
                    have n1_ := Aside0.mk (hb)
                    have n2_ := Aside0.mk (hi)
                    have z_HO197 := fun (h0_ : b 3 = true) => (show Kd.R Kd.string 9 w19 w.heap.size (fun _ => True) v196 y195 from by first | exact (Kd.R_mono (Kd.R_keep (IsS46.apart (show IsS46 w0 _ g s0_0 t193 t194 from by repeat (first | (with_reducible first | exact HI0.out | apply IsS46.alloc | apply IsS46.drewN | apply IsS46.drew | apply IsS46.set_1 | apply IsS46.set_2) | exact HI0.out)) (by (with_reducible repeat (first | apply Kd.R_alloc | apply Kd.R_drewN | apply Kd.R_drew)); exact (Q_HO197 h0_)) (by decide)) hk (fun _ h => h.2)) (fun _ h => h.1)) | exact Kd.R_mono (Kd.R_mono (Kd.R_keep (IsS46.apart (show IsS46 w0 _ g s0_0 t193 t194 from by repeat (first | (with_reducible first | exact HI0.out | apply IsS46.alloc | apply IsS46.drewN | apply IsS46.drew | apply IsS46.set_1 | apply IsS46.set_2) | exact HI0.out)) (by (with_reducible repeat (first | apply Kd.R_alloc | apply Kd.R_drewN | apply Kd.R_drew)); exact (Q_HO197 h0_)) (by decide)) hk (fun _ h => h.2)) (fun _ h => h.1)) (fun _ h_ => by first | trivial | exact h_ | exact h_.1))
                    clear HK
                    clear HB
                    clear HI0
                    have HK := n0_
                    have HB := n1_
                    have HI0 := n2_
                    clear n0_ n1_ n2_
                    (try clear hb)
                    (try clear hb2)
                    (try clear hk)
                    (try clear hi)
                    refine hK.out _ _ ⟨v196, adz_v196, m6_, (by rw [ha.out]; exact putSel_upk 2 hb_ rfl rfl rfl), fun h0_ => absurd ((up_self b 5).symm.trans h0_) (by decide), (by repeat (first | (with_reducible first | exact HK.out | apply KeepBut.set_ | apply keep_drewN | apply keep_drew | apply keep_alloc) | exact HK.out)), (by repeat (first | (with_reducible first | exact HB.out | apply below_alloc | apply pw_below_drewN | apply below_drew1 | refine below_set ?_ (IsS46.ge HI0.out)) | exact HB.out)), z_HO197, Q_HA_HO197, fun _ => (by repeat (first | (with_reducible first | exact HI0.out | apply IsS46.alloc | apply IsS46.drewN | apply IsS46.drew | apply IsS46.set_1 | apply IsS46.set_2) | exact HI0.out)), fun h0_ => absurd ((hoff 6 (by kernel_rfl)).symm.trans h0_) (by decide)⟩
                  refine steps_cons ?_ ?_
                  · rintro b a w' ⟨v196, adz_v196, m6_, ha, Q_HI0, Q_HK, Q_HB, Q_HO197, Q_HA_HO197, Q_HI0_e5, Q_X6_⟩ hb_ hon hoff
                    refine ⟨_, rfl, fun K hK => ?_⟩
                    have e19 : a.tmps[19]? = some (v196) := by rw [ha]; exact putSel_on (e := (3, 19, v196)) 1 rfl rfl (hon 3 (by kernel_rfl)) rfl
                    have e21 : a.tmps[21]? = some (.int .i64 t198) := by rw [ha]; exact putSel_on (e := (5, 21, .int .i64 t198)) 2 rfl rfl (hon 5 (by kernel_rfl)) rfl
                    replace ha := Aside0.mk ha
                    have HK := Aside0.mk Q_HK
                    have HB := Aside0.mk Q_HB
                    have HO197 := Aside0.mk (Q_HO197 (hon 3 (by kernel_rfl)))
                    have HA_HO197 := Aside0.mk (Q_HA_HO197 (hon 3 (by kernel_rfl)))
                    have HI0 := Aside0.mk (Q_HI0_e5 (hon 5 (by kernel_rfl)))
                    obtain ⟨c_, hv_⟩ := HA_HO197.out
                    rw [hv_] at e19
                    refine value_ (w1 := w') (v := .pointer (some (adz_v196.add (t198).toNat))) (by rfl) rfl ?_ ?_
                    · go_simp
                      (try simp only [i64_w])
                      try rfl
                    refine hK.out _ _ ⟨v196, adz_v196, (.pointer (some (adz_v196.add (t198).toNat))), (by rw [ha.out]; exact putSel_upk 3 hb_ rfl rfl rfl), fun h0_ => absurd ((hon 5 (by kernel_rfl)).symm.trans h0_) (by decide), Q_HK, Q_HB, Q_HO197, Q_HA_HO197, Q_HI0_e5, fun _ => rfl⟩
                  refine steps_cons ?_ ?_
                  · rintro b a w' ⟨v196, adz_v196, m6_, ha, Q_HI0, Q_HK, Q_HB, Q_HO197, Q_HA_HO197, Q_HI0_e5, Q_X6_⟩ hb_ hon hoff
                    refine ⟨_, rfl, fun K hK => ?_⟩
                    have e22 : a.tmps[22]? = some (m6_) := by rw [ha]; exact putSel_on (e := (6, 22, m6_)) 3 rfl rfl (hon 6 (by kernel_rfl)) rfl
                    rw [Q_X6_ (hon 6 (by kernel_rfl))] at e22
                    replace ha := Aside0.mk ha
                    have HK := Aside0.mk Q_HK
                    have HB := Aside0.mk Q_HB
                    have HO197 := Aside0.mk (Q_HO197 (hon 3 (by kernel_rfl)))
                    have HA_HO197 := Aside0.mk (Q_HA_HO197 (hon 3 (by kernel_rfl)))
                    have HI0 := Aside0.mk (Q_HI0_e5 (hon 5 (by kernel_rfl)))
                    obtain ⟨c_, hv_⟩ := HA_HO197.out
                    have hF_ := HO197.out
                    rw [hv_] at hF_
                    obtain ⟨ad_, ea_, hx_⟩ := Kd.at_string (Kd.R_reads' hF_).2.2 t198 (of_eq_true pi201) (of_eq_true qi201)
                    cases ea_
                    refine value_ (w1 := w') (v := .string (rdOf ByteArray.empty y195 t198)) (by rfl) rfl ?_ ?_
                    · go_simp
                      (try simp only [i64_w])
                      try rfl
                    refine hK.out _ _ ⟨v196, adz_v196, m6_, (by rw [ha.out]; exact putSel_upk 4 hb_ rfl rfl rfl), fun h0_ => absurd ((hon 5 (by kernel_rfl)).symm.trans h0_) (by decide), Q_HK, Q_HB, Q_HO197, Q_HA_HO197, Q_HI0_e5, Q_X6_⟩
                  refine steps_cons ?_ ?_
                  · rintro b a w' ⟨v196, adz_v196, m6_, ha, Q_HI0, Q_HK, Q_HB, Q_HO197, Q_HA_HO197, Q_HI0_e5, Q_X6_⟩ hb_ hon hoff
                    refine ⟨_, rfl, fun K hK => ?_⟩
                    have e18 : a.tmps[18]? = some (.string (t186.extract 0 (t192 : Int).toNat)) := by rw [ha]; exact putSel_on (e := (2, 18, .string (t186.extract 0 (t192 : Int).toNat))) 0 rfl rfl (hon 2 (by kernel_rfl)) rfl
                    have e23 : a.tmps[23]? = some (.string (rdOf ByteArray.empty y195 t198)) := by rw [ha]; exact putSel_on (e := (7, 23, .string (rdOf ByteArray.empty y195 t198))) 4 rfl rfl (hon 7 (by kernel_rfl)) rfl
                    replace ha := Aside0.mk ha
                    have HK := Aside0.mk Q_HK
                    have HB := Aside0.mk Q_HB
                    have HO197 := Aside0.mk (Q_HO197 (hon 3 (by kernel_rfl)))
                    have HA_HO197 := Aside0.mk (Q_HA_HO197 (hon 3 (by kernel_rfl)))
                    have HI0 := Aside0.mk (Q_HI0_e5 (hon 5 (by kernel_rfl)))
                    refine value_ (w1 := w') (v := .string ((t186.extract 0 (t192 : Int).toNat) ++ (rdOf ByteArray.empty y195 t198))) (by rfl) rfl ?_ ?_
                    · go_simp
                      all_goals (try (have z1_ := c11; have y0_ := of_eq_true c6b0; have y1_ := of_eq_true c7b0; have y2_ := of_eq_true c12b0; have y3_ := of_eq_true c13b0; simp only [ByteArray.size_append, ByteArray.size_extract] at z1_; omega))
                      all_goals (try (have z1_ := c14; have y0_ := of_eq_true c6b0; have y1_ := of_eq_true c7b0; have y2_ := of_eq_true c12b0; have y3_ := of_eq_true c13b0; simp only [ByteArray.size_append, ByteArray.size_extract] at z1_; omega))
                      (try simp only [i64_w])
                      try rfl
                    refine hK.out _ _ ⟨v196, adz_v196, m6_, (by rw [ha.out]; exact putSel_upk 5 hb_ rfl rfl rfl), fun h0_ => absurd ((hon 5 (by kernel_rfl)).symm.trans h0_) (by decide), Q_HK, Q_HB, Q_HO197, Q_HA_HO197, Q_HI0_e5, Q_X6_⟩
                  refine steps_cons ?_ ?_
                  · rintro b a w' ⟨v196, adz_v196, m6_, ha, Q_HI0, Q_HK, Q_HB, Q_HO197, Q_HA_HO197, Q_HI0_e5, Q_X6_⟩ hb_ hon hoff
                    refine ⟨_, rfl, fun K hK => ?_⟩
                    have e25 : a.tmps[25]? = some (.string t186) := by rw [ha]; exact (putSel_off rfl).trans rfl
                    have e26 : a.tmps[26]? = some (.int .i64 t192) := by rw [ha]; exact (putSel_off rfl).trans rfl
                    replace ha := Aside0.mk ha
                    have HK := Aside0.mk Q_HK
                    have HB := Aside0.mk Q_HB
                    refine value_ (w1 := w') (v := .string (t186.extract (t192 : Int).toNat t186.size)) (by rfl) rfl ?_ ?_
                    · go_simp
                      (try simp only [i64_w])
                      try rfl
                    refine hK.out _ _ ⟨v196, adz_v196, m6_, (by rw [ha.out]; exact putSel_upk 6 hb_ rfl rfl rfl), Q_HI0, Q_HK, Q_HB, Q_HO197, Q_HA_HO197, Q_HI0_e5, Q_X6_⟩
                  refine steps_cons ?_ ?_
                  · rintro b a w' ⟨v196, adz_v196, m6_, ha, Q_HI0, Q_HK, Q_HB, Q_HO197, Q_HA_HO197, Q_HI0_e5, Q_X6_⟩ hb_ hon hoff
                    refine ⟨_, rfl, fun K hK => ?_⟩
                    have e24 : a.tmps[24]? = some (.string ((t186.extract 0 (t192 : Int).toNat) ++ (rdOf ByteArray.empty y195 t198))) := by rw [ha]; exact putSel_on (e := (8, 24, .string ((t186.extract 0 (t192 : Int).toNat) ++ (rdOf ByteArray.empty y195 t198)))) 5 rfl rfl (hon 8 (by kernel_rfl)) rfl
                    have e27 : a.tmps[27]? = some (.string (t186.extract (t192 : Int).toNat t186.size)) := by rw [ha]; exact putSel_on (e := (11, 27, .string (t186.extract (t192 : Int).toNat t186.size))) 6 rfl rfl (hon 11 (by kernel_rfl)) rfl
                    replace ha := Aside0.mk ha
                    have HK := Aside0.mk Q_HK
                    have HB := Aside0.mk Q_HB
                    have HO197 := Aside0.mk (Q_HO197 (hon 3 (by kernel_rfl)))
                    have HA_HO197 := Aside0.mk (Q_HA_HO197 (hon 3 (by kernel_rfl)))
                    have HI0 := Aside0.mk (Q_HI0_e5 (hon 5 (by kernel_rfl)))
                    refine value_ (w1 := w') (v := .string (((t186.extract 0 (t192 : Int).toNat) ++ (rdOf ByteArray.empty y195 t198)) ++ (t186.extract (t192 : Int).toNat t186.size))) (by rfl) rfl ?_ ?_
                    · go_simp
                      all_goals (try (have z1_ := c11; have y0_ := of_eq_true c6b0; have y1_ := of_eq_true c7b0; have y2_ := of_eq_true c12b0; have y3_ := of_eq_true c13b0; simp only [ByteArray.size_append, ByteArray.size_extract] at z1_; omega))
                      all_goals (try (have z1_ := c14; have y0_ := of_eq_true c6b0; have y1_ := of_eq_true c7b0; have y2_ := of_eq_true c12b0; have y3_ := of_eq_true c13b0; simp only [ByteArray.size_append, ByteArray.size_extract] at z1_; omega))
                      (try simp only [i64_w])
                      try rfl
                    refine hK.out _ _ ⟨v196, adz_v196, m6_, (by rw [ha.out]; exact putSel_upk 7 hb_ rfl rfl rfl), fun h0_ => absurd ((hon 5 (by kernel_rfl)).symm.trans h0_) (by decide), Q_HK, Q_HB, Q_HO197, Q_HA_HO197, Q_HI0_e5, Q_X6_⟩
                  refine steps_cons ?_ ?_
                  · rintro b a w' ⟨v196, adz_v196, m6_, ha, Q_HI0, Q_HK, Q_HB, Q_HO197, Q_HA_HO197, Q_HI0_e5, Q_X6_⟩ hb_ hon hoff
                    refine ⟨_, rfl, fun K hK => ?_⟩
                    have e28 : a.tmps[28]? = some (.string (((t186.extract 0 (t192 : Int).toNat) ++ (rdOf ByteArray.empty y195 t198)) ++ (t186.extract (t192 : Int).toNat t186.size))) := by rw [ha]; exact putSel_on (e := (12, 28, .string (((t186.extract 0 (t192 : Int).toNat) ++ (rdOf ByteArray.empty y195 t198)) ++ (t186.extract (t192 : Int).toNat t186.size)))) 7 rfl rfl (hon 12 (by kernel_rfl)) rfl
                    replace ha := Aside0.mk ha
                    have HK := Aside0.mk Q_HK
                    have HB := Aside0.mk Q_HB
                    have HO197 := Aside0.mk (Q_HO197 (hon 3 (by kernel_rfl)))
                    have HA_HO197 := Aside0.mk (Q_HA_HO197 (hon 3 (by kernel_rfl)))
                    have HI0 := Aside0.mk (Q_HI0_e5 (hon 5 (by kernel_rfl)))
                    refine value_ (w1 := w') (v := .string (((t186.extract 0 (t192 : Int).toNat) ++ (rdOf ByteArray.empty y195 t198)) ++ (t186.extract (t192 : Int).toNat t186.size))) (by rfl) rfl ?_ ?_
                    · go_simp
                      all_goals (try (have z1_ := c11; have y0_ := of_eq_true c6b0; have y1_ := of_eq_true c7b0; have y2_ := of_eq_true c12b0; have y3_ := of_eq_true c13b0; simp only [ByteArray.size_append, ByteArray.size_extract] at z1_; omega))
                      all_goals (try (have z1_ := c14; have y0_ := of_eq_true c6b0; have y1_ := of_eq_true c7b0; have y2_ := of_eq_true c12b0; have y3_ := of_eq_true c13b0; simp only [ByteArray.size_append, ByteArray.size_extract] at z1_; omega))
                      (try simp only [i64_w])
                      try rfl
                    refine hK.out _ _ ⟨v196, adz_v196, m6_, (by rw [ha.out]; exact putSel_upk 8 hb_ rfl rfl rfl), fun h0_ => absurd ((hon 5 (by kernel_rfl)).symm.trans h0_) (by decide), Q_HK, Q_HB, Q_HO197, Q_HA_HO197, Q_HI0_e5, Q_X6_⟩
                  exact steps_nil
                rintro b a w23 hall ⟨v196, adz_v196, m6_, ha, Q_HI0, Q_HK, Q_HB, Q_HO197, Q_HA_HO197, Q_HI0_e5, Q_X6_⟩
                clear HB HI0 HK
                have hb2_ := hall 2 (by kernel_rfl)
                have hb3_ := hall 3 (by kernel_rfl)
                have hb5_ := hall 5 (by kernel_rfl)
                have hb6_ := hall 6 (by kernel_rfl)
                have hb7_ := hall 7 (by kernel_rfl)
                have hb8_ := hall 8 (by kernel_rfl)
                have hb11_ := hall 11 (by kernel_rfl)
                have hb12_ := hall 12 (by kernel_rfl)
                have hb13_ := hall 13 (by kernel_rfl)
                subst ha
                obtain rfl := Q_X6_ hb6_
                simp only [putSel, hb2_, hb3_, hb5_, hb6_, hb7_, hb8_, hb11_, hb12_, hb13_, if_true, Act.put, List.setIfInBounds_toArray, List.set_cons_zero, List.set_cons_succ]
                clear Q_HI0
                have HK := Aside0.mk Q_HK
                clear Q_HK
                have HB := Aside0.mk Q_HB
                clear Q_HB
                have HO197 := Aside0.mk (Q_HO197 hb3_)
                clear Q_HO197
                have HA_HO197 := Aside0.mk (Q_HA_HO197 hb3_)
                clear Q_HA_HO197
                have HI0 := Aside0.mk (Q_HI0_e5 hb5_)
                clear Q_HI0_e5
                clear hall hb2_ hb3_ hb5_ hb6_ hb7_ hb8_ hb11_ hb12_ hb13_
                obtain ⟨co24, eo24⟩ := HA_HO197.out
                clear HA_HO197
                subst eo24
                try go_wp2
                go_ret
                exact ⟨by first | rfl | (simp [errW_none, errW_some] <;> rfl) | (simp [*, errW_none, errW_some] <;> rfl), by repeat (first | (with_reducible first | exact HI0.out | apply IsS46.alloc | apply IsS46.drewN | apply IsS46.drew | apply IsS46.set_1 | apply IsS46.set_2) | exact HI0.out), by repeat (first | (with_reducible first | exact HB.out | apply below_alloc | apply pw_below_drewN | apply below_drew1 | refine below_set ?_ (IsS46.ge HI0.out)) | exact HB.out), by repeat (first | (with_reducible first | exact HK.out | apply KeepBut.set_ | apply keep_drewN | apply keep_drew | apply keep_alloc) | exact HK.out)⟩
              · rw [if_neg c14] at H
                exact absurd H (by simp)
            · rw [if_neg c11] at H
              exact absurd H (by simp)
          · rw [if_neg c10] at H
            exact absurd H (by simp)
        · rw [if_neg c9] at H
          exact absurd H (by simp)
      · rw [if_neg c7] at H
        exact absurd H (by simp)
    · rw [if_neg c6] at H
      exact absurd H (by simp)
  · rw [if_neg c4] at H
    have c4b0 : (t189 == 0) = false := beq_eq_false_iff_ne.mpr c4
    have c4b1 : (t189 != 0) = true := bne_iff_ne.mpr c4
    by_cases c25 : t189 = 1
    · rw [if_pos c25] at H
      have c25b0 : (t189 == 1) = true := beq_iff_eq.mpr c25
      have c25b1 : (t189 != 1) = false := bne_eq_false_iff_eq.mpr c25
      clear c25
      simp only [Option.some.injEq, Prod.mk.injEq] at H
      obtain ⟨rfl, rfl, rfl⟩ := H
      go_enter Try.func29, Try.ntmps29
      go_wp2_with (first | ((with_reducible refine gate_callee (f := 36) rfl ?_); refine goesL_ (some 6) rfl rfl Try.func36 (by kernel_rfl) rfl #[.pointer (some ⟨g, 0, none⟩)] rfl (by (try simp only [List.map_toArray, List.map_cons, List.map_nil]); first | done | rfl | (simp only [List.length_drop, List.length_take]; rfl)) ?_; (with_reducible refine (spec_l01Cur_word.calls k g s0_0 s0_1 s0_2 t186 t187 t188 w0 _ ?side1 ?side2 A2.out).mono ?_); (case side1 => repeat (first | (with_reducible first | exact HI0.out | apply IsS46.alloc | apply IsS46.drewN | apply IsS46.drew | apply IsS46.set_1 | apply IsS46.set_2) | exact HI0.out)); (case side2 => repeat (first | (with_reducible first | exact HB.out | apply below_alloc | apply pw_below_drewN | apply below_drew1 | refine below_set ?_ (IsS46.ge HI0.out)) | exact HB.out)); rintro e w26 ⟨rfl, hi, hb, hk⟩; refine ⟨_, rfl, ?_⟩; have n0_ := Aside0.mk (KeepBut.trans (by repeat (first | (with_reducible first | exact HK.out | apply KeepBut.set_ | apply keep_drewN | apply keep_drew | apply keep_alloc) | exact HK.out)) hk (.inl rfl)); have n1_ := Aside0.mk (hb); have n2_ := Aside0.mk (hi); clear HK; clear HB; clear HI0; have HK := n0_; have HB := n1_; have HI0 := n2_; clear n0_ n1_ n2_; (try clear hb); (try clear hb2); (try clear hk); (try clear hi)) | ((with_reducible refine gate_callee (f := 37) rfl ?_); refine goesL_ (some 8) rfl rfl Try.func37 (by kernel_rfl) rfl #[.pointer (some ⟨g, 0, none⟩), .int .i64 9] rfl (by (try simp only [List.map_toArray, List.map_cons, List.map_nil]); first | done | rfl | (simp only [List.length_drop, List.length_take]; rfl)) ?_; (with_reducible refine (spec_l01Cur_pick.calls g s0_0 t187 t188 9 t189 t190 t191 w0 _ ?side1 ?side2 A3.out).mono ?_); (case side1 => repeat (first | (with_reducible first | exact HI0.out | apply IsS46.alloc | apply IsS46.drewN | apply IsS46.drew | apply IsS46.set_1 | apply IsS46.set_2) | exact HI0.out)); (case side2 => repeat (first | (with_reducible first | exact HB.out | apply below_alloc | apply pw_below_drewN | apply below_drew1 | refine below_set ?_ (IsS46.ge HI0.out)) | exact HB.out)); rintro e w27 ⟨rfl, hi, hb, hk⟩; refine ⟨_, rfl, ?_⟩; have n0_ := Aside0.mk (KeepBut.trans (by repeat (first | (with_reducible first | exact HK.out | apply KeepBut.set_ | apply keep_drewN | apply keep_drew | apply keep_alloc) | exact HK.out)) hk (.inl rfl)); have n1_ := Aside0.mk (hb); have n2_ := Aside0.mk (hi); clear HK; clear HB; clear HI0; have HK := n0_; have HB := n1_; have HI0 := n2_; clear n0_ n1_ n2_; (try clear hb); (try clear hb2); (try clear hk); (try clear hi)))
      go_ret
      exact ⟨by first | rfl | (simp [errW_none, errW_some] <;> rfl) | (simp [*, errW_none, errW_some] <;> rfl), by repeat (first | (with_reducible first | exact HI0.out | apply IsS46.alloc | apply IsS46.drewN | apply IsS46.drew | apply IsS46.set_1 | apply IsS46.set_2) | exact HI0.out), by repeat (first | (with_reducible first | exact HB.out | apply below_alloc | apply pw_below_drewN | apply below_drew1 | refine below_set ?_ (IsS46.ge HI0.out)) | exact HB.out), by repeat (first | (with_reducible first | exact HK.out | apply KeepBut.set_ | apply keep_drewN | apply keep_drew | apply keep_alloc) | exact HK.out)⟩
    · rw [if_neg c25] at H
      have c25b0 : (t189 == 1) = false := beq_eq_false_iff_ne.mpr c25
      have c25b1 : (t189 != 1) = true := bne_iff_ne.mpr c25
      by_cases c28 : t189 = 2
      · rw [if_pos c28] at H
        have c28b0 : (t189 == 2) = true := beq_iff_eq.mpr c28
        have c28b1 : (t189 != 2) = false := bne_eq_false_iff_eq.mpr c28
        clear c28
        by_cases c29 : t186.size + t186.size ≤ 9223372036854775807
        · rw [if_pos c29] at H
          have c29b0 := eq_true c29
          have c29b1 : decide (t186.size + t186.size ≤ 9223372036854775807) = true := decide_eq_true c29
          try have c29b2 : (9223372036854775807 < t186.size + t186.size) = False := eq_false (Nat.not_lt.2 c29)
          replace H := Option.bind_eq_some_iff.mp H
          obtain ⟨⟨t202, t203, t204⟩, A300, H⟩ := H
          replace H : (if 0 ≤ t202 then (if t202 ≤ 32 then (if (t186 ++ t186).size + ((⟨#[97, 97, 97, 97, 97, 97, 97, 97, 97, 97, 97, 97, 97, 97, 97, 97, 97, 97, 97, 97, 97, 97, 97, 97, 97, 97, 97, 97, 97, 97, 97, 97]⟩ : ByteArray).extract 0 (t202 : Int).toNat).size ≤ 9223372036854775807 then (some ((t186 ++ t186) ++ ((⟨#[97, 97, 97, 97, 97, 97, 97, 97, 97, 97, 97, 97, 97, 97, 97, 97, 97, 97, 97, 97, 97, 97, 97, 97, 97, 97, 97, 97, 97, 97, 97, 97]⟩ : ByteArray).extract 0 (t202 : Int).toNat), t203, t204)) else (none)) else (none)) else (none)) = some (r1, r2, r3) := H
          have A30 := Aside0.mk A300
          clear A300
          by_cases c31 : 0 ≤ t202
          · rw [if_pos c31] at H
            have c31b0 := eq_true c31
            have c31b1 : decide (0 ≤ t202) = true := decide_eq_true c31
            clear c31
            by_cases c32 : t202 ≤ 32
            · rw [if_pos c32] at H
              have c32b0 := eq_true c32
              have c32b1 : decide (t202 ≤ 32) = true := decide_eq_true c32
              clear c32
              by_cases c33 : (t186 ++ t186).size + ((⟨#[97, 97, 97, 97, 97, 97, 97, 97, 97, 97, 97, 97, 97, 97, 97, 97, 97, 97, 97, 97, 97, 97, 97, 97, 97, 97, 97, 97, 97, 97, 97, 97]⟩ : ByteArray).extract 0 (t202 : Int).toNat).size ≤ 9223372036854775807
              · rw [if_pos c33] at H
                have c33b0 := eq_true c33
                have c33b1 : decide ((t186 ++ t186).size + ((⟨#[97, 97, 97, 97, 97, 97, 97, 97, 97, 97, 97, 97, 97, 97, 97, 97, 97, 97, 97, 97, 97, 97, 97, 97, 97, 97, 97, 97, 97, 97, 97, 97]⟩ : ByteArray).extract 0 (t202 : Int).toNat).size ≤ 9223372036854775807) = true := decide_eq_true c33
                try have c33b2 : (9223372036854775807 < (t186 ++ t186).size + ((⟨#[97, 97, 97, 97, 97, 97, 97, 97, 97, 97, 97, 97, 97, 97, 97, 97, 97, 97, 97, 97, 97, 97, 97, 97, 97, 97, 97, 97, 97, 97, 97, 97]⟩ : ByteArray).extract 0 (t202 : Int).toNat).size) = False := eq_false (Nat.not_lt.2 c33)
                simp only [Option.some.injEq, Prod.mk.injEq] at H
                obtain ⟨rfl, rfl, rfl⟩ := H
                go_enter Try.func29, Try.ntmps29
                go_wp2_with (first | ((with_reducible refine gate_callee (f := 36) rfl ?_); refine goesL_ (some 6) rfl rfl Try.func36 (by kernel_rfl) rfl #[.pointer (some ⟨g, 0, none⟩)] rfl (by (try simp only [List.map_toArray, List.map_cons, List.map_nil]); first | done | rfl | (simp only [List.length_drop, List.length_take]; rfl)) ?_; (with_reducible refine (spec_l01Cur_word.calls k g s0_0 s0_1 s0_2 t186 t187 t188 w0 _ ?side1 ?side2 A2.out).mono ?_); (case side1 => repeat (first | (with_reducible first | exact HI0.out | apply IsS46.alloc | apply IsS46.drewN | apply IsS46.drew | apply IsS46.set_1 | apply IsS46.set_2) | exact HI0.out)); (case side2 => repeat (first | (with_reducible first | exact HB.out | apply below_alloc | apply pw_below_drewN | apply below_drew1 | refine below_set ?_ (IsS46.ge HI0.out)) | exact HB.out)); rintro e w34 ⟨rfl, hi, hb, hk⟩; refine ⟨_, rfl, ?_⟩; have n0_ := Aside0.mk (KeepBut.trans (by repeat (first | (with_reducible first | exact HK.out | apply KeepBut.set_ | apply keep_drewN | apply keep_drew | apply keep_alloc) | exact HK.out)) hk (.inl rfl)); have n1_ := Aside0.mk (hb); have n2_ := Aside0.mk (hi); clear HK; clear HB; clear HI0; have HK := n0_; have HB := n1_; have HI0 := n2_; clear n0_ n1_ n2_; (try clear hb); (try clear hb2); (try clear hk); (try clear hi)) | ((with_reducible refine gate_callee (f := 37) rfl ?_); refine goesL_ (some 8) rfl rfl Try.func37 (by kernel_rfl) rfl #[.pointer (some ⟨g, 0, none⟩), .int .i64 9] rfl (by (try simp only [List.map_toArray, List.map_cons, List.map_nil]); first | done | rfl | (simp only [List.length_drop, List.length_take]; rfl)) ?_; (with_reducible refine (spec_l01Cur_pick.calls g s0_0 t187 t188 9 t189 t190 t191 w0 _ ?side1 ?side2 A3.out).mono ?_); (case side1 => repeat (first | (with_reducible first | exact HI0.out | apply IsS46.alloc | apply IsS46.drewN | apply IsS46.drew | apply IsS46.set_1 | apply IsS46.set_2) | exact HI0.out)); (case side2 => repeat (first | (with_reducible first | exact HB.out | apply below_alloc | apply pw_below_drewN | apply below_drew1 | refine below_set ?_ (IsS46.ge HI0.out)) | exact HB.out)); rintro e w35 ⟨rfl, hi, hb, hk⟩; refine ⟨_, rfl, ?_⟩; have n0_ := Aside0.mk (KeepBut.trans (by repeat (first | (with_reducible first | exact HK.out | apply KeepBut.set_ | apply keep_drewN | apply keep_drew | apply keep_alloc) | exact HK.out)) hk (.inl rfl)); have n1_ := Aside0.mk (hb); have n2_ := Aside0.mk (hi); clear HK; clear HB; clear HI0; have HK := n0_; have HB := n1_; have HI0 := n2_; clear n0_ n1_ n2_; (try clear hb); (try clear hb2); (try clear hk); (try clear hi)) | ((with_reducible refine gate_callee (f := 37) rfl ?_); refine goesL_ (some 37) rfl rfl Try.func37 (by kernel_rfl) rfl #[.pointer (some ⟨g, 0, none⟩), .int .i64 33] rfl (by (try simp only [List.map_toArray, List.map_cons, List.map_nil]); first | done | rfl | (simp only [List.length_drop, List.length_take]; rfl)) ?_; (with_reducible refine (spec_l01Cur_pick.calls g s0_0 t190 t191 33 t202 t203 t204 w0 _ ?side1 ?side2 A30.out).mono ?_); (case side1 => repeat (first | (with_reducible first | exact HI0.out | apply IsS46.alloc | apply IsS46.drewN | apply IsS46.drew | apply IsS46.set_1 | apply IsS46.set_2) | exact HI0.out)); (case side2 => repeat (first | (with_reducible first | exact HB.out | apply below_alloc | apply pw_below_drewN | apply below_drew1 | refine below_set ?_ (IsS46.ge HI0.out)) | exact HB.out)); rintro e w36 ⟨rfl, hi, hb, hk⟩; refine ⟨_, rfl, ?_⟩; have n0_ := Aside0.mk (KeepBut.trans (by repeat (first | (with_reducible first | exact HK.out | apply KeepBut.set_ | apply keep_drewN | apply keep_drew | apply keep_alloc) | exact HK.out)) hk (.inl rfl)); have n1_ := Aside0.mk (hb); have n2_ := Aside0.mk (hi); clear HK; clear HB; clear HI0; have HK := n0_; have HB := n1_; have HI0 := n2_; clear n0_ n1_ n2_; (try clear hb); (try clear hb2); (try clear hk); (try clear hi)))
                go_ret
                exact ⟨by first | rfl | (simp [errW_none, errW_some] <;> rfl) | (simp [*, errW_none, errW_some] <;> rfl), by repeat (first | (with_reducible first | exact HI0.out | apply IsS46.alloc | apply IsS46.drewN | apply IsS46.drew | apply IsS46.set_1 | apply IsS46.set_2) | exact HI0.out), by repeat (first | (with_reducible first | exact HB.out | apply below_alloc | apply pw_below_drewN | apply below_drew1 | refine below_set ?_ (IsS46.ge HI0.out)) | exact HB.out), by repeat (first | (with_reducible first | exact HK.out | apply KeepBut.set_ | apply keep_drewN | apply keep_drew | apply keep_alloc) | exact HK.out)⟩
              · rw [if_neg c33] at H
                exact absurd H (by simp)
            · rw [if_neg c32] at H
              exact absurd H (by simp)
          · rw [if_neg c31] at H
            exact absurd H (by simp)
        · rw [if_neg c29] at H
          exact absurd H (by simp)
      · rw [if_neg c28] at H
        have c28b0 : (t189 == 2) = false := beq_eq_false_iff_ne.mpr c28
        have c28b1 : (t189 != 2) = true := bne_iff_ne.mpr c28
        simp only [Option.some.injEq, Prod.mk.injEq] at H
        obtain ⟨rfl, rfl, rfl⟩ := H
        go_enter Try.func29, Try.ntmps29
        go_wp2_with (first | ((with_reducible refine gate_callee (f := 36) rfl ?_); refine goesL_ (some 6) rfl rfl Try.func36 (by kernel_rfl) rfl #[.pointer (some ⟨g, 0, none⟩)] rfl (by (try simp only [List.map_toArray, List.map_cons, List.map_nil]); first | done | rfl | (simp only [List.length_drop, List.length_take]; rfl)) ?_; (with_reducible refine (spec_l01Cur_word.calls k g s0_0 s0_1 s0_2 t186 t187 t188 w0 _ ?side1 ?side2 A2.out).mono ?_); (case side1 => repeat (first | (with_reducible first | exact HI0.out | apply IsS46.alloc | apply IsS46.drewN | apply IsS46.drew | apply IsS46.set_1 | apply IsS46.set_2) | exact HI0.out)); (case side2 => repeat (first | (with_reducible first | exact HB.out | apply below_alloc | apply pw_below_drewN | apply below_drew1 | refine below_set ?_ (IsS46.ge HI0.out)) | exact HB.out)); rintro e w37 ⟨rfl, hi, hb, hk⟩; refine ⟨_, rfl, ?_⟩; have n0_ := Aside0.mk (KeepBut.trans (by repeat (first | (with_reducible first | exact HK.out | apply KeepBut.set_ | apply keep_drewN | apply keep_drew | apply keep_alloc) | exact HK.out)) hk (.inl rfl)); have n1_ := Aside0.mk (hb); have n2_ := Aside0.mk (hi); clear HK; clear HB; clear HI0; have HK := n0_; have HB := n1_; have HI0 := n2_; clear n0_ n1_ n2_; (try clear hb); (try clear hb2); (try clear hk); (try clear hi)) | ((with_reducible refine gate_callee (f := 37) rfl ?_); refine goesL_ (some 8) rfl rfl Try.func37 (by kernel_rfl) rfl #[.pointer (some ⟨g, 0, none⟩), .int .i64 9] rfl (by (try simp only [List.map_toArray, List.map_cons, List.map_nil]); first | done | rfl | (simp only [List.length_drop, List.length_take]; rfl)) ?_; (with_reducible refine (spec_l01Cur_pick.calls g s0_0 t187 t188 9 t189 t190 t191 w0 _ ?side1 ?side2 A3.out).mono ?_); (case side1 => repeat (first | (with_reducible first | exact HI0.out | apply IsS46.alloc | apply IsS46.drewN | apply IsS46.drew | apply IsS46.set_1 | apply IsS46.set_2) | exact HI0.out)); (case side2 => repeat (first | (with_reducible first | exact HB.out | apply below_alloc | apply pw_below_drewN | apply below_drew1 | refine below_set ?_ (IsS46.ge HI0.out)) | exact HB.out)); rintro e w38 ⟨rfl, hi, hb, hk⟩; refine ⟨_, rfl, ?_⟩; have n0_ := Aside0.mk (KeepBut.trans (by repeat (first | (with_reducible first | exact HK.out | apply KeepBut.set_ | apply keep_drewN | apply keep_drew | apply keep_alloc) | exact HK.out)) hk (.inl rfl)); have n1_ := Aside0.mk (hb); have n2_ := Aside0.mk (hi); clear HK; clear HB; clear HI0; have HK := n0_; have HB := n1_; have HI0 := n2_; clear n0_ n1_ n2_; (try clear hb); (try clear hb2); (try clear hk); (try clear hi)))
        go_ret
        exact ⟨by first | rfl | (simp [errW_none, errW_some] <;> rfl) | (simp [*, errW_none, errW_some] <;> rfl), by repeat (first | (with_reducible first | exact HI0.out | apply IsS46.alloc | apply IsS46.drewN | apply IsS46.drew | apply IsS46.set_1 | apply IsS46.set_2) | exact HI0.out), by repeat (first | (with_reducible first | exact HB.out | apply below_alloc | apply pw_below_drewN | apply below_drew1 | refine below_set ?_ (IsS46.ge HI0.out)) | exact HB.out), by repeat (first | (with_reducible first | exact HK.out | apply KeepBut.set_ | apply keep_drewN | apply keep_drew | apply keep_alloc) | exact HK.out)⟩

/-! ### spec_l01Cur_once: function 41 -/
def spec_l01Cur_once.f (s0_0 : List Int) (s0_1 : Int) (s0_2 : Int) (a1 : Int) : Option (Bool × Int × Int) := (spec_l01Cur_pick.f s0_0 s0_1 s0_2 a1).bind fun bt205 => (some ((bt205.1 == (wrap64 (a1 - 1))), bt205.2.1, bt205.2.2))
set_option maxHeartbeats 8000000 in
set_option maxRecDepth 100000 in
theorem spec_l01Cur_once.calls (g : Nat) (s0_0 : List Int) (s0_1 : Int) (s0_2 : Int) (a1 : Int) (r1 : Bool) (r2 : Int) (r3 : Int) (w0 w : World) (hI : IsS46 w0 w g s0_0 s0_1 s0_2) (hB : Below w0.heap.size w0 w) (h : spec_l01Cur_once.f s0_0 s0_1 s0_2 a1 = some (r1, r2, r3)) :
    Calls Try.prog 41 #[.pointer (some ⟨g, 0, none⟩), .int .i64 a1] w fun e w' => e = .returned (.bool r1) ∧ IsS46 w0 w' g s0_0 r2 r3 ∧ Below w0.heap.size w0 w' ∧ KeepBut w w' g none := by
  have HI0 := Aside0.mk hI
  have HK := Aside0.mk (KeepBut.refl w g none)
  have HL := Aside0.mk hB.size
  clear hI
  have HW0 := Aside0.mk hB.size
  have HB := Aside0.mk hB
  clear hB
  have H : ((spec_l01Cur_pick.f s0_0 s0_1 s0_2 a1).bind fun bt205 => (some ((bt205.1 == (wrap64 (a1 - 1))), bt205.2.1, bt205.2.2))) = some (r1, r2, r3) := h
  clear h
  replace H := Option.bind_eq_some_iff.mp H
  obtain ⟨⟨t205, t206, t207⟩, A30, H⟩ := H
  replace H : (some ((t205 == (wrap64 (a1 - 1))), t206, t207)) = some (r1, r2, r3) := H
  have A3 := Aside0.mk A30
  clear A30
  simp only [Option.some.injEq, Prod.mk.injEq] at H
  obtain ⟨rfl, rfl, rfl⟩ := H
  go_enter Try.func41, Try.ntmps41
  go_wp2_with (first | ((with_reducible refine gate_callee (f := 37) rfl ?_); refine goesL_ (some 7) rfl rfl Try.func37 (by kernel_rfl) rfl #[.pointer (some ⟨g, 0, none⟩), .int .i64 a1] rfl (by (try simp only [List.map_toArray, List.map_cons, List.map_nil]); first | done | rfl | (simp only [List.length_drop, List.length_take]; rfl)) ?_; (with_reducible refine (spec_l01Cur_pick.calls g s0_0 s0_1 s0_2 a1 t205 t206 t207 w0 _ ?side1 ?side2 A3.out).mono ?_); (case side1 => repeat (first | (with_reducible first | exact HI0.out | apply IsS46.alloc | apply IsS46.drewN | apply IsS46.drew | apply IsS46.set_1 | apply IsS46.set_2) | exact HI0.out)); (case side2 => repeat (first | (with_reducible first | exact HB.out | apply below_alloc | apply pw_below_drewN | apply below_drew1 | refine below_set ?_ (IsS46.ge HI0.out)) | exact HB.out)); rintro e w4 ⟨rfl, hi, hb, hk⟩; refine ⟨_, rfl, ?_⟩; have n0_ := Aside0.mk (KeepBut.trans (by repeat (first | (with_reducible first | exact HK.out | apply KeepBut.set_ | apply keep_drewN | apply keep_drew | apply keep_alloc) | exact HK.out)) hk (.inl rfl)); have n1_ := Aside0.mk (hb); have n2_ := Aside0.mk (hi); clear HK; clear HB; clear HI0; have HK := n0_; have HB := n1_; have HI0 := n2_; clear n0_ n1_ n2_; (try clear hb); (try clear hb2); (try clear hk); (try clear hi)))
  go_ret
  exact ⟨by first | rfl | (simp [errW_none, errW_some] <;> rfl) | (simp [*, errW_none, errW_some] <;> rfl), by repeat (first | (with_reducible first | exact HI0.out | apply IsS46.alloc | apply IsS46.drewN | apply IsS46.drew | apply IsS46.set_1 | apply IsS46.set_2) | exact HI0.out), by repeat (first | (with_reducible first | exact HB.out | apply below_alloc | apply pw_below_drewN | apply below_drew1 | refine below_set ?_ (IsS46.ge HI0.out)) | exact HB.out), by repeat (first | (with_reducible first | exact HK.out | apply KeepBut.set_ | apply keep_drewN | apply keep_drew | apply keep_alloc) | exact HK.out)⟩

end Go.Proofs.Ytbibgmmoompoiaa.PFnMyers
