/- The functions that the law FnMemBook reaches, as plain Lean functions, and the walks that show that Go comes to their answers; part 10. Its lines are the print's, turned where Lean refused them. -/
import Derived.Test.YtoceiaaigiflpaaDoorQFnMemBookx0
import Derived.Test.YtoceiaaigiflpaaDoorQFnMemBookx2
import Derived.Test.YtoceiaaigiflpaaDoorQFnMemBookx5
import Derived.Test.YtoceiaaigiflpaaDoorQFnMemBookx6
import Derived.Test.YtoceiaaigiflpaaDoorQFnMemBookx7
import Derived.Test.YtoceiaaigiflpaaDoorQFnMemBookx9
namespace Go.Proofs.YtoceiaaigiflpaaDoor.PFnMemBook
open Go.RowKit Go.Proofs.YtoceiaaigiflpaaDoorW.PrintWords Go.Proofs.YtoceiaaigiflpaaDoorW.PrintLast Go.Proofs.YtoceiaaigiflpaaDoorW.PrintMore
attribute [local go_sem] max2_int min2_int max_two min_two max_three min_three max_four min_four   -- for this text's walks alone
set_option linter.unusedVariables false
set_option linter.unusedSimpArgs false

/-! ### laws_FnMemBook: function 3 -/
mutual
def laws_FnMemBook.l0 : Nat → List Int → Int → Int → List ByteArray → List (S35) → Int → Int → List (S56) → List (S35) → Option (Bool)
 | 0, _, _, _, _, _, _, _, _, _ => none
 | k + 1, x0, x3, x4, x6, x7, x8, x224000, x224001, x224002 => if x8 < x3 then (if 0 ≤ x4 then (if (x4 : Int).toNat ≤ 281474976710656 then (if 0 ≤ x8 then (if x8 < (x6.length : Int) then (laws_FnMemBook.l0 k x0 x3 x4 (x6.set (x8 : Int).toNat (strOfNums (List.replicate (x4 : Int).toNat 0))) x7 (wrap64 (x8 + 1)) x224000 x224001 x224002) else (none)) else (none)) else (none)) else (none)) else (laws_FnMemBook.l1 k x0 x3 x4 x6 x7 0 x224000 x224001 x224002)
def laws_FnMemBook.l1 : Nat → List Int → Int → Int → List ByteArray → List (S35) → Int → Int → List (S56) → List (S35) → Option (Bool)
 | 0, _, _, _, _, _, _, _, _, _ => none
 | k + 1, x0, x3, x4, x6, x7, x9, x224000, x224001, x224002 => if x9 < (mn 40 (x0.length : Int)) then ((laws_pick.f k x0 x9 (wrap64 (x3 + 1))).bind fun t234 => ((laws_pick.f k x0 (wrap64 (x9 + 3)) 2).bind fun t235 => (if t235 = 0 then (laws_FnMemBook.l2 k x0 x3 x4 x6 x7 x9 t234 (([] : List Int)) x224000 x224001 x224002) else ((impl_MemRead.f x224000 x224001 x224002 t234).bind fun bt259 => (if ((bt259.2.2.2.2 == 0) != (decide (t234 < x3))) = true then (laws_FnMemBook.j4 k x0 x3 x4 x6 x7 x9 t234 true x224000 x224001 x224002 bt259.1 bt259.2.1 bt259.2.2.1) else (if t234 < x3 then (if 0 ≤ t234 then (if t234 < (x6.length : Int) then (laws_FnMemBook.j4 k x0 x3 x4 x6 x7 x9 t234 ((strOfNums bt259.2.2.2.1).toList != (rdOf ByteArray.empty x6 t234).toList) x224000 x224001 x224002 bt259.1 bt259.2.1 bt259.2.2.1) else (none)) else (none)) else (laws_FnMemBook.j4 k x0 x3 x4 x6 x7 x9 t234 false x224000 x224001 x224002 bt259.1 bt259.2.1 bt259.2.2.1))))))) else (laws_FnMemBook.l3 k x3 x6 x7 (⟨#[]⟩ : ByteArray) 0 x224000 x224001 x224002)
def laws_FnMemBook.l2 : Nat → List Int → Int → Int → List ByteArray → List (S35) → Int → Int → List Int → Int → List (S56) → List (S35) → Option (Bool)
 | 0, _, _, _, _, _, _, _, _, _, _, _ => none
 | k + 1, x0, x3, x4, x6, x7, x9, x10, x11, x224000, x224001, x224002 => if (x11.length : Int) < x4 then ((laws_pick.f k x0 (wrap64 ((wrap64 (x9 + (x11.length : Int))) + 5)) 256).bind fun t239 => (if x11.length < 140737488355328 then (laws_FnMemBook.l2 k x0 x3 x4 x6 x7 x9 x10 (x11 ++ [(t239) % 256]) x224000 x224001 x224002) else (none))) else ((laws_bytesOf.f x11).bind fun t243 => ((impl_MemWrite.f x224000 x224001 x224002 x10 t243).bind fun bt246 => (if ((bt246.2.2.2 == 0) != (decide (x10 < x3))) = true then (laws_FnMemBook.j3 k x0 x3 x4 x6 x7 x9 x10 x11 true x224000 x224001 x224002 bt246.1 bt246.2.1 bt246.2.2.1) else (if x10 = x3 then (laws_FnMemBook.j3 k x0 x3 x4 x6 x7 x9 x10 x11 (bt246.2.2.2 != 2) x224000 x224001 x224002 bt246.1 bt246.2.1 bt246.2.2.1) else (laws_FnMemBook.j3 k x0 x3 x4 x6 x7 x9 x10 x11 false x224000 x224001 x224002 bt246.1 bt246.2.1 bt246.2.2.1)))))
def laws_FnMemBook.j3 : Nat → List Int → Int → Int → List ByteArray → List (S35) → Int → Int → List Int → Bool → Int → List (S56) → List (S35) → Int → List (S56) → List (S35) → Option (Bool)
 | 0, _, _, _, _, _, _, _, _, _, _, _, _, _, _, _ => none
 | k + 1, x0, x3, x4, x6, x7, x9, x10, x11, x102, x224000, x224001, x224002, x255000, x255001, x255002 => if x102 = true then (some false) else (if x10 < x3 then (if 0 ≤ x10 then (if x10 < (x6.length : Int) then (if x7.length < 5864062014805 then (laws_FnMemBook.l1 k x0 x3 x4 (x6.set (x10 : Int).toNat (strOfNums x11)) (x7 ++ [(⟨2, x10, x4⟩ : S35)]) (wrap64 (x9 + 1)) x255000 x255001 x255002) else (none)) else (none)) else (none)) else (laws_FnMemBook.l1 k x0 x3 x4 x6 x7 (wrap64 (x9 + 1)) x224000 x224001 x224002))
def laws_FnMemBook.j4 : Nat → List Int → Int → Int → List ByteArray → List (S35) → Int → Int → Bool → Int → List (S56) → List (S35) → Int → List (S56) → List (S35) → Option (Bool)
 | 0, _, _, _, _, _, _, _, _, _, _, _, _, _, _ => none
 | k + 1, x0, x3, x4, x6, x7, x9, x10, x144, x224000, x224001, x224002, x271000, x271001, x271002 => if x144 = true then (some false) else (if x10 < x3 then (if x7.length < 5864062014805 then (laws_FnMemBook.l1 k x0 x3 x4 x6 (x7 ++ [(⟨1, x10, x4⟩ : S35)]) (wrap64 (x9 + 1)) x271000 x271001 x271002) else (none)) else (laws_FnMemBook.l1 k x0 x3 x4 x6 x7 (wrap64 (x9 + 1)) x224000 x224001 x224002))
def laws_FnMemBook.l3 : Nat → Int → List ByteArray → List (S35) → ByteArray → Int → Int → List (S56) → List (S35) → Option (Bool)
 | 0, _, _, _, _, _, _, _, _ => none
 | k + 1, x3, x6, x7, x17, x18, x224000, x224001, x224002 => if x18 < x3 then (if 0 ≤ x18 then (if x18 < (x6.length : Int) then (if x17.size + (rdOf ByteArray.empty x6 x18).size ≤ 9223372036854775807 then (laws_FnMemBook.l3 k x3 x6 x7 (x17 ++ (rdOf ByteArray.empty x6 x18)) (wrap64 (x18 + 1)) x224000 x224001 x224002) else (none)) else (none)) else (none)) else ((impl_MemSweep.f x224000 x224001 x224002).bind fun bt276 => (if bt276.2.2.2.2 = 0 then (if (strOfNums bt276.2.2.2.1).toList = x17.toList then ((laws_sameLog.f k x224002 x7).bind fun t288 => (if t288 = true then ((impl_TouchText.f k x224002).bind fun t289 => ((spec_TouchText.f k x7).bind fun t290 => (some (t289.toList == t290.toList)))) else (some false))) else (some false)) else (some false)))
end
def laws_FnMemBook.f (k : Nat) (l0 : List Int) : Option (Bool) := (laws_big.f l0).bind fun t213 => (if t213 = true then (some true) else ((laws_pick.f k l0 1 6).bind fun t214 => ((laws_pick.f k l0 2 4).bind fun t215 => ((impl_MemNew.f k (wrap64 (1 + t214)) (wrap64 (1 + t215))).bind fun bt216 => (if 0 ≤ (wrap64 (1 + t214)) then (if (wrap64 (1 + t214) : Int).toNat ≤ 17592186044416 then (laws_FnMemBook.l0 k l0 (wrap64 (1 + t214)) (wrap64 (1 + t215)) (List.replicate (wrap64 (1 + t214) : Int).toNat (⟨#[]⟩ : ByteArray)) (([] : List (S35))) 0 bt216.1 bt216.2.1 bt216.2.2) else (none)) else (none))))))
def laws_FnMemBook.T20 : Bool × List (List Nat × List Nat) := (true, [([], []), ([], []), ([], []), ([2], [2]), ([0, 1, 3, 3], [0, 1, 3]), ([4], [4]), ([5], [5]), ([5], [5]), ([], []), ([8, 6, 4, 0, 1, 2, 3, 4, 5, 6, 8], [6, 8]), ([7, 9, 0, 1, 2, 3, 4, 5, 6, 7, 8, 9], [7])])
def laws_FnMemBook.B20 : List Nat := [0, 0, 0, 4, 15, 31, 63, 63, 0, 383, 1023]
theorem laws_FnMemBook.tab20 : rtab .any (opsOf Tryd.f3 20) = laws_FnMemBook.T20 := by kernel_rfl
theorem laws_FnMemBook.bits20 : waitsOk laws_FnMemBook.T20.2 laws_FnMemBook.B20 = true := by kernel_rfl
def laws_FnMemBook.T28 : Bool × List (List Nat × List Nat) := (true, [([], []), ([0], [0]), ([], []), ([], []), ([2, 3], [2, 3]), ([1, 4], [1, 4]), ([5], [5]), ([6], [6]), ([6], [6]), ([7, 8, 6], [6, 7, 8]), ([9, 6, 6], [6, 9]), ([10], [10]), ([11, 10], [10, 11]), ([10], [10]), ([10], [10]), ([13, 14, 10], [10, 13, 14]), ([15, 10], [10, 15]), ([12, 16, 10], [10, 12, 16]), ([10, 17, 6], [6, 10, 17]), ([6, 18], [6, 18])])
def laws_FnMemBook.B28 : List Nat := [0, 1, 0, 0, 12, 31, 63, 127, 127, 511, 1023, 2047, 4095, 2047, 2047, 26623, 59391, 131071, 262143, 524287]
theorem laws_FnMemBook.tab28 : rtab .any (opsOf Tryd.f3 28) = laws_FnMemBook.T28 := by kernel_rfl
theorem laws_FnMemBook.bits28 : waitsOk laws_FnMemBook.T28.2 laws_FnMemBook.B28 = true := by kernel_rfl

end Go.Proofs.YtoceiaaigiflpaaDoor.PFnMemBook
