/-
  DERIVED. GIVEN WITH THE SEED: THE CARDS: each row of YtflbnknbknbomaaDoorRows.lean that lists a variable, with what it lists TIED to the program's text (the seventh form; the later family's looks); each row that meets fmt, with fmt's text TOLD by the authors' own Lean function (tested against real Go, not proved from fmt's source: count such statements apart). THE CARD IS WHAT COUNTS. Prove the row's statement (the work); the ties are given (YtflbnknbknbomaaDoorTie.lean); close each card by the builder's one call (the guide's Derived/Test/ToyasCard.lean, 'card_holds'). Laid BY PROGRAM, IN A SANDBOX (cutbox-door.mjs). By AI agents, Wed Nov 11 2026. No macro, syntax, notation, axiom, sorry.
-/
import Derived.Test.YtflbnknbknbomaaDoorRows
import GoSem.ClaimSeven
namespace Go.Proofs.YtflbnknbknbomaaDoor
namespace Rows

/-- THE TIED CARD OF 'laws.FnExactLowBit'. -/
def fnExactLowBitCard : Claim7 := { stood := { row := fnExactLowBitRow, standIns := [], harness := (true, "1061db160545d4f55af2223b6efc6107347030c215b7cee6c0cfd002adccdaeb"), looks := false }, kinds := [], alts := [], laidByText := true, laidKinds := [.data], laidTests := true, laidLooks := .later }
def FnExactLowBitCardSaid : Prop := Claim7.holds Tryd.pinned (.plain (OpenSpec.ofChange fnExactLowBitSpec)) fnExactLowBitCard

/-- THE TIED CARD OF 'laws.FnMaskBits'. -/
def fnMaskBitsCard : Claim7 := { stood := { row := fnMaskBitsRow, standIns := [], harness := (true, "1061db160545d4f55af2223b6efc6107347030c215b7cee6c0cfd002adccdaeb"), looks := false }, kinds := [], alts := [], laidByText := true, laidKinds := [.data], laidTests := true, laidLooks := .later }
def FnMaskBitsCardSaid : Prop := Claim7.holds Tryd.pinned (.plain (OpenSpec.ofChange fnMaskBitsSpec)) fnMaskBitsCard

/-- THE SECOND FORM's CARD OF 'laws.FnExactLowBit'. -/
def fnExactLowBitUptoCard : Claim7 := { stood := { row := fnExactLowBitUptoRow, standIns := [], harness := (true, "1061db160545d4f55af2223b6efc6107347030c215b7cee6c0cfd002adccdaeb"), looks := false }, kinds := [], alts := [], laidByText := true, laidKinds := [.data], laidTests := true, laidLooks := .later }
def FnExactLowBitUptoCardSaid : Prop := Claim7.holds Tryd.pinned (.plain (OpenSpec.upto fnExactLowBitSpec)) fnExactLowBitUptoCard

/-- THE SECOND FORM's CARD OF 'laws.FnMaskBits'. -/
def fnMaskBitsUptoCard : Claim7 := { stood := { row := fnMaskBitsUptoRow, standIns := [], harness := (true, "1061db160545d4f55af2223b6efc6107347030c215b7cee6c0cfd002adccdaeb"), looks := false }, kinds := [], alts := [], laidByText := true, laidKinds := [.data], laidTests := true, laidLooks := .later }
def FnMaskBitsUptoCardSaid : Prop := Claim7.holds Tryd.pinned (.plain (OpenSpec.upto fnMaskBitsSpec)) fnMaskBitsUptoCard
end Rows
end Go.Proofs.YtflbnknbknbomaaDoor
