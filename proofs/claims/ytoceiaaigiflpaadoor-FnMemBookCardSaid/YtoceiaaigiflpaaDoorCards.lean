/-
  DERIVED. GIVEN WITH THE SEED: THE CARDS: each row of YtoceiaaigiflpaaDoorRows.lean that lists a variable, with what it lists TIED to the program's text (the seventh form; the later family's looks); each row that meets fmt, with fmt's text TOLD by the authors' own Lean function (tested against real Go, not proved from fmt's source: count such statements apart). THE CARD IS WHAT COUNTS. Prove the row's statement (the work); the ties are given (YtoceiaaigiflpaaDoorTie.lean); close each card by the builder's one call (the guide's Derived/Test/ToyasCard.lean, 'card_holds'). Laid BY PROGRAM, IN A SANDBOX (cutbox-door.mjs). By AI agents, Wed Nov 11 2026. No macro, syntax, notation, axiom, sorry.
-/
import Derived.Test.YtoceiaaigiflpaaDoorRows
import GoSem.ClaimSeven
namespace Go.Proofs.YtoceiaaigiflpaaDoor
namespace Rows

/-- THE TIED CARD OF 'laws.FnMemBook'. -/
def fnMemBookCard : Claim7 := { stood := { row := fnMemBookRow, standIns := [], harness := (true, "d06e45631818e2d11541fbb5317d932f87396ac1ce9a3532e70a8eed5a8a8e99"), looks := false }, kinds := [], alts := [], laidByText := true, laidKinds := [.data, .data, .data], laidTests := true, laidLooks := .later }
def FnMemBookCardSaid : Prop := Claim7.holds Tryd.pinned (.plain (OpenSpec.ofChange fnMemBookSpec)) fnMemBookCard

/-- THE TIED CARD OF 'laws.FnExactTouchText'. -/
def fnExactTouchTextCard : Claim7 := { stood := { row := fnExactTouchTextRow, standIns := [], harness := (true, "d06e45631818e2d11541fbb5317d932f87396ac1ce9a3532e70a8eed5a8a8e99"), looks := false }, kinds := [], alts := [], laidByText := true, laidKinds := [.data, .data, .data], laidTests := true, laidLooks := .later }
def FnExactTouchTextCardSaid : Prop := Claim7.holds Tryd.pinned (.plain (OpenSpec.ofChange fnExactTouchTextSpec)) fnExactTouchTextCard

/-- THE SECOND FORM's CARD OF 'laws.FnMemBook'. -/
def fnMemBookUptoCard : Claim7 := { stood := { row := fnMemBookUptoRow, standIns := [], harness := (true, "d06e45631818e2d11541fbb5317d932f87396ac1ce9a3532e70a8eed5a8a8e99"), looks := false }, kinds := [], alts := [], laidByText := true, laidKinds := [.data, .data, .data], laidTests := true, laidLooks := .later }
def FnMemBookUptoCardSaid : Prop := Claim7.holds Tryd.pinned (.plain (OpenSpec.upto fnMemBookSpec)) fnMemBookUptoCard

/-- THE SECOND FORM's CARD OF 'laws.FnExactTouchText'. -/
def fnExactTouchTextUptoCard : Claim7 := { stood := { row := fnExactTouchTextUptoRow, standIns := [], harness := (true, "d06e45631818e2d11541fbb5317d932f87396ac1ce9a3532e70a8eed5a8a8e99"), looks := false }, kinds := [], alts := [], laidByText := true, laidKinds := [.data, .data, .data], laidTests := true, laidLooks := .later }
def FnExactTouchTextUptoCardSaid : Prop := Claim7.holds Tryd.pinned (.plain (OpenSpec.upto fnExactTouchTextSpec)) fnExactTouchTextUptoCard
end Rows
end Go.Proofs.YtoceiaaigiflpaaDoor
