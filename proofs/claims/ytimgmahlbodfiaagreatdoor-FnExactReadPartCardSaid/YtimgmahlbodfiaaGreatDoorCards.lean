/-
  DERIVED. GIVEN WITH THE SEED: THE CARDS: each row of YtimgmahlbodfiaaGreatDoorRows.lean that lists a variable, with what it lists TIED to the program's text (the seventh form; the later family's looks); each row that meets fmt, with fmt's text TOLD by the authors' own Lean function (tested against real Go, not proved from fmt's source: count such statements apart). THE CARD IS WHAT COUNTS. Prove the row's statement (the work); the ties are given (YtimgmahlbodfiaaGreatDoorTie.lean); close each card by the builder's one call (the guide's Derived/Test/ToyasCard.lean, 'card_holds'). Laid BY PROGRAM, IN A SANDBOX (cutbox-door.mjs). By AI agents, Wed Nov 11 2026. No macro, syntax, notation, axiom, sorry.
-/
import Derived.Test.YtimgmahlbodfiaaGreatDoorRows
import GoSem.ClaimSeven
namespace Go.Proofs.YtimgmahlbodfiaaGreatDoor
namespace Rows

/-- THE TIED CARD OF 'laws.FnExactReadPart'. -/
def fnExactReadPartCard : Claim7 := { stood := { row := fnExactReadPartRow, standIns := [], harness := (true, "201388bc228fb3601e6103ce68b31c9b16e46e778b60fc5432dff3b0dcbedb4e"), looks := false }, kinds := [], alts := [], laidByText := true, laidKinds := [.data, .pinned], laidTests := true, laidLooks := .later }
def FnExactReadPartCardSaid : Prop := Claim7.holds Tryz.pinned (.plain (OpenSpec.ofChange fnExactReadPartSpec)) fnExactReadPartCard

/-- THE TIED CARD OF 'laws.FnNewSenders'. -/
def fnNewSendersCard : Claim7 := { stood := { row := fnNewSendersRow, standIns := [], harness := (true, "201388bc228fb3601e6103ce68b31c9b16e46e778b60fc5432dff3b0dcbedb4e"), looks := false }, kinds := [], alts := [], laidByText := true, laidKinds := [.data, .pinned], laidTests := true, laidLooks := .later }
def FnNewSendersCardSaid : Prop := Claim7.holds Tryz.pinned (.plain (OpenSpec.ofChange fnNewSendersSpec)) fnNewSendersCard

/-- THE SECOND FORM's CARD OF 'laws.FnExactReadPart'. -/
def fnExactReadPartUptoCard : Claim7 := { stood := { row := fnExactReadPartUptoRow, standIns := [], harness := (true, "201388bc228fb3601e6103ce68b31c9b16e46e778b60fc5432dff3b0dcbedb4e"), looks := false }, kinds := [], alts := [], laidByText := true, laidKinds := [.data, .pinned], laidTests := true, laidLooks := .later }
def FnExactReadPartUptoCardSaid : Prop := Claim7.holds Tryz.pinned (.plain (OpenSpec.upto fnExactReadPartSpec)) fnExactReadPartUptoCard

/-- THE SECOND FORM's CARD OF 'laws.FnNewSenders'. -/
def fnNewSendersUptoCard : Claim7 := { stood := { row := fnNewSendersUptoRow, standIns := [], harness := (true, "201388bc228fb3601e6103ce68b31c9b16e46e778b60fc5432dff3b0dcbedb4e"), looks := false }, kinds := [], alts := [], laidByText := true, laidKinds := [.data, .pinned], laidTests := true, laidLooks := .later }
def FnNewSendersUptoCardSaid : Prop := Claim7.holds Tryz.pinned (.plain (OpenSpec.upto fnNewSendersSpec)) fnNewSendersUptoCard
end Rows
end Go.Proofs.YtimgmahlbodfiaaGreatDoor
