/-
  DERIVED. GIVEN WITH THE SEED: THE CARDS: each row of YtimgmahlbodfiaaDoorRows.lean that lists a variable, with what it lists TIED to the program's text (the seventh form; the later family's looks); each row that meets fmt, with fmt's text TOLD by the authors' own Lean function (tested against real Go, not proved from fmt's source: count such statements apart). THE CARD IS WHAT COUNTS. Prove the row's statement (the work); the ties are given (YtimgmahlbodfiaaDoorTie.lean); close each card by the builder's one call (the guide's Derived/Test/ToyasCard.lean, 'card_holds'). Laid BY PROGRAM, IN A SANDBOX (cutbox-door.mjs). By AI agents, Wed Nov 11 2026. No macro, syntax, notation, axiom, sorry.
-/
import Derived.Test.YtimgmahlbodfiaaDoorRows
import GoSem.ClaimSeven
namespace Go.Proofs.YtimgmahlbodfiaaDoor
namespace Rows

/-- THE TIED CARD OF 'laws.FnTellings'. -/
def fnTellingsCard : Claim7 := { stood := { row := fnTellingsRow, standIns := [], harness := (true, "de166c4430e0e28bd0b5a6ae526644715268a0efd46151227be7f756724d878a"), looks := true }, kinds := [], alts := [], laidByText := true, laidKinds := [.data, .data, .data, .data, .sentinel, .sentinel, .widerDeep, .pinned], laidTests := true, laidLooks := .later }
def FnTellingsCardSaid : Prop := Claim7.holds Tryd.pinned (.plain (OpenSpec.ofChange fnTellingsSpec)) fnTellingsCard

/-- THE SECOND FORM's CARD OF 'laws.FnTellings'. -/
def fnTellingsUptoCard : Claim7 := { stood := { row := fnTellingsUptoRow, standIns := [], harness := (true, "de166c4430e0e28bd0b5a6ae526644715268a0efd46151227be7f756724d878a"), looks := true }, kinds := [], alts := [], laidByText := true, laidKinds := [.data, .data, .data, .data, .sentinel, .sentinel, .widerDeep, .pinned], laidTests := true, laidLooks := .later }
def FnTellingsUptoCardSaid : Prop := Claim7.holds Tryd.pinned (.plain (OpenSpec.upto fnTellingsSpec)) fnTellingsUptoCard
end Rows
end Go.Proofs.YtimgmahlbodfiaaDoor
