/-
  DERIVED. GIVEN WITH THE SEED: THE CARDS: each row of YtclhghlpokdiiaaDoorRows.lean that lists a variable, with what it lists TIED to the program's text (the seventh form; the later family's looks); each row that meets fmt, with fmt's text TOLD by the authors' own Lean function (tested against real Go, not proved from fmt's source: count such statements apart). THE CARD IS WHAT COUNTS. Prove the row's statement (the work); the ties are given (YtclhghlpokdiiaaDoorTie.lean); close each card by the builder's one call (the guide's Derived/Test/ToyasCard.lean, 'card_holds'). Laid BY PROGRAM, IN A SANDBOX (cutbox-door.mjs). By AI agents, Wed Nov 11 2026. No macro, syntax, notation, axiom, sorry.
-/
import Derived.Test.YtclhghlpokdiiaaDoorRows
import GoSem.ClaimSeven
namespace Go.Proofs.YtclhghlpokdiiaaDoor
namespace Rows

/-- THE TIED CARD OF 'laws.FnExactDecodeValues'. -/
def fnExactDecodeValuesCard : Claim7 := { stood := { row := fnExactDecodeValuesRow, standIns := [], harness := (true, "505b47e7cdd13043e4144ec8706a00a953e99602fbc1dd03b1b779b84018a305"), looks := false }, kinds := [], alts := [], laidByText := true, laidKinds := [.data, .pinned], laidTests := true, laidLooks := .later }
def FnExactDecodeValuesCardSaid : Prop := Claim7.holds Tryd.pinned (.plain (OpenSpec.ofChange fnExactDecodeValuesSpec)) fnExactDecodeValuesCard

/-- THE TIED CARD OF 'laws.FnRanges'. -/
def fnRangesCard : Claim7 := { stood := { row := fnRangesRow, standIns := [], harness := (true, "505b47e7cdd13043e4144ec8706a00a953e99602fbc1dd03b1b779b84018a305"), looks := false }, kinds := [], alts := [], laidByText := true, laidKinds := [.data, .pinned], laidTests := true, laidLooks := .later }
def FnRangesCardSaid : Prop := Claim7.holds Tryd.pinned (.plain (OpenSpec.ofChange fnRangesSpec)) fnRangesCard

/-- THE TIED CARD OF 'laws.FnValues'. -/
def fnValuesCard : Claim7 := { stood := { row := fnValuesRow, standIns := [], harness := (true, "505b47e7cdd13043e4144ec8706a00a953e99602fbc1dd03b1b779b84018a305"), looks := false }, kinds := [], alts := [], laidByText := true, laidKinds := [.data, .pinned], laidTests := true, laidLooks := .later }
def FnValuesCardSaid : Prop := Claim7.holds Tryd.pinned (.plain (OpenSpec.ofChange fnValuesSpec)) fnValuesCard

/-- THE SECOND FORM's CARD OF 'laws.FnExactDecodeValues'. -/
def fnExactDecodeValuesUptoCard : Claim7 := { stood := { row := fnExactDecodeValuesUptoRow, standIns := [], harness := (true, "505b47e7cdd13043e4144ec8706a00a953e99602fbc1dd03b1b779b84018a305"), looks := false }, kinds := [], alts := [], laidByText := true, laidKinds := [.data, .pinned], laidTests := true, laidLooks := .later }
def FnExactDecodeValuesUptoCardSaid : Prop := Claim7.holds Tryd.pinned (.plain (OpenSpec.upto fnExactDecodeValuesSpec)) fnExactDecodeValuesUptoCard

/-- THE SECOND FORM's CARD OF 'laws.FnRanges'. -/
def fnRangesUptoCard : Claim7 := { stood := { row := fnRangesUptoRow, standIns := [], harness := (true, "505b47e7cdd13043e4144ec8706a00a953e99602fbc1dd03b1b779b84018a305"), looks := false }, kinds := [], alts := [], laidByText := true, laidKinds := [.data, .pinned], laidTests := true, laidLooks := .later }
def FnRangesUptoCardSaid : Prop := Claim7.holds Tryd.pinned (.plain (OpenSpec.upto fnRangesSpec)) fnRangesUptoCard

/-- THE SECOND FORM's CARD OF 'laws.FnValues'. -/
def fnValuesUptoCard : Claim7 := { stood := { row := fnValuesUptoRow, standIns := [], harness := (true, "505b47e7cdd13043e4144ec8706a00a953e99602fbc1dd03b1b779b84018a305"), looks := false }, kinds := [], alts := [], laidByText := true, laidKinds := [.data, .pinned], laidTests := true, laidLooks := .later }
def FnValuesUptoCardSaid : Prop := Claim7.holds Tryd.pinned (.plain (OpenSpec.upto fnValuesSpec)) fnValuesUptoCard
end Rows
end Go.Proofs.YtclhghlpokdiiaaDoor
