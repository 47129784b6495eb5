/-
  DERIVED. GIVEN WITH THE SEED: THE CARDS: each row of YtpioljlgmhehhaaDoorRows.lean that lists a variable, with what it lists TIED to the program's text (the seventh form; the later family's looks); each row that meets fmt, with fmt's text TOLD by the authors' own Lean function (tested against real Go, not proved from fmt's source: count such statements apart). THE CARD IS WHAT COUNTS. Prove the row's statement (the work); the ties are given (YtpioljlgmhehhaaDoorTie.lean); close each card by the builder's one call (the guide's Derived/Test/ToyasCard.lean, 'card_holds'). Laid BY PROGRAM, IN A SANDBOX (cutbox-door.mjs). By AI agents, Wed Nov 11 2026. No macro, syntax, notation, axiom, sorry.
-/
import Derived.Test.YtpioljlgmhehhaaDoorRows
import GoSem.ClaimSeven
namespace Go.Proofs.YtpioljlgmhehhaaDoor
namespace Rows

/-- THE TIED CARD OF 'laws.FnExactWordsOf'. -/
def fnExactWordsOfCard : Claim7 := { stood := { row := fnExactWordsOfRow, standIns := [], harness := (true, "1ff31df682f1e465cb8d04bedc8738db0f80a65741632cfe77ac2e7c34e0e5a7"), looks := true }, kinds := [], alts := [], laidByText := true, laidKinds := [.data, .pinned], laidTests := true, laidLooks := .later }
def FnExactWordsOfCardSaid : Prop := Claim7.holds Tryd.pinned (.plain (OpenSpec.ofChange fnExactWordsOfSpec)) fnExactWordsOfCard

/-- THE TIED CARD OF 'laws.FnExactFateText'. -/
def fnExactFateTextCard : Claim7 := { stood := { row := fnExactFateTextRow, standIns := [], harness := (true, "1ff31df682f1e465cb8d04bedc8738db0f80a65741632cfe77ac2e7c34e0e5a7"), looks := true }, kinds := [], alts := [], laidByText := true, laidKinds := [.data, .data, .data, .widerDeep], laidTests := true, laidLooks := .later }
def FnExactFateTextCardSaid : Prop := Claim7.holds Tryd.pinned (.plain (OpenSpec.ofChange fnExactFateTextSpec)) fnExactFateTextCard

/-- THE TIED CARD OF 'laws.FnExactReadNumber'. -/
def fnExactReadNumberCard : Claim7 := { stood := { row := fnExactReadNumberRow, standIns := [], harness := (true, "1ff31df682f1e465cb8d04bedc8738db0f80a65741632cfe77ac2e7c34e0e5a7"), looks := true }, kinds := [], alts := [], laidByText := true, laidKinds := [.data, .data, .data, .sentinel, .sentinel], laidTests := true, laidLooks := .later }
def FnExactReadNumberCardSaid : Prop := Claim7.holds Tryd.pinned (.plain (OpenSpec.ofChange fnExactReadNumberSpec)) fnExactReadNumberCard

/-- THE TIED CARD OF 'laws.FnExactReadFate'. -/
def fnExactReadFateCard : Claim7 := { stood := { row := fnExactReadFateRow, standIns := [], harness := (true, "1ff31df682f1e465cb8d04bedc8738db0f80a65741632cfe77ac2e7c34e0e5a7"), looks := true }, kinds := [], alts := [], laidByText := true, laidKinds := [.data, .data, .data, .data, .sentinel, .sentinel, .widerDeep, .pinned], laidTests := true, laidLooks := .later }
def FnExactReadFateCardSaid : Prop := Claim7.holds Tryd.pinned (.plain (OpenSpec.ofChange fnExactReadFateSpec)) fnExactReadFateCard

/-- THE TIED CARD OF 'laws.FnTellings'. -/
def fnTellingsCard : Claim7 := { stood := { row := fnTellingsRow, standIns := [], harness := (true, "1ff31df682f1e465cb8d04bedc8738db0f80a65741632cfe77ac2e7c34e0e5a7"), looks := true }, kinds := [], alts := [], laidByText := true, laidKinds := [.data, .data, .data, .data, .sentinel, .sentinel, .widerDeep, .pinned], laidTests := true, laidLooks := .later }
def FnTellingsCardSaid : Prop := Claim7.holds Tryd.pinned (.plain (OpenSpec.ofChange fnTellingsSpec)) fnTellingsCard

/-- THE SECOND FORM's CARD OF 'laws.FnExactWordsOf'. -/
def fnExactWordsOfUptoCard : Claim7 := { stood := { row := fnExactWordsOfUptoRow, standIns := [], harness := (true, "1ff31df682f1e465cb8d04bedc8738db0f80a65741632cfe77ac2e7c34e0e5a7"), looks := true }, kinds := [], alts := [], laidByText := true, laidKinds := [.data, .pinned], laidTests := true, laidLooks := .later }
def FnExactWordsOfUptoCardSaid : Prop := Claim7.holds Tryd.pinned (.plain (OpenSpec.upto fnExactWordsOfSpec)) fnExactWordsOfUptoCard

/-- THE SECOND FORM's CARD OF 'laws.FnExactFateText'. -/
def fnExactFateTextUptoCard : Claim7 := { stood := { row := fnExactFateTextUptoRow, standIns := [], harness := (true, "1ff31df682f1e465cb8d04bedc8738db0f80a65741632cfe77ac2e7c34e0e5a7"), looks := true }, kinds := [], alts := [], laidByText := true, laidKinds := [.data, .data, .data, .widerDeep], laidTests := true, laidLooks := .later }
def FnExactFateTextUptoCardSaid : Prop := Claim7.holds Tryd.pinned (.plain (OpenSpec.upto fnExactFateTextSpec)) fnExactFateTextUptoCard

/-- THE SECOND FORM's CARD OF 'laws.FnExactReadNumber'. -/
def fnExactReadNumberUptoCard : Claim7 := { stood := { row := fnExactReadNumberUptoRow, standIns := [], harness := (true, "1ff31df682f1e465cb8d04bedc8738db0f80a65741632cfe77ac2e7c34e0e5a7"), looks := true }, kinds := [], alts := [], laidByText := true, laidKinds := [.data, .data, .data, .sentinel, .sentinel], laidTests := true, laidLooks := .later }
def FnExactReadNumberUptoCardSaid : Prop := Claim7.holds Tryd.pinned (.plain (OpenSpec.upto fnExactReadNumberSpec)) fnExactReadNumberUptoCard

/-- THE SECOND FORM's CARD OF 'laws.FnExactReadFate'. -/
def fnExactReadFateUptoCard : Claim7 := { stood := { row := fnExactReadFateUptoRow, standIns := [], harness := (true, "1ff31df682f1e465cb8d04bedc8738db0f80a65741632cfe77ac2e7c34e0e5a7"), looks := true }, kinds := [], alts := [], laidByText := true, laidKinds := [.data, .data, .data, .data, .sentinel, .sentinel, .widerDeep, .pinned], laidTests := true, laidLooks := .later }
def FnExactReadFateUptoCardSaid : Prop := Claim7.holds Tryd.pinned (.plain (OpenSpec.upto fnExactReadFateSpec)) fnExactReadFateUptoCard

/-- THE SECOND FORM's CARD OF 'laws.FnTellings'. -/
def fnTellingsUptoCard : Claim7 := { stood := { row := fnTellingsUptoRow, standIns := [], harness := (true, "1ff31df682f1e465cb8d04bedc8738db0f80a65741632cfe77ac2e7c34e0e5a7"), looks := true }, kinds := [], alts := [], laidByText := true, laidKinds := [.data, .data, .data, .data, .sentinel, .sentinel, .widerDeep, .pinned], laidTests := true, laidLooks := .later }
def FnTellingsUptoCardSaid : Prop := Claim7.holds Tryd.pinned (.plain (OpenSpec.upto fnTellingsSpec)) fnTellingsUptoCard
end Rows
end Go.Proofs.YtpioljlgmhehhaaDoor
