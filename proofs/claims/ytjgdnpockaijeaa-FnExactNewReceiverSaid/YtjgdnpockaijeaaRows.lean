/-
  No cell of these rows narrows 'for every input' (looked for: loops, veiled, ifaces, maps, wideKeys, modest, calm, conditions, laid).
  DERIVED. THE GIVEN ROWS OF THIS SEAT. 11 by the template 'for every input the law returns true; each argument reads behind the call as it read before'; 0 by the template 'total and deterministic' (their statements: YtjgdnpockaijeaaTotals.lean).
  GIVEN WITH THE SEED: the statements are not yours to turn. If you find one false, say at which input.
  Laid BY PROGRAM, IN A SANDBOX (cutbox-rows.mjs): the forced cells as the released guide's own fill.sh prints them over the translation 9a6c85f5973d830a… (all of the seat's roots in one cut). By AI agents, Wed Nov 11 2026. No macro, syntax, notation, axiom, sorry.
-/
import Derived.Test.YtjgdnpockaijeaaChecked
import GoSem.Claim
import GoSem.ClaimJoined
import GoSem.ClaimMapViews
import Derived.JoinedTies
import Derived.KernelRfl
namespace Go.Proofs.Ytjgdnpockaijeaa
/- THE CELL 'sum', in the pinned program and in every row, IS THE sha256 OF THE DUMP (.gsa) THAT YtjgdnpockaijeaaProg.lean LOADS. Nothing in Lean hashes anything: it is a label: what it is worth is what the hold of that sum in a sandbox is worth. -/
noncomputable def Try.pinned : Pinned := { name := "ytjgdnpockaijeaa", sum := "9a6c85f5973d830ad57af45f2e7d6f4f1d51f7b0ccce9d14072bff815e1c5cbc", checked := Try.checked }
namespace Rows
def none {H : Type} : Left H := { results := [], args := [] }

/-- 'laws.FnExactSameSessions': WHATEVER THE INPUT: true; the input reads as it did. -/
def fnExactSameSessionsSpec : ChangeSpec := { name := "fnExactSameSessions", fn := fun _ => fun
  | [d1, d2] => { results := [.lit (.bool true)], args := [d1, d2] }
  | _ => none }
def fnExactSameSessionsRow : OpenClaim := { program := "ytjgdnpockaijeaa", sum := "9a6c85f5973d830ad57af45f2e7d6f4f1d51f7b0ccce9d14072bff815e1c5cbc", func := "loop.example/g00657/laws.FnExactSameSessions", spec := "fnExactSameSessions", unfollowed := true, recurses := true, apart := false }
def FnExactSameSessionsSaid : Prop := fnExactSameSessionsRow.holds Try.pinned (OpenSpec.ofChange fnExactSameSessionsSpec)

/-- ITS FALSE NEIGHBOUR: 'it returns false'. Refute it at one input. -/
def fnExactSameSessionsWrong : ChangeSpec := { name := "fnExactSameSessions", fn := fun _ => fun
  | [d1, d2] => { results := [.lit (.bool false)], args := [d1, d2] }
  | _ => none }
def FnExactSameSessionsWrongFalsely : Prop := fnExactSameSessionsRow.holds Try.pinned (OpenSpec.ofChange fnExactSameSessionsWrong)

/-- 'laws.FnPlans': WHATEVER THE INPUT: true; the input reads as it did. -/
def fnPlansSpec : ChangeSpec := { name := "fnPlans", fn := fun _ => fun
  | [d] => { results := [.lit (.bool true)], args := [d] }
  | _ => none }
def fnPlansRow : OpenClaim := { program := "ytjgdnpockaijeaa", sum := "9a6c85f5973d830ad57af45f2e7d6f4f1d51f7b0ccce9d14072bff815e1c5cbc", func := "loop.example/g00657/laws.FnPlans", spec := "fnPlans", unfollowed := true, recurses := true, apart := false }
def FnPlansSaid : Prop := fnPlansRow.holds Try.pinned (OpenSpec.ofChange fnPlansSpec)

/-- ITS FALSE NEIGHBOUR: 'it returns false'. Refute it at one input. -/
def fnPlansWrong : ChangeSpec := { name := "fnPlans", fn := fun _ => fun
  | [d] => { results := [.lit (.bool false)], args := [d] }
  | _ => none }
def FnPlansWrongFalsely : Prop := fnPlansRow.holds Try.pinned (OpenSpec.ofChange fnPlansWrong)

/-- 'laws.FnReports': WHATEVER THE INPUT: true; the input reads as it did. -/
def fnReportsSpec : ChangeSpec := { name := "fnReports", fn := fun _ => fun
  | [d] => { results := [.lit (.bool true)], args := [d] }
  | _ => none }
def fnReportsRow : OpenClaim := { program := "ytjgdnpockaijeaa", sum := "9a6c85f5973d830ad57af45f2e7d6f4f1d51f7b0ccce9d14072bff815e1c5cbc", func := "loop.example/g00657/laws.FnReports", spec := "fnReports", unfollowed := true, recurses := true, apart := false }
def FnReportsSaid : Prop := fnReportsRow.holds Try.pinned (OpenSpec.ofChange fnReportsSpec)

/-- ITS FALSE NEIGHBOUR: 'it returns false'. Refute it at one input. -/
def fnReportsWrong : ChangeSpec := { name := "fnReports", fn := fun _ => fun
  | [d] => { results := [.lit (.bool false)], args := [d] }
  | _ => none }
def FnReportsWrongFalsely : Prop := fnReportsRow.holds Try.pinned (OpenSpec.ofChange fnReportsWrong)

/-- 'laws.FnExactTakeReport': WHATEVER THE INPUT: true; the input reads as it did. -/
def fnExactTakeReportSpec : ChangeSpec := { name := "fnExactTakeReport", fn := fun _ => fun
  | [d1, d2] => { results := [.lit (.bool true)], args := [d1, d2] }
  | _ => none }
def fnExactTakeReportRow : OpenClaim := { program := "ytjgdnpockaijeaa", sum := "9a6c85f5973d830ad57af45f2e7d6f4f1d51f7b0ccce9d14072bff815e1c5cbc", func := "loop.example/g00657/laws.FnExactTakeReport", spec := "fnExactTakeReport", unfollowed := true, recurses := true, apart := false }
def FnExactTakeReportSaid : Prop := fnExactTakeReportRow.holds Try.pinned (OpenSpec.ofChange fnExactTakeReportSpec)

/-- ITS FALSE NEIGHBOUR: 'it returns false'. Refute it at one input. -/
def fnExactTakeReportWrong : ChangeSpec := { name := "fnExactTakeReport", fn := fun _ => fun
  | [d1, d2] => { results := [.lit (.bool false)], args := [d1, d2] }
  | _ => none }
def FnExactTakeReportWrongFalsely : Prop := fnExactTakeReportRow.holds Try.pinned (OpenSpec.ofChange fnExactTakeReportWrong)

/-- 'laws.FnExactNewSender': WHATEVER THE INPUT: true; the input reads as it did. -/
def fnExactNewSenderSpec : ChangeSpec := { name := "fnExactNewSender", fn := fun _ => fun
  | [d1, d2, d3] => { results := [.lit (.bool true)], args := [d1, d2, d3] }
  | _ => none }
def fnExactNewSenderRow : OpenClaim := { program := "ytjgdnpockaijeaa", sum := "9a6c85f5973d830ad57af45f2e7d6f4f1d51f7b0ccce9d14072bff815e1c5cbc", func := "loop.example/g00657/laws.FnExactNewSender", spec := "fnExactNewSender", apart := false }
def FnExactNewSenderSaid : Prop := fnExactNewSenderRow.holds Try.pinned (OpenSpec.ofChange fnExactNewSenderSpec)

/-- ITS FALSE NEIGHBOUR: 'it returns false'. Refute it at one input. -/
def fnExactNewSenderWrong : ChangeSpec := { name := "fnExactNewSender", fn := fun _ => fun
  | [d1, d2, d3] => { results := [.lit (.bool false)], args := [d1, d2, d3] }
  | _ => none }
def FnExactNewSenderWrongFalsely : Prop := fnExactNewSenderRow.holds Try.pinned (OpenSpec.ofChange fnExactNewSenderWrong)

/-- 'laws.FnExactTakeSlot': WHATEVER THE INPUT: true; the input reads as it did. -/
def fnExactTakeSlotSpec : ChangeSpec := { name := "fnExactTakeSlot", fn := fun _ => fun
  | [d1, d2] => { results := [.lit (.bool true)], args := [d1, d2] }
  | _ => none }
def fnExactTakeSlotRow : OpenClaim := { program := "ytjgdnpockaijeaa", sum := "9a6c85f5973d830ad57af45f2e7d6f4f1d51f7b0ccce9d14072bff815e1c5cbc", func := "loop.example/g00657/laws.FnExactTakeSlot", spec := "fnExactTakeSlot", apart := false }
def FnExactTakeSlotSaid : Prop := fnExactTakeSlotRow.holds Try.pinned (OpenSpec.ofChange fnExactTakeSlotSpec)

/-- ITS FALSE NEIGHBOUR: 'it returns false'. Refute it at one input. -/
def fnExactTakeSlotWrong : ChangeSpec := { name := "fnExactTakeSlot", fn := fun _ => fun
  | [d1, d2] => { results := [.lit (.bool false)], args := [d1, d2] }
  | _ => none }
def FnExactTakeSlotWrongFalsely : Prop := fnExactTakeSlotRow.holds Try.pinned (OpenSpec.ofChange fnExactTakeSlotWrong)

/-- 'laws.FnExactNewReceiver': WHATEVER THE INPUT: true; the input reads as it did. -/
def fnExactNewReceiverSpec : ChangeSpec := { name := "fnExactNewReceiver", fn := fun _ => fun
  | [d] => { results := [.lit (.bool true)], args := [d] }
  | _ => none }
def fnExactNewReceiverRow : OpenClaim := { program := "ytjgdnpockaijeaa", sum := "9a6c85f5973d830ad57af45f2e7d6f4f1d51f7b0ccce9d14072bff815e1c5cbc", func := "loop.example/g00657/laws.FnExactNewReceiver", spec := "fnExactNewReceiver", apart := false }
def FnExactNewReceiverSaid : Prop := fnExactNewReceiverRow.holds Try.pinned (OpenSpec.ofChange fnExactNewReceiverSpec)

/-- ITS FALSE NEIGHBOUR: 'it returns false'. Refute it at one input. -/
def fnExactNewReceiverWrong : ChangeSpec := { name := "fnExactNewReceiver", fn := fun _ => fun
  | [d] => { results := [.lit (.bool false)], args := [d] }
  | _ => none }
def FnExactNewReceiverWrongFalsely : Prop := fnExactNewReceiverRow.holds Try.pinned (OpenSpec.ofChange fnExactNewReceiverWrong)

/-- 'laws.FnExactReceiverFault': WHATEVER THE INPUT: true; the input reads as it did. -/
def fnExactReceiverFaultSpec : ChangeSpec := { name := "fnExactReceiverFault", fn := fun _ => fun
  | [d] => { results := [.lit (.bool true)], args := [d] }
  | _ => none }
def fnExactReceiverFaultRow : OpenClaim := { program := "ytjgdnpockaijeaa", sum := "9a6c85f5973d830ad57af45f2e7d6f4f1d51f7b0ccce9d14072bff815e1c5cbc", func := "loop.example/g00657/laws.FnExactReceiverFault", spec := "fnExactReceiverFault", unfollowed := true, recurses := true, apart := false }
def FnExactReceiverFaultSaid : Prop := fnExactReceiverFaultRow.holds Try.pinned (OpenSpec.ofChange fnExactReceiverFaultSpec)

/-- ITS FALSE NEIGHBOUR: 'it returns false'. Refute it at one input. -/
def fnExactReceiverFaultWrong : ChangeSpec := { name := "fnExactReceiverFault", fn := fun _ => fun
  | [d] => { results := [.lit (.bool false)], args := [d] }
  | _ => none }
def FnExactReceiverFaultWrongFalsely : Prop := fnExactReceiverFaultRow.holds Try.pinned (OpenSpec.ofChange fnExactReceiverFaultWrong)

/-- 'laws.FnExactGapsIn': WHATEVER THE INPUT: true; the input reads as it did. -/
def fnExactGapsInSpec : ChangeSpec := { name := "fnExactGapsIn", fn := fun _ => fun
  | [d] => { results := [.lit (.bool true)], args := [d] }
  | _ => none }
def fnExactGapsInRow : OpenClaim := { program := "ytjgdnpockaijeaa", sum := "9a6c85f5973d830ad57af45f2e7d6f4f1d51f7b0ccce9d14072bff815e1c5cbc", func := "loop.example/g00657/laws.FnExactGapsIn", spec := "fnExactGapsIn", apart := false }
def FnExactGapsInSaid : Prop := fnExactGapsInRow.holds Try.pinned (OpenSpec.ofChange fnExactGapsInSpec)

/-- ITS FALSE NEIGHBOUR: 'it returns false'. Refute it at one input. -/
def fnExactGapsInWrong : ChangeSpec := { name := "fnExactGapsIn", fn := fun _ => fun
  | [d] => { results := [.lit (.bool false)], args := [d] }
  | _ => none }
def FnExactGapsInWrongFalsely : Prop := fnExactGapsInRow.holds Try.pinned (OpenSpec.ofChange fnExactGapsInWrong)

/-- 'laws.FnExactSourcesOf': WHATEVER THE INPUT: true; the input reads as it did. -/
def fnExactSourcesOfSpec : ChangeSpec := { name := "fnExactSourcesOf", fn := fun _ => fun
  | [d] => { results := [.lit (.bool true)], args := [d] }
  | _ => none }
def fnExactSourcesOfRow : OpenClaim := { program := "ytjgdnpockaijeaa", sum := "9a6c85f5973d830ad57af45f2e7d6f4f1d51f7b0ccce9d14072bff815e1c5cbc", func := "loop.example/g00657/laws.FnExactSourcesOf", spec := "fnExactSourcesOf", apart := false }
def FnExactSourcesOfSaid : Prop := fnExactSourcesOfRow.holds Try.pinned (OpenSpec.ofChange fnExactSourcesOfSpec)

/-- ITS FALSE NEIGHBOUR: 'it returns false'. Refute it at one input. -/
def fnExactSourcesOfWrong : ChangeSpec := { name := "fnExactSourcesOf", fn := fun _ => fun
  | [d] => { results := [.lit (.bool false)], args := [d] }
  | _ => none }
def FnExactSourcesOfWrongFalsely : Prop := fnExactSourcesOfRow.holds Try.pinned (OpenSpec.ofChange fnExactSourcesOfWrong)

/-- 'laws.FnDecoders': WHATEVER THE INPUT: true; the input reads as it did. -/
def fnDecodersSpec : ChangeSpec := { name := "fnDecoders", fn := fun _ => fun
  | [d] => { results := [.lit (.bool true)], args := [d] }
  | _ => none }
def fnDecodersRow : OpenClaim := { program := "ytjgdnpockaijeaa", sum := "9a6c85f5973d830ad57af45f2e7d6f4f1d51f7b0ccce9d14072bff815e1c5cbc", func := "loop.example/g00657/laws.FnDecoders", spec := "fnDecoders", apart := false }
def FnDecodersSaid : Prop := fnDecodersRow.holds Try.pinned (OpenSpec.ofChange fnDecodersSpec)

/-- ITS FALSE NEIGHBOUR: 'it returns false'. Refute it at one input. -/
def fnDecodersWrong : ChangeSpec := { name := "fnDecoders", fn := fun _ => fun
  | [d] => { results := [.lit (.bool false)], args := [d] }
  | _ => none }
def FnDecodersWrongFalsely : Prop := fnDecodersRow.holds Try.pinned (OpenSpec.ofChange fnDecodersWrong)

/- THE SECOND FORM. 'bulk': how many values and letters a reading holds, each counted each time it is reached (what is shared counts as often as it is met; a slice's spare places count too). A statement '..UptoSaid' is the law's where the arguments, and the package variables that the reading takes, are together of bulk at most 1048576: NARROWER than '..Said'. Prove '..Said' where nothing that the law and all that it calls make is longer than what came in: it says more and counts as full. Else prove '..UptoSaid'. A law counts once. -/
mutual
def uptoBulk {H : Type} : DataW H → Nat
  | .lit (.string bytes) => bytes.length + 1
  | .lit _ => 1
  | .nil => 1
  | .ptr d => uptoBulk d + 1
  | .slice elems spare => uptoBulkAll elems + uptoBulkAll spare + 1
  | .agg parts => uptoBulkAll parts + 1
  | .iface _ d => uptoBulk d + 1
  | .map entries => uptoBulkEntries entries + 1
  | .held _ => 1
def uptoBulkAll {H : Type} : List (DataW H) → Nat
  | [] => 0
  | d :: r => uptoBulk d + uptoBulkAll r
def uptoBulkEntries {H : Type} : List (Lit × DataW H) → Nat
  | [] => 0
  | x :: r => uptoBulkEntry x + uptoBulkEntries r
def uptoBulkEntry {H : Type} : Lit × DataW H → Nat
  | (.string bytes, d) => bytes.length + uptoBulk d + 1
  | (_, d) => uptoBulk d + 1
 end
def uptoSmall : (H : Type) → List (DataW H) → Bool := fun _ ds => decide (uptoBulkAll ds ≤ 1048576)
def OpenSpec.upto (s : _root_.Go.ChangeSpec) : _root_.Go.OpenSpec := { _root_.Go.OpenSpec.ofChange s with cond := some uptoSmall }

/-- 'laws.FnExactSameSessions', WHERE WHAT IT READS IS OF BULK AT MOST 1048576: true; the input reads as it did. -/
def fnExactSameSessionsUptoRow : OpenClaim := { program := "ytjgdnpockaijeaa", sum := "9a6c85f5973d830ad57af45f2e7d6f4f1d51f7b0ccce9d14072bff815e1c5cbc", func := "loop.example/g00657/laws.FnExactSameSessions", spec := "fnExactSameSessions", unfollowed := true, recurses := true, apart := false, narrowed := true }
def FnExactSameSessionsUptoSaid : Prop := fnExactSameSessionsUptoRow.holds Try.pinned (OpenSpec.upto fnExactSameSessionsSpec)

/-- 'laws.FnPlans', WHERE WHAT IT READS IS OF BULK AT MOST 1048576: true; the input reads as it did. -/
def fnPlansUptoRow : OpenClaim := { program := "ytjgdnpockaijeaa", sum := "9a6c85f5973d830ad57af45f2e7d6f4f1d51f7b0ccce9d14072bff815e1c5cbc", func := "loop.example/g00657/laws.FnPlans", spec := "fnPlans", unfollowed := true, recurses := true, apart := false, narrowed := true }
def FnPlansUptoSaid : Prop := fnPlansUptoRow.holds Try.pinned (OpenSpec.upto fnPlansSpec)

/-- 'laws.FnReports', WHERE WHAT IT READS IS OF BULK AT MOST 1048576: true; the input reads as it did. -/
def fnReportsUptoRow : OpenClaim := { program := "ytjgdnpockaijeaa", sum := "9a6c85f5973d830ad57af45f2e7d6f4f1d51f7b0ccce9d14072bff815e1c5cbc", func := "loop.example/g00657/laws.FnReports", spec := "fnReports", unfollowed := true, recurses := true, apart := false, narrowed := true }
def FnReportsUptoSaid : Prop := fnReportsUptoRow.holds Try.pinned (OpenSpec.upto fnReportsSpec)

/-- 'laws.FnExactTakeReport', WHERE WHAT IT READS IS OF BULK AT MOST 1048576: true; the input reads as it did. -/
def fnExactTakeReportUptoRow : OpenClaim := { program := "ytjgdnpockaijeaa", sum := "9a6c85f5973d830ad57af45f2e7d6f4f1d51f7b0ccce9d14072bff815e1c5cbc", func := "loop.example/g00657/laws.FnExactTakeReport", spec := "fnExactTakeReport", unfollowed := true, recurses := true, apart := false, narrowed := true }
def FnExactTakeReportUptoSaid : Prop := fnExactTakeReportUptoRow.holds Try.pinned (OpenSpec.upto fnExactTakeReportSpec)

/-- 'laws.FnExactNewSender', WHERE WHAT IT READS IS OF BULK AT MOST 1048576: true; the input reads as it did. -/
def fnExactNewSenderUptoRow : OpenClaim := { program := "ytjgdnpockaijeaa", sum := "9a6c85f5973d830ad57af45f2e7d6f4f1d51f7b0ccce9d14072bff815e1c5cbc", func := "loop.example/g00657/laws.FnExactNewSender", spec := "fnExactNewSender", apart := false, narrowed := true }
def FnExactNewSenderUptoSaid : Prop := fnExactNewSenderUptoRow.holds Try.pinned (OpenSpec.upto fnExactNewSenderSpec)

/-- 'laws.FnExactTakeSlot', WHERE WHAT IT READS IS OF BULK AT MOST 1048576: true; the input reads as it did. -/
def fnExactTakeSlotUptoRow : OpenClaim := { program := "ytjgdnpockaijeaa", sum := "9a6c85f5973d830ad57af45f2e7d6f4f1d51f7b0ccce9d14072bff815e1c5cbc", func := "loop.example/g00657/laws.FnExactTakeSlot", spec := "fnExactTakeSlot", apart := false, narrowed := true }
def FnExactTakeSlotUptoSaid : Prop := fnExactTakeSlotUptoRow.holds Try.pinned (OpenSpec.upto fnExactTakeSlotSpec)

/-- 'laws.FnExactNewReceiver', WHERE WHAT IT READS IS OF BULK AT MOST 1048576: true; the input reads as it did. -/
def fnExactNewReceiverUptoRow : OpenClaim := { program := "ytjgdnpockaijeaa", sum := "9a6c85f5973d830ad57af45f2e7d6f4f1d51f7b0ccce9d14072bff815e1c5cbc", func := "loop.example/g00657/laws.FnExactNewReceiver", spec := "fnExactNewReceiver", apart := false, narrowed := true }
def FnExactNewReceiverUptoSaid : Prop := fnExactNewReceiverUptoRow.holds Try.pinned (OpenSpec.upto fnExactNewReceiverSpec)

/-- 'laws.FnExactReceiverFault', WHERE WHAT IT READS IS OF BULK AT MOST 1048576: true; the input reads as it did. -/
def fnExactReceiverFaultUptoRow : OpenClaim := { program := "ytjgdnpockaijeaa", sum := "9a6c85f5973d830ad57af45f2e7d6f4f1d51f7b0ccce9d14072bff815e1c5cbc", func := "loop.example/g00657/laws.FnExactReceiverFault", spec := "fnExactReceiverFault", unfollowed := true, recurses := true, apart := false, narrowed := true }
def FnExactReceiverFaultUptoSaid : Prop := fnExactReceiverFaultUptoRow.holds Try.pinned (OpenSpec.upto fnExactReceiverFaultSpec)

/-- 'laws.FnExactGapsIn', WHERE WHAT IT READS IS OF BULK AT MOST 1048576: true; the input reads as it did. -/
def fnExactGapsInUptoRow : OpenClaim := { program := "ytjgdnpockaijeaa", sum := "9a6c85f5973d830ad57af45f2e7d6f4f1d51f7b0ccce9d14072bff815e1c5cbc", func := "loop.example/g00657/laws.FnExactGapsIn", spec := "fnExactGapsIn", apart := false, narrowed := true }
def FnExactGapsInUptoSaid : Prop := fnExactGapsInUptoRow.holds Try.pinned (OpenSpec.upto fnExactGapsInSpec)

/-- 'laws.FnExactSourcesOf', WHERE WHAT IT READS IS OF BULK AT MOST 1048576: true; the input reads as it did. -/
def fnExactSourcesOfUptoRow : OpenClaim := { program := "ytjgdnpockaijeaa", sum := "9a6c85f5973d830ad57af45f2e7d6f4f1d51f7b0ccce9d14072bff815e1c5cbc", func := "loop.example/g00657/laws.FnExactSourcesOf", spec := "fnExactSourcesOf", apart := false, narrowed := true }
def FnExactSourcesOfUptoSaid : Prop := fnExactSourcesOfUptoRow.holds Try.pinned (OpenSpec.upto fnExactSourcesOfSpec)

/-- 'laws.FnDecoders', WHERE WHAT IT READS IS OF BULK AT MOST 1048576: true; the input reads as it did. -/
def fnDecodersUptoRow : OpenClaim := { program := "ytjgdnpockaijeaa", sum := "9a6c85f5973d830ad57af45f2e7d6f4f1d51f7b0ccce9d14072bff815e1c5cbc", func := "loop.example/g00657/laws.FnDecoders", spec := "fnDecoders", apart := false, narrowed := true }
def FnDecodersUptoSaid : Prop := fnDecodersUptoRow.holds Try.pinned (OpenSpec.upto fnDecodersSpec)

end Rows
end Go.Proofs.Ytjgdnpockaijeaa
