/-
  No cell of these rows narrows 'for every input' (looked for: loops, veiled, ifaces, maps, wideKeys, modest, calm, conditions, laid).
  DERIVED. THE GIVEN ROWS OF THIS SEAT. 12 by the template 'for every input the law returns true; each argument reads behind the call as it read before'; 0 by the template 'total and deterministic' (their statements: YtgnohnlpicmnaaaTotals.lean).
  GIVEN WITH THE SEED: the statements are not yours to turn. If you find one false, say at which input.
  Laid BY PROGRAM, IN A SANDBOX (cutbox-rows.mjs): the forced cells as the released guide's own fill.sh prints them over the translation 7540fd5f194726fb… (all of the seat's roots in one cut). By AI agents, Wed Nov 11 2026. No macro, syntax, notation, axiom, sorry.
-/
import Derived.Test.YtgnohnlpicmnaaaChecked
import GoSem.Claim
import GoSem.ClaimJoined
import GoSem.ClaimMapViews
import Derived.JoinedTies
import Derived.KernelRfl
namespace Go.Proofs.Ytgnohnlpicmnaaa
/- THE CELL 'sum', in the pinned program and in every row, IS THE sha256 OF THE DUMP (.gsa) THAT YtgnohnlpicmnaaaProg.lean LOADS. Nothing in Lean hashes anything: it is a label: what it is worth is what the hold of that sum in a sandbox is worth. -/
noncomputable def Try.pinned : Pinned := { name := "ytgnohnlpicmnaaa", sum := "7540fd5f194726fbec1a25b2b60252580499a9b8879f8e86d67d0505230b721e", checked := Try.checked }
namespace Rows
def none {H : Type} : Left H := { results := [], args := [] }

/-- 'laws.FnExactReportFault': WHATEVER THE INPUT: true; the input reads as it did. -/
def fnExactReportFaultSpec : ChangeSpec := { name := "fnExactReportFault", fn := fun _ => fun
  | [d] => { results := [.lit (.bool true)], args := [d] }
  | _ => none }
def fnExactReportFaultRow : OpenClaim := { program := "ytgnohnlpicmnaaa", sum := "7540fd5f194726fbec1a25b2b60252580499a9b8879f8e86d67d0505230b721e", func := "loop.example/g00657/laws.FnExactReportFault", spec := "fnExactReportFault", apart := false }
def FnExactReportFaultSaid : Prop := fnExactReportFaultRow.holds Try.pinned (OpenSpec.ofChange fnExactReportFaultSpec)

/-- ITS FALSE NEIGHBOUR: 'it returns false'. Refute it at one input. -/
def fnExactReportFaultWrong : ChangeSpec := { name := "fnExactReportFault", fn := fun _ => fun
  | [d] => { results := [.lit (.bool false)], args := [d] }
  | _ => none }
def FnExactReportFaultWrongFalsely : Prop := fnExactReportFaultRow.holds Try.pinned (OpenSpec.ofChange fnExactReportFaultWrong)

/-- 'laws.FnExactFadeOf': WHATEVER THE INPUT: true; the input reads as it did. -/
def fnExactFadeOfSpec : ChangeSpec := { name := "fnExactFadeOf", fn := fun _ => fun
  | [d1, d2] => { results := [.lit (.bool true)], args := [d1, d2] }
  | _ => none }
def fnExactFadeOfRow : OpenClaim := { program := "ytgnohnlpicmnaaa", sum := "7540fd5f194726fbec1a25b2b60252580499a9b8879f8e86d67d0505230b721e", func := "loop.example/g00657/laws.FnExactFadeOf", spec := "fnExactFadeOf", apart := false }
def FnExactFadeOfSaid : Prop := fnExactFadeOfRow.holds Try.pinned (OpenSpec.ofChange fnExactFadeOfSpec)

/-- ITS FALSE NEIGHBOUR: 'it returns false'. Refute it at one input. -/
def fnExactFadeOfWrong : ChangeSpec := { name := "fnExactFadeOf", fn := fun _ => fun
  | [d1, d2] => { results := [.lit (.bool false)], args := [d1, d2] }
  | _ => none }
def FnExactFadeOfWrongFalsely : Prop := fnExactFadeOfRow.holds Try.pinned (OpenSpec.ofChange fnExactFadeOfWrong)

/-- 'laws.FnExactFateFault': WHATEVER THE INPUT: true; the input reads as it did. -/
def fnExactFateFaultSpec : ChangeSpec := { name := "fnExactFateFault", fn := fun _ => fun
  | [d] => { results := [.lit (.bool true)], args := [d] }
  | _ => none }
def fnExactFateFaultRow : OpenClaim := { program := "ytgnohnlpicmnaaa", sum := "7540fd5f194726fbec1a25b2b60252580499a9b8879f8e86d67d0505230b721e", func := "loop.example/g00657/laws.FnExactFateFault", spec := "fnExactFateFault", apart := false }
def FnExactFateFaultSaid : Prop := fnExactFateFaultRow.holds Try.pinned (OpenSpec.ofChange fnExactFateFaultSpec)

/-- ITS FALSE NEIGHBOUR: 'it returns false'. Refute it at one input. -/
def fnExactFateFaultWrong : ChangeSpec := { name := "fnExactFateFault", fn := fun _ => fun
  | [d] => { results := [.lit (.bool false)], args := [d] }
  | _ => none }
def FnExactFateFaultWrongFalsely : Prop := fnExactFateFaultRow.holds Try.pinned (OpenSpec.ofChange fnExactFateFaultWrong)

/-- 'laws.FnFades': WHATEVER THE INPUT: true; the input reads as it did. -/
def fnFadesSpec : ChangeSpec := { name := "fnFades", fn := fun _ => fun
  | [d] => { results := [.lit (.bool true)], args := [d] }
  | _ => none }
def fnFadesRow : OpenClaim := { program := "ytgnohnlpicmnaaa", sum := "7540fd5f194726fbec1a25b2b60252580499a9b8879f8e86d67d0505230b721e", func := "loop.example/g00657/laws.FnFades", spec := "fnFades", apart := false }
def FnFadesSaid : Prop := fnFadesRow.holds Try.pinned (OpenSpec.ofChange fnFadesSpec)

/-- ITS FALSE NEIGHBOUR: 'it returns false'. Refute it at one input. -/
def fnFadesWrong : ChangeSpec := { name := "fnFades", fn := fun _ => fun
  | [d] => { results := [.lit (.bool false)], args := [d] }
  | _ => none }
def FnFadesWrongFalsely : Prop := fnFadesRow.holds Try.pinned (OpenSpec.ofChange fnFadesWrong)

/-- 'laws.FnExactIsRefreshed': WHATEVER THE INPUT: true; the input reads as it did. -/
def fnExactIsRefreshedSpec : ChangeSpec := { name := "fnExactIsRefreshed", fn := fun _ => fun
  | [d1, d2] => { results := [.lit (.bool true)], args := [d1, d2] }
  | _ => none }
def fnExactIsRefreshedRow : OpenClaim := { program := "ytgnohnlpicmnaaa", sum := "7540fd5f194726fbec1a25b2b60252580499a9b8879f8e86d67d0505230b721e", func := "loop.example/g00657/laws.FnExactIsRefreshed", spec := "fnExactIsRefreshed", apart := false }
def FnExactIsRefreshedSaid : Prop := fnExactIsRefreshedRow.holds Try.pinned (OpenSpec.ofChange fnExactIsRefreshedSpec)

/-- ITS FALSE NEIGHBOUR: 'it returns false'. Refute it at one input. -/
def fnExactIsRefreshedWrong : ChangeSpec := { name := "fnExactIsRefreshed", fn := fun _ => fun
  | [d1, d2] => { results := [.lit (.bool false)], args := [d1, d2] }
  | _ => none }
def FnExactIsRefreshedWrongFalsely : Prop := fnExactIsRefreshedRow.holds Try.pinned (OpenSpec.ofChange fnExactIsRefreshedWrong)

/-- 'laws.FnExactSchedulerFault': WHATEVER THE INPUT: true; the input reads as it did. -/
def fnExactSchedulerFaultSpec : ChangeSpec := { name := "fnExactSchedulerFault", fn := fun _ => fun
  | [d] => { results := [.lit (.bool true)], args := [d] }
  | _ => none }
def fnExactSchedulerFaultRow : OpenClaim := { program := "ytgnohnlpicmnaaa", sum := "7540fd5f194726fbec1a25b2b60252580499a9b8879f8e86d67d0505230b721e", func := "loop.example/g00657/laws.FnExactSchedulerFault", spec := "fnExactSchedulerFault", unfollowed := true, recurses := true, apart := false }
def FnExactSchedulerFaultSaid : Prop := fnExactSchedulerFaultRow.holds Try.pinned (OpenSpec.ofChange fnExactSchedulerFaultSpec)

/-- ITS FALSE NEIGHBOUR: 'it returns false'. Refute it at one input. -/
def fnExactSchedulerFaultWrong : ChangeSpec := { name := "fnExactSchedulerFault", fn := fun _ => fun
  | [d] => { results := [.lit (.bool false)], args := [d] }
  | _ => none }
def FnExactSchedulerFaultWrongFalsely : Prop := fnExactSchedulerFaultRow.holds Try.pinned (OpenSpec.ofChange fnExactSchedulerFaultWrong)

/-- 'laws.FnExactLossesOn': WHATEVER THE INPUT: true; the input reads as it did. -/
def fnExactLossesOnSpec : ChangeSpec := { name := "fnExactLossesOn", fn := fun _ => fun
  | [d1, d2] => { results := [.lit (.bool true)], args := [d1, d2] }
  | _ => none }
def fnExactLossesOnRow : OpenClaim := { program := "ytgnohnlpicmnaaa", sum := "7540fd5f194726fbec1a25b2b60252580499a9b8879f8e86d67d0505230b721e", func := "loop.example/g00657/laws.FnExactLossesOn", spec := "fnExactLossesOn", unfollowed := true, recurses := true, apart := false }
def FnExactLossesOnSaid : Prop := fnExactLossesOnRow.holds Try.pinned (OpenSpec.ofChange fnExactLossesOnSpec)

/-- ITS FALSE NEIGHBOUR: 'it returns false'. Refute it at one input. -/
def fnExactLossesOnWrong : ChangeSpec := { name := "fnExactLossesOn", fn := fun _ => fun
  | [d1, d2] => { results := [.lit (.bool false)], args := [d1, d2] }
  | _ => none }
def FnExactLossesOnWrongFalsely : Prop := fnExactLossesOnRow.holds Try.pinned (OpenSpec.ofChange fnExactLossesOnWrong)

/-- 'laws.FnExactPlanOf': WHATEVER THE INPUT: true; the input reads as it did. -/
def fnExactPlanOfSpec : ChangeSpec := { name := "fnExactPlanOf", fn := fun _ => fun
  | [d] => { results := [.lit (.bool true)], args := [d] }
  | _ => none }
def fnExactPlanOfRow : OpenClaim := { program := "ytgnohnlpicmnaaa", sum := "7540fd5f194726fbec1a25b2b60252580499a9b8879f8e86d67d0505230b721e", func := "loop.example/g00657/laws.FnExactPlanOf", spec := "fnExactPlanOf", unfollowed := true, recurses := true, apart := false }
def FnExactPlanOfSaid : Prop := fnExactPlanOfRow.holds Try.pinned (OpenSpec.ofChange fnExactPlanOfSpec)

/-- ITS FALSE NEIGHBOUR: 'it returns false'. Refute it at one input. -/
def fnExactPlanOfWrong : ChangeSpec := { name := "fnExactPlanOf", fn := fun _ => fun
  | [d] => { results := [.lit (.bool false)], args := [d] }
  | _ => none }
def FnExactPlanOfWrongFalsely : Prop := fnExactPlanOfRow.holds Try.pinned (OpenSpec.ofChange fnExactPlanOfWrong)

/-- 'laws.FnExactTakeReport': WHATEVER THE INPUT: true; the input reads as it did. -/
def fnExactTakeReportSpec : ChangeSpec := { name := "fnExactTakeReport", fn := fun _ => fun
  | [d1, d2] => { results := [.lit (.bool true)], args := [d1, d2] }
  | _ => none }
def fnExactTakeReportRow : OpenClaim := { program := "ytgnohnlpicmnaaa", sum := "7540fd5f194726fbec1a25b2b60252580499a9b8879f8e86d67d0505230b721e", func := "loop.example/g00657/laws.FnExactTakeReport", spec := "fnExactTakeReport", unfollowed := true, recurses := true, apart := false }
def FnExactTakeReportSaid : Prop := fnExactTakeReportRow.holds Try.pinned (OpenSpec.ofChange fnExactTakeReportSpec)

/-- ITS FALSE NEIGHBOUR: 'it returns false'. Refute it at one input. -/
def fnExactTakeReportWrong : ChangeSpec := { name := "fnExactTakeReport", fn := fun _ => fun
  | [d1, d2] => { results := [.lit (.bool false)], args := [d1, d2] }
  | _ => none }
def FnExactTakeReportWrongFalsely : Prop := fnExactTakeReportRow.holds Try.pinned (OpenSpec.ofChange fnExactTakeReportWrong)

/-- 'laws.FnExactNewSender': WHATEVER THE INPUT: true; the input reads as it did. -/
def fnExactNewSenderSpec : ChangeSpec := { name := "fnExactNewSender", fn := fun _ => fun
  | [d1, d2, d3] => { results := [.lit (.bool true)], args := [d1, d2, d3] }
  | _ => none }
def fnExactNewSenderRow : OpenClaim := { program := "ytgnohnlpicmnaaa", sum := "7540fd5f194726fbec1a25b2b60252580499a9b8879f8e86d67d0505230b721e", func := "loop.example/g00657/laws.FnExactNewSender", spec := "fnExactNewSender", apart := false }
def FnExactNewSenderSaid : Prop := fnExactNewSenderRow.holds Try.pinned (OpenSpec.ofChange fnExactNewSenderSpec)

/-- ITS FALSE NEIGHBOUR: 'it returns false'. Refute it at one input. -/
def fnExactNewSenderWrong : ChangeSpec := { name := "fnExactNewSender", fn := fun _ => fun
  | [d1, d2, d3] => { results := [.lit (.bool false)], args := [d1, d2, d3] }
  | _ => none }
def FnExactNewSenderWrongFalsely : Prop := fnExactNewSenderRow.holds Try.pinned (OpenSpec.ofChange fnExactNewSenderWrong)

/-- 'laws.FnReports': WHATEVER THE INPUT: true; the input reads as it did. -/
def fnReportsSpec : ChangeSpec := { name := "fnReports", fn := fun _ => fun
  | [d] => { results := [.lit (.bool true)], args := [d] }
  | _ => none }
def fnReportsRow : OpenClaim := { program := "ytgnohnlpicmnaaa", sum := "7540fd5f194726fbec1a25b2b60252580499a9b8879f8e86d67d0505230b721e", func := "loop.example/g00657/laws.FnReports", spec := "fnReports", unfollowed := true, recurses := true, apart := false }
def FnReportsSaid : Prop := fnReportsRow.holds Try.pinned (OpenSpec.ofChange fnReportsSpec)

/-- ITS FALSE NEIGHBOUR: 'it returns false'. Refute it at one input. -/
def fnReportsWrong : ChangeSpec := { name := "fnReports", fn := fun _ => fun
  | [d] => { results := [.lit (.bool false)], args := [d] }
  | _ => none }
def FnReportsWrongFalsely : Prop := fnReportsRow.holds Try.pinned (OpenSpec.ofChange fnReportsWrong)

/-- 'laws.FnPlans': WHATEVER THE INPUT: true; the input reads as it did. -/
def fnPlansSpec : ChangeSpec := { name := "fnPlans", fn := fun _ => fun
  | [d] => { results := [.lit (.bool true)], args := [d] }
  | _ => none }
def fnPlansRow : OpenClaim := { program := "ytgnohnlpicmnaaa", sum := "7540fd5f194726fbec1a25b2b60252580499a9b8879f8e86d67d0505230b721e", func := "loop.example/g00657/laws.FnPlans", spec := "fnPlans", unfollowed := true, recurses := true, apart := false }
def FnPlansSaid : Prop := fnPlansRow.holds Try.pinned (OpenSpec.ofChange fnPlansSpec)

/-- ITS FALSE NEIGHBOUR: 'it returns false'. Refute it at one input. -/
def fnPlansWrong : ChangeSpec := { name := "fnPlans", fn := fun _ => fun
  | [d] => { results := [.lit (.bool false)], args := [d] }
  | _ => none }
def FnPlansWrongFalsely : Prop := fnPlansRow.holds Try.pinned (OpenSpec.ofChange fnPlansWrong)

/- THE SECOND FORM. 'bulk': how many values and letters a reading holds, each counted each time it is reached (what is shared counts as often as it is met; a slice's spare places count too). A statement '..UptoSaid' is the law's where the arguments, and the package variables that the reading takes, are together of bulk at most 1048576: NARROWER than '..Said'. Prove '..Said' where nothing that the law and all that it calls make is longer than what came in: it says more and counts as full. Else prove '..UptoSaid'. A law counts once. -/
mutual
def uptoBulk {H : Type} : DataW H → Nat
  | .lit (.string bytes) => bytes.length + 1
  | .lit _ => 1
  | .nil => 1
  | .ptr d => uptoBulk d + 1
  | .slice elems spare => uptoBulkAll elems + uptoBulkAll spare + 1
  | .agg parts => uptoBulkAll parts + 1
  | .iface _ d => uptoBulk d + 1
  | .map entries => uptoBulkEntries entries + 1
  | .held _ => 1
def uptoBulkAll {H : Type} : List (DataW H) → Nat
  | [] => 0
  | d :: r => uptoBulk d + uptoBulkAll r
def uptoBulkEntries {H : Type} : List (Lit × DataW H) → Nat
  | [] => 0
  | x :: r => uptoBulkEntry x + uptoBulkEntries r
def uptoBulkEntry {H : Type} : Lit × DataW H → Nat
  | (.string bytes, d) => bytes.length + uptoBulk d + 1
  | (_, d) => uptoBulk d + 1
 end
def uptoSmall : (H : Type) → List (DataW H) → Bool := fun _ ds => decide (uptoBulkAll ds ≤ 1048576)
def OpenSpec.upto (s : _root_.Go.ChangeSpec) : _root_.Go.OpenSpec := { _root_.Go.OpenSpec.ofChange s with cond := some uptoSmall }

/-- 'laws.FnExactReportFault', WHERE WHAT IT READS IS OF BULK AT MOST 1048576: true; the input reads as it did. -/
def fnExactReportFaultUptoRow : OpenClaim := { program := "ytgnohnlpicmnaaa", sum := "7540fd5f194726fbec1a25b2b60252580499a9b8879f8e86d67d0505230b721e", func := "loop.example/g00657/laws.FnExactReportFault", spec := "fnExactReportFault", apart := false, narrowed := true }
def FnExactReportFaultUptoSaid : Prop := fnExactReportFaultUptoRow.holds Try.pinned (OpenSpec.upto fnExactReportFaultSpec)

/-- 'laws.FnExactFadeOf', WHERE WHAT IT READS IS OF BULK AT MOST 1048576: true; the input reads as it did. -/
def fnExactFadeOfUptoRow : OpenClaim := { program := "ytgnohnlpicmnaaa", sum := "7540fd5f194726fbec1a25b2b60252580499a9b8879f8e86d67d0505230b721e", func := "loop.example/g00657/laws.FnExactFadeOf", spec := "fnExactFadeOf", apart := false, narrowed := true }
def FnExactFadeOfUptoSaid : Prop := fnExactFadeOfUptoRow.holds Try.pinned (OpenSpec.upto fnExactFadeOfSpec)

/-- 'laws.FnExactFateFault', WHERE WHAT IT READS IS OF BULK AT MOST 1048576: true; the input reads as it did. -/
def fnExactFateFaultUptoRow : OpenClaim := { program := "ytgnohnlpicmnaaa", sum := "7540fd5f194726fbec1a25b2b60252580499a9b8879f8e86d67d0505230b721e", func := "loop.example/g00657/laws.FnExactFateFault", spec := "fnExactFateFault", apart := false, narrowed := true }
def FnExactFateFaultUptoSaid : Prop := fnExactFateFaultUptoRow.holds Try.pinned (OpenSpec.upto fnExactFateFaultSpec)

/-- 'laws.FnFades', WHERE WHAT IT READS IS OF BULK AT MOST 1048576: true; the input reads as it did. -/
def fnFadesUptoRow : OpenClaim := { program := "ytgnohnlpicmnaaa", sum := "7540fd5f194726fbec1a25b2b60252580499a9b8879f8e86d67d0505230b721e", func := "loop.example/g00657/laws.FnFades", spec := "fnFades", apart := false, narrowed := true }
def FnFadesUptoSaid : Prop := fnFadesUptoRow.holds Try.pinned (OpenSpec.upto fnFadesSpec)

/-- 'laws.FnExactIsRefreshed', WHERE WHAT IT READS IS OF BULK AT MOST 1048576: true; the input reads as it did. -/
def fnExactIsRefreshedUptoRow : OpenClaim := { program := "ytgnohnlpicmnaaa", sum := "7540fd5f194726fbec1a25b2b60252580499a9b8879f8e86d67d0505230b721e", func := "loop.example/g00657/laws.FnExactIsRefreshed", spec := "fnExactIsRefreshed", apart := false, narrowed := true }
def FnExactIsRefreshedUptoSaid : Prop := fnExactIsRefreshedUptoRow.holds Try.pinned (OpenSpec.upto fnExactIsRefreshedSpec)

/-- 'laws.FnExactSchedulerFault', WHERE WHAT IT READS IS OF BULK AT MOST 1048576: true; the input reads as it did. -/
def fnExactSchedulerFaultUptoRow : OpenClaim := { program := "ytgnohnlpicmnaaa", sum := "7540fd5f194726fbec1a25b2b60252580499a9b8879f8e86d67d0505230b721e", func := "loop.example/g00657/laws.FnExactSchedulerFault", spec := "fnExactSchedulerFault", unfollowed := true, recurses := true, apart := false, narrowed := true }
def FnExactSchedulerFaultUptoSaid : Prop := fnExactSchedulerFaultUptoRow.holds Try.pinned (OpenSpec.upto fnExactSchedulerFaultSpec)

/-- 'laws.FnExactLossesOn', WHERE WHAT IT READS IS OF BULK AT MOST 1048576: true; the input reads as it did. -/
def fnExactLossesOnUptoRow : OpenClaim := { program := "ytgnohnlpicmnaaa", sum := "7540fd5f194726fbec1a25b2b60252580499a9b8879f8e86d67d0505230b721e", func := "loop.example/g00657/laws.FnExactLossesOn", spec := "fnExactLossesOn", unfollowed := true, recurses := true, apart := false, narrowed := true }
def FnExactLossesOnUptoSaid : Prop := fnExactLossesOnUptoRow.holds Try.pinned (OpenSpec.upto fnExactLossesOnSpec)

/-- 'laws.FnExactPlanOf', WHERE WHAT IT READS IS OF BULK AT MOST 1048576: true; the input reads as it did. -/
def fnExactPlanOfUptoRow : OpenClaim := { program := "ytgnohnlpicmnaaa", sum := "7540fd5f194726fbec1a25b2b60252580499a9b8879f8e86d67d0505230b721e", func := "loop.example/g00657/laws.FnExactPlanOf", spec := "fnExactPlanOf", unfollowed := true, recurses := true, apart := false, narrowed := true }
def FnExactPlanOfUptoSaid : Prop := fnExactPlanOfUptoRow.holds Try.pinned (OpenSpec.upto fnExactPlanOfSpec)

/-- 'laws.FnExactTakeReport', WHERE WHAT IT READS IS OF BULK AT MOST 1048576: true; the input reads as it did. -/
def fnExactTakeReportUptoRow : OpenClaim := { program := "ytgnohnlpicmnaaa", sum := "7540fd5f194726fbec1a25b2b60252580499a9b8879f8e86d67d0505230b721e", func := "loop.example/g00657/laws.FnExactTakeReport", spec := "fnExactTakeReport", unfollowed := true, recurses := true, apart := false, narrowed := true }
def FnExactTakeReportUptoSaid : Prop := fnExactTakeReportUptoRow.holds Try.pinned (OpenSpec.upto fnExactTakeReportSpec)

/-- 'laws.FnExactNewSender', WHERE WHAT IT READS IS OF BULK AT MOST 1048576: true; the input reads as it did. -/
def fnExactNewSenderUptoRow : OpenClaim := { program := "ytgnohnlpicmnaaa", sum := "7540fd5f194726fbec1a25b2b60252580499a9b8879f8e86d67d0505230b721e", func := "loop.example/g00657/laws.FnExactNewSender", spec := "fnExactNewSender", apart := false, narrowed := true }
def FnExactNewSenderUptoSaid : Prop := fnExactNewSenderUptoRow.holds Try.pinned (OpenSpec.upto fnExactNewSenderSpec)

/-- 'laws.FnReports', WHERE WHAT IT READS IS OF BULK AT MOST 1048576: true; the input reads as it did. -/
def fnReportsUptoRow : OpenClaim := { program := "ytgnohnlpicmnaaa", sum := "7540fd5f194726fbec1a25b2b60252580499a9b8879f8e86d67d0505230b721e", func := "loop.example/g00657/laws.FnReports", spec := "fnReports", unfollowed := true, recurses := true, apart := false, narrowed := true }
def FnReportsUptoSaid : Prop := fnReportsUptoRow.holds Try.pinned (OpenSpec.upto fnReportsSpec)

/-- 'laws.FnPlans', WHERE WHAT IT READS IS OF BULK AT MOST 1048576: true; the input reads as it did. -/
def fnPlansUptoRow : OpenClaim := { program := "ytgnohnlpicmnaaa", sum := "7540fd5f194726fbec1a25b2b60252580499a9b8879f8e86d67d0505230b721e", func := "loop.example/g00657/laws.FnPlans", spec := "fnPlans", unfollowed := true, recurses := true, apart := false, narrowed := true }
def FnPlansUptoSaid : Prop := fnPlansUptoRow.holds Try.pinned (OpenSpec.upto fnPlansSpec)

end Rows
end Go.Proofs.Ytgnohnlpicmnaaa
