/-
  No cell of these rows narrows 'for every input' (looked for: loops, veiled, ifaces, maps, wideKeys, modest, calm, conditions, laid).
  DERIVED. THE GIVEN ROWS OF THIS SEAT. 6 by the template 'for every input the law returns true; each argument reads behind the call as it read before'; 0 by the template 'total and deterministic' (their statements: YtajlapiocnanbaaTotals.lean).
  GIVEN WITH THE SEED: the statements are not yours to turn. If you find one false, say at which input.
  Laid BY PROGRAM, IN A SANDBOX (cutbox-rows.mjs): the forced cells as the released guide's own fill.sh prints them over the translation 570206a6f2d0d4df… (all of the seat's roots in one cut). By AI agents, Wed Nov 11 2026. No macro, syntax, notation, axiom, sorry.
-/
import Derived.Test.YtajlapiocnanbaaChecked
import GoSem.Claim
import GoSem.ClaimJoined
import GoSem.ClaimMapViews
import Derived.JoinedTies
import Derived.KernelRfl
namespace Go.Proofs.Ytajlapiocnanbaa
/- THE CELL 'sum', in the pinned program and in every row, IS THE sha256 OF THE DUMP (.gsa) THAT YtajlapiocnanbaaProg.lean LOADS. Nothing in Lean hashes anything: it is a label: what it is worth is what the hold of that sum in a sandbox is worth. -/
noncomputable def Try.pinned : Pinned := { name := "ytajlapiocnanbaa", sum := "570206a6f2d0d4df13d60582e4de5172fa3feca950b84e79613282378a5575ca", checked := Try.checked }
namespace Rows
def none {H : Type} : Left H := { results := [], args := [] }

/-- 'laws.FnExactSenderFault': WHATEVER THE INPUT: true; the input reads as it did. -/
def fnExactSenderFaultSpec : ChangeSpec := { name := "fnExactSenderFault", fn := fun _ => fun
  | [d] => { results := [.lit (.bool true)], args := [d] }
  | _ => none }
def fnExactSenderFaultRow : OpenClaim := { program := "ytajlapiocnanbaa", sum := "570206a6f2d0d4df13d60582e4de5172fa3feca950b84e79613282378a5575ca", func := "loop.example/g00657/laws.FnExactSenderFault", spec := "fnExactSenderFault", unfollowed := true, recurses := true, apart := false }
def FnExactSenderFaultSaid : Prop := fnExactSenderFaultRow.holds Try.pinned (OpenSpec.ofChange fnExactSenderFaultSpec)

/-- ITS FALSE NEIGHBOUR: 'it returns false'. Refute it at one input. -/
def fnExactSenderFaultWrong : ChangeSpec := { name := "fnExactSenderFault", fn := fun _ => fun
  | [d] => { results := [.lit (.bool false)], args := [d] }
  | _ => none }
def FnExactSenderFaultWrongFalsely : Prop := fnExactSenderFaultRow.holds Try.pinned (OpenSpec.ofChange fnExactSenderFaultWrong)

/-- 'laws.FnExactSameReceivers': WHATEVER THE INPUT: true; the input reads as it did. -/
def fnExactSameReceiversSpec : ChangeSpec := { name := "fnExactSameReceivers", fn := fun _ => fun
  | [d1, d2] => { results := [.lit (.bool true)], args := [d1, d2] }
  | _ => none }
def fnExactSameReceiversRow : OpenClaim := { program := "ytajlapiocnanbaa", sum := "570206a6f2d0d4df13d60582e4de5172fa3feca950b84e79613282378a5575ca", func := "loop.example/g00657/laws.FnExactSameReceivers", spec := "fnExactSameReceivers", unfollowed := true, recurses := true, apart := false }
def FnExactSameReceiversSaid : Prop := fnExactSameReceiversRow.holds Try.pinned (OpenSpec.ofChange fnExactSameReceiversSpec)

/-- ITS FALSE NEIGHBOUR: 'it returns false'. Refute it at one input. -/
def fnExactSameReceiversWrong : ChangeSpec := { name := "fnExactSameReceivers", fn := fun _ => fun
  | [d1, d2] => { results := [.lit (.bool false)], args := [d1, d2] }
  | _ => none }
def FnExactSameReceiversWrongFalsely : Prop := fnExactSameReceiversRow.holds Try.pinned (OpenSpec.ofChange fnExactSameReceiversWrong)

/-- 'laws.FnExactIntraSides': WHATEVER THE INPUT: true; the input reads as it did. -/
def fnExactIntraSidesSpec : ChangeSpec := { name := "fnExactIntraSides", fn := fun _ => fun
  | [d1, d2] => { results := [.lit (.bool true)], args := [d1, d2] }
  | _ => none }
def fnExactIntraSidesRow : OpenClaim := { program := "ytajlapiocnanbaa", sum := "570206a6f2d0d4df13d60582e4de5172fa3feca950b84e79613282378a5575ca", func := "loop.example/g00657/laws.FnExactIntraSides", spec := "fnExactIntraSides", unfollowed := true, recurses := true, apart := false }
def FnExactIntraSidesSaid : Prop := fnExactIntraSidesRow.holds Try.pinned (OpenSpec.ofChange fnExactIntraSidesSpec)

/-- ITS FALSE NEIGHBOUR: 'it returns false'. Refute it at one input. -/
def fnExactIntraSidesWrong : ChangeSpec := { name := "fnExactIntraSides", fn := fun _ => fun
  | [d1, d2] => { results := [.lit (.bool false)], args := [d1, d2] }
  | _ => none }
def FnExactIntraSidesWrongFalsely : Prop := fnExactIntraSidesRow.holds Try.pinned (OpenSpec.ofChange fnExactIntraSidesWrong)

/-- 'laws.FnExactReceiverFault': WHATEVER THE INPUT: true; the input reads as it did. -/
def fnExactReceiverFaultSpec : ChangeSpec := { name := "fnExactReceiverFault", fn := fun _ => fun
  | [d] => { results := [.lit (.bool true)], args := [d] }
  | _ => none }
def fnExactReceiverFaultRow : OpenClaim := { program := "ytajlapiocnanbaa", sum := "570206a6f2d0d4df13d60582e4de5172fa3feca950b84e79613282378a5575ca", func := "loop.example/g00657/laws.FnExactReceiverFault", spec := "fnExactReceiverFault", unfollowed := true, recurses := true, apart := false }
def FnExactReceiverFaultSaid : Prop := fnExactReceiverFaultRow.holds Try.pinned (OpenSpec.ofChange fnExactReceiverFaultSpec)

/-- ITS FALSE NEIGHBOUR: 'it returns false'. Refute it at one input. -/
def fnExactReceiverFaultWrong : ChangeSpec := { name := "fnExactReceiverFault", fn := fun _ => fun
  | [d] => { results := [.lit (.bool false)], args := [d] }
  | _ => none }
def FnExactReceiverFaultWrongFalsely : Prop := fnExactReceiverFaultRow.holds Try.pinned (OpenSpec.ofChange fnExactReceiverFaultWrong)

/-- 'laws.FnExactSameSessions': WHATEVER THE INPUT: true; the input reads as it did. -/
def fnExactSameSessionsSpec : ChangeSpec := { name := "fnExactSameSessions", fn := fun _ => fun
  | [d1, d2] => { results := [.lit (.bool true)], args := [d1, d2] }
  | _ => none }
def fnExactSameSessionsRow : OpenClaim := { program := "ytajlapiocnanbaa", sum := "570206a6f2d0d4df13d60582e4de5172fa3feca950b84e79613282378a5575ca", func := "loop.example/g00657/laws.FnExactSameSessions", spec := "fnExactSameSessions", unfollowed := true, recurses := true, apart := false }
def FnExactSameSessionsSaid : Prop := fnExactSameSessionsRow.holds Try.pinned (OpenSpec.ofChange fnExactSameSessionsSpec)

/-- ITS FALSE NEIGHBOUR: 'it returns false'. Refute it at one input. -/
def fnExactSameSessionsWrong : ChangeSpec := { name := "fnExactSameSessions", fn := fun _ => fun
  | [d1, d2] => { results := [.lit (.bool false)], args := [d1, d2] }
  | _ => none }
def FnExactSameSessionsWrongFalsely : Prop := fnExactSameSessionsRow.holds Try.pinned (OpenSpec.ofChange fnExactSameSessionsWrong)

/-- 'laws.FnExactIsFaithful': WHATEVER THE INPUT: true; the input reads as it did. -/
def fnExactIsFaithfulSpec : ChangeSpec := { name := "fnExactIsFaithful", fn := fun _ => fun
  | [d1, d2, d3] => { results := [.lit (.bool true)], args := [d1, d2, d3] }
  | _ => none }
def fnExactIsFaithfulRow : OpenClaim := { program := "ytajlapiocnanbaa", sum := "570206a6f2d0d4df13d60582e4de5172fa3feca950b84e79613282378a5575ca", func := "loop.example/g00657/laws.FnExactIsFaithful", spec := "fnExactIsFaithful", unfollowed := true, recurses := true, apart := false }
def FnExactIsFaithfulSaid : Prop := fnExactIsFaithfulRow.holds Try.pinned (OpenSpec.ofChange fnExactIsFaithfulSpec)

/-- ITS FALSE NEIGHBOUR: 'it returns false'. Refute it at one input. -/
def fnExactIsFaithfulWrong : ChangeSpec := { name := "fnExactIsFaithful", fn := fun _ => fun
  | [d1, d2, d3] => { results := [.lit (.bool false)], args := [d1, d2, d3] }
  | _ => none }
def FnExactIsFaithfulWrongFalsely : Prop := fnExactIsFaithfulRow.holds Try.pinned (OpenSpec.ofChange fnExactIsFaithfulWrong)

/- THE SECOND FORM. 'bulk': how many values and letters a reading holds, each counted each time it is reached (what is shared counts as often as it is met; a slice's spare places count too). A statement '..UptoSaid' is the law's where the arguments, and the package variables that the reading takes, are together of bulk at most 1048576: NARROWER than '..Said'. Prove '..Said' where nothing that the law and all that it calls make is longer than what came in: it says more and counts as full. Else prove '..UptoSaid'. A law counts once. -/
mutual
def uptoBulk {H : Type} : DataW H → Nat
  | .lit (.string bytes) => bytes.length + 1
  | .lit _ => 1
  | .nil => 1
  | .ptr d => uptoBulk d + 1
  | .slice elems spare => uptoBulkAll elems + uptoBulkAll spare + 1
  | .agg parts => uptoBulkAll parts + 1
  | .iface _ d => uptoBulk d + 1
  | .map entries => uptoBulkEntries entries + 1
  | .held _ => 1
def uptoBulkAll {H : Type} : List (DataW H) → Nat
  | [] => 0
  | d :: r => uptoBulk d + uptoBulkAll r
def uptoBulkEntries {H : Type} : List (Lit × DataW H) → Nat
  | [] => 0
  | x :: r => uptoBulkEntry x + uptoBulkEntries r
def uptoBulkEntry {H : Type} : Lit × DataW H → Nat
  | (.string bytes, d) => bytes.length + uptoBulk d + 1
  | (_, d) => uptoBulk d + 1
 end
def uptoSmall : (H : Type) → List (DataW H) → Bool := fun _ ds => decide (uptoBulkAll ds ≤ 1048576)
def OpenSpec.upto (s : _root_.Go.ChangeSpec) : _root_.Go.OpenSpec := { _root_.Go.OpenSpec.ofChange s with cond := some uptoSmall }

/-- 'laws.FnExactSenderFault', WHERE WHAT IT READS IS OF BULK AT MOST 1048576: true; the input reads as it did. -/
def fnExactSenderFaultUptoRow : OpenClaim := { program := "ytajlapiocnanbaa", sum := "570206a6f2d0d4df13d60582e4de5172fa3feca950b84e79613282378a5575ca", func := "loop.example/g00657/laws.FnExactSenderFault", spec := "fnExactSenderFault", unfollowed := true, recurses := true, apart := false, narrowed := true }
def FnExactSenderFaultUptoSaid : Prop := fnExactSenderFaultUptoRow.holds Try.pinned (OpenSpec.upto fnExactSenderFaultSpec)

/-- 'laws.FnExactSameReceivers', WHERE WHAT IT READS IS OF BULK AT MOST 1048576: true; the input reads as it did. -/
def fnExactSameReceiversUptoRow : OpenClaim := { program := "ytajlapiocnanbaa", sum := "570206a6f2d0d4df13d60582e4de5172fa3feca950b84e79613282378a5575ca", func := "loop.example/g00657/laws.FnExactSameReceivers", spec := "fnExactSameReceivers", unfollowed := true, recurses := true, apart := false, narrowed := true }
def FnExactSameReceiversUptoSaid : Prop := fnExactSameReceiversUptoRow.holds Try.pinned (OpenSpec.upto fnExactSameReceiversSpec)

/-- 'laws.FnExactIntraSides', WHERE WHAT IT READS IS OF BULK AT MOST 1048576: true; the input reads as it did. -/
def fnExactIntraSidesUptoRow : OpenClaim := { program := "ytajlapiocnanbaa", sum := "570206a6f2d0d4df13d60582e4de5172fa3feca950b84e79613282378a5575ca", func := "loop.example/g00657/laws.FnExactIntraSides", spec := "fnExactIntraSides", unfollowed := true, recurses := true, apart := false, narrowed := true }
def FnExactIntraSidesUptoSaid : Prop := fnExactIntraSidesUptoRow.holds Try.pinned (OpenSpec.upto fnExactIntraSidesSpec)

/-- 'laws.FnExactReceiverFault', WHERE WHAT IT READS IS OF BULK AT MOST 1048576: true; the input reads as it did. -/
def fnExactReceiverFaultUptoRow : OpenClaim := { program := "ytajlapiocnanbaa", sum := "570206a6f2d0d4df13d60582e4de5172fa3feca950b84e79613282378a5575ca", func := "loop.example/g00657/laws.FnExactReceiverFault", spec := "fnExactReceiverFault", unfollowed := true, recurses := true, apart := false, narrowed := true }
def FnExactReceiverFaultUptoSaid : Prop := fnExactReceiverFaultUptoRow.holds Try.pinned (OpenSpec.upto fnExactReceiverFaultSpec)

/-- 'laws.FnExactSameSessions', WHERE WHAT IT READS IS OF BULK AT MOST 1048576: true; the input reads as it did. -/
def fnExactSameSessionsUptoRow : OpenClaim := { program := "ytajlapiocnanbaa", sum := "570206a6f2d0d4df13d60582e4de5172fa3feca950b84e79613282378a5575ca", func := "loop.example/g00657/laws.FnExactSameSessions", spec := "fnExactSameSessions", unfollowed := true, recurses := true, apart := false, narrowed := true }
def FnExactSameSessionsUptoSaid : Prop := fnExactSameSessionsUptoRow.holds Try.pinned (OpenSpec.upto fnExactSameSessionsSpec)

/-- 'laws.FnExactIsFaithful', WHERE WHAT IT READS IS OF BULK AT MOST 1048576: true; the input reads as it did. -/
def fnExactIsFaithfulUptoRow : OpenClaim := { program := "ytajlapiocnanbaa", sum := "570206a6f2d0d4df13d60582e4de5172fa3feca950b84e79613282378a5575ca", func := "loop.example/g00657/laws.FnExactIsFaithful", spec := "fnExactIsFaithful", unfollowed := true, recurses := true, apart := false, narrowed := true }
def FnExactIsFaithfulUptoSaid : Prop := fnExactIsFaithfulUptoRow.holds Try.pinned (OpenSpec.upto fnExactIsFaithfulSpec)

end Rows
end Go.Proofs.Ytajlapiocnanbaa
