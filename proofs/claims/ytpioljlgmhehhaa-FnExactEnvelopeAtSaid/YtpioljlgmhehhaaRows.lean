/-
  No cell of these rows narrows 'for every input' (looked for: loops, veiled, ifaces, maps, wideKeys, modest, calm, conditions, laid).
  DERIVED. THE GIVEN ROWS OF THIS SEAT. 3 by the template 'for every input the law returns true; each argument reads behind the call as it read before'; 0 by the template 'total and deterministic' (their statements: YtpioljlgmhehhaaTotals.lean).
  GIVEN WITH THE SEED: the statements are not yours to turn. If you find one false, say at which input.
  Laid BY PROGRAM, IN A SANDBOX (cutbox-rows.mjs): the forced cells as the released guide's own fill.sh prints them over the translation ad4bfa1f83a8273e… (all of the seat's roots in one cut). By AI agents, Wed Nov 11 2026. No macro, syntax, notation, axiom, sorry.
-/
import Derived.Test.YtpioljlgmhehhaaChecked
import GoSem.Claim
import GoSem.ClaimJoined
import GoSem.ClaimMapViews
import Derived.JoinedTies
import Derived.KernelRfl
namespace Go.Proofs.Ytpioljlgmhehhaa
/- THE CELL 'sum', in the pinned program and in every row, IS THE sha256 OF THE DUMP (.gsa) THAT YtpioljlgmhehhaaProg.lean LOADS. Nothing in Lean hashes anything: it is a label: what it is worth is what the hold of that sum in a sandbox is worth. -/
noncomputable def Try.pinned : Pinned := { name := "ytpioljlgmhehhaa", sum := "ad4bfa1f83a8273e56571d4357f179d08bb7143a176a70e6adf7274aff2fb796", checked := Try.checked }
namespace Rows
def none {H : Type} : Left H := { results := [], args := [] }

/-- 'laws.FnExactEnvelopeAt': WHATEVER THE INPUT: true; the input reads as it did. -/
def fnExactEnvelopeAtSpec : ChangeSpec := { name := "fnExactEnvelopeAt", fn := fun _ => fun
  | [d1, d2, d3] => { results := [.lit (.bool true)], args := [d1, d2, d3] }
  | _ => none }
def fnExactEnvelopeAtRow : OpenClaim := { program := "ytpioljlgmhehhaa", sum := "ad4bfa1f83a8273e56571d4357f179d08bb7143a176a70e6adf7274aff2fb796", func := "loop.example/g00657/laws.FnExactEnvelopeAt", spec := "fnExactEnvelopeAt", unfollowed := true, recurses := true, apart := false }
def FnExactEnvelopeAtSaid : Prop := fnExactEnvelopeAtRow.holds Try.pinned (OpenSpec.ofChange fnExactEnvelopeAtSpec)

/-- ITS FALSE NEIGHBOUR: 'it returns false'. Refute it at one input. -/
def fnExactEnvelopeAtWrong : ChangeSpec := { name := "fnExactEnvelopeAt", fn := fun _ => fun
  | [d1, d2, d3] => { results := [.lit (.bool false)], args := [d1, d2, d3] }
  | _ => none }
def FnExactEnvelopeAtWrongFalsely : Prop := fnExactEnvelopeAtRow.holds Try.pinned (OpenSpec.ofChange fnExactEnvelopeAtWrong)

/-- 'laws.FnExactIsFaithful': WHATEVER THE INPUT: true; the input reads as it did. -/
def fnExactIsFaithfulSpec : ChangeSpec := { name := "fnExactIsFaithful", fn := fun _ => fun
  | [d1, d2, d3] => { results := [.lit (.bool true)], args := [d1, d2, d3] }
  | _ => none }
def fnExactIsFaithfulRow : OpenClaim := { program := "ytpioljlgmhehhaa", sum := "ad4bfa1f83a8273e56571d4357f179d08bb7143a176a70e6adf7274aff2fb796", func := "loop.example/g00657/laws.FnExactIsFaithful", spec := "fnExactIsFaithful", unfollowed := true, recurses := true, apart := false }
def FnExactIsFaithfulSaid : Prop := fnExactIsFaithfulRow.holds Try.pinned (OpenSpec.ofChange fnExactIsFaithfulSpec)

/-- ITS FALSE NEIGHBOUR: 'it returns false'. Refute it at one input. -/
def fnExactIsFaithfulWrong : ChangeSpec := { name := "fnExactIsFaithful", fn := fun _ => fun
  | [d1, d2, d3] => { results := [.lit (.bool false)], args := [d1, d2, d3] }
  | _ => none }
def FnExactIsFaithfulWrongFalsely : Prop := fnExactIsFaithfulRow.holds Try.pinned (OpenSpec.ofChange fnExactIsFaithfulWrong)

/-- 'laws.FnExactHearPacket': WHATEVER THE INPUT: true; the input reads as it did. -/
def fnExactHearPacketSpec : ChangeSpec := { name := "fnExactHearPacket", fn := fun _ => fun
  | [d1, d2] => { results := [.lit (.bool true)], args := [d1, d2] }
  | _ => none }
def fnExactHearPacketRow : OpenClaim := { program := "ytpioljlgmhehhaa", sum := "ad4bfa1f83a8273e56571d4357f179d08bb7143a176a70e6adf7274aff2fb796", func := "loop.example/g00657/laws.FnExactHearPacket", spec := "fnExactHearPacket", inPlace := ["slices.overlaps[loop.example/g00657/impl.Held]"], unfollowed := true, recurses := true, apart := false }
def FnExactHearPacketSaid : Prop := fnExactHearPacketRow.holds Try.pinned (OpenSpec.ofChange fnExactHearPacketSpec)

/-- ITS FALSE NEIGHBOUR: 'it returns false'. Refute it at one input. -/
def fnExactHearPacketWrong : ChangeSpec := { name := "fnExactHearPacket", fn := fun _ => fun
  | [d1, d2] => { results := [.lit (.bool false)], args := [d1, d2] }
  | _ => none }
def FnExactHearPacketWrongFalsely : Prop := fnExactHearPacketRow.holds Try.pinned (OpenSpec.ofChange fnExactHearPacketWrong)

/- THE SECOND FORM. 'bulk': how many values and letters a reading holds, each counted each time it is reached (what is shared counts as often as it is met; a slice's spare places count too). A statement '..UptoSaid' is the law's where the arguments, and the package variables that the reading takes, are together of bulk at most 1048576: NARROWER than '..Said'. Prove '..Said' where nothing that the law and all that it calls make is longer than what came in: it says more and counts as full. Else prove '..UptoSaid'. A law counts once. -/
mutual
def uptoBulk {H : Type} : DataW H → Nat
  | .lit (.string bytes) => bytes.length + 1
  | .lit _ => 1
  | .nil => 1
  | .ptr d => uptoBulk d + 1
  | .slice elems spare => uptoBulkAll elems + uptoBulkAll spare + 1
  | .agg parts => uptoBulkAll parts + 1
  | .iface _ d => uptoBulk d + 1
  | .map entries => uptoBulkEntries entries + 1
  | .held _ => 1
def uptoBulkAll {H : Type} : List (DataW H) → Nat
  | [] => 0
  | d :: r => uptoBulk d + uptoBulkAll r
def uptoBulkEntries {H : Type} : List (Lit × DataW H) → Nat
  | [] => 0
  | x :: r => uptoBulkEntry x + uptoBulkEntries r
def uptoBulkEntry {H : Type} : Lit × DataW H → Nat
  | (.string bytes, d) => bytes.length + uptoBulk d + 1
  | (_, d) => uptoBulk d + 1
 end
def uptoSmall : (H : Type) → List (DataW H) → Bool := fun _ ds => decide (uptoBulkAll ds ≤ 1048576)
def OpenSpec.upto (s : _root_.Go.ChangeSpec) : _root_.Go.OpenSpec := { _root_.Go.OpenSpec.ofChange s with cond := some uptoSmall }

/-- 'laws.FnExactEnvelopeAt', WHERE WHAT IT READS IS OF BULK AT MOST 1048576: true; the input reads as it did. -/
def fnExactEnvelopeAtUptoRow : OpenClaim := { program := "ytpioljlgmhehhaa", sum := "ad4bfa1f83a8273e56571d4357f179d08bb7143a176a70e6adf7274aff2fb796", func := "loop.example/g00657/laws.FnExactEnvelopeAt", spec := "fnExactEnvelopeAt", unfollowed := true, recurses := true, apart := false, narrowed := true }
def FnExactEnvelopeAtUptoSaid : Prop := fnExactEnvelopeAtUptoRow.holds Try.pinned (OpenSpec.upto fnExactEnvelopeAtSpec)

/-- 'laws.FnExactIsFaithful', WHERE WHAT IT READS IS OF BULK AT MOST 1048576: true; the input reads as it did. -/
def fnExactIsFaithfulUptoRow : OpenClaim := { program := "ytpioljlgmhehhaa", sum := "ad4bfa1f83a8273e56571d4357f179d08bb7143a176a70e6adf7274aff2fb796", func := "loop.example/g00657/laws.FnExactIsFaithful", spec := "fnExactIsFaithful", unfollowed := true, recurses := true, apart := false, narrowed := true }
def FnExactIsFaithfulUptoSaid : Prop := fnExactIsFaithfulUptoRow.holds Try.pinned (OpenSpec.upto fnExactIsFaithfulSpec)

/-- 'laws.FnExactHearPacket', WHERE WHAT IT READS IS OF BULK AT MOST 1048576: true; the input reads as it did. -/
def fnExactHearPacketUptoRow : OpenClaim := { program := "ytpioljlgmhehhaa", sum := "ad4bfa1f83a8273e56571d4357f179d08bb7143a176a70e6adf7274aff2fb796", func := "loop.example/g00657/laws.FnExactHearPacket", spec := "fnExactHearPacket", inPlace := ["slices.overlaps[loop.example/g00657/impl.Held]"], unfollowed := true, recurses := true, apart := false, narrowed := true }
def FnExactHearPacketUptoSaid : Prop := fnExactHearPacketUptoRow.holds Try.pinned (OpenSpec.upto fnExactHearPacketSpec)

end Rows
end Go.Proofs.Ytpioljlgmhehhaa
