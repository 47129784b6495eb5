/- For every input the law FnExactSessionFault returns true, and its arguments read behind the call as they read before. No further condition. -/
import Derived.Test.YtclhghlpokdiiaaGreatRows
import Derived.Test.YtclhghlpokdiiaaGreatPureFnExactSessionFault
import Derived.WalkKit
import Derived.ProofKit
import Derived.OpenShut
import Derived.ShutString
import Derived.ChangeOld
import Derived.Below
import Derived.Carry
import Derived.SizedLaws
namespace Go.Proofs.YtclhghlpokdiiaaGreat.fnExactSessionFault
open Go.ChangeShapes Go.WideShapes Go.ChangeAt Go.RowKit
open Go.ChangeMaps (open_string shut_string)
set_option linter.unusedVariables false
theorem own : ownKnob Tryz.prog.godebug = none := by kernel_rfl
theorem laidOut : laidOutB Tryz.prog = true := by kernel_rfl
set_option maxRecDepth 100000 in
theorem lifted (os : Os) (started : os.Started) (H : Type) (enc : TypeId × Value → H) :
    ReturnsInHanded {} Tryz.checked os 3 .any (Rows.fnExactSessionFaultSpec.pre6 enc Tryz.prog Tryz.f3 Rows.fnExactSessionFaultRow.domain false) (Rows.fnExactSessionFaultSpec.post enc Tryz.prog Tryz.f3 false true false false) := by
  refine returnsInHanded_of_change_sized (C := Tryz.checked) own started (by kernel_rfl) Tryz.func3
    (ChangeSpec.witness6 (enc := enc) (C := Tryz.checked) false ⟨#[], #[.agg #[.int .i64 0, .int .i64 0, .int .i64 0, .int .i64 0, .int .i64 0, .slice none 0 0, .slice none 0 0, .bool false, .int .i64 0, .int .i64 0, .slice none 0 0, .bool false, .int .i64 0, .int .i64 0, .slice none 0 0, .int .i64 0, .int .i64 0, .int .i64 0, .int .i64 0, .slice none 0 0, .bool false, .int .i64 0, .int .i64 0, .slice none 0 0, .bool false, .int .i64 0, .int .i64 0, .slice none 0 0, .int .i64 0, .slice none 0 0, .slice none 0 0, .slice none 0 0, .int .i64 0, .int .i64 0, .slice none 0 0, .int .i64 0, .int .i64 0, .slice none 0 0, .slice none 0 0]], []⟩ 8 (by kernel_rfl) (by kernel_rfl) (by kernel_rfl) (by kernel_rfl)) ?_
  intro W base args ds gs before hval0 hW hcnd hsz0 _
  have hval : ∀ (j : Nat) t v, Tryz.f3.params[j]? = some t → args[j]? = some v → Value.okWide Tryz.prog W .any base t v := hval0
  have hW' := hW
  obtain ⟨p, q, hA0, hV, rfl, hfz, hnd⟩ := hW
  have hA : DataW.TrodAll enc Tryz.prog W 0 (fun _ => true) true Tryz.f3.params.toList args.toList ds p := hA0
  rw [Tryz.params3] at hA hval
  obtain ⟨v0, vs0, d0, ds0, p0, q0, hargs, rfl, rfl, h0, r0⟩ := trodAll_cons hA
  obtain ⟨rfl, rfl, rfl⟩ := trodAll_nil r0
  obtain rfl : args = #[v0] := by cases args; simp_all
  obtain ⟨rfl, rfl⟩ := trodVars_none hV
  have lt0 : ∀ x ∈ p0, x.block < W.heap.size := by obtain ⟨m, hm⟩ := h0; exact DataW.trod_lt m _ _ _ hm
  obtain ⟨c0, o0, e0⟩ := Wm.open_struct (n := 20) (ts := [.int .i64, .int .i64, .int .i64, .int .i64, .int .i64, .sl 1 [.int .i64], .sl 1 [.int .i64], .bool, .int .i64, .int .i64, .sl 1 [.int .i64], .bool, .int .i64, .int .i64, .sl 1 [.int .i64], .int .i64, .int .i64, .int .i64, .int .i64, .sl 3 [.int .i64, .int .i64, .sl 1 [.int .u8]], .bool, .int .i64, .int .i64, .sl 1 [.int .i64], .bool, .int .i64, .int .i64, .sl 1 [.int .i64], .int .i64, .sl 1 [.int .i64], .sl 1 [.int .i64], .sl 1 [.int .i64], .int .i64, .int .i64, .sl 1 [.int .i64], .int .i64, .int .i64, .sl 2 [.int .i64, .sl 1 [.int .u8]], .sl 3 [.int .i64, .int .i64, .int .i64]]) Tryz.underlying39 (by kernel_rfl) (hval 0 39 v0 rfl rfl) h0
  have n0 : Wm.nf (.agg c0) = true := Wm.OkL.nf o0
  obtain ⟨s0, rfl, w0⟩ := Wm.FnExactSessionFault.SSession.of o0
  clear hA0 hval0 hsz0
  have hl : Wm.lev Wm.FnExactSessionFault.tab 10 3 [.agg (s0.cells .lent)] = some (.bool true, [.gone]) :=
    (Wm.FnExactSessionFault.laws_FnExactSessionFault_ok 0 s0.Sender.Size s0.Sender.Budget s0.Sender.Refresh s0.Sender.Number s0.Sender.Lap.Size s0.Sender.Lap.Half s0.Sender.Lap.Rest s0.Sender.A.Known s0.Sender.A.Number s0.Sender.A.Rung s0.Sender.A.Gains s0.Sender.B.Known s0.Sender.B.Number s0.Sender.B.Rung s0.Sender.B.Gains s0.Sender.SinceA s0.Sender.SinceB s0.Receiver.Size s0.Receiver.Next s0.Receiver.Held s0.Receiver.A.Known s0.Receiver.A.Number s0.Receiver.A.Rung s0.Receiver.A.Gains s0.Receiver.B.Known s0.Receiver.B.Number s0.Receiver.B.Rung s0.Receiver.B.Gains s0.Receiver.Synth.Size s0.Receiver.Synth.Head s0.Receiver.Synth.Tail s0.Receiver.Last s0.Receiver.Lost s0.Scheduler.Last s0.Scheduler.Window s0.Tick s0.Wait s0.Flights s0.Notes).trans (congrArg (Option.map fun b => (Wm.D.bool b, ([.gone] : List Wm.D))) (Wm.FnExactSessionFault.pure s0 w0))
  have hcall := Wm.call_true (w := W) Wm.FnExactSessionFault.tabOk hl (fun _ => rfl) (by simp only [Wm.nfL, n0, Bool.and_self]) (by rfl) (by rfl) (vs := [v0]) rfl (Wm.RepSs.one e0).2
  refine hcall.mono fun e W' ⟨he, b1, b2, b3, b4, b5⟩ => ?_
  subst he
  have bel : Below W.heap.size W W' := ⟨b1, b2, b3, b4, b5⟩
  exact ⟨_, rfl, _, _, _, [], _, [], hW', trodAll_mk1 (shut_bool Tryz.underlying4 _), (trodAll_cons_mk (Below.trod laidOut (by kernel_rfl) (of_decide_eq_true (by kernel_rfl)) h0 bel lt0) trodAll_mk0), rfl, bel.frame _, fun h => by cases h⟩
theorem jLaid : laidOutB Tryz.pinned.checked.prog = true := laidOut
theorem jMake : (Tryz.pinned.checked.prog.make == some Rows.fnExactSessionFaultRow.make) = true := by kernel_rfl
theorem jEnter : (Tryz.pinned.checked.prog.mayEnter) = true := by kernel_rfl
theorem jLift : (Rows.fnExactSessionFaultRow.lifted == Tryz.pinned.checked.prog.liftsFinal) = true := by kernel_rfl
theorem jPlace : (Rows.fnExactSessionFaultRow.inPlace == Tryz.pinned.checked.prog.inPlace 3) = true := by kernel_rfl
theorem jUnf : (Rows.fnExactSessionFaultRow.unfollowed == Tryz.pinned.checked.prog.unfollowed 3) = true := by kernel_rfl
theorem jRec : (Rows.fnExactSessionFaultRow.recurses == Tryz.pinned.checked.prog.recurses 3) = true := by kernel_rfl
theorem jNamed : (Rows.fnExactSessionFaultRow.named == Tryz.pinned.checked.prog.varsNamed 3) = true := by kernel_rfl
theorem jMaps : (mapsRowed Tryz.pinned.checked.prog) = true := by kernel_rfl
theorem closed : joinedFacts Tryz.pinned.checked.prog 3 Tryz.f3 Rows.fnExactSessionFaultSpec Rows.fnExactSessionFaultRow = true := by
  unfold joinedFacts
  rw [jLaid, jMake, jEnter, jLift, jPlace, jUnf, jRec, jNamed, jMaps]
  kernel_rfl
theorem over : Rows.fnExactSessionFaultRow.holds Tryz.pinned (OpenSpec.ofChange Rows.fnExactSessionFaultSpec) :=
  OpenClaim.holds_of_wide 3 Tryz.f3 rfl rfl rfl rfl rfl rfl rfl ⟨rfl, rfl, rfl, rfl, rfl⟩ rfl rfl rfl rfl rfl (by kernel_rfl) Tryz.func3 closed
    (of_decide_eq_true (by kernel_rfl)) (by unfold Func.isWrapper; first | (rw [if_pos (by decide +kernel)]; kernel_rfl) | (rw [if_neg (by decide +kernel)]; exact ⟨rfl, rfl⟩))
    (fun os started H enc _ => lifted os started H enc)
theorem proved : Rows.FnExactSessionFaultSaid := over
#print axioms proved
end Go.Proofs.YtclhghlpokdiiaaGreat.fnExactSessionFault
namespace Go.Proofs.YtclhghlpokdiiaaGreat
/-- The row, under a short name, for the claim. -/
theorem fnExactSessionFault_holds : Rows.FnExactSessionFaultSaid := fnExactSessionFault.proved
end Go.Proofs.YtclhghlpokdiiaaGreat
