/- For every input the law FnExactTakeSlot returns true, and its arguments read behind the call as they read before. No further condition. -/
import Derived.Test.YtjgdnpockaijeaaRows
import Derived.Test.YtjgdnpockaijeaaPureFnExactTakeSlot
import Derived.WalkKit
import Derived.ProofKit
import Derived.OpenShut
import Derived.ShutString
import Derived.ChangeOld
import Derived.Below
import Derived.Carry
import Derived.SizedLaws
namespace Go.Proofs.Ytjgdnpockaijeaa.fnExactTakeSlot
open Go.ChangeShapes Go.WideShapes Go.ChangeAt Go.RowKit
open Go.ChangeMaps (open_string shut_string)
set_option linter.unusedVariables false
theorem own : ownKnob Try.prog.godebug = none := by kernel_rfl
theorem laidOut : laidOutB Try.prog = true := by kernel_rfl
set_option maxRecDepth 100000 in
theorem lifted (os : Os) (started : os.Started) (H : Type) (enc : TypeId × Value → H) :
    ReturnsInHanded {} Try.checked os 8 .any (Rows.fnExactTakeSlotSpec.pre6 enc Try.prog Try.f8 Rows.fnExactTakeSlotRow.domain false) (Rows.fnExactTakeSlotSpec.post enc Try.prog Try.f8 false true false false) := by
  refine returnsInHanded_of_change_sized (C := Try.checked) own started (by kernel_rfl) Try.func8
    (ChangeSpec.witness6 (enc := enc) (C := Try.checked) false ⟨#[], #[.agg #[.slice none 0 0, .int .i64 0, .int .i64 0, .int .i64 0], .agg #[.int .i64 0, .int .i64 0, .int .i64 0]], []⟩ 8 (by kernel_rfl) (by kernel_rfl) (by kernel_rfl) (by kernel_rfl)) ?_
  intro W base args ds gs before hval0 hW hcnd hsz0 _
  have hval : ∀ (j : Nat) t v, Try.f8.params[j]? = some t → args[j]? = some v → Value.okWide Try.prog W .any base t v := hval0
  have hW' := hW
  obtain ⟨p, q, hA0, hV, rfl, hfz, hnd⟩ := hW
  have hA : DataW.TrodAll enc Try.prog W 0 (fun _ => true) true Try.f8.params.toList args.toList ds p := hA0
  rw [Try.params8] at hA hval
  obtain ⟨v0, vs0, d0, ds0, p0, q0, hargs, rfl, rfl, h0, r0⟩ := trodAll_cons hA
  obtain ⟨v1, vs1, d1, ds1, p1, q1, rfl, rfl, rfl, h1, r1⟩ := trodAll_cons r0
  obtain ⟨rfl, rfl, rfl⟩ := trodAll_nil r1
  obtain rfl : args = #[v0, v1] := by cases args; simp_all
  obtain ⟨rfl, rfl⟩ := trodVars_none hV
  have lt0 : ∀ x ∈ p0, x.block < W.heap.size := by obtain ⟨m, hm⟩ := h0; exact DataW.trod_lt m _ _ _ hm
  obtain ⟨c0, o0, e0⟩ := Wm.open_struct (n := 20) (ts := [.sl 1 [.int .u8], .int .i64, .int .i64, .int .i64]) Try.underlying95 (by kernel_rfl) (hval 0 95 v0 rfl rfl) h0
  have n0 : Wm.nf (.agg c0) = true := Wm.OkL.nf o0
  obtain ⟨s0, rfl, w0⟩ := Wm.FnExactTakeSlot.SDecoder.of o0
  have lt1 : ∀ x ∈ p1, x.block < W.heap.size := by obtain ⟨m, hm⟩ := h1; exact DataW.trod_lt m _ _ _ hm
  obtain ⟨c1, o1, e1⟩ := Wm.open_struct (n := 20) (ts := [.int .i64, .int .i64, .int .i64]) Try.underlying97 (by kernel_rfl) (hval 1 97 v1 rfl rfl) h1
  have n1 : Wm.nf (.agg c1) = true := Wm.OkL.nf o1
  obtain ⟨s1, rfl, w1⟩ := Wm.FnExactTakeSlot.SSlot.of o1
  clear hA0 hval0 hsz0
  have hl : Wm.lev Wm.FnExactTakeSlot.tab 4 8 [.agg (s0.cells .lent), .agg (s1.cells .lent)] = some (.bool true, [.gone, .gone]) :=
    (Wm.FnExactTakeSlot.laws_FnExactTakeSlot_ok 0 s0.Data s0.At s0.Rest s0.Range s1.Low s1.Size s1.Total).trans (congrArg (Option.map fun b => (Wm.D.bool b, ([.gone, .gone] : List Wm.D))) (Wm.FnExactTakeSlot.pure s0 s1 w0 w1))
  have hcall := Wm.call_true (w := W) Wm.FnExactTakeSlot.tabOk hl (fun _ => rfl) (by simp only [Wm.nfL, n0, n1, Bool.and_self]) (by rfl) (by rfl) (vs := [v0, v1]) rfl ((Wm.RepSs.app (Wm.RepSs.one e0) (Wm.RepSs.one e1))).2
  refine hcall.mono fun e W' ⟨he, b1, b2, b3, b4, b5⟩ => ?_
  subst he
  have bel : Below W.heap.size W W' := ⟨b1, b2, b3, b4, b5⟩
  exact ⟨_, rfl, _, _, _, [], _, [], hW', trodAll_mk1 (shut_bool Try.underlying4 _), (trodAll_cons_mk (Below.trod laidOut (by kernel_rfl) (of_decide_eq_true (by kernel_rfl)) h0 bel lt0) (trodAll_cons_mk (Below.trod laidOut (by kernel_rfl) (of_decide_eq_true (by kernel_rfl)) h1 bel lt1) trodAll_mk0)), rfl, bel.frame _, fun h => by cases h⟩
theorem jLaid : laidOutB Try.pinned.checked.prog = true := laidOut
theorem jMake : (Try.pinned.checked.prog.make == some Rows.fnExactTakeSlotRow.make) = true := by kernel_rfl
theorem jEnter : (Try.pinned.checked.prog.mayEnter) = true := by kernel_rfl
theorem jLift : (Rows.fnExactTakeSlotRow.lifted == Try.pinned.checked.prog.liftsFinal) = true := by kernel_rfl
theorem jPlace : (Rows.fnExactTakeSlotRow.inPlace == Try.pinned.checked.prog.inPlace 8) = true := by kernel_rfl
theorem jUnf : (Rows.fnExactTakeSlotRow.unfollowed == Try.pinned.checked.prog.unfollowed 8) = true := by kernel_rfl
theorem jRec : (Rows.fnExactTakeSlotRow.recurses == Try.pinned.checked.prog.recurses 8) = true := by kernel_rfl
theorem jNamed : (Rows.fnExactTakeSlotRow.named == Try.pinned.checked.prog.varsNamed 8) = true := by kernel_rfl
theorem jMaps : (mapsRowed Try.pinned.checked.prog) = true := by kernel_rfl
theorem closed : joinedFacts Try.pinned.checked.prog 8 Try.f8 Rows.fnExactTakeSlotSpec Rows.fnExactTakeSlotRow = true := by
  unfold joinedFacts
  rw [jLaid, jMake, jEnter, jLift, jPlace, jUnf, jRec, jNamed, jMaps]
  kernel_rfl
theorem over : Rows.fnExactTakeSlotRow.holds Try.pinned (OpenSpec.ofChange Rows.fnExactTakeSlotSpec) :=
  OpenClaim.holds_of_wide 8 Try.f8 rfl rfl rfl rfl rfl rfl rfl ⟨rfl, rfl, rfl, rfl, rfl⟩ rfl rfl rfl rfl rfl (by kernel_rfl) Try.func8 closed
    (of_decide_eq_true (by kernel_rfl)) (by unfold Func.isWrapper; first | (rw [if_pos (by decide +kernel)]; kernel_rfl) | (rw [if_neg (by decide +kernel)]; exact ⟨rfl, rfl⟩))
    (fun os started H enc _ => lifted os started H enc)
theorem proved : Rows.FnExactTakeSlotSaid := over
#print axioms proved
end Go.Proofs.Ytjgdnpockaijeaa.fnExactTakeSlot
namespace Go.Proofs.Ytjgdnpockaijeaa
/-- The row, under a short name, for the claim. -/
theorem fnExactTakeSlot_holds : Rows.FnExactTakeSlotSaid := fnExactTakeSlot.proved
end Go.Proofs.Ytjgdnpockaijeaa
