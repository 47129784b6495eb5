/- For every input the law FnExactSourcesOf returns true, and its arguments read behind the call as they read before. No further condition. -/
import Derived.Test.YtnffopcjijoclaaRows
import Derived.Test.YtnffopcjijoclaaPureFnExactSourcesOf
import Derived.WalkKit
import Derived.ProofKit
import Derived.OpenShut
import Derived.ShutString
import Derived.ChangeOld
import Derived.Below
import Derived.Carry
import Derived.SizedLaws
namespace Go.Proofs.Ytnffopcjijoclaa.fnExactSourcesOf
open Go.ChangeShapes Go.WideShapes Go.ChangeAt Go.RowKit
open Go.ChangeMaps (open_string shut_string)
set_option linter.unusedVariables false
theorem own : ownKnob Try.prog.godebug = none := by kernel_rfl
theorem laidOut : laidOutB Try.prog = true := by kernel_rfl
set_option maxRecDepth 100000 in
theorem lifted (os : Os) (started : os.Started) (H : Type) (enc : TypeId × Value → H) :
    ReturnsInHanded {} Try.checked os 4 .any (Rows.fnExactSourcesOfSpec.pre6 enc Try.prog Try.f4 Rows.fnExactSourcesOfRow.domain false) (Rows.fnExactSourcesOfSpec.post enc Try.prog Try.f4 false true false false) := by
  refine returnsInHanded_of_change_sized (C := Try.checked) own started (by kernel_rfl) Try.func4
    (ChangeSpec.witness6 (enc := enc) (C := Try.checked) false ⟨#[], #[.slice none 0 0], []⟩ 8 (by kernel_rfl) (by kernel_rfl) (by kernel_rfl) (by kernel_rfl)) ?_
  intro W base args ds gs before hval0 hW hcnd hsz0 _
  have hval : ∀ (j : Nat) t v, Try.f4.params[j]? = some t → args[j]? = some v → Value.okWide Try.prog W .any base t v := hval0
  have hW' := hW
  obtain ⟨p, q, hA0, hV, rfl, hfz, hnd⟩ := hW
  have hA : DataW.TrodAll enc Try.prog W 0 (fun _ => true) true Try.f4.params.toList args.toList ds p := hA0
  rw [Try.params4] at hA hval
  obtain ⟨v0, vs0, d0, ds0, p0, q0, hargs, rfl, rfl, h0, r0⟩ := trodAll_cons hA
  obtain ⟨rfl, rfl, rfl⟩ := trodAll_nil r0
  obtain rfl : args = #[v0] := by cases args; simp_all
  obtain ⟨rfl, rfl⟩ := trodVars_none hV
  have lt0 : ∀ x ∈ p0, x.block < W.heap.size := by obtain ⟨m, hm⟩ := h0; exact DataW.trod_lt m _ _ _ hm
  obtain ⟨c0, o0, e0⟩ := Wm.open_plain (n := 20) (k := .sl 19 [.int .i64, .int .i64, .bool, .bool, .int .i64, .int .i64, .int .i64, .int .i64, .int .i64, .sl 1 [.int .i64], .sl 1 [.int .i64], .sl 1 [.sl 1 [.int .i64]], .sl 1 [.int .i64], .bool, .int .i64, .int .i64, .sl 1 [.int .i64], .sl 1 [.int .i64], .sl 1 [.int .i64]]) (t := 22) (by kernel_rfl) (fun fs => by rw [Try.underlying22]; simp) (hval 0 22 v0 rfl rfl) h0
  have n0 := Wm.OkD.nf o0
  simp only [Wm.OkD] at o0
  obtain ⟨_, rfl, l0, o0⟩ := o0
  obtain ⟨s0, rfl, w0⟩ := Wm.rows_of (f := (Wm.FnExactSourcesOf.SOutcome.cells .lent)) (W := fun x => Wm.FnExactSourcesOf.SOutcome.Wf x) (fun el h => Wm.FnExactSourcesOf.SOutcome.of h) o0
  rw [Wm.rowE_len] at l0
  clear hA0 hval0 hsz0
  have hl : Wm.lev Wm.FnExactSourcesOf.tab 6 4 [.sh .lent 19 (Wm.rowE (Wm.FnExactSourcesOf.SOutcome.cells .lent) s0)] = some (.bool true, [.gone]) :=
    (Wm.FnExactSourcesOf.laws_FnExactSourcesOf_ok 0 s0).trans (congrArg (Option.map fun b => (Wm.D.bool b, ([.gone] : List Wm.D))) (Wm.FnExactSourcesOf.pure s0 ⟨l0, w0⟩))
  have hcall := Wm.call_true (w := W) Wm.FnExactSourcesOf.tabOk hl (fun _ => rfl) (by simp only [Wm.nfL, n0, Bool.and_self]) (by rfl) (by rfl) (vs := [v0]) rfl (Wm.RepSs.one e0).2
  refine hcall.mono fun e W' ⟨he, b1, b2, b3, b4, b5⟩ => ?_
  subst he
  have bel : Below W.heap.size W W' := ⟨b1, b2, b3, b4, b5⟩
  exact ⟨_, rfl, _, _, _, [], _, [], hW', trodAll_mk1 (shut_bool Try.underlying4 _), (trodAll_cons_mk (Below.trod laidOut (by kernel_rfl) (of_decide_eq_true (by kernel_rfl)) h0 bel lt0) trodAll_mk0), rfl, bel.frame _, fun h => by cases h⟩
theorem jLaid : laidOutB Try.pinned.checked.prog = true := laidOut
theorem jMake : (Try.pinned.checked.prog.make == some Rows.fnExactSourcesOfRow.make) = true := by kernel_rfl
theorem jEnter : (Try.pinned.checked.prog.mayEnter) = true := by kernel_rfl
theorem jLift : (Rows.fnExactSourcesOfRow.lifted == Try.pinned.checked.prog.liftsFinal) = true := by kernel_rfl
theorem jPlace : (Rows.fnExactSourcesOfRow.inPlace == Try.pinned.checked.prog.inPlace 4) = true := by kernel_rfl
theorem jUnf : (Rows.fnExactSourcesOfRow.unfollowed == Try.pinned.checked.prog.unfollowed 4) = true := by kernel_rfl
theorem jRec : (Rows.fnExactSourcesOfRow.recurses == Try.pinned.checked.prog.recurses 4) = true := by kernel_rfl
theorem jNamed : (Rows.fnExactSourcesOfRow.named == Try.pinned.checked.prog.varsNamed 4) = true := by kernel_rfl
theorem jMaps : (mapsRowed Try.pinned.checked.prog) = true := by kernel_rfl
theorem closed : joinedFacts Try.pinned.checked.prog 4 Try.f4 Rows.fnExactSourcesOfSpec Rows.fnExactSourcesOfRow = true := by
  unfold joinedFacts
  rw [jLaid, jMake, jEnter, jLift, jPlace, jUnf, jRec, jNamed, jMaps]
  kernel_rfl
theorem over : Rows.fnExactSourcesOfRow.holds Try.pinned (OpenSpec.ofChange Rows.fnExactSourcesOfSpec) :=
  OpenClaim.holds_of_wide 4 Try.f4 rfl rfl rfl rfl rfl rfl rfl ⟨rfl, rfl, rfl, rfl, rfl⟩ rfl rfl rfl rfl rfl (by kernel_rfl) Try.func4 closed
    (of_decide_eq_true (by kernel_rfl)) (by unfold Func.isWrapper; first | (rw [if_pos (by decide +kernel)]; kernel_rfl) | (rw [if_neg (by decide +kernel)]; exact ⟨rfl, rfl⟩))
    (fun os started H enc _ => lifted os started H enc)
theorem proved : Rows.FnExactSourcesOfSaid := over
#print axioms proved
end Go.Proofs.Ytnffopcjijoclaa.fnExactSourcesOf
namespace Go.Proofs.Ytnffopcjijoclaa
/-- The row, under a short name, for the claim. -/
theorem fnExactSourcesOf_holds : Rows.FnExactSourcesOfSaid := fnExactSourcesOf.proved
end Go.Proofs.Ytnffopcjijoclaa
