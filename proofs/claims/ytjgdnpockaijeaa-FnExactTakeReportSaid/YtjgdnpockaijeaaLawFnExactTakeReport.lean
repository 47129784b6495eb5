/- For every input the law FnExactTakeReport returns true, and its arguments read behind the call as they read before. No further condition. -/
import Derived.Test.YtjgdnpockaijeaaRows
import Derived.Test.YtjgdnpockaijeaaPureFnExactTakeReport
import Derived.WalkKit
import Derived.ProofKit
import Derived.OpenShut
import Derived.ShutString
import Derived.ChangeOld
import Derived.Below
import Derived.Carry
import Derived.SizedLaws
namespace Go.Proofs.Ytjgdnpockaijeaa.fnExactTakeReport
open Go.ChangeShapes Go.WideShapes Go.ChangeAt Go.RowKit
open Go.ChangeMaps (open_string shut_string)
set_option linter.unusedVariables false
theorem own : ownKnob Try.prog.godebug = none := by kernel_rfl
theorem laidOut : laidOutB Try.prog = true := by kernel_rfl
set_option maxRecDepth 100000 in
theorem lifted (os : Os) (started : os.Started) (H : Type) (enc : TypeId × Value → H) :
    ReturnsInHanded {} Try.checked os 6 .any (Rows.fnExactTakeReportSpec.pre6 enc Try.prog Try.f6 Rows.fnExactTakeReportRow.domain false) (Rows.fnExactTakeReportSpec.post enc Try.prog Try.f6 false true false false) := by
  refine returnsInHanded_of_change_sized (C := Try.checked) own started (by kernel_rfl) Try.func6
    (ChangeSpec.witness6 (enc := enc) (C := Try.checked) false ⟨#[], #[.agg #[.int .i64 0, .slice none 0 0], .agg #[.int .i64 0, .int .i64 0]], []⟩ 8 (by kernel_rfl) (by kernel_rfl) (by kernel_rfl) (by kernel_rfl)) ?_
  intro W base args ds gs before hval0 hW hcnd hsz0 _
  have hval : ∀ (j : Nat) t v, Try.f6.params[j]? = some t → args[j]? = some v → Value.okWide Try.prog W .any base t v := hval0
  have hW' := hW
  obtain ⟨p, q, hA0, hV, rfl, hfz, hnd⟩ := hW
  have hA : DataW.TrodAll enc Try.prog W 0 (fun _ => true) true Try.f6.params.toList args.toList ds p := hA0
  rw [Try.params6] at hA hval
  obtain ⟨v0, vs0, d0, ds0, p0, q0, hargs, rfl, rfl, h0, r0⟩ := trodAll_cons hA
  obtain ⟨v1, vs1, d1, ds1, p1, q1, rfl, rfl, rfl, h1, r1⟩ := trodAll_cons r0
  obtain ⟨rfl, rfl, rfl⟩ := trodAll_nil r1
  obtain rfl : args = #[v0, v1] := by cases args; simp_all
  obtain ⟨rfl, rfl⟩ := trodVars_none hV
  have lt0 : ∀ x ∈ p0, x.block < W.heap.size := by obtain ⟨m, hm⟩ := h0; exact DataW.trod_lt m _ _ _ hm
  obtain ⟨c0, o0, e0⟩ := Wm.open_struct (n := 20) (ts := [.int .i64, .sl 1 [.int .i64]]) Try.underlying35 (by kernel_rfl) (hval 0 35 v0 rfl rfl) h0
  have n0 : Wm.nf (.agg c0) = true := Wm.OkL.nf o0
  obtain ⟨s0, rfl, w0⟩ := Wm.FnExactTakeReport.SScheduler.of o0
  have lt1 : ∀ x ∈ p1, x.block < W.heap.size := by obtain ⟨m, hm⟩ := h1; exact DataW.trod_lt m _ _ _ hm
  obtain ⟨c1, o1, e1⟩ := Wm.open_struct (n := 20) (ts := [.int .i64, .int .i64]) Try.underlying79 (by kernel_rfl) (hval 1 79 v1 rfl rfl) h1
  have n1 : Wm.nf (.agg c1) = true := Wm.OkL.nf o1
  obtain ⟨s1, rfl, w1⟩ := Wm.FnExactTakeReport.SReport.of o1
  clear hA0 hval0 hsz0
  have hl : Wm.lev Wm.FnExactTakeReport.tab 8 6 [.agg (s0.cells .lent), .agg (s1.cells .lent)] = some (.bool true, [.gone, .gone]) :=
    (Wm.FnExactTakeReport.laws_FnExactTakeReport_ok 0 s0.Last s0.Window s1.Number s1.Got).trans (congrArg (Option.map fun b => (Wm.D.bool b, ([.gone, .gone] : List Wm.D))) (Wm.FnExactTakeReport.pure s0 s1 w0 w1))
  have hcall := Wm.call_true (w := W) Wm.FnExactTakeReport.tabOk hl (fun _ => rfl) (by simp only [Wm.nfL, n0, n1, Bool.and_self]) (by rfl) (by rfl) (vs := [v0, v1]) rfl ((Wm.RepSs.app (Wm.RepSs.one e0) (Wm.RepSs.one e1))).2
  refine hcall.mono fun e W' ⟨he, b1, b2, b3, b4, b5⟩ => ?_
  subst he
  have bel : Below W.heap.size W W' := ⟨b1, b2, b3, b4, b5⟩
  exact ⟨_, rfl, _, _, _, [], _, [], hW', trodAll_mk1 (shut_bool Try.underlying4 _), (trodAll_cons_mk (Below.trod laidOut (by kernel_rfl) (of_decide_eq_true (by kernel_rfl)) h0 bel lt0) (trodAll_cons_mk (Below.trod laidOut (by kernel_rfl) (of_decide_eq_true (by kernel_rfl)) h1 bel lt1) trodAll_mk0)), rfl, bel.frame _, fun h => by cases h⟩
theorem over : Rows.fnExactTakeReportRow.holds Try.pinned (OpenSpec.ofChange Rows.fnExactTakeReportSpec) :=
  OpenClaim.holds_of_wide 6 Try.f6 rfl rfl rfl rfl rfl rfl rfl ⟨rfl, rfl, rfl, rfl, rfl⟩ rfl rfl rfl rfl rfl (by kernel_rfl) Try.func6 (by kernel_rfl)
    (of_decide_eq_true (by kernel_rfl)) (by unfold Func.isWrapper; first | (rw [if_pos (by decide +kernel)]; kernel_rfl) | (rw [if_neg (by decide +kernel)]; exact ⟨rfl, rfl⟩))
    (fun os started H enc _ => lifted os started H enc)
theorem proved : Rows.FnExactTakeReportSaid := over
#print axioms proved
end Go.Proofs.Ytjgdnpockaijeaa.fnExactTakeReport
namespace Go.Proofs.Ytjgdnpockaijeaa
/-- The row, under a short name, for the claim. -/
theorem fnExactTakeReport_holds : Rows.FnExactTakeReportSaid := fnExactTakeReport.proved
end Go.Proofs.Ytjgdnpockaijeaa
