/- For every input the law FnExactEnvelopeAt returns true, and its arguments read behind the call as they read before. No further condition. -/
import Derived.Test.YtpioljlgmhehhaaRows
import Derived.Test.YtpioljlgmhehhaaPureFnExactEnvelopeAt
import Derived.WalkKit
import Derived.ProofKit
import Derived.OpenShut
import Derived.ShutString
import Derived.ChangeOld
import Derived.Below
import Derived.Carry
import Derived.SizedLaws
namespace Go.Proofs.Ytpioljlgmhehhaa.fnExactEnvelopeAt
open Go.ChangeShapes Go.WideShapes Go.ChangeAt Go.RowKit
open Go.ChangeMaps (open_string shut_string)
set_option linter.unusedVariables false
theorem own : ownKnob Try.prog.godebug = none := by kernel_rfl
theorem laidOut : laidOutB Try.prog = true := by kernel_rfl
set_option maxRecDepth 100000 in
theorem lifted (os : Os) (started : os.Started) (H : Type) (enc : TypeId × Value → H) :
    ReturnsInHanded {} Try.checked os 3 .any (Rows.fnExactEnvelopeAtSpec.pre6 enc Try.prog Try.f3 Rows.fnExactEnvelopeAtRow.domain false) (Rows.fnExactEnvelopeAtSpec.post enc Try.prog Try.f3 false true false false) := by
  refine returnsInHanded_of_change_sized (C := Try.checked) own started (by kernel_rfl) Try.func3
    (ChangeSpec.witness6 (enc := enc) (C := Try.checked) false ⟨#[], #[.int .i64 0, .slice none 0 0, .int .i64 0], []⟩ 8 (by kernel_rfl) (by kernel_rfl) (by kernel_rfl) (by kernel_rfl)) ?_
  intro W base args ds gs before hval0 hW hcnd hsz0 _
  have hval : ∀ (j : Nat) t v, Try.f3.params[j]? = some t → args[j]? = some v → Value.okWide Try.prog W .any base t v := hval0
  have hW' := hW
  obtain ⟨p, q, hA0, hV, rfl, hfz, hnd⟩ := hW
  have hA : DataW.TrodAll enc Try.prog W 0 (fun _ => true) true Try.f3.params.toList args.toList ds p := hA0
  rw [Try.params3] at hA hval
  obtain ⟨v0, vs0, d0, ds0, p0, q0, hargs, rfl, rfl, h0, r0⟩ := trodAll_cons hA
  obtain ⟨v1, vs1, d1, ds1, p1, q1, rfl, rfl, rfl, h1, r1⟩ := trodAll_cons r0
  obtain ⟨v2, vs2, d2, ds2, p2, q2, rfl, rfl, rfl, h2, r2⟩ := trodAll_cons r1
  obtain ⟨rfl, rfl, rfl⟩ := trodAll_nil r2
  obtain rfl : args = #[v0, v1, v2] := by cases args; simp_all
  obtain ⟨rfl, rfl⟩ := trodVars_none hV
  have lt0 : ∀ x ∈ p0, x.block < W.heap.size := by obtain ⟨m, hm⟩ := h0; exact DataW.trod_lt m _ _ _ hm
  obtain ⟨c0, o0, e0⟩ := Wm.open_plain (n := 20) (k := .int .i64) (t := 2) (by kernel_rfl) (fun fs => by rw [Try.underlying2]; simp) (hval 0 2 v0 rfl rfl) h0
  have n0 := Wm.OkD.nf o0
  simp only [Wm.OkD] at o0
  obtain ⟨s0, rfl, w0⟩ := o0
  have lt1 : ∀ x ∈ p1, x.block < W.heap.size := by obtain ⟨m, hm⟩ := h1; exact DataW.trod_lt m _ _ _ hm
  obtain ⟨c1, o1, e1⟩ := Wm.open_plain (n := 20) (k := .sl 19 [.int .i64, .int .i64, .bool, .bool, .int .i64, .int .i64, .int .i64, .int .i64, .int .i64, .sl 1 [.int .i64], .sl 1 [.int .i64], .sl 1 [.sl 1 [.int .i64]], .sl 1 [.int .i64], .bool, .int .i64, .int .i64, .sl 1 [.int .i64], .sl 1 [.int .i64], .sl 1 [.int .i64]]) (t := 22) (by kernel_rfl) (fun fs => by rw [Try.underlying22]; simp) (hval 1 22 v1 rfl rfl) h1
  have n1 := Wm.OkD.nf o1
  simp only [Wm.OkD] at o1
  obtain ⟨_, rfl, l1, o1⟩ := o1
  obtain ⟨s1, rfl, w1⟩ := Wm.rows_of (f := (Wm.FnExactEnvelopeAt.SOutcome.cells .lent)) (W := fun x => Wm.FnExactEnvelopeAt.SOutcome.Wf x) (fun el h => Wm.FnExactEnvelopeAt.SOutcome.of h) o1
  rw [Wm.rowE_len] at l1
  have lt2 : ∀ x ∈ p2, x.block < W.heap.size := by obtain ⟨m, hm⟩ := h2; exact DataW.trod_lt m _ _ _ hm
  obtain ⟨c2, o2, e2⟩ := Wm.open_plain (n := 20) (k := .int .i64) (t := 2) (by kernel_rfl) (fun fs => by rw [Try.underlying2]; simp) (hval 2 2 v2 rfl rfl) h2
  have n2 := Wm.OkD.nf o2
  simp only [Wm.OkD] at o2
  obtain ⟨s2, rfl, w2⟩ := o2
  clear hA0 hval0 hsz0
  have hl : Wm.lev (Wm.FnExactEnvelopeAt.tab 64) 10 3 [.int .i64 s0, .sh .lent 19 (Wm.rowE (Wm.FnExactEnvelopeAt.SOutcome.cells .lent) s1), .int .i64 s2] = some (.bool true, [.gone, .gone, .gone]) :=
    (Wm.FnExactEnvelopeAt.laws_FnExactEnvelopeAt_ok 64 0 s0 s1 s2).trans (congrArg (Option.map fun b => (Wm.D.bool b, ([.gone, .gone, .gone] : List Wm.D))) (Wm.FnExactEnvelopeAt.pure s0 s1 s2 ⟨w0.1, w0.2⟩ ⟨l1, w1⟩ ⟨w2.1, w2.2⟩))
  have hcall := Wm.call_true (w := W) (Wm.FnExactEnvelopeAt.tabOk 64) hl (fun _ => rfl) (by simp only [Wm.nfL, n0, n1, n2, Bool.and_self]) (by rfl) (by rfl) (vs := [v0, v1, v2]) rfl ((Wm.RepSs.app (Wm.RepSs.one e0) ((Wm.RepSs.app (Wm.RepSs.one e1) (Wm.RepSs.one e2))))).2
  refine hcall.mono fun e W' ⟨he, b1, b2, b3, b4, b5⟩ => ?_
  subst he
  have bel : Below W.heap.size W W' := ⟨b1, b2, b3, b4, b5⟩
  exact ⟨_, rfl, _, _, _, [], _, [], hW', trodAll_mk1 (shut_bool Try.underlying4 _), (trodAll_cons_mk (Below.trod laidOut (by kernel_rfl) (of_decide_eq_true (by kernel_rfl)) h0 bel lt0) (trodAll_cons_mk (Below.trod laidOut (by kernel_rfl) (of_decide_eq_true (by kernel_rfl)) h1 bel lt1) (trodAll_cons_mk (Below.trod laidOut (by kernel_rfl) (of_decide_eq_true (by kernel_rfl)) h2 bel lt2) trodAll_mk0))), rfl, bel.frame _, fun h => by cases h⟩
theorem jLaid : laidOutB Try.pinned.checked.prog = true := laidOut
theorem jMake : (Try.pinned.checked.prog.make == some Rows.fnExactEnvelopeAtRow.make) = true := by kernel_rfl
theorem jEnter : (Try.pinned.checked.prog.mayEnter) = true := by kernel_rfl
theorem jLift : (Rows.fnExactEnvelopeAtRow.lifted == Try.pinned.checked.prog.liftsFinal) = true := by kernel_rfl
theorem jPlace : (Rows.fnExactEnvelopeAtRow.inPlace == Try.pinned.checked.prog.inPlace 3) = true := by kernel_rfl
theorem jUnf : (Rows.fnExactEnvelopeAtRow.unfollowed == Try.pinned.checked.prog.unfollowed 3) = true := by kernel_rfl
theorem jRec : (Rows.fnExactEnvelopeAtRow.recurses == Try.pinned.checked.prog.recurses 3) = true := by kernel_rfl
theorem jNamed : (Rows.fnExactEnvelopeAtRow.named == Try.pinned.checked.prog.varsNamed 3) = true := by kernel_rfl
theorem jMaps : (mapsRowed Try.pinned.checked.prog) = true := by kernel_rfl
theorem closed : joinedFacts Try.pinned.checked.prog 3 Try.f3 Rows.fnExactEnvelopeAtSpec Rows.fnExactEnvelopeAtRow = true := by
  unfold joinedFacts
  rw [jLaid, jMake, jEnter, jLift, jPlace, jUnf, jRec, jNamed, jMaps]
  kernel_rfl
theorem over : Rows.fnExactEnvelopeAtRow.holds Try.pinned (OpenSpec.ofChange Rows.fnExactEnvelopeAtSpec) :=
  OpenClaim.holds_of_wide 3 Try.f3 rfl rfl rfl rfl rfl rfl rfl ⟨rfl, rfl, rfl, rfl, rfl⟩ rfl rfl rfl rfl rfl (by kernel_rfl) Try.func3 closed
    (of_decide_eq_true (by kernel_rfl)) (by unfold Func.isWrapper; first | (rw [if_pos (by decide +kernel)]; kernel_rfl) | (rw [if_neg (by decide +kernel)]; exact ⟨rfl, rfl⟩))
    (fun os started H enc _ => lifted os started H enc)
theorem proved : Rows.FnExactEnvelopeAtSaid := over
#print axioms proved
end Go.Proofs.Ytpioljlgmhehhaa.fnExactEnvelopeAt
namespace Go.Proofs.Ytpioljlgmhehhaa
/-- The row, under a short name, for the claim. -/
theorem fnExactEnvelopeAt_holds : Rows.FnExactEnvelopeAtSaid := fnExactEnvelopeAt.proved
end Go.Proofs.Ytpioljlgmhehhaa
