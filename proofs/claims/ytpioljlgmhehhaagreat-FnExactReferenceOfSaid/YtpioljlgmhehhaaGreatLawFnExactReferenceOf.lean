/- For every input the law FnExactReferenceOf returns true, and its arguments read behind the call as they read before. No further condition. -/
import Derived.Test.YtpioljlgmhehhaaGreatRows
import Derived.Test.YtpioljlgmhehhaaGreatPureFnExactReferenceOf
import Derived.WalkKit
import Derived.ProofKit
import Derived.OpenShut
import Derived.ShutString
import Derived.ChangeOld
import Derived.Below
import Derived.Carry
import Derived.SizedLaws
namespace Go.Proofs.YtpioljlgmhehhaaGreat.fnExactReferenceOf
open Go.ChangeShapes Go.WideShapes Go.ChangeAt Go.RowKit
open Go.ChangeMaps (open_string shut_string)
set_option linter.unusedVariables false
theorem own : ownKnob Tryz.prog.godebug = none := by kernel_rfl
theorem laidOut : laidOutB Tryz.prog = true := by kernel_rfl
set_option maxRecDepth 100000 in
theorem lifted (os : Os) (started : os.Started) (H : Type) (enc : TypeId × Value → H) :
    ReturnsInHanded {} Tryz.checked os 3 .any (Rows.fnExactReferenceOfSpec.pre6 enc Tryz.prog Tryz.f3 Rows.fnExactReferenceOfRow.domain false) (Rows.fnExactReferenceOfSpec.post enc Tryz.prog Tryz.f3 false true false false) := by
  refine returnsInHanded_of_change_sized (C := Tryz.checked) own started (by kernel_rfl) Tryz.func3
    (ChangeSpec.witness6 (enc := enc) (C := Tryz.checked) false ⟨#[], #[.int .i64 0, .slice none 0 0], []⟩ 8 (by kernel_rfl) (by kernel_rfl) (by kernel_rfl) (by kernel_rfl)) ?_
  intro W base args ds gs before hval0 hW hcnd hsz0 _
  have hval : ∀ (j : Nat) t v, Tryz.f3.params[j]? = some t → args[j]? = some v → Value.okWide Tryz.prog W .any base t v := hval0
  have hW' := hW
  obtain ⟨p, q, hA0, hV, rfl, hfz, hnd⟩ := hW
  have hA : DataW.TrodAll enc Tryz.prog W 0 (fun _ => true) true Tryz.f3.params.toList args.toList ds p := hA0
  rw [Tryz.params3] at hA hval
  obtain ⟨v0, vs0, d0, ds0, p0, q0, hargs, rfl, rfl, h0, r0⟩ := trodAll_cons hA
  obtain ⟨v1, vs1, d1, ds1, p1, q1, rfl, rfl, rfl, h1, r1⟩ := trodAll_cons r0
  obtain ⟨rfl, rfl, rfl⟩ := trodAll_nil r1
  obtain rfl : args = #[v0, v1] := by cases args; simp_all
  obtain ⟨rfl, rfl⟩ := trodVars_none hV
  have lt0 : ∀ x ∈ p0, x.block < W.heap.size := by obtain ⟨m, hm⟩ := h0; exact DataW.trod_lt m _ _ _ hm
  obtain ⟨c0, o0, e0⟩ := Wm.open_plain (n := 20) (k := .int .i64) (t := 2) (by kernel_rfl) (fun fs => by rw [Tryz.underlying2]; simp) (hval 0 2 v0 rfl rfl) h0
  have n0 := Wm.OkD.nf o0
  simp only [Wm.OkD] at o0
  obtain ⟨s0, rfl, w0⟩ := o0
  have lt1 : ∀ x ∈ p1, x.block < W.heap.size := by obtain ⟨m, hm⟩ := h1; exact DataW.trod_lt m _ _ _ hm
  obtain ⟨c1, o1, e1⟩ := Wm.open_plain (n := 20) (k := .sl 8 [.int .i64, .int .i64, .int .i64, .int .i64, .int .i64, .sl 1 [.int .i64], .sl 1 [.int .i64], .sl 1 [.sl 1 [.int .i64]]]) (t := 22) (by kernel_rfl) (fun fs => by rw [Tryz.underlying22]; simp) (hval 1 22 v1 rfl rfl) h1
  have n1 := Wm.OkD.nf o1
  simp only [Wm.OkD] at o1
  obtain ⟨_, rfl, l1, o1⟩ := o1
  obtain ⟨s1, rfl, w1⟩ := Wm.rows_of (f := (Wm.FnExactReferenceOf.SFrame.cells .lent)) (W := fun x => Wm.FnExactReferenceOf.SFrame.Wf x) (fun el h => Wm.FnExactReferenceOf.SFrame.of h) o1
  rw [Wm.rowE_len] at l1
  clear hA0 hval0 hsz0
  have hl : Wm.lev (Wm.FnExactReferenceOf.tab 64) 12 3 [.int .i64 s0, .sh .lent 8 (Wm.rowE (Wm.FnExactReferenceOf.SFrame.cells .lent) s1)] = some (.bool true, [.gone, .gone]) :=
    (Wm.FnExactReferenceOf.laws_FnExactReferenceOf_ok 64 0 s0 s1).trans (congrArg (Option.map fun b => (Wm.D.bool b, ([.gone, .gone] : List Wm.D))) (Wm.FnExactReferenceOf.pure s0 s1 ⟨w0.1, w0.2⟩ ⟨l1, w1⟩))
  have hcall := Wm.call_true (w := W) (Wm.FnExactReferenceOf.tabOk 64) hl (fun _ => rfl) (by simp only [Wm.nfL, n0, n1, Bool.and_self]) (by rfl) (by rfl) (vs := [v0, v1]) rfl ((Wm.RepSs.app (Wm.RepSs.one e0) (Wm.RepSs.one e1))).2
  refine hcall.mono fun e W' ⟨he, b1, b2, b3, b4, b5⟩ => ?_
  subst he
  have bel : Below W.heap.size W W' := ⟨b1, b2, b3, b4, b5⟩
  exact ⟨_, rfl, _, _, _, [], _, [], hW', trodAll_mk1 (shut_bool Tryz.underlying4 _), (trodAll_cons_mk (Below.trod laidOut (by kernel_rfl) (of_decide_eq_true (by kernel_rfl)) h0 bel lt0) (trodAll_cons_mk (Below.trod laidOut (by kernel_rfl) (of_decide_eq_true (by kernel_rfl)) h1 bel lt1) trodAll_mk0)), rfl, bel.frame _, fun h => by cases h⟩
theorem jLaid : laidOutB Tryz.pinned.checked.prog = true := laidOut
theorem jMake : (Tryz.pinned.checked.prog.make == some Rows.fnExactReferenceOfRow.make) = true := by kernel_rfl
theorem jEnter : (Tryz.pinned.checked.prog.mayEnter) = true := by kernel_rfl
theorem jLift : (Rows.fnExactReferenceOfRow.lifted == Tryz.pinned.checked.prog.liftsFinal) = true := by kernel_rfl
theorem jPlace : (Rows.fnExactReferenceOfRow.inPlace == Tryz.pinned.checked.prog.inPlace 3) = true := by kernel_rfl
theorem jUnf : (Rows.fnExactReferenceOfRow.unfollowed == Tryz.pinned.checked.prog.unfollowed 3) = true := by kernel_rfl
theorem jRec : (Rows.fnExactReferenceOfRow.recurses == Tryz.pinned.checked.prog.recurses 3) = true := by kernel_rfl
theorem jNamed : (Rows.fnExactReferenceOfRow.named == Tryz.pinned.checked.prog.varsNamed 3) = true := by kernel_rfl
theorem jMaps : (mapsRowed Tryz.pinned.checked.prog) = true := by kernel_rfl
theorem closed : joinedFacts Tryz.pinned.checked.prog 3 Tryz.f3 Rows.fnExactReferenceOfSpec Rows.fnExactReferenceOfRow = true := by
  unfold joinedFacts
  rw [jLaid, jMake, jEnter, jLift, jPlace, jUnf, jRec, jNamed, jMaps]
  kernel_rfl
theorem over : Rows.fnExactReferenceOfRow.holds Tryz.pinned (OpenSpec.ofChange Rows.fnExactReferenceOfSpec) :=
  OpenClaim.holds_of_wide 3 Tryz.f3 rfl rfl rfl rfl rfl rfl rfl ⟨rfl, rfl, rfl, rfl, rfl⟩ rfl rfl rfl rfl rfl (by kernel_rfl) Tryz.func3 closed
    (of_decide_eq_true (by kernel_rfl)) (by unfold Func.isWrapper; first | (rw [if_pos (by decide +kernel)]; kernel_rfl) | (rw [if_neg (by decide +kernel)]; exact ⟨rfl, rfl⟩))
    (fun os started H enc _ => lifted os started H enc)
theorem proved : Rows.FnExactReferenceOfSaid := over
#print axioms proved
end Go.Proofs.YtpioljlgmhehhaaGreat.fnExactReferenceOf
namespace Go.Proofs.YtpioljlgmhehhaaGreat
/-- The row, under a short name, for the claim. -/
theorem fnExactReferenceOf_holds : Rows.FnExactReferenceOfSaid := fnExactReferenceOf.proved
end Go.Proofs.YtpioljlgmhehhaaGreat
