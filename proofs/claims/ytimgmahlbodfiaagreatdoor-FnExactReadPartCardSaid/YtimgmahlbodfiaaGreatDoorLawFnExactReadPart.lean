/- For every input the law FnExactReadPart returns true, and its arguments read behind the call as they read before. No further condition. -/
import Derived.Test.YtimgmahlbodfiaaGreatDoorRows
import Derived.Test.YtimgmahlbodfiaaGreatDoorTie
import Derived.Test.YtimgmahlbodfiaaGreatDoorCards
import Derived.LaidMore
import Derived.Lay
import Derived.SevenTiedAt
import Derived.Stop.Joined
import Derived.Test.YtimgmahlbodfiaaGreatDoorPureFnExactReadPart
import Derived.WalkKit
import Derived.ProofKit
import Derived.OpenShut
import Derived.ShutString
import Derived.ChangeOld
import Derived.Below
import Derived.Carry
import Derived.SizedLaws
namespace Go.Proofs.YtimgmahlbodfiaaGreatDoor.fnExactReadPart
open Go.ChangeShapes Go.WideShapes Go.ChangeAt Go.RowKit
open Go.ChangeMaps (open_string shut_string)
set_option linter.unusedVariables false
theorem own : ownKnob Tryz.prog.godebug = none := by kernel_rfl
theorem laidOut : laidOutB Tryz.prog = true := by kernel_rfl
set_option maxRecDepth 100000 in
theorem lifted (os : Os) (started : os.Started) (H : Type) (enc : TypeId × Value → H) :
    ReturnsInHanded {} Tryz.checked os 3 .any (fun w args => (Rows.fnExactReadPartSpec.pre enc Tryz.prog Tryz.f3 Rows.fnExactReadPartRow.domain false w args ∧ laidMetH Tryz.prog Rows.fnExactReadPartRow.laid w) ∧ sizedMet enc Tryz.prog Tryz.f3 (OpenSpec.ofChange Rows.fnExactReadPartSpec) false w args) (Rows.fnExactReadPartSpec.post enc Tryz.prog Tryz.f3 false true false false) := by
  refine returnsInHanded_of_change_and (C := Tryz.checked) (X := fun w _ => laidMetH Tryz.prog Rows.fnExactReadPartRow.laid w) (fun _ _ _ hh h => h.of_heap hh) own started (by kernel_rfl) Tryz.func3
    (ChangeSpec.witness_shaped (enc := enc) (C := Tryz.checked) (os := os) (X := fun w _ => laidMetH Tryz.prog Rows.fnExactReadPartRow.laid w) false (World.laidAll Tryz.prog os Rows.fnExactReadPartRow.laid) #[.slice none 0 0, .agg #[.bool false, .int .i64 0, .int .i64 0, .slice none 0 0]] 8 (World.laidAll_os _ _ _)
      (World.shaped_of_ZipB (by kernel_rfl) (by kernel_rfl)) (by kernel_rfl) (by kernel_rfl) (by kernel_rfl)
      (by rw [MakeChecks.laidMetH_plain _ _ _ (by kernel_rfl)]; exact laidMet_laidAll _ (by kernel_rfl) (by kernel_rfl))) ?_
  intro W base args ds gs before hval0 hW hcnd hsz0 _ _
  have hval : ∀ (j : Nat) t v, Tryz.f3.params[j]? = some t → args[j]? = some v → Value.okWide Tryz.prog W .any base t v := hval0
  have hW' := hW
  obtain ⟨p, q, hA0, hV, rfl, hfz, hnd⟩ := hW
  have hA : DataW.TrodAll enc Tryz.prog W 0 (fun _ => true) true Tryz.f3.params.toList args.toList ds p := hA0
  rw [Tryz.params3] at hA hval
  obtain ⟨v0, vs0, d0, ds0, p0, q0, hargs, rfl, rfl, h0, r0⟩ := trodAll_cons hA
  obtain ⟨v1, vs1, d1, ds1, p1, q1, rfl, rfl, rfl, h1, r1⟩ := trodAll_cons r0
  obtain ⟨rfl, rfl, rfl⟩ := trodAll_nil r1
  obtain rfl : args = #[v0, v1] := by cases args; simp_all
  obtain ⟨rfl, rfl⟩ := trodVars_none hV
  have lt0 : ∀ x ∈ p0, x.block < W.heap.size := by obtain ⟨m, hm⟩ := h0; exact DataW.trod_lt m _ _ _ hm
  obtain ⟨c0, o0, e0⟩ := Wm.open_plain (n := 20) (k := .sl 1 [.int .u8]) (t := 22) (by kernel_rfl) (fun fs => by rw [Tryz.underlying22]; simp) (hval 0 22 v0 rfl rfl) h0
  have n0 := Wm.OkD.nf o0
  simp only [Wm.OkD] at o0
  obtain ⟨_, rfl, l0, o0⟩ := o0
  obtain ⟨s0, rfl, w0⟩ := Wm.rows_of (f := (Wm.eI .u8)) (W := fun x => Wm.WfI .u8 x) (fun el h => Wm.row_int h) o0
  rw [Wm.rowE_len] at l0
  have lt1 : ∀ x ∈ p1, x.block < W.heap.size := by obtain ⟨m, hm⟩ := h1; exact DataW.trod_lt m _ _ _ hm
  obtain ⟨c1, o1, e1⟩ := Wm.open_struct (n := 20) (ts := [.bool, .int .i64, .int .i64, .sl 1 [.int .i64]]) Tryz.underlying25 (by kernel_rfl) (hval 1 25 v1 rfl rfl) h1
  have n1 : Wm.nf (.agg c1) = true := Wm.OkL.nf o1
  obtain ⟨s1, rfl, w1⟩ := Wm.FnExactReadPart.SAnchor.of o1
  clear hA0 hval0 hsz0
  have hl : Wm.lev (Wm.FnExactReadPart.tab 64) 12 3 [.sh .lent 1 (Wm.rowE (Wm.eI .u8) s0), .agg (s1.cells .lent)] = some (.bool true, [.gone, .gone]) :=
    (Wm.FnExactReadPart.laws_FnExactReadPart_ok 64 0 s0 s1.Known s1.Number s1.Rung s1.Gains).trans (congrArg (Option.map fun b => (Wm.D.bool b, ([.gone, .gone] : List Wm.D))) (Wm.FnExactReadPart.pure s0 s1 ⟨l0, w0⟩ w1))
  have hcall := Wm.call_true (w := W) (Wm.FnExactReadPart.tabOk 64) hl (fun _ => rfl) (by simp only [Wm.nfL, n0, n1, Bool.and_self]) (by rfl) (by rfl) (vs := [v0, v1]) rfl ((Wm.RepSs.app (Wm.RepSs.one e0) (Wm.RepSs.one e1))).2
  refine hcall.mono fun e W' ⟨he, b1, b2, b3, b4, b5⟩ => ?_
  subst he
  have bel : Below W.heap.size W W' := ⟨b1, b2, b3, b4, b5⟩
  exact ⟨_, rfl, _, _, _, [], _, [], hW', trodAll_mk1 (shut_bool Tryz.underlying4 _), (trodAll_cons_mk (Below.trod laidOut (by kernel_rfl) (of_decide_eq_true (by kernel_rfl)) h0 bel lt0) (trodAll_cons_mk (Below.trod laidOut (by kernel_rfl) (of_decide_eq_true (by kernel_rfl)) h1 bel lt1) trodAll_mk0)), rfl, bel.frame _, fun h => by cases h⟩
theorem jLaid : laidOutB Tryz.pinned.checked.prog = true := laidOut
theorem jMake : (Tryz.pinned.checked.prog.make == some Rows.fnExactReadPartRow.make) = true := by kernel_rfl
theorem jEnter : (Tryz.pinned.checked.prog.mayEnter) = true := by kernel_rfl
theorem jLift : (Rows.fnExactReadPartRow.lifted == Tryz.pinned.checked.prog.liftsFinal) = true := by kernel_rfl
theorem jPlace : (Rows.fnExactReadPartRow.inPlace == Tryz.pinned.checked.prog.inPlace 3) = true := by kernel_rfl
theorem jUnf : (Rows.fnExactReadPartRow.unfollowed == Tryz.pinned.checked.prog.unfollowed 3) = true := by kernel_rfl
theorem jRec : (Rows.fnExactReadPartRow.recurses == Tryz.pinned.checked.prog.recurses 3) = true := by kernel_rfl
theorem jNamed : (Rows.fnExactReadPartRow.named == Tryz.pinned.checked.prog.varsNamed 3) = true := by kernel_rfl
theorem jMaps : (mapsRowed Tryz.pinned.checked.prog) = true := by kernel_rfl
theorem closed : joinedFacts Tryz.pinned.checked.prog 3 Tryz.f3 Rows.fnExactReadPartSpec Rows.fnExactReadPartRow = true := by
  unfold joinedFacts
  rw [jLaid, jMake, jEnter, jLift, jPlace, jUnf, jRec, jNamed, jMaps]
  kernel_rfl
theorem over : Rows.fnExactReadPartRow.holds Tryz.pinned (OpenSpec.ofChange Rows.fnExactReadPartSpec) :=
  OpenClaim.holds_of_wide 3 Tryz.f3 rfl rfl rfl rfl rfl rfl rfl ⟨rfl, rfl, rfl, rfl, rfl⟩ rfl rfl rfl rfl rfl (by kernel_rfl) Tryz.func3 closed
    (of_decide_eq_true (by kernel_rfl)) (by unfold Func.isWrapper; first | (rw [if_pos (by decide +kernel)]; kernel_rfl) | (rw [if_neg (by decide +kernel)]; exact ⟨rfl, rfl⟩))
    (fun os started H enc _ => lifted os started H enc)
theorem proved : Rows.FnExactReadPartSaid := over
theorem card_holds : Rows.FnExactReadPartCardSaid :=
  Claim7.holds_tied_plain_at .later [] [.data, .pinned] true (true, "201388bc228fb3601e6103ce68b31c9b16e46e778b60fc5432dff3b0dcbedb4e") false proved (fun _ h => by cases h) (by kernel_rfl) (fun _ h => by cases h) fnExactReadPart_row_tie rfl ⟨rfl, rfl⟩ (by kernel_rfl) rfl
    (fun f fn hf hfn => by
      obtain rfl : f = 3 := Option.some.inj ((show Tryz.prog.funcNamed "loop.example/g00657/laws.FnExactReadPart" = some 3 by kernel_rfl).symm.trans hf) |>.symm
      obtain rfl : fn = Tryz.f3 := (Option.some.inj (Tryz.func3.symm.trans hfn)).symm
      exact ⟨by kernel_rfl, fun j t ht => by
        rw [Tryz.params3] at ht
        have hm : t ∈ [22, 25] := by simpa using Array.mem_of_getElem? ht
        have hall : ([22, 25].all fun u => !Tryz.prog.wantsStandIn u) = true := by kernel_rfl
        exact (show Tryz.prog.wantsStandIn t = false by simpa using List.all_eq_true.1 hall t hm)⟩)
    (by kernel_rfl)
#print axioms card_holds
end Go.Proofs.YtimgmahlbodfiaaGreatDoor.fnExactReadPart
namespace Go.Proofs.YtimgmahlbodfiaaGreatDoor
/-- The card, under a short name, for the claim. -/
theorem fnExactReadPart_holds : Rows.FnExactReadPartCardSaid := fnExactReadPart.card_holds
end Go.Proofs.YtimgmahlbodfiaaGreatDoor
