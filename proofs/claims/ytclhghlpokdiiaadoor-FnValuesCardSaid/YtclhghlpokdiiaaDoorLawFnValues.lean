/- For every input the law FnValues returns true, and its arguments read behind the call as they read before. No further condition. -/
import Derived.Test.YtclhghlpokdiiaaDoorRows
import Derived.Test.YtclhghlpokdiiaaDoorTie
import Derived.Test.YtclhghlpokdiiaaDoorCards
import Derived.LaidMore
import Derived.Lay
import Derived.SevenTiedAt
import Derived.Stop.Joined
import Derived.Test.YtclhghlpokdiiaaDoorPureFnValues
import Derived.WalkKit
import Derived.ProofKit
import Derived.OpenShut
import Derived.ShutString
import Derived.ChangeOld
import Derived.Below
import Derived.Carry
import Derived.SizedLaws
namespace Go.Proofs.YtclhghlpokdiiaaDoor.fnValues
open Go.ChangeShapes Go.WideShapes Go.ChangeAt Go.RowKit
open Go.ChangeMaps (open_string shut_string)
set_option linter.unusedVariables false
theorem own : ownKnob Tryd.prog.godebug = none := by kernel_rfl
theorem laidOut : laidOutB Tryd.prog = true := by kernel_rfl
set_option maxRecDepth 100000 in
theorem lifted (os : Os) (started : os.Started) (H : Type) (enc : TypeId × Value → H) :
    ReturnsInHanded {} Tryd.checked os 5 .any (fun w args => (Rows.fnValuesSpec.pre enc Tryd.prog Tryd.f5 Rows.fnValuesRow.domain false w args ∧ laidMetH Tryd.prog Rows.fnValuesRow.laid w) ∧ sizedMet enc Tryd.prog Tryd.f5 (OpenSpec.ofChange Rows.fnValuesSpec) false w args) (Rows.fnValuesSpec.post enc Tryd.prog Tryd.f5 false true false false) := by
  refine returnsInHanded_of_change_and (C := Tryd.checked) (X := fun w _ => laidMetH Tryd.prog Rows.fnValuesRow.laid w) (fun _ _ _ hh h => h.of_heap hh) own started (by kernel_rfl) Tryd.func5
    (ChangeSpec.witness_shaped (enc := enc) (C := Tryd.checked) (os := os) (X := fun w _ => laidMetH Tryd.prog Rows.fnValuesRow.laid w) false (World.laidAll Tryd.prog os Rows.fnValuesRow.laid) #[.slice none 0 0] 8 (World.laidAll_os _ _ _)
      (World.shaped_of_ZipB (by kernel_rfl) (by kernel_rfl)) (by kernel_rfl) (by kernel_rfl) (by kernel_rfl)
      (by rw [MakeChecks.laidMetH_plain _ _ _ (by kernel_rfl)]; exact laidMet_laidAll _ (by kernel_rfl) (by kernel_rfl))) ?_
  intro W base args ds gs before hval0 hW hcnd hsz0 _ _
  have hval : ∀ (j : Nat) t v, Tryd.f5.params[j]? = some t → args[j]? = some v → Value.okWide Tryd.prog W .any base t v := hval0
  have hW' := hW
  obtain ⟨p, q, hA0, hV, rfl, hfz, hnd⟩ := hW
  have hA : DataW.TrodAll enc Tryd.prog W 0 (fun _ => true) true Tryd.f5.params.toList args.toList ds p := hA0
  rw [Tryd.params5] at hA hval
  obtain ⟨v0, vs0, d0, ds0, p0, q0, hargs, rfl, rfl, h0, r0⟩ := trodAll_cons hA
  obtain ⟨rfl, rfl, rfl⟩ := trodAll_nil r0
  obtain rfl : args = #[v0] := by cases args; simp_all
  obtain ⟨rfl, rfl⟩ := trodVars_none hV
  have lt0 : ∀ x ∈ p0, x.block < W.heap.size := by obtain ⟨m, hm⟩ := h0; exact DataW.trod_lt m _ _ _ hm
  obtain ⟨c0, o0, e0⟩ := Wm.open_plain (n := 20) (k := .sl 1 [.int .u8]) (t := 22) (by kernel_rfl) (fun fs => by rw [Tryd.underlying22]; simp) (hval 0 22 v0 rfl rfl) h0
  have n0 := Wm.OkD.nf o0
  simp only [Wm.OkD] at o0
  obtain ⟨_, rfl, l0, o0⟩ := o0
  obtain ⟨s0, rfl, w0⟩ := Wm.rows_of (f := (Wm.eI .u8)) (W := fun x => Wm.WfI .u8 x) (fun el h => Wm.row_int h) o0
  rw [Wm.rowE_len] at l0
  clear hA0 hval0 hsz0
  have hl : Wm.lev Wm.FnValues.tab 7 5 [.sh .lent 1 (Wm.rowE (Wm.eI .u8) s0)] = some (.bool true, [.gone]) :=
    (Wm.FnValues.laws_FnValues_ok 0 s0).trans (congrArg (Option.map fun b => (Wm.D.bool b, ([.gone] : List Wm.D))) (Wm.FnValues.pure s0 ⟨l0, w0⟩))
  have hcall := Wm.call_true (w := W) Wm.FnValues.tabOk hl (fun _ => rfl) (by simp only [Wm.nfL, n0, Bool.and_self]) (by rfl) (by rfl) (vs := [v0]) rfl (Wm.RepSs.one e0).2
  refine hcall.mono fun e W' ⟨he, b1, b2, b3, b4, b5⟩ => ?_
  subst he
  have bel : Below W.heap.size W W' := ⟨b1, b2, b3, b4, b5⟩
  exact ⟨_, rfl, _, _, _, [], _, [], hW', trodAll_mk1 (shut_bool Tryd.underlying4 _), (trodAll_cons_mk (Below.trod laidOut (by kernel_rfl) (of_decide_eq_true (by kernel_rfl)) h0 bel lt0) trodAll_mk0), rfl, bel.frame _, fun h => by cases h⟩
theorem jLaid : laidOutB Tryd.pinned.checked.prog = true := laidOut
theorem jMake : (Tryd.pinned.checked.prog.make == some Rows.fnValuesRow.make) = true := by kernel_rfl
theorem jEnter : (Tryd.pinned.checked.prog.mayEnter) = true := by kernel_rfl
theorem jLift : (Rows.fnValuesRow.lifted == Tryd.pinned.checked.prog.liftsFinal) = true := by kernel_rfl
theorem jPlace : (Rows.fnValuesRow.inPlace == Tryd.pinned.checked.prog.inPlace 5) = true := by kernel_rfl
theorem jUnf : (Rows.fnValuesRow.unfollowed == Tryd.pinned.checked.prog.unfollowed 5) = true := by kernel_rfl
theorem jRec : (Rows.fnValuesRow.recurses == Tryd.pinned.checked.prog.recurses 5) = true := by kernel_rfl
theorem jNamed : (Rows.fnValuesRow.named == Tryd.pinned.checked.prog.varsNamed 5) = true := by kernel_rfl
theorem jMaps : (mapsRowed Tryd.pinned.checked.prog) = true := by kernel_rfl
theorem closed : joinedFacts Tryd.pinned.checked.prog 5 Tryd.f5 Rows.fnValuesSpec Rows.fnValuesRow = true := by
  unfold joinedFacts
  rw [jLaid, jMake, jEnter, jLift, jPlace, jUnf, jRec, jNamed, jMaps]
  kernel_rfl
theorem over : Rows.fnValuesRow.holds Tryd.pinned (OpenSpec.ofChange Rows.fnValuesSpec) :=
  OpenClaim.holds_of_wide 5 Tryd.f5 rfl rfl rfl rfl rfl rfl rfl ⟨rfl, rfl, rfl, rfl, rfl⟩ rfl rfl rfl rfl rfl (by kernel_rfl) Tryd.func5 closed
    (of_decide_eq_true (by kernel_rfl)) (by unfold Func.isWrapper; first | (rw [if_pos (by decide +kernel)]; kernel_rfl) | (rw [if_neg (by decide +kernel)]; exact ⟨rfl, rfl⟩))
    (fun os started H enc _ => lifted os started H enc)
theorem proved : Rows.FnValuesSaid := over
theorem card_holds : Rows.FnValuesCardSaid :=
  Claim7.holds_tied_plain_at .later [] [.data, .pinned] true (true, "505b47e7cdd13043e4144ec8706a00a953e99602fbc1dd03b1b779b84018a305") false proved (fun _ h => by cases h) (by kernel_rfl) (fun _ h => by cases h) fnValues_row_tie rfl ⟨rfl, rfl⟩ (by kernel_rfl) rfl
    (fun f fn hf hfn => by
      obtain rfl : f = 5 := Option.some.inj ((show Tryd.prog.funcNamed "loop.example/g00657/laws.FnValues" = some 5 by kernel_rfl).symm.trans hf) |>.symm
      obtain rfl : fn = Tryd.f5 := (Option.some.inj (Tryd.func5.symm.trans hfn)).symm
      exact ⟨by kernel_rfl, fun j t ht => by
        rw [Tryd.params5] at ht
        have hm : t ∈ [22] := by simpa using Array.mem_of_getElem? ht
        have hall : ([22].all fun u => !Tryd.prog.wantsStandIn u) = true := by kernel_rfl
        exact (show Tryd.prog.wantsStandIn t = false by simpa using List.all_eq_true.1 hall t hm)⟩)
    (by kernel_rfl)
#print axioms card_holds
end Go.Proofs.YtclhghlpokdiiaaDoor.fnValues
namespace Go.Proofs.YtclhghlpokdiiaaDoor
/-- The card, under a short name, for the claim. -/
theorem fnValues_holds : Rows.FnValuesCardSaid := fnValues.card_holds
end Go.Proofs.YtclhghlpokdiiaaDoor
