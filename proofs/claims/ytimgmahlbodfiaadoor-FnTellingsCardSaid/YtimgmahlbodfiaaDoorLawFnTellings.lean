/- For every input the law FnTellings returns true, and its arguments read behind the call as they read before. No further condition. -/
import Derived.Test.YtimgmahlbodfiaaDoorRows
import Derived.Test.YtimgmahlbodfiaaDoorTie
import Derived.Test.YtimgmahlbodfiaaDoorCards
import Derived.LaidMore
import Derived.Lay
import Derived.SevenTiedAt
import Derived.Stop.Joined
import Derived.Test.YtimgmahlbodfiaaDoorPureFnTellings
import Derived.WalkKit
import Derived.ProofKit
import Derived.OpenShut
import Derived.ShutString
import Derived.ChangeOld
import Derived.Below
import Derived.Carry
import Derived.SizedLaws
import Derived.ChangeVars
import Derived.OpenVars
namespace Go.Proofs.YtimgmahlbodfiaaDoor.fnTellings
open Go.ChangeShapes Go.WideShapes Go.ChangeAt Go.RowKit
open Go.ChangeMaps (open_string shut_string)
set_option linter.unusedVariables false
theorem own : ownKnob Tryd.prog.godebug = none := by kernel_rfl
theorem laidOut : laidOutB Tryd.prog = true := by kernel_rfl
set_option maxRecDepth 100000 in
theorem lifted (os : Os) (started : os.Started) (H : Type) (enc : TypeId × Value → H) :
    ReturnsInHanded {} Tryd.checked os 3 .any (fun w args => (Rows.fnTellingsSpec.pre enc Tryd.prog Tryd.f3 Rows.fnTellingsRow.domain false w args ∧ laidMetH Tryd.prog Rows.fnTellingsRow.laid w) ∧ sizedMet enc Tryd.prog Tryd.f3 (OpenSpec.ofChange Rows.fnTellingsSpec) false w args) (Rows.fnTellingsSpec.post enc Tryd.prog Tryd.f3 false true false false) := by
  refine Wm.handed_shaped (C := Tryd.checked) (X := fun w _ => laidMetH Tryd.prog Rows.fnTellingsRow.laid w) (fun _ _ _ hh h => h.of_heap hh) own started (by kernel_rfl) Tryd.func3
    (ChangeSpec.witness_shaped (enc := enc) (C := Tryd.checked) (os := os) (X := fun w _ => laidMetH Tryd.prog Rows.fnTellingsRow.laid w) false (World.laidAll Tryd.prog os Rows.fnTellingsRow.laid) #[.slice none 0 0] 8 (World.laidAll_os _ _ _)
      (World.shaped_of_ZipB (by kernel_rfl) (by kernel_rfl)) (by kernel_rfl) (by kernel_rfl) (by kernel_rfl)
      (by rw [MakeChecks.laidMetH_plain _ _ _ (by kernel_rfl)]; exact laidMet_laidAll _ (by kernel_rfl) (by kernel_rfl))) ?_
  intro W base args ds gs before hval0 hW hcnd hsz0 hL hsh
  have hval : ∀ (j : Nat) t v, Tryd.f3.params[j]? = some t → args[j]? = some v → Value.okWide Tryd.prog W .any base t v := hval0
  have hW' := hW
  obtain ⟨p, q, hA0, hV, rfl, hfz, hnd⟩ := hW
  have hA : DataW.TrodAll enc Tryd.prog W 0 (fun _ => true) true Tryd.f3.params.toList args.toList ds p := hA0
  rw [Tryd.params3] at hA hval
  obtain ⟨v0, vs0, d0, ds0, p0, q0, hargs, rfl, rfl, h0, r0⟩ := trodAll_cons hA
  obtain ⟨rfl, rfl, rfl⟩ := trodAll_nil r0
  obtain rfl : args = #[v0] := by cases args; simp_all
  have hV2 := hV
  obtain ⟨_, _, _, _, gd, _, rfl, _⟩ := trodVars_one hV
  obtain ⟨mx, GM⟩ := Wm.gls_int (P := Tryd.prog) (g := 1) (t := 3) (k := .i64) (zero := #[.int .i64 0]) hsh (of_decide_eq_true (by kernel_rfl)) (by kernel_rfl) rfl (by kernel_rfl) (by kernel_rfl) Tryd.underlying3
  letI : Wm.MX := ⟨mx⟩
  rw [MakeChecks.laidMetH_plain _ _ _ (by kernel_rfl)] at hL
  have G0 : Wm.GlS W (fun _ _ => False) 0 [.str [108, 111, 115, 116], .str [99, 111, 109, 101, 115], .str [116, 119, 105, 99, 101], .str [116, 117, 114, 110, 101, 100]] := Wm.laid_strs (name := "loop.example/g00657/impl.fateWords") (zs := [[108, 111, 115, 116], [99, 111, 109, 101, 115], [116, 119, 105, 99, 101], [116, 117, 114, 110, 101, 100]]) (t := 50) (e := 9) (n := 4) 6 hL rfl (by kernel_rfl) (by kernel_rfl) Tryd.underlying50 Tryd.underlying9 (by kernel_rfl) (by kernel_rfl)
  have G2 : Wm.GlS W (fun _ _ => False) 2 [.err false] := Wm.laid_err (name := "strconv.ErrSyntax") (t := 69) 5 hL rfl (by kernel_rfl) (by kernel_rfl) (by kernel_rfl)
  have G3 : Wm.GlS W (fun _ _ => False) 3 [.err false] := Wm.laid_err (name := "strconv.ErrRange") (t := 69) 4 hL rfl (by kernel_rfl) (by kernel_rfl) (by kernel_rfl)
  have G4 : Wm.GlS W (fun _ _ => False) 4 (Lib.pow10Tab.map fun z => Wm.D.int .u64 z) := Wm.laid_ints (name := "internal/strconv.uint64pow10") (zs := Lib.pow10Tab) (t := 115) (e := 93) (n := 20) 2 hL (by kernel_rfl) (by kernel_rfl) (by kernel_rfl) Tryd.underlying115 Tryd.underlying93 (by kernel_rfl) (by kernel_rfl)
  have hG : ∀ g cs, (Wm.FnTellings.tab 64).gl g = some cs → Wm.GlS W (fun _ _ => False) g cs := by
    intro g cs h
    change Wm.look g Wm.FnTellings.tabG = some cs at h
    simp only [Wm.FnTellings.tabG, Wm.look] at h
    split at h
    · rename_i e; subst e; obtain rfl := Option.some.inj h; exact G0
    split at h
    · rename_i e; subst e; obtain rfl := Option.some.inj h; exact GM
    split at h
    · rename_i e; subst e; obtain rfl := Option.some.inj h; exact G2
    split at h
    · rename_i e; subst e; obtain rfl := Option.some.inj h; exact G3
    split at h
    · rename_i e; subst e; obtain rfl := Option.some.inj h; exact G4
    cases h
  have lt0 : ∀ x ∈ p0, x.block < W.heap.size := by obtain ⟨m, hm⟩ := h0; exact DataW.trod_lt m _ _ _ hm
  obtain ⟨c0, o0, e0⟩ := Wm.open_plain (n := 20) (k := .sl 1 [.int .u8]) (t := 22) (by kernel_rfl) (fun fs => by rw [Tryd.underlying22]; simp) (hval 0 22 v0 rfl rfl) h0
  have n0 := Wm.OkD.nf o0
  simp only [Wm.OkD] at o0
  obtain ⟨_, rfl, l0, o0⟩ := o0
  obtain ⟨s0, rfl, w0⟩ := Wm.rows_of (f := (Wm.eI .u8)) (W := fun x => Wm.WfI .u8 x) (fun el h => Wm.row_int h) o0
  rw [Wm.rowE_len] at l0
  clear hA0 hval0 hsz0
  have hl : Wm.lev (Wm.FnTellings.tab 64) 7 3 [.sh .lent 1 (Wm.rowE (Wm.eI .u8) s0)] = some (.bool true, [.gone]) :=
    (Wm.FnTellings.laws_FnTellings_ok 64 0 s0).trans (congrArg (Option.map fun b => (Wm.D.bool b, ([.gone] : List Wm.D))) (Wm.FnTellings.pure s0 ⟨l0, w0⟩))
  have hcall := Wm.call_trueG (w := W) (Wm.FnTellings.tabOk 64) hl hG (by simp only [Wm.nfL, n0, Bool.and_self]) (by rfl) (by rfl) (vs := [v0]) rfl (Wm.RepSs.one e0).2
  refine hcall.mono fun e W' ⟨he, b1, b2, b3, b4, b5⟩ => ?_
  subst he
  have bel : Below W.heap.size W W' := ⟨b1, b2, b3, b4, b5⟩
  exact ⟨_, rfl, _, _, _, [], _, _, hW', trodAll_mk1 (shut_bool Tryd.underlying4 _), (trodAll_cons_mk (Below.trod laidOut (by kernel_rfl) (of_decide_eq_true (by kernel_rfl)) h0 bel lt0) trodAll_mk0), bel.trodVars laidOut (by kernel_rfl) hV2, bel.frame _, fun h => by cases h⟩
theorem jLaid : laidOutB Tryd.pinned.checked.prog = true := laidOut
theorem jMake : (Tryd.pinned.checked.prog.make == some Rows.fnTellingsRow.make) = true := by kernel_rfl
theorem jEnter : (Tryd.pinned.checked.prog.mayEnter) = true := by kernel_rfl
theorem jLift : (Rows.fnTellingsRow.lifted == Tryd.pinned.checked.prog.liftsFinal) = true := by kernel_rfl
theorem jPlace : (Rows.fnTellingsRow.inPlace == Tryd.pinned.checked.prog.inPlace 3) = true := by kernel_rfl
theorem jUnf : (Rows.fnTellingsRow.unfollowed == Tryd.pinned.checked.prog.unfollowed 3) = true := by kernel_rfl
theorem jRec : (Rows.fnTellingsRow.recurses == Tryd.pinned.checked.prog.recurses 3) = true := by kernel_rfl
theorem jNamed : (Rows.fnTellingsRow.named == Tryd.pinned.checked.prog.varsNamed 3) = true := by kernel_rfl
theorem jMaps : (mapsRowed Tryd.pinned.checked.prog) = true := by kernel_rfl
theorem closed : joinedFacts Tryd.pinned.checked.prog 3 Tryd.f3 Rows.fnTellingsSpec Rows.fnTellingsRow = true := by
  unfold joinedFacts
  rw [jLaid, jMake, jEnter, jLift, jPlace, jUnf, jRec, jNamed, jMaps]
  kernel_rfl
theorem over : Rows.fnTellingsRow.holds Tryd.pinned (OpenSpec.ofChange Rows.fnTellingsSpec) :=
  OpenClaim.holds_of_wide 3 Tryd.f3 rfl rfl rfl rfl rfl rfl rfl ⟨rfl, rfl, rfl, rfl, rfl⟩ rfl rfl rfl rfl rfl (by kernel_rfl) Tryd.func3 closed
    (of_decide_eq_true (by kernel_rfl)) (by unfold Func.isWrapper; first | (rw [if_pos (by decide +kernel)]; kernel_rfl) | (rw [if_neg (by decide +kernel)]; exact ⟨rfl, rfl⟩))
    (fun os started H enc _ => lifted os started H enc)
theorem proved : Rows.FnTellingsSaid := over
theorem card_holds : Rows.FnTellingsCardSaid :=
  Claim7.holds_tied_plain_at .later [] [.data, .data, .data, .data, .sentinel, .sentinel, .widerDeep, .pinned] true (true, "de166c4430e0e28bd0b5a6ae526644715268a0efd46151227be7f756724d878a") true proved (fun _ h => by cases h) (by kernel_rfl) (fun _ h => by cases h) fnTellings_row_tie rfl ⟨rfl, rfl⟩ (by kernel_rfl) rfl
    (fun f fn hf hfn => by
      obtain rfl : f = 3 := Option.some.inj ((show Tryd.prog.funcNamed "loop.example/g00657/laws.FnTellings" = some 3 by kernel_rfl).symm.trans hf) |>.symm
      obtain rfl : fn = Tryd.f3 := (Option.some.inj (Tryd.func3.symm.trans hfn)).symm
      exact ⟨by kernel_rfl, fun j t ht => by
        rw [Tryd.params3] at ht
        have hm : t ∈ [22] := by simpa using Array.mem_of_getElem? ht
        have hall : ([22].all fun u => !Tryd.prog.wantsStandIn u) = true := by kernel_rfl
        exact (show Tryd.prog.wantsStandIn t = false by simpa using List.all_eq_true.1 hall t hm)⟩)
    (by kernel_rfl)
#print axioms card_holds
end Go.Proofs.YtimgmahlbodfiaaDoor.fnTellings
namespace Go.Proofs.YtimgmahlbodfiaaDoor
/-- The card, under a short name, for the claim. -/
theorem fnTellings_holds : Rows.FnTellingsCardSaid := fnTellings.card_holds
end Go.Proofs.YtimgmahlbodfiaaDoor
