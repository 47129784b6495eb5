/- For every input the law FnExactReportFault returns true, and its argument reads behind the call as it read before. No further condition. -/
import Derived.Test.YtgnohnlpicmnaaaRows
import Derived.Test.YtgnohnlpicmnaaaVmReportFault
import Derived.WalkKit
import Derived.ProofKit
import Derived.OpenShut
import Derived.ShutString
import Derived.ChangeOld
import Derived.Below
import Derived.Carry
import Derived.SizedLaws
namespace Go.Proofs.Ytgnohnlpicmnaaa.fnExactReportFault
open Go.ChangeShapes Go.WideShapes Go.ChangeAt Go.RowKit
open Go.ChangeMaps (open_string shut_string)
set_option linter.unusedVariables false
theorem own : ownKnob Try.prog.godebug = none := by kernel_rfl
theorem laidOut : laidOutB Try.prog = true := by kernel_rfl
theorem c23 : Try.prog.cellsOf 23 = 2 := by kernel_rfl
theorem c2 : Try.prog.cellsOf 2 = 1 := by kernel_rfl

set_option maxRecDepth 100000 in
/-- The argument: a struct of two numbers. -/
theorem open23 {H : Type} {enc : TypeId × Value → H} {W : World} {base : Nat} {spare : Nat → Bool} {held : Bool} {r : Reach} {b0 : Nat} {v : Value} {d : DataW H} {ps : List MemPlace} (hval : Value.okWide Try.prog W r b0 23 v)
    (hd : DataW.Trod enc Try.prog W base spare held 23 v d ps) : ∃ a b, v = .agg #[.int .i64 a, .int .i64 b] := by
  unfold Value.okWide at hval
  simp only [Try.underlying23] at hval
  obtain ⟨cs, rfl, hcs, _⟩ := hval
  rw [c23] at hcs
  obtain ⟨x, y, rfl⟩ : ∃ x y, cs = #[x, y] := ⟨cs[0], cs[1], Array.ext (by simp [hcs]) (fun i h1 h2 => by
    have : i = 0 ∨ i = 1 := by omega
    rcases this with rfl | rfl <;> rfl)⟩
  obtain ⟨fuel, hf⟩ := hd
  cases fuel with
  | zero => simp [DataW.trod] at hf
  | succ fuel =>
    simp [DataW.trod, Try.underlying23, Value.cells, c23, c2, Option.bind_eq_some_iff] at hf
    obtain ⟨a1, p1, h1, xs, ⟨a2, p2, h2, _⟩, _, _⟩ := hf
    obtain ⟨n1, e1, _⟩ := DataW.trod_int Try.underlying2 h1
    obtain ⟨n2, e2, _⟩ := DataW.trod_int Try.underlying2 h2
    simp at e1 e2
    exact ⟨n1, n2, by rw [e1, e2]⟩

theorem call (a b : Int) (W : World) : Calls Try.prog 3 #[.agg #[.int .i64 a, .int .i64 b]] W fun e W' => e = .returned (.bool true) ∧ Below W.heap.size W W' := by
  have hs := (Vm.lev_sound Vm.ReportFault.tbOk 4).sound 3 W (fun _ => False) [.agg [.int .i64 a, .int .i64 b]] [.agg #[.int .i64 a, .int .i64 b]] (fun _ => Vm.E) (.bool true) [.agg [.int .i64 a, .int .i64 b]] rfl
    (by
      simp only [Vm.RepCs, and_true]
      refine ⟨_, rfl, ?_⟩
      simp only [Vm.RepV]
      refine ⟨_, fun _ => Vm.E, rfl, rfl, ?_, fun _ _ _ _ _ hb => hb.elim, fun b => ⟨fun hb => hb.elim, fun ⟨_, _, hb⟩ => hb⟩⟩
      simp only [Vm.RepCs, Vm.RepV, and_true]
      exact ⟨⟨_, rfl, rfl, fun _ hb => hb⟩, ⟨_, rfl, rfl, fun _ hb => hb⟩⟩)
    (fun _ _ _ _ _ hb => hb.elim) (fun b ⟨_, _, hb⟩ => hb.elim) (fun b hb => hb.elim) (Vm.ReportFault.f3 0 a b)
  refine hs.mono ?_
  rintro e W' ⟨v, G, χ, rfl, _, hc, hr, _⟩
  obtain rfl := Vm.repV_bool hr
  exact ⟨rfl, hc.os, hc.tape, hc.output, hc.size, fun k hk => hc.keep k hk (fun ⟨_, _, hb⟩ => hb)⟩

set_option maxRecDepth 100000 in
theorem lifted (os : Os) (started : os.Started) (H : Type) (enc : TypeId × Value → H) :
    ReturnsInHanded {} Try.checked os 3 .any (Rows.fnExactReportFaultSpec.pre6 enc Try.prog Try.f3 Rows.fnExactReportFaultRow.domain false) (Rows.fnExactReportFaultSpec.post enc Try.prog Try.f3 false true false false) := by
  refine returnsInHanded_of_change_sized (C := Try.checked) own started (by kernel_rfl) Try.func3
    (ChangeSpec.witness6 (enc := enc) (C := Try.checked) false ⟨#[], #[.agg #[.int .i64 0, .int .i64 0]], []⟩ 8 (by kernel_rfl) (by kernel_rfl) (by kernel_rfl) (by kernel_rfl)) ?_
  intro W base args ds gs before hval0 hW hcnd hsz0 _
  have hval : ∀ (j : Nat) t v, Try.f3.params[j]? = some t → args[j]? = some v → Value.okWide Try.prog W .any base t v := hval0
  have hW' := hW
  obtain ⟨p, q, hA0, hV, rfl, hfz, hnd⟩ := hW
  have hA : DataW.TrodAll enc Try.prog W 0 (fun _ => true) true Try.f3.params.toList args.toList ds p := hA0
  rw [Try.params3] at hA hval
  obtain ⟨v0, vs0, d0, ds0, p0, q0, hargs, rfl, rfl, h0, r0⟩ := trodAll_cons hA
  obtain ⟨rfl, rfl, rfl⟩ := trodAll_nil r0
  obtain rfl : args = #[v0] := by cases args; simp_all
  obtain ⟨rfl, rfl⟩ := trodVars_none hV
  have k0 := h0
  have lt0 : ∀ x ∈ p0, x.block < W.heap.size := by obtain ⟨m, hm⟩ := k0; exact DataW.trod_lt m _ _ _ hm
  obtain ⟨a, b, rfl⟩ := open23 (hval 0 23 v0 rfl rfl) h0
  clear hA0 hval0 hsz0
  refine (call a b W).mono fun e W' ⟨he, bel⟩ => ?_
  subst he
  exact ⟨_, rfl, _, _, _, [], _, [], hW', trodAll_mk1 (shut_bool Try.underlying4 _), (trodAll_cons_mk (Below.trod laidOut (by kernel_rfl) (of_decide_eq_true (by kernel_rfl)) k0 bel lt0) trodAll_mk0), rfl, bel.frame _, fun h => by cases h⟩
theorem over : Rows.fnExactReportFaultRow.holds Try.pinned (OpenSpec.ofChange Rows.fnExactReportFaultSpec) :=
  OpenClaim.holds_of_wide 3 Try.f3 rfl rfl rfl rfl rfl rfl rfl ⟨rfl, rfl, rfl, rfl, rfl⟩ rfl rfl rfl rfl rfl (by kernel_rfl) Try.func3 (by kernel_rfl)
    (of_decide_eq_true (by kernel_rfl)) (by unfold Func.isWrapper; first | (rw [if_pos (by decide +kernel)]; kernel_rfl) | (rw [if_neg (by decide +kernel)]; exact ⟨rfl, rfl⟩))
    (fun os started H enc _ => lifted os started H enc)
theorem proved : Rows.FnExactReportFaultSaid := over
#print axioms proved
end Go.Proofs.Ytgnohnlpicmnaaa.fnExactReportFault
namespace Go.Proofs.Ytgnohnlpicmnaaa
/-- The row, under a short name, for the claim. -/
theorem fnExactReportFault_holds : Rows.FnExactReportFaultSaid := fnExactReportFault.proved
end Go.Proofs.Ytgnohnlpicmnaaa
