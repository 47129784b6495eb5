/- For every input the law FnExactFateFault returns true, and its argument reads behind the call as it read before. No further condition. -/
import Derived.Test.YtgnohnlpicmnaaaRows
import Derived.Test.YtgnohnlpicmnaaaVmFateFault
import Derived.WalkKit
import Derived.ProofKit
import Derived.OpenShut
import Derived.ShutString
import Derived.ChangeOld
import Derived.Below
import Derived.Carry
import Derived.SizedLaws
namespace Go.Proofs.Ytgnohnlpicmnaaa.fnExactFateFault
open Go.ChangeShapes Go.WideShapes Go.ChangeAt Go.RowKit
open Go.ChangeMaps (open_string shut_string)
set_option linter.unusedVariables false
set_option linter.unusedSimpArgs false
theorem own : ownKnob Try.prog.godebug = none := by kernel_rfl
theorem laidOut : laidOutB Try.prog = true := by kernel_rfl
theorem c34 : Try.prog.cellsOf 34 = 4 := by kernel_rfl
theorem c2 : Try.prog.cellsOf 2 = 1 := by kernel_rfl

set_option maxRecDepth 100000 in
/-- The argument: a struct of numbers. -/
theorem open34 {H : Type} {enc : TypeId × Value → H} {W : World} {base : Nat} {spare : Nat → Bool} {held : Bool} {r : Reach} {b0 : Nat} {v : Value} {d : DataW H} {ps : List MemPlace} (hval : Value.okWide Try.prog W r b0 34 v)
    (hd : DataW.Trod enc Try.prog W base spare held 34 v d ps) : ∃ n0 n1 n2 n3, v = .agg #[.int .i64 n0, .int .i64 n1, .int .i64 n2, .int .i64 n3] := by
  unfold Value.okWide at hval
  simp only [Try.underlying34] at hval
  obtain ⟨cs, rfl, hcs, _⟩ := hval
  rw [c34] at hcs
  obtain ⟨x0, x1, x2, x3, rfl⟩ : ∃ x0 x1 x2 x3, cs = #[x0, x1, x2, x3] := ⟨cs[0], cs[1], cs[2], cs[3], Array.ext (by simp [hcs]) (fun i h1 h2 => by
    have : i = 0 ∨ i = 1 ∨ i = 2 ∨ i = 3 := by omega
    rcases this with rfl | rfl | rfl | rfl <;> rfl)⟩
  obtain ⟨fuel, hf⟩ := hd
  cases fuel with
  | zero => simp [DataW.trod] at hf
  | succ fuel =>
    have one : ∀ {x : Value} {y : DataW H × List MemPlace}, DataW.trod enc Try.prog W base spare held fuel 2 [x] = some y → ∃ n, x = .int .i64 n := fun h => by
      obtain ⟨n, e, _⟩ := DataW.trod_int Try.underlying2 h
      exact ⟨n, by simpa using e⟩
    simp only [DataW.trod, Try.underlying34, Value.cells, c34] at hf
    simp [Option.bind_eq_some_iff] at hf
    obtain ⟨a0, p0, g0, y0, ⟨a1, p1, g1, y1, ⟨a2, p2, g2, y2, ⟨a3, p3, g3, _⟩, _⟩, _⟩, _⟩ := hf
    obtain ⟨m0, rfl⟩ := one g0
    obtain ⟨m1, rfl⟩ := one g1
    obtain ⟨m2, rfl⟩ := one g2
    obtain ⟨m3, rfl⟩ := one g3
    exact ⟨m0, m1, m2, m3, rfl⟩

theorem call (n0 n1 n2 n3 : Int) (W : World) : Calls Try.prog 5 #[.agg #[.int .i64 n0, .int .i64 n1, .int .i64 n2, .int .i64 n3]] W fun e W' => e = .returned (.bool true) ∧ Below W.heap.size W W' := by
  have hs := (Vm.lev_sound Vm.FateFault.tbOk 3).sound 5 W (fun _ => False) [.agg [.int .i64 n0, .int .i64 n1, .int .i64 n2, .int .i64 n3]] [.agg #[.int .i64 n0, .int .i64 n1, .int .i64 n2, .int .i64 n3]] (fun _ => Vm.E) (.bool true) [.agg [.int .i64 n0, .int .i64 n1, .int .i64 n2, .int .i64 n3]] rfl
    (by
      simp only [Vm.RepCs, and_true]
      refine ⟨_, rfl, ?_⟩
      simp only [Vm.RepV]
      refine ⟨_, fun _ => Vm.E, rfl, rfl, ?_, fun _ _ _ _ _ hb => hb.elim, fun b => ⟨fun hb => hb.elim, fun ⟨_, _, hb⟩ => hb⟩⟩
      simp only [Vm.RepCs, Vm.RepV, and_true]
      exact ⟨⟨_, rfl, rfl, fun _ hb => hb⟩, ⟨_, rfl, rfl, fun _ hb => hb⟩, ⟨_, rfl, rfl, fun _ hb => hb⟩, ⟨_, rfl, rfl, fun _ hb => hb⟩⟩)
    (fun _ _ _ _ _ hb => hb.elim) (fun b ⟨_, _, hb⟩ => hb.elim) (fun b hb => hb.elim) (Vm.FateFault.f5 0 n0 n1 n2 n3)
  refine hs.mono ?_
  rintro e W' ⟨v, G, χ, rfl, _, hc, hr, _⟩
  obtain rfl := Vm.repV_bool hr
  exact ⟨rfl, hc.os, hc.tape, hc.output, hc.size, fun k hk => hc.keep k hk (fun ⟨_, _, hb⟩ => hb)⟩

set_option maxRecDepth 100000 in
theorem lifted (os : Os) (started : os.Started) (H : Type) (enc : TypeId × Value → H) :
    ReturnsInHanded {} Try.checked os 5 .any (Rows.fnExactFateFaultSpec.pre6 enc Try.prog Try.f5 Rows.fnExactFateFaultRow.domain false) (Rows.fnExactFateFaultSpec.post enc Try.prog Try.f5 false true false false) := by
  refine returnsInHanded_of_change_sized (C := Try.checked) own started (by kernel_rfl) Try.func5
    (ChangeSpec.witness6 (enc := enc) (C := Try.checked) false ⟨#[], #[.agg #[.int .i64 0, .int .i64 0, .int .i64 0, .int .i64 0]], []⟩ 8 (by kernel_rfl) (by kernel_rfl) (by kernel_rfl) (by kernel_rfl)) ?_
  intro W base args ds gs before hval0 hW hcnd hsz0 _
  have hval : ∀ (j : Nat) t v, Try.f5.params[j]? = some t → args[j]? = some v → Value.okWide Try.prog W .any base t v := hval0
  have hW' := hW
  obtain ⟨p, q, hA0, hV, rfl, hfz, hnd⟩ := hW
  have hA : DataW.TrodAll enc Try.prog W 0 (fun _ => true) true Try.f5.params.toList args.toList ds p := hA0
  rw [Try.params5] at hA hval
  obtain ⟨v0, vs0, d0, ds0, p0, q0, hargs, rfl, rfl, h0, r0⟩ := trodAll_cons hA
  obtain ⟨rfl, rfl, rfl⟩ := trodAll_nil r0
  obtain rfl : args = #[v0] := by cases args; simp_all
  obtain ⟨rfl, rfl⟩ := trodVars_none hV
  have k0 := h0
  have lt0 : ∀ x ∈ p0, x.block < W.heap.size := by obtain ⟨m, hm⟩ := k0; exact DataW.trod_lt m _ _ _ hm
  obtain ⟨n0, n1, n2, n3, rfl⟩ := open34 (hval 0 34 v0 rfl rfl) h0
  clear hA0 hval0 hsz0
  refine (call n0 n1 n2 n3 W).mono fun e W' ⟨he, bel⟩ => ?_
  subst he
  exact ⟨_, rfl, _, _, _, [], _, [], hW', trodAll_mk1 (shut_bool Try.underlying4 _), (trodAll_cons_mk (Below.trod laidOut (by kernel_rfl) (of_decide_eq_true (by kernel_rfl)) k0 bel lt0) trodAll_mk0), rfl, bel.frame _, fun h => by cases h⟩
theorem over : Rows.fnExactFateFaultRow.holds Try.pinned (OpenSpec.ofChange Rows.fnExactFateFaultSpec) :=
  OpenClaim.holds_of_wide 5 Try.f5 rfl rfl rfl rfl rfl rfl rfl ⟨rfl, rfl, rfl, rfl, rfl⟩ rfl rfl rfl rfl rfl (by kernel_rfl) Try.func5 (by kernel_rfl)
    (of_decide_eq_true (by kernel_rfl)) (by unfold Func.isWrapper; first | (rw [if_pos (by decide +kernel)]; kernel_rfl) | (rw [if_neg (by decide +kernel)]; exact ⟨rfl, rfl⟩))
    (fun os started H enc _ => lifted os started H enc)
theorem proved : Rows.FnExactFateFaultSaid := over
#print axioms proved
end Go.Proofs.Ytgnohnlpicmnaaa.fnExactFateFault
namespace Go.Proofs.Ytgnohnlpicmnaaa
/-- The row, under a short name, for the claim. -/
theorem fnExactFateFault_holds : Rows.FnExactFateFaultSaid := fnExactFateFault.proved
end Go.Proofs.Ytgnohnlpicmnaaa
