/- For every input the law FnExactIsRefreshed returns true, and its arguments read behind the call as they read before. No further condition. -/
import Derived.Test.YtgnohnlpicmnaaaRows
import Derived.Test.YtgnohnlpicmnaaaVnIsRefreshed
import Derived.WalkKit
import Derived.ProofKit
import Derived.OpenShut
import Derived.ShutString
import Derived.ChangeOld
import Derived.Below
import Derived.Carry
import Derived.SizedLaws
namespace Go.Proofs.Ytgnohnlpicmnaaa.fnExactIsRefreshed
open Go.ChangeShapes Go.WideShapes Go.ChangeAt Go.RowKit
open Go.ChangeMaps (open_string shut_string)
set_option linter.unusedVariables false
theorem own : ownKnob Try.prog.godebug = none := by kernel_rfl
theorem laidOut : laidOutB Try.prog = true := by kernel_rfl
def IsRow (k : IntKind) (w : World) (a : Option Addr) (len cap : Nat) (zs : List Int) : Prop :=
  (a = none ∧ len = 0 ∧ cap = 0 ∧ zs = []) ∨
  ∃ x, a = some x ∧ len ≤ cap ∧ cap ≤ maxLen ∧ zs.length = cap ∧ (∀ i, i < zs.length → w.cell? (x.add i) = some (.int k (zs.getD i 0))) ∧ ∀ n ∈ zs, (Lit.int k n).wf = true

/-- A slice of numbers, told with shared parts. -/
theorem row {W : World} {x : Addr} {n cap : Nat} {zs : List Int} (hn : n ≤ cap) (hz : zs.length = cap) (hc : ∀ i, i < zs.length → W.cell? (x.add i) = some (.int .i64 (zs.getD i 0))) :
    Vm.RepV W (fun _ => False) (.sl false 1 (zs.take n).length ((zs.take n).map (.int .i64))) (.slice (some x) n cap) Vm.E := by
  have hl : (zs.take n).length = n := by rw [List.length_take]; omega
  have hsp : ∀ i, i < zs.length → x.spot = none := fun i hi => by
    have h0 := hc 0 (by omega)
    have e0 : x.add 0 = x := by unfold Addr.add; simp
    rw [e0] at h0
    cases hs : x.spot with
    | none => rfl
    | some p =>
      unfold World.cell? at h0
      split at h0
      · simp [hs] at h0
      · simp at h0
  simp only [Vm.RepV]
  refine ⟨x, cap, by rw [hl], by simp, by omega, ?_, ?_, fun _ => id⟩
  · rcases Nat.eq_zero_or_pos n with h0 | h0
    · left; simp [h0]
    · exact .inr ⟨hsp 0 (by omega), fun h => h⟩
  · rw [Vm.repCs_iff]
    intro i d hd
    simp only [List.getElem?_map, Option.map_eq_some_iff] at hd
    obtain ⟨z, hz', rfl⟩ := hd
    rw [List.getElem?_take] at hz'
    split at hz'
    · rename_i hi
      have hlt : i < zs.length := (List.getElem?_eq_some_iff.1 hz').1
      refine ⟨.int .i64 z, ?_, by simp only [Vm.RepV]; exact ⟨trivial, fun _ h => h⟩⟩
      have h1 := hc i hlt
      obtain ⟨b, o, sp⟩ := x
      have := hsp i hlt
      simp only at this
      subst this
      rw [Vm.addr_lit] at h1
      simpa [Vm.memCv, List.getD, hz'] using h1
    · simp at hz'

theorem callD (a : Int) (d : Vm.D) (v : Value) (W : World) (hd : Vm.RepV W (fun _ => False) d v Vm.E) (hl : Vm.lev Try.prog Vm.IsRefreshed.tb 4 7 [.int .i64 a, d] = some (.bool true, [.int .i64 a, d])) :
    Calls Try.prog 7 #[.int .i64 a, v] W fun e W' => e = .returned (.bool true) ∧ Below W.heap.size W W' := by
  have hs := (Vm.lev_sound Vm.IsRefreshed.tbOk 4).sound 7 W (fun _ => False) [.int .i64 a, d] [.int .i64 a, v] (fun _ => Vm.E) (.bool true) [.int .i64 a, d] rfl
    (by
      simp only [Vm.RepCs, and_true]
      exact ⟨⟨_, rfl, by simp only [Vm.RepV]; exact ⟨trivial, fun _ h => h⟩⟩, ⟨_, rfl, hd⟩⟩)
    (fun _ _ _ _ _ hb => hb.elim) (fun b ⟨_, _, hb⟩ => hb.elim) (fun b hb => hb.elim) hl
  refine hs.mono ?_
  rintro e W' ⟨v, G, χ, rfl, _, hc, hr, _⟩
  obtain rfl := Vm.repV_bool hr
  exact ⟨rfl, hc.os, hc.tape, hc.output, hc.size, fun k hk => hc.keep k hk (fun ⟨_, _, hb⟩ => hb)⟩

set_option maxRecDepth 100000 in
theorem lifted (os : Os) (started : os.Started) (H : Type) (enc : TypeId × Value → H) :
    ReturnsInHanded {} Try.checked os 7 .any (Rows.fnExactIsRefreshedSpec.pre6 enc Try.prog Try.f7 Rows.fnExactIsRefreshedRow.domain false) (Rows.fnExactIsRefreshedSpec.post enc Try.prog Try.f7 false true false false) := by
  refine returnsInHanded_of_change_sized (C := Try.checked) own started (by kernel_rfl) Try.func7
    (ChangeSpec.witness6 (enc := enc) (C := Try.checked) false ⟨#[], #[.int .i64 0, .slice none 0 0], []⟩ 8 (by kernel_rfl) (by kernel_rfl) (by kernel_rfl) (by kernel_rfl)) ?_
  intro W base args ds gs before hval0 hW hcnd hsz0 _
  have hsz : (DataW.weightsEach Try.prog (Try.f7.params.toList ++ Rows.fnExactIsRefreshedSpec.plain.varTypes Try.prog) (ds ++ gs)).all (· ≤ reachBytes) = true := hsz0
  have hval : ∀ (j : Nat) t v, Try.f7.params[j]? = some t → args[j]? = some v → Value.okWide Try.prog W .any base t v := hval0
  have hW' := hW
  obtain ⟨p, q, hA0, hV, rfl, hfz, hnd⟩ := hW
  have hA : DataW.TrodAll enc Try.prog W 0 (fun _ => true) true Try.f7.params.toList args.toList ds p := hA0
  rw [Try.params7] at hA hval hsz
  obtain ⟨v0, vs0, d0, ds0, p0, q0, hargs, rfl, rfl, h0, r0⟩ := trodAll_cons hA
  obtain ⟨v1, vs1, d1, ds1, p1, q1, rfl, rfl, rfl, h1, r1⟩ := trodAll_cons r0
  obtain ⟨rfl, rfl, rfl⟩ := trodAll_nil r1
  obtain rfl : args = #[v0, v1] := by cases args; simp_all
  obtain ⟨rfl, rfl⟩ := trodVars_none hV
  obtain ⟨a0, rfl, rfl, rfl, w0⟩ := open_int Try.underlying2 (hval 0 2 v0 rfl rfl) h0
  obtain ⟨a1, len1, cap1, rfl⟩ := okWide_slice Try.underlying44 (hval 1 44 v1 rfl rfl)
  have k1 := h1
  have lt1 : ∀ x ∈ p1, x.block < W.heap.size := by obtain ⟨m, hm⟩ := k1; exact DataW.trod_lt m _ _ _ hm
  obtain ⟨z1, w1⟩ : ∃ zs, IsRow .i64 W a1 len1 cap1 zs := by
    obtain ⟨fuel, hf⟩ := h1
    rcases open_ints Try.underlying44 Try.underlying2 (by kernel_rfl) hf with ⟨hcs, _⟩ | ⟨x, l, c, zs, hcs, _, hl, hm, hz, _, hcell, hwz⟩
    · simp [Value.cells] at hcs
      obtain ⟨rfl, rfl, rfl⟩ := hcs
      exact ⟨[], .inl ⟨rfl, rfl, rfl, rfl⟩⟩
    · simp [Value.cells] at hcs
      obtain ⟨rfl, rfl, rfl⟩ := hcs
      exact ⟨zs, .inr ⟨_, rfl, hl, hm, by simpa using hz, hcell, hwz⟩⟩
  clear hA0 hval0 hsz0 hsz
  have hcall : Calls Try.prog 7 #[.int .i64 a0, .slice a1 len1 cap1] W fun e W' => e = .returned (.bool true) ∧ Below W.heap.size W W' := by
    rcases w1 with ⟨rfl, rfl, rfl, _⟩ | ⟨x, rfl, h1', h2', h3', h4', _⟩
    · exact callD a0 .nil _ W (by simp only [Vm.RepV]; exact ⟨trivial, fun _ h => h⟩) (Vm.IsRefreshed.f7n 0 a0)
    · exact callD a0 _ _ W (row h1' h3' h4') (Vm.IsRefreshed.f7 0 a0 _)
  refine hcall.mono fun e W' ⟨he, bel⟩ => ?_
  subst he
  exact ⟨_, rfl, _, _, _, [], _, [], hW', trodAll_mk1 (shut_bool Try.underlying4 _), (trodAll_cons_mk (shut_int Try.underlying2 w0) (trodAll_cons_mk (Below.trod laidOut (by kernel_rfl) (of_decide_eq_true (by kernel_rfl)) k1 bel lt1) trodAll_mk0)), rfl, bel.frame _, fun h => by cases h⟩
theorem over : Rows.fnExactIsRefreshedRow.holds Try.pinned (OpenSpec.ofChange Rows.fnExactIsRefreshedSpec) :=
  OpenClaim.holds_of_wide 7 Try.f7 rfl rfl rfl rfl rfl rfl rfl ⟨rfl, rfl, rfl, rfl, rfl⟩ rfl rfl rfl rfl rfl (by kernel_rfl) Try.func7 (by kernel_rfl)
    (of_decide_eq_true (by kernel_rfl)) (by unfold Func.isWrapper; first | (rw [if_pos (by decide +kernel)]; kernel_rfl) | (rw [if_neg (by decide +kernel)]; exact ⟨rfl, rfl⟩))
    (fun os started H enc _ => lifted os started H enc)
theorem proved : Rows.FnExactIsRefreshedSaid := over
#print axioms proved
end Go.Proofs.Ytgnohnlpicmnaaa.fnExactIsRefreshed
namespace Go.Proofs.Ytgnohnlpicmnaaa
/-- The row, under a short name, for the claim. -/
theorem fnExactIsRefreshed_holds : Rows.FnExactIsRefreshedSaid := fnExactIsRefreshed.proved
end Go.Proofs.Ytgnohnlpicmnaaa
