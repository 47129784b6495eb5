/- What the functions behind FnExactSessionFault come to, on plain values (a further part): written by a program. -/
import Derived.Test.YtclhghlpokdiiaaGreatFnBFnExactSessionFault
set_option linter.unusedSimpArgs false
set_option linter.unusedVariables false
set_option maxRecDepth 100000
set_option maxHeartbeats 20000000
namespace Go.Proofs.YtclhghlpokdiiaaGreat.Wm
open Go Go.Proofs
namespace FnExactSessionFault
noncomputable section
attribute [local congr] ite_cong2 run_cg runR_cg plug_cg contV_cg contH_cg contT_cg contF_cg guardR_cg condX_cg evcA_cg evcB_cg evcC_cg evcE_cg evcH_cg levA_cg condJX_cg
-- slices.IndexFunc[[]int64,int64]
def slices_IndexFunc_int64_impl_AnchorFault_1_s1 (a5 : List Int) (a6 : Int) : Int → Option ((Int) ⊕ (Unit ⊕ Int)) := fun a7 =>
  if (decide (a7 < a6)) = true then (getI a5 a7).bind fun x8 =>
    if (impl_AnchorFault_1 x8) = true then some ((.inr ((.inr a7))))
    else some ((.inl ((IntKind.i64.wrap (a7 + 1)))))
  else some ((.inr ((.inl (())))))
def slices_IndexFunc_int64_impl_AnchorFault_1 (p0 : List Int) : Option (Int) :=
  (loopO (slices_IndexFunc_int64_impl_AnchorFault_1_s1 p0 ((p0.length : Int))) 0).bind fun t => (Sum.elim (fun y9 => some ((-1)))
   (fun y10 => some y10)) t
@[go_sem] theorem slices_IndexFunc_int64_impl_AnchorFault_1_s1_ok {β : Type} (n : Nat) (K : List (Kont β)) (a5 : List Int) (a6 : Int) (a7 : Int) : run ⟨tab.own, lev tab (n + 2), tab.gl⟩ K (.loop c92_u1) ⟨[(0, .val (.sh .lent 1 (rowE (eI .i64) a5))), (1, .val (.fn 85 [])), (7, .val (.int .i64 a6)), (8, .val (.int .i64 a7))], [], 19⟩ = (loopO (slices_IndexFunc_int64_impl_AnchorFault_1_s1 a5 a6) a7).bind (fun t => (Sum.elim (fun t => plug ⟨tab.own, lev tab (n + 2), tab.gl⟩ K (.exit 0) ⟨[], [], 19⟩) (fun t => plug ⟨tab.own, lev tab (n + 2), tab.gl⟩ K .ret ⟨[(4, .val (.int .i64 t))], [], 19⟩)) t) := by
  refine loop_run (C := ⟨tab.own, lev tab (n + 2), tab.gl⟩) (K := K) (c := c92_u1) (slices_IndexFunc_int64_impl_AnchorFault_1_s1 a5 a6) (fun s => ⟨[(0, .val (.sh .lent 1 (rowE (eI .i64) a5))), (1, .val (.fn 85 [])), (7, .val (.int .i64 a6)), (8, .val (.int .i64 s))], [], 19⟩) (fun t => (Sum.elim (fun t => plug ⟨tab.own, lev tab (n + 2), tab.gl⟩ K (.exit 0) ⟨[], [], 19⟩) (fun t => plug ⟨tab.own, lev tab (n + 2), tab.gl⟩ K .ret ⟨[(4, .val (.int .i64 t))], [], 19⟩)) t) (fun k s => ?_) a7
  unfold c92_u1
  simp +contextual -implicitDefEqProofs (maxSteps := 100000000) only [slices_IndexFunc_int64_impl_AnchorFault_1_s1, subI, go_sem, ↓ite_not', Nat.reduceEqDiff, Nat.reduceLT, Nat.reduceLeDiff, ↓reduceIte, Nat.reduceAdd, Nat.reduceMul, Nat.reduceSub, Int.reduceEq, Int.reduceLT, Int.reduceLE, Int.reduceToNat, Int.cast_ofNat_Int, Nat.reduceBEq] <;> rfl
@[go_sem] theorem slices_IndexFunc_int64_impl_AnchorFault_1_ok (n : Nat) (q0_0 : List Int) : lev tab (n + 3) 92 [.sh .lent 1 (rowE (eI .i64) q0_0), .fn 85 []] = (slices_IndexFunc_int64_impl_AnchorFault_1 q0_0).map fun r => (.int .i64 r, [.gone, .gone]) := by
  rw [lev_st (vc := c92) (nt := 19) (rs := [(4, none)]) rfl rfl (Nat.le_of_ble_eq_true rfl)]
  unfold c92
  simp +contextual -implicitDefEqProofs (maxSteps := 100000000) only [slices_IndexFunc_int64_impl_AnchorFault_1, subI, go_sem, ↓ite_not', Nat.reduceEqDiff, Nat.reduceLT, Nat.reduceLeDiff, ↓reduceIte, Nat.reduceAdd, Nat.reduceMul, Nat.reduceSub, Int.reduceEq, Int.reduceLT, Int.reduceLE, Int.reduceToNat, Int.cast_ofNat_Int, Nat.reduceBEq] <;> rfl
-- slices.ContainsFunc[[]int64,int64]
def slices_ContainsFunc_int64_impl_AnchorFault_1 (p0 : List Int) : Option (Bool) :=
  (slices_IndexFunc_int64_impl_AnchorFault_1 p0).bind fun r1 =>
  some ((decide (r1 ≥ 0)))
@[go_sem] theorem slices_ContainsFunc_int64_impl_AnchorFault_1_ok (n : Nat) (q0_0 : List Int) : lev tab (n + 4) 64 [.sh .lent 1 (rowE (eI .i64) q0_0), .fn 85 []] = (slices_ContainsFunc_int64_impl_AnchorFault_1 q0_0).map fun r => (.bool r, [.gone, .gone]) := by
  rw [lev_st (vc := c64) (nt := 9) (rs := [(4, none)]) rfl rfl (Nat.le_of_ble_eq_true rfl)]
  unfold c64
  simp +contextual -implicitDefEqProofs (maxSteps := 100000000) only [slices_ContainsFunc_int64_impl_AnchorFault_1, subI, go_sem, ↓ite_not', Nat.reduceEqDiff, Nat.reduceLT, Nat.reduceLeDiff, ↓reduceIte, Nat.reduceAdd, Nat.reduceMul, Nat.reduceSub, Int.reduceEq, Int.reduceLT, Int.reduceLE, Int.reduceToNat, Int.cast_ofNat_Int, Nat.reduceBEq] <;> rfl
-- impl.isNumber
def impl_isNumber (p0 : Int) : Bool :=
  (impl_inRange p0 0 9999)
@[go_sem] theorem impl_isNumber_ok (n : Nat) (q0_0 : Int) : lev tab (n + 2) 86 [.int .i64 q0_0] = (some (impl_isNumber q0_0)).map fun r => (.bool r, [.gone]) := by
  rw [lev_st (vc := c86) (nt := 5) (rs := [(2, none)]) rfl rfl (Nat.le_of_ble_eq_true rfl)]
  unfold c86
  simp +contextual -implicitDefEqProofs (maxSteps := 100000000) only [impl_isNumber, subI, go_sem, ↓ite_not', Nat.reduceEqDiff, Nat.reduceLT, Nat.reduceLeDiff, ↓reduceIte, Nat.reduceAdd, Nat.reduceMul, Nat.reduceSub, Int.reduceEq, Int.reduceLT, Int.reduceLE, Int.reduceToNat, Int.cast_ofNat_Int, Nat.reduceBEq] <;> rfl
-- impl.isRung
def impl_isRung (p0 : Int) : Bool :=
  (impl_inRange p0 0 47)
@[go_sem] theorem impl_isRung_ok (n : Nat) (q0_0 : Int) : lev tab (n + 2) 87 [.int .i64 q0_0] = (some (impl_isRung q0_0)).map fun r => (.bool r, [.gone]) := by
  rw [lev_st (vc := c87) (nt := 5) (rs := [(2, none)]) rfl rfl (Nat.le_of_ble_eq_true rfl)]
  unfold c87
  simp +contextual -implicitDefEqProofs (maxSteps := 100000000) only [impl_isRung, subI, go_sem, ↓ite_not', Nat.reduceEqDiff, Nat.reduceLT, Nat.reduceLeDiff, ↓reduceIte, Nat.reduceAdd, Nat.reduceMul, Nat.reduceSub, Int.reduceEq, Int.reduceLT, Int.reduceLE, Int.reduceToNat, Int.cast_ofNat_Int, Nat.reduceBEq] <;> rfl
-- impl.AnchorFault
def impl_AnchorFault_u1 (a2 : Bool) (a3 : Int) (a4 : Int) (a5 : List Int) (a6 : Bool) : Option (Int) :=
  if (impl_isNumber a3) = true then (impl_first ([(impl_codeIf ((!(impl_isRung a4))) 3), (impl_codeIf ((!(impl_inRange ((a5.length : Int)) 1 2))) 2), (impl_codeIf a6 3)])).bind fun r7 =>
    some r7
  else (impl_first ([(impl_codeIf true 3), (impl_codeIf ((!(impl_inRange ((a5.length : Int)) 1 2))) 2), (impl_codeIf a6 3)])).bind fun r8 =>
    some r8
def impl_AnchorFault_u2 (a10 : Bool) (a11 : Int) (a12 : Int) (a13 : List Int) : Int :=
  if (a11 != 0) = true then (impl_codeIf true 1)
  else if (a12 != 0) = true then (impl_codeIf true 1)
    else (impl_codeIf ((decide ((a13.length : Int) > 0))) 1)
def impl_AnchorFault (p0 : SAnchor) : Option (Int) :=
  if p0.Known = true then (slices_ContainsFunc_int64_impl_AnchorFault_1 p0.Gains).bind fun r1 =>
    (impl_AnchorFault_u1 p0.Known p0.Number p0.Rung p0.Gains r1).bind fun y9 =>
    some y9
  else let y14 := impl_AnchorFault_u2 p0.Known p0.Number p0.Rung p0.Gains
    some y14
@[go_sem] theorem impl_AnchorFault_u1_ok {β : Type} (n : Nat) (K : List (Kont β)) (a2 : Bool) (a3 : Int) (a4 : Int) (a5 : List Int) (a6 : Bool) : run ⟨tab.own, lev tab (n + 4), tab.gl⟩ K c60_u1 ⟨[(1, .pt 200000010 0), (3, .val (.bool a6))], [(200000010, .var false [.val (.bool a2), .val (.int .i64 a3), .val (.int .i64 a4), .val (.sh .lent 1 (rowE (eI .i64) a5))])], 46⟩ = (impl_AnchorFault_u1 a2 a3 a4 a5 a6).bind (fun t => plug ⟨tab.own, lev tab (n + 4), tab.gl⟩ K .normal ⟨[(2, .val (.int .i64 t))], [], 46⟩) := by
  unfold c60_u1
  simp +contextual -implicitDefEqProofs (maxSteps := 100000000) only [impl_AnchorFault_u1, subI, go_sem, ↓ite_not', Nat.reduceEqDiff, Nat.reduceLT, Nat.reduceLeDiff, ↓reduceIte, Nat.reduceAdd, Nat.reduceMul, Nat.reduceSub, Int.reduceEq, Int.reduceLT, Int.reduceLE, Int.reduceToNat, Int.cast_ofNat_Int, Nat.reduceBEq] <;> rfl
@[go_sem] theorem impl_AnchorFault_u2_ok {β : Type} (n : Nat) (K : List (Kont β)) (a10 : Bool) (a11 : Int) (a12 : Int) (a13 : List Int) : run ⟨tab.own, lev tab (n + 4), tab.gl⟩ K c60_u2 ⟨[(1, .pt 200000010 0)], [(200000010, .var false [.val (.bool a10), .val (.int .i64 a11), .val (.int .i64 a12), .val (.sh .lent 1 (rowE (eI .i64) a13))])], 46⟩ = (some (impl_AnchorFault_u2 a10 a11 a12 a13)).bind (fun t => plug ⟨tab.own, lev tab (n + 4), tab.gl⟩ K .normal ⟨[(2, .val (.int .i64 t))], [], 46⟩) := by
  unfold c60_u2
  simp +contextual -implicitDefEqProofs (maxSteps := 100000000) only [impl_AnchorFault_u2, subI, go_sem, ↓ite_not', Nat.reduceEqDiff, Nat.reduceLT, Nat.reduceLeDiff, ↓reduceIte, Nat.reduceAdd, Nat.reduceMul, Nat.reduceSub, Int.reduceEq, Int.reduceLT, Int.reduceLE, Int.reduceToNat, Int.cast_ofNat_Int, Nat.reduceBEq] <;> rfl
@[go_sem] theorem impl_AnchorFault_ok (n : Nat) (q0_0 : Bool) (q0_1 : Int) (q0_2 : Int) (q0_3 : List Int) : lev tab (n + 5) 60 [.agg [.bool q0_0, .int .i64 q0_1, .int .i64 q0_2, .sh .lent 1 (rowE (eI .i64) q0_3)]] = (impl_AnchorFault (SAnchor.mk q0_0 q0_1 q0_2 q0_3)).map fun r => (.int .i64 r, [.gone]) := by
  rw [lev_st (vc := c60) (nt := 46) (rs := [(2, none)]) rfl rfl (Nat.le_of_ble_eq_true rfl)]
  unfold c60
  simp +contextual -implicitDefEqProofs (maxSteps := 100000000) only [impl_AnchorFault, subI, go_sem, ↓ite_not', Nat.reduceEqDiff, Nat.reduceLT, Nat.reduceLeDiff, ↓reduceIte, Nat.reduceAdd, Nat.reduceMul, Nat.reduceSub, Int.reduceEq, Int.reduceLT, Int.reduceLE, Int.reduceToNat, Int.cast_ofNat_Int, Nat.reduceBEq] <;> rfl
-- impl.SenderFault
def impl_SenderFault_u1 (a1 : Int) (a2 : Int) (a3 : Int) (a4 : Int) (a5 : Int) (a6 : List Int) (a7 : List Int) (a8 : Bool) (a9 : Int) (a10 : Int) (a11 : List Int) (a12 : Bool) (a13 : Int) (a14 : Int) (a15 : List Int) (a16 : Int) (a17 : Int) : Bool :=
  if (impl_inRange a4 0 10000) = true then if (impl_inRange a16 0 50) = true then (!(impl_inRange a17 0 50))
    else true
  else true
def impl_SenderFault (p0 : SSender) : Option (Int) :=
  let y18 := impl_SenderFault_u1 p0.Size p0.Budget p0.Refresh p0.Number p0.Lap.Size p0.Lap.Half p0.Lap.Rest p0.A.Known p0.A.Number p0.A.Rung p0.A.Gains p0.B.Known p0.B.Number p0.B.Rung p0.B.Gains p0.SinceA p0.SinceB
  (impl_LapFault p0.Lap).bind fun r19 =>
  (impl_AnchorFault p0.A).bind fun r20 =>
  (impl_AnchorFault p0.B).bind fun r21 =>
  (impl_first ([(impl_SizeFault p0.Size), (impl_rateFault p0.Budget p0.Refresh), (impl_codeIf y18 3), r19, (impl_codeIf ((p0.Lap.Size != p0.Size)) 1), r20, r21])).bind fun r22 =>
  some r22
@[go_sem] theorem impl_SenderFault_u1_ok {β : Type} (n : Nat) (K : List (Kont β)) (a1 : Int) (a2 : Int) (a3 : Int) (a4 : Int) (a5 : Int) (a6 : List Int) (a7 : List Int) (a8 : Bool) (a9 : Int) (a10 : Int) (a11 : List Int) (a12 : Bool) (a13 : Int) (a14 : Int) (a15 : List Int) (a16 : Int) (a17 : Int) : run ⟨tab.own, lev tab (n + 7), tab.gl⟩ K c25_u1 ⟨[(1, .pt 200000010 0)], [(200000010, .var false [.val (.int .i64 a1), .val (.int .i64 a2), .val (.int .i64 a3), .val (.int .i64 a4), .val (.int .i64 a5), .val (.sh .lent 1 (rowE (eI .i64) a6)), .val (.sh .lent 1 (rowE (eI .i64) a7)), .val (.bool a8), .val (.int .i64 a9), .val (.int .i64 a10), .val (.sh .lent 1 (rowE (eI .i64) a11)), .val (.bool a12), .val (.int .i64 a13), .val (.int .i64 a14), .val (.sh .lent 1 (rowE (eI .i64) a15)), .val (.int .i64 a16), .val (.int .i64 a17)])], 48⟩ = (some (impl_SenderFault_u1 a1 a2 a3 a4 a5 a6 a7 a8 a9 a10 a11 a12 a13 a14 a15 a16 a17)).bind (fun t => plug ⟨tab.own, lev tab (n + 7), tab.gl⟩ K .normal ⟨[(1, .pt 200000010 0), (3, .val (.bool t))], [(200000010, .var false [.val (.int .i64 a1), .val (.int .i64 a2), .val (.int .i64 a3), .val (.int .i64 a4), .val (.int .i64 a5), .val (.sh .lent 1 (rowE (eI .i64) a6)), .val (.sh .lent 1 (rowE (eI .i64) a7)), .val (.bool a8), .val (.int .i64 a9), .val (.int .i64 a10), .val (.sh .lent 1 (rowE (eI .i64) a11)), .val (.bool a12), .val (.int .i64 a13), .val (.int .i64 a14), .val (.sh .lent 1 (rowE (eI .i64) a15)), .val (.int .i64 a16), .val (.int .i64 a17)])], 48⟩) := by
  unfold c25_u1
  simp +contextual -implicitDefEqProofs (maxSteps := 100000000) only [impl_SenderFault_u1, subI, go_sem, ↓ite_not', Nat.reduceEqDiff, Nat.reduceLT, Nat.reduceLeDiff, ↓reduceIte, Nat.reduceAdd, Nat.reduceMul, Nat.reduceSub, Int.reduceEq, Int.reduceLT, Int.reduceLE, Int.reduceToNat, Int.cast_ofNat_Int, Nat.reduceBEq] <;> rfl
@[go_sem] theorem impl_SenderFault_ok (n : Nat) (q0_0 : Int) (q0_1 : Int) (q0_2 : Int) (q0_3 : Int) (q0_4 : Int) (q0_5 : List Int) (q0_6 : List Int) (q0_7 : Bool) (q0_8 : Int) (q0_9 : Int) (q0_10 : List Int) (q0_11 : Bool) (q0_12 : Int) (q0_13 : Int) (q0_14 : List Int) (q0_15 : Int) (q0_16 : Int) : lev tab (n + 8) 25 [.agg [.int .i64 q0_0, .int .i64 q0_1, .int .i64 q0_2, .int .i64 q0_3, .int .i64 q0_4, .sh .lent 1 (rowE (eI .i64) q0_5), .sh .lent 1 (rowE (eI .i64) q0_6), .bool q0_7, .int .i64 q0_8, .int .i64 q0_9, .sh .lent 1 (rowE (eI .i64) q0_10), .bool q0_11, .int .i64 q0_12, .int .i64 q0_13, .sh .lent 1 (rowE (eI .i64) q0_14), .int .i64 q0_15, .int .i64 q0_16]] = (impl_SenderFault (SSender.mk q0_0 q0_1 q0_2 q0_3 (SLap.mk q0_4 q0_5 q0_6) (SAnchor.mk q0_7 q0_8 q0_9 q0_10) (SAnchor.mk q0_11 q0_12 q0_13 q0_14) q0_15 q0_16)).map fun r => (.int .i64 r, [.gone]) := by
  rw [lev_st (vc := c25) (nt := 48) (rs := [(2, none)]) rfl rfl (Nat.le_of_ble_eq_true rfl)]
  unfold c25
  simp +contextual -implicitDefEqProofs (maxSteps := 100000000) only [impl_SenderFault, subI, go_sem, ↓ite_not', Nat.reduceEqDiff, Nat.reduceLT, Nat.reduceLeDiff, ↓reduceIte, Nat.reduceAdd, Nat.reduceMul, Nat.reduceSub, Int.reduceEq, Int.reduceLT, Int.reduceLE, Int.reduceToNat, Int.cast_ofNat_Int, Nat.reduceBEq] <;> rfl
-- impl.SynthFault
def impl_SynthFault_u1 (a1 : Int) (a2 : List Int) (a3 : List Int) : Option (Int) :=
  if (impl_halfOf a2 a1) = true then (impl_allWithin a2 1073741824).bind fun r4 =>
    if r4 = true then (impl_allWithin a3 268435456).bind fun r5 =>
      (impl_first ([(impl_SizeFault a1), (impl_codeIf ((!(impl_halfOf a3 a1))) 2), (impl_codeIf ((!r5)) 3)])).bind fun r6 =>
      some r6
    else (impl_first ([(impl_SizeFault a1), (impl_codeIf ((!(impl_halfOf a3 a1))) 2), (impl_codeIf true 3)])).bind fun r7 =>
      some r7
  else (impl_allWithin a2 1073741824).bind fun r8 =>
    if r8 = true then (impl_allWithin a3 268435456).bind fun r9 =>
      (impl_first ([(impl_SizeFault a1), (impl_codeIf true 2), (impl_codeIf ((!r9)) 3)])).bind fun r10 =>
      some r10
    else (impl_first ([(impl_SizeFault a1), (impl_codeIf true 2), (impl_codeIf true 3)])).bind fun r11 =>
      some r11
def impl_SynthFault (p0 : SSynth) : Option (Int) :=
  (impl_SynthFault_u1 p0.Size p0.Head p0.Tail).bind fun y12 =>
  some y12
@[go_sem] theorem impl_SynthFault_u1_ok {β : Type} (n : Nat) (K : List (Kont β)) (a1 : Int) (a2 : List Int) (a3 : List Int) : run ⟨tab.own, lev tab (n + 6), tab.gl⟩ K c62_u1 ⟨[(1, .pt 200000010 0)], [(200000010, .var false [.val (.int .i64 a1), .val (.sh .lent 1 (rowE (eI .i64) a2)), .val (.sh .lent 1 (rowE (eI .i64) a3))])], 34⟩ = (impl_SynthFault_u1 a1 a2 a3).bind (fun t => plug ⟨tab.own, lev tab (n + 6), tab.gl⟩ K .normal ⟨[(2, .val (.int .i64 t))], [], 34⟩) := by
  unfold c62_u1
  simp +contextual -implicitDefEqProofs (maxSteps := 100000000) only [impl_SynthFault_u1, subI, go_sem, ↓ite_not', Nat.reduceEqDiff, Nat.reduceLT, Nat.reduceLeDiff, ↓reduceIte, Nat.reduceAdd, Nat.reduceMul, Nat.reduceSub, Int.reduceEq, Int.reduceLT, Int.reduceLE, Int.reduceToNat, Int.cast_ofNat_Int, Nat.reduceBEq] <;> rfl
@[go_sem] theorem impl_SynthFault_ok (n : Nat) (q0_0 : Int) (q0_1 : List Int) (q0_2 : List Int) : lev tab (n + 7) 62 [.agg [.int .i64 q0_0, .sh .lent 1 (rowE (eI .i64) q0_1), .sh .lent 1 (rowE (eI .i64) q0_2)]] = (impl_SynthFault (SSynth.mk q0_0 q0_1 q0_2)).map fun r => (.int .i64 r, [.gone]) := by
  rw [lev_st (vc := c62) (nt := 34) (rs := [(2, none)]) rfl rfl (Nat.le_of_ble_eq_true rfl)]
  unfold c62
  simp +contextual -implicitDefEqProofs (maxSteps := 100000000) only [impl_SynthFault, subI, go_sem, ↓ite_not', Nat.reduceEqDiff, Nat.reduceLT, Nat.reduceLeDiff, ↓reduceIte, Nat.reduceAdd, Nat.reduceMul, Nat.reduceSub, Int.reduceEq, Int.reduceLT, Int.reduceLE, Int.reduceToNat, Int.cast_ofNat_Int, Nat.reduceBEq] <;> rfl
-- impl.crcOf
def impl_crcOf_u8 (a87 : Int) (a88 : Int) (a89 : Int) (a90 : List Int) (a91 : Int) (a92 : Int) (a93 : Bool) : Int :=
  if a93 = true then (IntKind.i64.wrap ((BitVec.ofInt IntKind.i64.bits a87 ^^^ BitVec.ofInt IntKind.i64.bits 4129).toNat))
  else a87
def impl_crcOf_u9 (a81 : Int) (a82 : Int) (a83 : Int) (a84 : List Int) (a85 : Int) (a86 : Int) : Option (Int) :=
  if a83 < 0 then none
  else let y94 := impl_crcOf_u8 ((IntKind.i64.wrap ((BitVec.ofInt IntKind.i64.bits ((IntKind.i64.wrap (a81 * 2 ^ (min 1 64)))) &&& BitVec.ofInt IntKind.i64.bits 65535).toNat))) a82 a83 a84 a85 a86 (((a81.fdiv (2 ^ (min 15 64))) != (IntKind.i64.wrap (IntKind.u8.wrap ((BitVec.ofInt IntKind.u8.bits ((a82.fdiv (2 ^ (min a83.toNat 8)))) &&& BitVec.ofInt IntKind.u8.bits 1).toNat)))))
    some y94
def impl_crcOf_s10 (a76 : Int) (a78 : List Int) (a79 : Int) (a80 : Int) : (Int × Int) → Option ((Int × Int) ⊕ (Int)) := fun ⟨a75, a77⟩ =>
  if (decide (a77 ≥ 0)) = true then (impl_crcOf_u9 a75 a76 a77 a78 a79 a80).bind fun y95 =>
    some ((.inl ((y95, (IntKind.i64.wrap (a77 - 1))))))
  else some ((.inr a75))
def impl_crcOf_s11 (a50 : List Int) (a51 : Int) : (Int × Int) → Option ((Int × Int) ⊕ (Int)) := fun ⟨a49, a52⟩ =>
  if (decide (a52 < a51)) = true then (getI a50 a52).bind fun x53 =>
    (loopO (impl_crcOf_s10 x53 a50 a51 a52) ((a49, 7))).bind fun y96 =>
    some ((.inl ((y96, (IntKind.i64.wrap (a52 + 1))))))
  else some ((.inr a49))
def impl_crcOf (p0 : List Int) : Option (Int) :=
  (loopO (impl_crcOf_s11 p0 ((p0.length : Int))) ((65535, 0))).bind fun y97 =>
  some y97
@[go_sem] theorem impl_crcOf_u8_ok {β : Type} (n : Nat) (K : List (Kont β)) (a87 : Int) (a88 : Int) (a89 : Int) (a90 : List Int) (a91 : Int) (a92 : Int) (a93 : Bool) : run ⟨tab.own, lev tab n, tab.gl⟩ K c107_u8 ⟨[(3, .val (.int .i64 a87)), (5, .val (.int .u8 a88)), (6, .val (.int .i64 a89)), (8, .val (.sh .lent 1 (rowE (eI .u8) a90))), (9, .val (.int .i64 a91)), (10, .val (.int .i64 a92)), (29, .val (.bool a93))], [], 34⟩ = (some (impl_crcOf_u8 a87 a88 a89 a90 a91 a92 a93)).bind (fun t => plug ⟨tab.own, lev tab n, tab.gl⟩ K .normal ⟨[(3, .val (.int .i64 t)), (5, .val (.int .u8 a88)), (6, .val (.int .i64 a89)), (8, .val (.sh .lent 1 (rowE (eI .u8) a90))), (9, .val (.int .i64 a91)), (10, .val (.int .i64 a92))], [], 34⟩) := by
  unfold c107_u8
  simp +contextual -implicitDefEqProofs (maxSteps := 100000000) only [impl_crcOf_u8, subI, go_sem, ↓ite_not', Nat.reduceEqDiff, Nat.reduceLT, Nat.reduceLeDiff, ↓reduceIte, Nat.reduceAdd, Nat.reduceMul, Nat.reduceSub, Int.reduceEq, Int.reduceLT, Int.reduceLE, Int.reduceToNat, Int.cast_ofNat_Int, Nat.reduceBEq] <;> rfl
@[go_sem] theorem impl_crcOf_u9_ok {β : Type} (n : Nat) (K : List (Kont β)) (a81 : Int) (a82 : Int) (a83 : Int) (a84 : List Int) (a85 : Int) (a86 : Int) : run ⟨tab.own, lev tab n, tab.gl⟩ K c107_u9 ⟨[(3, .val (.int .i64 a81)), (5, .val (.int .u8 a82)), (6, .val (.int .i64 a83)), (8, .val (.sh .lent 1 (rowE (eI .u8) a84))), (9, .val (.int .i64 a85)), (10, .val (.int .i64 a86))], [], 34⟩ = (impl_crcOf_u9 a81 a82 a83 a84 a85 a86).bind (fun t => plug ⟨tab.own, lev tab n, tab.gl⟩ K .normal ⟨[(3, .val (.int .i64 t)), (5, .val (.int .u8 a82)), (6, .val (.int .i64 a83)), (8, .val (.sh .lent 1 (rowE (eI .u8) a84))), (9, .val (.int .i64 a85)), (10, .val (.int .i64 a86))], [], 34⟩) := by
  unfold c107_u9
  simp +contextual -implicitDefEqProofs (maxSteps := 100000000) only [impl_crcOf_u9, subI, go_sem, ↓ite_not', Nat.reduceEqDiff, Nat.reduceLT, Nat.reduceLeDiff, ↓reduceIte, Nat.reduceAdd, Nat.reduceMul, Nat.reduceSub, Int.reduceEq, Int.reduceLT, Int.reduceLE, Int.reduceToNat, Int.cast_ofNat_Int, Nat.reduceBEq] <;> rfl
@[go_sem] theorem impl_crcOf_s10_ok {β : Type} (n : Nat) (K : List (Kont β)) (a75 : Int) (a76 : Int) (a77 : Int) (a78 : List Int) (a79 : Int) (a80 : Int) : run ⟨tab.own, lev tab n, tab.gl⟩ K (.loop c107_u10) ⟨[(3, .val (.int .i64 a75)), (5, .val (.int .u8 a76)), (6, .val (.int .i64 a77)), (8, .val (.sh .lent 1 (rowE (eI .u8) a78))), (9, .val (.int .i64 a79)), (10, .val (.int .i64 a80))], [], 34⟩ = (loopO (impl_crcOf_s10 a76 a78 a79 a80) ((a75, a77))).bind (fun t => plug ⟨tab.own, lev tab n, tab.gl⟩ K (.exit 2) ⟨[(3, .val (.int .i64 t)), (8, .val (.sh .lent 1 (rowE (eI .u8) a78))), (9, .val (.int .i64 a79)), (10, .val (.int .i64 a80))], [], 34⟩) := by
  refine loop_run (C := ⟨tab.own, lev tab n, tab.gl⟩) (K := K) (c := c107_u10) (impl_crcOf_s10 a76 a78 a79 a80) (fun s => ⟨[(3, .val (.int .i64 s.1)), (5, .val (.int .u8 a76)), (6, .val (.int .i64 s.2)), (8, .val (.sh .lent 1 (rowE (eI .u8) a78))), (9, .val (.int .i64 a79)), (10, .val (.int .i64 a80))], [], 34⟩) (fun t => plug ⟨tab.own, lev tab n, tab.gl⟩ K (.exit 2) ⟨[(3, .val (.int .i64 t)), (8, .val (.sh .lent 1 (rowE (eI .u8) a78))), (9, .val (.int .i64 a79)), (10, .val (.int .i64 a80))], [], 34⟩) (fun k s => ?_) ((a75, a77))
  obtain ⟨a75, a77⟩ := s
  unfold c107_u10
  simp +contextual -implicitDefEqProofs (maxSteps := 100000000) only [impl_crcOf_s10, subI, go_sem, ↓ite_not', Nat.reduceEqDiff, Nat.reduceLT, Nat.reduceLeDiff, ↓reduceIte, Nat.reduceAdd, Nat.reduceMul, Nat.reduceSub, Int.reduceEq, Int.reduceLT, Int.reduceLE, Int.reduceToNat, Int.cast_ofNat_Int, Nat.reduceBEq] <;> rfl
@[go_sem] theorem impl_crcOf_s11_ok {β : Type} (n : Nat) (K : List (Kont β)) (a49 : Int) (a50 : List Int) (a51 : Int) (a52 : Int) : run ⟨tab.own, lev tab n, tab.gl⟩ K (.loop c107_u11) ⟨[(3, .val (.int .i64 a49)), (8, .val (.sh .lent 1 (rowE (eI .u8) a50))), (9, .val (.int .i64 a51)), (10, .val (.int .i64 a52))], [], 34⟩ = (loopO (impl_crcOf_s11 a50 a51) ((a49, a52))).bind (fun t => plug ⟨tab.own, lev tab n, tab.gl⟩ K (.exit 0) ⟨[(3, .val (.int .i64 t))], [], 34⟩) := by
  refine loop_run (C := ⟨tab.own, lev tab n, tab.gl⟩) (K := K) (c := c107_u11) (impl_crcOf_s11 a50 a51) (fun s => ⟨[(3, .val (.int .i64 s.1)), (8, .val (.sh .lent 1 (rowE (eI .u8) a50))), (9, .val (.int .i64 a51)), (10, .val (.int .i64 s.2))], [], 34⟩) (fun t => plug ⟨tab.own, lev tab n, tab.gl⟩ K (.exit 0) ⟨[(3, .val (.int .i64 t))], [], 34⟩) (fun k s => ?_) ((a49, a52))
  obtain ⟨a49, a52⟩ := s
  unfold c107_u11
  simp +contextual -implicitDefEqProofs (maxSteps := 100000000) only [impl_crcOf_s11, subI, go_sem, ↓ite_not', Nat.reduceEqDiff, Nat.reduceLT, Nat.reduceLeDiff, ↓reduceIte, Nat.reduceAdd, Nat.reduceMul, Nat.reduceSub, Int.reduceEq, Int.reduceLT, Int.reduceLE, Int.reduceToNat, Int.cast_ofNat_Int, Nat.reduceBEq] <;> rfl
@[go_sem] theorem impl_crcOf_ok (n : Nat) (q0_0 : List Int) : lev tab (n + 1) 107 [.sh .lent 1 (rowE (eI .u8) q0_0)] = (impl_crcOf q0_0).map fun r => (.int .i64 r, [.gone]) := by
  rw [lev_st (vc := c107) (nt := 34) (rs := [(2, none)]) rfl rfl (Nat.le_of_ble_eq_true rfl)]
  unfold c107
  simp +contextual -implicitDefEqProofs (maxSteps := 100000000) only [impl_crcOf, subI, go_sem, ↓ite_not', Nat.reduceEqDiff, Nat.reduceLT, Nat.reduceLeDiff, ↓reduceIte, Nat.reduceAdd, Nat.reduceMul, Nat.reduceSub, Int.reduceEq, Int.reduceLT, Int.reduceLE, Int.reduceToNat, Int.cast_ofNat_Int, Nat.reduceBEq] <;> rfl
-- impl.twoBytes
def impl_twoBytes (p0 : Int) : (List Int) :=
  [(IntKind.u8.wrap (p0.fdiv (2 ^ (min 8 64)))), (IntKind.u8.wrap p0)]
@[go_sem] theorem impl_twoBytes_ok (n : Nat) (q0_0 : Int) : lev tab (n + 1) 106 [.int .i64 q0_0] = (some (impl_twoBytes q0_0)).map fun r => (.ow 1 (rowE (eI .u8) r), [.gone]) := by
  rw [lev_st (vc := c106) (nt := 9) (rs := [(2, none)]) rfl rfl (Nat.le_of_ble_eq_true rfl)]
  unfold c106
  simp +contextual -implicitDefEqProofs (maxSteps := 100000000) only [impl_twoBytes, subI, go_sem, ↓ite_not', Nat.reduceEqDiff, Nat.reduceLT, Nat.reduceLeDiff, ↓reduceIte, Nat.reduceAdd, Nat.reduceMul, Nat.reduceSub, Int.reduceEq, Int.reduceLT, Int.reduceLE, Int.reduceToNat, Int.cast_ofNat_Int, Nat.reduceBEq] <;> rfl
-- bytes.Equal
def bytes_Equal (p0 : List Int) (p1 : List Int) : Option (Bool) :=
  (bytesI p0).bind fun x1 =>
  (bytesI p1).bind fun x2 =>
  some ((x1 == x2))
@[go_sem] theorem bytes_Equal_ok (n : Nat) (q0_0 : List Int) (q1_0 : List Int) : lev tab (n + 1) 105 [.sh .lent 1 (rowE (eI .u8) q0_0), .sh .lent 1 (rowE (eI .u8) q1_0)] = (bytes_Equal q0_0 q1_0).map fun r => (.bool r, [.gone, .gone]) := by
  rw [lev_st (vc := c105) (nt := 10) (rs := [(4, none)]) rfl rfl (Nat.le_of_ble_eq_true rfl)]
  unfold c105
  simp +contextual -implicitDefEqProofs (maxSteps := 100000000) only [bytes_Equal, subI, go_sem, ↓ite_not', Nat.reduceEqDiff, Nat.reduceLT, Nat.reduceLeDiff, ↓reduceIte, Nat.reduceAdd, Nat.reduceMul, Nat.reduceSub, Int.reduceEq, Int.reduceLT, Int.reduceLE, Int.reduceToNat, Int.cast_ofNat_Int, Nat.reduceBEq] <;> rfl
-- slices.Clone[[]byte,byte]
def slices_Clone_byte (p0 : List Int) : Option ((List Int)) :=
  if (okApp 1 p0.length) = true then some p0
  else none
@[go_sem] theorem slices_Clone_byte_ok (n : Nat) (q0_0 : List Int) : lev tab (n + 1) 108 [.sh .lent 1 (rowE (eI .u8) q0_0)] = (slices_Clone_byte q0_0).map fun r => (.ow 1 (rowE (eI .u8) r), [.gone]) := by
  cases q0_0 with
  | nil =>
    rw [lev_st (vc := c108) (nt := 8) (rs := [(2, none)]) rfl rfl (Nat.le_of_ble_eq_true rfl)]
    unfold c108
    simp +contextual -implicitDefEqProofs (maxSteps := 100000000) only [slices_Clone_byte, rowE_nil, List.length_nil, subI, go_sem, ↓ite_not', Nat.reduceEqDiff, Nat.reduceLT, Nat.reduceLeDiff, ↓reduceIte, Nat.reduceAdd, Nat.reduceMul, Nat.reduceSub, Int.reduceEq, Int.reduceLT, Int.reduceLE, Int.reduceToNat, Int.cast_ofNat_Int, Nat.reduceBEq] <;> rfl
  | cons y ys =>
    rw [lev_st (vc := c108) (nt := 8) (rs := [(2, none)]) rfl rfl (Nat.le_of_ble_eq_true rfl)]
    unfold c108
    simp +contextual -implicitDefEqProofs (maxSteps := 100000000) only [slices_Clone_byte, subI, go_sem, ↓ite_not', Nat.reduceEqDiff, Nat.reduceLT, Nat.reduceLeDiff, ↓reduceIte, Nat.reduceAdd, Nat.reduceMul, Nat.reduceSub, Int.reduceEq, Int.reduceLT, Int.reduceLE, Int.reduceToNat, Int.cast_ofNat_Int, Nat.reduceBEq] <;> rfl
-- impl.OpenBytes
def impl_OpenBytes (p0 : List Int) : Option (SBytesResult) :=
  if (impl_inRange ((p0.length : Int)) 2 160) = true then (subI p0 ((IntKind.i64.wrap ((p0.length : Int) - 2))) (p0.length : Int)).bind fun x1 =>
    (subI p0 0 ((IntKind.i64.wrap ((p0.length : Int) - 2)))).bind fun x2 =>
    (impl_crcOf x2).bind fun r3 =>
    (bytes_Equal x1 ((impl_twoBytes r3))).bind fun r4 =>
    if r4 = true then (subI p0 0 ((IntKind.i64.wrap ((p0.length : Int) - 2)))).bind fun x5 =>
      (slices_Clone_byte x5).bind fun r6 =>
      some ((SBytesResult.mk 0 r6))
    else some ((SBytesResult.mk 10 ([])))
  else some ((SBytesResult.mk 2 ([])))
@[go_sem] theorem impl_OpenBytes_ok (n : Nat) (q0_0 : List Int) : lev tab (n + 2) 99 [.sh .lent 1 (rowE (eI .u8) q0_0)] = (impl_OpenBytes q0_0).map fun r => (.agg [.int .i64 r.Code, .ow 1 (rowE (eI .u8) r.Bytes)], [.gone]) := by
  rw [lev_st (vc := c99) (nt := 28) (rs := [(2, some (some 2))]) rfl rfl (Nat.le_of_ble_eq_true rfl)]
  unfold c99
  simp +contextual -implicitDefEqProofs (maxSteps := 100000000) only [impl_OpenBytes, subI, go_sem, ↓ite_not', Nat.reduceEqDiff, Nat.reduceLT, Nat.reduceLeDiff, ↓reduceIte, Nat.reduceAdd, Nat.reduceMul, Nat.reduceSub, Int.reduceEq, Int.reduceLT, Int.reduceLE, Int.reduceToNat, Int.cast_ofNat_Int, Nat.reduceBEq] <;> rfl
-- impl.isSpread
def impl_isSpread (p0 : Int) : Bool :=
  (impl_inRange p0 0 2)
@[go_sem] theorem impl_isSpread_ok (n : Nat) (q0_0 : Int) : lev tab (n + 2) 109 [.int .i64 q0_0] = (some (impl_isSpread q0_0)).map fun r => (.bool r, [.gone]) := by
  rw [lev_st (vc := c109) (nt := 5) (rs := [(2, none)]) rfl rfl (Nat.le_of_ble_eq_true rfl)]
  unfold c109
  simp +contextual -implicitDefEqProofs (maxSteps := 100000000) only [impl_isSpread, subI, go_sem, ↓ite_not', Nat.reduceEqDiff, Nat.reduceLT, Nat.reduceLeDiff, ↓reduceIte, Nat.reduceAdd, Nat.reduceMul, Nat.reduceSub, Int.reduceEq, Int.reduceLT, Int.reduceLE, Int.reduceToNat, Int.cast_ofNat_Int, Nat.reduceBEq] <;> rfl
-- impl.readHead
def impl_readHead_u1 (a4 : Int) (a5 : Int) (a6 : Int) (a7 : Int) (a8 : Int) (a9 : Bool) (a10 : Int) : Bool :=
  if (impl_isNumber a4) = true then if (impl_isSpread a7) = true then (decide ((a10.fdiv (2 ^ (min 6 64))) < 3))
    else false
  else false
def impl_readHead (p0 : List Int) : Option (SHead × Bool) :=
  if (decide ((p0.length : Int) < 3)) = true then some (((SHead.mk 0 0 0 0 0 false), false))
  else (getI p0 2).bind fun x1 =>
    (getI p0 0).bind fun x2 =>
    (getI p0 1).bind fun x3 =>
    if ((((IntKind.i64.wrap x1)).fdiv (2 ^ (min 6 64)))) < 0 then none
    else let y11 := impl_readHead_u1 ((IntKind.i64.wrap ((BitVec.ofInt IntKind.i64.bits ((IntKind.i64.wrap ((IntKind.i64.wrap x2) * 2 ^ (min 8 64)))) ||| BitVec.ofInt IntKind.i64.bits ((IntKind.i64.wrap x3))).toNat))) ((IntKind.i64.wrap (4 * 2 ^ (min ((((IntKind.i64.wrap x1)).fdiv (2 ^ (min 6 64)))).toNat 64)))) ((IntKind.i64.wrap ((BitVec.ofInt IntKind.i64.bits ((IntKind.i64.wrap x1)) &&& BitVec.ofInt IntKind.i64.bits 1).toNat))) ((IntKind.i64.wrap ((BitVec.ofInt IntKind.i64.bits ((((IntKind.i64.wrap x1)).fdiv (2 ^ (min 2 64)))) &&& BitVec.ofInt IntKind.i64.bits 3).toNat))) ((IntKind.i64.wrap ((BitVec.ofInt IntKind.i64.bits ((((IntKind.i64.wrap x1)).fdiv (2 ^ (min 4 64)))) &&& BitVec.ofInt IntKind.i64.bits 3).toNat))) ((decide ((IntKind.i64.wrap ((BitVec.ofInt IntKind.i64.bits ((IntKind.i64.wrap x1)) &&& BitVec.ofInt IntKind.i64.bits 2).toNat)) > 0))) ((IntKind.i64.wrap x1))
      some (((SHead.mk (((IntKind.i64.wrap ((BitVec.ofInt IntKind.i64.bits ((IntKind.i64.wrap ((IntKind.i64.wrap x2) * 2 ^ (min 8 64)))) ||| BitVec.ofInt IntKind.i64.bits ((IntKind.i64.wrap x3))).toNat)))) (((IntKind.i64.wrap (4 * 2 ^ (min ((((IntKind.i64.wrap x1)).fdiv (2 ^ (min 6 64)))).toNat 64))))) (((IntKind.i64.wrap ((BitVec.ofInt IntKind.i64.bits ((IntKind.i64.wrap x1)) &&& BitVec.ofInt IntKind.i64.bits 1).toNat)))) (((IntKind.i64.wrap ((BitVec.ofInt IntKind.i64.bits ((((IntKind.i64.wrap x1)).fdiv (2 ^ (min 2 64)))) &&& BitVec.ofInt IntKind.i64.bits 3).toNat)))) (((IntKind.i64.wrap ((BitVec.ofInt IntKind.i64.bits ((((IntKind.i64.wrap x1)).fdiv (2 ^ (min 4 64)))) &&& BitVec.ofInt IntKind.i64.bits 3).toNat)))) (((decide ((IntKind.i64.wrap ((BitVec.ofInt IntKind.i64.bits ((IntKind.i64.wrap x1)) &&& BitVec.ofInt IntKind.i64.bits 2).toNat)) > 0))))), y11))
@[go_sem] theorem impl_readHead_u1_ok {β : Type} (n : Nat) (K : List (Kont β)) (a4 : Int) (a5 : Int) (a6 : Int) (a7 : Int) (a8 : Int) (a9 : Bool) (a10 : Int) : run ⟨tab.own, lev tab (n + 2), tab.gl⟩ K c100_u1 ⟨[(2, .pt 200000020 0), (4, .val (.int .i64 a10)), (5, .pt 200000050 0)], [(200000020, .var false [.val (.int .i64 0), .val (.int .i64 0), .val (.int .i64 0), .val (.int .i64 0), .val (.int .i64 0), .val (.bool false)]), (200000050, .var false [.val (.int .i64 a4), .val (.int .i64 a5), .val (.int .i64 a6), .val (.int .i64 a7), .val (.int .i64 a8), .val (.bool a9)])], 53⟩ = (some (impl_readHead_u1 a4 a5 a6 a7 a8 a9 a10)).bind (fun t => plug ⟨tab.own, lev tab (n + 2), tab.gl⟩ K .normal ⟨[(2, .pt 200000020 0), (3, .val (.bool t))], [(200000020, .var false [.val (.int .i64 a4), .val (.int .i64 a5), .val (.int .i64 a6), .val (.int .i64 a7), .val (.int .i64 a8), .val (.bool a9)])], 53⟩) := by
  unfold c100_u1
  simp +contextual -implicitDefEqProofs (maxSteps := 100000000) only [impl_readHead_u1, subI, go_sem, ↓ite_not', Nat.reduceEqDiff, Nat.reduceLT, Nat.reduceLeDiff, ↓reduceIte, Nat.reduceAdd, Nat.reduceMul, Nat.reduceSub, Int.reduceEq, Int.reduceLT, Int.reduceLE, Int.reduceToNat, Int.cast_ofNat_Int, Nat.reduceBEq] <;> rfl
@[go_sem] theorem impl_readHead_ok (n : Nat) (q0_0 : List Int) : lev tab (n + 3) 100 [.sh .lent 1 (rowE (eI .u8) q0_0)] = (impl_readHead q0_0).map fun r => (.tup [.agg [.int .i64 r.1.Number, .int .i64 r.1.Size, .int .i64 r.1.Side, .int .i64 r.1.Spread, .int .i64 r.1.Mask, .bool r.1.Intra], .bool r.2], [.gone]) := by
  rw [lev_st (vc := c100) (nt := 53) (rs := [(2, some (some 6)), (3, none)]) rfl rfl (Nat.le_of_ble_eq_true rfl)]
  unfold c100
  simp +contextual -implicitDefEqProofs (maxSteps := 100000000) only [impl_readHead, subI, go_sem, ↓ite_not', Nat.reduceEqDiff, Nat.reduceLT, Nat.reduceLeDiff, ↓reduceIte, Nat.reduceAdd, Nat.reduceMul, Nat.reduceSub, Int.reduceEq, Int.reduceLT, Int.reduceLE, Int.reduceToNat, Int.cast_ofNat_Int, Nat.reduceBEq] <;> rfl
-- impl.ReadHead
def impl_ReadHead (p0 : List Int) : Option (SHeadResult) :=
  (impl_OpenBytes p0).bind fun r1 =>
  if (r1.Code != 0) = true then some ((SHeadResult.mk r1.Code ((SHead.mk 0 0 0 0 0 false))))
  else (impl_readHead r1.Bytes).bind fun r2 =>
    if r2.2 = true then some ((SHeadResult.mk 0 r2.1))
    else some ((SHeadResult.mk 5 ((SHead.mk 0 0 0 0 0 false))))
@[go_sem] theorem impl_ReadHead_ok (n : Nat) (q0_0 : List Int) : lev tab (n + 4) 90 [.sh .lent 1 (rowE (eI .u8) q0_0)] = (impl_ReadHead q0_0).map fun r => (.agg [.int .i64 r.Code, .int .i64 r.Head.Number, .int .i64 r.Head.Size, .int .i64 r.Head.Side, .int .i64 r.Head.Spread, .int .i64 r.Head.Mask, .bool r.Head.Intra], [.gone]) := by
  rw [lev_st (vc := c90) (nt := 25) (rs := [(2, some (some 7))]) rfl rfl (Nat.le_of_ble_eq_true rfl)]
  unfold c90
  simp +contextual -implicitDefEqProofs (maxSteps := 100000000) only [impl_ReadHead, subI, go_sem, ↓ite_not', Nat.reduceEqDiff, Nat.reduceLT, Nat.reduceLeDiff, ↓reduceIte, Nat.reduceAdd, Nat.reduceMul, Nat.reduceSub, Int.reduceEq, Int.reduceLT, Int.reduceLE, Int.reduceToNat, Int.cast_ofNat_Int, Nat.reduceBEq] <;> rfl
-- cmp.isNaN[int64]
def cmp_isNaN_int64 (p0 : Int) : Bool :=
  (p0 != p0)
@[go_sem] theorem cmp_isNaN_int64_ok (n : Nat) (q0_0 : Int) : lev tab (n + 1) 110 [.int .i64 q0_0] = (some (cmp_isNaN_int64 q0_0)).map fun r => (.bool r, [.gone]) := by
  rw [lev_st (vc := c110) (nt := 6) (rs := [(2, none)]) rfl rfl (Nat.le_of_ble_eq_true rfl)]
  unfold c110
  simp +contextual -implicitDefEqProofs (maxSteps := 100000000) only [cmp_isNaN_int64, subI, go_sem, ↓ite_not', Nat.reduceEqDiff, Nat.reduceLT, Nat.reduceLeDiff, ↓reduceIte, Nat.reduceAdd, Nat.reduceMul, Nat.reduceSub, Int.reduceEq, Int.reduceLT, Int.reduceLE, Int.reduceToNat, Int.cast_ofNat_Int, Nat.reduceBEq] <;> rfl
-- cmp.Compare[int64]
def cmp_Compare_int64 (p0 : Int) (p1 : Int) : Int :=
  if (cmp_isNaN_int64 p0) = true then if (cmp_isNaN_int64 p1) = true then 0
    else (-1)
  else if (cmp_isNaN_int64 p1) = true then 1
    else if (decide (p0 < p1)) = true then (-1)
      else if (decide (p0 > p1)) = true then 1
        else 0
@[go_sem] theorem cmp_Compare_int64_ok (n : Nat) (q0_0 : Int) (q1_0 : Int) : lev tab (n + 2) 102 [.int .i64 q0_0, .int .i64 q1_0] = (some (cmp_Compare_int64 q0_0 q1_0)).map fun r => (.int .i64 r, [.gone, .gone]) := by
  rw [lev_st (vc := c102) (nt := 20) (rs := [(4, none)]) rfl rfl (Nat.le_of_ble_eq_true rfl)]
  unfold c102
  simp +contextual -implicitDefEqProofs (maxSteps := 100000000) only [cmp_Compare_int64, subI, go_sem, ↓ite_not', Nat.reduceEqDiff, Nat.reduceLT, Nat.reduceLeDiff, ↓reduceIte, Nat.reduceAdd, Nat.reduceMul, Nat.reduceSub, Int.reduceEq, Int.reduceLT, Int.reduceLE, Int.reduceToNat, Int.cast_ofNat_Int, Nat.reduceBEq] <;> rfl
-- cmp.Or[int]
def cmp_Or_int_s1 (a6 : List Int) (a7 : Int) : Int → Option ((Int) ⊕ (Unit ⊕ Int)) := fun a8 =>
  if (decide (a8 < a7)) = true then (getI a6 a8).bind fun x9 =>
    if (x9 != 0) = true then some ((.inr ((.inr x9))))
    else some ((.inl ((IntKind.i64.wrap (a8 + 1)))))
  else some ((.inr ((.inl (())))))
def cmp_Or_int (p0 : List Int) : Option (Int) :=
  (loopO (cmp_Or_int_s1 p0 ((p0.length : Int))) 0).bind fun t => (Sum.elim (fun y10 => some 0)
   (fun y11 => some y11)) t
@[go_sem] theorem cmp_Or_int_s1_ok {β : Type} (n : Nat) (K : List (Kont β)) (a6 : List Int) (a7 : Int) (a8 : Int) : run ⟨tab.own, lev tab n, tab.gl⟩ K (.loop c101_u1) ⟨[(3, .val (.int .i64 0)), (6, .val (.sh .lent 1 (rowE (eI .i64) a6))), (7, .val (.int .i64 a7)), (8, .val (.int .i64 a8))], [], 18⟩ = (loopO (cmp_Or_int_s1 a6 a7) a8).bind (fun t => (Sum.elim (fun t => plug ⟨tab.own, lev tab n, tab.gl⟩ K (.exit 0) ⟨[(3, .val (.int .i64 0))], [], 18⟩) (fun t => plug ⟨tab.own, lev tab n, tab.gl⟩ K .ret ⟨[(2, .val (.int .i64 t))], [], 18⟩)) t) := by
  refine loop_run (C := ⟨tab.own, lev tab n, tab.gl⟩) (K := K) (c := c101_u1) (cmp_Or_int_s1 a6 a7) (fun s => ⟨[(3, .val (.int .i64 0)), (6, .val (.sh .lent 1 (rowE (eI .i64) a6))), (7, .val (.int .i64 a7)), (8, .val (.int .i64 s))], [], 18⟩) (fun t => (Sum.elim (fun t => plug ⟨tab.own, lev tab n, tab.gl⟩ K (.exit 0) ⟨[(3, .val (.int .i64 0))], [], 18⟩) (fun t => plug ⟨tab.own, lev tab n, tab.gl⟩ K .ret ⟨[(2, .val (.int .i64 t))], [], 18⟩)) t) (fun k s => ?_) a8
  unfold c101_u1
  simp +contextual -implicitDefEqProofs (maxSteps := 100000000) only [cmp_Or_int_s1, subI, go_sem, ↓ite_not', Nat.reduceEqDiff, Nat.reduceLT, Nat.reduceLeDiff, ↓reduceIte, Nat.reduceAdd, Nat.reduceMul, Nat.reduceSub, Int.reduceEq, Int.reduceLT, Int.reduceLE, Int.reduceToNat, Int.cast_ofNat_Int, Nat.reduceBEq] <;> rfl
@[go_sem] theorem cmp_Or_int_ok (n : Nat) (q0_0 : List Int) : lev tab (n + 1) 101 [.sh .lent 1 (rowE (eI .i64) q0_0)] = (cmp_Or_int q0_0).map fun r => (.int .i64 r, [.gone]) := by
  rw [lev_st (vc := c101) (nt := 18) (rs := [(2, none)]) rfl rfl (Nat.le_of_ble_eq_true rfl)]
  unfold c101
  simp +contextual -implicitDefEqProofs (maxSteps := 100000000) only [cmp_Or_int, subI, go_sem, ↓ite_not', Nat.reduceEqDiff, Nat.reduceLT, Nat.reduceLeDiff, ↓reduceIte, Nat.reduceAdd, Nat.reduceMul, Nat.reduceSub, Int.reduceEq, Int.reduceLT, Int.reduceLE, Int.reduceToNat, Int.cast_ofNat_Int, Nat.reduceBEq] <;> rfl
-- impl.compareHeld
def impl_compareHeld (p0 : SHeld) (p1 : SHeld) : Option (Int) :=
  (cmp_Or_int ([(cmp_Compare_int64 p0.Number p1.Number), (cmp_Compare_int64 p0.Side p1.Side)])).bind fun r1 =>
  some r1
@[go_sem] theorem impl_compareHeld_ok (n : Nat) (q0_0 : Int) (q0_1 : Int) (q0_2 : List Int) (q1_0 : Int) (q1_1 : Int) (q1_2 : List Int) : lev tab (n + 3) 91 [.agg [.int .i64 q0_0, .int .i64 q0_1, .sh .lent 1 (rowE (eI .u8) q0_2)], .agg [.int .i64 q1_0, .int .i64 q1_1, .sh .lent 1 (rowE (eI .u8) q1_2)]] = (impl_compareHeld (SHeld.mk q0_0 q0_1 q0_2) (SHeld.mk q1_0 q1_1 q1_2)).map fun r => (.int .i64 r, [.gone, .gone]) := by
  rw [lev_st (vc := c91) (nt := 17) (rs := [(4, none)]) rfl rfl (Nat.le_of_ble_eq_true rfl)]
  unfold c91
  simp +contextual -implicitDefEqProofs (maxSteps := 100000000) only [impl_compareHeld, subI, go_sem, ↓ite_not', Nat.reduceEqDiff, Nat.reduceLT, Nat.reduceLeDiff, ↓reduceIte, Nat.reduceAdd, Nat.reduceMul, Nat.reduceSub, Int.reduceEq, Int.reduceLT, Int.reduceLE, Int.reduceToNat, Int.cast_ofNat_Int, Nat.reduceBEq] <;> rfl
-- impl.heldFault
def impl_heldFault_u2 (a72 : Int) (a73 : Int) (a74 : List SHeld) (a75 : Bool) (a76 : Int) (a77 : Int) (a78 : List Int) (a79 : Bool) (a80 : Int) (a81 : Int) (a82 : List Int) (a83 : Int) (a84 : List Int) (a85 : List Int) (a86 : List Int) (a87 : Int) (a88 : Int) (a89 : Int) (a90 : List Int) (a91 : Int) (a92 : Int) (a93 : Int) (a94 : Int) (a95 : Int) (a96 : Int) (a97 : Bool) (a98 : Int) (a99 : Int) : Bool :=
  if (a91 != 0) = true then true
  else if (a92 != a88) = true then true
    else if (a94 != a89) = true then true
      else (a93 != a72)
def impl_heldFault_s3 (a52 : Int) (a53 : Int) (a54 : List SHeld) (a55 : Bool) (a56 : Int) (a57 : Int) (a58 : List Int) (a59 : Bool) (a60 : Int) (a61 : Int) (a62 : List Int) (a63 : Int) (a64 : List Int) (a65 : List Int) (a66 : List Int) (a67 : Int) (a68 : Int) : Int → Option ((Int) ⊕ (Unit ⊕ Int)) := fun a69 =>
  if (decide (a69 < a68)) = true then (getI a54 a69).bind fun x70 =>
    if (impl_inRange x70.Number a53 ((IntKind.i64.wrap (a53 + 8)))) = true then (impl_ReadHead x70.Data).bind fun r71 =>
      let y100 := impl_heldFault_u2 a52 a53 a54 a55 a56 a57 a58 a59 a60 a61 a62 a63 a64 a65 a66 a67 x70.Number x70.Side x70.Data r71.Code r71.Head.Number r71.Head.Size r71.Head.Side r71.Head.Spread r71.Head.Mask r71.Head.Intra a68 a69
      if y100 = true then some ((.inr ((.inr 1))))
      else some ((.inl ((IntKind.i64.wrap (a69 + 1)))))
    else some ((.inr ((.inr 3))))
  else some ((.inr ((.inl (())))))
def impl_heldFault_s4 (a122 : Int) (a123 : Int) (a124 : List SHeld) (a125 : Bool) (a126 : Int) (a127 : Int) (a128 : List Int) (a129 : Bool) (a130 : Int) (a131 : Int) (a132 : List Int) (a133 : Int) (a134 : List Int) (a135 : List Int) (a136 : List Int) (a137 : Int) : Int → Option ((Int) ⊕ (Unit ⊕ Unit)) := fun a138 =>
  if (decide (a138 < (a124.length : Int))) = true then (getI a124 (IntKind.i64.wrap (a138 - 1))).bind fun x139 =>
    (getI a124 a138).bind fun x140 =>
    (impl_compareHeld x139 x140).bind fun r141 =>
    if (decide (r141 ≥ 0)) = true then some ((.inr ((.inr (())))))
    else some ((.inl ((IntKind.i64.wrap (a138 + 1)))))
  else some ((.inr ((.inl (())))))
def impl_heldFault (p0 : SReceiver) : Option (Int) :=
  (loopO (impl_heldFault_s3 p0.Size p0.Next p0.Held p0.A.Known p0.A.Number p0.A.Rung p0.A.Gains p0.B.Known p0.B.Number p0.B.Rung p0.B.Gains p0.Synth.Size p0.Synth.Head p0.Synth.Tail p0.Last p0.Lost ((p0.Held.length : Int))) 0).bind fun t => (Sum.elim (fun y101 => (loopO (impl_heldFault_s4 p0.Size p0.Next p0.Held p0.A.Known p0.A.Number p0.A.Rung p0.A.Gains p0.B.Known p0.B.Number p0.B.Rung p0.B.Gains p0.Synth.Size p0.Synth.Head p0.Synth.Tail p0.Last p0.Lost) 1).bind fun t => (Sum.elim (fun y142 => some 0)
     (fun y143 => some 1)) t)
   (fun y144 => some y144)) t
@[go_sem] theorem impl_heldFault_u2_ok {β : Type} (n : Nat) (K : List (Kont β)) (a72 : Int) (a73 : Int) (a74 : List SHeld) (a75 : Bool) (a76 : Int) (a77 : Int) (a78 : List Int) (a79 : Bool) (a80 : Int) (a81 : Int) (a82 : List Int) (a83 : Int) (a84 : List Int) (a85 : List Int) (a86 : List Int) (a87 : Int) (a88 : Int) (a89 : Int) (a90 : List Int) (a91 : Int) (a92 : Int) (a93 : Int) (a94 : Int) (a95 : Int) (a96 : Int) (a97 : Bool) (a98 : Int) (a99 : Int) : run ⟨tab.own, lev tab (n + 4), tab.gl⟩ K c63_u2 ⟨[(1, .pt 200000010 0), (4, .pt 200000040 0), (5, .pt 200000050 0), (8, .val (.sh .lent 3 (rowE (SHeld.cells .lent) a74))), (9, .val (.int .i64 a98)), (10, .val (.int .i64 a99))], [(200000010, .var false [.val (.int .i64 a72), .val (.int .i64 a73), .val (.sh .lent 3 (rowE (SHeld.cells .lent) a74)), .val (.bool a75), .val (.int .i64 a76), .val (.int .i64 a77), .val (.sh .lent 1 (rowE (eI .i64) a78)), .val (.bool a79), .val (.int .i64 a80), .val (.int .i64 a81), .val (.sh .lent 1 (rowE (eI .i64) a82)), .val (.int .i64 a83), .val (.sh .lent 1 (rowE (eI .i64) a84)), .val (.sh .lent 1 (rowE (eI .i64) a85)), .val (.sh .lent 1 (rowE (eI .i64) a86)), .val (.int .i64 a87)]), (200000040, .var false [.val (.int .i64 a88), .val (.int .i64 a89), .val (.sh .lent 1 (rowE (eI .u8) a90))]), (200000050, .var false [.val (.int .i64 a91), .val (.int .i64 a92), .val (.int .i64 a93), .val (.int .i64 a94), .val (.int .i64 a95), .val (.int .i64 a96), .val (.bool a97)])], 74⟩ = (some (impl_heldFault_u2 a72 a73 a74 a75 a76 a77 a78 a79 a80 a81 a82 a83 a84 a85 a86 a87 a88 a89 a90 a91 a92 a93 a94 a95 a96 a97 a98 a99)).bind (fun t => plug ⟨tab.own, lev tab (n + 4), tab.gl⟩ K .normal ⟨[(1, .pt 200000010 0), (8, .val (.sh .lent 3 (rowE (SHeld.cells .lent) a74))), (9, .val (.int .i64 a98)), (10, .val (.int .i64 a99)), (52, .val (.bool t))], [(200000010, .var false [.val (.int .i64 a72), .val (.int .i64 a73), .val (.sh .lent 3 (rowE (SHeld.cells .lent) a74)), .val (.bool a75), .val (.int .i64 a76), .val (.int .i64 a77), .val (.sh .lent 1 (rowE (eI .i64) a78)), .val (.bool a79), .val (.int .i64 a80), .val (.int .i64 a81), .val (.sh .lent 1 (rowE (eI .i64) a82)), .val (.int .i64 a83), .val (.sh .lent 1 (rowE (eI .i64) a84)), .val (.sh .lent 1 (rowE (eI .i64) a85)), .val (.sh .lent 1 (rowE (eI .i64) a86)), .val (.int .i64 a87)])], 74⟩) := by
  unfold c63_u2
  simp +contextual -implicitDefEqProofs (maxSteps := 100000000) only [impl_heldFault_u2, subI, go_sem, ↓ite_not', Nat.reduceEqDiff, Nat.reduceLT, Nat.reduceLeDiff, ↓reduceIte, Nat.reduceAdd, Nat.reduceMul, Nat.reduceSub, Int.reduceEq, Int.reduceLT, Int.reduceLE, Int.reduceToNat, Int.cast_ofNat_Int, Nat.reduceBEq] <;> rfl
@[go_sem] theorem impl_heldFault_s3_ok {β : Type} (n : Nat) (K : List (Kont β)) (a52 : Int) (a53 : Int) (a54 : List SHeld) (a55 : Bool) (a56 : Int) (a57 : Int) (a58 : List Int) (a59 : Bool) (a60 : Int) (a61 : Int) (a62 : List Int) (a63 : Int) (a64 : List Int) (a65 : List Int) (a66 : List Int) (a67 : Int) (a68 : Int) (a69 : Int) : run ⟨tab.own, lev tab (n + 4), tab.gl⟩ K (.loop c63_u3) ⟨[(1, .pt 200000010 0), (8, .val (.sh .lent 3 (rowE (SHeld.cells .lent) a54))), (9, .val (.int .i64 a68)), (10, .val (.int .i64 a69))], [(200000010, .var false [.val (.int .i64 a52), .val (.int .i64 a53), .val (.sh .lent 3 (rowE (SHeld.cells .lent) a54)), .val (.bool a55), .val (.int .i64 a56), .val (.int .i64 a57), .val (.sh .lent 1 (rowE (eI .i64) a58)), .val (.bool a59), .val (.int .i64 a60), .val (.int .i64 a61), .val (.sh .lent 1 (rowE (eI .i64) a62)), .val (.int .i64 a63), .val (.sh .lent 1 (rowE (eI .i64) a64)), .val (.sh .lent 1 (rowE (eI .i64) a65)), .val (.sh .lent 1 (rowE (eI .i64) a66)), .val (.int .i64 a67)])], 74⟩ = (loopO (impl_heldFault_s3 a52 a53 a54 a55 a56 a57 a58 a59 a60 a61 a62 a63 a64 a65 a66 a67 a68) a69).bind (fun t => (Sum.elim (fun t => plug ⟨tab.own, lev tab (n + 4), tab.gl⟩ K (.exit 0) ⟨[(1, .pt 200000010 0)], [(200000010, .var false [.val (.int .i64 a52), .val (.int .i64 a53), .val (.sh .lent 3 (rowE (SHeld.cells .lent) a54)), .val (.bool a55), .val (.int .i64 a56), .val (.int .i64 a57), .val (.sh .lent 1 (rowE (eI .i64) a58)), .val (.bool a59), .val (.int .i64 a60), .val (.int .i64 a61), .val (.sh .lent 1 (rowE (eI .i64) a62)), .val (.int .i64 a63), .val (.sh .lent 1 (rowE (eI .i64) a64)), .val (.sh .lent 1 (rowE (eI .i64) a65)), .val (.sh .lent 1 (rowE (eI .i64) a66)), .val (.int .i64 a67)])], 74⟩) (fun t => plug ⟨tab.own, lev tab (n + 4), tab.gl⟩ K .ret ⟨[(2, .val (.int .i64 t))], [], 74⟩)) t) := by
  refine loop_run (C := ⟨tab.own, lev tab (n + 4), tab.gl⟩) (K := K) (c := c63_u3) (impl_heldFault_s3 a52 a53 a54 a55 a56 a57 a58 a59 a60 a61 a62 a63 a64 a65 a66 a67 a68) (fun s => ⟨[(1, .pt 200000010 0), (8, .val (.sh .lent 3 (rowE (SHeld.cells .lent) a54))), (9, .val (.int .i64 a68)), (10, .val (.int .i64 s))], [(200000010, .var false [.val (.int .i64 a52), .val (.int .i64 a53), .val (.sh .lent 3 (rowE (SHeld.cells .lent) a54)), .val (.bool a55), .val (.int .i64 a56), .val (.int .i64 a57), .val (.sh .lent 1 (rowE (eI .i64) a58)), .val (.bool a59), .val (.int .i64 a60), .val (.int .i64 a61), .val (.sh .lent 1 (rowE (eI .i64) a62)), .val (.int .i64 a63), .val (.sh .lent 1 (rowE (eI .i64) a64)), .val (.sh .lent 1 (rowE (eI .i64) a65)), .val (.sh .lent 1 (rowE (eI .i64) a66)), .val (.int .i64 a67)])], 74⟩) (fun t => (Sum.elim (fun t => plug ⟨tab.own, lev tab (n + 4), tab.gl⟩ K (.exit 0) ⟨[(1, .pt 200000010 0)], [(200000010, .var false [.val (.int .i64 a52), .val (.int .i64 a53), .val (.sh .lent 3 (rowE (SHeld.cells .lent) a54)), .val (.bool a55), .val (.int .i64 a56), .val (.int .i64 a57), .val (.sh .lent 1 (rowE (eI .i64) a58)), .val (.bool a59), .val (.int .i64 a60), .val (.int .i64 a61), .val (.sh .lent 1 (rowE (eI .i64) a62)), .val (.int .i64 a63), .val (.sh .lent 1 (rowE (eI .i64) a64)), .val (.sh .lent 1 (rowE (eI .i64) a65)), .val (.sh .lent 1 (rowE (eI .i64) a66)), .val (.int .i64 a67)])], 74⟩) (fun t => plug ⟨tab.own, lev tab (n + 4), tab.gl⟩ K .ret ⟨[(2, .val (.int .i64 t))], [], 74⟩)) t) (fun k s => ?_) a69
  unfold c63_u3
  simp +contextual -implicitDefEqProofs (maxSteps := 100000000) only [impl_heldFault_s3, subI, go_sem, ↓ite_not', Nat.reduceEqDiff, Nat.reduceLT, Nat.reduceLeDiff, ↓reduceIte, Nat.reduceAdd, Nat.reduceMul, Nat.reduceSub, Int.reduceEq, Int.reduceLT, Int.reduceLE, Int.reduceToNat, Int.cast_ofNat_Int, Nat.reduceBEq] <;> rfl
@[go_sem] theorem impl_heldFault_s4_ok {β : Type} (n : Nat) (K : List (Kont β)) (a122 : Int) (a123 : Int) (a124 : List SHeld) (a125 : Bool) (a126 : Int) (a127 : Int) (a128 : List Int) (a129 : Bool) (a130 : Int) (a131 : Int) (a132 : List Int) (a133 : Int) (a134 : List Int) (a135 : List Int) (a136 : List Int) (a137 : Int) (a138 : Int) : run ⟨tab.own, lev tab (n + 4), tab.gl⟩ K (.loop c63_u4) ⟨[(1, .pt 200000010 0), (6, .val (.int .i64 a138))], [(200000010, .var false [.val (.int .i64 a122), .val (.int .i64 a123), .val (.sh .lent 3 (rowE (SHeld.cells .lent) a124)), .val (.bool a125), .val (.int .i64 a126), .val (.int .i64 a127), .val (.sh .lent 1 (rowE (eI .i64) a128)), .val (.bool a129), .val (.int .i64 a130), .val (.int .i64 a131), .val (.sh .lent 1 (rowE (eI .i64) a132)), .val (.int .i64 a133), .val (.sh .lent 1 (rowE (eI .i64) a134)), .val (.sh .lent 1 (rowE (eI .i64) a135)), .val (.sh .lent 1 (rowE (eI .i64) a136)), .val (.int .i64 a137)])], 74⟩ = (loopO (impl_heldFault_s4 a122 a123 a124 a125 a126 a127 a128 a129 a130 a131 a132 a133 a134 a135 a136 a137) a138).bind (fun t => (Sum.elim (fun t => plug ⟨tab.own, lev tab (n + 4), tab.gl⟩ K (.exit 2) ⟨[], [], 74⟩) (fun t => plug ⟨tab.own, lev tab (n + 4), tab.gl⟩ K .ret ⟨[(2, .val (.int .i64 1))], [], 74⟩)) t) := by
  refine loop_run (C := ⟨tab.own, lev tab (n + 4), tab.gl⟩) (K := K) (c := c63_u4) (impl_heldFault_s4 a122 a123 a124 a125 a126 a127 a128 a129 a130 a131 a132 a133 a134 a135 a136 a137) (fun s => ⟨[(1, .pt 200000010 0), (6, .val (.int .i64 s))], [(200000010, .var false [.val (.int .i64 a122), .val (.int .i64 a123), .val (.sh .lent 3 (rowE (SHeld.cells .lent) a124)), .val (.bool a125), .val (.int .i64 a126), .val (.int .i64 a127), .val (.sh .lent 1 (rowE (eI .i64) a128)), .val (.bool a129), .val (.int .i64 a130), .val (.int .i64 a131), .val (.sh .lent 1 (rowE (eI .i64) a132)), .val (.int .i64 a133), .val (.sh .lent 1 (rowE (eI .i64) a134)), .val (.sh .lent 1 (rowE (eI .i64) a135)), .val (.sh .lent 1 (rowE (eI .i64) a136)), .val (.int .i64 a137)])], 74⟩) (fun t => (Sum.elim (fun t => plug ⟨tab.own, lev tab (n + 4), tab.gl⟩ K (.exit 2) ⟨[], [], 74⟩) (fun t => plug ⟨tab.own, lev tab (n + 4), tab.gl⟩ K .ret ⟨[(2, .val (.int .i64 1))], [], 74⟩)) t) (fun k s => ?_) a138
  unfold c63_u4
  simp +contextual -implicitDefEqProofs (maxSteps := 100000000) only [impl_heldFault_s4, subI, go_sem, ↓ite_not', Nat.reduceEqDiff, Nat.reduceLT, Nat.reduceLeDiff, ↓reduceIte, Nat.reduceAdd, Nat.reduceMul, Nat.reduceSub, Int.reduceEq, Int.reduceLT, Int.reduceLE, Int.reduceToNat, Int.cast_ofNat_Int, Nat.reduceBEq] <;> rfl
@[go_sem] theorem impl_heldFault_ok (n : Nat) (q0_0 : Int) (q0_1 : Int) (q0_2 : List SHeld) (q0_3 : Bool) (q0_4 : Int) (q0_5 : Int) (q0_6 : List Int) (q0_7 : Bool) (q0_8 : Int) (q0_9 : Int) (q0_10 : List Int) (q0_11 : Int) (q0_12 : List Int) (q0_13 : List Int) (q0_14 : List Int) (q0_15 : Int) : lev tab (n + 5) 63 [.agg [.int .i64 q0_0, .int .i64 q0_1, .sh .lent 3 (rowE (SHeld.cells .lent) q0_2), .bool q0_3, .int .i64 q0_4, .int .i64 q0_5, .sh .lent 1 (rowE (eI .i64) q0_6), .bool q0_7, .int .i64 q0_8, .int .i64 q0_9, .sh .lent 1 (rowE (eI .i64) q0_10), .int .i64 q0_11, .sh .lent 1 (rowE (eI .i64) q0_12), .sh .lent 1 (rowE (eI .i64) q0_13), .sh .lent 1 (rowE (eI .i64) q0_14), .int .i64 q0_15]] = (impl_heldFault (SReceiver.mk q0_0 q0_1 q0_2 (SAnchor.mk q0_3 q0_4 q0_5 q0_6) (SAnchor.mk q0_7 q0_8 q0_9 q0_10) (SSynth.mk q0_11 q0_12 q0_13) q0_14 q0_15)).map fun r => (.int .i64 r, [.gone]) := by
  rw [lev_st (vc := c63) (nt := 74) (rs := [(2, none)]) rfl rfl (Nat.le_of_ble_eq_true rfl)]
  unfold c63
  simp +contextual -implicitDefEqProofs (maxSteps := 100000000) only [impl_heldFault, subI, go_sem, ↓ite_not', Nat.reduceEqDiff, Nat.reduceLT, Nat.reduceLeDiff, ↓reduceIte, Nat.reduceAdd, Nat.reduceMul, Nat.reduceSub, Int.reduceEq, Int.reduceLT, Int.reduceLE, Int.reduceToNat, Int.cast_ofNat_Int, Nat.reduceBEq] <;> rfl
-- impl.ReceiverFault
def impl_ReceiverFault_u1 (a1 : Int) (a2 : Int) (a3 : List SHeld) (a4 : Bool) (a5 : Int) (a6 : Int) (a7 : List Int) (a8 : Bool) (a9 : Int) (a10 : Int) (a11 : List Int) (a12 : Int) (a13 : List Int) (a14 : List Int) (a15 : List Int) (a16 : Int) : Option (Int) :=
  if (impl_inRange a2 0 10000) = true then if (decide ((a3.length : Int) > 18)) = true then (impl_allWithin a15 16777216).bind fun r17 =>
      (impl_SynthFault ((SSynth.mk a12 a13 a14))).bind fun r18 =>
      (impl_AnchorFault ((SAnchor.mk a4 a5 a6 a7))).bind fun r19 =>
      (impl_AnchorFault ((SAnchor.mk a8 a9 a10 a11))).bind fun r20 =>
      (impl_first ([(impl_SizeFault a1), (impl_codeIf ((!(impl_inRange a16 0 100))) 3), (impl_codeIf true 2), (impl_codeIf ((!r17)) 3), r18, (impl_codeIf ((a12 != a1)) 1), r19, r20])).bind fun r21 =>
      some r21
    else (impl_allWithin a15 16777216).bind fun r22 =>
      (impl_SynthFault ((SSynth.mk a12 a13 a14))).bind fun r23 =>
      (impl_AnchorFault ((SAnchor.mk a4 a5 a6 a7))).bind fun r24 =>
      (impl_AnchorFault ((SAnchor.mk a8 a9 a10 a11))).bind fun r25 =>
      (impl_first ([(impl_SizeFault a1), (impl_codeIf ((!(impl_inRange a16 0 100))) 3), (impl_codeIf (((a15.length : Int) != a1)) 2), (impl_codeIf ((!r22)) 3), r23, (impl_codeIf ((a12 != a1)) 1), r24, r25])).bind fun r26 =>
      some r26
  else if (decide ((a3.length : Int) > 18)) = true then (impl_allWithin a15 16777216).bind fun r27 =>
      (impl_SynthFault ((SSynth.mk a12 a13 a14))).bind fun r28 =>
      (impl_AnchorFault ((SAnchor.mk a4 a5 a6 a7))).bind fun r29 =>
      (impl_AnchorFault ((SAnchor.mk a8 a9 a10 a11))).bind fun r30 =>
      (impl_first ([(impl_SizeFault a1), (impl_codeIf true 3), (impl_codeIf true 2), (impl_codeIf ((!r27)) 3), r28, (impl_codeIf ((a12 != a1)) 1), r29, r30])).bind fun r31 =>
      some r31
    else (impl_allWithin a15 16777216).bind fun r32 =>
      (impl_SynthFault ((SSynth.mk a12 a13 a14))).bind fun r33 =>
      (impl_AnchorFault ((SAnchor.mk a4 a5 a6 a7))).bind fun r34 =>
      (impl_AnchorFault ((SAnchor.mk a8 a9 a10 a11))).bind fun r35 =>
      (impl_first ([(impl_SizeFault a1), (impl_codeIf true 3), (impl_codeIf (((a15.length : Int) != a1)) 2), (impl_codeIf ((!r32)) 3), r33, (impl_codeIf ((a12 != a1)) 1), r34, r35])).bind fun r36 =>
      some r36
def impl_ReceiverFault (p0 : SReceiver) : Option (Int) :=
  (impl_ReceiverFault_u1 p0.Size p0.Next p0.Held p0.A.Known p0.A.Number p0.A.Rung p0.A.Gains p0.B.Known p0.B.Number p0.B.Rung p0.B.Gains p0.Synth.Size p0.Synth.Head p0.Synth.Tail p0.Last p0.Lost).bind fun y37 =>
  if (y37 != 0) = true then some y37
  else (impl_heldFault p0).bind fun r38 =>
    some r38
@[go_sem] theorem impl_ReceiverFault_u1_ok {β : Type} (n : Nat) (K : List (Kont β)) (a1 : Int) (a2 : Int) (a3 : List SHeld) (a4 : Bool) (a5 : Int) (a6 : Int) (a7 : List Int) (a8 : Bool) (a9 : Int) (a10 : Int) (a11 : List Int) (a12 : Int) (a13 : List Int) (a14 : List Int) (a15 : List Int) (a16 : Int) : run ⟨tab.own, lev tab (n + 7), tab.gl⟩ K c26_u1 ⟨[(1, .pt 200000010 0)], [(200000010, .var false [.val (.int .i64 a1), .val (.int .i64 a2), .val (.sh .lent 3 (rowE (SHeld.cells .lent) a3)), .val (.bool a4), .val (.int .i64 a5), .val (.int .i64 a6), .val (.sh .lent 1 (rowE (eI .i64) a7)), .val (.bool a8), .val (.int .i64 a9), .val (.int .i64 a10), .val (.sh .lent 1 (rowE (eI .i64) a11)), .val (.int .i64 a12), .val (.sh .lent 1 (rowE (eI .i64) a13)), .val (.sh .lent 1 (rowE (eI .i64) a14)), .val (.sh .lent 1 (rowE (eI .i64) a15)), .val (.int .i64 a16)])], 59⟩ = (impl_ReceiverFault_u1 a1 a2 a3 a4 a5 a6 a7 a8 a9 a10 a11 a12 a13 a14 a15 a16).bind (fun t => plug ⟨tab.own, lev tab (n + 7), tab.gl⟩ K .normal ⟨[(1, .pt 200000010 0), (3, .val (.int .i64 t))], [(200000010, .var false [.val (.int .i64 a1), .val (.int .i64 a2), .val (.sh .lent 3 (rowE (SHeld.cells .lent) a3)), .val (.bool a4), .val (.int .i64 a5), .val (.int .i64 a6), .val (.sh .lent 1 (rowE (eI .i64) a7)), .val (.bool a8), .val (.int .i64 a9), .val (.int .i64 a10), .val (.sh .lent 1 (rowE (eI .i64) a11)), .val (.int .i64 a12), .val (.sh .lent 1 (rowE (eI .i64) a13)), .val (.sh .lent 1 (rowE (eI .i64) a14)), .val (.sh .lent 1 (rowE (eI .i64) a15)), .val (.int .i64 a16)])], 59⟩) := by
  unfold c26_u1
  simp +contextual -implicitDefEqProofs (maxSteps := 100000000) only [impl_ReceiverFault_u1, subI, go_sem, ↓ite_not', Nat.reduceEqDiff, Nat.reduceLT, Nat.reduceLeDiff, ↓reduceIte, Nat.reduceAdd, Nat.reduceMul, Nat.reduceSub, Int.reduceEq, Int.reduceLT, Int.reduceLE, Int.reduceToNat, Int.cast_ofNat_Int, Nat.reduceBEq] <;> rfl
@[go_sem] theorem impl_ReceiverFault_ok (n : Nat) (q0_0 : Int) (q0_1 : Int) (q0_2 : List SHeld) (q0_3 : Bool) (q0_4 : Int) (q0_5 : Int) (q0_6 : List Int) (q0_7 : Bool) (q0_8 : Int) (q0_9 : Int) (q0_10 : List Int) (q0_11 : Int) (q0_12 : List Int) (q0_13 : List Int) (q0_14 : List Int) (q0_15 : Int) : lev tab (n + 8) 26 [.agg [.int .i64 q0_0, .int .i64 q0_1, .sh .lent 3 (rowE (SHeld.cells .lent) q0_2), .bool q0_3, .int .i64 q0_4, .int .i64 q0_5, .sh .lent 1 (rowE (eI .i64) q0_6), .bool q0_7, .int .i64 q0_8, .int .i64 q0_9, .sh .lent 1 (rowE (eI .i64) q0_10), .int .i64 q0_11, .sh .lent 1 (rowE (eI .i64) q0_12), .sh .lent 1 (rowE (eI .i64) q0_13), .sh .lent 1 (rowE (eI .i64) q0_14), .int .i64 q0_15]] = (impl_ReceiverFault (SReceiver.mk q0_0 q0_1 q0_2 (SAnchor.mk q0_3 q0_4 q0_5 q0_6) (SAnchor.mk q0_7 q0_8 q0_9 q0_10) (SSynth.mk q0_11 q0_12 q0_13) q0_14 q0_15)).map fun r => (.int .i64 r, [.gone]) := by
  rw [lev_st (vc := c26) (nt := 59) (rs := [(2, none)]) rfl rfl (Nat.le_of_ble_eq_true rfl)]
  unfold c26
  simp +contextual -implicitDefEqProofs (maxSteps := 100000000) only [impl_ReceiverFault, subI, go_sem, ↓ite_not', Nat.reduceEqDiff, Nat.reduceLT, Nat.reduceLeDiff, ↓reduceIte, Nat.reduceAdd, Nat.reduceMul, Nat.reduceSub, Int.reduceEq, Int.reduceLT, Int.reduceLE, Int.reduceToNat, Int.cast_ofNat_Int, Nat.reduceBEq] <;> rfl
-- impl.isGot
def impl_isGot (p0 : Int) : Bool :=
  (impl_inRange p0 0 3)
@[go_sem] theorem impl_isGot_ok (n : Nat) (q0_0 : Int) : lev tab (n + 2) 66 [.int .i64 q0_0] = (some (impl_isGot q0_0)).map fun r => (.bool r, [.gone]) := by
  rw [lev_st (vc := c66) (nt := 5) (rs := [(2, none)]) rfl rfl (Nat.le_of_ble_eq_true rfl)]
  unfold c66
  simp +contextual -implicitDefEqProofs (maxSteps := 100000000) only [impl_isGot, subI, go_sem, ↓ite_not', Nat.reduceEqDiff, Nat.reduceLT, Nat.reduceLeDiff, ↓reduceIte, Nat.reduceAdd, Nat.reduceMul, Nat.reduceSub, Int.reduceEq, Int.reduceLT, Int.reduceLE, Int.reduceToNat, Int.cast_ofNat_Int, Nat.reduceBEq] <;> rfl
-- impl.SchedulerFault$1
def impl_SchedulerFault_1 (p0 : Int) : Bool :=
  (!(impl_isGot p0))
@[go_sem] theorem impl_SchedulerFault_1_ok (n : Nat) (q0_0 : Int) : lev tab (n + 3) 65 [.int .i64 q0_0] = (some (impl_SchedulerFault_1 q0_0)).map fun r => (.bool r, [.gone]) := by
  rw [lev_st (vc := c65) (nt := 6) (rs := [(2, none)]) rfl rfl (Nat.le_of_ble_eq_true rfl)]
  unfold c65
  simp +contextual -implicitDefEqProofs (maxSteps := 100000000) only [impl_SchedulerFault_1, subI, go_sem, ↓ite_not', Nat.reduceEqDiff, Nat.reduceLT, Nat.reduceLeDiff, ↓reduceIte, Nat.reduceAdd, Nat.reduceMul, Nat.reduceSub, Int.reduceEq, Int.reduceLT, Int.reduceLE, Int.reduceToNat, Int.cast_ofNat_Int, Nat.reduceBEq] <;> rfl
-- slices.IndexFunc[[]int64,int64]
def slices_IndexFunc_int64_impl_SchedulerFault_1_s1 (a5 : List Int) (a6 : Int) : Int → Option ((Int) ⊕ (Unit ⊕ Int)) := fun a7 =>
  if (decide (a7 < a6)) = true then (getI a5 a7).bind fun x8 =>
    if (impl_SchedulerFault_1 x8) = true then some ((.inr ((.inr a7))))
    else some ((.inl ((IntKind.i64.wrap (a7 + 1)))))
  else some ((.inr ((.inl (())))))
def slices_IndexFunc_int64_impl_SchedulerFault_1 (p0 : List Int) : Option (Int) :=
  (loopO (slices_IndexFunc_int64_impl_SchedulerFault_1_s1 p0 ((p0.length : Int))) 0).bind fun t => (Sum.elim (fun y9 => some ((-1)))
   (fun y10 => some y10)) t
@[go_sem] theorem slices_IndexFunc_int64_impl_SchedulerFault_1_s1_ok {β : Type} (n : Nat) (K : List (Kont β)) (a5 : List Int) (a6 : Int) (a7 : Int) : run ⟨tab.own, lev tab (n + 3), tab.gl⟩ K (.loop c92_u1) ⟨[(0, .val (.sh .lent 1 (rowE (eI .i64) a5))), (1, .val (.fn 65 [])), (7, .val (.int .i64 a6)), (8, .val (.int .i64 a7))], [], 19⟩ = (loopO (slices_IndexFunc_int64_impl_SchedulerFault_1_s1 a5 a6) a7).bind (fun t => (Sum.elim (fun t => plug ⟨tab.own, lev tab (n + 3), tab.gl⟩ K (.exit 0) ⟨[], [], 19⟩) (fun t => plug ⟨tab.own, lev tab (n + 3), tab.gl⟩ K .ret ⟨[(4, .val (.int .i64 t))], [], 19⟩)) t) := by
  refine loop_run (C := ⟨tab.own, lev tab (n + 3), tab.gl⟩) (K := K) (c := c92_u1) (slices_IndexFunc_int64_impl_SchedulerFault_1_s1 a5 a6) (fun s => ⟨[(0, .val (.sh .lent 1 (rowE (eI .i64) a5))), (1, .val (.fn 65 [])), (7, .val (.int .i64 a6)), (8, .val (.int .i64 s))], [], 19⟩) (fun t => (Sum.elim (fun t => plug ⟨tab.own, lev tab (n + 3), tab.gl⟩ K (.exit 0) ⟨[], [], 19⟩) (fun t => plug ⟨tab.own, lev tab (n + 3), tab.gl⟩ K .ret ⟨[(4, .val (.int .i64 t))], [], 19⟩)) t) (fun k s => ?_) a7
  unfold c92_u1
  simp +contextual -implicitDefEqProofs (maxSteps := 100000000) only [slices_IndexFunc_int64_impl_SchedulerFault_1_s1, subI, go_sem, ↓ite_not', Nat.reduceEqDiff, Nat.reduceLT, Nat.reduceLeDiff, ↓reduceIte, Nat.reduceAdd, Nat.reduceMul, Nat.reduceSub, Int.reduceEq, Int.reduceLT, Int.reduceLE, Int.reduceToNat, Int.cast_ofNat_Int, Nat.reduceBEq] <;> rfl
@[go_sem] theorem slices_IndexFunc_int64_impl_SchedulerFault_1_ok (n : Nat) (q0_0 : List Int) : lev tab (n + 4) 92 [.sh .lent 1 (rowE (eI .i64) q0_0), .fn 65 []] = (slices_IndexFunc_int64_impl_SchedulerFault_1 q0_0).map fun r => (.int .i64 r, [.gone, .gone]) := by
  rw [lev_st (vc := c92) (nt := 19) (rs := [(4, none)]) rfl rfl (Nat.le_of_ble_eq_true rfl)]
  unfold c92
  simp +contextual -implicitDefEqProofs (maxSteps := 100000000) only [slices_IndexFunc_int64_impl_SchedulerFault_1, subI, go_sem, ↓ite_not', Nat.reduceEqDiff, Nat.reduceLT, Nat.reduceLeDiff, ↓reduceIte, Nat.reduceAdd, Nat.reduceMul, Nat.reduceSub, Int.reduceEq, Int.reduceLT, Int.reduceLE, Int.reduceToNat, Int.cast_ofNat_Int, Nat.reduceBEq] <;> rfl
-- slices.ContainsFunc[[]int64,int64]
def slices_ContainsFunc_int64_impl_SchedulerFault_1 (p0 : List Int) : Option (Bool) :=
  (slices_IndexFunc_int64_impl_SchedulerFault_1 p0).bind fun r1 =>
  some ((decide (r1 ≥ 0)))
@[go_sem] theorem slices_ContainsFunc_int64_impl_SchedulerFault_1_ok (n : Nat) (q0_0 : List Int) : lev tab (n + 5) 64 [.sh .lent 1 (rowE (eI .i64) q0_0), .fn 65 []] = (slices_ContainsFunc_int64_impl_SchedulerFault_1 q0_0).map fun r => (.bool r, [.gone, .gone]) := by
  rw [lev_st (vc := c64) (nt := 9) (rs := [(4, none)]) rfl rfl (Nat.le_of_ble_eq_true rfl)]
  unfold c64
  simp +contextual -implicitDefEqProofs (maxSteps := 100000000) only [slices_ContainsFunc_int64_impl_SchedulerFault_1, subI, go_sem, ↓ite_not', Nat.reduceEqDiff, Nat.reduceLT, Nat.reduceLeDiff, ↓reduceIte, Nat.reduceAdd, Nat.reduceMul, Nat.reduceSub, Int.reduceEq, Int.reduceLT, Int.reduceLE, Int.reduceToNat, Int.cast_ofNat_Int, Nat.reduceBEq] <;> rfl
-- impl.SchedulerFault
def impl_SchedulerFault (p0 : SScheduler) : Option (Int) :=
  (slices_ContainsFunc_int64_impl_SchedulerFault_1 p0.Window).bind fun r1 =>
  (impl_first ([(impl_codeIf ((!(impl_inRange p0.Last ((-1)) 9999))) 3), (impl_codeIf ((decide ((p0.Window.length : Int) > 6))) 2), (impl_codeIf r1 3), (impl_codeIf ((!((p0.Last == (-1)) == ((p0.Window.length : Int) == 0)))) 8)])).bind fun r2 =>
  some r2
@[go_sem] theorem impl_SchedulerFault_ok (n : Nat) (q0_0 : Int) (q0_1 : List Int) : lev tab (n + 6) 27 [.agg [.int .i64 q0_0, .sh .lent 1 (rowE (eI .i64) q0_1)]] = (impl_SchedulerFault (SScheduler.mk q0_0 q0_1)).map fun r => (.int .i64 r, [.gone]) := by
  rw [lev_st (vc := c27) (nt := 30) (rs := [(2, none)]) rfl rfl (Nat.le_of_ble_eq_true rfl)]
  unfold c27
  simp +contextual -implicitDefEqProofs (maxSteps := 100000000) only [impl_SchedulerFault, subI, go_sem, ↓ite_not', Nat.reduceEqDiff, Nat.reduceLT, Nat.reduceLeDiff, ↓reduceIte, Nat.reduceAdd, Nat.reduceMul, Nat.reduceSub, Int.reduceEq, Int.reduceLT, Int.reduceLE, Int.reduceToNat, Int.cast_ofNat_Int, Nat.reduceBEq] <;> rfl
-- impl.ReportFault
def impl_ReportFault_u1 (a1 : Int) (a2 : Int) : Int :=
  if (impl_isNumber a1) = true then (impl_codeIf ((!(impl_isGot a2))) 3)
  else (impl_codeIf true 3)
def impl_ReportFault (p0 : SReport) : Int :=
  let y3 := impl_ReportFault_u1 p0.Number p0.Got
  y3
@[go_sem] theorem impl_ReportFault_u1_ok {β : Type} (n : Nat) (K : List (Kont β)) (a1 : Int) (a2 : Int) : run ⟨tab.own, lev tab (n + 2), tab.gl⟩ K c67_u1 ⟨[(1, .pt 200000010 0)], [(200000010, .var false [.val (.int .i64 a1), .val (.int .i64 a2)])], 14⟩ = (some (impl_ReportFault_u1 a1 a2)).bind (fun t => plug ⟨tab.own, lev tab (n + 2), tab.gl⟩ K .normal ⟨[(2, .val (.int .i64 t))], [], 14⟩) := by
  unfold c67_u1
  simp +contextual -implicitDefEqProofs (maxSteps := 100000000) only [impl_ReportFault_u1, subI, go_sem, ↓ite_not', Nat.reduceEqDiff, Nat.reduceLT, Nat.reduceLeDiff, ↓reduceIte, Nat.reduceAdd, Nat.reduceMul, Nat.reduceSub, Int.reduceEq, Int.reduceLT, Int.reduceLE, Int.reduceToNat, Int.cast_ofNat_Int, Nat.reduceBEq] <;> rfl
@[go_sem] theorem impl_ReportFault_ok (n : Nat) (q0_0 : Int) (q0_1 : Int) : lev tab (n + 3) 67 [.agg [.int .i64 q0_0, .int .i64 q0_1]] = (some (impl_ReportFault (SReport.mk q0_0 q0_1))).map fun r => (.int .i64 r, [.gone]) := by
  rw [lev_st (vc := c67) (nt := 14) (rs := [(2, none)]) rfl rfl (Nat.le_of_ble_eq_true rfl)]
  unfold c67
  simp +contextual -implicitDefEqProofs (maxSteps := 100000000) only [impl_ReportFault, subI, go_sem, ↓ite_not', Nat.reduceEqDiff, Nat.reduceLT, Nat.reduceLeDiff, ↓reduceIte, Nat.reduceAdd, Nat.reduceMul, Nat.reduceSub, Int.reduceEq, Int.reduceLT, Int.reduceLE, Int.reduceToNat, Int.cast_ofNat_Int, Nat.reduceBEq] <;> rfl
-- impl.airFault
def impl_airFault_s1 (a45 : Int) (a46 : Int) (a47 : Int) (a48 : Int) (a49 : Int) (a50 : List Int) (a51 : List Int) (a52 : Bool) (a53 : Int) (a54 : Int) (a55 : List Int) (a56 : Bool) (a57 : Int) (a58 : Int) (a59 : List Int) (a60 : Int) (a61 : Int) (a62 : Int) (a63 : Int) (a64 : List SHeld) (a65 : Bool) (a66 : Int) (a67 : Int) (a68 : List Int) (a69 : Bool) (a70 : Int) (a71 : Int) (a72 : List Int) (a73 : Int) (a74 : List Int) (a75 : List Int) (a76 : List Int) (a77 : Int) (a78 : Int) (a79 : List Int) (a80 : Int) (a81 : Int) (a82 : List SFlight) (a83 : List SNote) (a84 : Int) : Int → Option ((Int) ⊕ (Unit ⊕ Int)) := fun a85 =>
  if (decide (a85 < a84)) = true then (getI a82 a85).bind fun x86 =>
    (impl_first ([(impl_codeIf ((!(impl_inRange x86.Due 0 20010))) 3), (impl_codeIf ((decide ((x86.Data.length : Int) > 160))) 2)])).bind fun r87 =>
    if (r87 != 0) = true then some ((.inr ((.inr r87))))
    else some ((.inl ((IntKind.i64.wrap (a85 + 1)))))
  else some ((.inr ((.inl (())))))
def impl_airFault_s2 (a94 : List SNote) (a95 : Int) : Int → Option ((Int) ⊕ (Unit ⊕ Int)) := fun a96 =>
  if (decide (a96 < a95)) = true then (getI a94 a96).bind fun x97 =>
    (impl_first ([(impl_codeIf ((!(impl_inRange x97.Due 0 20010))) 3), (impl_ReportFault x97.Report)])).bind fun r98 =>
    if (r98 != 0) = true then some ((.inr ((.inr r98))))
    else some ((.inl ((IntKind.i64.wrap (a96 + 1)))))
  else some ((.inr ((.inl (())))))
def impl_airFault (p0 : SSession) : Option (Int) :=
  (loopO (impl_airFault_s1 p0.Sender.Size p0.Sender.Budget p0.Sender.Refresh p0.Sender.Number p0.Sender.Lap.Size p0.Sender.Lap.Half p0.Sender.Lap.Rest p0.Sender.A.Known p0.Sender.A.Number p0.Sender.A.Rung p0.Sender.A.Gains p0.Sender.B.Known p0.Sender.B.Number p0.Sender.B.Rung p0.Sender.B.Gains p0.Sender.SinceA p0.Sender.SinceB p0.Receiver.Size p0.Receiver.Next p0.Receiver.Held p0.Receiver.A.Known p0.Receiver.A.Number p0.Receiver.A.Rung p0.Receiver.A.Gains p0.Receiver.B.Known p0.Receiver.B.Number p0.Receiver.B.Rung p0.Receiver.B.Gains p0.Receiver.Synth.Size p0.Receiver.Synth.Head p0.Receiver.Synth.Tail p0.Receiver.Last p0.Receiver.Lost p0.Scheduler.Last p0.Scheduler.Window p0.Tick p0.Wait p0.Flights p0.Notes ((p0.Flights.length : Int))) 0).bind fun t => (Sum.elim (fun y88 => (loopO (impl_airFault_s2 p0.Notes ((p0.Notes.length : Int))) 0).bind fun t => (Sum.elim (fun y99 => some 0)
     (fun y100 => some y100)) t)
   (fun y101 => some y101)) t
@[go_sem] theorem impl_airFault_s1_ok {β : Type} (n : Nat) (K : List (Kont β)) (a45 : Int) (a46 : Int) (a47 : Int) (a48 : Int) (a49 : Int) (a50 : List Int) (a51 : List Int) (a52 : Bool) (a53 : Int) (a54 : Int) (a55 : List Int) (a56 : Bool) (a57 : Int) (a58 : Int) (a59 : List Int) (a60 : Int) (a61 : Int) (a62 : Int) (a63 : Int) (a64 : List SHeld) (a65 : Bool) (a66 : Int) (a67 : Int) (a68 : List Int) (a69 : Bool) (a70 : Int) (a71 : Int) (a72 : List Int) (a73 : Int) (a74 : List Int) (a75 : List Int) (a76 : List Int) (a77 : Int) (a78 : Int) (a79 : List Int) (a80 : Int) (a81 : Int) (a82 : List SFlight) (a83 : List SNote) (a84 : Int) (a85 : Int) : run ⟨tab.own, lev tab (n + 3), tab.gl⟩ K (.loop c30_u1) ⟨[(1, .pt 200000010 0), (10, .val (.sh .lent 2 (rowE (SFlight.cells .lent) a82))), (11, .val (.int .i64 a84)), (12, .val (.int .i64 a85))], [(200000010, .var false [.val (.int .i64 a45), .val (.int .i64 a46), .val (.int .i64 a47), .val (.int .i64 a48), .val (.int .i64 a49), .val (.sh .lent 1 (rowE (eI .i64) a50)), .val (.sh .lent 1 (rowE (eI .i64) a51)), .val (.bool a52), .val (.int .i64 a53), .val (.int .i64 a54), .val (.sh .lent 1 (rowE (eI .i64) a55)), .val (.bool a56), .val (.int .i64 a57), .val (.int .i64 a58), .val (.sh .lent 1 (rowE (eI .i64) a59)), .val (.int .i64 a60), .val (.int .i64 a61), .val (.int .i64 a62), .val (.int .i64 a63), .val (.sh .lent 3 (rowE (SHeld.cells .lent) a64)), .val (.bool a65), .val (.int .i64 a66), .val (.int .i64 a67), .val (.sh .lent 1 (rowE (eI .i64) a68)), .val (.bool a69), .val (.int .i64 a70), .val (.int .i64 a71), .val (.sh .lent 1 (rowE (eI .i64) a72)), .val (.int .i64 a73), .val (.sh .lent 1 (rowE (eI .i64) a74)), .val (.sh .lent 1 (rowE (eI .i64) a75)), .val (.sh .lent 1 (rowE (eI .i64) a76)), .val (.int .i64 a77), .val (.int .i64 a78), .val (.sh .lent 1 (rowE (eI .i64) a79)), .val (.int .i64 a80), .val (.int .i64 a81), .val (.sh .lent 2 (rowE (SFlight.cells .lent) a82)), .val (.sh .lent 3 (rowE (SNote.cells .lent) a83))])], 53⟩ = (loopO (impl_airFault_s1 a45 a46 a47 a48 a49 a50 a51 a52 a53 a54 a55 a56 a57 a58 a59 a60 a61 a62 a63 a64 a65 a66 a67 a68 a69 a70 a71 a72 a73 a74 a75 a76 a77 a78 a79 a80 a81 a82 a83 a84) a85).bind (fun t => (Sum.elim (fun t => plug ⟨tab.own, lev tab (n + 3), tab.gl⟩ K (.exit 0) ⟨[(1, .pt 200000010 0)], [(200000010, .var false [.val (.int .i64 a45), .val (.int .i64 a46), .val (.int .i64 a47), .val (.int .i64 a48), .val (.int .i64 a49), .val (.sh .lent 1 (rowE (eI .i64) a50)), .val (.sh .lent 1 (rowE (eI .i64) a51)), .val (.bool a52), .val (.int .i64 a53), .val (.int .i64 a54), .val (.sh .lent 1 (rowE (eI .i64) a55)), .val (.bool a56), .val (.int .i64 a57), .val (.int .i64 a58), .val (.sh .lent 1 (rowE (eI .i64) a59)), .val (.int .i64 a60), .val (.int .i64 a61), .val (.int .i64 a62), .val (.int .i64 a63), .val (.sh .lent 3 (rowE (SHeld.cells .lent) a64)), .val (.bool a65), .val (.int .i64 a66), .val (.int .i64 a67), .val (.sh .lent 1 (rowE (eI .i64) a68)), .val (.bool a69), .val (.int .i64 a70), .val (.int .i64 a71), .val (.sh .lent 1 (rowE (eI .i64) a72)), .val (.int .i64 a73), .val (.sh .lent 1 (rowE (eI .i64) a74)), .val (.sh .lent 1 (rowE (eI .i64) a75)), .val (.sh .lent 1 (rowE (eI .i64) a76)), .val (.int .i64 a77), .val (.int .i64 a78), .val (.sh .lent 1 (rowE (eI .i64) a79)), .val (.int .i64 a80), .val (.int .i64 a81), .val (.sh .lent 2 (rowE (SFlight.cells .lent) a82)), .val (.sh .lent 3 (rowE (SNote.cells .lent) a83))])], 53⟩) (fun t => plug ⟨tab.own, lev tab (n + 3), tab.gl⟩ K .ret ⟨[(2, .val (.int .i64 t))], [], 53⟩)) t) := by
  refine loop_run (C := ⟨tab.own, lev tab (n + 3), tab.gl⟩) (K := K) (c := c30_u1) (impl_airFault_s1 a45 a46 a47 a48 a49 a50 a51 a52 a53 a54 a55 a56 a57 a58 a59 a60 a61 a62 a63 a64 a65 a66 a67 a68 a69 a70 a71 a72 a73 a74 a75 a76 a77 a78 a79 a80 a81 a82 a83 a84) (fun s => ⟨[(1, .pt 200000010 0), (10, .val (.sh .lent 2 (rowE (SFlight.cells .lent) a82))), (11, .val (.int .i64 a84)), (12, .val (.int .i64 s))], [(200000010, .var false [.val (.int .i64 a45), .val (.int .i64 a46), .val (.int .i64 a47), .val (.int .i64 a48), .val (.int .i64 a49), .val (.sh .lent 1 (rowE (eI .i64) a50)), .val (.sh .lent 1 (rowE (eI .i64) a51)), .val (.bool a52), .val (.int .i64 a53), .val (.int .i64 a54), .val (.sh .lent 1 (rowE (eI .i64) a55)), .val (.bool a56), .val (.int .i64 a57), .val (.int .i64 a58), .val (.sh .lent 1 (rowE (eI .i64) a59)), .val (.int .i64 a60), .val (.int .i64 a61), .val (.int .i64 a62), .val (.int .i64 a63), .val (.sh .lent 3 (rowE (SHeld.cells .lent) a64)), .val (.bool a65), .val (.int .i64 a66), .val (.int .i64 a67), .val (.sh .lent 1 (rowE (eI .i64) a68)), .val (.bool a69), .val (.int .i64 a70), .val (.int .i64 a71), .val (.sh .lent 1 (rowE (eI .i64) a72)), .val (.int .i64 a73), .val (.sh .lent 1 (rowE (eI .i64) a74)), .val (.sh .lent 1 (rowE (eI .i64) a75)), .val (.sh .lent 1 (rowE (eI .i64) a76)), .val (.int .i64 a77), .val (.int .i64 a78), .val (.sh .lent 1 (rowE (eI .i64) a79)), .val (.int .i64 a80), .val (.int .i64 a81), .val (.sh .lent 2 (rowE (SFlight.cells .lent) a82)), .val (.sh .lent 3 (rowE (SNote.cells .lent) a83))])], 53⟩) (fun t => (Sum.elim (fun t => plug ⟨tab.own, lev tab (n + 3), tab.gl⟩ K (.exit 0) ⟨[(1, .pt 200000010 0)], [(200000010, .var false [.val (.int .i64 a45), .val (.int .i64 a46), .val (.int .i64 a47), .val (.int .i64 a48), .val (.int .i64 a49), .val (.sh .lent 1 (rowE (eI .i64) a50)), .val (.sh .lent 1 (rowE (eI .i64) a51)), .val (.bool a52), .val (.int .i64 a53), .val (.int .i64 a54), .val (.sh .lent 1 (rowE (eI .i64) a55)), .val (.bool a56), .val (.int .i64 a57), .val (.int .i64 a58), .val (.sh .lent 1 (rowE (eI .i64) a59)), .val (.int .i64 a60), .val (.int .i64 a61), .val (.int .i64 a62), .val (.int .i64 a63), .val (.sh .lent 3 (rowE (SHeld.cells .lent) a64)), .val (.bool a65), .val (.int .i64 a66), .val (.int .i64 a67), .val (.sh .lent 1 (rowE (eI .i64) a68)), .val (.bool a69), .val (.int .i64 a70), .val (.int .i64 a71), .val (.sh .lent 1 (rowE (eI .i64) a72)), .val (.int .i64 a73), .val (.sh .lent 1 (rowE (eI .i64) a74)), .val (.sh .lent 1 (rowE (eI .i64) a75)), .val (.sh .lent 1 (rowE (eI .i64) a76)), .val (.int .i64 a77), .val (.int .i64 a78), .val (.sh .lent 1 (rowE (eI .i64) a79)), .val (.int .i64 a80), .val (.int .i64 a81), .val (.sh .lent 2 (rowE (SFlight.cells .lent) a82)), .val (.sh .lent 3 (rowE (SNote.cells .lent) a83))])], 53⟩) (fun t => plug ⟨tab.own, lev tab (n + 3), tab.gl⟩ K .ret ⟨[(2, .val (.int .i64 t))], [], 53⟩)) t) (fun k s => ?_) a85
  unfold c30_u1
  simp +contextual -implicitDefEqProofs (maxSteps := 100000000) only [impl_airFault_s1, subI, go_sem, ↓ite_not', Nat.reduceEqDiff, Nat.reduceLT, Nat.reduceLeDiff, ↓reduceIte, Nat.reduceAdd, Nat.reduceMul, Nat.reduceSub, Int.reduceEq, Int.reduceLT, Int.reduceLE, Int.reduceToNat, Int.cast_ofNat_Int, Nat.reduceBEq] <;> rfl
@[go_sem] theorem impl_airFault_s2_ok {β : Type} (n : Nat) (K : List (Kont β)) (a94 : List SNote) (a95 : Int) (a96 : Int) : run ⟨tab.own, lev tab (n + 3), tab.gl⟩ K (.loop c30_u2) ⟨[(33, .val (.sh .lent 3 (rowE (SNote.cells .lent) a94))), (34, .val (.int .i64 a95)), (35, .val (.int .i64 a96))], [], 53⟩ = (loopO (impl_airFault_s2 a94 a95) a96).bind (fun t => (Sum.elim (fun t => plug ⟨tab.own, lev tab (n + 3), tab.gl⟩ K (.exit 2) ⟨[], [], 53⟩) (fun t => plug ⟨tab.own, lev tab (n + 3), tab.gl⟩ K .ret ⟨[(2, .val (.int .i64 t))], [], 53⟩)) t) := by
  refine loop_run (C := ⟨tab.own, lev tab (n + 3), tab.gl⟩) (K := K) (c := c30_u2) (impl_airFault_s2 a94 a95) (fun s => ⟨[(33, .val (.sh .lent 3 (rowE (SNote.cells .lent) a94))), (34, .val (.int .i64 a95)), (35, .val (.int .i64 s))], [], 53⟩) (fun t => (Sum.elim (fun t => plug ⟨tab.own, lev tab (n + 3), tab.gl⟩ K (.exit 2) ⟨[], [], 53⟩) (fun t => plug ⟨tab.own, lev tab (n + 3), tab.gl⟩ K .ret ⟨[(2, .val (.int .i64 t))], [], 53⟩)) t) (fun k s => ?_) a96
  unfold c30_u2
  simp +contextual -implicitDefEqProofs (maxSteps := 100000000) only [impl_airFault_s2, subI, go_sem, ↓ite_not', Nat.reduceEqDiff, Nat.reduceLT, Nat.reduceLeDiff, ↓reduceIte, Nat.reduceAdd, Nat.reduceMul, Nat.reduceSub, Int.reduceEq, Int.reduceLT, Int.reduceLE, Int.reduceToNat, Int.cast_ofNat_Int, Nat.reduceBEq] <;> rfl
@[go_sem] theorem impl_airFault_ok (n : Nat) (q0_0 : Int) (q0_1 : Int) (q0_2 : Int) (q0_3 : Int) (q0_4 : Int) (q0_5 : List Int) (q0_6 : List Int) (q0_7 : Bool) (q0_8 : Int) (q0_9 : Int) (q0_10 : List Int) (q0_11 : Bool) (q0_12 : Int) (q0_13 : Int) (q0_14 : List Int) (q0_15 : Int) (q0_16 : Int) (q0_17 : Int) (q0_18 : Int) (q0_19 : List SHeld) (q0_20 : Bool) (q0_21 : Int) (q0_22 : Int) (q0_23 : List Int) (q0_24 : Bool) (q0_25 : Int) (q0_26 : Int) (q0_27 : List Int) (q0_28 : Int) (q0_29 : List Int) (q0_30 : List Int) (q0_31 : List Int) (q0_32 : Int) (q0_33 : Int) (q0_34 : List Int) (q0_35 : Int) (q0_36 : Int) (q0_37 : List SFlight) (q0_38 : List SNote) : lev tab (n + 4) 30 [.agg [.int .i64 q0_0, .int .i64 q0_1, .int .i64 q0_2, .int .i64 q0_3, .int .i64 q0_4, .sh .lent 1 (rowE (eI .i64) q0_5), .sh .lent 1 (rowE (eI .i64) q0_6), .bool q0_7, .int .i64 q0_8, .int .i64 q0_9, .sh .lent 1 (rowE (eI .i64) q0_10), .bool q0_11, .int .i64 q0_12, .int .i64 q0_13, .sh .lent 1 (rowE (eI .i64) q0_14), .int .i64 q0_15, .int .i64 q0_16, .int .i64 q0_17, .int .i64 q0_18, .sh .lent 3 (rowE (SHeld.cells .lent) q0_19), .bool q0_20, .int .i64 q0_21, .int .i64 q0_22, .sh .lent 1 (rowE (eI .i64) q0_23), .bool q0_24, .int .i64 q0_25, .int .i64 q0_26, .sh .lent 1 (rowE (eI .i64) q0_27), .int .i64 q0_28, .sh .lent 1 (rowE (eI .i64) q0_29), .sh .lent 1 (rowE (eI .i64) q0_30), .sh .lent 1 (rowE (eI .i64) q0_31), .int .i64 q0_32, .int .i64 q0_33, .sh .lent 1 (rowE (eI .i64) q0_34), .int .i64 q0_35, .int .i64 q0_36, .sh .lent 2 (rowE (SFlight.cells .lent) q0_37), .sh .lent 3 (rowE (SNote.cells .lent) q0_38)]] = (impl_airFault (SSession.mk (SSender.mk q0_0 q0_1 q0_2 q0_3 (SLap.mk q0_4 q0_5 q0_6) (SAnchor.mk q0_7 q0_8 q0_9 q0_10) (SAnchor.mk q0_11 q0_12 q0_13 q0_14) q0_15 q0_16) (SReceiver.mk q0_17 q0_18 q0_19 (SAnchor.mk q0_20 q0_21 q0_22 q0_23) (SAnchor.mk q0_24 q0_25 q0_26 q0_27) (SSynth.mk q0_28 q0_29 q0_30) q0_31 q0_32) (SScheduler.mk q0_33 q0_34) q0_35 q0_36 q0_37 q0_38)).map fun r => (.int .i64 r, [.gone]) := by
  rw [lev_st (vc := c30) (nt := 53) (rs := [(2, none)]) rfl rfl (Nat.le_of_ble_eq_true rfl)]
  unfold c30
  simp +contextual -implicitDefEqProofs (maxSteps := 100000000) only [impl_airFault, subI, go_sem, ↓ite_not', Nat.reduceEqDiff, Nat.reduceLT, Nat.reduceLeDiff, ↓reduceIte, Nat.reduceAdd, Nat.reduceMul, Nat.reduceSub, Int.reduceEq, Int.reduceLT, Int.reduceLE, Int.reduceToNat, Int.cast_ofNat_Int, Nat.reduceBEq] <;> rfl
-- impl.SessionFault
def impl_SessionFault_u1 (a1 : Int) (a2 : Int) (a3 : Int) (a4 : Int) (a5 : Int) (a6 : List Int) (a7 : List Int) (a8 : Bool) (a9 : Int) (a10 : Int) (a11 : List Int) (a12 : Bool) (a13 : Int) (a14 : Int) (a15 : List Int) (a16 : Int) (a17 : Int) (a18 : Int) (a19 : Int) (a20 : List SHeld) (a21 : Bool) (a22 : Int) (a23 : Int) (a24 : List Int) (a25 : Bool) (a26 : Int) (a27 : Int) (a28 : List Int) (a29 : Int) (a30 : List Int) (a31 : List Int) (a32 : List Int) (a33 : Int) (a34 : Int) (a35 : List Int) (a36 : Int) (a37 : Int) (a38 : List SFlight) (a39 : List SNote) : Option (Int) :=
  (impl_SenderFault ((SSender.mk a1 a2 a3 a4 ((SLap.mk a5 a6 a7)) ((SAnchor.mk a8 a9 a10 a11)) ((SAnchor.mk a12 a13 a14 a15)) a16 a17))).bind fun r40 =>
  (impl_ReceiverFault ((SReceiver.mk a18 a19 a20 ((SAnchor.mk a21 a22 a23 a24)) ((SAnchor.mk a25 a26 a27 a28)) ((SSynth.mk a29 a30 a31)) a32 a33))).bind fun r41 =>
  (impl_SchedulerFault ((SScheduler.mk a34 a35))).bind fun r42 =>
  if (impl_inRange a36 0 20000) = true then if (decide ((a38.length : Int) > 40)) = true then (impl_airFault ((SSession.mk ((SSender.mk a1 a2 a3 a4 ((SLap.mk a5 a6 a7)) ((SAnchor.mk a8 a9 a10 a11)) ((SAnchor.mk a12 a13 a14 a15)) a16 a17)) ((SReceiver.mk a18 a19 a20 ((SAnchor.mk a21 a22 a23 a24)) ((SAnchor.mk a25 a26 a27 a28)) ((SSynth.mk a29 a30 a31)) a32 a33)) ((SScheduler.mk a34 a35)) a36 a37 a38 a39))).bind fun r43 =>
      (impl_first ([r40, r41, r42, (impl_codeIf ((a1 != a18)) 1), (impl_codeIf ((!(impl_inRange a37 0 6))) 3), (impl_codeIf true 2), r43])).bind fun r44 =>
      some r44
    else (impl_airFault ((SSession.mk ((SSender.mk a1 a2 a3 a4 ((SLap.mk a5 a6 a7)) ((SAnchor.mk a8 a9 a10 a11)) ((SAnchor.mk a12 a13 a14 a15)) a16 a17)) ((SReceiver.mk a18 a19 a20 ((SAnchor.mk a21 a22 a23 a24)) ((SAnchor.mk a25 a26 a27 a28)) ((SSynth.mk a29 a30 a31)) a32 a33)) ((SScheduler.mk a34 a35)) a36 a37 a38 a39))).bind fun r45 =>
      (impl_first ([r40, r41, r42, (impl_codeIf ((a1 != a18)) 1), (impl_codeIf ((!(impl_inRange a37 0 6))) 3), (impl_codeIf ((decide ((a39.length : Int) > 20))) 2), r45])).bind fun r46 =>
      some r46
  else if (decide ((a38.length : Int) > 40)) = true then (impl_airFault ((SSession.mk ((SSender.mk a1 a2 a3 a4 ((SLap.mk a5 a6 a7)) ((SAnchor.mk a8 a9 a10 a11)) ((SAnchor.mk a12 a13 a14 a15)) a16 a17)) ((SReceiver.mk a18 a19 a20 ((SAnchor.mk a21 a22 a23 a24)) ((SAnchor.mk a25 a26 a27 a28)) ((SSynth.mk a29 a30 a31)) a32 a33)) ((SScheduler.mk a34 a35)) a36 a37 a38 a39))).bind fun r47 =>
      (impl_first ([r40, r41, r42, (impl_codeIf ((a1 != a18)) 1), (impl_codeIf true 3), (impl_codeIf true 2), r47])).bind fun r48 =>
      some r48
    else (impl_airFault ((SSession.mk ((SSender.mk a1 a2 a3 a4 ((SLap.mk a5 a6 a7)) ((SAnchor.mk a8 a9 a10 a11)) ((SAnchor.mk a12 a13 a14 a15)) a16 a17)) ((SReceiver.mk a18 a19 a20 ((SAnchor.mk a21 a22 a23 a24)) ((SAnchor.mk a25 a26 a27 a28)) ((SSynth.mk a29 a30 a31)) a32 a33)) ((SScheduler.mk a34 a35)) a36 a37 a38 a39))).bind fun r49 =>
      (impl_first ([r40, r41, r42, (impl_codeIf ((a1 != a18)) 1), (impl_codeIf true 3), (impl_codeIf ((decide ((a39.length : Int) > 20))) 2), r49])).bind fun r50 =>
      some r50
def impl_SessionFault (p0 : SSession) : Option (Int) :=
  (impl_SessionFault_u1 p0.Sender.Size p0.Sender.Budget p0.Sender.Refresh p0.Sender.Number p0.Sender.Lap.Size p0.Sender.Lap.Half p0.Sender.Lap.Rest p0.Sender.A.Known p0.Sender.A.Number p0.Sender.A.Rung p0.Sender.A.Gains p0.Sender.B.Known p0.Sender.B.Number p0.Sender.B.Rung p0.Sender.B.Gains p0.Sender.SinceA p0.Sender.SinceB p0.Receiver.Size p0.Receiver.Next p0.Receiver.Held p0.Receiver.A.Known p0.Receiver.A.Number p0.Receiver.A.Rung p0.Receiver.A.Gains p0.Receiver.B.Known p0.Receiver.B.Number p0.Receiver.B.Rung p0.Receiver.B.Gains p0.Receiver.Synth.Size p0.Receiver.Synth.Head p0.Receiver.Synth.Tail p0.Receiver.Last p0.Receiver.Lost p0.Scheduler.Last p0.Scheduler.Window p0.Tick p0.Wait p0.Flights p0.Notes).bind fun y51 =>
  some y51
@[go_sem] theorem impl_SessionFault_u1_ok {β : Type} (n : Nat) (K : List (Kont β)) (a1 : Int) (a2 : Int) (a3 : Int) (a4 : Int) (a5 : Int) (a6 : List Int) (a7 : List Int) (a8 : Bool) (a9 : Int) (a10 : Int) (a11 : List Int) (a12 : Bool) (a13 : Int) (a14 : Int) (a15 : List Int) (a16 : Int) (a17 : Int) (a18 : Int) (a19 : Int) (a20 : List SHeld) (a21 : Bool) (a22 : Int) (a23 : Int) (a24 : List Int) (a25 : Bool) (a26 : Int) (a27 : Int) (a28 : List Int) (a29 : Int) (a30 : List Int) (a31 : List Int) (a32 : List Int) (a33 : Int) (a34 : Int) (a35 : List Int) (a36 : Int) (a37 : Int) (a38 : List SFlight) (a39 : List SNote) : run ⟨tab.own, lev tab (n + 8), tab.gl⟩ K c7_u1 ⟨[(1, .pt 200000010 0)], [(200000010, .var false [.val (.int .i64 a1), .val (.int .i64 a2), .val (.int .i64 a3), .val (.int .i64 a4), .val (.int .i64 a5), .val (.sh .lent 1 (rowE (eI .i64) a6)), .val (.sh .lent 1 (rowE (eI .i64) a7)), .val (.bool a8), .val (.int .i64 a9), .val (.int .i64 a10), .val (.sh .lent 1 (rowE (eI .i64) a11)), .val (.bool a12), .val (.int .i64 a13), .val (.int .i64 a14), .val (.sh .lent 1 (rowE (eI .i64) a15)), .val (.int .i64 a16), .val (.int .i64 a17), .val (.int .i64 a18), .val (.int .i64 a19), .val (.sh .lent 3 (rowE (SHeld.cells .lent) a20)), .val (.bool a21), .val (.int .i64 a22), .val (.int .i64 a23), .val (.sh .lent 1 (rowE (eI .i64) a24)), .val (.bool a25), .val (.int .i64 a26), .val (.int .i64 a27), .val (.sh .lent 1 (rowE (eI .i64) a28)), .val (.int .i64 a29), .val (.sh .lent 1 (rowE (eI .i64) a30)), .val (.sh .lent 1 (rowE (eI .i64) a31)), .val (.sh .lent 1 (rowE (eI .i64) a32)), .val (.int .i64 a33), .val (.int .i64 a34), .val (.sh .lent 1 (rowE (eI .i64) a35)), .val (.int .i64 a36), .val (.int .i64 a37), .val (.sh .lent 2 (rowE (SFlight.cells .lent) a38)), .val (.sh .lent 3 (rowE (SNote.cells .lent) a39))])], 46⟩ = (impl_SessionFault_u1 a1 a2 a3 a4 a5 a6 a7 a8 a9 a10 a11 a12 a13 a14 a15 a16 a17 a18 a19 a20 a21 a22 a23 a24 a25 a26 a27 a28 a29 a30 a31 a32 a33 a34 a35 a36 a37 a38 a39).bind (fun t => plug ⟨tab.own, lev tab (n + 8), tab.gl⟩ K .normal ⟨[(2, .val (.int .i64 t))], [], 46⟩) := by
  unfold c7_u1
  simp +contextual -implicitDefEqProofs (maxSteps := 100000000) only [impl_SessionFault_u1, subI, go_sem, ↓ite_not', Nat.reduceEqDiff, Nat.reduceLT, Nat.reduceLeDiff, ↓reduceIte, Nat.reduceAdd, Nat.reduceMul, Nat.reduceSub, Int.reduceEq, Int.reduceLT, Int.reduceLE, Int.reduceToNat, Int.cast_ofNat_Int, Nat.reduceBEq] <;> rfl
@[go_sem] theorem impl_SessionFault_ok (n : Nat) (q0_0 : Int) (q0_1 : Int) (q0_2 : Int) (q0_3 : Int) (q0_4 : Int) (q0_5 : List Int) (q0_6 : List Int) (q0_7 : Bool) (q0_8 : Int) (q0_9 : Int) (q0_10 : List Int) (q0_11 : Bool) (q0_12 : Int) (q0_13 : Int) (q0_14 : List Int) (q0_15 : Int) (q0_16 : Int) (q0_17 : Int) (q0_18 : Int) (q0_19 : List SHeld) (q0_20 : Bool) (q0_21 : Int) (q0_22 : Int) (q0_23 : List Int) (q0_24 : Bool) (q0_25 : Int) (q0_26 : Int) (q0_27 : List Int) (q0_28 : Int) (q0_29 : List Int) (q0_30 : List Int) (q0_31 : List Int) (q0_32 : Int) (q0_33 : Int) (q0_34 : List Int) (q0_35 : Int) (q0_36 : Int) (q0_37 : List SFlight) (q0_38 : List SNote) : lev tab (n + 9) 7 [.agg [.int .i64 q0_0, .int .i64 q0_1, .int .i64 q0_2, .int .i64 q0_3, .int .i64 q0_4, .sh .lent 1 (rowE (eI .i64) q0_5), .sh .lent 1 (rowE (eI .i64) q0_6), .bool q0_7, .int .i64 q0_8, .int .i64 q0_9, .sh .lent 1 (rowE (eI .i64) q0_10), .bool q0_11, .int .i64 q0_12, .int .i64 q0_13, .sh .lent 1 (rowE (eI .i64) q0_14), .int .i64 q0_15, .int .i64 q0_16, .int .i64 q0_17, .int .i64 q0_18, .sh .lent 3 (rowE (SHeld.cells .lent) q0_19), .bool q0_20, .int .i64 q0_21, .int .i64 q0_22, .sh .lent 1 (rowE (eI .i64) q0_23), .bool q0_24, .int .i64 q0_25, .int .i64 q0_26, .sh .lent 1 (rowE (eI .i64) q0_27), .int .i64 q0_28, .sh .lent 1 (rowE (eI .i64) q0_29), .sh .lent 1 (rowE (eI .i64) q0_30), .sh .lent 1 (rowE (eI .i64) q0_31), .int .i64 q0_32, .int .i64 q0_33, .sh .lent 1 (rowE (eI .i64) q0_34), .int .i64 q0_35, .int .i64 q0_36, .sh .lent 2 (rowE (SFlight.cells .lent) q0_37), .sh .lent 3 (rowE (SNote.cells .lent) q0_38)]] = (impl_SessionFault (SSession.mk (SSender.mk q0_0 q0_1 q0_2 q0_3 (SLap.mk q0_4 q0_5 q0_6) (SAnchor.mk q0_7 q0_8 q0_9 q0_10) (SAnchor.mk q0_11 q0_12 q0_13 q0_14) q0_15 q0_16) (SReceiver.mk q0_17 q0_18 q0_19 (SAnchor.mk q0_20 q0_21 q0_22 q0_23) (SAnchor.mk q0_24 q0_25 q0_26 q0_27) (SSynth.mk q0_28 q0_29 q0_30) q0_31 q0_32) (SScheduler.mk q0_33 q0_34) q0_35 q0_36 q0_37 q0_38)).map fun r => (.int .i64 r, [.gone]) := by
  rw [lev_st (vc := c7) (nt := 46) (rs := [(2, none)]) rfl rfl (Nat.le_of_ble_eq_true rfl)]
  unfold c7
  simp +contextual -implicitDefEqProofs (maxSteps := 100000000) only [impl_SessionFault, subI, go_sem, ↓ite_not', Nat.reduceEqDiff, Nat.reduceLT, Nat.reduceLeDiff, ↓reduceIte, Nat.reduceAdd, Nat.reduceMul, Nat.reduceSub, Int.reduceEq, Int.reduceLT, Int.reduceLE, Int.reduceToNat, Int.cast_ofNat_Int, Nat.reduceBEq] <;> rfl
-- laws.eqInt64S
def laws_eqInt64S_s1 (a6 : List Int) (a7 : List Int) : Int → Option ((Int) ⊕ (Unit ⊕ Unit)) := fun a8 =>
  if (decide (a8 < (a6.length : Int))) = true then (getI a6 a8).bind fun x9 =>
    (getI a7 a8).bind fun x10 =>
    if (x9 != x10) = true then some ((.inr ((.inr (())))))
    else some ((.inl ((IntKind.i64.wrap (a8 + 1)))))
  else some ((.inr ((.inl (())))))
def laws_eqInt64S (p0 : List Int) (p1 : List Int) : Option (Bool) :=
  if ((p0.length : Int) != (p1.length : Int)) = true then some false
  else (loopO (laws_eqInt64S_s1 p0 p1) 0).bind fun t => (Sum.elim (fun y11 => some true)
     (fun y12 => some false)) t
@[go_sem] theorem laws_eqInt64S_s1_ok {β : Type} (n : Nat) (K : List (Kont β)) (a6 : List Int) (a7 : List Int) (a8 : Int) : run ⟨tab.own, lev tab n, tab.gl⟩ K (.loop c72_u1) ⟨[(0, .val (.sh .lent 1 (rowE (eI .i64) a6))), (1, .val (.sh .lent 1 (rowE (eI .i64) a7))), (5, .val (.int .i64 a8))], [], 26⟩ = (loopO (laws_eqInt64S_s1 a6 a7) a8).bind (fun t => (Sum.elim (fun t => plug ⟨tab.own, lev tab n, tab.gl⟩ K (.exit 0) ⟨[], [], 26⟩) (fun t => plug ⟨tab.own, lev tab n, tab.gl⟩ K .ret ⟨[(4, .val (.bool false))], [], 26⟩)) t) := by
  refine loop_run (C := ⟨tab.own, lev tab n, tab.gl⟩) (K := K) (c := c72_u1) (laws_eqInt64S_s1 a6 a7) (fun s => ⟨[(0, .val (.sh .lent 1 (rowE (eI .i64) a6))), (1, .val (.sh .lent 1 (rowE (eI .i64) a7))), (5, .val (.int .i64 s))], [], 26⟩) (fun t => (Sum.elim (fun t => plug ⟨tab.own, lev tab n, tab.gl⟩ K (.exit 0) ⟨[], [], 26⟩) (fun t => plug ⟨tab.own, lev tab n, tab.gl⟩ K .ret ⟨[(4, .val (.bool false))], [], 26⟩)) t) (fun k s => ?_) a8
  unfold c72_u1
  simp +contextual -implicitDefEqProofs (maxSteps := 100000000) only [laws_eqInt64S_s1, subI, go_sem, ↓ite_not', Nat.reduceEqDiff, Nat.reduceLT, Nat.reduceLeDiff, ↓reduceIte, Nat.reduceAdd, Nat.reduceMul, Nat.reduceSub, Int.reduceEq, Int.reduceLT, Int.reduceLE, Int.reduceToNat, Int.cast_ofNat_Int, Nat.reduceBEq] <;> rfl
@[go_sem] theorem laws_eqInt64S_ok (n : Nat) (q0_0 : List Int) (q1_0 : List Int) : lev tab (n + 1) 72 [.sh .lent 1 (rowE (eI .i64) q0_0), .sh .lent 1 (rowE (eI .i64) q1_0)] = (laws_eqInt64S q0_0 q1_0).map fun r => (.bool r, [.gone, .gone]) := by
  rw [lev_st (vc := c72) (nt := 26) (rs := [(4, none)]) rfl rfl (Nat.le_of_ble_eq_true rfl)]
  unfold c72
  simp +contextual -implicitDefEqProofs (maxSteps := 100000000) only [laws_eqInt64S, subI, go_sem, ↓ite_not', Nat.reduceEqDiff, Nat.reduceLT, Nat.reduceLeDiff, ↓reduceIte, Nat.reduceAdd, Nat.reduceMul, Nat.reduceSub, Int.reduceEq, Int.reduceLT, Int.reduceLE, Int.reduceToNat, Int.cast_ofNat_Int, Nat.reduceBEq] <;> rfl
-- laws.eqLap
def laws_eqLap (p0 : SLap) (p1 : SLap) : Option (Bool) :=
  if (p0.Size != p1.Size) = true then some false
  else (laws_eqInt64S p0.Half p1.Half).bind fun r1 =>
    if r1 = true then (laws_eqInt64S p0.Rest p1.Rest).bind fun r2 =>
      if r2 = true then some true
      else some false
    else some false
@[go_sem] theorem laws_eqLap_ok (n : Nat) (q0_0 : Int) (q0_1 : List Int) (q0_2 : List Int) (q1_0 : Int) (q1_1 : List Int) (q1_2 : List Int) : lev tab (n + 2) 68 [.agg [.int .i64 q0_0, .sh .lent 1 (rowE (eI .i64) q0_1), .sh .lent 1 (rowE (eI .i64) q0_2)], .agg [.int .i64 q1_0, .sh .lent 1 (rowE (eI .i64) q1_1), .sh .lent 1 (rowE (eI .i64) q1_2)]] = (laws_eqLap (SLap.mk q0_0 q0_1 q0_2) (SLap.mk q1_0 q1_1 q1_2)).map fun r => (.bool r, [.gone, .gone]) := by
  rw [lev_st (vc := c68) (nt := 22) (rs := [(4, none)]) rfl rfl (Nat.le_of_ble_eq_true rfl)]
  unfold c68
  simp +contextual -implicitDefEqProofs (maxSteps := 100000000) only [laws_eqLap, subI, go_sem, ↓ite_not', Nat.reduceEqDiff, Nat.reduceLT, Nat.reduceLeDiff, ↓reduceIte, Nat.reduceAdd, Nat.reduceMul, Nat.reduceSub, Int.reduceEq, Int.reduceLT, Int.reduceLE, Int.reduceToNat, Int.cast_ofNat_Int, Nat.reduceBEq] <;> rfl
-- laws.eqAnchor
def laws_eqAnchor (p0 : SAnchor) (p1 : SAnchor) : Option (Bool) :=
  if (p0.Known == p1.Known) = true then if (p0.Number != p1.Number) = true then some false
    else if (p0.Rung != p1.Rung) = true then some false
      else (laws_eqInt64S p0.Gains p1.Gains).bind fun r1 =>
        if r1 = true then some true
        else some false
  else some false
@[go_sem] theorem laws_eqAnchor_ok (n : Nat) (q0_0 : Bool) (q0_1 : Int) (q0_2 : Int) (q0_3 : List Int) (q1_0 : Bool) (q1_1 : Int) (q1_2 : Int) (q1_3 : List Int) : lev tab (n + 2) 69 [.agg [.bool q0_0, .int .i64 q0_1, .int .i64 q0_2, .sh .lent 1 (rowE (eI .i64) q0_3)], .agg [.bool q1_0, .int .i64 q1_1, .int .i64 q1_2, .sh .lent 1 (rowE (eI .i64) q1_3)]] = (laws_eqAnchor (SAnchor.mk q0_0 q0_1 q0_2 q0_3) (SAnchor.mk q1_0 q1_1 q1_2 q1_3)).map fun r => (.bool r, [.gone, .gone]) := by
  rw [lev_st (vc := c69) (nt := 26) (rs := [(4, none)]) rfl rfl (Nat.le_of_ble_eq_true rfl)]
  unfold c69
  simp +contextual -implicitDefEqProofs (maxSteps := 100000000) only [laws_eqAnchor, subI, go_sem, ↓ite_not', Nat.reduceEqDiff, Nat.reduceLT, Nat.reduceLeDiff, ↓reduceIte, Nat.reduceAdd, Nat.reduceMul, Nat.reduceSub, Int.reduceEq, Int.reduceLT, Int.reduceLE, Int.reduceToNat, Int.cast_ofNat_Int, Nat.reduceBEq] <;> rfl
-- laws.eqSender
def laws_eqSender (p0 : SSender) (p1 : SSender) : Option (Bool) :=
  if (p0.Size != p1.Size) = true then some false
  else if (p0.Budget != p1.Budget) = true then some false
    else if (p0.Refresh != p1.Refresh) = true then some false
      else if (p0.Number != p1.Number) = true then some false
        else (laws_eqLap p0.Lap p1.Lap).bind fun r1 =>
          if r1 = true then (laws_eqAnchor p0.A p1.A).bind fun r2 =>
            if r2 = true then (laws_eqAnchor p0.B p1.B).bind fun r3 =>
              if r3 = true then if (p0.SinceA != p1.SinceA) = true then some false
                else if (p0.SinceB != p1.SinceB) = true then some false
                  else some true
              else some false
            else some false
          else some false
@[go_sem] theorem laws_eqSender_ok (n : Nat) (q0_0 : Int) (q0_1 : Int) (q0_2 : Int) (q0_3 : Int) (q0_4 : Int) (q0_5 : List Int) (q0_6 : List Int) (q0_7 : Bool) (q0_8 : Int) (q0_9 : Int) (q0_10 : List Int) (q0_11 : Bool) (q0_12 : Int) (q0_13 : Int) (q0_14 : List Int) (q0_15 : Int) (q0_16 : Int) (q1_0 : Int) (q1_1 : Int) (q1_2 : Int) (q1_3 : Int) (q1_4 : Int) (q1_5 : List Int) (q1_6 : List Int) (q1_7 : Bool) (q1_8 : Int) (q1_9 : Int) (q1_10 : List Int) (q1_11 : Bool) (q1_12 : Int) (q1_13 : Int) (q1_14 : List Int) (q1_15 : Int) (q1_16 : Int) : lev tab (n + 3) 31 [.agg [.int .i64 q0_0, .int .i64 q0_1, .int .i64 q0_2, .int .i64 q0_3, .int .i64 q0_4, .sh .lent 1 (rowE (eI .i64) q0_5), .sh .lent 1 (rowE (eI .i64) q0_6), .bool q0_7, .int .i64 q0_8, .int .i64 q0_9, .sh .lent 1 (rowE (eI .i64) q0_10), .bool q0_11, .int .i64 q0_12, .int .i64 q0_13, .sh .lent 1 (rowE (eI .i64) q0_14), .int .i64 q0_15, .int .i64 q0_16], .agg [.int .i64 q1_0, .int .i64 q1_1, .int .i64 q1_2, .int .i64 q1_3, .int .i64 q1_4, .sh .lent 1 (rowE (eI .i64) q1_5), .sh .lent 1 (rowE (eI .i64) q1_6), .bool q1_7, .int .i64 q1_8, .int .i64 q1_9, .sh .lent 1 (rowE (eI .i64) q1_10), .bool q1_11, .int .i64 q1_12, .int .i64 q1_13, .sh .lent 1 (rowE (eI .i64) q1_14), .int .i64 q1_15, .int .i64 q1_16]] = (laws_eqSender (SSender.mk q0_0 q0_1 q0_2 q0_3 (SLap.mk q0_4 q0_5 q0_6) (SAnchor.mk q0_7 q0_8 q0_9 q0_10) (SAnchor.mk q0_11 q0_12 q0_13 q0_14) q0_15 q0_16) (SSender.mk q1_0 q1_1 q1_2 q1_3 (SLap.mk q1_4 q1_5 q1_6) (SAnchor.mk q1_7 q1_8 q1_9 q1_10) (SAnchor.mk q1_11 q1_12 q1_13 q1_14) q1_15 q1_16)).map fun r => (.bool r, [.gone, .gone]) := by
  rw [lev_st (vc := c31) (nt := 53) (rs := [(4, none)]) rfl rfl (Nat.le_of_ble_eq_true rfl)]
  unfold c31
  simp +contextual -implicitDefEqProofs (maxSteps := 100000000) only [laws_eqSender, subI, go_sem, ↓ite_not', Nat.reduceEqDiff, Nat.reduceLT, Nat.reduceLeDiff, ↓reduceIte, Nat.reduceAdd, Nat.reduceMul, Nat.reduceSub, Int.reduceEq, Int.reduceLT, Int.reduceLE, Int.reduceToNat, Int.cast_ofNat_Int, Nat.reduceBEq] <;> rfl
-- laws.eqByteS
def laws_eqByteS_s1 (a6 : List Int) (a7 : List Int) : Int → Option ((Int) ⊕ (Unit ⊕ Unit)) := fun a8 =>
  if (decide (a8 < (a6.length : Int))) = true then (getI a6 a8).bind fun x9 =>
    (getI a7 a8).bind fun x10 =>
    if (x9 != x10) = true then some ((.inr ((.inr (())))))
    else some ((.inl ((IntKind.i64.wrap (a8 + 1)))))
  else some ((.inr ((.inl (())))))
def laws_eqByteS (p0 : List Int) (p1 : List Int) : Option (Bool) :=
  if ((p0.length : Int) != (p1.length : Int)) = true then some false
  else (loopO (laws_eqByteS_s1 p0 p1) 0).bind fun t => (Sum.elim (fun y11 => some true)
     (fun y12 => some false)) t
@[go_sem] theorem laws_eqByteS_s1_ok {β : Type} (n : Nat) (K : List (Kont β)) (a6 : List Int) (a7 : List Int) (a8 : Int) : run ⟨tab.own, lev tab n, tab.gl⟩ K (.loop c94_u1) ⟨[(0, .val (.sh .lent 1 (rowE (eI .u8) a6))), (1, .val (.sh .lent 1 (rowE (eI .u8) a7))), (5, .val (.int .i64 a8))], [], 26⟩ = (loopO (laws_eqByteS_s1 a6 a7) a8).bind (fun t => (Sum.elim (fun t => plug ⟨tab.own, lev tab n, tab.gl⟩ K (.exit 0) ⟨[], [], 26⟩) (fun t => plug ⟨tab.own, lev tab n, tab.gl⟩ K .ret ⟨[(4, .val (.bool false))], [], 26⟩)) t) := by
  refine loop_run (C := ⟨tab.own, lev tab n, tab.gl⟩) (K := K) (c := c94_u1) (laws_eqByteS_s1 a6 a7) (fun s => ⟨[(0, .val (.sh .lent 1 (rowE (eI .u8) a6))), (1, .val (.sh .lent 1 (rowE (eI .u8) a7))), (5, .val (.int .i64 s))], [], 26⟩) (fun t => (Sum.elim (fun t => plug ⟨tab.own, lev tab n, tab.gl⟩ K (.exit 0) ⟨[], [], 26⟩) (fun t => plug ⟨tab.own, lev tab n, tab.gl⟩ K .ret ⟨[(4, .val (.bool false))], [], 26⟩)) t) (fun k s => ?_) a8
  unfold c94_u1
  simp +contextual -implicitDefEqProofs (maxSteps := 100000000) only [laws_eqByteS_s1, subI, go_sem, ↓ite_not', Nat.reduceEqDiff, Nat.reduceLT, Nat.reduceLeDiff, ↓reduceIte, Nat.reduceAdd, Nat.reduceMul, Nat.reduceSub, Int.reduceEq, Int.reduceLT, Int.reduceLE, Int.reduceToNat, Int.cast_ofNat_Int, Nat.reduceBEq] <;> rfl
@[go_sem] theorem laws_eqByteS_ok (n : Nat) (q0_0 : List Int) (q1_0 : List Int) : lev tab (n + 1) 94 [.sh .lent 1 (rowE (eI .u8) q0_0), .sh .lent 1 (rowE (eI .u8) q1_0)] = (laws_eqByteS q0_0 q1_0).map fun r => (.bool r, [.gone, .gone]) := by
  rw [lev_st (vc := c94) (nt := 26) (rs := [(4, none)]) rfl rfl (Nat.le_of_ble_eq_true rfl)]
  unfold c94
  simp +contextual -implicitDefEqProofs (maxSteps := 100000000) only [laws_eqByteS, subI, go_sem, ↓ite_not', Nat.reduceEqDiff, Nat.reduceLT, Nat.reduceLeDiff, ↓reduceIte, Nat.reduceAdd, Nat.reduceMul, Nat.reduceSub, Int.reduceEq, Int.reduceLT, Int.reduceLE, Int.reduceToNat, Int.cast_ofNat_Int, Nat.reduceBEq] <;> rfl
-- laws.eqHeld
def laws_eqHeld (p0 : SHeld) (p1 : SHeld) : Option (Bool) :=
  if (p0.Number != p1.Number) = true then some false
  else if (p0.Side != p1.Side) = true then some false
    else (laws_eqByteS p0.Data p1.Data).bind fun r1 =>
      if r1 = true then some true
      else some false
@[go_sem] theorem laws_eqHeld_ok (n : Nat) (q0_0 : Int) (q0_1 : Int) (q0_2 : List Int) (q1_0 : Int) (q1_1 : Int) (q1_2 : List Int) : lev tab (n + 2) 93 [.agg [.int .i64 q0_0, .int .i64 q0_1, .sh .lent 1 (rowE (eI .u8) q0_2)], .agg [.int .i64 q1_0, .int .i64 q1_1, .sh .lent 1 (rowE (eI .u8) q1_2)]] = (laws_eqHeld (SHeld.mk q0_0 q0_1 q0_2) (SHeld.mk q1_0 q1_1 q1_2)).map fun r => (.bool r, [.gone, .gone]) := by
  rw [lev_st (vc := c93) (nt := 21) (rs := [(4, none)]) rfl rfl (Nat.le_of_ble_eq_true rfl)]
  unfold c93
  simp +contextual -implicitDefEqProofs (maxSteps := 100000000) only [laws_eqHeld, subI, go_sem, ↓ite_not', Nat.reduceEqDiff, Nat.reduceLT, Nat.reduceLeDiff, ↓reduceIte, Nat.reduceAdd, Nat.reduceMul, Nat.reduceSub, Int.reduceEq, Int.reduceLT, Int.reduceLE, Int.reduceToNat, Int.cast_ofNat_Int, Nat.reduceBEq] <;> rfl
-- laws.eqHeldS
def laws_eqHeldS_s1 (a7 : List SHeld) (a8 : List SHeld) : Int → Option ((Int) ⊕ (Unit ⊕ Unit)) := fun a9 =>
  if (decide (a9 < (a7.length : Int))) = true then (getI a7 a9).bind fun x10 =>
    (getI a8 a9).bind fun x11 =>
    (laws_eqHeld x10 x11).bind fun r12 =>
    if r12 = true then some ((.inl ((IntKind.i64.wrap (a9 + 1)))))
    else some ((.inr ((.inr (())))))
  else some ((.inr ((.inl (())))))
def laws_eqHeldS (p0 : List SHeld) (p1 : List SHeld) : Option (Bool) :=
  if ((p0.length : Int) != (p1.length : Int)) = true then some false
  else (loopO (laws_eqHeldS_s1 p0 p1) 0).bind fun t => (Sum.elim (fun y13 => some true)
     (fun y14 => some false)) t
@[go_sem] theorem laws_eqHeldS_s1_ok {β : Type} (n : Nat) (K : List (Kont β)) (a7 : List SHeld) (a8 : List SHeld) (a9 : Int) : run ⟨tab.own, lev tab (n + 2), tab.gl⟩ K (.loop c70_u1) ⟨[(0, .val (.sh .lent 3 (rowE (SHeld.cells .lent) a7))), (1, .val (.sh .lent 3 (rowE (SHeld.cells .lent) a8))), (5, .val (.int .i64 a9))], [], 27⟩ = (loopO (laws_eqHeldS_s1 a7 a8) a9).bind (fun t => (Sum.elim (fun t => plug ⟨tab.own, lev tab (n + 2), tab.gl⟩ K (.exit 0) ⟨[], [], 27⟩) (fun t => plug ⟨tab.own, lev tab (n + 2), tab.gl⟩ K .ret ⟨[(4, .val (.bool false))], [], 27⟩)) t) := by
  refine loop_run (C := ⟨tab.own, lev tab (n + 2), tab.gl⟩) (K := K) (c := c70_u1) (laws_eqHeldS_s1 a7 a8) (fun s => ⟨[(0, .val (.sh .lent 3 (rowE (SHeld.cells .lent) a7))), (1, .val (.sh .lent 3 (rowE (SHeld.cells .lent) a8))), (5, .val (.int .i64 s))], [], 27⟩) (fun t => (Sum.elim (fun t => plug ⟨tab.own, lev tab (n + 2), tab.gl⟩ K (.exit 0) ⟨[], [], 27⟩) (fun t => plug ⟨tab.own, lev tab (n + 2), tab.gl⟩ K .ret ⟨[(4, .val (.bool false))], [], 27⟩)) t) (fun k s => ?_) a9
  unfold c70_u1
  simp +contextual -implicitDefEqProofs (maxSteps := 100000000) only [laws_eqHeldS_s1, subI, go_sem, ↓ite_not', Nat.reduceEqDiff, Nat.reduceLT, Nat.reduceLeDiff, ↓reduceIte, Nat.reduceAdd, Nat.reduceMul, Nat.reduceSub, Int.reduceEq, Int.reduceLT, Int.reduceLE, Int.reduceToNat, Int.cast_ofNat_Int, Nat.reduceBEq] <;> rfl
@[go_sem] theorem laws_eqHeldS_ok (n : Nat) (q0_0 : List SHeld) (q1_0 : List SHeld) : lev tab (n + 3) 70 [.sh .lent 3 (rowE (SHeld.cells .lent) q0_0), .sh .lent 3 (rowE (SHeld.cells .lent) q1_0)] = (laws_eqHeldS q0_0 q1_0).map fun r => (.bool r, [.gone, .gone]) := by
  rw [lev_st (vc := c70) (nt := 27) (rs := [(4, none)]) rfl rfl (Nat.le_of_ble_eq_true rfl)]
  unfold c70
  simp +contextual -implicitDefEqProofs (maxSteps := 100000000) only [laws_eqHeldS, subI, go_sem, ↓ite_not', Nat.reduceEqDiff, Nat.reduceLT, Nat.reduceLeDiff, ↓reduceIte, Nat.reduceAdd, Nat.reduceMul, Nat.reduceSub, Int.reduceEq, Int.reduceLT, Int.reduceLE, Int.reduceToNat, Int.cast_ofNat_Int, Nat.reduceBEq] <;> rfl
-- laws.eqSynth
def laws_eqSynth (p0 : SSynth) (p1 : SSynth) : Option (Bool) :=
  if (p0.Size != p1.Size) = true then some false
  else (laws_eqInt64S p0.Head p1.Head).bind fun r1 =>
    if r1 = true then (laws_eqInt64S p0.Tail p1.Tail).bind fun r2 =>
      if r2 = true then some true
      else some false
    else some false
@[go_sem] theorem laws_eqSynth_ok (n : Nat) (q0_0 : Int) (q0_1 : List Int) (q0_2 : List Int) (q1_0 : Int) (q1_1 : List Int) (q1_2 : List Int) : lev tab (n + 2) 71 [.agg [.int .i64 q0_0, .sh .lent 1 (rowE (eI .i64) q0_1), .sh .lent 1 (rowE (eI .i64) q0_2)], .agg [.int .i64 q1_0, .sh .lent 1 (rowE (eI .i64) q1_1), .sh .lent 1 (rowE (eI .i64) q1_2)]] = (laws_eqSynth (SSynth.mk q0_0 q0_1 q0_2) (SSynth.mk q1_0 q1_1 q1_2)).map fun r => (.bool r, [.gone, .gone]) := by
  rw [lev_st (vc := c71) (nt := 22) (rs := [(4, none)]) rfl rfl (Nat.le_of_ble_eq_true rfl)]
  unfold c71
  simp +contextual -implicitDefEqProofs (maxSteps := 100000000) only [laws_eqSynth, subI, go_sem, ↓ite_not', Nat.reduceEqDiff, Nat.reduceLT, Nat.reduceLeDiff, ↓reduceIte, Nat.reduceAdd, Nat.reduceMul, Nat.reduceSub, Int.reduceEq, Int.reduceLT, Int.reduceLE, Int.reduceToNat, Int.cast_ofNat_Int, Nat.reduceBEq] <;> rfl
-- laws.eqReceiver
def laws_eqReceiver (p0 : SReceiver) (p1 : SReceiver) : Option (Bool) :=
  if (p0.Size != p1.Size) = true then some false
  else if (p0.Next != p1.Next) = true then some false
    else (laws_eqHeldS p0.Held p1.Held).bind fun r1 =>
      if r1 = true then (laws_eqAnchor p0.A p1.A).bind fun r2 =>
        if r2 = true then (laws_eqAnchor p0.B p1.B).bind fun r3 =>
          if r3 = true then (laws_eqSynth p0.Synth p1.Synth).bind fun r4 =>
            if r4 = true then (laws_eqInt64S p0.Last p1.Last).bind fun r5 =>
              if r5 = true then if (p0.Lost != p1.Lost) = true then some false
                else some true
              else some false
            else some false
          else some false
        else some false
      else some false
@[go_sem] theorem laws_eqReceiver_ok (n : Nat) (q0_0 : Int) (q0_1 : Int) (q0_2 : List SHeld) (q0_3 : Bool) (q0_4 : Int) (q0_5 : Int) (q0_6 : List Int) (q0_7 : Bool) (q0_8 : Int) (q0_9 : Int) (q0_10 : List Int) (q0_11 : Int) (q0_12 : List Int) (q0_13 : List Int) (q0_14 : List Int) (q0_15 : Int) (q1_0 : Int) (q1_1 : Int) (q1_2 : List SHeld) (q1_3 : Bool) (q1_4 : Int) (q1_5 : Int) (q1_6 : List Int) (q1_7 : Bool) (q1_8 : Int) (q1_9 : Int) (q1_10 : List Int) (q1_11 : Int) (q1_12 : List Int) (q1_13 : List Int) (q1_14 : List Int) (q1_15 : Int) : lev tab (n + 4) 32 [.agg [.int .i64 q0_0, .int .i64 q0_1, .sh .lent 3 (rowE (SHeld.cells .lent) q0_2), .bool q0_3, .int .i64 q0_4, .int .i64 q0_5, .sh .lent 1 (rowE (eI .i64) q0_6), .bool q0_7, .int .i64 q0_8, .int .i64 q0_9, .sh .lent 1 (rowE (eI .i64) q0_10), .int .i64 q0_11, .sh .lent 1 (rowE (eI .i64) q0_12), .sh .lent 1 (rowE (eI .i64) q0_13), .sh .lent 1 (rowE (eI .i64) q0_14), .int .i64 q0_15], .agg [.int .i64 q1_0, .int .i64 q1_1, .sh .lent 3 (rowE (SHeld.cells .lent) q1_2), .bool q1_3, .int .i64 q1_4, .int .i64 q1_5, .sh .lent 1 (rowE (eI .i64) q1_6), .bool q1_7, .int .i64 q1_8, .int .i64 q1_9, .sh .lent 1 (rowE (eI .i64) q1_10), .int .i64 q1_11, .sh .lent 1 (rowE (eI .i64) q1_12), .sh .lent 1 (rowE (eI .i64) q1_13), .sh .lent 1 (rowE (eI .i64) q1_14), .int .i64 q1_15]] = (laws_eqReceiver (SReceiver.mk q0_0 q0_1 q0_2 (SAnchor.mk q0_3 q0_4 q0_5 q0_6) (SAnchor.mk q0_7 q0_8 q0_9 q0_10) (SSynth.mk q0_11 q0_12 q0_13) q0_14 q0_15) (SReceiver.mk q1_0 q1_1 q1_2 (SAnchor.mk q1_3 q1_4 q1_5 q1_6) (SAnchor.mk q1_7 q1_8 q1_9 q1_10) (SSynth.mk q1_11 q1_12 q1_13) q1_14 q1_15)).map fun r => (.bool r, [.gone, .gone]) := by
  rw [lev_st (vc := c32) (nt := 50) (rs := [(4, none)]) rfl rfl (Nat.le_of_ble_eq_true rfl)]
  unfold c32
  simp +contextual -implicitDefEqProofs (maxSteps := 100000000) only [laws_eqReceiver, subI, go_sem, ↓ite_not', Nat.reduceEqDiff, Nat.reduceLT, Nat.reduceLeDiff, ↓reduceIte, Nat.reduceAdd, Nat.reduceMul, Nat.reduceSub, Int.reduceEq, Int.reduceLT, Int.reduceLE, Int.reduceToNat, Int.cast_ofNat_Int, Nat.reduceBEq] <;> rfl
-- laws.eqScheduler
def laws_eqScheduler (p0 : SScheduler) (p1 : SScheduler) : Option (Bool) :=
  if (p0.Last != p1.Last) = true then some false
  else (laws_eqInt64S p0.Window p1.Window).bind fun r1 =>
    if r1 = true then some true
    else some false
@[go_sem] theorem laws_eqScheduler_ok (n : Nat) (q0_0 : Int) (q0_1 : List Int) (q1_0 : Int) (q1_1 : List Int) : lev tab (n + 2) 33 [.agg [.int .i64 q0_0, .sh .lent 1 (rowE (eI .i64) q0_1)], .agg [.int .i64 q1_0, .sh .lent 1 (rowE (eI .i64) q1_1)]] = (laws_eqScheduler (SScheduler.mk q0_0 q0_1) (SScheduler.mk q1_0 q1_1)).map fun r => (.bool r, [.gone, .gone]) := by
  rw [lev_st (vc := c33) (nt := 16) (rs := [(4, none)]) rfl rfl (Nat.le_of_ble_eq_true rfl)]
  unfold c33
  simp +contextual -implicitDefEqProofs (maxSteps := 100000000) only [laws_eqScheduler, subI, go_sem, ↓ite_not', Nat.reduceEqDiff, Nat.reduceLT, Nat.reduceLeDiff, ↓reduceIte, Nat.reduceAdd, Nat.reduceMul, Nat.reduceSub, Int.reduceEq, Int.reduceLT, Int.reduceLE, Int.reduceToNat, Int.cast_ofNat_Int, Nat.reduceBEq] <;> rfl
-- laws.eqFlight
def laws_eqFlight (p0 : SFlight) (p1 : SFlight) : Option (Bool) :=
  if (p0.Due != p1.Due) = true then some false
  else (laws_eqByteS p0.Data p1.Data).bind fun r1 =>
    if r1 = true then some true
    else some false
@[go_sem] theorem laws_eqFlight_ok (n : Nat) (q0_0 : Int) (q0_1 : List Int) (q1_0 : Int) (q1_1 : List Int) : lev tab (n + 2) 73 [.agg [.int .i64 q0_0, .sh .lent 1 (rowE (eI .u8) q0_1)], .agg [.int .i64 q1_0, .sh .lent 1 (rowE (eI .u8) q1_1)]] = (laws_eqFlight (SFlight.mk q0_0 q0_1) (SFlight.mk q1_0 q1_1)).map fun r => (.bool r, [.gone, .gone]) := by
  rw [lev_st (vc := c73) (nt := 16) (rs := [(4, none)]) rfl rfl (Nat.le_of_ble_eq_true rfl)]
  unfold c73
  simp +contextual -implicitDefEqProofs (maxSteps := 100000000) only [laws_eqFlight, subI, go_sem, ↓ite_not', Nat.reduceEqDiff, Nat.reduceLT, Nat.reduceLeDiff, ↓reduceIte, Nat.reduceAdd, Nat.reduceMul, Nat.reduceSub, Int.reduceEq, Int.reduceLT, Int.reduceLE, Int.reduceToNat, Int.cast_ofNat_Int, Nat.reduceBEq] <;> rfl
-- laws.eqFlightS
def laws_eqFlightS_s1 (a7 : List SFlight) (a8 : List SFlight) : Int → Option ((Int) ⊕ (Unit ⊕ Unit)) := fun a9 =>
  if (decide (a9 < (a7.length : Int))) = true then (getI a7 a9).bind fun x10 =>
    (getI a8 a9).bind fun x11 =>
    (laws_eqFlight x10 x11).bind fun r12 =>
    if r12 = true then some ((.inl ((IntKind.i64.wrap (a9 + 1)))))
    else some ((.inr ((.inr (())))))
  else some ((.inr ((.inl (())))))
def laws_eqFlightS (p0 : List SFlight) (p1 : List SFlight) : Option (Bool) :=
  if ((p0.length : Int) != (p1.length : Int)) = true then some false
  else (loopO (laws_eqFlightS_s1 p0 p1) 0).bind fun t => (Sum.elim (fun y13 => some true)
     (fun y14 => some false)) t
@[go_sem] theorem laws_eqFlightS_s1_ok {β : Type} (n : Nat) (K : List (Kont β)) (a7 : List SFlight) (a8 : List SFlight) (a9 : Int) : run ⟨tab.own, lev tab (n + 2), tab.gl⟩ K (.loop c34_u1) ⟨[(0, .val (.sh .lent 2 (rowE (SFlight.cells .lent) a7))), (1, .val (.sh .lent 2 (rowE (SFlight.cells .lent) a8))), (5, .val (.int .i64 a9))], [], 27⟩ = (loopO (laws_eqFlightS_s1 a7 a8) a9).bind (fun t => (Sum.elim (fun t => plug ⟨tab.own, lev tab (n + 2), tab.gl⟩ K (.exit 0) ⟨[], [], 27⟩) (fun t => plug ⟨tab.own, lev tab (n + 2), tab.gl⟩ K .ret ⟨[(4, .val (.bool false))], [], 27⟩)) t) := by
  refine loop_run (C := ⟨tab.own, lev tab (n + 2), tab.gl⟩) (K := K) (c := c34_u1) (laws_eqFlightS_s1 a7 a8) (fun s => ⟨[(0, .val (.sh .lent 2 (rowE (SFlight.cells .lent) a7))), (1, .val (.sh .lent 2 (rowE (SFlight.cells .lent) a8))), (5, .val (.int .i64 s))], [], 27⟩) (fun t => (Sum.elim (fun t => plug ⟨tab.own, lev tab (n + 2), tab.gl⟩ K (.exit 0) ⟨[], [], 27⟩) (fun t => plug ⟨tab.own, lev tab (n + 2), tab.gl⟩ K .ret ⟨[(4, .val (.bool false))], [], 27⟩)) t) (fun k s => ?_) a9
  unfold c34_u1
  simp +contextual -implicitDefEqProofs (maxSteps := 100000000) only [laws_eqFlightS_s1, subI, go_sem, ↓ite_not', Nat.reduceEqDiff, Nat.reduceLT, Nat.reduceLeDiff, ↓reduceIte, Nat.reduceAdd, Nat.reduceMul, Nat.reduceSub, Int.reduceEq, Int.reduceLT, Int.reduceLE, Int.reduceToNat, Int.cast_ofNat_Int, Nat.reduceBEq] <;> rfl
@[go_sem] theorem laws_eqFlightS_ok (n : Nat) (q0_0 : List SFlight) (q1_0 : List SFlight) : lev tab (n + 3) 34 [.sh .lent 2 (rowE (SFlight.cells .lent) q0_0), .sh .lent 2 (rowE (SFlight.cells .lent) q1_0)] = (laws_eqFlightS q0_0 q1_0).map fun r => (.bool r, [.gone, .gone]) := by
  rw [lev_st (vc := c34) (nt := 27) (rs := [(4, none)]) rfl rfl (Nat.le_of_ble_eq_true rfl)]
  unfold c34
  simp +contextual -implicitDefEqProofs (maxSteps := 100000000) only [laws_eqFlightS, subI, go_sem, ↓ite_not', Nat.reduceEqDiff, Nat.reduceLT, Nat.reduceLeDiff, ↓reduceIte, Nat.reduceAdd, Nat.reduceMul, Nat.reduceSub, Int.reduceEq, Int.reduceLT, Int.reduceLE, Int.reduceToNat, Int.cast_ofNat_Int, Nat.reduceBEq] <;> rfl
-- laws.eqReport
def laws_eqReport (p0 : SReport) (p1 : SReport) : Bool :=
  if (p0.Number != p1.Number) = true then false
  else if (p0.Got != p1.Got) = true then false
    else true
@[go_sem] theorem laws_eqReport_ok (n : Nat) (q0_0 : Int) (q0_1 : Int) (q1_0 : Int) (q1_1 : Int) : lev tab (n + 1) 95 [.agg [.int .i64 q0_0, .int .i64 q0_1], .agg [.int .i64 q1_0, .int .i64 q1_1]] = (some (laws_eqReport (SReport.mk q0_0 q0_1) (SReport.mk q1_0 q1_1))).map fun r => (.bool r, [.gone, .gone]) := by
  rw [lev_st (vc := c95) (nt := 15) (rs := [(4, none)]) rfl rfl (Nat.le_of_ble_eq_true rfl)]
  unfold c95
  simp +contextual -implicitDefEqProofs (maxSteps := 100000000) only [laws_eqReport, subI, go_sem, ↓ite_not', Nat.reduceEqDiff, Nat.reduceLT, Nat.reduceLeDiff, ↓reduceIte, Nat.reduceAdd, Nat.reduceMul, Nat.reduceSub, Int.reduceEq, Int.reduceLT, Int.reduceLE, Int.reduceToNat, Int.cast_ofNat_Int, Nat.reduceBEq] <;> rfl
-- laws.eqNote
def laws_eqNote (p0 : SNote) (p1 : SNote) : Bool :=
  if (p0.Due != p1.Due) = true then false
  else if (laws_eqReport p0.Report p1.Report) = true then true
    else false
@[go_sem] theorem laws_eqNote_ok (n : Nat) (q0_0 : Int) (q0_1 : Int) (q0_2 : Int) (q1_0 : Int) (q1_1 : Int) (q1_2 : Int) : lev tab (n + 2) 74 [.agg [.int .i64 q0_0, .int .i64 q0_1, .int .i64 q0_2], .agg [.int .i64 q1_0, .int .i64 q1_1, .int .i64 q1_2]] = (some (laws_eqNote (SNote.mk q0_0 (SReport.mk q0_1 q0_2)) (SNote.mk q1_0 (SReport.mk q1_1 q1_2)))).map fun r => (.bool r, [.gone, .gone]) := by
  rw [lev_st (vc := c74) (nt := 16) (rs := [(4, none)]) rfl rfl (Nat.le_of_ble_eq_true rfl)]
  unfold c74
  simp +contextual -implicitDefEqProofs (maxSteps := 100000000) only [laws_eqNote, subI, go_sem, ↓ite_not', Nat.reduceEqDiff, Nat.reduceLT, Nat.reduceLeDiff, ↓reduceIte, Nat.reduceAdd, Nat.reduceMul, Nat.reduceSub, Int.reduceEq, Int.reduceLT, Int.reduceLE, Int.reduceToNat, Int.cast_ofNat_Int, Nat.reduceBEq] <;> rfl
-- laws.eqNoteS
def laws_eqNoteS_s1 (a6 : List SNote) (a7 : List SNote) : Int → Option ((Int) ⊕ (Unit ⊕ Unit)) := fun a8 =>
  if (decide (a8 < (a6.length : Int))) = true then (getI a6 a8).bind fun x9 =>
    (getI a7 a8).bind fun x10 =>
    if (laws_eqNote x9 x10) = true then some ((.inl ((IntKind.i64.wrap (a8 + 1)))))
    else some ((.inr ((.inr (())))))
  else some ((.inr ((.inl (())))))
def laws_eqNoteS (p0 : List SNote) (p1 : List SNote) : Option (Bool) :=
  if ((p0.length : Int) != (p1.length : Int)) = true then some false
  else (loopO (laws_eqNoteS_s1 p0 p1) 0).bind fun t => (Sum.elim (fun y11 => some true)
     (fun y12 => some false)) t
@[go_sem] theorem laws_eqNoteS_s1_ok {β : Type} (n : Nat) (K : List (Kont β)) (a6 : List SNote) (a7 : List SNote) (a8 : Int) : run ⟨tab.own, lev tab (n + 2), tab.gl⟩ K (.loop c35_u1) ⟨[(0, .val (.sh .lent 3 (rowE (SNote.cells .lent) a6))), (1, .val (.sh .lent 3 (rowE (SNote.cells .lent) a7))), (5, .val (.int .i64 a8))], [], 27⟩ = (loopO (laws_eqNoteS_s1 a6 a7) a8).bind (fun t => (Sum.elim (fun t => plug ⟨tab.own, lev tab (n + 2), tab.gl⟩ K (.exit 0) ⟨[], [], 27⟩) (fun t => plug ⟨tab.own, lev tab (n + 2), tab.gl⟩ K .ret ⟨[(4, .val (.bool false))], [], 27⟩)) t) := by
  refine loop_run (C := ⟨tab.own, lev tab (n + 2), tab.gl⟩) (K := K) (c := c35_u1) (laws_eqNoteS_s1 a6 a7) (fun s => ⟨[(0, .val (.sh .lent 3 (rowE (SNote.cells .lent) a6))), (1, .val (.sh .lent 3 (rowE (SNote.cells .lent) a7))), (5, .val (.int .i64 s))], [], 27⟩) (fun t => (Sum.elim (fun t => plug ⟨tab.own, lev tab (n + 2), tab.gl⟩ K (.exit 0) ⟨[], [], 27⟩) (fun t => plug ⟨tab.own, lev tab (n + 2), tab.gl⟩ K .ret ⟨[(4, .val (.bool false))], [], 27⟩)) t) (fun k s => ?_) a8
  unfold c35_u1
  simp +contextual -implicitDefEqProofs (maxSteps := 100000000) only [laws_eqNoteS_s1, subI, go_sem, ↓ite_not', Nat.reduceEqDiff, Nat.reduceLT, Nat.reduceLeDiff, ↓reduceIte, Nat.reduceAdd, Nat.reduceMul, Nat.reduceSub, Int.reduceEq, Int.reduceLT, Int.reduceLE, Int.reduceToNat, Int.cast_ofNat_Int, Nat.reduceBEq] <;> rfl
@[go_sem] theorem laws_eqNoteS_ok (n : Nat) (q0_0 : List SNote) (q1_0 : List SNote) : lev tab (n + 3) 35 [.sh .lent 3 (rowE (SNote.cells .lent) q0_0), .sh .lent 3 (rowE (SNote.cells .lent) q1_0)] = (laws_eqNoteS q0_0 q1_0).map fun r => (.bool r, [.gone, .gone]) := by
  rw [lev_st (vc := c35) (nt := 27) (rs := [(4, none)]) rfl rfl (Nat.le_of_ble_eq_true rfl)]
  unfold c35
  simp +contextual -implicitDefEqProofs (maxSteps := 100000000) only [laws_eqNoteS, subI, go_sem, ↓ite_not', Nat.reduceEqDiff, Nat.reduceLT, Nat.reduceLeDiff, ↓reduceIte, Nat.reduceAdd, Nat.reduceMul, Nat.reduceSub, Int.reduceEq, Int.reduceLT, Int.reduceLE, Int.reduceToNat, Int.cast_ofNat_Int, Nat.reduceBEq] <;> rfl
-- laws.eqSession
def laws_eqSession (p0 : SSession) (p1 : SSession) : Option (Bool) :=
  (laws_eqSender p0.Sender p1.Sender).bind fun r1 =>
  if r1 = true then (laws_eqReceiver p0.Receiver p1.Receiver).bind fun r2 =>
    if r2 = true then (laws_eqScheduler p0.Scheduler p1.Scheduler).bind fun r3 =>
      if r3 = true then if (p0.Tick != p1.Tick) = true then some false
        else if (p0.Wait != p1.Wait) = true then some false
          else (laws_eqFlightS p0.Flights p1.Flights).bind fun r4 =>
            if r4 = true then (laws_eqNoteS p0.Notes p1.Notes).bind fun r5 =>
              if r5 = true then some true
              else some false
            else some false
      else some false
    else some false
  else some false
@[go_sem] theorem laws_eqSession_ok (n : Nat) (q0_0 : Int) (q0_1 : Int) (q0_2 : Int) (q0_3 : Int) (q0_4 : Int) (q0_5 : List Int) (q0_6 : List Int) (q0_7 : Bool) (q0_8 : Int) (q0_9 : Int) (q0_10 : List Int) (q0_11 : Bool) (q0_12 : Int) (q0_13 : Int) (q0_14 : List Int) (q0_15 : Int) (q0_16 : Int) (q0_17 : Int) (q0_18 : Int) (q0_19 : List SHeld) (q0_20 : Bool) (q0_21 : Int) (q0_22 : Int) (q0_23 : List Int) (q0_24 : Bool) (q0_25 : Int) (q0_26 : Int) (q0_27 : List Int) (q0_28 : Int) (q0_29 : List Int) (q0_30 : List Int) (q0_31 : List Int) (q0_32 : Int) (q0_33 : Int) (q0_34 : List Int) (q0_35 : Int) (q0_36 : Int) (q0_37 : List SFlight) (q0_38 : List SNote) (q1_0 : Int) (q1_1 : Int) (q1_2 : Int) (q1_3 : Int) (q1_4 : Int) (q1_5 : List Int) (q1_6 : List Int) (q1_7 : Bool) (q1_8 : Int) (q1_9 : Int) (q1_10 : List Int) (q1_11 : Bool) (q1_12 : Int) (q1_13 : Int) (q1_14 : List Int) (q1_15 : Int) (q1_16 : Int) (q1_17 : Int) (q1_18 : Int) (q1_19 : List SHeld) (q1_20 : Bool) (q1_21 : Int) (q1_22 : Int) (q1_23 : List Int) (q1_24 : Bool) (q1_25 : Int) (q1_26 : Int) (q1_27 : List Int) (q1_28 : Int) (q1_29 : List Int) (q1_30 : List Int) (q1_31 : List Int) (q1_32 : Int) (q1_33 : Int) (q1_34 : List Int) (q1_35 : Int) (q1_36 : Int) (q1_37 : List SFlight) (q1_38 : List SNote) : lev tab (n + 5) 8 [.agg [.int .i64 q0_0, .int .i64 q0_1, .int .i64 q0_2, .int .i64 q0_3, .int .i64 q0_4, .sh .lent 1 (rowE (eI .i64) q0_5), .sh .lent 1 (rowE (eI .i64) q0_6), .bool q0_7, .int .i64 q0_8, .int .i64 q0_9, .sh .lent 1 (rowE (eI .i64) q0_10), .bool q0_11, .int .i64 q0_12, .int .i64 q0_13, .sh .lent 1 (rowE (eI .i64) q0_14), .int .i64 q0_15, .int .i64 q0_16, .int .i64 q0_17, .int .i64 q0_18, .sh .lent 3 (rowE (SHeld.cells .lent) q0_19), .bool q0_20, .int .i64 q0_21, .int .i64 q0_22, .sh .lent 1 (rowE (eI .i64) q0_23), .bool q0_24, .int .i64 q0_25, .int .i64 q0_26, .sh .lent 1 (rowE (eI .i64) q0_27), .int .i64 q0_28, .sh .lent 1 (rowE (eI .i64) q0_29), .sh .lent 1 (rowE (eI .i64) q0_30), .sh .lent 1 (rowE (eI .i64) q0_31), .int .i64 q0_32, .int .i64 q0_33, .sh .lent 1 (rowE (eI .i64) q0_34), .int .i64 q0_35, .int .i64 q0_36, .sh .lent 2 (rowE (SFlight.cells .lent) q0_37), .sh .lent 3 (rowE (SNote.cells .lent) q0_38)], .agg [.int .i64 q1_0, .int .i64 q1_1, .int .i64 q1_2, .int .i64 q1_3, .int .i64 q1_4, .sh .lent 1 (rowE (eI .i64) q1_5), .sh .lent 1 (rowE (eI .i64) q1_6), .bool q1_7, .int .i64 q1_8, .int .i64 q1_9, .sh .lent 1 (rowE (eI .i64) q1_10), .bool q1_11, .int .i64 q1_12, .int .i64 q1_13, .sh .lent 1 (rowE (eI .i64) q1_14), .int .i64 q1_15, .int .i64 q1_16, .int .i64 q1_17, .int .i64 q1_18, .sh .lent 3 (rowE (SHeld.cells .lent) q1_19), .bool q1_20, .int .i64 q1_21, .int .i64 q1_22, .sh .lent 1 (rowE (eI .i64) q1_23), .bool q1_24, .int .i64 q1_25, .int .i64 q1_26, .sh .lent 1 (rowE (eI .i64) q1_27), .int .i64 q1_28, .sh .lent 1 (rowE (eI .i64) q1_29), .sh .lent 1 (rowE (eI .i64) q1_30), .sh .lent 1 (rowE (eI .i64) q1_31), .int .i64 q1_32, .int .i64 q1_33, .sh .lent 1 (rowE (eI .i64) q1_34), .int .i64 q1_35, .int .i64 q1_36, .sh .lent 2 (rowE (SFlight.cells .lent) q1_37), .sh .lent 3 (rowE (SNote.cells .lent) q1_38)]] = (laws_eqSession (SSession.mk (SSender.mk q0_0 q0_1 q0_2 q0_3 (SLap.mk q0_4 q0_5 q0_6) (SAnchor.mk q0_7 q0_8 q0_9 q0_10) (SAnchor.mk q0_11 q0_12 q0_13 q0_14) q0_15 q0_16) (SReceiver.mk q0_17 q0_18 q0_19 (SAnchor.mk q0_20 q0_21 q0_22 q0_23) (SAnchor.mk q0_24 q0_25 q0_26 q0_27) (SSynth.mk q0_28 q0_29 q0_30) q0_31 q0_32) (SScheduler.mk q0_33 q0_34) q0_35 q0_36 q0_37 q0_38) (SSession.mk (SSender.mk q1_0 q1_1 q1_2 q1_3 (SLap.mk q1_4 q1_5 q1_6) (SAnchor.mk q1_7 q1_8 q1_9 q1_10) (SAnchor.mk q1_11 q1_12 q1_13 q1_14) q1_15 q1_16) (SReceiver.mk q1_17 q1_18 q1_19 (SAnchor.mk q1_20 q1_21 q1_22 q1_23) (SAnchor.mk q1_24 q1_25 q1_26 q1_27) (SSynth.mk q1_28 q1_29 q1_30) q1_31 q1_32) (SScheduler.mk q1_33 q1_34) q1_35 q1_36 q1_37 q1_38)).map fun r => (.bool r, [.gone, .gone]) := by
  rw [lev_st (vc := c8) (nt := 45) (rs := [(4, none)]) rfl rfl (Nat.le_of_ble_eq_true rfl)]
  unfold c8
  simp +contextual -implicitDefEqProofs (maxSteps := 100000000) only [laws_eqSession, subI, go_sem, ↓ite_not', Nat.reduceEqDiff, Nat.reduceLT, Nat.reduceLeDiff, ↓reduceIte, Nat.reduceAdd, Nat.reduceMul, Nat.reduceSub, Int.reduceEq, Int.reduceLT, Int.reduceLE, Int.reduceToNat, Int.cast_ofNat_Int, Nat.reduceBEq] <;> rfl
-- laws.FnExactSessionFault
def laws_FnExactSessionFault (p0 : SSession) : Option (Bool) :=
  (laws_szSession p0 1048576).bind fun r1 =>
  if (decide (r1 < 0)) = true then some true
  else (laws_toSession p0).bind fun r2 =>
    (spec_SessionFault r2).bind fun r3 =>
    (laws_toSession p0).bind fun r4 =>
    (impl_SessionFault r4).bind fun r5 =>
    if (r5 != r3) = true then some false
    else (laws_toSession p0).bind fun r6 =>
      (laws_eqSession r4 r6).bind fun r7 =>
      if r7 = true then some true
      else some false
@[go_sem] theorem laws_FnExactSessionFault_ok (n : Nat) (q0_0 : Int) (q0_1 : Int) (q0_2 : Int) (q0_3 : Int) (q0_4 : Int) (q0_5 : List Int) (q0_6 : List Int) (q0_7 : Bool) (q0_8 : Int) (q0_9 : Int) (q0_10 : List Int) (q0_11 : Bool) (q0_12 : Int) (q0_13 : Int) (q0_14 : List Int) (q0_15 : Int) (q0_16 : Int) (q0_17 : Int) (q0_18 : Int) (q0_19 : List SHeld) (q0_20 : Bool) (q0_21 : Int) (q0_22 : Int) (q0_23 : List Int) (q0_24 : Bool) (q0_25 : Int) (q0_26 : Int) (q0_27 : List Int) (q0_28 : Int) (q0_29 : List Int) (q0_30 : List Int) (q0_31 : List Int) (q0_32 : Int) (q0_33 : Int) (q0_34 : List Int) (q0_35 : Int) (q0_36 : Int) (q0_37 : List SFlight) (q0_38 : List SNote) : lev tab (n + 10) 3 [.agg [.int .i64 q0_0, .int .i64 q0_1, .int .i64 q0_2, .int .i64 q0_3, .int .i64 q0_4, .sh .lent 1 (rowE (eI .i64) q0_5), .sh .lent 1 (rowE (eI .i64) q0_6), .bool q0_7, .int .i64 q0_8, .int .i64 q0_9, .sh .lent 1 (rowE (eI .i64) q0_10), .bool q0_11, .int .i64 q0_12, .int .i64 q0_13, .sh .lent 1 (rowE (eI .i64) q0_14), .int .i64 q0_15, .int .i64 q0_16, .int .i64 q0_17, .int .i64 q0_18, .sh .lent 3 (rowE (SHeld.cells .lent) q0_19), .bool q0_20, .int .i64 q0_21, .int .i64 q0_22, .sh .lent 1 (rowE (eI .i64) q0_23), .bool q0_24, .int .i64 q0_25, .int .i64 q0_26, .sh .lent 1 (rowE (eI .i64) q0_27), .int .i64 q0_28, .sh .lent 1 (rowE (eI .i64) q0_29), .sh .lent 1 (rowE (eI .i64) q0_30), .sh .lent 1 (rowE (eI .i64) q0_31), .int .i64 q0_32, .int .i64 q0_33, .sh .lent 1 (rowE (eI .i64) q0_34), .int .i64 q0_35, .int .i64 q0_36, .sh .lent 2 (rowE (SFlight.cells .lent) q0_37), .sh .lent 3 (rowE (SNote.cells .lent) q0_38)]] = (laws_FnExactSessionFault (SSession.mk (SSender.mk q0_0 q0_1 q0_2 q0_3 (SLap.mk q0_4 q0_5 q0_6) (SAnchor.mk q0_7 q0_8 q0_9 q0_10) (SAnchor.mk q0_11 q0_12 q0_13 q0_14) q0_15 q0_16) (SReceiver.mk q0_17 q0_18 q0_19 (SAnchor.mk q0_20 q0_21 q0_22 q0_23) (SAnchor.mk q0_24 q0_25 q0_26 q0_27) (SSynth.mk q0_28 q0_29 q0_30) q0_31 q0_32) (SScheduler.mk q0_33 q0_34) q0_35 q0_36 q0_37 q0_38)).map fun r => (.bool r, [.gone]) := by
  rw [lev_st (vc := c3) (nt := 27) (rs := [(2, none)]) rfl rfl (Nat.le_of_ble_eq_true rfl)]
  unfold c3
  simp +contextual -implicitDefEqProofs (maxSteps := 100000000) only [laws_FnExactSessionFault, subI, go_sem, ↓ite_not', Nat.reduceEqDiff, Nat.reduceLT, Nat.reduceLeDiff, ↓reduceIte, Nat.reduceAdd, Nat.reduceMul, Nat.reduceSub, Int.reduceEq, Int.reduceLT, Int.reduceLE, Int.reduceToNat, Int.cast_ofNat_Int, Nat.reduceBEq] <;> rfl
def SLap.Wf (s : SLap) : Prop := (WfI .i64 s.Size) ∧ (((s.Half.length : Int) ≤ maxI ∧ ∀ x ∈ s.Half, WfI .i64 x)) ∧ (((s.Rest.length : Int) ≤ maxI ∧ ∀ x ∈ s.Rest, WfI .i64 x))
theorem SLap.of {ds : List D} (h : OkL [.int .i64, .sl 1 [.int .i64], .sl 1 [.int .i64]] ds) : ∃ s : SLap, ds = s.cells .lent ∧ s.Wf := by
  simp only [OkL, OkD] at h
  obtain ⟨_, _, rfl, ⟨x0, rfl, hx0⟩, ⟨_, _, rfl, ⟨x1, rfl, lx1, hx1⟩, ⟨_, _, rfl, ⟨x2, rfl, lx2, hx2⟩, rfl⟩⟩⟩ := h
  obtain ⟨yx1, rfl, wx1⟩ := rows_of (f := (eI .i64)) (W := fun x => WfI .i64 x) (fun el h => row_int h) hx1
  rw [rowE_len] at lx1
  obtain ⟨yx2, rfl, wx2⟩ := rows_of (f := (eI .i64)) (W := fun x => WfI .i64 x) (fun el h => row_int h) hx2
  rw [rowE_len] at lx2
  exact ⟨⟨x0, yx1, yx2⟩, rfl, ⟨⟨hx0.1, hx0.2⟩, ⟨lx1, wx1⟩, ⟨lx2, wx2⟩⟩⟩
def SAnchor.Wf (s : SAnchor) : Prop := (True) ∧ (WfI .i64 s.Number) ∧ (WfI .i64 s.Rung) ∧ (((s.Gains.length : Int) ≤ maxI ∧ ∀ x ∈ s.Gains, WfI .i64 x))
theorem SAnchor.of {ds : List D} (h : OkL [.bool, .int .i64, .int .i64, .sl 1 [.int .i64]] ds) : ∃ s : SAnchor, ds = s.cells .lent ∧ s.Wf := by
  simp only [OkL, OkD] at h
  obtain ⟨_, _, rfl, ⟨x0, rfl⟩, ⟨_, _, rfl, ⟨x1, rfl, hx1⟩, ⟨_, _, rfl, ⟨x2, rfl, hx2⟩, ⟨_, _, rfl, ⟨x3, rfl, lx3, hx3⟩, rfl⟩⟩⟩⟩ := h
  obtain ⟨yx3, rfl, wx3⟩ := rows_of (f := (eI .i64)) (W := fun x => WfI .i64 x) (fun el h => row_int h) hx3
  rw [rowE_len] at lx3
  exact ⟨⟨x0, x1, x2, yx3⟩, rfl, ⟨trivial, ⟨hx1.1, hx1.2⟩, ⟨hx2.1, hx2.2⟩, ⟨lx3, wx3⟩⟩⟩
def SSender.Wf (s : SSender) : Prop := (WfI .i64 s.Size) ∧ (WfI .i64 s.Budget) ∧ (WfI .i64 s.Refresh) ∧ (WfI .i64 s.Number) ∧ (SLap.Wf s.Lap) ∧ (SAnchor.Wf s.A) ∧ (SAnchor.Wf s.B) ∧ (WfI .i64 s.SinceA) ∧ (WfI .i64 s.SinceB)
theorem SSender.of {ds : List D} (h : OkL [.int .i64, .int .i64, .int .i64, .int .i64, .int .i64, .sl 1 [.int .i64], .sl 1 [.int .i64], .bool, .int .i64, .int .i64, .sl 1 [.int .i64], .bool, .int .i64, .int .i64, .sl 1 [.int .i64], .int .i64, .int .i64] ds) : ∃ s : SSender, ds = s.cells .lent ∧ s.Wf := by
  simp only [OkL, OkD] at h
  obtain ⟨_, _, rfl, ⟨x0, rfl, hx0⟩, ⟨_, _, rfl, ⟨x1, rfl, hx1⟩, ⟨_, _, rfl, ⟨x2, rfl, hx2⟩, ⟨_, _, rfl, ⟨x3, rfl, hx3⟩, ⟨_, _, rfl, ⟨x4, rfl, hx4⟩, ⟨_, _, rfl, ⟨x5, rfl, lx5, hx5⟩, ⟨_, _, rfl, ⟨x6, rfl, lx6, hx6⟩, ⟨_, _, rfl, ⟨x7, rfl⟩, ⟨_, _, rfl, ⟨x8, rfl, hx8⟩, ⟨_, _, rfl, ⟨x9, rfl, hx9⟩, ⟨_, _, rfl, ⟨x10, rfl, lx10, hx10⟩, ⟨_, _, rfl, ⟨x11, rfl⟩, ⟨_, _, rfl, ⟨x12, rfl, hx12⟩, ⟨_, _, rfl, ⟨x13, rfl, hx13⟩, ⟨_, _, rfl, ⟨x14, rfl, lx14, hx14⟩, ⟨_, _, rfl, ⟨x15, rfl, hx15⟩, ⟨_, _, rfl, ⟨x16, rfl, hx16⟩, rfl⟩⟩⟩⟩⟩⟩⟩⟩⟩⟩⟩⟩⟩⟩⟩⟩⟩ := h
  obtain ⟨yx5, rfl, wx5⟩ := rows_of (f := (eI .i64)) (W := fun x => WfI .i64 x) (fun el h => row_int h) hx5
  rw [rowE_len] at lx5
  obtain ⟨yx6, rfl, wx6⟩ := rows_of (f := (eI .i64)) (W := fun x => WfI .i64 x) (fun el h => row_int h) hx6
  rw [rowE_len] at lx6
  obtain ⟨yx10, rfl, wx10⟩ := rows_of (f := (eI .i64)) (W := fun x => WfI .i64 x) (fun el h => row_int h) hx10
  rw [rowE_len] at lx10
  obtain ⟨yx14, rfl, wx14⟩ := rows_of (f := (eI .i64)) (W := fun x => WfI .i64 x) (fun el h => row_int h) hx14
  rw [rowE_len] at lx14
  exact ⟨⟨x0, x1, x2, x3, ⟨x4, yx5, yx6⟩, ⟨x7, x8, x9, yx10⟩, ⟨x11, x12, x13, yx14⟩, x15, x16⟩, rfl, ⟨⟨hx0.1, hx0.2⟩, ⟨hx1.1, hx1.2⟩, ⟨hx2.1, hx2.2⟩, ⟨hx3.1, hx3.2⟩, ⟨⟨hx4.1, hx4.2⟩, ⟨lx5, wx5⟩, ⟨lx6, wx6⟩⟩, ⟨trivial, ⟨hx8.1, hx8.2⟩, ⟨hx9.1, hx9.2⟩, ⟨lx10, wx10⟩⟩, ⟨trivial, ⟨hx12.1, hx12.2⟩, ⟨hx13.1, hx13.2⟩, ⟨lx14, wx14⟩⟩, ⟨hx15.1, hx15.2⟩, ⟨hx16.1, hx16.2⟩⟩⟩
def SHeld.Wf (s : SHeld) : Prop := (WfI .i64 s.Number) ∧ (WfI .i64 s.Side) ∧ (((s.Data.length : Int) ≤ maxI ∧ ∀ x ∈ s.Data, WfI .u8 x))
theorem SHeld.of {ds : List D} (h : OkL [.int .i64, .int .i64, .sl 1 [.int .u8]] ds) : ∃ s : SHeld, ds = s.cells .lent ∧ s.Wf := by
  simp only [OkL, OkD] at h
  obtain ⟨_, _, rfl, ⟨x0, rfl, hx0⟩, ⟨_, _, rfl, ⟨x1, rfl, hx1⟩, ⟨_, _, rfl, ⟨x2, rfl, lx2, hx2⟩, rfl⟩⟩⟩ := h
  obtain ⟨yx2, rfl, wx2⟩ := rows_of (f := (eI .u8)) (W := fun x => WfI .u8 x) (fun el h => row_int h) hx2
  rw [rowE_len] at lx2
  exact ⟨⟨x0, x1, yx2⟩, rfl, ⟨⟨hx0.1, hx0.2⟩, ⟨hx1.1, hx1.2⟩, ⟨lx2, wx2⟩⟩⟩
def SSynth.Wf (s : SSynth) : Prop := (WfI .i64 s.Size) ∧ (((s.Head.length : Int) ≤ maxI ∧ ∀ x ∈ s.Head, WfI .i64 x)) ∧ (((s.Tail.length : Int) ≤ maxI ∧ ∀ x ∈ s.Tail, WfI .i64 x))
theorem SSynth.of {ds : List D} (h : OkL [.int .i64, .sl 1 [.int .i64], .sl 1 [.int .i64]] ds) : ∃ s : SSynth, ds = s.cells .lent ∧ s.Wf := by
  simp only [OkL, OkD] at h
  obtain ⟨_, _, rfl, ⟨x0, rfl, hx0⟩, ⟨_, _, rfl, ⟨x1, rfl, lx1, hx1⟩, ⟨_, _, rfl, ⟨x2, rfl, lx2, hx2⟩, rfl⟩⟩⟩ := h
  obtain ⟨yx1, rfl, wx1⟩ := rows_of (f := (eI .i64)) (W := fun x => WfI .i64 x) (fun el h => row_int h) hx1
  rw [rowE_len] at lx1
  obtain ⟨yx2, rfl, wx2⟩ := rows_of (f := (eI .i64)) (W := fun x => WfI .i64 x) (fun el h => row_int h) hx2
  rw [rowE_len] at lx2
  exact ⟨⟨x0, yx1, yx2⟩, rfl, ⟨⟨hx0.1, hx0.2⟩, ⟨lx1, wx1⟩, ⟨lx2, wx2⟩⟩⟩
def SReceiver.Wf (s : SReceiver) : Prop := (WfI .i64 s.Size) ∧ (WfI .i64 s.Next) ∧ (((s.Held.length : Int) ≤ maxI ∧ ∀ x ∈ s.Held, SHeld.Wf x)) ∧ (SAnchor.Wf s.A) ∧ (SAnchor.Wf s.B) ∧ (SSynth.Wf s.Synth) ∧ (((s.Last.length : Int) ≤ maxI ∧ ∀ x ∈ s.Last, WfI .i64 x)) ∧ (WfI .i64 s.Lost)
theorem SReceiver.of {ds : List D} (h : OkL [.int .i64, .int .i64, .sl 3 [.int .i64, .int .i64, .sl 1 [.int .u8]], .bool, .int .i64, .int .i64, .sl 1 [.int .i64], .bool, .int .i64, .int .i64, .sl 1 [.int .i64], .int .i64, .sl 1 [.int .i64], .sl 1 [.int .i64], .sl 1 [.int .i64], .int .i64] ds) : ∃ s : SReceiver, ds = s.cells .lent ∧ s.Wf := by
  simp only [OkL, OkD] at h
  obtain ⟨_, _, rfl, ⟨x0, rfl, hx0⟩, ⟨_, _, rfl, ⟨x1, rfl, hx1⟩, ⟨_, _, rfl, ⟨x2, rfl, lx2, hx2⟩, ⟨_, _, rfl, ⟨x3, rfl⟩, ⟨_, _, rfl, ⟨x4, rfl, hx4⟩, ⟨_, _, rfl, ⟨x5, rfl, hx5⟩, ⟨_, _, rfl, ⟨x6, rfl, lx6, hx6⟩, ⟨_, _, rfl, ⟨x7, rfl⟩, ⟨_, _, rfl, ⟨x8, rfl, hx8⟩, ⟨_, _, rfl, ⟨x9, rfl, hx9⟩, ⟨_, _, rfl, ⟨x10, rfl, lx10, hx10⟩, ⟨_, _, rfl, ⟨x11, rfl, hx11⟩, ⟨_, _, rfl, ⟨x12, rfl, lx12, hx12⟩, ⟨_, _, rfl, ⟨x13, rfl, lx13, hx13⟩, ⟨_, _, rfl, ⟨x14, rfl, lx14, hx14⟩, ⟨_, _, rfl, ⟨x15, rfl, hx15⟩, rfl⟩⟩⟩⟩⟩⟩⟩⟩⟩⟩⟩⟩⟩⟩⟩⟩ := h
  obtain ⟨yx2, rfl, wx2⟩ := rows_of (f := (SHeld.cells .lent)) (W := fun x => SHeld.Wf x) (fun el h => SHeld.of h) hx2
  rw [rowE_len] at lx2
  obtain ⟨yx6, rfl, wx6⟩ := rows_of (f := (eI .i64)) (W := fun x => WfI .i64 x) (fun el h => row_int h) hx6
  rw [rowE_len] at lx6
  obtain ⟨yx10, rfl, wx10⟩ := rows_of (f := (eI .i64)) (W := fun x => WfI .i64 x) (fun el h => row_int h) hx10
  rw [rowE_len] at lx10
  obtain ⟨yx12, rfl, wx12⟩ := rows_of (f := (eI .i64)) (W := fun x => WfI .i64 x) (fun el h => row_int h) hx12
  rw [rowE_len] at lx12
  obtain ⟨yx13, rfl, wx13⟩ := rows_of (f := (eI .i64)) (W := fun x => WfI .i64 x) (fun el h => row_int h) hx13
  rw [rowE_len] at lx13
  obtain ⟨yx14, rfl, wx14⟩ := rows_of (f := (eI .i64)) (W := fun x => WfI .i64 x) (fun el h => row_int h) hx14
  rw [rowE_len] at lx14
  exact ⟨⟨x0, x1, yx2, ⟨x3, x4, x5, yx6⟩, ⟨x7, x8, x9, yx10⟩, ⟨x11, yx12, yx13⟩, yx14, x15⟩, rfl, ⟨⟨hx0.1, hx0.2⟩, ⟨hx1.1, hx1.2⟩, ⟨lx2, wx2⟩, ⟨trivial, ⟨hx4.1, hx4.2⟩, ⟨hx5.1, hx5.2⟩, ⟨lx6, wx6⟩⟩, ⟨trivial, ⟨hx8.1, hx8.2⟩, ⟨hx9.1, hx9.2⟩, ⟨lx10, wx10⟩⟩, ⟨⟨hx11.1, hx11.2⟩, ⟨lx12, wx12⟩, ⟨lx13, wx13⟩⟩, ⟨lx14, wx14⟩, ⟨hx15.1, hx15.2⟩⟩⟩
def SScheduler.Wf (s : SScheduler) : Prop := (WfI .i64 s.Last) ∧ (((s.Window.length : Int) ≤ maxI ∧ ∀ x ∈ s.Window, WfI .i64 x))
theorem SScheduler.of {ds : List D} (h : OkL [.int .i64, .sl 1 [.int .i64]] ds) : ∃ s : SScheduler, ds = s.cells .lent ∧ s.Wf := by
  simp only [OkL, OkD] at h
  obtain ⟨_, _, rfl, ⟨x0, rfl, hx0⟩, ⟨_, _, rfl, ⟨x1, rfl, lx1, hx1⟩, rfl⟩⟩ := h
  obtain ⟨yx1, rfl, wx1⟩ := rows_of (f := (eI .i64)) (W := fun x => WfI .i64 x) (fun el h => row_int h) hx1
  rw [rowE_len] at lx1
  exact ⟨⟨x0, yx1⟩, rfl, ⟨⟨hx0.1, hx0.2⟩, ⟨lx1, wx1⟩⟩⟩
def SFlight.Wf (s : SFlight) : Prop := (WfI .i64 s.Due) ∧ (((s.Data.length : Int) ≤ maxI ∧ ∀ x ∈ s.Data, WfI .u8 x))
theorem SFlight.of {ds : List D} (h : OkL [.int .i64, .sl 1 [.int .u8]] ds) : ∃ s : SFlight, ds = s.cells .lent ∧ s.Wf := by
  simp only [OkL, OkD] at h
  obtain ⟨_, _, rfl, ⟨x0, rfl, hx0⟩, ⟨_, _, rfl, ⟨x1, rfl, lx1, hx1⟩, rfl⟩⟩ := h
  obtain ⟨yx1, rfl, wx1⟩ := rows_of (f := (eI .u8)) (W := fun x => WfI .u8 x) (fun el h => row_int h) hx1
  rw [rowE_len] at lx1
  exact ⟨⟨x0, yx1⟩, rfl, ⟨⟨hx0.1, hx0.2⟩, ⟨lx1, wx1⟩⟩⟩
def SReport.Wf (s : SReport) : Prop := (WfI .i64 s.Number) ∧ (WfI .i64 s.Got)
theorem SReport.of {ds : List D} (h : OkL [.int .i64, .int .i64] ds) : ∃ s : SReport, ds = s.cells .lent ∧ s.Wf := by
  simp only [OkL, OkD] at h
  obtain ⟨_, _, rfl, ⟨x0, rfl, hx0⟩, ⟨_, _, rfl, ⟨x1, rfl, hx1⟩, rfl⟩⟩ := h
  exact ⟨⟨x0, x1⟩, rfl, ⟨⟨hx0.1, hx0.2⟩, ⟨hx1.1, hx1.2⟩⟩⟩
def SNote.Wf (s : SNote) : Prop := (WfI .i64 s.Due) ∧ (SReport.Wf s.Report)
theorem SNote.of {ds : List D} (h : OkL [.int .i64, .int .i64, .int .i64] ds) : ∃ s : SNote, ds = s.cells .lent ∧ s.Wf := by
  simp only [OkL, OkD] at h
  obtain ⟨_, _, rfl, ⟨x0, rfl, hx0⟩, ⟨_, _, rfl, ⟨x1, rfl, hx1⟩, ⟨_, _, rfl, ⟨x2, rfl, hx2⟩, rfl⟩⟩⟩ := h
  exact ⟨⟨x0, ⟨x1, x2⟩⟩, rfl, ⟨⟨hx0.1, hx0.2⟩, ⟨⟨hx1.1, hx1.2⟩, ⟨hx2.1, hx2.2⟩⟩⟩⟩
def SSession.Wf (s : SSession) : Prop := (SSender.Wf s.Sender) ∧ (SReceiver.Wf s.Receiver) ∧ (SScheduler.Wf s.Scheduler) ∧ (WfI .i64 s.Tick) ∧ (WfI .i64 s.Wait) ∧ (((s.Flights.length : Int) ≤ maxI ∧ ∀ x ∈ s.Flights, SFlight.Wf x)) ∧ (((s.Notes.length : Int) ≤ maxI ∧ ∀ x ∈ s.Notes, SNote.Wf x))
theorem SSession.of {ds : List D} (h : OkL [.int .i64, .int .i64, .int .i64, .int .i64, .int .i64, .sl 1 [.int .i64], .sl 1 [.int .i64], .bool, .int .i64, .int .i64, .sl 1 [.int .i64], .bool, .int .i64, .int .i64, .sl 1 [.int .i64], .int .i64, .int .i64, .int .i64, .int .i64, .sl 3 [.int .i64, .int .i64, .sl 1 [.int .u8]], .bool, .int .i64, .int .i64, .sl 1 [.int .i64], .bool, .int .i64, .int .i64, .sl 1 [.int .i64], .int .i64, .sl 1 [.int .i64], .sl 1 [.int .i64], .sl 1 [.int .i64], .int .i64, .int .i64, .sl 1 [.int .i64], .int .i64, .int .i64, .sl 2 [.int .i64, .sl 1 [.int .u8]], .sl 3 [.int .i64, .int .i64, .int .i64]] ds) : ∃ s : SSession, ds = s.cells .lent ∧ s.Wf := by
  simp only [OkL, OkD] at h
  obtain ⟨_, _, rfl, ⟨x0, rfl, hx0⟩, ⟨_, _, rfl, ⟨x1, rfl, hx1⟩, ⟨_, _, rfl, ⟨x2, rfl, hx2⟩, ⟨_, _, rfl, ⟨x3, rfl, hx3⟩, ⟨_, _, rfl, ⟨x4, rfl, hx4⟩, ⟨_, _, rfl, ⟨x5, rfl, lx5, hx5⟩, ⟨_, _, rfl, ⟨x6, rfl, lx6, hx6⟩, ⟨_, _, rfl, ⟨x7, rfl⟩, ⟨_, _, rfl, ⟨x8, rfl, hx8⟩, ⟨_, _, rfl, ⟨x9, rfl, hx9⟩, ⟨_, _, rfl, ⟨x10, rfl, lx10, hx10⟩, ⟨_, _, rfl, ⟨x11, rfl⟩, ⟨_, _, rfl, ⟨x12, rfl, hx12⟩, ⟨_, _, rfl, ⟨x13, rfl, hx13⟩, ⟨_, _, rfl, ⟨x14, rfl, lx14, hx14⟩, ⟨_, _, rfl, ⟨x15, rfl, hx15⟩, ⟨_, _, rfl, ⟨x16, rfl, hx16⟩, ⟨_, _, rfl, ⟨x17, rfl, hx17⟩, ⟨_, _, rfl, ⟨x18, rfl, hx18⟩, ⟨_, _, rfl, ⟨x19, rfl, lx19, hx19⟩, ⟨_, _, rfl, ⟨x20, rfl⟩, ⟨_, _, rfl, ⟨x21, rfl, hx21⟩, ⟨_, _, rfl, ⟨x22, rfl, hx22⟩, ⟨_, _, rfl, ⟨x23, rfl, lx23, hx23⟩, ⟨_, _, rfl, ⟨x24, rfl⟩, ⟨_, _, rfl, ⟨x25, rfl, hx25⟩, ⟨_, _, rfl, ⟨x26, rfl, hx26⟩, ⟨_, _, rfl, ⟨x27, rfl, lx27, hx27⟩, ⟨_, _, rfl, ⟨x28, rfl, hx28⟩, ⟨_, _, rfl, ⟨x29, rfl, lx29, hx29⟩, ⟨_, _, rfl, ⟨x30, rfl, lx30, hx30⟩, ⟨_, _, rfl, ⟨x31, rfl, lx31, hx31⟩, ⟨_, _, rfl, ⟨x32, rfl, hx32⟩, ⟨_, _, rfl, ⟨x33, rfl, hx33⟩, ⟨_, _, rfl, ⟨x34, rfl, lx34, hx34⟩, ⟨_, _, rfl, ⟨x35, rfl, hx35⟩, ⟨_, _, rfl, ⟨x36, rfl, hx36⟩, ⟨_, _, rfl, ⟨x37, rfl, lx37, hx37⟩, ⟨_, _, rfl, ⟨x38, rfl, lx38, hx38⟩, rfl⟩⟩⟩⟩⟩⟩⟩⟩⟩⟩⟩⟩⟩⟩⟩⟩⟩⟩⟩⟩⟩⟩⟩⟩⟩⟩⟩⟩⟩⟩⟩⟩⟩⟩⟩⟩⟩⟩⟩ := h
  obtain ⟨yx5, rfl, wx5⟩ := rows_of (f := (eI .i64)) (W := fun x => WfI .i64 x) (fun el h => row_int h) hx5
  rw [rowE_len] at lx5
  obtain ⟨yx6, rfl, wx6⟩ := rows_of (f := (eI .i64)) (W := fun x => WfI .i64 x) (fun el h => row_int h) hx6
  rw [rowE_len] at lx6
  obtain ⟨yx10, rfl, wx10⟩ := rows_of (f := (eI .i64)) (W := fun x => WfI .i64 x) (fun el h => row_int h) hx10
  rw [rowE_len] at lx10
  obtain ⟨yx14, rfl, wx14⟩ := rows_of (f := (eI .i64)) (W := fun x => WfI .i64 x) (fun el h => row_int h) hx14
  rw [rowE_len] at lx14
  obtain ⟨yx19, rfl, wx19⟩ := rows_of (f := (SHeld.cells .lent)) (W := fun x => SHeld.Wf x) (fun el h => SHeld.of h) hx19
  rw [rowE_len] at lx19
  obtain ⟨yx23, rfl, wx23⟩ := rows_of (f := (eI .i64)) (W := fun x => WfI .i64 x) (fun el h => row_int h) hx23
  rw [rowE_len] at lx23
  obtain ⟨yx27, rfl, wx27⟩ := rows_of (f := (eI .i64)) (W := fun x => WfI .i64 x) (fun el h => row_int h) hx27
  rw [rowE_len] at lx27
  obtain ⟨yx29, rfl, wx29⟩ := rows_of (f := (eI .i64)) (W := fun x => WfI .i64 x) (fun el h => row_int h) hx29
  rw [rowE_len] at lx29
  obtain ⟨yx30, rfl, wx30⟩ := rows_of (f := (eI .i64)) (W := fun x => WfI .i64 x) (fun el h => row_int h) hx30
  rw [rowE_len] at lx30
  obtain ⟨yx31, rfl, wx31⟩ := rows_of (f := (eI .i64)) (W := fun x => WfI .i64 x) (fun el h => row_int h) hx31
  rw [rowE_len] at lx31
  obtain ⟨yx34, rfl, wx34⟩ := rows_of (f := (eI .i64)) (W := fun x => WfI .i64 x) (fun el h => row_int h) hx34
  rw [rowE_len] at lx34
  obtain ⟨yx37, rfl, wx37⟩ := rows_of (f := (SFlight.cells .lent)) (W := fun x => SFlight.Wf x) (fun el h => SFlight.of h) hx37
  rw [rowE_len] at lx37
  obtain ⟨yx38, rfl, wx38⟩ := rows_of (f := (SNote.cells .lent)) (W := fun x => SNote.Wf x) (fun el h => SNote.of h) hx38
  rw [rowE_len] at lx38
  exact ⟨⟨⟨x0, x1, x2, x3, ⟨x4, yx5, yx6⟩, ⟨x7, x8, x9, yx10⟩, ⟨x11, x12, x13, yx14⟩, x15, x16⟩, ⟨x17, x18, yx19, ⟨x20, x21, x22, yx23⟩, ⟨x24, x25, x26, yx27⟩, ⟨x28, yx29, yx30⟩, yx31, x32⟩, ⟨x33, yx34⟩, x35, x36, yx37, yx38⟩, rfl, ⟨⟨⟨hx0.1, hx0.2⟩, ⟨hx1.1, hx1.2⟩, ⟨hx2.1, hx2.2⟩, ⟨hx3.1, hx3.2⟩, ⟨⟨hx4.1, hx4.2⟩, ⟨lx5, wx5⟩, ⟨lx6, wx6⟩⟩, ⟨trivial, ⟨hx8.1, hx8.2⟩, ⟨hx9.1, hx9.2⟩, ⟨lx10, wx10⟩⟩, ⟨trivial, ⟨hx12.1, hx12.2⟩, ⟨hx13.1, hx13.2⟩, ⟨lx14, wx14⟩⟩, ⟨hx15.1, hx15.2⟩, ⟨hx16.1, hx16.2⟩⟩, ⟨⟨hx17.1, hx17.2⟩, ⟨hx18.1, hx18.2⟩, ⟨lx19, wx19⟩, ⟨trivial, ⟨hx21.1, hx21.2⟩, ⟨hx22.1, hx22.2⟩, ⟨lx23, wx23⟩⟩, ⟨trivial, ⟨hx25.1, hx25.2⟩, ⟨hx26.1, hx26.2⟩, ⟨lx27, wx27⟩⟩, ⟨⟨hx28.1, hx28.2⟩, ⟨lx29, wx29⟩, ⟨lx30, wx30⟩⟩, ⟨lx31, wx31⟩, ⟨hx32.1, hx32.2⟩⟩, ⟨⟨hx33.1, hx33.2⟩, ⟨lx34, wx34⟩⟩, ⟨hx35.1, hx35.2⟩, ⟨hx36.1, hx36.2⟩, ⟨lx37, wx37⟩, ⟨lx38, wx38⟩⟩⟩
end
end FnExactSessionFault
end Go.Proofs.YtclhghlpokdiiaaGreat.Wm
