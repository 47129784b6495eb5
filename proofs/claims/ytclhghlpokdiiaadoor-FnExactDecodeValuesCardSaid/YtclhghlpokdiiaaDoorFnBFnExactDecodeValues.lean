/- What the functions behind FnExactDecodeValues come to, on plain values (a further part): written by a program. -/
import Derived.Test.YtclhghlpokdiiaaDoorFnFnExactDecodeValues
set_option linter.unusedSimpArgs false
set_option linter.unusedVariables false
set_option maxRecDepth 100000
set_option maxHeartbeats 20000000
namespace Go.Proofs.YtclhghlpokdiiaaDoor.Wm
open Go Go.Proofs
namespace FnExactDecodeValues
noncomputable section
attribute [local congr] ite_cong2 run_cg runR_cg plug_cg contV_cg contH_cg contT_cg contF_cg guardR_cg condX_cg evcA_cg evcB_cg evcC_cg evcE_cg evcH_cg levA_cg condJX_cg
-- impl.start
def impl_start_u2 (a24 : Int) (a25 : Int) (a26 : List Int) (a27 : Int) : Option (Int × Int × (List Int)) :=
  (impl_Decoder_next_o ((SDecoder.mk a26 a24 a25 16777216))).bind fun r28 =>
  some ((r28.2.2, (IntKind.i64.wrap ((IntKind.i64.wrap (a25 * 256)) + r28.1)), r28.2.1))
def impl_start_s3 : (Int × Int × (List Int) × Int) → Option ((Int × Int × (List Int) × Int) ⊕ (Int × Int × (List Int))) := fun ⟨a20, a21, a22, a23⟩ =>
  if (decide (a23 < 3)) = true then (impl_start_u2 a20 a21 a22 a23).bind fun y29 =>
    some ((.inl ((y29.1, y29.2.1, y29.2.2, (IntKind.i64.wrap (a23 + 1))))))
  else some ((.inr ((a20, a21, a22))))
def impl_start (p0 : List Int) : Option (SDecoder) :=
  (slices_Clone_byte p0).bind fun r1 =>
  (loopO impl_start_s3 ((0, 0, r1, 0))).bind fun y30 =>
  some ((SDecoder.mk y30.2.2 y30.1 y30.2.1 16777216))
@[go_sem] theorem impl_start_u2_ok {β : Type} (n : Nat) (K : List (Kont β)) (a24 : Int) (a25 : Int) (a26 : List Int) (a27 : Int) : run ⟨tab.own, lev tab (n + 1), tab.gl⟩ K c34_u2 ⟨[(2, .pt 200000020 0), (3, .pt 200000030 0), (7, .val (.int .i64 a27))], [(200000020, .var false [.emp 1, .val (.int .i64 0), .val (.int .i64 0), .val (.int .i64 0)]), (200000030, .var false [.sl 200000031 0 a26.length, .val (.int .i64 a24), .val (.int .i64 a25), .val (.int .i64 16777216)]), (200000031, .row false 1 (rowE (eI .u8) a26))], 17⟩ = (impl_start_u2 a24 a25 a26 a27).bind (fun t => plug ⟨tab.own, lev tab (n + 1), tab.gl⟩ K .normal ⟨[(2, .pt 200000020 0), (3, .pt 200000030 0), (7, .val (.int .i64 a27))], [(200000020, .var false [.emp 1, .val (.int .i64 0), .val (.int .i64 0), .val (.int .i64 0)]), (200000030, .var false [.sl 200000031 0 t.2.2.length, .val (.int .i64 t.1), .val (.int .i64 t.2.1), .val (.int .i64 16777216)]), (200000031, .row false 1 (rowE (eI .u8) t.2.2))], 17⟩) := by
  unfold c34_u2
  rw [run_alts]
  · simp +contextual -implicitDefEqProofs (maxSteps := 100000000) only [impl_start_u2, subI, go_sem, ↓ite_not', Nat.reduceEqDiff, Nat.reduceLT, Nat.reduceLeDiff, ↓reduceIte, Nat.reduceAdd, Nat.reduceMul, Nat.reduceSub, Int.reduceEq, Int.reduceLT, Int.reduceLE, Int.reduceToNat, Int.cast_ofNat_Int, Nat.reduceBEq] <;> rfl
  · refine ⟨?_, trivial⟩
    · simp +contextual -implicitDefEqProofs (maxSteps := 100000000) only [impl_start_u2, subI, go_sem, ↓ite_not', Nat.reduceEqDiff, Nat.reduceLT, Nat.reduceLeDiff, ↓reduceIte, Nat.reduceAdd, Nat.reduceMul, Nat.reduceSub, Int.reduceEq, Int.reduceLT, Int.reduceLE, Int.reduceToNat, Int.cast_ofNat_Int, Nat.reduceBEq] <;> rfl
@[go_sem] theorem impl_start_s3_ok {β : Type} (n : Nat) (K : List (Kont β)) (a20 : Int) (a21 : Int) (a22 : List Int) (a23 : Int) : run ⟨tab.own, lev tab (n + 1), tab.gl⟩ K (.loop c34_u3) ⟨[(2, .pt 200000020 0), (3, .pt 200000030 0), (7, .val (.int .i64 a23))], [(200000020, .var false [.emp 1, .val (.int .i64 0), .val (.int .i64 0), .val (.int .i64 0)]), (200000030, .var false [.sl 200000031 0 a22.length, .val (.int .i64 a20), .val (.int .i64 a21), .val (.int .i64 16777216)]), (200000031, .row false 1 (rowE (eI .u8) a22))], 17⟩ = (loopO impl_start_s3 ((a20, a21, a22, a23))).bind (fun t => plug ⟨tab.own, lev tab (n + 1), tab.gl⟩ K (.exit 0) ⟨[(2, .pt 200000020 0), (3, .pt 200000030 0)], [(200000020, .var false [.emp 1, .val (.int .i64 0), .val (.int .i64 0), .val (.int .i64 0)]), (200000030, .var false [.sl 200000031 0 t.2.2.length, .val (.int .i64 t.1), .val (.int .i64 t.2.1), .val (.int .i64 16777216)]), (200000031, .row false 1 (rowE (eI .u8) t.2.2))], 17⟩) := by
  refine loop_run (C := ⟨tab.own, lev tab (n + 1), tab.gl⟩) (K := K) (c := c34_u3) (impl_start_s3) (fun s => ⟨[(2, .pt 200000020 0), (3, .pt 200000030 0), (7, .val (.int .i64 s.2.2.2))], [(200000020, .var false [.emp 1, .val (.int .i64 0), .val (.int .i64 0), .val (.int .i64 0)]), (200000030, .var false [.sl 200000031 0 s.2.2.1.length, .val (.int .i64 s.1), .val (.int .i64 s.2.1), .val (.int .i64 16777216)]), (200000031, .row false 1 (rowE (eI .u8) s.2.2.1))], 17⟩) (fun t => plug ⟨tab.own, lev tab (n + 1), tab.gl⟩ K (.exit 0) ⟨[(2, .pt 200000020 0), (3, .pt 200000030 0)], [(200000020, .var false [.emp 1, .val (.int .i64 0), .val (.int .i64 0), .val (.int .i64 0)]), (200000030, .var false [.sl 200000031 0 t.2.2.length, .val (.int .i64 t.1), .val (.int .i64 t.2.1), .val (.int .i64 16777216)]), (200000031, .row false 1 (rowE (eI .u8) t.2.2))], 17⟩) (fun k s => ?_) ((a20, a21, a22, a23))
  obtain ⟨a20, a21, a22, a23⟩ := s
  unfold c34_u3
  simp +contextual -implicitDefEqProofs (maxSteps := 100000000) only [impl_start_s3, subI, go_sem, ↓ite_not', Nat.reduceEqDiff, Nat.reduceLT, Nat.reduceLeDiff, ↓reduceIte, Nat.reduceAdd, Nat.reduceMul, Nat.reduceSub, Int.reduceEq, Int.reduceLT, Int.reduceLE, Int.reduceToNat, Int.cast_ofNat_Int, Nat.reduceBEq] <;> rfl
@[go_sem] theorem impl_start_ok (n : Nat) (q0_0 : List Int) : lev tab (n + 2) 34 [.sh .lent 1 (rowE (eI .u8) q0_0)] = (impl_start q0_0).map fun r => (.agg [.ow 1 (rowE (eI .u8) r.Data), .int .i64 r.At, .int .i64 r.Rest, .int .i64 r.Range], [.gone]) := by
  rw [lev_st (vc := c34) (nt := 17) (rs := [(2, some (some 4))]) rfl rfl (Nat.le_of_ble_eq_true rfl)]
  unfold c34
  simp +contextual -implicitDefEqProofs (maxSteps := 100000000) only [impl_start, subI, go_sem, ↓ite_not', Nat.reduceEqDiff, Nat.reduceLT, Nat.reduceLeDiff, ↓reduceIte, Nat.reduceAdd, Nat.reduceMul, Nat.reduceSub, Int.reduceEq, Int.reduceLT, Int.reduceLE, Int.reduceToNat, Int.cast_ofNat_Int, Nat.reduceBEq] <;> rfl
-- (*impl.Decoder).value
def impl_Decoder_value (p0 : SDecoder) (p1 : Int) : Option (Int) :=
  if p1 = 0 then none
  else if (IntKind.i64.wrap (p0.Range.tdiv p1)) = 0 then none
    else some ((mnI ((IntKind.i64.wrap (p0.Rest.tdiv ((IntKind.i64.wrap (p0.Range.tdiv p1)))))) ((IntKind.i64.wrap (p1 - 1)))))
@[go_sem] theorem impl_Decoder_value_ok (n : Nat) (q0_0 : List Int) (q0_1 : Int) (q0_2 : Int) (q0_3 : Int) (R0 : List D) (q1_0 : Int) : lev tab (n + 1) 50 [.ptr (.sh .lent 1 (rowE (eI .u8) q0_0) :: .int .i64 q0_1 :: .int .i64 q0_2 :: .int .i64 q0_3 :: R0), .int .i64 q1_0] = (impl_Decoder_value (SDecoder.mk q0_0 q0_1 q0_2 q0_3) q1_0).map fun r => (.int .i64 r, [.gone, .gone]) := by
  rw [lev_st (vc := c50) (nt := 19) (rs := [(4, none)]) rfl rfl (Nat.le_of_ble_eq_true rfl)]
  unfold c50
  simp +contextual -implicitDefEqProofs (maxSteps := 100000000) only [impl_Decoder_value, subI, go_sem, ↓ite_not', Nat.reduceEqDiff, Nat.reduceLT, Nat.reduceLeDiff, ↓reduceIte, Nat.reduceAdd, Nat.reduceMul, Nat.reduceSub, Int.reduceEq, Int.reduceLT, Int.reduceLE, Int.reduceToNat, Int.cast_ofNat_Int, Nat.reduceBEq] <;> rfl
-- impl.classSize
def impl_classSize (p0 : Int) : Option (Int) :=
  if (decide (p0 < 6)) = true then if 0 ≤ p0 ∧ p0 < 6 then ([(96 : Int), 48, 40, 24, 16, 8][p0.toNat]?).bind fun x1 =>
      some x1
    else none
  else some 2
@[go_sem] theorem impl_classSize_ok (n : Nat) (q0_0 : Int) : lev tab (n + 1) 92 [.int .i64 q0_0] = (impl_classSize q0_0).map fun r => (.int .i64 r, [.gone]) := by
  rw [lev_st (vc := c92) (nt := 10) (rs := [(2, none)]) rfl rfl (Nat.le_of_ble_eq_true rfl)]
  unfold c92
  simp +contextual -implicitDefEqProofs (maxSteps := 100000000) only [impl_classSize, subI, go_sem, ↓ite_not', Nat.reduceEqDiff, Nat.reduceLT, Nat.reduceLeDiff, ↓reduceIte, Nat.reduceAdd, Nat.reduceMul, Nat.reduceSub, Int.reduceEq, Int.reduceLT, Int.reduceLE, Int.reduceToNat, Int.cast_ofNat_Int, Nat.reduceBEq] <;> rfl
-- impl.classSlot
def impl_classSlot_s1 (a12 : Int) (a13 : Int) : (Int × Int) → Option ((Int × Int) ⊕ (Int)) := fun ⟨a11, a14⟩ =>
  if (decide (a14 < a13)) = true then (impl_classSize a14).bind fun r15 =>
    some ((.inl (((IntKind.i64.wrap (a11 + r15)), (IntKind.i64.wrap (a14 + 1))))))
  else some ((.inr a11))
def impl_classSlot (p0 : Int) : Option (SSlot) :=
  (impl_classSize p0).bind fun r1 =>
  (loopO (impl_classSlot_s1 r1 p0) ((0, 0))).bind fun y16 =>
  some ((SSlot.mk y16 r1 256))
@[go_sem] theorem impl_classSlot_s1_ok {β : Type} (n : Nat) (K : List (Kont β)) (a11 : Int) (a12 : Int) (a13 : Int) (a14 : Int) : run ⟨tab.own, lev tab (n + 1), tab.gl⟩ K (.loop c76_u1) ⟨[(2, .pt 200000020 0), (3, .pt 200000030 0), (8, .val (.int .i64 a13)), (9, .val (.int .i64 a14))], [(200000020, .var false [.val (.int .i64 0), .val (.int .i64 0), .val (.int .i64 0)]), (200000030, .var false [.val (.int .i64 a11), .val (.int .i64 a12), .val (.int .i64 256)])], 20⟩ = (loopO (impl_classSlot_s1 a12 a13) ((a11, a14))).bind (fun t => plug ⟨tab.own, lev tab (n + 1), tab.gl⟩ K (.exit 0) ⟨[(2, .pt 200000020 0), (3, .pt 200000030 0)], [(200000020, .var false [.val (.int .i64 0), .val (.int .i64 0), .val (.int .i64 0)]), (200000030, .var false [.val (.int .i64 t), .val (.int .i64 a12), .val (.int .i64 256)])], 20⟩) := by
  refine loop_run (C := ⟨tab.own, lev tab (n + 1), tab.gl⟩) (K := K) (c := c76_u1) (impl_classSlot_s1 a12 a13) (fun s => ⟨[(2, .pt 200000020 0), (3, .pt 200000030 0), (8, .val (.int .i64 a13)), (9, .val (.int .i64 s.2))], [(200000020, .var false [.val (.int .i64 0), .val (.int .i64 0), .val (.int .i64 0)]), (200000030, .var false [.val (.int .i64 s.1), .val (.int .i64 a12), .val (.int .i64 256)])], 20⟩) (fun t => plug ⟨tab.own, lev tab (n + 1), tab.gl⟩ K (.exit 0) ⟨[(2, .pt 200000020 0), (3, .pt 200000030 0)], [(200000020, .var false [.val (.int .i64 0), .val (.int .i64 0), .val (.int .i64 0)]), (200000030, .var false [.val (.int .i64 t), .val (.int .i64 a12), .val (.int .i64 256)])], 20⟩) (fun k s => ?_) ((a11, a14))
  obtain ⟨a11, a14⟩ := s
  unfold c76_u1
  simp +contextual -implicitDefEqProofs (maxSteps := 100000000) only [impl_classSlot_s1, subI, go_sem, ↓ite_not', Nat.reduceEqDiff, Nat.reduceLT, Nat.reduceLeDiff, ↓reduceIte, Nat.reduceAdd, Nat.reduceMul, Nat.reduceSub, Int.reduceEq, Int.reduceLT, Int.reduceLE, Int.reduceToNat, Int.cast_ofNat_Int, Nat.reduceBEq] <;> rfl
@[go_sem] theorem impl_classSlot_ok (n : Nat) (q0_0 : Int) : lev tab (n + 2) 76 [.int .i64 q0_0] = (impl_classSlot q0_0).map fun r => (.agg [.int .i64 r.Low, .int .i64 r.Size, .int .i64 r.Total], [.gone]) := by
  rw [lev_st (vc := c76) (nt := 20) (rs := [(2, some (some 3))]) rfl rfl (Nat.le_of_ble_eq_true rfl)]
  unfold c76
  simp +contextual -implicitDefEqProofs (maxSteps := 100000000) only [impl_classSlot, subI, go_sem, ↓ite_not', Nat.reduceEqDiff, Nat.reduceLT, Nat.reduceLeDiff, ↓reduceIte, Nat.reduceAdd, Nat.reduceMul, Nat.reduceSub, Int.reduceEq, Int.reduceLT, Int.reduceLE, Int.reduceToNat, Int.cast_ofNat_Int, Nat.reduceBEq] <;> rfl
-- impl.narrowed
def impl_narrowed (p0 : Int) (p1 : SSlot) : Option (Int × Int) :=
  if p1.Total = 0 then none
  else if ((IntKind.i64.wrap (p1.Low + p1.Size)) == p1.Total) = true then some (((IntKind.i64.wrap ((IntKind.i64.wrap (p0.tdiv p1.Total)) * p1.Low)), (IntKind.i64.wrap (p0 - (IntKind.i64.wrap ((IntKind.i64.wrap (p0.tdiv p1.Total)) * p1.Low))))))
    else some (((IntKind.i64.wrap ((IntKind.i64.wrap (p0.tdiv p1.Total)) * p1.Low)), (IntKind.i64.wrap ((IntKind.i64.wrap (p0.tdiv p1.Total)) * p1.Size))))
@[go_sem] theorem impl_narrowed_ok (n : Nat) (q0_0 : Int) (q1_0 : Int) (q1_1 : Int) (q1_2 : Int) : lev tab (n + 1) 66 [.int .i64 q0_0, .agg [.int .i64 q1_0, .int .i64 q1_1, .int .i64 q1_2]] = (impl_narrowed q0_0 (SSlot.mk q1_0 q1_1 q1_2)).map fun r => (.tup [.int .i64 r.1, .int .i64 r.2], [.gone, .gone]) := by
  rw [lev_st (vc := c66) (nt := 37) (rs := [(4, none), (5, none)]) rfl rfl (Nat.le_of_ble_eq_true rfl)]
  unfold c66
  simp +contextual -implicitDefEqProofs (maxSteps := 100000000) only [impl_narrowed, subI, go_sem, ↓ite_not', Nat.reduceEqDiff, Nat.reduceLT, Nat.reduceLeDiff, ↓reduceIte, Nat.reduceAdd, Nat.reduceMul, Nat.reduceSub, Int.reduceEq, Int.reduceLT, Int.reduceLE, Int.reduceToNat, Int.cast_ofNat_Int, Nat.reduceBEq] <;> rfl
-- (*impl.Decoder).take
def impl_Decoder_take_o_u1 (a6 : List Int) (a7 : Int) (a8 : Int) (a9 : Int) : Option ((List Int) × Int × Int) :=
  (impl_Decoder_next_o ((SDecoder.mk a6 a7 a8 a9))).bind fun r10 =>
  some ((r10.2.1, r10.2.2, (IntKind.i64.wrap ((IntKind.i64.wrap (a8 * 256)) + r10.1))))
def impl_Decoder_take_o_s2 : ((List Int) × Int × Int × Int) → Option (((List Int) × Int × Int × Int) ⊕ ((List Int) × Int × Int × Int)) := fun ⟨a2, a3, a4, a5⟩ =>
  if (decide (a5 < 65536)) = true then (impl_Decoder_take_o_u1 a2 a3 a4 a5).bind fun y11 =>
    some ((.inl ((y11.1, y11.2.1, y11.2.2, (IntKind.i64.wrap (a5 * 256))))))
  else some ((.inr ((a2, a3, a4, a5))))
def impl_Decoder_take_o (p0 : SDecoder) (p1 : SSlot) : Option ((List Int) × Int × Int × Int) :=
  (impl_narrowed p0.Range p1).bind fun r1 =>
  (loopO impl_Decoder_take_o_s2 ((p0.Data, p0.At, (IntKind.i64.wrap (p0.Rest - r1.1)), r1.2))).bind fun y12 =>
  some ((y12.1, y12.2.1, y12.2.2.1, y12.2.2.2))
@[go_sem] theorem impl_Decoder_take_o_u1_ok {β : Type} (n : Nat) (K : List (Kont β)) (a6 : List Int) (a7 : Int) (a8 : Int) (a9 : Int) : run ⟨tab.own, lev tab (n + 1), tab.gl⟩ K c52_u1 ⟨[(0, .pt 1000000000 0)], [(290000000, .row true 1 (rowE (eI .u8) a6)), (1000000000, .var true [.sl 290000000 0 a6.length, .val (.int .i64 a7), .val (.int .i64 a8), .val (.int .i64 a9)])], 52⟩ = (impl_Decoder_take_o_u1 a6 a7 a8 a9).bind (fun t => plug ⟨tab.own, lev tab (n + 1), tab.gl⟩ K .normal ⟨[(0, .pt 1000000000 0)], [(290000000, .row true 1 (rowE (eI .u8) t.1)), (1000000000, .var true [.sl 290000000 0 t.1.length, .val (.int .i64 t.2.1), .val (.int .i64 t.2.2), .val (.int .i64 ((IntKind.i64.wrap (a9 * 256))))])], 52⟩) := by
  unfold c52_u1
  rw [run_alts]
  · simp +contextual -implicitDefEqProofs (maxSteps := 100000000) only [impl_Decoder_take_o_u1, subI, go_sem, ↓ite_not', Nat.reduceEqDiff, Nat.reduceLT, Nat.reduceLeDiff, ↓reduceIte, Nat.reduceAdd, Nat.reduceMul, Nat.reduceSub, Int.reduceEq, Int.reduceLT, Int.reduceLE, Int.reduceToNat, Int.cast_ofNat_Int, Nat.reduceBEq] <;> rfl
  · refine ⟨?_, ?_, ?_, ?_, trivial⟩
    · simp +contextual -implicitDefEqProofs (maxSteps := 100000000) only [impl_Decoder_take_o_u1, subI, go_sem, ↓ite_not', Nat.reduceEqDiff, Nat.reduceLT, Nat.reduceLeDiff, ↓reduceIte, Nat.reduceAdd, Nat.reduceMul, Nat.reduceSub, Int.reduceEq, Int.reduceLT, Int.reduceLE, Int.reduceToNat, Int.cast_ofNat_Int, Nat.reduceBEq] <;> rfl
    · simp +contextual -implicitDefEqProofs (maxSteps := 100000000) only [impl_Decoder_take_o_u1, subI, go_sem, ↓ite_not', Nat.reduceEqDiff, Nat.reduceLT, Nat.reduceLeDiff, ↓reduceIte, Nat.reduceAdd, Nat.reduceMul, Nat.reduceSub, Int.reduceEq, Int.reduceLT, Int.reduceLE, Int.reduceToNat, Int.cast_ofNat_Int, Nat.reduceBEq] <;> rfl
    · simp +contextual -implicitDefEqProofs (maxSteps := 100000000) only [impl_Decoder_take_o_u1, subI, go_sem, ↓ite_not', Nat.reduceEqDiff, Nat.reduceLT, Nat.reduceLeDiff, ↓reduceIte, Nat.reduceAdd, Nat.reduceMul, Nat.reduceSub, Int.reduceEq, Int.reduceLT, Int.reduceLE, Int.reduceToNat, Int.cast_ofNat_Int, Nat.reduceBEq] <;> rfl
    · simp +contextual -implicitDefEqProofs (maxSteps := 100000000) only [impl_Decoder_take_o_u1, subI, go_sem, ↓ite_not', Nat.reduceEqDiff, Nat.reduceLT, Nat.reduceLeDiff, ↓reduceIte, Nat.reduceAdd, Nat.reduceMul, Nat.reduceSub, Int.reduceEq, Int.reduceLT, Int.reduceLE, Int.reduceToNat, Int.cast_ofNat_Int, Nat.reduceBEq] <;> rfl
@[go_sem] theorem impl_Decoder_take_o_s2_ok {β : Type} (n : Nat) (K : List (Kont β)) (a2 : List Int) (a3 : Int) (a4 : Int) (a5 : Int) : run ⟨tab.own, lev tab (n + 1), tab.gl⟩ K (.loop c52_u2) ⟨[(0, .pt 1000000000 0)], [(290000000, .row true 1 (rowE (eI .u8) a2)), (1000000000, .var true [.sl 290000000 0 a2.length, .val (.int .i64 a3), .val (.int .i64 a4), .val (.int .i64 a5)])], 52⟩ = (loopO impl_Decoder_take_o_s2 ((a2, a3, a4, a5))).bind (fun t => plug ⟨tab.own, lev tab (n + 1), tab.gl⟩ K (.exit 0) ⟨[], [(290000000, .row true 1 (rowE (eI .u8) t.1)), (1000000000, .var true [.sl 290000000 0 t.1.length, .val (.int .i64 t.2.1), .val (.int .i64 t.2.2.1), .val (.int .i64 t.2.2.2)])], 52⟩) := by
  refine loop_run (C := ⟨tab.own, lev tab (n + 1), tab.gl⟩) (K := K) (c := c52_u2) (impl_Decoder_take_o_s2) (fun s => ⟨[(0, .pt 1000000000 0)], [(290000000, .row true 1 (rowE (eI .u8) s.1)), (1000000000, .var true [.sl 290000000 0 s.1.length, .val (.int .i64 s.2.1), .val (.int .i64 s.2.2.1), .val (.int .i64 s.2.2.2)])], 52⟩) (fun t => plug ⟨tab.own, lev tab (n + 1), tab.gl⟩ K (.exit 0) ⟨[], [(290000000, .row true 1 (rowE (eI .u8) t.1)), (1000000000, .var true [.sl 290000000 0 t.1.length, .val (.int .i64 t.2.1), .val (.int .i64 t.2.2.1), .val (.int .i64 t.2.2.2)])], 52⟩) (fun k s => ?_) ((a2, a3, a4, a5))
  obtain ⟨a2, a3, a4, a5⟩ := s
  unfold c52_u2
  simp +contextual -implicitDefEqProofs (maxSteps := 100000000) only [impl_Decoder_take_o_s2, subI, go_sem, ↓ite_not', Nat.reduceEqDiff, Nat.reduceLT, Nat.reduceLeDiff, ↓reduceIte, Nat.reduceAdd, Nat.reduceMul, Nat.reduceSub, Int.reduceEq, Int.reduceLT, Int.reduceLE, Int.reduceToNat, Int.cast_ofNat_Int, Nat.reduceBEq] <;> rfl
@[go_sem] theorem impl_Decoder_take_o_ok (n : Nat) (q0_0 : List Int) (q0_1 : Int) (q0_2 : Int) (q0_3 : Int) (q1_0 : Int) (q1_1 : Int) (q1_2 : Int) : lev tab (n + 2) 52 [.op 0 [.ow 1 (rowE (eI .u8) q0_0), .int .i64 q0_1, .int .i64 q0_2, .int .i64 q0_3], .agg [.int .i64 q1_0, .int .i64 q1_1, .int .i64 q1_2]] = (impl_Decoder_take_o (SDecoder.mk q0_0 q0_1 q0_2 q0_3) (SSlot.mk q1_0 q1_1 q1_2)).map fun r => (.tup [], [.op 0 [.ow 1 (rowE (eI .u8) r.1), .int .i64 r.2.1, .int .i64 r.2.2.1, .int .i64 r.2.2.2], .gone]) := by
  rw [lev_st (vc := c52) (nt := 52) (rs := []) rfl rfl (Nat.le_of_ble_eq_true rfl)]
  unfold c52
  simp +contextual -implicitDefEqProofs (maxSteps := 100000000) only [impl_Decoder_take_o, subI, go_sem, ↓ite_not', Nat.reduceEqDiff, Nat.reduceLT, Nat.reduceLeDiff, ↓reduceIte, Nat.reduceAdd, Nat.reduceMul, Nat.reduceSub, Int.reduceEq, Int.reduceLT, Int.reduceLE, Int.reduceToNat, Int.cast_ofNat_Int, Nat.reduceBEq] <;> rfl
-- (*impl.Decoder).class
def impl_Decoder_class_o_s1 (a16 : List Int) (a17 : Int) (a18 : Int) (a19 : Int) (a20 : Int) : (Int × Int × Int × Int) → Option ((Int × Int × Int × Int) ⊕ (Int)) := fun ⟨a13, a14, a15, a21⟩ =>
  if (decide (a20 ≥ (IntKind.i64.wrap (a13 + a14)))) = true then (impl_classSlot ((IntKind.i64.wrap (a21 + 1)))).bind fun r22 =>
    some ((.inl ((r22.Low, r22.Size, r22.Total, (IntKind.i64.wrap (a21 + 1))))))
  else some ((.inr a21))
def impl_Decoder_class_o (p0 : SDecoder) : Option (Int × (List Int) × Int × Int × Int) :=
  (impl_Decoder_value p0 256).bind fun r1 =>
  (impl_classSlot 0).bind fun r2 =>
  (loopO (impl_Decoder_class_o_s1 p0.Data p0.At p0.Rest p0.Range r1) ((r2.Low, r2.Size, r2.Total, 0))).bind fun y23 =>
  (impl_classSlot y23).bind fun r24 =>
  (impl_Decoder_take_o p0 r24).bind fun r25 =>
  some ((y23, r25.1, r25.2.1, r25.2.2.1, r25.2.2.2))
@[go_sem] theorem impl_Decoder_class_o_s1_ok {β : Type} (n : Nat) (K : List (Kont β)) (a13 : Int) (a14 : Int) (a15 : Int) (a16 : List Int) (a17 : Int) (a18 : Int) (a19 : Int) (a20 : Int) (a21 : Int) : run ⟨tab.own, lev tab (n + 2), tab.gl⟩ K (.loop c63_u1) ⟨[(0, .pt 1000000000 0), (3, .val (.int .i64 a20)), (4, .val (.int .i64 a21)), (5, .pt 200000050 0)], [(200000050, .var false [.val (.int .i64 a13), .val (.int .i64 a14), .val (.int .i64 a15)]), (290000000, .row true 1 (rowE (eI .u8) a16)), (1000000000, .var true [.sl 290000000 0 a16.length, .val (.int .i64 a17), .val (.int .i64 a18), .val (.int .i64 a19)])], 27⟩ = (loopO (impl_Decoder_class_o_s1 a16 a17 a18 a19 a20) ((a13, a14, a15, a21))).bind (fun t => plug ⟨tab.own, lev tab (n + 2), tab.gl⟩ K (.exit 0) ⟨[(0, .pt 1000000000 0), (4, .val (.int .i64 t))], [(290000000, .row true 1 (rowE (eI .u8) a16)), (1000000000, .var true [.sl 290000000 0 a16.length, .val (.int .i64 a17), .val (.int .i64 a18), .val (.int .i64 a19)])], 27⟩) := by
  refine loop_run (C := ⟨tab.own, lev tab (n + 2), tab.gl⟩) (K := K) (c := c63_u1) (impl_Decoder_class_o_s1 a16 a17 a18 a19 a20) (fun s => ⟨[(0, .pt 1000000000 0), (3, .val (.int .i64 a20)), (4, .val (.int .i64 s.2.2.2)), (5, .pt 200000050 0)], [(200000050, .var false [.val (.int .i64 s.1), .val (.int .i64 s.2.1), .val (.int .i64 s.2.2.1)]), (290000000, .row true 1 (rowE (eI .u8) a16)), (1000000000, .var true [.sl 290000000 0 a16.length, .val (.int .i64 a17), .val (.int .i64 a18), .val (.int .i64 a19)])], 27⟩) (fun t => plug ⟨tab.own, lev tab (n + 2), tab.gl⟩ K (.exit 0) ⟨[(0, .pt 1000000000 0), (4, .val (.int .i64 t))], [(290000000, .row true 1 (rowE (eI .u8) a16)), (1000000000, .var true [.sl 290000000 0 a16.length, .val (.int .i64 a17), .val (.int .i64 a18), .val (.int .i64 a19)])], 27⟩) (fun k s => ?_) ((a13, a14, a15, a21))
  obtain ⟨a13, a14, a15, a21⟩ := s
  unfold c63_u1
  simp +contextual -implicitDefEqProofs (maxSteps := 100000000) only [impl_Decoder_class_o_s1, subI, go_sem, ↓ite_not', Nat.reduceEqDiff, Nat.reduceLT, Nat.reduceLeDiff, ↓reduceIte, Nat.reduceAdd, Nat.reduceMul, Nat.reduceSub, Int.reduceEq, Int.reduceLT, Int.reduceLE, Int.reduceToNat, Int.cast_ofNat_Int, Nat.reduceBEq] <;> rfl
@[go_sem] theorem impl_Decoder_class_o_ok (n : Nat) (q0_0 : List Int) (q0_1 : Int) (q0_2 : Int) (q0_3 : Int) : lev tab (n + 3) 63 [.op 0 [.ow 1 (rowE (eI .u8) q0_0), .int .i64 q0_1, .int .i64 q0_2, .int .i64 q0_3]] = (impl_Decoder_class_o (SDecoder.mk q0_0 q0_1 q0_2 q0_3)).map fun r => (.int .i64 r.1, [.op 0 [.ow 1 (rowE (eI .u8) r.2.1), .int .i64 r.2.2.1, .int .i64 r.2.2.2.1, .int .i64 r.2.2.2.2]]) := by
  rw [lev_st (vc := c63) (nt := 27) (rs := [(2, none)]) rfl rfl (Nat.le_of_ble_eq_true rfl)]
  unfold c63
  simp +contextual -implicitDefEqProofs (maxSteps := 100000000) only [impl_Decoder_class_o, subI, go_sem, ↓ite_not', Nat.reduceEqDiff, Nat.reduceLT, Nat.reduceLeDiff, ↓reduceIte, Nat.reduceAdd, Nat.reduceMul, Nat.reduceSub, Int.reduceEq, Int.reduceLT, Int.reduceLE, Int.reduceToNat, Int.cast_ofNat_Int, Nat.reduceBEq] <;> rfl
-- impl.pieces
def impl_pieces (p0 : Int) : (List Int) :=
  if (decide ((IntKind.i64.wrap (p0 - 1)) < 1)) = true then []
  else if (decide ((IntKind.i64.wrap (p0 - 1)) > 8)) = true then [(IntKind.i64.wrap ((IntKind.i64.wrap (p0 - 1)) - 8)), 8]
    else [(IntKind.i64.wrap (p0 - 1))]
@[go_sem] theorem impl_pieces_ok (n : Nat) (q0_0 : Int) : lev tab (n + 1) 64 [.int .i64 q0_0] = (some (impl_pieces q0_0)).map fun r => (.ow 1 (rowE (eI .i64) r), [.gone]) := by
  rw [lev_st (vc := c64) (nt := 17) (rs := [(2, none)]) rfl rfl (Nat.le_of_ble_eq_true rfl)]
  unfold c64
  simp +contextual -implicitDefEqProofs (maxSteps := 100000000) only [impl_pieces, subI, go_sem, ↓ite_not', Nat.reduceEqDiff, Nat.reduceLT, Nat.reduceLeDiff, ↓reduceIte, Nat.reduceAdd, Nat.reduceMul, Nat.reduceSub, Int.reduceEq, Int.reduceLT, Int.reduceLE, Int.reduceToNat, Int.cast_ofNat_Int, Nat.reduceBEq] <;> rfl
-- (*impl.Decoder).number
def impl_Decoder_number_o_s1 (a13 : List Int) (a19 : Int) : ((List Int) × Int × Int × Int × Int × Int) → Option (((List Int) × Int × Int × Int × Int × Int) ⊕ ((List Int) × Int × Int × Int × Int)) := fun ⟨a14, a15, a16, a17, a18, a20⟩ =>
  if (decide (a20 < a19)) = true then (getI a13 a20).bind fun _ =>
    (a13[a20.toNat]?).bind fun x21 =>
    if x21 < 0 then none
    else (impl_Decoder_value ((SDecoder.mk a14 a15 a16 a17)) ((IntKind.i64.wrap (1 * 2 ^ (min x21.toNat 64))))).bind fun r22 =>
      if x21 < 0 then none
      else (impl_Decoder_take_o ((SDecoder.mk a14 a15 a16 a17)) ((SSlot.mk r22 1 ((IntKind.i64.wrap (1 * 2 ^ (min x21.toNat 64))))))).bind fun r23 =>
        if x21 < 0 then none
        else some ((.inl ((r23.1, r23.2.1, r23.2.2.1, r23.2.2.2, (IntKind.i64.wrap ((BitVec.ofInt 64 ((IntKind.i64.wrap (a18 * 2 ^ (min x21.toNat 64)))) ||| BitVec.ofInt 64 r22).toNat)), (IntKind.i64.wrap (a20 + 1))))))
  else some ((.inr ((a14, a15, a16, a17, a18))))
def impl_Decoder_number_o (p0 : SDecoder) : Option (Int × (List Int) × Int × Int × Int) :=
  (impl_Decoder_class_o p0).bind fun r1 =>
  if (r1.1 == 0) = true then some ((0, r1.2.1, r1.2.2.1, r1.2.2.2.1, r1.2.2.2.2))
  else (loopO (impl_Decoder_number_o_s1 ((impl_pieces r1.1)) ((((impl_pieces r1.1)).length : Int))) ((r1.2.1, r1.2.2.1, r1.2.2.2.1, r1.2.2.2.2, 1, 0))).bind fun y24 =>
    some ((y24.2.2.2.2, y24.1, y24.2.1, y24.2.2.1, y24.2.2.2.1))
@[go_sem] theorem impl_Decoder_number_o_s1_ok {β : Type} (n : Nat) (K : List (Kont β)) (a13 : List Int) (a14 : List Int) (a15 : Int) (a16 : Int) (a17 : Int) (a18 : Int) (a19 : Int) (a20 : Int) : run ⟨tab.own, lev tab (n + 3), tab.gl⟩ K (.loop c36_u1) ⟨[(0, .pt 1000000000 0), (4, .val (.int .i64 a18)), (13, .sl 200000130 0 a13.length), (14, .val (.int .i64 a19)), (15, .val (.int .i64 a20))], [(200000130, .row false 1 (rowE (eI .i64) a13)), (290000000, .row true 1 (rowE (eI .u8) a14)), (1000000000, .var true [.sl 290000000 0 a14.length, .val (.int .i64 a15), .val (.int .i64 a16), .val (.int .i64 a17)])], 36⟩ = (loopO (impl_Decoder_number_o_s1 a13 a19) ((a14, a15, a16, a17, a18, a20))).bind (fun t => plug ⟨tab.own, lev tab (n + 3), tab.gl⟩ K (.exit 0) ⟨[(4, .val (.int .i64 t.2.2.2.2))], [(290000000, .row true 1 (rowE (eI .u8) t.1)), (1000000000, .var true [.sl 290000000 0 t.1.length, .val (.int .i64 t.2.1), .val (.int .i64 t.2.2.1), .val (.int .i64 t.2.2.2.1)])], 36⟩) := by
  refine loop_run (C := ⟨tab.own, lev tab (n + 3), tab.gl⟩) (K := K) (c := c36_u1) (impl_Decoder_number_o_s1 a13 a19) (fun s => ⟨[(0, .pt 1000000000 0), (4, .val (.int .i64 s.2.2.2.2.1)), (13, .sl 200000130 0 a13.length), (14, .val (.int .i64 a19)), (15, .val (.int .i64 s.2.2.2.2.2))], [(200000130, .row false 1 (rowE (eI .i64) a13)), (290000000, .row true 1 (rowE (eI .u8) s.1)), (1000000000, .var true [.sl 290000000 0 s.1.length, .val (.int .i64 s.2.1), .val (.int .i64 s.2.2.1), .val (.int .i64 s.2.2.2.1)])], 36⟩) (fun t => plug ⟨tab.own, lev tab (n + 3), tab.gl⟩ K (.exit 0) ⟨[(4, .val (.int .i64 t.2.2.2.2))], [(290000000, .row true 1 (rowE (eI .u8) t.1)), (1000000000, .var true [.sl 290000000 0 t.1.length, .val (.int .i64 t.2.1), .val (.int .i64 t.2.2.1), .val (.int .i64 t.2.2.2.1)])], 36⟩) (fun k s => ?_) ((a14, a15, a16, a17, a18, a20))
  obtain ⟨a14, a15, a16, a17, a18, a20⟩ := s
  unfold c36_u1
  simp +contextual -implicitDefEqProofs (maxSteps := 100000000) only [impl_Decoder_number_o_s1, subI, go_sem, ↓ite_not', Nat.reduceEqDiff, Nat.reduceLT, Nat.reduceLeDiff, ↓reduceIte, Nat.reduceAdd, Nat.reduceMul, Nat.reduceSub, Int.reduceEq, Int.reduceLT, Int.reduceLE, Int.reduceToNat, Int.cast_ofNat_Int, Nat.reduceBEq] <;> rfl
@[go_sem] theorem impl_Decoder_number_o_ok (n : Nat) (q0_0 : List Int) (q0_1 : Int) (q0_2 : Int) (q0_3 : Int) : lev tab (n + 4) 36 [.op 0 [.ow 1 (rowE (eI .u8) q0_0), .int .i64 q0_1, .int .i64 q0_2, .int .i64 q0_3]] = (impl_Decoder_number_o (SDecoder.mk q0_0 q0_1 q0_2 q0_3)).map fun r => (.int .i64 r.1, [.op 0 [.ow 1 (rowE (eI .u8) r.2.1), .int .i64 r.2.2.1, .int .i64 r.2.2.2.1, .int .i64 r.2.2.2.2]]) := by
  rw [lev_st (vc := c36) (nt := 36) (rs := [(2, none)]) rfl rfl (Nat.le_of_ble_eq_true rfl)]
  unfold c36
  simp +contextual -implicitDefEqProofs (maxSteps := 100000000) only [impl_Decoder_number_o, subI, go_sem, ↓ite_not', Nat.reduceEqDiff, Nat.reduceLT, Nat.reduceLeDiff, ↓reduceIte, Nat.reduceAdd, Nat.reduceMul, Nat.reduceSub, Int.reduceEq, Int.reduceLT, Int.reduceLE, Int.reduceToNat, Int.cast_ofNat_Int, Nat.reduceBEq] <;> rfl
-- impl.unzigOf
def impl_unzigOf (p0 : Int) : Int :=
  if ((p0.tmod (2 : Int)) == 1) = true then (IntKind.i64.wrap (((IntKind.i64.wrap (0 - (IntKind.i64.wrap (p0 + 1))))).tdiv (2 : Int)))
  else (IntKind.i64.wrap (p0.tdiv (2 : Int)))
@[go_sem] theorem impl_unzigOf_ok (n : Nat) (q0_0 : Int) : lev tab (n + 1) 35 [.int .i64 q0_0] = (some (impl_unzigOf q0_0)).map fun r => (.int .i64 r, [.gone]) := by
  rw [lev_st (vc := c35) (nt := 12) (rs := [(2, none)]) rfl rfl (Nat.le_of_ble_eq_true rfl)]
  unfold c35
  simp +contextual -implicitDefEqProofs (maxSteps := 100000000) only [impl_unzigOf, subI, go_sem, ↓ite_not', Nat.reduceEqDiff, Nat.reduceLT, Nat.reduceLeDiff, ↓reduceIte, Nat.reduceAdd, Nat.reduceMul, Nat.reduceSub, Int.reduceEq, Int.reduceLT, Int.reduceLE, Int.reduceToNat, Int.cast_ofNat_Int, Nat.reduceBEq] <;> rfl
-- impl.within
def impl_within (p0 : Int) (p1 : Int) : Bool :=
  (impl_inRange p0 ((IntKind.i64.wrap (0 - p1))) p1)
@[go_sem] theorem impl_within_ok (n : Nat) (q0_0 : Int) (q1_0 : Int) : lev tab (n + 2) 73 [.int .i64 q0_0, .int .i64 q1_0] = (some (impl_within q0_0 q1_0)).map fun r => (.bool r, [.gone, .gone]) := by
  rw [lev_st (vc := c73) (nt := 10) (rs := [(4, none)]) rfl rfl (Nat.le_of_ble_eq_true rfl)]
  unfold c73
  simp +contextual -implicitDefEqProofs (maxSteps := 100000000) only [impl_within, subI, go_sem, ↓ite_not', Nat.reduceEqDiff, Nat.reduceLT, Nat.reduceLeDiff, ↓reduceIte, Nat.reduceAdd, Nat.reduceMul, Nat.reduceSub, Int.reduceEq, Int.reduceLT, Int.reduceLE, Int.reduceToNat, Int.cast_ofNat_Int, Nat.reduceBEq] <;> rfl
-- impl.isValue
def impl_isValue (p0 : Int) : Bool :=
  (impl_within p0 65535)
@[go_sem] theorem impl_isValue_ok (n : Nat) (q0_0 : Int) : lev tab (n + 3) 55 [.int .i64 q0_0] = (some (impl_isValue q0_0)).map fun r => (.bool r, [.gone]) := by
  rw [lev_st (vc := c55) (nt := 5) (rs := [(2, none)]) rfl rfl (Nat.le_of_ble_eq_true rfl)]
  unfold c55
  simp +contextual -implicitDefEqProofs (maxSteps := 100000000) only [impl_isValue, subI, go_sem, ↓ite_not', Nat.reduceEqDiff, Nat.reduceLT, Nat.reduceLeDiff, ↓reduceIte, Nat.reduceAdd, Nat.reduceMul, Nat.reduceSub, Int.reduceEq, Int.reduceLT, Int.reduceLE, Int.reduceToNat, Int.cast_ofNat_Int, Nat.reduceBEq] <;> rfl
-- impl.zigOf
def impl_zigOf (p0 : Int) : Int :=
  if (decide (p0 < 0)) = true then (IntKind.i64.wrap ((IntKind.i64.wrap ((-2) * p0)) - 1))
  else (IntKind.i64.wrap (2 * p0))
@[go_sem] theorem impl_zigOf_ok (n : Nat) (q0_0 : Int) : lev tab (n + 1) 74 [.int .i64 q0_0] = (some (impl_zigOf q0_0)).map fun r => (.int .i64 r, [.gone]) := by
  rw [lev_st (vc := c74) (nt := 10) (rs := [(2, none)]) rfl rfl (Nat.le_of_ble_eq_true rfl)]
  unfold c74
  simp +contextual -implicitDefEqProofs (maxSteps := 100000000) only [impl_zigOf, subI, go_sem, ↓ite_not', Nat.reduceEqDiff, Nat.reduceLT, Nat.reduceLeDiff, ↓reduceIte, Nat.reduceAdd, Nat.reduceMul, Nat.reduceSub, Int.reduceEq, Int.reduceLT, Int.reduceLE, Int.reduceToNat, Int.cast_ofNat_Int, Nat.reduceBEq] <;> rfl
-- math/bits.Len64
def math_bits_Len64_u1 (a1 : Int) (a2 : Bool) : Int × Int :=
  if a2 = true then ((a1.fdiv (2 ^ (min 32 64))), 32)
  else (a1, 0)
def math_bits_Len64_u2 (a4 : Int) (a5 : Int) (a6 : Bool) : Int × Int :=
  if a6 = true then ((a4.fdiv (2 ^ (min 16 64))), (IntKind.i64.wrap (a5 + 16)))
  else (a4, a5)
def math_bits_Len64_u3 (a8 : Int) (a9 : Int) (a10 : Bool) : Int × Int :=
  if a10 = true then ((a8.fdiv (2 ^ (min 8 64))), (IntKind.i64.wrap (a9 + 8)))
  else (a8, a9)
def math_bits_Len64 (p0 : Int) : Option (Int) :=
  let y3 := math_bits_Len64_u1 p0 ((decide (p0 ≥ 4294967296)))
  let y7 := math_bits_Len64_u2 y3.1 y3.2 ((decide (y3.1 ≥ 65536)))
  let y11 := math_bits_Len64_u3 y7.1 y7.2 ((decide (y7.1 ≥ 256)))
  (getI ([0, 1, 2, 2, 3, 3, 3, 3, 4, 4, 4, 4, 4, 4, 4, 4, 5, 5, 5, 5, 5, 5, 5, 5, 5, 5, 5, 5, 5, 5, 5, 5, 6, 6, 6, 6, 6, 6, 6, 6, 6, 6, 6, 6, 6, 6, 6, 6, 6, 6, 6, 6, 6, 6, 6, 6, 6, 6, 6, 6, 6, 6, 6, 6, 7, 7, 7, 7, 7, 7, 7, 7, 7, 7, 7, 7, 7, 7, 7, 7, 7, 7, 7, 7, 7, 7, 7, 7, 7, 7, 7, 7, 7, 7, 7, 7, 7, 7, 7, 7, 7, 7, 7, 7, 7, 7, 7, 7, 7, 7, 7, 7, 7, 7, 7, 7, 7, 7, 7, 7, 7, 7, 7, 7, 7, 7, 7, 7, 8, 8, 8, 8, 8, 8, 8, 8, 8, 8, 8, 8, 8, 8, 8, 8, 8, 8, 8, 8, 8, 8, 8, 8, 8, 8, 8, 8, 8, 8, 8, 8, 8, 8, 8, 8, 8, 8, 8, 8, 8, 8, 8, 8, 8, 8, 8, 8, 8, 8, 8, 8, 8, 8, 8, 8, 8, 8, 8, 8, 8, 8, 8, 8, 8, 8, 8, 8, 8, 8, 8, 8, 8, 8, 8, 8, 8, 8, 8, 8, 8, 8, 8, 8, 8, 8, 8, 8, 8, 8, 8, 8, 8, 8, 8, 8, 8, 8, 8, 8, 8, 8, 8, 8, 8, 8, 8, 8, 8, 8, 8, 8, 8, 8, 8, 8, 8, 8, 8, 8, 8, 8, 8, 8, 8, 8, 8, 8] : List UInt8) ((IntKind.u8.wrap y11.1))).bind fun x12 =>
  some ((IntKind.i64.wrap (y11.2 + (IntKind.i64.wrap (x12.toNat : Int)))))
@[go_sem] theorem math_bits_Len64_u1_ok {β : Type} (n : Nat) (K : List (Kont β)) (a1 : Int) (a2 : Bool) : run ⟨tab.own, lev tab n, tab.gl⟩ K c75_u1 ⟨[(0, .val (.int .u64 a1)), (2, .val (.int .i64 0)), (4, .val (.bool a2))], [], 25⟩ = (some (math_bits_Len64_u1 a1 a2)).bind (fun t => plug ⟨tab.own, lev tab n, tab.gl⟩ K .normal ⟨[(0, .val (.int .u64 t.1)), (2, .val (.int .i64 t.2))], [], 25⟩) := by
  unfold c75_u1
  simp +contextual -implicitDefEqProofs (maxSteps := 100000000) only [math_bits_Len64_u1, subI, go_sem, ↓ite_not', Nat.reduceEqDiff, Nat.reduceLT, Nat.reduceLeDiff, ↓reduceIte, Nat.reduceAdd, Nat.reduceMul, Nat.reduceSub, Int.reduceEq, Int.reduceLT, Int.reduceLE, Int.reduceToNat, Int.cast_ofNat_Int, Nat.reduceBEq] <;> rfl
@[go_sem] theorem math_bits_Len64_u2_ok {β : Type} (n : Nat) (K : List (Kont β)) (a4 : Int) (a5 : Int) (a6 : Bool) : run ⟨tab.own, lev tab n, tab.gl⟩ K c75_u2 ⟨[(0, .val (.int .u64 a4)), (2, .val (.int .i64 a5)), (8, .val (.bool a6))], [], 25⟩ = (some (math_bits_Len64_u2 a4 a5 a6)).bind (fun t => plug ⟨tab.own, lev tab n, tab.gl⟩ K .normal ⟨[(0, .val (.int .u64 t.1)), (2, .val (.int .i64 t.2))], [], 25⟩) := by
  unfold c75_u2
  simp +contextual -implicitDefEqProofs (maxSteps := 100000000) only [math_bits_Len64_u2, subI, go_sem, ↓ite_not', Nat.reduceEqDiff, Nat.reduceLT, Nat.reduceLeDiff, ↓reduceIte, Nat.reduceAdd, Nat.reduceMul, Nat.reduceSub, Int.reduceEq, Int.reduceLT, Int.reduceLE, Int.reduceToNat, Int.cast_ofNat_Int, Nat.reduceBEq] <;> rfl
@[go_sem] theorem math_bits_Len64_u3_ok {β : Type} (n : Nat) (K : List (Kont β)) (a8 : Int) (a9 : Int) (a10 : Bool) : run ⟨tab.own, lev tab n, tab.gl⟩ K c75_u3 ⟨[(0, .val (.int .u64 a8)), (2, .val (.int .i64 a9)), (14, .val (.bool a10))], [], 25⟩ = (some (math_bits_Len64_u3 a8 a9 a10)).bind (fun t => plug ⟨tab.own, lev tab n, tab.gl⟩ K .normal ⟨[(0, .val (.int .u64 t.1)), (2, .val (.int .i64 t.2))], [], 25⟩) := by
  unfold c75_u3
  simp +contextual -implicitDefEqProofs (maxSteps := 100000000) only [math_bits_Len64_u3, subI, go_sem, ↓ite_not', Nat.reduceEqDiff, Nat.reduceLT, Nat.reduceLeDiff, ↓reduceIte, Nat.reduceAdd, Nat.reduceMul, Nat.reduceSub, Int.reduceEq, Int.reduceLT, Int.reduceLE, Int.reduceToNat, Int.cast_ofNat_Int, Nat.reduceBEq] <;> rfl
@[go_sem] theorem math_bits_Len64_ok (n : Nat) (q0_0 : Int) : lev tab (n + 1) 75 [.int .u64 q0_0] = (math_bits_Len64 q0_0).map fun r => (.int .i64 r, [.gone]) := by
  rw [lev_st (vc := c75) (nt := 25) (rs := [(2, none)]) rfl rfl (Nat.le_of_ble_eq_true rfl)]
  unfold c75
  simp +contextual -implicitDefEqProofs (maxSteps := 100000000) only [math_bits_Len64, subI, go_sem, ↓ite_not', Nat.reduceEqDiff, Nat.reduceLT, Nat.reduceLeDiff, ↓reduceIte, Nat.reduceAdd, Nat.reduceMul, Nat.reduceSub, Int.reduceEq, Int.reduceLT, Int.reduceLE, Int.reduceToNat, Int.cast_ofNat_Int, Nat.reduceBEq] <;> rfl
-- impl.slotsOf
def impl_slotsOf_s1 (a11 : List Int) (a12 : Int) (a14 : Int) : ((List SSlot) × Int × Int) → Option (((List SSlot) × Int × Int) ⊕ ((List SSlot))) := fun ⟨a10, a13, a15⟩ =>
  if (decide (a15 < a14)) = true then (getI a11 a15).bind fun _ =>
    (a11[a15.toNat]?).bind fun x16 =>
    if ((IntKind.i64.wrap (a13 - x16))) < 0 then none
    else if x16 < 0 then none
      else if x16 < 0 then none
        else if (okApp 24 ((a10 ++ ([(SSlot.mk ((IntKind.i64.wrap ((BitVec.ofInt 64 ((a12.fdiv (2 ^ (min ((IntKind.i64.wrap (a13 - x16))).toNat 64)))) &&& BitVec.ofInt 64 ((IntKind.i64.wrap ((IntKind.i64.wrap (1 * 2 ^ (min x16.toNat 64))) - 1)))).toNat))) 1 ((IntKind.i64.wrap (1 * 2 ^ (min x16.toNat 64)))))]))).length) = true then some ((.inl (((a10 ++ ([(SSlot.mk ((IntKind.i64.wrap ((BitVec.ofInt 64 ((a12.fdiv (2 ^ (min ((IntKind.i64.wrap (a13 - x16))).toNat 64)))) &&& BitVec.ofInt 64 ((IntKind.i64.wrap ((IntKind.i64.wrap (1 * 2 ^ (min x16.toNat 64))) - 1)))).toNat))) 1 ((IntKind.i64.wrap (1 * 2 ^ (min x16.toNat 64)))))])), (IntKind.i64.wrap (a13 - x16)), (IntKind.i64.wrap (a15 + 1))))))
          else none
  else some ((.inr a10))
def impl_slotsOf (p0 : Int) : Option ((List SSlot)) :=
  (math_bits_Len64 ((IntKind.u64.wrap (impl_zigOf p0)))).bind fun r1 =>
  (impl_classSlot r1).bind fun r2 =>
  (loopO (impl_slotsOf_s1 ((impl_pieces r1)) ((impl_zigOf p0)) ((((impl_pieces r1)).length : Int))) (([r2], (IntKind.i64.wrap (r1 - 1)), 0))).bind fun y17 =>
  some y17
@[go_sem] theorem impl_slotsOf_s1_ok {β : Type} (n : Nat) (K : List (Kont β)) (a10 : List SSlot) (a11 : List Int) (a12 : Int) (a13 : Int) (a14 : Int) (a15 : Int) : run ⟨tab.own, lev tab (n + 2), tab.gl⟩ K (.loop c56_u1) ⟨[(3, .val (.int .i64 a12)), (5, .sl 200000050 0 a10.length), (6, .val (.int .i64 a13)), (20, .sl 200000200 0 a11.length), (21, .val (.int .i64 a14)), (22, .val (.int .i64 a15))], [(200000050, .row false 3 (rowE (SSlot.cells .lent) a10)), (200000200, .row false 1 (rowE (eI .i64) a11))], 44⟩ = (loopO (impl_slotsOf_s1 a11 a12 a14) ((a10, a13, a15))).bind (fun t => plug ⟨tab.own, lev tab (n + 2), tab.gl⟩ K (.exit 0) ⟨[(5, .sl 200000050 0 t.length)], [(200000050, .row false 3 (rowE (SSlot.cells .lent) t))], 44⟩) := by
  refine loop_run (C := ⟨tab.own, lev tab (n + 2), tab.gl⟩) (K := K) (c := c56_u1) (impl_slotsOf_s1 a11 a12 a14) (fun s => ⟨[(3, .val (.int .i64 a12)), (5, .sl 200000050 0 s.1.length), (6, .val (.int .i64 s.2.1)), (20, .sl 200000200 0 a11.length), (21, .val (.int .i64 a14)), (22, .val (.int .i64 s.2.2))], [(200000050, .row false 3 (rowE (SSlot.cells .lent) s.1)), (200000200, .row false 1 (rowE (eI .i64) a11))], 44⟩) (fun t => plug ⟨tab.own, lev tab (n + 2), tab.gl⟩ K (.exit 0) ⟨[(5, .sl 200000050 0 t.length)], [(200000050, .row false 3 (rowE (SSlot.cells .lent) t))], 44⟩) (fun k s => ?_) ((a10, a13, a15))
  obtain ⟨a10, a13, a15⟩ := s
  unfold c56_u1
  simp +contextual -implicitDefEqProofs (maxSteps := 100000000) only [impl_slotsOf_s1, subI, go_sem, ↓ite_not', Nat.reduceEqDiff, Nat.reduceLT, Nat.reduceLeDiff, ↓reduceIte, Nat.reduceAdd, Nat.reduceMul, Nat.reduceSub, Int.reduceEq, Int.reduceLT, Int.reduceLE, Int.reduceToNat, Int.cast_ofNat_Int, Nat.reduceBEq] <;> rfl
@[go_sem] theorem impl_slotsOf_s1_ok_e {β : Type} (n : Nat) (K : List (Kont β)) (a11 : List Int) (a12 : Int) (a13 : Int) (a14 : Int) (a15 : Int) (a10_0 : SSlot) : run ⟨tab.own, lev tab (n + 2), tab.gl⟩ K (.loop c56_u1) ⟨[(3, .val (.int .i64 a12)), (5, .sl 200000050 0 1), (6, .val (.int .i64 a13)), (20, .sl 200000200 0 a11.length), (21, .val (.int .i64 a14)), (22, .val (.int .i64 a15))], [(200000050, .row false 3 (rowE (SSlot.cells .lent) ([a10_0]))), (200000200, .row false 1 (rowE (eI .i64) a11))], 44⟩ = (loopO (impl_slotsOf_s1 a11 a12 a14) (([a10_0], a13, a15))).bind (fun t => plug ⟨tab.own, lev tab (n + 2), tab.gl⟩ K (.exit 0) ⟨[(5, .sl 200000050 0 t.length)], [(200000050, .row false 3 (rowE (SSlot.cells .lent) t))], 44⟩) := impl_slotsOf_s1_ok n K [a10_0] a11 a12 a13 a14 a15
@[go_sem] theorem impl_slotsOf_ok (n : Nat) (q0_0 : Int) : lev tab (n + 3) 56 [.int .i64 q0_0] = (impl_slotsOf q0_0).map fun r => (.ow 3 (rowE (SSlot.cells .lent) r), [.gone]) := by
  rw [lev_st (vc := c56) (nt := 44) (rs := [(2, none)]) rfl rfl (Nat.le_of_ble_eq_true rfl)]
  unfold c56
  simp +contextual -implicitDefEqProofs (maxSteps := 100000000) only [impl_slotsOf, subI, go_sem, ↓ite_not', Nat.reduceEqDiff, Nat.reduceLT, Nat.reduceLeDiff, ↓reduceIte, Nat.reduceAdd, Nat.reduceMul, Nat.reduceSub, Int.reduceEq, Int.reduceLT, Int.reduceLE, Int.reduceToNat, Int.cast_ofNat_Int, Nat.reduceBEq] <;> rfl
-- impl.SlotFault
def impl_SlotFault_u1 (a1 : Int) (a2 : Int) (a3 : Int) : Int :=
  if (impl_inRange a3 1 1024) = true then if (impl_inRange a2 1 a3) = true then (impl_codeIf ((!(impl_inRange a1 0 ((IntKind.i64.wrap (a3 - a2)))))) 3)
    else (impl_codeIf true 3)
  else (impl_codeIf true 3)
def impl_SlotFault (p0 : SSlot) : Int :=
  let y4 := impl_SlotFault_u1 p0.Low p0.Size p0.Total
  y4
@[go_sem] theorem impl_SlotFault_u1_ok {β : Type} (n : Nat) (K : List (Kont β)) (a1 : Int) (a2 : Int) (a3 : Int) : run ⟨tab.own, lev tab (n + 1), tab.gl⟩ K c46_u1 ⟨[(1, .pt 200000010 0)], [(200000010, .var false [.val (.int .i64 a1), .val (.int .i64 a2), .val (.int .i64 a3)])], 27⟩ = (some (impl_SlotFault_u1 a1 a2 a3)).bind (fun t => plug ⟨tab.own, lev tab (n + 1), tab.gl⟩ K .normal ⟨[(2, .val (.int .i64 t))], [], 27⟩) := by
  unfold c46_u1
  simp +contextual -implicitDefEqProofs (maxSteps := 100000000) only [impl_SlotFault_u1, subI, go_sem, ↓ite_not', Nat.reduceEqDiff, Nat.reduceLT, Nat.reduceLeDiff, ↓reduceIte, Nat.reduceAdd, Nat.reduceMul, Nat.reduceSub, Int.reduceEq, Int.reduceLT, Int.reduceLE, Int.reduceToNat, Int.cast_ofNat_Int, Nat.reduceBEq] <;> rfl
@[go_sem] theorem impl_SlotFault_ok (n : Nat) (q0_0 : Int) (q0_1 : Int) (q0_2 : Int) : lev tab (n + 2) 46 [.agg [.int .i64 q0_0, .int .i64 q0_1, .int .i64 q0_2]] = (some (impl_SlotFault (SSlot.mk q0_0 q0_1 q0_2))).map fun r => (.int .i64 r, [.gone]) := by
  rw [lev_st (vc := c46) (nt := 27) (rs := [(2, none)]) rfl rfl (Nat.le_of_ble_eq_true rfl)]
  unfold c46
  simp +contextual -implicitDefEqProofs (maxSteps := 100000000) only [impl_SlotFault, subI, go_sem, ↓ite_not', Nat.reduceEqDiff, Nat.reduceLT, Nat.reduceLeDiff, ↓reduceIte, Nat.reduceAdd, Nat.reduceMul, Nat.reduceSub, Int.reduceEq, Int.reduceLT, Int.reduceLE, Int.reduceToNat, Int.cast_ofNat_Int, Nat.reduceBEq] <;> rfl
-- impl.carry
def impl_carry_s1 : ((List Int) × Int) → Option (((List Int) × Int) ⊕ ((List Int) × Int)) := fun ⟨a1, a2⟩ =>
  (getI a1 a2).bind fun _ =>
  (a1[a2.toNat]?).bind fun x3 =>
  if (x3 == 255) = true then (getI a1 a2).bind fun _ =>
    (a1[a2.toNat]?).bind fun _ =>
    some ((.inl (((a1.set a2.toNat 0), (IntKind.i64.wrap (a2 - 1))))))
  else some ((.inr ((a1, a2))))
def impl_carry (p0 : List Int) : Option ((List Int)) :=
  (loopO impl_carry_s1 ((p0, (IntKind.i64.wrap ((p0.length : Int) - 1))))).bind fun y5 =>
  (getI y5.1 y5.2).bind fun _ =>
  (y5.1[y5.2.toNat]?).bind fun x6 =>
  (getI y5.1 y5.2).bind fun _ =>
  (y5.1[y5.2.toNat]?).bind fun _ =>
  some ((y5.1.set y5.2.toNat ((IntKind.u8.wrap (x6 + 1)))))
@[go_sem] theorem impl_carry_s1_ok {β : Type} (n : Nat) (K : List (Kont β)) (a1 : List Int) (a2 : Int) : run ⟨tab.own, lev tab n, tab.gl⟩ K (.loop c67_u1) ⟨[(0, .sl 1000000000 0 a1.length), (2, .val (.int .i64 a2))], [(1000000000, .row true 1 (rowE (eI .u8) a1))], 22⟩ = (loopO impl_carry_s1 ((a1, a2))).bind (fun t => plug ⟨tab.own, lev tab n, tab.gl⟩ K (.exit 0) ⟨[(0, .sl 1000000000 0 t.1.length), (2, .val (.int .i64 t.2))], [(1000000000, .row true 1 (rowE (eI .u8) t.1))], 22⟩) := by
  refine loop_run (C := ⟨tab.own, lev tab n, tab.gl⟩) (K := K) (c := c67_u1) (impl_carry_s1) (fun s => ⟨[(0, .sl 1000000000 0 s.1.length), (2, .val (.int .i64 s.2))], [(1000000000, .row true 1 (rowE (eI .u8) s.1))], 22⟩) (fun t => plug ⟨tab.own, lev tab n, tab.gl⟩ K (.exit 0) ⟨[(0, .sl 1000000000 0 t.1.length), (2, .val (.int .i64 t.2))], [(1000000000, .row true 1 (rowE (eI .u8) t.1))], 22⟩) (fun k s => ?_) ((a1, a2))
  obtain ⟨a1, a2⟩ := s
  unfold c67_u1
  simp +contextual -implicitDefEqProofs (maxSteps := 100000000) only [impl_carry_s1, subI, go_sem, ↓ite_not', Nat.reduceEqDiff, Nat.reduceLT, Nat.reduceLeDiff, ↓reduceIte, Nat.reduceAdd, Nat.reduceMul, Nat.reduceSub, Int.reduceEq, Int.reduceLT, Int.reduceLE, Int.reduceToNat, Int.cast_ofNat_Int, Nat.reduceBEq] <;> rfl
@[go_sem] theorem impl_carry_ok (n : Nat) (q0_0 : List Int) : lev tab (n + 1) 67 [.ow 1 (rowE (eI .u8) q0_0)] = (impl_carry q0_0).map fun r => (.tup [], [.ow 1 (rowE (eI .u8) r)]) := by
  rw [lev_st (vc := c67) (nt := 22) (rs := []) rfl rfl (Nat.le_of_ble_eq_true rfl)]
  unfold c67
  simp +contextual -implicitDefEqProofs (maxSteps := 100000000) only [impl_carry, subI, go_sem, ↓ite_not', Nat.reduceEqDiff, Nat.reduceLT, Nat.reduceLeDiff, ↓reduceIte, Nat.reduceAdd, Nat.reduceMul, Nat.reduceSub, Int.reduceEq, Int.reduceLT, Int.reduceLE, Int.reduceToNat, Int.cast_ofNat_Int, Nat.reduceBEq] <;> rfl
-- bytes.trimRightByte
def bytes_trimRightByte_u2 (a10 : List Int) (a11 : Int) : Option (Bool) :=
  if (decide ((a10.length : Int) > 0)) = true then (getI a10 (IntKind.i64.wrap ((a10.length : Int) - 1))).bind fun x12 =>
    some ((x12 == a11))
  else some false
def bytes_trimRightByte_s3 (a9 : Int) : (List Int) → Option (((List Int)) ⊕ ((List Int))) := fun a8 =>
  (bytes_trimRightByte_u2 a8 a9).bind fun y13 =>
  if y13 = true then (subI a8 0 ((IntKind.i64.wrap ((a8.length : Int) - 1)))).bind fun x14 =>
    some ((.inl x14))
  else some ((.inr a8))
def bytes_trimRightByte (p0 : List Int) (p1 : Int) : Option ((List Int)) :=
  (loopO (bytes_trimRightByte_s3 p1) p0).bind fun y15 =>
  some y15
@[go_sem] theorem bytes_trimRightByte_u2_ok {β : Type} (n : Nat) (K : List (Kont β)) (a10 : List Int) (a11 : Int) : run ⟨tab.own, lev tab n, tab.gl⟩ K c87_u2 ⟨[(0, .val (.sh .lent 1 (rowE (eI .u8) a10))), (1, .val (.int .u8 a11))], [], 24⟩ = (bytes_trimRightByte_u2 a10 a11).bind (fun t => plug ⟨tab.own, lev tab n, tab.gl⟩ K .normal ⟨[(0, .val (.sh .lent 1 (rowE (eI .u8) a10))), (1, .val (.int .u8 a11)), (17, .val (.bool t))], [], 24⟩) := by
  unfold c87_u2
  simp +contextual -implicitDefEqProofs (maxSteps := 100000000) only [bytes_trimRightByte_u2, subI, go_sem, ↓ite_not', Nat.reduceEqDiff, Nat.reduceLT, Nat.reduceLeDiff, ↓reduceIte, Nat.reduceAdd, Nat.reduceMul, Nat.reduceSub, Int.reduceEq, Int.reduceLT, Int.reduceLE, Int.reduceToNat, Int.cast_ofNat_Int, Nat.reduceBEq] <;> rfl
@[go_sem] theorem bytes_trimRightByte_s3_ok {β : Type} (n : Nat) (K : List (Kont β)) (a8 : List Int) (a9 : Int) : run ⟨tab.own, lev tab n, tab.gl⟩ K (.loop c87_u3) ⟨[(0, .val (.sh .lent 1 (rowE (eI .u8) a8))), (1, .val (.int .u8 a9))], [], 24⟩ = (loopO (bytes_trimRightByte_s3 a9) a8).bind (fun t => plug ⟨tab.own, lev tab n, tab.gl⟩ K (.exit 0) ⟨[(0, .val (.sh .lent 1 (rowE (eI .u8) t)))], [], 24⟩) := by
  refine loop_run (C := ⟨tab.own, lev tab n, tab.gl⟩) (K := K) (c := c87_u3) (bytes_trimRightByte_s3 a9) (fun s => ⟨[(0, .val (.sh .lent 1 (rowE (eI .u8) s))), (1, .val (.int .u8 a9))], [], 24⟩) (fun t => plug ⟨tab.own, lev tab n, tab.gl⟩ K (.exit 0) ⟨[(0, .val (.sh .lent 1 (rowE (eI .u8) t)))], [], 24⟩) (fun k s => ?_) a8
  unfold c87_u3
  simp +contextual -implicitDefEqProofs (maxSteps := 100000000) only [bytes_trimRightByte_s3, subI, go_sem, ↓ite_not', Nat.reduceEqDiff, Nat.reduceLT, Nat.reduceLeDiff, ↓reduceIte, Nat.reduceAdd, Nat.reduceMul, Nat.reduceSub, Int.reduceEq, Int.reduceLT, Int.reduceLE, Int.reduceToNat, Int.cast_ofNat_Int, Nat.reduceBEq] <;> rfl
@[go_sem] theorem bytes_trimRightByte_ok (n : Nat) (q0_0 : List Int) (q1_0 : Int) : lev tab (n + 1) 87 [.sh .lent 1 (rowE (eI .u8) q0_0), .int .u8 q1_0] = (bytes_trimRightByte q0_0 q1_0).map fun r => (.sh .lent 1 (rowE (eI .u8) r), [.gone, .gone]) := by
  rw [lev_st (vc := c87) (nt := 24) (rs := [(4, none)]) rfl rfl (Nat.le_of_ble_eq_true rfl)]
  unfold c87
  simp +contextual -implicitDefEqProofs (maxSteps := 100000000) only [bytes_trimRightByte, subI, go_sem, ↓ite_not', Nat.reduceEqDiff, Nat.reduceLT, Nat.reduceLeDiff, ↓reduceIte, Nat.reduceAdd, Nat.reduceMul, Nat.reduceSub, Int.reduceEq, Int.reduceLT, Int.reduceLE, Int.reduceToNat, Int.cast_ofNat_Int, Nat.reduceBEq] <;> rfl
-- bytes.TrimRight
def bytes_TrimRight_lit_u1 (a1 : List Int) : Bool :=
  if ((a1.length : Int) == 0) = true then true
  else ([0] == [])
def bytes_TrimRight_lit_u2 (a3 : List Int) : Unit :=
  ()
def bytes_TrimRight_lit (p0 : List Int) : Option ((List Int)) :=
  let y2 := bytes_TrimRight_lit_u1 p0
  if y2 = true then some p0
  else let y4 := bytes_TrimRight_lit_u2 p0
    (bytes_trimRightByte p0 0).bind fun r5 =>
    some r5
@[go_sem] theorem bytes_TrimRight_lit_u1_ok {β : Type} (n : Nat) (K : List (Kont β)) (a1 : List Int) : run ⟨tab.own, lev tab (n + 1), tab.gl⟩ K c68_u1 ⟨[(0, .val (.sh .lent 1 (rowE (eI .u8) a1))), (1, .val (.str ([0])))], [], 38⟩ = (some (bytes_TrimRight_lit_u1 a1)).bind (fun t => plug ⟨tab.own, lev tab (n + 1), tab.gl⟩ K .normal ⟨[(0, .val (.sh .lent 1 (rowE (eI .u8) a1))), (1, .val (.str ([0]))), (13, .val (.bool t))], [], 38⟩) := by
  unfold c68_u1
  simp +contextual -implicitDefEqProofs (maxSteps := 100000000) only [bytes_TrimRight_lit_u1, subI, go_sem, ↓ite_not', Nat.reduceEqDiff, Nat.reduceLT, Nat.reduceLeDiff, ↓reduceIte, Nat.reduceAdd, Nat.reduceMul, Nat.reduceSub, Int.reduceEq, Int.reduceLT, Int.reduceLE, Int.reduceToNat, Int.cast_ofNat_Int, Nat.reduceBEq] <;> rfl
@[go_sem] theorem bytes_TrimRight_lit_u2_ok {β : Type} (n : Nat) (K : List (Kont β)) (a3 : List Int) : run ⟨tab.own, lev tab (n + 1), tab.gl⟩ K c68_u2 ⟨[(0, .val (.sh .lent 1 (rowE (eI .u8) a3))), (1, .val (.str ([0])))], [], 38⟩ = (some (bytes_TrimRight_lit_u2 a3)).bind (fun t => plug ⟨tab.own, lev tab (n + 1), tab.gl⟩ K .normal ⟨[(0, .val (.sh .lent 1 (rowE (eI .u8) a3))), (1, .val (.str ([0]))), (22, .val (.bool true))], [], 38⟩) := by
  unfold c68_u2
  simp +contextual -implicitDefEqProofs (maxSteps := 100000000) only [bytes_TrimRight_lit_u2, subI, go_sem, ↓ite_not', Nat.reduceEqDiff, Nat.reduceLT, Nat.reduceLeDiff, ↓reduceIte, Nat.reduceAdd, Nat.reduceMul, Nat.reduceSub, Int.reduceEq, Int.reduceLT, Int.reduceLE, Int.reduceToNat, Int.cast_ofNat_Int, Nat.reduceBEq] <;> rfl
@[go_sem] theorem bytes_TrimRight_lit_ok (n : Nat) (q0_0 : List Int) : lev tab (n + 2) 68 [.sh .lent 1 (rowE (eI .u8) q0_0), .str [0]] = (bytes_TrimRight_lit q0_0).map fun r => (.sh .lent 1 (rowE (eI .u8) r), [.gone, .gone]) := by
  rw [lev_st (vc := c68) (nt := 38) (rs := [(4, none)]) rfl rfl (Nat.le_of_ble_eq_true rfl)]
  unfold c68
  simp +contextual -implicitDefEqProofs (maxSteps := 100000000) only [bytes_TrimRight_lit, subI, go_sem, ↓ite_not', Nat.reduceEqDiff, Nat.reduceLT, Nat.reduceLeDiff, ↓reduceIte, Nat.reduceAdd, Nat.reduceMul, Nat.reduceSub, Int.reduceEq, Int.reduceLT, Int.reduceLE, Int.reduceToNat, Int.cast_ofNat_Int, Nat.reduceBEq] <;> rfl
-- impl.encode
def impl_encode_u3 (a39 : List Int) (a40 : Int) (a41 : Int) (a42 : List SSlot) (a43 : Int) (a44 : Int) (a45 : Bool) : Option ((List Int) × Int) :=
  if a45 = true then (impl_carry a39).bind fun r46 =>
    if a39.length = r46.length then some ((r46, (IntKind.i64.wrap (a40 - 16777216))))
    else none
  else some ((a39, a40))
def impl_encode_s4 (a57 : List SSlot) (a58 : Int) (a59 : Int) : ((List Int) × Int × Int) → Option (((List Int) × Int × Int) ⊕ ((List Int) × Int × Int)) := fun ⟨a54, a55, a56⟩ =>
  if (decide (a56 < 65536)) = true then if (okApp 1 ((a54 ++ ([(IntKind.u8.wrap (a55.fdiv (2 ^ (min 16 64))))]))).length) = true then some ((.inl (((a54 ++ ([(IntKind.u8.wrap (a55.fdiv (2 ^ (min 16 64))))])), (IntKind.i64.wrap ((a55.tmod (65536 : Int)) * 256)), (IntKind.i64.wrap (a56 * 256))))))
    else none
  else some ((.inr ((a54, a55, a56))))
def impl_encode_s5 (a34 : List SSlot) (a35 : Int) : ((List Int) × Int × Int × Int) → Option (((List Int) × Int × Int × Int) ⊕ ((List Int) × Int)) := fun ⟨a31, a32, a33, a36⟩ =>
  if (decide (a36 < a35)) = true then (getI a34 a36).bind fun x37 =>
    (impl_narrowed a33 x37).bind fun r38 =>
    (impl_encode_u3 a31 ((IntKind.i64.wrap (a32 + r38.1))) r38.2 a34 a35 a36 ((decide ((IntKind.i64.wrap (a32 + r38.1)) ≥ 16777216)))).bind fun y47 =>
    (loopO (impl_encode_s4 a34 a35 a36) ((y47.1, y47.2, r38.2))).bind fun y60 =>
    some ((.inl ((y60.1, y60.2.1, y60.2.2, (IntKind.i64.wrap (a36 + 1))))))
  else some ((.inr ((a31, a32))))
def impl_encode (p0 : List SSlot) : Option ((List Int)) :=
  (loopO (impl_encode_s5 p0 ((p0.length : Int))) (([], 0, 16777216, 0))).bind fun y61 =>
  if (okApp 1 ((y61.1 ++ ([(IntKind.u8.wrap (y61.2.fdiv (2 ^ (min 16 64)))), (IntKind.u8.wrap (y61.2.fdiv (2 ^ (min 8 64)))), (IntKind.u8.wrap y61.2)]))).length) = true then (bytes_TrimRight_lit ((y61.1 ++ ([(IntKind.u8.wrap (y61.2.fdiv (2 ^ (min 16 64)))), (IntKind.u8.wrap (y61.2.fdiv (2 ^ (min 8 64)))), (IntKind.u8.wrap y61.2)])))).bind fun r62 =>
    (slices_Clone_byte r62).bind fun r63 =>
    some r63
  else none
@[go_sem] theorem impl_encode_u3_ok {β : Type} (n : Nat) (K : List (Kont β)) (a39 : List Int) (a40 : Int) (a41 : Int) (a42 : List SSlot) (a43 : Int) (a44 : Int) (a45 : Bool) : run ⟨tab.own, lev tab (n + 2), tab.gl⟩ K c47_u3 ⟨[(3, .sl 200000030 0 a39.length), (4, .val (.int .i64 a40)), (5, .val (.int .i64 a41)), (11, .val (.sh .lent 3 (rowE (SSlot.cells .lent) a42))), (12, .val (.int .i64 a43)), (13, .val (.int .i64 a44)), (28, .val (.bool a45))], [(200000030, .row false 1 (rowE (eI .u8) a39))], 61⟩ = (impl_encode_u3 a39 a40 a41 a42 a43 a44 a45).bind (fun t => plug ⟨tab.own, lev tab (n + 2), tab.gl⟩ K .normal ⟨[(3, .sl 200000030 0 t.1.length), (4, .val (.int .i64 t.2)), (5, .val (.int .i64 a41)), (11, .val (.sh .lent 3 (rowE (SSlot.cells .lent) a42))), (12, .val (.int .i64 a43)), (13, .val (.int .i64 a44))], [(200000030, .row false 1 (rowE (eI .u8) t.1))], 61⟩) := by
  unfold c47_u3
  simp +contextual -implicitDefEqProofs (maxSteps := 100000000) only [impl_encode_u3, subI, go_sem, ↓ite_not', Nat.reduceEqDiff, Nat.reduceLT, Nat.reduceLeDiff, ↓reduceIte, Nat.reduceAdd, Nat.reduceMul, Nat.reduceSub, Int.reduceEq, Int.reduceLT, Int.reduceLE, Int.reduceToNat, Int.cast_ofNat_Int, Nat.reduceBEq] <;> rfl
@[go_sem] theorem impl_encode_s4_ok {β : Type} (n : Nat) (K : List (Kont β)) (a54 : List Int) (a55 : Int) (a56 : Int) (a57 : List SSlot) (a58 : Int) (a59 : Int) : run ⟨tab.own, lev tab (n + 2), tab.gl⟩ K (.loop c47_u4) ⟨[(3, .sl 200000030 0 a54.length), (4, .val (.int .i64 a55)), (5, .val (.int .i64 a56)), (11, .val (.sh .lent 3 (rowE (SSlot.cells .lent) a57))), (12, .val (.int .i64 a58)), (13, .val (.int .i64 a59))], [(200000030, .row false 1 (rowE (eI .u8) a54))], 61⟩ = (loopO (impl_encode_s4 a57 a58 a59) ((a54, a55, a56))).bind (fun t => plug ⟨tab.own, lev tab (n + 2), tab.gl⟩ K (.exit 2) ⟨[(3, .sl 200000030 0 t.1.length), (4, .val (.int .i64 t.2.1)), (5, .val (.int .i64 t.2.2)), (11, .val (.sh .lent 3 (rowE (SSlot.cells .lent) a57))), (12, .val (.int .i64 a58)), (13, .val (.int .i64 a59))], [(200000030, .row false 1 (rowE (eI .u8) t.1))], 61⟩) := by
  refine loop_run (C := ⟨tab.own, lev tab (n + 2), tab.gl⟩) (K := K) (c := c47_u4) (impl_encode_s4 a57 a58 a59) (fun s => ⟨[(3, .sl 200000030 0 s.1.length), (4, .val (.int .i64 s.2.1)), (5, .val (.int .i64 s.2.2)), (11, .val (.sh .lent 3 (rowE (SSlot.cells .lent) a57))), (12, .val (.int .i64 a58)), (13, .val (.int .i64 a59))], [(200000030, .row false 1 (rowE (eI .u8) s.1))], 61⟩) (fun t => plug ⟨tab.own, lev tab (n + 2), tab.gl⟩ K (.exit 2) ⟨[(3, .sl 200000030 0 t.1.length), (4, .val (.int .i64 t.2.1)), (5, .val (.int .i64 t.2.2)), (11, .val (.sh .lent 3 (rowE (SSlot.cells .lent) a57))), (12, .val (.int .i64 a58)), (13, .val (.int .i64 a59))], [(200000030, .row false 1 (rowE (eI .u8) t.1))], 61⟩) (fun k s => ?_) ((a54, a55, a56))
  obtain ⟨a54, a55, a56⟩ := s
  unfold c47_u4
  simp +contextual -implicitDefEqProofs (maxSteps := 100000000) only [impl_encode_s4, subI, go_sem, ↓ite_not', Nat.reduceEqDiff, Nat.reduceLT, Nat.reduceLeDiff, ↓reduceIte, Nat.reduceAdd, Nat.reduceMul, Nat.reduceSub, Int.reduceEq, Int.reduceLT, Int.reduceLE, Int.reduceToNat, Int.cast_ofNat_Int, Nat.reduceBEq] <;> rfl
@[go_sem] theorem impl_encode_s5_ok {β : Type} (n : Nat) (K : List (Kont β)) (a31 : List Int) (a32 : Int) (a33 : Int) (a34 : List SSlot) (a35 : Int) (a36 : Int) : run ⟨tab.own, lev tab (n + 2), tab.gl⟩ K (.loop c47_u5) ⟨[(3, .sl 200000030 0 a31.length), (4, .val (.int .i64 a32)), (5, .val (.int .i64 a33)), (11, .val (.sh .lent 3 (rowE (SSlot.cells .lent) a34))), (12, .val (.int .i64 a35)), (13, .val (.int .i64 a36))], [(200000030, .row false 1 (rowE (eI .u8) a31))], 61⟩ = (loopO (impl_encode_s5 a34 a35) ((a31, a32, a33, a36))).bind (fun t => plug ⟨tab.own, lev tab (n + 2), tab.gl⟩ K (.exit 0) ⟨[(3, .sl 200000030 0 t.1.length), (4, .val (.int .i64 t.2))], [(200000030, .row false 1 (rowE (eI .u8) t.1))], 61⟩) := by
  refine loop_run (C := ⟨tab.own, lev tab (n + 2), tab.gl⟩) (K := K) (c := c47_u5) (impl_encode_s5 a34 a35) (fun s => ⟨[(3, .sl 200000030 0 s.1.length), (4, .val (.int .i64 s.2.1)), (5, .val (.int .i64 s.2.2.1)), (11, .val (.sh .lent 3 (rowE (SSlot.cells .lent) a34))), (12, .val (.int .i64 a35)), (13, .val (.int .i64 s.2.2.2))], [(200000030, .row false 1 (rowE (eI .u8) s.1))], 61⟩) (fun t => plug ⟨tab.own, lev tab (n + 2), tab.gl⟩ K (.exit 0) ⟨[(3, .sl 200000030 0 t.1.length), (4, .val (.int .i64 t.2))], [(200000030, .row false 1 (rowE (eI .u8) t.1))], 61⟩) (fun k s => ?_) ((a31, a32, a33, a36))
  obtain ⟨a31, a32, a33, a36⟩ := s
  unfold c47_u5
  simp +contextual -implicitDefEqProofs (maxSteps := 100000000) only [impl_encode_s5, subI, go_sem, ↓ite_not', Nat.reduceEqDiff, Nat.reduceLT, Nat.reduceLeDiff, ↓reduceIte, Nat.reduceAdd, Nat.reduceMul, Nat.reduceSub, Int.reduceEq, Int.reduceLT, Int.reduceLE, Int.reduceToNat, Int.cast_ofNat_Int, Nat.reduceBEq] <;> rfl
@[go_sem] theorem impl_encode_s5_ok_e {β : Type} (n : Nat) (K : List (Kont β)) (a32 : Int) (a33 : Int) (a34 : List SSlot) (a35 : Int) (a36 : Int) : run ⟨tab.own, lev tab (n + 2), tab.gl⟩ K (.loop c47_u5) ⟨[(3, .sl 200000030 0 0), (4, .val (.int .i64 a32)), (5, .val (.int .i64 a33)), (11, .val (.sh .lent 3 (rowE (SSlot.cells .lent) a34))), (12, .val (.int .i64 a35)), (13, .val (.int .i64 a36))], [(200000030, .row false 1 [])], 61⟩ = (loopO (impl_encode_s5 a34 a35) (([], a32, a33, a36))).bind (fun t => plug ⟨tab.own, lev tab (n + 2), tab.gl⟩ K (.exit 0) ⟨[(3, .sl 200000030 0 t.1.length), (4, .val (.int .i64 t.2))], [(200000030, .row false 1 (rowE (eI .u8) t.1))], 61⟩) := impl_encode_s5_ok n K [] a32 a33 a34 a35 a36
@[go_sem] theorem impl_encode_ok (n : Nat) (q0_0 : List SSlot) : lev tab (n + 3) 47 [.sh .lent 3 (rowE (SSlot.cells .lent) q0_0)] = (impl_encode q0_0).map fun r => (.ow 1 (rowE (eI .u8) r), [.gone]) := by
  rw [lev_st (vc := c47) (nt := 61) (rs := [(2, none)]) rfl rfl (Nat.le_of_ble_eq_true rfl)]
  unfold c47
  simp +contextual -implicitDefEqProofs (maxSteps := 100000000) only [impl_encode, subI, go_sem, ↓ite_not', Nat.reduceEqDiff, Nat.reduceLT, Nat.reduceLeDiff, ↓reduceIte, Nat.reduceAdd, Nat.reduceMul, Nat.reduceSub, Int.reduceEq, Int.reduceLT, Int.reduceLE, Int.reduceToNat, Int.cast_ofNat_Int, Nat.reduceBEq] <;> rfl
-- impl.EncodeSlots
def impl_EncodeSlots_s1 (a7 : List SSlot) (a8 : Int) : Int → Option ((Int) ⊕ (Unit ⊕ Int)) := fun a9 =>
  if (decide (a9 < a8)) = true then (getI a7 a9).bind fun x10 =>
    if ((impl_SlotFault x10) != 0) = true then some ((.inr ((.inr ((impl_SlotFault x10))))))
    else some ((.inl ((IntKind.i64.wrap (a9 + 1)))))
  else some ((.inr ((.inl (())))))
def impl_EncodeSlots (p0 : List SSlot) : Option (SBytesResult) :=
  if (decide ((p0.length : Int) > 400)) = true then some ((SBytesResult.mk 2 ([])))
  else (loopO (impl_EncodeSlots_s1 p0 ((p0.length : Int))) 0).bind fun t => (Sum.elim (fun y11 => (impl_encode p0).bind fun r12 =>
      some ((SBytesResult.mk 0 r12)))
     (fun y13 => some ((SBytesResult.mk y13 ([]))))) t
@[go_sem] theorem impl_EncodeSlots_s1_ok {β : Type} (n : Nat) (K : List (Kont β)) (a7 : List SSlot) (a8 : Int) (a9 : Int) : run ⟨tab.own, lev tab (n + 3), tab.gl⟩ K (.loop c16_u1) ⟨[(0, .val (.sh .lent 3 (rowE (SSlot.cells .lent) a7))), (2, .pt 200000020 0), (10, .val (.sh .lent 3 (rowE (SSlot.cells .lent) a7))), (11, .val (.int .i64 a8)), (12, .val (.int .i64 a9))], [(200000020, .var false [.val (.int .i64 0), .emp 1])], 26⟩ = (loopO (impl_EncodeSlots_s1 a7 a8) a9).bind (fun t => (Sum.elim (fun t => plug ⟨tab.own, lev tab (n + 3), tab.gl⟩ K (.exit 0) ⟨[(0, .val (.sh .lent 3 (rowE (SSlot.cells .lent) a7))), (2, .pt 200000020 0)], [(200000020, .var false [.val (.int .i64 0), .emp 1])], 26⟩) (fun t => plug ⟨tab.own, lev tab (n + 3), tab.gl⟩ K .ret ⟨[(2, .pt 200000020 0)], [(200000020, .var false [.val (.int .i64 t), .emp 1])], 26⟩)) t) := by
  refine loop_run (C := ⟨tab.own, lev tab (n + 3), tab.gl⟩) (K := K) (c := c16_u1) (impl_EncodeSlots_s1 a7 a8) (fun s => ⟨[(0, .val (.sh .lent 3 (rowE (SSlot.cells .lent) a7))), (2, .pt 200000020 0), (10, .val (.sh .lent 3 (rowE (SSlot.cells .lent) a7))), (11, .val (.int .i64 a8)), (12, .val (.int .i64 s))], [(200000020, .var false [.val (.int .i64 0), .emp 1])], 26⟩) (fun t => (Sum.elim (fun t => plug ⟨tab.own, lev tab (n + 3), tab.gl⟩ K (.exit 0) ⟨[(0, .val (.sh .lent 3 (rowE (SSlot.cells .lent) a7))), (2, .pt 200000020 0)], [(200000020, .var false [.val (.int .i64 0), .emp 1])], 26⟩) (fun t => plug ⟨tab.own, lev tab (n + 3), tab.gl⟩ K .ret ⟨[(2, .pt 200000020 0)], [(200000020, .var false [.val (.int .i64 t), .emp 1])], 26⟩)) t) (fun k s => ?_) a9
  unfold c16_u1
  simp +contextual -implicitDefEqProofs (maxSteps := 100000000) only [impl_EncodeSlots_s1, subI, go_sem, ↓ite_not', Nat.reduceEqDiff, Nat.reduceLT, Nat.reduceLeDiff, ↓reduceIte, Nat.reduceAdd, Nat.reduceMul, Nat.reduceSub, Int.reduceEq, Int.reduceLT, Int.reduceLE, Int.reduceToNat, Int.cast_ofNat_Int, Nat.reduceBEq] <;> rfl
@[go_sem] theorem impl_EncodeSlots_ok (n : Nat) (q0_0 : List SSlot) : lev tab (n + 4) 16 [.sh .lent 3 (rowE (SSlot.cells .lent) q0_0)] = (impl_EncodeSlots q0_0).map fun r => (.agg [.int .i64 r.Code, .ow 1 (rowE (eI .u8) r.Bytes)], [.gone]) := by
  rw [lev_st (vc := c16) (nt := 26) (rs := [(2, some (some 2))]) rfl rfl (Nat.le_of_ble_eq_true rfl)]
  unfold c16
  simp +contextual -implicitDefEqProofs (maxSteps := 100000000) only [impl_EncodeSlots, subI, go_sem, ↓ite_not', Nat.reduceEqDiff, Nat.reduceLT, Nat.reduceLeDiff, ↓reduceIte, Nat.reduceAdd, Nat.reduceMul, Nat.reduceSub, Int.reduceEq, Int.reduceLT, Int.reduceLE, Int.reduceToNat, Int.cast_ofNat_Int, Nat.reduceBEq] <;> rfl
-- impl.EncodeValues
def impl_EncodeValues_s1 (a9 : List Int) (a10 : Int) : ((List SSlot) × Int) → Option (((List SSlot) × Int) ⊕ (((List SSlot)) ⊕ Unit)) := fun ⟨a8, a11⟩ =>
  if (decide (a11 < a10)) = true then (getI a9 a11).bind fun x12 =>
    if (impl_isValue x12) = true then (impl_slotsOf x12).bind fun r13 =>
      if (okApp 24 ((a8 ++ r13)).length) = true then some ((.inl (((a8 ++ r13), (IntKind.i64.wrap (a11 + 1))))))
      else none
    else some ((.inr ((.inr (())))))
  else some ((.inr ((.inl a8))))
def impl_EncodeValues (p0 : List Int) : Option (SBytesResult) :=
  if (decide ((p0.length : Int) > 64)) = true then some ((SBytesResult.mk 2 ([])))
  else (loopO (impl_EncodeValues_s1 p0 ((p0.length : Int))) (([], 0))).bind fun t => (Sum.elim (fun y14 => (impl_EncodeSlots y14).bind fun r15 =>
      some r15)
     (fun y16 => some ((SBytesResult.mk 3 ([]))))) t
@[go_sem] theorem impl_EncodeValues_s1_ok {β : Type} (n : Nat) (K : List (Kont β)) (a8 : List SSlot) (a9 : List Int) (a10 : Int) (a11 : Int) : run ⟨tab.own, lev tab (n + 4), tab.gl⟩ K (.loop c24_u1) ⟨[(2, .pt 200000020 0), (3, .sl 200000030 0 a8.length), (11, .val (.sh .lent 1 (rowE (eI .i64) a9))), (12, .val (.int .i64 a10)), (13, .val (.int .i64 a11))], [(200000020, .var false [.val (.int .i64 0), .emp 1]), (200000030, .row false 3 (rowE (SSlot.cells .lent) a8))], 28⟩ = (loopO (impl_EncodeValues_s1 a9 a10) ((a8, a11))).bind (fun t => (Sum.elim (fun t => plug ⟨tab.own, lev tab (n + 4), tab.gl⟩ K (.exit 0) ⟨[(2, .pt 200000020 0), (3, .sl 200000030 0 t.length)], [(200000020, .var false [.val (.int .i64 0), .emp 1]), (200000030, .row false 3 (rowE (SSlot.cells .lent) t))], 28⟩) (fun t => plug ⟨tab.own, lev tab (n + 4), tab.gl⟩ K .ret ⟨[(2, .pt 200000020 0)], [(200000020, .var false [.val (.int .i64 3), .emp 1])], 28⟩)) t) := by
  refine loop_run (C := ⟨tab.own, lev tab (n + 4), tab.gl⟩) (K := K) (c := c24_u1) (impl_EncodeValues_s1 a9 a10) (fun s => ⟨[(2, .pt 200000020 0), (3, .sl 200000030 0 s.1.length), (11, .val (.sh .lent 1 (rowE (eI .i64) a9))), (12, .val (.int .i64 a10)), (13, .val (.int .i64 s.2))], [(200000020, .var false [.val (.int .i64 0), .emp 1]), (200000030, .row false 3 (rowE (SSlot.cells .lent) s.1))], 28⟩) (fun t => (Sum.elim (fun t => plug ⟨tab.own, lev tab (n + 4), tab.gl⟩ K (.exit 0) ⟨[(2, .pt 200000020 0), (3, .sl 200000030 0 t.length)], [(200000020, .var false [.val (.int .i64 0), .emp 1]), (200000030, .row false 3 (rowE (SSlot.cells .lent) t))], 28⟩) (fun t => plug ⟨tab.own, lev tab (n + 4), tab.gl⟩ K .ret ⟨[(2, .pt 200000020 0)], [(200000020, .var false [.val (.int .i64 3), .emp 1])], 28⟩)) t) (fun k s => ?_) ((a8, a11))
  obtain ⟨a8, a11⟩ := s
  unfold c24_u1
  simp +contextual -implicitDefEqProofs (maxSteps := 100000000) only [impl_EncodeValues_s1, subI, go_sem, ↓ite_not', Nat.reduceEqDiff, Nat.reduceLT, Nat.reduceLeDiff, ↓reduceIte, Nat.reduceAdd, Nat.reduceMul, Nat.reduceSub, Int.reduceEq, Int.reduceLT, Int.reduceLE, Int.reduceToNat, Int.cast_ofNat_Int, Nat.reduceBEq] <;> rfl
@[go_sem] theorem impl_EncodeValues_s1_ok_e {β : Type} (n : Nat) (K : List (Kont β)) (a9 : List Int) (a10 : Int) (a11 : Int) : run ⟨tab.own, lev tab (n + 4), tab.gl⟩ K (.loop c24_u1) ⟨[(2, .pt 200000020 0), (3, .sl 200000030 0 0), (11, .val (.sh .lent 1 (rowE (eI .i64) a9))), (12, .val (.int .i64 a10)), (13, .val (.int .i64 a11))], [(200000020, .var false [.val (.int .i64 0), .emp 1]), (200000030, .row false 3 [])], 28⟩ = (loopO (impl_EncodeValues_s1 a9 a10) (([], a11))).bind (fun t => (Sum.elim (fun t => plug ⟨tab.own, lev tab (n + 4), tab.gl⟩ K (.exit 0) ⟨[(2, .pt 200000020 0), (3, .sl 200000030 0 t.length)], [(200000020, .var false [.val (.int .i64 0), .emp 1]), (200000030, .row false 3 (rowE (SSlot.cells .lent) t))], 28⟩) (fun t => plug ⟨tab.own, lev tab (n + 4), tab.gl⟩ K .ret ⟨[(2, .pt 200000020 0)], [(200000020, .var false [.val (.int .i64 3), .emp 1])], 28⟩)) t) := impl_EncodeValues_s1_ok n K [] a9 a10 a11
@[go_sem] theorem impl_EncodeValues_ok (n : Nat) (q0_0 : List Int) : lev tab (n + 5) 24 [.sh .lent 1 (rowE (eI .i64) q0_0)] = (impl_EncodeValues q0_0).map fun r => (.agg [.int .i64 r.Code, .ow 1 (rowE (eI .u8) r.Bytes)], [.gone]) := by
  rw [lev_st (vc := c24) (nt := 28) (rs := [(2, some (some 2))]) rfl rfl (Nat.le_of_ble_eq_true rfl)]
  unfold c24
  simp +contextual -implicitDefEqProofs (maxSteps := 100000000) only [impl_EncodeValues, subI, go_sem, ↓ite_not', Nat.reduceEqDiff, Nat.reduceLT, Nat.reduceLeDiff, ↓reduceIte, Nat.reduceAdd, Nat.reduceMul, Nat.reduceSub, Int.reduceEq, Int.reduceLT, Int.reduceLE, Int.reduceToNat, Int.cast_ofNat_Int, Nat.reduceBEq] <;> rfl
-- bytes.Equal
def bytes_Equal (p0 : List Int) (p1 : List Int) : Option (Bool) :=
  (bytesI p0).bind fun x1 =>
  (bytesI p1).bind fun x2 =>
  some ((x1 == x2))
@[go_sem] theorem bytes_Equal_ok (n : Nat) (q0_0 : List Int) (q1_0 : List Int) : lev tab (n + 1) 37 [.sh .lent 1 (rowE (eI .u8) q0_0), .sh .lent 1 (rowE (eI .u8) q1_0)] = (bytes_Equal q0_0 q1_0).map fun r => (.bool r, [.gone, .gone]) := by
  rw [lev_st (vc := c37) (nt := 10) (rs := [(4, none)]) rfl rfl (Nat.le_of_ble_eq_true rfl)]
  unfold c37
  simp +contextual -implicitDefEqProofs (maxSteps := 100000000) only [bytes_Equal, subI, go_sem, ↓ite_not', Nat.reduceEqDiff, Nat.reduceLT, Nat.reduceLeDiff, ↓reduceIte, Nat.reduceAdd, Nat.reduceMul, Nat.reduceSub, Int.reduceEq, Int.reduceLT, Int.reduceLE, Int.reduceToNat, Int.cast_ofNat_Int, Nat.reduceBEq] <;> rfl
-- slices.Clone[[]int64,int64]
def slices_Clone_int64 (p0 : List Int) : Option ((List Int)) :=
  if (okApp 8 p0.length) = true then some p0
  else none
@[go_sem] theorem slices_Clone_int64_ok (n : Nat) (q0_0 : List Int) : lev tab (n + 1) 38 [.sh .lent 1 (rowE (eI .i64) q0_0)] = (slices_Clone_int64 q0_0).map fun r => (.ow 1 (rowE (eI .i64) r), [.gone]) := by
  cases q0_0 with
  | nil =>
    rw [lev_st (vc := c38) (nt := 8) (rs := [(2, none)]) rfl rfl (Nat.le_of_ble_eq_true rfl)]
    unfold c38
    simp +contextual -implicitDefEqProofs (maxSteps := 100000000) only [slices_Clone_int64, rowE_nil, List.length_nil, subI, go_sem, ↓ite_not', Nat.reduceEqDiff, Nat.reduceLT, Nat.reduceLeDiff, ↓reduceIte, Nat.reduceAdd, Nat.reduceMul, Nat.reduceSub, Int.reduceEq, Int.reduceLT, Int.reduceLE, Int.reduceToNat, Int.cast_ofNat_Int, Nat.reduceBEq] <;> rfl
  | cons y ys =>
    rw [lev_st (vc := c38) (nt := 8) (rs := [(2, none)]) rfl rfl (Nat.le_of_ble_eq_true rfl)]
    unfold c38
    simp +contextual -implicitDefEqProofs (maxSteps := 100000000) only [slices_Clone_int64, subI, go_sem, ↓ite_not', Nat.reduceEqDiff, Nat.reduceLT, Nat.reduceLeDiff, ↓reduceIte, Nat.reduceAdd, Nat.reduceMul, Nat.reduceSub, Int.reduceEq, Int.reduceLT, Int.reduceLE, Int.reduceToNat, Int.cast_ofNat_Int, Nat.reduceBEq] <;> rfl
-- impl.DecodeValues
def impl_DecodeValues_s1 (a18 : List Int) (a19 : Int) : (Int × Int × Int × (List Int) × (List Int) × Int) → Option ((Int × Int × Int × (List Int) × (List Int) × Int) ⊕ ((List Int))) := fun ⟨a13, a14, a15, a16, a17, a20⟩ =>
  if (decide (a20 < a19)) = true then (impl_Decoder_number_o ((SDecoder.mk a16 a13 a14 a15))).bind fun r21 =>
    if (okApp 8 ((a17 ++ ([(impl_unzigOf r21.1)]))).length) = true then some ((.inl ((r21.2.2.1, r21.2.2.2.1, r21.2.2.2.2, r21.2.1, (a17 ++ ([(impl_unzigOf r21.1)])), (IntKind.i64.wrap (a20 + 1))))))
    else none
  else some ((.inr a17))
def impl_DecodeValues_u2 (a24 : List Int) (a25 : Int) (a26 : List Int) (a27 : List Int) : Option (Bool) :=
  if (a25 != 0) = true then some true
  else (bytes_Equal a26 a27).bind fun r28 =>
    some ((!r28))
def impl_DecodeValues (p0 : List Int) (p1 : Int) : Option (SIntsResult) :=
  (impl_first ([(impl_codeIf ((decide ((p0.length : Int) > 600))) 2), (impl_codeIf ((!(impl_inRange p1 0 64))) 3)])).bind fun r1 =>
  if (r1 != 0) = true then some ((SIntsResult.mk r1 ([])))
  else (impl_start p0).bind fun r2 =>
    (loopO (impl_DecodeValues_s1 p0 p1) ((r2.At, r2.Rest, r2.Range, r2.Data, [], 0))).bind fun y22 =>
    (impl_EncodeValues y22).bind fun r23 =>
    (impl_DecodeValues_u2 y22 r23.Code r23.Bytes p0).bind fun y29 =>
    if y29 = true then some ((SIntsResult.mk 5 ([])))
    else (slices_Clone_int64 y22).bind fun r30 =>
      some ((SIntsResult.mk 0 r30))
@[go_sem] theorem impl_DecodeValues_s1_ok {β : Type} (n : Nat) (K : List (Kont β)) (a13 : Int) (a14 : Int) (a15 : Int) (a16 : List Int) (a17 : List Int) (a18 : List Int) (a19 : Int) (a20 : Int) : run ⟨tab.own, lev tab (n + 5), tab.gl⟩ K (.loop c8_u1) ⟨[(0, .val (.sh .lent 1 (rowE (eI .u8) a18))), (4, .pt 200000040 0), (6, .pt 200000060 0), (7, .sl 200000070 0 a17.length), (26, .val (.int .i64 a19)), (27, .val (.int .i64 a20))], [(200000040, .var false [.val (.int .i64 0), .emp 1]), (200000060, .var false [.sl 200000061 0 a16.length, .val (.int .i64 a13), .val (.int .i64 a14), .val (.int .i64 a15)]), (200000061, .row false 1 (rowE (eI .u8) a16)), (200000070, .row false 1 (rowE (eI .i64) a17))], 51⟩ = (loopO (impl_DecodeValues_s1 a18 a19) ((a13, a14, a15, a16, a17, a20))).bind (fun t => plug ⟨tab.own, lev tab (n + 5), tab.gl⟩ K (.exit 0) ⟨[(0, .val (.sh .lent 1 (rowE (eI .u8) a18))), (4, .pt 200000040 0), (7, .sl 200000070 0 t.length)], [(200000040, .var false [.val (.int .i64 0), .emp 1]), (200000070, .row false 1 (rowE (eI .i64) t))], 51⟩) := by
  refine loop_run (C := ⟨tab.own, lev tab (n + 5), tab.gl⟩) (K := K) (c := c8_u1) (impl_DecodeValues_s1 a18 a19) (fun s => ⟨[(0, .val (.sh .lent 1 (rowE (eI .u8) a18))), (4, .pt 200000040 0), (6, .pt 200000060 0), (7, .sl 200000070 0 s.2.2.2.2.1.length), (26, .val (.int .i64 a19)), (27, .val (.int .i64 s.2.2.2.2.2))], [(200000040, .var false [.val (.int .i64 0), .emp 1]), (200000060, .var false [.sl 200000061 0 s.2.2.2.1.length, .val (.int .i64 s.1), .val (.int .i64 s.2.1), .val (.int .i64 s.2.2.1)]), (200000061, .row false 1 (rowE (eI .u8) s.2.2.2.1)), (200000070, .row false 1 (rowE (eI .i64) s.2.2.2.2.1))], 51⟩) (fun t => plug ⟨tab.own, lev tab (n + 5), tab.gl⟩ K (.exit 0) ⟨[(0, .val (.sh .lent 1 (rowE (eI .u8) a18))), (4, .pt 200000040 0), (7, .sl 200000070 0 t.length)], [(200000040, .var false [.val (.int .i64 0), .emp 1]), (200000070, .row false 1 (rowE (eI .i64) t))], 51⟩) (fun k s => ?_) ((a13, a14, a15, a16, a17, a20))
  obtain ⟨a13, a14, a15, a16, a17, a20⟩ := s
  unfold c8_u1
  simp +contextual -implicitDefEqProofs (maxSteps := 100000000) only [impl_DecodeValues_s1, subI, go_sem, ↓ite_not', Nat.reduceEqDiff, Nat.reduceLT, Nat.reduceLeDiff, ↓reduceIte, Nat.reduceAdd, Nat.reduceMul, Nat.reduceSub, Int.reduceEq, Int.reduceLT, Int.reduceLE, Int.reduceToNat, Int.cast_ofNat_Int, Nat.reduceBEq] <;> rfl
@[go_sem] theorem impl_DecodeValues_s1_ok_e {β : Type} (n : Nat) (K : List (Kont β)) (a13 : Int) (a14 : Int) (a15 : Int) (a16 : List Int) (a18 : List Int) (a19 : Int) (a20 : Int) : run ⟨tab.own, lev tab (n + 5), tab.gl⟩ K (.loop c8_u1) ⟨[(0, .val (.sh .lent 1 (rowE (eI .u8) a18))), (4, .pt 200000040 0), (6, .pt 200000060 0), (7, .sl 200000070 0 0), (26, .val (.int .i64 a19)), (27, .val (.int .i64 a20))], [(200000040, .var false [.val (.int .i64 0), .emp 1]), (200000060, .var false [.sl 200000061 0 a16.length, .val (.int .i64 a13), .val (.int .i64 a14), .val (.int .i64 a15)]), (200000061, .row false 1 (rowE (eI .u8) a16)), (200000070, .row false 1 [])], 51⟩ = (loopO (impl_DecodeValues_s1 a18 a19) ((a13, a14, a15, a16, [], a20))).bind (fun t => plug ⟨tab.own, lev tab (n + 5), tab.gl⟩ K (.exit 0) ⟨[(0, .val (.sh .lent 1 (rowE (eI .u8) a18))), (4, .pt 200000040 0), (7, .sl 200000070 0 t.length)], [(200000040, .var false [.val (.int .i64 0), .emp 1]), (200000070, .row false 1 (rowE (eI .i64) t))], 51⟩) := impl_DecodeValues_s1_ok n K a13 a14 a15 a16 [] a18 a19 a20
@[go_sem] theorem impl_DecodeValues_u2_ok {β : Type} (n : Nat) (K : List (Kont β)) (a24 : List Int) (a25 : Int) (a26 : List Int) (a27 : List Int) : run ⟨tab.own, lev tab (n + 5), tab.gl⟩ K c8_u2 ⟨[(0, .val (.sh .lent 1 (rowE (eI .u8) a27))), (4, .pt 200000040 0), (7, .sl 200000070 0 a24.length), (8, .pt 200000080 0)], [(200000040, .var false [.val (.int .i64 0), .emp 1]), (200000070, .row false 1 (rowE (eI .i64) a24)), (200000080, .var false [.val (.int .i64 a25), .sl 200000081 0 a26.length]), (200000081, .row false 1 (rowE (eI .u8) a26))], 51⟩ = (impl_DecodeValues_u2 a24 a25 a26 a27).bind (fun t => plug ⟨tab.own, lev tab (n + 5), tab.gl⟩ K .normal ⟨[(4, .pt 200000040 0), (7, .sl 200000070 0 a24.length), (46, .val (.bool t))], [(200000040, .var false [.val (.int .i64 0), .emp 1]), (200000070, .row false 1 (rowE (eI .i64) a24))], 51⟩) := by
  unfold c8_u2
  simp +contextual -implicitDefEqProofs (maxSteps := 100000000) only [impl_DecodeValues_u2, subI, go_sem, ↓ite_not', Nat.reduceEqDiff, Nat.reduceLT, Nat.reduceLeDiff, ↓reduceIte, Nat.reduceAdd, Nat.reduceMul, Nat.reduceSub, Int.reduceEq, Int.reduceLT, Int.reduceLE, Int.reduceToNat, Int.cast_ofNat_Int, Nat.reduceBEq] <;> rfl
@[go_sem] theorem impl_DecodeValues_ok (n : Nat) (q0_0 : List Int) (q1_0 : Int) : lev tab (n + 6) 8 [.sh .lent 1 (rowE (eI .u8) q0_0), .int .i64 q1_0] = (impl_DecodeValues q0_0 q1_0).map fun r => (.agg [.int .i64 r.Code, .ow 1 (rowE (eI .i64) r.List_)], [.gone, .gone]) := by
  rw [lev_st (vc := c8) (nt := 51) (rs := [(4, some (some 2))]) rfl rfl (Nat.le_of_ble_eq_true rfl)]
  unfold c8
  simp +contextual -implicitDefEqProofs (maxSteps := 100000000) only [impl_DecodeValues, subI, go_sem, ↓ite_not', Nat.reduceEqDiff, Nat.reduceLT, Nat.reduceLeDiff, ↓reduceIte, Nat.reduceAdd, Nat.reduceMul, Nat.reduceSub, Int.reduceEq, Int.reduceLT, Int.reduceLE, Int.reduceToNat, Int.cast_ofNat_Int, Nat.reduceBEq] <;> rfl
-- laws.eqInt64S
def laws_eqInt64S_s1 (a6 : List Int) (a7 : List Int) : Int → Option ((Int) ⊕ (Unit ⊕ Unit)) := fun a8 =>
  if (decide (a8 < (a6.length : Int))) = true then (getI a6 a8).bind fun x9 =>
    (getI a7 a8).bind fun x10 =>
    if (x9 != x10) = true then some ((.inr ((.inr (())))))
    else some ((.inl ((IntKind.i64.wrap (a8 + 1)))))
  else some ((.inr ((.inl (())))))
def laws_eqInt64S (p0 : List Int) (p1 : List Int) : Option (Bool) :=
  if ((p0.length : Int) != (p1.length : Int)) = true then some false
  else (loopO (laws_eqInt64S_s1 p0 p1) 0).bind fun t => (Sum.elim (fun y11 => some true)
     (fun y12 => some false)) t
@[go_sem] theorem laws_eqInt64S_s1_ok {β : Type} (n : Nat) (K : List (Kont β)) (a6 : List Int) (a7 : List Int) (a8 : Int) : run ⟨tab.own, lev tab n, tab.gl⟩ K (.loop c39_u1) ⟨[(0, .val (.sh .lent 1 (rowE (eI .i64) a6))), (1, .val (.sh .lent 1 (rowE (eI .i64) a7))), (5, .val (.int .i64 a8))], [], 26⟩ = (loopO (laws_eqInt64S_s1 a6 a7) a8).bind (fun t => (Sum.elim (fun t => plug ⟨tab.own, lev tab n, tab.gl⟩ K (.exit 0) ⟨[], [], 26⟩) (fun t => plug ⟨tab.own, lev tab n, tab.gl⟩ K .ret ⟨[(4, .val (.bool false))], [], 26⟩)) t) := by
  refine loop_run (C := ⟨tab.own, lev tab n, tab.gl⟩) (K := K) (c := c39_u1) (laws_eqInt64S_s1 a6 a7) (fun s => ⟨[(0, .val (.sh .lent 1 (rowE (eI .i64) a6))), (1, .val (.sh .lent 1 (rowE (eI .i64) a7))), (5, .val (.int .i64 s))], [], 26⟩) (fun t => (Sum.elim (fun t => plug ⟨tab.own, lev tab n, tab.gl⟩ K (.exit 0) ⟨[], [], 26⟩) (fun t => plug ⟨tab.own, lev tab n, tab.gl⟩ K .ret ⟨[(4, .val (.bool false))], [], 26⟩)) t) (fun k s => ?_) a8
  unfold c39_u1
  simp +contextual -implicitDefEqProofs (maxSteps := 100000000) only [laws_eqInt64S_s1, subI, go_sem, ↓ite_not', Nat.reduceEqDiff, Nat.reduceLT, Nat.reduceLeDiff, ↓reduceIte, Nat.reduceAdd, Nat.reduceMul, Nat.reduceSub, Int.reduceEq, Int.reduceLT, Int.reduceLE, Int.reduceToNat, Int.cast_ofNat_Int, Nat.reduceBEq] <;> rfl
@[go_sem] theorem laws_eqInt64S_ok (n : Nat) (q0_0 : List Int) (q1_0 : List Int) : lev tab (n + 1) 39 [.sh .lent 1 (rowE (eI .i64) q0_0), .sh .lent 1 (rowE (eI .i64) q1_0)] = (laws_eqInt64S q0_0 q1_0).map fun r => (.bool r, [.gone, .gone]) := by
  rw [lev_st (vc := c39) (nt := 26) (rs := [(4, none)]) rfl rfl (Nat.le_of_ble_eq_true rfl)]
  unfold c39
  simp +contextual -implicitDefEqProofs (maxSteps := 100000000) only [laws_eqInt64S, subI, go_sem, ↓ite_not', Nat.reduceEqDiff, Nat.reduceLT, Nat.reduceLeDiff, ↓reduceIte, Nat.reduceAdd, Nat.reduceMul, Nat.reduceSub, Int.reduceEq, Int.reduceLT, Int.reduceLE, Int.reduceToNat, Int.cast_ofNat_Int, Nat.reduceBEq] <;> rfl
-- laws.eqIntsResult
def laws_eqIntsResult (p0 : SIntsResult) (p1 : SIntsResult) : Option (Bool) :=
  if (p0.Code != p1.Code) = true then some false
  else (laws_eqInt64S p0.List_ p1.List_).bind fun r1 =>
    if r1 = true then some true
    else some false
@[go_sem] theorem laws_eqIntsResult_ok (n : Nat) (q0_0 : Int) (q0_1 : List Int) (q1_0 : Int) (q1_1 : List Int) : lev tab (n + 2) 9 [.agg [.int .i64 q0_0, .sh .lent 1 (rowE (eI .i64) q0_1)], .agg [.int .i64 q1_0, .sh .lent 1 (rowE (eI .i64) q1_1)]] = (laws_eqIntsResult (SIntsResult.mk q0_0 q0_1) (SIntsResult.mk q1_0 q1_1)).map fun r => (.bool r, [.gone, .gone]) := by
  rw [lev_st (vc := c9) (nt := 16) (rs := [(4, none)]) rfl rfl (Nat.le_of_ble_eq_true rfl)]
  unfold c9
  simp +contextual -implicitDefEqProofs (maxSteps := 100000000) only [laws_eqIntsResult, subI, go_sem, ↓ite_not', Nat.reduceEqDiff, Nat.reduceLT, Nat.reduceLeDiff, ↓reduceIte, Nat.reduceAdd, Nat.reduceMul, Nat.reduceSub, Int.reduceEq, Int.reduceLT, Int.reduceLE, Int.reduceToNat, Int.cast_ofNat_Int, Nat.reduceBEq] <;> rfl
-- laws.eqByteS
def laws_eqByteS_s1 (a6 : List Int) (a7 : List Int) : Int → Option ((Int) ⊕ (Unit ⊕ Unit)) := fun a8 =>
  if (decide (a8 < (a6.length : Int))) = true then (getI a6 a8).bind fun x9 =>
    (getI a7 a8).bind fun x10 =>
    if (x9 != x10) = true then some ((.inr ((.inr (())))))
    else some ((.inl ((IntKind.i64.wrap (a8 + 1)))))
  else some ((.inr ((.inl (())))))
def laws_eqByteS (p0 : List Int) (p1 : List Int) : Option (Bool) :=
  if ((p0.length : Int) != (p1.length : Int)) = true then some false
  else (loopO (laws_eqByteS_s1 p0 p1) 0).bind fun t => (Sum.elim (fun y11 => some true)
     (fun y12 => some false)) t
@[go_sem] theorem laws_eqByteS_s1_ok {β : Type} (n : Nat) (K : List (Kont β)) (a6 : List Int) (a7 : List Int) (a8 : Int) : run ⟨tab.own, lev tab n, tab.gl⟩ K (.loop c10_u1) ⟨[(0, .val (.sh .lent 1 (rowE (eI .u8) a6))), (1, .val (.sh .lent 1 (rowE (eI .u8) a7))), (5, .val (.int .i64 a8))], [], 26⟩ = (loopO (laws_eqByteS_s1 a6 a7) a8).bind (fun t => (Sum.elim (fun t => plug ⟨tab.own, lev tab n, tab.gl⟩ K (.exit 0) ⟨[], [], 26⟩) (fun t => plug ⟨tab.own, lev tab n, tab.gl⟩ K .ret ⟨[(4, .val (.bool false))], [], 26⟩)) t) := by
  refine loop_run (C := ⟨tab.own, lev tab n, tab.gl⟩) (K := K) (c := c10_u1) (laws_eqByteS_s1 a6 a7) (fun s => ⟨[(0, .val (.sh .lent 1 (rowE (eI .u8) a6))), (1, .val (.sh .lent 1 (rowE (eI .u8) a7))), (5, .val (.int .i64 s))], [], 26⟩) (fun t => (Sum.elim (fun t => plug ⟨tab.own, lev tab n, tab.gl⟩ K (.exit 0) ⟨[], [], 26⟩) (fun t => plug ⟨tab.own, lev tab n, tab.gl⟩ K .ret ⟨[(4, .val (.bool false))], [], 26⟩)) t) (fun k s => ?_) a8
  unfold c10_u1
  simp +contextual -implicitDefEqProofs (maxSteps := 100000000) only [laws_eqByteS_s1, subI, go_sem, ↓ite_not', Nat.reduceEqDiff, Nat.reduceLT, Nat.reduceLeDiff, ↓reduceIte, Nat.reduceAdd, Nat.reduceMul, Nat.reduceSub, Int.reduceEq, Int.reduceLT, Int.reduceLE, Int.reduceToNat, Int.cast_ofNat_Int, Nat.reduceBEq] <;> rfl
@[go_sem] theorem laws_eqByteS_ok (n : Nat) (q0_0 : List Int) (q1_0 : List Int) : lev tab (n + 1) 10 [.sh .lent 1 (rowE (eI .u8) q0_0), .sh .lent 1 (rowE (eI .u8) q1_0)] = (laws_eqByteS q0_0 q1_0).map fun r => (.bool r, [.gone, .gone]) := by
  rw [lev_st (vc := c10) (nt := 26) (rs := [(4, none)]) rfl rfl (Nat.le_of_ble_eq_true rfl)]
  unfold c10
  simp +contextual -implicitDefEqProofs (maxSteps := 100000000) only [laws_eqByteS, subI, go_sem, ↓ite_not', Nat.reduceEqDiff, Nat.reduceLT, Nat.reduceLeDiff, ↓reduceIte, Nat.reduceAdd, Nat.reduceMul, Nat.reduceSub, Int.reduceEq, Int.reduceLT, Int.reduceLE, Int.reduceToNat, Int.cast_ofNat_Int, Nat.reduceBEq] <;> rfl
-- laws.markByteS
def laws_markByteS_s1 : ((List Int) × Int × Int) → Option (((List Int) × Int × Int) ⊕ ((List Int) × Int)) := fun ⟨a1, a2, a3⟩ =>
  if (decide (a3 < (a1.length : Int))) = true then (getI a1 a3).bind fun _ =>
    (a1[a3.toNat]?).bind fun _ =>
    some ((.inl (((a1.set a3.toNat ((IntKind.u8.wrap a2))), (IntKind.i64.wrap (a2 + 1)), (IntKind.i64.wrap (a3 + 1))))))
  else some ((.inr ((a1, a2))))
def laws_markByteS (p0 : List Int) (p1 : Int) : Option (Int × (List Int)) :=
  (loopO laws_markByteS_s1 ((p0, p1, 0))).bind fun y5 =>
  some ((y5.2, y5.1))
@[go_sem] theorem laws_markByteS_s1_ok {β : Type} (n : Nat) (K : List (Kont β)) (a1 : List Int) (a2 : Int) (a3 : Int) : run ⟨tab.own, lev tab n, tab.gl⟩ K (.loop c11_u1) ⟨[(0, .sl 1000000000 0 a1.length), (1, .val (.int .i64 a2)), (5, .val (.int .i64 a3))], [(1000000000, .row true 1 (rowE (eI .u8) a1))], 20⟩ = (loopO laws_markByteS_s1 ((a1, a2, a3))).bind (fun t => plug ⟨tab.own, lev tab n, tab.gl⟩ K (.exit 0) ⟨[(1, .val (.int .i64 t.2))], [(1000000000, .row true 1 (rowE (eI .u8) t.1))], 20⟩) := by
  refine loop_run (C := ⟨tab.own, lev tab n, tab.gl⟩) (K := K) (c := c11_u1) (laws_markByteS_s1) (fun s => ⟨[(0, .sl 1000000000 0 s.1.length), (1, .val (.int .i64 s.2.1)), (5, .val (.int .i64 s.2.2))], [(1000000000, .row true 1 (rowE (eI .u8) s.1))], 20⟩) (fun t => plug ⟨tab.own, lev tab n, tab.gl⟩ K (.exit 0) ⟨[(1, .val (.int .i64 t.2))], [(1000000000, .row true 1 (rowE (eI .u8) t.1))], 20⟩) (fun k s => ?_) ((a1, a2, a3))
  obtain ⟨a1, a2, a3⟩ := s
  unfold c11_u1
  simp +contextual -implicitDefEqProofs (maxSteps := 100000000) only [laws_markByteS_s1, subI, go_sem, ↓ite_not', Nat.reduceEqDiff, Nat.reduceLT, Nat.reduceLeDiff, ↓reduceIte, Nat.reduceAdd, Nat.reduceMul, Nat.reduceSub, Int.reduceEq, Int.reduceLT, Int.reduceLE, Int.reduceToNat, Int.cast_ofNat_Int, Nat.reduceBEq] <;> rfl
@[go_sem] theorem laws_markByteS_ok (n : Nat) (q0_0 : List Int) (q1_0 : Int) : lev tab (n + 1) 11 [.ow 1 (rowE (eI .u8) q0_0), .int .i64 q1_0] = (laws_markByteS q0_0 q1_0).map fun r => (.int .i64 r.1, [.ow 1 (rowE (eI .u8) r.2), .gone]) := by
  rw [lev_st (vc := c11) (nt := 20) (rs := [(4, none)]) rfl rfl (Nat.le_of_ble_eq_true rfl)]
  unfold c11
  simp +contextual -implicitDefEqProofs (maxSteps := 100000000) only [laws_markByteS, subI, go_sem, ↓ite_not', Nat.reduceEqDiff, Nat.reduceLT, Nat.reduceLeDiff, ↓reduceIte, Nat.reduceAdd, Nat.reduceMul, Nat.reduceSub, Int.reduceEq, Int.reduceLT, Int.reduceLE, Int.reduceToNat, Int.cast_ofNat_Int, Nat.reduceBEq] <;> rfl
-- laws.markInt64S
def laws_markInt64S_s1 : ((List Int) × Int × Int) → Option (((List Int) × Int × Int) ⊕ ((List Int) × Int)) := fun ⟨a1, a2, a3⟩ =>
  if (decide (a3 < (a1.length : Int))) = true then (getI a1 a3).bind fun _ =>
    (a1[a3.toNat]?).bind fun _ =>
    some ((.inl (((a1.set a3.toNat a2), (IntKind.i64.wrap (a2 + 1)), (IntKind.i64.wrap (a3 + 1))))))
  else some ((.inr ((a1, a2))))
def laws_markInt64S (p0 : List Int) (p1 : Int) : Option (Int × (List Int)) :=
  (loopO laws_markInt64S_s1 ((p0, p1, 0))).bind fun y5 =>
  some ((y5.2, y5.1))
@[go_sem] theorem laws_markInt64S_s1_ok {β : Type} (n : Nat) (K : List (Kont β)) (a1 : List Int) (a2 : Int) (a3 : Int) : run ⟨tab.own, lev tab n, tab.gl⟩ K (.loop c40_u1) ⟨[(0, .sl 1000000000 0 a1.length), (1, .val (.int .i64 a2)), (5, .val (.int .i64 a3))], [(1000000000, .row true 1 (rowE (eI .i64) a1))], 19⟩ = (loopO laws_markInt64S_s1 ((a1, a2, a3))).bind (fun t => plug ⟨tab.own, lev tab n, tab.gl⟩ K (.exit 0) ⟨[(1, .val (.int .i64 t.2))], [(1000000000, .row true 1 (rowE (eI .i64) t.1))], 19⟩) := by
  refine loop_run (C := ⟨tab.own, lev tab n, tab.gl⟩) (K := K) (c := c40_u1) (laws_markInt64S_s1) (fun s => ⟨[(0, .sl 1000000000 0 s.1.length), (1, .val (.int .i64 s.2.1)), (5, .val (.int .i64 s.2.2))], [(1000000000, .row true 1 (rowE (eI .i64) s.1))], 19⟩) (fun t => plug ⟨tab.own, lev tab n, tab.gl⟩ K (.exit 0) ⟨[(1, .val (.int .i64 t.2))], [(1000000000, .row true 1 (rowE (eI .i64) t.1))], 19⟩) (fun k s => ?_) ((a1, a2, a3))
  obtain ⟨a1, a2, a3⟩ := s
  unfold c40_u1
  simp +contextual -implicitDefEqProofs (maxSteps := 100000000) only [laws_markInt64S_s1, subI, go_sem, ↓ite_not', Nat.reduceEqDiff, Nat.reduceLT, Nat.reduceLeDiff, ↓reduceIte, Nat.reduceAdd, Nat.reduceMul, Nat.reduceSub, Int.reduceEq, Int.reduceLT, Int.reduceLE, Int.reduceToNat, Int.cast_ofNat_Int, Nat.reduceBEq] <;> rfl
@[go_sem] theorem laws_markInt64S_ok (n : Nat) (q0_0 : List Int) (q1_0 : Int) : lev tab (n + 1) 40 [.ow 1 (rowE (eI .i64) q0_0), .int .i64 q1_0] = (laws_markInt64S q0_0 q1_0).map fun r => (.int .i64 r.1, [.ow 1 (rowE (eI .i64) r.2), .gone]) := by
  rw [lev_st (vc := c40) (nt := 19) (rs := [(4, none)]) rfl rfl (Nat.le_of_ble_eq_true rfl)]
  unfold c40
  simp +contextual -implicitDefEqProofs (maxSteps := 100000000) only [laws_markInt64S, subI, go_sem, ↓ite_not', Nat.reduceEqDiff, Nat.reduceLT, Nat.reduceLeDiff, ↓reduceIte, Nat.reduceAdd, Nat.reduceMul, Nat.reduceSub, Int.reduceEq, Int.reduceLT, Int.reduceLE, Int.reduceToNat, Int.cast_ofNat_Int, Nat.reduceBEq] <;> rfl
-- laws.markIntsResult
def laws_markIntsResult_o (p0 : SIntsResult) (p1 : Int) : Option (Int × SIntsResult) :=
  (laws_markInt64S p0.List_ p1).bind fun r1 =>
  if p0.List_.length = r1.2.length then some ((r1.1, (SIntsResult.mk p0.Code r1.2)))
  else none
@[go_sem] theorem laws_markIntsResult_o_ok (n : Nat) (q0_0 : Int) (q0_1 : List Int) (q1_0 : Int) : lev tab (n + 2) 12 [.int .i64 q0_0, .ow 1 (rowE (eI .i64) q0_1), .int .i64 q1_0] = (laws_markIntsResult_o (SIntsResult.mk q0_0 q0_1) q1_0).map fun r => (.int .i64 r.1, [.gone, .ow 1 (rowE (eI .i64) r.2.List_), .gone]) := by
  rw [lev_st (vc := c12) (nt := 10) (rs := [(4, none)]) rfl rfl (Nat.le_of_ble_eq_true rfl)]
  unfold c12
  simp +contextual -implicitDefEqProofs (maxSteps := 100000000) only [laws_markIntsResult_o, subI, go_sem, ↓ite_not', Nat.reduceEqDiff, Nat.reduceLT, Nat.reduceLeDiff, ↓reduceIte, Nat.reduceAdd, Nat.reduceMul, Nat.reduceSub, Int.reduceEq, Int.reduceLT, Int.reduceLE, Int.reduceToNat, Int.cast_ofNat_Int, Nat.reduceBEq] <;> rfl
-- laws.heldInt64S
def laws_heldInt64S_s1 (a5 : List Int) : (Int × Int) → Option ((Int × Int) ⊕ (Int ⊕ Unit)) := fun ⟨a6, a7⟩ =>
  if (decide (a7 < (a5.length : Int))) = true then (getI a5 a7).bind fun x8 =>
    if (x8 != a6) = true then some ((.inr ((.inr (())))))
    else some ((.inl (((IntKind.i64.wrap (a6 + 1)), (IntKind.i64.wrap (a7 + 1))))))
  else some ((.inr ((.inl a6))))
def laws_heldInt64S (p0 : List Int) (p1 : Int) : Option (Int) :=
  (loopO (laws_heldInt64S_s1 p0) ((p1, 0))).bind fun t => (Sum.elim (fun y9 => some y9)
   (fun y10 => some ((-1)))) t
@[go_sem] theorem laws_heldInt64S_s1_ok {β : Type} (n : Nat) (K : List (Kont β)) (a5 : List Int) (a6 : Int) (a7 : Int) : run ⟨tab.own, lev tab n, tab.gl⟩ K (.loop c41_u1) ⟨[(0, .val (.sh .lent 1 (rowE (eI .i64) a5))), (1, .val (.int .i64 a6)), (5, .val (.int .i64 a7))], [], 21⟩ = (loopO (laws_heldInt64S_s1 a5) ((a6, a7))).bind (fun t => (Sum.elim (fun t => plug ⟨tab.own, lev tab n, tab.gl⟩ K (.exit 0) ⟨[(1, .val (.int .i64 t))], [], 21⟩) (fun t => plug ⟨tab.own, lev tab n, tab.gl⟩ K .ret ⟨[(4, .val (.int .i64 ((-1))))], [], 21⟩)) t) := by
  refine loop_run (C := ⟨tab.own, lev tab n, tab.gl⟩) (K := K) (c := c41_u1) (laws_heldInt64S_s1 a5) (fun s => ⟨[(0, .val (.sh .lent 1 (rowE (eI .i64) a5))), (1, .val (.int .i64 s.1)), (5, .val (.int .i64 s.2))], [], 21⟩) (fun t => (Sum.elim (fun t => plug ⟨tab.own, lev tab n, tab.gl⟩ K (.exit 0) ⟨[(1, .val (.int .i64 t))], [], 21⟩) (fun t => plug ⟨tab.own, lev tab n, tab.gl⟩ K .ret ⟨[(4, .val (.int .i64 ((-1))))], [], 21⟩)) t) (fun k s => ?_) ((a6, a7))
  obtain ⟨a6, a7⟩ := s
  unfold c41_u1
  simp +contextual -implicitDefEqProofs (maxSteps := 100000000) only [laws_heldInt64S_s1, subI, go_sem, ↓ite_not', Nat.reduceEqDiff, Nat.reduceLT, Nat.reduceLeDiff, ↓reduceIte, Nat.reduceAdd, Nat.reduceMul, Nat.reduceSub, Int.reduceEq, Int.reduceLT, Int.reduceLE, Int.reduceToNat, Int.cast_ofNat_Int, Nat.reduceBEq] <;> rfl
@[go_sem] theorem laws_heldInt64S_ok (n : Nat) (q0_0 : List Int) (q1_0 : Int) : lev tab (n + 1) 41 [.sh .lent 1 (rowE (eI .i64) q0_0), .int .i64 q1_0] = (laws_heldInt64S q0_0 q1_0).map fun r => (.int .i64 r, [.gone, .gone]) := by
  rw [lev_st (vc := c41) (nt := 21) (rs := [(4, none)]) rfl rfl (Nat.le_of_ble_eq_true rfl)]
  unfold c41
  simp +contextual -implicitDefEqProofs (maxSteps := 100000000) only [laws_heldInt64S, subI, go_sem, ↓ite_not', Nat.reduceEqDiff, Nat.reduceLT, Nat.reduceLeDiff, ↓reduceIte, Nat.reduceAdd, Nat.reduceMul, Nat.reduceSub, Int.reduceEq, Int.reduceLT, Int.reduceLE, Int.reduceToNat, Int.cast_ofNat_Int, Nat.reduceBEq] <;> rfl
-- laws.heldIntsResult
def laws_heldIntsResult (p0 : SIntsResult) (p1 : Int) : Option (Int) :=
  (laws_heldInt64S p0.List_ p1).bind fun r1 =>
  if (decide (r1 < 0)) = true then some ((-1))
  else some r1
@[go_sem] theorem laws_heldIntsResult_ok (n : Nat) (q0_0 : Int) (q0_1 : List Int) (q1_0 : Int) : lev tab (n + 2) 13 [.agg [.int .i64 q0_0, .sh .lent 1 (rowE (eI .i64) q0_1)], .int .i64 q1_0] = (laws_heldIntsResult (SIntsResult.mk q0_0 q0_1) q1_0).map fun r => (.int .i64 r, [.gone, .gone]) := by
  rw [lev_st (vc := c13) (nt := 12) (rs := [(4, none)]) rfl rfl (Nat.le_of_ble_eq_true rfl)]
  unfold c13
  simp +contextual -implicitDefEqProofs (maxSteps := 100000000) only [laws_heldIntsResult, subI, go_sem, ↓ite_not', Nat.reduceEqDiff, Nat.reduceLT, Nat.reduceLeDiff, ↓reduceIte, Nat.reduceAdd, Nat.reduceMul, Nat.reduceSub, Int.reduceEq, Int.reduceLT, Int.reduceLE, Int.reduceToNat, Int.cast_ofNat_Int, Nat.reduceBEq] <;> rfl
-- laws.FnExactDecodeValues
def laws_FnExactDecodeValues_u1 (a16 : Int) (a17 : List Int) (a18 : Int) (a19 : List Int) (a20 : List Int) (a21 : Int) (a22 : Int) : Option (Bool) :=
  if (decide (a22 < 0)) = true then some true
  else (laws_eqIntsResult ((SIntsResult.mk a18 a19)) ((SIntsResult.mk a16 a17))).bind fun r23 =>
    some ((!r23))
def laws_FnExactDecodeValues_u2 (a37 : Int) (a38 : List Int) (a39 : Int) : Option (Bool) :=
  (laws_heldIntsResult ((SIntsResult.mk a37 a38)) 1).bind fun r40 =>
  if (decide (r40 < 0)) = true then some false
  else if (r40 != a39) = true then some false
    else some true
def laws_FnExactDecodeValues_u3 (a26 : Int) (a27 : List Int) (a28 : Int) (a29 : List Int) (a30 : List Int) (a31 : Int) (a32 : Int) : Option (Bool) :=
  (laws_heldIntsResult ((SIntsResult.mk a28 a29)) 1).bind fun r33 =>
  if (decide (r33 < 0)) = true then some false
  else if (r33 != a32) = true then some false
    else (laws_toByteS a30).bind fun r34 =>
      (impl_DecodeValues r34 a31).bind fun r35 =>
      (laws_eqIntsResult r35 ((SIntsResult.mk a26 a27))).bind fun r36 =>
      if r36 = true then (laws_FnExactDecodeValues_u2 a28 a29 a32).bind fun y41 =>
        some y41
      else some false
def laws_FnExactDecodeValues_u4 (a8 : Int) (a9 : List Int) (a10 : List Int) (a11 : Int) (a12 : List Int) (a13 : List Int) (a14 : Int) : Option (Bool) :=
  (laws_markByteS a10 1).bind fun r15 =>
  if a10.length = r15.2.length then (laws_FnExactDecodeValues_u1 a8 a9 a11 a12 a13 a14 r15.1).bind fun y24 =>
    if y24 = true then some false
    else (laws_markIntsResult_o ((SIntsResult.mk a11 a12)) 1).bind fun r25 =>
      if a12.length = r25.2.List_.length then (laws_FnExactDecodeValues_u3 a8 a9 a11 r25.2.List_ a13 a14 r25.1).bind fun y42 =>
        some y42
      else none
  else none
def laws_FnExactDecodeValues (p0 : List Int) (p1 : Int) : Option (Bool) :=
  if (decide ((p0.length : Int) > 1048576)) = true then some true
  else (laws_toByteS p0).bind fun r1 =>
    (spec_DecodeValues r1 p1).bind fun r2 =>
    (laws_toByteS p0).bind fun r3 =>
    (impl_DecodeValues r3 p1).bind fun r4 =>
    (laws_eqIntsResult r4 r2).bind fun r5 =>
    if r5 = true then (laws_toByteS p0).bind fun r6 =>
      (laws_eqByteS r3 r6).bind fun r7 =>
      if r7 = true then (laws_FnExactDecodeValues_u4 r2.Code r2.List_ r3 r4.Code r4.List_ p0 p1).bind fun y43 =>
        some y43
      else some false
    else some false
@[go_sem] theorem laws_FnExactDecodeValues_u1_ok {β : Type} (n : Nat) (K : List (Kont β)) (a16 : Int) (a17 : List Int) (a18 : Int) (a19 : List Int) (a20 : List Int) (a21 : Int) (a22 : Int) : run ⟨tab.own, lev tab (n + 6), tab.gl⟩ K c3_u1 ⟨[(0, .val (.sh .lent 1 (rowE (eI .u8) a20))), (1, .val (.int .i64 a21)), (5, .pt 200000050 0), (7, .pt 200000070 0), (8, .val (.int .i64 a22))], [(200000050, .var false [.val (.int .i64 a16), .sl 200000051 0 a17.length]), (200000051, .row false 1 (rowE (eI .i64) a17)), (200000070, .var false [.val (.int .i64 a18), .sl 200000071 0 a19.length]), (200000071, .row false 1 (rowE (eI .i64) a19))], 71⟩ = (laws_FnExactDecodeValues_u1 a16 a17 a18 a19 a20 a21 a22).bind (fun t => plug ⟨tab.own, lev tab (n + 6), tab.gl⟩ K .normal ⟨[(0, .val (.sh .lent 1 (rowE (eI .u8) a20))), (1, .val (.int .i64 a21)), (5, .pt 200000050 0), (7, .pt 200000070 0), (43, .val (.bool t))], [(200000050, .var false [.val (.int .i64 a16), .sl 200000051 0 a17.length]), (200000051, .row false 1 (rowE (eI .i64) a17)), (200000070, .var false [.val (.int .i64 a18), .sl 200000071 0 a19.length]), (200000071, .row false 1 (rowE (eI .i64) a19))], 71⟩) := by
  unfold c3_u1
  simp +contextual -implicitDefEqProofs (maxSteps := 100000000) only [laws_FnExactDecodeValues_u1, subI, go_sem, ↓ite_not', Nat.reduceEqDiff, Nat.reduceLT, Nat.reduceLeDiff, ↓reduceIte, Nat.reduceAdd, Nat.reduceMul, Nat.reduceSub, Int.reduceEq, Int.reduceLT, Int.reduceLE, Int.reduceToNat, Int.cast_ofNat_Int, Nat.reduceBEq] <;> rfl
@[go_sem] theorem laws_FnExactDecodeValues_u2_ok {β : Type} (n : Nat) (K : List (Kont β)) (a37 : Int) (a38 : List Int) (a39 : Int) : run ⟨tab.own, lev tab (n + 6), tab.gl⟩ K c3_u2 ⟨[(7, .pt 200000070 0), (9, .val (.int .i64 a39))], [(200000070, .var false [.val (.int .i64 a37), .sl 200000071 0 a38.length]), (200000071, .row false 1 (rowE (eI .i64) a38))], 71⟩ = (laws_FnExactDecodeValues_u2 a37 a38 a39).bind (fun t => plug ⟨tab.own, lev tab (n + 6), tab.gl⟩ K .ret ⟨[(4, .val (.bool t))], [], 71⟩) := by
  unfold c3_u2
  simp +contextual -implicitDefEqProofs (maxSteps := 100000000) only [laws_FnExactDecodeValues_u2, subI, go_sem, ↓ite_not', Nat.reduceEqDiff, Nat.reduceLT, Nat.reduceLeDiff, ↓reduceIte, Nat.reduceAdd, Nat.reduceMul, Nat.reduceSub, Int.reduceEq, Int.reduceLT, Int.reduceLE, Int.reduceToNat, Int.cast_ofNat_Int, Nat.reduceBEq] <;> rfl
@[go_sem] theorem laws_FnExactDecodeValues_u3_ok {β : Type} (n : Nat) (K : List (Kont β)) (a26 : Int) (a27 : List Int) (a28 : Int) (a29 : List Int) (a30 : List Int) (a31 : Int) (a32 : Int) : run ⟨tab.own, lev tab (n + 6), tab.gl⟩ K c3_u3 ⟨[(0, .val (.sh .lent 1 (rowE (eI .u8) a30))), (1, .val (.int .i64 a31)), (5, .pt 200000050 0), (7, .pt 200000070 0), (9, .val (.int .i64 a32))], [(200000050, .var false [.val (.int .i64 a26), .sl 200000051 0 a27.length]), (200000051, .row false 1 (rowE (eI .i64) a27)), (200000070, .var false [.val (.int .i64 a28), .sl 200000071 0 a29.length]), (200000071, .row false 1 (rowE (eI .i64) a29))], 71⟩ = (laws_FnExactDecodeValues_u3 a26 a27 a28 a29 a30 a31 a32).bind (fun t => plug ⟨tab.own, lev tab (n + 6), tab.gl⟩ K .ret ⟨[(4, .val (.bool t))], [], 71⟩) := by
  unfold c3_u3
  simp +contextual -implicitDefEqProofs (maxSteps := 100000000) only [laws_FnExactDecodeValues_u3, subI, go_sem, ↓ite_not', Nat.reduceEqDiff, Nat.reduceLT, Nat.reduceLeDiff, ↓reduceIte, Nat.reduceAdd, Nat.reduceMul, Nat.reduceSub, Int.reduceEq, Int.reduceLT, Int.reduceLE, Int.reduceToNat, Int.cast_ofNat_Int, Nat.reduceBEq] <;> rfl
@[go_sem] theorem laws_FnExactDecodeValues_u4_ok {β : Type} (n : Nat) (K : List (Kont β)) (a8 : Int) (a9 : List Int) (a10 : List Int) (a11 : Int) (a12 : List Int) (a13 : List Int) (a14 : Int) : run ⟨tab.own, lev tab (n + 6), tab.gl⟩ K c3_u4 ⟨[(0, .val (.sh .lent 1 (rowE (eI .u8) a13))), (1, .val (.int .i64 a14)), (5, .pt 200000050 0), (6, .sl 200000060 0 a10.length), (7, .pt 200000070 0)], [(200000050, .var false [.val (.int .i64 a8), .sl 200000051 0 a9.length]), (200000051, .row false 1 (rowE (eI .i64) a9)), (200000060, .row false 1 (rowE (eI .u8) a10)), (200000070, .var false [.val (.int .i64 a11), .sl 200000071 0 a12.length]), (200000071, .row false 1 (rowE (eI .i64) a12))], 71⟩ = (laws_FnExactDecodeValues_u4 a8 a9 a10 a11 a12 a13 a14).bind (fun t => plug ⟨tab.own, lev tab (n + 6), tab.gl⟩ K .ret ⟨[(4, .val (.bool t))], [], 71⟩) := by
  unfold c3_u4
  simp +contextual -implicitDefEqProofs (maxSteps := 100000000) only [laws_FnExactDecodeValues_u4, subI, go_sem, ↓ite_not', Nat.reduceEqDiff, Nat.reduceLT, Nat.reduceLeDiff, ↓reduceIte, Nat.reduceAdd, Nat.reduceMul, Nat.reduceSub, Int.reduceEq, Int.reduceLT, Int.reduceLE, Int.reduceToNat, Int.cast_ofNat_Int, Nat.reduceBEq] <;> rfl
@[go_sem] theorem laws_FnExactDecodeValues_ok (n : Nat) (q0_0 : List Int) (q1_0 : Int) : lev tab (n + 7) 3 [.sh .lent 1 (rowE (eI .u8) q0_0), .int .i64 q1_0] = (laws_FnExactDecodeValues q0_0 q1_0).map fun r => (.bool r, [.gone, .gone]) := by
  rw [lev_st (vc := c3) (nt := 71) (rs := [(4, none)]) rfl rfl (Nat.le_of_ble_eq_true rfl)]
  unfold c3
  simp +contextual -implicitDefEqProofs (maxSteps := 100000000) only [laws_FnExactDecodeValues, subI, go_sem, ↓ite_not', Nat.reduceEqDiff, Nat.reduceLT, Nat.reduceLeDiff, ↓reduceIte, Nat.reduceAdd, Nat.reduceMul, Nat.reduceSub, Int.reduceEq, Int.reduceLT, Int.reduceLE, Int.reduceToNat, Int.cast_ofNat_Int, Nat.reduceBEq] <;> rfl
end
end FnExactDecodeValues
end Go.Proofs.YtclhghlpokdiiaaDoor.Wm
