/- What the functions behind FnValues come to, on plain values (a further part): written by a program. -/
import Derived.Test.YtclhghlpokdiiaaDoorFnFnValues
set_option linter.unusedSimpArgs false
set_option linter.unusedVariables false
set_option maxRecDepth 100000
set_option maxHeartbeats 20000000
namespace Go.Proofs.YtclhghlpokdiiaaDoor.Wm
open Go Go.Proofs
namespace FnValues
noncomputable section
attribute [local congr] ite_cong2 run_cg runR_cg plug_cg contV_cg contH_cg contT_cg contF_cg guardR_cg condX_cg evcA_cg evcB_cg evcC_cg evcE_cg evcH_cg levA_cg condJX_cg
-- impl.EncodeSlots
def impl_EncodeSlots_s1 (a7 : List SSlot) (a8 : Int) : Int → Option ((Int) ⊕ (Unit ⊕ Int)) := fun a9 =>
  if (decide (a9 < a8)) = true then (getI a7 a9).bind fun x10 =>
    if ((impl_SlotFault x10) != 0) = true then some ((.inr ((.inr ((impl_SlotFault x10))))))
    else some ((.inl ((IntKind.i64.wrap (a9 + 1)))))
  else some ((.inr ((.inl (())))))
def impl_EncodeSlots (p0 : List SSlot) : Option (SBytesResult) :=
  if (decide ((p0.length : Int) > 400)) = true then some ((SBytesResult.mk 2 ([])))
  else (loopO (impl_EncodeSlots_s1 p0 ((p0.length : Int))) 0).bind fun t => (Sum.elim (fun y11 => (impl_encode p0).bind fun r12 =>
      some ((SBytesResult.mk 0 r12)))
     (fun y13 => some ((SBytesResult.mk y13 ([]))))) t
@[go_sem] theorem impl_EncodeSlots_s1_ok {β : Type} (n : Nat) (K : List (Kont β)) (a7 : List SSlot) (a8 : Int) (a9 : Int) : run ⟨tab.own, lev tab (n + 3), tab.gl⟩ K (.loop c16_u1) ⟨[(0, .val (.sh .lent 3 (rowE (SSlot.cells .lent) a7))), (2, .pt 200000020 0), (10, .val (.sh .lent 3 (rowE (SSlot.cells .lent) a7))), (11, .val (.int .i64 a8)), (12, .val (.int .i64 a9))], [(200000020, .var false [.val (.int .i64 0), .emp 1])], 26⟩ = (loopO (impl_EncodeSlots_s1 a7 a8) a9).bind (fun t => (Sum.elim (fun t => plug ⟨tab.own, lev tab (n + 3), tab.gl⟩ K (.exit 0) ⟨[(0, .val (.sh .lent 3 (rowE (SSlot.cells .lent) a7))), (2, .pt 200000020 0)], [(200000020, .var false [.val (.int .i64 0), .emp 1])], 26⟩) (fun t => plug ⟨tab.own, lev tab (n + 3), tab.gl⟩ K .ret ⟨[(2, .pt 200000020 0)], [(200000020, .var false [.val (.int .i64 t), .emp 1])], 26⟩)) t) := by
  refine loop_run (C := ⟨tab.own, lev tab (n + 3), tab.gl⟩) (K := K) (c := c16_u1) (impl_EncodeSlots_s1 a7 a8) (fun s => ⟨[(0, .val (.sh .lent 3 (rowE (SSlot.cells .lent) a7))), (2, .pt 200000020 0), (10, .val (.sh .lent 3 (rowE (SSlot.cells .lent) a7))), (11, .val (.int .i64 a8)), (12, .val (.int .i64 s))], [(200000020, .var false [.val (.int .i64 0), .emp 1])], 26⟩) (fun t => (Sum.elim (fun t => plug ⟨tab.own, lev tab (n + 3), tab.gl⟩ K (.exit 0) ⟨[(0, .val (.sh .lent 3 (rowE (SSlot.cells .lent) a7))), (2, .pt 200000020 0)], [(200000020, .var false [.val (.int .i64 0), .emp 1])], 26⟩) (fun t => plug ⟨tab.own, lev tab (n + 3), tab.gl⟩ K .ret ⟨[(2, .pt 200000020 0)], [(200000020, .var false [.val (.int .i64 t), .emp 1])], 26⟩)) t) (fun k s => ?_) a9
  unfold c16_u1
  simp +contextual -implicitDefEqProofs (maxSteps := 100000000) only [impl_EncodeSlots_s1, subI, go_sem, ↓ite_not', Nat.reduceEqDiff, Nat.reduceLT, Nat.reduceLeDiff, ↓reduceIte, Nat.reduceAdd, Nat.reduceMul, Nat.reduceSub, Int.reduceEq, Int.reduceLT, Int.reduceLE, Int.reduceToNat, Int.cast_ofNat_Int, Nat.reduceBEq] <;> rfl
@[go_sem] theorem impl_EncodeSlots_ok (n : Nat) (q0_0 : List SSlot) : lev tab (n + 4) 16 [.sh .lent 3 (rowE (SSlot.cells .lent) q0_0)] = (impl_EncodeSlots q0_0).map fun r => (.agg [.int .i64 r.Code, .ow 1 (rowE (eI .u8) r.Bytes)], [.gone]) := by
  rw [lev_st (vc := c16) (nt := 26) (rs := [(2, some (some 2))]) rfl rfl (Nat.le_of_ble_eq_true rfl)]
  unfold c16
  simp +contextual -implicitDefEqProofs (maxSteps := 100000000) only [impl_EncodeSlots, subI, go_sem, ↓ite_not', Nat.reduceEqDiff, Nat.reduceLT, Nat.reduceLeDiff, ↓reduceIte, Nat.reduceAdd, Nat.reduceMul, Nat.reduceSub, Int.reduceEq, Int.reduceLT, Int.reduceLE, Int.reduceToNat, Int.cast_ofNat_Int, Nat.reduceBEq] <;> rfl
-- impl.EncodeValues
def impl_EncodeValues_s1 (a9 : List Int) (a10 : Int) : ((List SSlot) × Int) → Option (((List SSlot) × Int) ⊕ (((List SSlot)) ⊕ Unit)) := fun ⟨a8, a11⟩ =>
  if (decide (a11 < a10)) = true then (getI a9 a11).bind fun x12 =>
    if (impl_isValue x12) = true then (impl_slotsOf x12).bind fun r13 =>
      if (okApp 24 ((a8 ++ r13)).length) = true then some ((.inl (((a8 ++ r13), (IntKind.i64.wrap (a11 + 1))))))
      else none
    else some ((.inr ((.inr (())))))
  else some ((.inr ((.inl a8))))
def impl_EncodeValues (p0 : List Int) : Option (SBytesResult) :=
  if (decide ((p0.length : Int) > 64)) = true then some ((SBytesResult.mk 2 ([])))
  else (loopO (impl_EncodeValues_s1 p0 ((p0.length : Int))) (([], 0))).bind fun t => (Sum.elim (fun y14 => (impl_EncodeSlots y14).bind fun r15 =>
      some r15)
     (fun y16 => some ((SBytesResult.mk 3 ([]))))) t
@[go_sem] theorem impl_EncodeValues_s1_ok {β : Type} (n : Nat) (K : List (Kont β)) (a8 : List SSlot) (a9 : List Int) (a10 : Int) (a11 : Int) : run ⟨tab.own, lev tab (n + 4), tab.gl⟩ K (.loop c24_u1) ⟨[(2, .pt 200000020 0), (3, .sl 200000030 0 a8.length), (11, .val (.sh .lent 1 (rowE (eI .i64) a9))), (12, .val (.int .i64 a10)), (13, .val (.int .i64 a11))], [(200000020, .var false [.val (.int .i64 0), .emp 1]), (200000030, .row false 3 (rowE (SSlot.cells .lent) a8))], 28⟩ = (loopO (impl_EncodeValues_s1 a9 a10) ((a8, a11))).bind (fun t => (Sum.elim (fun t => plug ⟨tab.own, lev tab (n + 4), tab.gl⟩ K (.exit 0) ⟨[(2, .pt 200000020 0), (3, .sl 200000030 0 t.length)], [(200000020, .var false [.val (.int .i64 0), .emp 1]), (200000030, .row false 3 (rowE (SSlot.cells .lent) t))], 28⟩) (fun t => plug ⟨tab.own, lev tab (n + 4), tab.gl⟩ K .ret ⟨[(2, .pt 200000020 0)], [(200000020, .var false [.val (.int .i64 3), .emp 1])], 28⟩)) t) := by
  refine loop_run (C := ⟨tab.own, lev tab (n + 4), tab.gl⟩) (K := K) (c := c24_u1) (impl_EncodeValues_s1 a9 a10) (fun s => ⟨[(2, .pt 200000020 0), (3, .sl 200000030 0 s.1.length), (11, .val (.sh .lent 1 (rowE (eI .i64) a9))), (12, .val (.int .i64 a10)), (13, .val (.int .i64 s.2))], [(200000020, .var false [.val (.int .i64 0), .emp 1]), (200000030, .row false 3 (rowE (SSlot.cells .lent) s.1))], 28⟩) (fun t => (Sum.elim (fun t => plug ⟨tab.own, lev tab (n + 4), tab.gl⟩ K (.exit 0) ⟨[(2, .pt 200000020 0), (3, .sl 200000030 0 t.length)], [(200000020, .var false [.val (.int .i64 0), .emp 1]), (200000030, .row false 3 (rowE (SSlot.cells .lent) t))], 28⟩) (fun t => plug ⟨tab.own, lev tab (n + 4), tab.gl⟩ K .ret ⟨[(2, .pt 200000020 0)], [(200000020, .var false [.val (.int .i64 3), .emp 1])], 28⟩)) t) (fun k s => ?_) ((a8, a11))
  obtain ⟨a8, a11⟩ := s
  unfold c24_u1
  simp +contextual -implicitDefEqProofs (maxSteps := 100000000) only [impl_EncodeValues_s1, subI, go_sem, ↓ite_not', Nat.reduceEqDiff, Nat.reduceLT, Nat.reduceLeDiff, ↓reduceIte, Nat.reduceAdd, Nat.reduceMul, Nat.reduceSub, Int.reduceEq, Int.reduceLT, Int.reduceLE, Int.reduceToNat, Int.cast_ofNat_Int, Nat.reduceBEq] <;> rfl
@[go_sem] theorem impl_EncodeValues_s1_ok_e {β : Type} (n : Nat) (K : List (Kont β)) (a9 : List Int) (a10 : Int) (a11 : Int) : run ⟨tab.own, lev tab (n + 4), tab.gl⟩ K (.loop c24_u1) ⟨[(2, .pt 200000020 0), (3, .sl 200000030 0 0), (11, .val (.sh .lent 1 (rowE (eI .i64) a9))), (12, .val (.int .i64 a10)), (13, .val (.int .i64 a11))], [(200000020, .var false [.val (.int .i64 0), .emp 1]), (200000030, .row false 3 [])], 28⟩ = (loopO (impl_EncodeValues_s1 a9 a10) (([], a11))).bind (fun t => (Sum.elim (fun t => plug ⟨tab.own, lev tab (n + 4), tab.gl⟩ K (.exit 0) ⟨[(2, .pt 200000020 0), (3, .sl 200000030 0 t.length)], [(200000020, .var false [.val (.int .i64 0), .emp 1]), (200000030, .row false 3 (rowE (SSlot.cells .lent) t))], 28⟩) (fun t => plug ⟨tab.own, lev tab (n + 4), tab.gl⟩ K .ret ⟨[(2, .pt 200000020 0)], [(200000020, .var false [.val (.int .i64 3), .emp 1])], 28⟩)) t) := impl_EncodeValues_s1_ok n K [] a9 a10 a11
@[go_sem] theorem impl_EncodeValues_ok (n : Nat) (q0_0 : List Int) : lev tab (n + 5) 24 [.sh .lent 1 (rowE (eI .i64) q0_0)] = (impl_EncodeValues q0_0).map fun r => (.agg [.int .i64 r.Code, .ow 1 (rowE (eI .u8) r.Bytes)], [.gone]) := by
  rw [lev_st (vc := c24) (nt := 28) (rs := [(2, some (some 2))]) rfl rfl (Nat.le_of_ble_eq_true rfl)]
  unfold c24
  simp +contextual -implicitDefEqProofs (maxSteps := 100000000) only [impl_EncodeValues, subI, go_sem, ↓ite_not', Nat.reduceEqDiff, Nat.reduceLT, Nat.reduceLeDiff, ↓reduceIte, Nat.reduceAdd, Nat.reduceMul, Nat.reduceSub, Int.reduceEq, Int.reduceLT, Int.reduceLE, Int.reduceToNat, Int.cast_ofNat_Int, Nat.reduceBEq] <;> rfl
-- spec.l4Zig
def spec_l4Zig (p0 : Int) : Int :=
  if (decide (p0 < 0)) = true then (IntKind.i64.wrap ((IntKind.i64.wrap ((-2) * p0)) - 1))
  else (IntKind.i64.wrap (2 * p0))
@[go_sem] theorem spec_l4Zig_ok (n : Nat) (q0_0 : Int) : lev tab (n + 1) 93 [.int .i64 q0_0] = (some (spec_l4Zig q0_0)).map fun r => (.int .i64 r, [.gone]) := by
  rw [lev_st (vc := c93) (nt := 10) (rs := [(2, none)]) rfl rfl (Nat.le_of_ble_eq_true rfl)]
  unfold c93
  simp +contextual -implicitDefEqProofs (maxSteps := 100000000) only [spec_l4Zig, subI, go_sem, ↓ite_not', Nat.reduceEqDiff, Nat.reduceLT, Nat.reduceLeDiff, ↓reduceIte, Nat.reduceAdd, Nat.reduceMul, Nat.reduceSub, Int.reduceEq, Int.reduceLT, Int.reduceLE, Int.reduceToNat, Int.cast_ofNat_Int, Nat.reduceBEq] <;> rfl
-- spec.l2Length
def spec_l2Length_s1 : (Int × Int) → Option ((Int × Int) ⊕ (Int)) := fun ⟨a1, a2⟩ =>
  if (decide (a1 > 0)) = true then some ((.inl (((IntKind.i64.wrap (a1.tdiv (2 : Int))), (IntKind.i64.wrap (a2 + 1))))))
  else some ((.inr a2))
def spec_l2Length (p0 : Int) : Option (Int) :=
  (loopO spec_l2Length_s1 ((p0, 0))).bind fun y3 =>
  some y3
@[go_sem] theorem spec_l2Length_s1_ok {β : Type} (n : Nat) (K : List (Kont β)) (a1 : Int) (a2 : Int) : run ⟨tab.own, lev tab n, tab.gl⟩ K (.loop c94_u1) ⟨[(0, .val (.int .i64 a1)), (3, .val (.int .i64 a2))], [], 11⟩ = (loopO spec_l2Length_s1 ((a1, a2))).bind (fun t => plug ⟨tab.own, lev tab n, tab.gl⟩ K (.exit 0) ⟨[(3, .val (.int .i64 t))], [], 11⟩) := by
  refine loop_run (C := ⟨tab.own, lev tab n, tab.gl⟩) (K := K) (c := c94_u1) (spec_l2Length_s1) (fun s => ⟨[(0, .val (.int .i64 s.1)), (3, .val (.int .i64 s.2))], [], 11⟩) (fun t => plug ⟨tab.own, lev tab n, tab.gl⟩ K (.exit 0) ⟨[(3, .val (.int .i64 t))], [], 11⟩) (fun k s => ?_) ((a1, a2))
  obtain ⟨a1, a2⟩ := s
  unfold c94_u1
  simp +contextual -implicitDefEqProofs (maxSteps := 100000000) only [spec_l2Length_s1, subI, go_sem, ↓ite_not', Nat.reduceEqDiff, Nat.reduceLT, Nat.reduceLeDiff, ↓reduceIte, Nat.reduceAdd, Nat.reduceMul, Nat.reduceSub, Int.reduceEq, Int.reduceLT, Int.reduceLE, Int.reduceToNat, Int.cast_ofNat_Int, Nat.reduceBEq] <;> rfl
@[go_sem] theorem spec_l2Length_ok (n : Nat) (q0_0 : Int) : lev tab (n + 1) 94 [.int .i64 q0_0] = (spec_l2Length q0_0).map fun r => (.int .i64 r, [.gone]) := by
  rw [lev_st (vc := c94) (nt := 11) (rs := [(2, none)]) rfl rfl (Nat.le_of_ble_eq_true rfl)]
  unfold c94
  simp +contextual -implicitDefEqProofs (maxSteps := 100000000) only [spec_l2Length, subI, go_sem, ↓ite_not', Nat.reduceEqDiff, Nat.reduceLT, Nat.reduceLeDiff, ↓reduceIte, Nat.reduceAdd, Nat.reduceMul, Nat.reduceSub, Int.reduceEq, Int.reduceLT, Int.reduceLE, Int.reduceToNat, Int.cast_ofNat_Int, Nat.reduceBEq] <;> rfl
-- spec.l4Share
def spec_l4Share_u1 (a1 : Int) (a2 : Bool) : Unit ⊕ Int :=
  if a2 = true then (.inr 24)
  else if (a1 == 4) = true then (.inr 16)
    else if (a1 == 5) = true then (.inr 8)
      else (.inl (()))
def spec_l4Share (p0 : Int) : Int :=
  if (p0 == 0) = true then 96
  else if (p0 == 1) = true then 48
    else if (p0 == 2) = true then 40
      else (Sum.elim (fun y3 => 2)
         (fun y4 => y4)) (spec_l4Share_u1 p0 ((p0 == 3)))
@[go_sem] theorem spec_l4Share_u1_ok {β : Type} (n : Nat) (K : List (Kont β)) (a1 : Int) (a2 : Bool) : run ⟨tab.own, lev tab n, tab.gl⟩ K c82_u1 ⟨[(3, .val (.int .i64 a1)), (10, .val (.bool a2))], [], 16⟩ = (some (spec_l4Share_u1 a1 a2)).bind (fun t => (Sum.elim (fun t => plug ⟨tab.own, lev tab n, tab.gl⟩ K .normal ⟨[], [], 16⟩) (fun t => plug ⟨tab.own, lev tab n, tab.gl⟩ K .ret ⟨[(2, .val (.int .i64 t))], [], 16⟩)) t) := by
  unfold c82_u1
  simp +contextual -implicitDefEqProofs (maxSteps := 100000000) only [spec_l4Share_u1, subI, go_sem, ↓ite_not', Nat.reduceEqDiff, Nat.reduceLT, Nat.reduceLeDiff, ↓reduceIte, Nat.reduceAdd, Nat.reduceMul, Nat.reduceSub, Int.reduceEq, Int.reduceLT, Int.reduceLE, Int.reduceToNat, Int.cast_ofNat_Int, Nat.reduceBEq] <;> rfl
@[go_sem] theorem spec_l4Share_ok (n : Nat) (q0_0 : Int) : lev tab (n + 1) 82 [.int .i64 q0_0] = (some (spec_l4Share q0_0)).map fun r => (.int .i64 r, [.gone]) := by
  rw [lev_st (vc := c82) (nt := 16) (rs := [(2, none)]) rfl rfl (Nat.le_of_ble_eq_true rfl)]
  unfold c82
  simp +contextual -implicitDefEqProofs (maxSteps := 100000000) only [spec_l4Share, subI, go_sem, ↓ite_not', Nat.reduceEqDiff, Nat.reduceLT, Nat.reduceLeDiff, ↓reduceIte, Nat.reduceAdd, Nat.reduceMul, Nat.reduceSub, Int.reduceEq, Int.reduceLT, Int.reduceLE, Int.reduceToNat, Int.cast_ofNat_Int, Nat.reduceBEq] <;> rfl
-- spec.l4Class
def spec_l4Class_s1 (a7 : Int) : (Int × Int) → Option ((Int × Int) ⊕ (Int)) := fun ⟨a8, a9⟩ =>
  if (decide (a9 < a7)) = true then some ((.inl (((IntKind.i64.wrap (a8 + (spec_l4Share a9))), (IntKind.i64.wrap (a9 + 1))))))
  else some ((.inr a8))
def spec_l4Class (p0 : Int) : Option (SSlot) :=
  (loopO (spec_l4Class_s1 p0) ((0, 0))).bind fun y10 =>
  some ((SSlot.mk y10 ((spec_l4Share p0)) 256))
@[go_sem] theorem spec_l4Class_s1_ok {β : Type} (n : Nat) (K : List (Kont β)) (a7 : Int) (a8 : Int) (a9 : Int) : run ⟨tab.own, lev tab (n + 1), tab.gl⟩ K (.loop c81_u1) ⟨[(0, .val (.int .i64 a7)), (2, .pt 200000020 0), (3, .val (.int .i64 a8)), (4, .val (.int .i64 a9))], [(200000020, .var false [.val (.int .i64 0), .val (.int .i64 0), .val (.int .i64 0)])], 18⟩ = (loopO (spec_l4Class_s1 a7) ((a8, a9))).bind (fun t => plug ⟨tab.own, lev tab (n + 1), tab.gl⟩ K (.exit 0) ⟨[(0, .val (.int .i64 a7)), (2, .pt 200000020 0), (3, .val (.int .i64 t))], [(200000020, .var false [.val (.int .i64 0), .val (.int .i64 0), .val (.int .i64 0)])], 18⟩) := by
  refine loop_run (C := ⟨tab.own, lev tab (n + 1), tab.gl⟩) (K := K) (c := c81_u1) (spec_l4Class_s1 a7) (fun s => ⟨[(0, .val (.int .i64 a7)), (2, .pt 200000020 0), (3, .val (.int .i64 s.1)), (4, .val (.int .i64 s.2))], [(200000020, .var false [.val (.int .i64 0), .val (.int .i64 0), .val (.int .i64 0)])], 18⟩) (fun t => plug ⟨tab.own, lev tab (n + 1), tab.gl⟩ K (.exit 0) ⟨[(0, .val (.int .i64 a7)), (2, .pt 200000020 0), (3, .val (.int .i64 t))], [(200000020, .var false [.val (.int .i64 0), .val (.int .i64 0), .val (.int .i64 0)])], 18⟩) (fun k s => ?_) ((a8, a9))
  obtain ⟨a8, a9⟩ := s
  unfold c81_u1
  simp +contextual -implicitDefEqProofs (maxSteps := 100000000) only [spec_l4Class_s1, subI, go_sem, ↓ite_not', Nat.reduceEqDiff, Nat.reduceLT, Nat.reduceLeDiff, ↓reduceIte, Nat.reduceAdd, Nat.reduceMul, Nat.reduceSub, Int.reduceEq, Int.reduceLT, Int.reduceLE, Int.reduceToNat, Int.cast_ofNat_Int, Nat.reduceBEq] <;> rfl
@[go_sem] theorem spec_l4Class_ok (n : Nat) (q0_0 : Int) : lev tab (n + 2) 81 [.int .i64 q0_0] = (spec_l4Class q0_0).map fun r => (.agg [.int .i64 r.Low, .int .i64 r.Size, .int .i64 r.Total], [.gone]) := by
  rw [lev_st (vc := c81) (nt := 18) (rs := [(2, some (some 3))]) rfl rfl (Nat.le_of_ble_eq_true rfl)]
  unfold c81
  simp +contextual -implicitDefEqProofs (maxSteps := 100000000) only [spec_l4Class, subI, go_sem, ↓ite_not', Nat.reduceEqDiff, Nat.reduceLT, Nat.reduceLeDiff, ↓reduceIte, Nat.reduceAdd, Nat.reduceMul, Nat.reduceSub, Int.reduceEq, Int.reduceLT, Int.reduceLE, Int.reduceToNat, Int.cast_ofNat_Int, Nat.reduceBEq] <;> rfl
-- spec.l4Pieces
def spec_l4Pieces (p0 : Int) : (List Int) :=
  if (decide (p0 < 2)) = true then []
  else if (decide ((IntKind.i64.wrap (p0 - 1)) > 8)) = true then [(IntKind.i64.wrap (p0 - 9)), 8]
    else [(IntKind.i64.wrap (p0 - 1))]
@[go_sem] theorem spec_l4Pieces_ok (n : Nat) (q0_0 : Int) : lev tab (n + 1) 84 [.int .i64 q0_0] = (some (spec_l4Pieces q0_0)).map fun r => (.ow 1 (rowE (eI .i64) r), [.gone]) := by
  rw [lev_st (vc := c84) (nt := 16) (rs := [(2, none)]) rfl rfl (Nat.le_of_ble_eq_true rfl)]
  unfold c84
  simp +contextual -implicitDefEqProofs (maxSteps := 100000000) only [spec_l4Pieces, subI, go_sem, ↓ite_not', Nat.reduceEqDiff, Nat.reduceLT, Nat.reduceLeDiff, ↓reduceIte, Nat.reduceAdd, Nat.reduceMul, Nat.reduceSub, Int.reduceEq, Int.reduceLT, Int.reduceLE, Int.reduceToNat, Int.cast_ofNat_Int, Nat.reduceBEq] <;> rfl
-- spec.l4Two
def spec_l4Two_s1 : (Int × Int) → Option ((Int × Int) ⊕ (Int)) := fun ⟨a1, a2⟩ =>
  if (decide (a1 > 0)) = true then some ((.inl (((IntKind.i64.wrap (a1 - 1)), (IntKind.i64.wrap (a2 * 2))))))
  else some ((.inr a2))
def spec_l4Two (p0 : Int) : Option (Int) :=
  (loopO spec_l4Two_s1 ((p0, 1))).bind fun y3 =>
  some y3
@[go_sem] theorem spec_l4Two_s1_ok {β : Type} (n : Nat) (K : List (Kont β)) (a1 : Int) (a2 : Int) : run ⟨tab.own, lev tab n, tab.gl⟩ K (.loop c85_u1) ⟨[(0, .val (.int .i64 a1)), (3, .val (.int .i64 a2))], [], 11⟩ = (loopO spec_l4Two_s1 ((a1, a2))).bind (fun t => plug ⟨tab.own, lev tab n, tab.gl⟩ K (.exit 0) ⟨[(3, .val (.int .i64 t))], [], 11⟩) := by
  refine loop_run (C := ⟨tab.own, lev tab n, tab.gl⟩) (K := K) (c := c85_u1) (spec_l4Two_s1) (fun s => ⟨[(0, .val (.int .i64 s.1)), (3, .val (.int .i64 s.2))], [], 11⟩) (fun t => plug ⟨tab.own, lev tab n, tab.gl⟩ K (.exit 0) ⟨[(3, .val (.int .i64 t))], [], 11⟩) (fun k s => ?_) ((a1, a2))
  obtain ⟨a1, a2⟩ := s
  unfold c85_u1
  simp +contextual -implicitDefEqProofs (maxSteps := 100000000) only [spec_l4Two_s1, subI, go_sem, ↓ite_not', Nat.reduceEqDiff, Nat.reduceLT, Nat.reduceLeDiff, ↓reduceIte, Nat.reduceAdd, Nat.reduceMul, Nat.reduceSub, Int.reduceEq, Int.reduceLT, Int.reduceLE, Int.reduceToNat, Int.cast_ofNat_Int, Nat.reduceBEq] <;> rfl
@[go_sem] theorem spec_l4Two_ok (n : Nat) (q0_0 : Int) : lev tab (n + 1) 85 [.int .i64 q0_0] = (spec_l4Two q0_0).map fun r => (.int .i64 r, [.gone]) := by
  rw [lev_st (vc := c85) (nt := 11) (rs := [(2, none)]) rfl rfl (Nat.le_of_ble_eq_true rfl)]
  unfold c85
  simp +contextual -implicitDefEqProofs (maxSteps := 100000000) only [spec_l4Two, subI, go_sem, ↓ite_not', Nat.reduceEqDiff, Nat.reduceLT, Nat.reduceLeDiff, ↓reduceIte, Nat.reduceAdd, Nat.reduceMul, Nat.reduceSub, Int.reduceEq, Int.reduceLT, Int.reduceLE, Int.reduceToNat, Int.cast_ofNat_Int, Nat.reduceBEq] <;> rfl
-- spec.l4Slots
def spec_l4Slots_s1 (a13 : List Int) (a14 : Int) : ((List SSlot) × Int × Int) → Option (((List SSlot) × Int × Int) ⊕ ((List SSlot))) := fun ⟨a12, a15, a16⟩ =>
  if (decide (a16 < (a13.length : Int))) = true then (getI a13 a16).bind fun _ =>
    (a13[a16.toNat]?).bind fun x17 =>
    (getI a13 a16).bind fun _ =>
    (a13[a16.toNat]?).bind fun x18 =>
    (spec_l4Two x18).bind fun r19 =>
    (spec_l4Two ((IntKind.i64.wrap (a15 - x17)))).bind fun r20 =>
    if r20 = 0 then none
    else if r19 = 0 then none
      else if (okApp 24 ((a12 ++ ([(SSlot.mk ((((IntKind.i64.wrap (a14.tdiv r20))).tmod r19)) 1 r19)]))).length) = true then some ((.inl (((a12 ++ ([(SSlot.mk ((((IntKind.i64.wrap (a14.tdiv r20))).tmod r19)) 1 r19)])), (IntKind.i64.wrap (a15 - x17)), (IntKind.i64.wrap (a16 + 1))))))
        else none
  else some ((.inr a12))
def spec_l4Slots (p0 : Int) : Option ((List SSlot)) :=
  (spec_l2Length ((spec_l4Zig p0))).bind fun r1 =>
  (spec_l4Class r1).bind fun r2 =>
  (loopO (spec_l4Slots_s1 ((spec_l4Pieces r1)) ((spec_l4Zig p0))) (([r2], (IntKind.i64.wrap (r1 - 1)), 0))).bind fun y21 =>
  some y21
@[go_sem] theorem spec_l4Slots_s1_ok {β : Type} (n : Nat) (K : List (Kont β)) (a12 : List SSlot) (a13 : List Int) (a14 : Int) (a15 : Int) (a16 : Int) : run ⟨tab.own, lev tab (n + 2), tab.gl⟩ K (.loop c77_u1) ⟨[(3, .val (.int .i64 a14)), (5, .sl 200000050 0 a12.length), (6, .sl 200000060 0 a13.length), (7, .val (.int .i64 a15)), (8, .val (.int .i64 a16))], [(200000050, .row false 3 (rowE (SSlot.cells .lent) a12)), (200000060, .row false 1 (rowE (eI .i64) a13))], 50⟩ = (loopO (spec_l4Slots_s1 a13 a14) ((a12, a15, a16))).bind (fun t => plug ⟨tab.own, lev tab (n + 2), tab.gl⟩ K (.exit 0) ⟨[(5, .sl 200000050 0 t.length)], [(200000050, .row false 3 (rowE (SSlot.cells .lent) t))], 50⟩) := by
  refine loop_run (C := ⟨tab.own, lev tab (n + 2), tab.gl⟩) (K := K) (c := c77_u1) (spec_l4Slots_s1 a13 a14) (fun s => ⟨[(3, .val (.int .i64 a14)), (5, .sl 200000050 0 s.1.length), (6, .sl 200000060 0 a13.length), (7, .val (.int .i64 s.2.1)), (8, .val (.int .i64 s.2.2))], [(200000050, .row false 3 (rowE (SSlot.cells .lent) s.1)), (200000060, .row false 1 (rowE (eI .i64) a13))], 50⟩) (fun t => plug ⟨tab.own, lev tab (n + 2), tab.gl⟩ K (.exit 0) ⟨[(5, .sl 200000050 0 t.length)], [(200000050, .row false 3 (rowE (SSlot.cells .lent) t))], 50⟩) (fun k s => ?_) ((a12, a15, a16))
  obtain ⟨a12, a15, a16⟩ := s
  unfold c77_u1
  simp +contextual -implicitDefEqProofs (maxSteps := 100000000) only [spec_l4Slots_s1, subI, go_sem, ↓ite_not', Nat.reduceEqDiff, Nat.reduceLT, Nat.reduceLeDiff, ↓reduceIte, Nat.reduceAdd, Nat.reduceMul, Nat.reduceSub, Int.reduceEq, Int.reduceLT, Int.reduceLE, Int.reduceToNat, Int.cast_ofNat_Int, Nat.reduceBEq] <;> rfl
@[go_sem] theorem spec_l4Slots_s1_ok_e {β : Type} (n : Nat) (K : List (Kont β)) (a13 : List Int) (a14 : Int) (a15 : Int) (a16 : Int) (a12_0 : SSlot) : run ⟨tab.own, lev tab (n + 2), tab.gl⟩ K (.loop c77_u1) ⟨[(3, .val (.int .i64 a14)), (5, .sl 200000050 0 1), (6, .sl 200000060 0 a13.length), (7, .val (.int .i64 a15)), (8, .val (.int .i64 a16))], [(200000050, .row false 3 (rowE (SSlot.cells .lent) ([a12_0]))), (200000060, .row false 1 (rowE (eI .i64) a13))], 50⟩ = (loopO (spec_l4Slots_s1 a13 a14) (([a12_0], a15, a16))).bind (fun t => plug ⟨tab.own, lev tab (n + 2), tab.gl⟩ K (.exit 0) ⟨[(5, .sl 200000050 0 t.length)], [(200000050, .row false 3 (rowE (SSlot.cells .lent) t))], 50⟩) := spec_l4Slots_s1_ok n K [a12_0] a13 a14 a15 a16
@[go_sem] theorem spec_l4Slots_ok (n : Nat) (q0_0 : Int) : lev tab (n + 3) 77 [.int .i64 q0_0] = (spec_l4Slots q0_0).map fun r => (.ow 3 (rowE (SSlot.cells .lent) r), [.gone]) := by
  rw [lev_st (vc := c77) (nt := 50) (rs := [(2, none)]) rfl rfl (Nat.le_of_ble_eq_true rfl)]
  unfold c77
  simp +contextual -implicitDefEqProofs (maxSteps := 100000000) only [spec_l4Slots, subI, go_sem, ↓ite_not', Nat.reduceEqDiff, Nat.reduceLT, Nat.reduceLeDiff, ↓reduceIte, Nat.reduceAdd, Nat.reduceMul, Nat.reduceSub, Int.reduceEq, Int.reduceLT, Int.reduceLE, Int.reduceToNat, Int.cast_ofNat_Int, Nat.reduceBEq] <;> rfl
-- spec.l3Narrow
def spec_l3Narrow (p0 : Int) (p1 : SSlot) : Option (Int) :=
  if p1.Total = 0 then none
  else if ((IntKind.i64.wrap (p1.Low + p1.Size)) == p1.Total) = true then some ((IntKind.i64.wrap (p0 - (IntKind.i64.wrap ((IntKind.i64.wrap (p0.tdiv p1.Total)) * p1.Low)))))
    else some ((IntKind.i64.wrap ((IntKind.i64.wrap (p0.tdiv p1.Total)) * p1.Size)))
@[go_sem] theorem spec_l3Narrow_ok (n : Nat) (q0_0 : Int) (q1_0 : Int) (q1_1 : Int) (q1_2 : Int) : lev tab (n + 1) 70 [.int .i64 q0_0, .agg [.int .i64 q1_0, .int .i64 q1_1, .int .i64 q1_2]] = (spec_l3Narrow q0_0 (SSlot.mk q1_0 q1_1 q1_2)).map fun r => (.int .i64 r, [.gone, .gone]) := by
  rw [lev_st (vc := c70) (nt := 28) (rs := [(4, none)]) rfl rfl (Nat.le_of_ble_eq_true rfl)]
  unfold c70
  simp +contextual -implicitDefEqProofs (maxSteps := 100000000) only [spec_l3Narrow, subI, go_sem, ↓ite_not', Nat.reduceEqDiff, Nat.reduceLT, Nat.reduceLeDiff, ↓reduceIte, Nat.reduceAdd, Nat.reduceMul, Nat.reduceSub, Int.reduceEq, Int.reduceLT, Int.reduceLE, Int.reduceToNat, Int.cast_ofNat_Int, Nat.reduceBEq] <;> rfl
-- spec.l1Copy
def spec_l1Copy (p0 : List Int) : Option ((List Int)) :=
  if (okApp 1 p0.length) = true then some p0
  else none
@[go_sem] theorem spec_l1Copy_ok (n : Nat) (q0_0 : List Int) : lev tab (n + 1) 79 [.sh .lent 1 (rowE (eI .u8) q0_0)] = (spec_l1Copy q0_0).map fun r => (.ow 1 (rowE (eI .u8) r), [.gone]) := by
  rw [lev_st (vc := c79) (nt := 6) (rs := [(2, none)]) rfl rfl (Nat.le_of_ble_eq_true rfl)]
  unfold c79
  simp +contextual -implicitDefEqProofs (maxSteps := 100000000) only [spec_l1Copy, subI, go_sem, ↓ite_not', Nat.reduceEqDiff, Nat.reduceLT, Nat.reduceLeDiff, ↓reduceIte, Nat.reduceAdd, Nat.reduceMul, Nat.reduceSub, Int.reduceEq, Int.reduceLT, Int.reduceLE, Int.reduceToNat, Int.cast_ofNat_Int, Nat.reduceBEq] <;> rfl
-- spec.l3Carry
def spec_l3Carry_s1 : ((List Int) × Int) → Option (((List Int) × Int) ⊕ (((List Int)) ⊕ ((List Int)))) := fun ⟨a2, a3⟩ =>
  if (decide (a3 ≥ 0)) = true then (getI a2 a3).bind fun _ =>
    (a2[a3.toNat]?).bind fun x4 =>
    if (decide (x4 < 255)) = true then (getI a2 a3).bind fun _ =>
      (a2[a3.toNat]?).bind fun x5 =>
      (getI a2 a3).bind fun _ =>
      (a2[a3.toNat]?).bind fun _ =>
      some ((.inr ((.inr ((a2.set a3.toNat ((IntKind.u8.wrap (x5 + 1)))))))))
    else (getI a2 a3).bind fun _ =>
      (a2[a3.toNat]?).bind fun _ =>
      some ((.inl (((a2.set a3.toNat 0), (IntKind.i64.wrap (a3 - 1))))))
  else some ((.inr ((.inl a2))))
def spec_l3Carry (p0 : List Int) : Option ((List Int)) :=
  (spec_l1Copy p0).bind fun r1 =>
  (loopO spec_l3Carry_s1 ((r1, (IntKind.i64.wrap ((r1.length : Int) - 1))))).bind fun t => (Sum.elim (fun y8 => some y8)
   (fun y9 => some y9)) t
@[go_sem] theorem spec_l3Carry_s1_ok {β : Type} (n : Nat) (K : List (Kont β)) (a2 : List Int) (a3 : Int) : run ⟨tab.own, lev tab (n + 1), tab.gl⟩ K (.loop c71_u1) ⟨[(3, .sl 200000030 0 a2.length), (4, .val (.int .i64 a3))], [(200000030, .row false 1 (rowE (eI .u8) a2))], 30⟩ = (loopO spec_l3Carry_s1 ((a2, a3))).bind (fun t => (Sum.elim (fun t => plug ⟨tab.own, lev tab (n + 1), tab.gl⟩ K (.exit 0) ⟨[(3, .sl 200000030 0 t.length)], [(200000030, .row false 1 (rowE (eI .u8) t))], 30⟩) (fun t => plug ⟨tab.own, lev tab (n + 1), tab.gl⟩ K .ret ⟨[(2, .sl 200000020 0 t.length)], [(200000020, .row false 1 (rowE (eI .u8) t))], 30⟩)) t) := by
  refine loop_run (C := ⟨tab.own, lev tab (n + 1), tab.gl⟩) (K := K) (c := c71_u1) (spec_l3Carry_s1) (fun s => ⟨[(3, .sl 200000030 0 s.1.length), (4, .val (.int .i64 s.2))], [(200000030, .row false 1 (rowE (eI .u8) s.1))], 30⟩) (fun t => (Sum.elim (fun t => plug ⟨tab.own, lev tab (n + 1), tab.gl⟩ K (.exit 0) ⟨[(3, .sl 200000030 0 t.length)], [(200000030, .row false 1 (rowE (eI .u8) t))], 30⟩) (fun t => plug ⟨tab.own, lev tab (n + 1), tab.gl⟩ K .ret ⟨[(2, .sl 200000020 0 t.length)], [(200000020, .row false 1 (rowE (eI .u8) t))], 30⟩)) t) (fun k s => ?_) ((a2, a3))
  obtain ⟨a2, a3⟩ := s
  unfold c71_u1
  simp +contextual -implicitDefEqProofs (maxSteps := 100000000) only [spec_l3Carry_s1, subI, go_sem, ↓ite_not', Nat.reduceEqDiff, Nat.reduceLT, Nat.reduceLeDiff, ↓reduceIte, Nat.reduceAdd, Nat.reduceMul, Nat.reduceSub, Int.reduceEq, Int.reduceLT, Int.reduceLE, Int.reduceToNat, Int.cast_ofNat_Int, Nat.reduceBEq] <;> rfl
@[go_sem] theorem spec_l3Carry_ok (n : Nat) (q0_0 : List Int) : lev tab (n + 2) 71 [.sh .lent 1 (rowE (eI .u8) q0_0)] = (spec_l3Carry q0_0).map fun r => (.ow 1 (rowE (eI .u8) r), [.gone]) := by
  rw [lev_st (vc := c71) (nt := 30) (rs := [(2, none)]) rfl rfl (Nat.le_of_ble_eq_true rfl)]
  unfold c71
  simp +contextual -implicitDefEqProofs (maxSteps := 100000000) only [spec_l3Carry, subI, go_sem, ↓ite_not', Nat.reduceEqDiff, Nat.reduceLT, Nat.reduceLeDiff, ↓reduceIte, Nat.reduceAdd, Nat.reduceMul, Nat.reduceSub, Int.reduceEq, Int.reduceLT, Int.reduceLE, Int.reduceToNat, Int.cast_ofNat_Int, Nat.reduceBEq] <;> rfl
-- spec.l3Encode
def spec_l3Encode_u3 (a38 : List Int) (a39 : List SSlot) (a40 : Int) (a41 : Int) (a42 : Int) (a43 : Bool) : Option ((List Int) × Int) :=
  if a43 = true then (spec_l3Carry a38).bind fun r44 =>
    some ((r44, (IntKind.i64.wrap (a40 - 16777216))))
  else some ((a38, a40))
def spec_l3Encode_s4 (a52 : List SSlot) (a55 : Int) : ((List Int) × Int × Int) → Option (((List Int) × Int × Int) ⊕ ((List Int) × Int × Int)) := fun ⟨a51, a53, a54⟩ =>
  if (decide (a54 < 65536)) = true then if (okApp 1 ((a51 ++ ([(IntKind.u8.wrap (IntKind.i64.wrap (a53.tdiv (65536 : Int))))]))).length) = true then some ((.inl (((a51 ++ ([(IntKind.u8.wrap (IntKind.i64.wrap (a53.tdiv (65536 : Int))))])), (IntKind.i64.wrap ((a53.tmod (65536 : Int)) * 256)), (IntKind.i64.wrap (a54 * 256))))))
    else none
  else some ((.inr ((a51, a53, a54))))
def spec_l3Encode_s5 (a30 : List SSlot) : ((List Int) × Int × Int × Int) → Option (((List Int) × Int × Int × Int) ⊕ ((List Int) × Int)) := fun ⟨a29, a31, a32, a33⟩ =>
  if (decide (a33 < (a30.length : Int))) = true then (getI a30 a33).bind fun x34 =>
    if x34.Total = 0 then none
    else (getI a30 a33).bind fun x35 =>
      (getI a30 a33).bind fun x36 =>
      (spec_l3Narrow a32 x36).bind fun r37 =>
      (spec_l3Encode_u3 a29 a30 ((IntKind.i64.wrap (a31 + (IntKind.i64.wrap ((IntKind.i64.wrap (a32.tdiv x34.Total)) * x35.Low))))) r37 a33 ((decide ((IntKind.i64.wrap (a31 + (IntKind.i64.wrap ((IntKind.i64.wrap (a32.tdiv x34.Total)) * x35.Low)))) ≥ 16777216)))).bind fun y45 =>
      (loopO (spec_l3Encode_s4 a30 a33) ((y45.1, y45.2, r37))).bind fun y56 =>
      some ((.inl ((y56.1, y56.2.1, y56.2.2, (IntKind.i64.wrap (a33 + 1))))))
  else some ((.inr ((a29, a31))))
def spec_l3Encode_u7 (a67 : List Int) (a68 : Nat) : Option (Bool) :=
  if (decide ((a68 : Int) > 0)) = true then (getI ((a67.take a68)) (IntKind.i64.wrap ((a68 : Int) - 1))).bind fun _ =>
    (a67[((IntKind.i64.wrap ((a68 : Int) - 1))).toNat]?).bind fun x69 =>
    some ((x69 == 0))
  else some false
def spec_l3Encode_s8 (a65 : List Int) : Nat → Option ((Nat) ⊕ (Nat)) := fun a66 =>
  (spec_l3Encode_u7 a65 a66).bind fun y70 =>
  if y70 = true then (upI a66 ((IntKind.i64.wrap ((a66 : Int) - 1)))).bind fun w71 =>
    some ((.inl w71))
  else some ((.inr a66))
def spec_l3Encode (p0 : List SSlot) : Option ((List Int)) :=
  (loopO (spec_l3Encode_s5 p0) (([], 0, 16777216, 0))).bind fun y57 =>
  if (okApp 1 ((y57.1 ++ ([(IntKind.u8.wrap (IntKind.i64.wrap (y57.2.tdiv (65536 : Int)))), (IntKind.u8.wrap (((IntKind.i64.wrap (y57.2.tdiv (256 : Int)))).tmod (256 : Int))), (IntKind.u8.wrap (y57.2.tmod (256 : Int)))]))).length) = true then (loopO (spec_l3Encode_s8 ((y57.1 ++ ([(IntKind.u8.wrap (IntKind.i64.wrap (y57.2.tdiv (65536 : Int)))), (IntKind.u8.wrap (((IntKind.i64.wrap (y57.2.tdiv (256 : Int)))).tmod (256 : Int))), (IntKind.u8.wrap (y57.2.tmod (256 : Int)))])))) (((y57.1 ++ ([(IntKind.u8.wrap (IntKind.i64.wrap (y57.2.tdiv (65536 : Int)))), (IntKind.u8.wrap (((IntKind.i64.wrap (y57.2.tdiv (256 : Int)))).tmod (256 : Int))), (IntKind.u8.wrap (y57.2.tmod (256 : Int)))]))).length)).bind fun y72 =>
    some (((((y57.1 ++ ([(IntKind.u8.wrap (IntKind.i64.wrap (y57.2.tdiv (65536 : Int)))), (IntKind.u8.wrap (((IntKind.i64.wrap (y57.2.tdiv (256 : Int)))).tmod (256 : Int))), (IntKind.u8.wrap (y57.2.tmod (256 : Int)))])))).take y72))
  else none
@[go_sem] theorem spec_l3Encode_u3_ok {β : Type} (n : Nat) (K : List (Kont β)) (a38 : List Int) (a39 : List SSlot) (a40 : Int) (a41 : Int) (a42 : Int) (a43 : Bool) : run ⟨tab.own, lev tab (n + 2), tab.gl⟩ K c49_u3 ⟨[(0, .val (.sh .lent 3 (rowE (SSlot.cells .lent) a39))), (3, .sl 200000030 0 a38.length), (4, .val (.int .i64 a40)), (5, .val (.int .i64 a41)), (6, .val (.int .i64 a42)), (36, .val (.bool a43))], [(200000030, .row false 1 (rowE (eI .u8) a38))], 85⟩ = (spec_l3Encode_u3 a38 a39 a40 a41 a42 a43).bind (fun t => plug ⟨tab.own, lev tab (n + 2), tab.gl⟩ K .normal ⟨[(0, .val (.sh .lent 3 (rowE (SSlot.cells .lent) a39))), (3, .sl 200000030 0 t.1.length), (4, .val (.int .i64 t.2)), (5, .val (.int .i64 a41)), (6, .val (.int .i64 a42))], [(200000030, .row false 1 (rowE (eI .u8) t.1))], 85⟩) := by
  unfold c49_u3
  simp +contextual -implicitDefEqProofs (maxSteps := 100000000) only [spec_l3Encode_u3, subI, go_sem, ↓ite_not', Nat.reduceEqDiff, Nat.reduceLT, Nat.reduceLeDiff, ↓reduceIte, Nat.reduceAdd, Nat.reduceMul, Nat.reduceSub, Int.reduceEq, Int.reduceLT, Int.reduceLE, Int.reduceToNat, Int.cast_ofNat_Int, Nat.reduceBEq] <;> rfl
@[go_sem] theorem spec_l3Encode_s4_ok {β : Type} (n : Nat) (K : List (Kont β)) (a51 : List Int) (a52 : List SSlot) (a53 : Int) (a54 : Int) (a55 : Int) : run ⟨tab.own, lev tab (n + 2), tab.gl⟩ K (.loop c49_u4) ⟨[(0, .val (.sh .lent 3 (rowE (SSlot.cells .lent) a52))), (3, .sl 200000030 0 a51.length), (4, .val (.int .i64 a53)), (5, .val (.int .i64 a54)), (6, .val (.int .i64 a55))], [(200000030, .row false 1 (rowE (eI .u8) a51))], 85⟩ = (loopO (spec_l3Encode_s4 a52 a55) ((a51, a53, a54))).bind (fun t => plug ⟨tab.own, lev tab (n + 2), tab.gl⟩ K (.exit 2) ⟨[(0, .val (.sh .lent 3 (rowE (SSlot.cells .lent) a52))), (3, .sl 200000030 0 t.1.length), (4, .val (.int .i64 t.2.1)), (5, .val (.int .i64 t.2.2)), (6, .val (.int .i64 a55))], [(200000030, .row false 1 (rowE (eI .u8) t.1))], 85⟩) := by
  refine loop_run (C := ⟨tab.own, lev tab (n + 2), tab.gl⟩) (K := K) (c := c49_u4) (spec_l3Encode_s4 a52 a55) (fun s => ⟨[(0, .val (.sh .lent 3 (rowE (SSlot.cells .lent) a52))), (3, .sl 200000030 0 s.1.length), (4, .val (.int .i64 s.2.1)), (5, .val (.int .i64 s.2.2)), (6, .val (.int .i64 a55))], [(200000030, .row false 1 (rowE (eI .u8) s.1))], 85⟩) (fun t => plug ⟨tab.own, lev tab (n + 2), tab.gl⟩ K (.exit 2) ⟨[(0, .val (.sh .lent 3 (rowE (SSlot.cells .lent) a52))), (3, .sl 200000030 0 t.1.length), (4, .val (.int .i64 t.2.1)), (5, .val (.int .i64 t.2.2)), (6, .val (.int .i64 a55))], [(200000030, .row false 1 (rowE (eI .u8) t.1))], 85⟩) (fun k s => ?_) ((a51, a53, a54))
  obtain ⟨a51, a53, a54⟩ := s
  unfold c49_u4
  simp +contextual -implicitDefEqProofs (maxSteps := 100000000) only [spec_l3Encode_s4, subI, go_sem, ↓ite_not', Nat.reduceEqDiff, Nat.reduceLT, Nat.reduceLeDiff, ↓reduceIte, Nat.reduceAdd, Nat.reduceMul, Nat.reduceSub, Int.reduceEq, Int.reduceLT, Int.reduceLE, Int.reduceToNat, Int.cast_ofNat_Int, Nat.reduceBEq] <;> rfl
@[go_sem] theorem spec_l3Encode_s5_ok {β : Type} (n : Nat) (K : List (Kont β)) (a29 : List Int) (a30 : List SSlot) (a31 : Int) (a32 : Int) (a33 : Int) : run ⟨tab.own, lev tab (n + 2), tab.gl⟩ K (.loop c49_u5) ⟨[(0, .val (.sh .lent 3 (rowE (SSlot.cells .lent) a30))), (3, .sl 200000030 0 a29.length), (4, .val (.int .i64 a31)), (5, .val (.int .i64 a32)), (6, .val (.int .i64 a33))], [(200000030, .row false 1 (rowE (eI .u8) a29))], 85⟩ = (loopO (spec_l3Encode_s5 a30) ((a29, a31, a32, a33))).bind (fun t => plug ⟨tab.own, lev tab (n + 2), tab.gl⟩ K (.exit 0) ⟨[(3, .sl 200000030 0 t.1.length), (4, .val (.int .i64 t.2))], [(200000030, .row false 1 (rowE (eI .u8) t.1))], 85⟩) := by
  refine loop_run (C := ⟨tab.own, lev tab (n + 2), tab.gl⟩) (K := K) (c := c49_u5) (spec_l3Encode_s5 a30) (fun s => ⟨[(0, .val (.sh .lent 3 (rowE (SSlot.cells .lent) a30))), (3, .sl 200000030 0 s.1.length), (4, .val (.int .i64 s.2.1)), (5, .val (.int .i64 s.2.2.1)), (6, .val (.int .i64 s.2.2.2))], [(200000030, .row false 1 (rowE (eI .u8) s.1))], 85⟩) (fun t => plug ⟨tab.own, lev tab (n + 2), tab.gl⟩ K (.exit 0) ⟨[(3, .sl 200000030 0 t.1.length), (4, .val (.int .i64 t.2))], [(200000030, .row false 1 (rowE (eI .u8) t.1))], 85⟩) (fun k s => ?_) ((a29, a31, a32, a33))
  obtain ⟨a29, a31, a32, a33⟩ := s
  unfold c49_u5
  simp +contextual -implicitDefEqProofs (maxSteps := 100000000) only [spec_l3Encode_s5, subI, go_sem, ↓ite_not', Nat.reduceEqDiff, Nat.reduceLT, Nat.reduceLeDiff, ↓reduceIte, Nat.reduceAdd, Nat.reduceMul, Nat.reduceSub, Int.reduceEq, Int.reduceLT, Int.reduceLE, Int.reduceToNat, Int.cast_ofNat_Int, Nat.reduceBEq] <;> rfl
@[go_sem] theorem spec_l3Encode_s5_ok_e {β : Type} (n : Nat) (K : List (Kont β)) (a30 : List SSlot) (a31 : Int) (a32 : Int) (a33 : Int) : run ⟨tab.own, lev tab (n + 2), tab.gl⟩ K (.loop c49_u5) ⟨[(0, .val (.sh .lent 3 (rowE (SSlot.cells .lent) a30))), (3, .sl 200000030 0 0), (4, .val (.int .i64 a31)), (5, .val (.int .i64 a32)), (6, .val (.int .i64 a33))], [(200000030, .row false 1 [])], 85⟩ = (loopO (spec_l3Encode_s5 a30) (([], a31, a32, a33))).bind (fun t => plug ⟨tab.own, lev tab (n + 2), tab.gl⟩ K (.exit 0) ⟨[(3, .sl 200000030 0 t.1.length), (4, .val (.int .i64 t.2))], [(200000030, .row false 1 (rowE (eI .u8) t.1))], 85⟩) := spec_l3Encode_s5_ok n K [] a30 a31 a32 a33
@[go_sem] theorem spec_l3Encode_u7_ok {β : Type} (n : Nat) (K : List (Kont β)) (a67 : List Int) (a68 : Nat) : run ⟨tab.own, lev tab (n + 2), tab.gl⟩ K c49_u7 ⟨[(3, .sl 200000030 0 a68)], [(200000030, .row false 1 (rowE (eI .u8) a67))], 85⟩ = (spec_l3Encode_u7 a67 a68).bind (fun t => plug ⟨tab.own, lev tab (n + 2), tab.gl⟩ K .normal ⟨[(3, .sl 200000030 0 a68), (78, .val (.bool t))], [(200000030, .row false 1 (rowE (eI .u8) a67))], 85⟩) := by
  unfold c49_u7
  simp +contextual -implicitDefEqProofs (maxSteps := 100000000) only [spec_l3Encode_u7, subI, go_sem, ↓ite_not', Nat.reduceEqDiff, Nat.reduceLT, Nat.reduceLeDiff, ↓reduceIte, Nat.reduceAdd, Nat.reduceMul, Nat.reduceSub, Int.reduceEq, Int.reduceLT, Int.reduceLE, Int.reduceToNat, Int.cast_ofNat_Int, Nat.reduceBEq] <;> rfl
@[go_sem] theorem spec_l3Encode_s8_ok {β : Type} (n : Nat) (K : List (Kont β)) (a65 : List Int) (a66 : Nat) : run ⟨tab.own, lev tab (n + 2), tab.gl⟩ K (.loop c49_u8) ⟨[(3, .sl 200000030 0 a66)], [(200000030, .row false 1 (rowE (eI .u8) a65))], 85⟩ = (loopO (spec_l3Encode_s8 a65) a66).bind (fun t => plug ⟨tab.own, lev tab (n + 2), tab.gl⟩ K (.exit 4) ⟨[(3, .sl 200000030 0 t)], [(200000030, .row false 1 (rowE (eI .u8) a65))], 85⟩) := by
  refine loop_run (C := ⟨tab.own, lev tab (n + 2), tab.gl⟩) (K := K) (c := c49_u8) (spec_l3Encode_s8 a65) (fun s => ⟨[(3, .sl 200000030 0 s)], [(200000030, .row false 1 (rowE (eI .u8) a65))], 85⟩) (fun t => plug ⟨tab.own, lev tab (n + 2), tab.gl⟩ K (.exit 4) ⟨[(3, .sl 200000030 0 t)], [(200000030, .row false 1 (rowE (eI .u8) a65))], 85⟩) (fun k s => ?_) a66
  unfold c49_u8
  simp +contextual -implicitDefEqProofs (maxSteps := 100000000) only [spec_l3Encode_s8, subI, go_sem, ↓ite_not', Nat.reduceEqDiff, Nat.reduceLT, Nat.reduceLeDiff, ↓reduceIte, Nat.reduceAdd, Nat.reduceMul, Nat.reduceSub, Int.reduceEq, Int.reduceLT, Int.reduceLE, Int.reduceToNat, Int.cast_ofNat_Int, Nat.reduceBEq] <;> rfl
@[go_sem] theorem spec_l3Encode_ok (n : Nat) (q0_0 : List SSlot) : lev tab (n + 3) 49 [.sh .lent 3 (rowE (SSlot.cells .lent) q0_0)] = (spec_l3Encode q0_0).map fun r => (.ow 1 (rowE (eI .u8) r), [.gone]) := by
  rw [lev_st (vc := c49) (nt := 85) (rs := [(2, none)]) rfl rfl (Nat.le_of_ble_eq_true rfl)]
  unfold c49
  simp +contextual -implicitDefEqProofs (maxSteps := 100000000) only [spec_l3Encode, subI, go_sem, ↓ite_not', Nat.reduceEqDiff, Nat.reduceLT, Nat.reduceLeDiff, ↓reduceIte, Nat.reduceAdd, Nat.reduceMul, Nat.reduceSub, Int.reduceEq, Int.reduceLT, Int.reduceLE, Int.reduceToNat, Int.cast_ofNat_Int, Nat.reduceBEq] <;> rfl
-- spec.l4Encode
def spec_l4Encode_s1 (a7 : List Int) : ((List SSlot) × Int) → Option (((List SSlot) × Int) ⊕ ((List SSlot))) := fun ⟨a6, a8⟩ =>
  if (decide (a8 < (a7.length : Int))) = true then (getI a7 a8).bind fun x9 =>
    (spec_l4Slots x9).bind fun r10 =>
    if (okApp 24 ((a6 ++ r10)).length) = true then some ((.inl (((a6 ++ r10), (IntKind.i64.wrap (a8 + 1))))))
    else none
  else some ((.inr a6))
def spec_l4Encode (p0 : List Int) : Option ((List Int)) :=
  (loopO (spec_l4Encode_s1 p0) (([], 0))).bind fun y11 =>
  (spec_l3Encode y11).bind fun r12 =>
  some r12
@[go_sem] theorem spec_l4Encode_s1_ok {β : Type} (n : Nat) (K : List (Kont β)) (a6 : List SSlot) (a7 : List Int) (a8 : Int) : run ⟨tab.own, lev tab (n + 3), tab.gl⟩ K (.loop c57_u1) ⟨[(0, .val (.sh .lent 1 (rowE (eI .i64) a7))), (3, .sl 200000030 0 a6.length), (4, .val (.int .i64 a8))], [(200000030, .row false 3 (rowE (SSlot.cells .lent) a6))], 21⟩ = (loopO (spec_l4Encode_s1 a7) ((a6, a8))).bind (fun t => plug ⟨tab.own, lev tab (n + 3), tab.gl⟩ K (.exit 0) ⟨[(3, .sl 200000030 0 t.length)], [(200000030, .row false 3 (rowE (SSlot.cells .lent) t))], 21⟩) := by
  refine loop_run (C := ⟨tab.own, lev tab (n + 3), tab.gl⟩) (K := K) (c := c57_u1) (spec_l4Encode_s1 a7) (fun s => ⟨[(0, .val (.sh .lent 1 (rowE (eI .i64) a7))), (3, .sl 200000030 0 s.1.length), (4, .val (.int .i64 s.2))], [(200000030, .row false 3 (rowE (SSlot.cells .lent) s.1))], 21⟩) (fun t => plug ⟨tab.own, lev tab (n + 3), tab.gl⟩ K (.exit 0) ⟨[(3, .sl 200000030 0 t.length)], [(200000030, .row false 3 (rowE (SSlot.cells .lent) t))], 21⟩) (fun k s => ?_) ((a6, a8))
  obtain ⟨a6, a8⟩ := s
  unfold c57_u1
  simp +contextual -implicitDefEqProofs (maxSteps := 100000000) only [spec_l4Encode_s1, subI, go_sem, ↓ite_not', Nat.reduceEqDiff, Nat.reduceLT, Nat.reduceLeDiff, ↓reduceIte, Nat.reduceAdd, Nat.reduceMul, Nat.reduceSub, Int.reduceEq, Int.reduceLT, Int.reduceLE, Int.reduceToNat, Int.cast_ofNat_Int, Nat.reduceBEq] <;> rfl
@[go_sem] theorem spec_l4Encode_s1_ok_e {β : Type} (n : Nat) (K : List (Kont β)) (a7 : List Int) (a8 : Int) : run ⟨tab.own, lev tab (n + 3), tab.gl⟩ K (.loop c57_u1) ⟨[(0, .val (.sh .lent 1 (rowE (eI .i64) a7))), (3, .sl 200000030 0 0), (4, .val (.int .i64 a8))], [(200000030, .row false 3 [])], 21⟩ = (loopO (spec_l4Encode_s1 a7) (([], a8))).bind (fun t => plug ⟨tab.own, lev tab (n + 3), tab.gl⟩ K (.exit 0) ⟨[(3, .sl 200000030 0 t.length)], [(200000030, .row false 3 (rowE (SSlot.cells .lent) t))], 21⟩) := spec_l4Encode_s1_ok n K [] a7 a8
@[go_sem] theorem spec_l4Encode_ok (n : Nat) (q0_0 : List Int) : lev tab (n + 4) 57 [.sh .lent 1 (rowE (eI .i64) q0_0)] = (spec_l4Encode q0_0).map fun r => (.ow 1 (rowE (eI .u8) r), [.gone]) := by
  rw [lev_st (vc := c57) (nt := 21) (rs := [(2, none)]) rfl rfl (Nat.le_of_ble_eq_true rfl)]
  unfold c57
  simp +contextual -implicitDefEqProofs (maxSteps := 100000000) only [spec_l4Encode, subI, go_sem, ↓ite_not', Nat.reduceEqDiff, Nat.reduceLT, Nat.reduceLeDiff, ↓reduceIte, Nat.reduceAdd, Nat.reduceMul, Nat.reduceSub, Int.reduceEq, Int.reduceLT, Int.reduceLE, Int.reduceToNat, Int.cast_ofNat_Int, Nat.reduceBEq] <;> rfl
-- spec.l1Some
def spec_l1Some_s1 : ((List Int) × (List Int) × Int × Int) → Option (((List Int) × (List Int) × Int × Int) ⊕ ((List Int) × (List Int) × Int)) := fun ⟨a1, a2, a3, a4⟩ =>
  if (decide (a4 > 0)) = true then (spec_l1Next ((Sl1Src.mk a2 a3)) 256).bind fun r5 =>
    if (okApp 1 ((a1 ++ ([(IntKind.u8.wrap r5.1)]))).length) = true then some ((.inl (((a1 ++ ([(IntKind.u8.wrap r5.1)])), r5.2.Code, r5.2.At, (IntKind.i64.wrap (a4 - 1))))))
    else none
  else some ((.inr ((a1, a2, a3))))
def spec_l1Some (p0 : Sl1Src) (p1 : Int) : Option ((List Int) × Sl1Src) :=
  (loopO spec_l1Some_s1 (([], p0.Code, p0.At, p1))).bind fun y6 =>
  some ((y6.1, (Sl1Src.mk y6.2.1 y6.2.2)))
@[go_sem] theorem spec_l1Some_s1_ok {β : Type} (n : Nat) (K : List (Kont β)) (a1 : List Int) (a2 : List Int) (a3 : Int) (a4 : Int) : run ⟨tab.own, lev tab (n + 1), tab.gl⟩ K (.loop c58_u1) ⟨[(0, .pt 1000000000 0), (1, .val (.int .i64 a4)), (5, .sl 200000050 0 a1.length)], [(200000050, .row false 1 (rowE (eI .u8) a1)), (1000000000, .var true [.val (.sh .lent 1 (rowE (eI .u8) a2)), .val (.int .i64 a3)])], 18⟩ = (loopO spec_l1Some_s1 ((a1, a2, a3, a4))).bind (fun t => plug ⟨tab.own, lev tab (n + 1), tab.gl⟩ K (.exit 0) ⟨[(5, .sl 200000050 0 t.1.length)], [(200000050, .row false 1 (rowE (eI .u8) t.1)), (1000000000, .var true [.val (.sh .lent 1 (rowE (eI .u8) t.2.1)), .val (.int .i64 t.2.2)])], 18⟩) := by
  refine loop_run (C := ⟨tab.own, lev tab (n + 1), tab.gl⟩) (K := K) (c := c58_u1) (spec_l1Some_s1) (fun s => ⟨[(0, .pt 1000000000 0), (1, .val (.int .i64 s.2.2.2)), (5, .sl 200000050 0 s.1.length)], [(200000050, .row false 1 (rowE (eI .u8) s.1)), (1000000000, .var true [.val (.sh .lent 1 (rowE (eI .u8) s.2.1)), .val (.int .i64 s.2.2.1)])], 18⟩) (fun t => plug ⟨tab.own, lev tab (n + 1), tab.gl⟩ K (.exit 0) ⟨[(5, .sl 200000050 0 t.1.length)], [(200000050, .row false 1 (rowE (eI .u8) t.1)), (1000000000, .var true [.val (.sh .lent 1 (rowE (eI .u8) t.2.1)), .val (.int .i64 t.2.2)])], 18⟩) (fun k s => ?_) ((a1, a2, a3, a4))
  obtain ⟨a1, a2, a3, a4⟩ := s
  unfold c58_u1
  simp +contextual -implicitDefEqProofs (maxSteps := 100000000) only [spec_l1Some_s1, subI, go_sem, ↓ite_not', Nat.reduceEqDiff, Nat.reduceLT, Nat.reduceLeDiff, ↓reduceIte, Nat.reduceAdd, Nat.reduceMul, Nat.reduceSub, Int.reduceEq, Int.reduceLT, Int.reduceLE, Int.reduceToNat, Int.cast_ofNat_Int, Nat.reduceBEq] <;> rfl
@[go_sem] theorem spec_l1Some_s1_ok_e {β : Type} (n : Nat) (K : List (Kont β)) (a2 : List Int) (a3 : Int) (a4 : Int) : run ⟨tab.own, lev tab (n + 1), tab.gl⟩ K (.loop c58_u1) ⟨[(0, .pt 1000000000 0), (1, .val (.int .i64 a4)), (5, .sl 200000050 0 0)], [(200000050, .row false 1 []), (1000000000, .var true [.val (.sh .lent 1 (rowE (eI .u8) a2)), .val (.int .i64 a3)])], 18⟩ = (loopO spec_l1Some_s1 (([], a2, a3, a4))).bind (fun t => plug ⟨tab.own, lev tab (n + 1), tab.gl⟩ K (.exit 0) ⟨[(5, .sl 200000050 0 t.1.length)], [(200000050, .row false 1 (rowE (eI .u8) t.1)), (1000000000, .var true [.val (.sh .lent 1 (rowE (eI .u8) t.2.1)), .val (.int .i64 t.2.2)])], 18⟩) := spec_l1Some_s1_ok n K [] a2 a3 a4
@[go_sem] theorem spec_l1Some_ok (n : Nat) (q0_0 : List Int) (q0_1 : Int) (q1_0 : Int) : lev tab (n + 2) 58 [.op 0 [.sh .lent 1 (rowE (eI .u8) q0_0), .int .i64 q0_1], .int .i64 q1_0] = (spec_l1Some (Sl1Src.mk q0_0 q0_1) q1_0).map fun r => (.ow 1 (rowE (eI .u8) r.1), [.op 0 [.sh .lent 1 (rowE (eI .u8) r.2.Code), .int .i64 r.2.At], .gone]) := by
  rw [lev_st (vc := c58) (nt := 18) (rs := [(4, none)]) rfl rfl (Nat.le_of_ble_eq_true rfl)]
  unfold c58
  simp +contextual -implicitDefEqProofs (maxSteps := 100000000) only [spec_l1Some, subI, go_sem, ↓ite_not', Nat.reduceEqDiff, Nat.reduceLT, Nat.reduceLeDiff, ↓reduceIte, Nat.reduceAdd, Nat.reduceMul, Nat.reduceSub, Int.reduceEq, Int.reduceLT, Int.reduceLE, Int.reduceToNat, Int.cast_ofNat_Int, Nat.reduceBEq] <;> rfl
-- spec.DrawDecodeValues
def spec_DrawDecodeValues_u1 (a19 : List Int) (a20 : Int) (a21 : List Int) (a22 : List Int) : Option ((List Int)) :=
  (spec_l1Next ((Sl1Src.mk a19 a20)) ((a22.length : Int))).bind fun r23 =>
  (getI a22 r23.1).bind fun _ =>
  (a22[r23.1.toNat]?).bind fun x24 =>
  (spec_l1Next r23.2 255).bind fun r25 =>
  (getI a22 r23.1).bind fun _ =>
  (a22[r23.1.toNat]?).bind fun _ =>
  some ((a22.set r23.1.toNat ((IntKind.u8.wrap ((BitVec.ofInt 8 x24 ^^^ BitVec.ofInt 8 ((IntKind.u8.wrap (IntKind.i64.wrap (1 + r25.1))))).toNat)))))
def spec_DrawDecodeValues_u2 (a13 : List Int) (a14 : Int) (a15 : List Int) (a16 : List Int) (a17 : Int) (a18 : Bool) : Option (((List Int)) ⊕ ((List Int) × Int)) :=
  if a18 = true then if (decide ((a16.length : Int) > 0)) = true then (spec_DrawDecodeValues_u1 a13 a14 a15 a16).bind fun y27 =>
      some ((.inl y27))
    else some ((.inl a16))
  else if (a17 == 2) = true then some ((.inr ((a16, (IntKind.i64.wrap ((a15.length : Int) + 1))))))
    else if (a17 == 3) = true then if (okApp 1 ((a16 ++ ([0]))).length) = true then some ((.inr (((a16 ++ ([0])), (a15.length : Int)))))
        else none
      else some ((.inl a16))
def spec_DrawDecodeValues_u3 (a5 : List Int) (a6 : Int) (a7 : List Int) (a8 : List Int) (a9 : Int) : Option (((List Int)) ⊕ ((List Int) × Int)) :=
  if (a9 == 0) = true then (spec_l1Pick ((Sl1Src.mk a5 a6)) ([0, 1, 3, 8, 600, 601])).bind fun r10 =>
    (spec_l1Some r10.2 r10.1).bind fun r11 =>
    (spec_l1Pick r11.2 ([0, 1, 3, 64, 65, (-1)])).bind fun r12 =>
    some ((.inr ((r11.1, r12.1))))
  else (spec_DrawDecodeValues_u2 a5 a6 a7 a8 a9 ((a9 == 1))).bind fun t => (Sum.elim (fun y28 => some ((.inl y28)))
     (fun y29 => some ((.inr ((y29.1, y29.2)))))) t
def spec_DrawDecodeValues (p0 : List Int) : Option ((List Int) × Int) :=
  (spec_l1Pick (((spec_l1Source p0))) ([0, 1, 2, 5, 9, 20])).bind fun r1 =>
  (spec_l4List r1.2 r1.1).bind fun r2 =>
  (spec_l4Encode r2.1).bind fun r3 =>
  (spec_l1Next r2.2 7).bind fun r4 =>
  (spec_DrawDecodeValues_u3 r4.2.Code r4.2.At r2.1 r3 r4.1).bind fun t => (Sum.elim (fun y30 => some ((y30, (r2.1.length : Int))))
   (fun y31 => some ((y31.1, y31.2)))) t
@[go_sem] theorem spec_DrawDecodeValues_u1_ok {β : Type} (n : Nat) (K : List (Kont β)) (a19 : List Int) (a20 : Int) (a21 : List Int) (a22 : List Int) : run ⟨tab.own, lev tab (n + 4), tab.gl⟩ K c25_u1 ⟨[(4, .pt 200000040 0), (5, .sl 200000050 0 a21.length), (6, .sl 200000060 0 a22.length)], [(200000040, .var false [.val (.sh .lent 1 (rowE (eI .u8) a19)), .val (.int .i64 a20)]), (200000050, .row false 1 (rowE (eI .i64) a21)), (200000060, .row false 1 (rowE (eI .u8) a22))], 62⟩ = (spec_DrawDecodeValues_u1 a19 a20 a21 a22).bind (fun t => plug ⟨tab.own, lev tab (n + 4), tab.gl⟩ K .normal ⟨[(5, .sl 200000050 0 a21.length), (6, .sl 200000060 0 t.length)], [(200000050, .row false 1 (rowE (eI .i64) a21)), (200000060, .row false 1 (rowE (eI .u8) t))], 62⟩) := by
  unfold c25_u1
  rw [run_alts]
  · simp +contextual -implicitDefEqProofs (maxSteps := 100000000) only [spec_DrawDecodeValues_u1, subI, go_sem, ↓ite_not', Nat.reduceEqDiff, Nat.reduceLT, Nat.reduceLeDiff, ↓reduceIte, Nat.reduceAdd, Nat.reduceMul, Nat.reduceSub, Int.reduceEq, Int.reduceLT, Int.reduceLE, Int.reduceToNat, Int.cast_ofNat_Int, Nat.reduceBEq] <;> (repeat first | rfl | refine bind_ext fun _ _ => ?_ | refine bind_swap fun _ _ _ _ => ?_)
  · refine ⟨?_, trivial⟩
    · simp +contextual -implicitDefEqProofs (maxSteps := 100000000) only [spec_DrawDecodeValues_u1, subI, go_sem, ↓ite_not', Nat.reduceEqDiff, Nat.reduceLT, Nat.reduceLeDiff, ↓reduceIte, Nat.reduceAdd, Nat.reduceMul, Nat.reduceSub, Int.reduceEq, Int.reduceLT, Int.reduceLE, Int.reduceToNat, Int.cast_ofNat_Int, Nat.reduceBEq] <;> (repeat first | rfl | refine bind_ext fun _ _ => ?_ | refine bind_swap fun _ _ _ _ => ?_)
@[go_sem] theorem spec_DrawDecodeValues_u2_ok {β : Type} (n : Nat) (K : List (Kont β)) (a13 : List Int) (a14 : Int) (a15 : List Int) (a16 : List Int) (a17 : Int) (a18 : Bool) : run ⟨tab.own, lev tab (n + 4), tab.gl⟩ K c25_u2 ⟨[(4, .pt 200000040 0), (5, .sl 200000050 0 a15.length), (6, .sl 200000060 0 a16.length), (17, .val (.int .i64 a17)), (28, .val (.bool a18))], [(200000040, .var false [.val (.sh .lent 1 (rowE (eI .u8) a13)), .val (.int .i64 a14)]), (200000050, .row false 1 (rowE (eI .i64) a15)), (200000060, .row false 1 (rowE (eI .u8) a16))], 62⟩ = (spec_DrawDecodeValues_u2 a13 a14 a15 a16 a17 a18).bind (fun t => (Sum.elim (fun t => plug ⟨tab.own, lev tab (n + 4), tab.gl⟩ K .normal ⟨[(5, .sl 200000050 0 a15.length), (6, .sl 200000060 0 t.length)], [(200000050, .row false 1 (rowE (eI .i64) a15)), (200000060, .row false 1 (rowE (eI .u8) t))], 62⟩) (fun t => plug ⟨tab.own, lev tab (n + 4), tab.gl⟩ K .ret ⟨[(2, .sl 200000020 0 t.1.length), (3, .val (.int .i64 t.2))], [(200000020, .row false 1 (rowE (eI .u8) t.1))], 62⟩)) t) := by
  unfold c25_u2
  simp +contextual -implicitDefEqProofs (maxSteps := 100000000) only [spec_DrawDecodeValues_u2, subI, go_sem, ↓ite_not', Nat.reduceEqDiff, Nat.reduceLT, Nat.reduceLeDiff, ↓reduceIte, Nat.reduceAdd, Nat.reduceMul, Nat.reduceSub, Int.reduceEq, Int.reduceLT, Int.reduceLE, Int.reduceToNat, Int.cast_ofNat_Int, Nat.reduceBEq] <;> rfl
@[go_sem] theorem spec_DrawDecodeValues_u3_ok {β : Type} (n : Nat) (K : List (Kont β)) (a5 : List Int) (a6 : Int) (a7 : List Int) (a8 : List Int) (a9 : Int) : run ⟨tab.own, lev tab (n + 4), tab.gl⟩ K c25_u3 ⟨[(4, .pt 200000040 0), (5, .sl 200000050 0 a7.length), (6, .sl 200000060 0 a8.length), (17, .val (.int .i64 a9))], [(200000040, .var false [.val (.sh .lent 1 (rowE (eI .u8) a5)), .val (.int .i64 a6)]), (200000050, .row false 1 (rowE (eI .i64) a7)), (200000060, .row false 1 (rowE (eI .u8) a8))], 62⟩ = (spec_DrawDecodeValues_u3 a5 a6 a7 a8 a9).bind (fun t => (Sum.elim (fun t => plug ⟨tab.own, lev tab (n + 4), tab.gl⟩ K .normal ⟨[(5, .sl 200000050 0 a7.length), (6, .sl 200000060 0 t.length)], [(200000050, .row false 1 (rowE (eI .i64) a7)), (200000060, .row false 1 (rowE (eI .u8) t))], 62⟩) (fun t => plug ⟨tab.own, lev tab (n + 4), tab.gl⟩ K .ret ⟨[(2, .sl 200000020 0 t.1.length), (3, .val (.int .i64 t.2))], [(200000020, .row false 1 (rowE (eI .u8) t.1))], 62⟩)) t) := by
  unfold c25_u3
  simp +contextual -implicitDefEqProofs (maxSteps := 100000000) only [spec_DrawDecodeValues_u3, subI, go_sem, ↓ite_not', Nat.reduceEqDiff, Nat.reduceLT, Nat.reduceLeDiff, ↓reduceIte, Nat.reduceAdd, Nat.reduceMul, Nat.reduceSub, Int.reduceEq, Int.reduceLT, Int.reduceLE, Int.reduceToNat, Int.cast_ofNat_Int, Nat.reduceBEq] <;> rfl
@[go_sem] theorem spec_DrawDecodeValues_ok (n : Nat) (q0_0 : List Int) : lev tab (n + 5) 25 [.sh .lent 1 (rowE (eI .u8) q0_0)] = (spec_DrawDecodeValues q0_0).map fun r => (.tup [.ow 1 (rowE (eI .u8) r.1), .int .i64 r.2], [.gone]) := by
  rw [lev_st (vc := c25) (nt := 62) (rs := [(2, none), (3, none)]) rfl rfl (Nat.le_of_ble_eq_true rfl)]
  unfold c25
  simp +contextual -implicitDefEqProofs (maxSteps := 100000000) only [spec_DrawDecodeValues, subI, go_sem, ↓ite_not', Nat.reduceEqDiff, Nat.reduceLT, Nat.reduceLeDiff, ↓reduceIte, Nat.reduceAdd, Nat.reduceMul, Nat.reduceSub, Int.reduceEq, Int.reduceLT, Int.reduceLE, Int.reduceToNat, Int.cast_ofNat_Int, Nat.reduceBEq] <;> rfl
-- impl.first
def impl_first_s1 (a5 : List Int) (a6 : Int) : Int → Option ((Int) ⊕ (Unit ⊕ Int)) := fun a7 =>
  if (decide (a7 < a6)) = true then (getI a5 a7).bind fun x8 =>
    if (x8 != 0) = true then some ((.inr ((.inr x8))))
    else some ((.inl ((IntKind.i64.wrap (a7 + 1)))))
  else some ((.inr ((.inl (())))))
def impl_first (p0 : List Int) : Option (Int) :=
  (loopO (impl_first_s1 p0 ((p0.length : Int))) 0).bind fun t => (Sum.elim (fun y9 => some 0)
   (fun y10 => some y10)) t
@[go_sem] theorem impl_first_s1_ok {β : Type} (n : Nat) (K : List (Kont β)) (a5 : List Int) (a6 : Int) (a7 : Int) : run ⟨tab.own, lev tab n, tab.gl⟩ K (.loop c31_u1) ⟨[(5, .val (.sh .lent 1 (rowE (eI .i64) a5))), (6, .val (.int .i64 a6)), (7, .val (.int .i64 a7))], [], 15⟩ = (loopO (impl_first_s1 a5 a6) a7).bind (fun t => (Sum.elim (fun t => plug ⟨tab.own, lev tab n, tab.gl⟩ K (.exit 0) ⟨[], [], 15⟩) (fun t => plug ⟨tab.own, lev tab n, tab.gl⟩ K .ret ⟨[(2, .val (.int .i64 t))], [], 15⟩)) t) := by
  refine loop_run (C := ⟨tab.own, lev tab n, tab.gl⟩) (K := K) (c := c31_u1) (impl_first_s1 a5 a6) (fun s => ⟨[(5, .val (.sh .lent 1 (rowE (eI .i64) a5))), (6, .val (.int .i64 a6)), (7, .val (.int .i64 s))], [], 15⟩) (fun t => (Sum.elim (fun t => plug ⟨tab.own, lev tab n, tab.gl⟩ K (.exit 0) ⟨[], [], 15⟩) (fun t => plug ⟨tab.own, lev tab n, tab.gl⟩ K .ret ⟨[(2, .val (.int .i64 t))], [], 15⟩)) t) (fun k s => ?_) a7
  unfold c31_u1
  simp +contextual -implicitDefEqProofs (maxSteps := 100000000) only [impl_first_s1, subI, go_sem, ↓ite_not', Nat.reduceEqDiff, Nat.reduceLT, Nat.reduceLeDiff, ↓reduceIte, Nat.reduceAdd, Nat.reduceMul, Nat.reduceSub, Int.reduceEq, Int.reduceLT, Int.reduceLE, Int.reduceToNat, Int.cast_ofNat_Int, Nat.reduceBEq] <;> rfl
@[go_sem] theorem impl_first_ok (n : Nat) (q0_0 : List Int) : lev tab (n + 1) 31 [.sh .lent 1 (rowE (eI .i64) q0_0)] = (impl_first q0_0).map fun r => (.int .i64 r, [.gone]) := by
  rw [lev_st (vc := c31) (nt := 15) (rs := [(2, none)]) rfl rfl (Nat.le_of_ble_eq_true rfl)]
  unfold c31
  simp +contextual -implicitDefEqProofs (maxSteps := 100000000) only [impl_first, subI, go_sem, ↓ite_not', Nat.reduceEqDiff, Nat.reduceLT, Nat.reduceLeDiff, ↓reduceIte, Nat.reduceAdd, Nat.reduceMul, Nat.reduceSub, Int.reduceEq, Int.reduceLT, Int.reduceLE, Int.reduceToNat, Int.cast_ofNat_Int, Nat.reduceBEq] <;> rfl
-- (*impl.Decoder).next
def impl_Decoder_next_o (p0 : SDecoder) : Option (Int × (List Int) × Int) :=
  if (decide ((IntKind.i64.wrap (p0.At + 1)) > (p0.Data.length : Int))) = true then some ((0, p0.Data, (IntKind.i64.wrap (p0.At + 1))))
  else (getI p0.Data (IntKind.i64.wrap ((IntKind.i64.wrap (p0.At + 1)) - 1))).bind fun _ =>
    (p0.Data[((IntKind.i64.wrap ((IntKind.i64.wrap (p0.At + 1)) - 1))).toNat]?).bind fun x1 =>
    some (((IntKind.i64.wrap x1), p0.Data, (IntKind.i64.wrap (p0.At + 1))))
@[go_sem] theorem impl_Decoder_next_o_ok (n : Nat) (q0_0 : List Int) (q0_1 : Int) (q0_2 : Int) (q0_3 : Int) : lev tab (n + 1) 62 [.op 0 [.ow 1 (rowE (eI .u8) q0_0), .int .i64 q0_1, .int .i64 q0_2, .int .i64 q0_3]] = (impl_Decoder_next_o (SDecoder.mk q0_0 q0_1 q0_2 q0_3)).map fun r => (.int .i64 r.1, [.op 0 [.ow 1 (rowE (eI .u8) r.2.1), .int .i64 r.2.2, .int .i64 q0_2, .int .i64 q0_3]]) := by
  rw [lev_st (vc := c62) (nt := 32) (rs := [(2, none)]) rfl rfl (Nat.le_of_ble_eq_true rfl)]
  unfold c62
  simp +contextual -implicitDefEqProofs (maxSteps := 100000000) only [impl_Decoder_next_o, subI, go_sem, ↓ite_not', Nat.reduceEqDiff, Nat.reduceLT, Nat.reduceLeDiff, ↓reduceIte, Nat.reduceAdd, Nat.reduceMul, Nat.reduceSub, Int.reduceEq, Int.reduceLT, Int.reduceLE, Int.reduceToNat, Int.cast_ofNat_Int, Nat.reduceBEq] <;> rfl
-- impl.start
def impl_start_u2 (a24 : Int) (a25 : Int) (a26 : List Int) (a27 : Int) : Option (Int × Int × (List Int)) :=
  (impl_Decoder_next_o ((SDecoder.mk a26 a24 a25 16777216))).bind fun r28 =>
  some ((r28.2.2, (IntKind.i64.wrap ((IntKind.i64.wrap (a25 * 256)) + r28.1)), r28.2.1))
def impl_start_s3 : (Int × Int × (List Int) × Int) → Option ((Int × Int × (List Int) × Int) ⊕ (Int × Int × (List Int))) := fun ⟨a20, a21, a22, a23⟩ =>
  if (decide (a23 < 3)) = true then (impl_start_u2 a20 a21 a22 a23).bind fun y29 =>
    some ((.inl ((y29.1, y29.2.1, y29.2.2, (IntKind.i64.wrap (a23 + 1))))))
  else some ((.inr ((a20, a21, a22))))
def impl_start (p0 : List Int) : Option (SDecoder) :=
  (slices_Clone_byte p0).bind fun r1 =>
  (loopO impl_start_s3 ((0, 0, r1, 0))).bind fun y30 =>
  some ((SDecoder.mk y30.2.2 y30.1 y30.2.1 16777216))
@[go_sem] theorem impl_start_u2_ok {β : Type} (n : Nat) (K : List (Kont β)) (a24 : Int) (a25 : Int) (a26 : List Int) (a27 : Int) : run ⟨tab.own, lev tab (n + 1), tab.gl⟩ K c34_u2 ⟨[(2, .pt 200000020 0), (3, .pt 200000030 0), (7, .val (.int .i64 a27))], [(200000020, .var false [.emp 1, .val (.int .i64 0), .val (.int .i64 0), .val (.int .i64 0)]), (200000030, .var false [.sl 200000031 0 a26.length, .val (.int .i64 a24), .val (.int .i64 a25), .val (.int .i64 16777216)]), (200000031, .row false 1 (rowE (eI .u8) a26))], 17⟩ = (impl_start_u2 a24 a25 a26 a27).bind (fun t => plug ⟨tab.own, lev tab (n + 1), tab.gl⟩ K .normal ⟨[(2, .pt 200000020 0), (3, .pt 200000030 0), (7, .val (.int .i64 a27))], [(200000020, .var false [.emp 1, .val (.int .i64 0), .val (.int .i64 0), .val (.int .i64 0)]), (200000030, .var false [.sl 200000031 0 t.2.2.length, .val (.int .i64 t.1), .val (.int .i64 t.2.1), .val (.int .i64 16777216)]), (200000031, .row false 1 (rowE (eI .u8) t.2.2))], 17⟩) := by
  unfold c34_u2
  rw [run_alts]
  · simp +contextual -implicitDefEqProofs (maxSteps := 100000000) only [impl_start_u2, subI, go_sem, ↓ite_not', Nat.reduceEqDiff, Nat.reduceLT, Nat.reduceLeDiff, ↓reduceIte, Nat.reduceAdd, Nat.reduceMul, Nat.reduceSub, Int.reduceEq, Int.reduceLT, Int.reduceLE, Int.reduceToNat, Int.cast_ofNat_Int, Nat.reduceBEq] <;> (repeat first | rfl | refine bind_ext fun _ _ => ?_ | refine bind_swap fun _ _ _ _ => ?_)
  · refine ⟨?_, trivial⟩
    · simp +contextual -implicitDefEqProofs (maxSteps := 100000000) only [impl_start_u2, subI, go_sem, ↓ite_not', Nat.reduceEqDiff, Nat.reduceLT, Nat.reduceLeDiff, ↓reduceIte, Nat.reduceAdd, Nat.reduceMul, Nat.reduceSub, Int.reduceEq, Int.reduceLT, Int.reduceLE, Int.reduceToNat, Int.cast_ofNat_Int, Nat.reduceBEq] <;> (repeat first | rfl | refine bind_ext fun _ _ => ?_ | refine bind_swap fun _ _ _ _ => ?_)
@[go_sem] theorem impl_start_s3_ok {β : Type} (n : Nat) (K : List (Kont β)) (a20 : Int) (a21 : Int) (a22 : List Int) (a23 : Int) : run ⟨tab.own, lev tab (n + 1), tab.gl⟩ K (.loop c34_u3) ⟨[(2, .pt 200000020 0), (3, .pt 200000030 0), (7, .val (.int .i64 a23))], [(200000020, .var false [.emp 1, .val (.int .i64 0), .val (.int .i64 0), .val (.int .i64 0)]), (200000030, .var false [.sl 200000031 0 a22.length, .val (.int .i64 a20), .val (.int .i64 a21), .val (.int .i64 16777216)]), (200000031, .row false 1 (rowE (eI .u8) a22))], 17⟩ = (loopO impl_start_s3 ((a20, a21, a22, a23))).bind (fun t => plug ⟨tab.own, lev tab (n + 1), tab.gl⟩ K (.exit 0) ⟨[(2, .pt 200000020 0), (3, .pt 200000030 0)], [(200000020, .var false [.emp 1, .val (.int .i64 0), .val (.int .i64 0), .val (.int .i64 0)]), (200000030, .var false [.sl 200000031 0 t.2.2.length, .val (.int .i64 t.1), .val (.int .i64 t.2.1), .val (.int .i64 16777216)]), (200000031, .row false 1 (rowE (eI .u8) t.2.2))], 17⟩) := by
  refine loop_run (C := ⟨tab.own, lev tab (n + 1), tab.gl⟩) (K := K) (c := c34_u3) (impl_start_s3) (fun s => ⟨[(2, .pt 200000020 0), (3, .pt 200000030 0), (7, .val (.int .i64 s.2.2.2))], [(200000020, .var false [.emp 1, .val (.int .i64 0), .val (.int .i64 0), .val (.int .i64 0)]), (200000030, .var false [.sl 200000031 0 s.2.2.1.length, .val (.int .i64 s.1), .val (.int .i64 s.2.1), .val (.int .i64 16777216)]), (200000031, .row false 1 (rowE (eI .u8) s.2.2.1))], 17⟩) (fun t => plug ⟨tab.own, lev tab (n + 1), tab.gl⟩ K (.exit 0) ⟨[(2, .pt 200000020 0), (3, .pt 200000030 0)], [(200000020, .var false [.emp 1, .val (.int .i64 0), .val (.int .i64 0), .val (.int .i64 0)]), (200000030, .var false [.sl 200000031 0 t.2.2.length, .val (.int .i64 t.1), .val (.int .i64 t.2.1), .val (.int .i64 16777216)]), (200000031, .row false 1 (rowE (eI .u8) t.2.2))], 17⟩) (fun k s => ?_) ((a20, a21, a22, a23))
  obtain ⟨a20, a21, a22, a23⟩ := s
  unfold c34_u3
  simp +contextual -implicitDefEqProofs (maxSteps := 100000000) only [impl_start_s3, subI, go_sem, ↓ite_not', Nat.reduceEqDiff, Nat.reduceLT, Nat.reduceLeDiff, ↓reduceIte, Nat.reduceAdd, Nat.reduceMul, Nat.reduceSub, Int.reduceEq, Int.reduceLT, Int.reduceLE, Int.reduceToNat, Int.cast_ofNat_Int, Nat.reduceBEq] <;> rfl
@[go_sem] theorem impl_start_ok (n : Nat) (q0_0 : List Int) : lev tab (n + 2) 34 [.sh .lent 1 (rowE (eI .u8) q0_0)] = (impl_start q0_0).map fun r => (.agg [.ow 1 (rowE (eI .u8) r.Data), .int .i64 r.At, .int .i64 r.Rest, .int .i64 r.Range], [.gone]) := by
  rw [lev_st (vc := c34) (nt := 17) (rs := [(2, some (some 4))]) rfl rfl (Nat.le_of_ble_eq_true rfl)]
  unfold c34
  simp +contextual -implicitDefEqProofs (maxSteps := 100000000) only [impl_start, subI, go_sem, ↓ite_not', Nat.reduceEqDiff, Nat.reduceLT, Nat.reduceLeDiff, ↓reduceIte, Nat.reduceAdd, Nat.reduceMul, Nat.reduceSub, Int.reduceEq, Int.reduceLT, Int.reduceLE, Int.reduceToNat, Int.cast_ofNat_Int, Nat.reduceBEq] <;> rfl
-- (*impl.Decoder).value
def impl_Decoder_value (p0 : SDecoder) (p1 : Int) : Option (Int) :=
  if p1 = 0 then none
  else if (IntKind.i64.wrap (p0.Range.tdiv p1)) = 0 then none
    else some ((mnI ((IntKind.i64.wrap (p0.Rest.tdiv ((IntKind.i64.wrap (p0.Range.tdiv p1)))))) ((IntKind.i64.wrap (p1 - 1)))))
@[go_sem] theorem impl_Decoder_value_ok (n : Nat) (q0_0 : List Int) (q0_1 : Int) (q0_2 : Int) (q0_3 : Int) (R0 : List D) (q1_0 : Int) : lev tab (n + 1) 50 [.ptr (.sh .lent 1 (rowE (eI .u8) q0_0) :: .int .i64 q0_1 :: .int .i64 q0_2 :: .int .i64 q0_3 :: R0), .int .i64 q1_0] = (impl_Decoder_value (SDecoder.mk q0_0 q0_1 q0_2 q0_3) q1_0).map fun r => (.int .i64 r, [.gone, .gone]) := by
  rw [lev_st (vc := c50) (nt := 19) (rs := [(4, none)]) rfl rfl (Nat.le_of_ble_eq_true rfl)]
  unfold c50
  simp +contextual -implicitDefEqProofs (maxSteps := 100000000) only [impl_Decoder_value, subI, go_sem, ↓ite_not', Nat.reduceEqDiff, Nat.reduceLT, Nat.reduceLeDiff, ↓reduceIte, Nat.reduceAdd, Nat.reduceMul, Nat.reduceSub, Int.reduceEq, Int.reduceLT, Int.reduceLE, Int.reduceToNat, Int.cast_ofNat_Int, Nat.reduceBEq] <;> rfl
-- (*impl.Decoder).take
def impl_Decoder_take_o_u1 (a6 : List Int) (a7 : Int) (a8 : Int) (a9 : Int) : Option ((List Int) × Int × Int) :=
  (impl_Decoder_next_o ((SDecoder.mk a6 a7 a8 a9))).bind fun r10 =>
  some ((r10.2.1, r10.2.2, (IntKind.i64.wrap ((IntKind.i64.wrap (a8 * 256)) + r10.1))))
def impl_Decoder_take_o_s2 : ((List Int) × Int × Int × Int) → Option (((List Int) × Int × Int × Int) ⊕ ((List Int) × Int × Int × Int)) := fun ⟨a2, a3, a4, a5⟩ =>
  if (decide (a5 < 65536)) = true then (impl_Decoder_take_o_u1 a2 a3 a4 a5).bind fun y11 =>
    some ((.inl ((y11.1, y11.2.1, y11.2.2, (IntKind.i64.wrap (a5 * 256))))))
  else some ((.inr ((a2, a3, a4, a5))))
def impl_Decoder_take_o (p0 : SDecoder) (p1 : SSlot) : Option ((List Int) × Int × Int × Int) :=
  (impl_narrowed p0.Range p1).bind fun r1 =>
  (loopO impl_Decoder_take_o_s2 ((p0.Data, p0.At, (IntKind.i64.wrap (p0.Rest - r1.1)), r1.2))).bind fun y12 =>
  some ((y12.1, y12.2.1, y12.2.2.1, y12.2.2.2))
@[go_sem] theorem impl_Decoder_take_o_u1_ok {β : Type} (n : Nat) (K : List (Kont β)) (a6 : List Int) (a7 : Int) (a8 : Int) (a9 : Int) : run ⟨tab.own, lev tab (n + 1), tab.gl⟩ K c52_u1 ⟨[(0, .pt 1000000000 0)], [(290000000, .row true 1 (rowE (eI .u8) a6)), (1000000000, .var true [.sl 290000000 0 a6.length, .val (.int .i64 a7), .val (.int .i64 a8), .val (.int .i64 a9)])], 52⟩ = (impl_Decoder_take_o_u1 a6 a7 a8 a9).bind (fun t => plug ⟨tab.own, lev tab (n + 1), tab.gl⟩ K .normal ⟨[(0, .pt 1000000000 0)], [(290000000, .row true 1 (rowE (eI .u8) t.1)), (1000000000, .var true [.sl 290000000 0 t.1.length, .val (.int .i64 t.2.1), .val (.int .i64 t.2.2), .val (.int .i64 ((IntKind.i64.wrap (a9 * 256))))])], 52⟩) := by
  unfold c52_u1
  rw [run_alts]
  · simp +contextual -implicitDefEqProofs (maxSteps := 100000000) only [impl_Decoder_take_o_u1, subI, go_sem, ↓ite_not', Nat.reduceEqDiff, Nat.reduceLT, Nat.reduceLeDiff, ↓reduceIte, Nat.reduceAdd, Nat.reduceMul, Nat.reduceSub, Int.reduceEq, Int.reduceLT, Int.reduceLE, Int.reduceToNat, Int.cast_ofNat_Int, Nat.reduceBEq] <;> (repeat first | rfl | refine bind_ext fun _ _ => ?_ | refine bind_swap fun _ _ _ _ => ?_)
  · refine ⟨?_, ?_, ?_, ?_, trivial⟩
    · simp +contextual -implicitDefEqProofs (maxSteps := 100000000) only [impl_Decoder_take_o_u1, subI, go_sem, ↓ite_not', Nat.reduceEqDiff, Nat.reduceLT, Nat.reduceLeDiff, ↓reduceIte, Nat.reduceAdd, Nat.reduceMul, Nat.reduceSub, Int.reduceEq, Int.reduceLT, Int.reduceLE, Int.reduceToNat, Int.cast_ofNat_Int, Nat.reduceBEq] <;> (repeat first | rfl | refine bind_ext fun _ _ => ?_ | refine bind_swap fun _ _ _ _ => ?_)
    · simp +contextual -implicitDefEqProofs (maxSteps := 100000000) only [impl_Decoder_take_o_u1, subI, go_sem, ↓ite_not', Nat.reduceEqDiff, Nat.reduceLT, Nat.reduceLeDiff, ↓reduceIte, Nat.reduceAdd, Nat.reduceMul, Nat.reduceSub, Int.reduceEq, Int.reduceLT, Int.reduceLE, Int.reduceToNat, Int.cast_ofNat_Int, Nat.reduceBEq] <;> (repeat first | rfl | refine bind_ext fun _ _ => ?_ | refine bind_swap fun _ _ _ _ => ?_)
    · simp +contextual -implicitDefEqProofs (maxSteps := 100000000) only [impl_Decoder_take_o_u1, subI, go_sem, ↓ite_not', Nat.reduceEqDiff, Nat.reduceLT, Nat.reduceLeDiff, ↓reduceIte, Nat.reduceAdd, Nat.reduceMul, Nat.reduceSub, Int.reduceEq, Int.reduceLT, Int.reduceLE, Int.reduceToNat, Int.cast_ofNat_Int, Nat.reduceBEq] <;> (repeat first | rfl | refine bind_ext fun _ _ => ?_ | refine bind_swap fun _ _ _ _ => ?_)
    · simp +contextual -implicitDefEqProofs (maxSteps := 100000000) only [impl_Decoder_take_o_u1, subI, go_sem, ↓ite_not', Nat.reduceEqDiff, Nat.reduceLT, Nat.reduceLeDiff, ↓reduceIte, Nat.reduceAdd, Nat.reduceMul, Nat.reduceSub, Int.reduceEq, Int.reduceLT, Int.reduceLE, Int.reduceToNat, Int.cast_ofNat_Int, Nat.reduceBEq] <;> (repeat first | rfl | refine bind_ext fun _ _ => ?_ | refine bind_swap fun _ _ _ _ => ?_)
@[go_sem] theorem impl_Decoder_take_o_s2_ok {β : Type} (n : Nat) (K : List (Kont β)) (a2 : List Int) (a3 : Int) (a4 : Int) (a5 : Int) : run ⟨tab.own, lev tab (n + 1), tab.gl⟩ K (.loop c52_u2) ⟨[(0, .pt 1000000000 0)], [(290000000, .row true 1 (rowE (eI .u8) a2)), (1000000000, .var true [.sl 290000000 0 a2.length, .val (.int .i64 a3), .val (.int .i64 a4), .val (.int .i64 a5)])], 52⟩ = (loopO impl_Decoder_take_o_s2 ((a2, a3, a4, a5))).bind (fun t => plug ⟨tab.own, lev tab (n + 1), tab.gl⟩ K (.exit 0) ⟨[], [(290000000, .row true 1 (rowE (eI .u8) t.1)), (1000000000, .var true [.sl 290000000 0 t.1.length, .val (.int .i64 t.2.1), .val (.int .i64 t.2.2.1), .val (.int .i64 t.2.2.2)])], 52⟩) := by
  refine loop_run (C := ⟨tab.own, lev tab (n + 1), tab.gl⟩) (K := K) (c := c52_u2) (impl_Decoder_take_o_s2) (fun s => ⟨[(0, .pt 1000000000 0)], [(290000000, .row true 1 (rowE (eI .u8) s.1)), (1000000000, .var true [.sl 290000000 0 s.1.length, .val (.int .i64 s.2.1), .val (.int .i64 s.2.2.1), .val (.int .i64 s.2.2.2)])], 52⟩) (fun t => plug ⟨tab.own, lev tab (n + 1), tab.gl⟩ K (.exit 0) ⟨[], [(290000000, .row true 1 (rowE (eI .u8) t.1)), (1000000000, .var true [.sl 290000000 0 t.1.length, .val (.int .i64 t.2.1), .val (.int .i64 t.2.2.1), .val (.int .i64 t.2.2.2)])], 52⟩) (fun k s => ?_) ((a2, a3, a4, a5))
  obtain ⟨a2, a3, a4, a5⟩ := s
  unfold c52_u2
  simp +contextual -implicitDefEqProofs (maxSteps := 100000000) only [impl_Decoder_take_o_s2, subI, go_sem, ↓ite_not', Nat.reduceEqDiff, Nat.reduceLT, Nat.reduceLeDiff, ↓reduceIte, Nat.reduceAdd, Nat.reduceMul, Nat.reduceSub, Int.reduceEq, Int.reduceLT, Int.reduceLE, Int.reduceToNat, Int.cast_ofNat_Int, Nat.reduceBEq] <;> rfl
@[go_sem] theorem impl_Decoder_take_o_ok (n : Nat) (q0_0 : List Int) (q0_1 : Int) (q0_2 : Int) (q0_3 : Int) (q1_0 : Int) (q1_1 : Int) (q1_2 : Int) : lev tab (n + 2) 52 [.op 0 [.ow 1 (rowE (eI .u8) q0_0), .int .i64 q0_1, .int .i64 q0_2, .int .i64 q0_3], .agg [.int .i64 q1_0, .int .i64 q1_1, .int .i64 q1_2]] = (impl_Decoder_take_o (SDecoder.mk q0_0 q0_1 q0_2 q0_3) (SSlot.mk q1_0 q1_1 q1_2)).map fun r => (.tup [], [.op 0 [.ow 1 (rowE (eI .u8) r.1), .int .i64 r.2.1, .int .i64 r.2.2.1, .int .i64 r.2.2.2], .gone]) := by
  rw [lev_st (vc := c52) (nt := 52) (rs := []) rfl rfl (Nat.le_of_ble_eq_true rfl)]
  unfold c52
  simp +contextual -implicitDefEqProofs (maxSteps := 100000000) only [impl_Decoder_take_o, subI, go_sem, ↓ite_not', Nat.reduceEqDiff, Nat.reduceLT, Nat.reduceLeDiff, ↓reduceIte, Nat.reduceAdd, Nat.reduceMul, Nat.reduceSub, Int.reduceEq, Int.reduceLT, Int.reduceLE, Int.reduceToNat, Int.cast_ofNat_Int, Nat.reduceBEq] <;> rfl
-- (*impl.Decoder).class
def impl_Decoder_class_o_s1 (a16 : List Int) (a17 : Int) (a18 : Int) (a19 : Int) (a20 : Int) : (Int × Int × Int × Int) → Option ((Int × Int × Int × Int) ⊕ (Int)) := fun ⟨a13, a14, a15, a21⟩ =>
  if (decide (a20 ≥ (IntKind.i64.wrap (a13 + a14)))) = true then (impl_classSlot ((IntKind.i64.wrap (a21 + 1)))).bind fun r22 =>
    some ((.inl ((r22.Low, r22.Size, r22.Total, (IntKind.i64.wrap (a21 + 1))))))
  else some ((.inr a21))
def impl_Decoder_class_o (p0 : SDecoder) : Option (Int × (List Int) × Int × Int × Int) :=
  (impl_Decoder_value p0 256).bind fun r1 =>
  (impl_classSlot 0).bind fun r2 =>
  (loopO (impl_Decoder_class_o_s1 p0.Data p0.At p0.Rest p0.Range r1) ((r2.Low, r2.Size, r2.Total, 0))).bind fun y23 =>
  (impl_classSlot y23).bind fun r24 =>
  (impl_Decoder_take_o p0 r24).bind fun r25 =>
  some ((y23, r25.1, r25.2.1, r25.2.2.1, r25.2.2.2))
@[go_sem] theorem impl_Decoder_class_o_s1_ok {β : Type} (n : Nat) (K : List (Kont β)) (a13 : Int) (a14 : Int) (a15 : Int) (a16 : List Int) (a17 : Int) (a18 : Int) (a19 : Int) (a20 : Int) (a21 : Int) : run ⟨tab.own, lev tab (n + 2), tab.gl⟩ K (.loop c63_u1) ⟨[(0, .pt 1000000000 0), (3, .val (.int .i64 a20)), (4, .val (.int .i64 a21)), (5, .pt 200000050 0)], [(200000050, .var false [.val (.int .i64 a13), .val (.int .i64 a14), .val (.int .i64 a15)]), (290000000, .row true 1 (rowE (eI .u8) a16)), (1000000000, .var true [.sl 290000000 0 a16.length, .val (.int .i64 a17), .val (.int .i64 a18), .val (.int .i64 a19)])], 27⟩ = (loopO (impl_Decoder_class_o_s1 a16 a17 a18 a19 a20) ((a13, a14, a15, a21))).bind (fun t => plug ⟨tab.own, lev tab (n + 2), tab.gl⟩ K (.exit 0) ⟨[(0, .pt 1000000000 0), (4, .val (.int .i64 t))], [(290000000, .row true 1 (rowE (eI .u8) a16)), (1000000000, .var true [.sl 290000000 0 a16.length, .val (.int .i64 a17), .val (.int .i64 a18), .val (.int .i64 a19)])], 27⟩) := by
  refine loop_run (C := ⟨tab.own, lev tab (n + 2), tab.gl⟩) (K := K) (c := c63_u1) (impl_Decoder_class_o_s1 a16 a17 a18 a19 a20) (fun s => ⟨[(0, .pt 1000000000 0), (3, .val (.int .i64 a20)), (4, .val (.int .i64 s.2.2.2)), (5, .pt 200000050 0)], [(200000050, .var false [.val (.int .i64 s.1), .val (.int .i64 s.2.1), .val (.int .i64 s.2.2.1)]), (290000000, .row true 1 (rowE (eI .u8) a16)), (1000000000, .var true [.sl 290000000 0 a16.length, .val (.int .i64 a17), .val (.int .i64 a18), .val (.int .i64 a19)])], 27⟩) (fun t => plug ⟨tab.own, lev tab (n + 2), tab.gl⟩ K (.exit 0) ⟨[(0, .pt 1000000000 0), (4, .val (.int .i64 t))], [(290000000, .row true 1 (rowE (eI .u8) a16)), (1000000000, .var true [.sl 290000000 0 a16.length, .val (.int .i64 a17), .val (.int .i64 a18), .val (.int .i64 a19)])], 27⟩) (fun k s => ?_) ((a13, a14, a15, a21))
  obtain ⟨a13, a14, a15, a21⟩ := s
  unfold c63_u1
  simp +contextual -implicitDefEqProofs (maxSteps := 100000000) only [impl_Decoder_class_o_s1, subI, go_sem, ↓ite_not', Nat.reduceEqDiff, Nat.reduceLT, Nat.reduceLeDiff, ↓reduceIte, Nat.reduceAdd, Nat.reduceMul, Nat.reduceSub, Int.reduceEq, Int.reduceLT, Int.reduceLE, Int.reduceToNat, Int.cast_ofNat_Int, Nat.reduceBEq] <;> rfl
@[go_sem] theorem impl_Decoder_class_o_ok (n : Nat) (q0_0 : List Int) (q0_1 : Int) (q0_2 : Int) (q0_3 : Int) : lev tab (n + 3) 63 [.op 0 [.ow 1 (rowE (eI .u8) q0_0), .int .i64 q0_1, .int .i64 q0_2, .int .i64 q0_3]] = (impl_Decoder_class_o (SDecoder.mk q0_0 q0_1 q0_2 q0_3)).map fun r => (.int .i64 r.1, [.op 0 [.ow 1 (rowE (eI .u8) r.2.1), .int .i64 r.2.2.1, .int .i64 r.2.2.2.1, .int .i64 r.2.2.2.2]]) := by
  rw [lev_st (vc := c63) (nt := 27) (rs := [(2, none)]) rfl rfl (Nat.le_of_ble_eq_true rfl)]
  unfold c63
  simp +contextual -implicitDefEqProofs (maxSteps := 100000000) only [impl_Decoder_class_o, subI, go_sem, ↓ite_not', Nat.reduceEqDiff, Nat.reduceLT, Nat.reduceLeDiff, ↓reduceIte, Nat.reduceAdd, Nat.reduceMul, Nat.reduceSub, Int.reduceEq, Int.reduceLT, Int.reduceLE, Int.reduceToNat, Int.cast_ofNat_Int, Nat.reduceBEq] <;> rfl
-- (*impl.Decoder).number
def impl_Decoder_number_o_s1 (a13 : List Int) (a19 : Int) : ((List Int) × Int × Int × Int × Int × Int) → Option (((List Int) × Int × Int × Int × Int × Int) ⊕ ((List Int) × Int × Int × Int × Int)) := fun ⟨a14, a15, a16, a17, a18, a20⟩ =>
  if (decide (a20 < a19)) = true then (getI a13 a20).bind fun _ =>
    (a13[a20.toNat]?).bind fun x21 =>
    if x21 < 0 then none
    else (impl_Decoder_value ((SDecoder.mk a14 a15 a16 a17)) ((IntKind.i64.wrap (1 * 2 ^ (min x21.toNat 64))))).bind fun r22 =>
      if x21 < 0 then none
      else (impl_Decoder_take_o ((SDecoder.mk a14 a15 a16 a17)) ((SSlot.mk r22 1 ((IntKind.i64.wrap (1 * 2 ^ (min x21.toNat 64))))))).bind fun r23 =>
        if x21 < 0 then none
        else some ((.inl ((r23.1, r23.2.1, r23.2.2.1, r23.2.2.2, (IntKind.i64.wrap ((BitVec.ofInt 64 ((IntKind.i64.wrap (a18 * 2 ^ (min x21.toNat 64)))) ||| BitVec.ofInt 64 r22).toNat)), (IntKind.i64.wrap (a20 + 1))))))
  else some ((.inr ((a14, a15, a16, a17, a18))))
def impl_Decoder_number_o (p0 : SDecoder) : Option (Int × (List Int) × Int × Int × Int) :=
  (impl_Decoder_class_o p0).bind fun r1 =>
  if (r1.1 == 0) = true then some ((0, r1.2.1, r1.2.2.1, r1.2.2.2.1, r1.2.2.2.2))
  else (loopO (impl_Decoder_number_o_s1 ((impl_pieces r1.1)) ((((impl_pieces r1.1)).length : Int))) ((r1.2.1, r1.2.2.1, r1.2.2.2.1, r1.2.2.2.2, 1, 0))).bind fun y24 =>
    some ((y24.2.2.2.2, y24.1, y24.2.1, y24.2.2.1, y24.2.2.2.1))
@[go_sem] theorem impl_Decoder_number_o_s1_ok {β : Type} (n : Nat) (K : List (Kont β)) (a13 : List Int) (a14 : List Int) (a15 : Int) (a16 : Int) (a17 : Int) (a18 : Int) (a19 : Int) (a20 : Int) : run ⟨tab.own, lev tab (n + 3), tab.gl⟩ K (.loop c36_u1) ⟨[(0, .pt 1000000000 0), (4, .val (.int .i64 a18)), (13, .sl 200000130 0 a13.length), (14, .val (.int .i64 a19)), (15, .val (.int .i64 a20))], [(200000130, .row false 1 (rowE (eI .i64) a13)), (290000000, .row true 1 (rowE (eI .u8) a14)), (1000000000, .var true [.sl 290000000 0 a14.length, .val (.int .i64 a15), .val (.int .i64 a16), .val (.int .i64 a17)])], 36⟩ = (loopO (impl_Decoder_number_o_s1 a13 a19) ((a14, a15, a16, a17, a18, a20))).bind (fun t => plug ⟨tab.own, lev tab (n + 3), tab.gl⟩ K (.exit 0) ⟨[(4, .val (.int .i64 t.2.2.2.2))], [(290000000, .row true 1 (rowE (eI .u8) t.1)), (1000000000, .var true [.sl 290000000 0 t.1.length, .val (.int .i64 t.2.1), .val (.int .i64 t.2.2.1), .val (.int .i64 t.2.2.2.1)])], 36⟩) := by
  refine loop_run (C := ⟨tab.own, lev tab (n + 3), tab.gl⟩) (K := K) (c := c36_u1) (impl_Decoder_number_o_s1 a13 a19) (fun s => ⟨[(0, .pt 1000000000 0), (4, .val (.int .i64 s.2.2.2.2.1)), (13, .sl 200000130 0 a13.length), (14, .val (.int .i64 a19)), (15, .val (.int .i64 s.2.2.2.2.2))], [(200000130, .row false 1 (rowE (eI .i64) a13)), (290000000, .row true 1 (rowE (eI .u8) s.1)), (1000000000, .var true [.sl 290000000 0 s.1.length, .val (.int .i64 s.2.1), .val (.int .i64 s.2.2.1), .val (.int .i64 s.2.2.2.1)])], 36⟩) (fun t => plug ⟨tab.own, lev tab (n + 3), tab.gl⟩ K (.exit 0) ⟨[(4, .val (.int .i64 t.2.2.2.2))], [(290000000, .row true 1 (rowE (eI .u8) t.1)), (1000000000, .var true [.sl 290000000 0 t.1.length, .val (.int .i64 t.2.1), .val (.int .i64 t.2.2.1), .val (.int .i64 t.2.2.2.1)])], 36⟩) (fun k s => ?_) ((a14, a15, a16, a17, a18, a20))
  obtain ⟨a14, a15, a16, a17, a18, a20⟩ := s
  unfold c36_u1
  simp +contextual -implicitDefEqProofs (maxSteps := 100000000) only [impl_Decoder_number_o_s1, subI, go_sem, ↓ite_not', Nat.reduceEqDiff, Nat.reduceLT, Nat.reduceLeDiff, ↓reduceIte, Nat.reduceAdd, Nat.reduceMul, Nat.reduceSub, Int.reduceEq, Int.reduceLT, Int.reduceLE, Int.reduceToNat, Int.cast_ofNat_Int, Nat.reduceBEq] <;> rfl
@[go_sem] theorem impl_Decoder_number_o_ok (n : Nat) (q0_0 : List Int) (q0_1 : Int) (q0_2 : Int) (q0_3 : Int) : lev tab (n + 4) 36 [.op 0 [.ow 1 (rowE (eI .u8) q0_0), .int .i64 q0_1, .int .i64 q0_2, .int .i64 q0_3]] = (impl_Decoder_number_o (SDecoder.mk q0_0 q0_1 q0_2 q0_3)).map fun r => (.int .i64 r.1, [.op 0 [.ow 1 (rowE (eI .u8) r.2.1), .int .i64 r.2.2.1, .int .i64 r.2.2.2.1, .int .i64 r.2.2.2.2]]) := by
  rw [lev_st (vc := c36) (nt := 36) (rs := [(2, none)]) rfl rfl (Nat.le_of_ble_eq_true rfl)]
  unfold c36
  simp +contextual -implicitDefEqProofs (maxSteps := 100000000) only [impl_Decoder_number_o, subI, go_sem, ↓ite_not', Nat.reduceEqDiff, Nat.reduceLT, Nat.reduceLeDiff, ↓reduceIte, Nat.reduceAdd, Nat.reduceMul, Nat.reduceSub, Int.reduceEq, Int.reduceLT, Int.reduceLE, Int.reduceToNat, Int.cast_ofNat_Int, Nat.reduceBEq] <;> rfl
-- impl.unzigOf
def impl_unzigOf (p0 : Int) : Int :=
  if ((p0.tmod (2 : Int)) == 1) = true then (IntKind.i64.wrap (((IntKind.i64.wrap (0 - (IntKind.i64.wrap (p0 + 1))))).tdiv (2 : Int)))
  else (IntKind.i64.wrap (p0.tdiv (2 : Int)))
@[go_sem] theorem impl_unzigOf_ok (n : Nat) (q0_0 : Int) : lev tab (n + 1) 35 [.int .i64 q0_0] = (some (impl_unzigOf q0_0)).map fun r => (.int .i64 r, [.gone]) := by
  rw [lev_st (vc := c35) (nt := 12) (rs := [(2, none)]) rfl rfl (Nat.le_of_ble_eq_true rfl)]
  unfold c35
  simp +contextual -implicitDefEqProofs (maxSteps := 100000000) only [impl_unzigOf, subI, go_sem, ↓ite_not', Nat.reduceEqDiff, Nat.reduceLT, Nat.reduceLeDiff, ↓reduceIte, Nat.reduceAdd, Nat.reduceMul, Nat.reduceSub, Int.reduceEq, Int.reduceLT, Int.reduceLE, Int.reduceToNat, Int.cast_ofNat_Int, Nat.reduceBEq] <;> rfl
-- bytes.Equal
def bytes_Equal (p0 : List Int) (p1 : List Int) : Option (Bool) :=
  (bytesI p0).bind fun x1 =>
  (bytesI p1).bind fun x2 =>
  some ((x1 == x2))
@[go_sem] theorem bytes_Equal_ok (n : Nat) (q0_0 : List Int) (q1_0 : List Int) : lev tab (n + 1) 37 [.sh .lent 1 (rowE (eI .u8) q0_0), .sh .lent 1 (rowE (eI .u8) q1_0)] = (bytes_Equal q0_0 q1_0).map fun r => (.bool r, [.gone, .gone]) := by
  rw [lev_st (vc := c37) (nt := 10) (rs := [(4, none)]) rfl rfl (Nat.le_of_ble_eq_true rfl)]
  unfold c37
  simp +contextual -implicitDefEqProofs (maxSteps := 100000000) only [bytes_Equal, subI, go_sem, ↓ite_not', Nat.reduceEqDiff, Nat.reduceLT, Nat.reduceLeDiff, ↓reduceIte, Nat.reduceAdd, Nat.reduceMul, Nat.reduceSub, Int.reduceEq, Int.reduceLT, Int.reduceLE, Int.reduceToNat, Int.cast_ofNat_Int, Nat.reduceBEq] <;> rfl
-- slices.Clone[[]int64,int64]
def slices_Clone_int64 (p0 : List Int) : Option ((List Int)) :=
  if (okApp 8 p0.length) = true then some p0
  else none
@[go_sem] theorem slices_Clone_int64_ok (n : Nat) (q0_0 : List Int) : lev tab (n + 1) 38 [.sh .lent 1 (rowE (eI .i64) q0_0)] = (slices_Clone_int64 q0_0).map fun r => (.ow 1 (rowE (eI .i64) r), [.gone]) := by
  cases q0_0 with
  | nil =>
    rw [lev_st (vc := c38) (nt := 8) (rs := [(2, none)]) rfl rfl (Nat.le_of_ble_eq_true rfl)]
    unfold c38
    simp +contextual -implicitDefEqProofs (maxSteps := 100000000) only [slices_Clone_int64, rowE_nil, List.length_nil, subI, go_sem, ↓ite_not', Nat.reduceEqDiff, Nat.reduceLT, Nat.reduceLeDiff, ↓reduceIte, Nat.reduceAdd, Nat.reduceMul, Nat.reduceSub, Int.reduceEq, Int.reduceLT, Int.reduceLE, Int.reduceToNat, Int.cast_ofNat_Int, Nat.reduceBEq] <;> rfl
  | cons y ys =>
    rw [lev_st (vc := c38) (nt := 8) (rs := [(2, none)]) rfl rfl (Nat.le_of_ble_eq_true rfl)]
    unfold c38
    simp +contextual -implicitDefEqProofs (maxSteps := 100000000) only [slices_Clone_int64, subI, go_sem, ↓ite_not', Nat.reduceEqDiff, Nat.reduceLT, Nat.reduceLeDiff, ↓reduceIte, Nat.reduceAdd, Nat.reduceMul, Nat.reduceSub, Int.reduceEq, Int.reduceLT, Int.reduceLE, Int.reduceToNat, Int.cast_ofNat_Int, Nat.reduceBEq] <;> rfl
-- impl.DecodeValues
def impl_DecodeValues_s1 (a18 : List Int) (a19 : Int) : (Int × Int × Int × (List Int) × (List Int) × Int) → Option ((Int × Int × Int × (List Int) × (List Int) × Int) ⊕ ((List Int))) := fun ⟨a13, a14, a15, a16, a17, a20⟩ =>
  if (decide (a20 < a19)) = true then (impl_Decoder_number_o ((SDecoder.mk a16 a13 a14 a15))).bind fun r21 =>
    if (okApp 8 ((a17 ++ ([(impl_unzigOf r21.1)]))).length) = true then some ((.inl ((r21.2.2.1, r21.2.2.2.1, r21.2.2.2.2, r21.2.1, (a17 ++ ([(impl_unzigOf r21.1)])), (IntKind.i64.wrap (a20 + 1))))))
    else none
  else some ((.inr a17))
def impl_DecodeValues_u2 (a24 : List Int) (a25 : Int) (a26 : List Int) (a27 : List Int) : Option (Bool) :=
  if (a25 != 0) = true then some true
  else (bytes_Equal a26 a27).bind fun r28 =>
    some ((!r28))
def impl_DecodeValues (p0 : List Int) (p1 : Int) : Option (SIntsResult) :=
  (impl_first ([(impl_codeIf ((decide ((p0.length : Int) > 600))) 2), (impl_codeIf ((!(impl_inRange p1 0 64))) 3)])).bind fun r1 =>
  if (r1 != 0) = true then some ((SIntsResult.mk r1 ([])))
  else (impl_start p0).bind fun r2 =>
    (loopO (impl_DecodeValues_s1 p0 p1) ((r2.At, r2.Rest, r2.Range, r2.Data, [], 0))).bind fun y22 =>
    (impl_EncodeValues y22).bind fun r23 =>
    (impl_DecodeValues_u2 y22 r23.Code r23.Bytes p0).bind fun y29 =>
    if y29 = true then some ((SIntsResult.mk 5 ([])))
    else (slices_Clone_int64 y22).bind fun r30 =>
      some ((SIntsResult.mk 0 r30))
@[go_sem] theorem impl_DecodeValues_s1_ok {β : Type} (n : Nat) (K : List (Kont β)) (a13 : Int) (a14 : Int) (a15 : Int) (a16 : List Int) (a17 : List Int) (a18 : List Int) (a19 : Int) (a20 : Int) : run ⟨tab.own, lev tab (n + 5), tab.gl⟩ K (.loop c8_u1) ⟨[(0, .val (.sh .lent 1 (rowE (eI .u8) a18))), (4, .pt 200000040 0), (6, .pt 200000060 0), (7, .sl 200000070 0 a17.length), (26, .val (.int .i64 a19)), (27, .val (.int .i64 a20))], [(200000040, .var false [.val (.int .i64 0), .emp 1]), (200000060, .var false [.sl 200000061 0 a16.length, .val (.int .i64 a13), .val (.int .i64 a14), .val (.int .i64 a15)]), (200000061, .row false 1 (rowE (eI .u8) a16)), (200000070, .row false 1 (rowE (eI .i64) a17))], 51⟩ = (loopO (impl_DecodeValues_s1 a18 a19) ((a13, a14, a15, a16, a17, a20))).bind (fun t => plug ⟨tab.own, lev tab (n + 5), tab.gl⟩ K (.exit 0) ⟨[(0, .val (.sh .lent 1 (rowE (eI .u8) a18))), (4, .pt 200000040 0), (7, .sl 200000070 0 t.length)], [(200000040, .var false [.val (.int .i64 0), .emp 1]), (200000070, .row false 1 (rowE (eI .i64) t))], 51⟩) := by
  refine loop_run (C := ⟨tab.own, lev tab (n + 5), tab.gl⟩) (K := K) (c := c8_u1) (impl_DecodeValues_s1 a18 a19) (fun s => ⟨[(0, .val (.sh .lent 1 (rowE (eI .u8) a18))), (4, .pt 200000040 0), (6, .pt 200000060 0), (7, .sl 200000070 0 s.2.2.2.2.1.length), (26, .val (.int .i64 a19)), (27, .val (.int .i64 s.2.2.2.2.2))], [(200000040, .var false [.val (.int .i64 0), .emp 1]), (200000060, .var false [.sl 200000061 0 s.2.2.2.1.length, .val (.int .i64 s.1), .val (.int .i64 s.2.1), .val (.int .i64 s.2.2.1)]), (200000061, .row false 1 (rowE (eI .u8) s.2.2.2.1)), (200000070, .row false 1 (rowE (eI .i64) s.2.2.2.2.1))], 51⟩) (fun t => plug ⟨tab.own, lev tab (n + 5), tab.gl⟩ K (.exit 0) ⟨[(0, .val (.sh .lent 1 (rowE (eI .u8) a18))), (4, .pt 200000040 0), (7, .sl 200000070 0 t.length)], [(200000040, .var false [.val (.int .i64 0), .emp 1]), (200000070, .row false 1 (rowE (eI .i64) t))], 51⟩) (fun k s => ?_) ((a13, a14, a15, a16, a17, a20))
  obtain ⟨a13, a14, a15, a16, a17, a20⟩ := s
  unfold c8_u1
  simp +contextual -implicitDefEqProofs (maxSteps := 100000000) only [impl_DecodeValues_s1, subI, go_sem, ↓ite_not', Nat.reduceEqDiff, Nat.reduceLT, Nat.reduceLeDiff, ↓reduceIte, Nat.reduceAdd, Nat.reduceMul, Nat.reduceSub, Int.reduceEq, Int.reduceLT, Int.reduceLE, Int.reduceToNat, Int.cast_ofNat_Int, Nat.reduceBEq] <;> rfl
@[go_sem] theorem impl_DecodeValues_s1_ok_e {β : Type} (n : Nat) (K : List (Kont β)) (a13 : Int) (a14 : Int) (a15 : Int) (a16 : List Int) (a18 : List Int) (a19 : Int) (a20 : Int) : run ⟨tab.own, lev tab (n + 5), tab.gl⟩ K (.loop c8_u1) ⟨[(0, .val (.sh .lent 1 (rowE (eI .u8) a18))), (4, .pt 200000040 0), (6, .pt 200000060 0), (7, .sl 200000070 0 0), (26, .val (.int .i64 a19)), (27, .val (.int .i64 a20))], [(200000040, .var false [.val (.int .i64 0), .emp 1]), (200000060, .var false [.sl 200000061 0 a16.length, .val (.int .i64 a13), .val (.int .i64 a14), .val (.int .i64 a15)]), (200000061, .row false 1 (rowE (eI .u8) a16)), (200000070, .row false 1 [])], 51⟩ = (loopO (impl_DecodeValues_s1 a18 a19) ((a13, a14, a15, a16, [], a20))).bind (fun t => plug ⟨tab.own, lev tab (n + 5), tab.gl⟩ K (.exit 0) ⟨[(0, .val (.sh .lent 1 (rowE (eI .u8) a18))), (4, .pt 200000040 0), (7, .sl 200000070 0 t.length)], [(200000040, .var false [.val (.int .i64 0), .emp 1]), (200000070, .row false 1 (rowE (eI .i64) t))], 51⟩) := impl_DecodeValues_s1_ok n K a13 a14 a15 a16 [] a18 a19 a20
@[go_sem] theorem impl_DecodeValues_u2_ok {β : Type} (n : Nat) (K : List (Kont β)) (a24 : List Int) (a25 : Int) (a26 : List Int) (a27 : List Int) : run ⟨tab.own, lev tab (n + 5), tab.gl⟩ K c8_u2 ⟨[(0, .val (.sh .lent 1 (rowE (eI .u8) a27))), (4, .pt 200000040 0), (7, .sl 200000070 0 a24.length), (8, .pt 200000080 0)], [(200000040, .var false [.val (.int .i64 0), .emp 1]), (200000070, .row false 1 (rowE (eI .i64) a24)), (200000080, .var false [.val (.int .i64 a25), .sl 200000081 0 a26.length]), (200000081, .row false 1 (rowE (eI .u8) a26))], 51⟩ = (impl_DecodeValues_u2 a24 a25 a26 a27).bind (fun t => plug ⟨tab.own, lev tab (n + 5), tab.gl⟩ K .normal ⟨[(4, .pt 200000040 0), (7, .sl 200000070 0 a24.length), (46, .val (.bool t))], [(200000040, .var false [.val (.int .i64 0), .emp 1]), (200000070, .row false 1 (rowE (eI .i64) a24))], 51⟩) := by
  unfold c8_u2
  simp +contextual -implicitDefEqProofs (maxSteps := 100000000) only [impl_DecodeValues_u2, subI, go_sem, ↓ite_not', Nat.reduceEqDiff, Nat.reduceLT, Nat.reduceLeDiff, ↓reduceIte, Nat.reduceAdd, Nat.reduceMul, Nat.reduceSub, Int.reduceEq, Int.reduceLT, Int.reduceLE, Int.reduceToNat, Int.cast_ofNat_Int, Nat.reduceBEq] <;> rfl
@[go_sem] theorem impl_DecodeValues_ok (n : Nat) (q0_0 : List Int) (q1_0 : Int) : lev tab (n + 6) 8 [.sh .lent 1 (rowE (eI .u8) q0_0), .int .i64 q1_0] = (impl_DecodeValues q0_0 q1_0).map fun r => (.agg [.int .i64 r.Code, .ow 1 (rowE (eI .i64) r.List_)], [.gone, .gone]) := by
  rw [lev_st (vc := c8) (nt := 51) (rs := [(4, some (some 2))]) rfl rfl (Nat.le_of_ble_eq_true rfl)]
  unfold c8
  simp +contextual -implicitDefEqProofs (maxSteps := 100000000) only [impl_DecodeValues, subI, go_sem, ↓ite_not', Nat.reduceEqDiff, Nat.reduceLT, Nat.reduceLeDiff, ↓reduceIte, Nat.reduceAdd, Nat.reduceMul, Nat.reduceSub, Int.reduceEq, Int.reduceLT, Int.reduceLE, Int.reduceToNat, Int.cast_ofNat_Int, Nat.reduceBEq] <;> rfl
-- spec.l1In
def spec_l1In_u1 (a1 : Int) (a2 : Int) (a3 : Int) : Bool :=
  if (decide (a1 ≥ a2)) = true then (decide (a1 ≤ a3))
  else false
def spec_l1In (p0 : Int) (p1 : Int) (p2 : Int) : Bool :=
  let y4 := spec_l1In_u1 p0 p1 p2
  y4
@[go_sem] theorem spec_l1In_u1_ok {β : Type} (n : Nat) (K : List (Kont β)) (a1 : Int) (a2 : Int) (a3 : Int) : run ⟨tab.own, lev tab n, tab.gl⟩ K c29_u1 ⟨[(0, .val (.int .i64 a1)), (1, .val (.int .i64 a2)), (2, .val (.int .i64 a3))], [], 15⟩ = (some (spec_l1In_u1 a1 a2 a3)).bind (fun t => plug ⟨tab.own, lev tab n, tab.gl⟩ K .normal ⟨[(6, .val (.bool t))], [], 15⟩) := by
  unfold c29_u1
  simp +contextual -implicitDefEqProofs (maxSteps := 100000000) only [spec_l1In_u1, subI, go_sem, ↓ite_not', Nat.reduceEqDiff, Nat.reduceLT, Nat.reduceLeDiff, ↓reduceIte, Nat.reduceAdd, Nat.reduceMul, Nat.reduceSub, Int.reduceEq, Int.reduceLT, Int.reduceLE, Int.reduceToNat, Int.cast_ofNat_Int, Nat.reduceBEq] <;> rfl
@[go_sem] theorem spec_l1In_ok (n : Nat) (q0_0 : Int) (q1_0 : Int) (q2_0 : Int) : lev tab (n + 1) 29 [.int .i64 q0_0, .int .i64 q1_0, .int .i64 q2_0] = (some (spec_l1In q0_0 q1_0 q2_0)).map fun r => (.bool r, [.gone, .gone, .gone]) := by
  rw [lev_st (vc := c29) (nt := 15) (rs := [(6, none)]) rfl rfl (Nat.le_of_ble_eq_true rfl)]
  unfold c29
  simp +contextual -implicitDefEqProofs (maxSteps := 100000000) only [spec_l1In, subI, go_sem, ↓ite_not', Nat.reduceEqDiff, Nat.reduceLT, Nat.reduceLeDiff, ↓reduceIte, Nat.reduceAdd, Nat.reduceMul, Nat.reduceSub, Int.reduceEq, Int.reduceLT, Int.reduceLE, Int.reduceToNat, Int.cast_ofNat_Int, Nat.reduceBEq] <;> rfl
-- spec.l1All
def spec_l1All_s1 (a6 : List Int) (a7 : Int) (a8 : Int) : Int → Option ((Int) ⊕ (Unit ⊕ Unit)) := fun a9 =>
  if (decide (a9 < (a6.length : Int))) = true then (getI a6 a9).bind fun x10 =>
    if (spec_l1In x10 a7 a8) = true then some ((.inl ((IntKind.i64.wrap (a9 + 1)))))
    else some ((.inr ((.inr (())))))
  else some ((.inr ((.inl (())))))
def spec_l1All (p0 : List Int) (p1 : Int) (p2 : Int) : Option (Bool) :=
  (loopO (spec_l1All_s1 p0 p1 p2) 0).bind fun t => (Sum.elim (fun y11 => some true)
   (fun y12 => some false)) t
@[go_sem] theorem spec_l1All_s1_ok {β : Type} (n : Nat) (K : List (Kont β)) (a6 : List Int) (a7 : Int) (a8 : Int) (a9 : Int) : run ⟨tab.own, lev tab (n + 1), tab.gl⟩ K (.loop c59_u1) ⟨[(0, .val (.sh .lent 1 (rowE (eI .i64) a6))), (1, .val (.int .i64 a7)), (2, .val (.int .i64 a8)), (7, .val (.int .i64 a9))], [], 22⟩ = (loopO (spec_l1All_s1 a6 a7 a8) a9).bind (fun t => (Sum.elim (fun t => plug ⟨tab.own, lev tab (n + 1), tab.gl⟩ K (.exit 0) ⟨[], [], 22⟩) (fun t => plug ⟨tab.own, lev tab (n + 1), tab.gl⟩ K .ret ⟨[(6, .val (.bool false))], [], 22⟩)) t) := by
  refine loop_run (C := ⟨tab.own, lev tab (n + 1), tab.gl⟩) (K := K) (c := c59_u1) (spec_l1All_s1 a6 a7 a8) (fun s => ⟨[(0, .val (.sh .lent 1 (rowE (eI .i64) a6))), (1, .val (.int .i64 a7)), (2, .val (.int .i64 a8)), (7, .val (.int .i64 s))], [], 22⟩) (fun t => (Sum.elim (fun t => plug ⟨tab.own, lev tab (n + 1), tab.gl⟩ K (.exit 0) ⟨[], [], 22⟩) (fun t => plug ⟨tab.own, lev tab (n + 1), tab.gl⟩ K .ret ⟨[(6, .val (.bool false))], [], 22⟩)) t) (fun k s => ?_) a9
  unfold c59_u1
  simp +contextual -implicitDefEqProofs (maxSteps := 100000000) only [spec_l1All_s1, subI, go_sem, ↓ite_not', Nat.reduceEqDiff, Nat.reduceLT, Nat.reduceLeDiff, ↓reduceIte, Nat.reduceAdd, Nat.reduceMul, Nat.reduceSub, Int.reduceEq, Int.reduceLT, Int.reduceLE, Int.reduceToNat, Int.cast_ofNat_Int, Nat.reduceBEq] <;> rfl
@[go_sem] theorem spec_l1All_ok (n : Nat) (q0_0 : List Int) (q1_0 : Int) (q2_0 : Int) : lev tab (n + 2) 59 [.sh .lent 1 (rowE (eI .i64) q0_0), .int .i64 q1_0, .int .i64 q2_0] = (spec_l1All q0_0 q1_0 q2_0).map fun r => (.bool r, [.gone, .gone, .gone]) := by
  rw [lev_st (vc := c59) (nt := 22) (rs := [(6, none)]) rfl rfl (Nat.le_of_ble_eq_true rfl)]
  unfold c59
  simp +contextual -implicitDefEqProofs (maxSteps := 100000000) only [spec_l1All, subI, go_sem, ↓ite_not', Nat.reduceEqDiff, Nat.reduceLT, Nat.reduceLeDiff, ↓reduceIte, Nat.reduceAdd, Nat.reduceMul, Nat.reduceSub, Int.reduceEq, Int.reduceLT, Int.reduceLE, Int.reduceToNat, Int.cast_ofNat_Int, Nat.reduceBEq] <;> rfl
-- spec.EncodeValues
def spec_EncodeValues (p0 : List Int) : Option (SBytesResult) :=
  if (decide ((p0.length : Int) > 64)) = true then some ((SBytesResult.mk 2 ([])))
  else (spec_l1All p0 ((-65535)) 65535).bind fun r1 =>
    if r1 = true then (spec_l4Encode p0).bind fun r2 =>
      some ((SBytesResult.mk 0 r2))
    else some ((SBytesResult.mk 3 ([])))
@[go_sem] theorem spec_EncodeValues_ok (n : Nat) (q0_0 : List Int) : lev tab (n + 5) 26 [.sh .lent 1 (rowE (eI .i64) q0_0)] = (spec_EncodeValues q0_0).map fun r => (.agg [.int .i64 r.Code, .ow 1 (rowE (eI .u8) r.Bytes)], [.gone]) := by
  rw [lev_st (vc := c26) (nt := 14) (rs := [(2, some (some 2))]) rfl rfl (Nat.le_of_ble_eq_true rfl)]
  unfold c26
  simp +contextual -implicitDefEqProofs (maxSteps := 100000000) only [spec_EncodeValues, subI, go_sem, ↓ite_not', Nat.reduceEqDiff, Nat.reduceLT, Nat.reduceLeDiff, ↓reduceIte, Nat.reduceAdd, Nat.reduceMul, Nat.reduceSub, Int.reduceEq, Int.reduceLT, Int.reduceLE, Int.reduceToNat, Int.cast_ofNat_Int, Nat.reduceBEq] <;> rfl
-- spec.l3Byte
def spec_l3Byte (p0 : List Int) (p1 : Int) : Option (Int) :=
  if (decide (p1 < (p0.length : Int))) = true then (getI p0 p1).bind fun x1 =>
    some ((IntKind.i64.wrap x1))
  else some 0
@[go_sem] theorem spec_l3Byte_ok (n : Nat) (q0_0 : List Int) (q1_0 : Int) : lev tab (n + 1) 78 [.sh .lent 1 (rowE (eI .u8) q0_0), .int .i64 q1_0] = (spec_l3Byte q0_0 q1_0).map fun r => (.int .i64 r, [.gone, .gone]) := by
  rw [lev_st (vc := c78) (nt := 14) (rs := [(4, none)]) rfl rfl (Nat.le_of_ble_eq_true rfl)]
  unfold c78
  simp +contextual -implicitDefEqProofs (maxSteps := 100000000) only [spec_l3Byte, subI, go_sem, ↓ite_not', Nat.reduceEqDiff, Nat.reduceLT, Nat.reduceLeDiff, ↓reduceIte, Nat.reduceAdd, Nat.reduceMul, Nat.reduceSub, Int.reduceEq, Int.reduceLT, Int.reduceLE, Int.reduceToNat, Int.cast_ofNat_Int, Nat.reduceBEq] <;> rfl
-- spec.l3Start
def spec_l3Start (p0 : List Int) : Option (SDecoder) :=
  (spec_l3Byte p0 0).bind fun r1 =>
  (spec_l3Byte p0 1).bind fun r2 =>
  (spec_l3Byte p0 2).bind fun r3 =>
  (spec_l1Copy p0).bind fun r4 =>
  some ((SDecoder.mk r4 3 ((IntKind.i64.wrap ((IntKind.i64.wrap ((IntKind.i64.wrap (r1 * 65536)) + (IntKind.i64.wrap (r2 * 256)))) + r3))) 16777216))
@[go_sem] theorem spec_l3Start_ok (n : Nat) (q0_0 : List Int) : lev tab (n + 2) 60 [.sh .lent 1 (rowE (eI .u8) q0_0)] = (spec_l3Start q0_0).map fun r => (.agg [.ow 1 (rowE (eI .u8) r.Data), .int .i64 r.At, .int .i64 r.Rest, .int .i64 r.Range], [.gone]) := by
  rw [lev_st (vc := c60) (nt := 18) (rs := [(2, some (some 4))]) rfl rfl (Nat.le_of_ble_eq_true rfl)]
  unfold c60
  simp +contextual -implicitDefEqProofs (maxSteps := 100000000) only [spec_l3Start, subI, go_sem, ↓ite_not', Nat.reduceEqDiff, Nat.reduceLT, Nat.reduceLeDiff, ↓reduceIte, Nat.reduceAdd, Nat.reduceMul, Nat.reduceSub, Int.reduceEq, Int.reduceLT, Int.reduceLE, Int.reduceToNat, Int.cast_ofNat_Int, Nat.reduceBEq] <;> rfl
-- spec.l1Min
def spec_l1Min (p0 : Int) (p1 : Int) : Int :=
  if (decide (p0 < p1)) = true then p0
  else p1
@[go_sem] theorem spec_l1Min_ok (n : Nat) (q0_0 : Int) (q1_0 : Int) : lev tab (n + 1) 95 [.int .i64 q0_0, .int .i64 q1_0] = (some (spec_l1Min q0_0 q1_0)).map fun r => (.int .i64 r, [.gone, .gone]) := by
  rw [lev_st (vc := c95) (nt := 10) (rs := [(4, none)]) rfl rfl (Nat.le_of_ble_eq_true rfl)]
  unfold c95
  simp +contextual -implicitDefEqProofs (maxSteps := 100000000) only [spec_l1Min, subI, go_sem, ↓ite_not', Nat.reduceEqDiff, Nat.reduceLT, Nat.reduceLeDiff, ↓reduceIte, Nat.reduceAdd, Nat.reduceMul, Nat.reduceSub, Int.reduceEq, Int.reduceLT, Int.reduceLE, Int.reduceToNat, Int.cast_ofNat_Int, Nat.reduceBEq] <;> rfl
-- spec.l3Value
def spec_l3Value (p0 : SDecoder) (p1 : Int) : Option (Int) :=
  if p1 = 0 then none
  else if (IntKind.i64.wrap (p0.Range.tdiv p1)) = 0 then none
    else some ((spec_l1Min ((IntKind.i64.wrap (p0.Rest.tdiv ((IntKind.i64.wrap (p0.Range.tdiv p1)))))) ((IntKind.i64.wrap (p1 - 1)))))
@[go_sem] theorem spec_l3Value_ok (n : Nat) (q0_0 : List Int) (q0_1 : Int) (q0_2 : Int) (q0_3 : Int) (R0 : List D) (q1_0 : Int) : lev tab (n + 2) 80 [.ptr (.sh .lent 1 (rowE (eI .u8) q0_0) :: .int .i64 q0_1 :: .int .i64 q0_2 :: .int .i64 q0_3 :: R0), .int .i64 q1_0] = (spec_l3Value (SDecoder.mk q0_0 q0_1 q0_2 q0_3) q1_0).map fun r => (.int .i64 r, [.gone, .gone]) := by
  rw [lev_st (vc := c80) (nt := 19) (rs := [(4, none)]) rfl rfl (Nat.le_of_ble_eq_true rfl)]
  unfold c80
  simp +contextual -implicitDefEqProofs (maxSteps := 100000000) only [spec_l3Value, subI, go_sem, ↓ite_not', Nat.reduceEqDiff, Nat.reduceLT, Nat.reduceLeDiff, ↓reduceIte, Nat.reduceAdd, Nat.reduceMul, Nat.reduceSub, Int.reduceEq, Int.reduceLT, Int.reduceLE, Int.reduceToNat, Int.cast_ofNat_Int, Nat.reduceBEq] <;> rfl
-- spec.l3Take
def spec_l3Take_o_s1 (a7 : List Int) : (Int × Int × Int) → Option ((Int × Int × Int) ⊕ (Int × Int × Int)) := fun ⟨a8, a9, a10⟩ =>
  if (decide (a10 < 65536)) = true then (spec_l3Byte a7 a8).bind fun r11 =>
    some ((.inl (((IntKind.i64.wrap (a8 + 1)), (IntKind.i64.wrap ((IntKind.i64.wrap (a9 * 256)) + r11)), (IntKind.i64.wrap (a10 * 256))))))
  else some ((.inr ((a8, a9, a10))))
def spec_l3Take_o (p0 : SDecoder) (p1 : SSlot) : Option ((List Int) × Int × Int × Int) :=
  if p1.Total = 0 then none
  else (spec_l3Narrow p0.Range p1).bind fun r1 =>
    (loopO (spec_l3Take_o_s1 p0.Data) ((p0.At, (IntKind.i64.wrap (p0.Rest - (IntKind.i64.wrap ((IntKind.i64.wrap (p0.Range.tdiv p1.Total)) * p1.Low)))), r1))).bind fun y12 =>
    some ((p0.Data, y12.1, y12.2.1, y12.2.2))
@[go_sem] theorem spec_l3Take_o_s1_ok {β : Type} (n : Nat) (K : List (Kont β)) (a7 : List Int) (a8 : Int) (a9 : Int) (a10 : Int) : run ⟨tab.own, lev tab (n + 1), tab.gl⟩ K (.loop c83_u1) ⟨[(0, .pt 1000000000 0)], [(290000000, .row true 1 (rowE (eI .u8) a7)), (1000000000, .var true [.sl 290000000 0 a7.length, .val (.int .i64 a8), .val (.int .i64 a9), .val (.int .i64 a10)])], 69⟩ = (loopO (spec_l3Take_o_s1 a7) ((a8, a9, a10))).bind (fun t => plug ⟨tab.own, lev tab (n + 1), tab.gl⟩ K (.exit 0) ⟨[], [(290000000, .row true 1 (rowE (eI .u8) a7)), (1000000000, .var true [.sl 290000000 0 a7.length, .val (.int .i64 t.1), .val (.int .i64 t.2.1), .val (.int .i64 t.2.2)])], 69⟩) := by
  refine loop_run (C := ⟨tab.own, lev tab (n + 1), tab.gl⟩) (K := K) (c := c83_u1) (spec_l3Take_o_s1 a7) (fun s => ⟨[(0, .pt 1000000000 0)], [(290000000, .row true 1 (rowE (eI .u8) a7)), (1000000000, .var true [.sl 290000000 0 a7.length, .val (.int .i64 s.1), .val (.int .i64 s.2.1), .val (.int .i64 s.2.2)])], 69⟩) (fun t => plug ⟨tab.own, lev tab (n + 1), tab.gl⟩ K (.exit 0) ⟨[], [(290000000, .row true 1 (rowE (eI .u8) a7)), (1000000000, .var true [.sl 290000000 0 a7.length, .val (.int .i64 t.1), .val (.int .i64 t.2.1), .val (.int .i64 t.2.2)])], 69⟩) (fun k s => ?_) ((a8, a9, a10))
  obtain ⟨a8, a9, a10⟩ := s
  unfold c83_u1
  simp +contextual -implicitDefEqProofs (maxSteps := 100000000) only [spec_l3Take_o_s1, subI, go_sem, ↓ite_not', Nat.reduceEqDiff, Nat.reduceLT, Nat.reduceLeDiff, ↓reduceIte, Nat.reduceAdd, Nat.reduceMul, Nat.reduceSub, Int.reduceEq, Int.reduceLT, Int.reduceLE, Int.reduceToNat, Int.cast_ofNat_Int, Nat.reduceBEq] <;> rfl
@[go_sem] theorem spec_l3Take_o_ok (n : Nat) (q0_0 : List Int) (q0_1 : Int) (q0_2 : Int) (q0_3 : Int) (q1_0 : Int) (q1_1 : Int) (q1_2 : Int) : lev tab (n + 2) 83 [.op 0 [.ow 1 (rowE (eI .u8) q0_0), .int .i64 q0_1, .int .i64 q0_2, .int .i64 q0_3], .agg [.int .i64 q1_0, .int .i64 q1_1, .int .i64 q1_2]] = (spec_l3Take_o (SDecoder.mk q0_0 q0_1 q0_2 q0_3) (SSlot.mk q1_0 q1_1 q1_2)).map fun r => (.tup [], [.op 0 [.ow 1 (rowE (eI .u8) r.1), .int .i64 r.2.1, .int .i64 r.2.2.1, .int .i64 r.2.2.2], .gone]) := by
  rw [lev_st (vc := c83) (nt := 69) (rs := []) rfl rfl (Nat.le_of_ble_eq_true rfl)]
  unfold c83
  simp +contextual -implicitDefEqProofs (maxSteps := 100000000) only [spec_l3Take_o, subI, go_sem, ↓ite_not', Nat.reduceEqDiff, Nat.reduceLT, Nat.reduceLeDiff, ↓reduceIte, Nat.reduceAdd, Nat.reduceMul, Nat.reduceSub, Int.reduceEq, Int.reduceLT, Int.reduceLE, Int.reduceToNat, Int.cast_ofNat_Int, Nat.reduceBEq] <;> rfl
-- spec.l4Unzig
def spec_l4Unzig (p0 : Int) : Int :=
  if ((p0.tmod (2 : Int)) == 1) = true then (IntKind.i64.wrap (((IntKind.i64.wrap (0 - (IntKind.i64.wrap (p0 + 1))))).tdiv (2 : Int)))
  else (IntKind.i64.wrap (p0.tdiv (2 : Int)))
@[go_sem] theorem spec_l4Unzig_ok (n : Nat) (q0_0 : Int) : lev tab (n + 1) 86 [.int .i64 q0_0] = (some (spec_l4Unzig q0_0)).map fun r => (.int .i64 r, [.gone]) := by
  rw [lev_st (vc := c86) (nt := 12) (rs := [(2, none)]) rfl rfl (Nat.le_of_ble_eq_true rfl)]
  unfold c86
  simp +contextual -implicitDefEqProofs (maxSteps := 100000000) only [spec_l4Unzig, subI, go_sem, ↓ite_not', Nat.reduceEqDiff, Nat.reduceLT, Nat.reduceLeDiff, ↓reduceIte, Nat.reduceAdd, Nat.reduceMul, Nat.reduceSub, Int.reduceEq, Int.reduceLT, Int.reduceLE, Int.reduceToNat, Int.cast_ofNat_Int, Nat.reduceBEq] <;> rfl
-- spec.l4Next
def spec_l4Next_o_u2 (a22 : List Int) (a23 : Int) (a24 : Int) (a25 : Int) (a26 : Int) (a27 : Int) : Option (Bool) :=
  if (decide (a27 < 17)) = true then (spec_l4Class a27).bind fun r28 =>
    some ((decide (a26 ≥ (IntKind.i64.wrap (r28.Low + (spec_l4Share a27))))))
  else some false
def spec_l4Next_o_s3 (a16 : List Int) (a17 : Int) (a18 : Int) (a19 : Int) (a20 : Int) : Int → Option ((Int) ⊕ (Int)) := fun a21 =>
  (spec_l4Next_o_u2 a16 a17 a18 a19 a20 a21).bind fun y29 =>
  if y29 = true then some ((.inl ((IntKind.i64.wrap (a21 + 1)))))
  else some ((.inr a21))
def spec_l4Next_o_s4 (a44 : List Int) : ((List Int) × Int × Int × Int × Int × Int) → Option (((List Int) × Int × Int × Int × Int × Int) ⊕ ((List Int) × Int × Int × Int × Int)) := fun ⟨a45, a46, a47, a48, a49, a50⟩ =>
  if (decide (a50 < (a44.length : Int))) = true then (getI a44 a50).bind fun _ =>
    (a44[a50.toNat]?).bind fun x51 =>
    (spec_l4Two x51).bind fun r52 =>
    (spec_l3Value ((SDecoder.mk a45 a46 a47 a48)) r52).bind fun r53 =>
    (spec_l3Take_o ((SDecoder.mk a45 a46 a47 a48)) ((SSlot.mk r53 1 r52))).bind fun r54 =>
    some ((.inl ((r54.1, r54.2.1, r54.2.2.1, r54.2.2.2, (IntKind.i64.wrap ((IntKind.i64.wrap (a49 * r52)) + r53)), (IntKind.i64.wrap (a50 + 1))))))
  else some ((.inr ((a45, a46, a47, a48, a49))))
def spec_l4Next_o (p0 : SDecoder) : Option (Int × (List Int) × Int × Int × Int) :=
  (spec_l3Value p0 256).bind fun r1 =>
  (loopO (spec_l4Next_o_s3 p0.Data p0.At p0.Rest p0.Range r1) 0).bind fun y30 =>
  (spec_l4Class y30).bind fun r31 =>
  (spec_l3Take_o p0 r31).bind fun r32 =>
  if (y30 == 0) = true then some ((0, r32.1, r32.2.1, r32.2.2.1, r32.2.2.2))
  else (loopO (spec_l4Next_o_s4 ((spec_l4Pieces y30))) ((r32.1, r32.2.1, r32.2.2.1, r32.2.2.2, 1, 0))).bind fun y55 =>
    some (((spec_l4Unzig y55.2.2.2.2), y55.1, y55.2.1, y55.2.2.1, y55.2.2.2.1))
@[go_sem] theorem spec_l4Next_o_u2_ok {β : Type} (n : Nat) (K : List (Kont β)) (a22 : List Int) (a23 : Int) (a24 : Int) (a25 : Int) (a26 : Int) (a27 : Int) : run ⟨tab.own, lev tab (n + 2), tab.gl⟩ K c61_u2 ⟨[(0, .pt 1000000000 0), (3, .val (.int .i64 a26)), (4, .val (.int .i64 a27))], [(290000000, .row true 1 (rowE (eI .u8) a22)), (1000000000, .var true [.sl 290000000 0 a22.length, .val (.int .i64 a23), .val (.int .i64 a24), .val (.int .i64 a25)])], 60⟩ = (spec_l4Next_o_u2 a22 a23 a24 a25 a26 a27).bind (fun t => plug ⟨tab.own, lev tab (n + 2), tab.gl⟩ K .normal ⟨[(0, .pt 1000000000 0), (3, .val (.int .i64 a26)), (4, .val (.int .i64 a27)), (23, .val (.bool t))], [(290000000, .row true 1 (rowE (eI .u8) a22)), (1000000000, .var true [.sl 290000000 0 a22.length, .val (.int .i64 a23), .val (.int .i64 a24), .val (.int .i64 a25)])], 60⟩) := by
  unfold c61_u2
  simp +contextual -implicitDefEqProofs (maxSteps := 100000000) only [spec_l4Next_o_u2, subI, go_sem, ↓ite_not', Nat.reduceEqDiff, Nat.reduceLT, Nat.reduceLeDiff, ↓reduceIte, Nat.reduceAdd, Nat.reduceMul, Nat.reduceSub, Int.reduceEq, Int.reduceLT, Int.reduceLE, Int.reduceToNat, Int.cast_ofNat_Int, Nat.reduceBEq] <;> rfl
@[go_sem] theorem spec_l4Next_o_s3_ok {β : Type} (n : Nat) (K : List (Kont β)) (a16 : List Int) (a17 : Int) (a18 : Int) (a19 : Int) (a20 : Int) (a21 : Int) : run ⟨tab.own, lev tab (n + 2), tab.gl⟩ K (.loop c61_u3) ⟨[(0, .pt 1000000000 0), (3, .val (.int .i64 a20)), (4, .val (.int .i64 a21))], [(290000000, .row true 1 (rowE (eI .u8) a16)), (1000000000, .var true [.sl 290000000 0 a16.length, .val (.int .i64 a17), .val (.int .i64 a18), .val (.int .i64 a19)])], 60⟩ = (loopO (spec_l4Next_o_s3 a16 a17 a18 a19 a20) a21).bind (fun t => plug ⟨tab.own, lev tab (n + 2), tab.gl⟩ K (.exit 0) ⟨[(0, .pt 1000000000 0), (4, .val (.int .i64 t))], [(290000000, .row true 1 (rowE (eI .u8) a16)), (1000000000, .var true [.sl 290000000 0 a16.length, .val (.int .i64 a17), .val (.int .i64 a18), .val (.int .i64 a19)])], 60⟩) := by
  refine loop_run (C := ⟨tab.own, lev tab (n + 2), tab.gl⟩) (K := K) (c := c61_u3) (spec_l4Next_o_s3 a16 a17 a18 a19 a20) (fun s => ⟨[(0, .pt 1000000000 0), (3, .val (.int .i64 a20)), (4, .val (.int .i64 s))], [(290000000, .row true 1 (rowE (eI .u8) a16)), (1000000000, .var true [.sl 290000000 0 a16.length, .val (.int .i64 a17), .val (.int .i64 a18), .val (.int .i64 a19)])], 60⟩) (fun t => plug ⟨tab.own, lev tab (n + 2), tab.gl⟩ K (.exit 0) ⟨[(0, .pt 1000000000 0), (4, .val (.int .i64 t))], [(290000000, .row true 1 (rowE (eI .u8) a16)), (1000000000, .var true [.sl 290000000 0 a16.length, .val (.int .i64 a17), .val (.int .i64 a18), .val (.int .i64 a19)])], 60⟩) (fun k s => ?_) a21
  unfold c61_u3
  simp +contextual -implicitDefEqProofs (maxSteps := 100000000) only [spec_l4Next_o_s3, subI, go_sem, ↓ite_not', Nat.reduceEqDiff, Nat.reduceLT, Nat.reduceLeDiff, ↓reduceIte, Nat.reduceAdd, Nat.reduceMul, Nat.reduceSub, Int.reduceEq, Int.reduceLT, Int.reduceLE, Int.reduceToNat, Int.cast_ofNat_Int, Nat.reduceBEq] <;> rfl
@[go_sem] theorem spec_l4Next_o_s4_ok {β : Type} (n : Nat) (K : List (Kont β)) (a44 : List Int) (a45 : List Int) (a46 : Int) (a47 : Int) (a48 : Int) (a49 : Int) (a50 : Int) : run ⟨tab.own, lev tab (n + 2), tab.gl⟩ K (.loop c61_u4) ⟨[(0, .pt 1000000000 0), (5, .val (.int .i64 a49)), (6, .sl 200000060 0 a44.length), (7, .val (.int .i64 a50))], [(200000060, .row false 1 (rowE (eI .i64) a44)), (290000000, .row true 1 (rowE (eI .u8) a45)), (1000000000, .var true [.sl 290000000 0 a45.length, .val (.int .i64 a46), .val (.int .i64 a47), .val (.int .i64 a48)])], 60⟩ = (loopO (spec_l4Next_o_s4 a44) ((a45, a46, a47, a48, a49, a50))).bind (fun t => plug ⟨tab.own, lev tab (n + 2), tab.gl⟩ K (.exit 2) ⟨[(5, .val (.int .i64 t.2.2.2.2))], [(290000000, .row true 1 (rowE (eI .u8) t.1)), (1000000000, .var true [.sl 290000000 0 t.1.length, .val (.int .i64 t.2.1), .val (.int .i64 t.2.2.1), .val (.int .i64 t.2.2.2.1)])], 60⟩) := by
  refine loop_run (C := ⟨tab.own, lev tab (n + 2), tab.gl⟩) (K := K) (c := c61_u4) (spec_l4Next_o_s4 a44) (fun s => ⟨[(0, .pt 1000000000 0), (5, .val (.int .i64 s.2.2.2.2.1)), (6, .sl 200000060 0 a44.length), (7, .val (.int .i64 s.2.2.2.2.2))], [(200000060, .row false 1 (rowE (eI .i64) a44)), (290000000, .row true 1 (rowE (eI .u8) s.1)), (1000000000, .var true [.sl 290000000 0 s.1.length, .val (.int .i64 s.2.1), .val (.int .i64 s.2.2.1), .val (.int .i64 s.2.2.2.1)])], 60⟩) (fun t => plug ⟨tab.own, lev tab (n + 2), tab.gl⟩ K (.exit 2) ⟨[(5, .val (.int .i64 t.2.2.2.2))], [(290000000, .row true 1 (rowE (eI .u8) t.1)), (1000000000, .var true [.sl 290000000 0 t.1.length, .val (.int .i64 t.2.1), .val (.int .i64 t.2.2.1), .val (.int .i64 t.2.2.2.1)])], 60⟩) (fun k s => ?_) ((a45, a46, a47, a48, a49, a50))
  obtain ⟨a45, a46, a47, a48, a49, a50⟩ := s
  unfold c61_u4
  simp +contextual -implicitDefEqProofs (maxSteps := 100000000) only [spec_l4Next_o_s4, subI, go_sem, ↓ite_not', Nat.reduceEqDiff, Nat.reduceLT, Nat.reduceLeDiff, ↓reduceIte, Nat.reduceAdd, Nat.reduceMul, Nat.reduceSub, Int.reduceEq, Int.reduceLT, Int.reduceLE, Int.reduceToNat, Int.cast_ofNat_Int, Nat.reduceBEq] <;> rfl
@[go_sem] theorem spec_l4Next_o_ok (n : Nat) (q0_0 : List Int) (q0_1 : Int) (q0_2 : Int) (q0_3 : Int) : lev tab (n + 3) 61 [.op 0 [.ow 1 (rowE (eI .u8) q0_0), .int .i64 q0_1, .int .i64 q0_2, .int .i64 q0_3]] = (spec_l4Next_o (SDecoder.mk q0_0 q0_1 q0_2 q0_3)).map fun r => (.int .i64 r.1, [.op 0 [.ow 1 (rowE (eI .u8) r.2.1), .int .i64 r.2.2.1, .int .i64 r.2.2.2.1, .int .i64 r.2.2.2.2]]) := by
  rw [lev_st (vc := c61) (nt := 60) (rs := [(2, none)]) rfl rfl (Nat.le_of_ble_eq_true rfl)]
  unfold c61
  simp +contextual -implicitDefEqProofs (maxSteps := 100000000) only [spec_l4Next_o, subI, go_sem, ↓ite_not', Nat.reduceEqDiff, Nat.reduceLT, Nat.reduceLeDiff, ↓reduceIte, Nat.reduceAdd, Nat.reduceMul, Nat.reduceSub, Int.reduceEq, Int.reduceLT, Int.reduceLE, Int.reduceToNat, Int.cast_ofNat_Int, Nat.reduceBEq] <;> rfl
-- spec.l4Decode
def spec_l4Decode_s1 (a15 : List Int) : (Int × Int × Int × (List Int) × (List Int) × Int) → Option ((Int × Int × Int × (List Int) × (List Int) × Int) ⊕ ((List Int))) := fun ⟨a10, a11, a12, a13, a14, a16⟩ =>
  if (decide (a16 > 0)) = true then (spec_l4Next_o ((SDecoder.mk a13 a10 a11 a12))).bind fun r17 =>
    if (okApp 8 ((a14 ++ ([r17.1]))).length) = true then some ((.inl ((r17.2.2.1, r17.2.2.2.1, r17.2.2.2.2, r17.2.1, (a14 ++ ([r17.1])), (IntKind.i64.wrap (a16 - 1))))))
    else none
  else some ((.inr a14))
def spec_l4Decode_u2 (a19 : List Int) (a20 : List Int) : Option (Bool) :=
  (spec_l1All a19 ((-65535)) 65535).bind fun r21 =>
  if r21 = true then (bytesI a20).bind fun x22 =>
    (spec_l4Encode a19).bind fun r23 =>
    (bytesI r23).bind fun x24 =>
    some ((x24 == x22))
  else some false
def spec_l4Decode (p0 : List Int) (p1 : Int) : Option ((List Int) × Bool) :=
  (spec_l3Start p0).bind fun r1 =>
  (loopO (spec_l4Decode_s1 p0) ((r1.At, r1.Rest, r1.Range, r1.Data, [], p1))).bind fun y18 =>
  (spec_l4Decode_u2 y18 p0).bind fun y25 =>
  some ((y18, y25))
@[go_sem] theorem spec_l4Decode_s1_ok {β : Type} (n : Nat) (K : List (Kont β)) (a10 : Int) (a11 : Int) (a12 : Int) (a13 : List Int) (a14 : List Int) (a15 : List Int) (a16 : Int) : run ⟨tab.own, lev tab (n + 4), tab.gl⟩ K (.loop c30_u1) ⟨[(0, .val (.sh .lent 1 (rowE (eI .u8) a15))), (1, .val (.int .i64 a16)), (6, .pt 200000060 0), (7, .sl 200000070 0 a14.length)], [(200000060, .var false [.sl 200000061 0 a13.length, .val (.int .i64 a10), .val (.int .i64 a11), .val (.int .i64 a12)]), (200000061, .row false 1 (rowE (eI .u8) a13)), (200000070, .row false 1 (rowE (eI .i64) a14))], 30⟩ = (loopO (spec_l4Decode_s1 a15) ((a10, a11, a12, a13, a14, a16))).bind (fun t => plug ⟨tab.own, lev tab (n + 4), tab.gl⟩ K (.exit 0) ⟨[(0, .val (.sh .lent 1 (rowE (eI .u8) a15))), (7, .sl 200000070 0 t.length)], [(200000070, .row false 1 (rowE (eI .i64) t))], 30⟩) := by
  refine loop_run (C := ⟨tab.own, lev tab (n + 4), tab.gl⟩) (K := K) (c := c30_u1) (spec_l4Decode_s1 a15) (fun s => ⟨[(0, .val (.sh .lent 1 (rowE (eI .u8) a15))), (1, .val (.int .i64 s.2.2.2.2.2)), (6, .pt 200000060 0), (7, .sl 200000070 0 s.2.2.2.2.1.length)], [(200000060, .var false [.sl 200000061 0 s.2.2.2.1.length, .val (.int .i64 s.1), .val (.int .i64 s.2.1), .val (.int .i64 s.2.2.1)]), (200000061, .row false 1 (rowE (eI .u8) s.2.2.2.1)), (200000070, .row false 1 (rowE (eI .i64) s.2.2.2.2.1))], 30⟩) (fun t => plug ⟨tab.own, lev tab (n + 4), tab.gl⟩ K (.exit 0) ⟨[(0, .val (.sh .lent 1 (rowE (eI .u8) a15))), (7, .sl 200000070 0 t.length)], [(200000070, .row false 1 (rowE (eI .i64) t))], 30⟩) (fun k s => ?_) ((a10, a11, a12, a13, a14, a16))
  obtain ⟨a10, a11, a12, a13, a14, a16⟩ := s
  unfold c30_u1
  simp +contextual -implicitDefEqProofs (maxSteps := 100000000) only [spec_l4Decode_s1, subI, go_sem, ↓ite_not', Nat.reduceEqDiff, Nat.reduceLT, Nat.reduceLeDiff, ↓reduceIte, Nat.reduceAdd, Nat.reduceMul, Nat.reduceSub, Int.reduceEq, Int.reduceLT, Int.reduceLE, Int.reduceToNat, Int.cast_ofNat_Int, Nat.reduceBEq] <;> rfl
@[go_sem] theorem spec_l4Decode_s1_ok_e {β : Type} (n : Nat) (K : List (Kont β)) (a10 : Int) (a11 : Int) (a12 : Int) (a13 : List Int) (a15 : List Int) (a16 : Int) : run ⟨tab.own, lev tab (n + 4), tab.gl⟩ K (.loop c30_u1) ⟨[(0, .val (.sh .lent 1 (rowE (eI .u8) a15))), (1, .val (.int .i64 a16)), (6, .pt 200000060 0), (7, .sl 200000070 0 0)], [(200000060, .var false [.sl 200000061 0 a13.length, .val (.int .i64 a10), .val (.int .i64 a11), .val (.int .i64 a12)]), (200000061, .row false 1 (rowE (eI .u8) a13)), (200000070, .row false 1 [])], 30⟩ = (loopO (spec_l4Decode_s1 a15) ((a10, a11, a12, a13, [], a16))).bind (fun t => plug ⟨tab.own, lev tab (n + 4), tab.gl⟩ K (.exit 0) ⟨[(0, .val (.sh .lent 1 (rowE (eI .u8) a15))), (7, .sl 200000070 0 t.length)], [(200000070, .row false 1 (rowE (eI .i64) t))], 30⟩) := spec_l4Decode_s1_ok n K a10 a11 a12 a13 [] a15 a16
@[go_sem] theorem spec_l4Decode_u2_ok {β : Type} (n : Nat) (K : List (Kont β)) (a19 : List Int) (a20 : List Int) : run ⟨tab.own, lev tab (n + 4), tab.gl⟩ K c30_u2 ⟨[(0, .val (.sh .lent 1 (rowE (eI .u8) a20))), (7, .sl 200000070 0 a19.length)], [(200000070, .row false 1 (rowE (eI .i64) a19))], 30⟩ = (spec_l4Decode_u2 a19 a20).bind (fun t => plug ⟨tab.own, lev tab (n + 4), tab.gl⟩ K .normal ⟨[(4, .sl 200000040 0 a19.length), (5, .val (.bool t))], [(200000040, .row false 1 (rowE (eI .i64) a19))], 30⟩) := by
  unfold c30_u2
  simp +contextual -implicitDefEqProofs (maxSteps := 100000000) only [spec_l4Decode_u2, subI, go_sem, ↓ite_not', Nat.reduceEqDiff, Nat.reduceLT, Nat.reduceLeDiff, ↓reduceIte, Nat.reduceAdd, Nat.reduceMul, Nat.reduceSub, Int.reduceEq, Int.reduceLT, Int.reduceLE, Int.reduceToNat, Int.cast_ofNat_Int, Nat.reduceBEq] <;> rfl
@[go_sem] theorem spec_l4Decode_ok (n : Nat) (q0_0 : List Int) (q1_0 : Int) : lev tab (n + 5) 30 [.sh .lent 1 (rowE (eI .u8) q0_0), .int .i64 q1_0] = (spec_l4Decode q0_0 q1_0).map fun r => (.tup [.ow 1 (rowE (eI .i64) r.1), .bool r.2], [.gone, .gone]) := by
  rw [lev_st (vc := c30) (nt := 30) (rs := [(4, none), (5, none)]) rfl rfl (Nat.le_of_ble_eq_true rfl)]
  unfold c30
  simp +contextual -implicitDefEqProofs (maxSteps := 100000000) only [spec_l4Decode, subI, go_sem, ↓ite_not', Nat.reduceEqDiff, Nat.reduceLT, Nat.reduceLeDiff, ↓reduceIte, Nat.reduceAdd, Nat.reduceMul, Nat.reduceSub, Int.reduceEq, Int.reduceLT, Int.reduceLE, Int.reduceToNat, Int.cast_ofNat_Int, Nat.reduceBEq] <;> rfl
-- spec.DecodeValues
def spec_DecodeValues (p0 : List Int) (p1 : Int) : Option (SIntsResult) :=
  if (decide ((p0.length : Int) > 600)) = true then some ((SIntsResult.mk 2 ([])))
  else if (spec_l1In p1 0 64) = true then (spec_l4Decode p0 p1).bind fun r1 =>
      if r1.2 = true then some ((SIntsResult.mk 0 r1.1))
      else some ((SIntsResult.mk 5 ([])))
    else some ((SIntsResult.mk 3 ([])))
@[go_sem] theorem spec_DecodeValues_ok (n : Nat) (q0_0 : List Int) (q1_0 : Int) : lev tab (n + 6) 6 [.sh .lent 1 (rowE (eI .u8) q0_0), .int .i64 q1_0] = (spec_DecodeValues q0_0 q1_0).map fun r => (.agg [.int .i64 r.Code, .ow 1 (rowE (eI .i64) r.List_)], [.gone, .gone]) := by
  rw [lev_st (vc := c6) (nt := 26) (rs := [(4, some (some 2))]) rfl rfl (Nat.le_of_ble_eq_true rfl)]
  unfold c6
  simp +contextual -implicitDefEqProofs (maxSteps := 100000000) only [spec_DecodeValues, subI, go_sem, ↓ite_not', Nat.reduceEqDiff, Nat.reduceLT, Nat.reduceLeDiff, ↓reduceIte, Nat.reduceAdd, Nat.reduceMul, Nat.reduceSub, Int.reduceEq, Int.reduceLT, Int.reduceLE, Int.reduceToNat, Int.cast_ofNat_Int, Nat.reduceBEq] <;> rfl
-- laws.lwBytes
def laws_lwBytes (p0 : List Int) (p1 : List Int) : Option (Bool) :=
  (bytesI p0).bind fun x1 =>
  (bytesI p1).bind fun x2 =>
  some ((x1 == x2))
@[go_sem] theorem laws_lwBytes_ok (n : Nat) (q0_0 : List Int) (q1_0 : List Int) : lev tab (n + 1) 27 [.sh .lent 1 (rowE (eI .u8) q0_0), .sh .lent 1 (rowE (eI .u8) q1_0)] = (laws_lwBytes q0_0 q1_0).map fun r => (.bool r, [.gone, .gone]) := by
  rw [lev_st (vc := c27) (nt := 10) (rs := [(4, none)]) rfl rfl (Nat.le_of_ble_eq_true rfl)]
  unfold c27
  simp +contextual -implicitDefEqProofs (maxSteps := 100000000) only [laws_lwBytes, subI, go_sem, ↓ite_not', Nat.reduceEqDiff, Nat.reduceLT, Nat.reduceLeDiff, ↓reduceIte, Nat.reduceAdd, Nat.reduceMul, Nat.reduceSub, Int.reduceEq, Int.reduceLT, Int.reduceLE, Int.reduceToNat, Int.cast_ofNat_Int, Nat.reduceBEq] <;> rfl
-- laws.lwNums
def laws_lwNums_s1 (a6 : List Int) (a7 : List Int) : Int → Option ((Int) ⊕ (Unit ⊕ Unit)) := fun a8 =>
  if (decide (a8 < (a6.length : Int))) = true then (getI a6 a8).bind fun x9 =>
    (getI a7 a8).bind fun x10 =>
    if (x9 != x10) = true then some ((.inr ((.inr (())))))
    else some ((.inl ((IntKind.i64.wrap (a8 + 1)))))
  else some ((.inr ((.inl (())))))
def laws_lwNums (p0 : List Int) (p1 : List Int) : Option (Bool) :=
  if ((p0.length : Int) != (p1.length : Int)) = true then some false
  else (loopO (laws_lwNums_s1 p0 p1) 0).bind fun t => (Sum.elim (fun y11 => some true)
     (fun y12 => some false)) t
@[go_sem] theorem laws_lwNums_s1_ok {β : Type} (n : Nat) (K : List (Kont β)) (a6 : List Int) (a7 : List Int) (a8 : Int) : run ⟨tab.own, lev tab n, tab.gl⟩ K (.loop c28_u1) ⟨[(0, .val (.sh .lent 1 (rowE (eI .i64) a6))), (1, .val (.sh .lent 1 (rowE (eI .i64) a7))), (5, .val (.int .i64 a8))], [], 26⟩ = (loopO (laws_lwNums_s1 a6 a7) a8).bind (fun t => (Sum.elim (fun t => plug ⟨tab.own, lev tab n, tab.gl⟩ K (.exit 0) ⟨[], [], 26⟩) (fun t => plug ⟨tab.own, lev tab n, tab.gl⟩ K .ret ⟨[(4, .val (.bool false))], [], 26⟩)) t) := by
  refine loop_run (C := ⟨tab.own, lev tab n, tab.gl⟩) (K := K) (c := c28_u1) (laws_lwNums_s1 a6 a7) (fun s => ⟨[(0, .val (.sh .lent 1 (rowE (eI .i64) a6))), (1, .val (.sh .lent 1 (rowE (eI .i64) a7))), (5, .val (.int .i64 s))], [], 26⟩) (fun t => (Sum.elim (fun t => plug ⟨tab.own, lev tab n, tab.gl⟩ K (.exit 0) ⟨[], [], 26⟩) (fun t => plug ⟨tab.own, lev tab n, tab.gl⟩ K .ret ⟨[(4, .val (.bool false))], [], 26⟩)) t) (fun k s => ?_) a8
  unfold c28_u1
  simp +contextual -implicitDefEqProofs (maxSteps := 100000000) only [laws_lwNums_s1, subI, go_sem, ↓ite_not', Nat.reduceEqDiff, Nat.reduceLT, Nat.reduceLeDiff, ↓reduceIte, Nat.reduceAdd, Nat.reduceMul, Nat.reduceSub, Int.reduceEq, Int.reduceLT, Int.reduceLE, Int.reduceToNat, Int.cast_ofNat_Int, Nat.reduceBEq] <;> rfl
@[go_sem] theorem laws_lwNums_ok (n : Nat) (q0_0 : List Int) (q1_0 : List Int) : lev tab (n + 1) 28 [.sh .lent 1 (rowE (eI .i64) q0_0), .sh .lent 1 (rowE (eI .i64) q1_0)] = (laws_lwNums q0_0 q1_0).map fun r => (.bool r, [.gone, .gone]) := by
  rw [lev_st (vc := c28) (nt := 26) (rs := [(4, none)]) rfl rfl (Nat.le_of_ble_eq_true rfl)]
  unfold c28
  simp +contextual -implicitDefEqProofs (maxSteps := 100000000) only [laws_lwNums, subI, go_sem, ↓ite_not', Nat.reduceEqDiff, Nat.reduceLT, Nat.reduceLeDiff, ↓reduceIte, Nat.reduceAdd, Nat.reduceMul, Nat.reduceSub, Int.reduceEq, Int.reduceLT, Int.reduceLE, Int.reduceToNat, Int.cast_ofNat_Int, Nat.reduceBEq] <;> rfl
-- laws.FnValues
def laws_FnValues_u1 (a5 : List Int) (a6 : Int) (a7 : List Int) (a8 : List Int) (a9 : Int) (a10 : List Int) (a11 : Int) : Option (Bool) :=
  (spec_EncodeValues a5).bind fun r12 =>
  if (a6 != r12.Code) = true then some true
  else (spec_DecodeValues a8 a11).bind fun r13 =>
    some ((a9 != r13.Code))
def laws_FnValues_u2 (a15 : List Int) (a16 : Int) (a17 : List Int) (a18 : List Int) (a19 : Int) (a20 : List Int) (a21 : Int) : Option (Bool) :=
  if (a19 == 0) = true then (impl_EncodeValues a20).bind fun r22 =>
    (laws_lwBytes r22.Bytes a18).bind fun r23 =>
    if r23 = true then some (((a20.length : Int) != a21))
    else some true
  else some false
def laws_FnValues_u3 (a26 : List Int) (a27 : Int) (a28 : List Int) (a29 : Int) (a30 : List Int) : Option (Bool) :=
  if (a29 == 0) = true then (laws_lwNums a30 a26).bind fun r31 =>
    if r31 = true then some ((decide ((a28.length : Int) ≤ (IntKind.i64.wrap ((IntKind.i64.wrap (3 * (a26.length : Int))) + 3)))))
    else some false
  else some false
def laws_FnValues (p0 : List Int) : Option (Bool) :=
  if (laws_lwBig p0) = true then some true
  else (spec_DrawEncodeValues p0).bind fun r1 =>
    (impl_EncodeValues r1).bind fun r2 =>
    (spec_DrawDecodeValues p0).bind fun r3 =>
    (impl_DecodeValues r3.1 r3.2).bind fun r4 =>
    (laws_FnValues_u1 r1 r2.Code r2.Bytes r3.1 r4.Code r4.List_ r3.2).bind fun y14 =>
    if y14 = true then some false
    else (laws_FnValues_u2 r1 r2.Code r2.Bytes r3.1 r4.Code r4.List_ r3.2).bind fun y24 =>
      if y24 = true then some false
      else if (r2.Code != 0) = true then some true
        else (impl_DecodeValues r2.Bytes ((r1.length : Int))).bind fun r25 =>
          (laws_FnValues_u3 r1 r2.Code r2.Bytes r25.Code r25.List_).bind fun y32 =>
          some y32
@[go_sem] theorem laws_FnValues_u1_ok {β : Type} (n : Nat) (K : List (Kont β)) (a5 : List Int) (a6 : Int) (a7 : List Int) (a8 : List Int) (a9 : Int) (a10 : List Int) (a11 : Int) : run ⟨tab.own, lev tab (n + 6), tab.gl⟩ K c5_u1 ⟨[(3, .sl 200000030 0 a5.length), (4, .pt 200000040 0), (5, .sl 200000050 0 a8.length), (6, .val (.int .i64 a11)), (7, .pt 200000070 0)], [(200000030, .row false 1 (rowE (eI .i64) a5)), (200000040, .var false [.val (.int .i64 a6), .sl 200000041 0 a7.length]), (200000041, .row false 1 (rowE (eI .u8) a7)), (200000050, .row false 1 (rowE (eI .u8) a8)), (200000070, .var false [.val (.int .i64 a9), .sl 200000071 0 a10.length]), (200000071, .row false 1 (rowE (eI .i64) a10))], 84⟩ = (laws_FnValues_u1 a5 a6 a7 a8 a9 a10 a11).bind (fun t => plug ⟨tab.own, lev tab (n + 6), tab.gl⟩ K .normal ⟨[(3, .sl 200000030 0 a5.length), (4, .pt 200000040 0), (5, .sl 200000050 0 a8.length), (6, .val (.int .i64 a11)), (7, .pt 200000070 0), (37, .val (.bool t))], [(200000030, .row false 1 (rowE (eI .i64) a5)), (200000040, .var false [.val (.int .i64 a6), .sl 200000041 0 a7.length]), (200000041, .row false 1 (rowE (eI .u8) a7)), (200000050, .row false 1 (rowE (eI .u8) a8)), (200000070, .var false [.val (.int .i64 a9), .sl 200000071 0 a10.length]), (200000071, .row false 1 (rowE (eI .i64) a10))], 84⟩) := by
  unfold c5_u1
  simp +contextual -implicitDefEqProofs (maxSteps := 100000000) only [laws_FnValues_u1, subI, go_sem, ↓ite_not', Nat.reduceEqDiff, Nat.reduceLT, Nat.reduceLeDiff, ↓reduceIte, Nat.reduceAdd, Nat.reduceMul, Nat.reduceSub, Int.reduceEq, Int.reduceLT, Int.reduceLE, Int.reduceToNat, Int.cast_ofNat_Int, Nat.reduceBEq] <;> rfl
@[go_sem] theorem laws_FnValues_u2_ok {β : Type} (n : Nat) (K : List (Kont β)) (a15 : List Int) (a16 : Int) (a17 : List Int) (a18 : List Int) (a19 : Int) (a20 : List Int) (a21 : Int) : run ⟨tab.own, lev tab (n + 6), tab.gl⟩ K c5_u2 ⟨[(3, .sl 200000030 0 a15.length), (4, .pt 200000040 0), (5, .sl 200000050 0 a18.length), (6, .val (.int .i64 a21)), (7, .pt 200000070 0)], [(200000030, .row false 1 (rowE (eI .i64) a15)), (200000040, .var false [.val (.int .i64 a16), .sl 200000041 0 a17.length]), (200000041, .row false 1 (rowE (eI .u8) a17)), (200000050, .row false 1 (rowE (eI .u8) a18)), (200000070, .var false [.val (.int .i64 a19), .sl 200000071 0 a20.length]), (200000071, .row false 1 (rowE (eI .i64) a20))], 84⟩ = (laws_FnValues_u2 a15 a16 a17 a18 a19 a20 a21).bind (fun t => plug ⟨tab.own, lev tab (n + 6), tab.gl⟩ K .normal ⟨[(3, .sl 200000030 0 a15.length), (4, .pt 200000040 0), (56, .val (.bool t))], [(200000030, .row false 1 (rowE (eI .i64) a15)), (200000040, .var false [.val (.int .i64 a16), .sl 200000041 0 a17.length]), (200000041, .row false 1 (rowE (eI .u8) a17))], 84⟩) := by
  unfold c5_u2
  simp +contextual -implicitDefEqProofs (maxSteps := 100000000) only [laws_FnValues_u2, subI, go_sem, ↓ite_not', Nat.reduceEqDiff, Nat.reduceLT, Nat.reduceLeDiff, ↓reduceIte, Nat.reduceAdd, Nat.reduceMul, Nat.reduceSub, Int.reduceEq, Int.reduceLT, Int.reduceLE, Int.reduceToNat, Int.cast_ofNat_Int, Nat.reduceBEq] <;> rfl
@[go_sem] theorem laws_FnValues_u3_ok {β : Type} (n : Nat) (K : List (Kont β)) (a26 : List Int) (a27 : Int) (a28 : List Int) (a29 : Int) (a30 : List Int) : run ⟨tab.own, lev tab (n + 6), tab.gl⟩ K c5_u3 ⟨[(3, .sl 200000030 0 a26.length), (4, .pt 200000040 0), (8, .pt 200000080 0)], [(200000030, .row false 1 (rowE (eI .i64) a26)), (200000040, .var false [.val (.int .i64 a27), .sl 200000041 0 a28.length]), (200000041, .row false 1 (rowE (eI .u8) a28)), (200000080, .var false [.val (.int .i64 a29), .sl 200000081 0 a30.length]), (200000081, .row false 1 (rowE (eI .i64) a30))], 84⟩ = (laws_FnValues_u3 a26 a27 a28 a29 a30).bind (fun t => plug ⟨tab.own, lev tab (n + 6), tab.gl⟩ K .normal ⟨[(2, .val (.bool t))], [], 84⟩) := by
  unfold c5_u3
  simp +contextual -implicitDefEqProofs (maxSteps := 100000000) only [laws_FnValues_u3, subI, go_sem, ↓ite_not', Nat.reduceEqDiff, Nat.reduceLT, Nat.reduceLeDiff, ↓reduceIte, Nat.reduceAdd, Nat.reduceMul, Nat.reduceSub, Int.reduceEq, Int.reduceLT, Int.reduceLE, Int.reduceToNat, Int.cast_ofNat_Int, Nat.reduceBEq] <;> rfl
@[go_sem] theorem laws_FnValues_ok (n : Nat) (q0_0 : List Int) : lev tab (n + 7) 5 [.sh .lent 1 (rowE (eI .u8) q0_0)] = (laws_FnValues q0_0).map fun r => (.bool r, [.gone]) := by
  rw [lev_st (vc := c5) (nt := 84) (rs := [(2, none)]) rfl rfl (Nat.le_of_ble_eq_true rfl)]
  unfold c5
  simp +contextual -implicitDefEqProofs (maxSteps := 100000000) only [laws_FnValues, subI, go_sem, ↓ite_not', Nat.reduceEqDiff, Nat.reduceLT, Nat.reduceLeDiff, ↓reduceIte, Nat.reduceAdd, Nat.reduceMul, Nat.reduceSub, Int.reduceEq, Int.reduceLT, Int.reduceLE, Int.reduceToNat, Int.cast_ofNat_Int, Nat.reduceBEq] <;> rfl
end
end FnValues
end Go.Proofs.YtclhghlpokdiiaaDoor.Wm
