/- What the functions behind FnExactReceiverFault come to, on plain values (a further part): written by a program. -/
import Derived.Test.YtjgdnpockaijeaaFnFnExactReceiverFault
set_option linter.unusedSimpArgs false
set_option linter.unusedVariables false
set_option maxRecDepth 100000
set_option maxHeartbeats 20000000
namespace Go.Proofs.Ytjgdnpockaijeaa.Wm
open Go Go.Proofs
namespace FnExactReceiverFault
noncomputable section
attribute [local congr] ite_cong2 run_cg runR_cg plug_cg contV_cg contH_cg contT_cg contF_cg guardR_cg condX_cg evcA_cg evcB_cg evcC_cg evcE_cg evcH_cg levA_cg condJX_cg
-- spec.ReceiverFault
def spec_ReceiverFault_u1 (a1 : Int) (a2 : Int) (a3 : List SHeld) (a4 : Bool) (a5 : Int) (a6 : Int) (a7 : List Int) (a8 : Bool) (a9 : Int) (a10 : Int) (a11 : List Int) (a12 : Int) (a13 : List Int) (a14 : List Int) (a15 : List Int) (a16 : Int) : Bool :=
  if (spec_l1In a2 0 10000) = true then (!(spec_l1In a16 0 100))
  else true
def spec_ReceiverFault_u2 (a18 : Int) (a19 : Int) (a20 : List SHeld) (a21 : Bool) (a22 : Int) (a23 : Int) (a24 : List Int) (a25 : Bool) (a26 : Int) (a27 : Int) (a28 : List Int) (a29 : Int) (a30 : List Int) (a31 : List Int) (a32 : List Int) (a33 : Int) : Bool :=
  if (decide ((a20.length : Int) > 18)) = true then true
  else ((a32.length : Int) != a18)
def spec_ReceiverFault (p0 : SReceiver) : Option (Int) :=
  if ((spec_SizeFault p0.Size) != 0) = true then some ((spec_SizeFault p0.Size))
  else let y17 := spec_ReceiverFault_u1 p0.Size p0.Next p0.Held p0.A.Known p0.A.Number p0.A.Rung p0.A.Gains p0.B.Known p0.B.Number p0.B.Rung p0.B.Gains p0.Synth.Size p0.Synth.Head p0.Synth.Tail p0.Last p0.Lost
    if y17 = true then some 3
    else let y34 := spec_ReceiverFault_u2 p0.Size p0.Next p0.Held p0.A.Known p0.A.Number p0.A.Rung p0.A.Gains p0.B.Known p0.B.Number p0.B.Rung p0.B.Gains p0.Synth.Size p0.Synth.Head p0.Synth.Tail p0.Last p0.Lost
      if y34 = true then some 2
      else (spec_l1All p0.Last ((-16777216)) 16777216).bind fun r35 =>
        if r35 = true then (spec_SynthFault p0.Synth).bind fun r36 =>
          if (r36 != 0) = true then some r36
          else if (p0.Synth.Size != p0.Size) = true then some 1
            else (spec_AnchorFault p0.A).bind fun r37 =>
              if (r37 != 0) = true then some r37
              else (spec_AnchorFault p0.B).bind fun r38 =>
                if (r38 != 0) = true then some r38
                else (spec_l18Held p0).bind fun r39 =>
                  some r39
        else some 3
@[go_sem] theorem spec_ReceiverFault_u1_ok {β : Type} (n : Nat) (K : List (Kont β)) (a1 : Int) (a2 : Int) (a3 : List SHeld) (a4 : Bool) (a5 : Int) (a6 : Int) (a7 : List Int) (a8 : Bool) (a9 : Int) (a10 : Int) (a11 : List Int) (a12 : Int) (a13 : List Int) (a14 : List Int) (a15 : List Int) (a16 : Int) : run ⟨tab.own, lev tab (n + 5), tab.gl⟩ K c63_u1 ⟨[(1, .pt 200000010 0)], [(200000010, .var false [.val (.int .i64 a1), .val (.int .i64 a2), .val (.sh .lent 3 (rowE (SHeld.cells .lent) a3)), .val (.bool a4), .val (.int .i64 a5), .val (.int .i64 a6), .val (.sh .lent 1 (rowE (eI .i64) a7)), .val (.bool a8), .val (.int .i64 a9), .val (.int .i64 a10), .val (.sh .lent 1 (rowE (eI .i64) a11)), .val (.int .i64 a12), .val (.sh .lent 1 (rowE (eI .i64) a13)), .val (.sh .lent 1 (rowE (eI .i64) a14)), .val (.sh .lent 1 (rowE (eI .i64) a15)), .val (.int .i64 a16)])], 64⟩ = (some (spec_ReceiverFault_u1 a1 a2 a3 a4 a5 a6 a7 a8 a9 a10 a11 a12 a13 a14 a15 a16)).bind (fun t => plug ⟨tab.own, lev tab (n + 5), tab.gl⟩ K .normal ⟨[(1, .pt 200000010 0), (22, .val (.bool t))], [(200000010, .var false [.val (.int .i64 a1), .val (.int .i64 a2), .val (.sh .lent 3 (rowE (SHeld.cells .lent) a3)), .val (.bool a4), .val (.int .i64 a5), .val (.int .i64 a6), .val (.sh .lent 1 (rowE (eI .i64) a7)), .val (.bool a8), .val (.int .i64 a9), .val (.int .i64 a10), .val (.sh .lent 1 (rowE (eI .i64) a11)), .val (.int .i64 a12), .val (.sh .lent 1 (rowE (eI .i64) a13)), .val (.sh .lent 1 (rowE (eI .i64) a14)), .val (.sh .lent 1 (rowE (eI .i64) a15)), .val (.int .i64 a16)])], 64⟩) := by
  unfold c63_u1
  simp +contextual -implicitDefEqProofs (maxSteps := 100000000) only [spec_ReceiverFault_u1, subI, go_sem, ↓ite_not', Nat.reduceEqDiff, Nat.reduceLT, Nat.reduceLeDiff, ↓reduceIte, Nat.reduceAdd, Nat.reduceMul, Nat.reduceSub, Int.reduceEq, Int.reduceLT, Int.reduceLE, Int.reduceToNat, Int.cast_ofNat_Int, Nat.reduceBEq] <;> rfl
@[go_sem] theorem spec_ReceiverFault_u2_ok {β : Type} (n : Nat) (K : List (Kont β)) (a18 : Int) (a19 : Int) (a20 : List SHeld) (a21 : Bool) (a22 : Int) (a23 : Int) (a24 : List Int) (a25 : Bool) (a26 : Int) (a27 : Int) (a28 : List Int) (a29 : Int) (a30 : List Int) (a31 : List Int) (a32 : List Int) (a33 : Int) : run ⟨tab.own, lev tab (n + 5), tab.gl⟩ K c63_u2 ⟨[(1, .pt 200000010 0)], [(200000010, .var false [.val (.int .i64 a18), .val (.int .i64 a19), .val (.sh .lent 3 (rowE (SHeld.cells .lent) a20)), .val (.bool a21), .val (.int .i64 a22), .val (.int .i64 a23), .val (.sh .lent 1 (rowE (eI .i64) a24)), .val (.bool a25), .val (.int .i64 a26), .val (.int .i64 a27), .val (.sh .lent 1 (rowE (eI .i64) a28)), .val (.int .i64 a29), .val (.sh .lent 1 (rowE (eI .i64) a30)), .val (.sh .lent 1 (rowE (eI .i64) a31)), .val (.sh .lent 1 (rowE (eI .i64) a32)), .val (.int .i64 a33)])], 64⟩ = (some (spec_ReceiverFault_u2 a18 a19 a20 a21 a22 a23 a24 a25 a26 a27 a28 a29 a30 a31 a32 a33)).bind (fun t => plug ⟨tab.own, lev tab (n + 5), tab.gl⟩ K .normal ⟨[(1, .pt 200000010 0), (34, .val (.bool t))], [(200000010, .var false [.val (.int .i64 a18), .val (.int .i64 a19), .val (.sh .lent 3 (rowE (SHeld.cells .lent) a20)), .val (.bool a21), .val (.int .i64 a22), .val (.int .i64 a23), .val (.sh .lent 1 (rowE (eI .i64) a24)), .val (.bool a25), .val (.int .i64 a26), .val (.int .i64 a27), .val (.sh .lent 1 (rowE (eI .i64) a28)), .val (.int .i64 a29), .val (.sh .lent 1 (rowE (eI .i64) a30)), .val (.sh .lent 1 (rowE (eI .i64) a31)), .val (.sh .lent 1 (rowE (eI .i64) a32)), .val (.int .i64 a33)])], 64⟩) := by
  unfold c63_u2
  simp +contextual -implicitDefEqProofs (maxSteps := 100000000) only [spec_ReceiverFault_u2, subI, go_sem, ↓ite_not', Nat.reduceEqDiff, Nat.reduceLT, Nat.reduceLeDiff, ↓reduceIte, Nat.reduceAdd, Nat.reduceMul, Nat.reduceSub, Int.reduceEq, Int.reduceLT, Int.reduceLE, Int.reduceToNat, Int.cast_ofNat_Int, Nat.reduceBEq] <;> rfl
@[go_sem] theorem spec_ReceiverFault_ok (n : Nat) (q0_0 : Int) (q0_1 : Int) (q0_2 : List SHeld) (q0_3 : Bool) (q0_4 : Int) (q0_5 : Int) (q0_6 : List Int) (q0_7 : Bool) (q0_8 : Int) (q0_9 : Int) (q0_10 : List Int) (q0_11 : Int) (q0_12 : List Int) (q0_13 : List Int) (q0_14 : List Int) (q0_15 : Int) : lev tab (n + 6) 63 [.agg [.int .i64 q0_0, .int .i64 q0_1, .sh .lent 3 (rowE (SHeld.cells .lent) q0_2), .bool q0_3, .int .i64 q0_4, .int .i64 q0_5, .sh .lent 1 (rowE (eI .i64) q0_6), .bool q0_7, .int .i64 q0_8, .int .i64 q0_9, .sh .lent 1 (rowE (eI .i64) q0_10), .int .i64 q0_11, .sh .lent 1 (rowE (eI .i64) q0_12), .sh .lent 1 (rowE (eI .i64) q0_13), .sh .lent 1 (rowE (eI .i64) q0_14), .int .i64 q0_15]] = (spec_ReceiverFault (SReceiver.mk q0_0 q0_1 q0_2 (SAnchor.mk q0_3 q0_4 q0_5 q0_6) (SAnchor.mk q0_7 q0_8 q0_9 q0_10) (SSynth.mk q0_11 q0_12 q0_13) q0_14 q0_15)).map fun r => (.int .i64 r, [.gone]) := by
  rw [lev_st (vc := c63) (nt := 64) (rs := [(2, none)]) rfl rfl (Nat.le_of_ble_eq_true rfl)]
  unfold c63
  simp +contextual -implicitDefEqProofs (maxSteps := 100000000) only [spec_ReceiverFault, subI, go_sem, ↓ite_not', Nat.reduceEqDiff, Nat.reduceLT, Nat.reduceLeDiff, ↓reduceIte, Nat.reduceAdd, Nat.reduceMul, Nat.reduceSub, Int.reduceEq, Int.reduceLT, Int.reduceLE, Int.reduceToNat, Int.cast_ofNat_Int, Nat.reduceBEq] <;> rfl
-- impl.SizeFault
def impl_SizeFault_u1 (a1 : Int) : Bool :=
  if (a1 != 4) = true then if (a1 != 8) = true then (a1 != 16)
    else false
  else false
def impl_SizeFault (p0 : Int) : Int :=
  let y2 := impl_SizeFault_u1 p0
  if y2 = true then 3
  else 0
@[go_sem] theorem impl_SizeFault_u1_ok {β : Type} (n : Nat) (K : List (Kont β)) (a1 : Int) : run ⟨tab.own, lev tab n, tab.gl⟩ K c163_u1 ⟨[(0, .val (.int .i64 a1))], [], 13⟩ = (some (impl_SizeFault_u1 a1)).bind (fun t => plug ⟨tab.own, lev tab n, tab.gl⟩ K .normal ⟨[(12, .val (.bool t))], [], 13⟩) := by
  unfold c163_u1
  simp +contextual -implicitDefEqProofs (maxSteps := 100000000) only [impl_SizeFault_u1, subI, go_sem, ↓ite_not', Nat.reduceEqDiff, Nat.reduceLT, Nat.reduceLeDiff, ↓reduceIte, Nat.reduceAdd, Nat.reduceMul, Nat.reduceSub, Int.reduceEq, Int.reduceLT, Int.reduceLE, Int.reduceToNat, Int.cast_ofNat_Int, Nat.reduceBEq] <;> rfl
@[go_sem] theorem impl_SizeFault_ok (n : Nat) (q0_0 : Int) : lev tab (n + 1) 163 [.int .i64 q0_0] = (some (impl_SizeFault q0_0)).map fun r => (.int .i64 r, [.gone]) := by
  rw [lev_st (vc := c163) (nt := 13) (rs := [(2, none)]) rfl rfl (Nat.le_of_ble_eq_true rfl)]
  unfold c163
  simp +contextual -implicitDefEqProofs (maxSteps := 100000000) only [impl_SizeFault, subI, go_sem, ↓ite_not', Nat.reduceEqDiff, Nat.reduceLT, Nat.reduceLeDiff, ↓reduceIte, Nat.reduceAdd, Nat.reduceMul, Nat.reduceSub, Int.reduceEq, Int.reduceLT, Int.reduceLE, Int.reduceToNat, Int.cast_ofNat_Int, Nat.reduceBEq] <;> rfl
-- impl.inRange
def impl_inRange_u1 (a1 : Int) (a2 : Int) (a3 : Int) : Bool :=
  if (decide (a2 ≤ a1)) = true then (decide (a1 ≤ a3))
  else false
def impl_inRange (p0 : Int) (p1 : Int) (p2 : Int) : Bool :=
  let y4 := impl_inRange_u1 p0 p1 p2
  y4
@[go_sem] theorem impl_inRange_u1_ok {β : Type} (n : Nat) (K : List (Kont β)) (a1 : Int) (a2 : Int) (a3 : Int) : run ⟨tab.own, lev tab n, tab.gl⟩ K c113_u1 ⟨[(0, .val (.int .i64 a1)), (1, .val (.int .i64 a2)), (2, .val (.int .i64 a3))], [], 15⟩ = (some (impl_inRange_u1 a1 a2 a3)).bind (fun t => plug ⟨tab.own, lev tab n, tab.gl⟩ K .normal ⟨[(6, .val (.bool t))], [], 15⟩) := by
  unfold c113_u1
  simp +contextual -implicitDefEqProofs (maxSteps := 100000000) only [impl_inRange_u1, subI, go_sem, ↓ite_not', Nat.reduceEqDiff, Nat.reduceLT, Nat.reduceLeDiff, ↓reduceIte, Nat.reduceAdd, Nat.reduceMul, Nat.reduceSub, Int.reduceEq, Int.reduceLT, Int.reduceLE, Int.reduceToNat, Int.cast_ofNat_Int, Nat.reduceBEq] <;> rfl
@[go_sem] theorem impl_inRange_ok (n : Nat) (q0_0 : Int) (q1_0 : Int) (q2_0 : Int) : lev tab (n + 1) 113 [.int .i64 q0_0, .int .i64 q1_0, .int .i64 q2_0] = (some (impl_inRange q0_0 q1_0 q2_0)).map fun r => (.bool r, [.gone, .gone, .gone]) := by
  rw [lev_st (vc := c113) (nt := 15) (rs := [(6, none)]) rfl rfl (Nat.le_of_ble_eq_true rfl)]
  unfold c113
  simp +contextual -implicitDefEqProofs (maxSteps := 100000000) only [impl_inRange, subI, go_sem, ↓ite_not', Nat.reduceEqDiff, Nat.reduceLT, Nat.reduceLeDiff, ↓reduceIte, Nat.reduceAdd, Nat.reduceMul, Nat.reduceSub, Int.reduceEq, Int.reduceLT, Int.reduceLE, Int.reduceToNat, Int.cast_ofNat_Int, Nat.reduceBEq] <;> rfl
-- impl.codeIf
def impl_codeIf (p0 : Bool) (p1 : Int) : Int :=
  if p0 = true then p1
  else 0
@[go_sem] theorem impl_codeIf_ok (n : Nat) (q0_0 : Bool) (q1_0 : Int) : lev tab (n + 1) 112 [.bool q0_0, .int .i64 q1_0] = (some (impl_codeIf q0_0 q1_0)).map fun r => (.int .i64 r, [.gone, .gone]) := by
  rw [lev_st (vc := c112) (nt := 7) (rs := [(4, none)]) rfl rfl (Nat.le_of_ble_eq_true rfl)]
  unfold c112
  simp +contextual -implicitDefEqProofs (maxSteps := 100000000) only [impl_codeIf, subI, go_sem, ↓ite_not', Nat.reduceEqDiff, Nat.reduceLT, Nat.reduceLeDiff, ↓reduceIte, Nat.reduceAdd, Nat.reduceMul, Nat.reduceSub, Int.reduceEq, Int.reduceLT, Int.reduceLE, Int.reduceToNat, Int.cast_ofNat_Int, Nat.reduceBEq] <;> rfl
-- impl.within
def impl_within (p0 : Int) (p1 : Int) : Bool :=
  (impl_inRange p0 ((IntKind.i64.wrap (0 - p1))) p1)
@[go_sem] theorem impl_within_ok (n : Nat) (q0_0 : Int) (q1_0 : Int) : lev tab (n + 2) 226 [.int .i64 q0_0, .int .i64 q1_0] = (some (impl_within q0_0 q1_0)).map fun r => (.bool r, [.gone, .gone]) := by
  rw [lev_st (vc := c226) (nt := 10) (rs := [(4, none)]) rfl rfl (Nat.le_of_ble_eq_true rfl)]
  unfold c226
  simp +contextual -implicitDefEqProofs (maxSteps := 100000000) only [impl_within, subI, go_sem, ↓ite_not', Nat.reduceEqDiff, Nat.reduceLT, Nat.reduceLeDiff, ↓reduceIte, Nat.reduceAdd, Nat.reduceMul, Nat.reduceSub, Int.reduceEq, Int.reduceLT, Int.reduceLE, Int.reduceToNat, Int.cast_ofNat_Int, Nat.reduceBEq] <;> rfl
-- impl.allWithin$1
def impl_allWithin_1 (p0 : Int) (p1_0 : Int) : Bool :=
  (!(impl_within p0 p1_0))
@[go_sem] theorem impl_allWithin_1_ok (n : Nat) (q0_0 : Int) (p1_0 : Int) : lev tab (n + 3) 225 [.int .i64 q0_0, .ptr [.int .i64 p1_0]] = (some (impl_allWithin_1 q0_0 p1_0)).map fun r => (.bool r, [.gone, .gone]) := by
  rw [lev_st (vc := c225) (nt := 8) (rs := [(3, none)]) rfl rfl (Nat.le_of_ble_eq_true rfl)]
  unfold c225
  simp +contextual -implicitDefEqProofs (maxSteps := 100000000) only [impl_allWithin_1, subI, go_sem, ↓ite_not', Nat.reduceEqDiff, Nat.reduceLT, Nat.reduceLeDiff, ↓reduceIte, Nat.reduceAdd, Nat.reduceMul, Nat.reduceSub, Int.reduceEq, Int.reduceLT, Int.reduceLE, Int.reduceToNat, Int.cast_ofNat_Int, Nat.reduceBEq] <;> rfl
-- slices.IndexFunc[[]int64,int64]
def slices_IndexFunc_int64_impl_allWithin_1_s1 (a6 : List Int) (a7 : Int) (a8 : Int) : Int → Option ((Int) ⊕ (Unit ⊕ Int)) := fun a9 =>
  if (decide (a9 < a8)) = true then (getI a6 a9).bind fun x10 =>
    if (impl_allWithin_1 x10 a7) = true then some ((.inr ((.inr a9))))
    else some ((.inl ((IntKind.i64.wrap (a9 + 1)))))
  else some ((.inr ((.inl (())))))
def slices_IndexFunc_int64_impl_allWithin_1 (p0 : List Int) (p1_0_0 : Int) : Option (Int) :=
  (loopO (slices_IndexFunc_int64_impl_allWithin_1_s1 p0 p1_0_0 ((p0.length : Int))) 0).bind fun t => (Sum.elim (fun y11 => some ((-1)))
   (fun y12 => some y12)) t
@[go_sem] theorem slices_IndexFunc_int64_impl_allWithin_1_s1_ok {β : Type} (n : Nat) (K : List (Kont β)) (a6 : List Int) (a7 : Int) (a8 : Int) (a9 : Int) : run ⟨tab.own, lev tab (n + 3), tab.gl⟩ K (.loop c200_u1) ⟨[(0, .val (.sh .lent 1 (rowE (eI .i64) a6))), (1, .val (.fn 225 [.ptr [.int .i64 a7]])), (7, .val (.int .i64 a8)), (8, .val (.int .i64 a9))], [], 19⟩ = (loopO (slices_IndexFunc_int64_impl_allWithin_1_s1 a6 a7 a8) a9).bind (fun t => (Sum.elim (fun t => plug ⟨tab.own, lev tab (n + 3), tab.gl⟩ K (.exit 0) ⟨[], [], 19⟩) (fun t => plug ⟨tab.own, lev tab (n + 3), tab.gl⟩ K .ret ⟨[(4, .val (.int .i64 t))], [], 19⟩)) t) := by
  refine loop_run (C := ⟨tab.own, lev tab (n + 3), tab.gl⟩) (K := K) (c := c200_u1) (slices_IndexFunc_int64_impl_allWithin_1_s1 a6 a7 a8) (fun s => ⟨[(0, .val (.sh .lent 1 (rowE (eI .i64) a6))), (1, .val (.fn 225 [.ptr [.int .i64 a7]])), (7, .val (.int .i64 a8)), (8, .val (.int .i64 s))], [], 19⟩) (fun t => (Sum.elim (fun t => plug ⟨tab.own, lev tab (n + 3), tab.gl⟩ K (.exit 0) ⟨[], [], 19⟩) (fun t => plug ⟨tab.own, lev tab (n + 3), tab.gl⟩ K .ret ⟨[(4, .val (.int .i64 t))], [], 19⟩)) t) (fun k s => ?_) a9
  unfold c200_u1
  simp +contextual -implicitDefEqProofs (maxSteps := 100000000) only [slices_IndexFunc_int64_impl_allWithin_1_s1, subI, go_sem, ↓ite_not', Nat.reduceEqDiff, Nat.reduceLT, Nat.reduceLeDiff, ↓reduceIte, Nat.reduceAdd, Nat.reduceMul, Nat.reduceSub, Int.reduceEq, Int.reduceLT, Int.reduceLE, Int.reduceToNat, Int.cast_ofNat_Int, Nat.reduceBEq] <;> rfl
@[go_sem] theorem slices_IndexFunc_int64_impl_allWithin_1_ok (n : Nat) (q0_0 : List Int) (p1_0_0 : Int) : lev tab (n + 4) 200 [.sh .lent 1 (rowE (eI .i64) q0_0), .fn 225 [.ptr [.int .i64 p1_0_0]]] = (slices_IndexFunc_int64_impl_allWithin_1 q0_0 p1_0_0).map fun r => (.int .i64 r, [.gone, .gone]) := by
  rw [lev_st (vc := c200) (nt := 19) (rs := [(4, none)]) rfl rfl (Nat.le_of_ble_eq_true rfl)]
  unfold c200
  simp +contextual -implicitDefEqProofs (maxSteps := 100000000) only [slices_IndexFunc_int64_impl_allWithin_1, subI, go_sem, ↓ite_not', Nat.reduceEqDiff, Nat.reduceLT, Nat.reduceLeDiff, ↓reduceIte, Nat.reduceAdd, Nat.reduceMul, Nat.reduceSub, Int.reduceEq, Int.reduceLT, Int.reduceLE, Int.reduceToNat, Int.cast_ofNat_Int, Nat.reduceBEq] <;> rfl
-- slices.ContainsFunc[[]int64,int64]
def slices_ContainsFunc_int64_impl_allWithin_1 (p0 : List Int) (p1_0_0 : Int) : Option (Bool) :=
  (slices_IndexFunc_int64_impl_allWithin_1 p0 p1_0_0).bind fun r1 =>
  some ((decide (r1 ≥ 0)))
@[go_sem] theorem slices_ContainsFunc_int64_impl_allWithin_1_ok (n : Nat) (q0_0 : List Int) (p1_0_0 : Int) : lev tab (n + 5) 108 [.sh .lent 1 (rowE (eI .i64) q0_0), .fn 225 [.ptr [.int .i64 p1_0_0]]] = (slices_ContainsFunc_int64_impl_allWithin_1 q0_0 p1_0_0).map fun r => (.bool r, [.gone, .gone]) := by
  rw [lev_st (vc := c108) (nt := 9) (rs := [(4, none)]) rfl rfl (Nat.le_of_ble_eq_true rfl)]
  unfold c108
  simp +contextual -implicitDefEqProofs (maxSteps := 100000000) only [slices_ContainsFunc_int64_impl_allWithin_1, subI, go_sem, ↓ite_not', Nat.reduceEqDiff, Nat.reduceLT, Nat.reduceLeDiff, ↓reduceIte, Nat.reduceAdd, Nat.reduceMul, Nat.reduceSub, Int.reduceEq, Int.reduceLT, Int.reduceLE, Int.reduceToNat, Int.cast_ofNat_Int, Nat.reduceBEq] <;> rfl
-- impl.allWithin
def impl_allWithin (p0 : List Int) (p1 : Int) : Option (Bool) :=
  (slices_ContainsFunc_int64_impl_allWithin_1 p0 p1).bind fun r1 =>
  some ((!r1))
@[go_sem] theorem impl_allWithin_ok (n : Nat) (q0_0 : List Int) (q1_0 : Int) : lev tab (n + 6) 164 [.sh .lent 1 (rowE (eI .i64) q0_0), .int .i64 q1_0] = (impl_allWithin q0_0 q1_0).map fun r => (.bool r, [.gone, .gone]) := by
  rw [lev_st (vc := c164) (nt := 9) (rs := [(4, none)]) rfl rfl (Nat.le_of_ble_eq_true rfl)]
  unfold c164
  simp +contextual -implicitDefEqProofs (maxSteps := 100000000) only [impl_allWithin, subI, go_sem, ↓ite_not', Nat.reduceEqDiff, Nat.reduceLT, Nat.reduceLeDiff, ↓reduceIte, Nat.reduceAdd, Nat.reduceMul, Nat.reduceSub, Int.reduceEq, Int.reduceLT, Int.reduceLE, Int.reduceToNat, Int.cast_ofNat_Int, Nat.reduceBEq] <;> rfl
-- impl.halfOf
def impl_halfOf (p0 : List Int) (p1 : Int) : Bool :=
  ((p0.length : Int) == (IntKind.i64.wrap (p1.tdiv (2 : Int))))
@[go_sem] theorem impl_halfOf_ok (n : Nat) (q0_0 : List Int) (q1_0 : Int) : lev tab (n + 1) 227 [.sh .lent 1 (rowE (eI .i64) q0_0), .int .i64 q1_0] = (some (impl_halfOf q0_0 q1_0)).map fun r => (.bool r, [.gone, .gone]) := by
  rw [lev_st (vc := c227) (nt := 10) (rs := [(4, none)]) rfl rfl (Nat.le_of_ble_eq_true rfl)]
  unfold c227
  simp +contextual -implicitDefEqProofs (maxSteps := 100000000) only [impl_halfOf, subI, go_sem, ↓ite_not', Nat.reduceEqDiff, Nat.reduceLT, Nat.reduceLeDiff, ↓reduceIte, Nat.reduceAdd, Nat.reduceMul, Nat.reduceSub, Int.reduceEq, Int.reduceLT, Int.reduceLE, Int.reduceToNat, Int.cast_ofNat_Int, Nat.reduceBEq] <;> rfl
-- impl.first
def impl_first_s1 (a5 : List Int) (a6 : Int) : Int → Option ((Int) ⊕ (Unit ⊕ Int)) := fun a7 =>
  if (decide (a7 < a6)) = true then (getI a5 a7).bind fun x8 =>
    if (x8 != 0) = true then some ((.inr ((.inr x8))))
    else some ((.inl ((IntKind.i64.wrap (a7 + 1)))))
  else some ((.inr ((.inl (())))))
def impl_first (p0 : List Int) : Option (Int) :=
  (loopO (impl_first_s1 p0 ((p0.length : Int))) 0).bind fun t => (Sum.elim (fun y9 => some 0)
   (fun y10 => some y10)) t
@[go_sem] theorem impl_first_s1_ok {β : Type} (n : Nat) (K : List (Kont β)) (a5 : List Int) (a6 : Int) (a7 : Int) : run ⟨tab.own, lev tab n, tab.gl⟩ K (.loop c111_u1) ⟨[(5, .val (.sh .lent 1 (rowE (eI .i64) a5))), (6, .val (.int .i64 a6)), (7, .val (.int .i64 a7))], [], 15⟩ = (loopO (impl_first_s1 a5 a6) a7).bind (fun t => (Sum.elim (fun t => plug ⟨tab.own, lev tab n, tab.gl⟩ K (.exit 0) ⟨[], [], 15⟩) (fun t => plug ⟨tab.own, lev tab n, tab.gl⟩ K .ret ⟨[(2, .val (.int .i64 t))], [], 15⟩)) t) := by
  refine loop_run (C := ⟨tab.own, lev tab n, tab.gl⟩) (K := K) (c := c111_u1) (impl_first_s1 a5 a6) (fun s => ⟨[(5, .val (.sh .lent 1 (rowE (eI .i64) a5))), (6, .val (.int .i64 a6)), (7, .val (.int .i64 s))], [], 15⟩) (fun t => (Sum.elim (fun t => plug ⟨tab.own, lev tab n, tab.gl⟩ K (.exit 0) ⟨[], [], 15⟩) (fun t => plug ⟨tab.own, lev tab n, tab.gl⟩ K .ret ⟨[(2, .val (.int .i64 t))], [], 15⟩)) t) (fun k s => ?_) a7
  unfold c111_u1
  simp +contextual -implicitDefEqProofs (maxSteps := 100000000) only [impl_first_s1, subI, go_sem, ↓ite_not', Nat.reduceEqDiff, Nat.reduceLT, Nat.reduceLeDiff, ↓reduceIte, Nat.reduceAdd, Nat.reduceMul, Nat.reduceSub, Int.reduceEq, Int.reduceLT, Int.reduceLE, Int.reduceToNat, Int.cast_ofNat_Int, Nat.reduceBEq] <;> rfl
@[go_sem] theorem impl_first_ok (n : Nat) (q0_0 : List Int) : lev tab (n + 1) 111 [.sh .lent 1 (rowE (eI .i64) q0_0)] = (impl_first q0_0).map fun r => (.int .i64 r, [.gone]) := by
  rw [lev_st (vc := c111) (nt := 15) (rs := [(2, none)]) rfl rfl (Nat.le_of_ble_eq_true rfl)]
  unfold c111
  simp +contextual -implicitDefEqProofs (maxSteps := 100000000) only [impl_first, subI, go_sem, ↓ite_not', Nat.reduceEqDiff, Nat.reduceLT, Nat.reduceLeDiff, ↓reduceIte, Nat.reduceAdd, Nat.reduceMul, Nat.reduceSub, Int.reduceEq, Int.reduceLT, Int.reduceLE, Int.reduceToNat, Int.cast_ofNat_Int, Nat.reduceBEq] <;> rfl
-- impl.SynthFault
def impl_SynthFault_u1 (a1 : Int) (a2 : List Int) (a3 : List Int) : Option (Int) :=
  if (impl_halfOf a2 a1) = true then (impl_allWithin a2 1073741824).bind fun r4 =>
    if r4 = true then (impl_allWithin a3 268435456).bind fun r5 =>
      (impl_first ([(impl_SizeFault a1), (impl_codeIf ((!(impl_halfOf a3 a1))) 2), (impl_codeIf ((!r5)) 3)])).bind fun r6 =>
      some r6
    else (impl_first ([(impl_SizeFault a1), (impl_codeIf ((!(impl_halfOf a3 a1))) 2), (impl_codeIf true 3)])).bind fun r7 =>
      some r7
  else (impl_allWithin a2 1073741824).bind fun r8 =>
    if r8 = true then (impl_allWithin a3 268435456).bind fun r9 =>
      (impl_first ([(impl_SizeFault a1), (impl_codeIf true 2), (impl_codeIf ((!r9)) 3)])).bind fun r10 =>
      some r10
    else (impl_first ([(impl_SizeFault a1), (impl_codeIf true 2), (impl_codeIf true 3)])).bind fun r11 =>
      some r11
def impl_SynthFault (p0 : SSynth) : Option (Int) :=
  (impl_SynthFault_u1 p0.Size p0.Head p0.Tail).bind fun y12 =>
  some y12
@[go_sem] theorem impl_SynthFault_u1_ok {β : Type} (n : Nat) (K : List (Kont β)) (a1 : Int) (a2 : List Int) (a3 : List Int) : run ⟨tab.own, lev tab (n + 6), tab.gl⟩ K c165_u1 ⟨[(1, .pt 200000010 0)], [(200000010, .var false [.val (.int .i64 a1), .val (.sh .lent 1 (rowE (eI .i64) a2)), .val (.sh .lent 1 (rowE (eI .i64) a3))])], 34⟩ = (impl_SynthFault_u1 a1 a2 a3).bind (fun t => plug ⟨tab.own, lev tab (n + 6), tab.gl⟩ K .normal ⟨[(2, .val (.int .i64 t))], [], 34⟩) := by
  unfold c165_u1
  simp +contextual -implicitDefEqProofs (maxSteps := 100000000) only [impl_SynthFault_u1, subI, go_sem, ↓ite_not', Nat.reduceEqDiff, Nat.reduceLT, Nat.reduceLeDiff, ↓reduceIte, Nat.reduceAdd, Nat.reduceMul, Nat.reduceSub, Int.reduceEq, Int.reduceLT, Int.reduceLE, Int.reduceToNat, Int.cast_ofNat_Int, Nat.reduceBEq] <;> rfl
@[go_sem] theorem impl_SynthFault_ok (n : Nat) (q0_0 : Int) (q0_1 : List Int) (q0_2 : List Int) : lev tab (n + 7) 165 [.agg [.int .i64 q0_0, .sh .lent 1 (rowE (eI .i64) q0_1), .sh .lent 1 (rowE (eI .i64) q0_2)]] = (impl_SynthFault (SSynth.mk q0_0 q0_1 q0_2)).map fun r => (.int .i64 r, [.gone]) := by
  rw [lev_st (vc := c165) (nt := 34) (rs := [(2, none)]) rfl rfl (Nat.le_of_ble_eq_true rfl)]
  unfold c165
  simp +contextual -implicitDefEqProofs (maxSteps := 100000000) only [impl_SynthFault, subI, go_sem, ↓ite_not', Nat.reduceEqDiff, Nat.reduceLT, Nat.reduceLeDiff, ↓reduceIte, Nat.reduceAdd, Nat.reduceMul, Nat.reduceSub, Int.reduceEq, Int.reduceLT, Int.reduceLE, Int.reduceToNat, Int.cast_ofNat_Int, Nat.reduceBEq] <;> rfl
-- impl.AnchorFault$1
def impl_AnchorFault_1 (p0 : Int) : Bool :=
  (!(impl_inRange p0 0 65535))
@[go_sem] theorem impl_AnchorFault_1_ok (n : Nat) (q0_0 : Int) : lev tab (n + 2) 228 [.int .i64 q0_0] = (some (impl_AnchorFault_1 q0_0)).map fun r => (.bool r, [.gone]) := by
  rw [lev_st (vc := c228) (nt := 6) (rs := [(2, none)]) rfl rfl (Nat.le_of_ble_eq_true rfl)]
  unfold c228
  simp +contextual -implicitDefEqProofs (maxSteps := 100000000) only [impl_AnchorFault_1, subI, go_sem, ↓ite_not', Nat.reduceEqDiff, Nat.reduceLT, Nat.reduceLeDiff, ↓reduceIte, Nat.reduceAdd, Nat.reduceMul, Nat.reduceSub, Int.reduceEq, Int.reduceLT, Int.reduceLE, Int.reduceToNat, Int.cast_ofNat_Int, Nat.reduceBEq] <;> rfl
-- slices.IndexFunc[[]int64,int64]
def slices_IndexFunc_int64_impl_AnchorFault_1_s1 (a5 : List Int) (a6 : Int) : Int → Option ((Int) ⊕ (Unit ⊕ Int)) := fun a7 =>
  if (decide (a7 < a6)) = true then (getI a5 a7).bind fun x8 =>
    if (impl_AnchorFault_1 x8) = true then some ((.inr ((.inr a7))))
    else some ((.inl ((IntKind.i64.wrap (a7 + 1)))))
  else some ((.inr ((.inl (())))))
def slices_IndexFunc_int64_impl_AnchorFault_1 (p0 : List Int) : Option (Int) :=
  (loopO (slices_IndexFunc_int64_impl_AnchorFault_1_s1 p0 ((p0.length : Int))) 0).bind fun t => (Sum.elim (fun y9 => some ((-1)))
   (fun y10 => some y10)) t
@[go_sem] theorem slices_IndexFunc_int64_impl_AnchorFault_1_s1_ok {β : Type} (n : Nat) (K : List (Kont β)) (a5 : List Int) (a6 : Int) (a7 : Int) : run ⟨tab.own, lev tab (n + 2), tab.gl⟩ K (.loop c200_u1) ⟨[(0, .val (.sh .lent 1 (rowE (eI .i64) a5))), (1, .val (.fn 228 [])), (7, .val (.int .i64 a6)), (8, .val (.int .i64 a7))], [], 19⟩ = (loopO (slices_IndexFunc_int64_impl_AnchorFault_1_s1 a5 a6) a7).bind (fun t => (Sum.elim (fun t => plug ⟨tab.own, lev tab (n + 2), tab.gl⟩ K (.exit 0) ⟨[], [], 19⟩) (fun t => plug ⟨tab.own, lev tab (n + 2), tab.gl⟩ K .ret ⟨[(4, .val (.int .i64 t))], [], 19⟩)) t) := by
  refine loop_run (C := ⟨tab.own, lev tab (n + 2), tab.gl⟩) (K := K) (c := c200_u1) (slices_IndexFunc_int64_impl_AnchorFault_1_s1 a5 a6) (fun s => ⟨[(0, .val (.sh .lent 1 (rowE (eI .i64) a5))), (1, .val (.fn 228 [])), (7, .val (.int .i64 a6)), (8, .val (.int .i64 s))], [], 19⟩) (fun t => (Sum.elim (fun t => plug ⟨tab.own, lev tab (n + 2), tab.gl⟩ K (.exit 0) ⟨[], [], 19⟩) (fun t => plug ⟨tab.own, lev tab (n + 2), tab.gl⟩ K .ret ⟨[(4, .val (.int .i64 t))], [], 19⟩)) t) (fun k s => ?_) a7
  unfold c200_u1
  simp +contextual -implicitDefEqProofs (maxSteps := 100000000) only [slices_IndexFunc_int64_impl_AnchorFault_1_s1, subI, go_sem, ↓ite_not', Nat.reduceEqDiff, Nat.reduceLT, Nat.reduceLeDiff, ↓reduceIte, Nat.reduceAdd, Nat.reduceMul, Nat.reduceSub, Int.reduceEq, Int.reduceLT, Int.reduceLE, Int.reduceToNat, Int.cast_ofNat_Int, Nat.reduceBEq] <;> rfl
@[go_sem] theorem slices_IndexFunc_int64_impl_AnchorFault_1_ok (n : Nat) (q0_0 : List Int) : lev tab (n + 3) 200 [.sh .lent 1 (rowE (eI .i64) q0_0), .fn 228 []] = (slices_IndexFunc_int64_impl_AnchorFault_1 q0_0).map fun r => (.int .i64 r, [.gone, .gone]) := by
  rw [lev_st (vc := c200) (nt := 19) (rs := [(4, none)]) rfl rfl (Nat.le_of_ble_eq_true rfl)]
  unfold c200
  simp +contextual -implicitDefEqProofs (maxSteps := 100000000) only [slices_IndexFunc_int64_impl_AnchorFault_1, subI, go_sem, ↓ite_not', Nat.reduceEqDiff, Nat.reduceLT, Nat.reduceLeDiff, ↓reduceIte, Nat.reduceAdd, Nat.reduceMul, Nat.reduceSub, Int.reduceEq, Int.reduceLT, Int.reduceLE, Int.reduceToNat, Int.cast_ofNat_Int, Nat.reduceBEq] <;> rfl
-- slices.ContainsFunc[[]int64,int64]
def slices_ContainsFunc_int64_impl_AnchorFault_1 (p0 : List Int) : Option (Bool) :=
  (slices_IndexFunc_int64_impl_AnchorFault_1 p0).bind fun r1 =>
  some ((decide (r1 ≥ 0)))
@[go_sem] theorem slices_ContainsFunc_int64_impl_AnchorFault_1_ok (n : Nat) (q0_0 : List Int) : lev tab (n + 4) 108 [.sh .lent 1 (rowE (eI .i64) q0_0), .fn 228 []] = (slices_ContainsFunc_int64_impl_AnchorFault_1 q0_0).map fun r => (.bool r, [.gone, .gone]) := by
  rw [lev_st (vc := c108) (nt := 9) (rs := [(4, none)]) rfl rfl (Nat.le_of_ble_eq_true rfl)]
  unfold c108
  simp +contextual -implicitDefEqProofs (maxSteps := 100000000) only [slices_ContainsFunc_int64_impl_AnchorFault_1, subI, go_sem, ↓ite_not', Nat.reduceEqDiff, Nat.reduceLT, Nat.reduceLeDiff, ↓reduceIte, Nat.reduceAdd, Nat.reduceMul, Nat.reduceSub, Int.reduceEq, Int.reduceLT, Int.reduceLE, Int.reduceToNat, Int.cast_ofNat_Int, Nat.reduceBEq] <;> rfl
-- impl.isNumber
def impl_isNumber (p0 : Int) : Bool :=
  (impl_inRange p0 0 9999)
@[go_sem] theorem impl_isNumber_ok (n : Nat) (q0_0 : Int) : lev tab (n + 2) 124 [.int .i64 q0_0] = (some (impl_isNumber q0_0)).map fun r => (.bool r, [.gone]) := by
  rw [lev_st (vc := c124) (nt := 5) (rs := [(2, none)]) rfl rfl (Nat.le_of_ble_eq_true rfl)]
  unfold c124
  simp +contextual -implicitDefEqProofs (maxSteps := 100000000) only [impl_isNumber, subI, go_sem, ↓ite_not', Nat.reduceEqDiff, Nat.reduceLT, Nat.reduceLeDiff, ↓reduceIte, Nat.reduceAdd, Nat.reduceMul, Nat.reduceSub, Int.reduceEq, Int.reduceLT, Int.reduceLE, Int.reduceToNat, Int.cast_ofNat_Int, Nat.reduceBEq] <;> rfl
-- impl.isRung
def impl_isRung (p0 : Int) : Bool :=
  (impl_inRange p0 0 47)
@[go_sem] theorem impl_isRung_ok (n : Nat) (q0_0 : Int) : lev tab (n + 2) 229 [.int .i64 q0_0] = (some (impl_isRung q0_0)).map fun r => (.bool r, [.gone]) := by
  rw [lev_st (vc := c229) (nt := 5) (rs := [(2, none)]) rfl rfl (Nat.le_of_ble_eq_true rfl)]
  unfold c229
  simp +contextual -implicitDefEqProofs (maxSteps := 100000000) only [impl_isRung, subI, go_sem, ↓ite_not', Nat.reduceEqDiff, Nat.reduceLT, Nat.reduceLeDiff, ↓reduceIte, Nat.reduceAdd, Nat.reduceMul, Nat.reduceSub, Int.reduceEq, Int.reduceLT, Int.reduceLE, Int.reduceToNat, Int.cast_ofNat_Int, Nat.reduceBEq] <;> rfl
-- impl.AnchorFault
def impl_AnchorFault_u1 (a2 : Bool) (a3 : Int) (a4 : Int) (a5 : List Int) (a6 : Bool) : Option (Int) :=
  if (impl_isNumber a3) = true then (impl_first ([(impl_codeIf ((!(impl_isRung a4))) 3), (impl_codeIf ((!(impl_inRange ((a5.length : Int)) 1 2))) 2), (impl_codeIf a6 3)])).bind fun r7 =>
    some r7
  else (impl_first ([(impl_codeIf true 3), (impl_codeIf ((!(impl_inRange ((a5.length : Int)) 1 2))) 2), (impl_codeIf a6 3)])).bind fun r8 =>
    some r8
def impl_AnchorFault_u2 (a10 : Bool) (a11 : Int) (a12 : Int) (a13 : List Int) : Int :=
  if (a11 != 0) = true then (impl_codeIf true 1)
  else if (a12 != 0) = true then (impl_codeIf true 1)
    else (impl_codeIf ((decide ((a13.length : Int) > 0))) 1)
def impl_AnchorFault (p0 : SAnchor) : Option (Int) :=
  if p0.Known = true then (slices_ContainsFunc_int64_impl_AnchorFault_1 p0.Gains).bind fun r1 =>
    (impl_AnchorFault_u1 p0.Known p0.Number p0.Rung p0.Gains r1).bind fun y9 =>
    some y9
  else let y14 := impl_AnchorFault_u2 p0.Known p0.Number p0.Rung p0.Gains
    some y14
@[go_sem] theorem impl_AnchorFault_u1_ok {β : Type} (n : Nat) (K : List (Kont β)) (a2 : Bool) (a3 : Int) (a4 : Int) (a5 : List Int) (a6 : Bool) : run ⟨tab.own, lev tab (n + 4), tab.gl⟩ K c166_u1 ⟨[(1, .pt 200000010 0), (3, .val (.bool a6))], [(200000010, .var false [.val (.bool a2), .val (.int .i64 a3), .val (.int .i64 a4), .val (.sh .lent 1 (rowE (eI .i64) a5))])], 46⟩ = (impl_AnchorFault_u1 a2 a3 a4 a5 a6).bind (fun t => plug ⟨tab.own, lev tab (n + 4), tab.gl⟩ K .normal ⟨[(2, .val (.int .i64 t))], [], 46⟩) := by
  unfold c166_u1
  simp +contextual -implicitDefEqProofs (maxSteps := 100000000) only [impl_AnchorFault_u1, subI, go_sem, ↓ite_not', Nat.reduceEqDiff, Nat.reduceLT, Nat.reduceLeDiff, ↓reduceIte, Nat.reduceAdd, Nat.reduceMul, Nat.reduceSub, Int.reduceEq, Int.reduceLT, Int.reduceLE, Int.reduceToNat, Int.cast_ofNat_Int, Nat.reduceBEq] <;> rfl
@[go_sem] theorem impl_AnchorFault_u2_ok {β : Type} (n : Nat) (K : List (Kont β)) (a10 : Bool) (a11 : Int) (a12 : Int) (a13 : List Int) : run ⟨tab.own, lev tab (n + 4), tab.gl⟩ K c166_u2 ⟨[(1, .pt 200000010 0)], [(200000010, .var false [.val (.bool a10), .val (.int .i64 a11), .val (.int .i64 a12), .val (.sh .lent 1 (rowE (eI .i64) a13))])], 46⟩ = (some (impl_AnchorFault_u2 a10 a11 a12 a13)).bind (fun t => plug ⟨tab.own, lev tab (n + 4), tab.gl⟩ K .normal ⟨[(2, .val (.int .i64 t))], [], 46⟩) := by
  unfold c166_u2
  simp +contextual -implicitDefEqProofs (maxSteps := 100000000) only [impl_AnchorFault_u2, subI, go_sem, ↓ite_not', Nat.reduceEqDiff, Nat.reduceLT, Nat.reduceLeDiff, ↓reduceIte, Nat.reduceAdd, Nat.reduceMul, Nat.reduceSub, Int.reduceEq, Int.reduceLT, Int.reduceLE, Int.reduceToNat, Int.cast_ofNat_Int, Nat.reduceBEq] <;> rfl
@[go_sem] theorem impl_AnchorFault_ok (n : Nat) (q0_0 : Bool) (q0_1 : Int) (q0_2 : Int) (q0_3 : List Int) : lev tab (n + 5) 166 [.agg [.bool q0_0, .int .i64 q0_1, .int .i64 q0_2, .sh .lent 1 (rowE (eI .i64) q0_3)]] = (impl_AnchorFault (SAnchor.mk q0_0 q0_1 q0_2 q0_3)).map fun r => (.int .i64 r, [.gone]) := by
  rw [lev_st (vc := c166) (nt := 46) (rs := [(2, none)]) rfl rfl (Nat.le_of_ble_eq_true rfl)]
  unfold c166
  simp +contextual -implicitDefEqProofs (maxSteps := 100000000) only [impl_AnchorFault, subI, go_sem, ↓ite_not', Nat.reduceEqDiff, Nat.reduceLT, Nat.reduceLeDiff, ↓reduceIte, Nat.reduceAdd, Nat.reduceMul, Nat.reduceSub, Int.reduceEq, Int.reduceLT, Int.reduceLE, Int.reduceToNat, Int.cast_ofNat_Int, Nat.reduceBEq] <;> rfl
-- impl.crcOf
def impl_crcOf_u8 (a87 : Int) (a88 : Int) (a89 : Int) (a90 : List Int) (a91 : Int) (a92 : Int) (a93 : Bool) : Int :=
  if a93 = true then (IntKind.i64.wrap ((BitVec.ofInt IntKind.i64.bits a87 ^^^ BitVec.ofInt IntKind.i64.bits 4129).toNat))
  else a87
def impl_crcOf_u9 (a81 : Int) (a82 : Int) (a83 : Int) (a84 : List Int) (a85 : Int) (a86 : Int) : Option (Int) :=
  if a83 < 0 then none
  else let y94 := impl_crcOf_u8 ((IntKind.i64.wrap ((BitVec.ofInt IntKind.i64.bits ((IntKind.i64.wrap (a81 * 2 ^ (min 1 64)))) &&& BitVec.ofInt IntKind.i64.bits 65535).toNat))) a82 a83 a84 a85 a86 (((a81.fdiv (2 ^ (min 15 64))) != (IntKind.i64.wrap (IntKind.u8.wrap ((BitVec.ofInt IntKind.u8.bits ((a82.fdiv (2 ^ (min a83.toNat 8)))) &&& BitVec.ofInt IntKind.u8.bits 1).toNat)))))
    some y94
def impl_crcOf_s10 (a76 : Int) (a78 : List Int) (a79 : Int) (a80 : Int) : (Int × Int) → Option ((Int × Int) ⊕ (Int)) := fun ⟨a75, a77⟩ =>
  if (decide (a77 ≥ 0)) = true then (impl_crcOf_u9 a75 a76 a77 a78 a79 a80).bind fun y95 =>
    some ((.inl ((y95, (IntKind.i64.wrap (a77 - 1))))))
  else some ((.inr a75))
def impl_crcOf_s11 (a50 : List Int) (a51 : Int) : (Int × Int) → Option ((Int × Int) ⊕ (Int)) := fun ⟨a49, a52⟩ =>
  if (decide (a52 < a51)) = true then (getI a50 a52).bind fun x53 =>
    (loopO (impl_crcOf_s10 x53 a50 a51 a52) ((a49, 7))).bind fun y96 =>
    some ((.inl ((y96, (IntKind.i64.wrap (a52 + 1))))))
  else some ((.inr a49))
def impl_crcOf (p0 : List Int) : Option (Int) :=
  (loopO (impl_crcOf_s11 p0 ((p0.length : Int))) ((65535, 0))).bind fun y97 =>
  some y97
@[go_sem] theorem impl_crcOf_u8_ok {β : Type} (n : Nat) (K : List (Kont β)) (a87 : Int) (a88 : Int) (a89 : Int) (a90 : List Int) (a91 : Int) (a92 : Int) (a93 : Bool) : run ⟨tab.own, lev tab n, tab.gl⟩ K c252_u8 ⟨[(3, .val (.int .i64 a87)), (5, .val (.int .u8 a88)), (6, .val (.int .i64 a89)), (8, .val (.sh .lent 1 (rowE (eI .u8) a90))), (9, .val (.int .i64 a91)), (10, .val (.int .i64 a92)), (29, .val (.bool a93))], [], 34⟩ = (some (impl_crcOf_u8 a87 a88 a89 a90 a91 a92 a93)).bind (fun t => plug ⟨tab.own, lev tab n, tab.gl⟩ K .normal ⟨[(3, .val (.int .i64 t)), (5, .val (.int .u8 a88)), (6, .val (.int .i64 a89)), (8, .val (.sh .lent 1 (rowE (eI .u8) a90))), (9, .val (.int .i64 a91)), (10, .val (.int .i64 a92))], [], 34⟩) := by
  unfold c252_u8
  simp +contextual -implicitDefEqProofs (maxSteps := 100000000) only [impl_crcOf_u8, subI, go_sem, ↓ite_not', Nat.reduceEqDiff, Nat.reduceLT, Nat.reduceLeDiff, ↓reduceIte, Nat.reduceAdd, Nat.reduceMul, Nat.reduceSub, Int.reduceEq, Int.reduceLT, Int.reduceLE, Int.reduceToNat, Int.cast_ofNat_Int, Nat.reduceBEq] <;> rfl
@[go_sem] theorem impl_crcOf_u9_ok {β : Type} (n : Nat) (K : List (Kont β)) (a81 : Int) (a82 : Int) (a83 : Int) (a84 : List Int) (a85 : Int) (a86 : Int) : run ⟨tab.own, lev tab n, tab.gl⟩ K c252_u9 ⟨[(3, .val (.int .i64 a81)), (5, .val (.int .u8 a82)), (6, .val (.int .i64 a83)), (8, .val (.sh .lent 1 (rowE (eI .u8) a84))), (9, .val (.int .i64 a85)), (10, .val (.int .i64 a86))], [], 34⟩ = (impl_crcOf_u9 a81 a82 a83 a84 a85 a86).bind (fun t => plug ⟨tab.own, lev tab n, tab.gl⟩ K .normal ⟨[(3, .val (.int .i64 t)), (5, .val (.int .u8 a82)), (6, .val (.int .i64 a83)), (8, .val (.sh .lent 1 (rowE (eI .u8) a84))), (9, .val (.int .i64 a85)), (10, .val (.int .i64 a86))], [], 34⟩) := by
  unfold c252_u9
  simp +contextual -implicitDefEqProofs (maxSteps := 100000000) only [impl_crcOf_u9, subI, go_sem, ↓ite_not', Nat.reduceEqDiff, Nat.reduceLT, Nat.reduceLeDiff, ↓reduceIte, Nat.reduceAdd, Nat.reduceMul, Nat.reduceSub, Int.reduceEq, Int.reduceLT, Int.reduceLE, Int.reduceToNat, Int.cast_ofNat_Int, Nat.reduceBEq] <;> rfl
@[go_sem] theorem impl_crcOf_s10_ok {β : Type} (n : Nat) (K : List (Kont β)) (a75 : Int) (a76 : Int) (a77 : Int) (a78 : List Int) (a79 : Int) (a80 : Int) : run ⟨tab.own, lev tab n, tab.gl⟩ K (.loop c252_u10) ⟨[(3, .val (.int .i64 a75)), (5, .val (.int .u8 a76)), (6, .val (.int .i64 a77)), (8, .val (.sh .lent 1 (rowE (eI .u8) a78))), (9, .val (.int .i64 a79)), (10, .val (.int .i64 a80))], [], 34⟩ = (loopO (impl_crcOf_s10 a76 a78 a79 a80) ((a75, a77))).bind (fun t => plug ⟨tab.own, lev tab n, tab.gl⟩ K (.exit 2) ⟨[(3, .val (.int .i64 t)), (8, .val (.sh .lent 1 (rowE (eI .u8) a78))), (9, .val (.int .i64 a79)), (10, .val (.int .i64 a80))], [], 34⟩) := by
  refine loop_run (C := ⟨tab.own, lev tab n, tab.gl⟩) (K := K) (c := c252_u10) (impl_crcOf_s10 a76 a78 a79 a80) (fun s => ⟨[(3, .val (.int .i64 s.1)), (5, .val (.int .u8 a76)), (6, .val (.int .i64 s.2)), (8, .val (.sh .lent 1 (rowE (eI .u8) a78))), (9, .val (.int .i64 a79)), (10, .val (.int .i64 a80))], [], 34⟩) (fun t => plug ⟨tab.own, lev tab n, tab.gl⟩ K (.exit 2) ⟨[(3, .val (.int .i64 t)), (8, .val (.sh .lent 1 (rowE (eI .u8) a78))), (9, .val (.int .i64 a79)), (10, .val (.int .i64 a80))], [], 34⟩) (fun k s => ?_) ((a75, a77))
  obtain ⟨a75, a77⟩ := s
  unfold c252_u10
  simp +contextual -implicitDefEqProofs (maxSteps := 100000000) only [impl_crcOf_s10, subI, go_sem, ↓ite_not', Nat.reduceEqDiff, Nat.reduceLT, Nat.reduceLeDiff, ↓reduceIte, Nat.reduceAdd, Nat.reduceMul, Nat.reduceSub, Int.reduceEq, Int.reduceLT, Int.reduceLE, Int.reduceToNat, Int.cast_ofNat_Int, Nat.reduceBEq] <;> rfl
@[go_sem] theorem impl_crcOf_s11_ok {β : Type} (n : Nat) (K : List (Kont β)) (a49 : Int) (a50 : List Int) (a51 : Int) (a52 : Int) : run ⟨tab.own, lev tab n, tab.gl⟩ K (.loop c252_u11) ⟨[(3, .val (.int .i64 a49)), (8, .val (.sh .lent 1 (rowE (eI .u8) a50))), (9, .val (.int .i64 a51)), (10, .val (.int .i64 a52))], [], 34⟩ = (loopO (impl_crcOf_s11 a50 a51) ((a49, a52))).bind (fun t => plug ⟨tab.own, lev tab n, tab.gl⟩ K (.exit 0) ⟨[(3, .val (.int .i64 t))], [], 34⟩) := by
  refine loop_run (C := ⟨tab.own, lev tab n, tab.gl⟩) (K := K) (c := c252_u11) (impl_crcOf_s11 a50 a51) (fun s => ⟨[(3, .val (.int .i64 s.1)), (8, .val (.sh .lent 1 (rowE (eI .u8) a50))), (9, .val (.int .i64 a51)), (10, .val (.int .i64 s.2))], [], 34⟩) (fun t => plug ⟨tab.own, lev tab n, tab.gl⟩ K (.exit 0) ⟨[(3, .val (.int .i64 t))], [], 34⟩) (fun k s => ?_) ((a49, a52))
  obtain ⟨a49, a52⟩ := s
  unfold c252_u11
  simp +contextual -implicitDefEqProofs (maxSteps := 100000000) only [impl_crcOf_s11, subI, go_sem, ↓ite_not', Nat.reduceEqDiff, Nat.reduceLT, Nat.reduceLeDiff, ↓reduceIte, Nat.reduceAdd, Nat.reduceMul, Nat.reduceSub, Int.reduceEq, Int.reduceLT, Int.reduceLE, Int.reduceToNat, Int.cast_ofNat_Int, Nat.reduceBEq] <;> rfl
@[go_sem] theorem impl_crcOf_ok (n : Nat) (q0_0 : List Int) : lev tab (n + 1) 252 [.sh .lent 1 (rowE (eI .u8) q0_0)] = (impl_crcOf q0_0).map fun r => (.int .i64 r, [.gone]) := by
  rw [lev_st (vc := c252) (nt := 34) (rs := [(2, none)]) rfl rfl (Nat.le_of_ble_eq_true rfl)]
  unfold c252
  simp +contextual -implicitDefEqProofs (maxSteps := 100000000) only [impl_crcOf, subI, go_sem, ↓ite_not', Nat.reduceEqDiff, Nat.reduceLT, Nat.reduceLeDiff, ↓reduceIte, Nat.reduceAdd, Nat.reduceMul, Nat.reduceSub, Int.reduceEq, Int.reduceLT, Int.reduceLE, Int.reduceToNat, Int.cast_ofNat_Int, Nat.reduceBEq] <;> rfl
-- impl.twoBytes
def impl_twoBytes (p0 : Int) : (List Int) :=
  [(IntKind.u8.wrap (p0.fdiv (2 ^ (min 8 64)))), (IntKind.u8.wrap p0)]
@[go_sem] theorem impl_twoBytes_ok (n : Nat) (q0_0 : Int) : lev tab (n + 1) 251 [.int .i64 q0_0] = (some (impl_twoBytes q0_0)).map fun r => (.ow 1 (rowE (eI .u8) r), [.gone]) := by
  rw [lev_st (vc := c251) (nt := 9) (rs := [(2, none)]) rfl rfl (Nat.le_of_ble_eq_true rfl)]
  unfold c251
  simp +contextual -implicitDefEqProofs (maxSteps := 100000000) only [impl_twoBytes, subI, go_sem, ↓ite_not', Nat.reduceEqDiff, Nat.reduceLT, Nat.reduceLeDiff, ↓reduceIte, Nat.reduceAdd, Nat.reduceMul, Nat.reduceSub, Int.reduceEq, Int.reduceLT, Int.reduceLE, Int.reduceToNat, Int.cast_ofNat_Int, Nat.reduceBEq] <;> rfl
-- bytes.Equal
def bytes_Equal (p0 : List Int) (p1 : List Int) : Option (Bool) :=
  (bytesI p0).bind fun x1 =>
  (bytesI p1).bind fun x2 =>
  some ((x1 == x2))
@[go_sem] theorem bytes_Equal_ok (n : Nat) (q0_0 : List Int) (q1_0 : List Int) : lev tab (n + 1) 179 [.sh .lent 1 (rowE (eI .u8) q0_0), .sh .lent 1 (rowE (eI .u8) q1_0)] = (bytes_Equal q0_0 q1_0).map fun r => (.bool r, [.gone, .gone]) := by
  rw [lev_st (vc := c179) (nt := 10) (rs := [(4, none)]) rfl rfl (Nat.le_of_ble_eq_true rfl)]
  unfold c179
  simp +contextual -implicitDefEqProofs (maxSteps := 100000000) only [bytes_Equal, subI, go_sem, ↓ite_not', Nat.reduceEqDiff, Nat.reduceLT, Nat.reduceLeDiff, ↓reduceIte, Nat.reduceAdd, Nat.reduceMul, Nat.reduceSub, Int.reduceEq, Int.reduceLT, Int.reduceLE, Int.reduceToNat, Int.cast_ofNat_Int, Nat.reduceBEq] <;> rfl
-- slices.Clone[[]byte,byte]
def slices_Clone_byte (p0 : List Int) : Option ((List Int)) :=
  if (okApp 1 p0.length) = true then some p0
  else none
@[go_sem] theorem slices_Clone_byte_ok (n : Nat) (q0_0 : List Int) : lev tab (n + 1) 145 [.sh .lent 1 (rowE (eI .u8) q0_0)] = (slices_Clone_byte q0_0).map fun r => (.ow 1 (rowE (eI .u8) r), [.gone]) := by
  cases q0_0 with
  | nil =>
    rw [lev_st (vc := c145) (nt := 8) (rs := [(2, none)]) rfl rfl (Nat.le_of_ble_eq_true rfl)]
    unfold c145
    simp +contextual -implicitDefEqProofs (maxSteps := 100000000) only [slices_Clone_byte, rowE_nil, List.length_nil, subI, go_sem, ↓ite_not', Nat.reduceEqDiff, Nat.reduceLT, Nat.reduceLeDiff, ↓reduceIte, Nat.reduceAdd, Nat.reduceMul, Nat.reduceSub, Int.reduceEq, Int.reduceLT, Int.reduceLE, Int.reduceToNat, Int.cast_ofNat_Int, Nat.reduceBEq] <;> rfl
  | cons y ys =>
    rw [lev_st (vc := c145) (nt := 8) (rs := [(2, none)]) rfl rfl (Nat.le_of_ble_eq_true rfl)]
    unfold c145
    simp +contextual -implicitDefEqProofs (maxSteps := 100000000) only [slices_Clone_byte, subI, go_sem, ↓ite_not', Nat.reduceEqDiff, Nat.reduceLT, Nat.reduceLeDiff, ↓reduceIte, Nat.reduceAdd, Nat.reduceMul, Nat.reduceSub, Int.reduceEq, Int.reduceLT, Int.reduceLE, Int.reduceToNat, Int.cast_ofNat_Int, Nat.reduceBEq] <;> rfl
-- impl.OpenBytes
def impl_OpenBytes (p0 : List Int) : Option (SBytesResult) :=
  if (impl_inRange ((p0.length : Int)) 2 160) = true then (subI p0 ((IntKind.i64.wrap ((p0.length : Int) - 2))) (p0.length : Int)).bind fun x1 =>
    (subI p0 0 ((IntKind.i64.wrap ((p0.length : Int) - 2)))).bind fun x2 =>
    (impl_crcOf x2).bind fun r3 =>
    (bytes_Equal x1 ((impl_twoBytes r3))).bind fun r4 =>
    if r4 = true then (subI p0 0 ((IntKind.i64.wrap ((p0.length : Int) - 2)))).bind fun x5 =>
      (slices_Clone_byte x5).bind fun r6 =>
      some ((SBytesResult.mk 0 r6))
    else some ((SBytesResult.mk 10 ([])))
  else some ((SBytesResult.mk 2 ([])))
@[go_sem] theorem impl_OpenBytes_ok (n : Nat) (q0_0 : List Int) : lev tab (n + 2) 243 [.sh .lent 1 (rowE (eI .u8) q0_0)] = (impl_OpenBytes q0_0).map fun r => (.agg [.int .i64 r.Code, .ow 1 (rowE (eI .u8) r.Bytes)], [.gone]) := by
  rw [lev_st (vc := c243) (nt := 28) (rs := [(2, some (some 2))]) rfl rfl (Nat.le_of_ble_eq_true rfl)]
  unfold c243
  simp +contextual -implicitDefEqProofs (maxSteps := 100000000) only [impl_OpenBytes, subI, go_sem, ↓ite_not', Nat.reduceEqDiff, Nat.reduceLT, Nat.reduceLeDiff, ↓reduceIte, Nat.reduceAdd, Nat.reduceMul, Nat.reduceSub, Int.reduceEq, Int.reduceLT, Int.reduceLE, Int.reduceToNat, Int.cast_ofNat_Int, Nat.reduceBEq] <;> rfl
-- impl.isSpread
def impl_isSpread (p0 : Int) : Bool :=
  (impl_inRange p0 0 2)
@[go_sem] theorem impl_isSpread_ok (n : Nat) (q0_0 : Int) : lev tab (n + 2) 116 [.int .i64 q0_0] = (some (impl_isSpread q0_0)).map fun r => (.bool r, [.gone]) := by
  rw [lev_st (vc := c116) (nt := 5) (rs := [(2, none)]) rfl rfl (Nat.le_of_ble_eq_true rfl)]
  unfold c116
  simp +contextual -implicitDefEqProofs (maxSteps := 100000000) only [impl_isSpread, subI, go_sem, ↓ite_not', Nat.reduceEqDiff, Nat.reduceLT, Nat.reduceLeDiff, ↓reduceIte, Nat.reduceAdd, Nat.reduceMul, Nat.reduceSub, Int.reduceEq, Int.reduceLT, Int.reduceLE, Int.reduceToNat, Int.cast_ofNat_Int, Nat.reduceBEq] <;> rfl
-- impl.readHead
def impl_readHead_u1 (a4 : Int) (a5 : Int) (a6 : Int) (a7 : Int) (a8 : Int) (a9 : Bool) (a10 : Int) : Bool :=
  if (impl_isNumber a4) = true then if (impl_isSpread a7) = true then (decide ((a10.fdiv (2 ^ (min 6 64))) < 3))
    else false
  else false
def impl_readHead (p0 : List Int) : Option (SHead × Bool) :=
  if (decide ((p0.length : Int) < 3)) = true then some (((SHead.mk 0 0 0 0 0 false), false))
  else (getI p0 2).bind fun x1 =>
    (getI p0 0).bind fun x2 =>
    (getI p0 1).bind fun x3 =>
    if ((((IntKind.i64.wrap x1)).fdiv (2 ^ (min 6 64)))) < 0 then none
    else let y11 := impl_readHead_u1 ((IntKind.i64.wrap ((BitVec.ofInt IntKind.i64.bits ((IntKind.i64.wrap ((IntKind.i64.wrap x2) * 2 ^ (min 8 64)))) ||| BitVec.ofInt IntKind.i64.bits ((IntKind.i64.wrap x3))).toNat))) ((IntKind.i64.wrap (4 * 2 ^ (min ((((IntKind.i64.wrap x1)).fdiv (2 ^ (min 6 64)))).toNat 64)))) ((IntKind.i64.wrap ((BitVec.ofInt IntKind.i64.bits ((IntKind.i64.wrap x1)) &&& BitVec.ofInt IntKind.i64.bits 1).toNat))) ((IntKind.i64.wrap ((BitVec.ofInt IntKind.i64.bits ((((IntKind.i64.wrap x1)).fdiv (2 ^ (min 2 64)))) &&& BitVec.ofInt IntKind.i64.bits 3).toNat))) ((IntKind.i64.wrap ((BitVec.ofInt IntKind.i64.bits ((((IntKind.i64.wrap x1)).fdiv (2 ^ (min 4 64)))) &&& BitVec.ofInt IntKind.i64.bits 3).toNat))) ((decide ((IntKind.i64.wrap ((BitVec.ofInt IntKind.i64.bits ((IntKind.i64.wrap x1)) &&& BitVec.ofInt IntKind.i64.bits 2).toNat)) > 0))) ((IntKind.i64.wrap x1))
      some (((SHead.mk (((IntKind.i64.wrap ((BitVec.ofInt IntKind.i64.bits ((IntKind.i64.wrap ((IntKind.i64.wrap x2) * 2 ^ (min 8 64)))) ||| BitVec.ofInt IntKind.i64.bits ((IntKind.i64.wrap x3))).toNat)))) (((IntKind.i64.wrap (4 * 2 ^ (min ((((IntKind.i64.wrap x1)).fdiv (2 ^ (min 6 64)))).toNat 64))))) (((IntKind.i64.wrap ((BitVec.ofInt IntKind.i64.bits ((IntKind.i64.wrap x1)) &&& BitVec.ofInt IntKind.i64.bits 1).toNat)))) (((IntKind.i64.wrap ((BitVec.ofInt IntKind.i64.bits ((((IntKind.i64.wrap x1)).fdiv (2 ^ (min 2 64)))) &&& BitVec.ofInt IntKind.i64.bits 3).toNat)))) (((IntKind.i64.wrap ((BitVec.ofInt IntKind.i64.bits ((((IntKind.i64.wrap x1)).fdiv (2 ^ (min 4 64)))) &&& BitVec.ofInt IntKind.i64.bits 3).toNat)))) (((decide ((IntKind.i64.wrap ((BitVec.ofInt IntKind.i64.bits ((IntKind.i64.wrap x1)) &&& BitVec.ofInt IntKind.i64.bits 2).toNat)) > 0))))), y11))
@[go_sem] theorem impl_readHead_u1_ok {β : Type} (n : Nat) (K : List (Kont β)) (a4 : Int) (a5 : Int) (a6 : Int) (a7 : Int) (a8 : Int) (a9 : Bool) (a10 : Int) : run ⟨tab.own, lev tab (n + 2), tab.gl⟩ K c244_u1 ⟨[(2, .pt 200000020 0), (4, .val (.int .i64 a10)), (5, .pt 200000050 0)], [(200000020, .var false [.val (.int .i64 0), .val (.int .i64 0), .val (.int .i64 0), .val (.int .i64 0), .val (.int .i64 0), .val (.bool false)]), (200000050, .var false [.val (.int .i64 a4), .val (.int .i64 a5), .val (.int .i64 a6), .val (.int .i64 a7), .val (.int .i64 a8), .val (.bool a9)])], 53⟩ = (some (impl_readHead_u1 a4 a5 a6 a7 a8 a9 a10)).bind (fun t => plug ⟨tab.own, lev tab (n + 2), tab.gl⟩ K .normal ⟨[(2, .pt 200000020 0), (3, .val (.bool t))], [(200000020, .var false [.val (.int .i64 a4), .val (.int .i64 a5), .val (.int .i64 a6), .val (.int .i64 a7), .val (.int .i64 a8), .val (.bool a9)])], 53⟩) := by
  unfold c244_u1
  simp +contextual -implicitDefEqProofs (maxSteps := 100000000) only [impl_readHead_u1, subI, go_sem, ↓ite_not', Nat.reduceEqDiff, Nat.reduceLT, Nat.reduceLeDiff, ↓reduceIte, Nat.reduceAdd, Nat.reduceMul, Nat.reduceSub, Int.reduceEq, Int.reduceLT, Int.reduceLE, Int.reduceToNat, Int.cast_ofNat_Int, Nat.reduceBEq] <;> rfl
@[go_sem] theorem impl_readHead_ok (n : Nat) (q0_0 : List Int) : lev tab (n + 3) 244 [.sh .lent 1 (rowE (eI .u8) q0_0)] = (impl_readHead q0_0).map fun r => (.tup [.agg [.int .i64 r.1.Number, .int .i64 r.1.Size, .int .i64 r.1.Side, .int .i64 r.1.Spread, .int .i64 r.1.Mask, .bool r.1.Intra], .bool r.2], [.gone]) := by
  rw [lev_st (vc := c244) (nt := 53) (rs := [(2, some (some 6)), (3, none)]) rfl rfl (Nat.le_of_ble_eq_true rfl)]
  unfold c244
  simp +contextual -implicitDefEqProofs (maxSteps := 100000000) only [impl_readHead, subI, go_sem, ↓ite_not', Nat.reduceEqDiff, Nat.reduceLT, Nat.reduceLeDiff, ↓reduceIte, Nat.reduceAdd, Nat.reduceMul, Nat.reduceSub, Int.reduceEq, Int.reduceLT, Int.reduceLE, Int.reduceToNat, Int.cast_ofNat_Int, Nat.reduceBEq] <;> rfl
-- impl.ReadHead
def impl_ReadHead (p0 : List Int) : Option (SHeadResult) :=
  (impl_OpenBytes p0).bind fun r1 =>
  if (r1.Code != 0) = true then some ((SHeadResult.mk r1.Code ((SHead.mk 0 0 0 0 0 false))))
  else (impl_readHead r1.Bytes).bind fun r2 =>
    if r2.2 = true then some ((SHeadResult.mk 0 r2.1))
    else some ((SHeadResult.mk 5 ((SHead.mk 0 0 0 0 0 false))))
@[go_sem] theorem impl_ReadHead_ok (n : Nat) (q0_0 : List Int) : lev tab (n + 4) 230 [.sh .lent 1 (rowE (eI .u8) q0_0)] = (impl_ReadHead q0_0).map fun r => (.agg [.int .i64 r.Code, .int .i64 r.Head.Number, .int .i64 r.Head.Size, .int .i64 r.Head.Side, .int .i64 r.Head.Spread, .int .i64 r.Head.Mask, .bool r.Head.Intra], [.gone]) := by
  rw [lev_st (vc := c230) (nt := 25) (rs := [(2, some (some 7))]) rfl rfl (Nat.le_of_ble_eq_true rfl)]
  unfold c230
  simp +contextual -implicitDefEqProofs (maxSteps := 100000000) only [impl_ReadHead, subI, go_sem, ↓ite_not', Nat.reduceEqDiff, Nat.reduceLT, Nat.reduceLeDiff, ↓reduceIte, Nat.reduceAdd, Nat.reduceMul, Nat.reduceSub, Int.reduceEq, Int.reduceLT, Int.reduceLE, Int.reduceToNat, Int.cast_ofNat_Int, Nat.reduceBEq] <;> rfl
-- cmp.isNaN[int64]
def cmp_isNaN_int64 (p0 : Int) : Bool :=
  (p0 != p0)
@[go_sem] theorem cmp_isNaN_int64_ok (n : Nat) (q0_0 : Int) : lev tab (n + 1) 253 [.int .i64 q0_0] = (some (cmp_isNaN_int64 q0_0)).map fun r => (.bool r, [.gone]) := by
  rw [lev_st (vc := c253) (nt := 6) (rs := [(2, none)]) rfl rfl (Nat.le_of_ble_eq_true rfl)]
  unfold c253
  simp +contextual -implicitDefEqProofs (maxSteps := 100000000) only [cmp_isNaN_int64, subI, go_sem, ↓ite_not', Nat.reduceEqDiff, Nat.reduceLT, Nat.reduceLeDiff, ↓reduceIte, Nat.reduceAdd, Nat.reduceMul, Nat.reduceSub, Int.reduceEq, Int.reduceLT, Int.reduceLE, Int.reduceToNat, Int.cast_ofNat_Int, Nat.reduceBEq] <;> rfl
-- cmp.Compare[int64]
def cmp_Compare_int64 (p0 : Int) (p1 : Int) : Int :=
  if (cmp_isNaN_int64 p0) = true then if (cmp_isNaN_int64 p1) = true then 0
    else (-1)
  else if (cmp_isNaN_int64 p1) = true then 1
    else if (decide (p0 < p1)) = true then (-1)
      else if (decide (p0 > p1)) = true then 1
        else 0
@[go_sem] theorem cmp_Compare_int64_ok (n : Nat) (q0_0 : Int) (q1_0 : Int) : lev tab (n + 2) 246 [.int .i64 q0_0, .int .i64 q1_0] = (some (cmp_Compare_int64 q0_0 q1_0)).map fun r => (.int .i64 r, [.gone, .gone]) := by
  rw [lev_st (vc := c246) (nt := 20) (rs := [(4, none)]) rfl rfl (Nat.le_of_ble_eq_true rfl)]
  unfold c246
  simp +contextual -implicitDefEqProofs (maxSteps := 100000000) only [cmp_Compare_int64, subI, go_sem, ↓ite_not', Nat.reduceEqDiff, Nat.reduceLT, Nat.reduceLeDiff, ↓reduceIte, Nat.reduceAdd, Nat.reduceMul, Nat.reduceSub, Int.reduceEq, Int.reduceLT, Int.reduceLE, Int.reduceToNat, Int.cast_ofNat_Int, Nat.reduceBEq] <;> rfl
-- cmp.Or[int]
def cmp_Or_int_s1 (a6 : List Int) (a7 : Int) : Int → Option ((Int) ⊕ (Unit ⊕ Int)) := fun a8 =>
  if (decide (a8 < a7)) = true then (getI a6 a8).bind fun x9 =>
    if (x9 != 0) = true then some ((.inr ((.inr x9))))
    else some ((.inl ((IntKind.i64.wrap (a8 + 1)))))
  else some ((.inr ((.inl (())))))
def cmp_Or_int (p0 : List Int) : Option (Int) :=
  (loopO (cmp_Or_int_s1 p0 ((p0.length : Int))) 0).bind fun t => (Sum.elim (fun y10 => some 0)
   (fun y11 => some y11)) t
@[go_sem] theorem cmp_Or_int_s1_ok {β : Type} (n : Nat) (K : List (Kont β)) (a6 : List Int) (a7 : Int) (a8 : Int) : run ⟨tab.own, lev tab n, tab.gl⟩ K (.loop c245_u1) ⟨[(3, .val (.int .i64 0)), (6, .val (.sh .lent 1 (rowE (eI .i64) a6))), (7, .val (.int .i64 a7)), (8, .val (.int .i64 a8))], [], 18⟩ = (loopO (cmp_Or_int_s1 a6 a7) a8).bind (fun t => (Sum.elim (fun t => plug ⟨tab.own, lev tab n, tab.gl⟩ K (.exit 0) ⟨[(3, .val (.int .i64 0))], [], 18⟩) (fun t => plug ⟨tab.own, lev tab n, tab.gl⟩ K .ret ⟨[(2, .val (.int .i64 t))], [], 18⟩)) t) := by
  refine loop_run (C := ⟨tab.own, lev tab n, tab.gl⟩) (K := K) (c := c245_u1) (cmp_Or_int_s1 a6 a7) (fun s => ⟨[(3, .val (.int .i64 0)), (6, .val (.sh .lent 1 (rowE (eI .i64) a6))), (7, .val (.int .i64 a7)), (8, .val (.int .i64 s))], [], 18⟩) (fun t => (Sum.elim (fun t => plug ⟨tab.own, lev tab n, tab.gl⟩ K (.exit 0) ⟨[(3, .val (.int .i64 0))], [], 18⟩) (fun t => plug ⟨tab.own, lev tab n, tab.gl⟩ K .ret ⟨[(2, .val (.int .i64 t))], [], 18⟩)) t) (fun k s => ?_) a8
  unfold c245_u1
  simp +contextual -implicitDefEqProofs (maxSteps := 100000000) only [cmp_Or_int_s1, subI, go_sem, ↓ite_not', Nat.reduceEqDiff, Nat.reduceLT, Nat.reduceLeDiff, ↓reduceIte, Nat.reduceAdd, Nat.reduceMul, Nat.reduceSub, Int.reduceEq, Int.reduceLT, Int.reduceLE, Int.reduceToNat, Int.cast_ofNat_Int, Nat.reduceBEq] <;> rfl
@[go_sem] theorem cmp_Or_int_ok (n : Nat) (q0_0 : List Int) : lev tab (n + 1) 245 [.sh .lent 1 (rowE (eI .i64) q0_0)] = (cmp_Or_int q0_0).map fun r => (.int .i64 r, [.gone]) := by
  rw [lev_st (vc := c245) (nt := 18) (rs := [(2, none)]) rfl rfl (Nat.le_of_ble_eq_true rfl)]
  unfold c245
  simp +contextual -implicitDefEqProofs (maxSteps := 100000000) only [cmp_Or_int, subI, go_sem, ↓ite_not', Nat.reduceEqDiff, Nat.reduceLT, Nat.reduceLeDiff, ↓reduceIte, Nat.reduceAdd, Nat.reduceMul, Nat.reduceSub, Int.reduceEq, Int.reduceLT, Int.reduceLE, Int.reduceToNat, Int.cast_ofNat_Int, Nat.reduceBEq] <;> rfl
-- impl.compareHeld
def impl_compareHeld (p0 : SHeld) (p1 : SHeld) : Option (Int) :=
  (cmp_Or_int ([(cmp_Compare_int64 p0.Number p1.Number), (cmp_Compare_int64 p0.Side p1.Side)])).bind fun r1 =>
  some r1
@[go_sem] theorem impl_compareHeld_ok (n : Nat) (q0_0 : Int) (q0_1 : Int) (q0_2 : List Int) (q1_0 : Int) (q1_1 : Int) (q1_2 : List Int) : lev tab (n + 3) 231 [.agg [.int .i64 q0_0, .int .i64 q0_1, .sh .lent 1 (rowE (eI .u8) q0_2)], .agg [.int .i64 q1_0, .int .i64 q1_1, .sh .lent 1 (rowE (eI .u8) q1_2)]] = (impl_compareHeld (SHeld.mk q0_0 q0_1 q0_2) (SHeld.mk q1_0 q1_1 q1_2)).map fun r => (.int .i64 r, [.gone, .gone]) := by
  rw [lev_st (vc := c231) (nt := 17) (rs := [(4, none)]) rfl rfl (Nat.le_of_ble_eq_true rfl)]
  unfold c231
  simp +contextual -implicitDefEqProofs (maxSteps := 100000000) only [impl_compareHeld, subI, go_sem, ↓ite_not', Nat.reduceEqDiff, Nat.reduceLT, Nat.reduceLeDiff, ↓reduceIte, Nat.reduceAdd, Nat.reduceMul, Nat.reduceSub, Int.reduceEq, Int.reduceLT, Int.reduceLE, Int.reduceToNat, Int.cast_ofNat_Int, Nat.reduceBEq] <;> rfl
-- impl.heldFault
def impl_heldFault_u2 (a72 : Int) (a73 : Int) (a74 : List SHeld) (a75 : Bool) (a76 : Int) (a77 : Int) (a78 : List Int) (a79 : Bool) (a80 : Int) (a81 : Int) (a82 : List Int) (a83 : Int) (a84 : List Int) (a85 : List Int) (a86 : List Int) (a87 : Int) (a88 : Int) (a89 : Int) (a90 : List Int) (a91 : Int) (a92 : Int) (a93 : Int) (a94 : Int) (a95 : Int) (a96 : Int) (a97 : Bool) (a98 : Int) (a99 : Int) : Bool :=
  if (a91 != 0) = true then true
  else if (a92 != a88) = true then true
    else if (a94 != a89) = true then true
      else (a93 != a72)
def impl_heldFault_s3 (a52 : Int) (a53 : Int) (a54 : List SHeld) (a55 : Bool) (a56 : Int) (a57 : Int) (a58 : List Int) (a59 : Bool) (a60 : Int) (a61 : Int) (a62 : List Int) (a63 : Int) (a64 : List Int) (a65 : List Int) (a66 : List Int) (a67 : Int) (a68 : Int) : Int → Option ((Int) ⊕ (Unit ⊕ Int)) := fun a69 =>
  if (decide (a69 < a68)) = true then (getI a54 a69).bind fun x70 =>
    if (impl_inRange x70.Number a53 ((IntKind.i64.wrap (a53 + 8)))) = true then (impl_ReadHead x70.Data).bind fun r71 =>
      let y100 := impl_heldFault_u2 a52 a53 a54 a55 a56 a57 a58 a59 a60 a61 a62 a63 a64 a65 a66 a67 x70.Number x70.Side x70.Data r71.Code r71.Head.Number r71.Head.Size r71.Head.Side r71.Head.Spread r71.Head.Mask r71.Head.Intra a68 a69
      if y100 = true then some ((.inr ((.inr 1))))
      else some ((.inl ((IntKind.i64.wrap (a69 + 1)))))
    else some ((.inr ((.inr 3))))
  else some ((.inr ((.inl (())))))
def impl_heldFault_s4 (a122 : Int) (a123 : Int) (a124 : List SHeld) (a125 : Bool) (a126 : Int) (a127 : Int) (a128 : List Int) (a129 : Bool) (a130 : Int) (a131 : Int) (a132 : List Int) (a133 : Int) (a134 : List Int) (a135 : List Int) (a136 : List Int) (a137 : Int) : Int → Option ((Int) ⊕ (Unit ⊕ Unit)) := fun a138 =>
  if (decide (a138 < (a124.length : Int))) = true then (getI a124 (IntKind.i64.wrap (a138 - 1))).bind fun x139 =>
    (getI a124 a138).bind fun x140 =>
    (impl_compareHeld x139 x140).bind fun r141 =>
    if (decide (r141 ≥ 0)) = true then some ((.inr ((.inr (())))))
    else some ((.inl ((IntKind.i64.wrap (a138 + 1)))))
  else some ((.inr ((.inl (())))))
def impl_heldFault (p0 : SReceiver) : Option (Int) :=
  (loopO (impl_heldFault_s3 p0.Size p0.Next p0.Held p0.A.Known p0.A.Number p0.A.Rung p0.A.Gains p0.B.Known p0.B.Number p0.B.Rung p0.B.Gains p0.Synth.Size p0.Synth.Head p0.Synth.Tail p0.Last p0.Lost ((p0.Held.length : Int))) 0).bind fun t => (Sum.elim (fun y101 => (loopO (impl_heldFault_s4 p0.Size p0.Next p0.Held p0.A.Known p0.A.Number p0.A.Rung p0.A.Gains p0.B.Known p0.B.Number p0.B.Rung p0.B.Gains p0.Synth.Size p0.Synth.Head p0.Synth.Tail p0.Last p0.Lost) 1).bind fun t => (Sum.elim (fun y142 => some 0)
     (fun y143 => some 1)) t)
   (fun y144 => some y144)) t
@[go_sem] theorem impl_heldFault_u2_ok {β : Type} (n : Nat) (K : List (Kont β)) (a72 : Int) (a73 : Int) (a74 : List SHeld) (a75 : Bool) (a76 : Int) (a77 : Int) (a78 : List Int) (a79 : Bool) (a80 : Int) (a81 : Int) (a82 : List Int) (a83 : Int) (a84 : List Int) (a85 : List Int) (a86 : List Int) (a87 : Int) (a88 : Int) (a89 : Int) (a90 : List Int) (a91 : Int) (a92 : Int) (a93 : Int) (a94 : Int) (a95 : Int) (a96 : Int) (a97 : Bool) (a98 : Int) (a99 : Int) : run ⟨tab.own, lev tab (n + 4), tab.gl⟩ K c167_u2 ⟨[(1, .pt 200000010 0), (4, .pt 200000040 0), (5, .pt 200000050 0), (8, .val (.sh .lent 3 (rowE (SHeld.cells .lent) a74))), (9, .val (.int .i64 a98)), (10, .val (.int .i64 a99))], [(200000010, .var false [.val (.int .i64 a72), .val (.int .i64 a73), .val (.sh .lent 3 (rowE (SHeld.cells .lent) a74)), .val (.bool a75), .val (.int .i64 a76), .val (.int .i64 a77), .val (.sh .lent 1 (rowE (eI .i64) a78)), .val (.bool a79), .val (.int .i64 a80), .val (.int .i64 a81), .val (.sh .lent 1 (rowE (eI .i64) a82)), .val (.int .i64 a83), .val (.sh .lent 1 (rowE (eI .i64) a84)), .val (.sh .lent 1 (rowE (eI .i64) a85)), .val (.sh .lent 1 (rowE (eI .i64) a86)), .val (.int .i64 a87)]), (200000040, .var false [.val (.int .i64 a88), .val (.int .i64 a89), .val (.sh .lent 1 (rowE (eI .u8) a90))]), (200000050, .var false [.val (.int .i64 a91), .val (.int .i64 a92), .val (.int .i64 a93), .val (.int .i64 a94), .val (.int .i64 a95), .val (.int .i64 a96), .val (.bool a97)])], 74⟩ = (some (impl_heldFault_u2 a72 a73 a74 a75 a76 a77 a78 a79 a80 a81 a82 a83 a84 a85 a86 a87 a88 a89 a90 a91 a92 a93 a94 a95 a96 a97 a98 a99)).bind (fun t => plug ⟨tab.own, lev tab (n + 4), tab.gl⟩ K .normal ⟨[(1, .pt 200000010 0), (8, .val (.sh .lent 3 (rowE (SHeld.cells .lent) a74))), (9, .val (.int .i64 a98)), (10, .val (.int .i64 a99)), (52, .val (.bool t))], [(200000010, .var false [.val (.int .i64 a72), .val (.int .i64 a73), .val (.sh .lent 3 (rowE (SHeld.cells .lent) a74)), .val (.bool a75), .val (.int .i64 a76), .val (.int .i64 a77), .val (.sh .lent 1 (rowE (eI .i64) a78)), .val (.bool a79), .val (.int .i64 a80), .val (.int .i64 a81), .val (.sh .lent 1 (rowE (eI .i64) a82)), .val (.int .i64 a83), .val (.sh .lent 1 (rowE (eI .i64) a84)), .val (.sh .lent 1 (rowE (eI .i64) a85)), .val (.sh .lent 1 (rowE (eI .i64) a86)), .val (.int .i64 a87)])], 74⟩) := by
  unfold c167_u2
  simp +contextual -implicitDefEqProofs (maxSteps := 100000000) only [impl_heldFault_u2, subI, go_sem, ↓ite_not', Nat.reduceEqDiff, Nat.reduceLT, Nat.reduceLeDiff, ↓reduceIte, Nat.reduceAdd, Nat.reduceMul, Nat.reduceSub, Int.reduceEq, Int.reduceLT, Int.reduceLE, Int.reduceToNat, Int.cast_ofNat_Int, Nat.reduceBEq] <;> rfl
@[go_sem] theorem impl_heldFault_s3_ok {β : Type} (n : Nat) (K : List (Kont β)) (a52 : Int) (a53 : Int) (a54 : List SHeld) (a55 : Bool) (a56 : Int) (a57 : Int) (a58 : List Int) (a59 : Bool) (a60 : Int) (a61 : Int) (a62 : List Int) (a63 : Int) (a64 : List Int) (a65 : List Int) (a66 : List Int) (a67 : Int) (a68 : Int) (a69 : Int) : run ⟨tab.own, lev tab (n + 4), tab.gl⟩ K (.loop c167_u3) ⟨[(1, .pt 200000010 0), (8, .val (.sh .lent 3 (rowE (SHeld.cells .lent) a54))), (9, .val (.int .i64 a68)), (10, .val (.int .i64 a69))], [(200000010, .var false [.val (.int .i64 a52), .val (.int .i64 a53), .val (.sh .lent 3 (rowE (SHeld.cells .lent) a54)), .val (.bool a55), .val (.int .i64 a56), .val (.int .i64 a57), .val (.sh .lent 1 (rowE (eI .i64) a58)), .val (.bool a59), .val (.int .i64 a60), .val (.int .i64 a61), .val (.sh .lent 1 (rowE (eI .i64) a62)), .val (.int .i64 a63), .val (.sh .lent 1 (rowE (eI .i64) a64)), .val (.sh .lent 1 (rowE (eI .i64) a65)), .val (.sh .lent 1 (rowE (eI .i64) a66)), .val (.int .i64 a67)])], 74⟩ = (loopO (impl_heldFault_s3 a52 a53 a54 a55 a56 a57 a58 a59 a60 a61 a62 a63 a64 a65 a66 a67 a68) a69).bind (fun t => (Sum.elim (fun t => plug ⟨tab.own, lev tab (n + 4), tab.gl⟩ K (.exit 0) ⟨[(1, .pt 200000010 0)], [(200000010, .var false [.val (.int .i64 a52), .val (.int .i64 a53), .val (.sh .lent 3 (rowE (SHeld.cells .lent) a54)), .val (.bool a55), .val (.int .i64 a56), .val (.int .i64 a57), .val (.sh .lent 1 (rowE (eI .i64) a58)), .val (.bool a59), .val (.int .i64 a60), .val (.int .i64 a61), .val (.sh .lent 1 (rowE (eI .i64) a62)), .val (.int .i64 a63), .val (.sh .lent 1 (rowE (eI .i64) a64)), .val (.sh .lent 1 (rowE (eI .i64) a65)), .val (.sh .lent 1 (rowE (eI .i64) a66)), .val (.int .i64 a67)])], 74⟩) (fun t => plug ⟨tab.own, lev tab (n + 4), tab.gl⟩ K .ret ⟨[(2, .val (.int .i64 t))], [], 74⟩)) t) := by
  refine loop_run (C := ⟨tab.own, lev tab (n + 4), tab.gl⟩) (K := K) (c := c167_u3) (impl_heldFault_s3 a52 a53 a54 a55 a56 a57 a58 a59 a60 a61 a62 a63 a64 a65 a66 a67 a68) (fun s => ⟨[(1, .pt 200000010 0), (8, .val (.sh .lent 3 (rowE (SHeld.cells .lent) a54))), (9, .val (.int .i64 a68)), (10, .val (.int .i64 s))], [(200000010, .var false [.val (.int .i64 a52), .val (.int .i64 a53), .val (.sh .lent 3 (rowE (SHeld.cells .lent) a54)), .val (.bool a55), .val (.int .i64 a56), .val (.int .i64 a57), .val (.sh .lent 1 (rowE (eI .i64) a58)), .val (.bool a59), .val (.int .i64 a60), .val (.int .i64 a61), .val (.sh .lent 1 (rowE (eI .i64) a62)), .val (.int .i64 a63), .val (.sh .lent 1 (rowE (eI .i64) a64)), .val (.sh .lent 1 (rowE (eI .i64) a65)), .val (.sh .lent 1 (rowE (eI .i64) a66)), .val (.int .i64 a67)])], 74⟩) (fun t => (Sum.elim (fun t => plug ⟨tab.own, lev tab (n + 4), tab.gl⟩ K (.exit 0) ⟨[(1, .pt 200000010 0)], [(200000010, .var false [.val (.int .i64 a52), .val (.int .i64 a53), .val (.sh .lent 3 (rowE (SHeld.cells .lent) a54)), .val (.bool a55), .val (.int .i64 a56), .val (.int .i64 a57), .val (.sh .lent 1 (rowE (eI .i64) a58)), .val (.bool a59), .val (.int .i64 a60), .val (.int .i64 a61), .val (.sh .lent 1 (rowE (eI .i64) a62)), .val (.int .i64 a63), .val (.sh .lent 1 (rowE (eI .i64) a64)), .val (.sh .lent 1 (rowE (eI .i64) a65)), .val (.sh .lent 1 (rowE (eI .i64) a66)), .val (.int .i64 a67)])], 74⟩) (fun t => plug ⟨tab.own, lev tab (n + 4), tab.gl⟩ K .ret ⟨[(2, .val (.int .i64 t))], [], 74⟩)) t) (fun k s => ?_) a69
  unfold c167_u3
  simp +contextual -implicitDefEqProofs (maxSteps := 100000000) only [impl_heldFault_s3, subI, go_sem, ↓ite_not', Nat.reduceEqDiff, Nat.reduceLT, Nat.reduceLeDiff, ↓reduceIte, Nat.reduceAdd, Nat.reduceMul, Nat.reduceSub, Int.reduceEq, Int.reduceLT, Int.reduceLE, Int.reduceToNat, Int.cast_ofNat_Int, Nat.reduceBEq] <;> rfl
@[go_sem] theorem impl_heldFault_s4_ok {β : Type} (n : Nat) (K : List (Kont β)) (a122 : Int) (a123 : Int) (a124 : List SHeld) (a125 : Bool) (a126 : Int) (a127 : Int) (a128 : List Int) (a129 : Bool) (a130 : Int) (a131 : Int) (a132 : List Int) (a133 : Int) (a134 : List Int) (a135 : List Int) (a136 : List Int) (a137 : Int) (a138 : Int) : run ⟨tab.own, lev tab (n + 4), tab.gl⟩ K (.loop c167_u4) ⟨[(1, .pt 200000010 0), (6, .val (.int .i64 a138))], [(200000010, .var false [.val (.int .i64 a122), .val (.int .i64 a123), .val (.sh .lent 3 (rowE (SHeld.cells .lent) a124)), .val (.bool a125), .val (.int .i64 a126), .val (.int .i64 a127), .val (.sh .lent 1 (rowE (eI .i64) a128)), .val (.bool a129), .val (.int .i64 a130), .val (.int .i64 a131), .val (.sh .lent 1 (rowE (eI .i64) a132)), .val (.int .i64 a133), .val (.sh .lent 1 (rowE (eI .i64) a134)), .val (.sh .lent 1 (rowE (eI .i64) a135)), .val (.sh .lent 1 (rowE (eI .i64) a136)), .val (.int .i64 a137)])], 74⟩ = (loopO (impl_heldFault_s4 a122 a123 a124 a125 a126 a127 a128 a129 a130 a131 a132 a133 a134 a135 a136 a137) a138).bind (fun t => (Sum.elim (fun t => plug ⟨tab.own, lev tab (n + 4), tab.gl⟩ K (.exit 2) ⟨[], [], 74⟩) (fun t => plug ⟨tab.own, lev tab (n + 4), tab.gl⟩ K .ret ⟨[(2, .val (.int .i64 1))], [], 74⟩)) t) := by
  refine loop_run (C := ⟨tab.own, lev tab (n + 4), tab.gl⟩) (K := K) (c := c167_u4) (impl_heldFault_s4 a122 a123 a124 a125 a126 a127 a128 a129 a130 a131 a132 a133 a134 a135 a136 a137) (fun s => ⟨[(1, .pt 200000010 0), (6, .val (.int .i64 s))], [(200000010, .var false [.val (.int .i64 a122), .val (.int .i64 a123), .val (.sh .lent 3 (rowE (SHeld.cells .lent) a124)), .val (.bool a125), .val (.int .i64 a126), .val (.int .i64 a127), .val (.sh .lent 1 (rowE (eI .i64) a128)), .val (.bool a129), .val (.int .i64 a130), .val (.int .i64 a131), .val (.sh .lent 1 (rowE (eI .i64) a132)), .val (.int .i64 a133), .val (.sh .lent 1 (rowE (eI .i64) a134)), .val (.sh .lent 1 (rowE (eI .i64) a135)), .val (.sh .lent 1 (rowE (eI .i64) a136)), .val (.int .i64 a137)])], 74⟩) (fun t => (Sum.elim (fun t => plug ⟨tab.own, lev tab (n + 4), tab.gl⟩ K (.exit 2) ⟨[], [], 74⟩) (fun t => plug ⟨tab.own, lev tab (n + 4), tab.gl⟩ K .ret ⟨[(2, .val (.int .i64 1))], [], 74⟩)) t) (fun k s => ?_) a138
  unfold c167_u4
  simp +contextual -implicitDefEqProofs (maxSteps := 100000000) only [impl_heldFault_s4, subI, go_sem, ↓ite_not', Nat.reduceEqDiff, Nat.reduceLT, Nat.reduceLeDiff, ↓reduceIte, Nat.reduceAdd, Nat.reduceMul, Nat.reduceSub, Int.reduceEq, Int.reduceLT, Int.reduceLE, Int.reduceToNat, Int.cast_ofNat_Int, Nat.reduceBEq] <;> rfl
@[go_sem] theorem impl_heldFault_ok (n : Nat) (q0_0 : Int) (q0_1 : Int) (q0_2 : List SHeld) (q0_3 : Bool) (q0_4 : Int) (q0_5 : Int) (q0_6 : List Int) (q0_7 : Bool) (q0_8 : Int) (q0_9 : Int) (q0_10 : List Int) (q0_11 : Int) (q0_12 : List Int) (q0_13 : List Int) (q0_14 : List Int) (q0_15 : Int) : lev tab (n + 5) 167 [.agg [.int .i64 q0_0, .int .i64 q0_1, .sh .lent 3 (rowE (SHeld.cells .lent) q0_2), .bool q0_3, .int .i64 q0_4, .int .i64 q0_5, .sh .lent 1 (rowE (eI .i64) q0_6), .bool q0_7, .int .i64 q0_8, .int .i64 q0_9, .sh .lent 1 (rowE (eI .i64) q0_10), .int .i64 q0_11, .sh .lent 1 (rowE (eI .i64) q0_12), .sh .lent 1 (rowE (eI .i64) q0_13), .sh .lent 1 (rowE (eI .i64) q0_14), .int .i64 q0_15]] = (impl_heldFault (SReceiver.mk q0_0 q0_1 q0_2 (SAnchor.mk q0_3 q0_4 q0_5 q0_6) (SAnchor.mk q0_7 q0_8 q0_9 q0_10) (SSynth.mk q0_11 q0_12 q0_13) q0_14 q0_15)).map fun r => (.int .i64 r, [.gone]) := by
  rw [lev_st (vc := c167) (nt := 74) (rs := [(2, none)]) rfl rfl (Nat.le_of_ble_eq_true rfl)]
  unfold c167
  simp +contextual -implicitDefEqProofs (maxSteps := 100000000) only [impl_heldFault, subI, go_sem, ↓ite_not', Nat.reduceEqDiff, Nat.reduceLT, Nat.reduceLeDiff, ↓reduceIte, Nat.reduceAdd, Nat.reduceMul, Nat.reduceSub, Int.reduceEq, Int.reduceLT, Int.reduceLE, Int.reduceToNat, Int.cast_ofNat_Int, Nat.reduceBEq] <;> rfl
-- impl.ReceiverFault
def impl_ReceiverFault_u1 (a1 : Int) (a2 : Int) (a3 : List SHeld) (a4 : Bool) (a5 : Int) (a6 : Int) (a7 : List Int) (a8 : Bool) (a9 : Int) (a10 : Int) (a11 : List Int) (a12 : Int) (a13 : List Int) (a14 : List Int) (a15 : List Int) (a16 : Int) : Option (Int) :=
  if (impl_inRange a2 0 10000) = true then if (decide ((a3.length : Int) > 18)) = true then (impl_allWithin a15 16777216).bind fun r17 =>
      (impl_SynthFault ((SSynth.mk a12 a13 a14))).bind fun r18 =>
      (impl_AnchorFault ((SAnchor.mk a4 a5 a6 a7))).bind fun r19 =>
      (impl_AnchorFault ((SAnchor.mk a8 a9 a10 a11))).bind fun r20 =>
      (impl_first ([(impl_SizeFault a1), (impl_codeIf ((!(impl_inRange a16 0 100))) 3), (impl_codeIf true 2), (impl_codeIf ((!r17)) 3), r18, (impl_codeIf ((a12 != a1)) 1), r19, r20])).bind fun r21 =>
      some r21
    else (impl_allWithin a15 16777216).bind fun r22 =>
      (impl_SynthFault ((SSynth.mk a12 a13 a14))).bind fun r23 =>
      (impl_AnchorFault ((SAnchor.mk a4 a5 a6 a7))).bind fun r24 =>
      (impl_AnchorFault ((SAnchor.mk a8 a9 a10 a11))).bind fun r25 =>
      (impl_first ([(impl_SizeFault a1), (impl_codeIf ((!(impl_inRange a16 0 100))) 3), (impl_codeIf (((a15.length : Int) != a1)) 2), (impl_codeIf ((!r22)) 3), r23, (impl_codeIf ((a12 != a1)) 1), r24, r25])).bind fun r26 =>
      some r26
  else if (decide ((a3.length : Int) > 18)) = true then (impl_allWithin a15 16777216).bind fun r27 =>
      (impl_SynthFault ((SSynth.mk a12 a13 a14))).bind fun r28 =>
      (impl_AnchorFault ((SAnchor.mk a4 a5 a6 a7))).bind fun r29 =>
      (impl_AnchorFault ((SAnchor.mk a8 a9 a10 a11))).bind fun r30 =>
      (impl_first ([(impl_SizeFault a1), (impl_codeIf true 3), (impl_codeIf true 2), (impl_codeIf ((!r27)) 3), r28, (impl_codeIf ((a12 != a1)) 1), r29, r30])).bind fun r31 =>
      some r31
    else (impl_allWithin a15 16777216).bind fun r32 =>
      (impl_SynthFault ((SSynth.mk a12 a13 a14))).bind fun r33 =>
      (impl_AnchorFault ((SAnchor.mk a4 a5 a6 a7))).bind fun r34 =>
      (impl_AnchorFault ((SAnchor.mk a8 a9 a10 a11))).bind fun r35 =>
      (impl_first ([(impl_SizeFault a1), (impl_codeIf true 3), (impl_codeIf (((a15.length : Int) != a1)) 2), (impl_codeIf ((!r32)) 3), r33, (impl_codeIf ((a12 != a1)) 1), r34, r35])).bind fun r36 =>
      some r36
def impl_ReceiverFault (p0 : SReceiver) : Option (Int) :=
  (impl_ReceiverFault_u1 p0.Size p0.Next p0.Held p0.A.Known p0.A.Number p0.A.Rung p0.A.Gains p0.B.Known p0.B.Number p0.B.Rung p0.B.Gains p0.Synth.Size p0.Synth.Head p0.Synth.Tail p0.Last p0.Lost).bind fun y37 =>
  if (y37 != 0) = true then some y37
  else (impl_heldFault p0).bind fun r38 =>
    some r38
@[go_sem] theorem impl_ReceiverFault_u1_ok {β : Type} (n : Nat) (K : List (Kont β)) (a1 : Int) (a2 : Int) (a3 : List SHeld) (a4 : Bool) (a5 : Int) (a6 : Int) (a7 : List Int) (a8 : Bool) (a9 : Int) (a10 : Int) (a11 : List Int) (a12 : Int) (a13 : List Int) (a14 : List Int) (a15 : List Int) (a16 : Int) : run ⟨tab.own, lev tab (n + 7), tab.gl⟩ K c65_u1 ⟨[(1, .pt 200000010 0)], [(200000010, .var false [.val (.int .i64 a1), .val (.int .i64 a2), .val (.sh .lent 3 (rowE (SHeld.cells .lent) a3)), .val (.bool a4), .val (.int .i64 a5), .val (.int .i64 a6), .val (.sh .lent 1 (rowE (eI .i64) a7)), .val (.bool a8), .val (.int .i64 a9), .val (.int .i64 a10), .val (.sh .lent 1 (rowE (eI .i64) a11)), .val (.int .i64 a12), .val (.sh .lent 1 (rowE (eI .i64) a13)), .val (.sh .lent 1 (rowE (eI .i64) a14)), .val (.sh .lent 1 (rowE (eI .i64) a15)), .val (.int .i64 a16)])], 59⟩ = (impl_ReceiverFault_u1 a1 a2 a3 a4 a5 a6 a7 a8 a9 a10 a11 a12 a13 a14 a15 a16).bind (fun t => plug ⟨tab.own, lev tab (n + 7), tab.gl⟩ K .normal ⟨[(1, .pt 200000010 0), (3, .val (.int .i64 t))], [(200000010, .var false [.val (.int .i64 a1), .val (.int .i64 a2), .val (.sh .lent 3 (rowE (SHeld.cells .lent) a3)), .val (.bool a4), .val (.int .i64 a5), .val (.int .i64 a6), .val (.sh .lent 1 (rowE (eI .i64) a7)), .val (.bool a8), .val (.int .i64 a9), .val (.int .i64 a10), .val (.sh .lent 1 (rowE (eI .i64) a11)), .val (.int .i64 a12), .val (.sh .lent 1 (rowE (eI .i64) a13)), .val (.sh .lent 1 (rowE (eI .i64) a14)), .val (.sh .lent 1 (rowE (eI .i64) a15)), .val (.int .i64 a16)])], 59⟩) := by
  unfold c65_u1
  simp +contextual -implicitDefEqProofs (maxSteps := 100000000) only [impl_ReceiverFault_u1, subI, go_sem, ↓ite_not', Nat.reduceEqDiff, Nat.reduceLT, Nat.reduceLeDiff, ↓reduceIte, Nat.reduceAdd, Nat.reduceMul, Nat.reduceSub, Int.reduceEq, Int.reduceLT, Int.reduceLE, Int.reduceToNat, Int.cast_ofNat_Int, Nat.reduceBEq] <;> rfl
@[go_sem] theorem impl_ReceiverFault_ok (n : Nat) (q0_0 : Int) (q0_1 : Int) (q0_2 : List SHeld) (q0_3 : Bool) (q0_4 : Int) (q0_5 : Int) (q0_6 : List Int) (q0_7 : Bool) (q0_8 : Int) (q0_9 : Int) (q0_10 : List Int) (q0_11 : Int) (q0_12 : List Int) (q0_13 : List Int) (q0_14 : List Int) (q0_15 : Int) : lev tab (n + 8) 65 [.agg [.int .i64 q0_0, .int .i64 q0_1, .sh .lent 3 (rowE (SHeld.cells .lent) q0_2), .bool q0_3, .int .i64 q0_4, .int .i64 q0_5, .sh .lent 1 (rowE (eI .i64) q0_6), .bool q0_7, .int .i64 q0_8, .int .i64 q0_9, .sh .lent 1 (rowE (eI .i64) q0_10), .int .i64 q0_11, .sh .lent 1 (rowE (eI .i64) q0_12), .sh .lent 1 (rowE (eI .i64) q0_13), .sh .lent 1 (rowE (eI .i64) q0_14), .int .i64 q0_15]] = (impl_ReceiverFault (SReceiver.mk q0_0 q0_1 q0_2 (SAnchor.mk q0_3 q0_4 q0_5 q0_6) (SAnchor.mk q0_7 q0_8 q0_9 q0_10) (SSynth.mk q0_11 q0_12 q0_13) q0_14 q0_15)).map fun r => (.int .i64 r, [.gone]) := by
  rw [lev_st (vc := c65) (nt := 59) (rs := [(2, none)]) rfl rfl (Nat.le_of_ble_eq_true rfl)]
  unfold c65
  simp +contextual -implicitDefEqProofs (maxSteps := 100000000) only [impl_ReceiverFault, subI, go_sem, ↓ite_not', Nat.reduceEqDiff, Nat.reduceLT, Nat.reduceLeDiff, ↓reduceIte, Nat.reduceAdd, Nat.reduceMul, Nat.reduceSub, Int.reduceEq, Int.reduceLT, Int.reduceLE, Int.reduceToNat, Int.cast_ofNat_Int, Nat.reduceBEq] <;> rfl
-- laws.eqByteS
def laws_eqByteS_s1 (a6 : List Int) (a7 : List Int) : Int → Option ((Int) ⊕ (Unit ⊕ Unit)) := fun a8 =>
  if (decide (a8 < (a6.length : Int))) = true then (getI a6 a8).bind fun x9 =>
    (getI a7 a8).bind fun x10 =>
    if (x9 != x10) = true then some ((.inr ((.inr (())))))
    else some ((.inl ((IntKind.i64.wrap (a8 + 1)))))
  else some ((.inr ((.inl (())))))
def laws_eqByteS (p0 : List Int) (p1 : List Int) : Option (Bool) :=
  if ((p0.length : Int) != (p1.length : Int)) = true then some false
  else (loopO (laws_eqByteS_s1 p0 p1) 0).bind fun t => (Sum.elim (fun y11 => some true)
     (fun y12 => some false)) t
@[go_sem] theorem laws_eqByteS_s1_ok {β : Type} (n : Nat) (K : List (Kont β)) (a6 : List Int) (a7 : List Int) (a8 : Int) : run ⟨tab.own, lev tab n, tab.gl⟩ K (.loop c147_u1) ⟨[(0, .val (.sh .lent 1 (rowE (eI .u8) a6))), (1, .val (.sh .lent 1 (rowE (eI .u8) a7))), (5, .val (.int .i64 a8))], [], 26⟩ = (loopO (laws_eqByteS_s1 a6 a7) a8).bind (fun t => (Sum.elim (fun t => plug ⟨tab.own, lev tab n, tab.gl⟩ K (.exit 0) ⟨[], [], 26⟩) (fun t => plug ⟨tab.own, lev tab n, tab.gl⟩ K .ret ⟨[(4, .val (.bool false))], [], 26⟩)) t) := by
  refine loop_run (C := ⟨tab.own, lev tab n, tab.gl⟩) (K := K) (c := c147_u1) (laws_eqByteS_s1 a6 a7) (fun s => ⟨[(0, .val (.sh .lent 1 (rowE (eI .u8) a6))), (1, .val (.sh .lent 1 (rowE (eI .u8) a7))), (5, .val (.int .i64 s))], [], 26⟩) (fun t => (Sum.elim (fun t => plug ⟨tab.own, lev tab n, tab.gl⟩ K (.exit 0) ⟨[], [], 26⟩) (fun t => plug ⟨tab.own, lev tab n, tab.gl⟩ K .ret ⟨[(4, .val (.bool false))], [], 26⟩)) t) (fun k s => ?_) a8
  unfold c147_u1
  simp +contextual -implicitDefEqProofs (maxSteps := 100000000) only [laws_eqByteS_s1, subI, go_sem, ↓ite_not', Nat.reduceEqDiff, Nat.reduceLT, Nat.reduceLeDiff, ↓reduceIte, Nat.reduceAdd, Nat.reduceMul, Nat.reduceSub, Int.reduceEq, Int.reduceLT, Int.reduceLE, Int.reduceToNat, Int.cast_ofNat_Int, Nat.reduceBEq] <;> rfl
@[go_sem] theorem laws_eqByteS_ok (n : Nat) (q0_0 : List Int) (q1_0 : List Int) : lev tab (n + 1) 147 [.sh .lent 1 (rowE (eI .u8) q0_0), .sh .lent 1 (rowE (eI .u8) q1_0)] = (laws_eqByteS q0_0 q1_0).map fun r => (.bool r, [.gone, .gone]) := by
  rw [lev_st (vc := c147) (nt := 26) (rs := [(4, none)]) rfl rfl (Nat.le_of_ble_eq_true rfl)]
  unfold c147
  simp +contextual -implicitDefEqProofs (maxSteps := 100000000) only [laws_eqByteS, subI, go_sem, ↓ite_not', Nat.reduceEqDiff, Nat.reduceLT, Nat.reduceLeDiff, ↓reduceIte, Nat.reduceAdd, Nat.reduceMul, Nat.reduceSub, Int.reduceEq, Int.reduceLT, Int.reduceLE, Int.reduceToNat, Int.cast_ofNat_Int, Nat.reduceBEq] <;> rfl
-- laws.eqHeld
def laws_eqHeld (p0 : SHeld) (p1 : SHeld) : Option (Bool) :=
  if (p0.Number != p1.Number) = true then some false
  else if (p0.Side != p1.Side) = true then some false
    else (laws_eqByteS p0.Data p1.Data).bind fun r1 =>
      if r1 = true then some true
      else some false
@[go_sem] theorem laws_eqHeld_ok (n : Nat) (q0_0 : Int) (q0_1 : Int) (q0_2 : List Int) (q1_0 : Int) (q1_1 : Int) (q1_2 : List Int) : lev tab (n + 2) 232 [.agg [.int .i64 q0_0, .int .i64 q0_1, .sh .lent 1 (rowE (eI .u8) q0_2)], .agg [.int .i64 q1_0, .int .i64 q1_1, .sh .lent 1 (rowE (eI .u8) q1_2)]] = (laws_eqHeld (SHeld.mk q0_0 q0_1 q0_2) (SHeld.mk q1_0 q1_1 q1_2)).map fun r => (.bool r, [.gone, .gone]) := by
  rw [lev_st (vc := c232) (nt := 21) (rs := [(4, none)]) rfl rfl (Nat.le_of_ble_eq_true rfl)]
  unfold c232
  simp +contextual -implicitDefEqProofs (maxSteps := 100000000) only [laws_eqHeld, subI, go_sem, ↓ite_not', Nat.reduceEqDiff, Nat.reduceLT, Nat.reduceLeDiff, ↓reduceIte, Nat.reduceAdd, Nat.reduceMul, Nat.reduceSub, Int.reduceEq, Int.reduceLT, Int.reduceLE, Int.reduceToNat, Int.cast_ofNat_Int, Nat.reduceBEq] <;> rfl
-- laws.eqHeldS
def laws_eqHeldS_s1 (a7 : List SHeld) (a8 : List SHeld) : Int → Option ((Int) ⊕ (Unit ⊕ Unit)) := fun a9 =>
  if (decide (a9 < (a7.length : Int))) = true then (getI a7 a9).bind fun x10 =>
    (getI a8 a9).bind fun x11 =>
    (laws_eqHeld x10 x11).bind fun r12 =>
    if r12 = true then some ((.inl ((IntKind.i64.wrap (a9 + 1)))))
    else some ((.inr ((.inr (())))))
  else some ((.inr ((.inl (())))))
def laws_eqHeldS (p0 : List SHeld) (p1 : List SHeld) : Option (Bool) :=
  if ((p0.length : Int) != (p1.length : Int)) = true then some false
  else (loopO (laws_eqHeldS_s1 p0 p1) 0).bind fun t => (Sum.elim (fun y13 => some true)
     (fun y14 => some false)) t
@[go_sem] theorem laws_eqHeldS_s1_ok {β : Type} (n : Nat) (K : List (Kont β)) (a7 : List SHeld) (a8 : List SHeld) (a9 : Int) : run ⟨tab.own, lev tab (n + 2), tab.gl⟩ K (.loop c168_u1) ⟨[(0, .val (.sh .lent 3 (rowE (SHeld.cells .lent) a7))), (1, .val (.sh .lent 3 (rowE (SHeld.cells .lent) a8))), (5, .val (.int .i64 a9))], [], 27⟩ = (loopO (laws_eqHeldS_s1 a7 a8) a9).bind (fun t => (Sum.elim (fun t => plug ⟨tab.own, lev tab (n + 2), tab.gl⟩ K (.exit 0) ⟨[], [], 27⟩) (fun t => plug ⟨tab.own, lev tab (n + 2), tab.gl⟩ K .ret ⟨[(4, .val (.bool false))], [], 27⟩)) t) := by
  refine loop_run (C := ⟨tab.own, lev tab (n + 2), tab.gl⟩) (K := K) (c := c168_u1) (laws_eqHeldS_s1 a7 a8) (fun s => ⟨[(0, .val (.sh .lent 3 (rowE (SHeld.cells .lent) a7))), (1, .val (.sh .lent 3 (rowE (SHeld.cells .lent) a8))), (5, .val (.int .i64 s))], [], 27⟩) (fun t => (Sum.elim (fun t => plug ⟨tab.own, lev tab (n + 2), tab.gl⟩ K (.exit 0) ⟨[], [], 27⟩) (fun t => plug ⟨tab.own, lev tab (n + 2), tab.gl⟩ K .ret ⟨[(4, .val (.bool false))], [], 27⟩)) t) (fun k s => ?_) a9
  unfold c168_u1
  simp +contextual -implicitDefEqProofs (maxSteps := 100000000) only [laws_eqHeldS_s1, subI, go_sem, ↓ite_not', Nat.reduceEqDiff, Nat.reduceLT, Nat.reduceLeDiff, ↓reduceIte, Nat.reduceAdd, Nat.reduceMul, Nat.reduceSub, Int.reduceEq, Int.reduceLT, Int.reduceLE, Int.reduceToNat, Int.cast_ofNat_Int, Nat.reduceBEq] <;> rfl
@[go_sem] theorem laws_eqHeldS_ok (n : Nat) (q0_0 : List SHeld) (q1_0 : List SHeld) : lev tab (n + 3) 168 [.sh .lent 3 (rowE (SHeld.cells .lent) q0_0), .sh .lent 3 (rowE (SHeld.cells .lent) q1_0)] = (laws_eqHeldS q0_0 q1_0).map fun r => (.bool r, [.gone, .gone]) := by
  rw [lev_st (vc := c168) (nt := 27) (rs := [(4, none)]) rfl rfl (Nat.le_of_ble_eq_true rfl)]
  unfold c168
  simp +contextual -implicitDefEqProofs (maxSteps := 100000000) only [laws_eqHeldS, subI, go_sem, ↓ite_not', Nat.reduceEqDiff, Nat.reduceLT, Nat.reduceLeDiff, ↓reduceIte, Nat.reduceAdd, Nat.reduceMul, Nat.reduceSub, Int.reduceEq, Int.reduceLT, Int.reduceLE, Int.reduceToNat, Int.cast_ofNat_Int, Nat.reduceBEq] <;> rfl
-- laws.eqInt64S
def laws_eqInt64S_s1 (a6 : List Int) (a7 : List Int) : Int → Option ((Int) ⊕ (Unit ⊕ Unit)) := fun a8 =>
  if (decide (a8 < (a6.length : Int))) = true then (getI a6 a8).bind fun x9 =>
    (getI a7 a8).bind fun x10 =>
    if (x9 != x10) = true then some ((.inr ((.inr (())))))
    else some ((.inl ((IntKind.i64.wrap (a8 + 1)))))
  else some ((.inr ((.inl (())))))
def laws_eqInt64S (p0 : List Int) (p1 : List Int) : Option (Bool) :=
  if ((p0.length : Int) != (p1.length : Int)) = true then some false
  else (loopO (laws_eqInt64S_s1 p0 p1) 0).bind fun t => (Sum.elim (fun y11 => some true)
     (fun y12 => some false)) t
@[go_sem] theorem laws_eqInt64S_s1_ok {β : Type} (n : Nat) (K : List (Kont β)) (a6 : List Int) (a7 : List Int) (a8 : Int) : run ⟨tab.own, lev tab n, tab.gl⟩ K (.loop c129_u1) ⟨[(0, .val (.sh .lent 1 (rowE (eI .i64) a6))), (1, .val (.sh .lent 1 (rowE (eI .i64) a7))), (5, .val (.int .i64 a8))], [], 26⟩ = (loopO (laws_eqInt64S_s1 a6 a7) a8).bind (fun t => (Sum.elim (fun t => plug ⟨tab.own, lev tab n, tab.gl⟩ K (.exit 0) ⟨[], [], 26⟩) (fun t => plug ⟨tab.own, lev tab n, tab.gl⟩ K .ret ⟨[(4, .val (.bool false))], [], 26⟩)) t) := by
  refine loop_run (C := ⟨tab.own, lev tab n, tab.gl⟩) (K := K) (c := c129_u1) (laws_eqInt64S_s1 a6 a7) (fun s => ⟨[(0, .val (.sh .lent 1 (rowE (eI .i64) a6))), (1, .val (.sh .lent 1 (rowE (eI .i64) a7))), (5, .val (.int .i64 s))], [], 26⟩) (fun t => (Sum.elim (fun t => plug ⟨tab.own, lev tab n, tab.gl⟩ K (.exit 0) ⟨[], [], 26⟩) (fun t => plug ⟨tab.own, lev tab n, tab.gl⟩ K .ret ⟨[(4, .val (.bool false))], [], 26⟩)) t) (fun k s => ?_) a8
  unfold c129_u1
  simp +contextual -implicitDefEqProofs (maxSteps := 100000000) only [laws_eqInt64S_s1, subI, go_sem, ↓ite_not', Nat.reduceEqDiff, Nat.reduceLT, Nat.reduceLeDiff, ↓reduceIte, Nat.reduceAdd, Nat.reduceMul, Nat.reduceSub, Int.reduceEq, Int.reduceLT, Int.reduceLE, Int.reduceToNat, Int.cast_ofNat_Int, Nat.reduceBEq] <;> rfl
@[go_sem] theorem laws_eqInt64S_ok (n : Nat) (q0_0 : List Int) (q1_0 : List Int) : lev tab (n + 1) 129 [.sh .lent 1 (rowE (eI .i64) q0_0), .sh .lent 1 (rowE (eI .i64) q1_0)] = (laws_eqInt64S q0_0 q1_0).map fun r => (.bool r, [.gone, .gone]) := by
  rw [lev_st (vc := c129) (nt := 26) (rs := [(4, none)]) rfl rfl (Nat.le_of_ble_eq_true rfl)]
  unfold c129
  simp +contextual -implicitDefEqProofs (maxSteps := 100000000) only [laws_eqInt64S, subI, go_sem, ↓ite_not', Nat.reduceEqDiff, Nat.reduceLT, Nat.reduceLeDiff, ↓reduceIte, Nat.reduceAdd, Nat.reduceMul, Nat.reduceSub, Int.reduceEq, Int.reduceLT, Int.reduceLE, Int.reduceToNat, Int.cast_ofNat_Int, Nat.reduceBEq] <;> rfl
-- laws.eqAnchor
def laws_eqAnchor (p0 : SAnchor) (p1 : SAnchor) : Option (Bool) :=
  if (p0.Known == p1.Known) = true then if (p0.Number != p1.Number) = true then some false
    else if (p0.Rung != p1.Rung) = true then some false
      else (laws_eqInt64S p0.Gains p1.Gains).bind fun r1 =>
        if r1 = true then some true
        else some false
  else some false
@[go_sem] theorem laws_eqAnchor_ok (n : Nat) (q0_0 : Bool) (q0_1 : Int) (q0_2 : Int) (q0_3 : List Int) (q1_0 : Bool) (q1_1 : Int) (q1_2 : Int) (q1_3 : List Int) : lev tab (n + 2) 169 [.agg [.bool q0_0, .int .i64 q0_1, .int .i64 q0_2, .sh .lent 1 (rowE (eI .i64) q0_3)], .agg [.bool q1_0, .int .i64 q1_1, .int .i64 q1_2, .sh .lent 1 (rowE (eI .i64) q1_3)]] = (laws_eqAnchor (SAnchor.mk q0_0 q0_1 q0_2 q0_3) (SAnchor.mk q1_0 q1_1 q1_2 q1_3)).map fun r => (.bool r, [.gone, .gone]) := by
  rw [lev_st (vc := c169) (nt := 26) (rs := [(4, none)]) rfl rfl (Nat.le_of_ble_eq_true rfl)]
  unfold c169
  simp +contextual -implicitDefEqProofs (maxSteps := 100000000) only [laws_eqAnchor, subI, go_sem, ↓ite_not', Nat.reduceEqDiff, Nat.reduceLT, Nat.reduceLeDiff, ↓reduceIte, Nat.reduceAdd, Nat.reduceMul, Nat.reduceSub, Int.reduceEq, Int.reduceLT, Int.reduceLE, Int.reduceToNat, Int.cast_ofNat_Int, Nat.reduceBEq] <;> rfl
-- laws.eqSynth
def laws_eqSynth (p0 : SSynth) (p1 : SSynth) : Option (Bool) :=
  if (p0.Size != p1.Size) = true then some false
  else (laws_eqInt64S p0.Head p1.Head).bind fun r1 =>
    if r1 = true then (laws_eqInt64S p0.Tail p1.Tail).bind fun r2 =>
      if r2 = true then some true
      else some false
    else some false
@[go_sem] theorem laws_eqSynth_ok (n : Nat) (q0_0 : Int) (q0_1 : List Int) (q0_2 : List Int) (q1_0 : Int) (q1_1 : List Int) (q1_2 : List Int) : lev tab (n + 2) 170 [.agg [.int .i64 q0_0, .sh .lent 1 (rowE (eI .i64) q0_1), .sh .lent 1 (rowE (eI .i64) q0_2)], .agg [.int .i64 q1_0, .sh .lent 1 (rowE (eI .i64) q1_1), .sh .lent 1 (rowE (eI .i64) q1_2)]] = (laws_eqSynth (SSynth.mk q0_0 q0_1 q0_2) (SSynth.mk q1_0 q1_1 q1_2)).map fun r => (.bool r, [.gone, .gone]) := by
  rw [lev_st (vc := c170) (nt := 22) (rs := [(4, none)]) rfl rfl (Nat.le_of_ble_eq_true rfl)]
  unfold c170
  simp +contextual -implicitDefEqProofs (maxSteps := 100000000) only [laws_eqSynth, subI, go_sem, ↓ite_not', Nat.reduceEqDiff, Nat.reduceLT, Nat.reduceLeDiff, ↓reduceIte, Nat.reduceAdd, Nat.reduceMul, Nat.reduceSub, Int.reduceEq, Int.reduceLT, Int.reduceLE, Int.reduceToNat, Int.cast_ofNat_Int, Nat.reduceBEq] <;> rfl
-- laws.eqReceiver
def laws_eqReceiver (p0 : SReceiver) (p1 : SReceiver) : Option (Bool) :=
  if (p0.Size != p1.Size) = true then some false
  else if (p0.Next != p1.Next) = true then some false
    else (laws_eqHeldS p0.Held p1.Held).bind fun r1 =>
      if r1 = true then (laws_eqAnchor p0.A p1.A).bind fun r2 =>
        if r2 = true then (laws_eqAnchor p0.B p1.B).bind fun r3 =>
          if r3 = true then (laws_eqSynth p0.Synth p1.Synth).bind fun r4 =>
            if r4 = true then (laws_eqInt64S p0.Last p1.Last).bind fun r5 =>
              if r5 = true then if (p0.Lost != p1.Lost) = true then some false
                else some true
              else some false
            else some false
          else some false
        else some false
      else some false
@[go_sem] theorem laws_eqReceiver_ok (n : Nat) (q0_0 : Int) (q0_1 : Int) (q0_2 : List SHeld) (q0_3 : Bool) (q0_4 : Int) (q0_5 : Int) (q0_6 : List Int) (q0_7 : Bool) (q0_8 : Int) (q0_9 : Int) (q0_10 : List Int) (q0_11 : Int) (q0_12 : List Int) (q0_13 : List Int) (q0_14 : List Int) (q0_15 : Int) (q1_0 : Int) (q1_1 : Int) (q1_2 : List SHeld) (q1_3 : Bool) (q1_4 : Int) (q1_5 : Int) (q1_6 : List Int) (q1_7 : Bool) (q1_8 : Int) (q1_9 : Int) (q1_10 : List Int) (q1_11 : Int) (q1_12 : List Int) (q1_13 : List Int) (q1_14 : List Int) (q1_15 : Int) : lev tab (n + 4) 66 [.agg [.int .i64 q0_0, .int .i64 q0_1, .sh .lent 3 (rowE (SHeld.cells .lent) q0_2), .bool q0_3, .int .i64 q0_4, .int .i64 q0_5, .sh .lent 1 (rowE (eI .i64) q0_6), .bool q0_7, .int .i64 q0_8, .int .i64 q0_9, .sh .lent 1 (rowE (eI .i64) q0_10), .int .i64 q0_11, .sh .lent 1 (rowE (eI .i64) q0_12), .sh .lent 1 (rowE (eI .i64) q0_13), .sh .lent 1 (rowE (eI .i64) q0_14), .int .i64 q0_15], .agg [.int .i64 q1_0, .int .i64 q1_1, .sh .lent 3 (rowE (SHeld.cells .lent) q1_2), .bool q1_3, .int .i64 q1_4, .int .i64 q1_5, .sh .lent 1 (rowE (eI .i64) q1_6), .bool q1_7, .int .i64 q1_8, .int .i64 q1_9, .sh .lent 1 (rowE (eI .i64) q1_10), .int .i64 q1_11, .sh .lent 1 (rowE (eI .i64) q1_12), .sh .lent 1 (rowE (eI .i64) q1_13), .sh .lent 1 (rowE (eI .i64) q1_14), .int .i64 q1_15]] = (laws_eqReceiver (SReceiver.mk q0_0 q0_1 q0_2 (SAnchor.mk q0_3 q0_4 q0_5 q0_6) (SAnchor.mk q0_7 q0_8 q0_9 q0_10) (SSynth.mk q0_11 q0_12 q0_13) q0_14 q0_15) (SReceiver.mk q1_0 q1_1 q1_2 (SAnchor.mk q1_3 q1_4 q1_5 q1_6) (SAnchor.mk q1_7 q1_8 q1_9 q1_10) (SSynth.mk q1_11 q1_12 q1_13) q1_14 q1_15)).map fun r => (.bool r, [.gone, .gone]) := by
  rw [lev_st (vc := c66) (nt := 50) (rs := [(4, none)]) rfl rfl (Nat.le_of_ble_eq_true rfl)]
  unfold c66
  simp +contextual -implicitDefEqProofs (maxSteps := 100000000) only [laws_eqReceiver, subI, go_sem, ↓ite_not', Nat.reduceEqDiff, Nat.reduceLT, Nat.reduceLeDiff, ↓reduceIte, Nat.reduceAdd, Nat.reduceMul, Nat.reduceSub, Int.reduceEq, Int.reduceLT, Int.reduceLE, Int.reduceToNat, Int.cast_ofNat_Int, Nat.reduceBEq] <;> rfl
-- laws.FnExactReceiverFault
def laws_FnExactReceiverFault (p0 : SReceiver) : Option (Bool) :=
  (laws_szReceiver p0 1048576).bind fun r1 =>
  if (decide (r1 < 0)) = true then some true
  else (laws_toReceiver p0).bind fun r2 =>
    (spec_ReceiverFault r2).bind fun r3 =>
    (laws_toReceiver p0).bind fun r4 =>
    (impl_ReceiverFault r4).bind fun r5 =>
    if (r5 != r3) = true then some false
    else (laws_toReceiver p0).bind fun r6 =>
      (laws_eqReceiver r4 r6).bind fun r7 =>
      if r7 = true then some true
      else some false
@[go_sem] theorem laws_FnExactReceiverFault_ok (n : Nat) (q0_0 : Int) (q0_1 : Int) (q0_2 : List SHeld) (q0_3 : Bool) (q0_4 : Int) (q0_5 : Int) (q0_6 : List Int) (q0_7 : Bool) (q0_8 : Int) (q0_9 : Int) (q0_10 : List Int) (q0_11 : Int) (q0_12 : List Int) (q0_13 : List Int) (q0_14 : List Int) (q0_15 : Int) : lev tab (n + 9) 10 [.agg [.int .i64 q0_0, .int .i64 q0_1, .sh .lent 3 (rowE (SHeld.cells .lent) q0_2), .bool q0_3, .int .i64 q0_4, .int .i64 q0_5, .sh .lent 1 (rowE (eI .i64) q0_6), .bool q0_7, .int .i64 q0_8, .int .i64 q0_9, .sh .lent 1 (rowE (eI .i64) q0_10), .int .i64 q0_11, .sh .lent 1 (rowE (eI .i64) q0_12), .sh .lent 1 (rowE (eI .i64) q0_13), .sh .lent 1 (rowE (eI .i64) q0_14), .int .i64 q0_15]] = (laws_FnExactReceiverFault (SReceiver.mk q0_0 q0_1 q0_2 (SAnchor.mk q0_3 q0_4 q0_5 q0_6) (SAnchor.mk q0_7 q0_8 q0_9 q0_10) (SSynth.mk q0_11 q0_12 q0_13) q0_14 q0_15)).map fun r => (.bool r, [.gone]) := by
  rw [lev_st (vc := c10) (nt := 27) (rs := [(2, none)]) rfl rfl (Nat.le_of_ble_eq_true rfl)]
  unfold c10
  simp +contextual -implicitDefEqProofs (maxSteps := 100000000) only [laws_FnExactReceiverFault, subI, go_sem, ↓ite_not', Nat.reduceEqDiff, Nat.reduceLT, Nat.reduceLeDiff, ↓reduceIte, Nat.reduceAdd, Nat.reduceMul, Nat.reduceSub, Int.reduceEq, Int.reduceLT, Int.reduceLE, Int.reduceToNat, Int.cast_ofNat_Int, Nat.reduceBEq] <;> rfl
def SHeld.Wf (s : SHeld) : Prop := (WfI .i64 s.Number) ∧ (WfI .i64 s.Side) ∧ (((s.Data.length : Int) ≤ maxI ∧ ∀ x ∈ s.Data, WfI .u8 x))
theorem SHeld.of {ds : List D} (h : OkL [.int .i64, .int .i64, .sl 1 [.int .u8]] ds) : ∃ s : SHeld, ds = s.cells .lent ∧ s.Wf := by
  simp only [OkL, OkD] at h
  obtain ⟨_, _, rfl, ⟨x0, rfl, hx0⟩, ⟨_, _, rfl, ⟨x1, rfl, hx1⟩, ⟨_, _, rfl, ⟨x2, rfl, lx2, hx2⟩, rfl⟩⟩⟩ := h
  obtain ⟨yx2, rfl, wx2⟩ := rows_of (f := (eI .u8)) (W := fun x => WfI .u8 x) (fun el h => row_int h) hx2
  rw [rowE_len] at lx2
  exact ⟨⟨x0, x1, yx2⟩, rfl, ⟨⟨hx0.1, hx0.2⟩, ⟨hx1.1, hx1.2⟩, ⟨lx2, wx2⟩⟩⟩
def SAnchor.Wf (s : SAnchor) : Prop := (True) ∧ (WfI .i64 s.Number) ∧ (WfI .i64 s.Rung) ∧ (((s.Gains.length : Int) ≤ maxI ∧ ∀ x ∈ s.Gains, WfI .i64 x))
theorem SAnchor.of {ds : List D} (h : OkL [.bool, .int .i64, .int .i64, .sl 1 [.int .i64]] ds) : ∃ s : SAnchor, ds = s.cells .lent ∧ s.Wf := by
  simp only [OkL, OkD] at h
  obtain ⟨_, _, rfl, ⟨x0, rfl⟩, ⟨_, _, rfl, ⟨x1, rfl, hx1⟩, ⟨_, _, rfl, ⟨x2, rfl, hx2⟩, ⟨_, _, rfl, ⟨x3, rfl, lx3, hx3⟩, rfl⟩⟩⟩⟩ := h
  obtain ⟨yx3, rfl, wx3⟩ := rows_of (f := (eI .i64)) (W := fun x => WfI .i64 x) (fun el h => row_int h) hx3
  rw [rowE_len] at lx3
  exact ⟨⟨x0, x1, x2, yx3⟩, rfl, ⟨trivial, ⟨hx1.1, hx1.2⟩, ⟨hx2.1, hx2.2⟩, ⟨lx3, wx3⟩⟩⟩
def SSynth.Wf (s : SSynth) : Prop := (WfI .i64 s.Size) ∧ (((s.Head.length : Int) ≤ maxI ∧ ∀ x ∈ s.Head, WfI .i64 x)) ∧ (((s.Tail.length : Int) ≤ maxI ∧ ∀ x ∈ s.Tail, WfI .i64 x))
theorem SSynth.of {ds : List D} (h : OkL [.int .i64, .sl 1 [.int .i64], .sl 1 [.int .i64]] ds) : ∃ s : SSynth, ds = s.cells .lent ∧ s.Wf := by
  simp only [OkL, OkD] at h
  obtain ⟨_, _, rfl, ⟨x0, rfl, hx0⟩, ⟨_, _, rfl, ⟨x1, rfl, lx1, hx1⟩, ⟨_, _, rfl, ⟨x2, rfl, lx2, hx2⟩, rfl⟩⟩⟩ := h
  obtain ⟨yx1, rfl, wx1⟩ := rows_of (f := (eI .i64)) (W := fun x => WfI .i64 x) (fun el h => row_int h) hx1
  rw [rowE_len] at lx1
  obtain ⟨yx2, rfl, wx2⟩ := rows_of (f := (eI .i64)) (W := fun x => WfI .i64 x) (fun el h => row_int h) hx2
  rw [rowE_len] at lx2
  exact ⟨⟨x0, yx1, yx2⟩, rfl, ⟨⟨hx0.1, hx0.2⟩, ⟨lx1, wx1⟩, ⟨lx2, wx2⟩⟩⟩
def SReceiver.Wf (s : SReceiver) : Prop := (WfI .i64 s.Size) ∧ (WfI .i64 s.Next) ∧ (((s.Held.length : Int) ≤ maxI ∧ ∀ x ∈ s.Held, SHeld.Wf x)) ∧ (SAnchor.Wf s.A) ∧ (SAnchor.Wf s.B) ∧ (SSynth.Wf s.Synth) ∧ (((s.Last.length : Int) ≤ maxI ∧ ∀ x ∈ s.Last, WfI .i64 x)) ∧ (WfI .i64 s.Lost)
theorem SReceiver.of {ds : List D} (h : OkL [.int .i64, .int .i64, .sl 3 [.int .i64, .int .i64, .sl 1 [.int .u8]], .bool, .int .i64, .int .i64, .sl 1 [.int .i64], .bool, .int .i64, .int .i64, .sl 1 [.int .i64], .int .i64, .sl 1 [.int .i64], .sl 1 [.int .i64], .sl 1 [.int .i64], .int .i64] ds) : ∃ s : SReceiver, ds = s.cells .lent ∧ s.Wf := by
  simp only [OkL, OkD] at h
  obtain ⟨_, _, rfl, ⟨x0, rfl, hx0⟩, ⟨_, _, rfl, ⟨x1, rfl, hx1⟩, ⟨_, _, rfl, ⟨x2, rfl, lx2, hx2⟩, ⟨_, _, rfl, ⟨x3, rfl⟩, ⟨_, _, rfl, ⟨x4, rfl, hx4⟩, ⟨_, _, rfl, ⟨x5, rfl, hx5⟩, ⟨_, _, rfl, ⟨x6, rfl, lx6, hx6⟩, ⟨_, _, rfl, ⟨x7, rfl⟩, ⟨_, _, rfl, ⟨x8, rfl, hx8⟩, ⟨_, _, rfl, ⟨x9, rfl, hx9⟩, ⟨_, _, rfl, ⟨x10, rfl, lx10, hx10⟩, ⟨_, _, rfl, ⟨x11, rfl, hx11⟩, ⟨_, _, rfl, ⟨x12, rfl, lx12, hx12⟩, ⟨_, _, rfl, ⟨x13, rfl, lx13, hx13⟩, ⟨_, _, rfl, ⟨x14, rfl, lx14, hx14⟩, ⟨_, _, rfl, ⟨x15, rfl, hx15⟩, rfl⟩⟩⟩⟩⟩⟩⟩⟩⟩⟩⟩⟩⟩⟩⟩⟩ := h
  obtain ⟨yx2, rfl, wx2⟩ := rows_of (f := (SHeld.cells .lent)) (W := fun x => SHeld.Wf x) (fun el h => SHeld.of h) hx2
  rw [rowE_len] at lx2
  obtain ⟨yx6, rfl, wx6⟩ := rows_of (f := (eI .i64)) (W := fun x => WfI .i64 x) (fun el h => row_int h) hx6
  rw [rowE_len] at lx6
  obtain ⟨yx10, rfl, wx10⟩ := rows_of (f := (eI .i64)) (W := fun x => WfI .i64 x) (fun el h => row_int h) hx10
  rw [rowE_len] at lx10
  obtain ⟨yx12, rfl, wx12⟩ := rows_of (f := (eI .i64)) (W := fun x => WfI .i64 x) (fun el h => row_int h) hx12
  rw [rowE_len] at lx12
  obtain ⟨yx13, rfl, wx13⟩ := rows_of (f := (eI .i64)) (W := fun x => WfI .i64 x) (fun el h => row_int h) hx13
  rw [rowE_len] at lx13
  obtain ⟨yx14, rfl, wx14⟩ := rows_of (f := (eI .i64)) (W := fun x => WfI .i64 x) (fun el h => row_int h) hx14
  rw [rowE_len] at lx14
  exact ⟨⟨x0, x1, yx2, ⟨x3, x4, x5, yx6⟩, ⟨x7, x8, x9, yx10⟩, ⟨x11, yx12, yx13⟩, yx14, x15⟩, rfl, ⟨⟨hx0.1, hx0.2⟩, ⟨hx1.1, hx1.2⟩, ⟨lx2, wx2⟩, ⟨trivial, ⟨hx4.1, hx4.2⟩, ⟨hx5.1, hx5.2⟩, ⟨lx6, wx6⟩⟩, ⟨trivial, ⟨hx8.1, hx8.2⟩, ⟨hx9.1, hx9.2⟩, ⟨lx10, wx10⟩⟩, ⟨⟨hx11.1, hx11.2⟩, ⟨lx12, wx12⟩, ⟨lx13, wx13⟩⟩, ⟨lx14, wx14⟩, ⟨hx15.1, hx15.2⟩⟩⟩
end
end FnExactReceiverFault
end Go.Proofs.Ytjgdnpockaijeaa.Wm
