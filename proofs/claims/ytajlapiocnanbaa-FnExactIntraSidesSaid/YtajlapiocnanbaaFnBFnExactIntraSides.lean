/- What the functions behind FnExactIntraSides come to, on plain values (a further part): written by a program. -/
import Derived.Test.YtajlapiocnanbaaFnFnExactIntraSides
set_option linter.unusedSimpArgs false
set_option linter.unusedVariables false
set_option maxRecDepth 100000
set_option maxHeartbeats 4000000
namespace Go.Proofs.Ytajlapiocnanbaa.Wm
open Go Go.Proofs
namespace FnExactIntraSides
noncomputable section
attribute [local congr] ite_cong2 run_cg runR_cg plug_cg contV_cg contH_cg contT_cg contF_cg guardR_cg condX_cg evcA_cg evcB_cg evcC_cg evcE_cg levA_cg
-- laws.eqAnchor
def laws_eqAnchor (p0 : SAnchor) (p1 : SAnchor) : Option (Bool) :=
  if (p0.Known == p1.Known) = true then if (p0.Number != p1.Number) = true then some false
    else if (p0.Rung != p1.Rung) = true then some false
      else (laws_eqInt64S p0.Gains p1.Gains).bind fun r1 =>
        if r1 = true then some true
        else some false
  else some false
@[go_sem] theorem laws_eqAnchor_ok (n : Nat) (q0_0 : Bool) (q0_1 : Int) (q0_2 : Int) (q0_3 : List Int) (q1_0 : Bool) (q1_1 : Int) (q1_2 : Int) (q1_3 : List Int) : lev tab (n + 2) 55 [.agg [.bool q0_0, .int .i64 q0_1, .int .i64 q0_2, .sh .lent 1 (rowE (eI .i64) q0_3)], .agg [.bool q1_0, .int .i64 q1_1, .int .i64 q1_2, .sh .lent 1 (rowE (eI .i64) q1_3)]] = (laws_eqAnchor (SAnchor.mk q0_0 q0_1 q0_2 q0_3) (SAnchor.mk q1_0 q1_1 q1_2 q1_3)).map fun r => (.bool r, [.gone, .gone]) := by
  rw [lev_st (vc := c55) (nt := 26) (rs := [(4, none)]) rfl rfl (Nat.le_of_ble_eq_true rfl)]
  unfold c55
  simp +contextual -implicitDefEqProofs (maxSteps := 10000000) only [laws_eqAnchor, go_sem, ↓ite_not', Nat.reduceEqDiff, Nat.reduceLT, Nat.reduceLeDiff, ↓reduceIte, Nat.reduceAdd, Nat.reduceMul, Nat.reduceSub, Int.reduceEq, Int.reduceLT, Int.reduceLE, Int.reduceToNat, Int.cast_ofNat_Int]
-- laws.eqSender
def laws_eqSender (p0 : SSender) (p1 : SSender) : Option (Bool) :=
  if (p0.Size != p1.Size) = true then some false
  else if (p0.Budget != p1.Budget) = true then some false
    else if (p0.Refresh != p1.Refresh) = true then some false
      else if (p0.Number != p1.Number) = true then some false
        else (laws_eqLap p0.Lap p1.Lap).bind fun r1 =>
          if r1 = true then (laws_eqAnchor p0.A p1.A).bind fun r2 =>
            if r2 = true then (laws_eqAnchor p0.B p1.B).bind fun r3 =>
              if r3 = true then if (p0.SinceA != p1.SinceA) = true then some false
                else if (p0.SinceB != p1.SinceB) = true then some false
                  else some true
              else some false
            else some false
          else some false
@[go_sem] theorem laws_eqSender_ok (n : Nat) (q0_0 : Int) (q0_1 : Int) (q0_2 : Int) (q0_3 : Int) (q0_4 : Int) (q0_5 : List Int) (q0_6 : List Int) (q0_7 : Bool) (q0_8 : Int) (q0_9 : Int) (q0_10 : List Int) (q0_11 : Bool) (q0_12 : Int) (q0_13 : Int) (q0_14 : List Int) (q0_15 : Int) (q0_16 : Int) (q1_0 : Int) (q1_1 : Int) (q1_2 : Int) (q1_3 : Int) (q1_4 : Int) (q1_5 : List Int) (q1_6 : List Int) (q1_7 : Bool) (q1_8 : Int) (q1_9 : Int) (q1_10 : List Int) (q1_11 : Bool) (q1_12 : Int) (q1_13 : Int) (q1_14 : List Int) (q1_15 : Int) (q1_16 : Int) : lev tab (n + 3) 13 [.agg [.int .i64 q0_0, .int .i64 q0_1, .int .i64 q0_2, .int .i64 q0_3, .int .i64 q0_4, .sh .lent 1 (rowE (eI .i64) q0_5), .sh .lent 1 (rowE (eI .i64) q0_6), .bool q0_7, .int .i64 q0_8, .int .i64 q0_9, .sh .lent 1 (rowE (eI .i64) q0_10), .bool q0_11, .int .i64 q0_12, .int .i64 q0_13, .sh .lent 1 (rowE (eI .i64) q0_14), .int .i64 q0_15, .int .i64 q0_16], .agg [.int .i64 q1_0, .int .i64 q1_1, .int .i64 q1_2, .int .i64 q1_3, .int .i64 q1_4, .sh .lent 1 (rowE (eI .i64) q1_5), .sh .lent 1 (rowE (eI .i64) q1_6), .bool q1_7, .int .i64 q1_8, .int .i64 q1_9, .sh .lent 1 (rowE (eI .i64) q1_10), .bool q1_11, .int .i64 q1_12, .int .i64 q1_13, .sh .lent 1 (rowE (eI .i64) q1_14), .int .i64 q1_15, .int .i64 q1_16]] = (laws_eqSender (SSender.mk q0_0 q0_1 q0_2 q0_3 (SLap.mk q0_4 q0_5 q0_6) (SAnchor.mk q0_7 q0_8 q0_9 q0_10) (SAnchor.mk q0_11 q0_12 q0_13 q0_14) q0_15 q0_16) (SSender.mk q1_0 q1_1 q1_2 q1_3 (SLap.mk q1_4 q1_5 q1_6) (SAnchor.mk q1_7 q1_8 q1_9 q1_10) (SAnchor.mk q1_11 q1_12 q1_13 q1_14) q1_15 q1_16)).map fun r => (.bool r, [.gone, .gone]) := by
  rw [lev_st (vc := c13) (nt := 53) (rs := [(4, none)]) rfl rfl (Nat.le_of_ble_eq_true rfl)]
  unfold c13
  simp +contextual -implicitDefEqProofs (maxSteps := 10000000) only [laws_eqSender, go_sem, ↓ite_not', Nat.reduceEqDiff, Nat.reduceLT, Nat.reduceLeDiff, ↓reduceIte, Nat.reduceAdd, Nat.reduceMul, Nat.reduceSub, Int.reduceEq, Int.reduceLT, Int.reduceLE, Int.reduceToNat, Int.cast_ofNat_Int]
-- laws.FnExactIntraSides
def laws_FnExactIntraSides_u1 (a1 : Int) (a2 : Int) (a3 : Int) (a4 : Int) (a5 : Int) (a6 : List Int) (a7 : List Int) (a8 : Bool) (a9 : Int) (a10 : Int) (a11 : List Int) (a12 : Bool) (a13 : Int) (a14 : Int) (a15 : List Int) (a16 : Int) (a17 : Int) (a18 : Int) (a19 : Int) (a20 : Bool) (a21 : Bool) : Option (Int × Int) :=
  (laws_toSender ((SSender.mk a1 a2 a3 a4 ((SLap.mk a5 a6 a7)) ((SAnchor.mk a8 a9 a10 a11)) ((SAnchor.mk a12 a13 a14 a15)) a16 a17))).bind fun r22 =>
  (spec_IntraSides r22 (((laws_toPlan ((SPlan.mk a18 a19 a20 a21)))))).bind fun r23 =>
  some ((r23.Code, r23.Value))
def laws_FnExactIntraSides_u2 (a26 : Int) (a27 : Int) (a28 : Int) (a29 : Int) (a30 : Int) (a31 : List Int) (a32 : List Int) (a33 : Bool) (a34 : Int) (a35 : Int) (a36 : List Int) (a37 : Bool) (a38 : Int) (a39 : Int) (a40 : List Int) (a41 : Int) (a42 : Int) (a43 : Int) (a44 : Int) (a45 : Bool) (a46 : Bool) (a47 : Int) (a48 : Int) (a49 : Int) (a50 : Int) (a51 : Int) (a52 : Int) (a53 : Int) (a54 : Bool) (a55 : Int) (a56 : Int) (a57 : Bool) (a58 : Int) (a59 : Int) (a60 : Int) (a61 : Int) (a62 : List Int) (a63 : List Int) (a64 : List Int) (a65 : List Int) : Option (Int × Int) :=
  (impl_IntraSides ((SSender.mk a49 a50 a51 a52 ((SLap.mk a53 a62 a63)) ((SAnchor.mk a54 a55 a56 a64)) ((SAnchor.mk a57 a58 a59 a65)) a60 a61)) (((laws_toPlan ((SPlan.mk a43 a44 a45 a46)))))).bind fun r66 =>
  some ((r66.Code, r66.Value))
def laws_FnExactIntraSides (p0 : SSender) (p1 : SPlan) : Option (Bool) :=
  if (decide ((laws_szSender p0 1048576) < 0)) = true then some true
  else (laws_FnExactIntraSides_u1 p0.Size p0.Budget p0.Refresh p0.Number p0.Lap.Size p0.Lap.Half p0.Lap.Rest p0.A.Known p0.A.Number p0.A.Rung p0.A.Gains p0.B.Known p0.B.Number p0.B.Rung p0.B.Gains p0.SinceA p0.SinceB p1.Spread p1.Paths p1.IntraA p1.IntraB).bind fun y24 =>
    (laws_toSender p0).bind fun r25 =>
    (laws_FnExactIntraSides_u2 p0.Size p0.Budget p0.Refresh p0.Number p0.Lap.Size p0.Lap.Half p0.Lap.Rest p0.A.Known p0.A.Number p0.A.Rung p0.A.Gains p0.B.Known p0.B.Number p0.B.Rung p0.B.Gains p0.SinceA p0.SinceB p1.Spread p1.Paths p1.IntraA p1.IntraB y24.1 y24.2 r25.Size r25.Budget r25.Refresh r25.Number r25.Lap.Size r25.A.Known r25.A.Number r25.A.Rung r25.B.Known r25.B.Number r25.B.Rung r25.SinceA r25.SinceB r25.Lap.Half r25.Lap.Rest r25.A.Gains r25.B.Gains).bind fun y67 =>
    if (laws_eqIntResult ((SIntResult.mk y67.1 y67.2)) ((SIntResult.mk y24.1 y24.2))) = true then (laws_toSender p0).bind fun r68 =>
      (laws_eqSender r25 r68).bind fun r69 =>
      if r69 = true then some true
      else some false
    else some false
@[go_sem] theorem laws_FnExactIntraSides_u1_ok {β : Type} (n : Nat) (K : List (Kont β)) (a1 : Int) (a2 : Int) (a3 : Int) (a4 : Int) (a5 : Int) (a6 : List Int) (a7 : List Int) (a8 : Bool) (a9 : Int) (a10 : Int) (a11 : List Int) (a12 : Bool) (a13 : Int) (a14 : Int) (a15 : List Int) (a16 : Int) (a17 : Int) (a18 : Int) (a19 : Int) (a20 : Bool) (a21 : Bool) : run ⟨tab.own, lev tab (n + 9), tab.gl⟩ K c5_u1 ⟨[(2, .pt 200000020 0), (3, .pt 200000030 0)], [(200000020, .var false [.val (.int .i64 a1), .val (.int .i64 a2), .val (.int .i64 a3), .val (.int .i64 a4), .val (.int .i64 a5), .val (.sh .lent 1 (rowE (eI .i64) a6)), .val (.sh .lent 1 (rowE (eI .i64) a7)), .val (.bool a8), .val (.int .i64 a9), .val (.int .i64 a10), .val (.sh .lent 1 (rowE (eI .i64) a11)), .val (.bool a12), .val (.int .i64 a13), .val (.int .i64 a14), .val (.sh .lent 1 (rowE (eI .i64) a15)), .val (.int .i64 a16), .val (.int .i64 a17)]), (200000030, .var false [.val (.int .i64 a18), .val (.int .i64 a19), .val (.bool a20), .val (.bool a21)])], 34⟩ = (laws_FnExactIntraSides_u1 a1 a2 a3 a4 a5 a6 a7 a8 a9 a10 a11 a12 a13 a14 a15 a16 a17 a18 a19 a20 a21).bind (fun t => plug ⟨tab.own, lev tab (n + 9), tab.gl⟩ K .normal ⟨[(2, .pt 200000020 0), (3, .pt 200000030 0), (6, .pt 200000060 0)], [(200000020, .var false [.val (.int .i64 a1), .val (.int .i64 a2), .val (.int .i64 a3), .val (.int .i64 a4), .val (.int .i64 a5), .val (.sh .lent 1 (rowE (eI .i64) a6)), .val (.sh .lent 1 (rowE (eI .i64) a7)), .val (.bool a8), .val (.int .i64 a9), .val (.int .i64 a10), .val (.sh .lent 1 (rowE (eI .i64) a11)), .val (.bool a12), .val (.int .i64 a13), .val (.int .i64 a14), .val (.sh .lent 1 (rowE (eI .i64) a15)), .val (.int .i64 a16), .val (.int .i64 a17)]), (200000030, .var false [.val (.int .i64 a18), .val (.int .i64 a19), .val (.bool a20), .val (.bool a21)]), (200000060, .var false [.val (.int .i64 t.1), .val (.int .i64 t.2)])], 34⟩) := by
  unfold c5_u1
  rw [run_alts]
  · simp +contextual -implicitDefEqProofs (maxSteps := 10000000) only [laws_FnExactIntraSides_u1, go_sem, ↓ite_not', Nat.reduceEqDiff, Nat.reduceLT, Nat.reduceLeDiff, ↓reduceIte, Nat.reduceAdd, Nat.reduceMul, Nat.reduceSub, Int.reduceEq, Int.reduceLT, Int.reduceLE, Int.reduceToNat, Int.cast_ofNat_Int]
  · refine ⟨?_, ?_, ?_, trivial⟩
    · simp +contextual -implicitDefEqProofs (maxSteps := 10000000) only [laws_FnExactIntraSides_u1, go_sem, ↓ite_not', Nat.reduceEqDiff, Nat.reduceLT, Nat.reduceLeDiff, ↓reduceIte, Nat.reduceAdd, Nat.reduceMul, Nat.reduceSub, Int.reduceEq, Int.reduceLT, Int.reduceLE, Int.reduceToNat, Int.cast_ofNat_Int]
    · simp +contextual -implicitDefEqProofs (maxSteps := 10000000) only [laws_FnExactIntraSides_u1, go_sem, ↓ite_not', Nat.reduceEqDiff, Nat.reduceLT, Nat.reduceLeDiff, ↓reduceIte, Nat.reduceAdd, Nat.reduceMul, Nat.reduceSub, Int.reduceEq, Int.reduceLT, Int.reduceLE, Int.reduceToNat, Int.cast_ofNat_Int]
    · simp +contextual -implicitDefEqProofs (maxSteps := 10000000) only [laws_FnExactIntraSides_u1, go_sem, ↓ite_not', Nat.reduceEqDiff, Nat.reduceLT, Nat.reduceLeDiff, ↓reduceIte, Nat.reduceAdd, Nat.reduceMul, Nat.reduceSub, Int.reduceEq, Int.reduceLT, Int.reduceLE, Int.reduceToNat, Int.cast_ofNat_Int]
@[go_sem] theorem laws_FnExactIntraSides_u2_ok {β : Type} (n : Nat) (K : List (Kont β)) (a26 : Int) (a27 : Int) (a28 : Int) (a29 : Int) (a30 : Int) (a31 : List Int) (a32 : List Int) (a33 : Bool) (a34 : Int) (a35 : Int) (a36 : List Int) (a37 : Bool) (a38 : Int) (a39 : Int) (a40 : List Int) (a41 : Int) (a42 : Int) (a43 : Int) (a44 : Int) (a45 : Bool) (a46 : Bool) (a47 : Int) (a48 : Int) (a49 : Int) (a50 : Int) (a51 : Int) (a52 : Int) (a53 : Int) (a54 : Bool) (a55 : Int) (a56 : Int) (a57 : Bool) (a58 : Int) (a59 : Int) (a60 : Int) (a61 : Int) (a62 : List Int) (a63 : List Int) (a64 : List Int) (a65 : List Int) : run ⟨tab.own, lev tab (n + 9), tab.gl⟩ K c5_u2 ⟨[(2, .pt 200000020 0), (3, .pt 200000030 0), (6, .pt 200000060 0), (7, .pt 200000070 0)], [(200000020, .var false [.val (.int .i64 a26), .val (.int .i64 a27), .val (.int .i64 a28), .val (.int .i64 a29), .val (.int .i64 a30), .val (.sh .lent 1 (rowE (eI .i64) a31)), .val (.sh .lent 1 (rowE (eI .i64) a32)), .val (.bool a33), .val (.int .i64 a34), .val (.int .i64 a35), .val (.sh .lent 1 (rowE (eI .i64) a36)), .val (.bool a37), .val (.int .i64 a38), .val (.int .i64 a39), .val (.sh .lent 1 (rowE (eI .i64) a40)), .val (.int .i64 a41), .val (.int .i64 a42)]), (200000030, .var false [.val (.int .i64 a43), .val (.int .i64 a44), .val (.bool a45), .val (.bool a46)]), (200000060, .var false [.val (.int .i64 a47), .val (.int .i64 a48)]), (200000070, .var false [.val (.int .i64 a49), .val (.int .i64 a50), .val (.int .i64 a51), .val (.int .i64 a52), .val (.int .i64 a53), .sl 200000071 0 a62.length, .sl 200000072 0 a63.length, .val (.bool a54), .val (.int .i64 a55), .val (.int .i64 a56), .sl 200000073 0 a64.length, .val (.bool a57), .val (.int .i64 a58), .val (.int .i64 a59), .sl 200000074 0 a65.length, .val (.int .i64 a60), .val (.int .i64 a61)]), (200000071, .row false 1 (rowE (eI .i64) a62)), (200000072, .row false 1 (rowE (eI .i64) a63)), (200000073, .row false 1 (rowE (eI .i64) a64)), (200000074, .row false 1 (rowE (eI .i64) a65))], 34⟩ = (laws_FnExactIntraSides_u2 a26 a27 a28 a29 a30 a31 a32 a33 a34 a35 a36 a37 a38 a39 a40 a41 a42 a43 a44 a45 a46 a47 a48 a49 a50 a51 a52 a53 a54 a55 a56 a57 a58 a59 a60 a61 a62 a63 a64 a65).bind (fun t => plug ⟨tab.own, lev tab (n + 9), tab.gl⟩ K .normal ⟨[(2, .pt 200000020 0), (6, .pt 200000060 0), (7, .pt 200000070 0), (8, .pt 200000080 0)], [(200000020, .var false [.val (.int .i64 a26), .val (.int .i64 a27), .val (.int .i64 a28), .val (.int .i64 a29), .val (.int .i64 a30), .val (.sh .lent 1 (rowE (eI .i64) a31)), .val (.sh .lent 1 (rowE (eI .i64) a32)), .val (.bool a33), .val (.int .i64 a34), .val (.int .i64 a35), .val (.sh .lent 1 (rowE (eI .i64) a36)), .val (.bool a37), .val (.int .i64 a38), .val (.int .i64 a39), .val (.sh .lent 1 (rowE (eI .i64) a40)), .val (.int .i64 a41), .val (.int .i64 a42)]), (200000060, .var false [.val (.int .i64 a47), .val (.int .i64 a48)]), (200000070, .var false [.val (.int .i64 a49), .val (.int .i64 a50), .val (.int .i64 a51), .val (.int .i64 a52), .val (.int .i64 a53), .sl 200000071 0 a62.length, .sl 200000072 0 a63.length, .val (.bool a54), .val (.int .i64 a55), .val (.int .i64 a56), .sl 200000073 0 a64.length, .val (.bool a57), .val (.int .i64 a58), .val (.int .i64 a59), .sl 200000074 0 a65.length, .val (.int .i64 a60), .val (.int .i64 a61)]), (200000071, .row false 1 (rowE (eI .i64) a62)), (200000072, .row false 1 (rowE (eI .i64) a63)), (200000073, .row false 1 (rowE (eI .i64) a64)), (200000074, .row false 1 (rowE (eI .i64) a65)), (200000080, .var false [.val (.int .i64 t.1), .val (.int .i64 t.2)])], 34⟩) := by
  unfold c5_u2
  rw [run_alts]
  · simp +contextual -implicitDefEqProofs (maxSteps := 10000000) only [laws_FnExactIntraSides_u2, go_sem, ↓ite_not', Nat.reduceEqDiff, Nat.reduceLT, Nat.reduceLeDiff, ↓reduceIte, Nat.reduceAdd, Nat.reduceMul, Nat.reduceSub, Int.reduceEq, Int.reduceLT, Int.reduceLE, Int.reduceToNat, Int.cast_ofNat_Int]
  · refine ⟨?_, ?_, trivial⟩
    · simp +contextual -implicitDefEqProofs (maxSteps := 10000000) only [laws_FnExactIntraSides_u2, go_sem, ↓ite_not', Nat.reduceEqDiff, Nat.reduceLT, Nat.reduceLeDiff, ↓reduceIte, Nat.reduceAdd, Nat.reduceMul, Nat.reduceSub, Int.reduceEq, Int.reduceLT, Int.reduceLE, Int.reduceToNat, Int.cast_ofNat_Int]
    · simp +contextual -implicitDefEqProofs (maxSteps := 10000000) only [laws_FnExactIntraSides_u2, go_sem, ↓ite_not', Nat.reduceEqDiff, Nat.reduceLT, Nat.reduceLeDiff, ↓reduceIte, Nat.reduceAdd, Nat.reduceMul, Nat.reduceSub, Int.reduceEq, Int.reduceLT, Int.reduceLE, Int.reduceToNat, Int.cast_ofNat_Int]
@[go_sem] theorem laws_FnExactIntraSides_ok (n : Nat) (q0_0 : Int) (q0_1 : Int) (q0_2 : Int) (q0_3 : Int) (q0_4 : Int) (q0_5 : List Int) (q0_6 : List Int) (q0_7 : Bool) (q0_8 : Int) (q0_9 : Int) (q0_10 : List Int) (q0_11 : Bool) (q0_12 : Int) (q0_13 : Int) (q0_14 : List Int) (q0_15 : Int) (q0_16 : Int) (q1_0 : Int) (q1_1 : Int) (q1_2 : Bool) (q1_3 : Bool) : lev tab (n + 10) 5 [.agg [.int .i64 q0_0, .int .i64 q0_1, .int .i64 q0_2, .int .i64 q0_3, .int .i64 q0_4, .sh .lent 1 (rowE (eI .i64) q0_5), .sh .lent 1 (rowE (eI .i64) q0_6), .bool q0_7, .int .i64 q0_8, .int .i64 q0_9, .sh .lent 1 (rowE (eI .i64) q0_10), .bool q0_11, .int .i64 q0_12, .int .i64 q0_13, .sh .lent 1 (rowE (eI .i64) q0_14), .int .i64 q0_15, .int .i64 q0_16], .agg [.int .i64 q1_0, .int .i64 q1_1, .bool q1_2, .bool q1_3]] = (laws_FnExactIntraSides (SSender.mk q0_0 q0_1 q0_2 q0_3 (SLap.mk q0_4 q0_5 q0_6) (SAnchor.mk q0_7 q0_8 q0_9 q0_10) (SAnchor.mk q0_11 q0_12 q0_13 q0_14) q0_15 q0_16) (SPlan.mk q1_0 q1_1 q1_2 q1_3)).map fun r => (.bool r, [.gone, .gone]) := by
  rw [lev_st (vc := c5) (nt := 34) (rs := [(4, none)]) rfl rfl (Nat.le_of_ble_eq_true rfl)]
  unfold c5
  simp +contextual -implicitDefEqProofs (maxSteps := 10000000) only [laws_FnExactIntraSides, go_sem, ↓ite_not', Nat.reduceEqDiff, Nat.reduceLT, Nat.reduceLeDiff, ↓reduceIte, Nat.reduceAdd, Nat.reduceMul, Nat.reduceSub, Int.reduceEq, Int.reduceLT, Int.reduceLE, Int.reduceToNat, Int.cast_ofNat_Int]
def SLap.Wf (s : SLap) : Prop := (WfI .i64 s.Size) ∧ (((s.Half.length : Int) ≤ maxI ∧ ∀ x ∈ s.Half, WfI .i64 x)) ∧ (((s.Rest.length : Int) ≤ maxI ∧ ∀ x ∈ s.Rest, WfI .i64 x))
theorem SLap.of {ds : List D} (h : OkL [.int .i64, .sl 1 [.int .i64], .sl 1 [.int .i64]] ds) : ∃ s : SLap, ds = s.cells .lent ∧ s.Wf := by
  simp only [OkL, OkD] at h
  obtain ⟨_, _, rfl, ⟨x0, rfl, hx0⟩, ⟨_, _, rfl, ⟨x1, rfl, lx1, hx1⟩, ⟨_, _, rfl, ⟨x2, rfl, lx2, hx2⟩, rfl⟩⟩⟩ := h
  obtain ⟨yx1, rfl, wx1⟩ := rows_of (f := (eI .i64)) (W := fun x => WfI .i64 x) (fun el h => row_int h) hx1
  rw [rowE_len] at lx1
  obtain ⟨yx2, rfl, wx2⟩ := rows_of (f := (eI .i64)) (W := fun x => WfI .i64 x) (fun el h => row_int h) hx2
  rw [rowE_len] at lx2
  exact ⟨⟨x0, yx1, yx2⟩, rfl, ⟨⟨hx0.1, hx0.2⟩, ⟨lx1, wx1⟩, ⟨lx2, wx2⟩⟩⟩
def SAnchor.Wf (s : SAnchor) : Prop := (True) ∧ (WfI .i64 s.Number) ∧ (WfI .i64 s.Rung) ∧ (((s.Gains.length : Int) ≤ maxI ∧ ∀ x ∈ s.Gains, WfI .i64 x))
theorem SAnchor.of {ds : List D} (h : OkL [.bool, .int .i64, .int .i64, .sl 1 [.int .i64]] ds) : ∃ s : SAnchor, ds = s.cells .lent ∧ s.Wf := by
  simp only [OkL, OkD] at h
  obtain ⟨_, _, rfl, ⟨x0, rfl⟩, ⟨_, _, rfl, ⟨x1, rfl, hx1⟩, ⟨_, _, rfl, ⟨x2, rfl, hx2⟩, ⟨_, _, rfl, ⟨x3, rfl, lx3, hx3⟩, rfl⟩⟩⟩⟩ := h
  obtain ⟨yx3, rfl, wx3⟩ := rows_of (f := (eI .i64)) (W := fun x => WfI .i64 x) (fun el h => row_int h) hx3
  rw [rowE_len] at lx3
  exact ⟨⟨x0, x1, x2, yx3⟩, rfl, ⟨trivial, ⟨hx1.1, hx1.2⟩, ⟨hx2.1, hx2.2⟩, ⟨lx3, wx3⟩⟩⟩
def SSender.Wf (s : SSender) : Prop := (WfI .i64 s.Size) ∧ (WfI .i64 s.Budget) ∧ (WfI .i64 s.Refresh) ∧ (WfI .i64 s.Number) ∧ (SLap.Wf s.Lap) ∧ (SAnchor.Wf s.A) ∧ (SAnchor.Wf s.B) ∧ (WfI .i64 s.SinceA) ∧ (WfI .i64 s.SinceB)
theorem SSender.of {ds : List D} (h : OkL [.int .i64, .int .i64, .int .i64, .int .i64, .int .i64, .sl 1 [.int .i64], .sl 1 [.int .i64], .bool, .int .i64, .int .i64, .sl 1 [.int .i64], .bool, .int .i64, .int .i64, .sl 1 [.int .i64], .int .i64, .int .i64] ds) : ∃ s : SSender, ds = s.cells .lent ∧ s.Wf := by
  simp only [OkL, OkD] at h
  obtain ⟨_, _, rfl, ⟨x0, rfl, hx0⟩, ⟨_, _, rfl, ⟨x1, rfl, hx1⟩, ⟨_, _, rfl, ⟨x2, rfl, hx2⟩, ⟨_, _, rfl, ⟨x3, rfl, hx3⟩, ⟨_, _, rfl, ⟨x4, rfl, hx4⟩, ⟨_, _, rfl, ⟨x5, rfl, lx5, hx5⟩, ⟨_, _, rfl, ⟨x6, rfl, lx6, hx6⟩, ⟨_, _, rfl, ⟨x7, rfl⟩, ⟨_, _, rfl, ⟨x8, rfl, hx8⟩, ⟨_, _, rfl, ⟨x9, rfl, hx9⟩, ⟨_, _, rfl, ⟨x10, rfl, lx10, hx10⟩, ⟨_, _, rfl, ⟨x11, rfl⟩, ⟨_, _, rfl, ⟨x12, rfl, hx12⟩, ⟨_, _, rfl, ⟨x13, rfl, hx13⟩, ⟨_, _, rfl, ⟨x14, rfl, lx14, hx14⟩, ⟨_, _, rfl, ⟨x15, rfl, hx15⟩, ⟨_, _, rfl, ⟨x16, rfl, hx16⟩, rfl⟩⟩⟩⟩⟩⟩⟩⟩⟩⟩⟩⟩⟩⟩⟩⟩⟩ := h
  obtain ⟨yx5, rfl, wx5⟩ := rows_of (f := (eI .i64)) (W := fun x => WfI .i64 x) (fun el h => row_int h) hx5
  rw [rowE_len] at lx5
  obtain ⟨yx6, rfl, wx6⟩ := rows_of (f := (eI .i64)) (W := fun x => WfI .i64 x) (fun el h => row_int h) hx6
  rw [rowE_len] at lx6
  obtain ⟨yx10, rfl, wx10⟩ := rows_of (f := (eI .i64)) (W := fun x => WfI .i64 x) (fun el h => row_int h) hx10
  rw [rowE_len] at lx10
  obtain ⟨yx14, rfl, wx14⟩ := rows_of (f := (eI .i64)) (W := fun x => WfI .i64 x) (fun el h => row_int h) hx14
  rw [rowE_len] at lx14
  exact ⟨⟨x0, x1, x2, x3, ⟨x4, yx5, yx6⟩, ⟨x7, x8, x9, yx10⟩, ⟨x11, x12, x13, yx14⟩, x15, x16⟩, rfl, ⟨⟨hx0.1, hx0.2⟩, ⟨hx1.1, hx1.2⟩, ⟨hx2.1, hx2.2⟩, ⟨hx3.1, hx3.2⟩, ⟨⟨hx4.1, hx4.2⟩, ⟨lx5, wx5⟩, ⟨lx6, wx6⟩⟩, ⟨trivial, ⟨hx8.1, hx8.2⟩, ⟨hx9.1, hx9.2⟩, ⟨lx10, wx10⟩⟩, ⟨trivial, ⟨hx12.1, hx12.2⟩, ⟨hx13.1, hx13.2⟩, ⟨lx14, wx14⟩⟩, ⟨hx15.1, hx15.2⟩, ⟨hx16.1, hx16.2⟩⟩⟩
def SPlan.Wf (s : SPlan) : Prop := (WfI .i64 s.Spread) ∧ (WfI .i64 s.Paths) ∧ (True) ∧ (True)
theorem SPlan.of {ds : List D} (h : OkL [.int .i64, .int .i64, .bool, .bool] ds) : ∃ s : SPlan, ds = s.cells .lent ∧ s.Wf := by
  simp only [OkL, OkD] at h
  obtain ⟨_, _, rfl, ⟨x0, rfl, hx0⟩, ⟨_, _, rfl, ⟨x1, rfl, hx1⟩, ⟨_, _, rfl, ⟨x2, rfl⟩, ⟨_, _, rfl, ⟨x3, rfl⟩, rfl⟩⟩⟩⟩ := h
  exact ⟨⟨x0, x1, x2, x3⟩, rfl, ⟨⟨hx0.1, hx0.2⟩, ⟨hx1.1, hx1.2⟩, trivial, trivial⟩⟩
end
end FnExactIntraSides
end Go.Proofs.Ytajlapiocnanbaa.Wm
