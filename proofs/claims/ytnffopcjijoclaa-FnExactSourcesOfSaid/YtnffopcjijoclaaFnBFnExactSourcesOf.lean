/- What the functions behind FnExactSourcesOf come to, on plain values (a further part): written by a program. -/
import Derived.Test.YtnffopcjijoclaaFnFnExactSourcesOf
set_option linter.unusedSimpArgs false
set_option linter.unusedVariables false
set_option maxRecDepth 100000
set_option maxHeartbeats 20000000
namespace Go.Proofs.Ytnffopcjijoclaa.Wm
open Go Go.Proofs
namespace FnExactSourcesOf
noncomputable section
attribute [local congr] ite_cong2 run_cg runR_cg plug_cg contV_cg contH_cg contT_cg contF_cg guardR_cg condX_cg evcA_cg evcB_cg evcC_cg evcE_cg evcH_cg levA_cg condJX_cg
-- laws.markOutcomeS
def laws_markOutcomeS_u1 (a4 : List SOutcome) (a5 : Int) (a6 : Int) : Option ((List SOutcome)) :=
  (getI a4 a6).bind fun _ =>
  (a4[a6.toNat]?).bind fun x7 =>
  some ((a4.set a6.toNat ((SOutcome.mk ((SPlan.mk a5 x7.Plan.Paths x7.Plan.IntraA x7.Plan.IntraB)) x7.Sent x7.Codes x7.Played x7.Number x7.Source x7.Frame x7.Coefs x7.Bounds))))
def laws_markOutcomeS_u2 (a9 : List SOutcome) (a10 : Int) (a11 : Int) : Option ((List SOutcome)) :=
  (getI a9 a11).bind fun _ =>
  (a9[a11.toNat]?).bind fun x12 =>
  some ((a9.set a11.toNat ((SOutcome.mk ((SPlan.mk x12.Plan.Spread a10 x12.Plan.IntraA x12.Plan.IntraB)) x12.Sent x12.Codes x12.Played x12.Number x12.Source x12.Frame x12.Coefs x12.Bounds))))
def laws_markOutcomeS_u3 (a14 : List SOutcome) (a15 : Int) (a16 : Int) : Option ((List SOutcome)) :=
  (getI a14 a16).bind fun _ =>
  (a14[a16.toNat]?).bind fun x17 =>
  some ((a14.set a16.toNat ((SOutcome.mk ((SPlan.mk x17.Plan.Spread x17.Plan.Paths (((a15.tmod (3 : Int)) == 0)) x17.Plan.IntraB)) x17.Sent x17.Codes x17.Played x17.Number x17.Source x17.Frame x17.Coefs x17.Bounds))))
def laws_markOutcomeS_u4 (a19 : List SOutcome) (a20 : Int) (a21 : Int) : Option ((List SOutcome)) :=
  (getI a19 a21).bind fun _ =>
  (a19[a21.toNat]?).bind fun x22 =>
  some ((a19.set a21.toNat ((SOutcome.mk ((SPlan.mk x22.Plan.Spread x22.Plan.Paths x22.Plan.IntraA (((a20.tmod (3 : Int)) == 0)))) x22.Sent x22.Codes x22.Played x22.Number x22.Source x22.Frame x22.Coefs x22.Bounds))))
def laws_markOutcomeS_u5 (a24 : List SOutcome) (a25 : Int) (a26 : Int) : Option ((List SOutcome)) :=
  (getI a24 a26).bind fun _ =>
  (a24[a26.toNat]?).bind fun x27 =>
  some ((a24.set a26.toNat ((SOutcome.mk x27.Plan ((SFrame.mk a25 x27.Sent.Size x27.Sent.Rung x27.Sent.Mask x27.Sent.Spread x27.Sent.Lows x27.Sent.Gains x27.Sent.Pulses)) x27.Codes x27.Played x27.Number x27.Source x27.Frame x27.Coefs x27.Bounds))))
def laws_markOutcomeS_u6 (a29 : List SOutcome) (a30 : Int) (a31 : Int) : Option ((List SOutcome)) :=
  (getI a29 a31).bind fun _ =>
  (a29[a31.toNat]?).bind fun x32 =>
  some ((a29.set a31.toNat ((SOutcome.mk x32.Plan ((SFrame.mk x32.Sent.Number a30 x32.Sent.Rung x32.Sent.Mask x32.Sent.Spread x32.Sent.Lows x32.Sent.Gains x32.Sent.Pulses)) x32.Codes x32.Played x32.Number x32.Source x32.Frame x32.Coefs x32.Bounds))))
def laws_markOutcomeS_u7 (a34 : List SOutcome) (a35 : Int) (a36 : Int) : Option ((List SOutcome)) :=
  (getI a34 a36).bind fun _ =>
  (a34[a36.toNat]?).bind fun x37 =>
  some ((a34.set a36.toNat ((SOutcome.mk x37.Plan ((SFrame.mk x37.Sent.Number x37.Sent.Size a35 x37.Sent.Mask x37.Sent.Spread x37.Sent.Lows x37.Sent.Gains x37.Sent.Pulses)) x37.Codes x37.Played x37.Number x37.Source x37.Frame x37.Coefs x37.Bounds))))
def laws_markOutcomeS_u8 (a39 : List SOutcome) (a40 : Int) (a41 : Int) : Option ((List SOutcome)) :=
  (getI a39 a41).bind fun _ =>
  (a39[a41.toNat]?).bind fun x42 =>
  some ((a39.set a41.toNat ((SOutcome.mk x42.Plan ((SFrame.mk x42.Sent.Number x42.Sent.Size x42.Sent.Rung a40 x42.Sent.Spread x42.Sent.Lows x42.Sent.Gains x42.Sent.Pulses)) x42.Codes x42.Played x42.Number x42.Source x42.Frame x42.Coefs x42.Bounds))))
def laws_markOutcomeS_u9 (a44 : List SOutcome) (a45 : Int) (a46 : Int) : Option ((List SOutcome)) :=
  (getI a44 a46).bind fun _ =>
  (a44[a46.toNat]?).bind fun x47 =>
  some ((a44.set a46.toNat ((SOutcome.mk x47.Plan ((SFrame.mk x47.Sent.Number x47.Sent.Size x47.Sent.Rung x47.Sent.Mask a45 x47.Sent.Lows x47.Sent.Gains x47.Sent.Pulses)) x47.Codes x47.Played x47.Number x47.Source x47.Frame x47.Coefs x47.Bounds))))
def laws_markOutcomeS_u10 (a49 : List SOutcome) (a50 : Int) (a51 : Int) : Option ((List SOutcome) × Int) :=
  (getI a49 a51).bind fun _ =>
  (a49[a51.toNat]?).bind fun x52 =>
  (laws_markInt64S x52.Sent.Lows a50).bind fun r53 =>
  if x52.Sent.Lows.length = r53.2.length then (a49[a51.toNat]?).bind fun x54 =>
    some (((a49.set a51.toNat ((SOutcome.mk x54.Plan ((SFrame.mk x54.Sent.Number x54.Sent.Size x54.Sent.Rung x54.Sent.Mask x54.Sent.Spread r53.2 x54.Sent.Gains x54.Sent.Pulses)) x54.Codes x54.Played x54.Number x54.Source x54.Frame x54.Coefs x54.Bounds))), r53.1))
  else none
def laws_markOutcomeS_u11 (a56 : List SOutcome) (a57 : Int) (a58 : Int) : Option ((List SOutcome) × Int) :=
  (getI a56 a58).bind fun _ =>
  (a56[a58.toNat]?).bind fun x59 =>
  (laws_markInt64S x59.Sent.Gains a57).bind fun r60 =>
  if x59.Sent.Gains.length = r60.2.length then (a56[a58.toNat]?).bind fun x61 =>
    some (((a56.set a58.toNat ((SOutcome.mk x61.Plan ((SFrame.mk x61.Sent.Number x61.Sent.Size x61.Sent.Rung x61.Sent.Mask x61.Sent.Spread x61.Sent.Lows r60.2 x61.Sent.Pulses)) x61.Codes x61.Played x61.Number x61.Source x61.Frame x61.Coefs x61.Bounds))), r60.1))
  else none
def laws_markOutcomeS_u12 (a63 : List SOutcome) (a64 : Int) (a65 : Int) : Option ((List SOutcome) × Int) :=
  (getI a63 a65).bind fun _ =>
  (a63[a65.toNat]?).bind fun x66 =>
  (laws_markInt64SS x66.Sent.Pulses a64).bind fun r67 =>
  if x66.Sent.Pulses.length = r67.2.length then (a63[a65.toNat]?).bind fun x68 =>
    some (((a63.set a65.toNat ((SOutcome.mk x68.Plan ((SFrame.mk x68.Sent.Number x68.Sent.Size x68.Sent.Rung x68.Sent.Mask x68.Sent.Spread x68.Sent.Lows x68.Sent.Gains r67.2)) x68.Codes x68.Played x68.Number x68.Source x68.Frame x68.Coefs x68.Bounds))), r67.1))
  else none
def laws_markOutcomeS_u13 (a70 : List SOutcome) (a71 : Int) (a72 : Int) : Option ((List SOutcome) × Int) :=
  (getI a70 a72).bind fun _ =>
  (a70[a72.toNat]?).bind fun x73 =>
  (laws_markInt64S x73.Codes a71).bind fun r74 =>
  if x73.Codes.length = r74.2.length then (a70[a72.toNat]?).bind fun x75 =>
    some (((a70.set a72.toNat ((SOutcome.mk x75.Plan x75.Sent r74.2 x75.Played x75.Number x75.Source x75.Frame x75.Coefs x75.Bounds))), r74.1))
  else none
def laws_markOutcomeS_u14 (a77 : List SOutcome) (a78 : Int) (a79 : Int) : Option ((List SOutcome)) :=
  (getI a77 a79).bind fun _ =>
  (a77[a79.toNat]?).bind fun x80 =>
  some ((a77.set a79.toNat ((SOutcome.mk x80.Plan x80.Sent x80.Codes (((a78.tmod (3 : Int)) == 0)) x80.Number x80.Source x80.Frame x80.Coefs x80.Bounds))))
def laws_markOutcomeS_u15 (a82 : List SOutcome) (a83 : Int) (a84 : Int) : Option ((List SOutcome)) :=
  (getI a82 a84).bind fun _ =>
  (a82[a84.toNat]?).bind fun x85 =>
  some ((a82.set a84.toNat ((SOutcome.mk x85.Plan x85.Sent x85.Codes x85.Played a83 x85.Source x85.Frame x85.Coefs x85.Bounds))))
def laws_markOutcomeS_u16 (a87 : List SOutcome) (a88 : Int) (a89 : Int) : Option ((List SOutcome)) :=
  (getI a87 a89).bind fun _ =>
  (a87[a89.toNat]?).bind fun x90 =>
  some ((a87.set a89.toNat ((SOutcome.mk x90.Plan x90.Sent x90.Codes x90.Played x90.Number a88 x90.Frame x90.Coefs x90.Bounds))))
def laws_markOutcomeS_u17 (a92 : List SOutcome) (a93 : Int) (a94 : Int) : Option ((List SOutcome) × Int) :=
  (getI a92 a94).bind fun _ =>
  (a92[a94.toNat]?).bind fun x95 =>
  (laws_markInt64S x95.Frame a93).bind fun r96 =>
  if x95.Frame.length = r96.2.length then (a92[a94.toNat]?).bind fun x97 =>
    some (((a92.set a94.toNat ((SOutcome.mk x97.Plan x97.Sent x97.Codes x97.Played x97.Number x97.Source r96.2 x97.Coefs x97.Bounds))), r96.1))
  else none
def laws_markOutcomeS_u18 (a99 : List SOutcome) (a100 : Int) (a101 : Int) : Option ((List SOutcome) × Int) :=
  (getI a99 a101).bind fun _ =>
  (a99[a101.toNat]?).bind fun x102 =>
  (laws_markInt64S x102.Coefs a100).bind fun r103 =>
  if x102.Coefs.length = r103.2.length then (a99[a101.toNat]?).bind fun x104 =>
    some (((a99.set a101.toNat ((SOutcome.mk x104.Plan x104.Sent x104.Codes x104.Played x104.Number x104.Source x104.Frame r103.2 x104.Bounds))), r103.1))
  else none
def laws_markOutcomeS_u19 (a106 : List SOutcome) (a107 : Int) (a108 : Int) : Option ((List SOutcome) × Int) :=
  (getI a106 a108).bind fun _ =>
  (a106[a108.toNat]?).bind fun x109 =>
  (laws_markInt64S x109.Bounds a107).bind fun r110 =>
  if x109.Bounds.length = r110.2.length then (a106[a108.toNat]?).bind fun x111 =>
    some (((a106.set a108.toNat ((SOutcome.mk x111.Plan x111.Sent x111.Codes x111.Played x111.Number x111.Source x111.Frame x111.Coefs r110.2))), r110.1))
  else none
def laws_markOutcomeS_s20 : ((List SOutcome) × Int × Int) → Option (((List SOutcome) × Int × Int) ⊕ ((List SOutcome) × Int)) := fun ⟨a1, a2, a3⟩ =>
  if (decide (a3 < (a1.length : Int))) = true then (laws_markOutcomeS_u1 a1 a2 a3).bind fun y8 =>
    (laws_markOutcomeS_u2 y8 ((IntKind.i64.wrap (a2 + 1))) a3).bind fun y13 =>
    (laws_markOutcomeS_u3 y13 ((IntKind.i64.wrap (((IntKind.i64.wrap (a2 + 1))) + 1))) a3).bind fun y18 =>
    (laws_markOutcomeS_u4 y18 ((IntKind.i64.wrap (((IntKind.i64.wrap (((IntKind.i64.wrap (a2 + 1))) + 1))) + 1))) a3).bind fun y23 =>
    (laws_markOutcomeS_u5 y23 ((IntKind.i64.wrap (((IntKind.i64.wrap (((IntKind.i64.wrap (((IntKind.i64.wrap (a2 + 1))) + 1))) + 1))) + 1))) a3).bind fun y28 =>
    (laws_markOutcomeS_u6 y28 ((IntKind.i64.wrap (((IntKind.i64.wrap (((IntKind.i64.wrap (((IntKind.i64.wrap (((IntKind.i64.wrap (a2 + 1))) + 1))) + 1))) + 1))) + 1))) a3).bind fun y33 =>
    (laws_markOutcomeS_u7 y33 ((IntKind.i64.wrap (((IntKind.i64.wrap (((IntKind.i64.wrap (((IntKind.i64.wrap (((IntKind.i64.wrap (((IntKind.i64.wrap (a2 + 1))) + 1))) + 1))) + 1))) + 1))) + 1))) a3).bind fun y38 =>
    (laws_markOutcomeS_u8 y38 ((IntKind.i64.wrap (((IntKind.i64.wrap (((IntKind.i64.wrap (((IntKind.i64.wrap (((IntKind.i64.wrap (((IntKind.i64.wrap (((IntKind.i64.wrap (a2 + 1))) + 1))) + 1))) + 1))) + 1))) + 1))) + 1))) a3).bind fun y43 =>
    (laws_markOutcomeS_u9 y43 ((IntKind.i64.wrap (((IntKind.i64.wrap (((IntKind.i64.wrap (((IntKind.i64.wrap (((IntKind.i64.wrap (((IntKind.i64.wrap (((IntKind.i64.wrap (((IntKind.i64.wrap (a2 + 1))) + 1))) + 1))) + 1))) + 1))) + 1))) + 1))) + 1))) a3).bind fun y48 =>
    (laws_markOutcomeS_u10 y48 ((IntKind.i64.wrap (((IntKind.i64.wrap (((IntKind.i64.wrap (((IntKind.i64.wrap (((IntKind.i64.wrap (((IntKind.i64.wrap (((IntKind.i64.wrap (((IntKind.i64.wrap (((IntKind.i64.wrap (a2 + 1))) + 1))) + 1))) + 1))) + 1))) + 1))) + 1))) + 1))) + 1))) a3).bind fun y55 =>
    (laws_markOutcomeS_u11 y55.1 y55.2 a3).bind fun y62 =>
    (laws_markOutcomeS_u12 y62.1 y62.2 a3).bind fun y69 =>
    (laws_markOutcomeS_u13 y69.1 y69.2 a3).bind fun y76 =>
    (laws_markOutcomeS_u14 y76.1 y76.2 a3).bind fun y81 =>
    (laws_markOutcomeS_u15 y81 ((IntKind.i64.wrap (y76.2 + 1))) a3).bind fun y86 =>
    (laws_markOutcomeS_u16 y86 ((IntKind.i64.wrap (((IntKind.i64.wrap (y76.2 + 1))) + 1))) a3).bind fun y91 =>
    (laws_markOutcomeS_u17 y91 ((IntKind.i64.wrap (((IntKind.i64.wrap (((IntKind.i64.wrap (y76.2 + 1))) + 1))) + 1))) a3).bind fun y98 =>
    (laws_markOutcomeS_u18 y98.1 y98.2 a3).bind fun y105 =>
    (laws_markOutcomeS_u19 y105.1 y105.2 a3).bind fun y112 =>
    some ((.inl ((y112.1, y112.2, (IntKind.i64.wrap (a3 + 1))))))
  else some ((.inr ((a1, a2))))
def laws_markOutcomeS (p0 : List SOutcome) (p1 : Int) : Option (Int × (List SOutcome)) :=
  (loopO laws_markOutcomeS_s20 ((p0, p1, 0))).bind fun y113 =>
  some ((y113.2, y113.1))
@[go_sem] theorem laws_markOutcomeS_u1_ok {β : Type} (n : Nat) (K : List (Kont β)) (a4 : List SOutcome) (a5 : Int) (a6 : Int) : run ⟨tab.own, lev tab (n + 2), tab.gl⟩ K c14_u1 ⟨[(0, .sl 1000000000 0 a4.length), (1, .val (.int .i64 a5)), (5, .val (.int .i64 a6))], [(1000000000, .row true 19 (rowE (SOutcome.cells .own) a4))], 164⟩ = (laws_markOutcomeS_u1 a4 a5 a6).bind (fun t => plug ⟨tab.own, lev tab (n + 2), tab.gl⟩ K .normal ⟨[(0, .sl 1000000000 0 t.length), (1, .val (.int .i64 a5)), (5, .val (.int .i64 a6))], [(1000000000, .row true 19 (rowE (SOutcome.cells .own) t))], 164⟩) := by
  unfold c14_u1
  simp +contextual -implicitDefEqProofs (maxSteps := 100000000) only [laws_markOutcomeS_u1, subI, go_sem, ↓ite_not', Nat.reduceEqDiff, Nat.reduceLT, Nat.reduceLeDiff, ↓reduceIte, Nat.reduceAdd, Nat.reduceMul, Nat.reduceSub, Int.reduceEq, Int.reduceLT, Int.reduceLE, Int.reduceToNat, Int.cast_ofNat_Int, Nat.reduceBEq] <;> rfl
@[go_sem] theorem laws_markOutcomeS_u2_ok {β : Type} (n : Nat) (K : List (Kont β)) (a9 : List SOutcome) (a10 : Int) (a11 : Int) : run ⟨tab.own, lev tab (n + 2), tab.gl⟩ K c14_u2 ⟨[(0, .sl 1000000000 0 a9.length), (1, .val (.int .i64 a10)), (5, .val (.int .i64 a11))], [(1000000000, .row true 19 (rowE (SOutcome.cells .own) a9))], 164⟩ = (laws_markOutcomeS_u2 a9 a10 a11).bind (fun t => plug ⟨tab.own, lev tab (n + 2), tab.gl⟩ K .normal ⟨[(0, .sl 1000000000 0 t.length), (1, .val (.int .i64 a10)), (5, .val (.int .i64 a11))], [(1000000000, .row true 19 (rowE (SOutcome.cells .own) t))], 164⟩) := by
  unfold c14_u2
  simp +contextual -implicitDefEqProofs (maxSteps := 100000000) only [laws_markOutcomeS_u2, subI, go_sem, ↓ite_not', Nat.reduceEqDiff, Nat.reduceLT, Nat.reduceLeDiff, ↓reduceIte, Nat.reduceAdd, Nat.reduceMul, Nat.reduceSub, Int.reduceEq, Int.reduceLT, Int.reduceLE, Int.reduceToNat, Int.cast_ofNat_Int, Nat.reduceBEq] <;> rfl
@[go_sem] theorem laws_markOutcomeS_u3_ok {β : Type} (n : Nat) (K : List (Kont β)) (a14 : List SOutcome) (a15 : Int) (a16 : Int) : run ⟨tab.own, lev tab (n + 2), tab.gl⟩ K c14_u3 ⟨[(0, .sl 1000000000 0 a14.length), (1, .val (.int .i64 a15)), (5, .val (.int .i64 a16))], [(1000000000, .row true 19 (rowE (SOutcome.cells .own) a14))], 164⟩ = (laws_markOutcomeS_u3 a14 a15 a16).bind (fun t => plug ⟨tab.own, lev tab (n + 2), tab.gl⟩ K .normal ⟨[(0, .sl 1000000000 0 t.length), (1, .val (.int .i64 a15)), (5, .val (.int .i64 a16))], [(1000000000, .row true 19 (rowE (SOutcome.cells .own) t))], 164⟩) := by
  unfold c14_u3
  simp +contextual -implicitDefEqProofs (maxSteps := 100000000) only [laws_markOutcomeS_u3, subI, go_sem, ↓ite_not', Nat.reduceEqDiff, Nat.reduceLT, Nat.reduceLeDiff, ↓reduceIte, Nat.reduceAdd, Nat.reduceMul, Nat.reduceSub, Int.reduceEq, Int.reduceLT, Int.reduceLE, Int.reduceToNat, Int.cast_ofNat_Int, Nat.reduceBEq] <;> rfl
@[go_sem] theorem laws_markOutcomeS_u4_ok {β : Type} (n : Nat) (K : List (Kont β)) (a19 : List SOutcome) (a20 : Int) (a21 : Int) : run ⟨tab.own, lev tab (n + 2), tab.gl⟩ K c14_u4 ⟨[(0, .sl 1000000000 0 a19.length), (1, .val (.int .i64 a20)), (5, .val (.int .i64 a21))], [(1000000000, .row true 19 (rowE (SOutcome.cells .own) a19))], 164⟩ = (laws_markOutcomeS_u4 a19 a20 a21).bind (fun t => plug ⟨tab.own, lev tab (n + 2), tab.gl⟩ K .normal ⟨[(0, .sl 1000000000 0 t.length), (1, .val (.int .i64 a20)), (5, .val (.int .i64 a21))], [(1000000000, .row true 19 (rowE (SOutcome.cells .own) t))], 164⟩) := by
  unfold c14_u4
  simp +contextual -implicitDefEqProofs (maxSteps := 100000000) only [laws_markOutcomeS_u4, subI, go_sem, ↓ite_not', Nat.reduceEqDiff, Nat.reduceLT, Nat.reduceLeDiff, ↓reduceIte, Nat.reduceAdd, Nat.reduceMul, Nat.reduceSub, Int.reduceEq, Int.reduceLT, Int.reduceLE, Int.reduceToNat, Int.cast_ofNat_Int, Nat.reduceBEq] <;> rfl
@[go_sem] theorem laws_markOutcomeS_u5_ok {β : Type} (n : Nat) (K : List (Kont β)) (a24 : List SOutcome) (a25 : Int) (a26 : Int) : run ⟨tab.own, lev tab (n + 2), tab.gl⟩ K c14_u5 ⟨[(0, .sl 1000000000 0 a24.length), (1, .val (.int .i64 a25)), (5, .val (.int .i64 a26))], [(1000000000, .row true 19 (rowE (SOutcome.cells .own) a24))], 164⟩ = (laws_markOutcomeS_u5 a24 a25 a26).bind (fun t => plug ⟨tab.own, lev tab (n + 2), tab.gl⟩ K .normal ⟨[(0, .sl 1000000000 0 t.length), (1, .val (.int .i64 a25)), (5, .val (.int .i64 a26))], [(1000000000, .row true 19 (rowE (SOutcome.cells .own) t))], 164⟩) := by
  unfold c14_u5
  simp +contextual -implicitDefEqProofs (maxSteps := 100000000) only [laws_markOutcomeS_u5, subI, go_sem, ↓ite_not', Nat.reduceEqDiff, Nat.reduceLT, Nat.reduceLeDiff, ↓reduceIte, Nat.reduceAdd, Nat.reduceMul, Nat.reduceSub, Int.reduceEq, Int.reduceLT, Int.reduceLE, Int.reduceToNat, Int.cast_ofNat_Int, Nat.reduceBEq] <;> rfl
@[go_sem] theorem laws_markOutcomeS_u6_ok {β : Type} (n : Nat) (K : List (Kont β)) (a29 : List SOutcome) (a30 : Int) (a31 : Int) : run ⟨tab.own, lev tab (n + 2), tab.gl⟩ K c14_u6 ⟨[(0, .sl 1000000000 0 a29.length), (1, .val (.int .i64 a30)), (5, .val (.int .i64 a31))], [(1000000000, .row true 19 (rowE (SOutcome.cells .own) a29))], 164⟩ = (laws_markOutcomeS_u6 a29 a30 a31).bind (fun t => plug ⟨tab.own, lev tab (n + 2), tab.gl⟩ K .normal ⟨[(0, .sl 1000000000 0 t.length), (1, .val (.int .i64 a30)), (5, .val (.int .i64 a31))], [(1000000000, .row true 19 (rowE (SOutcome.cells .own) t))], 164⟩) := by
  unfold c14_u6
  simp +contextual -implicitDefEqProofs (maxSteps := 100000000) only [laws_markOutcomeS_u6, subI, go_sem, ↓ite_not', Nat.reduceEqDiff, Nat.reduceLT, Nat.reduceLeDiff, ↓reduceIte, Nat.reduceAdd, Nat.reduceMul, Nat.reduceSub, Int.reduceEq, Int.reduceLT, Int.reduceLE, Int.reduceToNat, Int.cast_ofNat_Int, Nat.reduceBEq] <;> rfl
@[go_sem] theorem laws_markOutcomeS_u7_ok {β : Type} (n : Nat) (K : List (Kont β)) (a34 : List SOutcome) (a35 : Int) (a36 : Int) : run ⟨tab.own, lev tab (n + 2), tab.gl⟩ K c14_u7 ⟨[(0, .sl 1000000000 0 a34.length), (1, .val (.int .i64 a35)), (5, .val (.int .i64 a36))], [(1000000000, .row true 19 (rowE (SOutcome.cells .own) a34))], 164⟩ = (laws_markOutcomeS_u7 a34 a35 a36).bind (fun t => plug ⟨tab.own, lev tab (n + 2), tab.gl⟩ K .normal ⟨[(0, .sl 1000000000 0 t.length), (1, .val (.int .i64 a35)), (5, .val (.int .i64 a36))], [(1000000000, .row true 19 (rowE (SOutcome.cells .own) t))], 164⟩) := by
  unfold c14_u7
  simp +contextual -implicitDefEqProofs (maxSteps := 100000000) only [laws_markOutcomeS_u7, subI, go_sem, ↓ite_not', Nat.reduceEqDiff, Nat.reduceLT, Nat.reduceLeDiff, ↓reduceIte, Nat.reduceAdd, Nat.reduceMul, Nat.reduceSub, Int.reduceEq, Int.reduceLT, Int.reduceLE, Int.reduceToNat, Int.cast_ofNat_Int, Nat.reduceBEq] <;> rfl
@[go_sem] theorem laws_markOutcomeS_u8_ok {β : Type} (n : Nat) (K : List (Kont β)) (a39 : List SOutcome) (a40 : Int) (a41 : Int) : run ⟨tab.own, lev tab (n + 2), tab.gl⟩ K c14_u8 ⟨[(0, .sl 1000000000 0 a39.length), (1, .val (.int .i64 a40)), (5, .val (.int .i64 a41))], [(1000000000, .row true 19 (rowE (SOutcome.cells .own) a39))], 164⟩ = (laws_markOutcomeS_u8 a39 a40 a41).bind (fun t => plug ⟨tab.own, lev tab (n + 2), tab.gl⟩ K .normal ⟨[(0, .sl 1000000000 0 t.length), (1, .val (.int .i64 a40)), (5, .val (.int .i64 a41))], [(1000000000, .row true 19 (rowE (SOutcome.cells .own) t))], 164⟩) := by
  unfold c14_u8
  simp +contextual -implicitDefEqProofs (maxSteps := 100000000) only [laws_markOutcomeS_u8, subI, go_sem, ↓ite_not', Nat.reduceEqDiff, Nat.reduceLT, Nat.reduceLeDiff, ↓reduceIte, Nat.reduceAdd, Nat.reduceMul, Nat.reduceSub, Int.reduceEq, Int.reduceLT, Int.reduceLE, Int.reduceToNat, Int.cast_ofNat_Int, Nat.reduceBEq] <;> rfl
@[go_sem] theorem laws_markOutcomeS_u9_ok {β : Type} (n : Nat) (K : List (Kont β)) (a44 : List SOutcome) (a45 : Int) (a46 : Int) : run ⟨tab.own, lev tab (n + 2), tab.gl⟩ K c14_u9 ⟨[(0, .sl 1000000000 0 a44.length), (1, .val (.int .i64 a45)), (5, .val (.int .i64 a46))], [(1000000000, .row true 19 (rowE (SOutcome.cells .own) a44))], 164⟩ = (laws_markOutcomeS_u9 a44 a45 a46).bind (fun t => plug ⟨tab.own, lev tab (n + 2), tab.gl⟩ K .normal ⟨[(0, .sl 1000000000 0 t.length), (1, .val (.int .i64 a45)), (5, .val (.int .i64 a46))], [(1000000000, .row true 19 (rowE (SOutcome.cells .own) t))], 164⟩) := by
  unfold c14_u9
  simp +contextual -implicitDefEqProofs (maxSteps := 100000000) only [laws_markOutcomeS_u9, subI, go_sem, ↓ite_not', Nat.reduceEqDiff, Nat.reduceLT, Nat.reduceLeDiff, ↓reduceIte, Nat.reduceAdd, Nat.reduceMul, Nat.reduceSub, Int.reduceEq, Int.reduceLT, Int.reduceLE, Int.reduceToNat, Int.cast_ofNat_Int, Nat.reduceBEq] <;> rfl
@[go_sem] theorem laws_markOutcomeS_u10_ok {β : Type} (n : Nat) (K : List (Kont β)) (a49 : List SOutcome) (a50 : Int) (a51 : Int) : run ⟨tab.own, lev tab (n + 2), tab.gl⟩ K c14_u10 ⟨[(0, .sl 1000000000 0 a49.length), (1, .val (.int .i64 a50)), (5, .val (.int .i64 a51))], [(1000000000, .row true 19 (rowE (SOutcome.cells .own) a49))], 164⟩ = (laws_markOutcomeS_u10 a49 a50 a51).bind (fun t => plug ⟨tab.own, lev tab (n + 2), tab.gl⟩ K .normal ⟨[(0, .sl 1000000000 0 t.1.length), (1, .val (.int .i64 t.2)), (5, .val (.int .i64 a51))], [(1000000000, .row true 19 (rowE (SOutcome.cells .own) t.1))], 164⟩) := by
  unfold c14_u10
  simp +contextual -implicitDefEqProofs (maxSteps := 100000000) only [laws_markOutcomeS_u10, subI, go_sem, ↓ite_not', Nat.reduceEqDiff, Nat.reduceLT, Nat.reduceLeDiff, ↓reduceIte, Nat.reduceAdd, Nat.reduceMul, Nat.reduceSub, Int.reduceEq, Int.reduceLT, Int.reduceLE, Int.reduceToNat, Int.cast_ofNat_Int, Nat.reduceBEq] <;> rfl
@[go_sem] theorem laws_markOutcomeS_u11_ok {β : Type} (n : Nat) (K : List (Kont β)) (a56 : List SOutcome) (a57 : Int) (a58 : Int) : run ⟨tab.own, lev tab (n + 2), tab.gl⟩ K c14_u11 ⟨[(0, .sl 1000000000 0 a56.length), (1, .val (.int .i64 a57)), (5, .val (.int .i64 a58))], [(1000000000, .row true 19 (rowE (SOutcome.cells .own) a56))], 164⟩ = (laws_markOutcomeS_u11 a56 a57 a58).bind (fun t => plug ⟨tab.own, lev tab (n + 2), tab.gl⟩ K .normal ⟨[(0, .sl 1000000000 0 t.1.length), (1, .val (.int .i64 t.2)), (5, .val (.int .i64 a58))], [(1000000000, .row true 19 (rowE (SOutcome.cells .own) t.1))], 164⟩) := by
  unfold c14_u11
  simp +contextual -implicitDefEqProofs (maxSteps := 100000000) only [laws_markOutcomeS_u11, subI, go_sem, ↓ite_not', Nat.reduceEqDiff, Nat.reduceLT, Nat.reduceLeDiff, ↓reduceIte, Nat.reduceAdd, Nat.reduceMul, Nat.reduceSub, Int.reduceEq, Int.reduceLT, Int.reduceLE, Int.reduceToNat, Int.cast_ofNat_Int, Nat.reduceBEq] <;> rfl
@[go_sem] theorem laws_markOutcomeS_u12_ok {β : Type} (n : Nat) (K : List (Kont β)) (a63 : List SOutcome) (a64 : Int) (a65 : Int) : run ⟨tab.own, lev tab (n + 2), tab.gl⟩ K c14_u12 ⟨[(0, .sl 1000000000 0 a63.length), (1, .val (.int .i64 a64)), (5, .val (.int .i64 a65))], [(1000000000, .row true 19 (rowE (SOutcome.cells .own) a63))], 164⟩ = (laws_markOutcomeS_u12 a63 a64 a65).bind (fun t => plug ⟨tab.own, lev tab (n + 2), tab.gl⟩ K .normal ⟨[(0, .sl 1000000000 0 t.1.length), (1, .val (.int .i64 t.2)), (5, .val (.int .i64 a65))], [(1000000000, .row true 19 (rowE (SOutcome.cells .own) t.1))], 164⟩) := by
  unfold c14_u12
  simp +contextual -implicitDefEqProofs (maxSteps := 100000000) only [laws_markOutcomeS_u12, subI, go_sem, ↓ite_not', Nat.reduceEqDiff, Nat.reduceLT, Nat.reduceLeDiff, ↓reduceIte, Nat.reduceAdd, Nat.reduceMul, Nat.reduceSub, Int.reduceEq, Int.reduceLT, Int.reduceLE, Int.reduceToNat, Int.cast_ofNat_Int, Nat.reduceBEq] <;> rfl
@[go_sem] theorem laws_markOutcomeS_u13_ok {β : Type} (n : Nat) (K : List (Kont β)) (a70 : List SOutcome) (a71 : Int) (a72 : Int) : run ⟨tab.own, lev tab (n + 2), tab.gl⟩ K c14_u13 ⟨[(0, .sl 1000000000 0 a70.length), (1, .val (.int .i64 a71)), (5, .val (.int .i64 a72))], [(1000000000, .row true 19 (rowE (SOutcome.cells .own) a70))], 164⟩ = (laws_markOutcomeS_u13 a70 a71 a72).bind (fun t => plug ⟨tab.own, lev tab (n + 2), tab.gl⟩ K .normal ⟨[(0, .sl 1000000000 0 t.1.length), (1, .val (.int .i64 t.2)), (5, .val (.int .i64 a72))], [(1000000000, .row true 19 (rowE (SOutcome.cells .own) t.1))], 164⟩) := by
  unfold c14_u13
  simp +contextual -implicitDefEqProofs (maxSteps := 100000000) only [laws_markOutcomeS_u13, subI, go_sem, ↓ite_not', Nat.reduceEqDiff, Nat.reduceLT, Nat.reduceLeDiff, ↓reduceIte, Nat.reduceAdd, Nat.reduceMul, Nat.reduceSub, Int.reduceEq, Int.reduceLT, Int.reduceLE, Int.reduceToNat, Int.cast_ofNat_Int, Nat.reduceBEq] <;> rfl
@[go_sem] theorem laws_markOutcomeS_u14_ok {β : Type} (n : Nat) (K : List (Kont β)) (a77 : List SOutcome) (a78 : Int) (a79 : Int) : run ⟨tab.own, lev tab (n + 2), tab.gl⟩ K c14_u14 ⟨[(0, .sl 1000000000 0 a77.length), (1, .val (.int .i64 a78)), (5, .val (.int .i64 a79))], [(1000000000, .row true 19 (rowE (SOutcome.cells .own) a77))], 164⟩ = (laws_markOutcomeS_u14 a77 a78 a79).bind (fun t => plug ⟨tab.own, lev tab (n + 2), tab.gl⟩ K .normal ⟨[(0, .sl 1000000000 0 t.length), (1, .val (.int .i64 a78)), (5, .val (.int .i64 a79))], [(1000000000, .row true 19 (rowE (SOutcome.cells .own) t))], 164⟩) := by
  unfold c14_u14
  simp +contextual -implicitDefEqProofs (maxSteps := 100000000) only [laws_markOutcomeS_u14, subI, go_sem, ↓ite_not', Nat.reduceEqDiff, Nat.reduceLT, Nat.reduceLeDiff, ↓reduceIte, Nat.reduceAdd, Nat.reduceMul, Nat.reduceSub, Int.reduceEq, Int.reduceLT, Int.reduceLE, Int.reduceToNat, Int.cast_ofNat_Int, Nat.reduceBEq] <;> rfl
@[go_sem] theorem laws_markOutcomeS_u15_ok {β : Type} (n : Nat) (K : List (Kont β)) (a82 : List SOutcome) (a83 : Int) (a84 : Int) : run ⟨tab.own, lev tab (n + 2), tab.gl⟩ K c14_u15 ⟨[(0, .sl 1000000000 0 a82.length), (1, .val (.int .i64 a83)), (5, .val (.int .i64 a84))], [(1000000000, .row true 19 (rowE (SOutcome.cells .own) a82))], 164⟩ = (laws_markOutcomeS_u15 a82 a83 a84).bind (fun t => plug ⟨tab.own, lev tab (n + 2), tab.gl⟩ K .normal ⟨[(0, .sl 1000000000 0 t.length), (1, .val (.int .i64 a83)), (5, .val (.int .i64 a84))], [(1000000000, .row true 19 (rowE (SOutcome.cells .own) t))], 164⟩) := by
  unfold c14_u15
  simp +contextual -implicitDefEqProofs (maxSteps := 100000000) only [laws_markOutcomeS_u15, subI, go_sem, ↓ite_not', Nat.reduceEqDiff, Nat.reduceLT, Nat.reduceLeDiff, ↓reduceIte, Nat.reduceAdd, Nat.reduceMul, Nat.reduceSub, Int.reduceEq, Int.reduceLT, Int.reduceLE, Int.reduceToNat, Int.cast_ofNat_Int, Nat.reduceBEq] <;> rfl
@[go_sem] theorem laws_markOutcomeS_u16_ok {β : Type} (n : Nat) (K : List (Kont β)) (a87 : List SOutcome) (a88 : Int) (a89 : Int) : run ⟨tab.own, lev tab (n + 2), tab.gl⟩ K c14_u16 ⟨[(0, .sl 1000000000 0 a87.length), (1, .val (.int .i64 a88)), (5, .val (.int .i64 a89))], [(1000000000, .row true 19 (rowE (SOutcome.cells .own) a87))], 164⟩ = (laws_markOutcomeS_u16 a87 a88 a89).bind (fun t => plug ⟨tab.own, lev tab (n + 2), tab.gl⟩ K .normal ⟨[(0, .sl 1000000000 0 t.length), (1, .val (.int .i64 a88)), (5, .val (.int .i64 a89))], [(1000000000, .row true 19 (rowE (SOutcome.cells .own) t))], 164⟩) := by
  unfold c14_u16
  simp +contextual -implicitDefEqProofs (maxSteps := 100000000) only [laws_markOutcomeS_u16, subI, go_sem, ↓ite_not', Nat.reduceEqDiff, Nat.reduceLT, Nat.reduceLeDiff, ↓reduceIte, Nat.reduceAdd, Nat.reduceMul, Nat.reduceSub, Int.reduceEq, Int.reduceLT, Int.reduceLE, Int.reduceToNat, Int.cast_ofNat_Int, Nat.reduceBEq] <;> rfl
@[go_sem] theorem laws_markOutcomeS_u17_ok {β : Type} (n : Nat) (K : List (Kont β)) (a92 : List SOutcome) (a93 : Int) (a94 : Int) : run ⟨tab.own, lev tab (n + 2), tab.gl⟩ K c14_u17 ⟨[(0, .sl 1000000000 0 a92.length), (1, .val (.int .i64 a93)), (5, .val (.int .i64 a94))], [(1000000000, .row true 19 (rowE (SOutcome.cells .own) a92))], 164⟩ = (laws_markOutcomeS_u17 a92 a93 a94).bind (fun t => plug ⟨tab.own, lev tab (n + 2), tab.gl⟩ K .normal ⟨[(0, .sl 1000000000 0 t.1.length), (1, .val (.int .i64 t.2)), (5, .val (.int .i64 a94))], [(1000000000, .row true 19 (rowE (SOutcome.cells .own) t.1))], 164⟩) := by
  unfold c14_u17
  simp +contextual -implicitDefEqProofs (maxSteps := 100000000) only [laws_markOutcomeS_u17, subI, go_sem, ↓ite_not', Nat.reduceEqDiff, Nat.reduceLT, Nat.reduceLeDiff, ↓reduceIte, Nat.reduceAdd, Nat.reduceMul, Nat.reduceSub, Int.reduceEq, Int.reduceLT, Int.reduceLE, Int.reduceToNat, Int.cast_ofNat_Int, Nat.reduceBEq] <;> rfl
@[go_sem] theorem laws_markOutcomeS_u18_ok {β : Type} (n : Nat) (K : List (Kont β)) (a99 : List SOutcome) (a100 : Int) (a101 : Int) : run ⟨tab.own, lev tab (n + 2), tab.gl⟩ K c14_u18 ⟨[(0, .sl 1000000000 0 a99.length), (1, .val (.int .i64 a100)), (5, .val (.int .i64 a101))], [(1000000000, .row true 19 (rowE (SOutcome.cells .own) a99))], 164⟩ = (laws_markOutcomeS_u18 a99 a100 a101).bind (fun t => plug ⟨tab.own, lev tab (n + 2), tab.gl⟩ K .normal ⟨[(0, .sl 1000000000 0 t.1.length), (1, .val (.int .i64 t.2)), (5, .val (.int .i64 a101))], [(1000000000, .row true 19 (rowE (SOutcome.cells .own) t.1))], 164⟩) := by
  unfold c14_u18
  simp +contextual -implicitDefEqProofs (maxSteps := 100000000) only [laws_markOutcomeS_u18, subI, go_sem, ↓ite_not', Nat.reduceEqDiff, Nat.reduceLT, Nat.reduceLeDiff, ↓reduceIte, Nat.reduceAdd, Nat.reduceMul, Nat.reduceSub, Int.reduceEq, Int.reduceLT, Int.reduceLE, Int.reduceToNat, Int.cast_ofNat_Int, Nat.reduceBEq] <;> rfl
@[go_sem] theorem laws_markOutcomeS_u19_ok {β : Type} (n : Nat) (K : List (Kont β)) (a106 : List SOutcome) (a107 : Int) (a108 : Int) : run ⟨tab.own, lev tab (n + 2), tab.gl⟩ K c14_u19 ⟨[(0, .sl 1000000000 0 a106.length), (1, .val (.int .i64 a107)), (5, .val (.int .i64 a108))], [(1000000000, .row true 19 (rowE (SOutcome.cells .own) a106))], 164⟩ = (laws_markOutcomeS_u19 a106 a107 a108).bind (fun t => plug ⟨tab.own, lev tab (n + 2), tab.gl⟩ K .normal ⟨[(0, .sl 1000000000 0 t.1.length), (1, .val (.int .i64 t.2)), (5, .val (.int .i64 a108))], [(1000000000, .row true 19 (rowE (SOutcome.cells .own) t.1))], 164⟩) := by
  unfold c14_u19
  simp +contextual -implicitDefEqProofs (maxSteps := 100000000) only [laws_markOutcomeS_u19, subI, go_sem, ↓ite_not', Nat.reduceEqDiff, Nat.reduceLT, Nat.reduceLeDiff, ↓reduceIte, Nat.reduceAdd, Nat.reduceMul, Nat.reduceSub, Int.reduceEq, Int.reduceLT, Int.reduceLE, Int.reduceToNat, Int.cast_ofNat_Int, Nat.reduceBEq] <;> rfl
@[go_sem] theorem laws_markOutcomeS_s20_ok {β : Type} (n : Nat) (K : List (Kont β)) (a1 : List SOutcome) (a2 : Int) (a3 : Int) : run ⟨tab.own, lev tab (n + 2), tab.gl⟩ K (.loop c14_u20) ⟨[(0, .sl 1000000000 0 a1.length), (1, .val (.int .i64 a2)), (5, .val (.int .i64 a3))], [(1000000000, .row true 19 (rowE (SOutcome.cells .own) a1))], 164⟩ = (loopO laws_markOutcomeS_s20 ((a1, a2, a3))).bind (fun t => plug ⟨tab.own, lev tab (n + 2), tab.gl⟩ K (.exit 0) ⟨[(1, .val (.int .i64 t.2))], [(1000000000, .row true 19 (rowE (SOutcome.cells .own) t.1))], 164⟩) := by
  refine loop_run (C := ⟨tab.own, lev tab (n + 2), tab.gl⟩) (K := K) (c := c14_u20) (laws_markOutcomeS_s20) (fun s => ⟨[(0, .sl 1000000000 0 s.1.length), (1, .val (.int .i64 s.2.1)), (5, .val (.int .i64 s.2.2))], [(1000000000, .row true 19 (rowE (SOutcome.cells .own) s.1))], 164⟩) (fun t => plug ⟨tab.own, lev tab (n + 2), tab.gl⟩ K (.exit 0) ⟨[(1, .val (.int .i64 t.2))], [(1000000000, .row true 19 (rowE (SOutcome.cells .own) t.1))], 164⟩) (fun k s => ?_) ((a1, a2, a3))
  obtain ⟨a1, a2, a3⟩ := s
  unfold c14_u20
  simp +contextual -implicitDefEqProofs (maxSteps := 100000000) only [laws_markOutcomeS_s20, subI, go_sem, ↓ite_not', Nat.reduceEqDiff, Nat.reduceLT, Nat.reduceLeDiff, ↓reduceIte, Nat.reduceAdd, Nat.reduceMul, Nat.reduceSub, Int.reduceEq, Int.reduceLT, Int.reduceLE, Int.reduceToNat, Int.cast_ofNat_Int, Nat.reduceBEq] <;> rfl
@[go_sem] theorem laws_markOutcomeS_ok (n : Nat) (q0_0 : List SOutcome) (q1_0 : Int) : lev tab (n + 3) 14 [.ow 19 (rowE (SOutcome.cells .own) q0_0), .int .i64 q1_0] = (laws_markOutcomeS q0_0 q1_0).map fun r => (.int .i64 r.1, [.ow 19 (rowE (SOutcome.cells .own) r.2), .gone]) := by
  rw [lev_st (vc := c14) (nt := 164) (rs := [(4, none)]) rfl rfl (Nat.le_of_ble_eq_true rfl)]
  unfold c14
  simp +contextual -implicitDefEqProofs (maxSteps := 100000000) only [laws_markOutcomeS, subI, go_sem, ↓ite_not', Nat.reduceEqDiff, Nat.reduceLT, Nat.reduceLeDiff, ↓reduceIte, Nat.reduceAdd, Nat.reduceMul, Nat.reduceSub, Int.reduceEq, Int.reduceLT, Int.reduceLE, Int.reduceToNat, Int.cast_ofNat_Int, Nat.reduceBEq] <;> rfl
-- laws.markIntsResult
def laws_markIntsResult_o (p0 : SIntsResult) (p1 : Int) : Option (Int × SIntsResult) :=
  (laws_markInt64S p0.List_ p1).bind fun r1 =>
  if p0.List_.length = r1.2.length then some ((r1.1, (SIntsResult.mk p0.Code r1.2)))
  else none
@[go_sem] theorem laws_markIntsResult_o_ok (n : Nat) (q0_0 : Int) (q0_1 : List Int) (q1_0 : Int) : lev tab (n + 2) 15 [.int .i64 q0_0, .ow 1 (rowE (eI .i64) q0_1), .int .i64 q1_0] = (laws_markIntsResult_o (SIntsResult.mk q0_0 q0_1) q1_0).map fun r => (.int .i64 r.1, [.gone, .ow 1 (rowE (eI .i64) r.2.List_), .gone]) := by
  rw [lev_st (vc := c15) (nt := 10) (rs := [(4, none)]) rfl rfl (Nat.le_of_ble_eq_true rfl)]
  unfold c15
  simp +contextual -implicitDefEqProofs (maxSteps := 100000000) only [laws_markIntsResult_o, subI, go_sem, ↓ite_not', Nat.reduceEqDiff, Nat.reduceLT, Nat.reduceLeDiff, ↓reduceIte, Nat.reduceAdd, Nat.reduceMul, Nat.reduceSub, Int.reduceEq, Int.reduceLT, Int.reduceLE, Int.reduceToNat, Int.cast_ofNat_Int, Nat.reduceBEq] <;> rfl
-- laws.heldInt64S
def laws_heldInt64S_s1 (a5 : List Int) : (Int × Int) → Option ((Int × Int) ⊕ (Int ⊕ Unit)) := fun ⟨a6, a7⟩ =>
  if (decide (a7 < (a5.length : Int))) = true then (getI a5 a7).bind fun x8 =>
    if (x8 != a6) = true then some ((.inr ((.inr (())))))
    else some ((.inl (((IntKind.i64.wrap (a6 + 1)), (IntKind.i64.wrap (a7 + 1))))))
  else some ((.inr ((.inl a6))))
def laws_heldInt64S (p0 : List Int) (p1 : Int) : Option (Int) :=
  (loopO (laws_heldInt64S_s1 p0) ((p1, 0))).bind fun t => (Sum.elim (fun y9 => some y9)
   (fun y10 => some ((-1)))) t
@[go_sem] theorem laws_heldInt64S_s1_ok {β : Type} (n : Nat) (K : List (Kont β)) (a5 : List Int) (a6 : Int) (a7 : Int) : run ⟨tab.own, lev tab n, tab.gl⟩ K (.loop c44_u1) ⟨[(0, .val (.sh .lent 1 (rowE (eI .i64) a5))), (1, .val (.int .i64 a6)), (5, .val (.int .i64 a7))], [], 21⟩ = (loopO (laws_heldInt64S_s1 a5) ((a6, a7))).bind (fun t => (Sum.elim (fun t => plug ⟨tab.own, lev tab n, tab.gl⟩ K (.exit 0) ⟨[(1, .val (.int .i64 t))], [], 21⟩) (fun t => plug ⟨tab.own, lev tab n, tab.gl⟩ K .ret ⟨[(4, .val (.int .i64 ((-1))))], [], 21⟩)) t) := by
  refine loop_run (C := ⟨tab.own, lev tab n, tab.gl⟩) (K := K) (c := c44_u1) (laws_heldInt64S_s1 a5) (fun s => ⟨[(0, .val (.sh .lent 1 (rowE (eI .i64) a5))), (1, .val (.int .i64 s.1)), (5, .val (.int .i64 s.2))], [], 21⟩) (fun t => (Sum.elim (fun t => plug ⟨tab.own, lev tab n, tab.gl⟩ K (.exit 0) ⟨[(1, .val (.int .i64 t))], [], 21⟩) (fun t => plug ⟨tab.own, lev tab n, tab.gl⟩ K .ret ⟨[(4, .val (.int .i64 ((-1))))], [], 21⟩)) t) (fun k s => ?_) ((a6, a7))
  obtain ⟨a6, a7⟩ := s
  unfold c44_u1
  simp +contextual -implicitDefEqProofs (maxSteps := 100000000) only [laws_heldInt64S_s1, subI, go_sem, ↓ite_not', Nat.reduceEqDiff, Nat.reduceLT, Nat.reduceLeDiff, ↓reduceIte, Nat.reduceAdd, Nat.reduceMul, Nat.reduceSub, Int.reduceEq, Int.reduceLT, Int.reduceLE, Int.reduceToNat, Int.cast_ofNat_Int, Nat.reduceBEq] <;> rfl
@[go_sem] theorem laws_heldInt64S_ok (n : Nat) (q0_0 : List Int) (q1_0 : Int) : lev tab (n + 1) 44 [.sh .lent 1 (rowE (eI .i64) q0_0), .int .i64 q1_0] = (laws_heldInt64S q0_0 q1_0).map fun r => (.int .i64 r, [.gone, .gone]) := by
  rw [lev_st (vc := c44) (nt := 21) (rs := [(4, none)]) rfl rfl (Nat.le_of_ble_eq_true rfl)]
  unfold c44
  simp +contextual -implicitDefEqProofs (maxSteps := 100000000) only [laws_heldInt64S, subI, go_sem, ↓ite_not', Nat.reduceEqDiff, Nat.reduceLT, Nat.reduceLeDiff, ↓reduceIte, Nat.reduceAdd, Nat.reduceMul, Nat.reduceSub, Int.reduceEq, Int.reduceLT, Int.reduceLE, Int.reduceToNat, Int.cast_ofNat_Int, Nat.reduceBEq] <;> rfl
-- laws.heldIntsResult
def laws_heldIntsResult (p0 : SIntsResult) (p1 : Int) : Option (Int) :=
  (laws_heldInt64S p0.List_ p1).bind fun r1 =>
  if (decide (r1 < 0)) = true then some ((-1))
  else some r1
@[go_sem] theorem laws_heldIntsResult_ok (n : Nat) (q0_0 : Int) (q0_1 : List Int) (q1_0 : Int) : lev tab (n + 2) 16 [.agg [.int .i64 q0_0, .sh .lent 1 (rowE (eI .i64) q0_1)], .int .i64 q1_0] = (laws_heldIntsResult (SIntsResult.mk q0_0 q0_1) q1_0).map fun r => (.int .i64 r, [.gone, .gone]) := by
  rw [lev_st (vc := c16) (nt := 12) (rs := [(4, none)]) rfl rfl (Nat.le_of_ble_eq_true rfl)]
  unfold c16
  simp +contextual -implicitDefEqProofs (maxSteps := 100000000) only [laws_heldIntsResult, subI, go_sem, ↓ite_not', Nat.reduceEqDiff, Nat.reduceLT, Nat.reduceLeDiff, ↓reduceIte, Nat.reduceAdd, Nat.reduceMul, Nat.reduceSub, Int.reduceEq, Int.reduceLT, Int.reduceLE, Int.reduceToNat, Int.cast_ofNat_Int, Nat.reduceBEq] <;> rfl
-- laws.FnExactSourcesOf
def laws_FnExactSourcesOf_u1 (a1 : List SOutcome) : Option (Int) :=
  (laws_szOutcomeS a1 1048576).bind fun r2 =>
  some r2
def laws_FnExactSourcesOf_u2 (a4 : List SOutcome) : Option (Int × (List Int)) :=
  (laws_toOutcomeS a4).bind fun r5 =>
  (spec_SourcesOf r5).bind fun r6 =>
  some ((r6.Code, r6.List_))
def laws_FnExactSourcesOf_u3 (a8 : Int) (a9 : List Int) (a10 : List SOutcome) : Option ((List SOutcome)) :=
  (laws_toOutcomeS a10).bind fun r11 =>
  some r11
def laws_FnExactSourcesOf_u4 (a13 : Int) (a14 : List Int) (a15 : List SOutcome) (a16 : List SOutcome) : Option (Int × (List Int)) :=
  (impl_SourcesOf a15).bind fun r17 =>
  some ((r17.Code, r17.List_))
def laws_FnExactSourcesOf_u5 (a19 : Int) (a20 : List Int) (a21 : List SOutcome) (a22 : Int) (a23 : List Int) (a24 : List SOutcome) : Option (Bool) :=
  (laws_eqIntsResult ((SIntsResult.mk a22 a23)) ((SIntsResult.mk a19 a20))).bind fun r25 =>
  some ((!r25))
def laws_FnExactSourcesOf_u6 (a27 : Int) (a28 : List Int) (a29 : List SOutcome) (a30 : Int) (a31 : List Int) (a32 : List SOutcome) : Option (Bool) :=
  (laws_toOutcomeS a32).bind fun r33 =>
  (laws_eqOutcomeS a29 r33).bind fun r34 =>
  some ((!r34))
def laws_FnExactSourcesOf_u7 (a42 : Int) (a43 : List Int) (a44 : List SOutcome) (a45 : Int) (a46 : List Int) (a47 : List SOutcome) : Option (Int) :=
  (laws_markOutcomeS a44 1).bind fun r48 =>
  if a44.length = r48.2.length then some r48.1
  else none
def laws_FnExactSourcesOf_u8 (a50 : Int) (a51 : List Int) (a52 : Int) (a53 : List Int) (a54 : List SOutcome) (a55 : Int) : Option (Bool) :=
  if (decide (a55 < 0)) = true then some true
  else (laws_eqIntsResult ((SIntsResult.mk a52 a53)) ((SIntsResult.mk a50 a51))).bind fun r56 =>
    some ((!r56))
def laws_FnExactSourcesOf_u9 (a58 : Int) (a59 : List Int) (a60 : Int) (a61 : List Int) (a62 : List SOutcome) : Option ((List Int) × Int) :=
  (laws_markIntsResult_o ((SIntsResult.mk a60 a61)) 1).bind fun r63 =>
  if a61.length = r63.2.List_.length then some ((r63.2.List_, r63.1))
  else none
def laws_FnExactSourcesOf_u10 (a65 : Int) (a66 : List Int) (a67 : Int) (a68 : List Int) (a69 : List SOutcome) (a70 : Int) : Option (Int) :=
  (laws_heldIntsResult ((SIntsResult.mk a67 a68)) 1).bind fun r71 =>
  some r71
def laws_FnExactSourcesOf_u11 (a79 : Int) (a80 : List Int) (a81 : Int) (a82 : List Int) (a83 : List SOutcome) (a84 : Int) : Option (Int × (List Int)) :=
  (laws_toOutcomeS a83).bind fun r85 =>
  (impl_SourcesOf r85).bind fun r86 =>
  some ((r86.Code, r86.List_))
def laws_FnExactSourcesOf_u12 (a88 : Int) (a89 : List Int) (a90 : Int) (a91 : List Int) (a92 : Int) (a93 : List Int) (a94 : Int) : Option (Bool) :=
  (laws_eqIntsResult ((SIntsResult.mk a92 a93)) ((SIntsResult.mk a88 a89))).bind fun r95 =>
  some ((!r95))
def laws_FnExactSourcesOf_u13 (a97 : Int) (a98 : List Int) (a99 : Int) : Option (Int) :=
  (laws_heldIntsResult ((SIntsResult.mk a97 a98)) 1).bind fun r100 =>
  some r100
def laws_FnExactSourcesOf_u14 (a73 : Int) (a74 : List Int) (a75 : Int) (a76 : List Int) (a77 : List SOutcome) (a78 : Int) : Option (Bool) :=
  (laws_FnExactSourcesOf_u11 a73 a74 a75 a76 a77 a78).bind fun y87 =>
  (laws_FnExactSourcesOf_u12 a73 a74 a75 a76 y87.1 y87.2 a78).bind fun y96 =>
  if y96 = true then some false
  else (laws_FnExactSourcesOf_u13 a75 a76 a78).bind fun y101 =>
    if (decide (y101 < 0)) = true then some false
    else if (y101 != a78) = true then some false
      else some true
def laws_FnExactSourcesOf_u15 (a36 : Int) (a37 : List Int) (a38 : List SOutcome) (a39 : Int) (a40 : List Int) (a41 : List SOutcome) : Option (Bool) :=
  (laws_FnExactSourcesOf_u7 a36 a37 a38 a39 a40 a41).bind fun y49 =>
  (laws_FnExactSourcesOf_u8 a36 a37 a39 a40 a41 y49).bind fun y57 =>
  if y57 = true then some false
  else (laws_FnExactSourcesOf_u9 a36 a37 a39 a40 a41).bind fun y64 =>
    (laws_FnExactSourcesOf_u10 a36 a37 a39 y64.1 a41 y64.2).bind fun y72 =>
    if (decide (y72 < 0)) = true then some false
    else if (y72 != y64.2) = true then some false
      else (laws_FnExactSourcesOf_u14 a36 a37 a39 y64.1 a41 y64.2).bind fun y102 =>
        some y102
def laws_FnExactSourcesOf (p0 : List SOutcome) : Option (Bool) :=
  (laws_FnExactSourcesOf_u1 p0).bind fun y3 =>
  if (decide (y3 < 0)) = true then some true
  else (laws_FnExactSourcesOf_u2 p0).bind fun y7 =>
    (laws_FnExactSourcesOf_u3 y7.1 y7.2 p0).bind fun y12 =>
    (laws_FnExactSourcesOf_u4 y7.1 y7.2 y12 p0).bind fun y18 =>
    (laws_FnExactSourcesOf_u5 y7.1 y7.2 y12 y18.1 y18.2 p0).bind fun y26 =>
    if y26 = true then some false
    else (laws_FnExactSourcesOf_u6 y7.1 y7.2 y12 y18.1 y18.2 p0).bind fun y35 =>
      if y35 = true then some false
      else (laws_FnExactSourcesOf_u15 y7.1 y7.2 y12 y18.1 y18.2 p0).bind fun y103 =>
        some y103
@[go_sem] theorem laws_FnExactSourcesOf_u1_ok {β : Type} (n : Nat) (K : List (Kont β)) (a1 : List SOutcome) : run ⟨tab.own, lev tab (n + 5), tab.gl⟩ K c4_u1 ⟨[(0, .val (.sh .lent 19 (rowE (SOutcome.cells .lent) a1))), (3, .val (.int .i64 1048576))], [], 69⟩ = (laws_FnExactSourcesOf_u1 a1).bind (fun t => plug ⟨tab.own, lev tab (n + 5), tab.gl⟩ K .normal ⟨[(0, .val (.sh .lent 19 (rowE (SOutcome.cells .lent) a1))), (3, .val (.int .i64 t))], [], 69⟩) := by
  unfold c4_u1
  simp +contextual -implicitDefEqProofs (maxSteps := 100000000) only [laws_FnExactSourcesOf_u1, subI, go_sem, ↓ite_not', Nat.reduceEqDiff, Nat.reduceLT, Nat.reduceLeDiff, ↓reduceIte, Nat.reduceAdd, Nat.reduceMul, Nat.reduceSub, Int.reduceEq, Int.reduceLT, Int.reduceLE, Int.reduceToNat, Int.cast_ofNat_Int, Nat.reduceBEq] <;> rfl
@[go_sem] theorem laws_FnExactSourcesOf_u2_ok {β : Type} (n : Nat) (K : List (Kont β)) (a4 : List SOutcome) : run ⟨tab.own, lev tab (n + 5), tab.gl⟩ K c4_u2 ⟨[(0, .val (.sh .lent 19 (rowE (SOutcome.cells .lent) a4)))], [], 69⟩ = (laws_FnExactSourcesOf_u2 a4).bind (fun t => plug ⟨tab.own, lev tab (n + 5), tab.gl⟩ K .normal ⟨[(0, .val (.sh .lent 19 (rowE (SOutcome.cells .lent) a4))), (4, .pt 200000040 0)], [(200000040, .var false [.val (.int .i64 t.1), .sl 200000041 0 t.2.length]), (200000041, .row false 1 (rowE (eI .i64) t.2))], 69⟩) := by
  unfold c4_u2
  simp +contextual -implicitDefEqProofs (maxSteps := 100000000) only [laws_FnExactSourcesOf_u2, subI, go_sem, ↓ite_not', Nat.reduceEqDiff, Nat.reduceLT, Nat.reduceLeDiff, ↓reduceIte, Nat.reduceAdd, Nat.reduceMul, Nat.reduceSub, Int.reduceEq, Int.reduceLT, Int.reduceLE, Int.reduceToNat, Int.cast_ofNat_Int, Nat.reduceBEq] <;> rfl
@[go_sem] theorem laws_FnExactSourcesOf_u3_ok {β : Type} (n : Nat) (K : List (Kont β)) (a8 : Int) (a9 : List Int) (a10 : List SOutcome) : run ⟨tab.own, lev tab (n + 5), tab.gl⟩ K c4_u3 ⟨[(0, .val (.sh .lent 19 (rowE (SOutcome.cells .lent) a10))), (4, .pt 200000040 0)], [(200000040, .var false [.val (.int .i64 a8), .sl 200000041 0 a9.length]), (200000041, .row false 1 (rowE (eI .i64) a9))], 69⟩ = (laws_FnExactSourcesOf_u3 a8 a9 a10).bind (fun t => plug ⟨tab.own, lev tab (n + 5), tab.gl⟩ K .normal ⟨[(0, .val (.sh .lent 19 (rowE (SOutcome.cells .lent) a10))), (4, .pt 200000040 0), (5, .sl 200000050 0 t.length)], [(200000040, .var false [.val (.int .i64 a8), .sl 200000041 0 a9.length]), (200000041, .row false 1 (rowE (eI .i64) a9)), (200000050, .row false 19 (rowE (SOutcome.cells .own) t))], 69⟩) := by
  unfold c4_u3
  simp +contextual -implicitDefEqProofs (maxSteps := 100000000) only [laws_FnExactSourcesOf_u3, subI, go_sem, ↓ite_not', Nat.reduceEqDiff, Nat.reduceLT, Nat.reduceLeDiff, ↓reduceIte, Nat.reduceAdd, Nat.reduceMul, Nat.reduceSub, Int.reduceEq, Int.reduceLT, Int.reduceLE, Int.reduceToNat, Int.cast_ofNat_Int, Nat.reduceBEq] <;> rfl
@[go_sem] theorem laws_FnExactSourcesOf_u4_ok {β : Type} (n : Nat) (K : List (Kont β)) (a13 : Int) (a14 : List Int) (a15 : List SOutcome) (a16 : List SOutcome) : run ⟨tab.own, lev tab (n + 5), tab.gl⟩ K c4_u4 ⟨[(0, .val (.sh .lent 19 (rowE (SOutcome.cells .lent) a16))), (4, .pt 200000040 0), (5, .sl 200000050 0 a15.length)], [(200000040, .var false [.val (.int .i64 a13), .sl 200000041 0 a14.length]), (200000041, .row false 1 (rowE (eI .i64) a14)), (200000050, .row false 19 (rowE (SOutcome.cells .own) a15))], 69⟩ = (laws_FnExactSourcesOf_u4 a13 a14 a15 a16).bind (fun t => plug ⟨tab.own, lev tab (n + 5), tab.gl⟩ K .normal ⟨[(0, .val (.sh .lent 19 (rowE (SOutcome.cells .lent) a16))), (4, .pt 200000040 0), (5, .sl 200000050 0 a15.length), (6, .pt 200000060 0)], [(200000040, .var false [.val (.int .i64 a13), .sl 200000041 0 a14.length]), (200000041, .row false 1 (rowE (eI .i64) a14)), (200000050, .row false 19 (rowE (SOutcome.cells .own) a15)), (200000060, .var false [.val (.int .i64 t.1), .sl 200000061 0 t.2.length]), (200000061, .row false 1 (rowE (eI .i64) t.2))], 69⟩) := by
  unfold c4_u4
  simp +contextual -implicitDefEqProofs (maxSteps := 100000000) only [laws_FnExactSourcesOf_u4, subI, go_sem, ↓ite_not', Nat.reduceEqDiff, Nat.reduceLT, Nat.reduceLeDiff, ↓reduceIte, Nat.reduceAdd, Nat.reduceMul, Nat.reduceSub, Int.reduceEq, Int.reduceLT, Int.reduceLE, Int.reduceToNat, Int.cast_ofNat_Int, Nat.reduceBEq] <;> rfl
@[go_sem] theorem laws_FnExactSourcesOf_u5_ok {β : Type} (n : Nat) (K : List (Kont β)) (a19 : Int) (a20 : List Int) (a21 : List SOutcome) (a22 : Int) (a23 : List Int) (a24 : List SOutcome) : run ⟨tab.own, lev tab (n + 5), tab.gl⟩ K c4_u5 ⟨[(0, .val (.sh .lent 19 (rowE (SOutcome.cells .lent) a24))), (4, .pt 200000040 0), (5, .sl 200000050 0 a21.length), (6, .pt 200000060 0)], [(200000040, .var false [.val (.int .i64 a19), .sl 200000041 0 a20.length]), (200000041, .row false 1 (rowE (eI .i64) a20)), (200000050, .row false 19 (rowE (SOutcome.cells .own) a21)), (200000060, .var false [.val (.int .i64 a22), .sl 200000061 0 a23.length]), (200000061, .row false 1 (rowE (eI .i64) a23))], 69⟩ = (laws_FnExactSourcesOf_u5 a19 a20 a21 a22 a23 a24).bind (fun t => plug ⟨tab.own, lev tab (n + 5), tab.gl⟩ K .normal ⟨[(0, .val (.sh .lent 19 (rowE (SOutcome.cells .lent) a24))), (4, .pt 200000040 0), (5, .sl 200000050 0 a21.length), (6, .pt 200000060 0), (26, .val (.bool t))], [(200000040, .var false [.val (.int .i64 a19), .sl 200000041 0 a20.length]), (200000041, .row false 1 (rowE (eI .i64) a20)), (200000050, .row false 19 (rowE (SOutcome.cells .own) a21)), (200000060, .var false [.val (.int .i64 a22), .sl 200000061 0 a23.length]), (200000061, .row false 1 (rowE (eI .i64) a23))], 69⟩) := by
  unfold c4_u5
  simp +contextual -implicitDefEqProofs (maxSteps := 100000000) only [laws_FnExactSourcesOf_u5, subI, go_sem, ↓ite_not', Nat.reduceEqDiff, Nat.reduceLT, Nat.reduceLeDiff, ↓reduceIte, Nat.reduceAdd, Nat.reduceMul, Nat.reduceSub, Int.reduceEq, Int.reduceLT, Int.reduceLE, Int.reduceToNat, Int.cast_ofNat_Int, Nat.reduceBEq] <;> rfl
@[go_sem] theorem laws_FnExactSourcesOf_u6_ok {β : Type} (n : Nat) (K : List (Kont β)) (a27 : Int) (a28 : List Int) (a29 : List SOutcome) (a30 : Int) (a31 : List Int) (a32 : List SOutcome) : run ⟨tab.own, lev tab (n + 5), tab.gl⟩ K c4_u6 ⟨[(0, .val (.sh .lent 19 (rowE (SOutcome.cells .lent) a32))), (4, .pt 200000040 0), (5, .sl 200000050 0 a29.length), (6, .pt 200000060 0)], [(200000040, .var false [.val (.int .i64 a27), .sl 200000041 0 a28.length]), (200000041, .row false 1 (rowE (eI .i64) a28)), (200000050, .row false 19 (rowE (SOutcome.cells .own) a29)), (200000060, .var false [.val (.int .i64 a30), .sl 200000061 0 a31.length]), (200000061, .row false 1 (rowE (eI .i64) a31))], 69⟩ = (laws_FnExactSourcesOf_u6 a27 a28 a29 a30 a31 a32).bind (fun t => plug ⟨tab.own, lev tab (n + 5), tab.gl⟩ K .normal ⟨[(0, .val (.sh .lent 19 (rowE (SOutcome.cells .lent) a32))), (4, .pt 200000040 0), (5, .sl 200000050 0 a29.length), (6, .pt 200000060 0), (31, .val (.bool t))], [(200000040, .var false [.val (.int .i64 a27), .sl 200000041 0 a28.length]), (200000041, .row false 1 (rowE (eI .i64) a28)), (200000050, .row false 19 (rowE (SOutcome.cells .own) a29)), (200000060, .var false [.val (.int .i64 a30), .sl 200000061 0 a31.length]), (200000061, .row false 1 (rowE (eI .i64) a31))], 69⟩) := by
  unfold c4_u6
  simp +contextual -implicitDefEqProofs (maxSteps := 100000000) only [laws_FnExactSourcesOf_u6, subI, go_sem, ↓ite_not', Nat.reduceEqDiff, Nat.reduceLT, Nat.reduceLeDiff, ↓reduceIte, Nat.reduceAdd, Nat.reduceMul, Nat.reduceSub, Int.reduceEq, Int.reduceLT, Int.reduceLE, Int.reduceToNat, Int.cast_ofNat_Int, Nat.reduceBEq] <;> rfl
@[go_sem] theorem laws_FnExactSourcesOf_u7_ok {β : Type} (n : Nat) (K : List (Kont β)) (a42 : Int) (a43 : List Int) (a44 : List SOutcome) (a45 : Int) (a46 : List Int) (a47 : List SOutcome) : run ⟨tab.own, lev tab (n + 5), tab.gl⟩ K c4_u7 ⟨[(0, .val (.sh .lent 19 (rowE (SOutcome.cells .lent) a47))), (4, .pt 200000040 0), (5, .sl 200000050 0 a44.length), (6, .pt 200000060 0), (7, .val (.int .i64 1))], [(200000040, .var false [.val (.int .i64 a42), .sl 200000041 0 a43.length]), (200000041, .row false 1 (rowE (eI .i64) a43)), (200000050, .row false 19 (rowE (SOutcome.cells .own) a44)), (200000060, .var false [.val (.int .i64 a45), .sl 200000061 0 a46.length]), (200000061, .row false 1 (rowE (eI .i64) a46))], 69⟩ = (laws_FnExactSourcesOf_u7 a42 a43 a44 a45 a46 a47).bind (fun t => plug ⟨tab.own, lev tab (n + 5), tab.gl⟩ K .normal ⟨[(0, .val (.sh .lent 19 (rowE (SOutcome.cells .lent) a47))), (4, .pt 200000040 0), (6, .pt 200000060 0), (7, .val (.int .i64 t))], [(200000040, .var false [.val (.int .i64 a42), .sl 200000041 0 a43.length]), (200000041, .row false 1 (rowE (eI .i64) a43)), (200000060, .var false [.val (.int .i64 a45), .sl 200000061 0 a46.length]), (200000061, .row false 1 (rowE (eI .i64) a46))], 69⟩) := by
  unfold c4_u7
  simp +contextual -implicitDefEqProofs (maxSteps := 100000000) only [laws_FnExactSourcesOf_u7, subI, go_sem, ↓ite_not', Nat.reduceEqDiff, Nat.reduceLT, Nat.reduceLeDiff, ↓reduceIte, Nat.reduceAdd, Nat.reduceMul, Nat.reduceSub, Int.reduceEq, Int.reduceLT, Int.reduceLE, Int.reduceToNat, Int.cast_ofNat_Int, Nat.reduceBEq] <;> rfl
@[go_sem] theorem laws_FnExactSourcesOf_u8_ok {β : Type} (n : Nat) (K : List (Kont β)) (a50 : Int) (a51 : List Int) (a52 : Int) (a53 : List Int) (a54 : List SOutcome) (a55 : Int) : run ⟨tab.own, lev tab (n + 5), tab.gl⟩ K c4_u8 ⟨[(0, .val (.sh .lent 19 (rowE (SOutcome.cells .lent) a54))), (4, .pt 200000040 0), (6, .pt 200000060 0), (7, .val (.int .i64 a55))], [(200000040, .var false [.val (.int .i64 a50), .sl 200000041 0 a51.length]), (200000041, .row false 1 (rowE (eI .i64) a51)), (200000060, .var false [.val (.int .i64 a52), .sl 200000061 0 a53.length]), (200000061, .row false 1 (rowE (eI .i64) a53))], 69⟩ = (laws_FnExactSourcesOf_u8 a50 a51 a52 a53 a54 a55).bind (fun t => plug ⟨tab.own, lev tab (n + 5), tab.gl⟩ K .normal ⟨[(0, .val (.sh .lent 19 (rowE (SOutcome.cells .lent) a54))), (4, .pt 200000040 0), (6, .pt 200000060 0), (42, .val (.bool t))], [(200000040, .var false [.val (.int .i64 a50), .sl 200000041 0 a51.length]), (200000041, .row false 1 (rowE (eI .i64) a51)), (200000060, .var false [.val (.int .i64 a52), .sl 200000061 0 a53.length]), (200000061, .row false 1 (rowE (eI .i64) a53))], 69⟩) := by
  unfold c4_u8
  simp +contextual -implicitDefEqProofs (maxSteps := 100000000) only [laws_FnExactSourcesOf_u8, subI, go_sem, ↓ite_not', Nat.reduceEqDiff, Nat.reduceLT, Nat.reduceLeDiff, ↓reduceIte, Nat.reduceAdd, Nat.reduceMul, Nat.reduceSub, Int.reduceEq, Int.reduceLT, Int.reduceLE, Int.reduceToNat, Int.cast_ofNat_Int, Nat.reduceBEq] <;> rfl
@[go_sem] theorem laws_FnExactSourcesOf_u9_ok {β : Type} (n : Nat) (K : List (Kont β)) (a58 : Int) (a59 : List Int) (a60 : Int) (a61 : List Int) (a62 : List SOutcome) : run ⟨tab.own, lev tab (n + 5), tab.gl⟩ K c4_u9 ⟨[(0, .val (.sh .lent 19 (rowE (SOutcome.cells .lent) a62))), (4, .pt 200000040 0), (6, .pt 200000060 0), (8, .val (.int .i64 1))], [(200000040, .var false [.val (.int .i64 a58), .sl 200000041 0 a59.length]), (200000041, .row false 1 (rowE (eI .i64) a59)), (200000060, .var false [.val (.int .i64 a60), .sl 200000061 0 a61.length]), (200000061, .row false 1 (rowE (eI .i64) a61))], 69⟩ = (laws_FnExactSourcesOf_u9 a58 a59 a60 a61 a62).bind (fun t => plug ⟨tab.own, lev tab (n + 5), tab.gl⟩ K .normal ⟨[(0, .val (.sh .lent 19 (rowE (SOutcome.cells .lent) a62))), (4, .pt 200000040 0), (6, .pt 200000060 0), (8, .val (.int .i64 t.2))], [(200000040, .var false [.val (.int .i64 a58), .sl 200000041 0 a59.length]), (200000041, .row false 1 (rowE (eI .i64) a59)), (200000060, .var false [.val (.int .i64 a60), .sl 200000061 0 t.1.length]), (200000061, .row false 1 (rowE (eI .i64) t.1))], 69⟩) := by
  unfold c4_u9
  simp +contextual -implicitDefEqProofs (maxSteps := 100000000) only [laws_FnExactSourcesOf_u9, subI, go_sem, ↓ite_not', Nat.reduceEqDiff, Nat.reduceLT, Nat.reduceLeDiff, ↓reduceIte, Nat.reduceAdd, Nat.reduceMul, Nat.reduceSub, Int.reduceEq, Int.reduceLT, Int.reduceLE, Int.reduceToNat, Int.cast_ofNat_Int, Nat.reduceBEq] <;> rfl
@[go_sem] theorem laws_FnExactSourcesOf_u10_ok {β : Type} (n : Nat) (K : List (Kont β)) (a65 : Int) (a66 : List Int) (a67 : Int) (a68 : List Int) (a69 : List SOutcome) (a70 : Int) : run ⟨tab.own, lev tab (n + 5), tab.gl⟩ K c4_u10 ⟨[(0, .val (.sh .lent 19 (rowE (SOutcome.cells .lent) a69))), (4, .pt 200000040 0), (6, .pt 200000060 0), (8, .val (.int .i64 a70)), (9, .val (.int .i64 1))], [(200000040, .var false [.val (.int .i64 a65), .sl 200000041 0 a66.length]), (200000041, .row false 1 (rowE (eI .i64) a66)), (200000060, .var false [.val (.int .i64 a67), .sl 200000061 0 a68.length]), (200000061, .row false 1 (rowE (eI .i64) a68))], 69⟩ = (laws_FnExactSourcesOf_u10 a65 a66 a67 a68 a69 a70).bind (fun t => plug ⟨tab.own, lev tab (n + 5), tab.gl⟩ K .normal ⟨[(0, .val (.sh .lent 19 (rowE (SOutcome.cells .lent) a69))), (4, .pt 200000040 0), (6, .pt 200000060 0), (8, .val (.int .i64 a70)), (9, .val (.int .i64 t))], [(200000040, .var false [.val (.int .i64 a65), .sl 200000041 0 a66.length]), (200000041, .row false 1 (rowE (eI .i64) a66)), (200000060, .var false [.val (.int .i64 a67), .sl 200000061 0 a68.length]), (200000061, .row false 1 (rowE (eI .i64) a68))], 69⟩) := by
  unfold c4_u10
  simp +contextual -implicitDefEqProofs (maxSteps := 100000000) only [laws_FnExactSourcesOf_u10, subI, go_sem, ↓ite_not', Nat.reduceEqDiff, Nat.reduceLT, Nat.reduceLeDiff, ↓reduceIte, Nat.reduceAdd, Nat.reduceMul, Nat.reduceSub, Int.reduceEq, Int.reduceLT, Int.reduceLE, Int.reduceToNat, Int.cast_ofNat_Int, Nat.reduceBEq] <;> rfl
@[go_sem] theorem laws_FnExactSourcesOf_u11_ok {β : Type} (n : Nat) (K : List (Kont β)) (a79 : Int) (a80 : List Int) (a81 : Int) (a82 : List Int) (a83 : List SOutcome) (a84 : Int) : run ⟨tab.own, lev tab (n + 5), tab.gl⟩ K c4_u11 ⟨[(0, .val (.sh .lent 19 (rowE (SOutcome.cells .lent) a83))), (4, .pt 200000040 0), (6, .pt 200000060 0), (8, .val (.int .i64 a84))], [(200000040, .var false [.val (.int .i64 a79), .sl 200000041 0 a80.length]), (200000041, .row false 1 (rowE (eI .i64) a80)), (200000060, .var false [.val (.int .i64 a81), .sl 200000061 0 a82.length]), (200000061, .row false 1 (rowE (eI .i64) a82))], 69⟩ = (laws_FnExactSourcesOf_u11 a79 a80 a81 a82 a83 a84).bind (fun t => plug ⟨tab.own, lev tab (n + 5), tab.gl⟩ K .normal ⟨[(4, .pt 200000040 0), (6, .pt 200000060 0), (8, .val (.int .i64 a84)), (10, .pt 200000100 0)], [(200000040, .var false [.val (.int .i64 a79), .sl 200000041 0 a80.length]), (200000041, .row false 1 (rowE (eI .i64) a80)), (200000060, .var false [.val (.int .i64 a81), .sl 200000061 0 a82.length]), (200000061, .row false 1 (rowE (eI .i64) a82)), (200000100, .var false [.val (.int .i64 t.1), .sl 200000101 0 t.2.length]), (200000101, .row false 1 (rowE (eI .i64) t.2))], 69⟩) := by
  unfold c4_u11
  simp +contextual -implicitDefEqProofs (maxSteps := 100000000) only [laws_FnExactSourcesOf_u11, subI, go_sem, ↓ite_not', Nat.reduceEqDiff, Nat.reduceLT, Nat.reduceLeDiff, ↓reduceIte, Nat.reduceAdd, Nat.reduceMul, Nat.reduceSub, Int.reduceEq, Int.reduceLT, Int.reduceLE, Int.reduceToNat, Int.cast_ofNat_Int, Nat.reduceBEq] <;> rfl
@[go_sem] theorem laws_FnExactSourcesOf_u12_ok {β : Type} (n : Nat) (K : List (Kont β)) (a88 : Int) (a89 : List Int) (a90 : Int) (a91 : List Int) (a92 : Int) (a93 : List Int) (a94 : Int) : run ⟨tab.own, lev tab (n + 5), tab.gl⟩ K c4_u12 ⟨[(4, .pt 200000040 0), (6, .pt 200000060 0), (8, .val (.int .i64 a94)), (10, .pt 200000100 0)], [(200000040, .var false [.val (.int .i64 a88), .sl 200000041 0 a89.length]), (200000041, .row false 1 (rowE (eI .i64) a89)), (200000060, .var false [.val (.int .i64 a90), .sl 200000061 0 a91.length]), (200000061, .row false 1 (rowE (eI .i64) a91)), (200000100, .var false [.val (.int .i64 a92), .sl 200000101 0 a93.length]), (200000101, .row false 1 (rowE (eI .i64) a93))], 69⟩ = (laws_FnExactSourcesOf_u12 a88 a89 a90 a91 a92 a93 a94).bind (fun t => plug ⟨tab.own, lev tab (n + 5), tab.gl⟩ K .normal ⟨[(6, .pt 200000060 0), (8, .val (.int .i64 a94)), (60, .val (.bool t))], [(200000060, .var false [.val (.int .i64 a90), .sl 200000061 0 a91.length]), (200000061, .row false 1 (rowE (eI .i64) a91))], 69⟩) := by
  unfold c4_u12
  simp +contextual -implicitDefEqProofs (maxSteps := 100000000) only [laws_FnExactSourcesOf_u12, subI, go_sem, ↓ite_not', Nat.reduceEqDiff, Nat.reduceLT, Nat.reduceLeDiff, ↓reduceIte, Nat.reduceAdd, Nat.reduceMul, Nat.reduceSub, Int.reduceEq, Int.reduceLT, Int.reduceLE, Int.reduceToNat, Int.cast_ofNat_Int, Nat.reduceBEq] <;> rfl
@[go_sem] theorem laws_FnExactSourcesOf_u13_ok {β : Type} (n : Nat) (K : List (Kont β)) (a97 : Int) (a98 : List Int) (a99 : Int) : run ⟨tab.own, lev tab (n + 5), tab.gl⟩ K c4_u13 ⟨[(6, .pt 200000060 0), (8, .val (.int .i64 a99)), (9, .val (.int .i64 1))], [(200000060, .var false [.val (.int .i64 a97), .sl 200000061 0 a98.length]), (200000061, .row false 1 (rowE (eI .i64) a98))], 69⟩ = (laws_FnExactSourcesOf_u13 a97 a98 a99).bind (fun t => plug ⟨tab.own, lev tab (n + 5), tab.gl⟩ K .normal ⟨[(8, .val (.int .i64 a99)), (9, .val (.int .i64 t))], [], 69⟩) := by
  unfold c4_u13
  simp +contextual -implicitDefEqProofs (maxSteps := 100000000) only [laws_FnExactSourcesOf_u13, subI, go_sem, ↓ite_not', Nat.reduceEqDiff, Nat.reduceLT, Nat.reduceLeDiff, ↓reduceIte, Nat.reduceAdd, Nat.reduceMul, Nat.reduceSub, Int.reduceEq, Int.reduceLT, Int.reduceLE, Int.reduceToNat, Int.cast_ofNat_Int, Nat.reduceBEq] <;> rfl
@[go_sem] theorem laws_FnExactSourcesOf_u14_ok {β : Type} (n : Nat) (K : List (Kont β)) (a73 : Int) (a74 : List Int) (a75 : Int) (a76 : List Int) (a77 : List SOutcome) (a78 : Int) : run ⟨tab.own, lev tab (n + 5), tab.gl⟩ K c4_u14 ⟨[(0, .val (.sh .lent 19 (rowE (SOutcome.cells .lent) a77))), (4, .pt 200000040 0), (6, .pt 200000060 0), (8, .val (.int .i64 a78))], [(200000040, .var false [.val (.int .i64 a73), .sl 200000041 0 a74.length]), (200000041, .row false 1 (rowE (eI .i64) a74)), (200000060, .var false [.val (.int .i64 a75), .sl 200000061 0 a76.length]), (200000061, .row false 1 (rowE (eI .i64) a76))], 69⟩ = (laws_FnExactSourcesOf_u14 a73 a74 a75 a76 a77 a78).bind (fun t => plug ⟨tab.own, lev tab (n + 5), tab.gl⟩ K .ret ⟨[(2, .val (.bool t))], [], 69⟩) := by
  unfold c4_u14
  simp +contextual -implicitDefEqProofs (maxSteps := 100000000) only [laws_FnExactSourcesOf_u14, subI, go_sem, ↓ite_not', Nat.reduceEqDiff, Nat.reduceLT, Nat.reduceLeDiff, ↓reduceIte, Nat.reduceAdd, Nat.reduceMul, Nat.reduceSub, Int.reduceEq, Int.reduceLT, Int.reduceLE, Int.reduceToNat, Int.cast_ofNat_Int, Nat.reduceBEq] <;> rfl
@[go_sem] theorem laws_FnExactSourcesOf_u15_ok {β : Type} (n : Nat) (K : List (Kont β)) (a36 : Int) (a37 : List Int) (a38 : List SOutcome) (a39 : Int) (a40 : List Int) (a41 : List SOutcome) : run ⟨tab.own, lev tab (n + 5), tab.gl⟩ K c4_u15 ⟨[(0, .val (.sh .lent 19 (rowE (SOutcome.cells .lent) a41))), (4, .pt 200000040 0), (5, .sl 200000050 0 a38.length), (6, .pt 200000060 0)], [(200000040, .var false [.val (.int .i64 a36), .sl 200000041 0 a37.length]), (200000041, .row false 1 (rowE (eI .i64) a37)), (200000050, .row false 19 (rowE (SOutcome.cells .own) a38)), (200000060, .var false [.val (.int .i64 a39), .sl 200000061 0 a40.length]), (200000061, .row false 1 (rowE (eI .i64) a40))], 69⟩ = (laws_FnExactSourcesOf_u15 a36 a37 a38 a39 a40 a41).bind (fun t => plug ⟨tab.own, lev tab (n + 5), tab.gl⟩ K .ret ⟨[(2, .val (.bool t))], [], 69⟩) := by
  unfold c4_u15
  simp +contextual -implicitDefEqProofs (maxSteps := 100000000) only [laws_FnExactSourcesOf_u15, subI, go_sem, ↓ite_not', Nat.reduceEqDiff, Nat.reduceLT, Nat.reduceLeDiff, ↓reduceIte, Nat.reduceAdd, Nat.reduceMul, Nat.reduceSub, Int.reduceEq, Int.reduceLT, Int.reduceLE, Int.reduceToNat, Int.cast_ofNat_Int, Nat.reduceBEq] <;> rfl
@[go_sem] theorem laws_FnExactSourcesOf_ok (n : Nat) (q0_0 : List SOutcome) : lev tab (n + 6) 4 [.sh .lent 19 (rowE (SOutcome.cells .lent) q0_0)] = (laws_FnExactSourcesOf q0_0).map fun r => (.bool r, [.gone]) := by
  rw [lev_st (vc := c4) (nt := 69) (rs := [(2, none)]) rfl rfl (Nat.le_of_ble_eq_true rfl)]
  unfold c4
  simp +contextual -implicitDefEqProofs (maxSteps := 100000000) only [laws_FnExactSourcesOf, subI, go_sem, ↓ite_not', Nat.reduceEqDiff, Nat.reduceLT, Nat.reduceLeDiff, ↓reduceIte, Nat.reduceAdd, Nat.reduceMul, Nat.reduceSub, Int.reduceEq, Int.reduceLT, Int.reduceLE, Int.reduceToNat, Int.cast_ofNat_Int, Nat.reduceBEq] <;> rfl
def SPlan.Wf (s : SPlan) : Prop := (WfI .i64 s.Spread) ∧ (WfI .i64 s.Paths) ∧ (True) ∧ (True)
theorem SPlan.of {ds : List D} (h : OkL [.int .i64, .int .i64, .bool, .bool] ds) : ∃ s : SPlan, ds = s.cells .lent ∧ s.Wf := by
  simp only [OkL, OkD] at h
  obtain ⟨_, _, rfl, ⟨x0, rfl, hx0⟩, ⟨_, _, rfl, ⟨x1, rfl, hx1⟩, ⟨_, _, rfl, ⟨x2, rfl⟩, ⟨_, _, rfl, ⟨x3, rfl⟩, rfl⟩⟩⟩⟩ := h
  exact ⟨⟨x0, x1, x2, x3⟩, rfl, ⟨⟨hx0.1, hx0.2⟩, ⟨hx1.1, hx1.2⟩, trivial, trivial⟩⟩
def SFrame.Wf (s : SFrame) : Prop := (WfI .i64 s.Number) ∧ (WfI .i64 s.Size) ∧ (WfI .i64 s.Rung) ∧ (WfI .i64 s.Mask) ∧ (WfI .i64 s.Spread) ∧ (((s.Lows.length : Int) ≤ maxI ∧ ∀ x ∈ s.Lows, WfI .i64 x)) ∧ (((s.Gains.length : Int) ≤ maxI ∧ ∀ x ∈ s.Gains, WfI .i64 x)) ∧ (((s.Pulses.length : Int) ≤ maxI ∧ ∀ x ∈ s.Pulses, ((x.length : Int) ≤ maxI ∧ ∀ y ∈ x, WfI .i64 y)))
theorem SFrame.of {ds : List D} (h : OkL [.int .i64, .int .i64, .int .i64, .int .i64, .int .i64, .sl 1 [.int .i64], .sl 1 [.int .i64], .sl 1 [.sl 1 [.int .i64]]] ds) : ∃ s : SFrame, ds = s.cells .lent ∧ s.Wf := by
  simp only [OkL, OkD] at h
  obtain ⟨_, _, rfl, ⟨x0, rfl, hx0⟩, ⟨_, _, rfl, ⟨x1, rfl, hx1⟩, ⟨_, _, rfl, ⟨x2, rfl, hx2⟩, ⟨_, _, rfl, ⟨x3, rfl, hx3⟩, ⟨_, _, rfl, ⟨x4, rfl, hx4⟩, ⟨_, _, rfl, ⟨x5, rfl, lx5, hx5⟩, ⟨_, _, rfl, ⟨x6, rfl, lx6, hx6⟩, ⟨_, _, rfl, ⟨x7, rfl, lx7, hx7⟩, rfl⟩⟩⟩⟩⟩⟩⟩⟩ := h
  obtain ⟨yx5, rfl, wx5⟩ := rows_of (f := (eI .i64)) (W := fun x => WfI .i64 x) (fun el h => row_int h) hx5
  rw [rowE_len] at lx5
  obtain ⟨yx6, rfl, wx6⟩ := rows_of (f := (eI .i64)) (W := fun x => WfI .i64 x) (fun el h => row_int h) hx6
  rw [rowE_len] at lx6
  obtain ⟨yx7, rfl, wx7⟩ := rows_of (f := (eL .lent 1 (eI .i64))) (W := fun x => ((x.length : Int) ≤ maxI ∧ ∀ y ∈ x, WfI .i64 y)) (fun el h => row_sl (fun el h => row_int h) h) hx7
  rw [rowE_len] at lx7
  exact ⟨⟨x0, x1, x2, x3, x4, yx5, yx6, yx7⟩, rfl, ⟨⟨hx0.1, hx0.2⟩, ⟨hx1.1, hx1.2⟩, ⟨hx2.1, hx2.2⟩, ⟨hx3.1, hx3.2⟩, ⟨hx4.1, hx4.2⟩, ⟨lx5, wx5⟩, ⟨lx6, wx6⟩, ⟨lx7, wx7⟩⟩⟩
def SOutcome.Wf (s : SOutcome) : Prop := (SPlan.Wf s.Plan) ∧ (SFrame.Wf s.Sent) ∧ (((s.Codes.length : Int) ≤ maxI ∧ ∀ x ∈ s.Codes, WfI .i64 x)) ∧ (True) ∧ (WfI .i64 s.Number) ∧ (WfI .i64 s.Source) ∧ (((s.Frame.length : Int) ≤ maxI ∧ ∀ x ∈ s.Frame, WfI .i64 x)) ∧ (((s.Coefs.length : Int) ≤ maxI ∧ ∀ x ∈ s.Coefs, WfI .i64 x)) ∧ (((s.Bounds.length : Int) ≤ maxI ∧ ∀ x ∈ s.Bounds, WfI .i64 x))
theorem SOutcome.of {ds : List D} (h : OkL [.int .i64, .int .i64, .bool, .bool, .int .i64, .int .i64, .int .i64, .int .i64, .int .i64, .sl 1 [.int .i64], .sl 1 [.int .i64], .sl 1 [.sl 1 [.int .i64]], .sl 1 [.int .i64], .bool, .int .i64, .int .i64, .sl 1 [.int .i64], .sl 1 [.int .i64], .sl 1 [.int .i64]] ds) : ∃ s : SOutcome, ds = s.cells .lent ∧ s.Wf := by
  simp only [OkL, OkD] at h
  obtain ⟨_, _, rfl, ⟨x0, rfl, hx0⟩, ⟨_, _, rfl, ⟨x1, rfl, hx1⟩, ⟨_, _, rfl, ⟨x2, rfl⟩, ⟨_, _, rfl, ⟨x3, rfl⟩, ⟨_, _, rfl, ⟨x4, rfl, hx4⟩, ⟨_, _, rfl, ⟨x5, rfl, hx5⟩, ⟨_, _, rfl, ⟨x6, rfl, hx6⟩, ⟨_, _, rfl, ⟨x7, rfl, hx7⟩, ⟨_, _, rfl, ⟨x8, rfl, hx8⟩, ⟨_, _, rfl, ⟨x9, rfl, lx9, hx9⟩, ⟨_, _, rfl, ⟨x10, rfl, lx10, hx10⟩, ⟨_, _, rfl, ⟨x11, rfl, lx11, hx11⟩, ⟨_, _, rfl, ⟨x12, rfl, lx12, hx12⟩, ⟨_, _, rfl, ⟨x13, rfl⟩, ⟨_, _, rfl, ⟨x14, rfl, hx14⟩, ⟨_, _, rfl, ⟨x15, rfl, hx15⟩, ⟨_, _, rfl, ⟨x16, rfl, lx16, hx16⟩, ⟨_, _, rfl, ⟨x17, rfl, lx17, hx17⟩, ⟨_, _, rfl, ⟨x18, rfl, lx18, hx18⟩, rfl⟩⟩⟩⟩⟩⟩⟩⟩⟩⟩⟩⟩⟩⟩⟩⟩⟩⟩⟩ := h
  obtain ⟨yx9, rfl, wx9⟩ := rows_of (f := (eI .i64)) (W := fun x => WfI .i64 x) (fun el h => row_int h) hx9
  rw [rowE_len] at lx9
  obtain ⟨yx10, rfl, wx10⟩ := rows_of (f := (eI .i64)) (W := fun x => WfI .i64 x) (fun el h => row_int h) hx10
  rw [rowE_len] at lx10
  obtain ⟨yx11, rfl, wx11⟩ := rows_of (f := (eL .lent 1 (eI .i64))) (W := fun x => ((x.length : Int) ≤ maxI ∧ ∀ y ∈ x, WfI .i64 y)) (fun el h => row_sl (fun el h => row_int h) h) hx11
  rw [rowE_len] at lx11
  obtain ⟨yx12, rfl, wx12⟩ := rows_of (f := (eI .i64)) (W := fun x => WfI .i64 x) (fun el h => row_int h) hx12
  rw [rowE_len] at lx12
  obtain ⟨yx16, rfl, wx16⟩ := rows_of (f := (eI .i64)) (W := fun x => WfI .i64 x) (fun el h => row_int h) hx16
  rw [rowE_len] at lx16
  obtain ⟨yx17, rfl, wx17⟩ := rows_of (f := (eI .i64)) (W := fun x => WfI .i64 x) (fun el h => row_int h) hx17
  rw [rowE_len] at lx17
  obtain ⟨yx18, rfl, wx18⟩ := rows_of (f := (eI .i64)) (W := fun x => WfI .i64 x) (fun el h => row_int h) hx18
  rw [rowE_len] at lx18
  exact ⟨⟨⟨x0, x1, x2, x3⟩, ⟨x4, x5, x6, x7, x8, yx9, yx10, yx11⟩, yx12, x13, x14, x15, yx16, yx17, yx18⟩, rfl, ⟨⟨⟨hx0.1, hx0.2⟩, ⟨hx1.1, hx1.2⟩, trivial, trivial⟩, ⟨⟨hx4.1, hx4.2⟩, ⟨hx5.1, hx5.2⟩, ⟨hx6.1, hx6.2⟩, ⟨hx7.1, hx7.2⟩, ⟨hx8.1, hx8.2⟩, ⟨lx9, wx9⟩, ⟨lx10, wx10⟩, ⟨lx11, wx11⟩⟩, ⟨lx12, wx12⟩, trivial, ⟨hx14.1, hx14.2⟩, ⟨hx15.1, hx15.2⟩, ⟨lx16, wx16⟩, ⟨lx17, wx17⟩, ⟨lx18, wx18⟩⟩⟩
end
end FnExactSourcesOf
end Go.Proofs.Ytnffopcjijoclaa.Wm
