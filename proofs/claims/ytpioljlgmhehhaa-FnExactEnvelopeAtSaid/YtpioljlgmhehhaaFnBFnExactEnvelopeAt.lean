/- What the functions behind FnExactEnvelopeAt come to, on plain values (a further part): written by a program. -/
import Derived.Test.YtpioljlgmhehhaaFnFnExactEnvelopeAt
set_option linter.unusedSimpArgs false
set_option linter.unusedVariables false
set_option maxRecDepth 100000
set_option maxHeartbeats 20000000
namespace Go.Proofs.Ytpioljlgmhehhaa.Wm
open Go Go.Proofs
namespace FnExactEnvelopeAt
noncomputable section
attribute [local congr] ite_cong2 run_cg runR_cg plug_cg contV_cg contH_cg contT_cg contF_cg guardR_cg condX_cg evcA_cg evcB_cg evcC_cg evcE_cg evcH_cg levA_cg condJX_cg
def spec_EnvelopeAt_u1 (fu : Nat) (a4 a5 : Int) (a6 a7 : Bool) (a8 a9 : Int) (a10 a11 a12 : Int) (a13 a14 : List Int) (a15 : List (List Int)) (a16 : List Int) (a17 : Bool) (a18 a19 : Int) (a20 a21 a22 : List Int) (a23 a24 : Int) (a25 a26 : Bool) (a27 a28 : Int) (a29 a30 a31 : Int) (a32 a33 : List Int) (a34 : List (List Int)) (a35 : List Int) (a36 : Bool) (a37 a38 : Int) (a39 a40 a41 : List Int) (a42 a43 : Int) (a44 a45 : Bool) (a46 a47 : Int) (a48 a49 a50 : Int) (a51 a52 : List Int) (a53 : List (List Int)) (a54 : List Int) (a55 : Bool) (a56 a57 : Int) (a58 a59 a60 : List Int) (a61 : Int) : Bool :=
  if (spec_l21Told ((SOutcome.mk ((SPlan.mk a4 a5 a6 a7)) ((SFrame.mk a8 a9 a10 a11 a12 a13 a14 a15)) a16 a17 a18 a19 a20 a21 a22))) = true then if (spec_l21Told ((SOutcome.mk ((SPlan.mk a23 a24 a25 a26)) ((SFrame.mk a27 a28 a29 a30 a31 a32 a33 a34)) a35 a36 a37 a38 a39 a40 a41))) = true then if (spec_l21Told ((SOutcome.mk ((SPlan.mk a42 a43 a44 a45)) ((SFrame.mk a46 a47 a48 a49 a50 a51 a52 a53)) a54 a55 a56 a57 a58 a59 a60))) = true then if (spec_l14Number a18) = true then if (a37 != (IntKind.i64.wrap (a18 + 1))) = true then true
          else (a56 != (IntKind.i64.wrap (a37 + 1)))
        else true
      else true
    else true
  else true
def spec_EnvelopeAt (fu : Nat) (p0 : Int) (p1 : List SOutcome) (p2 : Int) : Option (SIntsResult) :=
  if (decide ((p1.length : Int) > 40)) = true then some ((SIntsResult.mk 2 ([])))
  else if ((spec_SizeFault p0) != 0) = true then some ((SIntsResult.mk ((spec_SizeFault p0)) ([])))
    else if (spec_l1In p2 2 ((IntKind.i64.wrap ((p1.length : Int) - 1)))) = true then (getI p1 (IntKind.i64.wrap (p2 - 2))).bind fun x1 =>
        (getI p1 (IntKind.i64.wrap (p2 - 1))).bind fun x2 =>
        (getI p1 p2).bind fun x3 =>
        let y62 := spec_EnvelopeAt_u1 fu x1.Plan.Spread x1.Plan.Paths x1.Plan.IntraA x1.Plan.IntraB x1.Sent.Number x1.Sent.Size x1.Sent.Rung x1.Sent.Mask x1.Sent.Spread x1.Sent.Lows x1.Sent.Gains x1.Sent.Pulses x1.Codes x1.Played x1.Number x1.Source x1.Frame x1.Coefs x1.Bounds x2.Plan.Spread x2.Plan.Paths x2.Plan.IntraA x2.Plan.IntraB x2.Sent.Number x2.Sent.Size x2.Sent.Rung x2.Sent.Mask x2.Sent.Spread x2.Sent.Lows x2.Sent.Gains x2.Sent.Pulses x2.Codes x2.Played x2.Number x2.Source x2.Frame x2.Coefs x2.Bounds x3.Plan.Spread x3.Plan.Paths x3.Plan.IntraA x3.Plan.IntraB x3.Sent.Number x3.Sent.Size x3.Sent.Rung x3.Sent.Mask x3.Sent.Spread x3.Sent.Lows x3.Sent.Gains x3.Sent.Pulses x3.Codes x3.Played x3.Number x3.Source x3.Frame x3.Coefs x3.Bounds p0
        if y62 = true then some ((SIntsResult.mk 4 ([])))
        else (spec_FrameBounds fu p0 x1.Bounds x2.Bounds x3.Bounds).bind fun r63 =>
          some r63
      else some ((SIntsResult.mk 3 ([])))
@[go_sem] theorem spec_EnvelopeAt_u1_ok {β : Type} (fu n : Nat) (K : List (Kont β)) (a4 a5 : Int) (a6 a7 : Bool) (a8 a9 : Int) (a10 a11 a12 : Int) (a13 a14 : List Int) (a15 : List (List Int)) (a16 : List Int) (a17 : Bool) (a18 a19 : Int) (a20 a21 a22 : List Int) (a23 a24 : Int) (a25 a26 : Bool) (a27 a28 : Int) (a29 a30 a31 : Int) (a32 a33 : List Int) (a34 : List (List Int)) (a35 : List Int) (a36 : Bool) (a37 a38 : Int) (a39 a40 a41 : List Int) (a42 a43 : Int) (a44 a45 : Bool) (a46 a47 : Int) (a48 a49 a50 : Int) (a51 a52 : List Int) (a53 : List (List Int)) (a54 : List Int) (a55 : Bool) (a56 a57 : Int) (a58 a59 a60 : List Int) (a61 : Int) : run ⟨(tab fu).own, lev (tab fu) (n + 6), (tab fu).gl⟩ K c7_u1 ⟨[(0, .val (.int .i64 a61)), (6, .pt 200000060 0), (8, .pt 200000080 0), (9, .pt 200000090 0), (10, .pt 200000100 0)], [(200000060, .var false [.val (.int .i64 0), .emp 1]), (200000080, .var false [.val (.int .i64 a4), .val (.int .i64 a5), .val (.bool a6), .val (.bool a7), .val (.int .i64 a8), .val (.int .i64 a9), .val (.int .i64 a10), .val (.int .i64 a11), .val (.int .i64 a12), .val (.sh .lent 1 (rowE (eI .i64) a13)), .val (.sh .lent 1 (rowE (eI .i64) a14)), .val (.sh .lent 1 (rowE (eL .lent 1 (eI .i64)) a15)), .val (.sh .lent 1 (rowE (eI .i64) a16)), .val (.bool a17), .val (.int .i64 a18), .val (.int .i64 a19), .val (.sh .lent 1 (rowE (eI .i64) a20)), .val (.sh .lent 1 (rowE (eI .i64) a21)), .val (.sh .lent 1 (rowE (eI .i64) a22))]), (200000090, .var false [.val (.int .i64 a23), .val (.int .i64 a24), .val (.bool a25), .val (.bool a26), .val (.int .i64 a27), .val (.int .i64 a28), .val (.int .i64 a29), .val (.int .i64 a30), .val (.int .i64 a31), .val (.sh .lent 1 (rowE (eI .i64) a32)), .val (.sh .lent 1 (rowE (eI .i64) a33)), .val (.sh .lent 1 (rowE (eL .lent 1 (eI .i64)) a34)), .val (.sh .lent 1 (rowE (eI .i64) a35)), .val (.bool a36), .val (.int .i64 a37), .val (.int .i64 a38), .val (.sh .lent 1 (rowE (eI .i64) a39)), .val (.sh .lent 1 (rowE (eI .i64) a40)), .val (.sh .lent 1 (rowE (eI .i64) a41))]), (200000100, .var false [.val (.int .i64 a42), .val (.int .i64 a43), .val (.bool a44), .val (.bool a45), .val (.int .i64 a46), .val (.int .i64 a47), .val (.int .i64 a48), .val (.int .i64 a49), .val (.int .i64 a50), .val (.sh .lent 1 (rowE (eI .i64) a51)), .val (.sh .lent 1 (rowE (eI .i64) a52)), .val (.sh .lent 1 (rowE (eL .lent 1 (eI .i64)) a53)), .val (.sh .lent 1 (rowE (eI .i64) a54)), .val (.bool a55), .val (.int .i64 a56), .val (.int .i64 a57), .val (.sh .lent 1 (rowE (eI .i64) a58)), .val (.sh .lent 1 (rowE (eI .i64) a59)), .val (.sh .lent 1 (rowE (eI .i64) a60))])], 83⟩ = (some (spec_EnvelopeAt_u1 fu a4 a5 a6 a7 a8 a9 a10 a11 a12 a13 a14 a15 a16 a17 a18 a19 a20 a21 a22 a23 a24 a25 a26 a27 a28 a29 a30 a31 a32 a33 a34 a35 a36 a37 a38 a39 a40 a41 a42 a43 a44 a45 a46 a47 a48 a49 a50 a51 a52 a53 a54 a55 a56 a57 a58 a59 a60 a61)).bind (fun t => plug ⟨(tab fu).own, lev (tab fu) (n + 6), (tab fu).gl⟩ K .normal ⟨[(0, .val (.int .i64 a61)), (6, .pt 200000060 0), (8, .pt 200000080 0), (9, .pt 200000090 0), (10, .pt 200000100 0), (73, .val (.bool t))], [(200000060, .var false [.val (.int .i64 0), .emp 1]), (200000080, .var false [.val (.int .i64 a4), .val (.int .i64 a5), .val (.bool a6), .val (.bool a7), .val (.int .i64 a8), .val (.int .i64 a9), .val (.int .i64 a10), .val (.int .i64 a11), .val (.int .i64 a12), .val (.sh .lent 1 (rowE (eI .i64) a13)), .val (.sh .lent 1 (rowE (eI .i64) a14)), .val (.sh .lent 1 (rowE (eL .lent 1 (eI .i64)) a15)), .val (.sh .lent 1 (rowE (eI .i64) a16)), .val (.bool a17), .val (.int .i64 a18), .val (.int .i64 a19), .val (.sh .lent 1 (rowE (eI .i64) a20)), .val (.sh .lent 1 (rowE (eI .i64) a21)), .val (.sh .lent 1 (rowE (eI .i64) a22))]), (200000090, .var false [.val (.int .i64 a23), .val (.int .i64 a24), .val (.bool a25), .val (.bool a26), .val (.int .i64 a27), .val (.int .i64 a28), .val (.int .i64 a29), .val (.int .i64 a30), .val (.int .i64 a31), .val (.sh .lent 1 (rowE (eI .i64) a32)), .val (.sh .lent 1 (rowE (eI .i64) a33)), .val (.sh .lent 1 (rowE (eL .lent 1 (eI .i64)) a34)), .val (.sh .lent 1 (rowE (eI .i64) a35)), .val (.bool a36), .val (.int .i64 a37), .val (.int .i64 a38), .val (.sh .lent 1 (rowE (eI .i64) a39)), .val (.sh .lent 1 (rowE (eI .i64) a40)), .val (.sh .lent 1 (rowE (eI .i64) a41))]), (200000100, .var false [.val (.int .i64 a42), .val (.int .i64 a43), .val (.bool a44), .val (.bool a45), .val (.int .i64 a46), .val (.int .i64 a47), .val (.int .i64 a48), .val (.int .i64 a49), .val (.int .i64 a50), .val (.sh .lent 1 (rowE (eI .i64) a51)), .val (.sh .lent 1 (rowE (eI .i64) a52)), .val (.sh .lent 1 (rowE (eL .lent 1 (eI .i64)) a53)), .val (.sh .lent 1 (rowE (eI .i64) a54)), .val (.bool a55), .val (.int .i64 a56), .val (.int .i64 a57), .val (.sh .lent 1 (rowE (eI .i64) a58)), .val (.sh .lent 1 (rowE (eI .i64) a59)), .val (.sh .lent 1 (rowE (eI .i64) a60))])], 83⟩) := by
  unfold c7_u1
  simp +contextual -implicitDefEqProofs (maxSteps := 99999999) only [spec_EnvelopeAt_u1, subI, go_sem] <;> rfl
@[go_sem] theorem spec_EnvelopeAt_ok (fu n : Nat) (q0_0 : Int) (q1_0 : List SOutcome) (q2_0 : Int) : lev (tab fu) (n + 7) 7 [.int .i64 q0_0, .sh .lent 19 (rowE (SOutcome.cells .lent) q1_0), .int .i64 q2_0] = (spec_EnvelopeAt fu q0_0 q1_0 q2_0).map fun r => (.agg [.int .i64 r.Code, .ow 1 (rowE (eI .i64) r.List_)], [.gone, .gone, .gone]) := by
  rw [lev_st (vc := c7) (nt := 83) (rs := [(6, some (some 2))]) ((tab_ext _ _ rfl).trans rfl) rfl (Nat.le_of_ble_eq_true rfl)]
  unfold c7
  simp +contextual -implicitDefEqProofs (maxSteps := 99999999) only [spec_EnvelopeAt, subI, go_sem] <;> rfl
def impl_codeIf (p0 : Bool) (p1 : Int) : Int :=
  if p0 = true then p1
  else 0
@[go_sem] theorem impl_codeIf_ok (fu n : Nat) (q0_0 : Bool) (q1_0 : Int) : lev (tab fu) (n + 1) 40 [.bool q0_0, .int .i64 q1_0] = (some (impl_codeIf q0_0 q1_0)).map fun r => (.int .i64 r, [.gone, .gone]) := by
  rw [lev_st (vc := c40) (nt := 7) (rs := [(4, none)]) ((tab_ext _ _ rfl).trans rfl) rfl (Nat.le_of_ble_eq_true rfl)]
  unfold c40
  simp +contextual -implicitDefEqProofs (maxSteps := 99999999) only [impl_codeIf, subI, go_sem] <;> rfl
def impl_SizeFault_u1 (a1 : Int) : Bool :=
  if (a1 != 4) = true then if (a1 != 8) = true then (a1 != 16)
    else false
  else false
def impl_SizeFault (p0 : Int) : Int :=
  let y2 := impl_SizeFault_u1 p0
  if y2 = true then 3
  else 0
@[go_sem] theorem impl_SizeFault_u1_ok {β : Type} (fu n : Nat) (K : List (Kont β)) (a1 : Int) : run ⟨(tab fu).own, lev (tab fu) n, (tab fu).gl⟩ K c41_u1 ⟨[(0, .val (.int .i64 a1))], [], 13⟩ = (some (impl_SizeFault_u1 a1)).bind (fun t => plug ⟨(tab fu).own, lev (tab fu) n, (tab fu).gl⟩ K .normal ⟨[(12, .val (.bool t))], [], 13⟩) := by
  unfold c41_u1
  simp +contextual -implicitDefEqProofs (maxSteps := 99999999) only [impl_SizeFault_u1, subI, go_sem] <;> rfl
@[go_sem] theorem impl_SizeFault_ok (fu n : Nat) (q0_0 : Int) : lev (tab fu) (n + 1) 41 [.int .i64 q0_0] = (some (impl_SizeFault q0_0)).map fun r => (.int .i64 r, [.gone]) := by
  rw [lev_st (vc := c41) (nt := 13) (rs := [(2, none)]) ((tab_ext _ _ rfl).trans rfl) rfl (Nat.le_of_ble_eq_true rfl)]
  unfold c41
  simp +contextual -implicitDefEqProofs (maxSteps := 99999999) only [impl_SizeFault, subI, go_sem] <;> rfl
def impl_inRange_u1 (a1 a2 a3 : Int) : Bool :=
  if (decide (a2 ≤ a1)) = true then (decide (a1 ≤ a3))
  else false
def impl_inRange (p0 p1 p2 : Int) : Bool :=
  let y4 := impl_inRange_u1 p0 p1 p2
  y4
@[go_sem] theorem impl_inRange_u1_ok {β : Type} (fu n : Nat) (K : List (Kont β)) (a1 a2 a3 : Int) : run ⟨(tab fu).own, lev (tab fu) n, (tab fu).gl⟩ K c79_u1 ⟨[(0, .val (.int .i64 a1)), (1, .val (.int .i64 a2)), (2, .val (.int .i64 a3))], [], 15⟩ = (some (impl_inRange_u1 a1 a2 a3)).bind (fun t => plug ⟨(tab fu).own, lev (tab fu) n, (tab fu).gl⟩ K .normal ⟨[(6, .val (.bool t))], [], 15⟩) := by
  unfold c79_u1
  simp +contextual -implicitDefEqProofs (maxSteps := 99999999) only [impl_inRange_u1, subI, go_sem] <;> rfl
@[go_sem] theorem impl_inRange_ok (fu n : Nat) (q0_0 q1_0 q2_0 : Int) : lev (tab fu) (n + 1) 79 [.int .i64 q0_0, .int .i64 q1_0, .int .i64 q2_0] = (some (impl_inRange q0_0 q1_0 q2_0)).map fun r => (.bool r, [.gone, .gone, .gone]) := by
  rw [lev_st (vc := c79) (nt := 15) (rs := [(6, none)]) ((tab_ext _ _ rfl).trans rfl) rfl (Nat.le_of_ble_eq_true rfl)]
  unfold c79
  simp +contextual -implicitDefEqProofs (maxSteps := 99999999) only [impl_inRange, subI, go_sem] <;> rfl
def impl_isIndex (p0 p1 : Int) : Bool :=
  (impl_inRange p0 0 ((IntKind.i64.wrap (p1 - 1))))
@[go_sem] theorem impl_isIndex_ok (fu n : Nat) (q0_0 q1_0 : Int) : lev (tab fu) (n + 2) 42 [.int .i64 q0_0, .int .i64 q1_0] = (some (impl_isIndex q0_0 q1_0)).map fun r => (.bool r, [.gone, .gone]) := by
  rw [lev_st (vc := c42) (nt := 9) (rs := [(4, none)]) ((tab_ext _ _ rfl).trans rfl) rfl (Nat.le_of_ble_eq_true rfl)]
  unfold c42
  simp +contextual -implicitDefEqProofs (maxSteps := 99999999) only [impl_isIndex, subI, go_sem] <;> rfl
def impl_first_s1 (a5 : List Int) (a6 : Int) : Int → Option ((Int) ⊕ (Unit ⊕ Int)) := fun a7 =>
  if (decide (a7 < a6)) = true then (getI a5 a7).bind fun x8 =>
    if (x8 != 0) = true then some ((.inr ((.inr x8))))
    else some ((.inl ((IntKind.i64.wrap (a7 + 1)))))
  else some ((.inr ((.inl (())))))
def impl_first (p0 : List Int) : Option (Int) :=
  (loopO (impl_first_s1 p0 ((p0.length : Int))) 0).bind fun t => (Sum.elim (fun y9 => some 0)
   (fun y10 => some y10)) t
@[go_sem] theorem impl_first_s1_ok {β : Type} (fu n : Nat) (K : List (Kont β)) (a5 : List Int) (a6 a7 : Int) : run ⟨(tab fu).own, lev (tab fu) n, (tab fu).gl⟩ K (.loop c39_u1) ⟨[(5, .val (.sh .lent 1 (rowE (eI .i64) a5))), (6, .val (.int .i64 a6)), (7, .val (.int .i64 a7))], [], 15⟩ = (loopO (impl_first_s1 a5 a6) a7).bind (fun t => (Sum.elim (fun t => plug ⟨(tab fu).own, lev (tab fu) n, (tab fu).gl⟩ K (.exit 0) ⟨[], [], 15⟩) (fun t => plug ⟨(tab fu).own, lev (tab fu) n, (tab fu).gl⟩ K .ret ⟨[(2, .val (.int .i64 t))], [], 15⟩)) t) := by
  refine loop_run (C := ⟨(tab fu).own, lev (tab fu) n, (tab fu).gl⟩) (K := K) (c := c39_u1) (impl_first_s1 a5 a6) (fun s => ⟨[(5, .val (.sh .lent 1 (rowE (eI .i64) a5))), (6, .val (.int .i64 a6)), (7, .val (.int .i64 s))], [], 15⟩) (fun t => (Sum.elim (fun t => plug ⟨(tab fu).own, lev (tab fu) n, (tab fu).gl⟩ K (.exit 0) ⟨[], [], 15⟩) (fun t => plug ⟨(tab fu).own, lev (tab fu) n, (tab fu).gl⟩ K .ret ⟨[(2, .val (.int .i64 t))], [], 15⟩)) t) (fun k s => ?_) a7
  unfold c39_u1
  simp +contextual -implicitDefEqProofs (maxSteps := 99999999) only [impl_first_s1, subI, go_sem] <;> rfl
@[go_sem] theorem impl_first_ok (fu n : Nat) (q0_0 : List Int) : lev (tab fu) (n + 1) 39 [.sh .lent 1 (rowE (eI .i64) q0_0)] = (impl_first q0_0).map fun r => (.int .i64 r, [.gone]) := by
  rw [lev_st (vc := c39) (nt := 15) (rs := [(2, none)]) ((tab_ext _ _ rfl).trans rfl) rfl (Nat.le_of_ble_eq_true rfl)]
  unfold c39
  simp +contextual -implicitDefEqProofs (maxSteps := 99999999) only [impl_first, subI, go_sem] <;> rfl
def impl_isDecoded_u1 (a1 a2 : Int) (a3 a4 : Bool) (a5 a6 : Int) (a7 a8 a9 : Int) (a10 a11 : List Int) (a12 : List (List Int)) (a13 : List Int) (a14 : Bool) (a15 a16 : Int) (a17 a18 a19 : List Int) : Bool :=
  if a14 = true then (a16 != 0)
  else false
def impl_isDecoded (p0 : SOutcome) : Bool :=
  let y20 := impl_isDecoded_u1 p0.Plan.Spread p0.Plan.Paths p0.Plan.IntraA p0.Plan.IntraB p0.Sent.Number p0.Sent.Size p0.Sent.Rung p0.Sent.Mask p0.Sent.Spread p0.Sent.Lows p0.Sent.Gains p0.Sent.Pulses p0.Codes p0.Played p0.Number p0.Source p0.Frame p0.Coefs p0.Bounds
  y20
@[go_sem] theorem impl_isDecoded_u1_ok {β : Type} (fu n : Nat) (K : List (Kont β)) (a1 a2 : Int) (a3 a4 : Bool) (a5 a6 : Int) (a7 a8 a9 : Int) (a10 a11 : List Int) (a12 : List (List Int)) (a13 : List Int) (a14 : Bool) (a15 a16 : Int) (a17 a18 a19 : List Int) : run ⟨(tab fu).own, lev (tab fu) n, (tab fu).gl⟩ K c43_u1 ⟨[(1, .pt 200000010 0)], [(200000010, .var false [.val (.int .i64 a1), .val (.int .i64 a2), .val (.bool a3), .val (.bool a4), .val (.int .i64 a5), .val (.int .i64 a6), .val (.int .i64 a7), .val (.int .i64 a8), .val (.int .i64 a9), .val (.sh .lent 1 (rowE (eI .i64) a10)), .val (.sh .lent 1 (rowE (eI .i64) a11)), .val (.sh .lent 1 (rowE (eL .lent 1 (eI .i64)) a12)), .val (.sh .lent 1 (rowE (eI .i64) a13)), .val (.bool a14), .val (.int .i64 a15), .val (.int .i64 a16), .val (.sh .lent 1 (rowE (eI .i64) a17)), .val (.sh .lent 1 (rowE (eI .i64) a18)), .val (.sh .lent 1 (rowE (eI .i64) a19))])], 10⟩ = (some (impl_isDecoded_u1 a1 a2 a3 a4 a5 a6 a7 a8 a9 a10 a11 a12 a13 a14 a15 a16 a17 a18 a19)).bind (fun t => plug ⟨(tab fu).own, lev (tab fu) n, (tab fu).gl⟩ K .normal ⟨[(2, .val (.bool t))], [], 10⟩) := by
  unfold c43_u1
  simp +contextual -implicitDefEqProofs (maxSteps := 99999999) only [impl_isDecoded_u1, subI, go_sem] <;> rfl
@[go_sem] theorem impl_isDecoded_ok (fu n : Nat) (q0_0 q0_1 : Int) (q0_2 q0_3 : Bool) (q0_4 q0_5 : Int) (q0_6 q0_7 q0_8 : Int) (q0_9 q0_10 : List Int) (q0_11 : List (List Int)) (q0_12 : List Int) (q0_13 : Bool) (q0_14 q0_15 : Int) (q0_16 q0_17 q0_18 : List Int) : lev (tab fu) (n + 1) 43 [.agg [.int .i64 q0_0, .int .i64 q0_1, .bool q0_2, .bool q0_3, .int .i64 q0_4, .int .i64 q0_5, .int .i64 q0_6, .int .i64 q0_7, .int .i64 q0_8, .sh .lent 1 (rowE (eI .i64) q0_9), .sh .lent 1 (rowE (eI .i64) q0_10), .sh .lent 1 (rowE (eL .lent 1 (eI .i64)) q0_11), .sh .lent 1 (rowE (eI .i64) q0_12), .bool q0_13, .int .i64 q0_14, .int .i64 q0_15, .sh .lent 1 (rowE (eI .i64) q0_16), .sh .lent 1 (rowE (eI .i64) q0_17), .sh .lent 1 (rowE (eI .i64) q0_18)]] = (some (impl_isDecoded (SOutcome.mk (SPlan.mk q0_0 q0_1 q0_2 q0_3) (SFrame.mk q0_4 q0_5 q0_6 q0_7 q0_8 q0_9 q0_10 q0_11) q0_12 q0_13 q0_14 q0_15 q0_16 q0_17 q0_18))).map fun r => (.bool r, [.gone]) := by
  rw [lev_st (vc := c43) (nt := 10) (rs := [(2, none)]) ((tab_ext _ _ rfl).trans rfl) rfl (Nat.le_of_ble_eq_true rfl)]
  unfold c43
  simp +contextual -implicitDefEqProofs (maxSteps := 99999999) only [impl_isDecoded, subI, go_sem] <;> rfl
def impl_isNumber (p0 : Int) : Bool :=
  (impl_inRange p0 0 9999)
@[go_sem] theorem impl_isNumber_ok (fu n : Nat) (q0_0 : Int) : lev (tab fu) (n + 2) 44 [.int .i64 q0_0] = (some (impl_isNumber q0_0)).map fun r => (.bool r, [.gone]) := by
  rw [lev_st (vc := c44) (nt := 5) (rs := [(2, none)]) ((tab_ext _ _ rfl).trans rfl) rfl (Nat.le_of_ble_eq_true rfl)]
  unfold c44
  simp +contextual -implicitDefEqProofs (maxSteps := 99999999) only [impl_isNumber, subI, go_sem] <;> rfl
def impl_FrameBounds_1 (p0 : List Int) (p1_0 : Int) : Bool :=
  ((p0.length : Int) != p1_0)
@[go_sem] theorem impl_FrameBounds_1_ok (fu n : Nat) (q0_0 : List Int) (p1_0 : Int) : lev (tab fu) (n + 1) 80 [.sh .lent 1 (rowE (eI .i64) q0_0), .ptr [.int .i64 p1_0]] = (some (impl_FrameBounds_1 q0_0 p1_0)).map fun r => (.bool r, [.gone, .gone]) := by
  rw [lev_st (vc := c80) (nt := 8) (rs := [(3, none)]) ((tab_ext _ _ rfl).trans rfl) rfl (Nat.le_of_ble_eq_true rfl)]
  unfold c80
  simp +contextual -implicitDefEqProofs (maxSteps := 99999999) only [impl_FrameBounds_1, subI, go_sem] <;> rfl
def impl_boundsFault_1 (p0 : Int) : Bool :=
  (!(impl_inRange p0 0 67108864))
@[go_sem] theorem impl_boundsFault_1_ok (fu n : Nat) (q0_0 : Int) : lev (tab fu) (n + 2) 123 [.int .i64 q0_0] = (some (impl_boundsFault_1 q0_0)).map fun r => (.bool r, [.gone]) := by
  rw [lev_st (vc := c123) (nt := 6) (rs := [(2, none)]) ((tab_ext _ _ rfl).trans rfl) rfl (Nat.le_of_ble_eq_true rfl)]
  unfold c123
  simp +contextual -implicitDefEqProofs (maxSteps := 99999999) only [impl_boundsFault_1, subI, go_sem] <;> rfl
def slices_IndexFunc_int64_impl_boundsFault_1_s1 (a5 : List Int) (a6 : Int) : Int → Option ((Int) ⊕ (Unit ⊕ Int)) := fun a7 =>
  if (decide (a7 < a6)) = true then (getI a5 a7).bind fun x8 =>
    if (impl_boundsFault_1 x8) = true then some ((.inr ((.inr a7))))
    else some ((.inl ((IntKind.i64.wrap (a7 + 1)))))
  else some ((.inr ((.inl (())))))
def slices_IndexFunc_int64_impl_boundsFault_1 (p0 : List Int) : Option (Int) :=
  (loopO (slices_IndexFunc_int64_impl_boundsFault_1_s1 p0 ((p0.length : Int))) 0).bind fun t => (Sum.elim (fun y9 => some ((-1)))
   (fun y10 => some y10)) t
@[go_sem] theorem slices_IndexFunc_int64_impl_boundsFault_1_s1_ok {β : Type} (fu n : Nat) (K : List (Kont β)) (a5 : List Int) (a6 a7 : Int) : run ⟨(tab fu).own, lev (tab fu) (n + 2), (tab fu).gl⟩ K (.loop c149_u1) ⟨[(0, .val (.sh .lent 1 (rowE (eI .i64) a5))), (1, .val (.fn 123 [])), (7, .val (.int .i64 a6)), (8, .val (.int .i64 a7))], [], 19⟩ = (loopO (slices_IndexFunc_int64_impl_boundsFault_1_s1 a5 a6) a7).bind (fun t => (Sum.elim (fun t => plug ⟨(tab fu).own, lev (tab fu) (n + 2), (tab fu).gl⟩ K (.exit 0) ⟨[], [], 19⟩) (fun t => plug ⟨(tab fu).own, lev (tab fu) (n + 2), (tab fu).gl⟩ K .ret ⟨[(4, .val (.int .i64 t))], [], 19⟩)) t) := by
  refine loop_run (C := ⟨(tab fu).own, lev (tab fu) (n + 2), (tab fu).gl⟩) (K := K) (c := c149_u1) (slices_IndexFunc_int64_impl_boundsFault_1_s1 a5 a6) (fun s => ⟨[(0, .val (.sh .lent 1 (rowE (eI .i64) a5))), (1, .val (.fn 123 [])), (7, .val (.int .i64 a6)), (8, .val (.int .i64 s))], [], 19⟩) (fun t => (Sum.elim (fun t => plug ⟨(tab fu).own, lev (tab fu) (n + 2), (tab fu).gl⟩ K (.exit 0) ⟨[], [], 19⟩) (fun t => plug ⟨(tab fu).own, lev (tab fu) (n + 2), (tab fu).gl⟩ K .ret ⟨[(4, .val (.int .i64 t))], [], 19⟩)) t) (fun k s => ?_) a7
  unfold c149_u1
  simp +contextual -implicitDefEqProofs (maxSteps := 99999999) only [slices_IndexFunc_int64_impl_boundsFault_1_s1, subI, go_sem] <;> rfl
@[go_sem] theorem slices_IndexFunc_int64_impl_boundsFault_1_ok (fu n : Nat) (q0_0 : List Int) : lev (tab fu) (n + 3) 149 [.sh .lent 1 (rowE (eI .i64) q0_0), .fn 123 []] = (slices_IndexFunc_int64_impl_boundsFault_1 q0_0).map fun r => (.int .i64 r, [.gone, .gone]) := by
  rw [lev_st (vc := c149) (nt := 19) (rs := [(4, none)]) ((tab_ext _ _ rfl).trans rfl) rfl (Nat.le_of_ble_eq_true rfl)]
  unfold c149
  simp +contextual -implicitDefEqProofs (maxSteps := 99999999) only [slices_IndexFunc_int64_impl_boundsFault_1, subI, go_sem] <;> rfl
def slices_ContainsFunc_int64_impl_boundsFault_1 (p0 : List Int) : Option (Bool) :=
  (slices_IndexFunc_int64_impl_boundsFault_1 p0).bind fun r1 =>
  some ((decide (r1 ≥ 0)))
@[go_sem] theorem slices_ContainsFunc_int64_impl_boundsFault_1_ok (fu n : Nat) (q0_0 : List Int) : lev (tab fu) (n + 4) 122 [.sh .lent 1 (rowE (eI .i64) q0_0), .fn 123 []] = (slices_ContainsFunc_int64_impl_boundsFault_1 q0_0).map fun r => (.bool r, [.gone, .gone]) := by
  rw [lev_st (vc := c122) (nt := 9) (rs := [(4, none)]) ((tab_ext _ _ rfl).trans rfl) rfl (Nat.le_of_ble_eq_true rfl)]
  unfold c122
  simp +contextual -implicitDefEqProofs (maxSteps := 99999999) only [slices_ContainsFunc_int64_impl_boundsFault_1, subI, go_sem] <;> rfl
def impl_isBlock (p0 : List Int) : Bool :=
  ((impl_SizeFault ((p0.length : Int))) == 0)
@[go_sem] theorem impl_isBlock_ok (fu n : Nat) (q0_0 : List Int) : lev (tab fu) (n + 2) 124 [.sh .lent 1 (rowE (eI .i64) q0_0)] = (some (impl_isBlock q0_0)).map fun r => (.bool r, [.gone]) := by
  rw [lev_st (vc := c124) (nt := 7) (rs := [(2, none)]) ((tab_ext _ _ rfl).trans rfl) rfl (Nat.le_of_ble_eq_true rfl)]
  unfold c124
  simp +contextual -implicitDefEqProofs (maxSteps := 99999999) only [impl_isBlock, subI, go_sem] <;> rfl
def impl_boundsFault (p0 : List Int) : Option (Int) :=
  (slices_ContainsFunc_int64_impl_boundsFault_1 p0).bind fun r1 =>
  (impl_first ([(impl_codeIf ((!(impl_isBlock p0))) 2), (impl_codeIf r1 3)])).bind fun r2 =>
  some r2
@[go_sem] theorem impl_boundsFault_ok (fu n : Nat) (q0_0 : List Int) : lev (tab fu) (n + 5) 81 [.sh .lent 1 (rowE (eI .i64) q0_0)] = (impl_boundsFault q0_0).map fun r => (.int .i64 r, [.gone]) := by
  rw [lev_st (vc := c81) (nt := 14) (rs := [(2, none)]) ((tab_ext _ _ rfl).trans rfl) rfl (Nat.le_of_ble_eq_true rfl)]
  unfold c81
  simp +contextual -implicitDefEqProofs (maxSteps := 99999999) only [impl_boundsFault, subI, go_sem] <;> rfl
def impl_ofBounds : Sundo :=
  Sundo.mk
@[go_sem] theorem impl_ofBounds_ok (fu n : Nat) : lev (tab fu) (n + 1) 82 [] = (some (impl_ofBounds)).map fun r => (.agg [.fn 125 [], .fn 128 []], []) := by
  rw [lev_st (vc := c82) (nt := 2) (rs := [(0, some (some 2))]) ((tab_ext _ _ rfl).trans rfl) rfl (Nat.le_of_ble_eq_true rfl)]
  unfold c82
  simp +contextual -implicitDefEqProofs (maxSteps := 99999999) only [impl_ofBounds, subI, go_sem] <;> rfl
def impl_turnOf_u1 (a1 : Int) : Option (Int × Int) :=
  if (a1 == 0) = true then some ((101, 200))
  else if (a1 == 1) = true then some ((311, 569))
    else none
def impl_turnOf_u2 (a3 : Int) : Option (Int × Int) :=
  if (a3 == 0) = true then some ((50, 100))
  else if (a3 == 1) = true then some ((152, 297))
    else if (a3 == 2) = true then some ((257, 483))
      else if (a3 == 3) = true then some ((366, 650))
        else none
def impl_turnOf_u3 (a5 : Int) : Option (Int × Int) :=
  if (a5 == 0) = true then some ((25, 50))
  else if (a5 == 1) = true then some ((76, 150))
    else if (a5 == 2) = true then some ((126, 249))
      else if (a5 == 3) = true then some ((178, 345))
        else if (a5 == 4) = true then some ((230, 438))
          else if (a5 == 5) = true then some ((283, 526))
            else if (a5 == 6) = true then some ((338, 610))
              else if (a5 == 7) = true then some ((395, 688))
                else none
def impl_turnOf (p0 p1 : Int) : Option (Sturn) :=
  if (p0 == 4) = true then (impl_turnOf_u1 p1).bind fun y2 =>
    some ((Sturn.mk y2.1 y2.2))
  else if (p0 == 8) = true then (impl_turnOf_u2 p1).bind fun y4 =>
      some ((Sturn.mk y4.1 y4.2))
    else (impl_turnOf_u3 p1).bind fun y6 =>
      some ((Sturn.mk y6.1 y6.2))
@[go_sem] theorem impl_turnOf_u1_ok {β : Type} (fu n : Nat) (K : List (Kont β)) (a1 : Int) : run ⟨(tab fu).own, lev (tab fu) n, (tab fu).gl⟩ K c126_u1 ⟨[(1, .val (.int .i64 a1)), (4, .pt 200000040 0)], [(200000040, .var false [.val (.int .i64 0), .val (.int .i64 0)])], 33⟩ = (impl_turnOf_u1 a1).bind (fun t => plug ⟨(tab fu).own, lev (tab fu) n, (tab fu).gl⟩ K .normal ⟨[(4, .pt 200000040 0)], [(200000040, .var false [.val (.int .i64 t.1), .val (.int .i64 t.2)])], 33⟩) := by
  unfold c126_u1
  simp +contextual -implicitDefEqProofs (maxSteps := 99999999) only [impl_turnOf_u1, subI, go_sem] <;> rfl
@[go_sem] theorem impl_turnOf_u2_ok {β : Type} (fu n : Nat) (K : List (Kont β)) (a3 : Int) : run ⟨(tab fu).own, lev (tab fu) n, (tab fu).gl⟩ K c126_u2 ⟨[(1, .val (.int .i64 a3)), (4, .pt 200000040 0)], [(200000040, .var false [.val (.int .i64 0), .val (.int .i64 0)])], 33⟩ = (impl_turnOf_u2 a3).bind (fun t => plug ⟨(tab fu).own, lev (tab fu) n, (tab fu).gl⟩ K .normal ⟨[(4, .pt 200000040 0)], [(200000040, .var false [.val (.int .i64 t.1), .val (.int .i64 t.2)])], 33⟩) := by
  unfold c126_u2
  simp +contextual -implicitDefEqProofs (maxSteps := 99999999) only [impl_turnOf_u2, subI, go_sem] <;> rfl
@[go_sem] theorem impl_turnOf_u3_ok {β : Type} (fu n : Nat) (K : List (Kont β)) (a5 : Int) : run ⟨(tab fu).own, lev (tab fu) n, (tab fu).gl⟩ K c126_u3 ⟨[(1, .val (.int .i64 a5)), (4, .pt 200000040 0)], [(200000040, .var false [.val (.int .i64 0), .val (.int .i64 0)])], 33⟩ = (impl_turnOf_u3 a5).bind (fun t => plug ⟨(tab fu).own, lev (tab fu) n, (tab fu).gl⟩ K .normal ⟨[(4, .pt 200000040 0)], [(200000040, .var false [.val (.int .i64 t.1), .val (.int .i64 t.2)])], 33⟩) := by
  unfold c126_u3
  simp +contextual -implicitDefEqProofs (maxSteps := 99999999) only [impl_turnOf_u3, subI, go_sem] <;> rfl
@[go_sem] theorem impl_turnOf_ok (fu n : Nat) (q0_0 q1_0 : Int) : lev (tab fu) (n + 1) 126 [.int .i64 q0_0, .int .i64 q1_0] = (impl_turnOf q0_0 q1_0).map fun r => (.agg [.int .i64 r.p, .int .i64 r.u], [.gone, .gone]) := by
  rw [lev_st (vc := c126) (nt := 33) (rs := [(4, some (some 2))]) ((tab_ext _ _ rfl).trans rfl) rfl (Nat.le_of_ble_eq_true rfl)]
  unfold c126
  simp +contextual -implicitDefEqProofs (maxSteps := 99999999) only [impl_turnOf, subI, go_sem] <;> rfl
def impl_floorDiv_u1 (a1 : Int) (a2 : Bool) : Int :=
  if a2 = true then (IntKind.i64.wrap (a1 - 1))
  else a1
def impl_floorDiv (p0 p1 : Int) : Option (Int) :=
  if p1 = 0 then none
  else if p1 = 0 then none
    else let y3 := impl_floorDiv_u1 ((IntKind.i64.wrap (p0.tdiv p1))) ((decide ((p0.tmod p1) < 0)))
      some y3
@[go_sem] theorem impl_floorDiv_u1_ok {β : Type} (fu n : Nat) (K : List (Kont β)) (a1 : Int) (a2 : Bool) : run ⟨(tab fu).own, lev (tab fu) n, (tab fu).gl⟩ K c162_u1 ⟨[(5, .val (.int .i64 a1)), (12, .val (.bool a2))], [], 16⟩ = (some (impl_floorDiv_u1 a1 a2)).bind (fun t => plug ⟨(tab fu).own, lev (tab fu) n, (tab fu).gl⟩ K .normal ⟨[(5, .val (.int .i64 t))], [], 16⟩) := by
  unfold c162_u1
  simp +contextual -implicitDefEqProofs (maxSteps := 99999999) only [impl_floorDiv_u1, subI, go_sem] <;> rfl
@[go_sem] theorem impl_floorDiv_ok (fu n : Nat) (q0_0 q1_0 : Int) : lev (tab fu) (n + 1) 162 [.int .i64 q0_0, .int .i64 q1_0] = (impl_floorDiv q0_0 q1_0).map fun r => (.int .i64 r, [.gone, .gone]) := by
  rw [lev_st (vc := c162) (nt := 16) (rs := [(4, none)]) ((tab_ext _ _ rfl).trans rfl) rfl (Nat.le_of_ble_eq_true rfl)]
  unfold c162
  simp +contextual -implicitDefEqProofs (maxSteps := 99999999) only [impl_floorDiv, subI, go_sem] <;> rfl
def impl_ceilDiv (p0 p1 : Int) : Option (Int) :=
  (impl_floorDiv ((IntKind.i64.wrap (0 - p0))) p1).bind fun r1 =>
  some ((IntKind.i64.wrap (0 - r1)))
@[go_sem] theorem impl_ceilDiv_ok (fu n : Nat) (q0_0 q1_0 : Int) : lev (tab fu) (n + 2) 151 [.int .i64 q0_0, .int .i64 q1_0] = (impl_ceilDiv q0_0 q1_0).map fun r => (.int .i64 r, [.gone, .gone]) := by
  rw [lev_st (vc := c151) (nt := 10) (rs := [(4, none)]) ((tab_ext _ _ rfl).trans rfl) rfl (Nat.le_of_ble_eq_true rfl)]
  unfold c151
  simp +contextual -implicitDefEqProofs (maxSteps := 99999999) only [impl_ceilDiv, subI, go_sem] <;> rfl
def impl_share (p0 p1 : Int) : Option (Int) :=
  (impl_ceilDiv ((IntKind.i64.wrap (p0 * p1))) 1024).bind fun r1 =>
  some r1
@[go_sem] theorem impl_share_ok (fu n : Nat) (q0_0 q1_0 : Int) : lev (tab fu) (n + 3) 150 [.int .i64 q0_0, .int .i64 q1_0] = (impl_share q0_0 q1_0).map fun r => (.int .i64 r, [.gone, .gone]) := by
  rw [lev_st (vc := c150) (nt := 9) (rs := [(4, none)]) ((tab_ext _ _ rfl).trans rfl) rfl (Nat.le_of_ble_eq_true rfl)]
  unfold c150
  simp +contextual -implicitDefEqProofs (maxSteps := 99999999) only [impl_share, subI, go_sem] <;> rfl
def impl_turn_bounds (p0 : Sturn) (p1 p2 : Int) : Option (Int × Int) :=
  (impl_share p0.p p2).bind fun r1 =>
  (impl_share p0.u ((IntKind.i64.wrap (p1 + r1)))).bind fun r2 =>
  (impl_share p0.p ((IntKind.i64.wrap (p2 + r2)))).bind fun r3 =>
  some (((IntKind.i64.wrap ((IntKind.i64.wrap (p1 + r1)) + r3)), (IntKind.i64.wrap (p2 + r2))))
@[go_sem] theorem impl_turn_bounds_ok (fu n : Nat) (q0_0 q0_1 : Int) (q1_0 q2_0 : Int) : lev (tab fu) (n + 4) 127 [.agg [.int .i64 q0_0, .int .i64 q0_1], .int .i64 q1_0, .int .i64 q2_0] = (impl_turn_bounds (Sturn.mk q0_0 q0_1) q1_0 q2_0).map fun r => (.tup [.int .i64 r.1, .int .i64 r.2], [.gone, .gone, .gone]) := by
  rw [lev_st (vc := c127) (nt := 28) (rs := [(6, none), (7, none)]) ((tab_ext _ _ rfl).trans rfl) rfl (Nat.le_of_ble_eq_true rfl)]
  unfold c127
  simp +contextual -implicitDefEqProofs (maxSteps := 99999999) only [impl_turn_bounds, subI, go_sem] <;> rfl
def impl_ofBounds_1 (p0 p1 : Int) (p2 p3 : Int) : Option (Int × Int) :=
  (impl_turnOf p0 p1).bind fun r1 =>
  (impl_turn_bounds r1 p2 p3).bind fun r2 =>
  some ((r2.1, r2.2))
@[go_sem] theorem impl_ofBounds_1_ok (fu n : Nat) (q0_0 q1_0 : Int) (q2_0 q3_0 : Int) : lev (tab fu) (n + 5) 125 [.int .i64 q0_0, .int .i64 q1_0, .int .i64 q2_0, .int .i64 q3_0] = (impl_ofBounds_1 q0_0 q1_0 q2_0 q3_0).map fun r => (.tup [.int .i64 r.1, .int .i64 r.2], [.gone, .gone, .gone, .gone]) := by
  rw [lev_st (vc := c125) (nt := 18) (rs := [(8, none), (9, none)]) ((tab_ext _ _ rfl).trans rfl) rfl (Nat.le_of_ble_eq_true rfl)]
  unfold c125
  simp +contextual -implicitDefEqProofs (maxSteps := 99999999) only [impl_ofBounds_1, subI, go_sem] <;> rfl
def impl_partBounds (p0 p1 : Int) : Option (Int × Int) :=
  (impl_ceilDiv p1 2).bind fun r1 =>
  some (((IntKind.i64.wrap (p0 + r1)), (IntKind.i64.wrap (p0 + r1))))
@[go_sem] theorem impl_partBounds_ok (fu n : Nat) (q0_0 q1_0 : Int) : lev (tab fu) (n + 3) 128 [.int .i64 q0_0, .int .i64 q1_0] = (impl_partBounds q0_0 q1_0).map fun r => (.tup [.int .i64 r.1, .int .i64 r.2], [.gone, .gone]) := by
  rw [lev_st (vc := c128) (nt := 13) (rs := [(4, none), (5, none)]) ((tab_ext _ _ rfl).trans rfl) rfl (Nat.le_of_ble_eq_true rfl)]
  unfold c128
  simp +contextual -implicitDefEqProofs (maxSteps := 99999999) only [impl_partBounds, subI, go_sem] <;> rfl
def impl_undo_unite_ofBounds_s1 (a12 a14 : List Int) (a15 a16 : Int) : ((List Int) × Int) → Option (((List Int) × Int) ⊕ ((List Int))) := fun ⟨a13, a17⟩ =>
  if (decide (a17 < a16)) = true then (getI a13 a17).bind fun _ =>
    (a13[a17.toNat]?).bind fun x18 =>
    (getI a13 (IntKind.i64.wrap ((IntKind.i64.wrap ((IntKind.i64.wrap (a15.tdiv (2 : Int))) - 1)) - a17))).bind fun _ =>
    (a13[((IntKind.i64.wrap ((IntKind.i64.wrap ((IntKind.i64.wrap (a15.tdiv (2 : Int))) - 1)) - a17))).toNat]?).bind fun x19 =>
    (impl_ofBounds_1 a15 a17 x18 x19).bind fun r20 =>
    (getI a13 a17).bind fun _ =>
    (a13[a17.toNat]?).bind fun _ =>
    (getI ((a13.set a17.toNat r20.1)) (IntKind.i64.wrap ((IntKind.i64.wrap ((IntKind.i64.wrap (a15.tdiv (2 : Int))) - 1)) - a17))).bind fun _ =>
    (((a13.set a17.toNat r20.1))[((IntKind.i64.wrap ((IntKind.i64.wrap ((IntKind.i64.wrap (a15.tdiv (2 : Int))) - 1)) - a17))).toNat]?).bind fun _ =>
    some ((.inl (((((a13.set a17.toNat r20.1)).set (((IntKind.i64.wrap ((IntKind.i64.wrap ((IntKind.i64.wrap (a15.tdiv (2 : Int))) - 1)) - a17))).toNat) r20.2), (IntKind.i64.wrap (a17 + 1))))))
  else some ((.inr a13))
def impl_undo_unite_ofBounds_s2 (a36 a37 : List Int) (a38 a39 : Int) : ((List Int) × Int) → Option (((List Int) × Int) ⊕ ((List Int))) := fun ⟨a35, a40⟩ =>
  if (decide (a40 < a39)) = true then (getI a37 a40).bind fun x41 =>
    (getI a36 a40).bind fun _ =>
    (a36[a40.toNat]?).bind fun x42 =>
    (impl_partBounds x41 x42).bind fun r43 =>
    (getI a35 a40).bind fun _ =>
    (a35[a40.toNat]?).bind fun _ =>
    (getI ((a35.set a40.toNat r43.1)) (IntKind.i64.wrap ((IntKind.i64.wrap (a38 - 1)) - a40))).bind fun _ =>
    (((a35.set a40.toNat r43.1))[((IntKind.i64.wrap ((IntKind.i64.wrap (a38 - 1)) - a40))).toNat]?).bind fun _ =>
    some ((.inl (((((a35.set a40.toNat r43.1)).set (((IntKind.i64.wrap ((IntKind.i64.wrap (a38 - 1)) - a40))).toNat) r43.2), (IntKind.i64.wrap (a40 + 1))))))
  else some ((.inr a35))
def impl_undo_unite_ofBounds (p0 : Sundo) (p1 p2 : List Int) : Option ((List Int) × (List Int)) :=
  if (okMake 8 ((IntKind.i64.wrap (2 * (p1.length : Int))))) = true then (loopO (impl_undo_unite_ofBounds_s1 ((List.replicate ((IntKind.i64.wrap (2 * (p1.length : Int)))).toNat ((0 : Int)))) p1 ((IntKind.i64.wrap (2 * (p1.length : Int)))) ((IntKind.i64.wrap (((IntKind.i64.wrap (2 * (p1.length : Int)))).tdiv (4 : Int))))) ((p2, 0))).bind fun y23 =>
    (loopO (impl_undo_unite_ofBounds_s2 y23 p1 (((IntKind.i64.wrap (2 * (p1.length : Int))))) ((p1.length : Int))) ((((List.replicate ((IntKind.i64.wrap (2 * (p1.length : Int)))).toNat ((0 : Int)))), 0))).bind fun y46 =>
    some ((y46, y23))
  else none
@[go_sem] theorem impl_undo_unite_ofBounds_s1_ok {β : Type} (fu n : Nat) (K : List (Kont β)) (a12 a13 a14 : List Int) (a15 a16 a17 : Int) : run ⟨(tab fu).own, lev (tab fu) (n + 5), (tab fu).gl⟩ K (.loop c129_u1) ⟨[(1, .val (.sh .lent 1 (rowE (eI .i64) a14))), (2, .sl 1000002000 0 a13.length), (3, .pt 200000030 0), (7, .val (.int .i64 a15)), (8, .sl 200000080 0 a12.length), (18, .val (.int .i64 a16)), (19, .val (.int .i64 a17))], [(200000030, .var false [.val (.fn 125 []), .val (.fn 128 [])]), (200000080, .row false 1 (rowE (eI .i64) a12)), (1000002000, .row true 1 (rowE (eI .i64) a13))], 80⟩ = (loopO (impl_undo_unite_ofBounds_s1 a12 a14 a15 a16) ((a13, a17))).bind (fun t => plug ⟨(tab fu).own, lev (tab fu) (n + 5), (tab fu).gl⟩ K (.exit 0) ⟨[(1, .val (.sh .lent 1 (rowE (eI .i64) a14))), (2, .sl 1000002000 0 t.length), (3, .pt 200000030 0), (7, .val (.int .i64 a15)), (8, .sl 200000080 0 a12.length)], [(200000030, .var false [.val (.fn 125 []), .val (.fn 128 [])]), (200000080, .row false 1 (rowE (eI .i64) a12)), (1000002000, .row true 1 (rowE (eI .i64) t))], 80⟩) := by
  refine loop_run (C := ⟨(tab fu).own, lev (tab fu) (n + 5), (tab fu).gl⟩) (K := K) (c := c129_u1) (impl_undo_unite_ofBounds_s1 a12 a14 a15 a16) (fun s => ⟨[(1, .val (.sh .lent 1 (rowE (eI .i64) a14))), (2, .sl 1000002000 0 s.1.length), (3, .pt 200000030 0), (7, .val (.int .i64 a15)), (8, .sl 200000080 0 a12.length), (18, .val (.int .i64 a16)), (19, .val (.int .i64 s.2))], [(200000030, .var false [.val (.fn 125 []), .val (.fn 128 [])]), (200000080, .row false 1 (rowE (eI .i64) a12)), (1000002000, .row true 1 (rowE (eI .i64) s.1))], 80⟩) (fun t => plug ⟨(tab fu).own, lev (tab fu) (n + 5), (tab fu).gl⟩ K (.exit 0) ⟨[(1, .val (.sh .lent 1 (rowE (eI .i64) a14))), (2, .sl 1000002000 0 t.length), (3, .pt 200000030 0), (7, .val (.int .i64 a15)), (8, .sl 200000080 0 a12.length)], [(200000030, .var false [.val (.fn 125 []), .val (.fn 128 [])]), (200000080, .row false 1 (rowE (eI .i64) a12)), (1000002000, .row true 1 (rowE (eI .i64) t))], 80⟩) (fun k s => ?_) ((a13, a17))
  obtain ⟨a13, a17⟩ := s
  unfold c129_u1
  simp +contextual -implicitDefEqProofs (maxSteps := 99999999) only [impl_undo_unite_ofBounds_s1, subI, go_sem] <;> rfl
@[go_sem] theorem impl_undo_unite_ofBounds_s2_ok {β : Type} (fu n : Nat) (K : List (Kont β)) (a35 a36 a37 : List Int) (a38 a39 a40 : Int) : run ⟨(tab fu).own, lev (tab fu) (n + 5), (tab fu).gl⟩ K (.loop c129_u2) ⟨[(1, .val (.sh .lent 1 (rowE (eI .i64) a37))), (2, .sl 1000002000 0 a36.length), (3, .pt 200000030 0), (7, .val (.int .i64 a38)), (8, .sl 200000080 0 a35.length), (51, .val (.int .i64 a39)), (52, .val (.int .i64 a40))], [(200000030, .var false [.val (.fn 125 []), .val (.fn 128 [])]), (200000080, .row false 1 (rowE (eI .i64) a35)), (1000002000, .row true 1 (rowE (eI .i64) a36))], 80⟩ = (loopO (impl_undo_unite_ofBounds_s2 a36 a37 a38 a39) ((a35, a40))).bind (fun t => plug ⟨(tab fu).own, lev (tab fu) (n + 5), (tab fu).gl⟩ K (.exit 2) ⟨[(8, .sl 200000080 0 t.length)], [(200000080, .row false 1 (rowE (eI .i64) t)), (1000002000, .row true 1 (rowE (eI .i64) a36))], 80⟩) := by
  refine loop_run (C := ⟨(tab fu).own, lev (tab fu) (n + 5), (tab fu).gl⟩) (K := K) (c := c129_u2) (impl_undo_unite_ofBounds_s2 a36 a37 a38 a39) (fun s => ⟨[(1, .val (.sh .lent 1 (rowE (eI .i64) a37))), (2, .sl 1000002000 0 a36.length), (3, .pt 200000030 0), (7, .val (.int .i64 a38)), (8, .sl 200000080 0 s.1.length), (51, .val (.int .i64 a39)), (52, .val (.int .i64 s.2))], [(200000030, .var false [.val (.fn 125 []), .val (.fn 128 [])]), (200000080, .row false 1 (rowE (eI .i64) s.1)), (1000002000, .row true 1 (rowE (eI .i64) a36))], 80⟩) (fun t => plug ⟨(tab fu).own, lev (tab fu) (n + 5), (tab fu).gl⟩ K (.exit 2) ⟨[(8, .sl 200000080 0 t.length)], [(200000080, .row false 1 (rowE (eI .i64) t)), (1000002000, .row true 1 (rowE (eI .i64) a36))], 80⟩) (fun k s => ?_) ((a35, a40))
  obtain ⟨a35, a40⟩ := s
  unfold c129_u2
  simp +contextual -implicitDefEqProofs (maxSteps := 99999999) only [impl_undo_unite_ofBounds_s2, subI, go_sem] <;> rfl
@[go_sem] theorem impl_undo_unite_ofBounds_ok (fu n : Nat) (q1_0 q2_0 : List Int) : lev (tab fu) (n + 6) 129 [.agg [.fn 125 [], .fn 128 []], .sh .lent 1 (rowE (eI .i64) q1_0), .ow 1 (rowE (eI .i64) q2_0)] = (impl_undo_unite_ofBounds Sundo.mk q1_0 q2_0).map fun r => (.ow 1 (rowE (eI .i64) r.1), [.gone, .gone, .ow 1 (rowE (eI .i64) r.2)]) := by
  rw [lev_st (vc := c129) (nt := 80) (rs := [(6, none)]) ((tab_ext _ _ rfl).trans rfl) rfl (Nat.le_of_ble_eq_true rfl)]
  unfold c129
  simp +contextual -implicitDefEqProofs (maxSteps := 99999999) only [impl_undo_unite_ofBounds, subI, go_sem] <;> rfl
def impl_undo_gather_ofBounds_u3 (fu : Nat) (rec_ : Sundo → (List Int) → Option ((List Int))) (a33 a34 : List Int) (a35 : Int) (a36 : List Int) (a37 a38 : Int) (a39 : Bool) : Option ((List Int) × (List Int)) :=
  if a39 = true then if (okApp 8 ((a33 ++ ([a35]))).length) = true then some (((a33 ++ ([a35])), a34))
    else none
  else if (okApp 8 ((a34 ++ ([a35]))).length) = true then some ((a33, (a34 ++ ([a35]))))
    else none
def impl_undo_gather_ofBounds_u4 (fu : Nat) (rec_ : Sundo → (List Int) → Option ((List Int))) (a27 a28 a29 : List Int) (a30 a31 : Int) : Option ((List Int) × (List Int)) :=
  (getI a29 a31).bind fun x32 =>
  (impl_undo_gather_ofBounds_u3 fu rec_ a27 a28 x32 a29 a30 a31 (((a31.tmod (2 : Int)) == 0))).bind fun y40 =>
  some ((y40.1, y40.2))
def impl_undo_gather_ofBounds_s5 (fu : Nat) (rec_ : Sundo → (List Int) → Option ((List Int))) (a24 : List Int) (a25 : Int) : ((List Int) × (List Int) × Int) → Option (((List Int) × (List Int) × Int) ⊕ ((List Int) × (List Int))) := fun ⟨a22, a23, a26⟩ =>
  if (decide (a26 < a25)) = true then (impl_undo_gather_ofBounds_u4 fu rec_ a22 a23 a24 a25 a26).bind fun y41 =>
    some ((.inl ((y41.1, y41.2, (IntKind.i64.wrap (a26 + 1))))))
  else some ((.inr ((a22, a23))))
def impl_undo_gather_ofBounds_b (fu : Nat) (rec_ : Sundo → (List Int) → Option ((List Int))) (p0 : Sundo) (p1 : List Int) : Option ((List Int)) :=
  if ((p1.length : Int) == 1) = true then (getI p1 0).bind fun x1 =>
    some ([x1])
  else (loopO (impl_undo_gather_ofBounds_s5 fu rec_ p1 ((p1.length : Int))) (([], [], 0))).bind fun y42 =>
    (rec_ Sundo.mk y42.1).bind fun r43 =>
    (rec_ Sundo.mk y42.2).bind fun r44 =>
    (impl_undo_unite_ofBounds Sundo.mk r43 r44).bind fun r45 =>
    if r44.length = r45.2.length then some r45.1
    else none
def impl_undo_gather_ofBounds : Nat → Sundo → (List Int) → Option ((List Int))
  | 0, _, _ => none
  | fu + 1, p0, p1 => impl_undo_gather_ofBounds_b fu (impl_undo_gather_ofBounds fu) p0 p1
class impl_undo_gather_ofBoundsRec (fu : Nat) : Prop where
  h : ∀ (n : Nat) (q1_0 : List Int), lev (tab fu) (n + 1) 84 [.agg [.fn 125 [], .fn 128 []], .sh .lent 1 (rowE (eI .i64) q1_0)] = (impl_undo_gather_ofBounds fu Sundo.mk q1_0).map fun r => (.ow 1 (rowE (eI .i64) r), [.gone, .gone])
@[go_sem] theorem impl_undo_gather_ofBounds_rec (fu n : Nat) [q : impl_undo_gather_ofBoundsRec fu] (q1_0 : List Int) : lev (tab fu) (n + 1) 84 [.agg [.fn 125 [], .fn 128 []], .sh .lent 1 (rowE (eI .i64) q1_0)] = (impl_undo_gather_ofBounds fu Sundo.mk q1_0).map fun r => (.ow 1 (rowE (eI .i64) r), [.gone, .gone]) := impl_undo_gather_ofBoundsRec.h n q1_0
@[go_sem] theorem impl_undo_gather_ofBounds_u3_ok {β : Type} (fu n : Nat) [impl_undo_gather_ofBoundsRec fu] (K : List (Kont β)) (a33 a34 : List Int) (a35 : Int) (a36 : List Int) (a37 a38 : Int) (a39 : Bool) : run ⟨(tab fu).own, lev (tab fu) (n + 6), (tab fu).gl⟩ K c84_u3 ⟨[(2, .pt 200000020 0), (5, .sl 200000050 0 a33.length), (6, .sl 200000060 0 a34.length), (8, .val (.int .i64 a35)), (18, .val (.sh .lent 1 (rowE (eI .i64) a36))), (19, .val (.int .i64 a37)), (20, .val (.int .i64 a38)), (27, .val (.bool a39))], [(200000020, .var false [.val (.fn 125 []), .val (.fn 128 [])]), (200000050, .row false 1 (rowE (eI .i64) a33)), (200000060, .row false 1 (rowE (eI .i64) a34))], 45⟩ = (impl_undo_gather_ofBounds_u3 fu (impl_undo_gather_ofBounds fu) a33 a34 a35 a36 a37 a38 a39).bind (fun t => plug ⟨(tab fu).own, lev (tab fu) (n + 6), (tab fu).gl⟩ K .normal ⟨[(2, .pt 200000020 0), (5, .sl 200000050 0 t.1.length), (6, .sl 200000060 0 t.2.length), (18, .val (.sh .lent 1 (rowE (eI .i64) a36))), (19, .val (.int .i64 a37)), (20, .val (.int .i64 a38))], [(200000020, .var false [.val (.fn 125 []), .val (.fn 128 [])]), (200000050, .row false 1 (rowE (eI .i64) t.1)), (200000060, .row false 1 (rowE (eI .i64) t.2))], 45⟩) := by
  unfold c84_u3
  simp +contextual -implicitDefEqProofs (maxSteps := 99999999) only [impl_undo_gather_ofBounds_u3, subI, go_sem] <;> rfl
@[go_sem] theorem impl_undo_gather_ofBounds_u4_ok {β : Type} (fu n : Nat) [impl_undo_gather_ofBoundsRec fu] (K : List (Kont β)) (a27 a28 a29 : List Int) (a30 a31 : Int) : run ⟨(tab fu).own, lev (tab fu) (n + 6), (tab fu).gl⟩ K c84_u4 ⟨[(2, .pt 200000020 0), (5, .sl 200000050 0 a27.length), (6, .sl 200000060 0 a28.length), (18, .val (.sh .lent 1 (rowE (eI .i64) a29))), (19, .val (.int .i64 a30)), (20, .val (.int .i64 a31))], [(200000020, .var false [.val (.fn 125 []), .val (.fn 128 [])]), (200000050, .row false 1 (rowE (eI .i64) a27)), (200000060, .row false 1 (rowE (eI .i64) a28))], 45⟩ = (impl_undo_gather_ofBounds_u4 fu (impl_undo_gather_ofBounds fu) a27 a28 a29 a30 a31).bind (fun t => plug ⟨(tab fu).own, lev (tab fu) (n + 6), (tab fu).gl⟩ K .normal ⟨[(2, .pt 200000020 0), (5, .sl 200000050 0 t.1.length), (6, .sl 200000060 0 t.2.length), (18, .val (.sh .lent 1 (rowE (eI .i64) a29))), (19, .val (.int .i64 a30)), (20, .val (.int .i64 a31))], [(200000020, .var false [.val (.fn 125 []), .val (.fn 128 [])]), (200000050, .row false 1 (rowE (eI .i64) t.1)), (200000060, .row false 1 (rowE (eI .i64) t.2))], 45⟩) := by
  unfold c84_u4
  simp +contextual -implicitDefEqProofs (maxSteps := 99999999) only [impl_undo_gather_ofBounds_u4, subI, go_sem] <;> rfl
@[go_sem] theorem impl_undo_gather_ofBounds_s5_ok {β : Type} (fu n : Nat) [impl_undo_gather_ofBoundsRec fu] (K : List (Kont β)) (a22 a23 a24 : List Int) (a25 a26 : Int) : run ⟨(tab fu).own, lev (tab fu) (n + 6), (tab fu).gl⟩ K (.loop c84_u5) ⟨[(2, .pt 200000020 0), (5, .sl 200000050 0 a22.length), (6, .sl 200000060 0 a23.length), (18, .val (.sh .lent 1 (rowE (eI .i64) a24))), (19, .val (.int .i64 a25)), (20, .val (.int .i64 a26))], [(200000020, .var false [.val (.fn 125 []), .val (.fn 128 [])]), (200000050, .row false 1 (rowE (eI .i64) a22)), (200000060, .row false 1 (rowE (eI .i64) a23))], 45⟩ = (loopO (impl_undo_gather_ofBounds_s5 fu (impl_undo_gather_ofBounds fu) a24 a25) ((a22, a23, a26))).bind (fun t => plug ⟨(tab fu).own, lev (tab fu) (n + 6), (tab fu).gl⟩ K (.exit 0) ⟨[(2, .pt 200000020 0), (5, .sl 200000050 0 t.1.length), (6, .sl 200000060 0 t.2.length)], [(200000020, .var false [.val (.fn 125 []), .val (.fn 128 [])]), (200000050, .row false 1 (rowE (eI .i64) t.1)), (200000060, .row false 1 (rowE (eI .i64) t.2))], 45⟩) := by
  refine loop_run (C := ⟨(tab fu).own, lev (tab fu) (n + 6), (tab fu).gl⟩) (K := K) (c := c84_u5) (impl_undo_gather_ofBounds_s5 fu (impl_undo_gather_ofBounds fu) a24 a25) (fun s => ⟨[(2, .pt 200000020 0), (5, .sl 200000050 0 s.1.length), (6, .sl 200000060 0 s.2.1.length), (18, .val (.sh .lent 1 (rowE (eI .i64) a24))), (19, .val (.int .i64 a25)), (20, .val (.int .i64 s.2.2))], [(200000020, .var false [.val (.fn 125 []), .val (.fn 128 [])]), (200000050, .row false 1 (rowE (eI .i64) s.1)), (200000060, .row false 1 (rowE (eI .i64) s.2.1))], 45⟩) (fun t => plug ⟨(tab fu).own, lev (tab fu) (n + 6), (tab fu).gl⟩ K (.exit 0) ⟨[(2, .pt 200000020 0), (5, .sl 200000050 0 t.1.length), (6, .sl 200000060 0 t.2.length)], [(200000020, .var false [.val (.fn 125 []), .val (.fn 128 [])]), (200000050, .row false 1 (rowE (eI .i64) t.1)), (200000060, .row false 1 (rowE (eI .i64) t.2))], 45⟩) (fun k s => ?_) ((a22, a23, a26))
  obtain ⟨a22, a23, a26⟩ := s
  unfold c84_u5
  simp +contextual -implicitDefEqProofs (maxSteps := 99999999) only [impl_undo_gather_ofBounds_s5, subI, go_sem] <;> rfl
@[go_sem] theorem impl_undo_gather_ofBounds_s5_ok_e {β : Type} (fu n : Nat) [impl_undo_gather_ofBoundsRec fu] (K : List (Kont β)) (a24 : List Int) (a25 a26 : Int) : run ⟨(tab fu).own, lev (tab fu) (n + 6), (tab fu).gl⟩ K (.loop c84_u5) ⟨[(2, .pt 200000020 0), (5, .sl 200000050 0 0), (6, .sl 200000060 0 0), (18, .val (.sh .lent 1 (rowE (eI .i64) a24))), (19, .val (.int .i64 a25)), (20, .val (.int .i64 a26))], [(200000020, .var false [.val (.fn 125 []), .val (.fn 128 [])]), (200000050, .row false 1 []), (200000060, .row false 1 [])], 45⟩ = (loopO (impl_undo_gather_ofBounds_s5 fu (impl_undo_gather_ofBounds fu) a24 a25) (([], [], a26))).bind (fun t => plug ⟨(tab fu).own, lev (tab fu) (n + 6), (tab fu).gl⟩ K (.exit 0) ⟨[(2, .pt 200000020 0), (5, .sl 200000050 0 t.1.length), (6, .sl 200000060 0 t.2.length)], [(200000020, .var false [.val (.fn 125 []), .val (.fn 128 [])]), (200000050, .row false 1 (rowE (eI .i64) t.1)), (200000060, .row false 1 (rowE (eI .i64) t.2))], 45⟩) := impl_undo_gather_ofBounds_s5_ok fu n K [] [] a24 a25 a26
theorem impl_undo_gather_ofBounds_st (fu n : Nat) (ds : List D) : lev (tab (fu + 1)) (n + 1) 84 ds = levA (tab fu) (0 + 6) c84 [(4, none)] (idsOf 0 ((tab fu).own 84) ds) ds (argsFr 0 ((tab fu).own 84) ds ⟨[], [], 45⟩) := lev_rec_st (T := tab0) (R := recR) rfl rfl (Nat.le_of_ble_eq_true rfl)
theorem impl_undo_gather_ofBounds_all (fu : Nat) : impl_undo_gather_ofBoundsRec fu := by
  induction fu with
  | zero => exact ⟨fun n q1_0 => lev_rec0 (T := tab0) (R := recR) (N := 0 + 6) rfl⟩
  | succ fu ih =>
    refine ⟨fun n q1_0 => ?_⟩
    rw [impl_undo_gather_ofBounds_st]
    unfold impl_undo_gather_ofBounds c84
    simp +contextual -implicitDefEqProofs (maxSteps := 99999999) only [impl_undo_gather_ofBounds_b, subI, go_sem] <;> rfl
instance (fu : Nat) : impl_undo_gather_ofBoundsRec fu := impl_undo_gather_ofBounds_all fu
theorem impl_undo_gather_ofBounds_ok (fu n : Nat) (q1_0 : List Int) : lev (tab fu) (n + 1) 84 [.agg [.fn 125 [], .fn 128 []], .sh .lent 1 (rowE (eI .i64) q1_0)] = (impl_undo_gather_ofBounds fu Sundo.mk q1_0).map fun r => (.ow 1 (rowE (eI .i64) r), [.gone, .gone]) := impl_undo_gather_ofBounds_rec fu n q1_0
def slices_Clone_int64 (p0 : List Int) : Option ((List Int)) :=
  if (okApp 8 p0.length) = true then some p0
  else none
@[go_sem] theorem slices_Clone_int64_ok (fu n : Nat) (q0_0 : List Int) : lev (tab fu) (n + 1) 111 [.sh .lent 1 (rowE (eI .i64) q0_0)] = (slices_Clone_int64 q0_0).map fun r => (.ow 1 (rowE (eI .i64) r), [.gone]) := by
  cases q0_0 with
  | nil =>
    rw [lev_st (vc := c111) (nt := 8) (rs := [(2, none)]) ((tab_ext _ _ rfl).trans rfl) rfl (Nat.le_of_ble_eq_true rfl)]
    unfold c111
    simp +contextual -implicitDefEqProofs (maxSteps := 99999999) only [slices_Clone_int64, rowE_nil, List.length_nil, subI, go_sem] <;> rfl
  | cons y ys =>
    rw [lev_st (vc := c111) (nt := 8) (rs := [(2, none)]) ((tab_ext _ _ rfl).trans rfl) rfl (Nat.le_of_ble_eq_true rfl)]
    unfold c111
    simp +contextual -implicitDefEqProofs (maxSteps := 99999999) only [slices_Clone_int64, subI, go_sem] <;> rfl
def impl_FrameBounds_2 (p0 p1 : Int) (p2 p4_0 : Int) : Option (Int × Int) :=
  (impl_ofBounds_1 p4_0 p0 p1 p2).bind fun r1 =>
  some ((r1.1, r1.2))
@[go_sem] theorem impl_FrameBounds_2_ok (fu n : Nat) (q0_0 q1_0 : Int) (q2_0 p4_0 : Int) : lev (tab fu) (n + 6) 83 [.int .i64 q0_0, .int .i64 q1_0, .int .i64 q2_0, .ptr [.fn 125 [], .fn 128 []], .ptr [.int .i64 p4_0]] = (impl_FrameBounds_2 q0_0 q1_0 q2_0 p4_0).map fun r => (.tup [.int .i64 r.1, .int .i64 r.2], [.gone, .gone, .gone, .gone, .gone]) := by
  rw [lev_st (vc := c83) (nt := 19) (rs := [(8, none), (9, none)]) ((tab_ext _ _ rfl).trans rfl) rfl (Nat.le_of_ble_eq_true rfl)]
  unfold c83
  simp +contextual -implicitDefEqProofs (maxSteps := 99999999) only [impl_FrameBounds_2, subI, go_sem] <;> rfl
def impl_seam_impl_FrameBounds_2_s1 (a15 a16 : Int) : ((List Int) × (List Int) × Int) → Option (((List Int) × (List Int) × Int) ⊕ ((List Int) × (List Int))) := fun ⟨a13, a14, a17⟩ =>
  if (decide (a17 < a16)) = true then (getI a13 (IntKind.i64.wrap ((IntKind.i64.wrap ((a13.length : Int) - 1)) - a17))).bind fun _ =>
    (a13[((IntKind.i64.wrap ((IntKind.i64.wrap ((a13.length : Int) - 1)) - a17))).toNat]?).bind fun x18 =>
    (getI a14 a17).bind fun _ =>
    (a14[a17.toNat]?).bind fun x19 =>
    (impl_FrameBounds_2 a17 x18 x19 a15).bind fun r20 =>
    (getI a13 (IntKind.i64.wrap ((IntKind.i64.wrap ((a13.length : Int) - 1)) - a17))).bind fun _ =>
    (a13[((IntKind.i64.wrap ((IntKind.i64.wrap ((a13.length : Int) - 1)) - a17))).toNat]?).bind fun _ =>
    (getI a14 a17).bind fun _ =>
    (a14[a17.toNat]?).bind fun _ =>
    some ((.inl (((a13.set (((IntKind.i64.wrap ((IntKind.i64.wrap ((a13.length : Int) - 1)) - a17))).toNat) r20.1), (a14.set a17.toNat r20.2), (IntKind.i64.wrap (a17 + 1))))))
  else some ((.inr ((a13, a14))))
def impl_seam_impl_FrameBounds_2 (p0 p1 : List Int) (p2_1_0 : Int) : Option ((List Int) × (List Int)) :=
  (slices_Clone_int64 p0).bind fun r1 =>
  (slices_Clone_int64 p1).bind fun r2 =>
  (loopO (impl_seam_impl_FrameBounds_2_s1 p2_1_0 ((r2.length : Int))) ((r1, r2, 0))).bind fun y23 =>
  some ((y23.1, y23.2))
@[go_sem] theorem impl_seam_impl_FrameBounds_2_s1_ok {β : Type} (fu n : Nat) (K : List (Kont β)) (a13 a14 : List Int) (a15 a16 a17 : Int) : run ⟨(tab fu).own, lev (tab fu) (n + 6), (tab fu).gl⟩ K (.loop c85_u1) ⟨[(2, .val (.fn 83 [.ptr [.fn 125 [], .fn 128 []], .ptr [.int .i64 a15]])), (8, .sl 200000080 0 a13.length), (9, .sl 200000090 0 a14.length), (17, .val (.int .i64 a16)), (18, .val (.int .i64 a17))], [(200000080, .row false 1 (rowE (eI .i64) a13)), (200000090, .row false 1 (rowE (eI .i64) a14))], 49⟩ = (loopO (impl_seam_impl_FrameBounds_2_s1 a15 a16) ((a13, a14, a17))).bind (fun t => plug ⟨(tab fu).own, lev (tab fu) (n + 6), (tab fu).gl⟩ K (.exit 0) ⟨[(8, .sl 200000080 0 t.1.length), (9, .sl 200000090 0 t.2.length)], [(200000080, .row false 1 (rowE (eI .i64) t.1)), (200000090, .row false 1 (rowE (eI .i64) t.2))], 49⟩) := by
  refine loop_run (C := ⟨(tab fu).own, lev (tab fu) (n + 6), (tab fu).gl⟩) (K := K) (c := c85_u1) (impl_seam_impl_FrameBounds_2_s1 a15 a16) (fun s => ⟨[(2, .val (.fn 83 [.ptr [.fn 125 [], .fn 128 []], .ptr [.int .i64 a15]])), (8, .sl 200000080 0 s.1.length), (9, .sl 200000090 0 s.2.1.length), (17, .val (.int .i64 a16)), (18, .val (.int .i64 s.2.2))], [(200000080, .row false 1 (rowE (eI .i64) s.1)), (200000090, .row false 1 (rowE (eI .i64) s.2.1))], 49⟩) (fun t => plug ⟨(tab fu).own, lev (tab fu) (n + 6), (tab fu).gl⟩ K (.exit 0) ⟨[(8, .sl 200000080 0 t.1.length), (9, .sl 200000090 0 t.2.length)], [(200000080, .row false 1 (rowE (eI .i64) t.1)), (200000090, .row false 1 (rowE (eI .i64) t.2))], 49⟩) (fun k s => ?_) ((a13, a14, a17))
  obtain ⟨a13, a14, a17⟩ := s
  unfold c85_u1
  simp +contextual -implicitDefEqProofs (maxSteps := 99999999) only [impl_seam_impl_FrameBounds_2_s1, subI, go_sem] <;> rfl
@[go_sem] theorem impl_seam_impl_FrameBounds_2_ok (fu n : Nat) (q0_0 q1_0 : List Int) (p2_1_0 : Int) : lev (tab fu) (n + 7) 85 [.sh .lent 1 (rowE (eI .i64) q0_0), .sh .lent 1 (rowE (eI .i64) q1_0), .fn 83 [.ptr [.fn 125 [], .fn 128 []], .ptr [.int .i64 p2_1_0]]] = (impl_seam_impl_FrameBounds_2 q0_0 q1_0 p2_1_0).map fun r => (.tup [.ow 1 (rowE (eI .i64) r.1), .ow 1 (rowE (eI .i64) r.2)], [.gone, .gone, .gone]) := by
  rw [lev_st (vc := c85) (nt := 49) (rs := [(6, none), (7, none)]) ((tab_ext _ _ rfl).trans rfl) rfl (Nat.le_of_ble_eq_true rfl)]
  unfold c85
  simp +contextual -implicitDefEqProofs (maxSteps := 99999999) only [impl_seam_impl_FrameBounds_2, subI, go_sem] <;> rfl
def slices_Grow_int64 (p0 : List Int) (p1 : Int) : Option (List Int) := if okGrow 8 p1 = true then some p0 else none
@[go_sem] theorem slices_Grow_int64_ok (fu n : Nat) (q : Int) : lev (tab fu) (n + 1) 130 [.emp 1, .int .i64 q] = (slices_Grow_int64 [] q).map fun r => (.ow 1 (rowE (eI .i64) r), [.gone, .gone]) := by
  rw [lev_ext (F := (growF 1 8)) ((tab_ext _ _ rfl).trans rfl)]
  unfold growF slices_Grow_int64
  simp only [true_and]
  split <;> rfl
def slices_Concat_int64_u3 (a29 : List (List Int)) (a30 a31 a32 : Int) (a33 : Bool) : Option (Unit) :=
  if a33 = true then none
  else some (())
def slices_Concat_int64_u4 (a24 : List (List Int)) (a25 a26 a27 : Int) : Option (Int) :=
  (getI a24 a27).bind fun x28 =>
  (slices_Concat_int64_u3 a24 ((IntKind.i64.wrap (a25 + (x28.length : Int)))) a26 a27 ((decide ((IntKind.i64.wrap (a25 + (x28.length : Int))) < 0)))).bind fun y34 =>
  some (((IntKind.i64.wrap (a25 + (x28.length : Int)))))
def slices_Concat_int64_s5 (a20 : List (List Int)) (a22 : Int) : (Int × Int) → Option ((Int × Int) ⊕ (Int)) := fun ⟨a21, a23⟩ =>
  if (decide (a23 < a22)) = true then (slices_Concat_int64_u4 a20 a21 a22 a23).bind fun y35 =>
    some ((.inl ((y35, (IntKind.i64.wrap (a23 + 1))))))
  else some ((.inr a21))
def slices_Concat_int64_s6 (a44 : List (List Int)) (a45 : Int) : ((List Int) × Int) → Option (((List Int) × Int) ⊕ ((List Int))) := fun ⟨a43, a46⟩ =>
  if (decide (a46 < a45)) = true then (getI a44 a46).bind fun x47 =>
    if (okApp 8 ((a43 ++ x47)).length) = true then some ((.inl (((a43 ++ x47), (IntKind.i64.wrap (a46 + 1))))))
    else none
  else some ((.inr a43))
def slices_Concat_int64 (p0 : List (List Int)) : Option ((List Int)) :=
  (loopO (slices_Concat_int64_s5 p0 ((p0.length : Int))) ((0, 0))).bind fun y36 =>
  (slices_Grow_int64 ([]) y36).bind fun r37 =>
  (loopO (slices_Concat_int64_s6 p0 ((p0.length : Int))) ((r37, 0))).bind fun y48 =>
  some y48
@[go_sem] theorem slices_Concat_int64_u3_ok {β : Type} (fu n : Nat) (K : List (Kont β)) (a29 : List (List Int)) (a30 a31 a32 : Int) (a33 : Bool) : run ⟨(tab fu).own, lev (tab fu) (n + 1), (tab fu).gl⟩ K c86_u3 ⟨[(0, .val (.sh .lent 1 (rowE (eL .lent 1 (eI .i64)) a29))), (3, .val (.int .i64 a30)), (9, .val (.sh .lent 1 (rowE (eL .lent 1 (eI .i64)) a29))), (10, .val (.int .i64 a31)), (11, .val (.int .i64 a32)), (20, .val (.bool a33))], [], 36⟩ = (slices_Concat_int64_u3 a29 a30 a31 a32 a33).bind (fun t => plug ⟨(tab fu).own, lev (tab fu) (n + 1), (tab fu).gl⟩ K .normal ⟨[(0, .val (.sh .lent 1 (rowE (eL .lent 1 (eI .i64)) a29))), (3, .val (.int .i64 a30)), (9, .val (.sh .lent 1 (rowE (eL .lent 1 (eI .i64)) a29))), (10, .val (.int .i64 a31)), (11, .val (.int .i64 a32))], [], 36⟩) := by
  unfold c86_u3
  simp +contextual -implicitDefEqProofs (maxSteps := 99999999) only [slices_Concat_int64_u3, subI, go_sem] <;> rfl
@[go_sem] theorem slices_Concat_int64_u4_ok {β : Type} (fu n : Nat) (K : List (Kont β)) (a24 : List (List Int)) (a25 a26 a27 : Int) : run ⟨(tab fu).own, lev (tab fu) (n + 1), (tab fu).gl⟩ K c86_u4 ⟨[(0, .val (.sh .lent 1 (rowE (eL .lent 1 (eI .i64)) a24))), (3, .val (.int .i64 a25)), (9, .val (.sh .lent 1 (rowE (eL .lent 1 (eI .i64)) a24))), (10, .val (.int .i64 a26)), (11, .val (.int .i64 a27))], [], 36⟩ = (slices_Concat_int64_u4 a24 a25 a26 a27).bind (fun t => plug ⟨(tab fu).own, lev (tab fu) (n + 1), (tab fu).gl⟩ K .normal ⟨[(0, .val (.sh .lent 1 (rowE (eL .lent 1 (eI .i64)) a24))), (3, .val (.int .i64 t)), (9, .val (.sh .lent 1 (rowE (eL .lent 1 (eI .i64)) a24))), (10, .val (.int .i64 a26)), (11, .val (.int .i64 a27))], [], 36⟩) := by
  unfold c86_u4
  simp +contextual -implicitDefEqProofs (maxSteps := 99999999) only [slices_Concat_int64_u4, subI, go_sem] <;> rfl
@[go_sem] theorem slices_Concat_int64_s5_ok {β : Type} (fu n : Nat) (K : List (Kont β)) (a20 : List (List Int)) (a21 a22 a23 : Int) : run ⟨(tab fu).own, lev (tab fu) (n + 1), (tab fu).gl⟩ K (.loop c86_u5) ⟨[(0, .val (.sh .lent 1 (rowE (eL .lent 1 (eI .i64)) a20))), (3, .val (.int .i64 a21)), (9, .val (.sh .lent 1 (rowE (eL .lent 1 (eI .i64)) a20))), (10, .val (.int .i64 a22)), (11, .val (.int .i64 a23))], [], 36⟩ = (loopO (slices_Concat_int64_s5 a20 a22) ((a21, a23))).bind (fun t => plug ⟨(tab fu).own, lev (tab fu) (n + 1), (tab fu).gl⟩ K (.exit 0) ⟨[(0, .val (.sh .lent 1 (rowE (eL .lent 1 (eI .i64)) a20))), (3, .val (.int .i64 t))], [], 36⟩) := by
  refine loop_run (C := ⟨(tab fu).own, lev (tab fu) (n + 1), (tab fu).gl⟩) (K := K) (c := c86_u5) (slices_Concat_int64_s5 a20 a22) (fun s => ⟨[(0, .val (.sh .lent 1 (rowE (eL .lent 1 (eI .i64)) a20))), (3, .val (.int .i64 s.1)), (9, .val (.sh .lent 1 (rowE (eL .lent 1 (eI .i64)) a20))), (10, .val (.int .i64 a22)), (11, .val (.int .i64 s.2))], [], 36⟩) (fun t => plug ⟨(tab fu).own, lev (tab fu) (n + 1), (tab fu).gl⟩ K (.exit 0) ⟨[(0, .val (.sh .lent 1 (rowE (eL .lent 1 (eI .i64)) a20))), (3, .val (.int .i64 t))], [], 36⟩) (fun k s => ?_) ((a21, a23))
  obtain ⟨a21, a23⟩ := s
  unfold c86_u5
  simp +contextual -implicitDefEqProofs (maxSteps := 99999999) only [slices_Concat_int64_s5, subI, go_sem] <;> rfl
@[go_sem] theorem slices_Concat_int64_s6_ok {β : Type} (fu n : Nat) (K : List (Kont β)) (a43 : List Int) (a44 : List (List Int)) (a45 a46 : Int) : run ⟨(tab fu).own, lev (tab fu) (n + 1), (tab fu).gl⟩ K (.loop c86_u6) ⟨[(6, .sl 200000060 0 a43.length), (25, .val (.sh .lent 1 (rowE (eL .lent 1 (eI .i64)) a44))), (26, .val (.int .i64 a45)), (27, .val (.int .i64 a46))], [(200000060, .row false 1 (rowE (eI .i64) a43))], 36⟩ = (loopO (slices_Concat_int64_s6 a44 a45) ((a43, a46))).bind (fun t => plug ⟨(tab fu).own, lev (tab fu) (n + 1), (tab fu).gl⟩ K (.exit 2) ⟨[(6, .sl 200000060 0 t.length)], [(200000060, .row false 1 (rowE (eI .i64) t))], 36⟩) := by
  refine loop_run (C := ⟨(tab fu).own, lev (tab fu) (n + 1), (tab fu).gl⟩) (K := K) (c := c86_u6) (slices_Concat_int64_s6 a44 a45) (fun s => ⟨[(6, .sl 200000060 0 s.1.length), (25, .val (.sh .lent 1 (rowE (eL .lent 1 (eI .i64)) a44))), (26, .val (.int .i64 a45)), (27, .val (.int .i64 s.2))], [(200000060, .row false 1 (rowE (eI .i64) s.1))], 36⟩) (fun t => plug ⟨(tab fu).own, lev (tab fu) (n + 1), (tab fu).gl⟩ K (.exit 2) ⟨[(6, .sl 200000060 0 t.length)], [(200000060, .row false 1 (rowE (eI .i64) t))], 36⟩) (fun k s => ?_) ((a43, a46))
  obtain ⟨a43, a46⟩ := s
  unfold c86_u6
  simp +contextual -implicitDefEqProofs (maxSteps := 99999999) only [slices_Concat_int64_s6, subI, go_sem] <;> rfl
@[go_sem] theorem slices_Concat_int64_ok (fu n : Nat) (q0_0 : List (List Int)) : lev (tab fu) (n + 2) 86 [.sh .lent 1 (rowE (eL .lent 1 (eI .i64)) q0_0)] = (slices_Concat_int64 q0_0).map fun r => (.ow 1 (rowE (eI .i64) r), [.gone]) := by
  rw [lev_st (vc := c86) (nt := 36) (rs := [(2, none)]) ((tab_ext _ _ rfl).trans rfl) rfl (Nat.le_of_ble_eq_true rfl)]
  unfold c86
  simp +contextual -implicitDefEqProofs (maxSteps := 99999999) only [slices_Concat_int64, subI, go_sem] <;> rfl
def impl_FrameBounds_u1 (fu : Nat) (a1 : Int) (a2 a3 a4 : List Int) : Option (Int) :=
  if (impl_FrameBounds_1 a2 a1) = true then (impl_boundsFault a2).bind fun r5 =>
    (impl_boundsFault a3).bind fun r6 =>
    (impl_boundsFault a4).bind fun r7 =>
    (impl_first ([(impl_SizeFault a1), (impl_codeIf true 2), r5, r6, r7])).bind fun r8 =>
    some r8
  else if (impl_FrameBounds_1 a3 a1) = true then (impl_boundsFault a2).bind fun r9 =>
      (impl_boundsFault a3).bind fun r10 =>
      (impl_boundsFault a4).bind fun r11 =>
      (impl_first ([(impl_SizeFault a1), (impl_codeIf true 2), r9, r10, r11])).bind fun r12 =>
      some r12
    else (impl_boundsFault a2).bind fun r13 =>
      (impl_boundsFault a3).bind fun r14 =>
      (impl_boundsFault a4).bind fun r15 =>
      (impl_first ([(impl_SizeFault a1), (impl_codeIf ((impl_FrameBounds_1 a4 a1)) 2), r13, r14, r15])).bind fun r16 =>
      some r16
def impl_FrameBounds_u2 (fu : Nat) (a18 : Int) (a19 a20 a21 : List Int) : Unit :=
  ()
def impl_FrameBounds (fu : Nat) (p0 : Int) (p1 p2 p3 : List Int) : Option (SIntsResult) :=
  (impl_FrameBounds_u1 fu p0 p1 p2 p3).bind fun y17 =>
  if (y17 != 0) = true then some ((SIntsResult.mk y17 ([])))
  else let y22 := impl_FrameBounds_u2 fu p0 p1 p2 p3
    (impl_undo_gather_ofBounds fu Sundo.mk p2).bind fun r23 =>
    (upI r23.length ((IntKind.i64.wrap (p0.tdiv (2 : Int))))).bind fun w24 =>
    (impl_undo_gather_ofBounds fu Sundo.mk p1).bind fun r25 =>
    (cutI r25.length ((IntKind.i64.wrap (p0.tdiv (2 : Int)))) (r25.length : Int)).bind fun w26 =>
    (impl_seam_impl_FrameBounds_2 ((((r25.drop w26.1)).take ((w26.2 - w26.1)))) ((r23.take w24)) p0).bind fun r27 =>
    (cutI r23.length ((IntKind.i64.wrap (p0.tdiv (2 : Int)))) (r23.length : Int)).bind fun w28 =>
    (impl_undo_gather_ofBounds fu Sundo.mk p3).bind fun r29 =>
    (upI r29.length ((IntKind.i64.wrap (p0.tdiv (2 : Int))))).bind fun w30 =>
    (impl_seam_impl_FrameBounds_2 ((((r23.drop w28.1)).take ((w28.2 - w28.1)))) ((r29.take w30)) p0).bind fun r31 =>
    (slices_Concat_int64 ([r27.2, r31.1])).bind fun r32 =>
    some ((SIntsResult.mk 0 r32))
@[go_sem] theorem impl_FrameBounds_u1_ok {β : Type} (fu n : Nat) (K : List (Kont β)) (a1 : Int) (a2 a3 a4 : List Int) : run ⟨(tab fu).own, lev (tab fu) (n + 7), (tab fu).gl⟩ K c45_u1 ⟨[(1, .val (.sh .lent 1 (rowE (eI .i64) a2))), (2, .val (.sh .lent 1 (rowE (eI .i64) a3))), (3, .val (.sh .lent 1 (rowE (eI .i64) a4))), (4, .pt 200000040 0), (8, .pt 200000080 0), (9, .fn 80 [.pt 200000040 0])], [(200000040, .var false [.val (.int .i64 a1)]), (200000080, .var false [.val (.int .i64 0), .emp 1])], 86⟩ = (impl_FrameBounds_u1 fu a1 a2 a3 a4).bind (fun t => plug ⟨(tab fu).own, lev (tab fu) (n + 7), (tab fu).gl⟩ K .normal ⟨[(1, .val (.sh .lent 1 (rowE (eI .i64) a2))), (2, .val (.sh .lent 1 (rowE (eI .i64) a3))), (3, .val (.sh .lent 1 (rowE (eI .i64) a4))), (4, .pt 200000040 0), (8, .pt 200000080 0), (10, .val (.int .i64 t))], [(200000040, .var false [.val (.int .i64 a1)]), (200000080, .var false [.val (.int .i64 0), .emp 1])], 86⟩) := by
  unfold c45_u1
  simp +contextual -implicitDefEqProofs (maxSteps := 99999999) only [impl_FrameBounds_u1, subI, go_sem] <;> rfl
@[go_sem] theorem impl_FrameBounds_u2_ok {β : Type} (fu n : Nat) (K : List (Kont β)) (a18 : Int) (a19 a20 a21 : List Int) : run ⟨(tab fu).own, lev (tab fu) (n + 7), (tab fu).gl⟩ K c45_u2 ⟨[(1, .val (.sh .lent 1 (rowE (eI .i64) a19))), (2, .val (.sh .lent 1 (rowE (eI .i64) a20))), (3, .val (.sh .lent 1 (rowE (eI .i64) a21))), (4, .pt 200000040 0), (8, .pt 200000080 0)], [(200000040, .var false [.val (.int .i64 a18)]), (200000080, .var false [.val (.int .i64 0), .emp 1])], 86⟩ = (some (impl_FrameBounds_u2 fu a18 a19 a20 a21)).bind (fun t => plug ⟨(tab fu).own, lev (tab fu) (n + 7), (tab fu).gl⟩ K .normal ⟨[(1, .val (.sh .lent 1 (rowE (eI .i64) a19))), (2, .val (.sh .lent 1 (rowE (eI .i64) a20))), (3, .val (.sh .lent 1 (rowE (eI .i64) a21))), (4, .pt 200000040 0), (8, .pt 200000080 0), (11, .val (.int .i64 ((IntKind.i64.wrap (a18.tdiv (2 : Int)))))), (12, .pt 200000120 0)], [(200000040, .var false [.val (.int .i64 a18)]), (200000080, .var false [.val (.int .i64 0), .emp 1]), (200000120, .var false [.val (.fn 125 []), .val (.fn 128 [])])], 86⟩) := by
  unfold c45_u2
  rw [run_alts]
  · simp +contextual -implicitDefEqProofs (maxSteps := 99999999) only [impl_FrameBounds_u2, subI, go_sem] <;> (repeat first | rfl | refine bind_ext fun _ _ => ?_ | refine bind_swap fun _ _ _ _ => ?_)
  · refine ⟨?_, trivial⟩
    · simp +contextual -implicitDefEqProofs (maxSteps := 99999999) only [impl_FrameBounds_u2, subI, go_sem] <;> (repeat first | rfl | refine bind_ext fun _ _ => ?_ | refine bind_swap fun _ _ _ _ => ?_)
@[go_sem] theorem impl_FrameBounds_ok (fu n : Nat) (q0_0 : Int) (q1_0 q2_0 q3_0 : List Int) : lev (tab fu) (n + 8) 45 [.int .i64 q0_0, .sh .lent 1 (rowE (eI .i64) q1_0), .sh .lent 1 (rowE (eI .i64) q2_0), .sh .lent 1 (rowE (eI .i64) q3_0)] = (impl_FrameBounds fu q0_0 q1_0 q2_0 q3_0).map fun r => (.agg [.int .i64 r.Code, .ow 1 (rowE (eI .i64) r.List_)], [.gone, .gone, .gone, .gone]) := by
  rw [lev_st (vc := c45) (nt := 86) (rs := [(8, some (some 2))]) ((tab_ext _ _ rfl).trans rfl) rfl (Nat.le_of_ble_eq_true rfl)]
  unfold c45
  simp +contextual -implicitDefEqProofs (maxSteps := 99999999) only [impl_FrameBounds, subI, go_sem] <;> rfl
def impl_EnvelopeAt_u1 (fu : Nat) (a1 : Int) (a2 : List SOutcome) (a3 : Int) : Option (Int) :=
  if (impl_isIndex a3 ((a2.length : Int))) = true then (impl_first ([(impl_codeIf ((decide ((a2.length : Int) > 40))) 2), (impl_SizeFault a1), (impl_codeIf ((decide (a3 < 2))) 3)])).bind fun r4 =>
    some r4
  else (impl_first ([(impl_codeIf ((decide ((a2.length : Int) > 40))) 2), (impl_SizeFault a1), (impl_codeIf true 3)])).bind fun r5 =>
    some r5
def impl_EnvelopeAt_u2 (fu : Nat) (a7 : Int) (a8 : List SOutcome) (a9 : Int) : Option (Int × Int × Bool × Bool × Int × Int × Int × Int × Int × (List Int) × (List Int) × (List (List Int)) × (List Int) × Bool × Int × Int × (List Int) × (List Int) × (List Int) × Int × Int × Bool × Bool × Int × Int × Int × Int × Int × (List Int) × (List Int) × (List (List Int)) × (List Int) × Bool × Int × Int × (List Int) × (List Int) × (List Int) × Int × Int × Bool × Bool × Int × Int × Int × Int × Int × (List Int) × (List Int) × (List (List Int)) × (List Int) × Bool × Int × Int × (List Int) × (List Int) × (List Int)) :=
  (getI a8 (IntKind.i64.wrap (a9 - 2))).bind fun x10 =>
  (getI a8 (IntKind.i64.wrap (a9 - 1))).bind fun x11 =>
  (getI a8 a9).bind fun x12 =>
  some ((x10.Plan.Spread, x10.Plan.Paths, x10.Plan.IntraA, x10.Plan.IntraB, x10.Sent.Number, x10.Sent.Size, x10.Sent.Rung, x10.Sent.Mask, x10.Sent.Spread, x10.Sent.Lows, x10.Sent.Gains, x10.Sent.Pulses, x10.Codes, x10.Played, x10.Number, x10.Source, x10.Frame, x10.Coefs, x10.Bounds, x11.Plan.Spread, x11.Plan.Paths, x11.Plan.IntraA, x11.Plan.IntraB, x11.Sent.Number, x11.Sent.Size, x11.Sent.Rung, x11.Sent.Mask, x11.Sent.Spread, x11.Sent.Lows, x11.Sent.Gains, x11.Sent.Pulses, x11.Codes, x11.Played, x11.Number, x11.Source, x11.Frame, x11.Coefs, x11.Bounds, x12.Plan.Spread, x12.Plan.Paths, x12.Plan.IntraA, x12.Plan.IntraB, x12.Sent.Number, x12.Sent.Size, x12.Sent.Rung, x12.Sent.Mask, x12.Sent.Spread, x12.Sent.Lows, x12.Sent.Gains, x12.Sent.Pulses, x12.Codes, x12.Played, x12.Number, x12.Source, x12.Frame, x12.Coefs, x12.Bounds))
def impl_EnvelopeAt_u3 (fu : Nat) (a14 a15 : Int) (a16 a17 : Bool) (a18 a19 : Int) (a20 a21 a22 : Int) (a23 a24 : List Int) (a25 : List (List Int)) (a26 : List Int) (a27 : Bool) (a28 a29 : Int) (a30 a31 a32 : List Int) (a33 a34 : Int) (a35 a36 : Bool) (a37 a38 : Int) (a39 a40 a41 : Int) (a42 a43 : List Int) (a44 : List (List Int)) (a45 : List Int) (a46 : Bool) (a47 a48 : Int) (a49 a50 a51 : List Int) (a52 a53 : Int) (a54 a55 : Bool) (a56 a57 : Int) (a58 a59 a60 : Int) (a61 a62 : List Int) (a63 : List (List Int)) (a64 : List Int) (a65 : Bool) (a66 a67 : Int) (a68 a69 a70 : List Int) (a71 : Int) : Bool :=
  if (impl_isDecoded ((SOutcome.mk ((SPlan.mk a14 a15 a16 a17)) ((SFrame.mk a18 a19 a20 a21 a22 a23 a24 a25)) a26 a27 a28 a29 a30 a31 a32))) = true then if (impl_isDecoded ((SOutcome.mk ((SPlan.mk a33 a34 a35 a36)) ((SFrame.mk a37 a38 a39 a40 a41 a42 a43 a44)) a45 a46 a47 a48 a49 a50 a51))) = true then if (impl_isDecoded ((SOutcome.mk ((SPlan.mk a52 a53 a54 a55)) ((SFrame.mk a56 a57 a58 a59 a60 a61 a62 a63)) a64 a65 a66 a67 a68 a69 a70))) = true then if (impl_isNumber a28) = true then if (a47 != (IntKind.i64.wrap (a28 + 1))) = true then true
          else (a66 != (IntKind.i64.wrap (a47 + 1)))
        else true
      else true
    else true
  else true
def impl_EnvelopeAt (fu : Nat) (p0 : Int) (p1 : List SOutcome) (p2 : Int) : Option (SIntsResult) :=
  (impl_EnvelopeAt_u1 fu p0 p1 p2).bind fun y6 =>
  if (y6 != 0) = true then some ((SIntsResult.mk y6 ([])))
  else (impl_EnvelopeAt_u2 fu p0 p1 p2).bind fun y13 =>
    let y72 := impl_EnvelopeAt_u3 fu y13.1 y13.2.1 y13.2.2.1 y13.2.2.2.1 y13.2.2.2.2.1 y13.2.2.2.2.2.1 y13.2.2.2.2.2.2.1 y13.2.2.2.2.2.2.2.1 y13.2.2.2.2.2.2.2.2.1 y13.2.2.2.2.2.2.2.2.2.1 y13.2.2.2.2.2.2.2.2.2.2.1 y13.2.2.2.2.2.2.2.2.2.2.2.1 y13.2.2.2.2.2.2.2.2.2.2.2.2.1 y13.2.2.2.2.2.2.2.2.2.2.2.2.2.1 y13.2.2.2.2.2.2.2.2.2.2.2.2.2.2.1 y13.2.2.2.2.2.2.2.2.2.2.2.2.2.2.2.1 y13.2.2.2.2.2.2.2.2.2.2.2.2.2.2.2.2.1 y13.2.2.2.2.2.2.2.2.2.2.2.2.2.2.2.2.2.1 y13.2.2.2.2.2.2.2.2.2.2.2.2.2.2.2.2.2.2.1 y13.2.2.2.2.2.2.2.2.2.2.2.2.2.2.2.2.2.2.2.1 y13.2.2.2.2.2.2.2.2.2.2.2.2.2.2.2.2.2.2.2.2.1 y13.2.2.2.2.2.2.2.2.2.2.2.2.2.2.2.2.2.2.2.2.2.1 y13.2.2.2.2.2.2.2.2.2.2.2.2.2.2.2.2.2.2.2.2.2.2.1 y13.2.2.2.2.2.2.2.2.2.2.2.2.2.2.2.2.2.2.2.2.2.2.2.1 y13.2.2.2.2.2.2.2.2.2.2.2.2.2.2.2.2.2.2.2.2.2.2.2.2.1 y13.2.2.2.2.2.2.2.2.2.2.2.2.2.2.2.2.2.2.2.2.2.2.2.2.2.1 y13.2.2.2.2.2.2.2.2.2.2.2.2.2.2.2.2.2.2.2.2.2.2.2.2.2.2.1 y13.2.2.2.2.2.2.2.2.2.2.2.2.2.2.2.2.2.2.2.2.2.2.2.2.2.2.2.1 y13.2.2.2.2.2.2.2.2.2.2.2.2.2.2.2.2.2.2.2.2.2.2.2.2.2.2.2.2.1 y13.2.2.2.2.2.2.2.2.2.2.2.2.2.2.2.2.2.2.2.2.2.2.2.2.2.2.2.2.2.1 y13.2.2.2.2.2.2.2.2.2.2.2.2.2.2.2.2.2.2.2.2.2.2.2.2.2.2.2.2.2.2.1 y13.2.2.2.2.2.2.2.2.2.2.2.2.2.2.2.2.2.2.2.2.2.2.2.2.2.2.2.2.2.2.2.1 y13.2.2.2.2.2.2.2.2.2.2.2.2.2.2.2.2.2.2.2.2.2.2.2.2.2.2.2.2.2.2.2.2.1 y13.2.2.2.2.2.2.2.2.2.2.2.2.2.2.2.2.2.2.2.2.2.2.2.2.2.2.2.2.2.2.2.2.2.1 y13.2.2.2.2.2.2.2.2.2.2.2.2.2.2.2.2.2.2.2.2.2.2.2.2.2.2.2.2.2.2.2.2.2.2.1 y13.2.2.2.2.2.2.2.2.2.2.2.2.2.2.2.2.2.2.2.2.2.2.2.2.2.2.2.2.2.2.2.2.2.2.2.1 y13.2.2.2.2.2.2.2.2.2.2.2.2.2.2.2.2.2.2.2.2.2.2.2.2.2.2.2.2.2.2.2.2.2.2.2.2.1 y13.2.2.2.2.2.2.2.2.2.2.2.2.2.2.2.2.2.2.2.2.2.2.2.2.2.2.2.2.2.2.2.2.2.2.2.2.2.1 y13.2.2.2.2.2.2.2.2.2.2.2.2.2.2.2.2.2.2.2.2.2.2.2.2.2.2.2.2.2.2.2.2.2.2.2.2.2.2.1 y13.2.2.2.2.2.2.2.2.2.2.2.2.2.2.2.2.2.2.2.2.2.2.2.2.2.2.2.2.2.2.2.2.2.2.2.2.2.2.2.1 y13.2.2.2.2.2.2.2.2.2.2.2.2.2.2.2.2.2.2.2.2.2.2.2.2.2.2.2.2.2.2.2.2.2.2.2.2.2.2.2.2.1 y13.2.2.2.2.2.2.2.2.2.2.2.2.2.2.2.2.2.2.2.2.2.2.2.2.2.2.2.2.2.2.2.2.2.2.2.2.2.2.2.2.2.1 y13.2.2.2.2.2.2.2.2.2.2.2.2.2.2.2.2.2.2.2.2.2.2.2.2.2.2.2.2.2.2.2.2.2.2.2.2.2.2.2.2.2.2.1 y13.2.2.2.2.2.2.2.2.2.2.2.2.2.2.2.2.2.2.2.2.2.2.2.2.2.2.2.2.2.2.2.2.2.2.2.2.2.2.2.2.2.2.2.1 y13.2.2.2.2.2.2.2.2.2.2.2.2.2.2.2.2.2.2.2.2.2.2.2.2.2.2.2.2.2.2.2.2.2.2.2.2.2.2.2.2.2.2.2.2.1 y13.2.2.2.2.2.2.2.2.2.2.2.2.2.2.2.2.2.2.2.2.2.2.2.2.2.2.2.2.2.2.2.2.2.2.2.2.2.2.2.2.2.2.2.2.2.1 y13.2.2.2.2.2.2.2.2.2.2.2.2.2.2.2.2.2.2.2.2.2.2.2.2.2.2.2.2.2.2.2.2.2.2.2.2.2.2.2.2.2.2.2.2.2.2.1 y13.2.2.2.2.2.2.2.2.2.2.2.2.2.2.2.2.2.2.2.2.2.2.2.2.2.2.2.2.2.2.2.2.2.2.2.2.2.2.2.2.2.2.2.2.2.2.2.1 y13.2.2.2.2.2.2.2.2.2.2.2.2.2.2.2.2.2.2.2.2.2.2.2.2.2.2.2.2.2.2.2.2.2.2.2.2.2.2.2.2.2.2.2.2.2.2.2.2.1 y13.2.2.2.2.2.2.2.2.2.2.2.2.2.2.2.2.2.2.2.2.2.2.2.2.2.2.2.2.2.2.2.2.2.2.2.2.2.2.2.2.2.2.2.2.2.2.2.2.2.1 y13.2.2.2.2.2.2.2.2.2.2.2.2.2.2.2.2.2.2.2.2.2.2.2.2.2.2.2.2.2.2.2.2.2.2.2.2.2.2.2.2.2.2.2.2.2.2.2.2.2.2.1 y13.2.2.2.2.2.2.2.2.2.2.2.2.2.2.2.2.2.2.2.2.2.2.2.2.2.2.2.2.2.2.2.2.2.2.2.2.2.2.2.2.2.2.2.2.2.2.2.2.2.2.2.1 y13.2.2.2.2.2.2.2.2.2.2.2.2.2.2.2.2.2.2.2.2.2.2.2.2.2.2.2.2.2.2.2.2.2.2.2.2.2.2.2.2.2.2.2.2.2.2.2.2.2.2.2.2.1 y13.2.2.2.2.2.2.2.2.2.2.2.2.2.2.2.2.2.2.2.2.2.2.2.2.2.2.2.2.2.2.2.2.2.2.2.2.2.2.2.2.2.2.2.2.2.2.2.2.2.2.2.2.2.1 y13.2.2.2.2.2.2.2.2.2.2.2.2.2.2.2.2.2.2.2.2.2.2.2.2.2.2.2.2.2.2.2.2.2.2.2.2.2.2.2.2.2.2.2.2.2.2.2.2.2.2.2.2.2.2.1 y13.2.2.2.2.2.2.2.2.2.2.2.2.2.2.2.2.2.2.2.2.2.2.2.2.2.2.2.2.2.2.2.2.2.2.2.2.2.2.2.2.2.2.2.2.2.2.2.2.2.2.2.2.2.2.2.1 y13.2.2.2.2.2.2.2.2.2.2.2.2.2.2.2.2.2.2.2.2.2.2.2.2.2.2.2.2.2.2.2.2.2.2.2.2.2.2.2.2.2.2.2.2.2.2.2.2.2.2.2.2.2.2.2.2 p0
    if y72 = true then some ((SIntsResult.mk 4 ([])))
    else (impl_FrameBounds fu p0 y13.2.2.2.2.2.2.2.2.2.2.2.2.2.2.2.2.2.2.1 y13.2.2.2.2.2.2.2.2.2.2.2.2.2.2.2.2.2.2.2.2.2.2.2.2.2.2.2.2.2.2.2.2.2.2.2.2.2.1 y13.2.2.2.2.2.2.2.2.2.2.2.2.2.2.2.2.2.2.2.2.2.2.2.2.2.2.2.2.2.2.2.2.2.2.2.2.2.2.2.2.2.2.2.2.2.2.2.2.2.2.2.2.2.2.2.2).bind fun r73 =>
      some r73
@[go_sem] theorem impl_EnvelopeAt_u1_ok {β : Type} (fu n : Nat) (K : List (Kont β)) (a1 : Int) (a2 : List SOutcome) (a3 : Int) : run ⟨(tab fu).own, lev (tab fu) (n + 8), (tab fu).gl⟩ K c9_u1 ⟨[(0, .val (.int .i64 a1)), (1, .val (.sh .lent 19 (rowE (SOutcome.cells .lent) a2))), (2, .val (.int .i64 a3)), (6, .pt 200000060 0)], [(200000060, .var false [.val (.int .i64 0), .emp 1])], 91⟩ = (impl_EnvelopeAt_u1 fu a1 a2 a3).bind (fun t => plug ⟨(tab fu).own, lev (tab fu) (n + 8), (tab fu).gl⟩ K .normal ⟨[(0, .val (.int .i64 a1)), (1, .val (.sh .lent 19 (rowE (SOutcome.cells .lent) a2))), (2, .val (.int .i64 a3)), (6, .pt 200000060 0), (7, .val (.int .i64 t))], [(200000060, .var false [.val (.int .i64 0), .emp 1])], 91⟩) := by
  unfold c9_u1
  simp +contextual -implicitDefEqProofs (maxSteps := 99999999) only [impl_EnvelopeAt_u1, subI, go_sem] <;> rfl
@[go_sem] theorem impl_EnvelopeAt_u2_ok {β : Type} (fu n : Nat) (K : List (Kont β)) (a7 : Int) (a8 : List SOutcome) (a9 : Int) : run ⟨(tab fu).own, lev (tab fu) (n + 8), (tab fu).gl⟩ K c9_u2 ⟨[(0, .val (.int .i64 a7)), (1, .val (.sh .lent 19 (rowE (SOutcome.cells .lent) a8))), (2, .val (.int .i64 a9)), (6, .pt 200000060 0)], [(200000060, .var false [.val (.int .i64 0), .emp 1])], 91⟩ = (impl_EnvelopeAt_u2 fu a7 a8 a9).bind (fun t => plug ⟨(tab fu).own, lev (tab fu) (n + 8), (tab fu).gl⟩ K .normal ⟨[(0, .val (.int .i64 a7)), (6, .pt 200000060 0), (8, .pt 200000080 0), (9, .pt 200000090 0), (10, .pt 200000100 0)], [(200000060, .var false [.val (.int .i64 0), .emp 1]), (200000080, .var false [.val (.int .i64 t.1), .val (.int .i64 t.2.1), .val (.bool t.2.2.1), .val (.bool t.2.2.2.1), .val (.int .i64 t.2.2.2.2.1), .val (.int .i64 t.2.2.2.2.2.1), .val (.int .i64 t.2.2.2.2.2.2.1), .val (.int .i64 t.2.2.2.2.2.2.2.1), .val (.int .i64 t.2.2.2.2.2.2.2.2.1), .val (.sh .lent 1 (rowE (eI .i64) t.2.2.2.2.2.2.2.2.2.1)), .val (.sh .lent 1 (rowE (eI .i64) t.2.2.2.2.2.2.2.2.2.2.1)), .val (.sh .lent 1 (rowE (eL .lent 1 (eI .i64)) t.2.2.2.2.2.2.2.2.2.2.2.1)), .val (.sh .lent 1 (rowE (eI .i64) t.2.2.2.2.2.2.2.2.2.2.2.2.1)), .val (.bool t.2.2.2.2.2.2.2.2.2.2.2.2.2.1), .val (.int .i64 t.2.2.2.2.2.2.2.2.2.2.2.2.2.2.1), .val (.int .i64 t.2.2.2.2.2.2.2.2.2.2.2.2.2.2.2.1), .val (.sh .lent 1 (rowE (eI .i64) t.2.2.2.2.2.2.2.2.2.2.2.2.2.2.2.2.1)), .val (.sh .lent 1 (rowE (eI .i64) t.2.2.2.2.2.2.2.2.2.2.2.2.2.2.2.2.2.1)), .val (.sh .lent 1 (rowE (eI .i64) t.2.2.2.2.2.2.2.2.2.2.2.2.2.2.2.2.2.2.1))]), (200000090, .var false [.val (.int .i64 t.2.2.2.2.2.2.2.2.2.2.2.2.2.2.2.2.2.2.2.1), .val (.int .i64 t.2.2.2.2.2.2.2.2.2.2.2.2.2.2.2.2.2.2.2.2.1), .val (.bool t.2.2.2.2.2.2.2.2.2.2.2.2.2.2.2.2.2.2.2.2.2.1), .val (.bool t.2.2.2.2.2.2.2.2.2.2.2.2.2.2.2.2.2.2.2.2.2.2.1), .val (.int .i64 t.2.2.2.2.2.2.2.2.2.2.2.2.2.2.2.2.2.2.2.2.2.2.2.1), .val (.int .i64 t.2.2.2.2.2.2.2.2.2.2.2.2.2.2.2.2.2.2.2.2.2.2.2.2.1), .val (.int .i64 t.2.2.2.2.2.2.2.2.2.2.2.2.2.2.2.2.2.2.2.2.2.2.2.2.2.1), .val (.int .i64 t.2.2.2.2.2.2.2.2.2.2.2.2.2.2.2.2.2.2.2.2.2.2.2.2.2.2.1), .val (.int .i64 t.2.2.2.2.2.2.2.2.2.2.2.2.2.2.2.2.2.2.2.2.2.2.2.2.2.2.2.1), .val (.sh .lent 1 (rowE (eI .i64) t.2.2.2.2.2.2.2.2.2.2.2.2.2.2.2.2.2.2.2.2.2.2.2.2.2.2.2.2.1)), .val (.sh .lent 1 (rowE (eI .i64) t.2.2.2.2.2.2.2.2.2.2.2.2.2.2.2.2.2.2.2.2.2.2.2.2.2.2.2.2.2.1)), .val (.sh .lent 1 (rowE (eL .lent 1 (eI .i64)) t.2.2.2.2.2.2.2.2.2.2.2.2.2.2.2.2.2.2.2.2.2.2.2.2.2.2.2.2.2.2.1)), .val (.sh .lent 1 (rowE (eI .i64) t.2.2.2.2.2.2.2.2.2.2.2.2.2.2.2.2.2.2.2.2.2.2.2.2.2.2.2.2.2.2.2.1)), .val (.bool t.2.2.2.2.2.2.2.2.2.2.2.2.2.2.2.2.2.2.2.2.2.2.2.2.2.2.2.2.2.2.2.2.1), .val (.int .i64 t.2.2.2.2.2.2.2.2.2.2.2.2.2.2.2.2.2.2.2.2.2.2.2.2.2.2.2.2.2.2.2.2.2.1), .val (.int .i64 t.2.2.2.2.2.2.2.2.2.2.2.2.2.2.2.2.2.2.2.2.2.2.2.2.2.2.2.2.2.2.2.2.2.2.1), .val (.sh .lent 1 (rowE (eI .i64) t.2.2.2.2.2.2.2.2.2.2.2.2.2.2.2.2.2.2.2.2.2.2.2.2.2.2.2.2.2.2.2.2.2.2.2.1)), .val (.sh .lent 1 (rowE (eI .i64) t.2.2.2.2.2.2.2.2.2.2.2.2.2.2.2.2.2.2.2.2.2.2.2.2.2.2.2.2.2.2.2.2.2.2.2.2.1)), .val (.sh .lent 1 (rowE (eI .i64) t.2.2.2.2.2.2.2.2.2.2.2.2.2.2.2.2.2.2.2.2.2.2.2.2.2.2.2.2.2.2.2.2.2.2.2.2.2.1))]), (200000100, .var false [.val (.int .i64 t.2.2.2.2.2.2.2.2.2.2.2.2.2.2.2.2.2.2.2.2.2.2.2.2.2.2.2.2.2.2.2.2.2.2.2.2.2.2.1), .val (.int .i64 t.2.2.2.2.2.2.2.2.2.2.2.2.2.2.2.2.2.2.2.2.2.2.2.2.2.2.2.2.2.2.2.2.2.2.2.2.2.2.2.1), .val (.bool t.2.2.2.2.2.2.2.2.2.2.2.2.2.2.2.2.2.2.2.2.2.2.2.2.2.2.2.2.2.2.2.2.2.2.2.2.2.2.2.2.1), .val (.bool t.2.2.2.2.2.2.2.2.2.2.2.2.2.2.2.2.2.2.2.2.2.2.2.2.2.2.2.2.2.2.2.2.2.2.2.2.2.2.2.2.2.1), .val (.int .i64 t.2.2.2.2.2.2.2.2.2.2.2.2.2.2.2.2.2.2.2.2.2.2.2.2.2.2.2.2.2.2.2.2.2.2.2.2.2.2.2.2.2.2.1), .val (.int .i64 t.2.2.2.2.2.2.2.2.2.2.2.2.2.2.2.2.2.2.2.2.2.2.2.2.2.2.2.2.2.2.2.2.2.2.2.2.2.2.2.2.2.2.2.1), .val (.int .i64 t.2.2.2.2.2.2.2.2.2.2.2.2.2.2.2.2.2.2.2.2.2.2.2.2.2.2.2.2.2.2.2.2.2.2.2.2.2.2.2.2.2.2.2.2.1), .val (.int .i64 t.2.2.2.2.2.2.2.2.2.2.2.2.2.2.2.2.2.2.2.2.2.2.2.2.2.2.2.2.2.2.2.2.2.2.2.2.2.2.2.2.2.2.2.2.2.1), .val (.int .i64 t.2.2.2.2.2.2.2.2.2.2.2.2.2.2.2.2.2.2.2.2.2.2.2.2.2.2.2.2.2.2.2.2.2.2.2.2.2.2.2.2.2.2.2.2.2.2.1), .val (.sh .lent 1 (rowE (eI .i64) t.2.2.2.2.2.2.2.2.2.2.2.2.2.2.2.2.2.2.2.2.2.2.2.2.2.2.2.2.2.2.2.2.2.2.2.2.2.2.2.2.2.2.2.2.2.2.2.1)), .val (.sh .lent 1 (rowE (eI .i64) t.2.2.2.2.2.2.2.2.2.2.2.2.2.2.2.2.2.2.2.2.2.2.2.2.2.2.2.2.2.2.2.2.2.2.2.2.2.2.2.2.2.2.2.2.2.2.2.2.1)), .val (.sh .lent 1 (rowE (eL .lent 1 (eI .i64)) t.2.2.2.2.2.2.2.2.2.2.2.2.2.2.2.2.2.2.2.2.2.2.2.2.2.2.2.2.2.2.2.2.2.2.2.2.2.2.2.2.2.2.2.2.2.2.2.2.2.1)), .val (.sh .lent 1 (rowE (eI .i64) t.2.2.2.2.2.2.2.2.2.2.2.2.2.2.2.2.2.2.2.2.2.2.2.2.2.2.2.2.2.2.2.2.2.2.2.2.2.2.2.2.2.2.2.2.2.2.2.2.2.2.1)), .val (.bool t.2.2.2.2.2.2.2.2.2.2.2.2.2.2.2.2.2.2.2.2.2.2.2.2.2.2.2.2.2.2.2.2.2.2.2.2.2.2.2.2.2.2.2.2.2.2.2.2.2.2.2.1), .val (.int .i64 t.2.2.2.2.2.2.2.2.2.2.2.2.2.2.2.2.2.2.2.2.2.2.2.2.2.2.2.2.2.2.2.2.2.2.2.2.2.2.2.2.2.2.2.2.2.2.2.2.2.2.2.2.1), .val (.int .i64 t.2.2.2.2.2.2.2.2.2.2.2.2.2.2.2.2.2.2.2.2.2.2.2.2.2.2.2.2.2.2.2.2.2.2.2.2.2.2.2.2.2.2.2.2.2.2.2.2.2.2.2.2.2.1), .val (.sh .lent 1 (rowE (eI .i64) t.2.2.2.2.2.2.2.2.2.2.2.2.2.2.2.2.2.2.2.2.2.2.2.2.2.2.2.2.2.2.2.2.2.2.2.2.2.2.2.2.2.2.2.2.2.2.2.2.2.2.2.2.2.2.1)), .val (.sh .lent 1 (rowE (eI .i64) t.2.2.2.2.2.2.2.2.2.2.2.2.2.2.2.2.2.2.2.2.2.2.2.2.2.2.2.2.2.2.2.2.2.2.2.2.2.2.2.2.2.2.2.2.2.2.2.2.2.2.2.2.2.2.2.1)), .val (.sh .lent 1 (rowE (eI .i64) t.2.2.2.2.2.2.2.2.2.2.2.2.2.2.2.2.2.2.2.2.2.2.2.2.2.2.2.2.2.2.2.2.2.2.2.2.2.2.2.2.2.2.2.2.2.2.2.2.2.2.2.2.2.2.2.2))])], 91⟩) := by
  unfold c9_u2
  rw [run_alts]
  · simp +contextual -implicitDefEqProofs (maxSteps := 99999999) only [impl_EnvelopeAt_u2, subI, go_sem] <;> (repeat first | rfl | refine bind_ext fun _ _ => ?_ | refine bind_swap fun _ _ _ _ => ?_)
  · refine ⟨?_, ?_, ?_, ?_, ?_, trivial⟩
    · simp +contextual -implicitDefEqProofs (maxSteps := 99999999) only [impl_EnvelopeAt_u2, subI, go_sem] <;> (repeat first | rfl | refine bind_ext fun _ _ => ?_ | refine bind_swap fun _ _ _ _ => ?_)
    · simp +contextual -implicitDefEqProofs (maxSteps := 99999999) only [impl_EnvelopeAt_u2, subI, go_sem] <;> (repeat first | rfl | refine bind_ext fun _ _ => ?_ | refine bind_swap fun _ _ _ _ => ?_)
    · simp +contextual -implicitDefEqProofs (maxSteps := 99999999) only [impl_EnvelopeAt_u2, subI, go_sem] <;> (repeat first | rfl | refine bind_ext fun _ _ => ?_ | refine bind_swap fun _ _ _ _ => ?_)
    · simp +contextual -implicitDefEqProofs (maxSteps := 99999999) only [impl_EnvelopeAt_u2, subI, go_sem] <;> (repeat first | rfl | refine bind_ext fun _ _ => ?_ | refine bind_swap fun _ _ _ _ => ?_)
    · simp +contextual -implicitDefEqProofs (maxSteps := 99999999) only [impl_EnvelopeAt_u2, subI, go_sem] <;> (repeat first | rfl | refine bind_ext fun _ _ => ?_ | refine bind_swap fun _ _ _ _ => ?_)
@[go_sem] theorem impl_EnvelopeAt_u3_ok {β : Type} (fu n : Nat) (K : List (Kont β)) (a14 a15 : Int) (a16 a17 : Bool) (a18 a19 : Int) (a20 a21 a22 : Int) (a23 a24 : List Int) (a25 : List (List Int)) (a26 : List Int) (a27 : Bool) (a28 a29 : Int) (a30 a31 a32 : List Int) (a33 a34 : Int) (a35 a36 : Bool) (a37 a38 : Int) (a39 a40 a41 : Int) (a42 a43 : List Int) (a44 : List (List Int)) (a45 : List Int) (a46 : Bool) (a47 a48 : Int) (a49 a50 a51 : List Int) (a52 a53 : Int) (a54 a55 : Bool) (a56 a57 : Int) (a58 a59 a60 : Int) (a61 a62 : List Int) (a63 : List (List Int)) (a64 : List Int) (a65 : Bool) (a66 a67 : Int) (a68 a69 a70 : List Int) (a71 : Int) : run ⟨(tab fu).own, lev (tab fu) (n + 8), (tab fu).gl⟩ K c9_u3 ⟨[(0, .val (.int .i64 a71)), (6, .pt 200000060 0), (8, .pt 200000080 0), (9, .pt 200000090 0), (10, .pt 200000100 0)], [(200000060, .var false [.val (.int .i64 0), .emp 1]), (200000080, .var false [.val (.int .i64 a14), .val (.int .i64 a15), .val (.bool a16), .val (.bool a17), .val (.int .i64 a18), .val (.int .i64 a19), .val (.int .i64 a20), .val (.int .i64 a21), .val (.int .i64 a22), .val (.sh .lent 1 (rowE (eI .i64) a23)), .val (.sh .lent 1 (rowE (eI .i64) a24)), .val (.sh .lent 1 (rowE (eL .lent 1 (eI .i64)) a25)), .val (.sh .lent 1 (rowE (eI .i64) a26)), .val (.bool a27), .val (.int .i64 a28), .val (.int .i64 a29), .val (.sh .lent 1 (rowE (eI .i64) a30)), .val (.sh .lent 1 (rowE (eI .i64) a31)), .val (.sh .lent 1 (rowE (eI .i64) a32))]), (200000090, .var false [.val (.int .i64 a33), .val (.int .i64 a34), .val (.bool a35), .val (.bool a36), .val (.int .i64 a37), .val (.int .i64 a38), .val (.int .i64 a39), .val (.int .i64 a40), .val (.int .i64 a41), .val (.sh .lent 1 (rowE (eI .i64) a42)), .val (.sh .lent 1 (rowE (eI .i64) a43)), .val (.sh .lent 1 (rowE (eL .lent 1 (eI .i64)) a44)), .val (.sh .lent 1 (rowE (eI .i64) a45)), .val (.bool a46), .val (.int .i64 a47), .val (.int .i64 a48), .val (.sh .lent 1 (rowE (eI .i64) a49)), .val (.sh .lent 1 (rowE (eI .i64) a50)), .val (.sh .lent 1 (rowE (eI .i64) a51))]), (200000100, .var false [.val (.int .i64 a52), .val (.int .i64 a53), .val (.bool a54), .val (.bool a55), .val (.int .i64 a56), .val (.int .i64 a57), .val (.int .i64 a58), .val (.int .i64 a59), .val (.int .i64 a60), .val (.sh .lent 1 (rowE (eI .i64) a61)), .val (.sh .lent 1 (rowE (eI .i64) a62)), .val (.sh .lent 1 (rowE (eL .lent 1 (eI .i64)) a63)), .val (.sh .lent 1 (rowE (eI .i64) a64)), .val (.bool a65), .val (.int .i64 a66), .val (.int .i64 a67), .val (.sh .lent 1 (rowE (eI .i64) a68)), .val (.sh .lent 1 (rowE (eI .i64) a69)), .val (.sh .lent 1 (rowE (eI .i64) a70))])], 91⟩ = (some (impl_EnvelopeAt_u3 fu a14 a15 a16 a17 a18 a19 a20 a21 a22 a23 a24 a25 a26 a27 a28 a29 a30 a31 a32 a33 a34 a35 a36 a37 a38 a39 a40 a41 a42 a43 a44 a45 a46 a47 a48 a49 a50 a51 a52 a53 a54 a55 a56 a57 a58 a59 a60 a61 a62 a63 a64 a65 a66 a67 a68 a69 a70 a71)).bind (fun t => plug ⟨(tab fu).own, lev (tab fu) (n + 8), (tab fu).gl⟩ K .normal ⟨[(0, .val (.int .i64 a71)), (6, .pt 200000060 0), (8, .pt 200000080 0), (9, .pt 200000090 0), (10, .pt 200000100 0), (81, .val (.bool t))], [(200000060, .var false [.val (.int .i64 0), .emp 1]), (200000080, .var false [.val (.int .i64 a14), .val (.int .i64 a15), .val (.bool a16), .val (.bool a17), .val (.int .i64 a18), .val (.int .i64 a19), .val (.int .i64 a20), .val (.int .i64 a21), .val (.int .i64 a22), .val (.sh .lent 1 (rowE (eI .i64) a23)), .val (.sh .lent 1 (rowE (eI .i64) a24)), .val (.sh .lent 1 (rowE (eL .lent 1 (eI .i64)) a25)), .val (.sh .lent 1 (rowE (eI .i64) a26)), .val (.bool a27), .val (.int .i64 a28), .val (.int .i64 a29), .val (.sh .lent 1 (rowE (eI .i64) a30)), .val (.sh .lent 1 (rowE (eI .i64) a31)), .val (.sh .lent 1 (rowE (eI .i64) a32))]), (200000090, .var false [.val (.int .i64 a33), .val (.int .i64 a34), .val (.bool a35), .val (.bool a36), .val (.int .i64 a37), .val (.int .i64 a38), .val (.int .i64 a39), .val (.int .i64 a40), .val (.int .i64 a41), .val (.sh .lent 1 (rowE (eI .i64) a42)), .val (.sh .lent 1 (rowE (eI .i64) a43)), .val (.sh .lent 1 (rowE (eL .lent 1 (eI .i64)) a44)), .val (.sh .lent 1 (rowE (eI .i64) a45)), .val (.bool a46), .val (.int .i64 a47), .val (.int .i64 a48), .val (.sh .lent 1 (rowE (eI .i64) a49)), .val (.sh .lent 1 (rowE (eI .i64) a50)), .val (.sh .lent 1 (rowE (eI .i64) a51))]), (200000100, .var false [.val (.int .i64 a52), .val (.int .i64 a53), .val (.bool a54), .val (.bool a55), .val (.int .i64 a56), .val (.int .i64 a57), .val (.int .i64 a58), .val (.int .i64 a59), .val (.int .i64 a60), .val (.sh .lent 1 (rowE (eI .i64) a61)), .val (.sh .lent 1 (rowE (eI .i64) a62)), .val (.sh .lent 1 (rowE (eL .lent 1 (eI .i64)) a63)), .val (.sh .lent 1 (rowE (eI .i64) a64)), .val (.bool a65), .val (.int .i64 a66), .val (.int .i64 a67), .val (.sh .lent 1 (rowE (eI .i64) a68)), .val (.sh .lent 1 (rowE (eI .i64) a69)), .val (.sh .lent 1 (rowE (eI .i64) a70))])], 91⟩) := by
  unfold c9_u3
  simp +contextual -implicitDefEqProofs (maxSteps := 99999999) only [impl_EnvelopeAt_u3, subI, go_sem] <;> rfl
@[go_sem] theorem impl_EnvelopeAt_ok (fu n : Nat) (q0_0 : Int) (q1_0 : List SOutcome) (q2_0 : Int) : lev (tab fu) (n + 9) 9 [.int .i64 q0_0, .sh .lent 19 (rowE (SOutcome.cells .lent) q1_0), .int .i64 q2_0] = (impl_EnvelopeAt fu q0_0 q1_0 q2_0).map fun r => (.agg [.int .i64 r.Code, .ow 1 (rowE (eI .i64) r.List_)], [.gone, .gone, .gone]) := by
  rw [lev_st (vc := c9) (nt := 91) (rs := [(6, some (some 2))]) ((tab_ext _ _ rfl).trans rfl) rfl (Nat.le_of_ble_eq_true rfl)]
  unfold c9
  simp +contextual -implicitDefEqProofs (maxSteps := 99999999) only [impl_EnvelopeAt, subI, go_sem] <;> rfl
def laws_eqInt64S_s1 (a6 a7 : List Int) : Int → Option ((Int) ⊕ (Unit ⊕ Unit)) := fun a8 =>
  if (decide (a8 < (a6.length : Int))) = true then (getI a6 a8).bind fun x9 =>
    (getI a7 a8).bind fun x10 =>
    if (x9 != x10) = true then some ((.inr ((.inr (())))))
    else some ((.inl ((IntKind.i64.wrap (a8 + 1)))))
  else some ((.inr ((.inl (())))))
def laws_eqInt64S (p0 p1 : List Int) : Option (Bool) :=
  if ((p0.length : Int) != (p1.length : Int)) = true then some false
  else (loopO (laws_eqInt64S_s1 p0 p1) 0).bind fun t => (Sum.elim (fun y11 => some true)
     (fun y12 => some false)) t
@[go_sem] theorem laws_eqInt64S_s1_ok {β : Type} (fu n : Nat) (K : List (Kont β)) (a6 a7 : List Int) (a8 : Int) : run ⟨(tab fu).own, lev (tab fu) n, (tab fu).gl⟩ K (.loop c46_u1) ⟨[(0, .val (.sh .lent 1 (rowE (eI .i64) a6))), (1, .val (.sh .lent 1 (rowE (eI .i64) a7))), (5, .val (.int .i64 a8))], [], 26⟩ = (loopO (laws_eqInt64S_s1 a6 a7) a8).bind (fun t => (Sum.elim (fun t => plug ⟨(tab fu).own, lev (tab fu) n, (tab fu).gl⟩ K (.exit 0) ⟨[], [], 26⟩) (fun t => plug ⟨(tab fu).own, lev (tab fu) n, (tab fu).gl⟩ K .ret ⟨[(4, .val (.bool false))], [], 26⟩)) t) := by
  refine loop_run (C := ⟨(tab fu).own, lev (tab fu) n, (tab fu).gl⟩) (K := K) (c := c46_u1) (laws_eqInt64S_s1 a6 a7) (fun s => ⟨[(0, .val (.sh .lent 1 (rowE (eI .i64) a6))), (1, .val (.sh .lent 1 (rowE (eI .i64) a7))), (5, .val (.int .i64 s))], [], 26⟩) (fun t => (Sum.elim (fun t => plug ⟨(tab fu).own, lev (tab fu) n, (tab fu).gl⟩ K (.exit 0) ⟨[], [], 26⟩) (fun t => plug ⟨(tab fu).own, lev (tab fu) n, (tab fu).gl⟩ K .ret ⟨[(4, .val (.bool false))], [], 26⟩)) t) (fun k s => ?_) a8
  unfold c46_u1
  simp +contextual -implicitDefEqProofs (maxSteps := 99999999) only [laws_eqInt64S_s1, subI, go_sem] <;> rfl
@[go_sem] theorem laws_eqInt64S_ok (fu n : Nat) (q0_0 q1_0 : List Int) : lev (tab fu) (n + 1) 46 [.sh .lent 1 (rowE (eI .i64) q0_0), .sh .lent 1 (rowE (eI .i64) q1_0)] = (laws_eqInt64S q0_0 q1_0).map fun r => (.bool r, [.gone, .gone]) := by
  rw [lev_st (vc := c46) (nt := 26) (rs := [(4, none)]) ((tab_ext _ _ rfl).trans rfl) rfl (Nat.le_of_ble_eq_true rfl)]
  unfold c46
  simp +contextual -implicitDefEqProofs (maxSteps := 99999999) only [laws_eqInt64S, subI, go_sem] <;> rfl
def laws_eqIntsResult (p0 p1 : SIntsResult) : Option (Bool) :=
  if (p0.Code != p1.Code) = true then some false
  else (laws_eqInt64S p0.List_ p1.List_).bind fun r1 =>
    if r1 = true then some true
    else some false
@[go_sem] theorem laws_eqIntsResult_ok (fu n : Nat) (q0_0 : Int) (q0_1 : List Int) (q1_0 : Int) (q1_1 : List Int) : lev (tab fu) (n + 2) 10 [.agg [.int .i64 q0_0, .sh .lent 1 (rowE (eI .i64) q0_1)], .agg [.int .i64 q1_0, .sh .lent 1 (rowE (eI .i64) q1_1)]] = (laws_eqIntsResult (SIntsResult.mk q0_0 q0_1) (SIntsResult.mk q1_0 q1_1)).map fun r => (.bool r, [.gone, .gone]) := by
  rw [lev_st (vc := c10) (nt := 16) (rs := [(4, none)]) ((tab_ext _ _ rfl).trans rfl) rfl (Nat.le_of_ble_eq_true rfl)]
  unfold c10
  simp +contextual -implicitDefEqProofs (maxSteps := 99999999) only [laws_eqIntsResult, subI, go_sem] <;> rfl
def laws_eqPlan (p0 p1 : SPlan) : Bool :=
  if (p0.Spread != p1.Spread) = true then false
  else if (p0.Paths != p1.Paths) = true then false
    else if (p0.IntraA == p1.IntraA) = true then if (p0.IntraB == p1.IntraB) = true then true
        else false
      else false
@[go_sem] theorem laws_eqPlan_ok (fu n : Nat) (q0_0 q0_1 : Int) (q0_2 q0_3 : Bool) (q1_0 q1_1 : Int) (q1_2 q1_3 : Bool) : lev (tab fu) (n + 1) 87 [.agg [.int .i64 q0_0, .int .i64 q0_1, .bool q0_2, .bool q0_3], .agg [.int .i64 q1_0, .int .i64 q1_1, .bool q1_2, .bool q1_3]] = (some (laws_eqPlan (SPlan.mk q0_0 q0_1 q0_2 q0_3) (SPlan.mk q1_0 q1_1 q1_2 q1_3))).map fun r => (.bool r, [.gone, .gone]) := by
  rw [lev_st (vc := c87) (nt := 25) (rs := [(4, none)]) ((tab_ext _ _ rfl).trans rfl) rfl (Nat.le_of_ble_eq_true rfl)]
  unfold c87
  simp +contextual -implicitDefEqProofs (maxSteps := 99999999) only [laws_eqPlan, subI, go_sem] <;> rfl
def laws_eqInt64SS_s1 (a7 a8 : List (List Int)) : Int → Option ((Int) ⊕ (Unit ⊕ Unit)) := fun a9 =>
  if (decide (a9 < (a7.length : Int))) = true then (getI a7 a9).bind fun x10 =>
    (getI a8 a9).bind fun x11 =>
    (laws_eqInt64S x10 x11).bind fun r12 =>
    if r12 = true then some ((.inl ((IntKind.i64.wrap (a9 + 1)))))
    else some ((.inr ((.inr (())))))
  else some ((.inr ((.inl (())))))
def laws_eqInt64SS (p0 p1 : List (List Int)) : Option (Bool) :=
  if ((p0.length : Int) != (p1.length : Int)) = true then some false
  else (loopO (laws_eqInt64SS_s1 p0 p1) 0).bind fun t => (Sum.elim (fun y13 => some true)
     (fun y14 => some false)) t
@[go_sem] theorem laws_eqInt64SS_s1_ok {β : Type} (fu n : Nat) (K : List (Kont β)) (a7 a8 : List (List Int)) (a9 : Int) : run ⟨(tab fu).own, lev (tab fu) (n + 1), (tab fu).gl⟩ K (.loop c19_u1) ⟨[(0, .val (.sh .lent 1 (rowE (eL .lent 1 (eI .i64)) a7))), (1, .val (.sh .lent 1 (rowE (eL .lent 1 (eI .i64)) a8))), (5, .val (.int .i64 a9))], [], 27⟩ = (loopO (laws_eqInt64SS_s1 a7 a8) a9).bind (fun t => (Sum.elim (fun t => plug ⟨(tab fu).own, lev (tab fu) (n + 1), (tab fu).gl⟩ K (.exit 0) ⟨[], [], 27⟩) (fun t => plug ⟨(tab fu).own, lev (tab fu) (n + 1), (tab fu).gl⟩ K .ret ⟨[(4, .val (.bool false))], [], 27⟩)) t) := by
  refine loop_run (C := ⟨(tab fu).own, lev (tab fu) (n + 1), (tab fu).gl⟩) (K := K) (c := c19_u1) (laws_eqInt64SS_s1 a7 a8) (fun s => ⟨[(0, .val (.sh .lent 1 (rowE (eL .lent 1 (eI .i64)) a7))), (1, .val (.sh .lent 1 (rowE (eL .lent 1 (eI .i64)) a8))), (5, .val (.int .i64 s))], [], 27⟩) (fun t => (Sum.elim (fun t => plug ⟨(tab fu).own, lev (tab fu) (n + 1), (tab fu).gl⟩ K (.exit 0) ⟨[], [], 27⟩) (fun t => plug ⟨(tab fu).own, lev (tab fu) (n + 1), (tab fu).gl⟩ K .ret ⟨[(4, .val (.bool false))], [], 27⟩)) t) (fun k s => ?_) a9
  unfold c19_u1
  simp +contextual -implicitDefEqProofs (maxSteps := 99999999) only [laws_eqInt64SS_s1, subI, go_sem] <;> rfl
@[go_sem] theorem laws_eqInt64SS_ok (fu n : Nat) (q0_0 q1_0 : List (List Int)) : lev (tab fu) (n + 2) 19 [.sh .lent 1 (rowE (eL .lent 1 (eI .i64)) q0_0), .sh .lent 1 (rowE (eL .lent 1 (eI .i64)) q1_0)] = (laws_eqInt64SS q0_0 q1_0).map fun r => (.bool r, [.gone, .gone]) := by
  rw [lev_st (vc := c19) (nt := 27) (rs := [(4, none)]) ((tab_ext _ _ rfl).trans rfl) rfl (Nat.le_of_ble_eq_true rfl)]
  unfold c19
  simp +contextual -implicitDefEqProofs (maxSteps := 99999999) only [laws_eqInt64SS, subI, go_sem] <;> rfl
def laws_eqFrame_u1 (a18 a19 : Int) (a20 a21 a22 : Int) (a23 a24 : List Int) (a25 : List (List Int)) (a26 a27 : Int) (a28 a29 a30 : Int) (a31 a32 : List Int) (a33 : List (List Int)) : Option (Bool) :=
  (laws_eqInt64S a24 a32).bind fun r34 =>
  if r34 = true then (laws_eqInt64SS a25 a33).bind fun r35 =>
    if r35 = true then some true
    else some false
  else some false
def laws_eqFrame_u2 (a1 a2 : Int) (a3 a4 a5 : Int) (a6 a7 : List Int) (a8 : List (List Int)) (a9 a10 : Int) (a11 a12 a13 : Int) (a14 a15 : List Int) (a16 : List (List Int)) : Option (Bool) :=
  if (a4 != a12) = true then some false
  else if (a5 != a13) = true then some false
    else (laws_eqInt64S a6 a14).bind fun r17 =>
      if r17 = true then (laws_eqFrame_u1 a1 a2 a3 a4 a5 a6 a7 a8 a9 a10 a11 a12 a13 a14 a15 a16).bind fun y36 =>
        some y36
      else some false
def laws_eqFrame (p0 p1 : SFrame) : Option (Bool) :=
  if (p0.Number != p1.Number) = true then some false
  else if (p0.Size != p1.Size) = true then some false
    else if (p0.Rung != p1.Rung) = true then some false
      else (laws_eqFrame_u2 p0.Number p0.Size p0.Rung p0.Mask p0.Spread p0.Lows p0.Gains p0.Pulses p1.Number p1.Size p1.Rung p1.Mask p1.Spread p1.Lows p1.Gains p1.Pulses).bind fun y37 =>
        some y37
@[go_sem] theorem laws_eqFrame_u1_ok {β : Type} (fu n : Nat) (K : List (Kont β)) (a18 a19 : Int) (a20 a21 a22 : Int) (a23 a24 : List Int) (a25 : List (List Int)) (a26 a27 : Int) (a28 a29 a30 : Int) (a31 a32 : List Int) (a33 : List (List Int)) : run ⟨(tab fu).own, lev (tab fu) (n + 2), (tab fu).gl⟩ K c88_u1 ⟨[(2, .pt 200000020 0), (3, .pt 200000030 0)], [(200000020, .var false [.val (.int .i64 a18), .val (.int .i64 a19), .val (.int .i64 a20), .val (.int .i64 a21), .val (.int .i64 a22), .val (.sh .lent 1 (rowE (eI .i64) a23)), .val (.sh .lent 1 (rowE (eI .i64) a24)), .val (.sh .lent 1 (rowE (eL .lent 1 (eI .i64)) a25))]), (200000030, .var false [.val (.int .i64 a26), .val (.int .i64 a27), .val (.int .i64 a28), .val (.int .i64 a29), .val (.int .i64 a30), .val (.sh .lent 1 (rowE (eI .i64) a31)), .val (.sh .lent 1 (rowE (eI .i64) a32)), .val (.sh .lent 1 (rowE (eL .lent 1 (eI .i64)) a33))])], 48⟩ = (laws_eqFrame_u1 a18 a19 a20 a21 a22 a23 a24 a25 a26 a27 a28 a29 a30 a31 a32 a33).bind (fun t => plug ⟨(tab fu).own, lev (tab fu) (n + 2), (tab fu).gl⟩ K .ret ⟨[(4, .val (.bool t))], [], 48⟩) := by
  unfold c88_u1
  simp +contextual -implicitDefEqProofs (maxSteps := 99999999) only [laws_eqFrame_u1, subI, go_sem] <;> rfl
@[go_sem] theorem laws_eqFrame_u2_ok {β : Type} (fu n : Nat) (K : List (Kont β)) (a1 a2 : Int) (a3 a4 a5 : Int) (a6 a7 : List Int) (a8 : List (List Int)) (a9 a10 : Int) (a11 a12 a13 : Int) (a14 a15 : List Int) (a16 : List (List Int)) : run ⟨(tab fu).own, lev (tab fu) (n + 2), (tab fu).gl⟩ K c88_u2 ⟨[(2, .pt 200000020 0), (3, .pt 200000030 0)], [(200000020, .var false [.val (.int .i64 a1), .val (.int .i64 a2), .val (.int .i64 a3), .val (.int .i64 a4), .val (.int .i64 a5), .val (.sh .lent 1 (rowE (eI .i64) a6)), .val (.sh .lent 1 (rowE (eI .i64) a7)), .val (.sh .lent 1 (rowE (eL .lent 1 (eI .i64)) a8))]), (200000030, .var false [.val (.int .i64 a9), .val (.int .i64 a10), .val (.int .i64 a11), .val (.int .i64 a12), .val (.int .i64 a13), .val (.sh .lent 1 (rowE (eI .i64) a14)), .val (.sh .lent 1 (rowE (eI .i64) a15)), .val (.sh .lent 1 (rowE (eL .lent 1 (eI .i64)) a16))])], 48⟩ = (laws_eqFrame_u2 a1 a2 a3 a4 a5 a6 a7 a8 a9 a10 a11 a12 a13 a14 a15 a16).bind (fun t => plug ⟨(tab fu).own, lev (tab fu) (n + 2), (tab fu).gl⟩ K .ret ⟨[(4, .val (.bool t))], [], 48⟩) := by
  unfold c88_u2
  simp +contextual -implicitDefEqProofs (maxSteps := 99999999) only [laws_eqFrame_u2, subI, go_sem] <;> rfl
@[go_sem] theorem laws_eqFrame_ok (fu n : Nat) (q0_0 q0_1 : Int) (q0_2 q0_3 q0_4 : Int) (q0_5 q0_6 : List Int) (q0_7 : List (List Int)) (q1_0 q1_1 : Int) (q1_2 q1_3 q1_4 : Int) (q1_5 q1_6 : List Int) (q1_7 : List (List Int)) : lev (tab fu) (n + 3) 88 [.agg [.int .i64 q0_0, .int .i64 q0_1, .int .i64 q0_2, .int .i64 q0_3, .int .i64 q0_4, .sh .lent 1 (rowE (eI .i64) q0_5), .sh .lent 1 (rowE (eI .i64) q0_6), .sh .lent 1 (rowE (eL .lent 1 (eI .i64)) q0_7)], .agg [.int .i64 q1_0, .int .i64 q1_1, .int .i64 q1_2, .int .i64 q1_3, .int .i64 q1_4, .sh .lent 1 (rowE (eI .i64) q1_5), .sh .lent 1 (rowE (eI .i64) q1_6), .sh .lent 1 (rowE (eL .lent 1 (eI .i64)) q1_7)]] = (laws_eqFrame (SFrame.mk q0_0 q0_1 q0_2 q0_3 q0_4 q0_5 q0_6 q0_7) (SFrame.mk q1_0 q1_1 q1_2 q1_3 q1_4 q1_5 q1_6 q1_7)).map fun r => (.bool r, [.gone, .gone]) := by
  rw [lev_st (vc := c88) (nt := 48) (rs := [(4, none)]) ((tab_ext _ _ rfl).trans rfl) rfl (Nat.le_of_ble_eq_true rfl)]
  unfold c88
  simp +contextual -implicitDefEqProofs (maxSteps := 99999999) only [laws_eqFrame, subI, go_sem] <;> rfl
def laws_eqOutcome_u1 (a1 a2 : Int) (a3 a4 : Bool) (a5 a6 : Int) (a7 a8 a9 : Int) (a10 a11 : List Int) (a12 : List (List Int)) (a13 : List Int) (a14 : Bool) (a15 a16 : Int) (a17 a18 a19 : List Int) (a20 a21 : Int) (a22 a23 : Bool) (a24 a25 : Int) (a26 a27 a28 : Int) (a29 a30 : List Int) (a31 : List (List Int)) (a32 : List Int) (a33 : Bool) (a34 a35 : Int) (a36 a37 a38 : List Int) : Bool :=
  (!(laws_eqPlan ((SPlan.mk a1 a2 a3 a4)) ((SPlan.mk a20 a21 a22 a23))))
def laws_eqOutcome_u2 (a40 a41 : Int) (a42 a43 : Bool) (a44 a45 : Int) (a46 a47 a48 : Int) (a49 a50 : List Int) (a51 : List (List Int)) (a52 : List Int) (a53 : Bool) (a54 a55 : Int) (a56 a57 a58 : List Int) (a59 a60 : Int) (a61 a62 : Bool) (a63 a64 : Int) (a65 a66 a67 : Int) (a68 a69 : List Int) (a70 : List (List Int)) (a71 : List Int) (a72 : Bool) (a73 a74 : Int) (a75 a76 a77 : List Int) : Option (Bool) :=
  (laws_eqFrame ((SFrame.mk a44 a45 a46 a47 a48 a49 a50 a51)) ((SFrame.mk a63 a64 a65 a66 a67 a68 a69 a70))).bind fun r78 =>
  some ((!r78))
def laws_eqOutcome_u3 (a80 a81 : Int) (a82 a83 : Bool) (a84 a85 : Int) (a86 a87 a88 : Int) (a89 a90 : List Int) (a91 : List (List Int)) (a92 : List Int) (a93 : Bool) (a94 a95 : Int) (a96 a97 a98 : List Int) (a99 a100 : Int) (a101 a102 : Bool) (a103 a104 : Int) (a105 a106 a107 : Int) (a108 a109 : List Int) (a110 : List (List Int)) (a111 : List Int) (a112 : Bool) (a113 a114 : Int) (a115 a116 a117 : List Int) : Option (Bool) :=
  (laws_eqInt64S a92 a111).bind fun r118 =>
  some ((!r118))
def laws_eqOutcome_u4 (a196 a197 : Int) (a198 a199 : Bool) (a200 a201 : Int) (a202 a203 a204 : Int) (a205 a206 : List Int) (a207 : List (List Int)) (a208 : List Int) (a209 : Bool) (a210 a211 : Int) (a212 a213 a214 : List Int) (a215 a216 : Int) (a217 a218 : Bool) (a219 a220 : Int) (a221 a222 a223 : Int) (a224 a225 : List Int) (a226 : List (List Int)) (a227 : List Int) (a228 : Bool) (a229 a230 : Int) (a231 a232 a233 : List Int) : Option (Bool) :=
  (laws_eqInt64S a212 a231).bind fun r234 =>
  some ((!r234))
def laws_eqOutcome_u5 (a236 a237 : Int) (a238 a239 : Bool) (a240 a241 : Int) (a242 a243 a244 : Int) (a245 a246 : List Int) (a247 : List (List Int)) (a248 : List Int) (a249 : Bool) (a250 a251 : Int) (a252 a253 a254 : List Int) (a255 a256 : Int) (a257 a258 : Bool) (a259 a260 : Int) (a261 a262 a263 : Int) (a264 a265 : List Int) (a266 : List (List Int)) (a267 : List Int) (a268 : Bool) (a269 a270 : Int) (a271 a272 a273 : List Int) : Option (Bool) :=
  (laws_eqInt64S a253 a272).bind fun r274 =>
  some ((!r274))
def laws_eqOutcome_u6 (a276 a277 : Int) (a278 a279 : Bool) (a280 a281 : Int) (a282 a283 a284 : Int) (a285 a286 : List Int) (a287 : List (List Int)) (a288 : List Int) (a289 : Bool) (a290 a291 : Int) (a292 a293 a294 : List Int) (a295 a296 : Int) (a297 a298 : Bool) (a299 a300 : Int) (a301 a302 a303 : Int) (a304 a305 : List Int) (a306 : List (List Int)) (a307 : List Int) (a308 : Bool) (a309 a310 : Int) (a311 a312 a313 : List Int) : Option (Bool) :=
  (laws_eqInt64S a294 a313).bind fun r314 =>
  some ((!r314))
def laws_eqOutcome_u7 (a158 a159 : Int) (a160 a161 : Bool) (a162 a163 : Int) (a164 a165 a166 : Int) (a167 a168 : List Int) (a169 : List (List Int)) (a170 : List Int) (a171 : Bool) (a172 a173 : Int) (a174 a175 a176 : List Int) (a177 a178 : Int) (a179 a180 : Bool) (a181 a182 : Int) (a183 a184 a185 : Int) (a186 a187 : List Int) (a188 : List (List Int)) (a189 : List Int) (a190 : Bool) (a191 a192 : Int) (a193 a194 a195 : List Int) : Option (Bool) :=
  (laws_eqOutcome_u4 a158 a159 a160 a161 a162 a163 a164 a165 a166 a167 a168 a169 a170 a171 a172 a173 a174 a175 a176 a177 a178 a179 a180 a181 a182 a183 a184 a185 a186 a187 a188 a189 a190 a191 a192 a193 a194 a195).bind fun y235 =>
  if y235 = true then some false
  else (laws_eqOutcome_u5 a158 a159 a160 a161 a162 a163 a164 a165 a166 a167 a168 a169 a170 a171 a172 a173 a174 a175 a176 a177 a178 a179 a180 a181 a182 a183 a184 a185 a186 a187 a188 a189 a190 a191 a192 a193 a194 a195).bind fun y275 =>
    if y275 = true then some false
    else (laws_eqOutcome_u6 a158 a159 a160 a161 a162 a163 a164 a165 a166 a167 a168 a169 a170 a171 a172 a173 a174 a175 a176 a177 a178 a179 a180 a181 a182 a183 a184 a185 a186 a187 a188 a189 a190 a191 a192 a193 a194 a195).bind fun y315 =>
      if y315 = true then some false
      else some true
def laws_eqOutcome_u8 (a120 a121 : Int) (a122 a123 : Bool) (a124 a125 : Int) (a126 a127 a128 : Int) (a129 a130 : List Int) (a131 : List (List Int)) (a132 : List Int) (a133 : Bool) (a134 a135 : Int) (a136 a137 a138 : List Int) (a139 a140 : Int) (a141 a142 : Bool) (a143 a144 : Int) (a145 a146 a147 : Int) (a148 a149 : List Int) (a150 : List (List Int)) (a151 : List Int) (a152 : Bool) (a153 a154 : Int) (a155 a156 a157 : List Int) : Option (Bool) :=
  if (a133 == a152) = true then if (a134 != a153) = true then some false
    else if (a135 != a154) = true then some false
      else (laws_eqOutcome_u7 a120 a121 a122 a123 a124 a125 a126 a127 a128 a129 a130 a131 a132 a133 a134 a135 a136 a137 a138 a139 a140 a141 a142 a143 a144 a145 a146 a147 a148 a149 a150 a151 a152 a153 a154 a155 a156 a157).bind fun y316 =>
        some y316
  else some false
def laws_eqOutcome (p0 p1 : SOutcome) : Option (Bool) :=
  let y39 := laws_eqOutcome_u1 p0.Plan.Spread p0.Plan.Paths p0.Plan.IntraA p0.Plan.IntraB p0.Sent.Number p0.Sent.Size p0.Sent.Rung p0.Sent.Mask p0.Sent.Spread p0.Sent.Lows p0.Sent.Gains p0.Sent.Pulses p0.Codes p0.Played p0.Number p0.Source p0.Frame p0.Coefs p0.Bounds p1.Plan.Spread p1.Plan.Paths p1.Plan.IntraA p1.Plan.IntraB p1.Sent.Number p1.Sent.Size p1.Sent.Rung p1.Sent.Mask p1.Sent.Spread p1.Sent.Lows p1.Sent.Gains p1.Sent.Pulses p1.Codes p1.Played p1.Number p1.Source p1.Frame p1.Coefs p1.Bounds
  if y39 = true then some false
  else (laws_eqOutcome_u2 p0.Plan.Spread p0.Plan.Paths p0.Plan.IntraA p0.Plan.IntraB p0.Sent.Number p0.Sent.Size p0.Sent.Rung p0.Sent.Mask p0.Sent.Spread p0.Sent.Lows p0.Sent.Gains p0.Sent.Pulses p0.Codes p0.Played p0.Number p0.Source p0.Frame p0.Coefs p0.Bounds p1.Plan.Spread p1.Plan.Paths p1.Plan.IntraA p1.Plan.IntraB p1.Sent.Number p1.Sent.Size p1.Sent.Rung p1.Sent.Mask p1.Sent.Spread p1.Sent.Lows p1.Sent.Gains p1.Sent.Pulses p1.Codes p1.Played p1.Number p1.Source p1.Frame p1.Coefs p1.Bounds).bind fun y79 =>
    if y79 = true then some false
    else (laws_eqOutcome_u3 p0.Plan.Spread p0.Plan.Paths p0.Plan.IntraA p0.Plan.IntraB p0.Sent.Number p0.Sent.Size p0.Sent.Rung p0.Sent.Mask p0.Sent.Spread p0.Sent.Lows p0.Sent.Gains p0.Sent.Pulses p0.Codes p0.Played p0.Number p0.Source p0.Frame p0.Coefs p0.Bounds p1.Plan.Spread p1.Plan.Paths p1.Plan.IntraA p1.Plan.IntraB p1.Sent.Number p1.Sent.Size p1.Sent.Rung p1.Sent.Mask p1.Sent.Spread p1.Sent.Lows p1.Sent.Gains p1.Sent.Pulses p1.Codes p1.Played p1.Number p1.Source p1.Frame p1.Coefs p1.Bounds).bind fun y119 =>
      if y119 = true then some false
      else (laws_eqOutcome_u8 p0.Plan.Spread p0.Plan.Paths p0.Plan.IntraA p0.Plan.IntraB p0.Sent.Number p0.Sent.Size p0.Sent.Rung p0.Sent.Mask p0.Sent.Spread p0.Sent.Lows p0.Sent.Gains p0.Sent.Pulses p0.Codes p0.Played p0.Number p0.Source p0.Frame p0.Coefs p0.Bounds p1.Plan.Spread p1.Plan.Paths p1.Plan.IntraA p1.Plan.IntraB p1.Sent.Number p1.Sent.Size p1.Sent.Rung p1.Sent.Mask p1.Sent.Spread p1.Sent.Lows p1.Sent.Gains p1.Sent.Pulses p1.Codes p1.Played p1.Number p1.Source p1.Frame p1.Coefs p1.Bounds).bind fun y317 =>
        some y317
@[go_sem] theorem laws_eqOutcome_u1_ok {β : Type} (fu n : Nat) (K : List (Kont β)) (a1 a2 : Int) (a3 a4 : Bool) (a5 a6 : Int) (a7 a8 a9 : Int) (a10 a11 : List Int) (a12 : List (List Int)) (a13 : List Int) (a14 : Bool) (a15 a16 : Int) (a17 a18 a19 : List Int) (a20 a21 : Int) (a22 a23 : Bool) (a24 a25 : Int) (a26 a27 a28 : Int) (a29 a30 : List Int) (a31 : List (List Int)) (a32 : List Int) (a33 : Bool) (a34 a35 : Int) (a36 a37 a38 : List Int) : run ⟨(tab fu).own, lev (tab fu) (n + 3), (tab fu).gl⟩ K c47_u1 ⟨[(2, .pt 200000020 0), (3, .pt 200000030 0)], [(200000020, .var false [.val (.int .i64 a1), .val (.int .i64 a2), .val (.bool a3), .val (.bool a4), .val (.int .i64 a5), .val (.int .i64 a6), .val (.int .i64 a7), .val (.int .i64 a8), .val (.int .i64 a9), .val (.sh .lent 1 (rowE (eI .i64) a10)), .val (.sh .lent 1 (rowE (eI .i64) a11)), .val (.sh .lent 1 (rowE (eL .lent 1 (eI .i64)) a12)), .val (.sh .lent 1 (rowE (eI .i64) a13)), .val (.bool a14), .val (.int .i64 a15), .val (.int .i64 a16), .val (.sh .lent 1 (rowE (eI .i64) a17)), .val (.sh .lent 1 (rowE (eI .i64) a18)), .val (.sh .lent 1 (rowE (eI .i64) a19))]), (200000030, .var false [.val (.int .i64 a20), .val (.int .i64 a21), .val (.bool a22), .val (.bool a23), .val (.int .i64 a24), .val (.int .i64 a25), .val (.int .i64 a26), .val (.int .i64 a27), .val (.int .i64 a28), .val (.sh .lent 1 (rowE (eI .i64) a29)), .val (.sh .lent 1 (rowE (eI .i64) a30)), .val (.sh .lent 1 (rowE (eL .lent 1 (eI .i64)) a31)), .val (.sh .lent 1 (rowE (eI .i64) a32)), .val (.bool a33), .val (.int .i64 a34), .val (.int .i64 a35), .val (.sh .lent 1 (rowE (eI .i64) a36)), .val (.sh .lent 1 (rowE (eI .i64) a37)), .val (.sh .lent 1 (rowE (eI .i64) a38))])], 56⟩ = (some (laws_eqOutcome_u1 a1 a2 a3 a4 a5 a6 a7 a8 a9 a10 a11 a12 a13 a14 a15 a16 a17 a18 a19 a20 a21 a22 a23 a24 a25 a26 a27 a28 a29 a30 a31 a32 a33 a34 a35 a36 a37 a38)).bind (fun t => plug ⟨(tab fu).own, lev (tab fu) (n + 3), (tab fu).gl⟩ K .normal ⟨[(2, .pt 200000020 0), (3, .pt 200000030 0), (10, .val (.bool t))], [(200000020, .var false [.val (.int .i64 a1), .val (.int .i64 a2), .val (.bool a3), .val (.bool a4), .val (.int .i64 a5), .val (.int .i64 a6), .val (.int .i64 a7), .val (.int .i64 a8), .val (.int .i64 a9), .val (.sh .lent 1 (rowE (eI .i64) a10)), .val (.sh .lent 1 (rowE (eI .i64) a11)), .val (.sh .lent 1 (rowE (eL .lent 1 (eI .i64)) a12)), .val (.sh .lent 1 (rowE (eI .i64) a13)), .val (.bool a14), .val (.int .i64 a15), .val (.int .i64 a16), .val (.sh .lent 1 (rowE (eI .i64) a17)), .val (.sh .lent 1 (rowE (eI .i64) a18)), .val (.sh .lent 1 (rowE (eI .i64) a19))]), (200000030, .var false [.val (.int .i64 a20), .val (.int .i64 a21), .val (.bool a22), .val (.bool a23), .val (.int .i64 a24), .val (.int .i64 a25), .val (.int .i64 a26), .val (.int .i64 a27), .val (.int .i64 a28), .val (.sh .lent 1 (rowE (eI .i64) a29)), .val (.sh .lent 1 (rowE (eI .i64) a30)), .val (.sh .lent 1 (rowE (eL .lent 1 (eI .i64)) a31)), .val (.sh .lent 1 (rowE (eI .i64) a32)), .val (.bool a33), .val (.int .i64 a34), .val (.int .i64 a35), .val (.sh .lent 1 (rowE (eI .i64) a36)), .val (.sh .lent 1 (rowE (eI .i64) a37)), .val (.sh .lent 1 (rowE (eI .i64) a38))])], 56⟩) := by
  unfold c47_u1
  simp +contextual -implicitDefEqProofs (maxSteps := 99999999) only [laws_eqOutcome_u1, subI, go_sem] <;> rfl
@[go_sem] theorem laws_eqOutcome_u2_ok {β : Type} (fu n : Nat) (K : List (Kont β)) (a40 a41 : Int) (a42 a43 : Bool) (a44 a45 : Int) (a46 a47 a48 : Int) (a49 a50 : List Int) (a51 : List (List Int)) (a52 : List Int) (a53 : Bool) (a54 a55 : Int) (a56 a57 a58 : List Int) (a59 a60 : Int) (a61 a62 : Bool) (a63 a64 : Int) (a65 a66 a67 : Int) (a68 a69 : List Int) (a70 : List (List Int)) (a71 : List Int) (a72 : Bool) (a73 a74 : Int) (a75 a76 a77 : List Int) : run ⟨(tab fu).own, lev (tab fu) (n + 3), (tab fu).gl⟩ K c47_u2 ⟨[(2, .pt 200000020 0), (3, .pt 200000030 0)], [(200000020, .var false [.val (.int .i64 a40), .val (.int .i64 a41), .val (.bool a42), .val (.bool a43), .val (.int .i64 a44), .val (.int .i64 a45), .val (.int .i64 a46), .val (.int .i64 a47), .val (.int .i64 a48), .val (.sh .lent 1 (rowE (eI .i64) a49)), .val (.sh .lent 1 (rowE (eI .i64) a50)), .val (.sh .lent 1 (rowE (eL .lent 1 (eI .i64)) a51)), .val (.sh .lent 1 (rowE (eI .i64) a52)), .val (.bool a53), .val (.int .i64 a54), .val (.int .i64 a55), .val (.sh .lent 1 (rowE (eI .i64) a56)), .val (.sh .lent 1 (rowE (eI .i64) a57)), .val (.sh .lent 1 (rowE (eI .i64) a58))]), (200000030, .var false [.val (.int .i64 a59), .val (.int .i64 a60), .val (.bool a61), .val (.bool a62), .val (.int .i64 a63), .val (.int .i64 a64), .val (.int .i64 a65), .val (.int .i64 a66), .val (.int .i64 a67), .val (.sh .lent 1 (rowE (eI .i64) a68)), .val (.sh .lent 1 (rowE (eI .i64) a69)), .val (.sh .lent 1 (rowE (eL .lent 1 (eI .i64)) a70)), .val (.sh .lent 1 (rowE (eI .i64) a71)), .val (.bool a72), .val (.int .i64 a73), .val (.int .i64 a74), .val (.sh .lent 1 (rowE (eI .i64) a75)), .val (.sh .lent 1 (rowE (eI .i64) a76)), .val (.sh .lent 1 (rowE (eI .i64) a77))])], 56⟩ = (laws_eqOutcome_u2 a40 a41 a42 a43 a44 a45 a46 a47 a48 a49 a50 a51 a52 a53 a54 a55 a56 a57 a58 a59 a60 a61 a62 a63 a64 a65 a66 a67 a68 a69 a70 a71 a72 a73 a74 a75 a76 a77).bind (fun t => plug ⟨(tab fu).own, lev (tab fu) (n + 3), (tab fu).gl⟩ K .normal ⟨[(2, .pt 200000020 0), (3, .pt 200000030 0), (16, .val (.bool t))], [(200000020, .var false [.val (.int .i64 a40), .val (.int .i64 a41), .val (.bool a42), .val (.bool a43), .val (.int .i64 a44), .val (.int .i64 a45), .val (.int .i64 a46), .val (.int .i64 a47), .val (.int .i64 a48), .val (.sh .lent 1 (rowE (eI .i64) a49)), .val (.sh .lent 1 (rowE (eI .i64) a50)), .val (.sh .lent 1 (rowE (eL .lent 1 (eI .i64)) a51)), .val (.sh .lent 1 (rowE (eI .i64) a52)), .val (.bool a53), .val (.int .i64 a54), .val (.int .i64 a55), .val (.sh .lent 1 (rowE (eI .i64) a56)), .val (.sh .lent 1 (rowE (eI .i64) a57)), .val (.sh .lent 1 (rowE (eI .i64) a58))]), (200000030, .var false [.val (.int .i64 a59), .val (.int .i64 a60), .val (.bool a61), .val (.bool a62), .val (.int .i64 a63), .val (.int .i64 a64), .val (.int .i64 a65), .val (.int .i64 a66), .val (.int .i64 a67), .val (.sh .lent 1 (rowE (eI .i64) a68)), .val (.sh .lent 1 (rowE (eI .i64) a69)), .val (.sh .lent 1 (rowE (eL .lent 1 (eI .i64)) a70)), .val (.sh .lent 1 (rowE (eI .i64) a71)), .val (.bool a72), .val (.int .i64 a73), .val (.int .i64 a74), .val (.sh .lent 1 (rowE (eI .i64) a75)), .val (.sh .lent 1 (rowE (eI .i64) a76)), .val (.sh .lent 1 (rowE (eI .i64) a77))])], 56⟩) := by
  unfold c47_u2
  simp +contextual -implicitDefEqProofs (maxSteps := 99999999) only [laws_eqOutcome_u2, subI, go_sem] <;> rfl
@[go_sem] theorem laws_eqOutcome_u3_ok {β : Type} (fu n : Nat) (K : List (Kont β)) (a80 a81 : Int) (a82 a83 : Bool) (a84 a85 : Int) (a86 a87 a88 : Int) (a89 a90 : List Int) (a91 : List (List Int)) (a92 : List Int) (a93 : Bool) (a94 a95 : Int) (a96 a97 a98 : List Int) (a99 a100 : Int) (a101 a102 : Bool) (a103 a104 : Int) (a105 a106 a107 : Int) (a108 a109 : List Int) (a110 : List (List Int)) (a111 : List Int) (a112 : Bool) (a113 a114 : Int) (a115 a116 a117 : List Int) : run ⟨(tab fu).own, lev (tab fu) (n + 3), (tab fu).gl⟩ K c47_u3 ⟨[(2, .pt 200000020 0), (3, .pt 200000030 0)], [(200000020, .var false [.val (.int .i64 a80), .val (.int .i64 a81), .val (.bool a82), .val (.bool a83), .val (.int .i64 a84), .val (.int .i64 a85), .val (.int .i64 a86), .val (.int .i64 a87), .val (.int .i64 a88), .val (.sh .lent 1 (rowE (eI .i64) a89)), .val (.sh .lent 1 (rowE (eI .i64) a90)), .val (.sh .lent 1 (rowE (eL .lent 1 (eI .i64)) a91)), .val (.sh .lent 1 (rowE (eI .i64) a92)), .val (.bool a93), .val (.int .i64 a94), .val (.int .i64 a95), .val (.sh .lent 1 (rowE (eI .i64) a96)), .val (.sh .lent 1 (rowE (eI .i64) a97)), .val (.sh .lent 1 (rowE (eI .i64) a98))]), (200000030, .var false [.val (.int .i64 a99), .val (.int .i64 a100), .val (.bool a101), .val (.bool a102), .val (.int .i64 a103), .val (.int .i64 a104), .val (.int .i64 a105), .val (.int .i64 a106), .val (.int .i64 a107), .val (.sh .lent 1 (rowE (eI .i64) a108)), .val (.sh .lent 1 (rowE (eI .i64) a109)), .val (.sh .lent 1 (rowE (eL .lent 1 (eI .i64)) a110)), .val (.sh .lent 1 (rowE (eI .i64) a111)), .val (.bool a112), .val (.int .i64 a113), .val (.int .i64 a114), .val (.sh .lent 1 (rowE (eI .i64) a115)), .val (.sh .lent 1 (rowE (eI .i64) a116)), .val (.sh .lent 1 (rowE (eI .i64) a117))])], 56⟩ = (laws_eqOutcome_u3 a80 a81 a82 a83 a84 a85 a86 a87 a88 a89 a90 a91 a92 a93 a94 a95 a96 a97 a98 a99 a100 a101 a102 a103 a104 a105 a106 a107 a108 a109 a110 a111 a112 a113 a114 a115 a116 a117).bind (fun t => plug ⟨(tab fu).own, lev (tab fu) (n + 3), (tab fu).gl⟩ K .normal ⟨[(2, .pt 200000020 0), (3, .pt 200000030 0), (22, .val (.bool t))], [(200000020, .var false [.val (.int .i64 a80), .val (.int .i64 a81), .val (.bool a82), .val (.bool a83), .val (.int .i64 a84), .val (.int .i64 a85), .val (.int .i64 a86), .val (.int .i64 a87), .val (.int .i64 a88), .val (.sh .lent 1 (rowE (eI .i64) a89)), .val (.sh .lent 1 (rowE (eI .i64) a90)), .val (.sh .lent 1 (rowE (eL .lent 1 (eI .i64)) a91)), .val (.sh .lent 1 (rowE (eI .i64) a92)), .val (.bool a93), .val (.int .i64 a94), .val (.int .i64 a95), .val (.sh .lent 1 (rowE (eI .i64) a96)), .val (.sh .lent 1 (rowE (eI .i64) a97)), .val (.sh .lent 1 (rowE (eI .i64) a98))]), (200000030, .var false [.val (.int .i64 a99), .val (.int .i64 a100), .val (.bool a101), .val (.bool a102), .val (.int .i64 a103), .val (.int .i64 a104), .val (.int .i64 a105), .val (.int .i64 a106), .val (.int .i64 a107), .val (.sh .lent 1 (rowE (eI .i64) a108)), .val (.sh .lent 1 (rowE (eI .i64) a109)), .val (.sh .lent 1 (rowE (eL .lent 1 (eI .i64)) a110)), .val (.sh .lent 1 (rowE (eI .i64) a111)), .val (.bool a112), .val (.int .i64 a113), .val (.int .i64 a114), .val (.sh .lent 1 (rowE (eI .i64) a115)), .val (.sh .lent 1 (rowE (eI .i64) a116)), .val (.sh .lent 1 (rowE (eI .i64) a117))])], 56⟩) := by
  unfold c47_u3
  simp +contextual -implicitDefEqProofs (maxSteps := 99999999) only [laws_eqOutcome_u3, subI, go_sem] <;> rfl
@[go_sem] theorem laws_eqOutcome_u4_ok {β : Type} (fu n : Nat) (K : List (Kont β)) (a196 a197 : Int) (a198 a199 : Bool) (a200 a201 : Int) (a202 a203 a204 : Int) (a205 a206 : List Int) (a207 : List (List Int)) (a208 : List Int) (a209 : Bool) (a210 a211 : Int) (a212 a213 a214 : List Int) (a215 a216 : Int) (a217 a218 : Bool) (a219 a220 : Int) (a221 a222 a223 : Int) (a224 a225 : List Int) (a226 : List (List Int)) (a227 : List Int) (a228 : Bool) (a229 a230 : Int) (a231 a232 a233 : List Int) : run ⟨(tab fu).own, lev (tab fu) (n + 3), (tab fu).gl⟩ K c47_u4 ⟨[(2, .pt 200000020 0), (3, .pt 200000030 0)], [(200000020, .var false [.val (.int .i64 a196), .val (.int .i64 a197), .val (.bool a198), .val (.bool a199), .val (.int .i64 a200), .val (.int .i64 a201), .val (.int .i64 a202), .val (.int .i64 a203), .val (.int .i64 a204), .val (.sh .lent 1 (rowE (eI .i64) a205)), .val (.sh .lent 1 (rowE (eI .i64) a206)), .val (.sh .lent 1 (rowE (eL .lent 1 (eI .i64)) a207)), .val (.sh .lent 1 (rowE (eI .i64) a208)), .val (.bool a209), .val (.int .i64 a210), .val (.int .i64 a211), .val (.sh .lent 1 (rowE (eI .i64) a212)), .val (.sh .lent 1 (rowE (eI .i64) a213)), .val (.sh .lent 1 (rowE (eI .i64) a214))]), (200000030, .var false [.val (.int .i64 a215), .val (.int .i64 a216), .val (.bool a217), .val (.bool a218), .val (.int .i64 a219), .val (.int .i64 a220), .val (.int .i64 a221), .val (.int .i64 a222), .val (.int .i64 a223), .val (.sh .lent 1 (rowE (eI .i64) a224)), .val (.sh .lent 1 (rowE (eI .i64) a225)), .val (.sh .lent 1 (rowE (eL .lent 1 (eI .i64)) a226)), .val (.sh .lent 1 (rowE (eI .i64) a227)), .val (.bool a228), .val (.int .i64 a229), .val (.int .i64 a230), .val (.sh .lent 1 (rowE (eI .i64) a231)), .val (.sh .lent 1 (rowE (eI .i64) a232)), .val (.sh .lent 1 (rowE (eI .i64) a233))])], 56⟩ = (laws_eqOutcome_u4 a196 a197 a198 a199 a200 a201 a202 a203 a204 a205 a206 a207 a208 a209 a210 a211 a212 a213 a214 a215 a216 a217 a218 a219 a220 a221 a222 a223 a224 a225 a226 a227 a228 a229 a230 a231 a232 a233).bind (fun t => plug ⟨(tab fu).own, lev (tab fu) (n + 3), (tab fu).gl⟩ K .normal ⟨[(2, .pt 200000020 0), (3, .pt 200000030 0), (43, .val (.bool t))], [(200000020, .var false [.val (.int .i64 a196), .val (.int .i64 a197), .val (.bool a198), .val (.bool a199), .val (.int .i64 a200), .val (.int .i64 a201), .val (.int .i64 a202), .val (.int .i64 a203), .val (.int .i64 a204), .val (.sh .lent 1 (rowE (eI .i64) a205)), .val (.sh .lent 1 (rowE (eI .i64) a206)), .val (.sh .lent 1 (rowE (eL .lent 1 (eI .i64)) a207)), .val (.sh .lent 1 (rowE (eI .i64) a208)), .val (.bool a209), .val (.int .i64 a210), .val (.int .i64 a211), .val (.sh .lent 1 (rowE (eI .i64) a212)), .val (.sh .lent 1 (rowE (eI .i64) a213)), .val (.sh .lent 1 (rowE (eI .i64) a214))]), (200000030, .var false [.val (.int .i64 a215), .val (.int .i64 a216), .val (.bool a217), .val (.bool a218), .val (.int .i64 a219), .val (.int .i64 a220), .val (.int .i64 a221), .val (.int .i64 a222), .val (.int .i64 a223), .val (.sh .lent 1 (rowE (eI .i64) a224)), .val (.sh .lent 1 (rowE (eI .i64) a225)), .val (.sh .lent 1 (rowE (eL .lent 1 (eI .i64)) a226)), .val (.sh .lent 1 (rowE (eI .i64) a227)), .val (.bool a228), .val (.int .i64 a229), .val (.int .i64 a230), .val (.sh .lent 1 (rowE (eI .i64) a231)), .val (.sh .lent 1 (rowE (eI .i64) a232)), .val (.sh .lent 1 (rowE (eI .i64) a233))])], 56⟩) := by
  unfold c47_u4
  simp +contextual -implicitDefEqProofs (maxSteps := 99999999) only [laws_eqOutcome_u4, subI, go_sem] <;> rfl
@[go_sem] theorem laws_eqOutcome_u5_ok {β : Type} (fu n : Nat) (K : List (Kont β)) (a236 a237 : Int) (a238 a239 : Bool) (a240 a241 : Int) (a242 a243 a244 : Int) (a245 a246 : List Int) (a247 : List (List Int)) (a248 : List Int) (a249 : Bool) (a250 a251 : Int) (a252 a253 a254 : List Int) (a255 a256 : Int) (a257 a258 : Bool) (a259 a260 : Int) (a261 a262 a263 : Int) (a264 a265 : List Int) (a266 : List (List Int)) (a267 : List Int) (a268 : Bool) (a269 a270 : Int) (a271 a272 a273 : List Int) : run ⟨(tab fu).own, lev (tab fu) (n + 3), (tab fu).gl⟩ K c47_u5 ⟨[(2, .pt 200000020 0), (3, .pt 200000030 0)], [(200000020, .var false [.val (.int .i64 a236), .val (.int .i64 a237), .val (.bool a238), .val (.bool a239), .val (.int .i64 a240), .val (.int .i64 a241), .val (.int .i64 a242), .val (.int .i64 a243), .val (.int .i64 a244), .val (.sh .lent 1 (rowE (eI .i64) a245)), .val (.sh .lent 1 (rowE (eI .i64) a246)), .val (.sh .lent 1 (rowE (eL .lent 1 (eI .i64)) a247)), .val (.sh .lent 1 (rowE (eI .i64) a248)), .val (.bool a249), .val (.int .i64 a250), .val (.int .i64 a251), .val (.sh .lent 1 (rowE (eI .i64) a252)), .val (.sh .lent 1 (rowE (eI .i64) a253)), .val (.sh .lent 1 (rowE (eI .i64) a254))]), (200000030, .var false [.val (.int .i64 a255), .val (.int .i64 a256), .val (.bool a257), .val (.bool a258), .val (.int .i64 a259), .val (.int .i64 a260), .val (.int .i64 a261), .val (.int .i64 a262), .val (.int .i64 a263), .val (.sh .lent 1 (rowE (eI .i64) a264)), .val (.sh .lent 1 (rowE (eI .i64) a265)), .val (.sh .lent 1 (rowE (eL .lent 1 (eI .i64)) a266)), .val (.sh .lent 1 (rowE (eI .i64) a267)), .val (.bool a268), .val (.int .i64 a269), .val (.int .i64 a270), .val (.sh .lent 1 (rowE (eI .i64) a271)), .val (.sh .lent 1 (rowE (eI .i64) a272)), .val (.sh .lent 1 (rowE (eI .i64) a273))])], 56⟩ = (laws_eqOutcome_u5 a236 a237 a238 a239 a240 a241 a242 a243 a244 a245 a246 a247 a248 a249 a250 a251 a252 a253 a254 a255 a256 a257 a258 a259 a260 a261 a262 a263 a264 a265 a266 a267 a268 a269 a270 a271 a272 a273).bind (fun t => plug ⟨(tab fu).own, lev (tab fu) (n + 3), (tab fu).gl⟩ K .normal ⟨[(2, .pt 200000020 0), (3, .pt 200000030 0), (49, .val (.bool t))], [(200000020, .var false [.val (.int .i64 a236), .val (.int .i64 a237), .val (.bool a238), .val (.bool a239), .val (.int .i64 a240), .val (.int .i64 a241), .val (.int .i64 a242), .val (.int .i64 a243), .val (.int .i64 a244), .val (.sh .lent 1 (rowE (eI .i64) a245)), .val (.sh .lent 1 (rowE (eI .i64) a246)), .val (.sh .lent 1 (rowE (eL .lent 1 (eI .i64)) a247)), .val (.sh .lent 1 (rowE (eI .i64) a248)), .val (.bool a249), .val (.int .i64 a250), .val (.int .i64 a251), .val (.sh .lent 1 (rowE (eI .i64) a252)), .val (.sh .lent 1 (rowE (eI .i64) a253)), .val (.sh .lent 1 (rowE (eI .i64) a254))]), (200000030, .var false [.val (.int .i64 a255), .val (.int .i64 a256), .val (.bool a257), .val (.bool a258), .val (.int .i64 a259), .val (.int .i64 a260), .val (.int .i64 a261), .val (.int .i64 a262), .val (.int .i64 a263), .val (.sh .lent 1 (rowE (eI .i64) a264)), .val (.sh .lent 1 (rowE (eI .i64) a265)), .val (.sh .lent 1 (rowE (eL .lent 1 (eI .i64)) a266)), .val (.sh .lent 1 (rowE (eI .i64) a267)), .val (.bool a268), .val (.int .i64 a269), .val (.int .i64 a270), .val (.sh .lent 1 (rowE (eI .i64) a271)), .val (.sh .lent 1 (rowE (eI .i64) a272)), .val (.sh .lent 1 (rowE (eI .i64) a273))])], 56⟩) := by
  unfold c47_u5
  simp +contextual -implicitDefEqProofs (maxSteps := 99999999) only [laws_eqOutcome_u5, subI, go_sem] <;> rfl
@[go_sem] theorem laws_eqOutcome_u6_ok {β : Type} (fu n : Nat) (K : List (Kont β)) (a276 a277 : Int) (a278 a279 : Bool) (a280 a281 : Int) (a282 a283 a284 : Int) (a285 a286 : List Int) (a287 : List (List Int)) (a288 : List Int) (a289 : Bool) (a290 a291 : Int) (a292 a293 a294 : List Int) (a295 a296 : Int) (a297 a298 : Bool) (a299 a300 : Int) (a301 a302 a303 : Int) (a304 a305 : List Int) (a306 : List (List Int)) (a307 : List Int) (a308 : Bool) (a309 a310 : Int) (a311 a312 a313 : List Int) : run ⟨(tab fu).own, lev (tab fu) (n + 3), (tab fu).gl⟩ K c47_u6 ⟨[(2, .pt 200000020 0), (3, .pt 200000030 0)], [(200000020, .var false [.val (.int .i64 a276), .val (.int .i64 a277), .val (.bool a278), .val (.bool a279), .val (.int .i64 a280), .val (.int .i64 a281), .val (.int .i64 a282), .val (.int .i64 a283), .val (.int .i64 a284), .val (.sh .lent 1 (rowE (eI .i64) a285)), .val (.sh .lent 1 (rowE (eI .i64) a286)), .val (.sh .lent 1 (rowE (eL .lent 1 (eI .i64)) a287)), .val (.sh .lent 1 (rowE (eI .i64) a288)), .val (.bool a289), .val (.int .i64 a290), .val (.int .i64 a291), .val (.sh .lent 1 (rowE (eI .i64) a292)), .val (.sh .lent 1 (rowE (eI .i64) a293)), .val (.sh .lent 1 (rowE (eI .i64) a294))]), (200000030, .var false [.val (.int .i64 a295), .val (.int .i64 a296), .val (.bool a297), .val (.bool a298), .val (.int .i64 a299), .val (.int .i64 a300), .val (.int .i64 a301), .val (.int .i64 a302), .val (.int .i64 a303), .val (.sh .lent 1 (rowE (eI .i64) a304)), .val (.sh .lent 1 (rowE (eI .i64) a305)), .val (.sh .lent 1 (rowE (eL .lent 1 (eI .i64)) a306)), .val (.sh .lent 1 (rowE (eI .i64) a307)), .val (.bool a308), .val (.int .i64 a309), .val (.int .i64 a310), .val (.sh .lent 1 (rowE (eI .i64) a311)), .val (.sh .lent 1 (rowE (eI .i64) a312)), .val (.sh .lent 1 (rowE (eI .i64) a313))])], 56⟩ = (laws_eqOutcome_u6 a276 a277 a278 a279 a280 a281 a282 a283 a284 a285 a286 a287 a288 a289 a290 a291 a292 a293 a294 a295 a296 a297 a298 a299 a300 a301 a302 a303 a304 a305 a306 a307 a308 a309 a310 a311 a312 a313).bind (fun t => plug ⟨(tab fu).own, lev (tab fu) (n + 3), (tab fu).gl⟩ K .normal ⟨[(55, .val (.bool t))], [], 56⟩) := by
  unfold c47_u6
  simp +contextual -implicitDefEqProofs (maxSteps := 99999999) only [laws_eqOutcome_u6, subI, go_sem] <;> rfl
@[go_sem] theorem laws_eqOutcome_u7_ok {β : Type} (fu n : Nat) (K : List (Kont β)) (a158 a159 : Int) (a160 a161 : Bool) (a162 a163 : Int) (a164 a165 a166 : Int) (a167 a168 : List Int) (a169 : List (List Int)) (a170 : List Int) (a171 : Bool) (a172 a173 : Int) (a174 a175 a176 : List Int) (a177 a178 : Int) (a179 a180 : Bool) (a181 a182 : Int) (a183 a184 a185 : Int) (a186 a187 : List Int) (a188 : List (List Int)) (a189 : List Int) (a190 : Bool) (a191 a192 : Int) (a193 a194 a195 : List Int) : run ⟨(tab fu).own, lev (tab fu) (n + 3), (tab fu).gl⟩ K c47_u7 ⟨[(2, .pt 200000020 0), (3, .pt 200000030 0)], [(200000020, .var false [.val (.int .i64 a158), .val (.int .i64 a159), .val (.bool a160), .val (.bool a161), .val (.int .i64 a162), .val (.int .i64 a163), .val (.int .i64 a164), .val (.int .i64 a165), .val (.int .i64 a166), .val (.sh .lent 1 (rowE (eI .i64) a167)), .val (.sh .lent 1 (rowE (eI .i64) a168)), .val (.sh .lent 1 (rowE (eL .lent 1 (eI .i64)) a169)), .val (.sh .lent 1 (rowE (eI .i64) a170)), .val (.bool a171), .val (.int .i64 a172), .val (.int .i64 a173), .val (.sh .lent 1 (rowE (eI .i64) a174)), .val (.sh .lent 1 (rowE (eI .i64) a175)), .val (.sh .lent 1 (rowE (eI .i64) a176))]), (200000030, .var false [.val (.int .i64 a177), .val (.int .i64 a178), .val (.bool a179), .val (.bool a180), .val (.int .i64 a181), .val (.int .i64 a182), .val (.int .i64 a183), .val (.int .i64 a184), .val (.int .i64 a185), .val (.sh .lent 1 (rowE (eI .i64) a186)), .val (.sh .lent 1 (rowE (eI .i64) a187)), .val (.sh .lent 1 (rowE (eL .lent 1 (eI .i64)) a188)), .val (.sh .lent 1 (rowE (eI .i64) a189)), .val (.bool a190), .val (.int .i64 a191), .val (.int .i64 a192), .val (.sh .lent 1 (rowE (eI .i64) a193)), .val (.sh .lent 1 (rowE (eI .i64) a194)), .val (.sh .lent 1 (rowE (eI .i64) a195))])], 56⟩ = (laws_eqOutcome_u7 a158 a159 a160 a161 a162 a163 a164 a165 a166 a167 a168 a169 a170 a171 a172 a173 a174 a175 a176 a177 a178 a179 a180 a181 a182 a183 a184 a185 a186 a187 a188 a189 a190 a191 a192 a193 a194 a195).bind (fun t => plug ⟨(tab fu).own, lev (tab fu) (n + 3), (tab fu).gl⟩ K .ret ⟨[(4, .val (.bool t))], [], 56⟩) := by
  unfold c47_u7
  simp +contextual -implicitDefEqProofs (maxSteps := 99999999) only [laws_eqOutcome_u7, subI, go_sem] <;> rfl
@[go_sem] theorem laws_eqOutcome_u8_ok {β : Type} (fu n : Nat) (K : List (Kont β)) (a120 a121 : Int) (a122 a123 : Bool) (a124 a125 : Int) (a126 a127 a128 : Int) (a129 a130 : List Int) (a131 : List (List Int)) (a132 : List Int) (a133 : Bool) (a134 a135 : Int) (a136 a137 a138 : List Int) (a139 a140 : Int) (a141 a142 : Bool) (a143 a144 : Int) (a145 a146 a147 : Int) (a148 a149 : List Int) (a150 : List (List Int)) (a151 : List Int) (a152 : Bool) (a153 a154 : Int) (a155 a156 a157 : List Int) : run ⟨(tab fu).own, lev (tab fu) (n + 3), (tab fu).gl⟩ K c47_u8 ⟨[(2, .pt 200000020 0), (3, .pt 200000030 0)], [(200000020, .var false [.val (.int .i64 a120), .val (.int .i64 a121), .val (.bool a122), .val (.bool a123), .val (.int .i64 a124), .val (.int .i64 a125), .val (.int .i64 a126), .val (.int .i64 a127), .val (.int .i64 a128), .val (.sh .lent 1 (rowE (eI .i64) a129)), .val (.sh .lent 1 (rowE (eI .i64) a130)), .val (.sh .lent 1 (rowE (eL .lent 1 (eI .i64)) a131)), .val (.sh .lent 1 (rowE (eI .i64) a132)), .val (.bool a133), .val (.int .i64 a134), .val (.int .i64 a135), .val (.sh .lent 1 (rowE (eI .i64) a136)), .val (.sh .lent 1 (rowE (eI .i64) a137)), .val (.sh .lent 1 (rowE (eI .i64) a138))]), (200000030, .var false [.val (.int .i64 a139), .val (.int .i64 a140), .val (.bool a141), .val (.bool a142), .val (.int .i64 a143), .val (.int .i64 a144), .val (.int .i64 a145), .val (.int .i64 a146), .val (.int .i64 a147), .val (.sh .lent 1 (rowE (eI .i64) a148)), .val (.sh .lent 1 (rowE (eI .i64) a149)), .val (.sh .lent 1 (rowE (eL .lent 1 (eI .i64)) a150)), .val (.sh .lent 1 (rowE (eI .i64) a151)), .val (.bool a152), .val (.int .i64 a153), .val (.int .i64 a154), .val (.sh .lent 1 (rowE (eI .i64) a155)), .val (.sh .lent 1 (rowE (eI .i64) a156)), .val (.sh .lent 1 (rowE (eI .i64) a157))])], 56⟩ = (laws_eqOutcome_u8 a120 a121 a122 a123 a124 a125 a126 a127 a128 a129 a130 a131 a132 a133 a134 a135 a136 a137 a138 a139 a140 a141 a142 a143 a144 a145 a146 a147 a148 a149 a150 a151 a152 a153 a154 a155 a156 a157).bind (fun t => plug ⟨(tab fu).own, lev (tab fu) (n + 3), (tab fu).gl⟩ K .ret ⟨[(4, .val (.bool t))], [], 56⟩) := by
  unfold c47_u8
  simp +contextual -implicitDefEqProofs (maxSteps := 99999999) only [laws_eqOutcome_u8, subI, go_sem] <;> rfl
@[go_sem] theorem laws_eqOutcome_ok (fu n : Nat) (q0_0 q0_1 : Int) (q0_2 q0_3 : Bool) (q0_4 q0_5 : Int) (q0_6 q0_7 q0_8 : Int) (q0_9 q0_10 : List Int) (q0_11 : List (List Int)) (q0_12 : List Int) (q0_13 : Bool) (q0_14 q0_15 : Int) (q0_16 q0_17 q0_18 : List Int) (q1_0 q1_1 : Int) (q1_2 q1_3 : Bool) (q1_4 q1_5 : Int) (q1_6 q1_7 q1_8 : Int) (q1_9 q1_10 : List Int) (q1_11 : List (List Int)) (q1_12 : List Int) (q1_13 : Bool) (q1_14 q1_15 : Int) (q1_16 q1_17 q1_18 : List Int) : lev (tab fu) (n + 4) 47 [.agg [.int .i64 q0_0, .int .i64 q0_1, .bool q0_2, .bool q0_3, .int .i64 q0_4, .int .i64 q0_5, .int .i64 q0_6, .int .i64 q0_7, .int .i64 q0_8, .sh .lent 1 (rowE (eI .i64) q0_9), .sh .lent 1 (rowE (eI .i64) q0_10), .sh .lent 1 (rowE (eL .lent 1 (eI .i64)) q0_11), .sh .lent 1 (rowE (eI .i64) q0_12), .bool q0_13, .int .i64 q0_14, .int .i64 q0_15, .sh .lent 1 (rowE (eI .i64) q0_16), .sh .lent 1 (rowE (eI .i64) q0_17), .sh .lent 1 (rowE (eI .i64) q0_18)], .agg [.int .i64 q1_0, .int .i64 q1_1, .bool q1_2, .bool q1_3, .int .i64 q1_4, .int .i64 q1_5, .int .i64 q1_6, .int .i64 q1_7, .int .i64 q1_8, .sh .lent 1 (rowE (eI .i64) q1_9), .sh .lent 1 (rowE (eI .i64) q1_10), .sh .lent 1 (rowE (eL .lent 1 (eI .i64)) q1_11), .sh .lent 1 (rowE (eI .i64) q1_12), .bool q1_13, .int .i64 q1_14, .int .i64 q1_15, .sh .lent 1 (rowE (eI .i64) q1_16), .sh .lent 1 (rowE (eI .i64) q1_17), .sh .lent 1 (rowE (eI .i64) q1_18)]] = (laws_eqOutcome (SOutcome.mk (SPlan.mk q0_0 q0_1 q0_2 q0_3) (SFrame.mk q0_4 q0_5 q0_6 q0_7 q0_8 q0_9 q0_10 q0_11) q0_12 q0_13 q0_14 q0_15 q0_16 q0_17 q0_18) (SOutcome.mk (SPlan.mk q1_0 q1_1 q1_2 q1_3) (SFrame.mk q1_4 q1_5 q1_6 q1_7 q1_8 q1_9 q1_10 q1_11) q1_12 q1_13 q1_14 q1_15 q1_16 q1_17 q1_18)).map fun r => (.bool r, [.gone, .gone]) := by
  rw [lev_st (vc := c47) (nt := 56) (rs := [(4, none)]) ((tab_ext _ _ rfl).trans rfl) rfl (Nat.le_of_ble_eq_true rfl)]
  unfold c47
  simp +contextual -implicitDefEqProofs (maxSteps := 99999999) only [laws_eqOutcome, subI, go_sem] <;> rfl
def laws_eqOutcomeS_s1 (a7 a8 : List SOutcome) : Int → Option ((Int) ⊕ (Unit ⊕ Unit)) := fun a9 =>
  if (decide (a9 < (a7.length : Int))) = true then (getI a7 a9).bind fun x10 =>
    (getI a8 a9).bind fun x11 =>
    (laws_eqOutcome x10 x11).bind fun r12 =>
    if r12 = true then some ((.inl ((IntKind.i64.wrap (a9 + 1)))))
    else some ((.inr ((.inr (())))))
  else some ((.inr ((.inl (())))))
def laws_eqOutcomeS (p0 p1 : List SOutcome) : Option (Bool) :=
  if ((p0.length : Int) != (p1.length : Int)) = true then some false
  else (loopO (laws_eqOutcomeS_s1 p0 p1) 0).bind fun t => (Sum.elim (fun y13 => some true)
     (fun y14 => some false)) t
@[go_sem] theorem laws_eqOutcomeS_s1_ok {β : Type} (fu n : Nat) (K : List (Kont β)) (a7 a8 : List SOutcome) (a9 : Int) : run ⟨(tab fu).own, lev (tab fu) (n + 4), (tab fu).gl⟩ K (.loop c11_u1) ⟨[(0, .val (.sh .lent 19 (rowE (SOutcome.cells .lent) a7))), (1, .val (.sh .lent 19 (rowE (SOutcome.cells .lent) a8))), (5, .val (.int .i64 a9))], [], 27⟩ = (loopO (laws_eqOutcomeS_s1 a7 a8) a9).bind (fun t => (Sum.elim (fun t => plug ⟨(tab fu).own, lev (tab fu) (n + 4), (tab fu).gl⟩ K (.exit 0) ⟨[], [], 27⟩) (fun t => plug ⟨(tab fu).own, lev (tab fu) (n + 4), (tab fu).gl⟩ K .ret ⟨[(4, .val (.bool false))], [], 27⟩)) t) := by
  refine loop_run (C := ⟨(tab fu).own, lev (tab fu) (n + 4), (tab fu).gl⟩) (K := K) (c := c11_u1) (laws_eqOutcomeS_s1 a7 a8) (fun s => ⟨[(0, .val (.sh .lent 19 (rowE (SOutcome.cells .lent) a7))), (1, .val (.sh .lent 19 (rowE (SOutcome.cells .lent) a8))), (5, .val (.int .i64 s))], [], 27⟩) (fun t => (Sum.elim (fun t => plug ⟨(tab fu).own, lev (tab fu) (n + 4), (tab fu).gl⟩ K (.exit 0) ⟨[], [], 27⟩) (fun t => plug ⟨(tab fu).own, lev (tab fu) (n + 4), (tab fu).gl⟩ K .ret ⟨[(4, .val (.bool false))], [], 27⟩)) t) (fun k s => ?_) a9
  unfold c11_u1
  simp +contextual -implicitDefEqProofs (maxSteps := 99999999) only [laws_eqOutcomeS_s1, subI, go_sem] <;> rfl
@[go_sem] theorem laws_eqOutcomeS_ok (fu n : Nat) (q0_0 q1_0 : List SOutcome) : lev (tab fu) (n + 5) 11 [.sh .lent 19 (rowE (SOutcome.cells .lent) q0_0), .sh .lent 19 (rowE (SOutcome.cells .lent) q1_0)] = (laws_eqOutcomeS q0_0 q1_0).map fun r => (.bool r, [.gone, .gone]) := by
  rw [lev_st (vc := c11) (nt := 27) (rs := [(4, none)]) ((tab_ext _ _ rfl).trans rfl) rfl (Nat.le_of_ble_eq_true rfl)]
  unfold c11
  simp +contextual -implicitDefEqProofs (maxSteps := 99999999) only [laws_eqOutcomeS, subI, go_sem] <;> rfl
def laws_markInt64S_s1 : ((List Int) × Int × Int) → Option (((List Int) × Int × Int) ⊕ ((List Int) × Int)) := fun ⟨a1, a2, a3⟩ =>
  if (decide (a3 < (a1.length : Int))) = true then (getI a1 a3).bind fun _ =>
    (a1[a3.toNat]?).bind fun _ =>
    some ((.inl (((a1.set a3.toNat a2), (IntKind.i64.wrap (a2 + 1)), (IntKind.i64.wrap (a3 + 1))))))
  else some ((.inr ((a1, a2))))
def laws_markInt64S (p0 : List Int) (p1 : Int) : Option (Int × (List Int)) :=
  (loopO laws_markInt64S_s1 ((p0, p1, 0))).bind fun y5 =>
  some ((y5.2, y5.1))
@[go_sem] theorem laws_markInt64S_s1_ok {β : Type} (fu n : Nat) (K : List (Kont β)) (a1 : List Int) (a2 a3 : Int) : run ⟨(tab fu).own, lev (tab fu) n, (tab fu).gl⟩ K (.loop c48_u1) ⟨[(0, .sl 1000000000 0 a1.length), (1, .val (.int .i64 a2)), (5, .val (.int .i64 a3))], [(1000000000, .row true 1 (rowE (eI .i64) a1))], 19⟩ = (loopO laws_markInt64S_s1 ((a1, a2, a3))).bind (fun t => plug ⟨(tab fu).own, lev (tab fu) n, (tab fu).gl⟩ K (.exit 0) ⟨[(1, .val (.int .i64 t.2))], [(1000000000, .row true 1 (rowE (eI .i64) t.1))], 19⟩) := by
  refine loop_run (C := ⟨(tab fu).own, lev (tab fu) n, (tab fu).gl⟩) (K := K) (c := c48_u1) (laws_markInt64S_s1) (fun s => ⟨[(0, .sl 1000000000 0 s.1.length), (1, .val (.int .i64 s.2.1)), (5, .val (.int .i64 s.2.2))], [(1000000000, .row true 1 (rowE (eI .i64) s.1))], 19⟩) (fun t => plug ⟨(tab fu).own, lev (tab fu) n, (tab fu).gl⟩ K (.exit 0) ⟨[(1, .val (.int .i64 t.2))], [(1000000000, .row true 1 (rowE (eI .i64) t.1))], 19⟩) (fun k s => ?_) ((a1, a2, a3))
  obtain ⟨a1, a2, a3⟩ := s
  unfold c48_u1
  simp +contextual -implicitDefEqProofs (maxSteps := 99999999) only [laws_markInt64S_s1, subI, go_sem] <;> rfl
@[go_sem] theorem laws_markInt64S_ok (fu n : Nat) (q0_0 : List Int) (q1_0 : Int) : lev (tab fu) (n + 1) 48 [.ow 1 (rowE (eI .i64) q0_0), .int .i64 q1_0] = (laws_markInt64S q0_0 q1_0).map fun r => (.int .i64 r.1, [.ow 1 (rowE (eI .i64) r.2), .gone]) := by
  rw [lev_st (vc := c48) (nt := 19) (rs := [(4, none)]) ((tab_ext _ _ rfl).trans rfl) rfl (Nat.le_of_ble_eq_true rfl)]
  unfold c48
  simp +contextual -implicitDefEqProofs (maxSteps := 99999999) only [laws_markInt64S, subI, go_sem] <;> rfl
def laws_markInt64SS_s1 : ((List (List Int)) × Int × Int) → Option (((List (List Int)) × Int × Int) ⊕ ((List (List Int)) × Int)) := fun ⟨a1, a2, a3⟩ =>
  if (decide (a3 < (a1.length : Int))) = true then (getI a1 a3).bind fun _ =>
    (a1[a3.toNat]?).bind fun x4 =>
    (laws_markInt64S x4 a2).bind fun r5 =>
    if x4.length = r5.2.length then (a1[a3.toNat]?).bind fun _ =>
      some ((.inl (((a1.set a3.toNat r5.2), r5.1, (IntKind.i64.wrap (a3 + 1))))))
    else none
  else some ((.inr ((a1, a2))))
def laws_markInt64SS (p0 : List (List Int)) (p1 : Int) : Option (Int × (List (List Int))) :=
  (loopO laws_markInt64SS_s1 ((p0, p1, 0))).bind fun y7 =>
  some ((y7.2, y7.1))
@[go_sem] theorem laws_markInt64SS_s1_ok {β : Type} (fu n : Nat) (K : List (Kont β)) (a1 : List (List Int)) (a2 a3 : Int) : run ⟨(tab fu).own, lev (tab fu) (n + 1), (tab fu).gl⟩ K (.loop c49_u1) ⟨[(0, .sl 1000000000 0 a1.length), (1, .val (.int .i64 a2)), (5, .val (.int .i64 a3))], [(1000000000, .row true 1 (rowE (eL .own 1 (eI .i64)) a1))], 19⟩ = (loopO laws_markInt64SS_s1 ((a1, a2, a3))).bind (fun t => plug ⟨(tab fu).own, lev (tab fu) (n + 1), (tab fu).gl⟩ K (.exit 0) ⟨[(1, .val (.int .i64 t.2))], [(1000000000, .row true 1 (rowE (eL .own 1 (eI .i64)) t.1))], 19⟩) := by
  refine loop_run (C := ⟨(tab fu).own, lev (tab fu) (n + 1), (tab fu).gl⟩) (K := K) (c := c49_u1) (laws_markInt64SS_s1) (fun s => ⟨[(0, .sl 1000000000 0 s.1.length), (1, .val (.int .i64 s.2.1)), (5, .val (.int .i64 s.2.2))], [(1000000000, .row true 1 (rowE (eL .own 1 (eI .i64)) s.1))], 19⟩) (fun t => plug ⟨(tab fu).own, lev (tab fu) (n + 1), (tab fu).gl⟩ K (.exit 0) ⟨[(1, .val (.int .i64 t.2))], [(1000000000, .row true 1 (rowE (eL .own 1 (eI .i64)) t.1))], 19⟩) (fun k s => ?_) ((a1, a2, a3))
  obtain ⟨a1, a2, a3⟩ := s
  unfold c49_u1
  simp +contextual -implicitDefEqProofs (maxSteps := 99999999) only [laws_markInt64SS_s1, subI, go_sem] <;> rfl
@[go_sem] theorem laws_markInt64SS_ok (fu n : Nat) (q0_0 : List (List Int)) (q1_0 : Int) : lev (tab fu) (n + 2) 49 [.ow 1 (rowE (eL .own 1 (eI .i64)) q0_0), .int .i64 q1_0] = (laws_markInt64SS q0_0 q1_0).map fun r => (.int .i64 r.1, [.ow 1 (rowE (eL .own 1 (eI .i64)) r.2), .gone]) := by
  rw [lev_st (vc := c49) (nt := 19) (rs := [(4, none)]) ((tab_ext _ _ rfl).trans rfl) rfl (Nat.le_of_ble_eq_true rfl)]
  unfold c49
  simp +contextual -implicitDefEqProofs (maxSteps := 99999999) only [laws_markInt64SS, subI, go_sem] <;> rfl
def laws_markOutcomeS_u1 (a4 : List SOutcome) (a5 a6 : Int) : Option ((List SOutcome)) :=
  (getI a4 a6).bind fun _ =>
  (a4[a6.toNat]?).bind fun x7 =>
  some ((a4.set a6.toNat ((SOutcome.mk ((SPlan.mk a5 x7.Plan.Paths x7.Plan.IntraA x7.Plan.IntraB)) x7.Sent x7.Codes x7.Played x7.Number x7.Source x7.Frame x7.Coefs x7.Bounds))))
def laws_markOutcomeS_u2 (a9 : List SOutcome) (a10 a11 : Int) : Option ((List SOutcome)) :=
  (getI a9 a11).bind fun _ =>
  (a9[a11.toNat]?).bind fun x12 =>
  some ((a9.set a11.toNat ((SOutcome.mk ((SPlan.mk x12.Plan.Spread a10 x12.Plan.IntraA x12.Plan.IntraB)) x12.Sent x12.Codes x12.Played x12.Number x12.Source x12.Frame x12.Coefs x12.Bounds))))
def laws_markOutcomeS_u3 (a14 : List SOutcome) (a15 a16 : Int) : Option ((List SOutcome)) :=
  (getI a14 a16).bind fun _ =>
  (a14[a16.toNat]?).bind fun x17 =>
  some ((a14.set a16.toNat ((SOutcome.mk ((SPlan.mk x17.Plan.Spread x17.Plan.Paths (((a15.tmod (3 : Int)) == 0)) x17.Plan.IntraB)) x17.Sent x17.Codes x17.Played x17.Number x17.Source x17.Frame x17.Coefs x17.Bounds))))
def laws_markOutcomeS_u4 (a19 : List SOutcome) (a20 a21 : Int) : Option ((List SOutcome)) :=
  (getI a19 a21).bind fun _ =>
  (a19[a21.toNat]?).bind fun x22 =>
  some ((a19.set a21.toNat ((SOutcome.mk ((SPlan.mk x22.Plan.Spread x22.Plan.Paths x22.Plan.IntraA (((a20.tmod (3 : Int)) == 0)))) x22.Sent x22.Codes x22.Played x22.Number x22.Source x22.Frame x22.Coefs x22.Bounds))))
def laws_markOutcomeS_u5 (a24 : List SOutcome) (a25 a26 : Int) : Option ((List SOutcome)) :=
  (getI a24 a26).bind fun _ =>
  (a24[a26.toNat]?).bind fun x27 =>
  some ((a24.set a26.toNat ((SOutcome.mk x27.Plan ((SFrame.mk a25 x27.Sent.Size x27.Sent.Rung x27.Sent.Mask x27.Sent.Spread x27.Sent.Lows x27.Sent.Gains x27.Sent.Pulses)) x27.Codes x27.Played x27.Number x27.Source x27.Frame x27.Coefs x27.Bounds))))
def laws_markOutcomeS_u6 (a29 : List SOutcome) (a30 a31 : Int) : Option ((List SOutcome)) :=
  (getI a29 a31).bind fun _ =>
  (a29[a31.toNat]?).bind fun x32 =>
  some ((a29.set a31.toNat ((SOutcome.mk x32.Plan ((SFrame.mk x32.Sent.Number a30 x32.Sent.Rung x32.Sent.Mask x32.Sent.Spread x32.Sent.Lows x32.Sent.Gains x32.Sent.Pulses)) x32.Codes x32.Played x32.Number x32.Source x32.Frame x32.Coefs x32.Bounds))))
def laws_markOutcomeS_u7 (a34 : List SOutcome) (a35 a36 : Int) : Option ((List SOutcome)) :=
  (getI a34 a36).bind fun _ =>
  (a34[a36.toNat]?).bind fun x37 =>
  some ((a34.set a36.toNat ((SOutcome.mk x37.Plan ((SFrame.mk x37.Sent.Number x37.Sent.Size a35 x37.Sent.Mask x37.Sent.Spread x37.Sent.Lows x37.Sent.Gains x37.Sent.Pulses)) x37.Codes x37.Played x37.Number x37.Source x37.Frame x37.Coefs x37.Bounds))))
def laws_markOutcomeS_u8 (a39 : List SOutcome) (a40 a41 : Int) : Option ((List SOutcome)) :=
  (getI a39 a41).bind fun _ =>
  (a39[a41.toNat]?).bind fun x42 =>
  some ((a39.set a41.toNat ((SOutcome.mk x42.Plan ((SFrame.mk x42.Sent.Number x42.Sent.Size x42.Sent.Rung a40 x42.Sent.Spread x42.Sent.Lows x42.Sent.Gains x42.Sent.Pulses)) x42.Codes x42.Played x42.Number x42.Source x42.Frame x42.Coefs x42.Bounds))))
def laws_markOutcomeS_u9 (a44 : List SOutcome) (a45 a46 : Int) : Option ((List SOutcome)) :=
  (getI a44 a46).bind fun _ =>
  (a44[a46.toNat]?).bind fun x47 =>
  some ((a44.set a46.toNat ((SOutcome.mk x47.Plan ((SFrame.mk x47.Sent.Number x47.Sent.Size x47.Sent.Rung x47.Sent.Mask a45 x47.Sent.Lows x47.Sent.Gains x47.Sent.Pulses)) x47.Codes x47.Played x47.Number x47.Source x47.Frame x47.Coefs x47.Bounds))))
def laws_markOutcomeS_u10 (a49 : List SOutcome) (a50 a51 : Int) : Option ((List SOutcome) × Int) :=
  (getI a49 a51).bind fun _ =>
  (a49[a51.toNat]?).bind fun x52 =>
  (laws_markInt64S x52.Sent.Lows a50).bind fun r53 =>
  if x52.Sent.Lows.length = r53.2.length then (a49[a51.toNat]?).bind fun x54 =>
    some (((a49.set a51.toNat ((SOutcome.mk x54.Plan ((SFrame.mk x54.Sent.Number x54.Sent.Size x54.Sent.Rung x54.Sent.Mask x54.Sent.Spread r53.2 x54.Sent.Gains x54.Sent.Pulses)) x54.Codes x54.Played x54.Number x54.Source x54.Frame x54.Coefs x54.Bounds))), r53.1))
  else none
def laws_markOutcomeS_u11 (a56 : List SOutcome) (a57 a58 : Int) : Option ((List SOutcome) × Int) :=
  (getI a56 a58).bind fun _ =>
  (a56[a58.toNat]?).bind fun x59 =>
  (laws_markInt64S x59.Sent.Gains a57).bind fun r60 =>
  if x59.Sent.Gains.length = r60.2.length then (a56[a58.toNat]?).bind fun x61 =>
    some (((a56.set a58.toNat ((SOutcome.mk x61.Plan ((SFrame.mk x61.Sent.Number x61.Sent.Size x61.Sent.Rung x61.Sent.Mask x61.Sent.Spread x61.Sent.Lows r60.2 x61.Sent.Pulses)) x61.Codes x61.Played x61.Number x61.Source x61.Frame x61.Coefs x61.Bounds))), r60.1))
  else none
def laws_markOutcomeS_u12 (a63 : List SOutcome) (a64 a65 : Int) : Option ((List SOutcome) × Int) :=
  (getI a63 a65).bind fun _ =>
  (a63[a65.toNat]?).bind fun x66 =>
  (laws_markInt64SS x66.Sent.Pulses a64).bind fun r67 =>
  if x66.Sent.Pulses.length = r67.2.length then (a63[a65.toNat]?).bind fun x68 =>
    some (((a63.set a65.toNat ((SOutcome.mk x68.Plan ((SFrame.mk x68.Sent.Number x68.Sent.Size x68.Sent.Rung x68.Sent.Mask x68.Sent.Spread x68.Sent.Lows x68.Sent.Gains r67.2)) x68.Codes x68.Played x68.Number x68.Source x68.Frame x68.Coefs x68.Bounds))), r67.1))
  else none
def laws_markOutcomeS_u13 (a70 : List SOutcome) (a71 a72 : Int) : Option ((List SOutcome) × Int) :=
  (getI a70 a72).bind fun _ =>
  (a70[a72.toNat]?).bind fun x73 =>
  (laws_markInt64S x73.Codes a71).bind fun r74 =>
  if x73.Codes.length = r74.2.length then (a70[a72.toNat]?).bind fun x75 =>
    some (((a70.set a72.toNat ((SOutcome.mk x75.Plan x75.Sent r74.2 x75.Played x75.Number x75.Source x75.Frame x75.Coefs x75.Bounds))), r74.1))
  else none
def laws_markOutcomeS_u14 (a77 : List SOutcome) (a78 a79 : Int) : Option ((List SOutcome)) :=
  (getI a77 a79).bind fun _ =>
  (a77[a79.toNat]?).bind fun x80 =>
  some ((a77.set a79.toNat ((SOutcome.mk x80.Plan x80.Sent x80.Codes (((a78.tmod (3 : Int)) == 0)) x80.Number x80.Source x80.Frame x80.Coefs x80.Bounds))))
def laws_markOutcomeS_u15 (a82 : List SOutcome) (a83 a84 : Int) : Option ((List SOutcome)) :=
  (getI a82 a84).bind fun _ =>
  (a82[a84.toNat]?).bind fun x85 =>
  some ((a82.set a84.toNat ((SOutcome.mk x85.Plan x85.Sent x85.Codes x85.Played a83 x85.Source x85.Frame x85.Coefs x85.Bounds))))
def laws_markOutcomeS_u16 (a87 : List SOutcome) (a88 a89 : Int) : Option ((List SOutcome)) :=
  (getI a87 a89).bind fun _ =>
  (a87[a89.toNat]?).bind fun x90 =>
  some ((a87.set a89.toNat ((SOutcome.mk x90.Plan x90.Sent x90.Codes x90.Played x90.Number a88 x90.Frame x90.Coefs x90.Bounds))))
def laws_markOutcomeS_u17 (a92 : List SOutcome) (a93 a94 : Int) : Option ((List SOutcome) × Int) :=
  (getI a92 a94).bind fun _ =>
  (a92[a94.toNat]?).bind fun x95 =>
  (laws_markInt64S x95.Frame a93).bind fun r96 =>
  if x95.Frame.length = r96.2.length then (a92[a94.toNat]?).bind fun x97 =>
    some (((a92.set a94.toNat ((SOutcome.mk x97.Plan x97.Sent x97.Codes x97.Played x97.Number x97.Source r96.2 x97.Coefs x97.Bounds))), r96.1))
  else none
def laws_markOutcomeS_u18 (a99 : List SOutcome) (a100 a101 : Int) : Option ((List SOutcome) × Int) :=
  (getI a99 a101).bind fun _ =>
  (a99[a101.toNat]?).bind fun x102 =>
  (laws_markInt64S x102.Coefs a100).bind fun r103 =>
  if x102.Coefs.length = r103.2.length then (a99[a101.toNat]?).bind fun x104 =>
    some (((a99.set a101.toNat ((SOutcome.mk x104.Plan x104.Sent x104.Codes x104.Played x104.Number x104.Source x104.Frame r103.2 x104.Bounds))), r103.1))
  else none
def laws_markOutcomeS_u19 (a106 : List SOutcome) (a107 a108 : Int) : Option ((List SOutcome) × Int) :=
  (getI a106 a108).bind fun _ =>
  (a106[a108.toNat]?).bind fun x109 =>
  (laws_markInt64S x109.Bounds a107).bind fun r110 =>
  if x109.Bounds.length = r110.2.length then (a106[a108.toNat]?).bind fun x111 =>
    some (((a106.set a108.toNat ((SOutcome.mk x111.Plan x111.Sent x111.Codes x111.Played x111.Number x111.Source x111.Frame x111.Coefs r110.2))), r110.1))
  else none
def laws_markOutcomeS_s20 : ((List SOutcome) × Int × Int) → Option (((List SOutcome) × Int × Int) ⊕ ((List SOutcome) × Int)) := fun ⟨a1, a2, a3⟩ =>
  if (decide (a3 < (a1.length : Int))) = true then (laws_markOutcomeS_u1 a1 a2 a3).bind fun y8 =>
    (laws_markOutcomeS_u2 y8 ((IntKind.i64.wrap (a2 + 1))) a3).bind fun y13 =>
    (laws_markOutcomeS_u3 y13 ((IntKind.i64.wrap (((IntKind.i64.wrap (a2 + 1))) + 1))) a3).bind fun y18 =>
    (laws_markOutcomeS_u4 y18 ((IntKind.i64.wrap (((IntKind.i64.wrap (((IntKind.i64.wrap (a2 + 1))) + 1))) + 1))) a3).bind fun y23 =>
    (laws_markOutcomeS_u5 y23 ((IntKind.i64.wrap (((IntKind.i64.wrap (((IntKind.i64.wrap (((IntKind.i64.wrap (a2 + 1))) + 1))) + 1))) + 1))) a3).bind fun y28 =>
    (laws_markOutcomeS_u6 y28 ((IntKind.i64.wrap (((IntKind.i64.wrap (((IntKind.i64.wrap (((IntKind.i64.wrap (((IntKind.i64.wrap (a2 + 1))) + 1))) + 1))) + 1))) + 1))) a3).bind fun y33 =>
    (laws_markOutcomeS_u7 y33 ((IntKind.i64.wrap (((IntKind.i64.wrap (((IntKind.i64.wrap (((IntKind.i64.wrap (((IntKind.i64.wrap (((IntKind.i64.wrap (a2 + 1))) + 1))) + 1))) + 1))) + 1))) + 1))) a3).bind fun y38 =>
    (laws_markOutcomeS_u8 y38 ((IntKind.i64.wrap (((IntKind.i64.wrap (((IntKind.i64.wrap (((IntKind.i64.wrap (((IntKind.i64.wrap (((IntKind.i64.wrap (((IntKind.i64.wrap (a2 + 1))) + 1))) + 1))) + 1))) + 1))) + 1))) + 1))) a3).bind fun y43 =>
    (laws_markOutcomeS_u9 y43 ((IntKind.i64.wrap (((IntKind.i64.wrap (((IntKind.i64.wrap (((IntKind.i64.wrap (((IntKind.i64.wrap (((IntKind.i64.wrap (((IntKind.i64.wrap (((IntKind.i64.wrap (a2 + 1))) + 1))) + 1))) + 1))) + 1))) + 1))) + 1))) + 1))) a3).bind fun y48 =>
    (laws_markOutcomeS_u10 y48 ((IntKind.i64.wrap (((IntKind.i64.wrap (((IntKind.i64.wrap (((IntKind.i64.wrap (((IntKind.i64.wrap (((IntKind.i64.wrap (((IntKind.i64.wrap (((IntKind.i64.wrap (((IntKind.i64.wrap (a2 + 1))) + 1))) + 1))) + 1))) + 1))) + 1))) + 1))) + 1))) + 1))) a3).bind fun y55 =>
    (laws_markOutcomeS_u11 y55.1 y55.2 a3).bind fun y62 =>
    (laws_markOutcomeS_u12 y62.1 y62.2 a3).bind fun y69 =>
    (laws_markOutcomeS_u13 y69.1 y69.2 a3).bind fun y76 =>
    (laws_markOutcomeS_u14 y76.1 y76.2 a3).bind fun y81 =>
    (laws_markOutcomeS_u15 y81 ((IntKind.i64.wrap (y76.2 + 1))) a3).bind fun y86 =>
    (laws_markOutcomeS_u16 y86 ((IntKind.i64.wrap (((IntKind.i64.wrap (y76.2 + 1))) + 1))) a3).bind fun y91 =>
    (laws_markOutcomeS_u17 y91 ((IntKind.i64.wrap (((IntKind.i64.wrap (((IntKind.i64.wrap (y76.2 + 1))) + 1))) + 1))) a3).bind fun y98 =>
    (laws_markOutcomeS_u18 y98.1 y98.2 a3).bind fun y105 =>
    (laws_markOutcomeS_u19 y105.1 y105.2 a3).bind fun y112 =>
    some ((.inl ((y112.1, y112.2, (IntKind.i64.wrap (a3 + 1))))))
  else some ((.inr ((a1, a2))))
def laws_markOutcomeS (p0 : List SOutcome) (p1 : Int) : Option (Int × (List SOutcome)) :=
  (loopO laws_markOutcomeS_s20 ((p0, p1, 0))).bind fun y113 =>
  some ((y113.2, y113.1))
@[go_sem] theorem laws_markOutcomeS_u1_ok {β : Type} (fu n : Nat) (K : List (Kont β)) (a4 : List SOutcome) (a5 a6 : Int) : run ⟨(tab fu).own, lev (tab fu) (n + 2), (tab fu).gl⟩ K c12_u1 ⟨[(0, .sl 1000000000 0 a4.length), (1, .val (.int .i64 a5)), (5, .val (.int .i64 a6))], [(1000000000, .row true 19 (rowE (SOutcome.cells .own) a4))], 164⟩ = (laws_markOutcomeS_u1 a4 a5 a6).bind (fun t => plug ⟨(tab fu).own, lev (tab fu) (n + 2), (tab fu).gl⟩ K .normal ⟨[(0, .sl 1000000000 0 t.length), (1, .val (.int .i64 a5)), (5, .val (.int .i64 a6))], [(1000000000, .row true 19 (rowE (SOutcome.cells .own) t))], 164⟩) := by
  unfold c12_u1
  simp +contextual -implicitDefEqProofs (maxSteps := 99999999) only [laws_markOutcomeS_u1, subI, go_sem] <;> rfl
@[go_sem] theorem laws_markOutcomeS_u2_ok {β : Type} (fu n : Nat) (K : List (Kont β)) (a9 : List SOutcome) (a10 a11 : Int) : run ⟨(tab fu).own, lev (tab fu) (n + 2), (tab fu).gl⟩ K c12_u2 ⟨[(0, .sl 1000000000 0 a9.length), (1, .val (.int .i64 a10)), (5, .val (.int .i64 a11))], [(1000000000, .row true 19 (rowE (SOutcome.cells .own) a9))], 164⟩ = (laws_markOutcomeS_u2 a9 a10 a11).bind (fun t => plug ⟨(tab fu).own, lev (tab fu) (n + 2), (tab fu).gl⟩ K .normal ⟨[(0, .sl 1000000000 0 t.length), (1, .val (.int .i64 a10)), (5, .val (.int .i64 a11))], [(1000000000, .row true 19 (rowE (SOutcome.cells .own) t))], 164⟩) := by
  unfold c12_u2
  simp +contextual -implicitDefEqProofs (maxSteps := 99999999) only [laws_markOutcomeS_u2, subI, go_sem] <;> rfl
@[go_sem] theorem laws_markOutcomeS_u3_ok {β : Type} (fu n : Nat) (K : List (Kont β)) (a14 : List SOutcome) (a15 a16 : Int) : run ⟨(tab fu).own, lev (tab fu) (n + 2), (tab fu).gl⟩ K c12_u3 ⟨[(0, .sl 1000000000 0 a14.length), (1, .val (.int .i64 a15)), (5, .val (.int .i64 a16))], [(1000000000, .row true 19 (rowE (SOutcome.cells .own) a14))], 164⟩ = (laws_markOutcomeS_u3 a14 a15 a16).bind (fun t => plug ⟨(tab fu).own, lev (tab fu) (n + 2), (tab fu).gl⟩ K .normal ⟨[(0, .sl 1000000000 0 t.length), (1, .val (.int .i64 a15)), (5, .val (.int .i64 a16))], [(1000000000, .row true 19 (rowE (SOutcome.cells .own) t))], 164⟩) := by
  unfold c12_u3
  simp +contextual -implicitDefEqProofs (maxSteps := 99999999) only [laws_markOutcomeS_u3, subI, go_sem] <;> rfl
@[go_sem] theorem laws_markOutcomeS_u4_ok {β : Type} (fu n : Nat) (K : List (Kont β)) (a19 : List SOutcome) (a20 a21 : Int) : run ⟨(tab fu).own, lev (tab fu) (n + 2), (tab fu).gl⟩ K c12_u4 ⟨[(0, .sl 1000000000 0 a19.length), (1, .val (.int .i64 a20)), (5, .val (.int .i64 a21))], [(1000000000, .row true 19 (rowE (SOutcome.cells .own) a19))], 164⟩ = (laws_markOutcomeS_u4 a19 a20 a21).bind (fun t => plug ⟨(tab fu).own, lev (tab fu) (n + 2), (tab fu).gl⟩ K .normal ⟨[(0, .sl 1000000000 0 t.length), (1, .val (.int .i64 a20)), (5, .val (.int .i64 a21))], [(1000000000, .row true 19 (rowE (SOutcome.cells .own) t))], 164⟩) := by
  unfold c12_u4
  simp +contextual -implicitDefEqProofs (maxSteps := 99999999) only [laws_markOutcomeS_u4, subI, go_sem] <;> rfl
@[go_sem] theorem laws_markOutcomeS_u5_ok {β : Type} (fu n : Nat) (K : List (Kont β)) (a24 : List SOutcome) (a25 a26 : Int) : run ⟨(tab fu).own, lev (tab fu) (n + 2), (tab fu).gl⟩ K c12_u5 ⟨[(0, .sl 1000000000 0 a24.length), (1, .val (.int .i64 a25)), (5, .val (.int .i64 a26))], [(1000000000, .row true 19 (rowE (SOutcome.cells .own) a24))], 164⟩ = (laws_markOutcomeS_u5 a24 a25 a26).bind (fun t => plug ⟨(tab fu).own, lev (tab fu) (n + 2), (tab fu).gl⟩ K .normal ⟨[(0, .sl 1000000000 0 t.length), (1, .val (.int .i64 a25)), (5, .val (.int .i64 a26))], [(1000000000, .row true 19 (rowE (SOutcome.cells .own) t))], 164⟩) := by
  unfold c12_u5
  simp +contextual -implicitDefEqProofs (maxSteps := 99999999) only [laws_markOutcomeS_u5, subI, go_sem] <;> rfl
@[go_sem] theorem laws_markOutcomeS_u6_ok {β : Type} (fu n : Nat) (K : List (Kont β)) (a29 : List SOutcome) (a30 a31 : Int) : run ⟨(tab fu).own, lev (tab fu) (n + 2), (tab fu).gl⟩ K c12_u6 ⟨[(0, .sl 1000000000 0 a29.length), (1, .val (.int .i64 a30)), (5, .val (.int .i64 a31))], [(1000000000, .row true 19 (rowE (SOutcome.cells .own) a29))], 164⟩ = (laws_markOutcomeS_u6 a29 a30 a31).bind (fun t => plug ⟨(tab fu).own, lev (tab fu) (n + 2), (tab fu).gl⟩ K .normal ⟨[(0, .sl 1000000000 0 t.length), (1, .val (.int .i64 a30)), (5, .val (.int .i64 a31))], [(1000000000, .row true 19 (rowE (SOutcome.cells .own) t))], 164⟩) := by
  unfold c12_u6
  simp +contextual -implicitDefEqProofs (maxSteps := 99999999) only [laws_markOutcomeS_u6, subI, go_sem] <;> rfl
@[go_sem] theorem laws_markOutcomeS_u7_ok {β : Type} (fu n : Nat) (K : List (Kont β)) (a34 : List SOutcome) (a35 a36 : Int) : run ⟨(tab fu).own, lev (tab fu) (n + 2), (tab fu).gl⟩ K c12_u7 ⟨[(0, .sl 1000000000 0 a34.length), (1, .val (.int .i64 a35)), (5, .val (.int .i64 a36))], [(1000000000, .row true 19 (rowE (SOutcome.cells .own) a34))], 164⟩ = (laws_markOutcomeS_u7 a34 a35 a36).bind (fun t => plug ⟨(tab fu).own, lev (tab fu) (n + 2), (tab fu).gl⟩ K .normal ⟨[(0, .sl 1000000000 0 t.length), (1, .val (.int .i64 a35)), (5, .val (.int .i64 a36))], [(1000000000, .row true 19 (rowE (SOutcome.cells .own) t))], 164⟩) := by
  unfold c12_u7
  simp +contextual -implicitDefEqProofs (maxSteps := 99999999) only [laws_markOutcomeS_u7, subI, go_sem] <;> rfl
@[go_sem] theorem laws_markOutcomeS_u8_ok {β : Type} (fu n : Nat) (K : List (Kont β)) (a39 : List SOutcome) (a40 a41 : Int) : run ⟨(tab fu).own, lev (tab fu) (n + 2), (tab fu).gl⟩ K c12_u8 ⟨[(0, .sl 1000000000 0 a39.length), (1, .val (.int .i64 a40)), (5, .val (.int .i64 a41))], [(1000000000, .row true 19 (rowE (SOutcome.cells .own) a39))], 164⟩ = (laws_markOutcomeS_u8 a39 a40 a41).bind (fun t => plug ⟨(tab fu).own, lev (tab fu) (n + 2), (tab fu).gl⟩ K .normal ⟨[(0, .sl 1000000000 0 t.length), (1, .val (.int .i64 a40)), (5, .val (.int .i64 a41))], [(1000000000, .row true 19 (rowE (SOutcome.cells .own) t))], 164⟩) := by
  unfold c12_u8
  simp +contextual -implicitDefEqProofs (maxSteps := 99999999) only [laws_markOutcomeS_u8, subI, go_sem] <;> rfl
@[go_sem] theorem laws_markOutcomeS_u9_ok {β : Type} (fu n : Nat) (K : List (Kont β)) (a44 : List SOutcome) (a45 a46 : Int) : run ⟨(tab fu).own, lev (tab fu) (n + 2), (tab fu).gl⟩ K c12_u9 ⟨[(0, .sl 1000000000 0 a44.length), (1, .val (.int .i64 a45)), (5, .val (.int .i64 a46))], [(1000000000, .row true 19 (rowE (SOutcome.cells .own) a44))], 164⟩ = (laws_markOutcomeS_u9 a44 a45 a46).bind (fun t => plug ⟨(tab fu).own, lev (tab fu) (n + 2), (tab fu).gl⟩ K .normal ⟨[(0, .sl 1000000000 0 t.length), (1, .val (.int .i64 a45)), (5, .val (.int .i64 a46))], [(1000000000, .row true 19 (rowE (SOutcome.cells .own) t))], 164⟩) := by
  unfold c12_u9
  simp +contextual -implicitDefEqProofs (maxSteps := 99999999) only [laws_markOutcomeS_u9, subI, go_sem] <;> rfl
@[go_sem] theorem laws_markOutcomeS_u10_ok {β : Type} (fu n : Nat) (K : List (Kont β)) (a49 : List SOutcome) (a50 a51 : Int) : run ⟨(tab fu).own, lev (tab fu) (n + 2), (tab fu).gl⟩ K c12_u10 ⟨[(0, .sl 1000000000 0 a49.length), (1, .val (.int .i64 a50)), (5, .val (.int .i64 a51))], [(1000000000, .row true 19 (rowE (SOutcome.cells .own) a49))], 164⟩ = (laws_markOutcomeS_u10 a49 a50 a51).bind (fun t => plug ⟨(tab fu).own, lev (tab fu) (n + 2), (tab fu).gl⟩ K .normal ⟨[(0, .sl 1000000000 0 t.1.length), (1, .val (.int .i64 t.2)), (5, .val (.int .i64 a51))], [(1000000000, .row true 19 (rowE (SOutcome.cells .own) t.1))], 164⟩) := by
  unfold c12_u10
  simp +contextual -implicitDefEqProofs (maxSteps := 99999999) only [laws_markOutcomeS_u10, subI, go_sem] <;> rfl
@[go_sem] theorem laws_markOutcomeS_u11_ok {β : Type} (fu n : Nat) (K : List (Kont β)) (a56 : List SOutcome) (a57 a58 : Int) : run ⟨(tab fu).own, lev (tab fu) (n + 2), (tab fu).gl⟩ K c12_u11 ⟨[(0, .sl 1000000000 0 a56.length), (1, .val (.int .i64 a57)), (5, .val (.int .i64 a58))], [(1000000000, .row true 19 (rowE (SOutcome.cells .own) a56))], 164⟩ = (laws_markOutcomeS_u11 a56 a57 a58).bind (fun t => plug ⟨(tab fu).own, lev (tab fu) (n + 2), (tab fu).gl⟩ K .normal ⟨[(0, .sl 1000000000 0 t.1.length), (1, .val (.int .i64 t.2)), (5, .val (.int .i64 a58))], [(1000000000, .row true 19 (rowE (SOutcome.cells .own) t.1))], 164⟩) := by
  unfold c12_u11
  simp +contextual -implicitDefEqProofs (maxSteps := 99999999) only [laws_markOutcomeS_u11, subI, go_sem] <;> rfl
@[go_sem] theorem laws_markOutcomeS_u12_ok {β : Type} (fu n : Nat) (K : List (Kont β)) (a63 : List SOutcome) (a64 a65 : Int) : run ⟨(tab fu).own, lev (tab fu) (n + 2), (tab fu).gl⟩ K c12_u12 ⟨[(0, .sl 1000000000 0 a63.length), (1, .val (.int .i64 a64)), (5, .val (.int .i64 a65))], [(1000000000, .row true 19 (rowE (SOutcome.cells .own) a63))], 164⟩ = (laws_markOutcomeS_u12 a63 a64 a65).bind (fun t => plug ⟨(tab fu).own, lev (tab fu) (n + 2), (tab fu).gl⟩ K .normal ⟨[(0, .sl 1000000000 0 t.1.length), (1, .val (.int .i64 t.2)), (5, .val (.int .i64 a65))], [(1000000000, .row true 19 (rowE (SOutcome.cells .own) t.1))], 164⟩) := by
  unfold c12_u12
  simp +contextual -implicitDefEqProofs (maxSteps := 99999999) only [laws_markOutcomeS_u12, subI, go_sem] <;> rfl
@[go_sem] theorem laws_markOutcomeS_u13_ok {β : Type} (fu n : Nat) (K : List (Kont β)) (a70 : List SOutcome) (a71 a72 : Int) : run ⟨(tab fu).own, lev (tab fu) (n + 2), (tab fu).gl⟩ K c12_u13 ⟨[(0, .sl 1000000000 0 a70.length), (1, .val (.int .i64 a71)), (5, .val (.int .i64 a72))], [(1000000000, .row true 19 (rowE (SOutcome.cells .own) a70))], 164⟩ = (laws_markOutcomeS_u13 a70 a71 a72).bind (fun t => plug ⟨(tab fu).own, lev (tab fu) (n + 2), (tab fu).gl⟩ K .normal ⟨[(0, .sl 1000000000 0 t.1.length), (1, .val (.int .i64 t.2)), (5, .val (.int .i64 a72))], [(1000000000, .row true 19 (rowE (SOutcome.cells .own) t.1))], 164⟩) := by
  unfold c12_u13
  simp +contextual -implicitDefEqProofs (maxSteps := 99999999) only [laws_markOutcomeS_u13, subI, go_sem] <;> rfl
@[go_sem] theorem laws_markOutcomeS_u14_ok {β : Type} (fu n : Nat) (K : List (Kont β)) (a77 : List SOutcome) (a78 a79 : Int) : run ⟨(tab fu).own, lev (tab fu) (n + 2), (tab fu).gl⟩ K c12_u14 ⟨[(0, .sl 1000000000 0 a77.length), (1, .val (.int .i64 a78)), (5, .val (.int .i64 a79))], [(1000000000, .row true 19 (rowE (SOutcome.cells .own) a77))], 164⟩ = (laws_markOutcomeS_u14 a77 a78 a79).bind (fun t => plug ⟨(tab fu).own, lev (tab fu) (n + 2), (tab fu).gl⟩ K .normal ⟨[(0, .sl 1000000000 0 t.length), (1, .val (.int .i64 a78)), (5, .val (.int .i64 a79))], [(1000000000, .row true 19 (rowE (SOutcome.cells .own) t))], 164⟩) := by
  unfold c12_u14
  simp +contextual -implicitDefEqProofs (maxSteps := 99999999) only [laws_markOutcomeS_u14, subI, go_sem] <;> rfl
@[go_sem] theorem laws_markOutcomeS_u15_ok {β : Type} (fu n : Nat) (K : List (Kont β)) (a82 : List SOutcome) (a83 a84 : Int) : run ⟨(tab fu).own, lev (tab fu) (n + 2), (tab fu).gl⟩ K c12_u15 ⟨[(0, .sl 1000000000 0 a82.length), (1, .val (.int .i64 a83)), (5, .val (.int .i64 a84))], [(1000000000, .row true 19 (rowE (SOutcome.cells .own) a82))], 164⟩ = (laws_markOutcomeS_u15 a82 a83 a84).bind (fun t => plug ⟨(tab fu).own, lev (tab fu) (n + 2), (tab fu).gl⟩ K .normal ⟨[(0, .sl 1000000000 0 t.length), (1, .val (.int .i64 a83)), (5, .val (.int .i64 a84))], [(1000000000, .row true 19 (rowE (SOutcome.cells .own) t))], 164⟩) := by
  unfold c12_u15
  simp +contextual -implicitDefEqProofs (maxSteps := 99999999) only [laws_markOutcomeS_u15, subI, go_sem] <;> rfl
@[go_sem] theorem laws_markOutcomeS_u16_ok {β : Type} (fu n : Nat) (K : List (Kont β)) (a87 : List SOutcome) (a88 a89 : Int) : run ⟨(tab fu).own, lev (tab fu) (n + 2), (tab fu).gl⟩ K c12_u16 ⟨[(0, .sl 1000000000 0 a87.length), (1, .val (.int .i64 a88)), (5, .val (.int .i64 a89))], [(1000000000, .row true 19 (rowE (SOutcome.cells .own) a87))], 164⟩ = (laws_markOutcomeS_u16 a87 a88 a89).bind (fun t => plug ⟨(tab fu).own, lev (tab fu) (n + 2), (tab fu).gl⟩ K .normal ⟨[(0, .sl 1000000000 0 t.length), (1, .val (.int .i64 a88)), (5, .val (.int .i64 a89))], [(1000000000, .row true 19 (rowE (SOutcome.cells .own) t))], 164⟩) := by
  unfold c12_u16
  simp +contextual -implicitDefEqProofs (maxSteps := 99999999) only [laws_markOutcomeS_u16, subI, go_sem] <;> rfl
@[go_sem] theorem laws_markOutcomeS_u17_ok {β : Type} (fu n : Nat) (K : List (Kont β)) (a92 : List SOutcome) (a93 a94 : Int) : run ⟨(tab fu).own, lev (tab fu) (n + 2), (tab fu).gl⟩ K c12_u17 ⟨[(0, .sl 1000000000 0 a92.length), (1, .val (.int .i64 a93)), (5, .val (.int .i64 a94))], [(1000000000, .row true 19 (rowE (SOutcome.cells .own) a92))], 164⟩ = (laws_markOutcomeS_u17 a92 a93 a94).bind (fun t => plug ⟨(tab fu).own, lev (tab fu) (n + 2), (tab fu).gl⟩ K .normal ⟨[(0, .sl 1000000000 0 t.1.length), (1, .val (.int .i64 t.2)), (5, .val (.int .i64 a94))], [(1000000000, .row true 19 (rowE (SOutcome.cells .own) t.1))], 164⟩) := by
  unfold c12_u17
  simp +contextual -implicitDefEqProofs (maxSteps := 99999999) only [laws_markOutcomeS_u17, subI, go_sem] <;> rfl
@[go_sem] theorem laws_markOutcomeS_u18_ok {β : Type} (fu n : Nat) (K : List (Kont β)) (a99 : List SOutcome) (a100 a101 : Int) : run ⟨(tab fu).own, lev (tab fu) (n + 2), (tab fu).gl⟩ K c12_u18 ⟨[(0, .sl 1000000000 0 a99.length), (1, .val (.int .i64 a100)), (5, .val (.int .i64 a101))], [(1000000000, .row true 19 (rowE (SOutcome.cells .own) a99))], 164⟩ = (laws_markOutcomeS_u18 a99 a100 a101).bind (fun t => plug ⟨(tab fu).own, lev (tab fu) (n + 2), (tab fu).gl⟩ K .normal ⟨[(0, .sl 1000000000 0 t.1.length), (1, .val (.int .i64 t.2)), (5, .val (.int .i64 a101))], [(1000000000, .row true 19 (rowE (SOutcome.cells .own) t.1))], 164⟩) := by
  unfold c12_u18
  simp +contextual -implicitDefEqProofs (maxSteps := 99999999) only [laws_markOutcomeS_u18, subI, go_sem] <;> rfl
@[go_sem] theorem laws_markOutcomeS_u19_ok {β : Type} (fu n : Nat) (K : List (Kont β)) (a106 : List SOutcome) (a107 a108 : Int) : run ⟨(tab fu).own, lev (tab fu) (n + 2), (tab fu).gl⟩ K c12_u19 ⟨[(0, .sl 1000000000 0 a106.length), (1, .val (.int .i64 a107)), (5, .val (.int .i64 a108))], [(1000000000, .row true 19 (rowE (SOutcome.cells .own) a106))], 164⟩ = (laws_markOutcomeS_u19 a106 a107 a108).bind (fun t => plug ⟨(tab fu).own, lev (tab fu) (n + 2), (tab fu).gl⟩ K .normal ⟨[(0, .sl 1000000000 0 t.1.length), (1, .val (.int .i64 t.2)), (5, .val (.int .i64 a108))], [(1000000000, .row true 19 (rowE (SOutcome.cells .own) t.1))], 164⟩) := by
  unfold c12_u19
  simp +contextual -implicitDefEqProofs (maxSteps := 99999999) only [laws_markOutcomeS_u19, subI, go_sem] <;> rfl
@[go_sem] theorem laws_markOutcomeS_s20_ok {β : Type} (fu n : Nat) (K : List (Kont β)) (a1 : List SOutcome) (a2 a3 : Int) : run ⟨(tab fu).own, lev (tab fu) (n + 2), (tab fu).gl⟩ K (.loop c12_u20) ⟨[(0, .sl 1000000000 0 a1.length), (1, .val (.int .i64 a2)), (5, .val (.int .i64 a3))], [(1000000000, .row true 19 (rowE (SOutcome.cells .own) a1))], 164⟩ = (loopO laws_markOutcomeS_s20 ((a1, a2, a3))).bind (fun t => plug ⟨(tab fu).own, lev (tab fu) (n + 2), (tab fu).gl⟩ K (.exit 0) ⟨[(1, .val (.int .i64 t.2))], [(1000000000, .row true 19 (rowE (SOutcome.cells .own) t.1))], 164⟩) := by
  refine loop_run (C := ⟨(tab fu).own, lev (tab fu) (n + 2), (tab fu).gl⟩) (K := K) (c := c12_u20) (laws_markOutcomeS_s20) (fun s => ⟨[(0, .sl 1000000000 0 s.1.length), (1, .val (.int .i64 s.2.1)), (5, .val (.int .i64 s.2.2))], [(1000000000, .row true 19 (rowE (SOutcome.cells .own) s.1))], 164⟩) (fun t => plug ⟨(tab fu).own, lev (tab fu) (n + 2), (tab fu).gl⟩ K (.exit 0) ⟨[(1, .val (.int .i64 t.2))], [(1000000000, .row true 19 (rowE (SOutcome.cells .own) t.1))], 164⟩) (fun k s => ?_) ((a1, a2, a3))
  obtain ⟨a1, a2, a3⟩ := s
  unfold c12_u20
  simp +contextual -implicitDefEqProofs (maxSteps := 99999999) only [laws_markOutcomeS_s20, subI, go_sem] <;> rfl
@[go_sem] theorem laws_markOutcomeS_ok (fu n : Nat) (q0_0 : List SOutcome) (q1_0 : Int) : lev (tab fu) (n + 3) 12 [.ow 19 (rowE (SOutcome.cells .own) q0_0), .int .i64 q1_0] = (laws_markOutcomeS q0_0 q1_0).map fun r => (.int .i64 r.1, [.ow 19 (rowE (SOutcome.cells .own) r.2), .gone]) := by
  rw [lev_st (vc := c12) (nt := 164) (rs := [(4, none)]) ((tab_ext _ _ rfl).trans rfl) rfl (Nat.le_of_ble_eq_true rfl)]
  unfold c12
  simp +contextual -implicitDefEqProofs (maxSteps := 99999999) only [laws_markOutcomeS, subI, go_sem] <;> rfl
def laws_markIntsResult_o (p0 : SIntsResult) (p1 : Int) : Option (Int × SIntsResult) :=
  (laws_markInt64S p0.List_ p1).bind fun r1 =>
  if p0.List_.length = r1.2.length then some ((r1.1, (SIntsResult.mk p0.Code r1.2)))
  else none
@[go_sem] theorem laws_markIntsResult_o_ok (fu n : Nat) (q0_0 : Int) (q0_1 : List Int) (q1_0 : Int) : lev (tab fu) (n + 2) 13 [.int .i64 q0_0, .ow 1 (rowE (eI .i64) q0_1), .int .i64 q1_0] = (laws_markIntsResult_o (SIntsResult.mk q0_0 q0_1) q1_0).map fun r => (.int .i64 r.1, [.gone, .ow 1 (rowE (eI .i64) r.2.List_), .gone]) := by
  rw [lev_st (vc := c13) (nt := 10) (rs := [(4, none)]) ((tab_ext _ _ rfl).trans rfl) rfl (Nat.le_of_ble_eq_true rfl)]
  unfold c13
  simp +contextual -implicitDefEqProofs (maxSteps := 99999999) only [laws_markIntsResult_o, subI, go_sem] <;> rfl
def laws_heldInt64S_s1 (a5 : List Int) : (Int × Int) → Option ((Int × Int) ⊕ (Int ⊕ Unit)) := fun ⟨a6, a7⟩ =>
  if (decide (a7 < (a5.length : Int))) = true then (getI a5 a7).bind fun x8 =>
    if (x8 != a6) = true then some ((.inr ((.inr (())))))
    else some ((.inl (((IntKind.i64.wrap (a6 + 1)), (IntKind.i64.wrap (a7 + 1))))))
  else some ((.inr ((.inl a6))))
def laws_heldInt64S (p0 : List Int) (p1 : Int) : Option (Int) :=
  (loopO (laws_heldInt64S_s1 p0) ((p1, 0))).bind fun t => (Sum.elim (fun y9 => some y9)
   (fun y10 => some ((-1)))) t
@[go_sem] theorem laws_heldInt64S_s1_ok {β : Type} (fu n : Nat) (K : List (Kont β)) (a5 : List Int) (a6 a7 : Int) : run ⟨(tab fu).own, lev (tab fu) n, (tab fu).gl⟩ K (.loop c50_u1) ⟨[(0, .val (.sh .lent 1 (rowE (eI .i64) a5))), (1, .val (.int .i64 a6)), (5, .val (.int .i64 a7))], [], 21⟩ = (loopO (laws_heldInt64S_s1 a5) ((a6, a7))).bind (fun t => (Sum.elim (fun t => plug ⟨(tab fu).own, lev (tab fu) n, (tab fu).gl⟩ K (.exit 0) ⟨[(1, .val (.int .i64 t))], [], 21⟩) (fun t => plug ⟨(tab fu).own, lev (tab fu) n, (tab fu).gl⟩ K .ret ⟨[(4, .val (.int .i64 ((-1))))], [], 21⟩)) t) := by
  refine loop_run (C := ⟨(tab fu).own, lev (tab fu) n, (tab fu).gl⟩) (K := K) (c := c50_u1) (laws_heldInt64S_s1 a5) (fun s => ⟨[(0, .val (.sh .lent 1 (rowE (eI .i64) a5))), (1, .val (.int .i64 s.1)), (5, .val (.int .i64 s.2))], [], 21⟩) (fun t => (Sum.elim (fun t => plug ⟨(tab fu).own, lev (tab fu) n, (tab fu).gl⟩ K (.exit 0) ⟨[(1, .val (.int .i64 t))], [], 21⟩) (fun t => plug ⟨(tab fu).own, lev (tab fu) n, (tab fu).gl⟩ K .ret ⟨[(4, .val (.int .i64 ((-1))))], [], 21⟩)) t) (fun k s => ?_) ((a6, a7))
  obtain ⟨a6, a7⟩ := s
  unfold c50_u1
  simp +contextual -implicitDefEqProofs (maxSteps := 99999999) only [laws_heldInt64S_s1, subI, go_sem] <;> rfl
@[go_sem] theorem laws_heldInt64S_ok (fu n : Nat) (q0_0 : List Int) (q1_0 : Int) : lev (tab fu) (n + 1) 50 [.sh .lent 1 (rowE (eI .i64) q0_0), .int .i64 q1_0] = (laws_heldInt64S q0_0 q1_0).map fun r => (.int .i64 r, [.gone, .gone]) := by
  rw [lev_st (vc := c50) (nt := 21) (rs := [(4, none)]) ((tab_ext _ _ rfl).trans rfl) rfl (Nat.le_of_ble_eq_true rfl)]
  unfold c50
  simp +contextual -implicitDefEqProofs (maxSteps := 99999999) only [laws_heldInt64S, subI, go_sem] <;> rfl
def laws_heldIntsResult (p0 : SIntsResult) (p1 : Int) : Option (Int) :=
  (laws_heldInt64S p0.List_ p1).bind fun r1 =>
  if (decide (r1 < 0)) = true then some ((-1))
  else some r1
@[go_sem] theorem laws_heldIntsResult_ok (fu n : Nat) (q0_0 : Int) (q0_1 : List Int) (q1_0 : Int) : lev (tab fu) (n + 2) 14 [.agg [.int .i64 q0_0, .sh .lent 1 (rowE (eI .i64) q0_1)], .int .i64 q1_0] = (laws_heldIntsResult (SIntsResult.mk q0_0 q0_1) q1_0).map fun r => (.int .i64 r, [.gone, .gone]) := by
  rw [lev_st (vc := c14) (nt := 12) (rs := [(4, none)]) ((tab_ext _ _ rfl).trans rfl) rfl (Nat.le_of_ble_eq_true rfl)]
  unfold c14
  simp +contextual -implicitDefEqProofs (maxSteps := 99999999) only [laws_heldIntsResult, subI, go_sem] <;> rfl
def laws_FnExactEnvelopeAt_u1 (fu : Nat) (a1 : Int) (a2 : List SOutcome) (a3 : Int) : Option (Int) :=
  (laws_szOutcomeS a2 1048576).bind fun r4 =>
  some r4
def laws_FnExactEnvelopeAt_u2 (fu : Nat) (a6 : Int) (a7 : List SOutcome) (a8 : Int) : Option (Int × (List Int)) :=
  (laws_toOutcomeS a7).bind fun r9 =>
  (spec_EnvelopeAt fu a6 r9 a8).bind fun r10 =>
  some ((r10.Code, r10.List_))
def laws_FnExactEnvelopeAt_u3 (fu : Nat) (a12 : Int) (a13 : List Int) (a14 : Int) (a15 : List SOutcome) (a16 : Int) : Option ((List SOutcome)) :=
  (laws_toOutcomeS a15).bind fun r17 =>
  some r17
def laws_FnExactEnvelopeAt_u4 (fu : Nat) (a19 : Int) (a20 : List Int) (a21 : List SOutcome) (a22 : Int) (a23 : List SOutcome) (a24 : Int) : Option (Int × (List Int)) :=
  (impl_EnvelopeAt fu a22 a21 a24).bind fun r25 =>
  some ((r25.Code, r25.List_))
def laws_FnExactEnvelopeAt_u5 (fu : Nat) (a27 : Int) (a28 : List Int) (a29 : List SOutcome) (a30 : Int) (a31 : List Int) (a32 : Int) (a33 : List SOutcome) (a34 : Int) : Option (Bool) :=
  (laws_eqIntsResult ((SIntsResult.mk a30 a31)) ((SIntsResult.mk a27 a28))).bind fun r35 =>
  some ((!r35))
def laws_FnExactEnvelopeAt_u6 (fu : Nat) (a37 : Int) (a38 : List Int) (a39 : List SOutcome) (a40 : Int) (a41 : List Int) (a42 : Int) (a43 : List SOutcome) (a44 : Int) : Option (Bool) :=
  (laws_toOutcomeS a43).bind fun r45 =>
  (laws_eqOutcomeS a39 r45).bind fun r46 =>
  some ((!r46))
def laws_FnExactEnvelopeAt_u7 (fu : Nat) (a56 : Int) (a57 : List Int) (a58 : List SOutcome) (a59 : Int) (a60 : List Int) (a61 : Int) (a62 : List SOutcome) (a63 : Int) : Option (Int) :=
  (laws_markOutcomeS a58 1).bind fun r64 =>
  if a58.length = r64.2.length then some r64.1
  else none
def laws_FnExactEnvelopeAt_u8 (fu : Nat) (a66 : Int) (a67 : List Int) (a68 : Int) (a69 : List Int) (a70 : Int) (a71 : List SOutcome) (a72 a73 : Int) : Option (Bool) :=
  if (decide (a73 < 0)) = true then some true
  else (laws_eqIntsResult ((SIntsResult.mk a68 a69)) ((SIntsResult.mk a66 a67))).bind fun r74 =>
    some ((!r74))
def laws_FnExactEnvelopeAt_u9 (fu : Nat) (a76 : Int) (a77 : List Int) (a78 : Int) (a79 : List Int) (a80 : Int) (a81 : List SOutcome) (a82 : Int) : Option ((List Int) × Int) :=
  (laws_markIntsResult_o ((SIntsResult.mk a78 a79)) 1).bind fun r83 =>
  if a79.length = r83.2.List_.length then some ((r83.2.List_, r83.1))
  else none
def laws_FnExactEnvelopeAt_u10 (fu : Nat) (a85 : Int) (a86 : List Int) (a87 : Int) (a88 : List Int) (a89 : Int) (a90 : List SOutcome) (a91 a92 : Int) : Option (Int) :=
  (laws_heldIntsResult ((SIntsResult.mk a87 a88)) 1).bind fun r93 =>
  some r93
def laws_FnExactEnvelopeAt_u11 (fu : Nat) (a103 : Int) (a104 : List Int) (a105 : Int) (a106 : List Int) (a107 : Int) (a108 : List SOutcome) (a109 a110 : Int) : Option (Int × (List Int)) :=
  (laws_toOutcomeS a108).bind fun r111 =>
  (impl_EnvelopeAt fu a107 r111 a109).bind fun r112 =>
  some ((r112.Code, r112.List_))
def laws_FnExactEnvelopeAt_u12 (fu : Nat) (a114 : Int) (a115 : List Int) (a116 : Int) (a117 : List Int) (a118 : Int) (a119 : List Int) (a120 : Int) : Option (Bool) :=
  (laws_eqIntsResult ((SIntsResult.mk a118 a119)) ((SIntsResult.mk a114 a115))).bind fun r121 =>
  some ((!r121))
def laws_FnExactEnvelopeAt_u13 (fu : Nat) (a123 : Int) (a124 : List Int) (a125 : Int) : Option (Int) :=
  (laws_heldIntsResult ((SIntsResult.mk a123 a124)) 1).bind fun r126 =>
  some r126
def laws_FnExactEnvelopeAt_u14 (fu : Nat) (a95 : Int) (a96 : List Int) (a97 : Int) (a98 : List Int) (a99 : Int) (a100 : List SOutcome) (a101 a102 : Int) : Option (Bool) :=
  (laws_FnExactEnvelopeAt_u11 fu a95 a96 a97 a98 a99 a100 a101 a102).bind fun y113 =>
  (laws_FnExactEnvelopeAt_u12 fu a95 a96 a97 a98 y113.1 y113.2 a102).bind fun y122 =>
  if y122 = true then some false
  else (laws_FnExactEnvelopeAt_u13 fu a97 a98 a102).bind fun y127 =>
    if (decide (y127 < 0)) = true then some false
    else if (y127 != a102) = true then some false
      else some true
def laws_FnExactEnvelopeAt_u15 (fu : Nat) (a48 : Int) (a49 : List Int) (a50 : List SOutcome) (a51 : Int) (a52 : List Int) (a53 : Int) (a54 : List SOutcome) (a55 : Int) : Option (Bool) :=
  (laws_FnExactEnvelopeAt_u7 fu a48 a49 a50 a51 a52 a53 a54 a55).bind fun y65 =>
  (laws_FnExactEnvelopeAt_u8 fu a48 a49 a51 a52 a53 a54 a55 y65).bind fun y75 =>
  if y75 = true then some false
  else (laws_FnExactEnvelopeAt_u9 fu a48 a49 a51 a52 a53 a54 a55).bind fun y84 =>
    (laws_FnExactEnvelopeAt_u10 fu a48 a49 a51 y84.1 a53 a54 a55 y84.2).bind fun y94 =>
    if (decide (y94 < 0)) = true then some false
    else if (y94 != y84.2) = true then some false
      else (laws_FnExactEnvelopeAt_u14 fu a48 a49 a51 y84.1 a53 a54 a55 y84.2).bind fun y128 =>
        some y128
def laws_FnExactEnvelopeAt (fu : Nat) (p0 : Int) (p1 : List SOutcome) (p2 : Int) : Option (Bool) :=
  (laws_FnExactEnvelopeAt_u1 fu p0 p1 p2).bind fun y5 =>
  if (decide (y5 < 0)) = true then some true
  else (laws_FnExactEnvelopeAt_u2 fu p0 p1 p2).bind fun y11 =>
    (laws_FnExactEnvelopeAt_u3 fu y11.1 y11.2 p0 p1 p2).bind fun y18 =>
    (laws_FnExactEnvelopeAt_u4 fu y11.1 y11.2 y18 p0 p1 p2).bind fun y26 =>
    (laws_FnExactEnvelopeAt_u5 fu y11.1 y11.2 y18 y26.1 y26.2 p0 p1 p2).bind fun y36 =>
    if y36 = true then some false
    else (laws_FnExactEnvelopeAt_u6 fu y11.1 y11.2 y18 y26.1 y26.2 p0 p1 p2).bind fun y47 =>
      if y47 = true then some false
      else (laws_FnExactEnvelopeAt_u15 fu y11.1 y11.2 y18 y26.1 y26.2 p0 p1 p2).bind fun y129 =>
        some y129
@[go_sem] theorem laws_FnExactEnvelopeAt_u1_ok {β : Type} (fu n : Nat) (K : List (Kont β)) (a1 : Int) (a2 : List SOutcome) (a3 : Int) : run ⟨(tab fu).own, lev (tab fu) (n + 9), (tab fu).gl⟩ K c3_u1 ⟨[(0, .val (.int .i64 a1)), (1, .val (.sh .lent 19 (rowE (SOutcome.cells .lent) a2))), (2, .val (.int .i64 a3)), (7, .val (.int .i64 1048576))], [], 79⟩ = (laws_FnExactEnvelopeAt_u1 fu a1 a2 a3).bind (fun t => plug ⟨(tab fu).own, lev (tab fu) (n + 9), (tab fu).gl⟩ K .normal ⟨[(0, .val (.int .i64 a1)), (1, .val (.sh .lent 19 (rowE (SOutcome.cells .lent) a2))), (2, .val (.int .i64 a3)), (7, .val (.int .i64 t))], [], 79⟩) := by
  unfold c3_u1
  simp +contextual -implicitDefEqProofs (maxSteps := 99999999) only [laws_FnExactEnvelopeAt_u1, subI, go_sem] <;> rfl
@[go_sem] theorem laws_FnExactEnvelopeAt_u2_ok {β : Type} (fu n : Nat) (K : List (Kont β)) (a6 : Int) (a7 : List SOutcome) (a8 : Int) : run ⟨(tab fu).own, lev (tab fu) (n + 9), (tab fu).gl⟩ K c3_u2 ⟨[(0, .val (.int .i64 a6)), (1, .val (.sh .lent 19 (rowE (SOutcome.cells .lent) a7))), (2, .val (.int .i64 a8))], [], 79⟩ = (laws_FnExactEnvelopeAt_u2 fu a6 a7 a8).bind (fun t => plug ⟨(tab fu).own, lev (tab fu) (n + 9), (tab fu).gl⟩ K .normal ⟨[(0, .val (.int .i64 a6)), (1, .val (.sh .lent 19 (rowE (SOutcome.cells .lent) a7))), (2, .val (.int .i64 a8)), (8, .pt 200000080 0)], [(200000080, .var false [.val (.int .i64 t.1), .sl 200000081 0 t.2.length]), (200000081, .row false 1 (rowE (eI .i64) t.2))], 79⟩) := by
  unfold c3_u2
  simp +contextual -implicitDefEqProofs (maxSteps := 99999999) only [laws_FnExactEnvelopeAt_u2, subI, go_sem] <;> rfl
@[go_sem] theorem laws_FnExactEnvelopeAt_u3_ok {β : Type} (fu n : Nat) (K : List (Kont β)) (a12 : Int) (a13 : List Int) (a14 : Int) (a15 : List SOutcome) (a16 : Int) : run ⟨(tab fu).own, lev (tab fu) (n + 9), (tab fu).gl⟩ K c3_u3 ⟨[(0, .val (.int .i64 a14)), (1, .val (.sh .lent 19 (rowE (SOutcome.cells .lent) a15))), (2, .val (.int .i64 a16)), (8, .pt 200000080 0)], [(200000080, .var false [.val (.int .i64 a12), .sl 200000081 0 a13.length]), (200000081, .row false 1 (rowE (eI .i64) a13))], 79⟩ = (laws_FnExactEnvelopeAt_u3 fu a12 a13 a14 a15 a16).bind (fun t => plug ⟨(tab fu).own, lev (tab fu) (n + 9), (tab fu).gl⟩ K .normal ⟨[(0, .val (.int .i64 a14)), (1, .val (.sh .lent 19 (rowE (SOutcome.cells .lent) a15))), (2, .val (.int .i64 a16)), (8, .pt 200000080 0), (9, .sl 200000090 0 t.length)], [(200000080, .var false [.val (.int .i64 a12), .sl 200000081 0 a13.length]), (200000081, .row false 1 (rowE (eI .i64) a13)), (200000090, .row false 19 (rowE (SOutcome.cells .own) t))], 79⟩) := by
  unfold c3_u3
  simp +contextual -implicitDefEqProofs (maxSteps := 99999999) only [laws_FnExactEnvelopeAt_u3, subI, go_sem] <;> rfl
@[go_sem] theorem laws_FnExactEnvelopeAt_u4_ok {β : Type} (fu n : Nat) (K : List (Kont β)) (a19 : Int) (a20 : List Int) (a21 : List SOutcome) (a22 : Int) (a23 : List SOutcome) (a24 : Int) : run ⟨(tab fu).own, lev (tab fu) (n + 9), (tab fu).gl⟩ K c3_u4 ⟨[(0, .val (.int .i64 a22)), (1, .val (.sh .lent 19 (rowE (SOutcome.cells .lent) a23))), (2, .val (.int .i64 a24)), (8, .pt 200000080 0), (9, .sl 200000090 0 a21.length)], [(200000080, .var false [.val (.int .i64 a19), .sl 200000081 0 a20.length]), (200000081, .row false 1 (rowE (eI .i64) a20)), (200000090, .row false 19 (rowE (SOutcome.cells .own) a21))], 79⟩ = (laws_FnExactEnvelopeAt_u4 fu a19 a20 a21 a22 a23 a24).bind (fun t => plug ⟨(tab fu).own, lev (tab fu) (n + 9), (tab fu).gl⟩ K .normal ⟨[(0, .val (.int .i64 a22)), (1, .val (.sh .lent 19 (rowE (SOutcome.cells .lent) a23))), (2, .val (.int .i64 a24)), (8, .pt 200000080 0), (9, .sl 200000090 0 a21.length), (10, .pt 200000100 0)], [(200000080, .var false [.val (.int .i64 a19), .sl 200000081 0 a20.length]), (200000081, .row false 1 (rowE (eI .i64) a20)), (200000090, .row false 19 (rowE (SOutcome.cells .own) a21)), (200000100, .var false [.val (.int .i64 t.1), .sl 200000101 0 t.2.length]), (200000101, .row false 1 (rowE (eI .i64) t.2))], 79⟩) := by
  unfold c3_u4
  simp +contextual -implicitDefEqProofs (maxSteps := 99999999) only [laws_FnExactEnvelopeAt_u4, subI, go_sem] <;> rfl
@[go_sem] theorem laws_FnExactEnvelopeAt_u5_ok {β : Type} (fu n : Nat) (K : List (Kont β)) (a27 : Int) (a28 : List Int) (a29 : List SOutcome) (a30 : Int) (a31 : List Int) (a32 : Int) (a33 : List SOutcome) (a34 : Int) : run ⟨(tab fu).own, lev (tab fu) (n + 9), (tab fu).gl⟩ K c3_u5 ⟨[(0, .val (.int .i64 a32)), (1, .val (.sh .lent 19 (rowE (SOutcome.cells .lent) a33))), (2, .val (.int .i64 a34)), (8, .pt 200000080 0), (9, .sl 200000090 0 a29.length), (10, .pt 200000100 0)], [(200000080, .var false [.val (.int .i64 a27), .sl 200000081 0 a28.length]), (200000081, .row false 1 (rowE (eI .i64) a28)), (200000090, .row false 19 (rowE (SOutcome.cells .own) a29)), (200000100, .var false [.val (.int .i64 a30), .sl 200000101 0 a31.length]), (200000101, .row false 1 (rowE (eI .i64) a31))], 79⟩ = (laws_FnExactEnvelopeAt_u5 fu a27 a28 a29 a30 a31 a32 a33 a34).bind (fun t => plug ⟨(tab fu).own, lev (tab fu) (n + 9), (tab fu).gl⟩ K .normal ⟨[(0, .val (.int .i64 a32)), (1, .val (.sh .lent 19 (rowE (SOutcome.cells .lent) a33))), (2, .val (.int .i64 a34)), (8, .pt 200000080 0), (9, .sl 200000090 0 a29.length), (10, .pt 200000100 0), (34, .val (.bool t))], [(200000080, .var false [.val (.int .i64 a27), .sl 200000081 0 a28.length]), (200000081, .row false 1 (rowE (eI .i64) a28)), (200000090, .row false 19 (rowE (SOutcome.cells .own) a29)), (200000100, .var false [.val (.int .i64 a30), .sl 200000101 0 a31.length]), (200000101, .row false 1 (rowE (eI .i64) a31))], 79⟩) := by
  unfold c3_u5
  simp +contextual -implicitDefEqProofs (maxSteps := 99999999) only [laws_FnExactEnvelopeAt_u5, subI, go_sem] <;> rfl
@[go_sem] theorem laws_FnExactEnvelopeAt_u6_ok {β : Type} (fu n : Nat) (K : List (Kont β)) (a37 : Int) (a38 : List Int) (a39 : List SOutcome) (a40 : Int) (a41 : List Int) (a42 : Int) (a43 : List SOutcome) (a44 : Int) : run ⟨(tab fu).own, lev (tab fu) (n + 9), (tab fu).gl⟩ K c3_u6 ⟨[(0, .val (.int .i64 a42)), (1, .val (.sh .lent 19 (rowE (SOutcome.cells .lent) a43))), (2, .val (.int .i64 a44)), (8, .pt 200000080 0), (9, .sl 200000090 0 a39.length), (10, .pt 200000100 0)], [(200000080, .var false [.val (.int .i64 a37), .sl 200000081 0 a38.length]), (200000081, .row false 1 (rowE (eI .i64) a38)), (200000090, .row false 19 (rowE (SOutcome.cells .own) a39)), (200000100, .var false [.val (.int .i64 a40), .sl 200000101 0 a41.length]), (200000101, .row false 1 (rowE (eI .i64) a41))], 79⟩ = (laws_FnExactEnvelopeAt_u6 fu a37 a38 a39 a40 a41 a42 a43 a44).bind (fun t => plug ⟨(tab fu).own, lev (tab fu) (n + 9), (tab fu).gl⟩ K .normal ⟨[(0, .val (.int .i64 a42)), (1, .val (.sh .lent 19 (rowE (SOutcome.cells .lent) a43))), (2, .val (.int .i64 a44)), (8, .pt 200000080 0), (9, .sl 200000090 0 a39.length), (10, .pt 200000100 0), (39, .val (.bool t))], [(200000080, .var false [.val (.int .i64 a37), .sl 200000081 0 a38.length]), (200000081, .row false 1 (rowE (eI .i64) a38)), (200000090, .row false 19 (rowE (SOutcome.cells .own) a39)), (200000100, .var false [.val (.int .i64 a40), .sl 200000101 0 a41.length]), (200000101, .row false 1 (rowE (eI .i64) a41))], 79⟩) := by
  unfold c3_u6
  simp +contextual -implicitDefEqProofs (maxSteps := 99999999) only [laws_FnExactEnvelopeAt_u6, subI, go_sem] <;> rfl
@[go_sem] theorem laws_FnExactEnvelopeAt_u7_ok {β : Type} (fu n : Nat) (K : List (Kont β)) (a56 : Int) (a57 : List Int) (a58 : List SOutcome) (a59 : Int) (a60 : List Int) (a61 : Int) (a62 : List SOutcome) (a63 : Int) : run ⟨(tab fu).own, lev (tab fu) (n + 9), (tab fu).gl⟩ K c3_u7 ⟨[(0, .val (.int .i64 a61)), (1, .val (.sh .lent 19 (rowE (SOutcome.cells .lent) a62))), (2, .val (.int .i64 a63)), (8, .pt 200000080 0), (9, .sl 200000090 0 a58.length), (10, .pt 200000100 0), (11, .val (.int .i64 1))], [(200000080, .var false [.val (.int .i64 a56), .sl 200000081 0 a57.length]), (200000081, .row false 1 (rowE (eI .i64) a57)), (200000090, .row false 19 (rowE (SOutcome.cells .own) a58)), (200000100, .var false [.val (.int .i64 a59), .sl 200000101 0 a60.length]), (200000101, .row false 1 (rowE (eI .i64) a60))], 79⟩ = (laws_FnExactEnvelopeAt_u7 fu a56 a57 a58 a59 a60 a61 a62 a63).bind (fun t => plug ⟨(tab fu).own, lev (tab fu) (n + 9), (tab fu).gl⟩ K .normal ⟨[(0, .val (.int .i64 a61)), (1, .val (.sh .lent 19 (rowE (SOutcome.cells .lent) a62))), (2, .val (.int .i64 a63)), (8, .pt 200000080 0), (10, .pt 200000100 0), (11, .val (.int .i64 t))], [(200000080, .var false [.val (.int .i64 a56), .sl 200000081 0 a57.length]), (200000081, .row false 1 (rowE (eI .i64) a57)), (200000100, .var false [.val (.int .i64 a59), .sl 200000101 0 a60.length]), (200000101, .row false 1 (rowE (eI .i64) a60))], 79⟩) := by
  unfold c3_u7
  simp +contextual -implicitDefEqProofs (maxSteps := 99999999) only [laws_FnExactEnvelopeAt_u7, subI, go_sem] <;> rfl
@[go_sem] theorem laws_FnExactEnvelopeAt_u8_ok {β : Type} (fu n : Nat) (K : List (Kont β)) (a66 : Int) (a67 : List Int) (a68 : Int) (a69 : List Int) (a70 : Int) (a71 : List SOutcome) (a72 a73 : Int) : run ⟨(tab fu).own, lev (tab fu) (n + 9), (tab fu).gl⟩ K c3_u8 ⟨[(0, .val (.int .i64 a70)), (1, .val (.sh .lent 19 (rowE (SOutcome.cells .lent) a71))), (2, .val (.int .i64 a72)), (8, .pt 200000080 0), (10, .pt 200000100 0), (11, .val (.int .i64 a73))], [(200000080, .var false [.val (.int .i64 a66), .sl 200000081 0 a67.length]), (200000081, .row false 1 (rowE (eI .i64) a67)), (200000100, .var false [.val (.int .i64 a68), .sl 200000101 0 a69.length]), (200000101, .row false 1 (rowE (eI .i64) a69))], 79⟩ = (laws_FnExactEnvelopeAt_u8 fu a66 a67 a68 a69 a70 a71 a72 a73).bind (fun t => plug ⟨(tab fu).own, lev (tab fu) (n + 9), (tab fu).gl⟩ K .normal ⟨[(0, .val (.int .i64 a70)), (1, .val (.sh .lent 19 (rowE (SOutcome.cells .lent) a71))), (2, .val (.int .i64 a72)), (8, .pt 200000080 0), (10, .pt 200000100 0), (50, .val (.bool t))], [(200000080, .var false [.val (.int .i64 a66), .sl 200000081 0 a67.length]), (200000081, .row false 1 (rowE (eI .i64) a67)), (200000100, .var false [.val (.int .i64 a68), .sl 200000101 0 a69.length]), (200000101, .row false 1 (rowE (eI .i64) a69))], 79⟩) := by
  unfold c3_u8
  simp +contextual -implicitDefEqProofs (maxSteps := 99999999) only [laws_FnExactEnvelopeAt_u8, subI, go_sem] <;> rfl
@[go_sem] theorem laws_FnExactEnvelopeAt_u9_ok {β : Type} (fu n : Nat) (K : List (Kont β)) (a76 : Int) (a77 : List Int) (a78 : Int) (a79 : List Int) (a80 : Int) (a81 : List SOutcome) (a82 : Int) : run ⟨(tab fu).own, lev (tab fu) (n + 9), (tab fu).gl⟩ K c3_u9 ⟨[(0, .val (.int .i64 a80)), (1, .val (.sh .lent 19 (rowE (SOutcome.cells .lent) a81))), (2, .val (.int .i64 a82)), (8, .pt 200000080 0), (10, .pt 200000100 0), (12, .val (.int .i64 1))], [(200000080, .var false [.val (.int .i64 a76), .sl 200000081 0 a77.length]), (200000081, .row false 1 (rowE (eI .i64) a77)), (200000100, .var false [.val (.int .i64 a78), .sl 200000101 0 a79.length]), (200000101, .row false 1 (rowE (eI .i64) a79))], 79⟩ = (laws_FnExactEnvelopeAt_u9 fu a76 a77 a78 a79 a80 a81 a82).bind (fun t => plug ⟨(tab fu).own, lev (tab fu) (n + 9), (tab fu).gl⟩ K .normal ⟨[(0, .val (.int .i64 a80)), (1, .val (.sh .lent 19 (rowE (SOutcome.cells .lent) a81))), (2, .val (.int .i64 a82)), (8, .pt 200000080 0), (10, .pt 200000100 0), (12, .val (.int .i64 t.2))], [(200000080, .var false [.val (.int .i64 a76), .sl 200000081 0 a77.length]), (200000081, .row false 1 (rowE (eI .i64) a77)), (200000100, .var false [.val (.int .i64 a78), .sl 200000101 0 t.1.length]), (200000101, .row false 1 (rowE (eI .i64) t.1))], 79⟩) := by
  unfold c3_u9
  simp +contextual -implicitDefEqProofs (maxSteps := 99999999) only [laws_FnExactEnvelopeAt_u9, subI, go_sem] <;> rfl
@[go_sem] theorem laws_FnExactEnvelopeAt_u10_ok {β : Type} (fu n : Nat) (K : List (Kont β)) (a85 : Int) (a86 : List Int) (a87 : Int) (a88 : List Int) (a89 : Int) (a90 : List SOutcome) (a91 a92 : Int) : run ⟨(tab fu).own, lev (tab fu) (n + 9), (tab fu).gl⟩ K c3_u10 ⟨[(0, .val (.int .i64 a89)), (1, .val (.sh .lent 19 (rowE (SOutcome.cells .lent) a90))), (2, .val (.int .i64 a91)), (8, .pt 200000080 0), (10, .pt 200000100 0), (12, .val (.int .i64 a92)), (13, .val (.int .i64 1))], [(200000080, .var false [.val (.int .i64 a85), .sl 200000081 0 a86.length]), (200000081, .row false 1 (rowE (eI .i64) a86)), (200000100, .var false [.val (.int .i64 a87), .sl 200000101 0 a88.length]), (200000101, .row false 1 (rowE (eI .i64) a88))], 79⟩ = (laws_FnExactEnvelopeAt_u10 fu a85 a86 a87 a88 a89 a90 a91 a92).bind (fun t => plug ⟨(tab fu).own, lev (tab fu) (n + 9), (tab fu).gl⟩ K .normal ⟨[(0, .val (.int .i64 a89)), (1, .val (.sh .lent 19 (rowE (SOutcome.cells .lent) a90))), (2, .val (.int .i64 a91)), (8, .pt 200000080 0), (10, .pt 200000100 0), (12, .val (.int .i64 a92)), (13, .val (.int .i64 t))], [(200000080, .var false [.val (.int .i64 a85), .sl 200000081 0 a86.length]), (200000081, .row false 1 (rowE (eI .i64) a86)), (200000100, .var false [.val (.int .i64 a87), .sl 200000101 0 a88.length]), (200000101, .row false 1 (rowE (eI .i64) a88))], 79⟩) := by
  unfold c3_u10
  simp +contextual -implicitDefEqProofs (maxSteps := 99999999) only [laws_FnExactEnvelopeAt_u10, subI, go_sem] <;> rfl
@[go_sem] theorem laws_FnExactEnvelopeAt_u11_ok {β : Type} (fu n : Nat) (K : List (Kont β)) (a103 : Int) (a104 : List Int) (a105 : Int) (a106 : List Int) (a107 : Int) (a108 : List SOutcome) (a109 a110 : Int) : run ⟨(tab fu).own, lev (tab fu) (n + 9), (tab fu).gl⟩ K c3_u11 ⟨[(0, .val (.int .i64 a107)), (1, .val (.sh .lent 19 (rowE (SOutcome.cells .lent) a108))), (2, .val (.int .i64 a109)), (8, .pt 200000080 0), (10, .pt 200000100 0), (12, .val (.int .i64 a110))], [(200000080, .var false [.val (.int .i64 a103), .sl 200000081 0 a104.length]), (200000081, .row false 1 (rowE (eI .i64) a104)), (200000100, .var false [.val (.int .i64 a105), .sl 200000101 0 a106.length]), (200000101, .row false 1 (rowE (eI .i64) a106))], 79⟩ = (laws_FnExactEnvelopeAt_u11 fu a103 a104 a105 a106 a107 a108 a109 a110).bind (fun t => plug ⟨(tab fu).own, lev (tab fu) (n + 9), (tab fu).gl⟩ K .normal ⟨[(8, .pt 200000080 0), (10, .pt 200000100 0), (12, .val (.int .i64 a110)), (14, .pt 200000140 0)], [(200000080, .var false [.val (.int .i64 a103), .sl 200000081 0 a104.length]), (200000081, .row false 1 (rowE (eI .i64) a104)), (200000100, .var false [.val (.int .i64 a105), .sl 200000101 0 a106.length]), (200000101, .row false 1 (rowE (eI .i64) a106)), (200000140, .var false [.val (.int .i64 t.1), .sl 200000141 0 t.2.length]), (200000141, .row false 1 (rowE (eI .i64) t.2))], 79⟩) := by
  unfold c3_u11
  simp +contextual -implicitDefEqProofs (maxSteps := 99999999) only [laws_FnExactEnvelopeAt_u11, subI, go_sem] <;> rfl
@[go_sem] theorem laws_FnExactEnvelopeAt_u12_ok {β : Type} (fu n : Nat) (K : List (Kont β)) (a114 : Int) (a115 : List Int) (a116 : Int) (a117 : List Int) (a118 : Int) (a119 : List Int) (a120 : Int) : run ⟨(tab fu).own, lev (tab fu) (n + 9), (tab fu).gl⟩ K c3_u12 ⟨[(8, .pt 200000080 0), (10, .pt 200000100 0), (12, .val (.int .i64 a120)), (14, .pt 200000140 0)], [(200000080, .var false [.val (.int .i64 a114), .sl 200000081 0 a115.length]), (200000081, .row false 1 (rowE (eI .i64) a115)), (200000100, .var false [.val (.int .i64 a116), .sl 200000101 0 a117.length]), (200000101, .row false 1 (rowE (eI .i64) a117)), (200000140, .var false [.val (.int .i64 a118), .sl 200000141 0 a119.length]), (200000141, .row false 1 (rowE (eI .i64) a119))], 79⟩ = (laws_FnExactEnvelopeAt_u12 fu a114 a115 a116 a117 a118 a119 a120).bind (fun t => plug ⟨(tab fu).own, lev (tab fu) (n + 9), (tab fu).gl⟩ K .normal ⟨[(10, .pt 200000100 0), (12, .val (.int .i64 a120)), (70, .val (.bool t))], [(200000100, .var false [.val (.int .i64 a116), .sl 200000101 0 a117.length]), (200000101, .row false 1 (rowE (eI .i64) a117))], 79⟩) := by
  unfold c3_u12
  simp +contextual -implicitDefEqProofs (maxSteps := 99999999) only [laws_FnExactEnvelopeAt_u12, subI, go_sem] <;> rfl
@[go_sem] theorem laws_FnExactEnvelopeAt_u13_ok {β : Type} (fu n : Nat) (K : List (Kont β)) (a123 : Int) (a124 : List Int) (a125 : Int) : run ⟨(tab fu).own, lev (tab fu) (n + 9), (tab fu).gl⟩ K c3_u13 ⟨[(10, .pt 200000100 0), (12, .val (.int .i64 a125)), (13, .val (.int .i64 1))], [(200000100, .var false [.val (.int .i64 a123), .sl 200000101 0 a124.length]), (200000101, .row false 1 (rowE (eI .i64) a124))], 79⟩ = (laws_FnExactEnvelopeAt_u13 fu a123 a124 a125).bind (fun t => plug ⟨(tab fu).own, lev (tab fu) (n + 9), (tab fu).gl⟩ K .normal ⟨[(12, .val (.int .i64 a125)), (13, .val (.int .i64 t))], [], 79⟩) := by
  unfold c3_u13
  simp +contextual -implicitDefEqProofs (maxSteps := 99999999) only [laws_FnExactEnvelopeAt_u13, subI, go_sem] <;> rfl
@[go_sem] theorem laws_FnExactEnvelopeAt_u14_ok {β : Type} (fu n : Nat) (K : List (Kont β)) (a95 : Int) (a96 : List Int) (a97 : Int) (a98 : List Int) (a99 : Int) (a100 : List SOutcome) (a101 a102 : Int) : run ⟨(tab fu).own, lev (tab fu) (n + 9), (tab fu).gl⟩ K c3_u14 ⟨[(0, .val (.int .i64 a99)), (1, .val (.sh .lent 19 (rowE (SOutcome.cells .lent) a100))), (2, .val (.int .i64 a101)), (8, .pt 200000080 0), (10, .pt 200000100 0), (12, .val (.int .i64 a102))], [(200000080, .var false [.val (.int .i64 a95), .sl 200000081 0 a96.length]), (200000081, .row false 1 (rowE (eI .i64) a96)), (200000100, .var false [.val (.int .i64 a97), .sl 200000101 0 a98.length]), (200000101, .row false 1 (rowE (eI .i64) a98))], 79⟩ = (laws_FnExactEnvelopeAt_u14 fu a95 a96 a97 a98 a99 a100 a101 a102).bind (fun t => plug ⟨(tab fu).own, lev (tab fu) (n + 9), (tab fu).gl⟩ K .ret ⟨[(6, .val (.bool t))], [], 79⟩) := by
  unfold c3_u14
  simp +contextual -implicitDefEqProofs (maxSteps := 99999999) only [laws_FnExactEnvelopeAt_u14, subI, go_sem] <;> rfl
@[go_sem] theorem laws_FnExactEnvelopeAt_u15_ok {β : Type} (fu n : Nat) (K : List (Kont β)) (a48 : Int) (a49 : List Int) (a50 : List SOutcome) (a51 : Int) (a52 : List Int) (a53 : Int) (a54 : List SOutcome) (a55 : Int) : run ⟨(tab fu).own, lev (tab fu) (n + 9), (tab fu).gl⟩ K c3_u15 ⟨[(0, .val (.int .i64 a53)), (1, .val (.sh .lent 19 (rowE (SOutcome.cells .lent) a54))), (2, .val (.int .i64 a55)), (8, .pt 200000080 0), (9, .sl 200000090 0 a50.length), (10, .pt 200000100 0)], [(200000080, .var false [.val (.int .i64 a48), .sl 200000081 0 a49.length]), (200000081, .row false 1 (rowE (eI .i64) a49)), (200000090, .row false 19 (rowE (SOutcome.cells .own) a50)), (200000100, .var false [.val (.int .i64 a51), .sl 200000101 0 a52.length]), (200000101, .row false 1 (rowE (eI .i64) a52))], 79⟩ = (laws_FnExactEnvelopeAt_u15 fu a48 a49 a50 a51 a52 a53 a54 a55).bind (fun t => plug ⟨(tab fu).own, lev (tab fu) (n + 9), (tab fu).gl⟩ K .ret ⟨[(6, .val (.bool t))], [], 79⟩) := by
  unfold c3_u15
  simp +contextual -implicitDefEqProofs (maxSteps := 99999999) only [laws_FnExactEnvelopeAt_u15, subI, go_sem] <;> rfl
@[go_sem] theorem laws_FnExactEnvelopeAt_ok (fu n : Nat) (q0_0 : Int) (q1_0 : List SOutcome) (q2_0 : Int) : lev (tab fu) (n + 10) 3 [.int .i64 q0_0, .sh .lent 19 (rowE (SOutcome.cells .lent) q1_0), .int .i64 q2_0] = (laws_FnExactEnvelopeAt fu q0_0 q1_0 q2_0).map fun r => (.bool r, [.gone, .gone, .gone]) := by
  rw [lev_st (vc := c3) (nt := 79) (rs := [(6, none)]) ((tab_ext _ _ rfl).trans rfl) rfl (Nat.le_of_ble_eq_true rfl)]
  unfold c3
  simp +contextual -implicitDefEqProofs (maxSteps := 99999999) only [laws_FnExactEnvelopeAt, subI, go_sem] <;> rfl
def SPlan.Wf (s : SPlan) : Prop := (WfI .i64 s.Spread) ∧ (WfI .i64 s.Paths) ∧ (True) ∧ (True)
theorem SPlan.of {ds : List D} (h : OkL [.int .i64, .int .i64, .bool, .bool] ds) : ∃ s : SPlan, ds = s.cells .lent ∧ s.Wf := by
  simp only [OkL, OkD] at h
  obtain ⟨_, _, rfl, ⟨x0, rfl, hx0⟩, ⟨_, _, rfl, ⟨x1, rfl, hx1⟩, ⟨_, _, rfl, ⟨x2, rfl⟩, ⟨_, _, rfl, ⟨x3, rfl⟩, rfl⟩⟩⟩⟩ := h
  exact ⟨⟨x0, x1, x2, x3⟩, rfl, ⟨⟨hx0.1, hx0.2⟩, ⟨hx1.1, hx1.2⟩, trivial, trivial⟩⟩
def SFrame.Wf (s : SFrame) : Prop := (WfI .i64 s.Number) ∧ (WfI .i64 s.Size) ∧ (WfI .i64 s.Rung) ∧ (WfI .i64 s.Mask) ∧ (WfI .i64 s.Spread) ∧ (((s.Lows.length : Int) ≤ maxI ∧ ∀ x ∈ s.Lows, WfI .i64 x)) ∧ (((s.Gains.length : Int) ≤ maxI ∧ ∀ x ∈ s.Gains, WfI .i64 x)) ∧ (((s.Pulses.length : Int) ≤ maxI ∧ ∀ x ∈ s.Pulses, ((x.length : Int) ≤ maxI ∧ ∀ y ∈ x, WfI .i64 y)))
theorem SFrame.of {ds : List D} (h : OkL [.int .i64, .int .i64, .int .i64, .int .i64, .int .i64, .sl 1 [.int .i64], .sl 1 [.int .i64], .sl 1 [.sl 1 [.int .i64]]] ds) : ∃ s : SFrame, ds = s.cells .lent ∧ s.Wf := by
  simp only [OkL, OkD] at h
  obtain ⟨_, _, rfl, ⟨x0, rfl, hx0⟩, ⟨_, _, rfl, ⟨x1, rfl, hx1⟩, ⟨_, _, rfl, ⟨x2, rfl, hx2⟩, ⟨_, _, rfl, ⟨x3, rfl, hx3⟩, ⟨_, _, rfl, ⟨x4, rfl, hx4⟩, ⟨_, _, rfl, ⟨x5, rfl, lx5, hx5⟩, ⟨_, _, rfl, ⟨x6, rfl, lx6, hx6⟩, ⟨_, _, rfl, ⟨x7, rfl, lx7, hx7⟩, rfl⟩⟩⟩⟩⟩⟩⟩⟩ := h
  obtain ⟨yx5, rfl, wx5⟩ := rows_of (f := (eI .i64)) (W := fun x => WfI .i64 x) (fun el h => row_int h) hx5
  rw [rowE_len] at lx5
  obtain ⟨yx6, rfl, wx6⟩ := rows_of (f := (eI .i64)) (W := fun x => WfI .i64 x) (fun el h => row_int h) hx6
  rw [rowE_len] at lx6
  obtain ⟨yx7, rfl, wx7⟩ := rows_of (f := (eL .lent 1 (eI .i64))) (W := fun x => ((x.length : Int) ≤ maxI ∧ ∀ y ∈ x, WfI .i64 y)) (fun el h => row_sl (fun el h => row_int h) h) hx7
  rw [rowE_len] at lx7
  exact ⟨⟨x0, x1, x2, x3, x4, yx5, yx6, yx7⟩, rfl, ⟨⟨hx0.1, hx0.2⟩, ⟨hx1.1, hx1.2⟩, ⟨hx2.1, hx2.2⟩, ⟨hx3.1, hx3.2⟩, ⟨hx4.1, hx4.2⟩, ⟨lx5, wx5⟩, ⟨lx6, wx6⟩, ⟨lx7, wx7⟩⟩⟩
def SOutcome.Wf (s : SOutcome) : Prop := (SPlan.Wf s.Plan) ∧ (SFrame.Wf s.Sent) ∧ (((s.Codes.length : Int) ≤ maxI ∧ ∀ x ∈ s.Codes, WfI .i64 x)) ∧ (True) ∧ (WfI .i64 s.Number) ∧ (WfI .i64 s.Source) ∧ (((s.Frame.length : Int) ≤ maxI ∧ ∀ x ∈ s.Frame, WfI .i64 x)) ∧ (((s.Coefs.length : Int) ≤ maxI ∧ ∀ x ∈ s.Coefs, WfI .i64 x)) ∧ (((s.Bounds.length : Int) ≤ maxI ∧ ∀ x ∈ s.Bounds, WfI .i64 x))
theorem SOutcome.of {ds : List D} (h : OkL [.int .i64, .int .i64, .bool, .bool, .int .i64, .int .i64, .int .i64, .int .i64, .int .i64, .sl 1 [.int .i64], .sl 1 [.int .i64], .sl 1 [.sl 1 [.int .i64]], .sl 1 [.int .i64], .bool, .int .i64, .int .i64, .sl 1 [.int .i64], .sl 1 [.int .i64], .sl 1 [.int .i64]] ds) : ∃ s : SOutcome, ds = s.cells .lent ∧ s.Wf := by
  simp only [OkL, OkD] at h
  obtain ⟨_, _, rfl, ⟨x0, rfl, hx0⟩, ⟨_, _, rfl, ⟨x1, rfl, hx1⟩, ⟨_, _, rfl, ⟨x2, rfl⟩, ⟨_, _, rfl, ⟨x3, rfl⟩, ⟨_, _, rfl, ⟨x4, rfl, hx4⟩, ⟨_, _, rfl, ⟨x5, rfl, hx5⟩, ⟨_, _, rfl, ⟨x6, rfl, hx6⟩, ⟨_, _, rfl, ⟨x7, rfl, hx7⟩, ⟨_, _, rfl, ⟨x8, rfl, hx8⟩, ⟨_, _, rfl, ⟨x9, rfl, lx9, hx9⟩, ⟨_, _, rfl, ⟨x10, rfl, lx10, hx10⟩, ⟨_, _, rfl, ⟨x11, rfl, lx11, hx11⟩, ⟨_, _, rfl, ⟨x12, rfl, lx12, hx12⟩, ⟨_, _, rfl, ⟨x13, rfl⟩, ⟨_, _, rfl, ⟨x14, rfl, hx14⟩, ⟨_, _, rfl, ⟨x15, rfl, hx15⟩, ⟨_, _, rfl, ⟨x16, rfl, lx16, hx16⟩, ⟨_, _, rfl, ⟨x17, rfl, lx17, hx17⟩, ⟨_, _, rfl, ⟨x18, rfl, lx18, hx18⟩, rfl⟩⟩⟩⟩⟩⟩⟩⟩⟩⟩⟩⟩⟩⟩⟩⟩⟩⟩⟩ := h
  obtain ⟨yx9, rfl, wx9⟩ := rows_of (f := (eI .i64)) (W := fun x => WfI .i64 x) (fun el h => row_int h) hx9
  rw [rowE_len] at lx9
  obtain ⟨yx10, rfl, wx10⟩ := rows_of (f := (eI .i64)) (W := fun x => WfI .i64 x) (fun el h => row_int h) hx10
  rw [rowE_len] at lx10
  obtain ⟨yx11, rfl, wx11⟩ := rows_of (f := (eL .lent 1 (eI .i64))) (W := fun x => ((x.length : Int) ≤ maxI ∧ ∀ y ∈ x, WfI .i64 y)) (fun el h => row_sl (fun el h => row_int h) h) hx11
  rw [rowE_len] at lx11
  obtain ⟨yx12, rfl, wx12⟩ := rows_of (f := (eI .i64)) (W := fun x => WfI .i64 x) (fun el h => row_int h) hx12
  rw [rowE_len] at lx12
  obtain ⟨yx16, rfl, wx16⟩ := rows_of (f := (eI .i64)) (W := fun x => WfI .i64 x) (fun el h => row_int h) hx16
  rw [rowE_len] at lx16
  obtain ⟨yx17, rfl, wx17⟩ := rows_of (f := (eI .i64)) (W := fun x => WfI .i64 x) (fun el h => row_int h) hx17
  rw [rowE_len] at lx17
  obtain ⟨yx18, rfl, wx18⟩ := rows_of (f := (eI .i64)) (W := fun x => WfI .i64 x) (fun el h => row_int h) hx18
  rw [rowE_len] at lx18
  exact ⟨⟨⟨x0, x1, x2, x3⟩, ⟨x4, x5, x6, x7, x8, yx9, yx10, yx11⟩, yx12, x13, x14, x15, yx16, yx17, yx18⟩, rfl, ⟨⟨⟨hx0.1, hx0.2⟩, ⟨hx1.1, hx1.2⟩, trivial, trivial⟩, ⟨⟨hx4.1, hx4.2⟩, ⟨hx5.1, hx5.2⟩, ⟨hx6.1, hx6.2⟩, ⟨hx7.1, hx7.2⟩, ⟨hx8.1, hx8.2⟩, ⟨lx9, wx9⟩, ⟨lx10, wx10⟩, ⟨lx11, wx11⟩⟩, ⟨lx12, wx12⟩, trivial, ⟨hx14.1, hx14.2⟩, ⟨hx15.1, hx15.2⟩, ⟨lx16, wx16⟩, ⟨lx17, wx17⟩, ⟨lx18, wx18⟩⟩⟩
end
end FnExactEnvelopeAt
end Go.Proofs.Ytpioljlgmhehhaa.Wm
