/- What the functions behind FnExactReferenceOf come to, on plain values (a further part): written by a program. -/
import Derived.Test.YtpioljlgmhehhaaGreatFnFnExactReferenceOf
set_option linter.unusedSimpArgs false
set_option linter.unusedVariables false
set_option maxRecDepth 100000
set_option maxHeartbeats 20000000
namespace Go.Proofs.YtpioljlgmhehhaaGreat.Wm
open Go Go.Proofs
namespace FnExactReferenceOf
noncomputable section
attribute [local congr] ite_cong2 run_cg runR_cg plug_cg contV_cg contH_cg contT_cg contF_cg guardR_cg condX_cg evcA_cg evcB_cg evcC_cg evcE_cg evcH_cg levA_cg condJX_cg
def spec_l1All_s1 (a6 : List Int) (a7 a8 : Int) : Int → Option ((Int) ⊕ (Unit ⊕ Unit)) := fun a9 =>
  if (decide (a9 < (a6.length : Int))) = true then (getI a6 a9).bind fun x10 =>
    if (spec_l1In x10 a7 a8) = true then some ((.inl ((IntKind.i64.wrap (a9 + 1)))))
    else some ((.inr ((.inr (())))))
  else some ((.inr ((.inl (())))))
def spec_l1All (p0 : List Int) (p1 p2 : Int) : Option (Bool) :=
  (loopO (spec_l1All_s1 p0 p1 p2) 0).bind fun t => (Sum.elim (fun y11 => some true)
   (fun y12 => some false)) t
@[go_sem] theorem spec_l1All_s1_ok {β : Type} (fu n : Nat) (K : List (Kont β)) (a6 : List Int) (a7 a8 a9 : Int) : run ⟨(tab fu).own, lev (tab fu) (n + 1), (tab fu).gl⟩ K (.loop c82_u1) ⟨[(0, .val (.sh .lent 1 (rowE (eI .i64) a6))), (1, .val (.int .i64 a7)), (2, .val (.int .i64 a8)), (7, .val (.int .i64 a9))], [], 22⟩ = (loopO (spec_l1All_s1 a6 a7 a8) a9).bind (fun t => (Sum.elim (fun t => plug ⟨(tab fu).own, lev (tab fu) (n + 1), (tab fu).gl⟩ K (.exit 0) ⟨[], [], 22⟩) (fun t => plug ⟨(tab fu).own, lev (tab fu) (n + 1), (tab fu).gl⟩ K .ret ⟨[(6, .val (.bool false))], [], 22⟩)) t) := by
  refine loop_run (C := ⟨(tab fu).own, lev (tab fu) (n + 1), (tab fu).gl⟩) (K := K) (c := c82_u1) (spec_l1All_s1 a6 a7 a8) (fun s => ⟨[(0, .val (.sh .lent 1 (rowE (eI .i64) a6))), (1, .val (.int .i64 a7)), (2, .val (.int .i64 a8)), (7, .val (.int .i64 s))], [], 22⟩) (fun t => (Sum.elim (fun t => plug ⟨(tab fu).own, lev (tab fu) (n + 1), (tab fu).gl⟩ K (.exit 0) ⟨[], [], 22⟩) (fun t => plug ⟨(tab fu).own, lev (tab fu) (n + 1), (tab fu).gl⟩ K .ret ⟨[(6, .val (.bool false))], [], 22⟩)) t) (fun k s => ?_) a9
  unfold c82_u1
  simp +contextual -implicitDefEqProofs (maxSteps := 99999999) only [spec_l1All_s1, subI, go_sem] <;> rfl
@[go_sem] theorem spec_l1All_ok (fu n : Nat) (q0_0 : List Int) (q1_0 q2_0 : Int) : lev (tab fu) (n + 2) 82 [.sh .lent 1 (rowE (eI .i64) q0_0), .int .i64 q1_0, .int .i64 q2_0] = (spec_l1All q0_0 q1_0 q2_0).map fun r => (.bool r, [.gone, .gone, .gone]) := by
  rw [lev_st (vc := c82) (nt := 22) (rs := [(6, none)]) ((tab_ext _ _ rfl).trans rfl) rfl (Nat.le_of_ble_eq_true rfl)]
  unfold c82
  simp +contextual -implicitDefEqProofs (maxSteps := 99999999) only [spec_l1All, subI, go_sem] <;> rfl
def spec_l1Abs (p0 : Int) : Int :=
  if (decide (p0 < 0)) = true then (IntKind.i64.wrap (0 - p0))
  else p0
@[go_sem] theorem spec_l1Abs_ok (fu n : Nat) (q0_0 : Int) : lev (tab fu) (n + 1) 110 [.int .i64 q0_0] = (some (spec_l1Abs q0_0)).map fun r => (.int .i64 r, [.gone]) := by
  rw [lev_st (vc := c110) (nt := 8) (rs := [(2, none)]) ((tab_ext _ _ rfl).trans rfl) rfl (Nat.le_of_ble_eq_true rfl)]
  unfold c110
  simp +contextual -implicitDefEqProofs (maxSteps := 99999999) only [spec_l1Abs, subI, go_sem] <;> rfl
def spec_l1Norm_s1 (a5 : List Int) : (Int × Int) → Option ((Int × Int) ⊕ (Int)) := fun ⟨a6, a7⟩ =>
  if (decide (a7 < (a5.length : Int))) = true then (getI a5 a7).bind fun x8 =>
    some ((.inl (((IntKind.i64.wrap (a6 + (spec_l1Abs x8))), (IntKind.i64.wrap (a7 + 1))))))
  else some ((.inr a6))
def spec_l1Norm (p0 : List Int) : Option (Int) :=
  (loopO (spec_l1Norm_s1 p0) ((0, 0))).bind fun y9 =>
  some y9
@[go_sem] theorem spec_l1Norm_s1_ok {β : Type} (fu n : Nat) (K : List (Kont β)) (a5 : List Int) (a6 a7 : Int) : run ⟨(tab fu).own, lev (tab fu) (n + 1), (tab fu).gl⟩ K (.loop c83_u1) ⟨[(0, .val (.sh .lent 1 (rowE (eI .i64) a5))), (3, .val (.int .i64 a6)), (4, .val (.int .i64 a7))], [], 19⟩ = (loopO (spec_l1Norm_s1 a5) ((a6, a7))).bind (fun t => plug ⟨(tab fu).own, lev (tab fu) (n + 1), (tab fu).gl⟩ K (.exit 0) ⟨[(3, .val (.int .i64 t))], [], 19⟩) := by
  refine loop_run (C := ⟨(tab fu).own, lev (tab fu) (n + 1), (tab fu).gl⟩) (K := K) (c := c83_u1) (spec_l1Norm_s1 a5) (fun s => ⟨[(0, .val (.sh .lent 1 (rowE (eI .i64) a5))), (3, .val (.int .i64 s.1)), (4, .val (.int .i64 s.2))], [], 19⟩) (fun t => plug ⟨(tab fu).own, lev (tab fu) (n + 1), (tab fu).gl⟩ K (.exit 0) ⟨[(3, .val (.int .i64 t))], [], 19⟩) (fun k s => ?_) ((a6, a7))
  obtain ⟨a6, a7⟩ := s
  unfold c83_u1
  simp +contextual -implicitDefEqProofs (maxSteps := 99999999) only [spec_l1Norm_s1, subI, go_sem] <;> rfl
@[go_sem] theorem spec_l1Norm_ok (fu n : Nat) (q0_0 : List Int) : lev (tab fu) (n + 2) 83 [.sh .lent 1 (rowE (eI .i64) q0_0)] = (spec_l1Norm q0_0).map fun r => (.int .i64 r, [.gone]) := by
  rw [lev_st (vc := c83) (nt := 19) (rs := [(2, none)]) ((tab_ext _ _ rfl).trans rfl) rfl (Nat.le_of_ble_eq_true rfl)]
  unfold c83
  simp +contextual -implicitDefEqProofs (maxSteps := 99999999) only [spec_l1Norm, subI, go_sem] <;> rfl
def spec_PulsesFault_u1 (a1 : List Int) (a2 : Int) : Bool :=
  if (decide ((a1.length : Int) < 1)) = true then true
  else (decide ((a1.length : Int) > 4))
def spec_PulsesFault_u2 (a4 : List Int) (a5 : Int) : Option (Bool) :=
  (spec_l1All a4 ((IntKind.i64.wrap (0 - a5))) a5).bind fun r6 =>
  if r6 = true then (spec_l1Norm a4).bind fun r7 =>
    some ((r7 != a5))
  else some true
def spec_PulsesFault (p0 : List Int) (p1 : Int) : Option (Int) :=
  let y3 := spec_PulsesFault_u1 p0 p1
  if y3 = true then some 2
  else if (spec_l1In p1 0 8) = true then (spec_PulsesFault_u2 p0 p1).bind fun y8 =>
      if y8 = true then some 1
      else some 0
    else some 3
@[go_sem] theorem spec_PulsesFault_u1_ok {β : Type} (fu n : Nat) (K : List (Kont β)) (a1 : List Int) (a2 : Int) : run ⟨(tab fu).own, lev (tab fu) (n + 2), (tab fu).gl⟩ K c42_u1 ⟨[(0, .val (.sh .lent 1 (rowE (eI .i64) a1))), (1, .val (.int .i64 a2))], [], 28⟩ = (some (spec_PulsesFault_u1 a1 a2)).bind (fun t => plug ⟨(tab fu).own, lev (tab fu) (n + 2), (tab fu).gl⟩ K .normal ⟨[(0, .val (.sh .lent 1 (rowE (eI .i64) a1))), (1, .val (.int .i64 a2)), (12, .val (.bool t))], [], 28⟩) := by
  unfold c42_u1
  simp +contextual -implicitDefEqProofs (maxSteps := 99999999) only [spec_PulsesFault_u1, subI, go_sem] <;> rfl
@[go_sem] theorem spec_PulsesFault_u2_ok {β : Type} (fu n : Nat) (K : List (Kont β)) (a4 : List Int) (a5 : Int) : run ⟨(tab fu).own, lev (tab fu) (n + 2), (tab fu).gl⟩ K c42_u2 ⟨[(0, .val (.sh .lent 1 (rowE (eI .i64) a4))), (1, .val (.int .i64 a5))], [], 28⟩ = (spec_PulsesFault_u2 a4 a5).bind (fun t => plug ⟨(tab fu).own, lev (tab fu) (n + 2), (tab fu).gl⟩ K .normal ⟨[(27, .val (.bool t))], [], 28⟩) := by
  unfold c42_u2
  simp +contextual -implicitDefEqProofs (maxSteps := 99999999) only [spec_PulsesFault_u2, subI, go_sem] <;> rfl
@[go_sem] theorem spec_PulsesFault_ok (fu n : Nat) (q0_0 : List Int) (q1_0 : Int) : lev (tab fu) (n + 3) 42 [.sh .lent 1 (rowE (eI .i64) q0_0), .int .i64 q1_0] = (spec_PulsesFault q0_0 q1_0).map fun r => (.int .i64 r, [.gone, .gone]) := by
  rw [lev_st (vc := c42) (nt := 28) (rs := [(4, none)]) ((tab_ext _ _ rfl).trans rfl) rfl (Nat.le_of_ble_eq_true rfl)]
  unfold c42
  simp +contextual -implicitDefEqProofs (maxSteps := 99999999) only [spec_PulsesFault, subI, go_sem] <;> rfl
def spec_FrameFault_u1 (a1 a2 : Int) (a3 a4 a5 : Int) (a6 a7 : List Int) (a8 : List (List Int)) (a9 : List SBand) : Bool :=
  if ((a6.length : Int) != (IntKind.i64.wrap (a2.tdiv (2 : Int)))) = true then true
  else if ((a7.length : Int) != (a9.length : Int)) = true then true
    else ((a8.length : Int) != (a9.length : Int))
def spec_FrameFault_u3 (a45 a46 : Int) (a47 a48 a49 : Int) (a50 a51 : List Int) (a52 : List (List Int)) (a53 : List SBand) (a54 : Int) : Option (Bool) :=
  (getI a50 a54).bind fun x55 =>
  if (spec_l10Index x55) = true then (getI a50 a54).bind fun x56 =>
    (spec_l14Fits x56 a47).bind fun r57 =>
    some ((!r57))
  else some true
def spec_FrameFault_s4 (a35 a36 : Int) (a37 a38 a39 : Int) (a40 a41 : List Int) (a42 : List (List Int)) (a43 : List SBand) : Int → Option ((Int) ⊕ (Unit ⊕ Unit)) := fun a44 =>
  if (decide (a44 < (a40.length : Int))) = true then (spec_FrameFault_u3 a35 a36 a37 a38 a39 a40 a41 a42 a43 a44).bind fun y58 =>
    if y58 = true then some ((.inr ((.inr (())))))
    else some ((.inl ((IntKind.i64.wrap (a44 + 1)))))
  else some ((.inr ((.inl (())))))
def spec_FrameFault_s5 (a84 a85 : Int) (a86 a87 a88 : Int) (a89 a90 : List Int) (a91 : List (List Int)) (a92 : List SBand) : Int → Option ((Int) ⊕ (Unit ⊕ Int)) := fun a93 =>
  if (decide (a93 < (a92.length : Int))) = true then (getI a91 a93).bind fun x94 =>
    (getI a92 a93).bind fun _ =>
    (a92[a93.toNat]?).bind fun x95 =>
    if ((x94.length : Int) != x95.Dim) = true then some ((.inr ((.inr 2))))
    else (getI a91 a93).bind fun x96 =>
      (spec_PulsesFault x96 ((IntKind.i64.wrap (8 - (IntKind.i64.wrap (2 * a87)))))).bind fun r97 =>
      if (r97 != 0) = true then some ((.inr ((.inr r97))))
      else some ((.inl ((IntKind.i64.wrap (a93 + 1)))))
  else some ((.inr ((.inl (())))))
def spec_FrameFault_u6 (a61 a62 : Int) (a63 a64 a65 : Int) (a66 a67 : List Int) (a68 : List (List Int)) (a69 : List SBand) : Option (Int) :=
  (loopO (spec_FrameFault_s5 a61 a62 a63 a64 a65 a66 a67 a68 a69) 0).bind fun t => (Sum.elim (fun y98 => some 0)
   (fun y99 => some y99)) t
def spec_FrameFault (p0 : SFrame) : Option (Int) :=
  if ((spec_l14Head p0.Number p0.Size p0.Rung p0.Mask p0.Spread) != 0) = true then some ((spec_l14Head p0.Number p0.Size p0.Rung p0.Mask p0.Spread))
  else let y10 := spec_FrameFault_u1 p0.Number p0.Size p0.Rung p0.Mask p0.Spread p0.Lows p0.Gains p0.Pulses ((spec_l13Bands p0.Size))
    if y10 = true then some 2
    else (loopO (spec_FrameFault_s4 p0.Number p0.Size p0.Rung p0.Mask p0.Spread p0.Lows p0.Gains p0.Pulses (((spec_l13Bands p0.Size)))) 0).bind fun t => (Sum.elim (fun y59 => (spec_l14Gains p0.Gains ((spec_l13Rung p0.Rung p0.Mask))).bind fun r60 =>
        if r60 = true then (spec_FrameFault_u6 p0.Number p0.Size p0.Rung p0.Mask p0.Spread p0.Lows p0.Gains p0.Pulses ((((spec_l13Bands p0.Size))))).bind fun y100 =>
          some y100
        else some 3)
       (fun y101 => some 3)) t
@[go_sem] theorem spec_FrameFault_u1_ok {β : Type} (fu n : Nat) (K : List (Kont β)) (a1 a2 : Int) (a3 a4 a5 : Int) (a6 a7 : List Int) (a8 : List (List Int)) (a9 : List SBand) : run ⟨(tab fu).own, lev (tab fu) (n + 4), (tab fu).gl⟩ K c15_u1 ⟨[(1, .pt 200000010 0), (4, .sl 200000040 0 a9.length)], [(200000010, .var false [.val (.int .i64 a1), .val (.int .i64 a2), .val (.int .i64 a3), .val (.int .i64 a4), .val (.int .i64 a5), .val (.sh .lent 1 (rowE (eI .i64) a6)), .val (.sh .lent 1 (rowE (eI .i64) a7)), .val (.sh .lent 1 (rowE (eL .lent 1 (eI .i64)) a8))]), (200000040, .row false 2 (rowE (SBand.cells .lent) a9))], 113⟩ = (some (spec_FrameFault_u1 a1 a2 a3 a4 a5 a6 a7 a8 a9)).bind (fun t => plug ⟨(tab fu).own, lev (tab fu) (n + 4), (tab fu).gl⟩ K .normal ⟨[(1, .pt 200000010 0), (4, .sl 200000040 0 a9.length), (47, .val (.bool t))], [(200000010, .var false [.val (.int .i64 a1), .val (.int .i64 a2), .val (.int .i64 a3), .val (.int .i64 a4), .val (.int .i64 a5), .val (.sh .lent 1 (rowE (eI .i64) a6)), .val (.sh .lent 1 (rowE (eI .i64) a7)), .val (.sh .lent 1 (rowE (eL .lent 1 (eI .i64)) a8))]), (200000040, .row false 2 (rowE (SBand.cells .lent) a9))], 113⟩) := by
  unfold c15_u1
  simp +contextual -implicitDefEqProofs (maxSteps := 99999999) only [spec_FrameFault_u1, subI, go_sem] <;> rfl
@[go_sem] theorem spec_FrameFault_u3_ok {β : Type} (fu n : Nat) (K : List (Kont β)) (a45 a46 : Int) (a47 a48 a49 : Int) (a50 a51 : List Int) (a52 : List (List Int)) (a53 : List SBand) (a54 : Int) : run ⟨(tab fu).own, lev (tab fu) (n + 4), (tab fu).gl⟩ K c15_u3 ⟨[(1, .pt 200000010 0), (4, .sl 200000040 0 a53.length), (5, .val (.int .i64 a54))], [(200000010, .var false [.val (.int .i64 a45), .val (.int .i64 a46), .val (.int .i64 a47), .val (.int .i64 a48), .val (.int .i64 a49), .val (.sh .lent 1 (rowE (eI .i64) a50)), .val (.sh .lent 1 (rowE (eI .i64) a51)), .val (.sh .lent 1 (rowE (eL .lent 1 (eI .i64)) a52))]), (200000040, .row false 2 (rowE (SBand.cells .lent) a53))], 113⟩ = (spec_FrameFault_u3 a45 a46 a47 a48 a49 a50 a51 a52 a53 a54).bind (fun t => plug ⟨(tab fu).own, lev (tab fu) (n + 4), (tab fu).gl⟩ K .normal ⟨[(1, .pt 200000010 0), (4, .sl 200000040 0 a53.length), (5, .val (.int .i64 a54)), (72, .val (.bool t))], [(200000010, .var false [.val (.int .i64 a45), .val (.int .i64 a46), .val (.int .i64 a47), .val (.int .i64 a48), .val (.int .i64 a49), .val (.sh .lent 1 (rowE (eI .i64) a50)), .val (.sh .lent 1 (rowE (eI .i64) a51)), .val (.sh .lent 1 (rowE (eL .lent 1 (eI .i64)) a52))]), (200000040, .row false 2 (rowE (SBand.cells .lent) a53))], 113⟩) := by
  unfold c15_u3
  simp +contextual -implicitDefEqProofs (maxSteps := 99999999) only [spec_FrameFault_u3, subI, go_sem] <;> rfl
@[go_sem] theorem spec_FrameFault_s4_ok {β : Type} (fu n : Nat) (K : List (Kont β)) (a35 a36 : Int) (a37 a38 a39 : Int) (a40 a41 : List Int) (a42 : List (List Int)) (a43 : List SBand) (a44 : Int) : run ⟨(tab fu).own, lev (tab fu) (n + 4), (tab fu).gl⟩ K (.loop c15_u4) ⟨[(1, .pt 200000010 0), (4, .sl 200000040 0 a43.length), (5, .val (.int .i64 a44))], [(200000010, .var false [.val (.int .i64 a35), .val (.int .i64 a36), .val (.int .i64 a37), .val (.int .i64 a38), .val (.int .i64 a39), .val (.sh .lent 1 (rowE (eI .i64) a40)), .val (.sh .lent 1 (rowE (eI .i64) a41)), .val (.sh .lent 1 (rowE (eL .lent 1 (eI .i64)) a42))]), (200000040, .row false 2 (rowE (SBand.cells .lent) a43))], 113⟩ = (loopO (spec_FrameFault_s4 a35 a36 a37 a38 a39 a40 a41 a42 a43) a44).bind (fun t => (Sum.elim (fun t => plug ⟨(tab fu).own, lev (tab fu) (n + 4), (tab fu).gl⟩ K (.exit 0) ⟨[(1, .pt 200000010 0), (4, .sl 200000040 0 a43.length)], [(200000010, .var false [.val (.int .i64 a35), .val (.int .i64 a36), .val (.int .i64 a37), .val (.int .i64 a38), .val (.int .i64 a39), .val (.sh .lent 1 (rowE (eI .i64) a40)), .val (.sh .lent 1 (rowE (eI .i64) a41)), .val (.sh .lent 1 (rowE (eL .lent 1 (eI .i64)) a42))]), (200000040, .row false 2 (rowE (SBand.cells .lent) a43))], 113⟩) (fun t => plug ⟨(tab fu).own, lev (tab fu) (n + 4), (tab fu).gl⟩ K .ret ⟨[(2, .val (.int .i64 3))], [], 113⟩)) t) := by
  refine loop_run (C := ⟨(tab fu).own, lev (tab fu) (n + 4), (tab fu).gl⟩) (K := K) (c := c15_u4) (spec_FrameFault_s4 a35 a36 a37 a38 a39 a40 a41 a42 a43) (fun s => ⟨[(1, .pt 200000010 0), (4, .sl 200000040 0 a43.length), (5, .val (.int .i64 s))], [(200000010, .var false [.val (.int .i64 a35), .val (.int .i64 a36), .val (.int .i64 a37), .val (.int .i64 a38), .val (.int .i64 a39), .val (.sh .lent 1 (rowE (eI .i64) a40)), .val (.sh .lent 1 (rowE (eI .i64) a41)), .val (.sh .lent 1 (rowE (eL .lent 1 (eI .i64)) a42))]), (200000040, .row false 2 (rowE (SBand.cells .lent) a43))], 113⟩) (fun t => (Sum.elim (fun t => plug ⟨(tab fu).own, lev (tab fu) (n + 4), (tab fu).gl⟩ K (.exit 0) ⟨[(1, .pt 200000010 0), (4, .sl 200000040 0 a43.length)], [(200000010, .var false [.val (.int .i64 a35), .val (.int .i64 a36), .val (.int .i64 a37), .val (.int .i64 a38), .val (.int .i64 a39), .val (.sh .lent 1 (rowE (eI .i64) a40)), .val (.sh .lent 1 (rowE (eI .i64) a41)), .val (.sh .lent 1 (rowE (eL .lent 1 (eI .i64)) a42))]), (200000040, .row false 2 (rowE (SBand.cells .lent) a43))], 113⟩) (fun t => plug ⟨(tab fu).own, lev (tab fu) (n + 4), (tab fu).gl⟩ K .ret ⟨[(2, .val (.int .i64 3))], [], 113⟩)) t) (fun k s => ?_) a44
  unfold c15_u4
  simp +contextual -implicitDefEqProofs (maxSteps := 99999999) only [spec_FrameFault_s4, subI, go_sem] <;> rfl
@[go_sem] theorem spec_FrameFault_s5_ok {β : Type} (fu n : Nat) (K : List (Kont β)) (a84 a85 : Int) (a86 a87 a88 : Int) (a89 a90 : List Int) (a91 : List (List Int)) (a92 : List SBand) (a93 : Int) : run ⟨(tab fu).own, lev (tab fu) (n + 4), (tab fu).gl⟩ K (.loop c15_u5) ⟨[(1, .pt 200000010 0), (4, .sl 200000040 0 a92.length), (6, .val (.int .i64 a93))], [(200000010, .var false [.val (.int .i64 a84), .val (.int .i64 a85), .val (.int .i64 a86), .val (.int .i64 a87), .val (.int .i64 a88), .val (.sh .lent 1 (rowE (eI .i64) a89)), .val (.sh .lent 1 (rowE (eI .i64) a90)), .val (.sh .lent 1 (rowE (eL .lent 1 (eI .i64)) a91))]), (200000040, .row false 2 (rowE (SBand.cells .lent) a92))], 113⟩ = (loopO (spec_FrameFault_s5 a84 a85 a86 a87 a88 a89 a90 a91 a92) a93).bind (fun t => (Sum.elim (fun t => plug ⟨(tab fu).own, lev (tab fu) (n + 4), (tab fu).gl⟩ K (.exit 2) ⟨[], [], 113⟩) (fun t => plug ⟨(tab fu).own, lev (tab fu) (n + 4), (tab fu).gl⟩ K .ret ⟨[(2, .val (.int .i64 t))], [], 113⟩)) t) := by
  refine loop_run (C := ⟨(tab fu).own, lev (tab fu) (n + 4), (tab fu).gl⟩) (K := K) (c := c15_u5) (spec_FrameFault_s5 a84 a85 a86 a87 a88 a89 a90 a91 a92) (fun s => ⟨[(1, .pt 200000010 0), (4, .sl 200000040 0 a92.length), (6, .val (.int .i64 s))], [(200000010, .var false [.val (.int .i64 a84), .val (.int .i64 a85), .val (.int .i64 a86), .val (.int .i64 a87), .val (.int .i64 a88), .val (.sh .lent 1 (rowE (eI .i64) a89)), .val (.sh .lent 1 (rowE (eI .i64) a90)), .val (.sh .lent 1 (rowE (eL .lent 1 (eI .i64)) a91))]), (200000040, .row false 2 (rowE (SBand.cells .lent) a92))], 113⟩) (fun t => (Sum.elim (fun t => plug ⟨(tab fu).own, lev (tab fu) (n + 4), (tab fu).gl⟩ K (.exit 2) ⟨[], [], 113⟩) (fun t => plug ⟨(tab fu).own, lev (tab fu) (n + 4), (tab fu).gl⟩ K .ret ⟨[(2, .val (.int .i64 t))], [], 113⟩)) t) (fun k s => ?_) a93
  unfold c15_u5
  simp +contextual -implicitDefEqProofs (maxSteps := 99999999) only [spec_FrameFault_s5, subI, go_sem] <;> rfl
@[go_sem] theorem spec_FrameFault_u6_ok {β : Type} (fu n : Nat) (K : List (Kont β)) (a61 a62 : Int) (a63 a64 a65 : Int) (a66 a67 : List Int) (a68 : List (List Int)) (a69 : List SBand) : run ⟨(tab fu).own, lev (tab fu) (n + 4), (tab fu).gl⟩ K c15_u6 ⟨[(1, .pt 200000010 0), (4, .sl 200000040 0 a69.length)], [(200000010, .var false [.val (.int .i64 a61), .val (.int .i64 a62), .val (.int .i64 a63), .val (.int .i64 a64), .val (.int .i64 a65), .val (.sh .lent 1 (rowE (eI .i64) a66)), .val (.sh .lent 1 (rowE (eI .i64) a67)), .val (.sh .lent 1 (rowE (eL .lent 1 (eI .i64)) a68))]), (200000040, .row false 2 (rowE (SBand.cells .lent) a69))], 113⟩ = (spec_FrameFault_u6 a61 a62 a63 a64 a65 a66 a67 a68 a69).bind (fun t => plug ⟨(tab fu).own, lev (tab fu) (n + 4), (tab fu).gl⟩ K .ret ⟨[(2, .val (.int .i64 t))], [], 113⟩) := by
  unfold c15_u6
  simp +contextual -implicitDefEqProofs (maxSteps := 99999999) only [spec_FrameFault_u6, subI, go_sem] <;> rfl
@[go_sem] theorem spec_FrameFault_ok (fu n : Nat) (q0_0 q0_1 : Int) (q0_2 q0_3 q0_4 : Int) (q0_5 q0_6 : List Int) (q0_7 : List (List Int)) : lev (tab fu) (n + 5) 15 [.agg [.int .i64 q0_0, .int .i64 q0_1, .int .i64 q0_2, .int .i64 q0_3, .int .i64 q0_4, .sh .lent 1 (rowE (eI .i64) q0_5), .sh .lent 1 (rowE (eI .i64) q0_6), .sh .lent 1 (rowE (eL .lent 1 (eI .i64)) q0_7)]] = (spec_FrameFault (SFrame.mk q0_0 q0_1 q0_2 q0_3 q0_4 q0_5 q0_6 q0_7)).map fun r => (.int .i64 r, [.gone]) := by
  rw [lev_st (vc := c15) (nt := 113) (rs := [(2, none)]) ((tab_ext _ _ rfl).trans rfl) rfl (Nat.le_of_ble_eq_true rfl)]
  unfold c15
  simp +contextual -implicitDefEqProofs (maxSteps := 99999999) only [spec_FrameFault, subI, go_sem] <;> rfl
def spec_l1Zeros (p0 : Int) : Option ((List Int)) :=
  if (okMake 8 p0) = true then some ((List.replicate p0.toNat ((0 : Int))))
  else none
@[go_sem] theorem spec_l1Zeros_ok (fu n : Nat) (q0_0 : Int) : lev (tab fu) (n + 1) 43 [.int .i64 q0_0] = (spec_l1Zeros q0_0).map fun r => (.ow 1 (rowE (eI .i64) r), [.gone]) := by
  rw [lev_st (vc := c43) (nt := 5) (rs := [(2, none)]) ((tab_ext _ _ rfl).trans rfl) rfl (Nat.le_of_ble_eq_true rfl)]
  unfold c43
  simp +contextual -implicitDefEqProofs (maxSteps := 99999999) only [spec_l1Zeros, subI, go_sem] <;> rfl
def spec_l7NewSynth (p0 : Int) : Option (SSynth) :=
  (spec_l1Zeros ((IntKind.i64.wrap (p0.tdiv (2 : Int))))).bind fun r1 =>
  (spec_l1Zeros ((IntKind.i64.wrap (p0.tdiv (2 : Int))))).bind fun r2 =>
  some ((SSynth.mk p0 r1 r2))
@[go_sem] theorem spec_l7NewSynth_ok (fu n : Nat) (q0_0 : Int) : lev (tab fu) (n + 2) 16 [.int .i64 q0_0] = (spec_l7NewSynth q0_0).map fun r => (.agg [.int .i64 r.Size, .ow 1 (rowE (eI .i64) r.Head), .ow 1 (rowE (eI .i64) r.Tail)], [.gone]) := by
  rw [lev_st (vc := c16) (nt := 11) (rs := [(2, some (some 3))]) ((tab_ext _ _ rfl).trans rfl) rfl (Nat.le_of_ble_eq_true rfl)]
  unfold c16
  simp +contextual -implicitDefEqProofs (maxSteps := 99999999) only [spec_l7NewSynth, subI, go_sem] <;> rfl
def spec_l1Round_b (fu : Nat) (rec_ : Int → Int → Option (Int)) (p0 p1 : Int) : Option (Int) :=
  if (decide (p0 < 0)) = true then (rec_ ((IntKind.i64.wrap (0 - p0))) p1).bind fun r1 =>
    some ((IntKind.i64.wrap (0 - r1)))
  else if (IntKind.i64.wrap (2 * p1)) = 0 then none
    else some ((IntKind.i64.wrap (((IntKind.i64.wrap ((IntKind.i64.wrap (2 * p0)) + p1))).tdiv ((IntKind.i64.wrap (2 * p1))))))
def spec_l1Round : Nat → Int → Int → Option (Int)
  | 0, _, _ => none
  | fu + 1, p0, p1 => spec_l1Round_b fu (spec_l1Round fu) p0 p1
class spec_l1RoundRec (fu : Nat) : Prop where
  h : ∀ (n : Nat) (q0_0 : Int) (q1_0 : Int), lev (tab fu) (n + 1) 88 [.int .i64 q0_0, .int .i64 q1_0] = (spec_l1Round fu q0_0 q1_0).map fun r => (.int .i64 r, [.gone, .gone])
@[go_sem] theorem spec_l1Round_rec (fu n : Nat) [q : spec_l1RoundRec fu] (q0_0 q1_0 : Int) : lev (tab fu) (n + 1) 88 [.int .i64 q0_0, .int .i64 q1_0] = (spec_l1Round fu q0_0 q1_0).map fun r => (.int .i64 r, [.gone, .gone]) := spec_l1RoundRec.h n q0_0 q1_0
theorem spec_l1Round_st (fu n : Nat) (ds : List D) : lev (tab (fu + 1)) (n + 1) 88 ds = levA (tab fu) (0 + 1) c88 [(4, none)] (idsOf 0 ((tab fu).own 88) ds) ds (argsFr 0 ((tab fu).own 88) ds ⟨[], [], 19⟩) := lev_rec_st (T := tab0) (R := recR) rfl rfl (Nat.le_of_ble_eq_true rfl)
theorem spec_l1Round_all (fu : Nat) : spec_l1RoundRec fu := by
  induction fu with
  | zero => exact ⟨fun n q0_0 q1_0 => lev_rec0 (T := tab0) (R := recR) (N := 0 + 1) rfl⟩
  | succ fu ih =>
    refine ⟨fun n q0_0 q1_0 => ?_⟩
    rw [spec_l1Round_st]
    unfold spec_l1Round c88
    simp +contextual -implicitDefEqProofs (maxSteps := 99999999) only [spec_l1Round_b, subI, go_sem] <;> rfl
instance (fu : Nat) : spec_l1RoundRec fu := spec_l1Round_all fu
theorem spec_l1Round_ok (fu n : Nat) (q0_0 q1_0 : Int) : lev (tab fu) (n + 1) 88 [.int .i64 q0_0, .int .i64 q1_0] = (spec_l1Round fu q0_0 q1_0).map fun r => (.int .i64 r, [.gone, .gone]) := spec_l1Round_rec fu n q0_0 q1_0
def spec_l12Shape_s1 (fu : Nat) (a9 : List Int) (a10 a11 : Int) : ((List Int) × Int) → Option (((List Int) × Int) ⊕ ((List Int))) := fun ⟨a8, a12⟩ =>
  if (decide (a12 < (a9.length : Int))) = true then (getI a9 a12).bind fun x13 =>
    (spec_l1Round fu ((IntKind.i64.wrap (a11 * x13))) a10).bind fun r14 =>
    if (okApp 8 ((a8 ++ ([r14]))).length) = true then some ((.inl (((a8 ++ ([r14])), (IntKind.i64.wrap (a12 + 1))))))
    else none
  else some ((.inr a8))
def spec_l12Shape (fu : Nat) (p0 : List Int) (p1 p2 : Int) : Option ((List Int)) :=
  (loopO (spec_l12Shape_s1 fu p0 p1 p2) (([], 0))).bind fun y15 =>
  some y15
@[go_sem] theorem spec_l12Shape_s1_ok {β : Type} (fu n : Nat) (K : List (Kont β)) (a8 a9 : List Int) (a10 a11 a12 : Int) : run ⟨(tab fu).own, lev (tab fu) (n + 1), (tab fu).gl⟩ K (.loop c48_u1) ⟨[(0, .val (.sh .lent 1 (rowE (eI .i64) a9))), (1, .val (.int .i64 a10)), (2, .val (.int .i64 a11)), (7, .sl 200000070 0 a8.length), (8, .val (.int .i64 a12))], [(200000070, .row false 1 (rowE (eI .i64) a8))], 28⟩ = (loopO (spec_l12Shape_s1 fu a9 a10 a11) ((a8, a12))).bind (fun t => plug ⟨(tab fu).own, lev (tab fu) (n + 1), (tab fu).gl⟩ K (.exit 0) ⟨[(7, .sl 200000070 0 t.length)], [(200000070, .row false 1 (rowE (eI .i64) t))], 28⟩) := by
  refine loop_run (C := ⟨(tab fu).own, lev (tab fu) (n + 1), (tab fu).gl⟩) (K := K) (c := c48_u1) (spec_l12Shape_s1 fu a9 a10 a11) (fun s => ⟨[(0, .val (.sh .lent 1 (rowE (eI .i64) a9))), (1, .val (.int .i64 a10)), (2, .val (.int .i64 a11)), (7, .sl 200000070 0 s.1.length), (8, .val (.int .i64 s.2))], [(200000070, .row false 1 (rowE (eI .i64) s.1))], 28⟩) (fun t => plug ⟨(tab fu).own, lev (tab fu) (n + 1), (tab fu).gl⟩ K (.exit 0) ⟨[(7, .sl 200000070 0 t.length)], [(200000070, .row false 1 (rowE (eI .i64) t))], 28⟩) (fun k s => ?_) ((a8, a12))
  obtain ⟨a8, a12⟩ := s
  unfold c48_u1
  simp +contextual -implicitDefEqProofs (maxSteps := 99999999) only [spec_l12Shape_s1, subI, go_sem] <;> rfl
@[go_sem] theorem spec_l12Shape_s1_ok_e {β : Type} (fu n : Nat) (K : List (Kont β)) (a9 : List Int) (a10 a11 a12 : Int) : run ⟨(tab fu).own, lev (tab fu) (n + 1), (tab fu).gl⟩ K (.loop c48_u1) ⟨[(0, .val (.sh .lent 1 (rowE (eI .i64) a9))), (1, .val (.int .i64 a10)), (2, .val (.int .i64 a11)), (7, .sl 200000070 0 0), (8, .val (.int .i64 a12))], [(200000070, .row false 1 [])], 28⟩ = (loopO (spec_l12Shape_s1 fu a9 a10 a11) (([], a12))).bind (fun t => plug ⟨(tab fu).own, lev (tab fu) (n + 1), (tab fu).gl⟩ K (.exit 0) ⟨[(7, .sl 200000070 0 t.length)], [(200000070, .row false 1 (rowE (eI .i64) t))], 28⟩) := spec_l12Shape_s1_ok fu n K [] a9 a10 a11 a12
@[go_sem] theorem spec_l12Shape_ok (fu n : Nat) (q0_0 : List Int) (q1_0 q2_0 : Int) : lev (tab fu) (n + 2) 48 [.sh .lent 1 (rowE (eI .i64) q0_0), .int .i64 q1_0, .int .i64 q2_0] = (spec_l12Shape fu q0_0 q1_0 q2_0).map fun r => (.ow 1 (rowE (eI .i64) r), [.gone, .gone, .gone]) := by
  rw [lev_st (vc := c48) (nt := 28) (rs := [(6, none)]) ((tab_ext _ _ rfl).trans rfl) rfl (Nat.le_of_ble_eq_true rfl)]
  unfold c48
  simp +contextual -implicitDefEqProofs (maxSteps := 99999999) only [spec_l12Shape, subI, go_sem] <;> rfl
def spec_l14Central_s1 (fu : Nat) (a14 a15 : Int) (a16 a17 a18 : Int) (a19 a20 : List Int) (a21 : List (List Int)) : ((List Int) × Int) → Option (((List Int) × Int) ⊕ ((List Int))) := fun ⟨a13, a22⟩ =>
  if (decide (a22 < (a19.length : Int))) = true then (getI a19 a22).bind fun x23 =>
    (spec_l9Step a16).bind fun r24 =>
    if (okApp 8 ((a13 ++ ([(IntKind.i64.wrap (x23 * r24))]))).length) = true then some ((.inl (((a13 ++ ([(IntKind.i64.wrap (x23 * r24))])), (IntKind.i64.wrap (a22 + 1))))))
    else none
  else some ((.inr a13))
def spec_l14Central_s2 (fu : Nat) (a42 a43 : Int) (a44 a45 a46 : Int) (a47 a48 : List Int) (a49 : List (List Int)) (a50 : Int) : ((List Int) × Int) → Option (((List Int) × Int) ⊕ ((List Int))) := fun ⟨a41, a51⟩ =>
  if (decide (a51 < (a48.length : Int))) = true then (getI a49 a51).bind fun x52 =>
    (getI a48 a51).bind fun x53 =>
    (spec_l12Shape fu x52 ((IntKind.i64.wrap (8 - (IntKind.i64.wrap (2 * a45))))) ((IntKind.i64.wrap (x53 * a50)))).bind fun r54 =>
    if (okApp 8 ((a41 ++ r54)).length) = true then some ((.inl (((a41 ++ r54), (IntKind.i64.wrap (a51 + 1))))))
    else none
  else some ((.inr a41))
def spec_l14Central (fu : Nat) (p0 : SFrame) : Option ((List Int)) :=
  (loopO (spec_l14Central_s1 fu p0.Number p0.Size p0.Rung p0.Mask p0.Spread p0.Lows p0.Gains p0.Pulses) (([], 0))).bind fun y25 =>
  (spec_l9Step ((spec_l13Rung p0.Rung p0.Mask))).bind fun r26 =>
  (loopO (spec_l14Central_s2 fu p0.Number p0.Size p0.Rung p0.Mask p0.Spread p0.Lows p0.Gains p0.Pulses r26) ((y25, 0))).bind fun y55 =>
  some y55
@[go_sem] theorem spec_l14Central_s1_ok {β : Type} (fu n : Nat) (K : List (Kont β)) (a13 : List Int) (a14 a15 : Int) (a16 a17 a18 : Int) (a19 a20 : List Int) (a21 : List (List Int)) (a22 : Int) (R0 : List D) : run ⟨(tab fu).own, lev (tab fu) (n + 2), (tab fu).gl⟩ K (.loop c18_u1) ⟨[(0, .val (.ptr (.int .i64 a14 :: .int .i64 a15 :: .int .i64 a16 :: .int .i64 a17 :: .int .i64 a18 :: .sh .lent 1 (rowE (eI .i64) a19) :: .sh .lent 1 (rowE (eI .i64) a20) :: .sh .lent 1 (rowE (eL .lent 1 (eI .i64)) a21) :: R0))), (3, .sl 200000030 0 a13.length), (4, .val (.int .i64 a22))], [(200000030, .row false 1 (rowE (eI .i64) a13))], 78⟩ = (loopO (spec_l14Central_s1 fu a14 a15 a16 a17 a18 a19 a20 a21) ((a13, a22))).bind (fun t => plug ⟨(tab fu).own, lev (tab fu) (n + 2), (tab fu).gl⟩ K (.exit 0) ⟨[(0, .val (.ptr (.int .i64 a14 :: .int .i64 a15 :: .int .i64 a16 :: .int .i64 a17 :: .int .i64 a18 :: .sh .lent 1 (rowE (eI .i64) a19) :: .sh .lent 1 (rowE (eI .i64) a20) :: .sh .lent 1 (rowE (eL .lent 1 (eI .i64)) a21) :: R0))), (3, .sl 200000030 0 t.length)], [(200000030, .row false 1 (rowE (eI .i64) t))], 78⟩) := by
  refine loop_run (C := ⟨(tab fu).own, lev (tab fu) (n + 2), (tab fu).gl⟩) (K := K) (c := c18_u1) (spec_l14Central_s1 fu a14 a15 a16 a17 a18 a19 a20 a21) (fun s => ⟨[(0, .val (.ptr (.int .i64 a14 :: .int .i64 a15 :: .int .i64 a16 :: .int .i64 a17 :: .int .i64 a18 :: .sh .lent 1 (rowE (eI .i64) a19) :: .sh .lent 1 (rowE (eI .i64) a20) :: .sh .lent 1 (rowE (eL .lent 1 (eI .i64)) a21) :: R0))), (3, .sl 200000030 0 s.1.length), (4, .val (.int .i64 s.2))], [(200000030, .row false 1 (rowE (eI .i64) s.1))], 78⟩) (fun t => plug ⟨(tab fu).own, lev (tab fu) (n + 2), (tab fu).gl⟩ K (.exit 0) ⟨[(0, .val (.ptr (.int .i64 a14 :: .int .i64 a15 :: .int .i64 a16 :: .int .i64 a17 :: .int .i64 a18 :: .sh .lent 1 (rowE (eI .i64) a19) :: .sh .lent 1 (rowE (eI .i64) a20) :: .sh .lent 1 (rowE (eL .lent 1 (eI .i64)) a21) :: R0))), (3, .sl 200000030 0 t.length)], [(200000030, .row false 1 (rowE (eI .i64) t))], 78⟩) (fun k s => ?_) ((a13, a22))
  obtain ⟨a13, a22⟩ := s
  unfold c18_u1
  simp +contextual -implicitDefEqProofs (maxSteps := 99999999) only [spec_l14Central_s1, subI, go_sem] <;> rfl
@[go_sem] theorem spec_l14Central_s1_ok_e {β : Type} (fu n : Nat) (K : List (Kont β)) (a14 a15 : Int) (a16 a17 a18 : Int) (a19 a20 : List Int) (a21 : List (List Int)) (a22 : Int) (R0 : List D) : run ⟨(tab fu).own, lev (tab fu) (n + 2), (tab fu).gl⟩ K (.loop c18_u1) ⟨[(0, .val (.ptr (.int .i64 a14 :: .int .i64 a15 :: .int .i64 a16 :: .int .i64 a17 :: .int .i64 a18 :: .sh .lent 1 (rowE (eI .i64) a19) :: .sh .lent 1 (rowE (eI .i64) a20) :: .sh .lent 1 (rowE (eL .lent 1 (eI .i64)) a21) :: R0))), (3, .sl 200000030 0 0), (4, .val (.int .i64 a22))], [(200000030, .row false 1 [])], 78⟩ = (loopO (spec_l14Central_s1 fu a14 a15 a16 a17 a18 a19 a20 a21) (([], a22))).bind (fun t => plug ⟨(tab fu).own, lev (tab fu) (n + 2), (tab fu).gl⟩ K (.exit 0) ⟨[(0, .val (.ptr (.int .i64 a14 :: .int .i64 a15 :: .int .i64 a16 :: .int .i64 a17 :: .int .i64 a18 :: .sh .lent 1 (rowE (eI .i64) a19) :: .sh .lent 1 (rowE (eI .i64) a20) :: .sh .lent 1 (rowE (eL .lent 1 (eI .i64)) a21) :: R0))), (3, .sl 200000030 0 t.length)], [(200000030, .row false 1 (rowE (eI .i64) t))], 78⟩) := spec_l14Central_s1_ok fu n K [] a14 a15 a16 a17 a18 a19 a20 a21 a22 R0
@[go_sem] theorem spec_l14Central_s2_ok {β : Type} (fu n : Nat) (K : List (Kont β)) (a41 : List Int) (a42 a43 : Int) (a44 a45 a46 : Int) (a47 a48 : List Int) (a49 : List (List Int)) (a50 a51 : Int) (R0 : List D) : run ⟨(tab fu).own, lev (tab fu) (n + 2), (tab fu).gl⟩ K (.loop c18_u2) ⟨[(0, .val (.ptr (.int .i64 a42 :: .int .i64 a43 :: .int .i64 a44 :: .int .i64 a45 :: .int .i64 a46 :: .sh .lent 1 (rowE (eI .i64) a47) :: .sh .lent 1 (rowE (eI .i64) a48) :: .sh .lent 1 (rowE (eL .lent 1 (eI .i64)) a49) :: R0))), (3, .sl 200000030 0 a41.length), (5, .val (.int .i64 a50)), (6, .val (.int .i64 a51))], [(200000030, .row false 1 (rowE (eI .i64) a41))], 78⟩ = (loopO (spec_l14Central_s2 fu a42 a43 a44 a45 a46 a47 a48 a49 a50) ((a41, a51))).bind (fun t => plug ⟨(tab fu).own, lev (tab fu) (n + 2), (tab fu).gl⟩ K (.exit 2) ⟨[(3, .sl 200000030 0 t.length)], [(200000030, .row false 1 (rowE (eI .i64) t))], 78⟩) := by
  refine loop_run (C := ⟨(tab fu).own, lev (tab fu) (n + 2), (tab fu).gl⟩) (K := K) (c := c18_u2) (spec_l14Central_s2 fu a42 a43 a44 a45 a46 a47 a48 a49 a50) (fun s => ⟨[(0, .val (.ptr (.int .i64 a42 :: .int .i64 a43 :: .int .i64 a44 :: .int .i64 a45 :: .int .i64 a46 :: .sh .lent 1 (rowE (eI .i64) a47) :: .sh .lent 1 (rowE (eI .i64) a48) :: .sh .lent 1 (rowE (eL .lent 1 (eI .i64)) a49) :: R0))), (3, .sl 200000030 0 s.1.length), (5, .val (.int .i64 a50)), (6, .val (.int .i64 s.2))], [(200000030, .row false 1 (rowE (eI .i64) s.1))], 78⟩) (fun t => plug ⟨(tab fu).own, lev (tab fu) (n + 2), (tab fu).gl⟩ K (.exit 2) ⟨[(3, .sl 200000030 0 t.length)], [(200000030, .row false 1 (rowE (eI .i64) t))], 78⟩) (fun k s => ?_) ((a41, a51))
  obtain ⟨a41, a51⟩ := s
  unfold c18_u2
  simp +contextual -implicitDefEqProofs (maxSteps := 99999999) only [spec_l14Central_s2, subI, go_sem] <;> rfl
@[go_sem] theorem spec_l14Central_ok (fu n : Nat) (q0_0 q0_1 : Int) (q0_2 q0_3 q0_4 : Int) (q0_5 q0_6 : List Int) (q0_7 : List (List Int)) (R0 : List D) : lev (tab fu) (n + 3) 18 [.ptr (.int .i64 q0_0 :: .int .i64 q0_1 :: .int .i64 q0_2 :: .int .i64 q0_3 :: .int .i64 q0_4 :: .sh .lent 1 (rowE (eI .i64) q0_5) :: .sh .lent 1 (rowE (eI .i64) q0_6) :: .sh .lent 1 (rowE (eL .lent 1 (eI .i64)) q0_7) :: R0)] = (spec_l14Central fu (SFrame.mk q0_0 q0_1 q0_2 q0_3 q0_4 q0_5 q0_6 q0_7)).map fun r => (.ow 1 (rowE (eI .i64) r), [.gone]) := by
  rw [lev_st (vc := c18) (nt := 78) (rs := [(2, none)]) ((tab_ext _ _ rfl).trans rfl) rfl (Nat.le_of_ble_eq_true rfl)]
  unfold c18
  simp +contextual -implicitDefEqProofs (maxSteps := 99999999) only [spec_l14Central, subI, go_sem] <;> rfl
def spec_l1Ints (p0 : List Int) : Option ((List Int)) :=
  if (okApp 8 p0.length) = true then some p0
  else none
@[go_sem] theorem spec_l1Ints_ok (fu n : Nat) (q0_0 : List Int) : lev (tab fu) (n + 1) 46 [.sh .lent 1 (rowE (eI .i64) q0_0)] = (spec_l1Ints q0_0).map fun r => (.ow 1 (rowE (eI .i64) r), [.gone]) := by
  rw [lev_st (vc := c46) (nt := 6) (rs := [(2, none)]) ((tab_ext _ _ rfl).trans rfl) rfl (Nat.le_of_ble_eq_true rfl)]
  unfold c46
  simp +contextual -implicitDefEqProofs (maxSteps := 99999999) only [spec_l1Ints, subI, go_sem] <;> rfl
def spec_l5P_u1 (a5 : Int) (a6 : Bool) : Unit ⊕ Int :=
  if a6 = true then (.inr 178)
  else if (a5 == 260) = true then (.inr 230)
    else if (a5 == 261) = true then (.inr 283)
      else if (a5 == 262) = true then (.inr 338)
        else (.inl (()))
def spec_l5P_u2 (a3 : Int) (a4 : Bool) : Unit ⊕ Int :=
  if a4 = true then (.inr 25)
  else if (a3 == 257) = true then (.inr 76)
    else if (a3 == 258) = true then (.inr 126)
      else (Sum.elim (fun y7 => (.inl (())))
         (fun y8 => (.inr y8))) (spec_l5P_u1 a3 ((a3 == 259)))
def spec_l5P_u3 (a1 : Int) (a2 : Bool) : Unit ⊕ Int :=
  if a2 = true then (.inr 152)
  else if (a1 == 130) = true then (.inr 257)
    else if (a1 == 131) = true then (.inr 366)
      else (Sum.elim (fun y9 => (.inl (())))
         (fun y10 => (.inr y10))) (spec_l5P_u2 a1 ((a1 == 256)))
def spec_l5P (p0 p1 : Int) : Int :=
  if ((IntKind.i64.wrap ((IntKind.i64.wrap (p0 * 16)) + p1)) == 64) = true then 101
  else if ((IntKind.i64.wrap ((IntKind.i64.wrap (p0 * 16)) + p1)) == 65) = true then 311
    else if ((IntKind.i64.wrap ((IntKind.i64.wrap (p0 * 16)) + p1)) == 128) = true then 50
      else (Sum.elim (fun y11 => 395)
         (fun y12 => y12)) (spec_l5P_u3 ((IntKind.i64.wrap ((IntKind.i64.wrap (p0 * 16)) + p1))) (((IntKind.i64.wrap ((IntKind.i64.wrap (p0 * 16)) + p1)) == 129)))
@[go_sem] theorem spec_l5P_u1_ok {β : Type} (fu n : Nat) (K : List (Kont β)) (a5 : Int) (a6 : Bool) : run ⟨(tab fu).own, lev (tab fu) n, (tab fu).gl⟩ K c113_u1 ⟨[(8, .val (.int .i64 a5)), (27, .val (.bool a6))], [], 35⟩ = (some (spec_l5P_u1 a5 a6)).bind (fun t => (Sum.elim (fun t => plug ⟨(tab fu).own, lev (tab fu) n, (tab fu).gl⟩ K .normal ⟨[], [], 35⟩) (fun t => plug ⟨(tab fu).own, lev (tab fu) n, (tab fu).gl⟩ K .ret ⟨[(4, .val (.int .i64 t))], [], 35⟩)) t) := by
  unfold c113_u1
  simp +contextual -implicitDefEqProofs (maxSteps := 99999999) only [spec_l5P_u1, subI, go_sem] <;> rfl
@[go_sem] theorem spec_l5P_u2_ok {β : Type} (fu n : Nat) (K : List (Kont β)) (a3 : Int) (a4 : Bool) : run ⟨(tab fu).own, lev (tab fu) n, (tab fu).gl⟩ K c113_u2 ⟨[(8, .val (.int .i64 a3)), (21, .val (.bool a4))], [], 35⟩ = (some (spec_l5P_u2 a3 a4)).bind (fun t => (Sum.elim (fun t => plug ⟨(tab fu).own, lev (tab fu) n, (tab fu).gl⟩ K .normal ⟨[], [], 35⟩) (fun t => plug ⟨(tab fu).own, lev (tab fu) n, (tab fu).gl⟩ K .ret ⟨[(4, .val (.int .i64 t))], [], 35⟩)) t) := by
  unfold c113_u2
  simp +contextual -implicitDefEqProofs (maxSteps := 99999999) only [spec_l5P_u2, subI, go_sem] <;> rfl
@[go_sem] theorem spec_l5P_u3_ok {β : Type} (fu n : Nat) (K : List (Kont β)) (a1 : Int) (a2 : Bool) : run ⟨(tab fu).own, lev (tab fu) n, (tab fu).gl⟩ K c113_u3 ⟨[(8, .val (.int .i64 a1)), (15, .val (.bool a2))], [], 35⟩ = (some (spec_l5P_u3 a1 a2)).bind (fun t => (Sum.elim (fun t => plug ⟨(tab fu).own, lev (tab fu) n, (tab fu).gl⟩ K .normal ⟨[], [], 35⟩) (fun t => plug ⟨(tab fu).own, lev (tab fu) n, (tab fu).gl⟩ K .ret ⟨[(4, .val (.int .i64 t))], [], 35⟩)) t) := by
  unfold c113_u3
  simp +contextual -implicitDefEqProofs (maxSteps := 99999999) only [spec_l5P_u3, subI, go_sem] <;> rfl
@[go_sem] theorem spec_l5P_ok (fu n : Nat) (q0_0 q1_0 : Int) : lev (tab fu) (n + 1) 113 [.int .i64 q0_0, .int .i64 q1_0] = (some (spec_l5P q0_0 q1_0)).map fun r => (.int .i64 r, [.gone, .gone]) := by
  rw [lev_st (vc := c113) (nt := 35) (rs := [(4, none)]) ((tab_ext _ _ rfl).trans rfl) rfl (Nat.le_of_ble_eq_true rfl)]
  unfold c113
  simp +contextual -implicitDefEqProofs (maxSteps := 99999999) only [spec_l5P, subI, go_sem] <;> rfl
def spec_l1Ceil (p0 p1 : Int) : Option (Int) :=
  if p1 = 0 then none
  else some ((IntKind.i64.wrap (((IntKind.i64.wrap ((IntKind.i64.wrap (p0 + p1)) - 1))).tdiv p1)))
@[go_sem] theorem spec_l1Ceil_ok (fu n : Nat) (q0_0 q1_0 : Int) : lev (tab fu) (n + 1) 123 [.int .i64 q0_0, .int .i64 q1_0] = (spec_l1Ceil q0_0 q1_0).map fun r => (.int .i64 r, [.gone, .gone]) := by
  rw [lev_st (vc := c123) (nt := 11) (rs := [(4, none)]) ((tab_ext _ _ rfl).trans rfl) rfl (Nat.le_of_ble_eq_true rfl)]
  unfold c123
  simp +contextual -implicitDefEqProofs (maxSteps := 99999999) only [spec_l1Ceil, subI, go_sem] <;> rfl
def spec_l1Floor (p0 p1 : Int) : Option (Int) :=
  if (decide (p0 < 0)) = true then (spec_l1Ceil ((IntKind.i64.wrap (0 - p0))) p1).bind fun r1 =>
    some ((IntKind.i64.wrap (0 - r1)))
  else if p1 = 0 then none
    else some ((IntKind.i64.wrap (p0.tdiv p1)))
@[go_sem] theorem spec_l1Floor_ok (fu n : Nat) (q0_0 q1_0 : Int) : lev (tab fu) (n + 2) 121 [.int .i64 q0_0, .int .i64 q1_0] = (spec_l1Floor q0_0 q1_0).map fun r => (.int .i64 r, [.gone, .gone]) := by
  rw [lev_st (vc := c121) (nt := 15) (rs := [(4, none)]) ((tab_ext _ _ rfl).trans rfl) rfl (Nat.le_of_ble_eq_true rfl)]
  unfold c121
  simp +contextual -implicitDefEqProofs (maxSteps := 99999999) only [spec_l1Floor, subI, go_sem] <;> rfl
def spec_l1Ten (p0 : Int) : Option (Int) :=
  (spec_l1Floor ((IntKind.i64.wrap (p0 + 512))) 1024).bind fun r1 =>
  some r1
@[go_sem] theorem spec_l1Ten_ok (fu n : Nat) (q0_0 : Int) : lev (tab fu) (n + 3) 112 [.int .i64 q0_0] = (spec_l1Ten q0_0).map fun r => (.int .i64 r, [.gone]) := by
  rw [lev_st (vc := c112) (nt := 6) (rs := [(2, none)]) ((tab_ext _ _ rfl).trans rfl) rfl (Nat.le_of_ble_eq_true rfl)]
  unfold c112
  simp +contextual -implicitDefEqProofs (maxSteps := 99999999) only [spec_l1Ten, subI, go_sem] <;> rfl
def spec_l5U_u1 (a5 : Int) (a6 : Bool) : Unit ⊕ Int :=
  if a6 = true then (.inr 345)
  else if (a5 == 260) = true then (.inr 438)
    else if (a5 == 261) = true then (.inr 526)
      else if (a5 == 262) = true then (.inr 610)
        else (.inl (()))
def spec_l5U_u2 (a3 : Int) (a4 : Bool) : Unit ⊕ Int :=
  if a4 = true then (.inr 50)
  else if (a3 == 257) = true then (.inr 150)
    else if (a3 == 258) = true then (.inr 249)
      else (Sum.elim (fun y7 => (.inl (())))
         (fun y8 => (.inr y8))) (spec_l5U_u1 a3 ((a3 == 259)))
def spec_l5U_u3 (a1 : Int) (a2 : Bool) : Unit ⊕ Int :=
  if a2 = true then (.inr 297)
  else if (a1 == 130) = true then (.inr 483)
    else if (a1 == 131) = true then (.inr 650)
      else (Sum.elim (fun y9 => (.inl (())))
         (fun y10 => (.inr y10))) (spec_l5U_u2 a1 ((a1 == 256)))
def spec_l5U (p0 p1 : Int) : Int :=
  if ((IntKind.i64.wrap ((IntKind.i64.wrap (p0 * 16)) + p1)) == 64) = true then 200
  else if ((IntKind.i64.wrap ((IntKind.i64.wrap (p0 * 16)) + p1)) == 65) = true then 569
    else if ((IntKind.i64.wrap ((IntKind.i64.wrap (p0 * 16)) + p1)) == 128) = true then 100
      else (Sum.elim (fun y11 => 688)
         (fun y12 => y12)) (spec_l5U_u3 ((IntKind.i64.wrap ((IntKind.i64.wrap (p0 * 16)) + p1))) (((IntKind.i64.wrap ((IntKind.i64.wrap (p0 * 16)) + p1)) == 129)))
@[go_sem] theorem spec_l5U_u1_ok {β : Type} (fu n : Nat) (K : List (Kont β)) (a5 : Int) (a6 : Bool) : run ⟨(tab fu).own, lev (tab fu) n, (tab fu).gl⟩ K c114_u1 ⟨[(8, .val (.int .i64 a5)), (27, .val (.bool a6))], [], 35⟩ = (some (spec_l5U_u1 a5 a6)).bind (fun t => (Sum.elim (fun t => plug ⟨(tab fu).own, lev (tab fu) n, (tab fu).gl⟩ K .normal ⟨[], [], 35⟩) (fun t => plug ⟨(tab fu).own, lev (tab fu) n, (tab fu).gl⟩ K .ret ⟨[(4, .val (.int .i64 t))], [], 35⟩)) t) := by
  unfold c114_u1
  simp +contextual -implicitDefEqProofs (maxSteps := 99999999) only [spec_l5U_u1, subI, go_sem] <;> rfl
@[go_sem] theorem spec_l5U_u2_ok {β : Type} (fu n : Nat) (K : List (Kont β)) (a3 : Int) (a4 : Bool) : run ⟨(tab fu).own, lev (tab fu) n, (tab fu).gl⟩ K c114_u2 ⟨[(8, .val (.int .i64 a3)), (21, .val (.bool a4))], [], 35⟩ = (some (spec_l5U_u2 a3 a4)).bind (fun t => (Sum.elim (fun t => plug ⟨(tab fu).own, lev (tab fu) n, (tab fu).gl⟩ K .normal ⟨[], [], 35⟩) (fun t => plug ⟨(tab fu).own, lev (tab fu) n, (tab fu).gl⟩ K .ret ⟨[(4, .val (.int .i64 t))], [], 35⟩)) t) := by
  unfold c114_u2
  simp +contextual -implicitDefEqProofs (maxSteps := 99999999) only [spec_l5U_u2, subI, go_sem] <;> rfl
@[go_sem] theorem spec_l5U_u3_ok {β : Type} (fu n : Nat) (K : List (Kont β)) (a1 : Int) (a2 : Bool) : run ⟨(tab fu).own, lev (tab fu) n, (tab fu).gl⟩ K c114_u3 ⟨[(8, .val (.int .i64 a1)), (15, .val (.bool a2))], [], 35⟩ = (some (spec_l5U_u3 a1 a2)).bind (fun t => (Sum.elim (fun t => plug ⟨(tab fu).own, lev (tab fu) n, (tab fu).gl⟩ K .normal ⟨[], [], 35⟩) (fun t => plug ⟨(tab fu).own, lev (tab fu) n, (tab fu).gl⟩ K .ret ⟨[(4, .val (.int .i64 t))], [], 35⟩)) t) := by
  unfold c114_u3
  simp +contextual -implicitDefEqProofs (maxSteps := 99999999) only [spec_l5U_u3, subI, go_sem] <;> rfl
@[go_sem] theorem spec_l5U_ok (fu n : Nat) (q0_0 q1_0 : Int) : lev (tab fu) (n + 1) 114 [.int .i64 q0_0, .int .i64 q1_0] = (some (spec_l5U q0_0 q1_0)).map fun r => (.int .i64 r, [.gone, .gone]) := by
  rw [lev_st (vc := c114) (nt := 35) (rs := [(4, none)]) ((tab_ext _ _ rfl).trans rfl) rfl (Nat.le_of_ble_eq_true rfl)]
  unfold c114
  simp +contextual -implicitDefEqProofs (maxSteps := 99999999) only [spec_l5U, subI, go_sem] <;> rfl
def spec_l5Back (p0 p1 : Int) (p2 p3 : Int) : Option (Int × Int) :=
  (spec_l1Ten ((IntKind.i64.wrap ((spec_l5P p0 p1) * p3)))).bind fun r1 =>
  (spec_l1Ten ((IntKind.i64.wrap ((spec_l5U p0 p1) * (IntKind.i64.wrap (p2 + r1)))))).bind fun r2 =>
  (spec_l1Ten ((IntKind.i64.wrap ((spec_l5P p0 p1) * (IntKind.i64.wrap (p3 - r2)))))).bind fun r3 =>
  some (((IntKind.i64.wrap ((IntKind.i64.wrap (p2 + r1)) + r3)), (IntKind.i64.wrap (p3 - r2))))
@[go_sem] theorem spec_l5Back_ok (fu n : Nat) (q0_0 q1_0 : Int) (q2_0 q3_0 : Int) : lev (tab fu) (n + 4) 85 [.int .i64 q0_0, .int .i64 q1_0, .int .i64 q2_0, .int .i64 q3_0] = (spec_l5Back q0_0 q1_0 q2_0 q3_0).map fun r => (.tup [.int .i64 r.1, .int .i64 r.2], [.gone, .gone, .gone, .gone]) := by
  rw [lev_st (vc := c85) (nt := 37) (rs := [(8, none), (9, none)]) ((tab_ext _ _ rfl).trans rfl) rfl (Nat.le_of_ble_eq_true rfl)]
  unfold c85
  simp +contextual -implicitDefEqProofs (maxSteps := 99999999) only [spec_l5Back, subI, go_sem] <;> rfl
def spec_l5Part (p0 p1 : Int) : Option (Int × Int) :=
  (spec_l1Floor p1 2).bind fun r1 =>
  some (((IntKind.i64.wrap ((IntKind.i64.wrap (p0 - r1)) + p1)), (IntKind.i64.wrap (p0 - r1))))
@[go_sem] theorem spec_l5Part_ok (fu n : Nat) (q0_0 q1_0 : Int) : lev (tab fu) (n + 3) 111 [.int .i64 q0_0, .int .i64 q1_0] = (spec_l5Part q0_0 q1_0).map fun r => (.tup [.int .i64 r.1, .int .i64 r.2], [.gone, .gone]) := by
  rw [lev_st (vc := c111) (nt := 15) (rs := [(4, none), (5, none)]) ((tab_ext _ _ rfl).trans rfl) rfl (Nat.le_of_ble_eq_true rfl)]
  unfold c111
  simp +contextual -implicitDefEqProofs (maxSteps := 99999999) only [spec_l5Part, subI, go_sem] <;> rfl
def spec_l6Unite_s1 (a16 : List Int) (a17 : Int) : ((List Int) × Int) → Option (((List Int) × Int) ⊕ ((List Int))) := fun ⟨a15, a18⟩ =>
  if (decide (a18 < (IntKind.i64.wrap (a17.tdiv (4 : Int))))) = true then (getI a15 a18).bind fun _ =>
    (a15[a18.toNat]?).bind fun x19 =>
    (getI a15 (IntKind.i64.wrap ((IntKind.i64.wrap ((IntKind.i64.wrap (a17.tdiv (2 : Int))) - 1)) - a18))).bind fun _ =>
    (a15[((IntKind.i64.wrap ((IntKind.i64.wrap ((IntKind.i64.wrap (a17.tdiv (2 : Int))) - 1)) - a18))).toNat]?).bind fun x20 =>
    (spec_l5Back a17 a18 x19 x20).bind fun r21 =>
    (getI a15 a18).bind fun _ =>
    (a15[a18.toNat]?).bind fun _ =>
    (getI ((a15.set a18.toNat r21.1)) (IntKind.i64.wrap ((IntKind.i64.wrap ((IntKind.i64.wrap (a17.tdiv (2 : Int))) - 1)) - a18))).bind fun _ =>
    (((a15.set a18.toNat r21.1))[((IntKind.i64.wrap ((IntKind.i64.wrap ((IntKind.i64.wrap (a17.tdiv (2 : Int))) - 1)) - a18))).toNat]?).bind fun _ =>
    some ((.inl (((((a15.set a18.toNat r21.1)).set (((IntKind.i64.wrap ((IntKind.i64.wrap ((IntKind.i64.wrap (a17.tdiv (2 : Int))) - 1)) - a18))).toNat) r21.2), (IntKind.i64.wrap (a18 + 1))))))
  else some ((.inr a15))
def spec_l6Unite_u2 (a2 a3 : List Int) (a4 : Int) (a5 : Bool) : Option ((List Int)) :=
  if a5 = true then (loopO (spec_l6Unite_s1 a3 a4) ((a2, 0))).bind fun y24 =>
    some y24
  else some a2
def spec_l6Unite_s3 (a37 a39 : List Int) (a40 : Int) : ((List Int) × Int) → Option (((List Int) × Int) ⊕ ((List Int))) := fun ⟨a38, a41⟩ =>
  if (decide (a41 < (IntKind.i64.wrap (a40.tdiv (2 : Int))))) = true then (getI a39 a41).bind fun x42 =>
    (getI a37 a41).bind fun _ =>
    (a37[a41.toNat]?).bind fun x43 =>
    (spec_l5Part x42 x43).bind fun r44 =>
    (getI a38 a41).bind fun _ =>
    (a38[a41.toNat]?).bind fun _ =>
    (getI ((a38.set a41.toNat r44.1)) (IntKind.i64.wrap ((IntKind.i64.wrap (a40 - 1)) - a41))).bind fun _ =>
    (((a38.set a41.toNat r44.1))[((IntKind.i64.wrap ((IntKind.i64.wrap (a40 - 1)) - a41))).toNat]?).bind fun _ =>
    some ((.inl (((((a38.set a41.toNat r44.1)).set (((IntKind.i64.wrap ((IntKind.i64.wrap (a40 - 1)) - a41))).toNat) r44.2), (IntKind.i64.wrap (a41 + 1))))))
  else some ((.inr a38))
def spec_l6Unite (p0 p1 : List Int) : Option ((List Int)) :=
  (spec_l1Ints p1).bind fun r1 =>
  (spec_l6Unite_u2 r1 p0 ((IntKind.i64.wrap ((p0.length : Int) * 2))) ((decide ((IntKind.i64.wrap ((p0.length : Int) * 2)) > 2)))).bind fun y25 =>
  (spec_l1Zeros (((IntKind.i64.wrap ((p0.length : Int) * 2))))).bind fun r26 =>
  (loopO (spec_l6Unite_s3 y25 p0 (((IntKind.i64.wrap ((p0.length : Int) * 2))))) ((r26, 0))).bind fun y47 =>
  some y47
@[go_sem] theorem spec_l6Unite_s1_ok {β : Type} (fu n : Nat) (K : List (Kont β)) (a15 a16 : List Int) (a17 a18 : Int) : run ⟨(tab fu).own, lev (tab fu) (n + 4), (tab fu).gl⟩ K (.loop c84_u1) ⟨[(0, .val (.sh .lent 1 (rowE (eI .i64) a16))), (5, .val (.int .i64 a17)), (6, .sl 200000060 0 a15.length), (7, .val (.int .i64 a18))], [(200000060, .row false 1 (rowE (eI .i64) a15))], 89⟩ = (loopO (spec_l6Unite_s1 a16 a17) ((a15, a18))).bind (fun t => plug ⟨(tab fu).own, lev (tab fu) (n + 4), (tab fu).gl⟩ K (.exit 0) ⟨[(0, .val (.sh .lent 1 (rowE (eI .i64) a16))), (5, .val (.int .i64 a17)), (6, .sl 200000060 0 t.length)], [(200000060, .row false 1 (rowE (eI .i64) t))], 89⟩) := by
  refine loop_run (C := ⟨(tab fu).own, lev (tab fu) (n + 4), (tab fu).gl⟩) (K := K) (c := c84_u1) (spec_l6Unite_s1 a16 a17) (fun s => ⟨[(0, .val (.sh .lent 1 (rowE (eI .i64) a16))), (5, .val (.int .i64 a17)), (6, .sl 200000060 0 s.1.length), (7, .val (.int .i64 s.2))], [(200000060, .row false 1 (rowE (eI .i64) s.1))], 89⟩) (fun t => plug ⟨(tab fu).own, lev (tab fu) (n + 4), (tab fu).gl⟩ K (.exit 0) ⟨[(0, .val (.sh .lent 1 (rowE (eI .i64) a16))), (5, .val (.int .i64 a17)), (6, .sl 200000060 0 t.length)], [(200000060, .row false 1 (rowE (eI .i64) t))], 89⟩) (fun k s => ?_) ((a15, a18))
  obtain ⟨a15, a18⟩ := s
  unfold c84_u1
  simp +contextual -implicitDefEqProofs (maxSteps := 99999999) only [spec_l6Unite_s1, subI, go_sem] <;> rfl
@[go_sem] theorem spec_l6Unite_u2_ok {β : Type} (fu n : Nat) (K : List (Kont β)) (a2 a3 : List Int) (a4 : Int) (a5 : Bool) : run ⟨(tab fu).own, lev (tab fu) (n + 4), (tab fu).gl⟩ K c84_u2 ⟨[(0, .val (.sh .lent 1 (rowE (eI .i64) a3))), (5, .val (.int .i64 a4)), (6, .sl 200000060 0 a2.length), (20, .val (.bool a5))], [(200000060, .row false 1 (rowE (eI .i64) a2))], 89⟩ = (spec_l6Unite_u2 a2 a3 a4 a5).bind (fun t => plug ⟨(tab fu).own, lev (tab fu) (n + 4), (tab fu).gl⟩ K .normal ⟨[(0, .val (.sh .lent 1 (rowE (eI .i64) a3))), (5, .val (.int .i64 a4)), (6, .sl 200000060 0 t.length)], [(200000060, .row false 1 (rowE (eI .i64) t))], 89⟩) := by
  unfold c84_u2
  simp +contextual -implicitDefEqProofs (maxSteps := 99999999) only [spec_l6Unite_u2, subI, go_sem] <;> rfl
@[go_sem] theorem spec_l6Unite_s3_ok {β : Type} (fu n : Nat) (K : List (Kont β)) (a37 a38 a39 : List Int) (a40 a41 : Int) : run ⟨(tab fu).own, lev (tab fu) (n + 4), (tab fu).gl⟩ K (.loop c84_u3) ⟨[(0, .val (.sh .lent 1 (rowE (eI .i64) a39))), (5, .val (.int .i64 a40)), (6, .sl 200000060 0 a37.length), (10, .sl 200000100 0 a38.length), (11, .val (.int .i64 a41))], [(200000060, .row false 1 (rowE (eI .i64) a37)), (200000100, .row false 1 (rowE (eI .i64) a38))], 89⟩ = (loopO (spec_l6Unite_s3 a37 a39 a40) ((a38, a41))).bind (fun t => plug ⟨(tab fu).own, lev (tab fu) (n + 4), (tab fu).gl⟩ K (.exit 2) ⟨[(10, .sl 200000100 0 t.length)], [(200000100, .row false 1 (rowE (eI .i64) t))], 89⟩) := by
  refine loop_run (C := ⟨(tab fu).own, lev (tab fu) (n + 4), (tab fu).gl⟩) (K := K) (c := c84_u3) (spec_l6Unite_s3 a37 a39 a40) (fun s => ⟨[(0, .val (.sh .lent 1 (rowE (eI .i64) a39))), (5, .val (.int .i64 a40)), (6, .sl 200000060 0 a37.length), (10, .sl 200000100 0 s.1.length), (11, .val (.int .i64 s.2))], [(200000060, .row false 1 (rowE (eI .i64) a37)), (200000100, .row false 1 (rowE (eI .i64) s.1))], 89⟩) (fun t => plug ⟨(tab fu).own, lev (tab fu) (n + 4), (tab fu).gl⟩ K (.exit 2) ⟨[(10, .sl 200000100 0 t.length)], [(200000100, .row false 1 (rowE (eI .i64) t))], 89⟩) (fun k s => ?_) ((a38, a41))
  obtain ⟨a38, a41⟩ := s
  unfold c84_u3
  simp +contextual -implicitDefEqProofs (maxSteps := 99999999) only [spec_l6Unite_s3, subI, go_sem] <;> rfl
@[go_sem] theorem spec_l6Unite_ok (fu n : Nat) (q0_0 q1_0 : List Int) : lev (tab fu) (n + 5) 84 [.sh .lent 1 (rowE (eI .i64) q0_0), .sh .lent 1 (rowE (eI .i64) q1_0)] = (spec_l6Unite q0_0 q1_0).map fun r => (.ow 1 (rowE (eI .i64) r), [.gone, .gone]) := by
  rw [lev_st (vc := c84) (nt := 89) (rs := [(4, none)]) ((tab_ext _ _ rfl).trans rfl) rfl (Nat.le_of_ble_eq_true rfl)]
  unfold c84
  simp +contextual -implicitDefEqProofs (maxSteps := 99999999) only [spec_l6Unite, subI, go_sem] <;> rfl
def spec_l6Gather_s1 (fu : Nat) (rec_ : (List Int) → Option ((List Int))) (a10 : List Int) : ((List Int) × (List Int) × Int) → Option (((List Int) × (List Int) × Int) ⊕ ((List Int) × (List Int))) := fun ⟨a8, a9, a11⟩ =>
  if (decide ((IntKind.i64.wrap (a11 + 1)) < (a10.length : Int))) = true then (getI a10 a11).bind fun x12 =>
    if (okApp 8 ((a8 ++ ([x12]))).length) = true then (getI a10 (IntKind.i64.wrap (a11 + 1))).bind fun x13 =>
      if (okApp 8 ((a9 ++ ([x13]))).length) = true then some ((.inl (((a8 ++ ([x12])), (a9 ++ ([x13])), (IntKind.i64.wrap (a11 + 2))))))
      else none
    else none
  else some ((.inr ((a8, a9))))
def spec_l6Gather_b (fu : Nat) (rec_ : (List Int) → Option ((List Int))) (p0 : List Int) : Option ((List Int)) :=
  if ((p0.length : Int) == 1) = true then (spec_l1Ints p0).bind fun r1 =>
    some r1
  else (loopO (spec_l6Gather_s1 fu rec_ p0) (([], [], 0))).bind fun y14 =>
    (rec_ y14.1).bind fun r15 =>
    (rec_ y14.2).bind fun r16 =>
    (spec_l6Unite r15 r16).bind fun r17 =>
    some r17
def spec_l6Gather : Nat → (List Int) → Option ((List Int))
  | 0, _ => none
  | fu + 1, p0 => spec_l6Gather_b fu (spec_l6Gather fu) p0
class spec_l6GatherRec (fu : Nat) : Prop where
  h : ∀ (n : Nat) (q0_0 : List Int), lev (tab fu) (n + 1) 44 [.sh .lent 1 (rowE (eI .i64) q0_0)] = (spec_l6Gather fu q0_0).map fun r => (.ow 1 (rowE (eI .i64) r), [.gone])
@[go_sem] theorem spec_l6Gather_rec (fu n : Nat) [q : spec_l6GatherRec fu] (q0_0 : List Int) : lev (tab fu) (n + 1) 44 [.sh .lent 1 (rowE (eI .i64) q0_0)] = (spec_l6Gather fu q0_0).map fun r => (.ow 1 (rowE (eI .i64) r), [.gone]) := spec_l6GatherRec.h n q0_0
@[go_sem] theorem spec_l6Gather_s1_ok {β : Type} (fu n : Nat) [spec_l6GatherRec fu] (K : List (Kont β)) (a8 a9 a10 : List Int) (a11 : Int) : run ⟨(tab fu).own, lev (tab fu) (n + 5), (tab fu).gl⟩ K (.loop c44_u1) ⟨[(0, .val (.sh .lent 1 (rowE (eI .i64) a10))), (3, .sl 200000030 0 a8.length), (4, .sl 200000040 0 a9.length), (5, .val (.int .i64 a11))], [(200000030, .row false 1 (rowE (eI .i64) a8)), (200000040, .row false 1 (rowE (eI .i64) a9))], 40⟩ = (loopO (spec_l6Gather_s1 fu (spec_l6Gather fu) a10) ((a8, a9, a11))).bind (fun t => plug ⟨(tab fu).own, lev (tab fu) (n + 5), (tab fu).gl⟩ K (.exit 0) ⟨[(3, .sl 200000030 0 t.1.length), (4, .sl 200000040 0 t.2.length)], [(200000030, .row false 1 (rowE (eI .i64) t.1)), (200000040, .row false 1 (rowE (eI .i64) t.2))], 40⟩) := by
  refine loop_run (C := ⟨(tab fu).own, lev (tab fu) (n + 5), (tab fu).gl⟩) (K := K) (c := c44_u1) (spec_l6Gather_s1 fu (spec_l6Gather fu) a10) (fun s => ⟨[(0, .val (.sh .lent 1 (rowE (eI .i64) a10))), (3, .sl 200000030 0 s.1.length), (4, .sl 200000040 0 s.2.1.length), (5, .val (.int .i64 s.2.2))], [(200000030, .row false 1 (rowE (eI .i64) s.1)), (200000040, .row false 1 (rowE (eI .i64) s.2.1))], 40⟩) (fun t => plug ⟨(tab fu).own, lev (tab fu) (n + 5), (tab fu).gl⟩ K (.exit 0) ⟨[(3, .sl 200000030 0 t.1.length), (4, .sl 200000040 0 t.2.length)], [(200000030, .row false 1 (rowE (eI .i64) t.1)), (200000040, .row false 1 (rowE (eI .i64) t.2))], 40⟩) (fun k s => ?_) ((a8, a9, a11))
  obtain ⟨a8, a9, a11⟩ := s
  unfold c44_u1
  simp +contextual -implicitDefEqProofs (maxSteps := 99999999) only [spec_l6Gather_s1, subI, go_sem] <;> rfl
@[go_sem] theorem spec_l6Gather_s1_ok_e {β : Type} (fu n : Nat) [spec_l6GatherRec fu] (K : List (Kont β)) (a10 : List Int) (a11 : Int) : run ⟨(tab fu).own, lev (tab fu) (n + 5), (tab fu).gl⟩ K (.loop c44_u1) ⟨[(0, .val (.sh .lent 1 (rowE (eI .i64) a10))), (3, .sl 200000030 0 0), (4, .sl 200000040 0 0), (5, .val (.int .i64 a11))], [(200000030, .row false 1 []), (200000040, .row false 1 [])], 40⟩ = (loopO (spec_l6Gather_s1 fu (spec_l6Gather fu) a10) (([], [], a11))).bind (fun t => plug ⟨(tab fu).own, lev (tab fu) (n + 5), (tab fu).gl⟩ K (.exit 0) ⟨[(3, .sl 200000030 0 t.1.length), (4, .sl 200000040 0 t.2.length)], [(200000030, .row false 1 (rowE (eI .i64) t.1)), (200000040, .row false 1 (rowE (eI .i64) t.2))], 40⟩) := spec_l6Gather_s1_ok fu n K [] [] a10 a11
theorem spec_l6Gather_st (fu n : Nat) (ds : List D) : lev (tab (fu + 1)) (n + 1) 44 ds = levA (tab fu) (0 + 5) c44 [(2, none)] (idsOf 0 ((tab fu).own 44) ds) ds (argsFr 0 ((tab fu).own 44) ds ⟨[], [], 40⟩) := lev_rec_st (T := tab0) (R := recR) rfl rfl (Nat.le_of_ble_eq_true rfl)
theorem spec_l6Gather_all (fu : Nat) : spec_l6GatherRec fu := by
  induction fu with
  | zero => exact ⟨fun n q0_0 => lev_rec0 (T := tab0) (R := recR) (N := 0 + 5) rfl⟩
  | succ fu ih =>
    refine ⟨fun n q0_0 => ?_⟩
    rw [spec_l6Gather_st]
    unfold spec_l6Gather c44
    simp +contextual -implicitDefEqProofs (maxSteps := 99999999) only [spec_l6Gather_b, subI, go_sem] <;> rfl
instance (fu : Nat) : spec_l6GatherRec fu := spec_l6Gather_all fu
theorem spec_l6Gather_ok (fu n : Nat) (q0_0 : List Int) : lev (tab fu) (n + 1) 44 [.sh .lent 1 (rowE (eI .i64) q0_0)] = (spec_l6Gather fu q0_0).map fun r => (.ow 1 (rowE (eI .i64) r), [.gone]) := spec_l6Gather_rec fu n q0_0
def spec_l5Turn (p0 p1 : Int) (p2 p3 : Int) : Option (Int × Int) :=
  (spec_l1Ten ((IntKind.i64.wrap ((spec_l5P p0 p1) * p3)))).bind fun r1 =>
  (spec_l1Ten ((IntKind.i64.wrap ((spec_l5U p0 p1) * (IntKind.i64.wrap (p2 - r1)))))).bind fun r2 =>
  (spec_l1Ten ((IntKind.i64.wrap ((spec_l5P p0 p1) * (IntKind.i64.wrap (p3 + r2)))))).bind fun r3 =>
  some (((IntKind.i64.wrap ((IntKind.i64.wrap (p2 - r1)) - r3)), (IntKind.i64.wrap (p3 + r2))))
@[go_sem] theorem spec_l5Turn_ok (fu n : Nat) (q0_0 q1_0 : Int) (q2_0 q3_0 : Int) : lev (tab fu) (n + 4) 86 [.int .i64 q0_0, .int .i64 q1_0, .int .i64 q2_0, .int .i64 q3_0] = (spec_l5Turn q0_0 q1_0 q2_0 q3_0).map fun r => (.tup [.int .i64 r.1, .int .i64 r.2], [.gone, .gone, .gone, .gone]) := by
  rw [lev_st (vc := c86) (nt := 37) (rs := [(8, none), (9, none)]) ((tab_ext _ _ rfl).trans rfl) rfl (Nat.le_of_ble_eq_true rfl)]
  unfold c86
  simp +contextual -implicitDefEqProofs (maxSteps := 99999999) only [spec_l5Turn, subI, go_sem] <;> rfl
def spec_l7Seam_u2 (a36 a37 : List Int) (a38 : Int) (a39 a40 : List Int) (a41 : Bool) (a42 a43 : Int) : Option (Bool × Int × Int) :=
  if a41 = true then (getI a39 (IntKind.i64.wrap ((IntKind.i64.wrap (a42 - 1)) - a43))).bind fun x44 =>
    (getI a40 a43).bind fun x45 =>
    (spec_l5Back a38 a43 x44 x45).bind fun r46 =>
    some ((true, r46.1, r46.2))
  else (getI a39 (IntKind.i64.wrap ((IntKind.i64.wrap (a42 - 1)) - a43))).bind fun x47 =>
    (getI a40 a43).bind fun x48 =>
    (spec_l5Turn a38 a43 x47 x48).bind fun r49 =>
    some ((false, r49.1, r49.2))
def spec_l7Seam_s3 (a30 : Int) (a31 a32 : List Int) (a34 : Int) : ((List Int) × (List Int) × Bool × Int) → Option (((List Int) × (List Int) × Bool × Int) ⊕ ((List Int) × (List Int))) := fun ⟨a28, a29, a33, a35⟩ =>
  if (decide (a35 < a34)) = true then (spec_l7Seam_u2 a28 a29 a30 a31 a32 a33 a34 a35).bind fun y50 =>
    (getI a28 (IntKind.i64.wrap ((IntKind.i64.wrap (a34 - 1)) - a35))).bind fun _ =>
    (a28[((IntKind.i64.wrap ((IntKind.i64.wrap (a34 - 1)) - a35))).toNat]?).bind fun _ =>
    (getI a29 a35).bind fun _ =>
    (a29[a35.toNat]?).bind fun _ =>
    some ((.inl (((a28.set (((IntKind.i64.wrap ((IntKind.i64.wrap (a34 - 1)) - a35))).toNat) y50.2.1), (a29.set a35.toNat y50.2.2), y50.1, (IntKind.i64.wrap (a35 + 1))))))
  else some ((.inr ((a28, a29))))
def spec_l7Seam (p0 : Int) (p1 p2 : List Int) (p3 : Bool) : Option ((List Int) × (List Int)) :=
  (spec_l1Zeros ((IntKind.i64.wrap (p0.tdiv (2 : Int))))).bind fun r1 =>
  (spec_l1Zeros ((IntKind.i64.wrap (p0.tdiv (2 : Int))))).bind fun r2 =>
  (loopO (spec_l7Seam_s3 p0 p1 p2 ((IntKind.i64.wrap (p0.tdiv (2 : Int))))) ((r1, r2, p3, 0))).bind fun y53 =>
  some ((y53.1, y53.2))
@[go_sem] theorem spec_l7Seam_u2_ok {β : Type} (fu n : Nat) (K : List (Kont β)) (a36 a37 : List Int) (a38 : Int) (a39 a40 : List Int) (a41 : Bool) (a42 a43 : Int) : run ⟨(tab fu).own, lev (tab fu) (n + 4), (tab fu).gl⟩ K c45_u2 ⟨[(0, .val (.int .i64 a38)), (1, .val (.sh .lent 1 (rowE (eI .i64) a39))), (2, .val (.sh .lent 1 (rowE (eI .i64) a40))), (3, .val (.bool a41)), (10, .val (.int .i64 a42)), (11, .sl 200000110 0 a36.length), (12, .sl 200000120 0 a37.length), (13, .val (.int .i64 a43)), (27, .val (.bool a41))], [(200000110, .row false 1 (rowE (eI .i64) a36)), (200000120, .row false 1 (rowE (eI .i64) a37))], 75⟩ = (spec_l7Seam_u2 a36 a37 a38 a39 a40 a41 a42 a43).bind (fun t => plug ⟨(tab fu).own, lev (tab fu) (n + 4), (tab fu).gl⟩ K .normal ⟨[(0, .val (.int .i64 a38)), (1, .val (.sh .lent 1 (rowE (eI .i64) a39))), (2, .val (.sh .lent 1 (rowE (eI .i64) a40))), (3, .val (.bool t.1)), (10, .val (.int .i64 a42)), (11, .sl 200000110 0 a36.length), (12, .sl 200000120 0 a37.length), (13, .val (.int .i64 a43)), (14, .val (.int .i64 t.2.1)), (15, .val (.int .i64 t.2.2))], [(200000110, .row false 1 (rowE (eI .i64) a36)), (200000120, .row false 1 (rowE (eI .i64) a37))], 75⟩) := by
  unfold c45_u2
  simp +contextual -implicitDefEqProofs (maxSteps := 99999999) only [spec_l7Seam_u2, subI, go_sem] <;> rfl
@[go_sem] theorem spec_l7Seam_s3_ok {β : Type} (fu n : Nat) (K : List (Kont β)) (a28 a29 : List Int) (a30 : Int) (a31 a32 : List Int) (a33 : Bool) (a34 a35 : Int) : run ⟨(tab fu).own, lev (tab fu) (n + 4), (tab fu).gl⟩ K (.loop c45_u3) ⟨[(0, .val (.int .i64 a30)), (1, .val (.sh .lent 1 (rowE (eI .i64) a31))), (2, .val (.sh .lent 1 (rowE (eI .i64) a32))), (3, .val (.bool a33)), (10, .val (.int .i64 a34)), (11, .sl 200000110 0 a28.length), (12, .sl 200000120 0 a29.length), (13, .val (.int .i64 a35))], [(200000110, .row false 1 (rowE (eI .i64) a28)), (200000120, .row false 1 (rowE (eI .i64) a29))], 75⟩ = (loopO (spec_l7Seam_s3 a30 a31 a32 a34) ((a28, a29, a33, a35))).bind (fun t => plug ⟨(tab fu).own, lev (tab fu) (n + 4), (tab fu).gl⟩ K (.exit 0) ⟨[(11, .sl 200000110 0 t.1.length), (12, .sl 200000120 0 t.2.length)], [(200000110, .row false 1 (rowE (eI .i64) t.1)), (200000120, .row false 1 (rowE (eI .i64) t.2))], 75⟩) := by
  refine loop_run (C := ⟨(tab fu).own, lev (tab fu) (n + 4), (tab fu).gl⟩) (K := K) (c := c45_u3) (spec_l7Seam_s3 a30 a31 a32 a34) (fun s => ⟨[(0, .val (.int .i64 a30)), (1, .val (.sh .lent 1 (rowE (eI .i64) a31))), (2, .val (.sh .lent 1 (rowE (eI .i64) a32))), (3, .val (.bool s.2.2.1)), (10, .val (.int .i64 a34)), (11, .sl 200000110 0 s.1.length), (12, .sl 200000120 0 s.2.1.length), (13, .val (.int .i64 s.2.2.2))], [(200000110, .row false 1 (rowE (eI .i64) s.1)), (200000120, .row false 1 (rowE (eI .i64) s.2.1))], 75⟩) (fun t => plug ⟨(tab fu).own, lev (tab fu) (n + 4), (tab fu).gl⟩ K (.exit 0) ⟨[(11, .sl 200000110 0 t.1.length), (12, .sl 200000120 0 t.2.length)], [(200000110, .row false 1 (rowE (eI .i64) t.1)), (200000120, .row false 1 (rowE (eI .i64) t.2))], 75⟩) (fun k s => ?_) ((a28, a29, a33, a35))
  obtain ⟨a28, a29, a33, a35⟩ := s
  unfold c45_u3
  simp +contextual -implicitDefEqProofs (maxSteps := 99999999) only [spec_l7Seam_s3, subI, go_sem] <;> rfl
@[go_sem] theorem spec_l7Seam_ok (fu n : Nat) (q0_0 : Int) (q1_0 q2_0 : List Int) (q3_0 : Bool) : lev (tab fu) (n + 5) 45 [.int .i64 q0_0, .sh .lent 1 (rowE (eI .i64) q1_0), .sh .lent 1 (rowE (eI .i64) q2_0), .bool q3_0] = (spec_l7Seam q0_0 q1_0 q2_0 q3_0).map fun r => (.tup [.ow 1 (rowE (eI .i64) r.1), .ow 1 (rowE (eI .i64) r.2)], [.gone, .gone, .gone, .gone]) := by
  rw [lev_st (vc := c45) (nt := 75) (rs := [(8, none), (9, none)]) ((tab_ext _ _ rfl).trans rfl) rfl (Nat.le_of_ble_eq_true rfl)]
  unfold c45
  simp +contextual -implicitDefEqProofs (maxSteps := 99999999) only [spec_l7Seam, subI, go_sem] <;> rfl
def spec_l7Play_u1 (fu : Nat) (a4 a5 a6 : List Int) (a7 : Int) (a8 a9 : List Int) (a10 : Int) : Option ((List Int) × (List Int)) :=
  (cutI a4.length a10 (a4.length : Int)).bind fun w11 =>
  (spec_l1Ints ((((a4.drop w11.1)).take ((w11.2 - w11.1))))).bind fun r12 =>
  (spec_l1Ints a8).bind fun r13 =>
  if (okApp 8 ((r13 ++ a5)).length) = true then some ((r12, (r13 ++ a5)))
  else none
def spec_l7Play (fu : Nat) (p0 : SSynth) (p1 : List Int) : Option (SSynth × (List Int)) :=
  (spec_l6Gather fu p1).bind fun r1 =>
  (upI r1.length ((IntKind.i64.wrap (p0.Size.tdiv (2 : Int))))).bind fun w2 =>
  (spec_l7Seam p0.Size p0.Tail ((r1.take w2)) true).bind fun r3 =>
  (spec_l7Play_u1 fu r1 r3.1 r3.2 p0.Size p0.Head p0.Tail ((IntKind.i64.wrap (p0.Size.tdiv (2 : Int))))).bind fun y14 =>
  some (((SSynth.mk p0.Size r3.2 y14.1), y14.2))
@[go_sem] theorem spec_l7Play_u1_ok {β : Type} (fu n : Nat) (K : List (Kont β)) (a4 a5 a6 : List Int) (a7 : Int) (a8 a9 : List Int) (a10 : Int) (R0 : List D) : run ⟨(tab fu).own, lev (tab fu) (n + 5), (tab fu).gl⟩ K c17_u1 ⟨[(0, .val (.ptr (.int .i64 a7 :: .sh .lent 1 (rowE (eI .i64) a8) :: .sh .lent 1 (rowE (eI .i64) a9) :: R0))), (4, .pt 200000040 0), (6, .val (.int .i64 a10)), (7, .sl 200000070 0 a4.length), (8, .sl 200000080 0 a5.length), (9, .sl 200000090 0 a6.length)], [(200000040, .var false [.val (.int .i64 0), .emp 1, .emp 1]), (200000070, .row false 1 (rowE (eI .i64) a4)), (200000080, .row false 1 (rowE (eI .i64) a5)), (200000090, .row false 1 (rowE (eI .i64) a6))], 49⟩ = (spec_l7Play_u1 fu a4 a5 a6 a7 a8 a9 a10).bind (fun t => plug ⟨(tab fu).own, lev (tab fu) (n + 5), (tab fu).gl⟩ K .normal ⟨[(4, .pt 200000040 0), (5, .sl 200000050 0 t.2.length)], [(200000040, .var false [.val (.int .i64 a7), .sl 200000041 0 a6.length, .sl 200000042 0 t.1.length]), (200000041, .row false 1 (rowE (eI .i64) a6)), (200000042, .row false 1 (rowE (eI .i64) t.1)), (200000050, .row false 1 (rowE (eI .i64) t.2))], 49⟩) := by
  unfold c17_u1
  rw [run_alts]
  · simp +contextual -implicitDefEqProofs (maxSteps := 99999999) only [spec_l7Play_u1, subI, go_sem] <;> (repeat first | rfl | refine bind_ext fun _ _ => ?_ | refine bind_swap fun _ _ _ _ => ?_)
  · refine ⟨?_, ?_, ?_, ?_, ?_, ?_, ?_, ?_, trivial⟩
    · simp +contextual -implicitDefEqProofs (maxSteps := 99999999) only [spec_l7Play_u1, subI, go_sem] <;> (repeat first | rfl | refine bind_ext fun _ _ => ?_ | refine bind_swap fun _ _ _ _ => ?_)
    · simp +contextual -implicitDefEqProofs (maxSteps := 99999999) only [spec_l7Play_u1, subI, go_sem] <;> (repeat first | rfl | refine bind_ext fun _ _ => ?_ | refine bind_swap fun _ _ _ _ => ?_)
    · simp +contextual -implicitDefEqProofs (maxSteps := 99999999) only [spec_l7Play_u1, subI, go_sem] <;> (repeat first | rfl | refine bind_ext fun _ _ => ?_ | refine bind_swap fun _ _ _ _ => ?_)
    · simp +contextual -implicitDefEqProofs (maxSteps := 99999999) only [spec_l7Play_u1, subI, go_sem] <;> (repeat first | rfl | refine bind_ext fun _ _ => ?_ | refine bind_swap fun _ _ _ _ => ?_)
    · simp +contextual -implicitDefEqProofs (maxSteps := 99999999) only [spec_l7Play_u1, subI, go_sem] <;> (repeat first | rfl | refine bind_ext fun _ _ => ?_ | refine bind_swap fun _ _ _ _ => ?_)
    · simp +contextual -implicitDefEqProofs (maxSteps := 99999999) only [spec_l7Play_u1, subI, go_sem] <;> (repeat first | rfl | refine bind_ext fun _ _ => ?_ | refine bind_swap fun _ _ _ _ => ?_)
    · simp +contextual -implicitDefEqProofs (maxSteps := 99999999) only [spec_l7Play_u1, subI, go_sem] <;> (repeat first | rfl | refine bind_ext fun _ _ => ?_ | refine bind_swap fun _ _ _ _ => ?_)
    · simp +contextual -implicitDefEqProofs (maxSteps := 99999999) only [spec_l7Play_u1, subI, go_sem] <;> (repeat first | rfl | refine bind_ext fun _ _ => ?_ | refine bind_swap fun _ _ _ _ => ?_)
@[go_sem] theorem spec_l7Play_ok (fu n : Nat) (q0_0 : Int) (q0_1 q0_2 : List Int) (R0 : List D) (q1_0 : List Int) : lev (tab fu) (n + 6) 17 [.ptr (.int .i64 q0_0 :: .sh .lent 1 (rowE (eI .i64) q0_1) :: .sh .lent 1 (rowE (eI .i64) q0_2) :: R0), .sh .lent 1 (rowE (eI .i64) q1_0)] = (spec_l7Play fu (SSynth.mk q0_0 q0_1 q0_2) q1_0).map fun r => (.tup [.agg [.int .i64 r.1.Size, .ow 1 (rowE (eI .i64) r.1.Head), .ow 1 (rowE (eI .i64) r.1.Tail)], .ow 1 (rowE (eI .i64) r.2)], [.gone, .gone]) := by
  rw [lev_st (vc := c17) (nt := 49) (rs := [(4, some (some 3)), (5, none)]) ((tab_ext _ _ rfl).trans rfl) rfl (Nat.le_of_ble_eq_true rfl)]
  unfold c17
  simp +contextual -implicitDefEqProofs (maxSteps := 99999999) only [spec_l7Play, subI, go_sem] <;> rfl
def spec_Clamp16 (p0 : Int) : Int :=
  if (decide (p0 < (-32768))) = true then (-32768)
  else if (decide (p0 > 32767)) = true then 32767
    else p0
@[go_sem] theorem spec_Clamp16_ok (fu n : Nat) (q0_0 : Int) : lev (tab fu) (n + 1) 49 [.int .i64 q0_0] = (some (spec_Clamp16 q0_0)).map fun r => (.int .i64 r, [.gone]) := by
  rw [lev_st (vc := c49) (nt := 10) (rs := [(2, none)]) ((tab_ext _ _ rfl).trans rfl) rfl (Nat.le_of_ble_eq_true rfl)]
  unfold c49
  simp +contextual -implicitDefEqProofs (maxSteps := 99999999) only [spec_Clamp16, subI, go_sem] <;> rfl
def spec_l21Clamped_s1 (a6 : List Int) : ((List Int) × Int) → Option (((List Int) × Int) ⊕ ((List Int))) := fun ⟨a5, a7⟩ =>
  if (decide (a7 < (a6.length : Int))) = true then (getI a6 a7).bind fun x8 =>
    if (okApp 8 ((a5 ++ ([(spec_Clamp16 x8)]))).length) = true then some ((.inl (((a5 ++ ([(spec_Clamp16 x8)])), (IntKind.i64.wrap (a7 + 1))))))
    else none
  else some ((.inr a5))
def spec_l21Clamped (p0 : List Int) : Option ((List Int)) :=
  (loopO (spec_l21Clamped_s1 p0) (([], 0))).bind fun y9 =>
  some y9
@[go_sem] theorem spec_l21Clamped_s1_ok {β : Type} (fu n : Nat) (K : List (Kont β)) (a5 a6 : List Int) (a7 : Int) : run ⟨(tab fu).own, lev (tab fu) (n + 1), (tab fu).gl⟩ K (.loop c19_u1) ⟨[(0, .val (.sh .lent 1 (rowE (eI .i64) a6))), (3, .sl 200000030 0 a5.length), (4, .val (.int .i64 a7))], [(200000030, .row false 1 (rowE (eI .i64) a5))], 21⟩ = (loopO (spec_l21Clamped_s1 a6) ((a5, a7))).bind (fun t => plug ⟨(tab fu).own, lev (tab fu) (n + 1), (tab fu).gl⟩ K (.exit 0) ⟨[(3, .sl 200000030 0 t.length)], [(200000030, .row false 1 (rowE (eI .i64) t))], 21⟩) := by
  refine loop_run (C := ⟨(tab fu).own, lev (tab fu) (n + 1), (tab fu).gl⟩) (K := K) (c := c19_u1) (spec_l21Clamped_s1 a6) (fun s => ⟨[(0, .val (.sh .lent 1 (rowE (eI .i64) a6))), (3, .sl 200000030 0 s.1.length), (4, .val (.int .i64 s.2))], [(200000030, .row false 1 (rowE (eI .i64) s.1))], 21⟩) (fun t => plug ⟨(tab fu).own, lev (tab fu) (n + 1), (tab fu).gl⟩ K (.exit 0) ⟨[(3, .sl 200000030 0 t.length)], [(200000030, .row false 1 (rowE (eI .i64) t))], 21⟩) (fun k s => ?_) ((a5, a7))
  obtain ⟨a5, a7⟩ := s
  unfold c19_u1
  simp +contextual -implicitDefEqProofs (maxSteps := 99999999) only [spec_l21Clamped_s1, subI, go_sem] <;> rfl
@[go_sem] theorem spec_l21Clamped_s1_ok_e {β : Type} (fu n : Nat) (K : List (Kont β)) (a6 : List Int) (a7 : Int) : run ⟨(tab fu).own, lev (tab fu) (n + 1), (tab fu).gl⟩ K (.loop c19_u1) ⟨[(0, .val (.sh .lent 1 (rowE (eI .i64) a6))), (3, .sl 200000030 0 0), (4, .val (.int .i64 a7))], [(200000030, .row false 1 [])], 21⟩ = (loopO (spec_l21Clamped_s1 a6) (([], a7))).bind (fun t => plug ⟨(tab fu).own, lev (tab fu) (n + 1), (tab fu).gl⟩ K (.exit 0) ⟨[(3, .sl 200000030 0 t.length)], [(200000030, .row false 1 (rowE (eI .i64) t))], 21⟩) := spec_l21Clamped_s1_ok fu n K [] a6 a7
@[go_sem] theorem spec_l21Clamped_ok (fu n : Nat) (q0_0 : List Int) : lev (tab fu) (n + 2) 19 [.sh .lent 1 (rowE (eI .i64) q0_0)] = (spec_l21Clamped q0_0).map fun r => (.ow 1 (rowE (eI .i64) r), [.gone]) := by
  rw [lev_st (vc := c19) (nt := 21) (rs := [(2, none)]) ((tab_ext _ _ rfl).trans rfl) rfl (Nat.le_of_ble_eq_true rfl)]
  unfold c19
  simp +contextual -implicitDefEqProofs (maxSteps := 99999999) only [spec_l21Clamped, subI, go_sem] <;> rfl
def spec_ReferenceOf_s1 (fu : Nat) (a8 : Int) (a9 : List SFrame) : Int → Option ((Int) ⊕ (Unit ⊕ Int)) := fun a10 =>
  if (decide (a10 < (a9.length : Int))) = true then (getI a9 a10).bind fun x11 =>
    (spec_FrameFault x11).bind fun r12 =>
    if (r12 != 0) = true then some ((.inr ((.inr r12))))
    else (getI a9 a10).bind fun x13 =>
      if (x13.Size != a8) = true then some ((.inr ((.inr 1))))
      else some ((.inl ((IntKind.i64.wrap (a10 + 1)))))
  else some ((.inr ((.inl (())))))
def spec_ReferenceOf_s2 (fu : Nat) (a39 : List SFrame) : (Int × (List Int) × (List Int) × (List (List Int)) × Int) → Option ((Int × (List Int) × (List Int) × (List (List Int)) × Int) ⊕ ((List (List Int)))) := fun ⟨a35, a36, a37, a38, a40⟩ =>
  if (decide (a40 < (a39.length : Int))) = true then (getI a39 a40).bind fun x41 =>
    (spec_l14Central fu x41).bind fun r42 =>
    (spec_l7Play fu ((SSynth.mk a35 a36 a37)) r42).bind fun r43 =>
    (spec_l21Clamped r43.2).bind fun r44 =>
    if (okApp 24 ((a38 ++ ([r44]))).length) = true then some ((.inl ((r43.1.Size, r43.1.Head, r43.1.Tail, (a38 ++ ([r44])), (IntKind.i64.wrap (a40 + 1))))))
    else none
  else some ((.inr a38))
def spec_ReferenceOf (fu : Nat) (p0 : Int) (p1 : List SFrame) : Option (SFramesResult) :=
  if (decide ((p1.length : Int) > 40)) = true then some ((SFramesResult.mk 2 ([])))
  else if ((spec_SizeFault p0) != 0) = true then some ((SFramesResult.mk ((spec_SizeFault p0)) ([])))
    else (loopO (spec_ReferenceOf_s1 fu p0 p1) 0).bind fun t => (Sum.elim (fun y14 => (spec_l7NewSynth p0).bind fun r15 =>
        (loopO (spec_ReferenceOf_s2 fu p1) ((r15.Size, r15.Head, r15.Tail, [], 0))).bind fun y45 =>
        some ((SFramesResult.mk 0 y45)))
       (fun y46 => some ((SFramesResult.mk y46 ([]))))) t
@[go_sem] theorem spec_ReferenceOf_s1_ok {β : Type} (fu n : Nat) (K : List (Kont β)) (a8 : Int) (a9 : List SFrame) (a10 : Int) : run ⟨(tab fu).own, lev (tab fu) (n + 6), (tab fu).gl⟩ K (.loop c5_u1) ⟨[(0, .val (.int .i64 a8)), (1, .val (.sh .lent 8 (rowE (SFrame.cells .lent) a9))), (4, .pt 200000040 0), (6, .val (.int .i64 a10))], [(200000040, .var false [.val (.int .i64 0), .emp 1])], 70⟩ = (loopO (spec_ReferenceOf_s1 fu a8 a9) a10).bind (fun t => (Sum.elim (fun t => plug ⟨(tab fu).own, lev (tab fu) (n + 6), (tab fu).gl⟩ K (.exit 0) ⟨[(0, .val (.int .i64 a8)), (1, .val (.sh .lent 8 (rowE (SFrame.cells .lent) a9))), (4, .pt 200000040 0)], [(200000040, .var false [.val (.int .i64 0), .emp 1])], 70⟩) (fun t => plug ⟨(tab fu).own, lev (tab fu) (n + 6), (tab fu).gl⟩ K .ret ⟨[(4, .pt 200000040 0)], [(200000040, .var false [.val (.int .i64 t), .emp 1])], 70⟩)) t) := by
  refine loop_run (C := ⟨(tab fu).own, lev (tab fu) (n + 6), (tab fu).gl⟩) (K := K) (c := c5_u1) (spec_ReferenceOf_s1 fu a8 a9) (fun s => ⟨[(0, .val (.int .i64 a8)), (1, .val (.sh .lent 8 (rowE (SFrame.cells .lent) a9))), (4, .pt 200000040 0), (6, .val (.int .i64 s))], [(200000040, .var false [.val (.int .i64 0), .emp 1])], 70⟩) (fun t => (Sum.elim (fun t => plug ⟨(tab fu).own, lev (tab fu) (n + 6), (tab fu).gl⟩ K (.exit 0) ⟨[(0, .val (.int .i64 a8)), (1, .val (.sh .lent 8 (rowE (SFrame.cells .lent) a9))), (4, .pt 200000040 0)], [(200000040, .var false [.val (.int .i64 0), .emp 1])], 70⟩) (fun t => plug ⟨(tab fu).own, lev (tab fu) (n + 6), (tab fu).gl⟩ K .ret ⟨[(4, .pt 200000040 0)], [(200000040, .var false [.val (.int .i64 t), .emp 1])], 70⟩)) t) (fun k s => ?_) a10
  unfold c5_u1
  simp +contextual -implicitDefEqProofs (maxSteps := 99999999) only [spec_ReferenceOf_s1, subI, go_sem] <;> rfl
@[go_sem] theorem spec_ReferenceOf_s2_ok {β : Type} (fu n : Nat) (K : List (Kont β)) (a35 : Int) (a36 a37 : List Int) (a38 : List (List Int)) (a39 : List SFrame) (a40 : Int) : run ⟨(tab fu).own, lev (tab fu) (n + 6), (tab fu).gl⟩ K (.loop c5_u2) ⟨[(1, .val (.sh .lent 8 (rowE (SFrame.cells .lent) a39))), (4, .pt 200000040 0), (8, .pt 200000080 0), (9, .sl 200000090 0 a38.length), (10, .val (.int .i64 a40))], [(200000040, .var false [.val (.int .i64 0), .emp 1]), (200000080, .var false [.val (.int .i64 a35), .sl 200000081 0 a36.length, .sl 200000082 0 a37.length]), (200000081, .row false 1 (rowE (eI .i64) a36)), (200000082, .row false 1 (rowE (eI .i64) a37)), (200000090, .row false 1 (rowE (eL .own 1 (eI .i64)) a38))], 70⟩ = (loopO (spec_ReferenceOf_s2 fu a39) ((a35, a36, a37, a38, a40))).bind (fun t => plug ⟨(tab fu).own, lev (tab fu) (n + 6), (tab fu).gl⟩ K (.exit 2) ⟨[(4, .pt 200000040 0), (9, .sl 200000090 0 t.length)], [(200000040, .var false [.val (.int .i64 0), .emp 1]), (200000090, .row false 1 (rowE (eL .own 1 (eI .i64)) t))], 70⟩) := by
  refine loop_run (C := ⟨(tab fu).own, lev (tab fu) (n + 6), (tab fu).gl⟩) (K := K) (c := c5_u2) (spec_ReferenceOf_s2 fu a39) (fun s => ⟨[(1, .val (.sh .lent 8 (rowE (SFrame.cells .lent) a39))), (4, .pt 200000040 0), (8, .pt 200000080 0), (9, .sl 200000090 0 s.2.2.2.1.length), (10, .val (.int .i64 s.2.2.2.2))], [(200000040, .var false [.val (.int .i64 0), .emp 1]), (200000080, .var false [.val (.int .i64 s.1), .sl 200000081 0 s.2.1.length, .sl 200000082 0 s.2.2.1.length]), (200000081, .row false 1 (rowE (eI .i64) s.2.1)), (200000082, .row false 1 (rowE (eI .i64) s.2.2.1)), (200000090, .row false 1 (rowE (eL .own 1 (eI .i64)) s.2.2.2.1))], 70⟩) (fun t => plug ⟨(tab fu).own, lev (tab fu) (n + 6), (tab fu).gl⟩ K (.exit 2) ⟨[(4, .pt 200000040 0), (9, .sl 200000090 0 t.length)], [(200000040, .var false [.val (.int .i64 0), .emp 1]), (200000090, .row false 1 (rowE (eL .own 1 (eI .i64)) t))], 70⟩) (fun k s => ?_) ((a35, a36, a37, a38, a40))
  obtain ⟨a35, a36, a37, a38, a40⟩ := s
  unfold c5_u2
  simp +contextual -implicitDefEqProofs (maxSteps := 99999999) only [spec_ReferenceOf_s2, subI, go_sem] <;> rfl
@[go_sem] theorem spec_ReferenceOf_s2_ok_e {β : Type} (fu n : Nat) (K : List (Kont β)) (a35 : Int) (a36 a37 : List Int) (a39 : List SFrame) (a40 : Int) : run ⟨(tab fu).own, lev (tab fu) (n + 6), (tab fu).gl⟩ K (.loop c5_u2) ⟨[(1, .val (.sh .lent 8 (rowE (SFrame.cells .lent) a39))), (4, .pt 200000040 0), (8, .pt 200000080 0), (9, .sl 200000090 0 0), (10, .val (.int .i64 a40))], [(200000040, .var false [.val (.int .i64 0), .emp 1]), (200000080, .var false [.val (.int .i64 a35), .sl 200000081 0 a36.length, .sl 200000082 0 a37.length]), (200000081, .row false 1 (rowE (eI .i64) a36)), (200000082, .row false 1 (rowE (eI .i64) a37)), (200000090, .row false 1 [])], 70⟩ = (loopO (spec_ReferenceOf_s2 fu a39) ((a35, a36, a37, [], a40))).bind (fun t => plug ⟨(tab fu).own, lev (tab fu) (n + 6), (tab fu).gl⟩ K (.exit 2) ⟨[(4, .pt 200000040 0), (9, .sl 200000090 0 t.length)], [(200000040, .var false [.val (.int .i64 0), .emp 1]), (200000090, .row false 1 (rowE (eL .own 1 (eI .i64)) t))], 70⟩) := spec_ReferenceOf_s2_ok fu n K a35 a36 a37 [] a39 a40
@[go_sem] theorem spec_ReferenceOf_ok (fu n : Nat) (q0_0 : Int) (q1_0 : List SFrame) : lev (tab fu) (n + 7) 5 [.int .i64 q0_0, .sh .lent 8 (rowE (SFrame.cells .lent) q1_0)] = (spec_ReferenceOf fu q0_0 q1_0).map fun r => (.agg [.int .i64 r.Code, .ow 1 (rowE (eL .own 1 (eI .i64)) r.Frames)], [.gone, .gone]) := by
  rw [lev_st (vc := c5) (nt := 70) (rs := [(4, some (some 2))]) ((tab_ext _ _ rfl).trans rfl) rfl (Nat.le_of_ble_eq_true rfl)]
  unfold c5
  simp +contextual -implicitDefEqProofs (maxSteps := 99999999) only [spec_ReferenceOf, subI, go_sem] <;> rfl
def impl_codeIf (p0 : Bool) (p1 : Int) : Int :=
  if p0 = true then p1
  else 0
@[go_sem] theorem impl_codeIf_ok (fu n : Nat) (q0_0 : Bool) (q1_0 : Int) : lev (tab fu) (n + 1) 22 [.bool q0_0, .int .i64 q1_0] = (some (impl_codeIf q0_0 q1_0)).map fun r => (.int .i64 r, [.gone, .gone]) := by
  rw [lev_st (vc := c22) (nt := 7) (rs := [(4, none)]) ((tab_ext _ _ rfl).trans rfl) rfl (Nat.le_of_ble_eq_true rfl)]
  unfold c22
  simp +contextual -implicitDefEqProofs (maxSteps := 99999999) only [impl_codeIf, subI, go_sem] <;> rfl
def impl_SizeFault_u1 (a1 : Int) : Bool :=
  if (a1 != 4) = true then if (a1 != 8) = true then (a1 != 16)
    else false
  else false
def impl_SizeFault (p0 : Int) : Int :=
  let y2 := impl_SizeFault_u1 p0
  if y2 = true then 3
  else 0
@[go_sem] theorem impl_SizeFault_u1_ok {β : Type} (fu n : Nat) (K : List (Kont β)) (a1 : Int) : run ⟨(tab fu).own, lev (tab fu) n, (tab fu).gl⟩ K c23_u1 ⟨[(0, .val (.int .i64 a1))], [], 13⟩ = (some (impl_SizeFault_u1 a1)).bind (fun t => plug ⟨(tab fu).own, lev (tab fu) n, (tab fu).gl⟩ K .normal ⟨[(12, .val (.bool t))], [], 13⟩) := by
  unfold c23_u1
  simp +contextual -implicitDefEqProofs (maxSteps := 99999999) only [impl_SizeFault_u1, subI, go_sem] <;> rfl
@[go_sem] theorem impl_SizeFault_ok (fu n : Nat) (q0_0 : Int) : lev (tab fu) (n + 1) 23 [.int .i64 q0_0] = (some (impl_SizeFault q0_0)).map fun r => (.int .i64 r, [.gone]) := by
  rw [lev_st (vc := c23) (nt := 13) (rs := [(2, none)]) ((tab_ext _ _ rfl).trans rfl) rfl (Nat.le_of_ble_eq_true rfl)]
  unfold c23
  simp +contextual -implicitDefEqProofs (maxSteps := 99999999) only [impl_SizeFault, subI, go_sem] <;> rfl
def impl_first_s1 (a5 : List Int) (a6 : Int) : Int → Option ((Int) ⊕ (Unit ⊕ Int)) := fun a7 =>
  if (decide (a7 < a6)) = true then (getI a5 a7).bind fun x8 =>
    if (x8 != 0) = true then some ((.inr ((.inr x8))))
    else some ((.inl ((IntKind.i64.wrap (a7 + 1)))))
  else some ((.inr ((.inl (())))))
def impl_first (p0 : List Int) : Option (Int) :=
  (loopO (impl_first_s1 p0 ((p0.length : Int))) 0).bind fun t => (Sum.elim (fun y9 => some 0)
   (fun y10 => some y10)) t
@[go_sem] theorem impl_first_s1_ok {β : Type} (fu n : Nat) (K : List (Kont β)) (a5 : List Int) (a6 a7 : Int) : run ⟨(tab fu).own, lev (tab fu) n, (tab fu).gl⟩ K (.loop c21_u1) ⟨[(5, .val (.sh .lent 1 (rowE (eI .i64) a5))), (6, .val (.int .i64 a6)), (7, .val (.int .i64 a7))], [], 15⟩ = (loopO (impl_first_s1 a5 a6) a7).bind (fun t => (Sum.elim (fun t => plug ⟨(tab fu).own, lev (tab fu) n, (tab fu).gl⟩ K (.exit 0) ⟨[], [], 15⟩) (fun t => plug ⟨(tab fu).own, lev (tab fu) n, (tab fu).gl⟩ K .ret ⟨[(2, .val (.int .i64 t))], [], 15⟩)) t) := by
  refine loop_run (C := ⟨(tab fu).own, lev (tab fu) n, (tab fu).gl⟩) (K := K) (c := c21_u1) (impl_first_s1 a5 a6) (fun s => ⟨[(5, .val (.sh .lent 1 (rowE (eI .i64) a5))), (6, .val (.int .i64 a6)), (7, .val (.int .i64 s))], [], 15⟩) (fun t => (Sum.elim (fun t => plug ⟨(tab fu).own, lev (tab fu) n, (tab fu).gl⟩ K (.exit 0) ⟨[], [], 15⟩) (fun t => plug ⟨(tab fu).own, lev (tab fu) n, (tab fu).gl⟩ K .ret ⟨[(2, .val (.int .i64 t))], [], 15⟩)) t) (fun k s => ?_) a7
  unfold c21_u1
  simp +contextual -implicitDefEqProofs (maxSteps := 99999999) only [impl_first_s1, subI, go_sem] <;> rfl
@[go_sem] theorem impl_first_ok (fu n : Nat) (q0_0 : List Int) : lev (tab fu) (n + 1) 21 [.sh .lent 1 (rowE (eI .i64) q0_0)] = (impl_first q0_0).map fun r => (.int .i64 r, [.gone]) := by
  rw [lev_st (vc := c21) (nt := 15) (rs := [(2, none)]) ((tab_ext _ _ rfl).trans rfl) rfl (Nat.le_of_ble_eq_true rfl)]
  unfold c21
  simp +contextual -implicitDefEqProofs (maxSteps := 99999999) only [impl_first, subI, go_sem] <;> rfl
def impl_inRange_u1 (a1 a2 a3 : Int) : Bool :=
  if (decide (a2 ≤ a1)) = true then (decide (a1 ≤ a3))
  else false
def impl_inRange (p0 p1 p2 : Int) : Bool :=
  let y4 := impl_inRange_u1 p0 p1 p2
  y4
@[go_sem] theorem impl_inRange_u1_ok {β : Type} (fu n : Nat) (K : List (Kont β)) (a1 a2 a3 : Int) : run ⟨(tab fu).own, lev (tab fu) n, (tab fu).gl⟩ K c98_u1 ⟨[(0, .val (.int .i64 a1)), (1, .val (.int .i64 a2)), (2, .val (.int .i64 a3))], [], 15⟩ = (some (impl_inRange_u1 a1 a2 a3)).bind (fun t => plug ⟨(tab fu).own, lev (tab fu) n, (tab fu).gl⟩ K .normal ⟨[(6, .val (.bool t))], [], 15⟩) := by
  unfold c98_u1
  simp +contextual -implicitDefEqProofs (maxSteps := 99999999) only [impl_inRange_u1, subI, go_sem] <;> rfl
@[go_sem] theorem impl_inRange_ok (fu n : Nat) (q0_0 q1_0 q2_0 : Int) : lev (tab fu) (n + 1) 98 [.int .i64 q0_0, .int .i64 q1_0, .int .i64 q2_0] = (some (impl_inRange q0_0 q1_0 q2_0)).map fun r => (.bool r, [.gone, .gone, .gone]) := by
  rw [lev_st (vc := c98) (nt := 15) (rs := [(6, none)]) ((tab_ext _ _ rfl).trans rfl) rfl (Nat.le_of_ble_eq_true rfl)]
  unfold c98
  simp +contextual -implicitDefEqProofs (maxSteps := 99999999) only [impl_inRange, subI, go_sem] <;> rfl
def impl_isNumber (p0 : Int) : Bool :=
  (impl_inRange p0 0 9999)
@[go_sem] theorem impl_isNumber_ok (fu n : Nat) (q0_0 : Int) : lev (tab fu) (n + 2) 89 [.int .i64 q0_0] = (some (impl_isNumber q0_0)).map fun r => (.bool r, [.gone]) := by
  rw [lev_st (vc := c89) (nt := 5) (rs := [(2, none)]) ((tab_ext _ _ rfl).trans rfl) rfl (Nat.le_of_ble_eq_true rfl)]
  unfold c89
  simp +contextual -implicitDefEqProofs (maxSteps := 99999999) only [impl_isNumber, subI, go_sem] <;> rfl
def impl_isRung (p0 : Int) : Bool :=
  (impl_inRange p0 0 47)
@[go_sem] theorem impl_isRung_ok (fu n : Nat) (q0_0 : Int) : lev (tab fu) (n + 2) 90 [.int .i64 q0_0] = (some (impl_isRung q0_0)).map fun r => (.bool r, [.gone]) := by
  rw [lev_st (vc := c90) (nt := 5) (rs := [(2, none)]) ((tab_ext _ _ rfl).trans rfl) rfl (Nat.le_of_ble_eq_true rfl)]
  unfold c90
  simp +contextual -implicitDefEqProofs (maxSteps := 99999999) only [impl_isRung, subI, go_sem] <;> rfl
def impl_isMask (p0 : Int) : Bool :=
  (impl_inRange p0 0 3)
@[go_sem] theorem impl_isMask_ok (fu n : Nat) (q0_0 : Int) : lev (tab fu) (n + 2) 91 [.int .i64 q0_0] = (some (impl_isMask q0_0)).map fun r => (.bool r, [.gone]) := by
  rw [lev_st (vc := c91) (nt := 5) (rs := [(2, none)]) ((tab_ext _ _ rfl).trans rfl) rfl (Nat.le_of_ble_eq_true rfl)]
  unfold c91
  simp +contextual -implicitDefEqProofs (maxSteps := 99999999) only [impl_isMask, subI, go_sem] <;> rfl
def impl_isSpread (p0 : Int) : Bool :=
  (impl_inRange p0 0 2)
@[go_sem] theorem impl_isSpread_ok (fu n : Nat) (q0_0 : Int) : lev (tab fu) (n + 2) 92 [.int .i64 q0_0] = (some (impl_isSpread q0_0)).map fun r => (.bool r, [.gone]) := by
  rw [lev_st (vc := c92) (nt := 5) (rs := [(2, none)]) ((tab_ext _ _ rfl).trans rfl) rfl (Nat.le_of_ble_eq_true rfl)]
  unfold c92
  simp +contextual -implicitDefEqProofs (maxSteps := 99999999) only [impl_isSpread, subI, go_sem] <;> rfl
def impl_headFault_u1 (a1 a2 : Int) (a3 a4 a5 : Int) : Option (Int) :=
  if (impl_isRung a3) = true then if (impl_isMask a4) = true then (impl_first ([(impl_codeIf ((!(impl_isNumber a1))) 3), (impl_SizeFault a2), (impl_codeIf ((!(impl_isSpread a5))) 3)])).bind fun r6 =>
      some r6
    else (impl_first ([(impl_codeIf ((!(impl_isNumber a1))) 3), (impl_SizeFault a2), (impl_codeIf true 3)])).bind fun r7 =>
      some r7
  else (impl_first ([(impl_codeIf ((!(impl_isNumber a1))) 3), (impl_SizeFault a2), (impl_codeIf true 3)])).bind fun r8 =>
    some r8
def impl_headFault (p0 p1 : Int) (p2 p3 p4 : Int) : Option (Int) :=
  (impl_headFault_u1 p0 p1 p2 p3 p4).bind fun y9 =>
  some y9
@[go_sem] theorem impl_headFault_u1_ok {β : Type} (fu n : Nat) (K : List (Kont β)) (a1 a2 : Int) (a3 a4 a5 : Int) : run ⟨(tab fu).own, lev (tab fu) (n + 2), (tab fu).gl⟩ K c52_u1 ⟨[(0, .val (.int .i64 a1)), (1, .val (.int .i64 a2)), (2, .val (.int .i64 a3)), (3, .val (.int .i64 a4)), (4, .val (.int .i64 a5))], [], 33⟩ = (impl_headFault_u1 a1 a2 a3 a4 a5).bind (fun t => plug ⟨(tab fu).own, lev (tab fu) (n + 2), (tab fu).gl⟩ K .normal ⟨[(10, .val (.int .i64 t))], [], 33⟩) := by
  unfold c52_u1
  simp +contextual -implicitDefEqProofs (maxSteps := 99999999) only [impl_headFault_u1, subI, go_sem] <;> rfl
@[go_sem] theorem impl_headFault_ok (fu n : Nat) (q0_0 q1_0 : Int) (q2_0 q3_0 q4_0 : Int) : lev (tab fu) (n + 3) 52 [.int .i64 q0_0, .int .i64 q1_0, .int .i64 q2_0, .int .i64 q3_0, .int .i64 q4_0] = (impl_headFault q0_0 q1_0 q2_0 q3_0 q4_0).map fun r => (.int .i64 r, [.gone, .gone, .gone, .gone, .gone]) := by
  rw [lev_st (vc := c52) (nt := 33) (rs := [(10, none)]) ((tab_ext _ _ rfl).trans rfl) rfl (Nat.le_of_ble_eq_true rfl)]
  unfold c52
  simp +contextual -implicitDefEqProofs (maxSteps := 99999999) only [impl_headFault, subI, go_sem] <;> rfl
def impl_within (p0 p1 : Int) : Bool :=
  (impl_inRange p0 ((IntKind.i64.wrap (0 - p1))) p1)
@[go_sem] theorem impl_within_ok (fu n : Nat) (q0_0 q1_0 : Int) : lev (tab fu) (n + 2) 94 [.int .i64 q0_0, .int .i64 q1_0] = (some (impl_within q0_0 q1_0)).map fun r => (.bool r, [.gone, .gone]) := by
  rw [lev_st (vc := c94) (nt := 10) (rs := [(4, none)]) ((tab_ext _ _ rfl).trans rfl) rfl (Nat.le_of_ble_eq_true rfl)]
  unfold c94
  simp +contextual -implicitDefEqProofs (maxSteps := 99999999) only [impl_within, subI, go_sem] <;> rfl
def impl_isIndexOf (p0 : Int) : Bool :=
  (impl_within p0 30000)
@[go_sem] theorem impl_isIndexOf_ok (fu n : Nat) (q0_0 : Int) : lev (tab fu) (n + 3) 55 [.int .i64 q0_0] = (some (impl_isIndexOf q0_0)).map fun r => (.bool r, [.gone]) := by
  rw [lev_st (vc := c55) (nt := 5) (rs := [(2, none)]) ((tab_ext _ _ rfl).trans rfl) rfl (Nat.le_of_ble_eq_true rfl)]
  unfold c55
  simp +contextual -implicitDefEqProofs (maxSteps := 99999999) only [impl_isIndexOf, subI, go_sem] <;> rfl
def impl_isCoef (p0 : Int) : Bool :=
  (impl_within p0 16777216)
@[go_sem] theorem impl_isCoef_ok (fu n : Nat) (q0_0 : Int) : lev (tab fu) (n + 3) 95 [.int .i64 q0_0] = (some (impl_isCoef q0_0)).map fun r => (.bool r, [.gone]) := by
  rw [lev_st (vc := c95) (nt := 5) (rs := [(2, none)]) ((tab_ext _ _ rfl).trans rfl) rfl (Nat.le_of_ble_eq_true rfl)]
  unfold c95
  simp +contextual -implicitDefEqProofs (maxSteps := 99999999) only [impl_isCoef, subI, go_sem] <;> rfl
def impl_stepOf (p0 : Int) : Option (Int) :=
  if (p0 == 0) = true then some 1
  else if ((p0.tmod (2 : Int)) == 1) = true then if ((IntKind.i64.wrap (((IntKind.i64.wrap (p0 + 1))).tdiv (2 : Int)))) < 0 then none
      else some ((IntKind.i64.wrap (1 * 2 ^ (min ((IntKind.i64.wrap (((IntKind.i64.wrap (p0 + 1))).tdiv (2 : Int)))).toNat 64))))
    else if ((IntKind.i64.wrap ((IntKind.i64.wrap (p0.tdiv (2 : Int))) - 1))) < 0 then none
      else some ((IntKind.i64.wrap (3 * 2 ^ (min ((IntKind.i64.wrap ((IntKind.i64.wrap (p0.tdiv (2 : Int))) - 1))).toNat 64))))
@[go_sem] theorem impl_stepOf_ok (fu n : Nat) (q0_0 : Int) : lev (tab fu) (n + 1) 69 [.int .i64 q0_0] = (impl_stepOf q0_0).map fun r => (.int .i64 r, [.gone]) := by
  rw [lev_st (vc := c69) (nt := 18) (rs := [(2, none)]) ((tab_ext _ _ rfl).trans rfl) rfl (Nat.le_of_ble_eq_true rfl)]
  unfold c69
  simp +contextual -implicitDefEqProofs (maxSteps := 99999999) only [impl_stepOf, subI, go_sem] <;> rfl
def impl_Restore_u1 (a1 a2 : Int) : Option (Bool) :=
  if (impl_isRung a2) = true then if (impl_isCoef a1) = true then (impl_stepOf a2).bind fun r3 =>
      some ((!(impl_isCoef ((IntKind.i64.wrap (a1 * r3))))))
    else some true
  else some true
def impl_Restore (p0 p1 : Int) : Option (SIntResult) :=
  (impl_Restore_u1 p0 p1).bind fun y4 =>
  if y4 = true then some ((SIntResult.mk 3 0))
  else (impl_stepOf p1).bind fun r5 =>
    some ((SIntResult.mk 0 ((IntKind.i64.wrap (p0 * r5)))))
@[go_sem] theorem impl_Restore_u1_ok {β : Type} (fu n : Nat) (K : List (Kont β)) (a1 a2 : Int) : run ⟨(tab fu).own, lev (tab fu) (n + 3), (tab fu).gl⟩ K c56_u1 ⟨[(0, .val (.int .i64 a1)), (1, .val (.int .i64 a2)), (4, .pt 200000040 0)], [(200000040, .var false [.val (.int .i64 0), .val (.int .i64 0)])], 27⟩ = (impl_Restore_u1 a1 a2).bind (fun t => plug ⟨(tab fu).own, lev (tab fu) (n + 3), (tab fu).gl⟩ K .normal ⟨[(0, .val (.int .i64 a1)), (1, .val (.int .i64 a2)), (4, .pt 200000040 0), (20, .val (.bool t))], [(200000040, .var false [.val (.int .i64 0), .val (.int .i64 0)])], 27⟩) := by
  unfold c56_u1
  simp +contextual -implicitDefEqProofs (maxSteps := 99999999) only [impl_Restore_u1, subI, go_sem] <;> rfl
@[go_sem] theorem impl_Restore_ok (fu n : Nat) (q0_0 q1_0 : Int) : lev (tab fu) (n + 4) 56 [.int .i64 q0_0, .int .i64 q1_0] = (impl_Restore q0_0 q1_0).map fun r => (.agg [.int .i64 r.Code, .int .i64 r.Value], [.gone, .gone]) := by
  rw [lev_st (vc := c56) (nt := 27) (rs := [(4, some (some 2))]) ((tab_ext _ _ rfl).trans rfl) rfl (Nat.le_of_ble_eq_true rfl)]
  unfold c56
  simp +contextual -implicitDefEqProofs (maxSteps := 99999999) only [impl_Restore, subI, go_sem] <;> rfl
def impl_FrameFault_1_u1 (a1 a2 : Int) (a3 a4 : Int) (a5 a6 : Int) (a7 a8 : List Int) (a9 : List (List Int)) : Option (Bool) :=
  if (impl_isIndexOf a1) = true then (impl_Restore a1 a4).bind fun r10 =>
    some ((r10.Code != 0))
  else some true
def impl_FrameFault_1 (p0 p1_0 : Int) (p1_1 p1_2 : Int) (p1_3 p1_4 : Int) (p1_5 p1_6 : List Int) (p1_7 : List (List Int)) : Option (Bool) :=
  (impl_FrameFault_1_u1 p0 p1_0 p1_1 p1_2 p1_3 p1_4 p1_5 p1_6 p1_7).bind fun y11 =>
  some y11
@[go_sem] theorem impl_FrameFault_1_u1_ok {β : Type} (fu n : Nat) (K : List (Kont β)) (a1 a2 : Int) (a3 a4 : Int) (a5 a6 : Int) (a7 a8 : List Int) (a9 : List (List Int)) : run ⟨(tab fu).own, lev (tab fu) (n + 4), (tab fu).gl⟩ K c54_u1 ⟨[(0, .val (.int .i64 a1)), (1, .val (.ptr [.int .i64 a2, .int .i64 a3, .int .i64 a4, .int .i64 a5, .int .i64 a6, .sh .lent 1 (rowE (eI .i64) a7), .sh .lent 1 (rowE (eI .i64) a8), .sh .lent 1 (rowE (eL .lent 1 (eI .i64)) a9)]))], [], 15⟩ = (impl_FrameFault_1_u1 a1 a2 a3 a4 a5 a6 a7 a8 a9).bind (fun t => plug ⟨(tab fu).own, lev (tab fu) (n + 4), (tab fu).gl⟩ K .normal ⟨[(3, .val (.bool t))], [], 15⟩) := by
  unfold c54_u1
  simp +contextual -implicitDefEqProofs (maxSteps := 99999999) only [impl_FrameFault_1_u1, subI, go_sem] <;> rfl
@[go_sem] theorem impl_FrameFault_1_ok (fu n : Nat) (q0_0 p1_0 : Int) (p1_1 p1_2 : Int) (p1_3 p1_4 : Int) (p1_5 p1_6 : List Int) (p1_7 : List (List Int)) : lev (tab fu) (n + 5) 54 [.int .i64 q0_0, .ptr [.int .i64 p1_0, .int .i64 p1_1, .int .i64 p1_2, .int .i64 p1_3, .int .i64 p1_4, .sh .lent 1 (rowE (eI .i64) p1_5), .sh .lent 1 (rowE (eI .i64) p1_6), .sh .lent 1 (rowE (eL .lent 1 (eI .i64)) p1_7)]] = (impl_FrameFault_1 q0_0 p1_0 p1_1 p1_2 p1_3 p1_4 p1_5 p1_6 p1_7).map fun r => (.bool r, [.gone, .gone]) := by
  rw [lev_st (vc := c54) (nt := 15) (rs := [(3, none)]) ((tab_ext _ _ rfl).trans rfl) rfl (Nat.le_of_ble_eq_true rfl)]
  unfold c54
  simp +contextual -implicitDefEqProofs (maxSteps := 99999999) only [impl_FrameFault_1, subI, go_sem] <;> rfl
def slices_IndexFunc_int64_impl_FrameFault_1_s1 (a14 : List Int) (a15 a16 : Int) (a17 a18 a19 : Int) (a20 a21 : List Int) (a22 : List (List Int)) (a23 : Int) : Int → Option ((Int) ⊕ (Unit ⊕ Int)) := fun a24 =>
  if (decide (a24 < a23)) = true then (getI a14 a24).bind fun x25 =>
    (impl_FrameFault_1 x25 a15 a16 a17 a18 a19 a20 a21 a22).bind fun r26 =>
    if r26 = true then some ((.inr ((.inr a24))))
    else some ((.inl ((IntKind.i64.wrap (a24 + 1)))))
  else some ((.inr ((.inl (())))))
def slices_IndexFunc_int64_impl_FrameFault_1 (p0 : List Int) (p1_0_0 p1_0_1 : Int) (p1_0_2 p1_0_3 p1_0_4 : Int) (p1_0_5 p1_0_6 : List Int) (p1_0_7 : List (List Int)) : Option (Int) :=
  (loopO (slices_IndexFunc_int64_impl_FrameFault_1_s1 p0 p1_0_0 p1_0_1 p1_0_2 p1_0_3 p1_0_4 p1_0_5 p1_0_6 p1_0_7 ((p0.length : Int))) 0).bind fun t => (Sum.elim (fun y27 => some ((-1)))
   (fun y28 => some y28)) t
@[go_sem] theorem slices_IndexFunc_int64_impl_FrameFault_1_s1_ok {β : Type} (fu n : Nat) (K : List (Kont β)) (a14 : List Int) (a15 a16 : Int) (a17 a18 a19 : Int) (a20 a21 : List Int) (a22 : List (List Int)) (a23 a24 : Int) : run ⟨(tab fu).own, lev (tab fu) (n + 5), (tab fu).gl⟩ K (.loop c93_u1) ⟨[(0, .val (.sh .lent 1 (rowE (eI .i64) a14))), (1, .val (.fn 54 [.ptr [.int .i64 a15, .int .i64 a16, .int .i64 a17, .int .i64 a18, .int .i64 a19, .sh .lent 1 (rowE (eI .i64) a20), .sh .lent 1 (rowE (eI .i64) a21), .sh .lent 1 (rowE (eL .lent 1 (eI .i64)) a22)]])), (7, .val (.int .i64 a23)), (8, .val (.int .i64 a24))], [], 19⟩ = (loopO (slices_IndexFunc_int64_impl_FrameFault_1_s1 a14 a15 a16 a17 a18 a19 a20 a21 a22 a23) a24).bind (fun t => (Sum.elim (fun t => plug ⟨(tab fu).own, lev (tab fu) (n + 5), (tab fu).gl⟩ K (.exit 0) ⟨[], [], 19⟩) (fun t => plug ⟨(tab fu).own, lev (tab fu) (n + 5), (tab fu).gl⟩ K .ret ⟨[(4, .val (.int .i64 t))], [], 19⟩)) t) := by
  refine loop_run (C := ⟨(tab fu).own, lev (tab fu) (n + 5), (tab fu).gl⟩) (K := K) (c := c93_u1) (slices_IndexFunc_int64_impl_FrameFault_1_s1 a14 a15 a16 a17 a18 a19 a20 a21 a22 a23) (fun s => ⟨[(0, .val (.sh .lent 1 (rowE (eI .i64) a14))), (1, .val (.fn 54 [.ptr [.int .i64 a15, .int .i64 a16, .int .i64 a17, .int .i64 a18, .int .i64 a19, .sh .lent 1 (rowE (eI .i64) a20), .sh .lent 1 (rowE (eI .i64) a21), .sh .lent 1 (rowE (eL .lent 1 (eI .i64)) a22)]])), (7, .val (.int .i64 a23)), (8, .val (.int .i64 s))], [], 19⟩) (fun t => (Sum.elim (fun t => plug ⟨(tab fu).own, lev (tab fu) (n + 5), (tab fu).gl⟩ K (.exit 0) ⟨[], [], 19⟩) (fun t => plug ⟨(tab fu).own, lev (tab fu) (n + 5), (tab fu).gl⟩ K .ret ⟨[(4, .val (.int .i64 t))], [], 19⟩)) t) (fun k s => ?_) a24
  unfold c93_u1
  simp +contextual -implicitDefEqProofs (maxSteps := 99999999) only [slices_IndexFunc_int64_impl_FrameFault_1_s1, subI, go_sem] <;> rfl
@[go_sem] theorem slices_IndexFunc_int64_impl_FrameFault_1_ok (fu n : Nat) (q0_0 : List Int) (p1_0_0 p1_0_1 : Int) (p1_0_2 p1_0_3 p1_0_4 : Int) (p1_0_5 p1_0_6 : List Int) (p1_0_7 : List (List Int)) : lev (tab fu) (n + 6) 93 [.sh .lent 1 (rowE (eI .i64) q0_0), .fn 54 [.ptr [.int .i64 p1_0_0, .int .i64 p1_0_1, .int .i64 p1_0_2, .int .i64 p1_0_3, .int .i64 p1_0_4, .sh .lent 1 (rowE (eI .i64) p1_0_5), .sh .lent 1 (rowE (eI .i64) p1_0_6), .sh .lent 1 (rowE (eL .lent 1 (eI .i64)) p1_0_7)]]] = (slices_IndexFunc_int64_impl_FrameFault_1 q0_0 p1_0_0 p1_0_1 p1_0_2 p1_0_3 p1_0_4 p1_0_5 p1_0_6 p1_0_7).map fun r => (.int .i64 r, [.gone, .gone]) := by
  rw [lev_st (vc := c93) (nt := 19) (rs := [(4, none)]) ((tab_ext _ _ rfl).trans rfl) rfl (Nat.le_of_ble_eq_true rfl)]
  unfold c93
  simp +contextual -implicitDefEqProofs (maxSteps := 99999999) only [slices_IndexFunc_int64_impl_FrameFault_1, subI, go_sem] <;> rfl
def slices_ContainsFunc_int64_impl_FrameFault_1 (p0 : List Int) (p1_0_0 p1_0_1 : Int) (p1_0_2 p1_0_3 p1_0_4 : Int) (p1_0_5 p1_0_6 : List Int) (p1_0_7 : List (List Int)) : Option (Bool) :=
  (slices_IndexFunc_int64_impl_FrameFault_1 p0 p1_0_0 p1_0_1 p1_0_2 p1_0_3 p1_0_4 p1_0_5 p1_0_6 p1_0_7).bind fun r1 =>
  some ((decide (r1 ≥ 0)))
@[go_sem] theorem slices_ContainsFunc_int64_impl_FrameFault_1_ok (fu n : Nat) (q0_0 : List Int) (p1_0_0 p1_0_1 : Int) (p1_0_2 p1_0_3 p1_0_4 : Int) (p1_0_5 p1_0_6 : List Int) (p1_0_7 : List (List Int)) : lev (tab fu) (n + 7) 53 [.sh .lent 1 (rowE (eI .i64) q0_0), .fn 54 [.ptr [.int .i64 p1_0_0, .int .i64 p1_0_1, .int .i64 p1_0_2, .int .i64 p1_0_3, .int .i64 p1_0_4, .sh .lent 1 (rowE (eI .i64) p1_0_5), .sh .lent 1 (rowE (eI .i64) p1_0_6), .sh .lent 1 (rowE (eL .lent 1 (eI .i64)) p1_0_7)]]] = (slices_ContainsFunc_int64_impl_FrameFault_1 q0_0 p1_0_0 p1_0_1 p1_0_2 p1_0_3 p1_0_4 p1_0_5 p1_0_6 p1_0_7).map fun r => (.bool r, [.gone, .gone]) := by
  rw [lev_st (vc := c53) (nt := 9) (rs := [(4, none)]) ((tab_ext _ _ rfl).trans rfl) rfl (Nat.le_of_ble_eq_true rfl)]
  unfold c53
  simp +contextual -implicitDefEqProofs (maxSteps := 99999999) only [slices_ContainsFunc_int64_impl_FrameFault_1, subI, go_sem] <;> rfl
def impl_bandsOf (p0 : Int) : (List SBand) :=
  if (p0 == 4) = true then [(SBand.mk 2 2)]
  else if (p0 == 8) = true then [(SBand.mk 4 2), (SBand.mk 6 2)]
    else [(SBand.mk 8 4), (SBand.mk 12 4)]
@[go_sem] theorem impl_bandsOf_ok (fu n : Nat) (q0_0 : Int) : lev (tab fu) (n + 1) 59 [.int .i64 q0_0] = (some (impl_bandsOf q0_0)).map fun r => (.ow 2 (rowE (SBand.cells .lent) r), [.gone]) := by
  rw [lev_st (vc := c59) (nt := 16) (rs := [(2, none)]) ((tab_ext _ _ rfl).trans rfl) rfl (Nat.le_of_ble_eq_true rfl)]
  unfold c59
  simp +contextual -implicitDefEqProofs (maxSteps := 99999999) only [impl_bandsOf, subI, go_sem] <;> rfl
def impl_halfOf (p0 : List Int) (p1 : Int) : Bool :=
  ((p0.length : Int) == (IntKind.i64.wrap (p1.tdiv (2 : Int))))
@[go_sem] theorem impl_halfOf_ok (fu n : Nat) (q0_0 : List Int) (q1_0 : Int) : lev (tab fu) (n + 1) 96 [.sh .lent 1 (rowE (eI .i64) q0_0), .int .i64 q1_0] = (some (impl_halfOf q0_0 q1_0)).map fun r => (.bool r, [.gone, .gone]) := by
  rw [lev_st (vc := c96) (nt := 10) (rs := [(4, none)]) ((tab_ext _ _ rfl).trans rfl) rfl (Nat.le_of_ble_eq_true rfl)]
  unfold c96
  simp +contextual -implicitDefEqProofs (maxSteps := 99999999) only [impl_halfOf, subI, go_sem] <;> rfl
def impl_countFault_u1 (a1 : Int) (a2 a3 : List Int) (a4 : List (List Int)) (a5 : Int) : Int :=
  if (impl_halfOf a2 a1) = true then if ((a3.length : Int) != a5) = true then (impl_codeIf true 2)
    else (impl_codeIf (((a4.length : Int) != a5)) 2)
  else (impl_codeIf true 2)
def impl_countFault (p0 : Int) (p1 p2 : List Int) (p3 : List (List Int)) : Int :=
  let y6 := impl_countFault_u1 p0 p1 p2 p3 ((((impl_bandsOf p0)).length : Int))
  y6
@[go_sem] theorem impl_countFault_u1_ok {β : Type} (fu n : Nat) (K : List (Kont β)) (a1 : Int) (a2 a3 : List Int) (a4 : List (List Int)) (a5 : Int) : run ⟨(tab fu).own, lev (tab fu) (n + 1), (tab fu).gl⟩ K c57_u1 ⟨[(0, .val (.int .i64 a1)), (1, .val (.sh .lent 1 (rowE (eI .i64) a2))), (2, .val (.sh .lent 1 (rowE (eI .i64) a3))), (3, .val (.sh .lent 1 (rowE (eL .lent 1 (eI .i64)) a4))), (9, .val (.int .i64 a5))], [], 30⟩ = (some (impl_countFault_u1 a1 a2 a3 a4 a5)).bind (fun t => plug ⟨(tab fu).own, lev (tab fu) (n + 1), (tab fu).gl⟩ K .normal ⟨[(8, .val (.int .i64 t))], [], 30⟩) := by
  unfold c57_u1
  simp +contextual -implicitDefEqProofs (maxSteps := 99999999) only [impl_countFault_u1, subI, go_sem] <;> rfl
@[go_sem] theorem impl_countFault_ok (fu n : Nat) (q0_0 : Int) (q1_0 q2_0 : List Int) (q3_0 : List (List Int)) : lev (tab fu) (n + 2) 57 [.int .i64 q0_0, .sh .lent 1 (rowE (eI .i64) q1_0), .sh .lent 1 (rowE (eI .i64) q2_0), .sh .lent 1 (rowE (eL .lent 1 (eI .i64)) q3_0)] = (some (impl_countFault q0_0 q1_0 q2_0 q3_0)).map fun r => (.int .i64 r, [.gone, .gone, .gone, .gone]) := by
  rw [lev_st (vc := c57) (nt := 30) (rs := [(8, none)]) ((tab_ext _ _ rfl).trans rfl) rfl (Nat.le_of_ble_eq_true rfl)]
  unfold c57
  simp +contextual -implicitDefEqProofs (maxSteps := 99999999) only [impl_countFault, subI, go_sem] <;> rfl
def impl_gainRung (p0 p1 : Int) : Int :=
  (mnI ((IntKind.i64.wrap (p0 + (IntKind.i64.wrap (2 * p1))))) 47)
@[go_sem] theorem impl_gainRung_ok (fu n : Nat) (q0_0 q1_0 : Int) : lev (tab fu) (n + 1) 99 [.int .i64 q0_0, .int .i64 q1_0] = (some (impl_gainRung q0_0 q1_0)).map fun r => (.int .i64 r, [.gone, .gone]) := by
  rw [lev_st (vc := c99) (nt := 10) (rs := [(4, none)]) ((tab_ext _ _ rfl).trans rfl) rfl (Nat.le_of_ble_eq_true rfl)]
  unfold c99
  simp +contextual -implicitDefEqProofs (maxSteps := 99999999) only [impl_gainRung, subI, go_sem] <;> rfl
def impl_gainsFault_1_u1 (a1 a2 a3 : Int) : Option (Bool) :=
  if (impl_inRange a1 0 65535) = true then (impl_Restore a1 ((impl_gainRung a2 a3))).bind fun r4 =>
    some ((r4.Code != 0))
  else some true
def impl_gainsFault_1 (p0 p1_0 p2_0 : Int) : Option (Bool) :=
  (impl_gainsFault_1_u1 p0 p1_0 p2_0).bind fun y5 =>
  some y5
@[go_sem] theorem impl_gainsFault_1_u1_ok {β : Type} (fu n : Nat) (K : List (Kont β)) (a1 a2 a3 : Int) : run ⟨(tab fu).own, lev (tab fu) (n + 4), (tab fu).gl⟩ K c97_u1 ⟨[(0, .val (.int .i64 a1)), (1, .val (.ptr [.int .i64 a2])), (2, .val (.ptr [.int .i64 a3]))], [], 17⟩ = (impl_gainsFault_1_u1 a1 a2 a3).bind (fun t => plug ⟨(tab fu).own, lev (tab fu) (n + 4), (tab fu).gl⟩ K .normal ⟨[(4, .val (.bool t))], [], 17⟩) := by
  unfold c97_u1
  simp +contextual -implicitDefEqProofs (maxSteps := 99999999) only [impl_gainsFault_1_u1, subI, go_sem] <;> rfl
@[go_sem] theorem impl_gainsFault_1_ok (fu n : Nat) (q0_0 p1_0 p2_0 : Int) : lev (tab fu) (n + 5) 97 [.int .i64 q0_0, .ptr [.int .i64 p1_0], .ptr [.int .i64 p2_0]] = (impl_gainsFault_1 q0_0 p1_0 p2_0).map fun r => (.bool r, [.gone, .gone, .gone]) := by
  rw [lev_st (vc := c97) (nt := 17) (rs := [(4, none)]) ((tab_ext _ _ rfl).trans rfl) rfl (Nat.le_of_ble_eq_true rfl)]
  unfold c97
  simp +contextual -implicitDefEqProofs (maxSteps := 99999999) only [impl_gainsFault_1, subI, go_sem] <;> rfl
def slices_IndexFunc_int64_impl_gainsFault_1_s1 (a8 : List Int) (a9 a10 a11 : Int) : Int → Option ((Int) ⊕ (Unit ⊕ Int)) := fun a12 =>
  if (decide (a12 < a11)) = true then (getI a8 a12).bind fun x13 =>
    (impl_gainsFault_1 x13 a9 a10).bind fun r14 =>
    if r14 = true then some ((.inr ((.inr a12))))
    else some ((.inl ((IntKind.i64.wrap (a12 + 1)))))
  else some ((.inr ((.inl (())))))
def slices_IndexFunc_int64_impl_gainsFault_1 (p0 : List Int) (p1_0_0 p1_1_0 : Int) : Option (Int) :=
  (loopO (slices_IndexFunc_int64_impl_gainsFault_1_s1 p0 p1_0_0 p1_1_0 ((p0.length : Int))) 0).bind fun t => (Sum.elim (fun y15 => some ((-1)))
   (fun y16 => some y16)) t
@[go_sem] theorem slices_IndexFunc_int64_impl_gainsFault_1_s1_ok {β : Type} (fu n : Nat) (K : List (Kont β)) (a8 : List Int) (a9 a10 : Int) (a11 a12 : Int) : run ⟨(tab fu).own, lev (tab fu) (n + 5), (tab fu).gl⟩ K (.loop c93_u1) ⟨[(0, .val (.sh .lent 1 (rowE (eI .i64) a8))), (1, .val (.fn 97 [.ptr [.int .i64 a9], .ptr [.int .i64 a10]])), (7, .val (.int .i64 a11)), (8, .val (.int .i64 a12))], [], 19⟩ = (loopO (slices_IndexFunc_int64_impl_gainsFault_1_s1 a8 a9 a10 a11) a12).bind (fun t => (Sum.elim (fun t => plug ⟨(tab fu).own, lev (tab fu) (n + 5), (tab fu).gl⟩ K (.exit 0) ⟨[], [], 19⟩) (fun t => plug ⟨(tab fu).own, lev (tab fu) (n + 5), (tab fu).gl⟩ K .ret ⟨[(4, .val (.int .i64 t))], [], 19⟩)) t) := by
  refine loop_run (C := ⟨(tab fu).own, lev (tab fu) (n + 5), (tab fu).gl⟩) (K := K) (c := c93_u1) (slices_IndexFunc_int64_impl_gainsFault_1_s1 a8 a9 a10 a11) (fun s => ⟨[(0, .val (.sh .lent 1 (rowE (eI .i64) a8))), (1, .val (.fn 97 [.ptr [.int .i64 a9], .ptr [.int .i64 a10]])), (7, .val (.int .i64 a11)), (8, .val (.int .i64 s))], [], 19⟩) (fun t => (Sum.elim (fun t => plug ⟨(tab fu).own, lev (tab fu) (n + 5), (tab fu).gl⟩ K (.exit 0) ⟨[], [], 19⟩) (fun t => plug ⟨(tab fu).own, lev (tab fu) (n + 5), (tab fu).gl⟩ K .ret ⟨[(4, .val (.int .i64 t))], [], 19⟩)) t) (fun k s => ?_) a12
  unfold c93_u1
  simp +contextual -implicitDefEqProofs (maxSteps := 99999999) only [slices_IndexFunc_int64_impl_gainsFault_1_s1, subI, go_sem] <;> rfl
@[go_sem] theorem slices_IndexFunc_int64_impl_gainsFault_1_ok (fu n : Nat) (q0_0 : List Int) (p1_0_0 p1_1_0 : Int) : lev (tab fu) (n + 6) 93 [.sh .lent 1 (rowE (eI .i64) q0_0), .fn 97 [.ptr [.int .i64 p1_0_0], .ptr [.int .i64 p1_1_0]]] = (slices_IndexFunc_int64_impl_gainsFault_1 q0_0 p1_0_0 p1_1_0).map fun r => (.int .i64 r, [.gone, .gone]) := by
  rw [lev_st (vc := c93) (nt := 19) (rs := [(4, none)]) ((tab_ext _ _ rfl).trans rfl) rfl (Nat.le_of_ble_eq_true rfl)]
  unfold c93
  simp +contextual -implicitDefEqProofs (maxSteps := 99999999) only [slices_IndexFunc_int64_impl_gainsFault_1, subI, go_sem] <;> rfl
def slices_ContainsFunc_int64_impl_gainsFault_1 (p0 : List Int) (p1_0_0 p1_1_0 : Int) : Option (Bool) :=
  (slices_IndexFunc_int64_impl_gainsFault_1 p0 p1_0_0 p1_1_0).bind fun r1 =>
  some ((decide (r1 ≥ 0)))
@[go_sem] theorem slices_ContainsFunc_int64_impl_gainsFault_1_ok (fu n : Nat) (q0_0 : List Int) (p1_0_0 p1_1_0 : Int) : lev (tab fu) (n + 7) 53 [.sh .lent 1 (rowE (eI .i64) q0_0), .fn 97 [.ptr [.int .i64 p1_0_0], .ptr [.int .i64 p1_1_0]]] = (slices_ContainsFunc_int64_impl_gainsFault_1 q0_0 p1_0_0 p1_1_0).map fun r => (.bool r, [.gone, .gone]) := by
  rw [lev_st (vc := c53) (nt := 9) (rs := [(4, none)]) ((tab_ext _ _ rfl).trans rfl) rfl (Nat.le_of_ble_eq_true rfl)]
  unfold c53
  simp +contextual -implicitDefEqProofs (maxSteps := 99999999) only [slices_ContainsFunc_int64_impl_gainsFault_1, subI, go_sem] <;> rfl
def impl_gainsFault (p0 : List Int) (p1 p2 : Int) : Option (Int) :=
  (slices_ContainsFunc_int64_impl_gainsFault_1 p0 p1 p2).bind fun r1 =>
  some ((impl_codeIf r1 3))
@[go_sem] theorem impl_gainsFault_ok (fu n : Nat) (q0_0 : List Int) (q1_0 q2_0 : Int) : lev (tab fu) (n + 8) 58 [.sh .lent 1 (rowE (eI .i64) q0_0), .int .i64 q1_0, .int .i64 q2_0] = (impl_gainsFault q0_0 q1_0 q2_0).map fun r => (.int .i64 r, [.gone, .gone, .gone]) := by
  rw [lev_st (vc := c58) (nt := 13) (rs := [(6, none)]) ((tab_ext _ _ rfl).trans rfl) rfl (Nat.le_of_ble_eq_true rfl)]
  unfold c58
  simp +contextual -implicitDefEqProofs (maxSteps := 99999999) only [impl_gainsFault, subI, go_sem] <;> rfl
def impl_pulsesFor (p0 : Int) : Int :=
  (IntKind.i64.wrap (8 - (IntKind.i64.wrap (2 * p0))))
@[go_sem] theorem impl_pulsesFor_ok (fu n : Nat) (q0_0 : Int) : lev (tab fu) (n + 1) 71 [.int .i64 q0_0] = (some (impl_pulsesFor q0_0)).map fun r => (.int .i64 r, [.gone]) := by
  rw [lev_st (vc := c71) (nt := 6) (rs := [(2, none)]) ((tab_ext _ _ rfl).trans rfl) rfl (Nat.le_of_ble_eq_true rfl)]
  unfold c71
  simp +contextual -implicitDefEqProofs (maxSteps := 99999999) only [impl_pulsesFor, subI, go_sem] <;> rfl
def impl_isDim (p0 : Int) : Bool :=
  (impl_inRange p0 1 4)
@[go_sem] theorem impl_isDim_ok (fu n : Nat) (q0_0 : Int) : lev (tab fu) (n + 2) 115 [.int .i64 q0_0] = (some (impl_isDim q0_0)).map fun r => (.bool r, [.gone]) := by
  rw [lev_st (vc := c115) (nt := 5) (rs := [(2, none)]) ((tab_ext _ _ rfl).trans rfl) rfl (Nat.le_of_ble_eq_true rfl)]
  unfold c115
  simp +contextual -implicitDefEqProofs (maxSteps := 99999999) only [impl_isDim, subI, go_sem] <;> rfl
def impl_isPulses (p0 : Int) : Bool :=
  (impl_inRange p0 0 8)
@[go_sem] theorem impl_isPulses_ok (fu n : Nat) (q0_0 : Int) : lev (tab fu) (n + 2) 116 [.int .i64 q0_0] = (some (impl_isPulses q0_0)).map fun r => (.bool r, [.gone]) := by
  rw [lev_st (vc := c116) (nt := 5) (rs := [(2, none)]) ((tab_ext _ _ rfl).trans rfl) rfl (Nat.le_of_ble_eq_true rfl)]
  unfold c116
  simp +contextual -implicitDefEqProofs (maxSteps := 99999999) only [impl_isPulses, subI, go_sem] <;> rfl
def impl_allWithin_1 (p0 p1_0 : Int) : Bool :=
  (!(impl_within p0 p1_0))
@[go_sem] theorem impl_allWithin_1_ok (fu n : Nat) (q0_0 p1_0 : Int) : lev (tab fu) (n + 3) 118 [.int .i64 q0_0, .ptr [.int .i64 p1_0]] = (some (impl_allWithin_1 q0_0 p1_0)).map fun r => (.bool r, [.gone, .gone]) := by
  rw [lev_st (vc := c118) (nt := 8) (rs := [(3, none)]) ((tab_ext _ _ rfl).trans rfl) rfl (Nat.le_of_ble_eq_true rfl)]
  unfold c118
  simp +contextual -implicitDefEqProofs (maxSteps := 99999999) only [impl_allWithin_1, subI, go_sem] <;> rfl
def slices_IndexFunc_int64_impl_allWithin_1_s1 (a6 : List Int) (a7 a8 : Int) : Int → Option ((Int) ⊕ (Unit ⊕ Int)) := fun a9 =>
  if (decide (a9 < a8)) = true then (getI a6 a9).bind fun x10 =>
    if (impl_allWithin_1 x10 a7) = true then some ((.inr ((.inr a9))))
    else some ((.inl ((IntKind.i64.wrap (a9 + 1)))))
  else some ((.inr ((.inl (())))))
def slices_IndexFunc_int64_impl_allWithin_1 (p0 : List Int) (p1_0_0 : Int) : Option (Int) :=
  (loopO (slices_IndexFunc_int64_impl_allWithin_1_s1 p0 p1_0_0 ((p0.length : Int))) 0).bind fun t => (Sum.elim (fun y11 => some ((-1)))
   (fun y12 => some y12)) t
@[go_sem] theorem slices_IndexFunc_int64_impl_allWithin_1_s1_ok {β : Type} (fu n : Nat) (K : List (Kont β)) (a6 : List Int) (a7 a8 a9 : Int) : run ⟨(tab fu).own, lev (tab fu) (n + 3), (tab fu).gl⟩ K (.loop c93_u1) ⟨[(0, .val (.sh .lent 1 (rowE (eI .i64) a6))), (1, .val (.fn 118 [.ptr [.int .i64 a7]])), (7, .val (.int .i64 a8)), (8, .val (.int .i64 a9))], [], 19⟩ = (loopO (slices_IndexFunc_int64_impl_allWithin_1_s1 a6 a7 a8) a9).bind (fun t => (Sum.elim (fun t => plug ⟨(tab fu).own, lev (tab fu) (n + 3), (tab fu).gl⟩ K (.exit 0) ⟨[], [], 19⟩) (fun t => plug ⟨(tab fu).own, lev (tab fu) (n + 3), (tab fu).gl⟩ K .ret ⟨[(4, .val (.int .i64 t))], [], 19⟩)) t) := by
  refine loop_run (C := ⟨(tab fu).own, lev (tab fu) (n + 3), (tab fu).gl⟩) (K := K) (c := c93_u1) (slices_IndexFunc_int64_impl_allWithin_1_s1 a6 a7 a8) (fun s => ⟨[(0, .val (.sh .lent 1 (rowE (eI .i64) a6))), (1, .val (.fn 118 [.ptr [.int .i64 a7]])), (7, .val (.int .i64 a8)), (8, .val (.int .i64 s))], [], 19⟩) (fun t => (Sum.elim (fun t => plug ⟨(tab fu).own, lev (tab fu) (n + 3), (tab fu).gl⟩ K (.exit 0) ⟨[], [], 19⟩) (fun t => plug ⟨(tab fu).own, lev (tab fu) (n + 3), (tab fu).gl⟩ K .ret ⟨[(4, .val (.int .i64 t))], [], 19⟩)) t) (fun k s => ?_) a9
  unfold c93_u1
  simp +contextual -implicitDefEqProofs (maxSteps := 99999999) only [slices_IndexFunc_int64_impl_allWithin_1_s1, subI, go_sem] <;> rfl
@[go_sem] theorem slices_IndexFunc_int64_impl_allWithin_1_ok (fu n : Nat) (q0_0 : List Int) (p1_0_0 : Int) : lev (tab fu) (n + 4) 93 [.sh .lent 1 (rowE (eI .i64) q0_0), .fn 118 [.ptr [.int .i64 p1_0_0]]] = (slices_IndexFunc_int64_impl_allWithin_1 q0_0 p1_0_0).map fun r => (.int .i64 r, [.gone, .gone]) := by
  rw [lev_st (vc := c93) (nt := 19) (rs := [(4, none)]) ((tab_ext _ _ rfl).trans rfl) rfl (Nat.le_of_ble_eq_true rfl)]
  unfold c93
  simp +contextual -implicitDefEqProofs (maxSteps := 99999999) only [slices_IndexFunc_int64_impl_allWithin_1, subI, go_sem] <;> rfl
def slices_ContainsFunc_int64_impl_allWithin_1 (p0 : List Int) (p1_0_0 : Int) : Option (Bool) :=
  (slices_IndexFunc_int64_impl_allWithin_1 p0 p1_0_0).bind fun r1 =>
  some ((decide (r1 ≥ 0)))
@[go_sem] theorem slices_ContainsFunc_int64_impl_allWithin_1_ok (fu n : Nat) (q0_0 : List Int) (p1_0_0 : Int) : lev (tab fu) (n + 5) 53 [.sh .lent 1 (rowE (eI .i64) q0_0), .fn 118 [.ptr [.int .i64 p1_0_0]]] = (slices_ContainsFunc_int64_impl_allWithin_1 q0_0 p1_0_0).map fun r => (.bool r, [.gone, .gone]) := by
  rw [lev_st (vc := c53) (nt := 9) (rs := [(4, none)]) ((tab_ext _ _ rfl).trans rfl) rfl (Nat.le_of_ble_eq_true rfl)]
  unfold c53
  simp +contextual -implicitDefEqProofs (maxSteps := 99999999) only [slices_ContainsFunc_int64_impl_allWithin_1, subI, go_sem] <;> rfl
def impl_allWithin (p0 : List Int) (p1 : Int) : Option (Bool) :=
  (slices_ContainsFunc_int64_impl_allWithin_1 p0 p1).bind fun r1 =>
  some ((!r1))
@[go_sem] theorem impl_allWithin_ok (fu n : Nat) (q0_0 : List Int) (q1_0 : Int) : lev (tab fu) (n + 6) 101 [.sh .lent 1 (rowE (eI .i64) q0_0), .int .i64 q1_0] = (impl_allWithin q0_0 q1_0).map fun r => (.bool r, [.gone, .gone]) := by
  rw [lev_st (vc := c101) (nt := 9) (rs := [(4, none)]) ((tab_ext _ _ rfl).trans rfl) rfl (Nat.le_of_ble_eq_true rfl)]
  unfold c101
  simp +contextual -implicitDefEqProofs (maxSteps := 99999999) only [impl_allWithin, subI, go_sem] <;> rfl
def impl_abs (p0 : Int) : Int :=
  (mxI p0 ((IntKind.i64.wrap (0 - p0))))
@[go_sem] theorem impl_abs_ok (fu n : Nat) (q0_0 : Int) : lev (tab fu) (n + 1) 122 [.int .i64 q0_0] = (some (impl_abs q0_0)).map fun r => (.int .i64 r, [.gone]) := by
  rw [lev_st (vc := c122) (nt := 7) (rs := [(2, none)]) ((tab_ext _ _ rfl).trans rfl) rfl (Nat.le_of_ble_eq_true rfl)]
  unfold c122
  simp +contextual -implicitDefEqProofs (maxSteps := 99999999) only [impl_abs, subI, go_sem] <;> rfl
def impl_normOf_s1 (a7 : List Int) (a8 : Int) : (Int × Int) → Option ((Int × Int) ⊕ (Int)) := fun ⟨a6, a9⟩ =>
  if (decide (a9 < a8)) = true then (getI a7 a9).bind fun x10 =>
    some ((.inl (((IntKind.i64.wrap (a6 + (impl_abs x10))), (IntKind.i64.wrap (a9 + 1))))))
  else some ((.inr a6))
def impl_normOf (p0 : List Int) : Option (Int) :=
  (loopO (impl_normOf_s1 p0 ((p0.length : Int))) ((0, 0))).bind fun y11 =>
  some y11
@[go_sem] theorem impl_normOf_s1_ok {β : Type} (fu n : Nat) (K : List (Kont β)) (a6 : Int) (a7 : List Int) (a8 a9 : Int) : run ⟨(tab fu).own, lev (tab fu) (n + 1), (tab fu).gl⟩ K (.loop c117_u1) ⟨[(3, .val (.int .i64 a6)), (6, .val (.sh .lent 1 (rowE (eI .i64) a7))), (7, .val (.int .i64 a8)), (8, .val (.int .i64 a9))], [], 18⟩ = (loopO (impl_normOf_s1 a7 a8) ((a6, a9))).bind (fun t => plug ⟨(tab fu).own, lev (tab fu) (n + 1), (tab fu).gl⟩ K (.exit 0) ⟨[(3, .val (.int .i64 t))], [], 18⟩) := by
  refine loop_run (C := ⟨(tab fu).own, lev (tab fu) (n + 1), (tab fu).gl⟩) (K := K) (c := c117_u1) (impl_normOf_s1 a7 a8) (fun s => ⟨[(3, .val (.int .i64 s.1)), (6, .val (.sh .lent 1 (rowE (eI .i64) a7))), (7, .val (.int .i64 a8)), (8, .val (.int .i64 s.2))], [], 18⟩) (fun t => plug ⟨(tab fu).own, lev (tab fu) (n + 1), (tab fu).gl⟩ K (.exit 0) ⟨[(3, .val (.int .i64 t))], [], 18⟩) (fun k s => ?_) ((a6, a9))
  obtain ⟨a6, a9⟩ := s
  unfold c117_u1
  simp +contextual -implicitDefEqProofs (maxSteps := 99999999) only [impl_normOf_s1, subI, go_sem] <;> rfl
@[go_sem] theorem impl_normOf_ok (fu n : Nat) (q0_0 : List Int) : lev (tab fu) (n + 2) 117 [.sh .lent 1 (rowE (eI .i64) q0_0)] = (impl_normOf q0_0).map fun r => (.int .i64 r, [.gone]) := by
  rw [lev_st (vc := c117) (nt := 18) (rs := [(2, none)]) ((tab_ext _ _ rfl).trans rfl) rfl (Nat.le_of_ble_eq_true rfl)]
  unfold c117
  simp +contextual -implicitDefEqProofs (maxSteps := 99999999) only [impl_normOf, subI, go_sem] <;> rfl
def impl_PulsesFault_u1 (a1 : List Int) (a2 : Int) : Option (Int) :=
  (impl_allWithin a1 8).bind fun r3 =>
  if r3 = true then (impl_normOf a1).bind fun r4 =>
    (impl_first ([(impl_codeIf ((!(impl_isDim ((a1.length : Int))))) 2), (impl_codeIf ((!(impl_isPulses a2))) 3), (impl_codeIf ((r4 != a2)) 1)])).bind fun r5 =>
    some r5
  else (impl_first ([(impl_codeIf ((!(impl_isDim ((a1.length : Int))))) 2), (impl_codeIf ((!(impl_isPulses a2))) 3), (impl_codeIf true 1)])).bind fun r6 =>
    some r6
def impl_PulsesFault (p0 : List Int) (p1 : Int) : Option (Int) :=
  (impl_PulsesFault_u1 p0 p1).bind fun y7 =>
  some y7
@[go_sem] theorem impl_PulsesFault_u1_ok {β : Type} (fu n : Nat) (K : List (Kont β)) (a1 : List Int) (a2 : Int) : run ⟨(tab fu).own, lev (tab fu) (n + 6), (tab fu).gl⟩ K c100_u1 ⟨[(0, .val (.sh .lent 1 (rowE (eI .i64) a1))), (1, .val (.int .i64 a2))], [], 26⟩ = (impl_PulsesFault_u1 a1 a2).bind (fun t => plug ⟨(tab fu).own, lev (tab fu) (n + 6), (tab fu).gl⟩ K .normal ⟨[(4, .val (.int .i64 t))], [], 26⟩) := by
  unfold c100_u1
  simp +contextual -implicitDefEqProofs (maxSteps := 99999999) only [impl_PulsesFault_u1, subI, go_sem] <;> rfl
@[go_sem] theorem impl_PulsesFault_ok (fu n : Nat) (q0_0 : List Int) (q1_0 : Int) : lev (tab fu) (n + 7) 100 [.sh .lent 1 (rowE (eI .i64) q0_0), .int .i64 q1_0] = (impl_PulsesFault q0_0 q1_0).map fun r => (.int .i64 r, [.gone, .gone]) := by
  rw [lev_st (vc := c100) (nt := 26) (rs := [(4, none)]) ((tab_ext _ _ rfl).trans rfl) rfl (Nat.le_of_ble_eq_true rfl)]
  unfold c100
  simp +contextual -implicitDefEqProofs (maxSteps := 99999999) only [impl_PulsesFault, subI, go_sem] <;> rfl
def impl_bandFault (p0 : SBand) (p1 : List Int) (p2 : Int) : Option (Int) :=
  (impl_PulsesFault p1 ((impl_pulsesFor p2))).bind fun r1 =>
  (impl_first ([(impl_codeIf (((p1.length : Int) != p0.Dim)) 2), r1])).bind fun r2 =>
  some r2
@[go_sem] theorem impl_bandFault_ok (fu n : Nat) (q0_0 q0_1 : Int) (q1_0 : List Int) (q2_0 : Int) : lev (tab fu) (n + 8) 60 [.agg [.int .i64 q0_0, .int .i64 q0_1], .sh .lent 1 (rowE (eI .i64) q1_0), .int .i64 q2_0] = (impl_bandFault (SBand.mk q0_0 q0_1) q1_0 q2_0).map fun r => (.int .i64 r, [.gone, .gone, .gone]) := by
  rw [lev_st (vc := c60) (nt := 19) (rs := [(6, none)]) ((tab_ext _ _ rfl).trans rfl) rfl (Nat.le_of_ble_eq_true rfl)]
  unfold c60
  simp +contextual -implicitDefEqProofs (maxSteps := 99999999) only [impl_bandFault, subI, go_sem] <;> rfl
def impl_FrameFault_s1 (a19 a20 : Int) (a21 a22 a23 : Int) (a24 a25 : List Int) (a26 : List (List Int)) (a27 : List SBand) (a28 : Int) : Int → Option ((Int) ⊕ (Unit ⊕ Int)) := fun a29 =>
  if (decide (a29 < a28)) = true then (getI a27 a29).bind fun _ =>
    (a27[a29.toNat]?).bind fun x30 =>
    (getI a26 a29).bind fun x31 =>
    (impl_bandFault x30 x31 a22).bind fun r32 =>
    if (r32 != 0) = true then some ((.inr ((.inr r32))))
    else some ((.inl ((IntKind.i64.wrap (a29 + 1)))))
  else some ((.inr ((.inl (())))))
def impl_FrameFault (p0 : SFrame) : Option (Int) :=
  (impl_headFault p0.Number p0.Size p0.Rung p0.Mask p0.Spread).bind fun r1 =>
  if (r1 != 0) = true then some r1
  else (slices_ContainsFunc_int64_impl_FrameFault_1 p0.Lows p0.Number p0.Size p0.Rung p0.Mask p0.Spread p0.Lows p0.Gains p0.Pulses).bind fun r2 =>
    (impl_gainsFault p0.Gains p0.Rung p0.Mask).bind fun r3 =>
    (impl_first ([(impl_countFault p0.Size p0.Lows p0.Gains p0.Pulses), (impl_codeIf r2 3), r3])).bind fun r4 =>
    if (r4 != 0) = true then some r4
    else (loopO (impl_FrameFault_s1 p0.Number p0.Size p0.Rung p0.Mask p0.Spread p0.Lows p0.Gains p0.Pulses ((impl_bandsOf p0.Size)) ((((impl_bandsOf p0.Size)).length : Int))) 0).bind fun t => (Sum.elim (fun y33 => some 0)
       (fun y34 => some y34)) t
@[go_sem] theorem impl_FrameFault_s1_ok {β : Type} (fu n : Nat) (K : List (Kont β)) (a19 a20 : Int) (a21 a22 a23 : Int) (a24 a25 : List Int) (a26 : List (List Int)) (a27 : List SBand) (a28 a29 : Int) : run ⟨(tab fu).own, lev (tab fu) (n + 8), (tab fu).gl⟩ K (.loop c24_u1) ⟨[(1, .pt 200000010 0), (52, .sl 200000520 0 a27.length), (53, .val (.int .i64 a28)), (54, .val (.int .i64 a29))], [(200000010, .var false [.val (.int .i64 a19), .val (.int .i64 a20), .val (.int .i64 a21), .val (.int .i64 a22), .val (.int .i64 a23), .val (.sh .lent 1 (rowE (eI .i64) a24)), .val (.sh .lent 1 (rowE (eI .i64) a25)), .val (.sh .lent 1 (rowE (eL .lent 1 (eI .i64)) a26))]), (200000520, .row false 2 (rowE (SBand.cells .lent) a27))], 72⟩ = (loopO (impl_FrameFault_s1 a19 a20 a21 a22 a23 a24 a25 a26 a27 a28) a29).bind (fun t => (Sum.elim (fun t => plug ⟨(tab fu).own, lev (tab fu) (n + 8), (tab fu).gl⟩ K (.exit 0) ⟨[], [], 72⟩) (fun t => plug ⟨(tab fu).own, lev (tab fu) (n + 8), (tab fu).gl⟩ K .ret ⟨[(2, .val (.int .i64 t))], [], 72⟩)) t) := by
  refine loop_run (C := ⟨(tab fu).own, lev (tab fu) (n + 8), (tab fu).gl⟩) (K := K) (c := c24_u1) (impl_FrameFault_s1 a19 a20 a21 a22 a23 a24 a25 a26 a27 a28) (fun s => ⟨[(1, .pt 200000010 0), (52, .sl 200000520 0 a27.length), (53, .val (.int .i64 a28)), (54, .val (.int .i64 s))], [(200000010, .var false [.val (.int .i64 a19), .val (.int .i64 a20), .val (.int .i64 a21), .val (.int .i64 a22), .val (.int .i64 a23), .val (.sh .lent 1 (rowE (eI .i64) a24)), .val (.sh .lent 1 (rowE (eI .i64) a25)), .val (.sh .lent 1 (rowE (eL .lent 1 (eI .i64)) a26))]), (200000520, .row false 2 (rowE (SBand.cells .lent) a27))], 72⟩) (fun t => (Sum.elim (fun t => plug ⟨(tab fu).own, lev (tab fu) (n + 8), (tab fu).gl⟩ K (.exit 0) ⟨[], [], 72⟩) (fun t => plug ⟨(tab fu).own, lev (tab fu) (n + 8), (tab fu).gl⟩ K .ret ⟨[(2, .val (.int .i64 t))], [], 72⟩)) t) (fun k s => ?_) a29
  unfold c24_u1
  simp +contextual -implicitDefEqProofs (maxSteps := 99999999) only [impl_FrameFault_s1, subI, go_sem] <;> rfl
@[go_sem] theorem impl_FrameFault_ok (fu n : Nat) (q0_0 q0_1 : Int) (q0_2 q0_3 q0_4 : Int) (q0_5 q0_6 : List Int) (q0_7 : List (List Int)) : lev (tab fu) (n + 9) 24 [.agg [.int .i64 q0_0, .int .i64 q0_1, .int .i64 q0_2, .int .i64 q0_3, .int .i64 q0_4, .sh .lent 1 (rowE (eI .i64) q0_5), .sh .lent 1 (rowE (eI .i64) q0_6), .sh .lent 1 (rowE (eL .lent 1 (eI .i64)) q0_7)]] = (impl_FrameFault (SFrame.mk q0_0 q0_1 q0_2 q0_3 q0_4 q0_5 q0_6 q0_7)).map fun r => (.int .i64 r, [.gone]) := by
  rw [lev_st (vc := c24) (nt := 72) (rs := [(2, none)]) ((tab_ext _ _ rfl).trans rfl) rfl (Nat.le_of_ble_eq_true rfl)]
  unfold c24
  simp +contextual -implicitDefEqProofs (maxSteps := 99999999) only [impl_FrameFault, subI, go_sem] <;> rfl
def impl_NewSynth_u1 (a1 : Int) : Option (Unit) :=
  if (okMake 8 ((IntKind.i64.wrap (a1.tdiv (2 : Int))))) = true then some (())
  else none
def impl_NewSynth (p0 : Int) : Option (SSynthResult) :=
  if ((impl_SizeFault p0) != 0) = true then some ((SSynthResult.mk ((impl_SizeFault p0)) ((SSynth.mk 0 ([]) ([])))))
  else (impl_NewSynth_u1 p0).bind fun y2 =>
    some ((SSynthResult.mk 0 ((SSynth.mk p0 ((List.replicate ((IntKind.i64.wrap (p0.tdiv (2 : Int)))).toNat ((0 : Int)))) ((List.replicate ((IntKind.i64.wrap (p0.tdiv (2 : Int)))).toNat ((0 : Int))))))))
@[go_sem] theorem impl_NewSynth_u1_ok {β : Type} (fu n : Nat) (K : List (Kont β)) (a1 : Int) : run ⟨(tab fu).own, lev (tab fu) (n + 1), (tab fu).gl⟩ K c25_u1 ⟨[(0, .val (.int .i64 a1)), (2, .pt 200000020 0)], [(200000020, .var false [.val (.int .i64 0), .val (.int .i64 0), .emp 1, .emp 1])], 19⟩ = (impl_NewSynth_u1 a1).bind (fun t => plug ⟨(tab fu).own, lev (tab fu) (n + 1), (tab fu).gl⟩ K .normal ⟨[(2, .pt 200000020 0)], [(200000020, .var false [.val (.int .i64 0), .val (.int .i64 a1), .sl 200000021 0 (((List.replicate ((IntKind.i64.wrap (a1.tdiv (2 : Int)))).toNat ((0 : Int)))).length), .sl 200000022 0 (((List.replicate ((IntKind.i64.wrap (a1.tdiv (2 : Int)))).toNat ((0 : Int)))).length)]), (200000021, .row false 1 (rowE (eI .i64) ((List.replicate ((IntKind.i64.wrap (a1.tdiv (2 : Int)))).toNat ((0 : Int)))))), (200000022, .row false 1 (rowE (eI .i64) ((List.replicate ((IntKind.i64.wrap (a1.tdiv (2 : Int)))).toNat ((0 : Int))))))], 19⟩) := by
  unfold c25_u1
  rw [run_alts]
  · simp +contextual -implicitDefEqProofs (maxSteps := 99999999) only [impl_NewSynth_u1, subI, go_sem] <;> (repeat first | rfl | refine bind_ext fun _ _ => ?_ | refine bind_swap fun _ _ _ _ => ?_)
  · refine ⟨?_, trivial⟩
    · simp +contextual -implicitDefEqProofs (maxSteps := 99999999) only [impl_NewSynth_u1, subI, go_sem] <;> (repeat first | rfl | refine bind_ext fun _ _ => ?_ | refine bind_swap fun _ _ _ _ => ?_)
@[go_sem] theorem impl_NewSynth_ok (fu n : Nat) (q0_0 : Int) : lev (tab fu) (n + 2) 25 [.int .i64 q0_0] = (impl_NewSynth q0_0).map fun r => (.agg [.int .i64 r.Code, .int .i64 r.Synth.Size, .ow 1 (rowE (eI .i64) r.Synth.Head), .ow 1 (rowE (eI .i64) r.Synth.Tail)], [.gone]) := by
  rw [lev_st (vc := c25) (nt := 19) (rs := [(2, some (some 4))]) ((tab_ext _ _ rfl).trans rfl) rfl (Nat.le_of_ble_eq_true rfl)]
  unfold c25
  simp +contextual -implicitDefEqProofs (maxSteps := 99999999) only [impl_NewSynth, subI, go_sem] <;> rfl
def impl_gainOf (p0 p1 p2 : Int) : Option (Int) :=
  (impl_stepOf ((impl_gainRung p1 p2))).bind fun r1 =>
  some ((IntKind.i64.wrap (p0 * r1)))
@[go_sem] theorem impl_gainOf_ok (fu n : Nat) (q0_0 q1_0 q2_0 : Int) : lev (tab fu) (n + 2) 72 [.int .i64 q0_0, .int .i64 q1_0, .int .i64 q2_0] = (impl_gainOf q0_0 q1_0 q2_0).map fun r => (.int .i64 r, [.gone, .gone, .gone]) := by
  rw [lev_st (vc := c72) (nt := 13) (rs := [(6, none)]) ((tab_ext _ _ rfl).trans rfl) rfl (Nat.le_of_ble_eq_true rfl)]
  unfold c72
  simp +contextual -implicitDefEqProofs (maxSteps := 99999999) only [impl_gainOf, subI, go_sem] <;> rfl
def impl_roundDiv_b (fu : Nat) (rec_ : Int → Int → Option (Int)) (p0 p1 : Int) : Option (Int) :=
  if (decide (p0 < 0)) = true then (rec_ ((IntKind.i64.wrap (0 - p0))) p1).bind fun r1 =>
    some ((IntKind.i64.wrap (0 - r1)))
  else if (IntKind.i64.wrap (2 * p1)) = 0 then none
    else some ((IntKind.i64.wrap (((IntKind.i64.wrap ((IntKind.i64.wrap (2 * p0)) + p1))).tdiv ((IntKind.i64.wrap (2 * p1))))))
def impl_roundDiv : Nat → Int → Int → Option (Int)
  | 0, _, _ => none
  | fu + 1, p0, p1 => impl_roundDiv_b fu (impl_roundDiv fu) p0 p1
class impl_roundDivRec (fu : Nat) : Prop where
  h : ∀ (n : Nat) (q0_0 : Int) (q1_0 : Int), lev (tab fu) (n + 1) 109 [.int .i64 q0_0, .int .i64 q1_0] = (impl_roundDiv fu q0_0 q1_0).map fun r => (.int .i64 r, [.gone, .gone])
@[go_sem] theorem impl_roundDiv_rec (fu n : Nat) [q : impl_roundDivRec fu] (q0_0 q1_0 : Int) : lev (tab fu) (n + 1) 109 [.int .i64 q0_0, .int .i64 q1_0] = (impl_roundDiv fu q0_0 q1_0).map fun r => (.int .i64 r, [.gone, .gone]) := impl_roundDivRec.h n q0_0 q1_0
theorem impl_roundDiv_st (fu n : Nat) (ds : List D) : lev (tab (fu + 1)) (n + 1) 109 ds = levA (tab fu) (0 + 1) c109 [(4, none)] (idsOf 0 ((tab fu).own 109) ds) ds (argsFr 0 ((tab fu).own 109) ds ⟨[], [], 19⟩) := lev_rec_st (T := tab0) (R := recR) rfl rfl (Nat.le_of_ble_eq_true rfl)
theorem impl_roundDiv_all (fu : Nat) : impl_roundDivRec fu := by
  induction fu with
  | zero => exact ⟨fun n q0_0 q1_0 => lev_rec0 (T := tab0) (R := recR) (N := 0 + 1) rfl⟩
  | succ fu ih =>
    refine ⟨fun n q0_0 q1_0 => ?_⟩
    rw [impl_roundDiv_st]
    unfold impl_roundDiv c109
    simp +contextual -implicitDefEqProofs (maxSteps := 99999999) only [impl_roundDiv_b, subI, go_sem] <;> rfl
instance (fu : Nat) : impl_roundDivRec fu := impl_roundDiv_all fu
theorem impl_roundDiv_ok (fu n : Nat) (q0_0 q1_0 : Int) : lev (tab fu) (n + 1) 109 [.int .i64 q0_0, .int .i64 q1_0] = (impl_roundDiv fu q0_0 q1_0).map fun r => (.int .i64 r, [.gone, .gone]) := impl_roundDiv_rec fu n q0_0 q1_0
def impl_shapeOf_s1 (fu : Nat) (a10 a11 : Int) (a12 : List Int) (a13 : Int) : ((List Int) × Int) → Option (((List Int) × Int) ⊕ ((List Int))) := fun ⟨a9, a14⟩ =>
  if (decide (a14 < a13)) = true then (getI a12 a14).bind fun x15 =>
    (impl_roundDiv fu ((IntKind.i64.wrap (a11 * x15))) a10).bind fun r16 =>
    if (okApp 8 ((a9 ++ ([r16]))).length) = true then some ((.inl (((a9 ++ ([r16])), (IntKind.i64.wrap (a14 + 1))))))
    else none
  else some ((.inr a9))
def impl_shapeOf (fu : Nat) (p0 : List Int) (p1 p2 : Int) : Option ((List Int)) :=
  (loopO (impl_shapeOf_s1 fu p1 p2 p0 ((p0.length : Int))) (([], 0))).bind fun y17 =>
  some y17
@[go_sem] theorem impl_shapeOf_s1_ok {β : Type} (fu n : Nat) (K : List (Kont β)) (a9 : List Int) (a10 a11 : Int) (a12 : List Int) (a13 a14 : Int) : run ⟨(tab fu).own, lev (tab fu) (n + 1), (tab fu).gl⟩ K (.loop c70_u1) ⟨[(1, .val (.int .i64 a10)), (2, .val (.int .i64 a11)), (7, .sl 200000070 0 a9.length), (11, .val (.sh .lent 1 (rowE (eI .i64) a12))), (12, .val (.int .i64 a13)), (13, .val (.int .i64 a14))], [(200000070, .row false 1 (rowE (eI .i64) a9))], 27⟩ = (loopO (impl_shapeOf_s1 fu a10 a11 a12 a13) ((a9, a14))).bind (fun t => plug ⟨(tab fu).own, lev (tab fu) (n + 1), (tab fu).gl⟩ K (.exit 0) ⟨[(7, .sl 200000070 0 t.length)], [(200000070, .row false 1 (rowE (eI .i64) t))], 27⟩) := by
  refine loop_run (C := ⟨(tab fu).own, lev (tab fu) (n + 1), (tab fu).gl⟩) (K := K) (c := c70_u1) (impl_shapeOf_s1 fu a10 a11 a12 a13) (fun s => ⟨[(1, .val (.int .i64 a10)), (2, .val (.int .i64 a11)), (7, .sl 200000070 0 s.1.length), (11, .val (.sh .lent 1 (rowE (eI .i64) a12))), (12, .val (.int .i64 a13)), (13, .val (.int .i64 s.2))], [(200000070, .row false 1 (rowE (eI .i64) s.1))], 27⟩) (fun t => plug ⟨(tab fu).own, lev (tab fu) (n + 1), (tab fu).gl⟩ K (.exit 0) ⟨[(7, .sl 200000070 0 t.length)], [(200000070, .row false 1 (rowE (eI .i64) t))], 27⟩) (fun k s => ?_) ((a9, a14))
  obtain ⟨a9, a14⟩ := s
  unfold c70_u1
  simp +contextual -implicitDefEqProofs (maxSteps := 99999999) only [impl_shapeOf_s1, subI, go_sem] <;> rfl
@[go_sem] theorem impl_shapeOf_s1_ok_e {β : Type} (fu n : Nat) (K : List (Kont β)) (a10 a11 : Int) (a12 : List Int) (a13 a14 : Int) : run ⟨(tab fu).own, lev (tab fu) (n + 1), (tab fu).gl⟩ K (.loop c70_u1) ⟨[(1, .val (.int .i64 a10)), (2, .val (.int .i64 a11)), (7, .sl 200000070 0 0), (11, .val (.sh .lent 1 (rowE (eI .i64) a12))), (12, .val (.int .i64 a13)), (13, .val (.int .i64 a14))], [(200000070, .row false 1 [])], 27⟩ = (loopO (impl_shapeOf_s1 fu a10 a11 a12 a13) (([], a14))).bind (fun t => plug ⟨(tab fu).own, lev (tab fu) (n + 1), (tab fu).gl⟩ K (.exit 0) ⟨[(7, .sl 200000070 0 t.length)], [(200000070, .row false 1 (rowE (eI .i64) t))], 27⟩) := impl_shapeOf_s1_ok fu n K [] a10 a11 a12 a13 a14
@[go_sem] theorem impl_shapeOf_ok (fu n : Nat) (q0_0 : List Int) (q1_0 q2_0 : Int) : lev (tab fu) (n + 2) 70 [.sh .lent 1 (rowE (eI .i64) q0_0), .int .i64 q1_0, .int .i64 q2_0] = (impl_shapeOf fu q0_0 q1_0 q2_0).map fun r => (.ow 1 (rowE (eI .i64) r), [.gone, .gone, .gone]) := by
  rw [lev_st (vc := c70) (nt := 27) (rs := [(6, none)]) ((tab_ext _ _ rfl).trans rfl) rfl (Nat.le_of_ble_eq_true rfl)]
  unfold c70
  simp +contextual -implicitDefEqProofs (maxSteps := 99999999) only [impl_shapeOf, subI, go_sem] <;> rfl
def impl_CentralCoefs_s1 (fu : Nat) (a17 a18 : Int) (a19 a20 a21 : Int) (a22 a23 : List Int) (a24 : List (List Int)) (a26 : Int) : ((List Int) × Int) → Option (((List Int) × Int) ⊕ ((List Int))) := fun ⟨a25, a27⟩ =>
  if (decide (a27 < a26)) = true then (getI a22 a27).bind fun x28 =>
    (impl_stepOf a19).bind fun r29 =>
    if (okApp 8 ((a25 ++ ([(IntKind.i64.wrap (x28 * r29))]))).length) = true then some ((.inl (((a25 ++ ([(IntKind.i64.wrap (x28 * r29))])), (IntKind.i64.wrap (a27 + 1))))))
    else none
  else some ((.inr a25))
def impl_CentralCoefs_s2 (fu : Nat) (a48 a49 : Int) (a50 a51 a52 : Int) (a53 a54 : List Int) (a55 : List (List Int)) (a57 : Int) : ((List Int) × Int) → Option (((List Int) × Int) ⊕ ((List Int))) := fun ⟨a56, a58⟩ =>
  if (decide (a58 < a57)) = true then (getI a54 a58).bind fun x59 =>
    (getI a55 a58).bind fun x60 =>
    (impl_gainOf x59 a50 a51).bind fun r61 =>
    (impl_shapeOf fu x60 ((impl_pulsesFor a51)) r61).bind fun r62 =>
    if (okApp 8 ((a56 ++ r62)).length) = true then some ((.inl (((a56 ++ r62), (IntKind.i64.wrap (a58 + 1))))))
    else none
  else some ((.inr a56))
def impl_CentralCoefs (fu : Nat) (p0 : SFrame) : Option (SIntsResult) :=
  (impl_FrameFault p0).bind fun r1 =>
  if (r1 != 0) = true then some ((SIntsResult.mk r1 ([])))
  else (loopO (impl_CentralCoefs_s1 fu p0.Number p0.Size p0.Rung p0.Mask p0.Spread p0.Lows p0.Gains p0.Pulses ((p0.Lows.length : Int))) (([], 0))).bind fun y30 =>
    (loopO (impl_CentralCoefs_s2 fu p0.Number p0.Size p0.Rung p0.Mask p0.Spread p0.Lows p0.Gains p0.Pulses ((p0.Gains.length : Int))) ((y30, 0))).bind fun y63 =>
    some ((SIntsResult.mk 0 y63))
@[go_sem] theorem impl_CentralCoefs_s1_ok {β : Type} (fu n : Nat) (K : List (Kont β)) (a17 a18 : Int) (a19 a20 a21 : Int) (a22 a23 : List Int) (a24 : List (List Int)) (a25 : List Int) (a26 a27 : Int) : run ⟨(tab fu).own, lev (tab fu) (n + 9), (tab fu).gl⟩ K (.loop c27_u1) ⟨[(1, .pt 200000010 0), (2, .pt 200000020 0), (4, .sl 200000040 0 a25.length), (17, .val (.sh .lent 1 (rowE (eI .i64) a22))), (18, .val (.int .i64 a26)), (19, .val (.int .i64 a27))], [(200000010, .var false [.val (.int .i64 a17), .val (.int .i64 a18), .val (.int .i64 a19), .val (.int .i64 a20), .val (.int .i64 a21), .val (.sh .lent 1 (rowE (eI .i64) a22)), .val (.sh .lent 1 (rowE (eI .i64) a23)), .val (.sh .lent 1 (rowE (eL .lent 1 (eI .i64)) a24))]), (200000020, .var false [.val (.int .i64 0), .emp 1]), (200000040, .row false 1 (rowE (eI .i64) a25))], 60⟩ = (loopO (impl_CentralCoefs_s1 fu a17 a18 a19 a20 a21 a22 a23 a24 a26) ((a25, a27))).bind (fun t => plug ⟨(tab fu).own, lev (tab fu) (n + 9), (tab fu).gl⟩ K (.exit 0) ⟨[(1, .pt 200000010 0), (2, .pt 200000020 0), (4, .sl 200000040 0 t.length)], [(200000010, .var false [.val (.int .i64 a17), .val (.int .i64 a18), .val (.int .i64 a19), .val (.int .i64 a20), .val (.int .i64 a21), .val (.sh .lent 1 (rowE (eI .i64) a22)), .val (.sh .lent 1 (rowE (eI .i64) a23)), .val (.sh .lent 1 (rowE (eL .lent 1 (eI .i64)) a24))]), (200000020, .var false [.val (.int .i64 0), .emp 1]), (200000040, .row false 1 (rowE (eI .i64) t))], 60⟩) := by
  refine loop_run (C := ⟨(tab fu).own, lev (tab fu) (n + 9), (tab fu).gl⟩) (K := K) (c := c27_u1) (impl_CentralCoefs_s1 fu a17 a18 a19 a20 a21 a22 a23 a24 a26) (fun s => ⟨[(1, .pt 200000010 0), (2, .pt 200000020 0), (4, .sl 200000040 0 s.1.length), (17, .val (.sh .lent 1 (rowE (eI .i64) a22))), (18, .val (.int .i64 a26)), (19, .val (.int .i64 s.2))], [(200000010, .var false [.val (.int .i64 a17), .val (.int .i64 a18), .val (.int .i64 a19), .val (.int .i64 a20), .val (.int .i64 a21), .val (.sh .lent 1 (rowE (eI .i64) a22)), .val (.sh .lent 1 (rowE (eI .i64) a23)), .val (.sh .lent 1 (rowE (eL .lent 1 (eI .i64)) a24))]), (200000020, .var false [.val (.int .i64 0), .emp 1]), (200000040, .row false 1 (rowE (eI .i64) s.1))], 60⟩) (fun t => plug ⟨(tab fu).own, lev (tab fu) (n + 9), (tab fu).gl⟩ K (.exit 0) ⟨[(1, .pt 200000010 0), (2, .pt 200000020 0), (4, .sl 200000040 0 t.length)], [(200000010, .var false [.val (.int .i64 a17), .val (.int .i64 a18), .val (.int .i64 a19), .val (.int .i64 a20), .val (.int .i64 a21), .val (.sh .lent 1 (rowE (eI .i64) a22)), .val (.sh .lent 1 (rowE (eI .i64) a23)), .val (.sh .lent 1 (rowE (eL .lent 1 (eI .i64)) a24))]), (200000020, .var false [.val (.int .i64 0), .emp 1]), (200000040, .row false 1 (rowE (eI .i64) t))], 60⟩) (fun k s => ?_) ((a25, a27))
  obtain ⟨a25, a27⟩ := s
  unfold c27_u1
  simp +contextual -implicitDefEqProofs (maxSteps := 99999999) only [impl_CentralCoefs_s1, subI, go_sem] <;> rfl
@[go_sem] theorem impl_CentralCoefs_s1_ok_e {β : Type} (fu n : Nat) (K : List (Kont β)) (a17 a18 : Int) (a19 a20 a21 : Int) (a22 a23 : List Int) (a24 : List (List Int)) (a26 a27 : Int) : run ⟨(tab fu).own, lev (tab fu) (n + 9), (tab fu).gl⟩ K (.loop c27_u1) ⟨[(1, .pt 200000010 0), (2, .pt 200000020 0), (4, .sl 200000040 0 0), (17, .val (.sh .lent 1 (rowE (eI .i64) a22))), (18, .val (.int .i64 a26)), (19, .val (.int .i64 a27))], [(200000010, .var false [.val (.int .i64 a17), .val (.int .i64 a18), .val (.int .i64 a19), .val (.int .i64 a20), .val (.int .i64 a21), .val (.sh .lent 1 (rowE (eI .i64) a22)), .val (.sh .lent 1 (rowE (eI .i64) a23)), .val (.sh .lent 1 (rowE (eL .lent 1 (eI .i64)) a24))]), (200000020, .var false [.val (.int .i64 0), .emp 1]), (200000040, .row false 1 [])], 60⟩ = (loopO (impl_CentralCoefs_s1 fu a17 a18 a19 a20 a21 a22 a23 a24 a26) (([], a27))).bind (fun t => plug ⟨(tab fu).own, lev (tab fu) (n + 9), (tab fu).gl⟩ K (.exit 0) ⟨[(1, .pt 200000010 0), (2, .pt 200000020 0), (4, .sl 200000040 0 t.length)], [(200000010, .var false [.val (.int .i64 a17), .val (.int .i64 a18), .val (.int .i64 a19), .val (.int .i64 a20), .val (.int .i64 a21), .val (.sh .lent 1 (rowE (eI .i64) a22)), .val (.sh .lent 1 (rowE (eI .i64) a23)), .val (.sh .lent 1 (rowE (eL .lent 1 (eI .i64)) a24))]), (200000020, .var false [.val (.int .i64 0), .emp 1]), (200000040, .row false 1 (rowE (eI .i64) t))], 60⟩) := impl_CentralCoefs_s1_ok fu n K a17 a18 a19 a20 a21 a22 a23 a24 [] a26 a27
@[go_sem] theorem impl_CentralCoefs_s2_ok {β : Type} (fu n : Nat) (K : List (Kont β)) (a48 a49 : Int) (a50 a51 a52 : Int) (a53 a54 : List Int) (a55 : List (List Int)) (a56 : List Int) (a57 a58 : Int) : run ⟨(tab fu).own, lev (tab fu) (n + 9), (tab fu).gl⟩ K (.loop c27_u2) ⟨[(1, .pt 200000010 0), (2, .pt 200000020 0), (4, .sl 200000040 0 a56.length), (33, .val (.sh .lent 1 (rowE (eI .i64) a54))), (34, .val (.int .i64 a57)), (35, .val (.int .i64 a58))], [(200000010, .var false [.val (.int .i64 a48), .val (.int .i64 a49), .val (.int .i64 a50), .val (.int .i64 a51), .val (.int .i64 a52), .val (.sh .lent 1 (rowE (eI .i64) a53)), .val (.sh .lent 1 (rowE (eI .i64) a54)), .val (.sh .lent 1 (rowE (eL .lent 1 (eI .i64)) a55))]), (200000020, .var false [.val (.int .i64 0), .emp 1]), (200000040, .row false 1 (rowE (eI .i64) a56))], 60⟩ = (loopO (impl_CentralCoefs_s2 fu a48 a49 a50 a51 a52 a53 a54 a55 a57) ((a56, a58))).bind (fun t => plug ⟨(tab fu).own, lev (tab fu) (n + 9), (tab fu).gl⟩ K (.exit 2) ⟨[(2, .pt 200000020 0), (4, .sl 200000040 0 t.length)], [(200000020, .var false [.val (.int .i64 0), .emp 1]), (200000040, .row false 1 (rowE (eI .i64) t))], 60⟩) := by
  refine loop_run (C := ⟨(tab fu).own, lev (tab fu) (n + 9), (tab fu).gl⟩) (K := K) (c := c27_u2) (impl_CentralCoefs_s2 fu a48 a49 a50 a51 a52 a53 a54 a55 a57) (fun s => ⟨[(1, .pt 200000010 0), (2, .pt 200000020 0), (4, .sl 200000040 0 s.1.length), (33, .val (.sh .lent 1 (rowE (eI .i64) a54))), (34, .val (.int .i64 a57)), (35, .val (.int .i64 s.2))], [(200000010, .var false [.val (.int .i64 a48), .val (.int .i64 a49), .val (.int .i64 a50), .val (.int .i64 a51), .val (.int .i64 a52), .val (.sh .lent 1 (rowE (eI .i64) a53)), .val (.sh .lent 1 (rowE (eI .i64) a54)), .val (.sh .lent 1 (rowE (eL .lent 1 (eI .i64)) a55))]), (200000020, .var false [.val (.int .i64 0), .emp 1]), (200000040, .row false 1 (rowE (eI .i64) s.1))], 60⟩) (fun t => plug ⟨(tab fu).own, lev (tab fu) (n + 9), (tab fu).gl⟩ K (.exit 2) ⟨[(2, .pt 200000020 0), (4, .sl 200000040 0 t.length)], [(200000020, .var false [.val (.int .i64 0), .emp 1]), (200000040, .row false 1 (rowE (eI .i64) t))], 60⟩) (fun k s => ?_) ((a56, a58))
  obtain ⟨a56, a58⟩ := s
  unfold c27_u2
  simp +contextual -implicitDefEqProofs (maxSteps := 99999999) only [impl_CentralCoefs_s2, subI, go_sem] <;> rfl
@[go_sem] theorem impl_CentralCoefs_ok (fu n : Nat) (q0_0 q0_1 : Int) (q0_2 q0_3 q0_4 : Int) (q0_5 q0_6 : List Int) (q0_7 : List (List Int)) : lev (tab fu) (n + 10) 27 [.agg [.int .i64 q0_0, .int .i64 q0_1, .int .i64 q0_2, .int .i64 q0_3, .int .i64 q0_4, .sh .lent 1 (rowE (eI .i64) q0_5), .sh .lent 1 (rowE (eI .i64) q0_6), .sh .lent 1 (rowE (eL .lent 1 (eI .i64)) q0_7)]] = (impl_CentralCoefs fu (SFrame.mk q0_0 q0_1 q0_2 q0_3 q0_4 q0_5 q0_6 q0_7)).map fun r => (.agg [.int .i64 r.Code, .ow 1 (rowE (eI .i64) r.List_)], [.gone]) := by
  rw [lev_st (vc := c27) (nt := 60) (rs := [(2, some (some 2))]) ((tab_ext _ _ rfl).trans rfl) rfl (Nat.le_of_ble_eq_true rfl)]
  unfold c27
  simp +contextual -implicitDefEqProofs (maxSteps := 99999999) only [impl_CentralCoefs, subI, go_sem] <;> rfl
def impl_SynthFault_u1 (a1 : Int) (a2 a3 : List Int) : Option (Int) :=
  if (impl_halfOf a2 a1) = true then (impl_allWithin a2 1073741824).bind fun r4 =>
    if r4 = true then (impl_allWithin a3 268435456).bind fun r5 =>
      (impl_first ([(impl_SizeFault a1), (impl_codeIf ((!(impl_halfOf a3 a1))) 2), (impl_codeIf ((!r5)) 3)])).bind fun r6 =>
      some r6
    else (impl_first ([(impl_SizeFault a1), (impl_codeIf ((!(impl_halfOf a3 a1))) 2), (impl_codeIf true 3)])).bind fun r7 =>
      some r7
  else (impl_allWithin a2 1073741824).bind fun r8 =>
    if r8 = true then (impl_allWithin a3 268435456).bind fun r9 =>
      (impl_first ([(impl_SizeFault a1), (impl_codeIf true 2), (impl_codeIf ((!r9)) 3)])).bind fun r10 =>
      some r10
    else (impl_first ([(impl_SizeFault a1), (impl_codeIf true 2), (impl_codeIf true 3)])).bind fun r11 =>
      some r11
def impl_SynthFault (p0 : SSynth) : Option (Int) :=
  (impl_SynthFault_u1 p0.Size p0.Head p0.Tail).bind fun y12 =>
  some y12
@[go_sem] theorem impl_SynthFault_u1_ok {β : Type} (fu n : Nat) (K : List (Kont β)) (a1 : Int) (a2 a3 : List Int) : run ⟨(tab fu).own, lev (tab fu) (n + 6), (tab fu).gl⟩ K c61_u1 ⟨[(1, .pt 200000010 0)], [(200000010, .var false [.val (.int .i64 a1), .val (.sh .lent 1 (rowE (eI .i64) a2)), .val (.sh .lent 1 (rowE (eI .i64) a3))])], 34⟩ = (impl_SynthFault_u1 a1 a2 a3).bind (fun t => plug ⟨(tab fu).own, lev (tab fu) (n + 6), (tab fu).gl⟩ K .normal ⟨[(2, .val (.int .i64 t))], [], 34⟩) := by
  unfold c61_u1
  simp +contextual -implicitDefEqProofs (maxSteps := 99999999) only [impl_SynthFault_u1, subI, go_sem] <;> rfl
@[go_sem] theorem impl_SynthFault_ok (fu n : Nat) (q0_0 : Int) (q0_1 q0_2 : List Int) : lev (tab fu) (n + 7) 61 [.agg [.int .i64 q0_0, .sh .lent 1 (rowE (eI .i64) q0_1), .sh .lent 1 (rowE (eI .i64) q0_2)]] = (impl_SynthFault (SSynth.mk q0_0 q0_1 q0_2)).map fun r => (.int .i64 r, [.gone]) := by
  rw [lev_st (vc := c61) (nt := 34) (rs := [(2, none)]) ((tab_ext _ _ rfl).trans rfl) rfl (Nat.le_of_ble_eq_true rfl)]
  unfold c61
  simp +contextual -implicitDefEqProofs (maxSteps := 99999999) only [impl_SynthFault, subI, go_sem] <;> rfl
def impl_isBlock (p0 : List Int) : Bool :=
  ((impl_SizeFault ((p0.length : Int))) == 0)
@[go_sem] theorem impl_isBlock_ok (fu n : Nat) (q0_0 : List Int) : lev (tab fu) (n + 2) 102 [.sh .lent 1 (rowE (eI .i64) q0_0)] = (some (impl_isBlock q0_0)).map fun r => (.bool r, [.gone]) := by
  rw [lev_st (vc := c102) (nt := 7) (rs := [(2, none)]) ((tab_ext _ _ rfl).trans rfl) rfl (Nat.le_of_ble_eq_true rfl)]
  unfold c102
  simp +contextual -implicitDefEqProofs (maxSteps := 99999999) only [impl_isBlock, subI, go_sem] <;> rfl
def impl_gatherFault (p0 : List Int) : Option (Int) :=
  (impl_allWithin p0 16777216).bind fun r1 =>
  (impl_first ([(impl_codeIf ((!(impl_isBlock p0))) 2), (impl_codeIf ((!r1)) 3)])).bind fun r2 =>
  some r2
@[go_sem] theorem impl_gatherFault_ok (fu n : Nat) (q0_0 : List Int) : lev (tab fu) (n + 7) 62 [.sh .lent 1 (rowE (eI .i64) q0_0)] = (impl_gatherFault q0_0).map fun r => (.int .i64 r, [.gone]) := by
  rw [lev_st (vc := c62) (nt := 13) (rs := [(2, none)]) ((tab_ext _ _ rfl).trans rfl) rfl (Nat.le_of_ble_eq_true rfl)]
  unfold c62
  simp +contextual -implicitDefEqProofs (maxSteps := 99999999) only [impl_gatherFault, subI, go_sem] <;> rfl
def impl_samples : Sundo :=
  Sundo.mk
@[go_sem] theorem impl_samples_ok (fu n : Nat) : lev (tab fu) (n + 1) 63 [] = (some (impl_samples)).map fun r => (.agg [.fn 103 [], .fn 106 []], []) := by
  rw [lev_st (vc := c63) (nt := 2) (rs := [(0, some (some 2))]) ((tab_ext _ _ rfl).trans rfl) rfl (Nat.le_of_ble_eq_true rfl)]
  unfold c63
  simp +contextual -implicitDefEqProofs (maxSteps := 99999999) only [impl_samples, subI, go_sem] <;> rfl
def impl_turnOf_u1 (a1 : Int) : Option (Int × Int) :=
  if (a1 == 0) = true then some ((101, 200))
  else if (a1 == 1) = true then some ((311, 569))
    else none
def impl_turnOf_u2 (a3 : Int) : Option (Int × Int) :=
  if (a3 == 0) = true then some ((50, 100))
  else if (a3 == 1) = true then some ((152, 297))
    else if (a3 == 2) = true then some ((257, 483))
      else if (a3 == 3) = true then some ((366, 650))
        else none
def impl_turnOf_u3 (a5 : Int) : Option (Int × Int) :=
  if (a5 == 0) = true then some ((25, 50))
  else if (a5 == 1) = true then some ((76, 150))
    else if (a5 == 2) = true then some ((126, 249))
      else if (a5 == 3) = true then some ((178, 345))
        else if (a5 == 4) = true then some ((230, 438))
          else if (a5 == 5) = true then some ((283, 526))
            else if (a5 == 6) = true then some ((338, 610))
              else if (a5 == 7) = true then some ((395, 688))
                else none
def impl_turnOf (p0 p1 : Int) : Option (Sturn) :=
  if (p0 == 4) = true then (impl_turnOf_u1 p1).bind fun y2 =>
    some ((Sturn.mk y2.1 y2.2))
  else if (p0 == 8) = true then (impl_turnOf_u2 p1).bind fun y4 =>
      some ((Sturn.mk y4.1 y4.2))
    else (impl_turnOf_u3 p1).bind fun y6 =>
      some ((Sturn.mk y6.1 y6.2))
@[go_sem] theorem impl_turnOf_u1_ok {β : Type} (fu n : Nat) (K : List (Kont β)) (a1 : Int) : run ⟨(tab fu).own, lev (tab fu) n, (tab fu).gl⟩ K c104_u1 ⟨[(1, .val (.int .i64 a1)), (4, .pt 200000040 0)], [(200000040, .var false [.val (.int .i64 0), .val (.int .i64 0)])], 33⟩ = (impl_turnOf_u1 a1).bind (fun t => plug ⟨(tab fu).own, lev (tab fu) n, (tab fu).gl⟩ K .normal ⟨[(4, .pt 200000040 0)], [(200000040, .var false [.val (.int .i64 t.1), .val (.int .i64 t.2)])], 33⟩) := by
  unfold c104_u1
  simp +contextual -implicitDefEqProofs (maxSteps := 99999999) only [impl_turnOf_u1, subI, go_sem] <;> rfl
@[go_sem] theorem impl_turnOf_u2_ok {β : Type} (fu n : Nat) (K : List (Kont β)) (a3 : Int) : run ⟨(tab fu).own, lev (tab fu) n, (tab fu).gl⟩ K c104_u2 ⟨[(1, .val (.int .i64 a3)), (4, .pt 200000040 0)], [(200000040, .var false [.val (.int .i64 0), .val (.int .i64 0)])], 33⟩ = (impl_turnOf_u2 a3).bind (fun t => plug ⟨(tab fu).own, lev (tab fu) n, (tab fu).gl⟩ K .normal ⟨[(4, .pt 200000040 0)], [(200000040, .var false [.val (.int .i64 t.1), .val (.int .i64 t.2)])], 33⟩) := by
  unfold c104_u2
  simp +contextual -implicitDefEqProofs (maxSteps := 99999999) only [impl_turnOf_u2, subI, go_sem] <;> rfl
@[go_sem] theorem impl_turnOf_u3_ok {β : Type} (fu n : Nat) (K : List (Kont β)) (a5 : Int) : run ⟨(tab fu).own, lev (tab fu) n, (tab fu).gl⟩ K c104_u3 ⟨[(1, .val (.int .i64 a5)), (4, .pt 200000040 0)], [(200000040, .var false [.val (.int .i64 0), .val (.int .i64 0)])], 33⟩ = (impl_turnOf_u3 a5).bind (fun t => plug ⟨(tab fu).own, lev (tab fu) n, (tab fu).gl⟩ K .normal ⟨[(4, .pt 200000040 0)], [(200000040, .var false [.val (.int .i64 t.1), .val (.int .i64 t.2)])], 33⟩) := by
  unfold c104_u3
  simp +contextual -implicitDefEqProofs (maxSteps := 99999999) only [impl_turnOf_u3, subI, go_sem] <;> rfl
@[go_sem] theorem impl_turnOf_ok (fu n : Nat) (q0_0 q1_0 : Int) : lev (tab fu) (n + 1) 104 [.int .i64 q0_0, .int .i64 q1_0] = (impl_turnOf q0_0 q1_0).map fun r => (.agg [.int .i64 r.p, .int .i64 r.u], [.gone, .gone]) := by
  rw [lev_st (vc := c104) (nt := 33) (rs := [(4, some (some 2))]) ((tab_ext _ _ rfl).trans rfl) rfl (Nat.le_of_ble_eq_true rfl)]
  unfold c104
  simp +contextual -implicitDefEqProofs (maxSteps := 99999999) only [impl_turnOf, subI, go_sem] <;> rfl
def impl_tenOf (p0 : Int) : Int :=
  (((IntKind.i64.wrap (p0 + 512))).fdiv (2 ^ (min 10 64)))
@[go_sem] theorem impl_tenOf_ok (fu n : Nat) (q0_0 : Int) : lev (tab fu) (n + 1) 119 [.int .i64 q0_0] = (some (impl_tenOf q0_0)).map fun r => (.int .i64 r, [.gone]) := by
  rw [lev_st (vc := c119) (nt := 6) (rs := [(2, none)]) ((tab_ext _ _ rfl).trans rfl) rfl (Nat.le_of_ble_eq_true rfl)]
  unfold c119
  simp +contextual -implicitDefEqProofs (maxSteps := 99999999) only [impl_tenOf, subI, go_sem] <;> rfl
def impl_turn_back (p0 : Sturn) (p1 p2 : Int) : Int × Int :=
  ((IntKind.i64.wrap ((IntKind.i64.wrap (p1 + (impl_tenOf ((IntKind.i64.wrap (p0.p * p2)))))) + (impl_tenOf ((IntKind.i64.wrap (p0.p * (IntKind.i64.wrap (p2 - (impl_tenOf ((IntKind.i64.wrap (p0.u * (IntKind.i64.wrap (p1 + (impl_tenOf ((IntKind.i64.wrap (p0.p * p2)))))))))))))))))), (IntKind.i64.wrap (p2 - (impl_tenOf ((IntKind.i64.wrap (p0.u * (IntKind.i64.wrap (p1 + (impl_tenOf ((IntKind.i64.wrap (p0.p * p2)))))))))))))
@[go_sem] theorem impl_turn_back_ok (fu n : Nat) (q0_0 q0_1 : Int) (q1_0 q2_0 : Int) : lev (tab fu) (n + 2) 105 [.agg [.int .i64 q0_0, .int .i64 q0_1], .int .i64 q1_0, .int .i64 q2_0] = (some (impl_turn_back (Sturn.mk q0_0 q0_1) q1_0 q2_0)).map fun r => (.tup [.int .i64 r.1, .int .i64 r.2], [.gone, .gone, .gone]) := by
  rw [lev_st (vc := c105) (nt := 31) (rs := [(6, none), (7, none)]) ((tab_ext _ _ rfl).trans rfl) rfl (Nat.le_of_ble_eq_true rfl)]
  unfold c105
  simp +contextual -implicitDefEqProofs (maxSteps := 99999999) only [impl_turn_back, subI, go_sem] <;> rfl
def impl_samples_1 (p0 p1 : Int) (p2 p3 : Int) : Option (Int × Int) :=
  (impl_turnOf p0 p1).bind fun r1 =>
  some ((((impl_turn_back r1 p2 p3)).1, ((impl_turn_back r1 p2 p3)).2))
@[go_sem] theorem impl_samples_1_ok (fu n : Nat) (q0_0 q1_0 : Int) (q2_0 q3_0 : Int) : lev (tab fu) (n + 3) 103 [.int .i64 q0_0, .int .i64 q1_0, .int .i64 q2_0, .int .i64 q3_0] = (impl_samples_1 q0_0 q1_0 q2_0 q3_0).map fun r => (.tup [.int .i64 r.1, .int .i64 r.2], [.gone, .gone, .gone, .gone]) := by
  rw [lev_st (vc := c103) (nt := 18) (rs := [(8, none), (9, none)]) ((tab_ext _ _ rfl).trans rfl) rfl (Nat.le_of_ble_eq_true rfl)]
  unfold c103
  simp +contextual -implicitDefEqProofs (maxSteps := 99999999) only [impl_samples_1, subI, go_sem] <;> rfl
def impl_floorDiv_u1 (a1 : Int) (a2 : Bool) : Int :=
  if a2 = true then (IntKind.i64.wrap (a1 - 1))
  else a1
def impl_floorDiv (p0 p1 : Int) : Option (Int) :=
  if p1 = 0 then none
  else if p1 = 0 then none
    else let y3 := impl_floorDiv_u1 ((IntKind.i64.wrap (p0.tdiv p1))) ((decide ((p0.tmod p1) < 0)))
      some y3
@[go_sem] theorem impl_floorDiv_u1_ok {β : Type} (fu n : Nat) (K : List (Kont β)) (a1 : Int) (a2 : Bool) : run ⟨(tab fu).own, lev (tab fu) n, (tab fu).gl⟩ K c120_u1 ⟨[(5, .val (.int .i64 a1)), (12, .val (.bool a2))], [], 16⟩ = (some (impl_floorDiv_u1 a1 a2)).bind (fun t => plug ⟨(tab fu).own, lev (tab fu) n, (tab fu).gl⟩ K .normal ⟨[(5, .val (.int .i64 t))], [], 16⟩) := by
  unfold c120_u1
  simp +contextual -implicitDefEqProofs (maxSteps := 99999999) only [impl_floorDiv_u1, subI, go_sem] <;> rfl
@[go_sem] theorem impl_floorDiv_ok (fu n : Nat) (q0_0 q1_0 : Int) : lev (tab fu) (n + 1) 120 [.int .i64 q0_0, .int .i64 q1_0] = (impl_floorDiv q0_0 q1_0).map fun r => (.int .i64 r, [.gone, .gone]) := by
  rw [lev_st (vc := c120) (nt := 16) (rs := [(4, none)]) ((tab_ext _ _ rfl).trans rfl) rfl (Nat.le_of_ble_eq_true rfl)]
  unfold c120
  simp +contextual -implicitDefEqProofs (maxSteps := 99999999) only [impl_floorDiv, subI, go_sem] <;> rfl
def impl_part (p0 p1 : Int) : Option (Int × Int) :=
  (impl_floorDiv p1 2).bind fun r1 =>
  some (((IntKind.i64.wrap ((IntKind.i64.wrap (p0 - r1)) + p1)), (IntKind.i64.wrap (p0 - r1))))
@[go_sem] theorem impl_part_ok (fu n : Nat) (q0_0 q1_0 : Int) : lev (tab fu) (n + 2) 106 [.int .i64 q0_0, .int .i64 q1_0] = (impl_part q0_0 q1_0).map fun r => (.tup [.int .i64 r.1, .int .i64 r.2], [.gone, .gone]) := by
  rw [lev_st (vc := c106) (nt := 15) (rs := [(4, none), (5, none)]) ((tab_ext _ _ rfl).trans rfl) rfl (Nat.le_of_ble_eq_true rfl)]
  unfold c106
  simp +contextual -implicitDefEqProofs (maxSteps := 99999999) only [impl_part, subI, go_sem] <;> rfl
def impl_undo_unite_samples_s1 (a12 a14 : List Int) (a15 a16 : Int) : ((List Int) × Int) → Option (((List Int) × Int) ⊕ ((List Int))) := fun ⟨a13, a17⟩ =>
  if (decide (a17 < a16)) = true then (getI a13 a17).bind fun _ =>
    (a13[a17.toNat]?).bind fun x18 =>
    (getI a13 (IntKind.i64.wrap ((IntKind.i64.wrap ((IntKind.i64.wrap (a15.tdiv (2 : Int))) - 1)) - a17))).bind fun _ =>
    (a13[((IntKind.i64.wrap ((IntKind.i64.wrap ((IntKind.i64.wrap (a15.tdiv (2 : Int))) - 1)) - a17))).toNat]?).bind fun x19 =>
    (impl_samples_1 a15 a17 x18 x19).bind fun r20 =>
    (getI a13 a17).bind fun _ =>
    (a13[a17.toNat]?).bind fun _ =>
    (getI ((a13.set a17.toNat r20.1)) (IntKind.i64.wrap ((IntKind.i64.wrap ((IntKind.i64.wrap (a15.tdiv (2 : Int))) - 1)) - a17))).bind fun _ =>
    (((a13.set a17.toNat r20.1))[((IntKind.i64.wrap ((IntKind.i64.wrap ((IntKind.i64.wrap (a15.tdiv (2 : Int))) - 1)) - a17))).toNat]?).bind fun _ =>
    some ((.inl (((((a13.set a17.toNat r20.1)).set (((IntKind.i64.wrap ((IntKind.i64.wrap ((IntKind.i64.wrap (a15.tdiv (2 : Int))) - 1)) - a17))).toNat) r20.2), (IntKind.i64.wrap (a17 + 1))))))
  else some ((.inr a13))
def impl_undo_unite_samples_s2 (a36 a37 : List Int) (a38 a39 : Int) : ((List Int) × Int) → Option (((List Int) × Int) ⊕ ((List Int))) := fun ⟨a35, a40⟩ =>
  if (decide (a40 < a39)) = true then (getI a37 a40).bind fun x41 =>
    (getI a36 a40).bind fun _ =>
    (a36[a40.toNat]?).bind fun x42 =>
    (impl_part x41 x42).bind fun r43 =>
    (getI a35 a40).bind fun _ =>
    (a35[a40.toNat]?).bind fun _ =>
    (getI ((a35.set a40.toNat r43.1)) (IntKind.i64.wrap ((IntKind.i64.wrap (a38 - 1)) - a40))).bind fun _ =>
    (((a35.set a40.toNat r43.1))[((IntKind.i64.wrap ((IntKind.i64.wrap (a38 - 1)) - a40))).toNat]?).bind fun _ =>
    some ((.inl (((((a35.set a40.toNat r43.1)).set (((IntKind.i64.wrap ((IntKind.i64.wrap (a38 - 1)) - a40))).toNat) r43.2), (IntKind.i64.wrap (a40 + 1))))))
  else some ((.inr a35))
def impl_undo_unite_samples (p0 : Sundo) (p1 p2 : List Int) : Option ((List Int) × (List Int)) :=
  if (okMake 8 ((IntKind.i64.wrap (2 * (p1.length : Int))))) = true then (loopO (impl_undo_unite_samples_s1 ((List.replicate ((IntKind.i64.wrap (2 * (p1.length : Int)))).toNat ((0 : Int)))) p1 ((IntKind.i64.wrap (2 * (p1.length : Int)))) ((IntKind.i64.wrap (((IntKind.i64.wrap (2 * (p1.length : Int)))).tdiv (4 : Int))))) ((p2, 0))).bind fun y23 =>
    (loopO (impl_undo_unite_samples_s2 y23 p1 (((IntKind.i64.wrap (2 * (p1.length : Int))))) ((p1.length : Int))) ((((List.replicate ((IntKind.i64.wrap (2 * (p1.length : Int)))).toNat ((0 : Int)))), 0))).bind fun y46 =>
    some ((y46, y23))
  else none
@[go_sem] theorem impl_undo_unite_samples_s1_ok {β : Type} (fu n : Nat) (K : List (Kont β)) (a12 a13 a14 : List Int) (a15 a16 a17 : Int) : run ⟨(tab fu).own, lev (tab fu) (n + 3), (tab fu).gl⟩ K (.loop c107_u1) ⟨[(1, .val (.sh .lent 1 (rowE (eI .i64) a14))), (2, .sl 1000002000 0 a13.length), (3, .pt 200000030 0), (7, .val (.int .i64 a15)), (8, .sl 200000080 0 a12.length), (18, .val (.int .i64 a16)), (19, .val (.int .i64 a17))], [(200000030, .var false [.val (.fn 103 []), .val (.fn 106 [])]), (200000080, .row false 1 (rowE (eI .i64) a12)), (1000002000, .row true 1 (rowE (eI .i64) a13))], 80⟩ = (loopO (impl_undo_unite_samples_s1 a12 a14 a15 a16) ((a13, a17))).bind (fun t => plug ⟨(tab fu).own, lev (tab fu) (n + 3), (tab fu).gl⟩ K (.exit 0) ⟨[(1, .val (.sh .lent 1 (rowE (eI .i64) a14))), (2, .sl 1000002000 0 t.length), (3, .pt 200000030 0), (7, .val (.int .i64 a15)), (8, .sl 200000080 0 a12.length)], [(200000030, .var false [.val (.fn 103 []), .val (.fn 106 [])]), (200000080, .row false 1 (rowE (eI .i64) a12)), (1000002000, .row true 1 (rowE (eI .i64) t))], 80⟩) := by
  refine loop_run (C := ⟨(tab fu).own, lev (tab fu) (n + 3), (tab fu).gl⟩) (K := K) (c := c107_u1) (impl_undo_unite_samples_s1 a12 a14 a15 a16) (fun s => ⟨[(1, .val (.sh .lent 1 (rowE (eI .i64) a14))), (2, .sl 1000002000 0 s.1.length), (3, .pt 200000030 0), (7, .val (.int .i64 a15)), (8, .sl 200000080 0 a12.length), (18, .val (.int .i64 a16)), (19, .val (.int .i64 s.2))], [(200000030, .var false [.val (.fn 103 []), .val (.fn 106 [])]), (200000080, .row false 1 (rowE (eI .i64) a12)), (1000002000, .row true 1 (rowE (eI .i64) s.1))], 80⟩) (fun t => plug ⟨(tab fu).own, lev (tab fu) (n + 3), (tab fu).gl⟩ K (.exit 0) ⟨[(1, .val (.sh .lent 1 (rowE (eI .i64) a14))), (2, .sl 1000002000 0 t.length), (3, .pt 200000030 0), (7, .val (.int .i64 a15)), (8, .sl 200000080 0 a12.length)], [(200000030, .var false [.val (.fn 103 []), .val (.fn 106 [])]), (200000080, .row false 1 (rowE (eI .i64) a12)), (1000002000, .row true 1 (rowE (eI .i64) t))], 80⟩) (fun k s => ?_) ((a13, a17))
  obtain ⟨a13, a17⟩ := s
  unfold c107_u1
  simp +contextual -implicitDefEqProofs (maxSteps := 99999999) only [impl_undo_unite_samples_s1, subI, go_sem] <;> rfl
@[go_sem] theorem impl_undo_unite_samples_s2_ok {β : Type} (fu n : Nat) (K : List (Kont β)) (a35 a36 a37 : List Int) (a38 a39 a40 : Int) : run ⟨(tab fu).own, lev (tab fu) (n + 3), (tab fu).gl⟩ K (.loop c107_u2) ⟨[(1, .val (.sh .lent 1 (rowE (eI .i64) a37))), (2, .sl 1000002000 0 a36.length), (3, .pt 200000030 0), (7, .val (.int .i64 a38)), (8, .sl 200000080 0 a35.length), (51, .val (.int .i64 a39)), (52, .val (.int .i64 a40))], [(200000030, .var false [.val (.fn 103 []), .val (.fn 106 [])]), (200000080, .row false 1 (rowE (eI .i64) a35)), (1000002000, .row true 1 (rowE (eI .i64) a36))], 80⟩ = (loopO (impl_undo_unite_samples_s2 a36 a37 a38 a39) ((a35, a40))).bind (fun t => plug ⟨(tab fu).own, lev (tab fu) (n + 3), (tab fu).gl⟩ K (.exit 2) ⟨[(8, .sl 200000080 0 t.length)], [(200000080, .row false 1 (rowE (eI .i64) t)), (1000002000, .row true 1 (rowE (eI .i64) a36))], 80⟩) := by
  refine loop_run (C := ⟨(tab fu).own, lev (tab fu) (n + 3), (tab fu).gl⟩) (K := K) (c := c107_u2) (impl_undo_unite_samples_s2 a36 a37 a38 a39) (fun s => ⟨[(1, .val (.sh .lent 1 (rowE (eI .i64) a37))), (2, .sl 1000002000 0 a36.length), (3, .pt 200000030 0), (7, .val (.int .i64 a38)), (8, .sl 200000080 0 s.1.length), (51, .val (.int .i64 a39)), (52, .val (.int .i64 s.2))], [(200000030, .var false [.val (.fn 103 []), .val (.fn 106 [])]), (200000080, .row false 1 (rowE (eI .i64) s.1)), (1000002000, .row true 1 (rowE (eI .i64) a36))], 80⟩) (fun t => plug ⟨(tab fu).own, lev (tab fu) (n + 3), (tab fu).gl⟩ K (.exit 2) ⟨[(8, .sl 200000080 0 t.length)], [(200000080, .row false 1 (rowE (eI .i64) t)), (1000002000, .row true 1 (rowE (eI .i64) a36))], 80⟩) (fun k s => ?_) ((a35, a40))
  obtain ⟨a35, a40⟩ := s
  unfold c107_u2
  simp +contextual -implicitDefEqProofs (maxSteps := 99999999) only [impl_undo_unite_samples_s2, subI, go_sem] <;> rfl
@[go_sem] theorem impl_undo_unite_samples_ok (fu n : Nat) (q1_0 q2_0 : List Int) : lev (tab fu) (n + 4) 107 [.agg [.fn 103 [], .fn 106 []], .sh .lent 1 (rowE (eI .i64) q1_0), .ow 1 (rowE (eI .i64) q2_0)] = (impl_undo_unite_samples Sundo.mk q1_0 q2_0).map fun r => (.ow 1 (rowE (eI .i64) r.1), [.gone, .gone, .ow 1 (rowE (eI .i64) r.2)]) := by
  rw [lev_st (vc := c107) (nt := 80) (rs := [(6, none)]) ((tab_ext _ _ rfl).trans rfl) rfl (Nat.le_of_ble_eq_true rfl)]
  unfold c107
  simp +contextual -implicitDefEqProofs (maxSteps := 99999999) only [impl_undo_unite_samples, subI, go_sem] <;> rfl
def impl_undo_gather_samples_u3 (fu : Nat) (rec_ : Sundo → (List Int) → Option ((List Int))) (a33 a34 : List Int) (a35 : Int) (a36 : List Int) (a37 a38 : Int) (a39 : Bool) : Option ((List Int) × (List Int)) :=
  if a39 = true then if (okApp 8 ((a33 ++ ([a35]))).length) = true then some (((a33 ++ ([a35])), a34))
    else none
  else if (okApp 8 ((a34 ++ ([a35]))).length) = true then some ((a33, (a34 ++ ([a35]))))
    else none
def impl_undo_gather_samples_u4 (fu : Nat) (rec_ : Sundo → (List Int) → Option ((List Int))) (a27 a28 a29 : List Int) (a30 a31 : Int) : Option ((List Int) × (List Int)) :=
  (getI a29 a31).bind fun x32 =>
  (impl_undo_gather_samples_u3 fu rec_ a27 a28 x32 a29 a30 a31 (((a31.tmod (2 : Int)) == 0))).bind fun y40 =>
  some ((y40.1, y40.2))
def impl_undo_gather_samples_s5 (fu : Nat) (rec_ : Sundo → (List Int) → Option ((List Int))) (a24 : List Int) (a25 : Int) : ((List Int) × (List Int) × Int) → Option (((List Int) × (List Int) × Int) ⊕ ((List Int) × (List Int))) := fun ⟨a22, a23, a26⟩ =>
  if (decide (a26 < a25)) = true then (impl_undo_gather_samples_u4 fu rec_ a22 a23 a24 a25 a26).bind fun y41 =>
    some ((.inl ((y41.1, y41.2, (IntKind.i64.wrap (a26 + 1))))))
  else some ((.inr ((a22, a23))))
def impl_undo_gather_samples_b (fu : Nat) (rec_ : Sundo → (List Int) → Option ((List Int))) (p0 : Sundo) (p1 : List Int) : Option ((List Int)) :=
  if ((p1.length : Int) == 1) = true then (getI p1 0).bind fun x1 =>
    some ([x1])
  else (loopO (impl_undo_gather_samples_s5 fu rec_ p1 ((p1.length : Int))) (([], [], 0))).bind fun y42 =>
    (rec_ Sundo.mk y42.1).bind fun r43 =>
    (rec_ Sundo.mk y42.2).bind fun r44 =>
    (impl_undo_unite_samples Sundo.mk r43 r44).bind fun r45 =>
    if r44.length = r45.2.length then some r45.1
    else none
def impl_undo_gather_samples : Nat → Sundo → (List Int) → Option ((List Int))
  | 0, _, _ => none
  | fu + 1, p0, p1 => impl_undo_gather_samples_b fu (impl_undo_gather_samples fu) p0 p1
class impl_undo_gather_samplesRec (fu : Nat) : Prop where
  h : ∀ (n : Nat) (q1_0 : List Int), lev (tab fu) (n + 1) 64 [.agg [.fn 103 [], .fn 106 []], .sh .lent 1 (rowE (eI .i64) q1_0)] = (impl_undo_gather_samples fu Sundo.mk q1_0).map fun r => (.ow 1 (rowE (eI .i64) r), [.gone, .gone])
@[go_sem] theorem impl_undo_gather_samples_rec (fu n : Nat) [q : impl_undo_gather_samplesRec fu] (q1_0 : List Int) : lev (tab fu) (n + 1) 64 [.agg [.fn 103 [], .fn 106 []], .sh .lent 1 (rowE (eI .i64) q1_0)] = (impl_undo_gather_samples fu Sundo.mk q1_0).map fun r => (.ow 1 (rowE (eI .i64) r), [.gone, .gone]) := impl_undo_gather_samplesRec.h n q1_0
@[go_sem] theorem impl_undo_gather_samples_u3_ok {β : Type} (fu n : Nat) [impl_undo_gather_samplesRec fu] (K : List (Kont β)) (a33 a34 : List Int) (a35 : Int) (a36 : List Int) (a37 a38 : Int) (a39 : Bool) : run ⟨(tab fu).own, lev (tab fu) (n + 4), (tab fu).gl⟩ K c64_u3 ⟨[(2, .pt 200000020 0), (5, .sl 200000050 0 a33.length), (6, .sl 200000060 0 a34.length), (8, .val (.int .i64 a35)), (18, .val (.sh .lent 1 (rowE (eI .i64) a36))), (19, .val (.int .i64 a37)), (20, .val (.int .i64 a38)), (27, .val (.bool a39))], [(200000020, .var false [.val (.fn 103 []), .val (.fn 106 [])]), (200000050, .row false 1 (rowE (eI .i64) a33)), (200000060, .row false 1 (rowE (eI .i64) a34))], 45⟩ = (impl_undo_gather_samples_u3 fu (impl_undo_gather_samples fu) a33 a34 a35 a36 a37 a38 a39).bind (fun t => plug ⟨(tab fu).own, lev (tab fu) (n + 4), (tab fu).gl⟩ K .normal ⟨[(2, .pt 200000020 0), (5, .sl 200000050 0 t.1.length), (6, .sl 200000060 0 t.2.length), (18, .val (.sh .lent 1 (rowE (eI .i64) a36))), (19, .val (.int .i64 a37)), (20, .val (.int .i64 a38))], [(200000020, .var false [.val (.fn 103 []), .val (.fn 106 [])]), (200000050, .row false 1 (rowE (eI .i64) t.1)), (200000060, .row false 1 (rowE (eI .i64) t.2))], 45⟩) := by
  unfold c64_u3
  simp +contextual -implicitDefEqProofs (maxSteps := 99999999) only [impl_undo_gather_samples_u3, subI, go_sem] <;> rfl
@[go_sem] theorem impl_undo_gather_samples_u4_ok {β : Type} (fu n : Nat) [impl_undo_gather_samplesRec fu] (K : List (Kont β)) (a27 a28 a29 : List Int) (a30 a31 : Int) : run ⟨(tab fu).own, lev (tab fu) (n + 4), (tab fu).gl⟩ K c64_u4 ⟨[(2, .pt 200000020 0), (5, .sl 200000050 0 a27.length), (6, .sl 200000060 0 a28.length), (18, .val (.sh .lent 1 (rowE (eI .i64) a29))), (19, .val (.int .i64 a30)), (20, .val (.int .i64 a31))], [(200000020, .var false [.val (.fn 103 []), .val (.fn 106 [])]), (200000050, .row false 1 (rowE (eI .i64) a27)), (200000060, .row false 1 (rowE (eI .i64) a28))], 45⟩ = (impl_undo_gather_samples_u4 fu (impl_undo_gather_samples fu) a27 a28 a29 a30 a31).bind (fun t => plug ⟨(tab fu).own, lev (tab fu) (n + 4), (tab fu).gl⟩ K .normal ⟨[(2, .pt 200000020 0), (5, .sl 200000050 0 t.1.length), (6, .sl 200000060 0 t.2.length), (18, .val (.sh .lent 1 (rowE (eI .i64) a29))), (19, .val (.int .i64 a30)), (20, .val (.int .i64 a31))], [(200000020, .var false [.val (.fn 103 []), .val (.fn 106 [])]), (200000050, .row false 1 (rowE (eI .i64) t.1)), (200000060, .row false 1 (rowE (eI .i64) t.2))], 45⟩) := by
  unfold c64_u4
  simp +contextual -implicitDefEqProofs (maxSteps := 99999999) only [impl_undo_gather_samples_u4, subI, go_sem] <;> rfl
@[go_sem] theorem impl_undo_gather_samples_s5_ok {β : Type} (fu n : Nat) [impl_undo_gather_samplesRec fu] (K : List (Kont β)) (a22 a23 a24 : List Int) (a25 a26 : Int) : run ⟨(tab fu).own, lev (tab fu) (n + 4), (tab fu).gl⟩ K (.loop c64_u5) ⟨[(2, .pt 200000020 0), (5, .sl 200000050 0 a22.length), (6, .sl 200000060 0 a23.length), (18, .val (.sh .lent 1 (rowE (eI .i64) a24))), (19, .val (.int .i64 a25)), (20, .val (.int .i64 a26))], [(200000020, .var false [.val (.fn 103 []), .val (.fn 106 [])]), (200000050, .row false 1 (rowE (eI .i64) a22)), (200000060, .row false 1 (rowE (eI .i64) a23))], 45⟩ = (loopO (impl_undo_gather_samples_s5 fu (impl_undo_gather_samples fu) a24 a25) ((a22, a23, a26))).bind (fun t => plug ⟨(tab fu).own, lev (tab fu) (n + 4), (tab fu).gl⟩ K (.exit 0) ⟨[(2, .pt 200000020 0), (5, .sl 200000050 0 t.1.length), (6, .sl 200000060 0 t.2.length)], [(200000020, .var false [.val (.fn 103 []), .val (.fn 106 [])]), (200000050, .row false 1 (rowE (eI .i64) t.1)), (200000060, .row false 1 (rowE (eI .i64) t.2))], 45⟩) := by
  refine loop_run (C := ⟨(tab fu).own, lev (tab fu) (n + 4), (tab fu).gl⟩) (K := K) (c := c64_u5) (impl_undo_gather_samples_s5 fu (impl_undo_gather_samples fu) a24 a25) (fun s => ⟨[(2, .pt 200000020 0), (5, .sl 200000050 0 s.1.length), (6, .sl 200000060 0 s.2.1.length), (18, .val (.sh .lent 1 (rowE (eI .i64) a24))), (19, .val (.int .i64 a25)), (20, .val (.int .i64 s.2.2))], [(200000020, .var false [.val (.fn 103 []), .val (.fn 106 [])]), (200000050, .row false 1 (rowE (eI .i64) s.1)), (200000060, .row false 1 (rowE (eI .i64) s.2.1))], 45⟩) (fun t => plug ⟨(tab fu).own, lev (tab fu) (n + 4), (tab fu).gl⟩ K (.exit 0) ⟨[(2, .pt 200000020 0), (5, .sl 200000050 0 t.1.length), (6, .sl 200000060 0 t.2.length)], [(200000020, .var false [.val (.fn 103 []), .val (.fn 106 [])]), (200000050, .row false 1 (rowE (eI .i64) t.1)), (200000060, .row false 1 (rowE (eI .i64) t.2))], 45⟩) (fun k s => ?_) ((a22, a23, a26))
  obtain ⟨a22, a23, a26⟩ := s
  unfold c64_u5
  simp +contextual -implicitDefEqProofs (maxSteps := 99999999) only [impl_undo_gather_samples_s5, subI, go_sem] <;> rfl
@[go_sem] theorem impl_undo_gather_samples_s5_ok_e {β : Type} (fu n : Nat) [impl_undo_gather_samplesRec fu] (K : List (Kont β)) (a24 : List Int) (a25 a26 : Int) : run ⟨(tab fu).own, lev (tab fu) (n + 4), (tab fu).gl⟩ K (.loop c64_u5) ⟨[(2, .pt 200000020 0), (5, .sl 200000050 0 0), (6, .sl 200000060 0 0), (18, .val (.sh .lent 1 (rowE (eI .i64) a24))), (19, .val (.int .i64 a25)), (20, .val (.int .i64 a26))], [(200000020, .var false [.val (.fn 103 []), .val (.fn 106 [])]), (200000050, .row false 1 []), (200000060, .row false 1 [])], 45⟩ = (loopO (impl_undo_gather_samples_s5 fu (impl_undo_gather_samples fu) a24 a25) (([], [], a26))).bind (fun t => plug ⟨(tab fu).own, lev (tab fu) (n + 4), (tab fu).gl⟩ K (.exit 0) ⟨[(2, .pt 200000020 0), (5, .sl 200000050 0 t.1.length), (6, .sl 200000060 0 t.2.length)], [(200000020, .var false [.val (.fn 103 []), .val (.fn 106 [])]), (200000050, .row false 1 (rowE (eI .i64) t.1)), (200000060, .row false 1 (rowE (eI .i64) t.2))], 45⟩) := impl_undo_gather_samples_s5_ok fu n K [] [] a24 a25 a26
theorem impl_undo_gather_samples_st (fu n : Nat) (ds : List D) : lev (tab (fu + 1)) (n + 1) 64 ds = levA (tab fu) (0 + 4) c64 [(4, none)] (idsOf 0 ((tab fu).own 64) ds) ds (argsFr 0 ((tab fu).own 64) ds ⟨[], [], 45⟩) := lev_rec_st (T := tab0) (R := recR) rfl rfl (Nat.le_of_ble_eq_true rfl)
theorem impl_undo_gather_samples_all (fu : Nat) : impl_undo_gather_samplesRec fu := by
  induction fu with
  | zero => exact ⟨fun n q1_0 => lev_rec0 (T := tab0) (R := recR) (N := 0 + 4) rfl⟩
  | succ fu ih =>
    refine ⟨fun n q1_0 => ?_⟩
    rw [impl_undo_gather_samples_st]
    unfold impl_undo_gather_samples c64
    simp +contextual -implicitDefEqProofs (maxSteps := 99999999) only [impl_undo_gather_samples_b, subI, go_sem] <;> rfl
instance (fu : Nat) : impl_undo_gather_samplesRec fu := impl_undo_gather_samples_all fu
theorem impl_undo_gather_samples_ok (fu n : Nat) (q1_0 : List Int) : lev (tab fu) (n + 1) 64 [.agg [.fn 103 [], .fn 106 []], .sh .lent 1 (rowE (eI .i64) q1_0)] = (impl_undo_gather_samples fu Sundo.mk q1_0).map fun r => (.ow 1 (rowE (eI .i64) r), [.gone, .gone]) := impl_undo_gather_samples_rec fu n q1_0
def slices_Clone_int64 (p0 : List Int) : Option ((List Int)) :=
  if (okApp 8 p0.length) = true then some p0
  else none
@[go_sem] theorem slices_Clone_int64_ok (fu n : Nat) (q0_0 : List Int) : lev (tab fu) (n + 1) 67 [.sh .lent 1 (rowE (eI .i64) q0_0)] = (slices_Clone_int64 q0_0).map fun r => (.ow 1 (rowE (eI .i64) r), [.gone]) := by
  cases q0_0 with
  | nil =>
    rw [lev_st (vc := c67) (nt := 8) (rs := [(2, none)]) ((tab_ext _ _ rfl).trans rfl) rfl (Nat.le_of_ble_eq_true rfl)]
    unfold c67
    simp +contextual -implicitDefEqProofs (maxSteps := 99999999) only [slices_Clone_int64, rowE_nil, List.length_nil, subI, go_sem] <;> rfl
  | cons y ys =>
    rw [lev_st (vc := c67) (nt := 8) (rs := [(2, none)]) ((tab_ext _ _ rfl).trans rfl) rfl (Nat.le_of_ble_eq_true rfl)]
    unfold c67
    simp +contextual -implicitDefEqProofs (maxSteps := 99999999) only [slices_Clone_int64, subI, go_sem] <;> rfl
def impl_PlayBlock_1 (p0 p1 : Int) (p2 p4_0 : Int) (p4_1 p4_2 : List Int) : Option (Int × Int) :=
  (impl_samples_1 p4_0 p0 p1 p2).bind fun r1 =>
  some ((r1.1, r1.2))
@[go_sem] theorem impl_PlayBlock_1_ok (fu n : Nat) (q0_0 q1_0 : Int) (q2_0 p4_0 : Int) (p4_1 p4_2 : List Int) : lev (tab fu) (n + 4) 66 [.int .i64 q0_0, .int .i64 q1_0, .int .i64 q2_0, .ptr [.fn 103 [], .fn 106 []], .ptr [.int .i64 p4_0, .sh .lent 1 (rowE (eI .i64) p4_1), .sh .lent 1 (rowE (eI .i64) p4_2)]] = (impl_PlayBlock_1 q0_0 q1_0 q2_0 p4_0 p4_1 p4_2).map fun r => (.tup [.int .i64 r.1, .int .i64 r.2], [.gone, .gone, .gone, .gone, .gone]) := by
  rw [lev_st (vc := c66) (nt := 20) (rs := [(8, none), (9, none)]) ((tab_ext _ _ rfl).trans rfl) rfl (Nat.le_of_ble_eq_true rfl)]
  unfold c66
  simp +contextual -implicitDefEqProofs (maxSteps := 99999999) only [impl_PlayBlock_1, subI, go_sem] <;> rfl
def impl_seam_impl_PlayBlock_1_s1 (a17 : Int) (a18 a19 : List Int) (a20 : Int) : ((List Int) × (List Int) × Int) → Option (((List Int) × (List Int) × Int) ⊕ ((List Int) × (List Int))) := fun ⟨a15, a16, a21⟩ =>
  if (decide (a21 < a20)) = true then (getI a15 (IntKind.i64.wrap ((IntKind.i64.wrap ((a15.length : Int) - 1)) - a21))).bind fun _ =>
    (a15[((IntKind.i64.wrap ((IntKind.i64.wrap ((a15.length : Int) - 1)) - a21))).toNat]?).bind fun x22 =>
    (getI a16 a21).bind fun _ =>
    (a16[a21.toNat]?).bind fun x23 =>
    (impl_PlayBlock_1 a21 x22 x23 a17 a18 a19).bind fun r24 =>
    (getI a15 (IntKind.i64.wrap ((IntKind.i64.wrap ((a15.length : Int) - 1)) - a21))).bind fun _ =>
    (a15[((IntKind.i64.wrap ((IntKind.i64.wrap ((a15.length : Int) - 1)) - a21))).toNat]?).bind fun _ =>
    (getI a16 a21).bind fun _ =>
    (a16[a21.toNat]?).bind fun _ =>
    some ((.inl (((a15.set (((IntKind.i64.wrap ((IntKind.i64.wrap ((a15.length : Int) - 1)) - a21))).toNat) r24.1), (a16.set a21.toNat r24.2), (IntKind.i64.wrap (a21 + 1))))))
  else some ((.inr ((a15, a16))))
def impl_seam_impl_PlayBlock_1 (p0 p1 : List Int) (p2_1_0 : Int) (p2_1_1 p2_1_2 : List Int) : Option ((List Int) × (List Int)) :=
  (slices_Clone_int64 p0).bind fun r1 =>
  (slices_Clone_int64 p1).bind fun r2 =>
  (loopO (impl_seam_impl_PlayBlock_1_s1 p2_1_0 p2_1_1 p2_1_2 ((r2.length : Int))) ((r1, r2, 0))).bind fun y27 =>
  some ((y27.1, y27.2))
@[go_sem] theorem impl_seam_impl_PlayBlock_1_s1_ok {β : Type} (fu n : Nat) (K : List (Kont β)) (a15 a16 : List Int) (a17 : Int) (a18 a19 : List Int) (a20 a21 : Int) : run ⟨(tab fu).own, lev (tab fu) (n + 4), (tab fu).gl⟩ K (.loop c65_u1) ⟨[(2, .val (.fn 66 [.ptr [.fn 103 [], .fn 106 []], .ptr [.int .i64 a17, .sh .lent 1 (rowE (eI .i64) a18), .sh .lent 1 (rowE (eI .i64) a19)]])), (8, .sl 200000080 0 a15.length), (9, .sl 200000090 0 a16.length), (17, .val (.int .i64 a20)), (18, .val (.int .i64 a21))], [(200000080, .row false 1 (rowE (eI .i64) a15)), (200000090, .row false 1 (rowE (eI .i64) a16))], 49⟩ = (loopO (impl_seam_impl_PlayBlock_1_s1 a17 a18 a19 a20) ((a15, a16, a21))).bind (fun t => plug ⟨(tab fu).own, lev (tab fu) (n + 4), (tab fu).gl⟩ K (.exit 0) ⟨[(8, .sl 200000080 0 t.1.length), (9, .sl 200000090 0 t.2.length)], [(200000080, .row false 1 (rowE (eI .i64) t.1)), (200000090, .row false 1 (rowE (eI .i64) t.2))], 49⟩) := by
  refine loop_run (C := ⟨(tab fu).own, lev (tab fu) (n + 4), (tab fu).gl⟩) (K := K) (c := c65_u1) (impl_seam_impl_PlayBlock_1_s1 a17 a18 a19 a20) (fun s => ⟨[(2, .val (.fn 66 [.ptr [.fn 103 [], .fn 106 []], .ptr [.int .i64 a17, .sh .lent 1 (rowE (eI .i64) a18), .sh .lent 1 (rowE (eI .i64) a19)]])), (8, .sl 200000080 0 s.1.length), (9, .sl 200000090 0 s.2.1.length), (17, .val (.int .i64 a20)), (18, .val (.int .i64 s.2.2))], [(200000080, .row false 1 (rowE (eI .i64) s.1)), (200000090, .row false 1 (rowE (eI .i64) s.2.1))], 49⟩) (fun t => plug ⟨(tab fu).own, lev (tab fu) (n + 4), (tab fu).gl⟩ K (.exit 0) ⟨[(8, .sl 200000080 0 t.1.length), (9, .sl 200000090 0 t.2.length)], [(200000080, .row false 1 (rowE (eI .i64) t.1)), (200000090, .row false 1 (rowE (eI .i64) t.2))], 49⟩) (fun k s => ?_) ((a15, a16, a21))
  obtain ⟨a15, a16, a21⟩ := s
  unfold c65_u1
  simp +contextual -implicitDefEqProofs (maxSteps := 99999999) only [impl_seam_impl_PlayBlock_1_s1, subI, go_sem] <;> rfl
@[go_sem] theorem impl_seam_impl_PlayBlock_1_ok (fu n : Nat) (q0_0 q1_0 : List Int) (p2_1_0 : Int) (p2_1_1 p2_1_2 : List Int) : lev (tab fu) (n + 5) 65 [.sh .lent 1 (rowE (eI .i64) q0_0), .sh .lent 1 (rowE (eI .i64) q1_0), .fn 66 [.ptr [.fn 103 [], .fn 106 []], .ptr [.int .i64 p2_1_0, .sh .lent 1 (rowE (eI .i64) p2_1_1), .sh .lent 1 (rowE (eI .i64) p2_1_2)]]] = (impl_seam_impl_PlayBlock_1 q0_0 q1_0 p2_1_0 p2_1_1 p2_1_2).map fun r => (.tup [.ow 1 (rowE (eI .i64) r.1), .ow 1 (rowE (eI .i64) r.2)], [.gone, .gone, .gone]) := by
  rw [lev_st (vc := c65) (nt := 49) (rs := [(6, none), (7, none)]) ((tab_ext _ _ rfl).trans rfl) rfl (Nat.le_of_ble_eq_true rfl)]
  unfold c65
  simp +contextual -implicitDefEqProofs (maxSteps := 99999999) only [impl_seam_impl_PlayBlock_1, subI, go_sem] <;> rfl
def slices_Grow_int64 (p0 : List Int) (p1 : Int) : Option (List Int) := if okGrow 8 p1 = true then some p0 else none
@[go_sem] theorem slices_Grow_int64_ok (fu n : Nat) (q : Int) : lev (tab fu) (n + 1) 108 [.emp 1, .int .i64 q] = (slices_Grow_int64 [] q).map fun r => (.ow 1 (rowE (eI .i64) r), [.gone, .gone]) := by
  rw [lev_ext (F := (growF 1 8)) ((tab_ext _ _ rfl).trans rfl)]
  unfold growF slices_Grow_int64
  simp only [true_and]
  split <;> rfl
def slices_Concat_int64_u3 (a29 : List (List Int)) (a30 a31 a32 : Int) (a33 : Bool) : Option (Unit) :=
  if a33 = true then none
  else some (())
def slices_Concat_int64_u4 (a24 : List (List Int)) (a25 a26 a27 : Int) : Option (Int) :=
  (getI a24 a27).bind fun x28 =>
  (slices_Concat_int64_u3 a24 ((IntKind.i64.wrap (a25 + (x28.length : Int)))) a26 a27 ((decide ((IntKind.i64.wrap (a25 + (x28.length : Int))) < 0)))).bind fun y34 =>
  some (((IntKind.i64.wrap (a25 + (x28.length : Int)))))
def slices_Concat_int64_s5 (a20 : List (List Int)) (a22 : Int) : (Int × Int) → Option ((Int × Int) ⊕ (Int)) := fun ⟨a21, a23⟩ =>
  if (decide (a23 < a22)) = true then (slices_Concat_int64_u4 a20 a21 a22 a23).bind fun y35 =>
    some ((.inl ((y35, (IntKind.i64.wrap (a23 + 1))))))
  else some ((.inr a21))
def slices_Concat_int64_s6 (a44 : List (List Int)) (a45 : Int) : ((List Int) × Int) → Option (((List Int) × Int) ⊕ ((List Int))) := fun ⟨a43, a46⟩ =>
  if (decide (a46 < a45)) = true then (getI a44 a46).bind fun x47 =>
    if (okApp 8 ((a43 ++ x47)).length) = true then some ((.inl (((a43 ++ x47), (IntKind.i64.wrap (a46 + 1))))))
    else none
  else some ((.inr a43))
def slices_Concat_int64 (p0 : List (List Int)) : Option ((List Int)) :=
  (loopO (slices_Concat_int64_s5 p0 ((p0.length : Int))) ((0, 0))).bind fun y36 =>
  (slices_Grow_int64 ([]) y36).bind fun r37 =>
  (loopO (slices_Concat_int64_s6 p0 ((p0.length : Int))) ((r37, 0))).bind fun y48 =>
  some y48
@[go_sem] theorem slices_Concat_int64_u3_ok {β : Type} (fu n : Nat) (K : List (Kont β)) (a29 : List (List Int)) (a30 a31 a32 : Int) (a33 : Bool) : run ⟨(tab fu).own, lev (tab fu) (n + 1), (tab fu).gl⟩ K c68_u3 ⟨[(0, .val (.sh .lent 1 (rowE (eL .lent 1 (eI .i64)) a29))), (3, .val (.int .i64 a30)), (9, .val (.sh .lent 1 (rowE (eL .lent 1 (eI .i64)) a29))), (10, .val (.int .i64 a31)), (11, .val (.int .i64 a32)), (20, .val (.bool a33))], [], 36⟩ = (slices_Concat_int64_u3 a29 a30 a31 a32 a33).bind (fun t => plug ⟨(tab fu).own, lev (tab fu) (n + 1), (tab fu).gl⟩ K .normal ⟨[(0, .val (.sh .lent 1 (rowE (eL .lent 1 (eI .i64)) a29))), (3, .val (.int .i64 a30)), (9, .val (.sh .lent 1 (rowE (eL .lent 1 (eI .i64)) a29))), (10, .val (.int .i64 a31)), (11, .val (.int .i64 a32))], [], 36⟩) := by
  unfold c68_u3
  simp +contextual -implicitDefEqProofs (maxSteps := 99999999) only [slices_Concat_int64_u3, subI, go_sem] <;> rfl
@[go_sem] theorem slices_Concat_int64_u4_ok {β : Type} (fu n : Nat) (K : List (Kont β)) (a24 : List (List Int)) (a25 a26 a27 : Int) : run ⟨(tab fu).own, lev (tab fu) (n + 1), (tab fu).gl⟩ K c68_u4 ⟨[(0, .val (.sh .lent 1 (rowE (eL .lent 1 (eI .i64)) a24))), (3, .val (.int .i64 a25)), (9, .val (.sh .lent 1 (rowE (eL .lent 1 (eI .i64)) a24))), (10, .val (.int .i64 a26)), (11, .val (.int .i64 a27))], [], 36⟩ = (slices_Concat_int64_u4 a24 a25 a26 a27).bind (fun t => plug ⟨(tab fu).own, lev (tab fu) (n + 1), (tab fu).gl⟩ K .normal ⟨[(0, .val (.sh .lent 1 (rowE (eL .lent 1 (eI .i64)) a24))), (3, .val (.int .i64 t)), (9, .val (.sh .lent 1 (rowE (eL .lent 1 (eI .i64)) a24))), (10, .val (.int .i64 a26)), (11, .val (.int .i64 a27))], [], 36⟩) := by
  unfold c68_u4
  simp +contextual -implicitDefEqProofs (maxSteps := 99999999) only [slices_Concat_int64_u4, subI, go_sem] <;> rfl
@[go_sem] theorem slices_Concat_int64_s5_ok {β : Type} (fu n : Nat) (K : List (Kont β)) (a20 : List (List Int)) (a21 a22 a23 : Int) : run ⟨(tab fu).own, lev (tab fu) (n + 1), (tab fu).gl⟩ K (.loop c68_u5) ⟨[(0, .val (.sh .lent 1 (rowE (eL .lent 1 (eI .i64)) a20))), (3, .val (.int .i64 a21)), (9, .val (.sh .lent 1 (rowE (eL .lent 1 (eI .i64)) a20))), (10, .val (.int .i64 a22)), (11, .val (.int .i64 a23))], [], 36⟩ = (loopO (slices_Concat_int64_s5 a20 a22) ((a21, a23))).bind (fun t => plug ⟨(tab fu).own, lev (tab fu) (n + 1), (tab fu).gl⟩ K (.exit 0) ⟨[(0, .val (.sh .lent 1 (rowE (eL .lent 1 (eI .i64)) a20))), (3, .val (.int .i64 t))], [], 36⟩) := by
  refine loop_run (C := ⟨(tab fu).own, lev (tab fu) (n + 1), (tab fu).gl⟩) (K := K) (c := c68_u5) (slices_Concat_int64_s5 a20 a22) (fun s => ⟨[(0, .val (.sh .lent 1 (rowE (eL .lent 1 (eI .i64)) a20))), (3, .val (.int .i64 s.1)), (9, .val (.sh .lent 1 (rowE (eL .lent 1 (eI .i64)) a20))), (10, .val (.int .i64 a22)), (11, .val (.int .i64 s.2))], [], 36⟩) (fun t => plug ⟨(tab fu).own, lev (tab fu) (n + 1), (tab fu).gl⟩ K (.exit 0) ⟨[(0, .val (.sh .lent 1 (rowE (eL .lent 1 (eI .i64)) a20))), (3, .val (.int .i64 t))], [], 36⟩) (fun k s => ?_) ((a21, a23))
  obtain ⟨a21, a23⟩ := s
  unfold c68_u5
  simp +contextual -implicitDefEqProofs (maxSteps := 99999999) only [slices_Concat_int64_s5, subI, go_sem] <;> rfl
@[go_sem] theorem slices_Concat_int64_s6_ok {β : Type} (fu n : Nat) (K : List (Kont β)) (a43 : List Int) (a44 : List (List Int)) (a45 a46 : Int) : run ⟨(tab fu).own, lev (tab fu) (n + 1), (tab fu).gl⟩ K (.loop c68_u6) ⟨[(6, .sl 200000060 0 a43.length), (25, .val (.sh .lent 1 (rowE (eL .lent 1 (eI .i64)) a44))), (26, .val (.int .i64 a45)), (27, .val (.int .i64 a46))], [(200000060, .row false 1 (rowE (eI .i64) a43))], 36⟩ = (loopO (slices_Concat_int64_s6 a44 a45) ((a43, a46))).bind (fun t => plug ⟨(tab fu).own, lev (tab fu) (n + 1), (tab fu).gl⟩ K (.exit 2) ⟨[(6, .sl 200000060 0 t.length)], [(200000060, .row false 1 (rowE (eI .i64) t))], 36⟩) := by
  refine loop_run (C := ⟨(tab fu).own, lev (tab fu) (n + 1), (tab fu).gl⟩) (K := K) (c := c68_u6) (slices_Concat_int64_s6 a44 a45) (fun s => ⟨[(6, .sl 200000060 0 s.1.length), (25, .val (.sh .lent 1 (rowE (eL .lent 1 (eI .i64)) a44))), (26, .val (.int .i64 a45)), (27, .val (.int .i64 s.2))], [(200000060, .row false 1 (rowE (eI .i64) s.1))], 36⟩) (fun t => plug ⟨(tab fu).own, lev (tab fu) (n + 1), (tab fu).gl⟩ K (.exit 2) ⟨[(6, .sl 200000060 0 t.length)], [(200000060, .row false 1 (rowE (eI .i64) t))], 36⟩) (fun k s => ?_) ((a43, a46))
  obtain ⟨a43, a46⟩ := s
  unfold c68_u6
  simp +contextual -implicitDefEqProofs (maxSteps := 99999999) only [slices_Concat_int64_s6, subI, go_sem] <;> rfl
@[go_sem] theorem slices_Concat_int64_ok (fu n : Nat) (q0_0 : List (List Int)) : lev (tab fu) (n + 2) 68 [.sh .lent 1 (rowE (eL .lent 1 (eI .i64)) q0_0)] = (slices_Concat_int64 q0_0).map fun r => (.ow 1 (rowE (eI .i64) r), [.gone]) := by
  rw [lev_st (vc := c68) (nt := 36) (rs := [(2, none)]) ((tab_ext _ _ rfl).trans rfl) rfl (Nat.le_of_ble_eq_true rfl)]
  unfold c68
  simp +contextual -implicitDefEqProofs (maxSteps := 99999999) only [slices_Concat_int64, subI, go_sem] <;> rfl
def impl_PlayBlock_u1 (fu : Nat) (a4 : Int) (a5 a6 a7 : List Int) : Unit :=
  ()
def impl_PlayBlock_u2 (fu : Nat) (a12 : Int) (a13 a14 : List Int) (a15 a16 a17 : List Int) (a18 : Int) : Option ((List Int) × (List Int)) :=
  (cutI a15.length a18 (a15.length : Int)).bind fun w19 =>
  (slices_Clone_int64 ((((a15.drop w19.1)).take ((w19.2 - w19.1))))).bind fun r20 =>
  (slices_Concat_int64 ([a13, a16])).bind fun r21 =>
  some ((r20, r21))
def impl_PlayBlock (fu : Nat) (p0 : SSynth) (p1 : List Int) : Option (SPlayResult) :=
  (impl_SynthFault p0).bind fun r1 =>
  (impl_gatherFault p1).bind fun r2 =>
  (impl_first ([r1, (impl_codeIf (((p1.length : Int) != p0.Size)) 2), r2])).bind fun r3 =>
  if (r3 != 0) = true then some ((SPlayResult.mk r3 ((SSynth.mk 0 ([]) ([]))) ([])))
  else let y8 := impl_PlayBlock_u1 fu p0.Size p0.Head p0.Tail p1
    (impl_undo_gather_samples fu Sundo.mk p1).bind fun r9 =>
    (upI r9.length ((IntKind.i64.wrap (p0.Size.tdiv (2 : Int))))).bind fun w10 =>
    (impl_seam_impl_PlayBlock_1 p0.Tail ((r9.take w10)) p0.Size p0.Head p0.Tail).bind fun r11 =>
    (impl_PlayBlock_u2 fu p0.Size p0.Head p0.Tail r9 r11.1 r11.2 ((IntKind.i64.wrap (p0.Size.tdiv (2 : Int))))).bind fun y22 =>
    some ((SPlayResult.mk 0 ((SSynth.mk p0.Size r11.2 y22.1)) y22.2))
@[go_sem] theorem impl_PlayBlock_u1_ok {β : Type} (fu n : Nat) (K : List (Kont β)) (a4 : Int) (a5 a6 a7 : List Int) : run ⟨(tab fu).own, lev (tab fu) (n + 7), (tab fu).gl⟩ K c26_u1 ⟨[(1, .val (.sh .lent 1 (rowE (eI .i64) a7))), (2, .pt 200000020 0), (4, .pt 200000040 0)], [(200000020, .var false [.val (.int .i64 a4), .val (.sh .lent 1 (rowE (eI .i64) a5)), .val (.sh .lent 1 (rowE (eI .i64) a6))]), (200000040, .var false [.val (.int .i64 0), .val (.int .i64 0), .emp 1, .emp 1, .emp 1])], 58⟩ = (some (impl_PlayBlock_u1 fu a4 a5 a6 a7)).bind (fun t => plug ⟨(tab fu).own, lev (tab fu) (n + 7), (tab fu).gl⟩ K .normal ⟨[(1, .val (.sh .lent 1 (rowE (eI .i64) a7))), (2, .pt 200000020 0), (4, .pt 200000040 0), (6, .val (.int .i64 ((IntKind.i64.wrap (a4.tdiv (2 : Int)))))), (7, .pt 200000070 0)], [(200000020, .var false [.val (.int .i64 a4), .val (.sh .lent 1 (rowE (eI .i64) a5)), .val (.sh .lent 1 (rowE (eI .i64) a6))]), (200000040, .var false [.val (.int .i64 0), .val (.int .i64 0), .emp 1, .emp 1, .emp 1]), (200000070, .var false [.val (.fn 103 []), .val (.fn 106 [])])], 58⟩) := by
  unfold c26_u1
  rw [run_alts]
  · simp +contextual -implicitDefEqProofs (maxSteps := 99999999) only [impl_PlayBlock_u1, subI, go_sem] <;> (repeat first | rfl | refine bind_ext fun _ _ => ?_ | refine bind_swap fun _ _ _ _ => ?_)
  · refine ⟨?_, trivial⟩
    · simp +contextual -implicitDefEqProofs (maxSteps := 99999999) only [impl_PlayBlock_u1, subI, go_sem] <;> (repeat first | rfl | refine bind_ext fun _ _ => ?_ | refine bind_swap fun _ _ _ _ => ?_)
@[go_sem] theorem impl_PlayBlock_u2_ok {β : Type} (fu n : Nat) (K : List (Kont β)) (a12 : Int) (a13 a14 : List Int) (a15 a16 a17 : List Int) (a18 : Int) : run ⟨(tab fu).own, lev (tab fu) (n + 7), (tab fu).gl⟩ K c26_u2 ⟨[(2, .pt 200000020 0), (4, .pt 200000040 0), (6, .val (.int .i64 a18)), (8, .sl 200000080 0 a15.length), (9, .sl 200000090 0 a16.length), (10, .sl 200000100 0 a17.length)], [(200000020, .var false [.val (.int .i64 a12), .val (.sh .lent 1 (rowE (eI .i64) a13)), .val (.sh .lent 1 (rowE (eI .i64) a14))]), (200000040, .var false [.val (.int .i64 0), .val (.int .i64 0), .emp 1, .emp 1, .emp 1]), (200000080, .row false 1 (rowE (eI .i64) a15)), (200000090, .row false 1 (rowE (eI .i64) a16)), (200000100, .row false 1 (rowE (eI .i64) a17))], 58⟩ = (impl_PlayBlock_u2 fu a12 a13 a14 a15 a16 a17 a18).bind (fun t => plug ⟨(tab fu).own, lev (tab fu) (n + 7), (tab fu).gl⟩ K .normal ⟨[(4, .pt 200000040 0)], [(200000040, .var false [.val (.int .i64 0), .val (.int .i64 a12), .sl 200000041 0 a17.length, .sl 200000042 0 t.1.length, .sl 200000043 0 t.2.length]), (200000041, .row false 1 (rowE (eI .i64) a17)), (200000042, .row false 1 (rowE (eI .i64) t.1)), (200000043, .row false 1 (rowE (eI .i64) t.2))], 58⟩) := by
  unfold c26_u2
  rw [run_alts]
  · simp +contextual -implicitDefEqProofs (maxSteps := 99999999) only [impl_PlayBlock_u2, subI, go_sem] <;> (repeat first | rfl | refine bind_ext fun _ _ => ?_ | refine bind_swap fun _ _ _ _ => ?_)
  · refine ⟨?_, trivial⟩
    · simp +contextual -implicitDefEqProofs (maxSteps := 99999999) only [impl_PlayBlock_u2, subI, go_sem] <;> (repeat first | rfl | refine bind_ext fun _ _ => ?_ | refine bind_swap fun _ _ _ _ => ?_)
@[go_sem] theorem impl_PlayBlock_ok (fu n : Nat) (q0_0 : Int) (q0_1 q0_2 q1_0 : List Int) : lev (tab fu) (n + 8) 26 [.agg [.int .i64 q0_0, .sh .lent 1 (rowE (eI .i64) q0_1), .sh .lent 1 (rowE (eI .i64) q0_2)], .sh .lent 1 (rowE (eI .i64) q1_0)] = (impl_PlayBlock fu (SSynth.mk q0_0 q0_1 q0_2) q1_0).map fun r => (.agg [.int .i64 r.Code, .int .i64 r.Synth.Size, .ow 1 (rowE (eI .i64) r.Synth.Head), .ow 1 (rowE (eI .i64) r.Synth.Tail), .ow 1 (rowE (eI .i64) r.Frame)], [.gone, .gone]) := by
  rw [lev_st (vc := c26) (nt := 58) (rs := [(4, some (some 5))]) ((tab_ext _ _ rfl).trans rfl) rfl (Nat.le_of_ble_eq_true rfl)]
  unfold c26
  simp +contextual -implicitDefEqProofs (maxSteps := 99999999) only [impl_PlayBlock, subI, go_sem] <;> rfl
def impl_Clamp16 (p0 : Int) : Int :=
  (mnI ((mxI p0 ((-32768)))) 32767)
@[go_sem] theorem impl_Clamp16_ok (fu n : Nat) (q0_0 : Int) : lev (tab fu) (n + 1) 28 [.int .i64 q0_0] = (some (impl_Clamp16 q0_0)).map fun r => (.int .i64 r, [.gone]) := by
  rw [lev_st (vc := c28) (nt := 6) (rs := [(2, none)]) ((tab_ext _ _ rfl).trans rfl) rfl (Nat.le_of_ble_eq_true rfl)]
  unfold c28
  simp +contextual -implicitDefEqProofs (maxSteps := 99999999) only [impl_Clamp16, subI, go_sem] <;> rfl
def impl_ReferenceOf_s1 (fu : Nat) (a11 : Int) (a12 : List SFrame) (a13 : Int) : Int → Option ((Int) ⊕ (Unit ⊕ Int)) := fun a14 =>
  if (decide (a14 < a13)) = true then (getI a12 a14).bind fun x15 =>
    (impl_FrameFault x15).bind fun r16 =>
    (impl_first ([r16, (impl_codeIf ((x15.Size != a11)) 1)])).bind fun r17 =>
    if (r17 != 0) = true then some ((.inr ((.inr r17))))
    else some ((.inl ((IntKind.i64.wrap (a14 + 1)))))
  else some ((.inr ((.inl (())))))
def impl_ReferenceOf_u4 (fu : Nat) (a145 : Int) (a146 a147 : List Int) (a148 : List (List Int)) (a149 a150 : Int) (a151 a152 a153 : Int) (a154 a155 : List Int) (a156 : List (List Int)) (a157 : List SFrame) (a158 a159 : Int) : Option (Int × Int × (List Int) × (List Int) × (List Int)) :=
  (impl_CentralCoefs fu ((SFrame.mk a149 a150 a151 a152 a153 a154 a155 a156))).bind fun r160 =>
  (impl_PlayBlock fu ((SSynth.mk a145 a146 a147)) r160.List_).bind fun r161 =>
  some ((r161.Code, r161.Synth.Size, r161.Synth.Head, r161.Synth.Tail, r161.Frame))
def impl_ReferenceOf_s5 (fu : Nat) (a178 : Int) (a179 a180 : List Int) (a181 : List (List Int)) (a182 : Int) (a184 : List SFrame) (a185 a186 a187 : Int) : ((List Int) × Int) → Option (((List Int) × Int) ⊕ ((List Int))) := fun ⟨a183, a188⟩ =>
  if (decide (a188 < a187)) = true then (getI a183 a188).bind fun _ =>
    (a183[a188.toNat]?).bind fun x189 =>
    (getI a183 a188).bind fun _ =>
    (a183[a188.toNat]?).bind fun _ =>
    some ((.inl (((a183.set a188.toNat ((impl_Clamp16 x189))), (IntKind.i64.wrap (a188 + 1))))))
  else some ((.inr a183))
def impl_ReferenceOf_s6 (fu : Nat) (a141 : List SFrame) (a142 : Int) : (Int × (List Int) × (List Int) × (List (List Int)) × Int) → Option ((Int × (List Int) × (List Int) × (List (List Int)) × Int) ⊕ (((List (List Int))) ⊕ Int)) := fun ⟨a137, a138, a139, a140, a143⟩ =>
  if (decide (a143 < a142)) = true then (getI a141 a143).bind fun x144 =>
    (impl_ReferenceOf_u4 fu a137 a138 a139 a140 x144.Number x144.Size x144.Rung x144.Mask x144.Spread x144.Lows x144.Gains x144.Pulses a141 a142 a143).bind fun y162 =>
    if (y162.1 != 0) = true then some ((.inr ((.inr y162.1))))
    else (loopO (impl_ReferenceOf_s5 fu y162.2.1 y162.2.2.1 y162.2.2.2.1 a140 y162.1 a141 a142 a143 ((y162.2.2.2.2.length : Int))) ((y162.2.2.2.2, 0))).bind fun y191 =>
      if (okApp 24 ((a140 ++ ([y191]))).length) = true then some ((.inl ((y162.2.1, y162.2.2.1, y162.2.2.2.1, (a140 ++ ([y191])), (IntKind.i64.wrap (a143 + 1))))))
      else none
  else some ((.inr ((.inl a140))))
def impl_ReferenceOf (fu : Nat) (p0 : Int) (p1 : List SFrame) : Option (SFramesResult) :=
  (impl_first ([(impl_codeIf ((decide ((p1.length : Int) > 40))) 2), (impl_SizeFault p0)])).bind fun r1 =>
  if (r1 != 0) = true then some ((SFramesResult.mk r1 ([])))
  else (loopO (impl_ReferenceOf_s1 fu p0 p1 ((p1.length : Int))) 0).bind fun t => (Sum.elim (fun y18 => (impl_NewSynth p0).bind fun r19 =>
      (loopO (impl_ReferenceOf_s6 fu p1 ((p1.length : Int))) ((r19.Synth.Size, r19.Synth.Head, r19.Synth.Tail, [], 0))).bind fun t => (Sum.elim (fun y192 => some ((SFramesResult.mk 0 y192)))
       (fun y193 => some ((SFramesResult.mk y193 ([]))))) t)
     (fun y194 => some ((SFramesResult.mk y194 ([]))))) t
@[go_sem] theorem impl_ReferenceOf_s1_ok {β : Type} (fu n : Nat) (K : List (Kont β)) (a11 : Int) (a12 : List SFrame) (a13 a14 : Int) : run ⟨(tab fu).own, lev (tab fu) (n + 10), (tab fu).gl⟩ K (.loop c7_u1) ⟨[(0, .val (.int .i64 a11)), (1, .val (.sh .lent 8 (rowE (SFrame.cells .lent) a12))), (4, .pt 200000040 0), (28, .val (.sh .lent 8 (rowE (SFrame.cells .lent) a12))), (29, .val (.int .i64 a13)), (30, .val (.int .i64 a14))], [(200000040, .var false [.val (.int .i64 0), .emp 1])], 94⟩ = (loopO (impl_ReferenceOf_s1 fu a11 a12 a13) a14).bind (fun t => (Sum.elim (fun t => plug ⟨(tab fu).own, lev (tab fu) (n + 10), (tab fu).gl⟩ K (.exit 0) ⟨[(0, .val (.int .i64 a11)), (1, .val (.sh .lent 8 (rowE (SFrame.cells .lent) a12))), (4, .pt 200000040 0)], [(200000040, .var false [.val (.int .i64 0), .emp 1])], 94⟩) (fun t => plug ⟨(tab fu).own, lev (tab fu) (n + 10), (tab fu).gl⟩ K .ret ⟨[(4, .pt 200000040 0)], [(200000040, .var false [.val (.int .i64 t), .emp 1])], 94⟩)) t) := by
  refine loop_run (C := ⟨(tab fu).own, lev (tab fu) (n + 10), (tab fu).gl⟩) (K := K) (c := c7_u1) (impl_ReferenceOf_s1 fu a11 a12 a13) (fun s => ⟨[(0, .val (.int .i64 a11)), (1, .val (.sh .lent 8 (rowE (SFrame.cells .lent) a12))), (4, .pt 200000040 0), (28, .val (.sh .lent 8 (rowE (SFrame.cells .lent) a12))), (29, .val (.int .i64 a13)), (30, .val (.int .i64 s))], [(200000040, .var false [.val (.int .i64 0), .emp 1])], 94⟩) (fun t => (Sum.elim (fun t => plug ⟨(tab fu).own, lev (tab fu) (n + 10), (tab fu).gl⟩ K (.exit 0) ⟨[(0, .val (.int .i64 a11)), (1, .val (.sh .lent 8 (rowE (SFrame.cells .lent) a12))), (4, .pt 200000040 0)], [(200000040, .var false [.val (.int .i64 0), .emp 1])], 94⟩) (fun t => plug ⟨(tab fu).own, lev (tab fu) (n + 10), (tab fu).gl⟩ K .ret ⟨[(4, .pt 200000040 0)], [(200000040, .var false [.val (.int .i64 t), .emp 1])], 94⟩)) t) (fun k s => ?_) a14
  unfold c7_u1
  simp +contextual -implicitDefEqProofs (maxSteps := 99999999) only [impl_ReferenceOf_s1, subI, go_sem] <;> rfl
@[go_sem] theorem impl_ReferenceOf_u4_ok {β : Type} (fu n : Nat) (K : List (Kont β)) (a145 : Int) (a146 a147 : List Int) (a148 : List (List Int)) (a149 a150 : Int) (a151 a152 a153 : Int) (a154 a155 : List Int) (a156 : List (List Int)) (a157 : List SFrame) (a158 a159 : Int) : run ⟨(tab fu).own, lev (tab fu) (n + 10), (tab fu).gl⟩ K c7_u4 ⟨[(4, .pt 200000040 0), (9, .pt 200000090 0), (10, .sl 200000100 0 a148.length), (12, .pt 200000120 0), (52, .val (.sh .lent 8 (rowE (SFrame.cells .lent) a157))), (53, .val (.int .i64 a158)), (54, .val (.int .i64 a159))], [(200000040, .var false [.val (.int .i64 0), .emp 1]), (200000090, .var false [.val (.int .i64 a145), .sl 200000091 0 a146.length, .sl 200000092 0 a147.length]), (200000091, .row false 1 (rowE (eI .i64) a146)), (200000092, .row false 1 (rowE (eI .i64) a147)), (200000100, .row false 1 (rowE (eL .own 1 (eI .i64)) a148)), (200000120, .var false [.val (.int .i64 a149), .val (.int .i64 a150), .val (.int .i64 a151), .val (.int .i64 a152), .val (.int .i64 a153), .val (.sh .lent 1 (rowE (eI .i64) a154)), .val (.sh .lent 1 (rowE (eI .i64) a155)), .val (.sh .lent 1 (rowE (eL .lent 1 (eI .i64)) a156))])], 94⟩ = (impl_ReferenceOf_u4 fu a145 a146 a147 a148 a149 a150 a151 a152 a153 a154 a155 a156 a157 a158 a159).bind (fun t => plug ⟨(tab fu).own, lev (tab fu) (n + 10), (tab fu).gl⟩ K .normal ⟨[(4, .pt 200000040 0), (9, .pt 200000090 0), (10, .sl 200000100 0 a148.length), (13, .pt 200000130 0), (52, .val (.sh .lent 8 (rowE (SFrame.cells .lent) a157))), (53, .val (.int .i64 a158)), (54, .val (.int .i64 a159))], [(200000040, .var false [.val (.int .i64 0), .emp 1]), (200000090, .var false [.val (.int .i64 a145), .sl 200000091 0 a146.length, .sl 200000092 0 a147.length]), (200000091, .row false 1 (rowE (eI .i64) a146)), (200000092, .row false 1 (rowE (eI .i64) a147)), (200000100, .row false 1 (rowE (eL .own 1 (eI .i64)) a148)), (200000130, .var false [.val (.int .i64 t.1), .val (.int .i64 t.2.1), .sl 200000131 0 t.2.2.1.length, .sl 200000132 0 t.2.2.2.1.length, .sl 200000133 0 t.2.2.2.2.length]), (200000131, .row false 1 (rowE (eI .i64) t.2.2.1)), (200000132, .row false 1 (rowE (eI .i64) t.2.2.2.1)), (200000133, .row false 1 (rowE (eI .i64) t.2.2.2.2))], 94⟩) := by
  unfold c7_u4
  rw [run_alts]
  · simp +contextual -implicitDefEqProofs (maxSteps := 99999999) only [impl_ReferenceOf_u4, subI, go_sem] <;> (repeat first | rfl | refine bind_ext fun _ _ => ?_ | refine bind_swap fun _ _ _ _ => ?_)
  · refine ⟨?_, ?_, trivial⟩
    · simp +contextual -implicitDefEqProofs (maxSteps := 99999999) only [impl_ReferenceOf_u4, subI, go_sem] <;> (repeat first | rfl | refine bind_ext fun _ _ => ?_ | refine bind_swap fun _ _ _ _ => ?_)
    · simp +contextual -implicitDefEqProofs (maxSteps := 99999999) only [impl_ReferenceOf_u4, subI, go_sem] <;> (repeat first | rfl | refine bind_ext fun _ _ => ?_ | refine bind_swap fun _ _ _ _ => ?_)
@[go_sem] theorem impl_ReferenceOf_s5_ok {β : Type} (fu n : Nat) (K : List (Kont β)) (a178 : Int) (a179 a180 : List Int) (a181 : List (List Int)) (a182 : Int) (a183 : List Int) (a184 : List SFrame) (a185 a186 : Int) (a187 a188 : Int) : run ⟨(tab fu).own, lev (tab fu) (n + 10), (tab fu).gl⟩ K (.loop c7_u5) ⟨[(4, .pt 200000040 0), (9, .pt 200000090 0), (10, .sl 200000100 0 a181.length), (13, .pt 200000130 0), (52, .val (.sh .lent 8 (rowE (SFrame.cells .lent) a184))), (53, .val (.int .i64 a185)), (54, .val (.int .i64 a186)), (72, .sl 200000131 0 a183.length), (73, .val (.int .i64 a187)), (74, .val (.int .i64 a188))], [(200000040, .var false [.val (.int .i64 0), .emp 1]), (200000090, .var false [.val (.int .i64 a178), .sl 200000091 0 a179.length, .sl 200000092 0 a180.length]), (200000091, .row false 1 (rowE (eI .i64) a179)), (200000092, .row false 1 (rowE (eI .i64) a180)), (200000100, .row false 1 (rowE (eL .own 1 (eI .i64)) a181)), (200000130, .var false [.val (.int .i64 a182), .val (.int .i64 a178), .sl 200000091 0 a179.length, .sl 200000092 0 a180.length, .sl 200000131 0 a183.length]), (200000131, .row false 1 (rowE (eI .i64) a183))], 94⟩ = (loopO (impl_ReferenceOf_s5 fu a178 a179 a180 a181 a182 a184 a185 a186 a187) ((a183, a188))).bind (fun t => plug ⟨(tab fu).own, lev (tab fu) (n + 10), (tab fu).gl⟩ K (.exit 4) ⟨[(4, .pt 200000040 0), (9, .pt 200000090 0), (10, .sl 200000100 0 a181.length), (13, .pt 200000130 0), (52, .val (.sh .lent 8 (rowE (SFrame.cells .lent) a184))), (53, .val (.int .i64 a185)), (54, .val (.int .i64 a186))], [(200000040, .var false [.val (.int .i64 0), .emp 1]), (200000090, .var false [.val (.int .i64 a178), .sl 200000091 0 a179.length, .sl 200000092 0 a180.length]), (200000091, .row false 1 (rowE (eI .i64) a179)), (200000092, .row false 1 (rowE (eI .i64) a180)), (200000100, .row false 1 (rowE (eL .own 1 (eI .i64)) a181)), (200000130, .var false [.val (.int .i64 a182), .val (.int .i64 a178), .sl 200000091 0 a179.length, .sl 200000092 0 a180.length, .sl 200000131 0 t.length]), (200000131, .row false 1 (rowE (eI .i64) t))], 94⟩) := by
  refine loop_run (C := ⟨(tab fu).own, lev (tab fu) (n + 10), (tab fu).gl⟩) (K := K) (c := c7_u5) (impl_ReferenceOf_s5 fu a178 a179 a180 a181 a182 a184 a185 a186 a187) (fun s => ⟨[(4, .pt 200000040 0), (9, .pt 200000090 0), (10, .sl 200000100 0 a181.length), (13, .pt 200000130 0), (52, .val (.sh .lent 8 (rowE (SFrame.cells .lent) a184))), (53, .val (.int .i64 a185)), (54, .val (.int .i64 a186)), (72, .sl 200000131 0 s.1.length), (73, .val (.int .i64 a187)), (74, .val (.int .i64 s.2))], [(200000040, .var false [.val (.int .i64 0), .emp 1]), (200000090, .var false [.val (.int .i64 a178), .sl 200000091 0 a179.length, .sl 200000092 0 a180.length]), (200000091, .row false 1 (rowE (eI .i64) a179)), (200000092, .row false 1 (rowE (eI .i64) a180)), (200000100, .row false 1 (rowE (eL .own 1 (eI .i64)) a181)), (200000130, .var false [.val (.int .i64 a182), .val (.int .i64 a178), .sl 200000091 0 a179.length, .sl 200000092 0 a180.length, .sl 200000131 0 s.1.length]), (200000131, .row false 1 (rowE (eI .i64) s.1))], 94⟩) (fun t => plug ⟨(tab fu).own, lev (tab fu) (n + 10), (tab fu).gl⟩ K (.exit 4) ⟨[(4, .pt 200000040 0), (9, .pt 200000090 0), (10, .sl 200000100 0 a181.length), (13, .pt 200000130 0), (52, .val (.sh .lent 8 (rowE (SFrame.cells .lent) a184))), (53, .val (.int .i64 a185)), (54, .val (.int .i64 a186))], [(200000040, .var false [.val (.int .i64 0), .emp 1]), (200000090, .var false [.val (.int .i64 a178), .sl 200000091 0 a179.length, .sl 200000092 0 a180.length]), (200000091, .row false 1 (rowE (eI .i64) a179)), (200000092, .row false 1 (rowE (eI .i64) a180)), (200000100, .row false 1 (rowE (eL .own 1 (eI .i64)) a181)), (200000130, .var false [.val (.int .i64 a182), .val (.int .i64 a178), .sl 200000091 0 a179.length, .sl 200000092 0 a180.length, .sl 200000131 0 t.length]), (200000131, .row false 1 (rowE (eI .i64) t))], 94⟩) (fun k s => ?_) ((a183, a188))
  obtain ⟨a183, a188⟩ := s
  unfold c7_u5
  simp +contextual -implicitDefEqProofs (maxSteps := 99999999) only [impl_ReferenceOf_s5, subI, go_sem] <;> rfl
@[go_sem] theorem impl_ReferenceOf_s6_ok {β : Type} (fu n : Nat) (K : List (Kont β)) (a137 : Int) (a138 a139 : List Int) (a140 : List (List Int)) (a141 : List SFrame) (a142 a143 : Int) : run ⟨(tab fu).own, lev (tab fu) (n + 10), (tab fu).gl⟩ K (.loop c7_u6) ⟨[(4, .pt 200000040 0), (9, .pt 200000090 0), (10, .sl 200000100 0 a140.length), (52, .val (.sh .lent 8 (rowE (SFrame.cells .lent) a141))), (53, .val (.int .i64 a142)), (54, .val (.int .i64 a143))], [(200000040, .var false [.val (.int .i64 0), .emp 1]), (200000090, .var false [.val (.int .i64 a137), .sl 200000091 0 a138.length, .sl 200000092 0 a139.length]), (200000091, .row false 1 (rowE (eI .i64) a138)), (200000092, .row false 1 (rowE (eI .i64) a139)), (200000100, .row false 1 (rowE (eL .own 1 (eI .i64)) a140))], 94⟩ = (loopO (impl_ReferenceOf_s6 fu a141 a142) ((a137, a138, a139, a140, a143))).bind (fun t => (Sum.elim (fun t => plug ⟨(tab fu).own, lev (tab fu) (n + 10), (tab fu).gl⟩ K (.exit 2) ⟨[(4, .pt 200000040 0), (10, .sl 200000100 0 t.length)], [(200000040, .var false [.val (.int .i64 0), .emp 1]), (200000100, .row false 1 (rowE (eL .own 1 (eI .i64)) t))], 94⟩) (fun t => plug ⟨(tab fu).own, lev (tab fu) (n + 10), (tab fu).gl⟩ K .ret ⟨[(4, .pt 200000040 0)], [(200000040, .var false [.val (.int .i64 t), .emp 1])], 94⟩)) t) := by
  refine loop_run (C := ⟨(tab fu).own, lev (tab fu) (n + 10), (tab fu).gl⟩) (K := K) (c := c7_u6) (impl_ReferenceOf_s6 fu a141 a142) (fun s => ⟨[(4, .pt 200000040 0), (9, .pt 200000090 0), (10, .sl 200000100 0 s.2.2.2.1.length), (52, .val (.sh .lent 8 (rowE (SFrame.cells .lent) a141))), (53, .val (.int .i64 a142)), (54, .val (.int .i64 s.2.2.2.2))], [(200000040, .var false [.val (.int .i64 0), .emp 1]), (200000090, .var false [.val (.int .i64 s.1), .sl 200000091 0 s.2.1.length, .sl 200000092 0 s.2.2.1.length]), (200000091, .row false 1 (rowE (eI .i64) s.2.1)), (200000092, .row false 1 (rowE (eI .i64) s.2.2.1)), (200000100, .row false 1 (rowE (eL .own 1 (eI .i64)) s.2.2.2.1))], 94⟩) (fun t => (Sum.elim (fun t => plug ⟨(tab fu).own, lev (tab fu) (n + 10), (tab fu).gl⟩ K (.exit 2) ⟨[(4, .pt 200000040 0), (10, .sl 200000100 0 t.length)], [(200000040, .var false [.val (.int .i64 0), .emp 1]), (200000100, .row false 1 (rowE (eL .own 1 (eI .i64)) t))], 94⟩) (fun t => plug ⟨(tab fu).own, lev (tab fu) (n + 10), (tab fu).gl⟩ K .ret ⟨[(4, .pt 200000040 0)], [(200000040, .var false [.val (.int .i64 t), .emp 1])], 94⟩)) t) (fun k s => ?_) ((a137, a138, a139, a140, a143))
  obtain ⟨a137, a138, a139, a140, a143⟩ := s
  unfold c7_u6
  simp +contextual -implicitDefEqProofs (maxSteps := 99999999) only [impl_ReferenceOf_s6, subI, go_sem] <;> rfl
@[go_sem] theorem impl_ReferenceOf_s6_ok_e {β : Type} (fu n : Nat) (K : List (Kont β)) (a137 : Int) (a138 a139 : List Int) (a141 : List SFrame) (a142 a143 : Int) : run ⟨(tab fu).own, lev (tab fu) (n + 10), (tab fu).gl⟩ K (.loop c7_u6) ⟨[(4, .pt 200000040 0), (9, .pt 200000090 0), (10, .sl 200000100 0 0), (52, .val (.sh .lent 8 (rowE (SFrame.cells .lent) a141))), (53, .val (.int .i64 a142)), (54, .val (.int .i64 a143))], [(200000040, .var false [.val (.int .i64 0), .emp 1]), (200000090, .var false [.val (.int .i64 a137), .sl 200000091 0 a138.length, .sl 200000092 0 a139.length]), (200000091, .row false 1 (rowE (eI .i64) a138)), (200000092, .row false 1 (rowE (eI .i64) a139)), (200000100, .row false 1 [])], 94⟩ = (loopO (impl_ReferenceOf_s6 fu a141 a142) ((a137, a138, a139, [], a143))).bind (fun t => (Sum.elim (fun t => plug ⟨(tab fu).own, lev (tab fu) (n + 10), (tab fu).gl⟩ K (.exit 2) ⟨[(4, .pt 200000040 0), (10, .sl 200000100 0 t.length)], [(200000040, .var false [.val (.int .i64 0), .emp 1]), (200000100, .row false 1 (rowE (eL .own 1 (eI .i64)) t))], 94⟩) (fun t => plug ⟨(tab fu).own, lev (tab fu) (n + 10), (tab fu).gl⟩ K .ret ⟨[(4, .pt 200000040 0)], [(200000040, .var false [.val (.int .i64 t), .emp 1])], 94⟩)) t) := impl_ReferenceOf_s6_ok fu n K a137 a138 a139 [] a141 a142 a143
@[go_sem] theorem impl_ReferenceOf_ok (fu n : Nat) (q0_0 : Int) (q1_0 : List SFrame) : lev (tab fu) (n + 11) 7 [.int .i64 q0_0, .sh .lent 8 (rowE (SFrame.cells .lent) q1_0)] = (impl_ReferenceOf fu q0_0 q1_0).map fun r => (.agg [.int .i64 r.Code, .ow 1 (rowE (eL .own 1 (eI .i64)) r.Frames)], [.gone, .gone]) := by
  rw [lev_st (vc := c7) (nt := 94) (rs := [(4, some (some 2))]) ((tab_ext _ _ rfl).trans rfl) rfl (Nat.le_of_ble_eq_true rfl)]
  unfold c7
  simp +contextual -implicitDefEqProofs (maxSteps := 99999999) only [impl_ReferenceOf, subI, go_sem] <;> rfl
def laws_eqInt64S_s1 (a6 a7 : List Int) : Int → Option ((Int) ⊕ (Unit ⊕ Unit)) := fun a8 =>
  if (decide (a8 < (a6.length : Int))) = true then (getI a6 a8).bind fun x9 =>
    (getI a7 a8).bind fun x10 =>
    if (x9 != x10) = true then some ((.inr ((.inr (())))))
    else some ((.inl ((IntKind.i64.wrap (a8 + 1)))))
  else some ((.inr ((.inl (())))))
def laws_eqInt64S (p0 p1 : List Int) : Option (Bool) :=
  if ((p0.length : Int) != (p1.length : Int)) = true then some false
  else (loopO (laws_eqInt64S_s1 p0 p1) 0).bind fun t => (Sum.elim (fun y11 => some true)
     (fun y12 => some false)) t
@[go_sem] theorem laws_eqInt64S_s1_ok {β : Type} (fu n : Nat) (K : List (Kont β)) (a6 a7 : List Int) (a8 : Int) : run ⟨(tab fu).own, lev (tab fu) n, (tab fu).gl⟩ K (.loop c73_u1) ⟨[(0, .val (.sh .lent 1 (rowE (eI .i64) a6))), (1, .val (.sh .lent 1 (rowE (eI .i64) a7))), (5, .val (.int .i64 a8))], [], 26⟩ = (loopO (laws_eqInt64S_s1 a6 a7) a8).bind (fun t => (Sum.elim (fun t => plug ⟨(tab fu).own, lev (tab fu) n, (tab fu).gl⟩ K (.exit 0) ⟨[], [], 26⟩) (fun t => plug ⟨(tab fu).own, lev (tab fu) n, (tab fu).gl⟩ K .ret ⟨[(4, .val (.bool false))], [], 26⟩)) t) := by
  refine loop_run (C := ⟨(tab fu).own, lev (tab fu) n, (tab fu).gl⟩) (K := K) (c := c73_u1) (laws_eqInt64S_s1 a6 a7) (fun s => ⟨[(0, .val (.sh .lent 1 (rowE (eI .i64) a6))), (1, .val (.sh .lent 1 (rowE (eI .i64) a7))), (5, .val (.int .i64 s))], [], 26⟩) (fun t => (Sum.elim (fun t => plug ⟨(tab fu).own, lev (tab fu) n, (tab fu).gl⟩ K (.exit 0) ⟨[], [], 26⟩) (fun t => plug ⟨(tab fu).own, lev (tab fu) n, (tab fu).gl⟩ K .ret ⟨[(4, .val (.bool false))], [], 26⟩)) t) (fun k s => ?_) a8
  unfold c73_u1
  simp +contextual -implicitDefEqProofs (maxSteps := 99999999) only [laws_eqInt64S_s1, subI, go_sem] <;> rfl
@[go_sem] theorem laws_eqInt64S_ok (fu n : Nat) (q0_0 q1_0 : List Int) : lev (tab fu) (n + 1) 73 [.sh .lent 1 (rowE (eI .i64) q0_0), .sh .lent 1 (rowE (eI .i64) q1_0)] = (laws_eqInt64S q0_0 q1_0).map fun r => (.bool r, [.gone, .gone]) := by
  rw [lev_st (vc := c73) (nt := 26) (rs := [(4, none)]) ((tab_ext _ _ rfl).trans rfl) rfl (Nat.le_of_ble_eq_true rfl)]
  unfold c73
  simp +contextual -implicitDefEqProofs (maxSteps := 99999999) only [laws_eqInt64S, subI, go_sem] <;> rfl
def laws_eqInt64SS_s1 (a7 a8 : List (List Int)) : Int → Option ((Int) ⊕ (Unit ⊕ Unit)) := fun a9 =>
  if (decide (a9 < (a7.length : Int))) = true then (getI a7 a9).bind fun x10 =>
    (getI a8 a9).bind fun x11 =>
    (laws_eqInt64S x10 x11).bind fun r12 =>
    if r12 = true then some ((.inl ((IntKind.i64.wrap (a9 + 1)))))
    else some ((.inr ((.inr (())))))
  else some ((.inr ((.inl (())))))
def laws_eqInt64SS (p0 p1 : List (List Int)) : Option (Bool) :=
  if ((p0.length : Int) != (p1.length : Int)) = true then some false
  else (loopO (laws_eqInt64SS_s1 p0 p1) 0).bind fun t => (Sum.elim (fun y13 => some true)
     (fun y14 => some false)) t
@[go_sem] theorem laws_eqInt64SS_s1_ok {β : Type} (fu n : Nat) (K : List (Kont β)) (a7 a8 : List (List Int)) (a9 : Int) : run ⟨(tab fu).own, lev (tab fu) (n + 1), (tab fu).gl⟩ K (.loop c29_u1) ⟨[(0, .val (.sh .lent 1 (rowE (eL .lent 1 (eI .i64)) a7))), (1, .val (.sh .lent 1 (rowE (eL .lent 1 (eI .i64)) a8))), (5, .val (.int .i64 a9))], [], 27⟩ = (loopO (laws_eqInt64SS_s1 a7 a8) a9).bind (fun t => (Sum.elim (fun t => plug ⟨(tab fu).own, lev (tab fu) (n + 1), (tab fu).gl⟩ K (.exit 0) ⟨[], [], 27⟩) (fun t => plug ⟨(tab fu).own, lev (tab fu) (n + 1), (tab fu).gl⟩ K .ret ⟨[(4, .val (.bool false))], [], 27⟩)) t) := by
  refine loop_run (C := ⟨(tab fu).own, lev (tab fu) (n + 1), (tab fu).gl⟩) (K := K) (c := c29_u1) (laws_eqInt64SS_s1 a7 a8) (fun s => ⟨[(0, .val (.sh .lent 1 (rowE (eL .lent 1 (eI .i64)) a7))), (1, .val (.sh .lent 1 (rowE (eL .lent 1 (eI .i64)) a8))), (5, .val (.int .i64 s))], [], 27⟩) (fun t => (Sum.elim (fun t => plug ⟨(tab fu).own, lev (tab fu) (n + 1), (tab fu).gl⟩ K (.exit 0) ⟨[], [], 27⟩) (fun t => plug ⟨(tab fu).own, lev (tab fu) (n + 1), (tab fu).gl⟩ K .ret ⟨[(4, .val (.bool false))], [], 27⟩)) t) (fun k s => ?_) a9
  unfold c29_u1
  simp +contextual -implicitDefEqProofs (maxSteps := 99999999) only [laws_eqInt64SS_s1, subI, go_sem] <;> rfl
@[go_sem] theorem laws_eqInt64SS_ok (fu n : Nat) (q0_0 q1_0 : List (List Int)) : lev (tab fu) (n + 2) 29 [.sh .lent 1 (rowE (eL .lent 1 (eI .i64)) q0_0), .sh .lent 1 (rowE (eL .lent 1 (eI .i64)) q1_0)] = (laws_eqInt64SS q0_0 q1_0).map fun r => (.bool r, [.gone, .gone]) := by
  rw [lev_st (vc := c29) (nt := 27) (rs := [(4, none)]) ((tab_ext _ _ rfl).trans rfl) rfl (Nat.le_of_ble_eq_true rfl)]
  unfold c29
  simp +contextual -implicitDefEqProofs (maxSteps := 99999999) only [laws_eqInt64SS, subI, go_sem] <;> rfl
def laws_eqFramesResult (p0 p1 : SFramesResult) : Option (Bool) :=
  if (p0.Code != p1.Code) = true then some false
  else (laws_eqInt64SS p0.Frames p1.Frames).bind fun r1 =>
    if r1 = true then some true
    else some false
@[go_sem] theorem laws_eqFramesResult_ok (fu n : Nat) (q0_0 : Int) (q0_1 : List (List Int)) (q1_0 : Int) (q1_1 : List (List Int)) : lev (tab fu) (n + 3) 8 [.agg [.int .i64 q0_0, .sh .lent 1 (rowE (eL .lent 1 (eI .i64)) q0_1)], .agg [.int .i64 q1_0, .sh .lent 1 (rowE (eL .lent 1 (eI .i64)) q1_1)]] = (laws_eqFramesResult (SFramesResult.mk q0_0 q0_1) (SFramesResult.mk q1_0 q1_1)).map fun r => (.bool r, [.gone, .gone]) := by
  rw [lev_st (vc := c8) (nt := 16) (rs := [(4, none)]) ((tab_ext _ _ rfl).trans rfl) rfl (Nat.le_of_ble_eq_true rfl)]
  unfold c8
  simp +contextual -implicitDefEqProofs (maxSteps := 99999999) only [laws_eqFramesResult, subI, go_sem] <;> rfl
def laws_eqFrame_u1 (a18 a19 : Int) (a20 a21 a22 : Int) (a23 a24 : List Int) (a25 : List (List Int)) (a26 a27 : Int) (a28 a29 a30 : Int) (a31 a32 : List Int) (a33 : List (List Int)) : Option (Bool) :=
  (laws_eqInt64S a24 a32).bind fun r34 =>
  if r34 = true then (laws_eqInt64SS a25 a33).bind fun r35 =>
    if r35 = true then some true
    else some false
  else some false
def laws_eqFrame_u2 (a1 a2 : Int) (a3 a4 a5 : Int) (a6 a7 : List Int) (a8 : List (List Int)) (a9 a10 : Int) (a11 a12 a13 : Int) (a14 a15 : List Int) (a16 : List (List Int)) : Option (Bool) :=
  if (a4 != a12) = true then some false
  else if (a5 != a13) = true then some false
    else (laws_eqInt64S a6 a14).bind fun r17 =>
      if r17 = true then (laws_eqFrame_u1 a1 a2 a3 a4 a5 a6 a7 a8 a9 a10 a11 a12 a13 a14 a15 a16).bind fun y36 =>
        some y36
      else some false
def laws_eqFrame (p0 p1 : SFrame) : Option (Bool) :=
  if (p0.Number != p1.Number) = true then some false
  else if (p0.Size != p1.Size) = true then some false
    else if (p0.Rung != p1.Rung) = true then some false
      else (laws_eqFrame_u2 p0.Number p0.Size p0.Rung p0.Mask p0.Spread p0.Lows p0.Gains p0.Pulses p1.Number p1.Size p1.Rung p1.Mask p1.Spread p1.Lows p1.Gains p1.Pulses).bind fun y37 =>
        some y37
@[go_sem] theorem laws_eqFrame_u1_ok {β : Type} (fu n : Nat) (K : List (Kont β)) (a18 a19 : Int) (a20 a21 a22 : Int) (a23 a24 : List Int) (a25 : List (List Int)) (a26 a27 : Int) (a28 a29 a30 : Int) (a31 a32 : List Int) (a33 : List (List Int)) : run ⟨(tab fu).own, lev (tab fu) (n + 2), (tab fu).gl⟩ K c30_u1 ⟨[(2, .pt 200000020 0), (3, .pt 200000030 0)], [(200000020, .var false [.val (.int .i64 a18), .val (.int .i64 a19), .val (.int .i64 a20), .val (.int .i64 a21), .val (.int .i64 a22), .val (.sh .lent 1 (rowE (eI .i64) a23)), .val (.sh .lent 1 (rowE (eI .i64) a24)), .val (.sh .lent 1 (rowE (eL .lent 1 (eI .i64)) a25))]), (200000030, .var false [.val (.int .i64 a26), .val (.int .i64 a27), .val (.int .i64 a28), .val (.int .i64 a29), .val (.int .i64 a30), .val (.sh .lent 1 (rowE (eI .i64) a31)), .val (.sh .lent 1 (rowE (eI .i64) a32)), .val (.sh .lent 1 (rowE (eL .lent 1 (eI .i64)) a33))])], 48⟩ = (laws_eqFrame_u1 a18 a19 a20 a21 a22 a23 a24 a25 a26 a27 a28 a29 a30 a31 a32 a33).bind (fun t => plug ⟨(tab fu).own, lev (tab fu) (n + 2), (tab fu).gl⟩ K .ret ⟨[(4, .val (.bool t))], [], 48⟩) := by
  unfold c30_u1
  simp +contextual -implicitDefEqProofs (maxSteps := 99999999) only [laws_eqFrame_u1, subI, go_sem] <;> rfl
@[go_sem] theorem laws_eqFrame_u2_ok {β : Type} (fu n : Nat) (K : List (Kont β)) (a1 a2 : Int) (a3 a4 a5 : Int) (a6 a7 : List Int) (a8 : List (List Int)) (a9 a10 : Int) (a11 a12 a13 : Int) (a14 a15 : List Int) (a16 : List (List Int)) : run ⟨(tab fu).own, lev (tab fu) (n + 2), (tab fu).gl⟩ K c30_u2 ⟨[(2, .pt 200000020 0), (3, .pt 200000030 0)], [(200000020, .var false [.val (.int .i64 a1), .val (.int .i64 a2), .val (.int .i64 a3), .val (.int .i64 a4), .val (.int .i64 a5), .val (.sh .lent 1 (rowE (eI .i64) a6)), .val (.sh .lent 1 (rowE (eI .i64) a7)), .val (.sh .lent 1 (rowE (eL .lent 1 (eI .i64)) a8))]), (200000030, .var false [.val (.int .i64 a9), .val (.int .i64 a10), .val (.int .i64 a11), .val (.int .i64 a12), .val (.int .i64 a13), .val (.sh .lent 1 (rowE (eI .i64) a14)), .val (.sh .lent 1 (rowE (eI .i64) a15)), .val (.sh .lent 1 (rowE (eL .lent 1 (eI .i64)) a16))])], 48⟩ = (laws_eqFrame_u2 a1 a2 a3 a4 a5 a6 a7 a8 a9 a10 a11 a12 a13 a14 a15 a16).bind (fun t => plug ⟨(tab fu).own, lev (tab fu) (n + 2), (tab fu).gl⟩ K .ret ⟨[(4, .val (.bool t))], [], 48⟩) := by
  unfold c30_u2
  simp +contextual -implicitDefEqProofs (maxSteps := 99999999) only [laws_eqFrame_u2, subI, go_sem] <;> rfl
@[go_sem] theorem laws_eqFrame_ok (fu n : Nat) (q0_0 q0_1 : Int) (q0_2 q0_3 q0_4 : Int) (q0_5 q0_6 : List Int) (q0_7 : List (List Int)) (q1_0 q1_1 : Int) (q1_2 q1_3 q1_4 : Int) (q1_5 q1_6 : List Int) (q1_7 : List (List Int)) : lev (tab fu) (n + 3) 30 [.agg [.int .i64 q0_0, .int .i64 q0_1, .int .i64 q0_2, .int .i64 q0_3, .int .i64 q0_4, .sh .lent 1 (rowE (eI .i64) q0_5), .sh .lent 1 (rowE (eI .i64) q0_6), .sh .lent 1 (rowE (eL .lent 1 (eI .i64)) q0_7)], .agg [.int .i64 q1_0, .int .i64 q1_1, .int .i64 q1_2, .int .i64 q1_3, .int .i64 q1_4, .sh .lent 1 (rowE (eI .i64) q1_5), .sh .lent 1 (rowE (eI .i64) q1_6), .sh .lent 1 (rowE (eL .lent 1 (eI .i64)) q1_7)]] = (laws_eqFrame (SFrame.mk q0_0 q0_1 q0_2 q0_3 q0_4 q0_5 q0_6 q0_7) (SFrame.mk q1_0 q1_1 q1_2 q1_3 q1_4 q1_5 q1_6 q1_7)).map fun r => (.bool r, [.gone, .gone]) := by
  rw [lev_st (vc := c30) (nt := 48) (rs := [(4, none)]) ((tab_ext _ _ rfl).trans rfl) rfl (Nat.le_of_ble_eq_true rfl)]
  unfold c30
  simp +contextual -implicitDefEqProofs (maxSteps := 99999999) only [laws_eqFrame, subI, go_sem] <;> rfl
def laws_eqFrameS_s1 (a7 a8 : List SFrame) : Int → Option ((Int) ⊕ (Unit ⊕ Unit)) := fun a9 =>
  if (decide (a9 < (a7.length : Int))) = true then (getI a7 a9).bind fun x10 =>
    (getI a8 a9).bind fun x11 =>
    (laws_eqFrame x10 x11).bind fun r12 =>
    if r12 = true then some ((.inl ((IntKind.i64.wrap (a9 + 1)))))
    else some ((.inr ((.inr (())))))
  else some ((.inr ((.inl (())))))
def laws_eqFrameS (p0 p1 : List SFrame) : Option (Bool) :=
  if ((p0.length : Int) != (p1.length : Int)) = true then some false
  else (loopO (laws_eqFrameS_s1 p0 p1) 0).bind fun t => (Sum.elim (fun y13 => some true)
     (fun y14 => some false)) t
@[go_sem] theorem laws_eqFrameS_s1_ok {β : Type} (fu n : Nat) (K : List (Kont β)) (a7 a8 : List SFrame) (a9 : Int) : run ⟨(tab fu).own, lev (tab fu) (n + 3), (tab fu).gl⟩ K (.loop c9_u1) ⟨[(0, .val (.sh .lent 8 (rowE (SFrame.cells .lent) a7))), (1, .val (.sh .lent 8 (rowE (SFrame.cells .lent) a8))), (5, .val (.int .i64 a9))], [], 27⟩ = (loopO (laws_eqFrameS_s1 a7 a8) a9).bind (fun t => (Sum.elim (fun t => plug ⟨(tab fu).own, lev (tab fu) (n + 3), (tab fu).gl⟩ K (.exit 0) ⟨[], [], 27⟩) (fun t => plug ⟨(tab fu).own, lev (tab fu) (n + 3), (tab fu).gl⟩ K .ret ⟨[(4, .val (.bool false))], [], 27⟩)) t) := by
  refine loop_run (C := ⟨(tab fu).own, lev (tab fu) (n + 3), (tab fu).gl⟩) (K := K) (c := c9_u1) (laws_eqFrameS_s1 a7 a8) (fun s => ⟨[(0, .val (.sh .lent 8 (rowE (SFrame.cells .lent) a7))), (1, .val (.sh .lent 8 (rowE (SFrame.cells .lent) a8))), (5, .val (.int .i64 s))], [], 27⟩) (fun t => (Sum.elim (fun t => plug ⟨(tab fu).own, lev (tab fu) (n + 3), (tab fu).gl⟩ K (.exit 0) ⟨[], [], 27⟩) (fun t => plug ⟨(tab fu).own, lev (tab fu) (n + 3), (tab fu).gl⟩ K .ret ⟨[(4, .val (.bool false))], [], 27⟩)) t) (fun k s => ?_) a9
  unfold c9_u1
  simp +contextual -implicitDefEqProofs (maxSteps := 99999999) only [laws_eqFrameS_s1, subI, go_sem] <;> rfl
@[go_sem] theorem laws_eqFrameS_ok (fu n : Nat) (q0_0 q1_0 : List SFrame) : lev (tab fu) (n + 4) 9 [.sh .lent 8 (rowE (SFrame.cells .lent) q0_0), .sh .lent 8 (rowE (SFrame.cells .lent) q1_0)] = (laws_eqFrameS q0_0 q1_0).map fun r => (.bool r, [.gone, .gone]) := by
  rw [lev_st (vc := c9) (nt := 27) (rs := [(4, none)]) ((tab_ext _ _ rfl).trans rfl) rfl (Nat.le_of_ble_eq_true rfl)]
  unfold c9
  simp +contextual -implicitDefEqProofs (maxSteps := 99999999) only [laws_eqFrameS, subI, go_sem] <;> rfl
def laws_markInt64S_s1 : ((List Int) × Int × Int) → Option (((List Int) × Int × Int) ⊕ ((List Int) × Int)) := fun ⟨a1, a2, a3⟩ =>
  if (decide (a3 < (a1.length : Int))) = true then (getI a1 a3).bind fun _ =>
    (a1[a3.toNat]?).bind fun _ =>
    some ((.inl (((a1.set a3.toNat a2), (IntKind.i64.wrap (a2 + 1)), (IntKind.i64.wrap (a3 + 1))))))
  else some ((.inr ((a1, a2))))
def laws_markInt64S (p0 : List Int) (p1 : Int) : Option (Int × (List Int)) :=
  (loopO laws_markInt64S_s1 ((p0, p1, 0))).bind fun y5 =>
  some ((y5.2, y5.1))
@[go_sem] theorem laws_markInt64S_s1_ok {β : Type} (fu n : Nat) (K : List (Kont β)) (a1 : List Int) (a2 a3 : Int) : run ⟨(tab fu).own, lev (tab fu) n, (tab fu).gl⟩ K (.loop c31_u1) ⟨[(0, .sl 1000000000 0 a1.length), (1, .val (.int .i64 a2)), (5, .val (.int .i64 a3))], [(1000000000, .row true 1 (rowE (eI .i64) a1))], 19⟩ = (loopO laws_markInt64S_s1 ((a1, a2, a3))).bind (fun t => plug ⟨(tab fu).own, lev (tab fu) n, (tab fu).gl⟩ K (.exit 0) ⟨[(1, .val (.int .i64 t.2))], [(1000000000, .row true 1 (rowE (eI .i64) t.1))], 19⟩) := by
  refine loop_run (C := ⟨(tab fu).own, lev (tab fu) n, (tab fu).gl⟩) (K := K) (c := c31_u1) (laws_markInt64S_s1) (fun s => ⟨[(0, .sl 1000000000 0 s.1.length), (1, .val (.int .i64 s.2.1)), (5, .val (.int .i64 s.2.2))], [(1000000000, .row true 1 (rowE (eI .i64) s.1))], 19⟩) (fun t => plug ⟨(tab fu).own, lev (tab fu) n, (tab fu).gl⟩ K (.exit 0) ⟨[(1, .val (.int .i64 t.2))], [(1000000000, .row true 1 (rowE (eI .i64) t.1))], 19⟩) (fun k s => ?_) ((a1, a2, a3))
  obtain ⟨a1, a2, a3⟩ := s
  unfold c31_u1
  simp +contextual -implicitDefEqProofs (maxSteps := 99999999) only [laws_markInt64S_s1, subI, go_sem] <;> rfl
@[go_sem] theorem laws_markInt64S_ok (fu n : Nat) (q0_0 : List Int) (q1_0 : Int) : lev (tab fu) (n + 1) 31 [.ow 1 (rowE (eI .i64) q0_0), .int .i64 q1_0] = (laws_markInt64S q0_0 q1_0).map fun r => (.int .i64 r.1, [.ow 1 (rowE (eI .i64) r.2), .gone]) := by
  rw [lev_st (vc := c31) (nt := 19) (rs := [(4, none)]) ((tab_ext _ _ rfl).trans rfl) rfl (Nat.le_of_ble_eq_true rfl)]
  unfold c31
  simp +contextual -implicitDefEqProofs (maxSteps := 99999999) only [laws_markInt64S, subI, go_sem] <;> rfl
def laws_markInt64SS_s1 : ((List (List Int)) × Int × Int) → Option (((List (List Int)) × Int × Int) ⊕ ((List (List Int)) × Int)) := fun ⟨a1, a2, a3⟩ =>
  if (decide (a3 < (a1.length : Int))) = true then (getI a1 a3).bind fun _ =>
    (a1[a3.toNat]?).bind fun x4 =>
    (laws_markInt64S x4 a2).bind fun r5 =>
    if x4.length = r5.2.length then (a1[a3.toNat]?).bind fun _ =>
      some ((.inl (((a1.set a3.toNat r5.2), r5.1, (IntKind.i64.wrap (a3 + 1))))))
    else none
  else some ((.inr ((a1, a2))))
def laws_markInt64SS (p0 : List (List Int)) (p1 : Int) : Option (Int × (List (List Int))) :=
  (loopO laws_markInt64SS_s1 ((p0, p1, 0))).bind fun y7 =>
  some ((y7.2, y7.1))
@[go_sem] theorem laws_markInt64SS_s1_ok {β : Type} (fu n : Nat) (K : List (Kont β)) (a1 : List (List Int)) (a2 a3 : Int) : run ⟨(tab fu).own, lev (tab fu) (n + 1), (tab fu).gl⟩ K (.loop c32_u1) ⟨[(0, .sl 1000000000 0 a1.length), (1, .val (.int .i64 a2)), (5, .val (.int .i64 a3))], [(1000000000, .row true 1 (rowE (eL .own 1 (eI .i64)) a1))], 19⟩ = (loopO laws_markInt64SS_s1 ((a1, a2, a3))).bind (fun t => plug ⟨(tab fu).own, lev (tab fu) (n + 1), (tab fu).gl⟩ K (.exit 0) ⟨[(1, .val (.int .i64 t.2))], [(1000000000, .row true 1 (rowE (eL .own 1 (eI .i64)) t.1))], 19⟩) := by
  refine loop_run (C := ⟨(tab fu).own, lev (tab fu) (n + 1), (tab fu).gl⟩) (K := K) (c := c32_u1) (laws_markInt64SS_s1) (fun s => ⟨[(0, .sl 1000000000 0 s.1.length), (1, .val (.int .i64 s.2.1)), (5, .val (.int .i64 s.2.2))], [(1000000000, .row true 1 (rowE (eL .own 1 (eI .i64)) s.1))], 19⟩) (fun t => plug ⟨(tab fu).own, lev (tab fu) (n + 1), (tab fu).gl⟩ K (.exit 0) ⟨[(1, .val (.int .i64 t.2))], [(1000000000, .row true 1 (rowE (eL .own 1 (eI .i64)) t.1))], 19⟩) (fun k s => ?_) ((a1, a2, a3))
  obtain ⟨a1, a2, a3⟩ := s
  unfold c32_u1
  simp +contextual -implicitDefEqProofs (maxSteps := 99999999) only [laws_markInt64SS_s1, subI, go_sem] <;> rfl
@[go_sem] theorem laws_markInt64SS_ok (fu n : Nat) (q0_0 : List (List Int)) (q1_0 : Int) : lev (tab fu) (n + 2) 32 [.ow 1 (rowE (eL .own 1 (eI .i64)) q0_0), .int .i64 q1_0] = (laws_markInt64SS q0_0 q1_0).map fun r => (.int .i64 r.1, [.ow 1 (rowE (eL .own 1 (eI .i64)) r.2), .gone]) := by
  rw [lev_st (vc := c32) (nt := 19) (rs := [(4, none)]) ((tab_ext _ _ rfl).trans rfl) rfl (Nat.le_of_ble_eq_true rfl)]
  unfold c32
  simp +contextual -implicitDefEqProofs (maxSteps := 99999999) only [laws_markInt64SS, subI, go_sem] <;> rfl
def laws_markFrameS_s1 : ((List SFrame) × Int × Int) → Option (((List SFrame) × Int × Int) ⊕ ((List SFrame) × Int)) := fun ⟨a1, a2, a3⟩ =>
  if (decide (a3 < (a1.length : Int))) = true then (getI a1 a3).bind fun _ =>
    (a1[a3.toNat]?).bind fun x4 =>
    (getI ((a1.set a3.toNat ((SFrame.mk a2 x4.Size x4.Rung x4.Mask x4.Spread x4.Lows x4.Gains x4.Pulses)))) a3).bind fun _ =>
    (((a1.set a3.toNat ((SFrame.mk a2 x4.Size x4.Rung x4.Mask x4.Spread x4.Lows x4.Gains x4.Pulses))))[a3.toNat]?).bind fun x5 =>
    (getI ((((a1.set a3.toNat ((SFrame.mk a2 x4.Size x4.Rung x4.Mask x4.Spread x4.Lows x4.Gains x4.Pulses)))).set a3.toNat ((SFrame.mk x5.Number ((IntKind.i64.wrap (a2 + 1))) x5.Rung x5.Mask x5.Spread x5.Lows x5.Gains x5.Pulses)))) a3).bind fun _ =>
    (((((a1.set a3.toNat ((SFrame.mk a2 x4.Size x4.Rung x4.Mask x4.Spread x4.Lows x4.Gains x4.Pulses)))).set a3.toNat ((SFrame.mk x5.Number ((IntKind.i64.wrap (a2 + 1))) x5.Rung x5.Mask x5.Spread x5.Lows x5.Gains x5.Pulses))))[a3.toNat]?).bind fun x6 =>
    (getI ((((((a1.set a3.toNat ((SFrame.mk a2 x4.Size x4.Rung x4.Mask x4.Spread x4.Lows x4.Gains x4.Pulses)))).set a3.toNat ((SFrame.mk x5.Number ((IntKind.i64.wrap (a2 + 1))) x5.Rung x5.Mask x5.Spread x5.Lows x5.Gains x5.Pulses)))).set a3.toNat ((SFrame.mk x6.Number x6.Size ((IntKind.i64.wrap ((IntKind.i64.wrap (a2 + 1)) + 1))) x6.Mask x6.Spread x6.Lows x6.Gains x6.Pulses)))) a3).bind fun _ =>
    (((((((a1.set a3.toNat ((SFrame.mk a2 x4.Size x4.Rung x4.Mask x4.Spread x4.Lows x4.Gains x4.Pulses)))).set a3.toNat ((SFrame.mk x5.Number ((IntKind.i64.wrap (a2 + 1))) x5.Rung x5.Mask x5.Spread x5.Lows x5.Gains x5.Pulses)))).set a3.toNat ((SFrame.mk x6.Number x6.Size ((IntKind.i64.wrap ((IntKind.i64.wrap (a2 + 1)) + 1))) x6.Mask x6.Spread x6.Lows x6.Gains x6.Pulses))))[a3.toNat]?).bind fun x7 =>
    (getI ((((((((a1.set a3.toNat ((SFrame.mk a2 x4.Size x4.Rung x4.Mask x4.Spread x4.Lows x4.Gains x4.Pulses)))).set a3.toNat ((SFrame.mk x5.Number ((IntKind.i64.wrap (a2 + 1))) x5.Rung x5.Mask x5.Spread x5.Lows x5.Gains x5.Pulses)))).set a3.toNat ((SFrame.mk x6.Number x6.Size ((IntKind.i64.wrap ((IntKind.i64.wrap (a2 + 1)) + 1))) x6.Mask x6.Spread x6.Lows x6.Gains x6.Pulses)))).set a3.toNat ((SFrame.mk x7.Number x7.Size x7.Rung ((IntKind.i64.wrap ((IntKind.i64.wrap ((IntKind.i64.wrap (a2 + 1)) + 1)) + 1))) x7.Spread x7.Lows x7.Gains x7.Pulses)))) a3).bind fun _ =>
    (((((((((a1.set a3.toNat ((SFrame.mk a2 x4.Size x4.Rung x4.Mask x4.Spread x4.Lows x4.Gains x4.Pulses)))).set a3.toNat ((SFrame.mk x5.Number ((IntKind.i64.wrap (a2 + 1))) x5.Rung x5.Mask x5.Spread x5.Lows x5.Gains x5.Pulses)))).set a3.toNat ((SFrame.mk x6.Number x6.Size ((IntKind.i64.wrap ((IntKind.i64.wrap (a2 + 1)) + 1))) x6.Mask x6.Spread x6.Lows x6.Gains x6.Pulses)))).set a3.toNat ((SFrame.mk x7.Number x7.Size x7.Rung ((IntKind.i64.wrap ((IntKind.i64.wrap ((IntKind.i64.wrap (a2 + 1)) + 1)) + 1))) x7.Spread x7.Lows x7.Gains x7.Pulses))))[a3.toNat]?).bind fun x8 =>
    (getI ((((((((((a1.set a3.toNat ((SFrame.mk a2 x4.Size x4.Rung x4.Mask x4.Spread x4.Lows x4.Gains x4.Pulses)))).set a3.toNat ((SFrame.mk x5.Number ((IntKind.i64.wrap (a2 + 1))) x5.Rung x5.Mask x5.Spread x5.Lows x5.Gains x5.Pulses)))).set a3.toNat ((SFrame.mk x6.Number x6.Size ((IntKind.i64.wrap ((IntKind.i64.wrap (a2 + 1)) + 1))) x6.Mask x6.Spread x6.Lows x6.Gains x6.Pulses)))).set a3.toNat ((SFrame.mk x7.Number x7.Size x7.Rung ((IntKind.i64.wrap ((IntKind.i64.wrap ((IntKind.i64.wrap (a2 + 1)) + 1)) + 1))) x7.Spread x7.Lows x7.Gains x7.Pulses)))).set a3.toNat ((SFrame.mk x8.Number x8.Size x8.Rung x8.Mask ((IntKind.i64.wrap ((IntKind.i64.wrap ((IntKind.i64.wrap ((IntKind.i64.wrap (a2 + 1)) + 1)) + 1)) + 1))) x8.Lows x8.Gains x8.Pulses)))) a3).bind fun _ =>
    (((((((((((a1.set a3.toNat ((SFrame.mk a2 x4.Size x4.Rung x4.Mask x4.Spread x4.Lows x4.Gains x4.Pulses)))).set a3.toNat ((SFrame.mk x5.Number ((IntKind.i64.wrap (a2 + 1))) x5.Rung x5.Mask x5.Spread x5.Lows x5.Gains x5.Pulses)))).set a3.toNat ((SFrame.mk x6.Number x6.Size ((IntKind.i64.wrap ((IntKind.i64.wrap (a2 + 1)) + 1))) x6.Mask x6.Spread x6.Lows x6.Gains x6.Pulses)))).set a3.toNat ((SFrame.mk x7.Number x7.Size x7.Rung ((IntKind.i64.wrap ((IntKind.i64.wrap ((IntKind.i64.wrap (a2 + 1)) + 1)) + 1))) x7.Spread x7.Lows x7.Gains x7.Pulses)))).set a3.toNat ((SFrame.mk x8.Number x8.Size x8.Rung x8.Mask ((IntKind.i64.wrap ((IntKind.i64.wrap ((IntKind.i64.wrap ((IntKind.i64.wrap (a2 + 1)) + 1)) + 1)) + 1))) x8.Lows x8.Gains x8.Pulses))))[a3.toNat]?).bind fun x9 =>
    (laws_markInt64S x9.Lows ((IntKind.i64.wrap ((IntKind.i64.wrap ((IntKind.i64.wrap ((IntKind.i64.wrap ((IntKind.i64.wrap (a2 + 1)) + 1)) + 1)) + 1)) + 1)))).bind fun r10 =>
    if x9.Lows.length = r10.2.length then (((((((((((a1.set a3.toNat ((SFrame.mk a2 x4.Size x4.Rung x4.Mask x4.Spread x4.Lows x4.Gains x4.Pulses)))).set a3.toNat ((SFrame.mk x5.Number ((IntKind.i64.wrap (a2 + 1))) x5.Rung x5.Mask x5.Spread x5.Lows x5.Gains x5.Pulses)))).set a3.toNat ((SFrame.mk x6.Number x6.Size ((IntKind.i64.wrap ((IntKind.i64.wrap (a2 + 1)) + 1))) x6.Mask x6.Spread x6.Lows x6.Gains x6.Pulses)))).set a3.toNat ((SFrame.mk x7.Number x7.Size x7.Rung ((IntKind.i64.wrap ((IntKind.i64.wrap ((IntKind.i64.wrap (a2 + 1)) + 1)) + 1))) x7.Spread x7.Lows x7.Gains x7.Pulses)))).set a3.toNat ((SFrame.mk x8.Number x8.Size x8.Rung x8.Mask ((IntKind.i64.wrap ((IntKind.i64.wrap ((IntKind.i64.wrap ((IntKind.i64.wrap (a2 + 1)) + 1)) + 1)) + 1))) x8.Lows x8.Gains x8.Pulses))))[a3.toNat]?).bind fun x11 =>
      (getI ((((((((((((a1.set a3.toNat ((SFrame.mk a2 x4.Size x4.Rung x4.Mask x4.Spread x4.Lows x4.Gains x4.Pulses)))).set a3.toNat ((SFrame.mk x5.Number ((IntKind.i64.wrap (a2 + 1))) x5.Rung x5.Mask x5.Spread x5.Lows x5.Gains x5.Pulses)))).set a3.toNat ((SFrame.mk x6.Number x6.Size ((IntKind.i64.wrap ((IntKind.i64.wrap (a2 + 1)) + 1))) x6.Mask x6.Spread x6.Lows x6.Gains x6.Pulses)))).set a3.toNat ((SFrame.mk x7.Number x7.Size x7.Rung ((IntKind.i64.wrap ((IntKind.i64.wrap ((IntKind.i64.wrap (a2 + 1)) + 1)) + 1))) x7.Spread x7.Lows x7.Gains x7.Pulses)))).set a3.toNat ((SFrame.mk x8.Number x8.Size x8.Rung x8.Mask ((IntKind.i64.wrap ((IntKind.i64.wrap ((IntKind.i64.wrap ((IntKind.i64.wrap (a2 + 1)) + 1)) + 1)) + 1))) x8.Lows x8.Gains x8.Pulses)))).set a3.toNat ((SFrame.mk x11.Number x11.Size x11.Rung x11.Mask x11.Spread r10.2 x11.Gains x11.Pulses)))) a3).bind fun _ =>
      (((((((((((((a1.set a3.toNat ((SFrame.mk a2 x4.Size x4.Rung x4.Mask x4.Spread x4.Lows x4.Gains x4.Pulses)))).set a3.toNat ((SFrame.mk x5.Number ((IntKind.i64.wrap (a2 + 1))) x5.Rung x5.Mask x5.Spread x5.Lows x5.Gains x5.Pulses)))).set a3.toNat ((SFrame.mk x6.Number x6.Size ((IntKind.i64.wrap ((IntKind.i64.wrap (a2 + 1)) + 1))) x6.Mask x6.Spread x6.Lows x6.Gains x6.Pulses)))).set a3.toNat ((SFrame.mk x7.Number x7.Size x7.Rung ((IntKind.i64.wrap ((IntKind.i64.wrap ((IntKind.i64.wrap (a2 + 1)) + 1)) + 1))) x7.Spread x7.Lows x7.Gains x7.Pulses)))).set a3.toNat ((SFrame.mk x8.Number x8.Size x8.Rung x8.Mask ((IntKind.i64.wrap ((IntKind.i64.wrap ((IntKind.i64.wrap ((IntKind.i64.wrap (a2 + 1)) + 1)) + 1)) + 1))) x8.Lows x8.Gains x8.Pulses)))).set a3.toNat ((SFrame.mk x11.Number x11.Size x11.Rung x11.Mask x11.Spread r10.2 x11.Gains x11.Pulses))))[a3.toNat]?).bind fun x12 =>
      (laws_markInt64S x12.Gains r10.1).bind fun r13 =>
      if x12.Gains.length = r13.2.length then (((((((((((((a1.set a3.toNat ((SFrame.mk a2 x4.Size x4.Rung x4.Mask x4.Spread x4.Lows x4.Gains x4.Pulses)))).set a3.toNat ((SFrame.mk x5.Number ((IntKind.i64.wrap (a2 + 1))) x5.Rung x5.Mask x5.Spread x5.Lows x5.Gains x5.Pulses)))).set a3.toNat ((SFrame.mk x6.Number x6.Size ((IntKind.i64.wrap ((IntKind.i64.wrap (a2 + 1)) + 1))) x6.Mask x6.Spread x6.Lows x6.Gains x6.Pulses)))).set a3.toNat ((SFrame.mk x7.Number x7.Size x7.Rung ((IntKind.i64.wrap ((IntKind.i64.wrap ((IntKind.i64.wrap (a2 + 1)) + 1)) + 1))) x7.Spread x7.Lows x7.Gains x7.Pulses)))).set a3.toNat ((SFrame.mk x8.Number x8.Size x8.Rung x8.Mask ((IntKind.i64.wrap ((IntKind.i64.wrap ((IntKind.i64.wrap ((IntKind.i64.wrap (a2 + 1)) + 1)) + 1)) + 1))) x8.Lows x8.Gains x8.Pulses)))).set a3.toNat ((SFrame.mk x11.Number x11.Size x11.Rung x11.Mask x11.Spread r10.2 x11.Gains x11.Pulses))))[a3.toNat]?).bind fun x14 =>
        (getI ((((((((((((((a1.set a3.toNat ((SFrame.mk a2 x4.Size x4.Rung x4.Mask x4.Spread x4.Lows x4.Gains x4.Pulses)))).set a3.toNat ((SFrame.mk x5.Number ((IntKind.i64.wrap (a2 + 1))) x5.Rung x5.Mask x5.Spread x5.Lows x5.Gains x5.Pulses)))).set a3.toNat ((SFrame.mk x6.Number x6.Size ((IntKind.i64.wrap ((IntKind.i64.wrap (a2 + 1)) + 1))) x6.Mask x6.Spread x6.Lows x6.Gains x6.Pulses)))).set a3.toNat ((SFrame.mk x7.Number x7.Size x7.Rung ((IntKind.i64.wrap ((IntKind.i64.wrap ((IntKind.i64.wrap (a2 + 1)) + 1)) + 1))) x7.Spread x7.Lows x7.Gains x7.Pulses)))).set a3.toNat ((SFrame.mk x8.Number x8.Size x8.Rung x8.Mask ((IntKind.i64.wrap ((IntKind.i64.wrap ((IntKind.i64.wrap ((IntKind.i64.wrap (a2 + 1)) + 1)) + 1)) + 1))) x8.Lows x8.Gains x8.Pulses)))).set a3.toNat ((SFrame.mk x11.Number x11.Size x11.Rung x11.Mask x11.Spread r10.2 x11.Gains x11.Pulses)))).set a3.toNat ((SFrame.mk x14.Number x14.Size x14.Rung x14.Mask x14.Spread x14.Lows r13.2 x14.Pulses)))) a3).bind fun _ =>
        (((((((((((((((a1.set a3.toNat ((SFrame.mk a2 x4.Size x4.Rung x4.Mask x4.Spread x4.Lows x4.Gains x4.Pulses)))).set a3.toNat ((SFrame.mk x5.Number ((IntKind.i64.wrap (a2 + 1))) x5.Rung x5.Mask x5.Spread x5.Lows x5.Gains x5.Pulses)))).set a3.toNat ((SFrame.mk x6.Number x6.Size ((IntKind.i64.wrap ((IntKind.i64.wrap (a2 + 1)) + 1))) x6.Mask x6.Spread x6.Lows x6.Gains x6.Pulses)))).set a3.toNat ((SFrame.mk x7.Number x7.Size x7.Rung ((IntKind.i64.wrap ((IntKind.i64.wrap ((IntKind.i64.wrap (a2 + 1)) + 1)) + 1))) x7.Spread x7.Lows x7.Gains x7.Pulses)))).set a3.toNat ((SFrame.mk x8.Number x8.Size x8.Rung x8.Mask ((IntKind.i64.wrap ((IntKind.i64.wrap ((IntKind.i64.wrap ((IntKind.i64.wrap (a2 + 1)) + 1)) + 1)) + 1))) x8.Lows x8.Gains x8.Pulses)))).set a3.toNat ((SFrame.mk x11.Number x11.Size x11.Rung x11.Mask x11.Spread r10.2 x11.Gains x11.Pulses)))).set a3.toNat ((SFrame.mk x14.Number x14.Size x14.Rung x14.Mask x14.Spread x14.Lows r13.2 x14.Pulses))))[a3.toNat]?).bind fun x15 =>
        (laws_markInt64SS x15.Pulses r13.1).bind fun r16 =>
        if x15.Pulses.length = r16.2.length then (((((((((((((((a1.set a3.toNat ((SFrame.mk a2 x4.Size x4.Rung x4.Mask x4.Spread x4.Lows x4.Gains x4.Pulses)))).set a3.toNat ((SFrame.mk x5.Number ((IntKind.i64.wrap (a2 + 1))) x5.Rung x5.Mask x5.Spread x5.Lows x5.Gains x5.Pulses)))).set a3.toNat ((SFrame.mk x6.Number x6.Size ((IntKind.i64.wrap ((IntKind.i64.wrap (a2 + 1)) + 1))) x6.Mask x6.Spread x6.Lows x6.Gains x6.Pulses)))).set a3.toNat ((SFrame.mk x7.Number x7.Size x7.Rung ((IntKind.i64.wrap ((IntKind.i64.wrap ((IntKind.i64.wrap (a2 + 1)) + 1)) + 1))) x7.Spread x7.Lows x7.Gains x7.Pulses)))).set a3.toNat ((SFrame.mk x8.Number x8.Size x8.Rung x8.Mask ((IntKind.i64.wrap ((IntKind.i64.wrap ((IntKind.i64.wrap ((IntKind.i64.wrap (a2 + 1)) + 1)) + 1)) + 1))) x8.Lows x8.Gains x8.Pulses)))).set a3.toNat ((SFrame.mk x11.Number x11.Size x11.Rung x11.Mask x11.Spread r10.2 x11.Gains x11.Pulses)))).set a3.toNat ((SFrame.mk x14.Number x14.Size x14.Rung x14.Mask x14.Spread x14.Lows r13.2 x14.Pulses))))[a3.toNat]?).bind fun x17 =>
          some ((.inl (((((((((((((((((a1.set a3.toNat ((SFrame.mk a2 x4.Size x4.Rung x4.Mask x4.Spread x4.Lows x4.Gains x4.Pulses)))).set a3.toNat ((SFrame.mk x5.Number ((IntKind.i64.wrap (a2 + 1))) x5.Rung x5.Mask x5.Spread x5.Lows x5.Gains x5.Pulses)))).set a3.toNat ((SFrame.mk x6.Number x6.Size ((IntKind.i64.wrap ((IntKind.i64.wrap (a2 + 1)) + 1))) x6.Mask x6.Spread x6.Lows x6.Gains x6.Pulses)))).set a3.toNat ((SFrame.mk x7.Number x7.Size x7.Rung ((IntKind.i64.wrap ((IntKind.i64.wrap ((IntKind.i64.wrap (a2 + 1)) + 1)) + 1))) x7.Spread x7.Lows x7.Gains x7.Pulses)))).set a3.toNat ((SFrame.mk x8.Number x8.Size x8.Rung x8.Mask ((IntKind.i64.wrap ((IntKind.i64.wrap ((IntKind.i64.wrap ((IntKind.i64.wrap (a2 + 1)) + 1)) + 1)) + 1))) x8.Lows x8.Gains x8.Pulses)))).set a3.toNat ((SFrame.mk x11.Number x11.Size x11.Rung x11.Mask x11.Spread r10.2 x11.Gains x11.Pulses)))).set a3.toNat ((SFrame.mk x14.Number x14.Size x14.Rung x14.Mask x14.Spread x14.Lows r13.2 x14.Pulses)))).set a3.toNat ((SFrame.mk x17.Number x17.Size x17.Rung x17.Mask x17.Spread x17.Lows x17.Gains r16.2))), r16.1, (IntKind.i64.wrap (a3 + 1))))))
        else none
      else none
    else none
  else some ((.inr ((a1, a2))))
def laws_markFrameS (p0 : List SFrame) (p1 : Int) : Option (Int × (List SFrame)) :=
  (loopO laws_markFrameS_s1 ((p0, p1, 0))).bind fun y18 =>
  some ((y18.2, y18.1))
@[go_sem] theorem laws_markFrameS_s1_ok {β : Type} (fu n : Nat) (K : List (Kont β)) (a1 : List SFrame) (a2 a3 : Int) : run ⟨(tab fu).own, lev (tab fu) (n + 2), (tab fu).gl⟩ K (.loop c10_u1) ⟨[(0, .sl 1000000000 0 a1.length), (1, .val (.int .i64 a2)), (5, .val (.int .i64 a3))], [(1000000000, .row true 8 (rowE (SFrame.cells .own) a1))], 69⟩ = (loopO laws_markFrameS_s1 ((a1, a2, a3))).bind (fun t => plug ⟨(tab fu).own, lev (tab fu) (n + 2), (tab fu).gl⟩ K (.exit 0) ⟨[(1, .val (.int .i64 t.2))], [(1000000000, .row true 8 (rowE (SFrame.cells .own) t.1))], 69⟩) := by
  refine loop_run (C := ⟨(tab fu).own, lev (tab fu) (n + 2), (tab fu).gl⟩) (K := K) (c := c10_u1) (laws_markFrameS_s1) (fun s => ⟨[(0, .sl 1000000000 0 s.1.length), (1, .val (.int .i64 s.2.1)), (5, .val (.int .i64 s.2.2))], [(1000000000, .row true 8 (rowE (SFrame.cells .own) s.1))], 69⟩) (fun t => plug ⟨(tab fu).own, lev (tab fu) (n + 2), (tab fu).gl⟩ K (.exit 0) ⟨[(1, .val (.int .i64 t.2))], [(1000000000, .row true 8 (rowE (SFrame.cells .own) t.1))], 69⟩) (fun k s => ?_) ((a1, a2, a3))
  obtain ⟨a1, a2, a3⟩ := s
  unfold c10_u1
  simp +contextual -implicitDefEqProofs (maxSteps := 99999999) only [laws_markFrameS_s1, subI, go_sem] <;> rfl
@[go_sem] theorem laws_markFrameS_ok (fu n : Nat) (q0_0 : List SFrame) (q1_0 : Int) : lev (tab fu) (n + 3) 10 [.ow 8 (rowE (SFrame.cells .own) q0_0), .int .i64 q1_0] = (laws_markFrameS q0_0 q1_0).map fun r => (.int .i64 r.1, [.ow 8 (rowE (SFrame.cells .own) r.2), .gone]) := by
  rw [lev_st (vc := c10) (nt := 69) (rs := [(4, none)]) ((tab_ext _ _ rfl).trans rfl) rfl (Nat.le_of_ble_eq_true rfl)]
  unfold c10
  simp +contextual -implicitDefEqProofs (maxSteps := 99999999) only [laws_markFrameS, subI, go_sem] <;> rfl
def laws_markFramesResult_o (p0 : SFramesResult) (p1 : Int) : Option (Int × SFramesResult) :=
  (laws_markInt64SS p0.Frames p1).bind fun r1 =>
  if p0.Frames.length = r1.2.length then some ((r1.1, (SFramesResult.mk p0.Code r1.2)))
  else none
@[go_sem] theorem laws_markFramesResult_o_ok (fu n : Nat) (q0_0 : Int) (q0_1 : List (List Int)) (q1_0 : Int) : lev (tab fu) (n + 3) 11 [.int .i64 q0_0, .ow 1 (rowE (eL .own 1 (eI .i64)) q0_1), .int .i64 q1_0] = (laws_markFramesResult_o (SFramesResult.mk q0_0 q0_1) q1_0).map fun r => (.int .i64 r.1, [.gone, .ow 1 (rowE (eL .own 1 (eI .i64)) r.2.Frames), .gone]) := by
  rw [lev_st (vc := c11) (nt := 10) (rs := [(4, none)]) ((tab_ext _ _ rfl).trans rfl) rfl (Nat.le_of_ble_eq_true rfl)]
  unfold c11
  simp +contextual -implicitDefEqProofs (maxSteps := 99999999) only [laws_markFramesResult_o, subI, go_sem] <;> rfl
def laws_heldInt64S_s1 (a5 : List Int) : (Int × Int) → Option ((Int × Int) ⊕ (Int ⊕ Unit)) := fun ⟨a6, a7⟩ =>
  if (decide (a7 < (a5.length : Int))) = true then (getI a5 a7).bind fun x8 =>
    if (x8 != a6) = true then some ((.inr ((.inr (())))))
    else some ((.inl (((IntKind.i64.wrap (a6 + 1)), (IntKind.i64.wrap (a7 + 1))))))
  else some ((.inr ((.inl a6))))
def laws_heldInt64S (p0 : List Int) (p1 : Int) : Option (Int) :=
  (loopO (laws_heldInt64S_s1 p0) ((p1, 0))).bind fun t => (Sum.elim (fun y9 => some y9)
   (fun y10 => some ((-1)))) t
@[go_sem] theorem laws_heldInt64S_s1_ok {β : Type} (fu n : Nat) (K : List (Kont β)) (a5 : List Int) (a6 a7 : Int) : run ⟨(tab fu).own, lev (tab fu) n, (tab fu).gl⟩ K (.loop c74_u1) ⟨[(0, .val (.sh .lent 1 (rowE (eI .i64) a5))), (1, .val (.int .i64 a6)), (5, .val (.int .i64 a7))], [], 21⟩ = (loopO (laws_heldInt64S_s1 a5) ((a6, a7))).bind (fun t => (Sum.elim (fun t => plug ⟨(tab fu).own, lev (tab fu) n, (tab fu).gl⟩ K (.exit 0) ⟨[(1, .val (.int .i64 t))], [], 21⟩) (fun t => plug ⟨(tab fu).own, lev (tab fu) n, (tab fu).gl⟩ K .ret ⟨[(4, .val (.int .i64 ((-1))))], [], 21⟩)) t) := by
  refine loop_run (C := ⟨(tab fu).own, lev (tab fu) n, (tab fu).gl⟩) (K := K) (c := c74_u1) (laws_heldInt64S_s1 a5) (fun s => ⟨[(0, .val (.sh .lent 1 (rowE (eI .i64) a5))), (1, .val (.int .i64 s.1)), (5, .val (.int .i64 s.2))], [], 21⟩) (fun t => (Sum.elim (fun t => plug ⟨(tab fu).own, lev (tab fu) n, (tab fu).gl⟩ K (.exit 0) ⟨[(1, .val (.int .i64 t))], [], 21⟩) (fun t => plug ⟨(tab fu).own, lev (tab fu) n, (tab fu).gl⟩ K .ret ⟨[(4, .val (.int .i64 ((-1))))], [], 21⟩)) t) (fun k s => ?_) ((a6, a7))
  obtain ⟨a6, a7⟩ := s
  unfold c74_u1
  simp +contextual -implicitDefEqProofs (maxSteps := 99999999) only [laws_heldInt64S_s1, subI, go_sem] <;> rfl
@[go_sem] theorem laws_heldInt64S_ok (fu n : Nat) (q0_0 : List Int) (q1_0 : Int) : lev (tab fu) (n + 1) 74 [.sh .lent 1 (rowE (eI .i64) q0_0), .int .i64 q1_0] = (laws_heldInt64S q0_0 q1_0).map fun r => (.int .i64 r, [.gone, .gone]) := by
  rw [lev_st (vc := c74) (nt := 21) (rs := [(4, none)]) ((tab_ext _ _ rfl).trans rfl) rfl (Nat.le_of_ble_eq_true rfl)]
  unfold c74
  simp +contextual -implicitDefEqProofs (maxSteps := 99999999) only [laws_heldInt64S, subI, go_sem] <;> rfl
def laws_heldInt64SS_s1 (a6 : List (List Int)) : (Int × Int) → Option ((Int × Int) ⊕ (Int ⊕ Unit)) := fun ⟨a7, a8⟩ =>
  if (decide (a8 < (a6.length : Int))) = true then (getI a6 a8).bind fun x9 =>
    (laws_heldInt64S x9 a7).bind fun r10 =>
    if (decide (r10 < 0)) = true then some ((.inr ((.inr (())))))
    else some ((.inl ((r10, (IntKind.i64.wrap (a8 + 1))))))
  else some ((.inr ((.inl a7))))
def laws_heldInt64SS (p0 : List (List Int)) (p1 : Int) : Option (Int) :=
  (loopO (laws_heldInt64SS_s1 p0) ((p1, 0))).bind fun t => (Sum.elim (fun y11 => some y11)
   (fun y12 => some ((-1)))) t
@[go_sem] theorem laws_heldInt64SS_s1_ok {β : Type} (fu n : Nat) (K : List (Kont β)) (a6 : List (List Int)) (a7 a8 : Int) : run ⟨(tab fu).own, lev (tab fu) (n + 1), (tab fu).gl⟩ K (.loop c33_u1) ⟨[(0, .val (.sh .lent 1 (rowE (eL .lent 1 (eI .i64)) a6))), (1, .val (.int .i64 a7)), (5, .val (.int .i64 a8))], [], 21⟩ = (loopO (laws_heldInt64SS_s1 a6) ((a7, a8))).bind (fun t => (Sum.elim (fun t => plug ⟨(tab fu).own, lev (tab fu) (n + 1), (tab fu).gl⟩ K (.exit 0) ⟨[(1, .val (.int .i64 t))], [], 21⟩) (fun t => plug ⟨(tab fu).own, lev (tab fu) (n + 1), (tab fu).gl⟩ K .ret ⟨[(4, .val (.int .i64 ((-1))))], [], 21⟩)) t) := by
  refine loop_run (C := ⟨(tab fu).own, lev (tab fu) (n + 1), (tab fu).gl⟩) (K := K) (c := c33_u1) (laws_heldInt64SS_s1 a6) (fun s => ⟨[(0, .val (.sh .lent 1 (rowE (eL .lent 1 (eI .i64)) a6))), (1, .val (.int .i64 s.1)), (5, .val (.int .i64 s.2))], [], 21⟩) (fun t => (Sum.elim (fun t => plug ⟨(tab fu).own, lev (tab fu) (n + 1), (tab fu).gl⟩ K (.exit 0) ⟨[(1, .val (.int .i64 t))], [], 21⟩) (fun t => plug ⟨(tab fu).own, lev (tab fu) (n + 1), (tab fu).gl⟩ K .ret ⟨[(4, .val (.int .i64 ((-1))))], [], 21⟩)) t) (fun k s => ?_) ((a7, a8))
  obtain ⟨a7, a8⟩ := s
  unfold c33_u1
  simp +contextual -implicitDefEqProofs (maxSteps := 99999999) only [laws_heldInt64SS_s1, subI, go_sem] <;> rfl
@[go_sem] theorem laws_heldInt64SS_ok (fu n : Nat) (q0_0 : List (List Int)) (q1_0 : Int) : lev (tab fu) (n + 2) 33 [.sh .lent 1 (rowE (eL .lent 1 (eI .i64)) q0_0), .int .i64 q1_0] = (laws_heldInt64SS q0_0 q1_0).map fun r => (.int .i64 r, [.gone, .gone]) := by
  rw [lev_st (vc := c33) (nt := 21) (rs := [(4, none)]) ((tab_ext _ _ rfl).trans rfl) rfl (Nat.le_of_ble_eq_true rfl)]
  unfold c33
  simp +contextual -implicitDefEqProofs (maxSteps := 99999999) only [laws_heldInt64SS, subI, go_sem] <;> rfl
def laws_heldFramesResult (p0 : SFramesResult) (p1 : Int) : Option (Int) :=
  (laws_heldInt64SS p0.Frames p1).bind fun r1 =>
  if (decide (r1 < 0)) = true then some ((-1))
  else some r1
@[go_sem] theorem laws_heldFramesResult_ok (fu n : Nat) (q0_0 : Int) (q0_1 : List (List Int)) (q1_0 : Int) : lev (tab fu) (n + 3) 12 [.agg [.int .i64 q0_0, .sh .lent 1 (rowE (eL .lent 1 (eI .i64)) q0_1)], .int .i64 q1_0] = (laws_heldFramesResult (SFramesResult.mk q0_0 q0_1) q1_0).map fun r => (.int .i64 r, [.gone, .gone]) := by
  rw [lev_st (vc := c12) (nt := 12) (rs := [(4, none)]) ((tab_ext _ _ rfl).trans rfl) rfl (Nat.le_of_ble_eq_true rfl)]
  unfold c12
  simp +contextual -implicitDefEqProofs (maxSteps := 99999999) only [laws_heldFramesResult, subI, go_sem] <;> rfl
def laws_FnExactReferenceOf_u1 (fu : Nat) (a1 : Int) (a2 : List SFrame) : Option (Int) :=
  (laws_szFrameS a2 1048576).bind fun r3 =>
  some r3
def laws_FnExactReferenceOf_u2 (fu : Nat) (a5 : Int) (a6 : List SFrame) : Option (Int × (List (List Int))) :=
  (laws_toFrameS a6).bind fun r7 =>
  (spec_ReferenceOf fu a5 r7).bind fun r8 =>
  some ((r8.Code, r8.Frames))
def laws_FnExactReferenceOf_u3 (fu : Nat) (a10 : Int) (a11 : List (List Int)) (a12 : Int) (a13 : List SFrame) : Option ((List SFrame)) :=
  (laws_toFrameS a13).bind fun r14 =>
  some r14
def laws_FnExactReferenceOf_u4 (fu : Nat) (a16 : Int) (a17 : List (List Int)) (a18 : List SFrame) (a19 : Int) (a20 : List SFrame) : Option (Int × (List (List Int))) :=
  (impl_ReferenceOf fu a19 a18).bind fun r21 =>
  some ((r21.Code, r21.Frames))
def laws_FnExactReferenceOf_u5 (fu : Nat) (a23 : Int) (a24 : List (List Int)) (a25 : List SFrame) (a26 : Int) (a27 : List (List Int)) (a28 : Int) (a29 : List SFrame) : Option (Bool) :=
  (laws_eqFramesResult ((SFramesResult.mk a26 a27)) ((SFramesResult.mk a23 a24))).bind fun r30 =>
  some ((!r30))
def laws_FnExactReferenceOf_u6 (fu : Nat) (a32 : Int) (a33 : List (List Int)) (a34 : List SFrame) (a35 : Int) (a36 : List (List Int)) (a37 : Int) (a38 : List SFrame) : Option (Bool) :=
  (laws_toFrameS a38).bind fun r39 =>
  (laws_eqFrameS a34 r39).bind fun r40 =>
  some ((!r40))
def laws_FnExactReferenceOf_u7 (fu : Nat) (a49 : Int) (a50 : List (List Int)) (a51 : List SFrame) (a52 : Int) (a53 : List (List Int)) (a54 : Int) (a55 : List SFrame) : Option (Int) :=
  (laws_markFrameS a51 1).bind fun r56 =>
  if a51.length = r56.2.length then some r56.1
  else none
def laws_FnExactReferenceOf_u8 (fu : Nat) (a58 : Int) (a59 : List (List Int)) (a60 : Int) (a61 : List (List Int)) (a62 : Int) (a63 : List SFrame) (a64 : Int) : Option (Bool) :=
  if (decide (a64 < 0)) = true then some true
  else (laws_eqFramesResult ((SFramesResult.mk a60 a61)) ((SFramesResult.mk a58 a59))).bind fun r65 =>
    some ((!r65))
def laws_FnExactReferenceOf_u9 (fu : Nat) (a67 : Int) (a68 : List (List Int)) (a69 : Int) (a70 : List (List Int)) (a71 : Int) (a72 : List SFrame) : Option ((List (List Int)) × Int) :=
  (laws_markFramesResult_o ((SFramesResult.mk a69 a70)) 1).bind fun r73 =>
  if a70.length = r73.2.Frames.length then some ((r73.2.Frames, r73.1))
  else none
def laws_FnExactReferenceOf_u10 (fu : Nat) (a75 : Int) (a76 : List (List Int)) (a77 : Int) (a78 : List (List Int)) (a79 : Int) (a80 : List SFrame) (a81 : Int) : Option (Int) :=
  (laws_heldFramesResult ((SFramesResult.mk a77 a78)) 1).bind fun r82 =>
  some r82
def laws_FnExactReferenceOf_u11 (fu : Nat) (a91 : Int) (a92 : List (List Int)) (a93 : Int) (a94 : List (List Int)) (a95 : Int) (a96 : List SFrame) (a97 : Int) : Option (Int × (List (List Int))) :=
  (laws_toFrameS a96).bind fun r98 =>
  (impl_ReferenceOf fu a95 r98).bind fun r99 =>
  some ((r99.Code, r99.Frames))
def laws_FnExactReferenceOf_u12 (fu : Nat) (a101 : Int) (a102 : List (List Int)) (a103 : Int) (a104 : List (List Int)) (a105 : Int) (a106 : List (List Int)) (a107 : Int) : Option (Bool) :=
  (laws_eqFramesResult ((SFramesResult.mk a105 a106)) ((SFramesResult.mk a101 a102))).bind fun r108 =>
  some ((!r108))
def laws_FnExactReferenceOf_u13 (fu : Nat) (a110 : Int) (a111 : List (List Int)) (a112 : Int) : Option (Int) :=
  (laws_heldFramesResult ((SFramesResult.mk a110 a111)) 1).bind fun r113 =>
  some r113
def laws_FnExactReferenceOf_u14 (fu : Nat) (a84 : Int) (a85 : List (List Int)) (a86 : Int) (a87 : List (List Int)) (a88 : Int) (a89 : List SFrame) (a90 : Int) : Option (Bool) :=
  (laws_FnExactReferenceOf_u11 fu a84 a85 a86 a87 a88 a89 a90).bind fun y100 =>
  (laws_FnExactReferenceOf_u12 fu a84 a85 a86 a87 y100.1 y100.2 a90).bind fun y109 =>
  if y109 = true then some false
  else (laws_FnExactReferenceOf_u13 fu a86 a87 a90).bind fun y114 =>
    if (decide (y114 < 0)) = true then some false
    else if (y114 != a90) = true then some false
      else some true
def laws_FnExactReferenceOf_u15 (fu : Nat) (a42 : Int) (a43 : List (List Int)) (a44 : List SFrame) (a45 : Int) (a46 : List (List Int)) (a47 : Int) (a48 : List SFrame) : Option (Bool) :=
  (laws_FnExactReferenceOf_u7 fu a42 a43 a44 a45 a46 a47 a48).bind fun y57 =>
  (laws_FnExactReferenceOf_u8 fu a42 a43 a45 a46 a47 a48 y57).bind fun y66 =>
  if y66 = true then some false
  else (laws_FnExactReferenceOf_u9 fu a42 a43 a45 a46 a47 a48).bind fun y74 =>
    (laws_FnExactReferenceOf_u10 fu a42 a43 a45 y74.1 a47 a48 y74.2).bind fun y83 =>
    if (decide (y83 < 0)) = true then some false
    else if (y83 != y74.2) = true then some false
      else (laws_FnExactReferenceOf_u14 fu a42 a43 a45 y74.1 a47 a48 y74.2).bind fun y115 =>
        some y115
def laws_FnExactReferenceOf (fu : Nat) (p0 : Int) (p1 : List SFrame) : Option (Bool) :=
  (laws_FnExactReferenceOf_u1 fu p0 p1).bind fun y4 =>
  if (decide (y4 < 0)) = true then some true
  else (laws_FnExactReferenceOf_u2 fu p0 p1).bind fun y9 =>
    (laws_FnExactReferenceOf_u3 fu y9.1 y9.2 p0 p1).bind fun y15 =>
    (laws_FnExactReferenceOf_u4 fu y9.1 y9.2 y15 p0 p1).bind fun y22 =>
    (laws_FnExactReferenceOf_u5 fu y9.1 y9.2 y15 y22.1 y22.2 p0 p1).bind fun y31 =>
    if y31 = true then some false
    else (laws_FnExactReferenceOf_u6 fu y9.1 y9.2 y15 y22.1 y22.2 p0 p1).bind fun y41 =>
      if y41 = true then some false
      else (laws_FnExactReferenceOf_u15 fu y9.1 y9.2 y15 y22.1 y22.2 p0 p1).bind fun y116 =>
        some y116
@[go_sem] theorem laws_FnExactReferenceOf_u1_ok {β : Type} (fu n : Nat) (K : List (Kont β)) (a1 : Int) (a2 : List SFrame) : run ⟨(tab fu).own, lev (tab fu) (n + 11), (tab fu).gl⟩ K c3_u1 ⟨[(0, .val (.int .i64 a1)), (1, .val (.sh .lent 8 (rowE (SFrame.cells .lent) a2))), (5, .val (.int .i64 1048576))], [], 74⟩ = (laws_FnExactReferenceOf_u1 fu a1 a2).bind (fun t => plug ⟨(tab fu).own, lev (tab fu) (n + 11), (tab fu).gl⟩ K .normal ⟨[(0, .val (.int .i64 a1)), (1, .val (.sh .lent 8 (rowE (SFrame.cells .lent) a2))), (5, .val (.int .i64 t))], [], 74⟩) := by
  unfold c3_u1
  simp +contextual -implicitDefEqProofs (maxSteps := 99999999) only [laws_FnExactReferenceOf_u1, subI, go_sem] <;> rfl
@[go_sem] theorem laws_FnExactReferenceOf_u2_ok {β : Type} (fu n : Nat) (K : List (Kont β)) (a5 : Int) (a6 : List SFrame) : run ⟨(tab fu).own, lev (tab fu) (n + 11), (tab fu).gl⟩ K c3_u2 ⟨[(0, .val (.int .i64 a5)), (1, .val (.sh .lent 8 (rowE (SFrame.cells .lent) a6)))], [], 74⟩ = (laws_FnExactReferenceOf_u2 fu a5 a6).bind (fun t => plug ⟨(tab fu).own, lev (tab fu) (n + 11), (tab fu).gl⟩ K .normal ⟨[(0, .val (.int .i64 a5)), (1, .val (.sh .lent 8 (rowE (SFrame.cells .lent) a6))), (6, .pt 200000060 0)], [(200000060, .var false [.val (.int .i64 t.1), .sl 200000061 0 t.2.length]), (200000061, .row false 1 (rowE (eL .own 1 (eI .i64)) t.2))], 74⟩) := by
  unfold c3_u2
  simp +contextual -implicitDefEqProofs (maxSteps := 99999999) only [laws_FnExactReferenceOf_u2, subI, go_sem] <;> rfl
@[go_sem] theorem laws_FnExactReferenceOf_u3_ok {β : Type} (fu n : Nat) (K : List (Kont β)) (a10 : Int) (a11 : List (List Int)) (a12 : Int) (a13 : List SFrame) : run ⟨(tab fu).own, lev (tab fu) (n + 11), (tab fu).gl⟩ K c3_u3 ⟨[(0, .val (.int .i64 a12)), (1, .val (.sh .lent 8 (rowE (SFrame.cells .lent) a13))), (6, .pt 200000060 0)], [(200000060, .var false [.val (.int .i64 a10), .sl 200000061 0 a11.length]), (200000061, .row false 1 (rowE (eL .own 1 (eI .i64)) a11))], 74⟩ = (laws_FnExactReferenceOf_u3 fu a10 a11 a12 a13).bind (fun t => plug ⟨(tab fu).own, lev (tab fu) (n + 11), (tab fu).gl⟩ K .normal ⟨[(0, .val (.int .i64 a12)), (1, .val (.sh .lent 8 (rowE (SFrame.cells .lent) a13))), (6, .pt 200000060 0), (7, .sl 200000070 0 t.length)], [(200000060, .var false [.val (.int .i64 a10), .sl 200000061 0 a11.length]), (200000061, .row false 1 (rowE (eL .own 1 (eI .i64)) a11)), (200000070, .row false 8 (rowE (SFrame.cells .own) t))], 74⟩) := by
  unfold c3_u3
  simp +contextual -implicitDefEqProofs (maxSteps := 99999999) only [laws_FnExactReferenceOf_u3, subI, go_sem] <;> rfl
@[go_sem] theorem laws_FnExactReferenceOf_u4_ok {β : Type} (fu n : Nat) (K : List (Kont β)) (a16 : Int) (a17 : List (List Int)) (a18 : List SFrame) (a19 : Int) (a20 : List SFrame) : run ⟨(tab fu).own, lev (tab fu) (n + 11), (tab fu).gl⟩ K c3_u4 ⟨[(0, .val (.int .i64 a19)), (1, .val (.sh .lent 8 (rowE (SFrame.cells .lent) a20))), (6, .pt 200000060 0), (7, .sl 200000070 0 a18.length)], [(200000060, .var false [.val (.int .i64 a16), .sl 200000061 0 a17.length]), (200000061, .row false 1 (rowE (eL .own 1 (eI .i64)) a17)), (200000070, .row false 8 (rowE (SFrame.cells .own) a18))], 74⟩ = (laws_FnExactReferenceOf_u4 fu a16 a17 a18 a19 a20).bind (fun t => plug ⟨(tab fu).own, lev (tab fu) (n + 11), (tab fu).gl⟩ K .normal ⟨[(0, .val (.int .i64 a19)), (1, .val (.sh .lent 8 (rowE (SFrame.cells .lent) a20))), (6, .pt 200000060 0), (7, .sl 200000070 0 a18.length), (8, .pt 200000080 0)], [(200000060, .var false [.val (.int .i64 a16), .sl 200000061 0 a17.length]), (200000061, .row false 1 (rowE (eL .own 1 (eI .i64)) a17)), (200000070, .row false 8 (rowE (SFrame.cells .own) a18)), (200000080, .var false [.val (.int .i64 t.1), .sl 200000081 0 t.2.length]), (200000081, .row false 1 (rowE (eL .own 1 (eI .i64)) t.2))], 74⟩) := by
  unfold c3_u4
  simp +contextual -implicitDefEqProofs (maxSteps := 99999999) only [laws_FnExactReferenceOf_u4, subI, go_sem] <;> rfl
@[go_sem] theorem laws_FnExactReferenceOf_u5_ok {β : Type} (fu n : Nat) (K : List (Kont β)) (a23 : Int) (a24 : List (List Int)) (a25 : List SFrame) (a26 : Int) (a27 : List (List Int)) (a28 : Int) (a29 : List SFrame) : run ⟨(tab fu).own, lev (tab fu) (n + 11), (tab fu).gl⟩ K c3_u5 ⟨[(0, .val (.int .i64 a28)), (1, .val (.sh .lent 8 (rowE (SFrame.cells .lent) a29))), (6, .pt 200000060 0), (7, .sl 200000070 0 a25.length), (8, .pt 200000080 0)], [(200000060, .var false [.val (.int .i64 a23), .sl 200000061 0 a24.length]), (200000061, .row false 1 (rowE (eL .own 1 (eI .i64)) a24)), (200000070, .row false 8 (rowE (SFrame.cells .own) a25)), (200000080, .var false [.val (.int .i64 a26), .sl 200000081 0 a27.length]), (200000081, .row false 1 (rowE (eL .own 1 (eI .i64)) a27))], 74⟩ = (laws_FnExactReferenceOf_u5 fu a23 a24 a25 a26 a27 a28 a29).bind (fun t => plug ⟨(tab fu).own, lev (tab fu) (n + 11), (tab fu).gl⟩ K .normal ⟨[(0, .val (.int .i64 a28)), (1, .val (.sh .lent 8 (rowE (SFrame.cells .lent) a29))), (6, .pt 200000060 0), (7, .sl 200000070 0 a25.length), (8, .pt 200000080 0), (30, .val (.bool t))], [(200000060, .var false [.val (.int .i64 a23), .sl 200000061 0 a24.length]), (200000061, .row false 1 (rowE (eL .own 1 (eI .i64)) a24)), (200000070, .row false 8 (rowE (SFrame.cells .own) a25)), (200000080, .var false [.val (.int .i64 a26), .sl 200000081 0 a27.length]), (200000081, .row false 1 (rowE (eL .own 1 (eI .i64)) a27))], 74⟩) := by
  unfold c3_u5
  simp +contextual -implicitDefEqProofs (maxSteps := 99999999) only [laws_FnExactReferenceOf_u5, subI, go_sem] <;> rfl
@[go_sem] theorem laws_FnExactReferenceOf_u6_ok {β : Type} (fu n : Nat) (K : List (Kont β)) (a32 : Int) (a33 : List (List Int)) (a34 : List SFrame) (a35 : Int) (a36 : List (List Int)) (a37 : Int) (a38 : List SFrame) : run ⟨(tab fu).own, lev (tab fu) (n + 11), (tab fu).gl⟩ K c3_u6 ⟨[(0, .val (.int .i64 a37)), (1, .val (.sh .lent 8 (rowE (SFrame.cells .lent) a38))), (6, .pt 200000060 0), (7, .sl 200000070 0 a34.length), (8, .pt 200000080 0)], [(200000060, .var false [.val (.int .i64 a32), .sl 200000061 0 a33.length]), (200000061, .row false 1 (rowE (eL .own 1 (eI .i64)) a33)), (200000070, .row false 8 (rowE (SFrame.cells .own) a34)), (200000080, .var false [.val (.int .i64 a35), .sl 200000081 0 a36.length]), (200000081, .row false 1 (rowE (eL .own 1 (eI .i64)) a36))], 74⟩ = (laws_FnExactReferenceOf_u6 fu a32 a33 a34 a35 a36 a37 a38).bind (fun t => plug ⟨(tab fu).own, lev (tab fu) (n + 11), (tab fu).gl⟩ K .normal ⟨[(0, .val (.int .i64 a37)), (1, .val (.sh .lent 8 (rowE (SFrame.cells .lent) a38))), (6, .pt 200000060 0), (7, .sl 200000070 0 a34.length), (8, .pt 200000080 0), (35, .val (.bool t))], [(200000060, .var false [.val (.int .i64 a32), .sl 200000061 0 a33.length]), (200000061, .row false 1 (rowE (eL .own 1 (eI .i64)) a33)), (200000070, .row false 8 (rowE (SFrame.cells .own) a34)), (200000080, .var false [.val (.int .i64 a35), .sl 200000081 0 a36.length]), (200000081, .row false 1 (rowE (eL .own 1 (eI .i64)) a36))], 74⟩) := by
  unfold c3_u6
  simp +contextual -implicitDefEqProofs (maxSteps := 99999999) only [laws_FnExactReferenceOf_u6, subI, go_sem] <;> rfl
@[go_sem] theorem laws_FnExactReferenceOf_u7_ok {β : Type} (fu n : Nat) (K : List (Kont β)) (a49 : Int) (a50 : List (List Int)) (a51 : List SFrame) (a52 : Int) (a53 : List (List Int)) (a54 : Int) (a55 : List SFrame) : run ⟨(tab fu).own, lev (tab fu) (n + 11), (tab fu).gl⟩ K c3_u7 ⟨[(0, .val (.int .i64 a54)), (1, .val (.sh .lent 8 (rowE (SFrame.cells .lent) a55))), (6, .pt 200000060 0), (7, .sl 200000070 0 a51.length), (8, .pt 200000080 0), (9, .val (.int .i64 1))], [(200000060, .var false [.val (.int .i64 a49), .sl 200000061 0 a50.length]), (200000061, .row false 1 (rowE (eL .own 1 (eI .i64)) a50)), (200000070, .row false 8 (rowE (SFrame.cells .own) a51)), (200000080, .var false [.val (.int .i64 a52), .sl 200000081 0 a53.length]), (200000081, .row false 1 (rowE (eL .own 1 (eI .i64)) a53))], 74⟩ = (laws_FnExactReferenceOf_u7 fu a49 a50 a51 a52 a53 a54 a55).bind (fun t => plug ⟨(tab fu).own, lev (tab fu) (n + 11), (tab fu).gl⟩ K .normal ⟨[(0, .val (.int .i64 a54)), (1, .val (.sh .lent 8 (rowE (SFrame.cells .lent) a55))), (6, .pt 200000060 0), (8, .pt 200000080 0), (9, .val (.int .i64 t))], [(200000060, .var false [.val (.int .i64 a49), .sl 200000061 0 a50.length]), (200000061, .row false 1 (rowE (eL .own 1 (eI .i64)) a50)), (200000080, .var false [.val (.int .i64 a52), .sl 200000081 0 a53.length]), (200000081, .row false 1 (rowE (eL .own 1 (eI .i64)) a53))], 74⟩) := by
  unfold c3_u7
  simp +contextual -implicitDefEqProofs (maxSteps := 99999999) only [laws_FnExactReferenceOf_u7, subI, go_sem] <;> rfl
@[go_sem] theorem laws_FnExactReferenceOf_u8_ok {β : Type} (fu n : Nat) (K : List (Kont β)) (a58 : Int) (a59 : List (List Int)) (a60 : Int) (a61 : List (List Int)) (a62 : Int) (a63 : List SFrame) (a64 : Int) : run ⟨(tab fu).own, lev (tab fu) (n + 11), (tab fu).gl⟩ K c3_u8 ⟨[(0, .val (.int .i64 a62)), (1, .val (.sh .lent 8 (rowE (SFrame.cells .lent) a63))), (6, .pt 200000060 0), (8, .pt 200000080 0), (9, .val (.int .i64 a64))], [(200000060, .var false [.val (.int .i64 a58), .sl 200000061 0 a59.length]), (200000061, .row false 1 (rowE (eL .own 1 (eI .i64)) a59)), (200000080, .var false [.val (.int .i64 a60), .sl 200000081 0 a61.length]), (200000081, .row false 1 (rowE (eL .own 1 (eI .i64)) a61))], 74⟩ = (laws_FnExactReferenceOf_u8 fu a58 a59 a60 a61 a62 a63 a64).bind (fun t => plug ⟨(tab fu).own, lev (tab fu) (n + 11), (tab fu).gl⟩ K .normal ⟨[(0, .val (.int .i64 a62)), (1, .val (.sh .lent 8 (rowE (SFrame.cells .lent) a63))), (6, .pt 200000060 0), (8, .pt 200000080 0), (46, .val (.bool t))], [(200000060, .var false [.val (.int .i64 a58), .sl 200000061 0 a59.length]), (200000061, .row false 1 (rowE (eL .own 1 (eI .i64)) a59)), (200000080, .var false [.val (.int .i64 a60), .sl 200000081 0 a61.length]), (200000081, .row false 1 (rowE (eL .own 1 (eI .i64)) a61))], 74⟩) := by
  unfold c3_u8
  simp +contextual -implicitDefEqProofs (maxSteps := 99999999) only [laws_FnExactReferenceOf_u8, subI, go_sem] <;> rfl
@[go_sem] theorem laws_FnExactReferenceOf_u9_ok {β : Type} (fu n : Nat) (K : List (Kont β)) (a67 : Int) (a68 : List (List Int)) (a69 : Int) (a70 : List (List Int)) (a71 : Int) (a72 : List SFrame) : run ⟨(tab fu).own, lev (tab fu) (n + 11), (tab fu).gl⟩ K c3_u9 ⟨[(0, .val (.int .i64 a71)), (1, .val (.sh .lent 8 (rowE (SFrame.cells .lent) a72))), (6, .pt 200000060 0), (8, .pt 200000080 0), (10, .val (.int .i64 1))], [(200000060, .var false [.val (.int .i64 a67), .sl 200000061 0 a68.length]), (200000061, .row false 1 (rowE (eL .own 1 (eI .i64)) a68)), (200000080, .var false [.val (.int .i64 a69), .sl 200000081 0 a70.length]), (200000081, .row false 1 (rowE (eL .own 1 (eI .i64)) a70))], 74⟩ = (laws_FnExactReferenceOf_u9 fu a67 a68 a69 a70 a71 a72).bind (fun t => plug ⟨(tab fu).own, lev (tab fu) (n + 11), (tab fu).gl⟩ K .normal ⟨[(0, .val (.int .i64 a71)), (1, .val (.sh .lent 8 (rowE (SFrame.cells .lent) a72))), (6, .pt 200000060 0), (8, .pt 200000080 0), (10, .val (.int .i64 t.2))], [(200000060, .var false [.val (.int .i64 a67), .sl 200000061 0 a68.length]), (200000061, .row false 1 (rowE (eL .own 1 (eI .i64)) a68)), (200000080, .var false [.val (.int .i64 a69), .sl 200000081 0 t.1.length]), (200000081, .row false 1 (rowE (eL .own 1 (eI .i64)) t.1))], 74⟩) := by
  unfold c3_u9
  simp +contextual -implicitDefEqProofs (maxSteps := 99999999) only [laws_FnExactReferenceOf_u9, subI, go_sem] <;> rfl
@[go_sem] theorem laws_FnExactReferenceOf_u10_ok {β : Type} (fu n : Nat) (K : List (Kont β)) (a75 : Int) (a76 : List (List Int)) (a77 : Int) (a78 : List (List Int)) (a79 : Int) (a80 : List SFrame) (a81 : Int) : run ⟨(tab fu).own, lev (tab fu) (n + 11), (tab fu).gl⟩ K c3_u10 ⟨[(0, .val (.int .i64 a79)), (1, .val (.sh .lent 8 (rowE (SFrame.cells .lent) a80))), (6, .pt 200000060 0), (8, .pt 200000080 0), (10, .val (.int .i64 a81)), (11, .val (.int .i64 1))], [(200000060, .var false [.val (.int .i64 a75), .sl 200000061 0 a76.length]), (200000061, .row false 1 (rowE (eL .own 1 (eI .i64)) a76)), (200000080, .var false [.val (.int .i64 a77), .sl 200000081 0 a78.length]), (200000081, .row false 1 (rowE (eL .own 1 (eI .i64)) a78))], 74⟩ = (laws_FnExactReferenceOf_u10 fu a75 a76 a77 a78 a79 a80 a81).bind (fun t => plug ⟨(tab fu).own, lev (tab fu) (n + 11), (tab fu).gl⟩ K .normal ⟨[(0, .val (.int .i64 a79)), (1, .val (.sh .lent 8 (rowE (SFrame.cells .lent) a80))), (6, .pt 200000060 0), (8, .pt 200000080 0), (10, .val (.int .i64 a81)), (11, .val (.int .i64 t))], [(200000060, .var false [.val (.int .i64 a75), .sl 200000061 0 a76.length]), (200000061, .row false 1 (rowE (eL .own 1 (eI .i64)) a76)), (200000080, .var false [.val (.int .i64 a77), .sl 200000081 0 a78.length]), (200000081, .row false 1 (rowE (eL .own 1 (eI .i64)) a78))], 74⟩) := by
  unfold c3_u10
  simp +contextual -implicitDefEqProofs (maxSteps := 99999999) only [laws_FnExactReferenceOf_u10, subI, go_sem] <;> rfl
@[go_sem] theorem laws_FnExactReferenceOf_u11_ok {β : Type} (fu n : Nat) (K : List (Kont β)) (a91 : Int) (a92 : List (List Int)) (a93 : Int) (a94 : List (List Int)) (a95 : Int) (a96 : List SFrame) (a97 : Int) : run ⟨(tab fu).own, lev (tab fu) (n + 11), (tab fu).gl⟩ K c3_u11 ⟨[(0, .val (.int .i64 a95)), (1, .val (.sh .lent 8 (rowE (SFrame.cells .lent) a96))), (6, .pt 200000060 0), (8, .pt 200000080 0), (10, .val (.int .i64 a97))], [(200000060, .var false [.val (.int .i64 a91), .sl 200000061 0 a92.length]), (200000061, .row false 1 (rowE (eL .own 1 (eI .i64)) a92)), (200000080, .var false [.val (.int .i64 a93), .sl 200000081 0 a94.length]), (200000081, .row false 1 (rowE (eL .own 1 (eI .i64)) a94))], 74⟩ = (laws_FnExactReferenceOf_u11 fu a91 a92 a93 a94 a95 a96 a97).bind (fun t => plug ⟨(tab fu).own, lev (tab fu) (n + 11), (tab fu).gl⟩ K .normal ⟨[(6, .pt 200000060 0), (8, .pt 200000080 0), (10, .val (.int .i64 a97)), (12, .pt 200000120 0)], [(200000060, .var false [.val (.int .i64 a91), .sl 200000061 0 a92.length]), (200000061, .row false 1 (rowE (eL .own 1 (eI .i64)) a92)), (200000080, .var false [.val (.int .i64 a93), .sl 200000081 0 a94.length]), (200000081, .row false 1 (rowE (eL .own 1 (eI .i64)) a94)), (200000120, .var false [.val (.int .i64 t.1), .sl 200000121 0 t.2.length]), (200000121, .row false 1 (rowE (eL .own 1 (eI .i64)) t.2))], 74⟩) := by
  unfold c3_u11
  simp +contextual -implicitDefEqProofs (maxSteps := 99999999) only [laws_FnExactReferenceOf_u11, subI, go_sem] <;> rfl
@[go_sem] theorem laws_FnExactReferenceOf_u12_ok {β : Type} (fu n : Nat) (K : List (Kont β)) (a101 : Int) (a102 : List (List Int)) (a103 : Int) (a104 : List (List Int)) (a105 : Int) (a106 : List (List Int)) (a107 : Int) : run ⟨(tab fu).own, lev (tab fu) (n + 11), (tab fu).gl⟩ K c3_u12 ⟨[(6, .pt 200000060 0), (8, .pt 200000080 0), (10, .val (.int .i64 a107)), (12, .pt 200000120 0)], [(200000060, .var false [.val (.int .i64 a101), .sl 200000061 0 a102.length]), (200000061, .row false 1 (rowE (eL .own 1 (eI .i64)) a102)), (200000080, .var false [.val (.int .i64 a103), .sl 200000081 0 a104.length]), (200000081, .row false 1 (rowE (eL .own 1 (eI .i64)) a104)), (200000120, .var false [.val (.int .i64 a105), .sl 200000121 0 a106.length]), (200000121, .row false 1 (rowE (eL .own 1 (eI .i64)) a106))], 74⟩ = (laws_FnExactReferenceOf_u12 fu a101 a102 a103 a104 a105 a106 a107).bind (fun t => plug ⟨(tab fu).own, lev (tab fu) (n + 11), (tab fu).gl⟩ K .normal ⟨[(8, .pt 200000080 0), (10, .val (.int .i64 a107)), (65, .val (.bool t))], [(200000080, .var false [.val (.int .i64 a103), .sl 200000081 0 a104.length]), (200000081, .row false 1 (rowE (eL .own 1 (eI .i64)) a104))], 74⟩) := by
  unfold c3_u12
  simp +contextual -implicitDefEqProofs (maxSteps := 99999999) only [laws_FnExactReferenceOf_u12, subI, go_sem] <;> rfl
@[go_sem] theorem laws_FnExactReferenceOf_u13_ok {β : Type} (fu n : Nat) (K : List (Kont β)) (a110 : Int) (a111 : List (List Int)) (a112 : Int) : run ⟨(tab fu).own, lev (tab fu) (n + 11), (tab fu).gl⟩ K c3_u13 ⟨[(8, .pt 200000080 0), (10, .val (.int .i64 a112)), (11, .val (.int .i64 1))], [(200000080, .var false [.val (.int .i64 a110), .sl 200000081 0 a111.length]), (200000081, .row false 1 (rowE (eL .own 1 (eI .i64)) a111))], 74⟩ = (laws_FnExactReferenceOf_u13 fu a110 a111 a112).bind (fun t => plug ⟨(tab fu).own, lev (tab fu) (n + 11), (tab fu).gl⟩ K .normal ⟨[(10, .val (.int .i64 a112)), (11, .val (.int .i64 t))], [], 74⟩) := by
  unfold c3_u13
  simp +contextual -implicitDefEqProofs (maxSteps := 99999999) only [laws_FnExactReferenceOf_u13, subI, go_sem] <;> rfl
@[go_sem] theorem laws_FnExactReferenceOf_u14_ok {β : Type} (fu n : Nat) (K : List (Kont β)) (a84 : Int) (a85 : List (List Int)) (a86 : Int) (a87 : List (List Int)) (a88 : Int) (a89 : List SFrame) (a90 : Int) : run ⟨(tab fu).own, lev (tab fu) (n + 11), (tab fu).gl⟩ K c3_u14 ⟨[(0, .val (.int .i64 a88)), (1, .val (.sh .lent 8 (rowE (SFrame.cells .lent) a89))), (6, .pt 200000060 0), (8, .pt 200000080 0), (10, .val (.int .i64 a90))], [(200000060, .var false [.val (.int .i64 a84), .sl 200000061 0 a85.length]), (200000061, .row false 1 (rowE (eL .own 1 (eI .i64)) a85)), (200000080, .var false [.val (.int .i64 a86), .sl 200000081 0 a87.length]), (200000081, .row false 1 (rowE (eL .own 1 (eI .i64)) a87))], 74⟩ = (laws_FnExactReferenceOf_u14 fu a84 a85 a86 a87 a88 a89 a90).bind (fun t => plug ⟨(tab fu).own, lev (tab fu) (n + 11), (tab fu).gl⟩ K .ret ⟨[(4, .val (.bool t))], [], 74⟩) := by
  unfold c3_u14
  simp +contextual -implicitDefEqProofs (maxSteps := 99999999) only [laws_FnExactReferenceOf_u14, subI, go_sem] <;> rfl
@[go_sem] theorem laws_FnExactReferenceOf_u15_ok {β : Type} (fu n : Nat) (K : List (Kont β)) (a42 : Int) (a43 : List (List Int)) (a44 : List SFrame) (a45 : Int) (a46 : List (List Int)) (a47 : Int) (a48 : List SFrame) : run ⟨(tab fu).own, lev (tab fu) (n + 11), (tab fu).gl⟩ K c3_u15 ⟨[(0, .val (.int .i64 a47)), (1, .val (.sh .lent 8 (rowE (SFrame.cells .lent) a48))), (6, .pt 200000060 0), (7, .sl 200000070 0 a44.length), (8, .pt 200000080 0)], [(200000060, .var false [.val (.int .i64 a42), .sl 200000061 0 a43.length]), (200000061, .row false 1 (rowE (eL .own 1 (eI .i64)) a43)), (200000070, .row false 8 (rowE (SFrame.cells .own) a44)), (200000080, .var false [.val (.int .i64 a45), .sl 200000081 0 a46.length]), (200000081, .row false 1 (rowE (eL .own 1 (eI .i64)) a46))], 74⟩ = (laws_FnExactReferenceOf_u15 fu a42 a43 a44 a45 a46 a47 a48).bind (fun t => plug ⟨(tab fu).own, lev (tab fu) (n + 11), (tab fu).gl⟩ K .ret ⟨[(4, .val (.bool t))], [], 74⟩) := by
  unfold c3_u15
  simp +contextual -implicitDefEqProofs (maxSteps := 99999999) only [laws_FnExactReferenceOf_u15, subI, go_sem] <;> rfl
@[go_sem] theorem laws_FnExactReferenceOf_ok (fu n : Nat) (q0_0 : Int) (q1_0 : List SFrame) : lev (tab fu) (n + 12) 3 [.int .i64 q0_0, .sh .lent 8 (rowE (SFrame.cells .lent) q1_0)] = (laws_FnExactReferenceOf fu q0_0 q1_0).map fun r => (.bool r, [.gone, .gone]) := by
  rw [lev_st (vc := c3) (nt := 74) (rs := [(4, none)]) ((tab_ext _ _ rfl).trans rfl) rfl (Nat.le_of_ble_eq_true rfl)]
  unfold c3
  simp +contextual -implicitDefEqProofs (maxSteps := 99999999) only [laws_FnExactReferenceOf, subI, go_sem] <;> rfl
def SFrame.Wf (s : SFrame) : Prop := (WfI .i64 s.Number) ∧ (WfI .i64 s.Size) ∧ (WfI .i64 s.Rung) ∧ (WfI .i64 s.Mask) ∧ (WfI .i64 s.Spread) ∧ (((s.Lows.length : Int) ≤ maxI ∧ ∀ x ∈ s.Lows, WfI .i64 x)) ∧ (((s.Gains.length : Int) ≤ maxI ∧ ∀ x ∈ s.Gains, WfI .i64 x)) ∧ (((s.Pulses.length : Int) ≤ maxI ∧ ∀ x ∈ s.Pulses, ((x.length : Int) ≤ maxI ∧ ∀ y ∈ x, WfI .i64 y)))
theorem SFrame.of {ds : List D} (h : OkL [.int .i64, .int .i64, .int .i64, .int .i64, .int .i64, .sl 1 [.int .i64], .sl 1 [.int .i64], .sl 1 [.sl 1 [.int .i64]]] ds) : ∃ s : SFrame, ds = s.cells .lent ∧ s.Wf := by
  simp only [OkL, OkD] at h
  obtain ⟨_, _, rfl, ⟨x0, rfl, hx0⟩, ⟨_, _, rfl, ⟨x1, rfl, hx1⟩, ⟨_, _, rfl, ⟨x2, rfl, hx2⟩, ⟨_, _, rfl, ⟨x3, rfl, hx3⟩, ⟨_, _, rfl, ⟨x4, rfl, hx4⟩, ⟨_, _, rfl, ⟨x5, rfl, lx5, hx5⟩, ⟨_, _, rfl, ⟨x6, rfl, lx6, hx6⟩, ⟨_, _, rfl, ⟨x7, rfl, lx7, hx7⟩, rfl⟩⟩⟩⟩⟩⟩⟩⟩ := h
  obtain ⟨yx5, rfl, wx5⟩ := rows_of (f := (eI .i64)) (W := fun x => WfI .i64 x) (fun el h => row_int h) hx5
  rw [rowE_len] at lx5
  obtain ⟨yx6, rfl, wx6⟩ := rows_of (f := (eI .i64)) (W := fun x => WfI .i64 x) (fun el h => row_int h) hx6
  rw [rowE_len] at lx6
  obtain ⟨yx7, rfl, wx7⟩ := rows_of (f := (eL .lent 1 (eI .i64))) (W := fun x => ((x.length : Int) ≤ maxI ∧ ∀ y ∈ x, WfI .i64 y)) (fun el h => row_sl (fun el h => row_int h) h) hx7
  rw [rowE_len] at lx7
  exact ⟨⟨x0, x1, x2, x3, x4, yx5, yx6, yx7⟩, rfl, ⟨⟨hx0.1, hx0.2⟩, ⟨hx1.1, hx1.2⟩, ⟨hx2.1, hx2.2⟩, ⟨hx3.1, hx3.2⟩, ⟨hx4.1, hx4.2⟩, ⟨lx5, wx5⟩, ⟨lx6, wx6⟩, ⟨lx7, wx7⟩⟩⟩
end
end FnExactReferenceOf
end Go.Proofs.YtpioljlgmhehhaaGreat.Wm
