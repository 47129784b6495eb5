/- What the functions behind FnExactReadPart come to, on plain values (a further part): written by a program. -/
import Derived.Test.YtimgmahlbodfiaaGreatDoorFnFnExactReadPart
set_option linter.unusedSimpArgs false
set_option linter.unusedVariables false
set_option maxRecDepth 100000
set_option maxHeartbeats 20000000
namespace Go.Proofs.YtimgmahlbodfiaaGreatDoor.Wm
open Go Go.Proofs
namespace FnExactReadPart
noncomputable section
attribute [local congr] ite_cong2 run_cg runR_cg plug_cg contV_cg contH_cg contT_cg contF_cg guardR_cg condX_cg evcA_cg evcB_cg evcC_cg evcE_cg evcH_cg levA_cg condJX_cg
variable {β : Type} (fu : Nat) (n : Nat) (K : List (Kont β))
def impl_normOf_s1 (a : List Int) (b : Int) : (Int × Int) → Option ((Int × Int) ⊕ (Int)) := fun ⟨c, d⟩ =>
  if (decide (d < b)) = true then (getI a d).bind fun e =>
    some ((.inl (((IntKind.i64.wrap (c + (impl_abs e))), (IntKind.i64.wrap (d + 1))))))
  else some ((.inr c))
def impl_normOf (a : List Int) : Option (Int) :=
  (loopO (impl_normOf_s1 a ((a.length : Int))) ((0, 0))).bind fun b =>
  some b
@[go_sem] theorem k186_1 (a b c d) : Un (tab fu) (n + 1) K (.loop c186_u1) ⟨[(3, vI a), (6, vL b), (7, vI c), (8, vI d)], [], 18⟩ (loopO (impl_normOf_s1 b c) ((a, d))) fun P t => P (.exit 0) ⟨[(3, vI t)], [], 18⟩ := by revert a d; exact lp2 fun k a d => by unfold impl_normOf_s1 c186_u1; exact wu
@[go_sem] theorem impl_normOf_ok (a) : Fo (tab fu) (n + 2) 186 [dL a] (impl_normOf a) fun r => (dI r, g1) := by refine fo rfl rfl rfl rfl ?_; unfold impl_normOf c186; exact wf
def impl_PulsesFault_u1 (a : List Int) (b : Int) : Option (Int) :=
  (impl_allWithin a 8).bind fun c =>
  if c = true then (impl_normOf a).bind fun d =>
    (impl_first ([(impl_codeIf ((!(impl_isDim ((a.length : Int))))) 2), (impl_codeIf ((!(impl_isPulses b))) 3), (impl_codeIf ((d != b)) 1)])).bind fun e =>
    some e
  else (impl_first ([(impl_codeIf ((!(impl_isDim ((a.length : Int))))) 2), (impl_codeIf ((!(impl_isPulses b))) 3), (impl_codeIf true 1)])).bind fun f =>
    some f
def impl_PulsesFault (a : List Int) (b : Int) : Option (Int) :=
  (impl_PulsesFault_u1 a b).bind fun c =>
  some c
@[go_sem] theorem k230_1 (a b) : Un (tab fu) (n + 6) K c230_u1 ⟨[(0, vL a), (1, vI b)], [], 26⟩ (impl_PulsesFault_u1 a b) fun P t => P .normal ⟨[(4, vI t)], [], 26⟩ := by unfold impl_PulsesFault_u1 c230_u1; exact wu
@[go_sem] theorem impl_PulsesFault_ok (a b) : Fo (tab fu) (n + 7) 230 [dL a, dI b] (impl_PulsesFault a b) fun r => (dI r, g2) := by refine fo rfl rfl rfl rfl ?_; unfold impl_PulsesFault c230; exact wf
def impl_bandFault (a : SBand) (b : List Int) (c : Int) : Option (Int) :=
  (impl_PulsesFault b ((impl_pulsesFor c))).bind fun d =>
  (impl_first ([(impl_codeIf (((b.length : Int) != a.Dim)) 2), d])).bind fun e =>
  some e
@[go_sem] theorem impl_bandFault_ok (a b c d) : Fo (tab fu) (n + 8) 172 [.agg [dI a, dI b], dL c, dI d] (impl_bandFault (SBand.mk a b) c d) fun r => (dI r, g3) := by refine fo rfl rfl rfl rfl ?_; unfold impl_bandFault c172; exact wf
def impl_PartFault_u1 (a b : Int) (c d : Int) (e f : Int) (g h : List Int) (i : List (List Int)) (j : Int) (l : Bool) : Int :=
  if l = true then (impl_countFault b g h i)
  else j
def impl_PartFault_u3 (a b : Int) (c d : Int) (e f : Int) (g h : List Int) (i : List (List Int)) (j l : Int) (m : List SBand) (o p q : Int) (r : Bool) : Option (Int) :=
  if r = true then (getI i o).bind fun u =>
    (impl_bandFault ((SBand.mk j l)) u d).bind fun v =>
    some v
  else some p
def impl_PartFault_s4 (a b : Int) (c d : Int) (e f : Int) (g h : List Int) (i : List (List Int)) (j : List SBand) (l : Int) : Int → Option ((Int) ⊕ (Unit ⊕ Int)) := fun m =>
  if (decide (m < l)) = true then (getI j m).bind fun _ =>
    (j[m.toNat]?).bind fun o =>
    (getI i m).bind fun p =>
    (impl_PartFault_u3 a b c d e f g h i o.From o.Dim j m ((impl_codeIf ((decide ((p.length : Int) > 0))) 1)) l ((impl_Part_owns ((SPart.mk a b c d e f g h i)) m))).bind fun q =>
    if (q != 0) = true then some ((.inr ((.inr q))))
    else some ((.inl ((IntKind.i64.wrap (m + 1)))))
  else some ((.inr ((.inl (())))))
def impl_PartFault (a : SPart) : Option (Int) :=
  (impl_headFault a.Number a.Size a.Rung a.Mask a.Spread).bind fun b =>
  (impl_first ([b, (impl_codeIf ((!(impl_isSide a.Side))) 3)])).bind fun c =>
  let d := impl_PartFault_u1 a.Number a.Size a.Rung a.Mask a.Spread a.Side a.Lows a.Gains a.Pulses c ((c == 0))
  if (d != 0) = true then some d
  else (slices_ContainsFunc_int64_impl_PartFault_1 a.Lows a.Number a.Size a.Rung a.Mask a.Spread a.Side a.Lows a.Gains a.Pulses).bind fun e =>
    (impl_gainsFault a.Gains a.Rung a.Mask).bind fun f =>
    (impl_first ([(impl_codeIf e 3), f])).bind fun g =>
    if (g != 0) = true then some g
    else (loopO (impl_PartFault_s4 a.Number a.Size a.Rung a.Mask a.Spread a.Side a.Lows a.Gains a.Pulses ((impl_bandsOf a.Size)) ((((impl_bandsOf a.Size)).length : Int))) 0).bind fun t => (Sum.elim (fun h => some 0)
       (fun i => some i)) t
@[go_sem] theorem k99_1 (a b c d e f g h i j l) : (fun A B => Un (tab fu) (n + 8) K c99_u1 ⟨[A, (3, vI j), (28, vB l)], [B], 92⟩ (some (impl_PartFault_u1 a b c d e f g h i j l)) fun P t => P .normal ⟨[A, (3, vI t)], [B], 92⟩) (1, .pt 1999 0) (1999, .var false [vI a, vI b, vI c, vI d, vI e, vI f, vL g, vL h, vS 1 (eL .lent 1 (eI .i64)) i]) := by unfold impl_PartFault_u1 c99_u1; exact wu
@[go_sem] theorem k99_3 (a b c d e f g h i j l) (m : List SBand) (o p q r) : (fun A B C D E F => Un (tab fu) (n + 8) K c99_u3 ⟨[A, (6, vI o), (7, .pt 7999 0), (8, vI p), B, C, D, (78, vB r)], [E, (7999, .var false [vI j, vI l]), F], 92⟩ (impl_PartFault_u3 a b c d e f g h i j l m o p q r) fun P t => P .normal ⟨[A, (8, vI t), B, C, D], [E, F], 92⟩) (1, .pt 1999 0) (61, .sl 61999 0 m.length) (62, vI q) (63, vI o) (1999, .var false [vI a, vI b, vI c, vI d, vI e, vI f, vL g, vL h, vS 1 (eL .lent 1 (eI .i64)) i]) (61999, .row false 2 (rowE (SBand.cells .lent) m)) := by unfold impl_PartFault_u3 c99_u3; exact wu
@[go_sem] theorem k99_4 (a b c d e f g h i) (j : List SBand) (l m) : Un (tab fu) (n + 8) K (.loop c99_u4) ⟨[(1, .pt 1999 0), (61, .sl 61999 0 j.length), (62, vI l), (63, vI m)], [(1999, .var false [vI a, vI b, vI c, vI d, vI e, vI f, vL g, vL h, vS 1 (eL .lent 1 (eI .i64)) i]), (61999, .row false 2 (rowE (SBand.cells .lent) j))], 92⟩ (loopO (impl_PartFault_s4 a b c d e f g h i j l) m) fun P => Sum.elim (fun t => P (.exit 0) ⟨[], [], 92⟩) fun t => P .ret ⟨[(2, vI t)], [], 92⟩ := by revert m; exact lp1 fun k m => by unfold impl_PartFault_s4 c99_u4; exact wu
@[go_sem] theorem impl_PartFault_ok (a b c d e f g h i) : Fo (tab fu) (n + 9) 99 [.agg [dI a, dI b, dI c, dI d, dI e, dI f, dL g, dL h, dS 1 (eL .lent 1 (eI .i64)) i]] (impl_PartFault (SPart.mk a b c d e f g h i)) fun r => (dI r, g1) := by refine fo rfl rfl rfl rfl ?_; unfold impl_PartFault c99; exact wf
def impl_indexPulses_s2 (fu : Nat) (a : List Int) (b c : Int) (d e f : Int) : (Int × Int) → Option ((Int × Int) ⊕ (Int)) := fun ⟨g, h⟩ =>
  if (decide (h < c)) = true then (impl_countPulses fu d ((IntKind.i64.wrap (b - (impl_abs h))))).bind fun i =>
    some ((.inl (((IntKind.i64.wrap (g + i)), (IntKind.i64.wrap (h + 1))))))
  else some ((.inr g))
def impl_indexPulses_s3 (fu : Nat) (a : List Int) (b : Int) : (Int × Int × Int) → Option ((Int × Int × Int) ⊕ (Int)) := fun ⟨c, d, e⟩ =>
  if (decide (e < b)) = true then (getI a e).bind fun f =>
    (loopO (impl_indexPulses_s2 fu a c f ((IntKind.i64.wrap ((IntKind.i64.wrap ((a.length : Int) - 1)) - e))) b e) ((d, (IntKind.i64.wrap (0 - c))))).bind fun g =>
    some ((.inl (((IntKind.i64.wrap (c - (impl_abs f))), g, (IntKind.i64.wrap (e + 1))))))
  else some ((.inr d))
def impl_indexPulses (fu : Nat) (a : List Int) (b : Int) : Option (Int) :=
  (loopO (impl_indexPulses_s3 fu a ((a.length : Int))) ((b, 0, 0))).bind fun c =>
  some c
@[go_sem] theorem k173_2 (a b c d e f g h) : (fun A B C D E F => Un (tab fu) (n + 1) K (.loop c173_u2) ⟨[A, B, (5, vI c), C, (8, vI e), (9, vI f), D, E, F], [], 43⟩ (loopO (impl_indexPulses_s2 fu a b d e g h) ((c, f))) fun P t => P (.exit 2) ⟨[A, B, (5, vI t), C, D, E, F], [], 43⟩) (0, vL a) (1, vI b) (7, vI d) (10, vL a) (11, vI g) (12, vI h) := by revert c f; exact lp2 fun k c f => by unfold impl_indexPulses_s2 c173_u2; exact wu
@[go_sem] theorem k173_3 (a b c d e) : Un (tab fu) (n + 1) K (.loop c173_u3) ⟨[(0, vL a), (1, vI b), (5, vI c), (10, vL a), (11, vI d), (12, vI e)], [], 43⟩ (loopO (impl_indexPulses_s3 fu a d) ((b, c, e))) fun P t => P (.exit 0) ⟨[(5, vI t)], [], 43⟩ := by revert b c e; exact lp3 fun k b c e => by unfold impl_indexPulses_s3 c173_u3; exact wu
@[go_sem] theorem impl_indexPulses_ok (a b) : Fo (tab fu) (n + 2) 173 [dL a, dI b] (impl_indexPulses fu a b) fun r => (dI r, g2) := by refine fo rfl rfl rfl rfl ?_; unfold impl_indexPulses c173; exact wf
def impl_valuesOf_s1 (fu : Nat) (a b : Int) (c d : Int) (e f : Int) (g h : List Int) (i : List (List Int)) (j : List Int) (l : Int) : ((List Int) × Int) → Option (((List Int) × Int) ⊕ ((List Int))) := fun ⟨m, o⟩ =>
  if (decide (o < l)) = true then (getI j o).bind fun p =>
    (getI m (IntKind.i64.wrap (o + 1))).bind fun _ =>
    (m[((IntKind.i64.wrap (o + 1))).toNat]?).bind fun q =>
    (getI m (IntKind.i64.wrap (o + 1))).bind fun _ =>
    (m[((IntKind.i64.wrap (o + 1))).toNat]?).bind fun _ =>
    some ((.inl (((m.set (((IntKind.i64.wrap (o + 1))).toNat) ((IntKind.i64.wrap (q - p)))), (IntKind.i64.wrap (o + 1))))))
  else some ((.inr m))
def impl_valuesOf_u2 (fu : Nat) (a b : Int) (c d : Int) (e f : Int) (g h : List Int) (i : List (List Int)) (j : Bool) (l m : Int) (o p : List Int) (q : Bool) : Option ((List Int)) :=
  if q = true then (getI p 0).bind fun _ =>
    (p[(0 : Int).toNat]?).bind fun r =>
    (getI p 0).bind fun _ =>
    (p[(0 : Int).toNat]?).bind fun _ =>
    (loopO (impl_valuesOf_s1 fu a b c d e f g h i o ((o.length : Int))) (((p.set ((0 : Int).toNat) ((IntKind.i64.wrap (r - m)))), 0))).bind fun u =>
    some u
  else some p
def impl_valuesOf_u5 (fu : Nat) (a b : Int) (c d : Int) (e f : Int) (g h : List Int) (i : List (List Int)) (j l : List Int) (m o : Int) (p : Bool) : Option ((List Int)) :=
  if p = true then (impl_indexPulses fu l ((impl_pulsesFor d))).bind fun q =>
    if (okApp 8 ((j ++ ([q]))).length) = true then some ((j ++ ([q])))
    else none
  else some j
def impl_valuesOf_u6 (fu : Nat) (a b : Int) (c d : Int) (e f : Int) (g h : List Int) (i : List (List Int)) (j : List Int) (l m : Int) : Option ((List Int)) :=
  (getI i m).bind fun o =>
  (impl_valuesOf_u5 fu a b c d e f g h i j o l m ((impl_Part_owns ((SPart.mk a b c d e f g h i)) m))).bind fun p =>
  some p
def impl_valuesOf_s7 (fu : Nat) (a b : Int) (c d : Int) (e f : Int) (g h : List Int) (i : List (List Int)) (j : Int) : ((List Int) × Int) → Option (((List Int) × Int) ⊕ ((List Int))) := fun ⟨l, m⟩ =>
  if (decide (m < j)) = true then (impl_valuesOf_u6 fu a b c d e f g h i l j m).bind fun o =>
    some ((.inl ((o, (IntKind.i64.wrap (m + 1))))))
  else some ((.inr l))
def impl_valuesOf (fu : Nat) (a : SPart) (b : Bool) (c : SAnchor) : Option ((List Int)) :=
  if (okApp 8 ((([a.Rung]) ++ a.Gains)).length) = true then (impl_valuesOf_u2 fu a.Number a.Size a.Rung a.Mask a.Spread a.Side a.Lows a.Gains a.Pulses c.Known c.Number c.Rung c.Gains ((([a.Rung]) ++ a.Gains)) ((!b))).bind fun d =>
    if (okApp 8 ((d ++ a.Lows)).length) = true then (loopO (impl_valuesOf_s7 fu a.Number a.Size a.Rung a.Mask a.Spread a.Side a.Lows a.Gains a.Pulses ((a.Pulses.length : Int))) (((d ++ a.Lows), 0))).bind fun e =>
      some e
    else none
  else none
@[go_sem] theorem k100_1 (a b c d e f g h i) (j : List Int) (l m o) : (fun A B => Un (tab fu) (n + 2) K (.loop c100_u1) ⟨[A, (7, .sl 7999 0 j.length), (28, vL l), (29, vI m), (30, vI o)], [B, (7999, .row false 1 (rowE (eI .i64) j))], 69⟩ (loopO (impl_valuesOf_s1 fu a b c d e f g h i l m) ((j, o))) fun P t => P (.exit 0) ⟨[A, (7, .sl 7999 0 t.length)], [B, (7999, .row false 1 (rowE (eI .i64) t))], 69⟩) (3, .pt 3999 0) (3999, .var false [vI a, vI b, vI c, vI d, vI e, vI f, vL g, vL h, vS 1 (eL .lent 1 (eI .i64)) i]) := by revert j o; exact lp2 fun k j o => by unfold impl_valuesOf_s1 c100_u1; exact wu
@[go_sem] theorem k100_1s (a b c d e f g h i j l m o) (p : List Int) (h0 : o = p.length) : (fun A B => Un (tab fu) (n + 2) K (.loop c100_u1) ⟨[A, (7, .sl 7999 0 o), (28, vL j), (29, vI l), (30, vI m)], [B, (7999, .row false 1 (rowE (eI .i64) p))], 69⟩ (loopO (impl_valuesOf_s1 fu a b c d e f g h i j l) ((p, m))) fun P t => P (.exit 0) ⟨[A, (7, .sl 7999 0 t.length)], [B, (7999, .row false 1 (rowE (eI .i64) t))], 69⟩) (3, .pt 3999 0) (3999, .var false [vI a, vI b, vI c, vI d, vI e, vI f, vL g, vL h, vS 1 (eL .lent 1 (eI .i64)) i]) := by subst h0; exact k100_1 fu n K _ _ _ _ _ _ _ _ _ _ _ _ _
@[go_sem] theorem k100_2 (a b c d e f g h i j l m o) (p : List Int) (q) : (fun A B => Un (tab fu) (n + 2) K c100_u2 ⟨[A, (5, .pt 5999 0), (7, .sl 7999 0 p.length), (19, vB q)], [B, (5999, .var false [vB j, vI l, vI m, vL o]), (7999, .row false 1 (rowE (eI .i64) p))], 69⟩ (impl_valuesOf_u2 fu a b c d e f g h i j l m o p q) fun P t => P .normal ⟨[A, (7, .sl 7999 0 t.length)], [B, (7999, .row false 1 (rowE (eI .i64) t))], 69⟩) (3, .pt 3999 0) (3999, .var false [vI a, vI b, vI c, vI d, vI e, vI f, vL g, vL h, vS 1 (eL .lent 1 (eI .i64)) i]) := by unfold impl_valuesOf_u2 c100_u2; exact wu
@[go_sem] theorem k100_2s (a b c d e f g h i j l m o p q) (r : List Int) (h0 : q = r.length) : (fun A B => Un (tab fu) (n + 2) K c100_u2 ⟨[A, (5, .pt 5999 0), (7, .sl 7999 0 q), (19, vB p)], [B, (5999, .var false [vB j, vI l, vI m, vL o]), (7999, .row false 1 (rowE (eI .i64) r))], 69⟩ (impl_valuesOf_u2 fu a b c d e f g h i j l m o r p) fun P t => P .normal ⟨[A, (7, .sl 7999 0 t.length)], [B, (7999, .row false 1 (rowE (eI .i64) t))], 69⟩) (3, .pt 3999 0) (3999, .var false [vI a, vI b, vI c, vI d, vI e, vI f, vL g, vL h, vS 1 (eL .lent 1 (eI .i64)) i]) := by subst h0; exact k100_2 fu n K _ _ _ _ _ _ _ _ _ _ _ _ _ _ _
@[go_sem] theorem k100_5 (a b c d e f g h i) (j : List Int) (l m o p) : (fun A B C D E => Un (tab fu) (n + 2) K c100_u5 ⟨[A, (7, .sl 7999 0 j.length), (11, vL l), B, C, D, (58, vB p)], [E, (7999, .row false 1 (rowE (eI .i64) j))], 69⟩ (impl_valuesOf_u5 fu a b c d e f g h i j l m o p) fun P t => P .normal ⟨[A, (7, .sl 7999 0 t.length), B, C, D], [E, (7999, .row false 1 (rowE (eI .i64) t))], 69⟩) (3, .pt 3999 0) (49, vS 1 (eL .lent 1 (eI .i64)) i) (50, vI m) (51, vI o) (3999, .var false [vI a, vI b, vI c, vI d, vI e, vI f, vL g, vL h, vS 1 (eL .lent 1 (eI .i64)) i]) := by unfold impl_valuesOf_u5 c100_u5; exact wu
@[go_sem] theorem k100_6 (a b c d e f g h i) (j : List Int) (l m) : (fun A B C D E => Un (tab fu) (n + 2) K c100_u6 ⟨[A, (7, .sl 7999 0 j.length), B, C, D], [E, (7999, .row false 1 (rowE (eI .i64) j))], 69⟩ (impl_valuesOf_u6 fu a b c d e f g h i j l m) fun P t => P .normal ⟨[A, (7, .sl 7999 0 t.length), B, C, D], [E, (7999, .row false 1 (rowE (eI .i64) t))], 69⟩) (3, .pt 3999 0) (49, vS 1 (eL .lent 1 (eI .i64)) i) (50, vI l) (51, vI m) (3999, .var false [vI a, vI b, vI c, vI d, vI e, vI f, vL g, vL h, vS 1 (eL .lent 1 (eI .i64)) i]) := by unfold impl_valuesOf_u6 c100_u6; exact wu
@[go_sem] theorem k100_7 (a b c d e f g h i) (j : List Int) (l m) : Un (tab fu) (n + 2) K (.loop c100_u7) ⟨[(3, .pt 3999 0), (7, .sl 7999 0 j.length), (49, vS 1 (eL .lent 1 (eI .i64)) i), (50, vI l), (51, vI m)], [(3999, .var false [vI a, vI b, vI c, vI d, vI e, vI f, vL g, vL h, vS 1 (eL .lent 1 (eI .i64)) i]), (7999, .row false 1 (rowE (eI .i64) j))], 69⟩ (loopO (impl_valuesOf_s7 fu a b c d e f g h i l) ((j, m))) fun P t => P (.exit 2) ⟨[(7, .sl 7999 0 t.length)], [(7999, .row false 1 (rowE (eI .i64) t))], 69⟩ := by revert j m; exact lp2 fun k j m => by unfold impl_valuesOf_s7 c100_u7; exact wu
@[go_sem] theorem impl_valuesOf_ok (a b c d e f g h i j l m o p) : Fo (tab fu) (n + 3) 100 [.agg [dI a, dI b, dI c, dI d, dI e, dI f, dL g, dL h, dS 1 (eL .lent 1 (eI .i64)) i], .bool j, .agg [.bool l, dI m, dI o, dL p]] (impl_valuesOf fu (SPart.mk a b c d e f g h i) j (SAnchor.mk l m o p)) fun r => (dO 1 (eI .i64) r, g3) := by refine fo rfl rfl rfl rfl ?_; unfold impl_valuesOf c100; exact wf
def impl_sizeBits (a : Int) : Int :=
  if (a == 4) = true then 0
  else if (a == 8) = true then 1
    else 2
@[go_sem] theorem impl_sizeBits_ok (a) : Fo (tab fu) (n + 1) 175 [dI a] (some (impl_sizeBits a)) fun r => (dI r, g1) := by refine fo rfl rfl rfl rfl ?_; unfold impl_sizeBits c175; exact wf
def impl_flags_u1 (a : Int) (b : Bool) : Int :=
  if b = true then (IntKind.i64.wrap (a + 2))
  else a
def impl_flags (a : SPart) (b : Bool) : Int :=
  let c := impl_flags_u1 ((IntKind.i64.wrap ((IntKind.i64.wrap ((IntKind.i64.wrap (a.Side + (IntKind.i64.wrap (4 * a.Spread)))) + (IntKind.i64.wrap (16 * a.Mask)))) + (IntKind.i64.wrap (64 * (impl_sizeBits a.Size)))))) b
  (IntKind.u8.wrap c)
@[go_sem] theorem k104_1 (a b) : Un (tab fu) (n + 1) K c104_u1 ⟨[(5, vI a), (21, vB b)], [], 26⟩ (some (impl_flags_u1 a b)) fun P t => P .normal ⟨[(5, vI t)], [], 26⟩ := by unfold impl_flags_u1 c104_u1; exact wu
@[go_sem] theorem impl_flags_ok (a b c d e f g h i j) : Fo (tab fu) (n + 2) 104 [.agg [dI a, dI b, dI c, dI d, dI e, dI f, dL g, dL h, dS 1 (eL .lent 1 (eI .i64)) i], .bool j] (some (impl_flags (SPart.mk a b c d e f g h i) j)) fun r => (.int .u8 r, g2) := by refine fo rfl rfl rfl rfl ?_; unfold impl_flags c104; exact wf
def slices_Grow_byte (a : List Int) (b : Int) : Option (List Int) := if okGrow 1 b = true then some a else none
@[go_sem] theorem slices_Grow_byte_ok (fu n : Nat) (q : Int) : lev (tab fu) (n + 1) 174 [.emp 1, .int .i64 q] = (slices_Grow_byte [] q).map fun r => (.ow 1 (rowE (eI .u8) r), [.gone, .gone]) := by
  rw [lev_ext (F := (growF 1 1)) ((tab_ext _ _ rfl).trans rfl)]
  unfold growF slices_Grow_byte
  simp only [true_and]
  split <;> rfl
def slices_Concat_byte_u3 (a : List (List Int)) (b c d : Int) (e : Bool) : Option (Unit) :=
  if e = true then none
  else some (())
def slices_Concat_byte_u4 (a : List (List Int)) (b c d : Int) : Option (Int) :=
  (getI a d).bind fun e =>
  (slices_Concat_byte_u3 a ((IntKind.i64.wrap (b + (e.length : Int)))) c d ((decide ((IntKind.i64.wrap (b + (e.length : Int))) < 0)))).bind fun f =>
  some (((IntKind.i64.wrap (b + (e.length : Int)))))
def slices_Concat_byte_s5 (a : List (List Int)) (b : Int) : (Int × Int) → Option ((Int × Int) ⊕ (Int)) := fun ⟨c, d⟩ =>
  if (decide (d < b)) = true then (slices_Concat_byte_u4 a c b d).bind fun e =>
    some ((.inl ((e, (IntKind.i64.wrap (d + 1))))))
  else some ((.inr c))
def slices_Concat_byte_s6 (a : List (List Int)) (b : Int) : ((List Int) × Int) → Option (((List Int) × Int) ⊕ ((List Int))) := fun ⟨c, d⟩ =>
  if (decide (d < b)) = true then (getI a d).bind fun e =>
    if (okApp 1 ((c ++ e)).length) = true then some ((.inl (((c ++ e), (IntKind.i64.wrap (d + 1))))))
    else none
  else some ((.inr c))
def slices_Concat_byte (a : List (List Int)) : Option ((List Int)) :=
  (loopO (slices_Concat_byte_s5 a ((a.length : Int))) ((0, 0))).bind fun b =>
  (slices_Grow_byte ([]) b).bind fun c =>
  (loopO (slices_Concat_byte_s6 a ((a.length : Int))) ((c, 0))).bind fun d =>
  some d
@[go_sem] theorem k102_3 (a b c d e) : (fun A B C D E => Un (tab fu) (n + 1) K c102_u3 ⟨[A, B, C, D, E, (20, vB e)], [], 36⟩ (slices_Concat_byte_u3 a b c d e) fun P t => P .normal ⟨[A, B, C, D, E], [], 36⟩) (0, vS 1 (eL .lent 1 (eI .u8)) a) (3, vI b) (9, vS 1 (eL .lent 1 (eI .u8)) a) (10, vI c) (11, vI d) := by unfold slices_Concat_byte_u3 c102_u3; exact wu
@[go_sem] theorem k102_4 (a b c d) : (fun A B C D => Un (tab fu) (n + 1) K c102_u4 ⟨[A, (3, vI b), B, C, D], [], 36⟩ (slices_Concat_byte_u4 a b c d) fun P t => P .normal ⟨[A, (3, vI t), B, C, D], [], 36⟩) (0, vS 1 (eL .lent 1 (eI .u8)) a) (9, vS 1 (eL .lent 1 (eI .u8)) a) (10, vI c) (11, vI d) := by unfold slices_Concat_byte_u4 c102_u4; exact wu
@[go_sem] theorem k102_5 (a b c d) : (fun A => Un (tab fu) (n + 1) K (.loop c102_u5) ⟨[A, (3, vI b), (9, vS 1 (eL .lent 1 (eI .u8)) a), (10, vI c), (11, vI d)], [], 36⟩ (loopO (slices_Concat_byte_s5 a c) ((b, d))) fun P t => P (.exit 0) ⟨[A, (3, vI t)], [], 36⟩) (0, vS 1 (eL .lent 1 (eI .u8)) a) := by revert b d; exact lp2 fun k b d => by unfold slices_Concat_byte_s5 c102_u5; exact wu
@[go_sem] theorem k102_6 (a : List Int) (b c d) : Un (tab fu) (n + 1) K (.loop c102_u6) ⟨[(6, .sl 6999 0 a.length), (25, vS 1 (eL .lent 1 (eI .u8)) b), (26, vI c), (27, vI d)], [(6999, .row false 1 (rowE (eI .u8) a))], 36⟩ (loopO (slices_Concat_byte_s6 b c) ((a, d))) fun P t => P (.exit 2) ⟨[(6, .sl 6999 0 t.length)], [(6999, .row false 1 (rowE (eI .u8) t))], 36⟩ := by revert a d; exact lp2 fun k a d => by unfold slices_Concat_byte_s6 c102_u6; exact wu
@[go_sem] theorem slices_Concat_byte_ok (a) : Fo (tab fu) (n + 2) 102 [dS 1 (eL .lent 1 (eI .u8)) a] (slices_Concat_byte a) fun r => (dO 1 (eI .u8) r, g1) := by refine fo rfl rfl rfl rfl ?_; unfold slices_Concat_byte c102; exact wf
def impl_SealBytes (a : List Int) : Option (SBytesResult) :=
  if (decide ((a.length : Int) > 158)) = true then some ((SBytesResult.mk 2 ([])))
  else (impl_crcOf a).bind fun b =>
    (slices_Concat_byte ([a, (impl_twoBytes b)])).bind fun c =>
    some ((SBytesResult.mk 0 c))
@[go_sem] theorem impl_SealBytes_ok (a) : Fo (tab fu) (n + 3) 101 [dS 1 (eI .u8) a] (impl_SealBytes a) fun r => (.agg [dI r.Code, dO 1 (eI .u8) r.Bytes], g1) := by refine fo rfl rfl rfl rfl ?_; unfold impl_SealBytes c101; exact wf
def impl_PackPart_u1 (fu : Nat) (a b : Int) (c d : Int) (e f : Int) (g h : List Int) (i : List (List Int)) (j : Bool) (l m : Int) (o : List Int) (p : Bool) : Bool × Bool :=
  if p = true then (true, false)
  else (false, (!(impl_Anchor_precedes ((SAnchor.mk j l m o)) a b)))
def impl_PackPart (fu : Nat) (a : SPart) (b : Bool) (c : SAnchor) : Option (SBytesResult) :=
  (impl_PartFault a).bind fun d =>
  (impl_AnchorFault c).bind fun e =>
  (impl_first ([d, e])).bind fun f =>
  if (f != 0) = true then some ((SBytesResult.mk f ([])))
  else let g := impl_PackPart_u1 fu a.Number a.Size a.Rung a.Mask a.Spread a.Side a.Lows a.Gains a.Pulses c.Known c.Number c.Rung c.Gains b
    if g.2 = true then some ((SBytesResult.mk 8 ([])))
    else (impl_valuesOf fu a g.1 c).bind fun h =>
      (impl_EncodeValues h).bind fun i =>
      if (i.Code != 0) = true then some i
      else (slices_Concat_byte ([(impl_twoBytes a.Number), [(impl_flags a g.1)], i.Bytes])).bind fun j =>
        (impl_SealBytes j).bind fun l =>
        some l
@[go_sem] theorem k42_1 (a b c d e f g h i j l m o p) : (fun A B C D E F => Un (tab fu) (n + 9) K c42_u1 ⟨[(1, vB p), A, B, C], [D, E, F], 52⟩ (some (impl_PackPart_u1 fu a b c d e f g h i j l m o p)) fun P t => P .normal ⟨[(1, vB t.1), A, B, C, (29, vB t.2)], [D, E, F], 52⟩) (3, .pt 3999 0) (5, .pt 5999 0) (6, .pt 6999 0) (3999, .var false [vI a, vI b, vI c, vI d, vI e, vI f, vL g, vL h, vS 1 (eL .lent 1 (eI .i64)) i]) (5999, .var false [vB j, vI l, vI m, vL o]) (6999, .var false [vI 0, .emp 1]) := by unfold impl_PackPart_u1 c42_u1; exact wu
@[go_sem] theorem impl_PackPart_ok (a b c d e f g h i j l m o p) : Fo (tab fu) (n + 10) 42 [.agg [dI a, dI b, dI c, dI d, dI e, dI f, dL g, dL h, dS 1 (eL .lent 1 (eI .i64)) i], .bool j, .agg [.bool l, dI m, dI o, dL p]] (impl_PackPart fu (SPart.mk a b c d e f g h i) j (SAnchor.mk l m o p)) fun r => (.agg [dI r.Code, dO 1 (eI .u8) r.Bytes], g3) := by refine fo rfl rfl rfl rfl ?_; unfold impl_PackPart c42; exact wf
def impl_ReadPart_u1 (fu : Nat) (a : Bool) (b c : Int) (d : List Int) (e f : Int) (g h i : Int) (j : Bool) (l : List Int) : Bool × Bool :=
  if j = true then (true, false)
  else (false, (!(impl_Anchor_precedes ((SAnchor.mk a b c d)) e f)))
def impl_ReadPart_s2 (fu : Nat) (a : Bool) (b c : Int) (d : List Int) (e f : Int) (g h i : Int) (j : Bool) (l : List Int) (m : Int) : (Int × Int) → Option ((Int × Int) ⊕ (Int)) := fun ⟨o, p⟩ =>
  if (decide (p < m)) = true then some ((.inl (((IntKind.i64.wrap (o + (impl_codeIf (((impl_ownerOf e p) == g)) 1))), (IntKind.i64.wrap (p + 1))))))
  else some ((.inr o))
def impl_ReadPart_u3 (fu : Nat) (a b : Int) (c d : Int) (e f : Int) (g h : List Int) (i : List (List Int)) (j : Int) (l m : List Int) : Option (Bool) :=
  if (j != 0) = true then some true
  else (bytes_Equal l m).bind fun o =>
    some ((!o))
def impl_ReadPart_u4 (fu : Nat) (a : Bool) (b c : Int) (d : List Int) (e f : Int) (g h i : Int) (j : Bool) (l : Int) (m o : List Int) : Option (Int × Int × Int × Int × Int × Int × Int × (List Int) × (List Int) × (List (List Int))) :=
  (impl_readPart fu ((SHead.mk e f g h i j)) m ((SAnchor.mk a b c d))).bind fun p =>
  if p.2 = true then (impl_PackPart fu p.1 j ((SAnchor.mk a b c d))).bind fun q =>
    (impl_ReadPart_u3 fu p.1.Number p.1.Size p.1.Rung p.1.Mask p.1.Spread p.1.Side p.1.Lows p.1.Gains p.1.Pulses q.Code q.Bytes o).bind fun r =>
    if r = true then some ((5, 0, 0, 0, 0, 0, 0, [], [], []))
    else some ((0, p.1.Number, p.1.Size, p.1.Rung, p.1.Mask, p.1.Spread, p.1.Side, p.1.Lows, p.1.Gains, p.1.Pulses))
  else some ((5, 0, 0, 0, 0, 0, 0, [], [], []))
def impl_ReadPart (fu : Nat) (a : List Int) (b : SAnchor) : Option (SPartResult) :=
  (impl_ReadHead a).bind fun c =>
  (impl_AnchorFault b).bind fun d =>
  (impl_first ([c.Code, d])).bind fun e =>
  if (e != 0) = true then some ((SPartResult.mk e ((SPart.mk 0 0 0 0 0 0 ([]) ([]) ([])))))
  else let f := impl_ReadPart_u1 fu b.Known b.Number b.Rung b.Gains c.Head.Number c.Head.Size c.Head.Side c.Head.Spread c.Head.Mask c.Head.Intra a
    if f.2 = true then some ((SPartResult.mk 8 ((SPart.mk 0 0 0 0 0 0 ([]) ([]) ([])))))
    else (loopO (impl_ReadPart_s2 fu b.Known b.Number b.Rung b.Gains c.Head.Number c.Head.Size c.Head.Side c.Head.Spread c.Head.Mask f.1 a ((((impl_bandsOf c.Head.Size)).length : Int))) (((IntKind.i64.wrap ((IntKind.i64.wrap (1 + (((impl_bandsOf c.Head.Size)).length : Int))) + (IntKind.i64.wrap (c.Head.Size.tdiv (2 : Int))))), 0))).bind fun g =>
      (subI a 3 ((IntKind.i64.wrap ((a.length : Int) - 2)))).bind fun h =>
      (impl_DecodeValues h g).bind fun i =>
      if (i.Code != 0) = true then some ((SPartResult.mk 5 ((SPart.mk 0 0 0 0 0 0 ([]) ([]) ([])))))
      else (impl_ReadPart_u4 fu b.Known b.Number b.Rung b.Gains c.Head.Number c.Head.Size c.Head.Side c.Head.Spread c.Head.Mask f.1 i.Code i.List_ a).bind fun j =>
        some ((SPartResult.mk j.1 ((SPart.mk j.2.1 j.2.2.1 j.2.2.2.1 j.2.2.2.2.1 j.2.2.2.2.2.1 j.2.2.2.2.2.2.1 j.2.2.2.2.2.2.2.1 j.2.2.2.2.2.2.2.2.1 j.2.2.2.2.2.2.2.2.2))))
@[go_sem] theorem k9_1 (a b c d e f g h i j l) : (fun A B C D E F G H I => Un (tab fu) (n + 10) K c9_u1 ⟨[A, B, C, D], [E, F, G, H, I, (6999, .var false [vI e, vI f, vI g, vI h, vI i, vB j])], 108⟩ (some (impl_ReadPart_u1 fu a b c d e f g h i j l)) fun P t => P .normal ⟨[A, B, C, D, (39, vB t.2)], [E, F, G, H, I, (6999, .var false [vI e, vI f, vI g, vI h, vI i, vB t.1])], 108⟩) (0, vS 1 (eI .u8) l) (3, .pt 3999 0) (4, .pt 4999 0) (6, .pt 6999 0) (3999, .var false [vB a, vI b, vI c, vL d]) (4999, .var false [vI 0, vI 0, vI 0, vI 0, vI 0, vI 0, vI 0, .sl 4998 0 0, .sl 4997 0 0, .sl 4996 0 0]) (4998, .row false 1 []) (4997, .row false 1 []) (4996, .row false 1 []) := by unfold impl_ReadPart_u1 c9_u1; exact wu
@[go_sem] theorem k9_2 (a b c d e f g h i j l m o p) : (fun A B C D E F G H I J => Un (tab fu) (n + 10) K (.loop c9_u2) ⟨[A, B, C, D, (8, vI m), (53, vI o), (54, vI p)], [E, F, G, H, I, J], 108⟩ (loopO (impl_ReadPart_s2 fu a b c d e f g h i j l o) ((m, p))) fun P t => P (.exit 0) ⟨[A, B, C, D, (8, vI t)], [E, F, G, H, I, J], 108⟩) (0, vS 1 (eI .u8) l) (3, .pt 3999 0) (4, .pt 4999 0) (6, .pt 6999 0) (3999, .var false [vB a, vI b, vI c, vL d]) (4999, .var false [vI 0, vI 0, vI 0, vI 0, vI 0, vI 0, vI 0, .sl 4998 0 0, .sl 4997 0 0, .sl 4996 0 0]) (4998, .row false 1 []) (4997, .row false 1 []) (4996, .row false 1 []) (6999, .var false [vI e, vI f, vI g, vI h, vI i, vB j]) := by revert m p; exact lp2 fun k m p => by unfold impl_ReadPart_s2 c9_u2; exact wu
@[go_sem] theorem k9_3 (a b c d e f) (g h : List Int) (i : List (List Int)) (j) (l : List Int) (m) : (fun A B C D E F G H I J => Un (tab fu) (n + 10) K c9_u3 ⟨[(0, vS 1 (eI .u8) m), A, B, (13, .pt 13999 0)], [C, D, E, F, G, H, I, J, (13999, .var false [vI j, .sl 13998 0 l.length]), (13998, .row false 1 (rowE (eI .u8) l))], 108⟩ (impl_ReadPart_u3 fu a b c d e f g h i j l m) fun P t => P .normal ⟨[A, B, (104, vB t)], [C, D, E, F, G, H, I, J], 108⟩) (4, .pt 4999 0) (11, .pt 11999 0) (4999, .var false [vI 0, vI 0, vI 0, vI 0, vI 0, vI 0, vI 0, .sl 4998 0 0, .sl 4997 0 0, .sl 4996 0 0]) (4998, .row false 1 []) (4997, .row false 1 []) (4996, .row false 1 []) (11999, .var false [vI a, vI b, vI c, vI d, vI e, vI f, .sl 11998 0 g.length, .sl 11997 0 h.length, .sl 11996 0 i.length]) (11998, .row false 1 (rowE (eI .i64) g)) (11997, .row false 1 (rowE (eI .i64) h)) (11996, .row false 1 (rowE (eL .own 1 (eI .i64)) i)) := by unfold impl_ReadPart_u3 c9_u3; exact wu
@[go_sem] theorem k9_4 (a b c d e f g h i j l) (m : List Int) (o) : (fun A => Un (tab fu) (n + 10) K c9_u4 ⟨[(0, vS 1 (eI .u8) o), (3, .pt 3999 0), A, (6, .pt 6999 0), (10, .pt 10999 0)], [(3999, .var false [vB a, vI b, vI c, vL d]), (4999, .var false [vI 0, vI 0, vI 0, vI 0, vI 0, vI 0, vI 0, .sl 4998 0 0, .sl 4997 0 0, .sl 4996 0 0]), (4998, .row false 1 []), (4997, .row false 1 []), (4996, .row false 1 []), (6999, .var false [vI e, vI f, vI g, vI h, vI i, vB j]), (10999, .var false [vI l, .sl 10998 0 m.length]), (10998, .row false 1 (rowE (eI .i64) m))], 108⟩ (impl_ReadPart_u4 fu a b c d e f g h i j l m o) fun P t => P .ret ⟨[A], [(4999, .var false [vI t.1, vI t.2.1, vI t.2.2.1, vI t.2.2.2.1, vI t.2.2.2.2.1, vI t.2.2.2.2.2.1, vI t.2.2.2.2.2.2.1, .sl 4998 0 t.2.2.2.2.2.2.2.1.length, .sl 4997 0 t.2.2.2.2.2.2.2.2.1.length, .sl 4996 0 t.2.2.2.2.2.2.2.2.2.length]), (4998, .row false 1 (rowE (eI .i64) t.2.2.2.2.2.2.2.1)), (4997, .row false 1 (rowE (eI .i64) t.2.2.2.2.2.2.2.2.1)), (4996, .row false 1 (rowE (eL .own 1 (eI .i64)) t.2.2.2.2.2.2.2.2.2))], 108⟩) (4, .pt 4999 0) := by unfold impl_ReadPart_u4 c9_u4; exact wu
@[go_sem] theorem impl_ReadPart_ok (a b c d e) : Fo (tab fu) (n + 11) 9 [dS 1 (eI .u8) a, .agg [.bool b, dI c, dI d, dL e]] (impl_ReadPart fu a (SAnchor.mk b c d e)) fun r => (.agg [dI r.Code, dI r.Part.Number, dI r.Part.Size, dI r.Part.Rung, dI r.Part.Mask, dI r.Part.Spread, dI r.Part.Side, dO 1 (eI .i64) r.Part.Lows, dO 1 (eI .i64) r.Part.Gains, dO 1 (eL .own 1 (eI .i64)) r.Part.Pulses], g2) := by refine fo rfl rfl rfl rfl ?_; unfold impl_ReadPart c9; exact wf
def laws_eqInt64S_s1 (a b : List Int) : Int → Option ((Int) ⊕ (Unit ⊕ Unit)) := fun c =>
  if (decide (c < (a.length : Int))) = true then (getI a c).bind fun d =>
    (getI b c).bind fun e =>
    if (d != e) = true then some ((.inr ((.inr (())))))
    else some ((.inl ((IntKind.i64.wrap (c + 1)))))
  else some ((.inr ((.inl (())))))
def laws_eqInt64S (a b : List Int) : Option (Bool) :=
  if ((a.length : Int) != (b.length : Int)) = true then some false
  else (loopO (laws_eqInt64S_s1 a b) 0).bind fun t => (Sum.elim (fun c => some true)
     (fun d => some false)) t
@[go_sem] theorem k45_1 (a b c) : Un (tab fu) n K (.loop c45_u1) ⟨[(0, vL a), (1, vL b), (5, vI c)], [], 26⟩ (loopO (laws_eqInt64S_s1 a b) c) fun P => Sum.elim (fun t => P (.exit 0) ⟨[], [], 26⟩) fun t => P .ret ⟨[(4, vB false)], [], 26⟩ := by revert c; exact lp1 fun k c => by unfold laws_eqInt64S_s1 c45_u1; exact wu
@[go_sem] theorem laws_eqInt64S_ok (a b) : Fo (tab fu) (n + 1) 45 [dL a, dL b] (laws_eqInt64S a b) fun r => (.bool r, g2) := by refine fo rfl rfl rfl rfl ?_; unfold laws_eqInt64S c45; exact wf
def laws_eqInt64SS_s1 (a b : List (List Int)) : Int → Option ((Int) ⊕ (Unit ⊕ Unit)) := fun c =>
  if (decide (c < (a.length : Int))) = true then (getI a c).bind fun d =>
    (getI b c).bind fun e =>
    (laws_eqInt64S d e).bind fun f =>
    if f = true then some ((.inl ((IntKind.i64.wrap (c + 1)))))
    else some ((.inr ((.inr (())))))
  else some ((.inr ((.inl (())))))
def laws_eqInt64SS (a b : List (List Int)) : Option (Bool) :=
  if ((a.length : Int) != (b.length : Int)) = true then some false
  else (loopO (laws_eqInt64SS_s1 a b) 0).bind fun t => (Sum.elim (fun c => some true)
     (fun d => some false)) t
@[go_sem] theorem k105_1 (a b c) : Un (tab fu) (n + 1) K (.loop c105_u1) ⟨[(0, vS 1 (eL .lent 1 (eI .i64)) a), (1, vS 1 (eL .lent 1 (eI .i64)) b), (5, vI c)], [], 27⟩ (loopO (laws_eqInt64SS_s1 a b) c) fun P => Sum.elim (fun t => P (.exit 0) ⟨[], [], 27⟩) fun t => P .ret ⟨[(4, vB false)], [], 27⟩ := by revert c; exact lp1 fun k c => by unfold laws_eqInt64SS_s1 c105_u1; exact wu
@[go_sem] theorem laws_eqInt64SS_ok (a b) : Fo (tab fu) (n + 2) 105 [dS 1 (eL .lent 1 (eI .i64)) a, dS 1 (eL .lent 1 (eI .i64)) b] (laws_eqInt64SS a b) fun r => (.bool r, g2) := by refine fo rfl rfl rfl rfl ?_; unfold laws_eqInt64SS c105; exact wf
def laws_eqPart_u1 (a b : Int) (c d : Int) (e f : Int) (g h : List Int) (i : List (List Int)) (j l : Int) (m o : Int) (p q : Int) (r u : List Int) (v : List (List Int)) : Option (Bool) :=
  (laws_eqInt64S g r).bind fun w =>
  if w = true then (laws_eqInt64S h u).bind fun x =>
    if x = true then (laws_eqInt64SS i v).bind fun y =>
      if y = true then some true
      else some false
    else some false
  else some false
def laws_eqPart_u2 (a b : Int) (c d : Int) (e f : Int) (g h : List Int) (i : List (List Int)) (j l : Int) (m o : Int) (p q : Int) (r u : List Int) (v : List (List Int)) : Option (Bool) :=
  if (d != o) = true then some false
  else if (e != p) = true then some false
    else if (f != q) = true then some false
      else (laws_eqPart_u1 a b c d e f g h i j l m o p q r u v).bind fun w =>
        some w
def laws_eqPart (a b : SPart) : Option (Bool) :=
  if (a.Number != b.Number) = true then some false
  else if (a.Size != b.Size) = true then some false
    else if (a.Rung != b.Rung) = true then some false
      else (laws_eqPart_u2 a.Number a.Size a.Rung a.Mask a.Spread a.Side a.Lows a.Gains a.Pulses b.Number b.Size b.Rung b.Mask b.Spread b.Side b.Lows b.Gains b.Pulses).bind fun c =>
        some c
@[go_sem] theorem k44_1 (a b c d e f g h i j l m o p q r u v) : Un (tab fu) (n + 2) K c44_u1 ⟨[(2, .pt 2999 0), (3, .pt 3999 0)], [(2999, .var false [vI a, vI b, vI c, vI d, vI e, vI f, vL g, vL h, vS 1 (eL .lent 1 (eI .i64)) i]), (3999, .var false [vI j, vI l, vI m, vI o, vI p, vI q, vL r, vL u, vS 1 (eL .lent 1 (eI .i64)) v])], 53⟩ (laws_eqPart_u1 a b c d e f g h i j l m o p q r u v) fun P t => P .ret ⟨[(4, vB t)], [], 53⟩ := by unfold laws_eqPart_u1 c44_u1; exact wu
@[go_sem] theorem k44_2 (a b c d e f g h i j l m o p q r u v) : Un (tab fu) (n + 2) K c44_u2 ⟨[(2, .pt 2999 0), (3, .pt 3999 0)], [(2999, .var false [vI a, vI b, vI c, vI d, vI e, vI f, vL g, vL h, vS 1 (eL .lent 1 (eI .i64)) i]), (3999, .var false [vI j, vI l, vI m, vI o, vI p, vI q, vL r, vL u, vS 1 (eL .lent 1 (eI .i64)) v])], 53⟩ (laws_eqPart_u2 a b c d e f g h i j l m o p q r u v) fun P t => P .ret ⟨[(4, vB t)], [], 53⟩ := by unfold laws_eqPart_u2 c44_u2; exact wu
@[go_sem] theorem laws_eqPart_ok (a b c d e f g h i j l m o p q u v w) : Fo (tab fu) (n + 3) 44 [.agg [dI a, dI b, dI c, dI d, dI e, dI f, dL g, dL h, dS 1 (eL .lent 1 (eI .i64)) i], .agg [dI j, dI l, dI m, dI o, dI p, dI q, dL u, dL v, dS 1 (eL .lent 1 (eI .i64)) w]] (laws_eqPart (SPart.mk a b c d e f g h i) (SPart.mk j l m o p q u v w)) fun r => (.bool r, g2) := by refine fo rfl rfl rfl rfl ?_; unfold laws_eqPart c44; exact wf
def laws_eqPartResult (a b : SPartResult) : Option (Bool) :=
  if (a.Code != b.Code) = true then some false
  else (laws_eqPart a.Part b.Part).bind fun c =>
    if c = true then some true
    else some false
@[go_sem] theorem laws_eqPartResult_ok (a b c d e f g h i j l m o p q u v w x y) : Fo (tab fu) (n + 4) 10 [.agg [dI a, dI b, dI c, dI d, dI e, dI f, dI g, dL h, dL i, dS 1 (eL .lent 1 (eI .i64)) j], .agg [dI l, dI m, dI o, dI p, dI q, dI u, dI v, dL w, dL x, dS 1 (eL .lent 1 (eI .i64)) y]] (laws_eqPartResult (SPartResult.mk a (SPart.mk b c d e f g h i j)) (SPartResult.mk l (SPart.mk m o p q u v w x y))) fun r => (.bool r, g2) := by refine fo rfl rfl rfl rfl ?_; unfold laws_eqPartResult c10; exact wf
def laws_eqByteS_s1 (a b : List Int) : Int → Option ((Int) ⊕ (Unit ⊕ Unit)) := fun c =>
  if (decide (c < (a.length : Int))) = true then (getI a c).bind fun d =>
    (getI b c).bind fun e =>
    if (d != e) = true then some ((.inr ((.inr (())))))
    else some ((.inl ((IntKind.i64.wrap (c + 1)))))
  else some ((.inr ((.inl (())))))
def laws_eqByteS (a b : List Int) : Option (Bool) :=
  if ((a.length : Int) != (b.length : Int)) = true then some false
  else (loopO (laws_eqByteS_s1 a b) 0).bind fun t => (Sum.elim (fun c => some true)
     (fun d => some false)) t
@[go_sem] theorem k11_1 (a b c) : Un (tab fu) n K (.loop c11_u1) ⟨[(0, vS 1 (eI .u8) a), (1, vS 1 (eI .u8) b), (5, vI c)], [], 26⟩ (loopO (laws_eqByteS_s1 a b) c) fun P => Sum.elim (fun t => P (.exit 0) ⟨[], [], 26⟩) fun t => P .ret ⟨[(4, vB false)], [], 26⟩ := by revert c; exact lp1 fun k c => by unfold laws_eqByteS_s1 c11_u1; exact wu
@[go_sem] theorem laws_eqByteS_ok (a b) : Fo (tab fu) (n + 1) 11 [dS 1 (eI .u8) a, dS 1 (eI .u8) b] (laws_eqByteS a b) fun r => (.bool r, g2) := by refine fo rfl rfl rfl rfl ?_; unfold laws_eqByteS c11; exact wf
def laws_eqAnchor (a b : SAnchor) : Option (Bool) :=
  if (a.Known == b.Known) = true then if (a.Number != b.Number) = true then some false
    else if (a.Rung != b.Rung) = true then some false
      else (laws_eqInt64S a.Gains b.Gains).bind fun c =>
        if c = true then some true
        else some false
  else some false
@[go_sem] theorem laws_eqAnchor_ok (a b c d e f g h) : Fo (tab fu) (n + 2) 12 [.agg [.bool a, dI b, dI c, dL d], .agg [.bool e, dI f, dI g, dL h]] (laws_eqAnchor (SAnchor.mk a b c d) (SAnchor.mk e f g h)) fun r => (.bool r, g2) := by refine fo rfl rfl rfl rfl ?_; unfold laws_eqAnchor c12; exact wf
def laws_markByteS_s1 : ((List Int) × Int × Int) → Option (((List Int) × Int × Int) ⊕ ((List Int) × Int)) := fun ⟨a, b, c⟩ =>
  if (decide (c < (a.length : Int))) = true then (getI a c).bind fun _ =>
    (a[c.toNat]?).bind fun _ =>
    some ((.inl (((a.set c.toNat ((IntKind.u8.wrap b))), (IntKind.i64.wrap (b + 1)), (IntKind.i64.wrap (c + 1))))))
  else some ((.inr ((a, b))))
def laws_markByteS (a : List Int) (b : Int) : Option (Int × (List Int)) :=
  (loopO laws_markByteS_s1 ((a, b, 0))).bind fun c =>
  some ((c.2, c.1))
@[go_sem] theorem k13_1 (a : List Int) (b c) : Un (tab fu) n K (.loop c13_u1) ⟨[(0, .sl 1000000000 0 a.length), (1, vI b), (5, vI c)], [(1000000000, .row true 1 (rowE (eI .u8) a))], 20⟩ (loopO laws_markByteS_s1 ((a, b, c))) fun P t => P (.exit 0) ⟨[(1, vI t.2)], [(1000000000, .row true 1 (rowE (eI .u8) t.1))], 20⟩ := by revert a b c; exact lp3 fun k a b c => by unfold laws_markByteS_s1 c13_u1; exact wu
@[go_sem] theorem laws_markByteS_ok (a b) : Fo (tab fu) (n + 1) 13 [dO 1 (eI .u8) a, dI b] (laws_markByteS a b) fun r => (dI r.1, [dO 1 (eI .u8) r.2, .gone]) := by refine fo rfl rfl rfl rfl ?_; unfold laws_markByteS c13; exact wf
def laws_markInt64S_s1 : ((List Int) × Int × Int) → Option (((List Int) × Int × Int) ⊕ ((List Int) × Int)) := fun ⟨a, b, c⟩ =>
  if (decide (c < (a.length : Int))) = true then (getI a c).bind fun _ =>
    (a[c.toNat]?).bind fun _ =>
    some ((.inl (((a.set c.toNat b), (IntKind.i64.wrap (b + 1)), (IntKind.i64.wrap (c + 1))))))
  else some ((.inr ((a, b))))
def laws_markInt64S (a : List Int) (b : Int) : Option (Int × (List Int)) :=
  (loopO laws_markInt64S_s1 ((a, b, 0))).bind fun c =>
  some ((c.2, c.1))
@[go_sem] theorem k46_1 (a : List Int) (b c) : Un (tab fu) n K (.loop c46_u1) ⟨[(0, .sl 1000000000 0 a.length), (1, vI b), (5, vI c)], [(1000000000, .row true 1 (rowE (eI .i64) a))], 19⟩ (loopO laws_markInt64S_s1 ((a, b, c))) fun P t => P (.exit 0) ⟨[(1, vI t.2)], [(1000000000, .row true 1 (rowE (eI .i64) t.1))], 19⟩ := by revert a b c; exact lp3 fun k a b c => by unfold laws_markInt64S_s1 c46_u1; exact wu
@[go_sem] theorem laws_markInt64S_ok (a b) : Fo (tab fu) (n + 1) 46 [dO 1 (eI .i64) a, dI b] (laws_markInt64S a b) fun r => (dI r.1, [dO 1 (eI .i64) r.2, .gone]) := by refine fo rfl rfl rfl rfl ?_; unfold laws_markInt64S c46; exact wf
def laws_markAnchor_o (a : SAnchor) (b : Int) : Option (Int × SAnchor) :=
  (laws_markInt64S a.Gains b).bind fun c =>
  if a.Gains.length = c.2.length then some ((c.1, (SAnchor.mk a.Known a.Number a.Rung c.2)))
  else none
@[go_sem] theorem laws_markAnchor_o_ok (a b c d e) : Fo (tab fu) (n + 2) 14 [.bool a, dI b, dI c, dO 1 (eI .i64) d, dI e] (laws_markAnchor_o (SAnchor.mk a b c d) e) fun r => (dI r.1, [.gone, .gone, .gone, dO 1 (eI .i64) r.2.Gains, .gone]) := by refine fo rfl rfl rfl rfl ?_; unfold laws_markAnchor_o c14; exact wf
def laws_markInt64SS_s1 : ((List (List Int)) × Int × Int) → Option (((List (List Int)) × Int × Int) ⊕ ((List (List Int)) × Int)) := fun ⟨a, b, c⟩ =>
  if (decide (c < (a.length : Int))) = true then (getI a c).bind fun _ =>
    (a[c.toNat]?).bind fun d =>
    (laws_markInt64S d b).bind fun e =>
    if d.length = e.2.length then (a[c.toNat]?).bind fun _ =>
      some ((.inl (((a.set c.toNat e.2), e.1, (IntKind.i64.wrap (c + 1))))))
    else none
  else some ((.inr ((a, b))))
def laws_markInt64SS (a : List (List Int)) (b : Int) : Option (Int × (List (List Int))) :=
  (loopO laws_markInt64SS_s1 ((a, b, 0))).bind fun c =>
  some ((c.2, c.1))
@[go_sem] theorem k106_1 (a : List (List Int)) (b c) : Un (tab fu) (n + 1) K (.loop c106_u1) ⟨[(0, .sl 1000000000 0 a.length), (1, vI b), (5, vI c)], [(1000000000, .row true 1 (rowE (eL .own 1 (eI .i64)) a))], 19⟩ (loopO laws_markInt64SS_s1 ((a, b, c))) fun P t => P (.exit 0) ⟨[(1, vI t.2)], [(1000000000, .row true 1 (rowE (eL .own 1 (eI .i64)) t.1))], 19⟩ := by revert a b c; exact lp3 fun k a b c => by unfold laws_markInt64SS_s1 c106_u1; exact wu
@[go_sem] theorem laws_markInt64SS_ok (a b) : Fo (tab fu) (n + 2) 106 [dO 1 (eL .own 1 (eI .i64)) a, dI b] (laws_markInt64SS a b) fun r => (dI r.1, [dO 1 (eL .own 1 (eI .i64)) r.2, .gone]) := by refine fo rfl rfl rfl rfl ?_; unfold laws_markInt64SS c106; exact wf
def laws_markPart_ooo (a : SPart) (b : Int) : Option (Int × SPart) :=
  (laws_markInt64S a.Lows b).bind fun c =>
  if a.Lows.length = c.2.length then (laws_markInt64S a.Gains c.1).bind fun d =>
    if a.Gains.length = d.2.length then (laws_markInt64SS a.Pulses d.1).bind fun e =>
      if a.Pulses.length = e.2.length then some ((e.1, (SPart.mk a.Number a.Size a.Rung a.Mask a.Spread a.Side c.2 d.2 e.2)))
      else none
    else none
  else none
@[go_sem] theorem laws_markPart_ooo_ok (a b c d e f g h i j) : Fo (tab fu) (n + 3) 47 [dI a, dI b, dI c, dI d, dI e, dI f, dO 1 (eI .i64) g, dO 1 (eI .i64) h, dO 1 (eL .own 1 (eI .i64)) i, dI j] (laws_markPart_ooo (SPart.mk a b c d e f g h i) j) fun r => (dI r.1, [.gone, .gone, .gone, .gone, .gone, .gone, dO 1 (eI .i64) r.2.Lows, dO 1 (eI .i64) r.2.Gains, dO 1 (eL .own 1 (eI .i64)) r.2.Pulses, .gone]) := by refine fo rfl rfl rfl rfl ?_; unfold laws_markPart_ooo c47; exact wf
def laws_markPartResult_ooo (a : SPartResult) (b : Int) : Option (Int × SPartResult) :=
  (laws_markPart_ooo a.Part b).bind fun c =>
  if a.Part.Pulses.length = c.2.Pulses.length ∧ a.Part.Gains.length = c.2.Gains.length ∧ a.Part.Lows.length = c.2.Lows.length then some ((c.1, (SPartResult.mk a.Code ((SPart.mk a.Part.Number a.Part.Size a.Part.Rung a.Part.Mask a.Part.Spread a.Part.Side c.2.Lows c.2.Gains c.2.Pulses)))))
  else none
@[go_sem] theorem laws_markPartResult_ooo_ok (a b c d e f g h i j l) : Fo (tab fu) (n + 4) 15 [dI a, dI b, dI c, dI d, dI e, dI f, dI g, dO 1 (eI .i64) h, dO 1 (eI .i64) i, dO 1 (eL .own 1 (eI .i64)) j, dI l] (laws_markPartResult_ooo (SPartResult.mk a (SPart.mk b c d e f g h i j)) l) fun r => (dI r.1, [.gone, .gone, .gone, .gone, .gone, .gone, .gone, dO 1 (eI .i64) r.2.Part.Lows, dO 1 (eI .i64) r.2.Part.Gains, dO 1 (eL .own 1 (eI .i64)) r.2.Part.Pulses, .gone]) := by refine fo rfl rfl rfl rfl ?_; unfold laws_markPartResult_ooo c15; exact wf
def laws_heldInt64S_s1 (a : List Int) : (Int × Int) → Option ((Int × Int) ⊕ (Int ⊕ Unit)) := fun ⟨b, c⟩ =>
  if (decide (c < (a.length : Int))) = true then (getI a c).bind fun d =>
    if (d != b) = true then some ((.inr ((.inr (())))))
    else some ((.inl (((IntKind.i64.wrap (b + 1)), (IntKind.i64.wrap (c + 1))))))
  else some ((.inr ((.inl b))))
def laws_heldInt64S (a : List Int) (b : Int) : Option (Int) :=
  (loopO (laws_heldInt64S_s1 a) ((b, 0))).bind fun t => (Sum.elim (fun c => some c)
   (fun d => some ((-1)))) t
@[go_sem] theorem k107_1 (a b c) : Un (tab fu) n K (.loop c107_u1) ⟨[(0, vL a), (1, vI b), (5, vI c)], [], 21⟩ (loopO (laws_heldInt64S_s1 a) ((b, c))) fun P => Sum.elim (fun t => P (.exit 0) ⟨[(1, vI t)], [], 21⟩) fun t => P .ret ⟨[(4, vI ((-1)))], [], 21⟩ := by revert b c; exact lp2 fun k b c => by unfold laws_heldInt64S_s1 c107_u1; exact wu
@[go_sem] theorem laws_heldInt64S_ok (a b) : Fo (tab fu) (n + 1) 107 [dL a, dI b] (laws_heldInt64S a b) fun r => (dI r, g2) := by refine fo rfl rfl rfl rfl ?_; unfold laws_heldInt64S c107; exact wf
def laws_heldInt64SS_s1 (a : List (List Int)) : (Int × Int) → Option ((Int × Int) ⊕ (Int ⊕ Unit)) := fun ⟨b, c⟩ =>
  if (decide (c < (a.length : Int))) = true then (getI a c).bind fun d =>
    (laws_heldInt64S d b).bind fun e =>
    if (decide (e < 0)) = true then some ((.inr ((.inr (())))))
    else some ((.inl ((e, (IntKind.i64.wrap (c + 1))))))
  else some ((.inr ((.inl b))))
def laws_heldInt64SS (a : List (List Int)) (b : Int) : Option (Int) :=
  (loopO (laws_heldInt64SS_s1 a) ((b, 0))).bind fun t => (Sum.elim (fun c => some c)
   (fun d => some ((-1)))) t
@[go_sem] theorem k108_1 (a b c) : Un (tab fu) (n + 1) K (.loop c108_u1) ⟨[(0, vS 1 (eL .lent 1 (eI .i64)) a), (1, vI b), (5, vI c)], [], 21⟩ (loopO (laws_heldInt64SS_s1 a) ((b, c))) fun P => Sum.elim (fun t => P (.exit 0) ⟨[(1, vI t)], [], 21⟩) fun t => P .ret ⟨[(4, vI ((-1)))], [], 21⟩ := by revert b c; exact lp2 fun k b c => by unfold laws_heldInt64SS_s1 c108_u1; exact wu
@[go_sem] theorem laws_heldInt64SS_ok (a b) : Fo (tab fu) (n + 2) 108 [dS 1 (eL .lent 1 (eI .i64)) a, dI b] (laws_heldInt64SS a b) fun r => (dI r, g2) := by refine fo rfl rfl rfl rfl ?_; unfold laws_heldInt64SS c108; exact wf
def laws_heldPart (a : SPart) (b : Int) : Option (Int) :=
  (laws_heldInt64S a.Lows b).bind fun c =>
  if (decide (c < 0)) = true then some ((-1))
  else (laws_heldInt64S a.Gains c).bind fun d =>
    if (decide (d < 0)) = true then some ((-1))
    else (laws_heldInt64SS a.Pulses d).bind fun e =>
      if (decide (e < 0)) = true then some ((-1))
      else some e
@[go_sem] theorem laws_heldPart_ok (a b c d e f g h i j) : Fo (tab fu) (n + 3) 48 [.agg [dI a, dI b, dI c, dI d, dI e, dI f, dL g, dL h, dS 1 (eL .lent 1 (eI .i64)) i], dI j] (laws_heldPart (SPart.mk a b c d e f g h i) j) fun r => (dI r, g2) := by refine fo rfl rfl rfl rfl ?_; unfold laws_heldPart c48; exact wf
def laws_heldPartResult (a : SPartResult) (b : Int) : Option (Int) :=
  (laws_heldPart a.Part b).bind fun c =>
  if (decide (c < 0)) = true then some ((-1))
  else some c
@[go_sem] theorem laws_heldPartResult_ok (a b c d e f g h i j l) : Fo (tab fu) (n + 4) 16 [.agg [dI a, dI b, dI c, dI d, dI e, dI f, dI g, dL h, dL i, dS 1 (eL .lent 1 (eI .i64)) j], dI l] (laws_heldPartResult (SPartResult.mk a (SPart.mk b c d e f g h i j)) l) fun r => (dI r, g2) := by refine fo rfl rfl rfl rfl ?_; unfold laws_heldPartResult c16; exact wf
def laws_FnExactReadPart_u1 (fu : Nat) (a : Bool) (b c : Int) (d e : List Int) : Option (Int × Int × Int × Int × Int × Int × Int × (List Int) × (List Int) × (List (List Int))) :=
  (laws_toByteS e).bind fun f =>
  (laws_toAnchor ((SAnchor.mk a b c d))).bind fun g =>
  (spec_ReadPart f g).bind fun h =>
  some ((h.Code, h.Part.Number, h.Part.Size, h.Part.Rung, h.Part.Mask, h.Part.Spread, h.Part.Side, h.Part.Lows, h.Part.Gains, h.Part.Pulses))
def laws_FnExactReadPart_u2 (fu : Nat) (a : Bool) (b c : Int) (d : List Int) (e f : Int) (g h : Int) (i j l : Int) (m o : List Int) (p : List (List Int)) (q r : Int) (u v : Int) (w x y : Int) (z a0 : List Int) (b0 : List (List Int)) (c0 : List Int) (d0 : Int) : Option (Bool) :=
  if (decide (d0 < 0)) = true then some true
  else (laws_eqPartResult ((SPartResult.mk q ((SPart.mk r u v w x y z a0 b0)))) ((SPartResult.mk e ((SPart.mk f g h i j l m o p))))).bind fun e0 =>
    some ((!e0))
def laws_FnExactReadPart_u3 (fu : Nat) (a : Bool) (b c : Int) (d : List Int) (e f : Int) (g h : Int) (i j l : Int) (m o : List Int) (p : List (List Int)) (q r : Int) (u v : Int) (w x y : Int) (z a0 : List Int) (b0 : List (List Int)) (c0 : List Int) (d0 : Int) : Option (Int × Int × Int × Int × Int × Int × Int × (List Int) × (List Int) × (List (List Int))) :=
  (laws_toByteS c0).bind fun e0 =>
  (laws_toAnchor ((SAnchor.mk a b c d))).bind fun f0 =>
  (impl_ReadPart fu e0 f0).bind fun g0 =>
  some ((g0.Code, g0.Part.Number, g0.Part.Size, g0.Part.Rung, g0.Part.Mask, g0.Part.Spread, g0.Part.Side, g0.Part.Lows, g0.Part.Gains, g0.Part.Pulses))
def laws_FnExactReadPart_u4 (fu : Nat) (a b : Int) (c d : Int) (e f g : Int) (h i : List Int) (j : List (List Int)) (l : Int) : Option (Bool) :=
  (laws_heldPartResult ((SPartResult.mk a ((SPart.mk b c d e f g h i j)))) 1).bind fun m =>
  if (decide (m < 0)) = true then some false
  else if (m != l) = true then some false
    else some true
def laws_FnExactReadPart_u5 (fu : Nat) (a : Bool) (b c : Int) (d : List Int) (e f : Int) (g h : Int) (i j l : Int) (m o : List Int) (p : List (List Int)) (q r : Int) (u v : Int) (w x y : Int) (z a0 : List Int) (b0 : List (List Int)) (c0 : List Int) (d0 : Int) : Option (Bool) :=
  (laws_heldPartResult ((SPartResult.mk q ((SPart.mk r u v w x y z a0 b0)))) 1).bind fun e0 =>
  if (decide (e0 < 0)) = true then some false
  else if (e0 != d0) = true then some false
    else (laws_FnExactReadPart_u3 fu a b c d e f g h i j l m o p q r u v w x y z a0 b0 c0 d0).bind fun f0 =>
      (laws_eqPartResult ((SPartResult.mk f0.1 ((SPart.mk f0.2.1 f0.2.2.1 f0.2.2.2.1 f0.2.2.2.2.1 f0.2.2.2.2.2.1 f0.2.2.2.2.2.2.1 f0.2.2.2.2.2.2.2.1 f0.2.2.2.2.2.2.2.2.1 f0.2.2.2.2.2.2.2.2.2)))) ((SPartResult.mk e ((SPart.mk f g h i j l m o p))))).bind fun g0 =>
      if g0 = true then (laws_FnExactReadPart_u4 fu q r u v w x y z a0 b0 d0).bind fun h0 =>
        some h0
      else some false
def laws_FnExactReadPart_u6 (fu : Nat) (a : Bool) (b c : Int) (d : List Int) (e f : Int) (g h : Int) (i j l : Int) (m o : List Int) (p : List (List Int)) (q : Bool) (r u : Int) (v : List Int) (w x : Int) (y z : Int) (a0 b0 c0 : Int) (d0 e0 : List Int) (f0 : List (List Int)) (g0 : List Int) (h0 : Int) : Option (Bool) :=
  (laws_markAnchor_o ((SAnchor.mk q r u v)) h0).bind fun j0 =>
  if v.length = j0.2.Gains.length then (laws_FnExactReadPart_u2 fu a b c d e f g h i j l m o p w x y z a0 b0 c0 d0 e0 f0 g0 j0.1).bind fun l0 =>
    if l0 = true then some false
    else (laws_markPartResult_ooo ((SPartResult.mk w ((SPart.mk x y z a0 b0 c0 d0 e0 f0)))) 1).bind fun m0 =>
      if f0.length = m0.2.Part.Pulses.length ∧ e0.length = m0.2.Part.Gains.length ∧ d0.length = m0.2.Part.Lows.length then (laws_FnExactReadPart_u5 fu a b c d e f g h i j l m o p w x y z a0 b0 c0 m0.2.Part.Lows m0.2.Part.Gains m0.2.Part.Pulses g0 m0.1).bind fun o0 =>
        some o0
      else none
  else none
def laws_FnExactReadPart_u7 (fu : Nat) (a : Bool) (b c : Int) (d : List Int) (e f : Int) (g h : Int) (i j l : Int) (m o : List Int) (p : List (List Int)) (q : List Int) (r : Bool) (u v : Int) (w : List Int) (x y : Int) (z a0 : Int) (b0 c0 d0 : Int) (e0 f0 : List Int) (g0 : List (List Int)) (h0 : List Int) : Option (Bool) :=
  (laws_toByteS h0).bind fun j0 =>
  (laws_eqByteS q j0).bind fun l0 =>
  if l0 = true then (laws_toAnchor ((SAnchor.mk a b c d))).bind fun m0 =>
    (laws_eqAnchor ((SAnchor.mk r u v w)) m0).bind fun o0 =>
    if o0 = true then (laws_markByteS q 1).bind fun p0 =>
      if q.length = p0.2.length then (laws_FnExactReadPart_u6 fu a b c d e f g h i j l m o p r u v w x y z a0 b0 c0 d0 e0 f0 g0 h0 p0.1).bind fun q0 =>
        some q0
      else none
    else some false
  else some false
def laws_FnExactReadPart (fu : Nat) (a : List Int) (b : SAnchor) : Option (Bool) :=
  if (decide ((a.length : Int) > 1048576)) = true then some true
  else if (decide ((laws_szAnchor b 1048576) < 0)) = true then some true
    else (laws_FnExactReadPart_u1 fu b.Known b.Number b.Rung b.Gains a).bind fun c =>
      (laws_toByteS a).bind fun d =>
      (laws_toAnchor b).bind fun e =>
      (impl_ReadPart fu d e).bind fun f =>
      (laws_eqPartResult f ((SPartResult.mk c.1 ((SPart.mk c.2.1 c.2.2.1 c.2.2.2.1 c.2.2.2.2.1 c.2.2.2.2.2.1 c.2.2.2.2.2.2.1 c.2.2.2.2.2.2.2.1 c.2.2.2.2.2.2.2.2.1 c.2.2.2.2.2.2.2.2.2))))).bind fun g =>
      if g = true then (laws_FnExactReadPart_u7 fu b.Known b.Number b.Rung b.Gains c.1 c.2.1 c.2.2.1 c.2.2.2.1 c.2.2.2.2.1 c.2.2.2.2.2.1 c.2.2.2.2.2.2.1 c.2.2.2.2.2.2.2.1 c.2.2.2.2.2.2.2.2.1 c.2.2.2.2.2.2.2.2.2 d e.Known e.Number e.Rung e.Gains f.Code f.Part.Number f.Part.Size f.Part.Rung f.Part.Mask f.Part.Spread f.Part.Side f.Part.Lows f.Part.Gains f.Part.Pulses a).bind fun h =>
        some h
      else some false
@[go_sem] theorem k3_1 (a b c d e) : (fun A B C => Un (tab fu) (n + 11) K c3_u1 ⟨[A, B], [C], 90⟩ (laws_FnExactReadPart_u1 fu a b c d e) fun P t => P .normal ⟨[A, B, (6, .pt 6999 0)], [C, (6999, .var false [vI t.1, vI t.2.1, vI t.2.2.1, vI t.2.2.2.1, vI t.2.2.2.2.1, vI t.2.2.2.2.2.1, vI t.2.2.2.2.2.2.1, .sl 6998 0 t.2.2.2.2.2.2.2.1.length, .sl 6997 0 t.2.2.2.2.2.2.2.2.1.length, .sl 6996 0 t.2.2.2.2.2.2.2.2.2.length]), (6998, .row false 1 (rowE (eI .i64) t.2.2.2.2.2.2.2.1)), (6997, .row false 1 (rowE (eI .i64) t.2.2.2.2.2.2.2.2.1)), (6996, .row false 1 (rowE (eL .own 1 (eI .i64)) t.2.2.2.2.2.2.2.2.2))], 90⟩) (0, vS 1 (eI .u8) e) (3, .pt 3999 0) (3999, .var false [vB a, vI b, vI c, vL d]) := by unfold laws_FnExactReadPart_u1 c3_u1; exact wa
@[go_sem] theorem k3_2 (a b c d e f g h i j l) (m o : List Int) (p : List (List Int)) (q r u v w x y) (z a0 : List Int) (b0 : List (List Int)) (c0 d0) : (fun A B C D E F G H I J L M N => Un (tab fu) (n + 11) K c3_u2 ⟨[A, B, C, D, (10, vI d0)], [E, F, G, H, I, J, L, M, N], 90⟩ (laws_FnExactReadPart_u2 fu a b c d e f g h i j l m o p q r u v w x y z a0 b0 c0 d0) fun P t => P .normal ⟨[A, B, C, D, (61, vB t)], [E, F, G, H, I, J, L, M, N], 90⟩) (0, vS 1 (eI .u8) c0) (3, .pt 3999 0) (6, .pt 6999 0) (9, .pt 9999 0) (3999, .var false [vB a, vI b, vI c, vL d]) (6999, .var false [vI e, vI f, vI g, vI h, vI i, vI j, vI l, .sl 6998 0 m.length, .sl 6997 0 o.length, .sl 6996 0 p.length]) (6998, .row false 1 (rowE (eI .i64) m)) (6997, .row false 1 (rowE (eI .i64) o)) (6996, .row false 1 (rowE (eL .own 1 (eI .i64)) p)) (9999, .var false [vI q, vI r, vI u, vI v, vI w, vI x, vI y, .sl 9998 0 z.length, .sl 9997 0 a0.length, .sl 9996 0 b0.length]) (9998, .row false 1 (rowE (eI .i64) z)) (9997, .row false 1 (rowE (eI .i64) a0)) (9996, .row false 1 (rowE (eL .own 1 (eI .i64)) b0)) := by unfold laws_FnExactReadPart_u2 c3_u2; exact wu
@[go_sem] theorem k3_3 (a b c d e f g h i j l) (m o : List Int) (p : List (List Int)) (q r u v w x y) (z a0 : List Int) (b0 : List (List Int)) (c0 d0) : (fun A B C D E F G H I J L => Un (tab fu) (n + 11) K c3_u3 ⟨[(0, vS 1 (eI .u8) c0), (3, .pt 3999 0), A, B, C], [(3999, .var false [vB a, vI b, vI c, vL d]), D, E, F, G, H, I, J, L], 90⟩ (laws_FnExactReadPart_u3 fu a b c d e f g h i j l m o p q r u v w x y z a0 b0 c0 d0) fun P t => P .normal ⟨[A, B, C, (13, .pt 13999 0)], [D, E, F, G, H, I, J, L, (13999, .var false [vI t.1, vI t.2.1, vI t.2.2.1, vI t.2.2.2.1, vI t.2.2.2.2.1, vI t.2.2.2.2.2.1, vI t.2.2.2.2.2.2.1, .sl 13998 0 t.2.2.2.2.2.2.2.1.length, .sl 13997 0 t.2.2.2.2.2.2.2.2.1.length, .sl 13996 0 t.2.2.2.2.2.2.2.2.2.length]), (13998, .row false 1 (rowE (eI .i64) t.2.2.2.2.2.2.2.1)), (13997, .row false 1 (rowE (eI .i64) t.2.2.2.2.2.2.2.2.1)), (13996, .row false 1 (rowE (eL .own 1 (eI .i64)) t.2.2.2.2.2.2.2.2.2))], 90⟩) (6, .pt 6999 0) (9, .pt 9999 0) (11, vI d0) (6999, .var false [vI e, vI f, vI g, vI h, vI i, vI j, vI l, .sl 6998 0 m.length, .sl 6997 0 o.length, .sl 6996 0 p.length]) (6998, .row false 1 (rowE (eI .i64) m)) (6997, .row false 1 (rowE (eI .i64) o)) (6996, .row false 1 (rowE (eL .own 1 (eI .i64)) p)) (9999, .var false [vI q, vI r, vI u, vI v, vI w, vI x, vI y, .sl 9998 0 z.length, .sl 9997 0 a0.length, .sl 9996 0 b0.length]) (9998, .row false 1 (rowE (eI .i64) z)) (9997, .row false 1 (rowE (eI .i64) a0)) (9996, .row false 1 (rowE (eL .own 1 (eI .i64)) b0)) := by unfold laws_FnExactReadPart_u3 c3_u3; exact wa
@[go_sem] theorem k3_4 (a b c d e f g) (h i : List Int) (j : List (List Int)) (l) : Un (tab fu) (n + 11) K c3_u4 ⟨[(9, .pt 9999 0), (11, vI l)], [(9999, .var false [vI a, vI b, vI c, vI d, vI e, vI f, vI g, .sl 9998 0 h.length, .sl 9997 0 i.length, .sl 9996 0 j.length]), (9998, .row false 1 (rowE (eI .i64) h)), (9997, .row false 1 (rowE (eI .i64) i)), (9996, .row false 1 (rowE (eL .own 1 (eI .i64)) j))], 90⟩ (laws_FnExactReadPart_u4 fu a b c d e f g h i j l) fun P t => P .ret ⟨[(4, vB t)], [], 90⟩ := by unfold laws_FnExactReadPart_u4 c3_u4; exact wu
@[go_sem] theorem k3_5 (a b c d e f g h i j l) (m o : List Int) (p : List (List Int)) (q r u v w x y) (z a0 : List Int) (b0 : List (List Int)) (c0 d0) : Un (tab fu) (n + 11) K c3_u5 ⟨[(0, vS 1 (eI .u8) c0), (3, .pt 3999 0), (6, .pt 6999 0), (9, .pt 9999 0), (11, vI d0)], [(3999, .var false [vB a, vI b, vI c, vL d]), (6999, .var false [vI e, vI f, vI g, vI h, vI i, vI j, vI l, .sl 6998 0 m.length, .sl 6997 0 o.length, .sl 6996 0 p.length]), (6998, .row false 1 (rowE (eI .i64) m)), (6997, .row false 1 (rowE (eI .i64) o)), (6996, .row false 1 (rowE (eL .own 1 (eI .i64)) p)), (9999, .var false [vI q, vI r, vI u, vI v, vI w, vI x, vI y, .sl 9998 0 z.length, .sl 9997 0 a0.length, .sl 9996 0 b0.length]), (9998, .row false 1 (rowE (eI .i64) z)), (9997, .row false 1 (rowE (eI .i64) a0)), (9996, .row false 1 (rowE (eL .own 1 (eI .i64)) b0))], 90⟩ (laws_FnExactReadPart_u5 fu a b c d e f g h i j l m o p q r u v w x y z a0 b0 c0 d0) fun P t => P .ret ⟨[(4, vB t)], [], 90⟩ := by unfold laws_FnExactReadPart_u5 c3_u5; exact wu
@[go_sem] theorem k3_6 (a b c d e f g h i j l) (m o : List Int) (p : List (List Int)) (q r u) (v : List Int) (w x y z a0 b0 c0) (d0 e0 : List Int) (f0 : List (List Int)) (g0 h0) : Un (tab fu) (n + 11) K c3_u6 ⟨[(0, vS 1 (eI .u8) g0), (3, .pt 3999 0), (6, .pt 6999 0), (8, .pt 8999 0), (9, .pt 9999 0), (10, vI h0)], [(3999, .var false [vB a, vI b, vI c, vL d]), (6999, .var false [vI e, vI f, vI g, vI h, vI i, vI j, vI l, .sl 6998 0 m.length, .sl 6997 0 o.length, .sl 6996 0 p.length]), (6998, .row false 1 (rowE (eI .i64) m)), (6997, .row false 1 (rowE (eI .i64) o)), (6996, .row false 1 (rowE (eL .own 1 (eI .i64)) p)), (8999, .var false [vB q, vI r, vI u, .sl 8998 0 v.length]), (8998, .row false 1 (rowE (eI .i64) v)), (9999, .var false [vI w, vI x, vI y, vI z, vI a0, vI b0, vI c0, .sl 9998 0 d0.length, .sl 9997 0 e0.length, .sl 9996 0 f0.length]), (9998, .row false 1 (rowE (eI .i64) d0)), (9997, .row false 1 (rowE (eI .i64) e0)), (9996, .row false 1 (rowE (eL .own 1 (eI .i64)) f0))], 90⟩ (laws_FnExactReadPart_u6 fu a b c d e f g h i j l m o p q r u v w x y z a0 b0 c0 d0 e0 f0 g0 h0) fun P t => P .ret ⟨[(4, vB t)], [], 90⟩ := by unfold laws_FnExactReadPart_u6 c3_u6; exact wu
@[go_sem] theorem k3_7 (a b c d e f g h i j l) (m o : List Int) (p : List (List Int)) (q : List Int) (r u v) (w : List Int) (x y z a0 b0 c0 d0) (e0 f0 : List Int) (g0 : List (List Int)) (h0) : Un (tab fu) (n + 11) K c3_u7 ⟨[(0, vS 1 (eI .u8) h0), (3, .pt 3999 0), (6, .pt 6999 0), (7, .sl 7999 0 q.length), (8, .pt 8999 0), (9, .pt 9999 0)], [(3999, .var false [vB a, vI b, vI c, vL d]), (6999, .var false [vI e, vI f, vI g, vI h, vI i, vI j, vI l, .sl 6998 0 m.length, .sl 6997 0 o.length, .sl 6996 0 p.length]), (6998, .row false 1 (rowE (eI .i64) m)), (6997, .row false 1 (rowE (eI .i64) o)), (6996, .row false 1 (rowE (eL .own 1 (eI .i64)) p)), (7999, .row false 1 (rowE (eI .u8) q)), (8999, .var false [vB r, vI u, vI v, .sl 8998 0 w.length]), (8998, .row false 1 (rowE (eI .i64) w)), (9999, .var false [vI x, vI y, vI z, vI a0, vI b0, vI c0, vI d0, .sl 9998 0 e0.length, .sl 9997 0 f0.length, .sl 9996 0 g0.length]), (9998, .row false 1 (rowE (eI .i64) e0)), (9997, .row false 1 (rowE (eI .i64) f0)), (9996, .row false 1 (rowE (eL .own 1 (eI .i64)) g0))], 90⟩ (laws_FnExactReadPart_u7 fu a b c d e f g h i j l m o p q r u v w x y z a0 b0 c0 d0 e0 f0 g0 h0) fun P t => P .ret ⟨[(4, vB t)], [], 90⟩ := by unfold laws_FnExactReadPart_u7 c3_u7; exact wu
@[go_sem] theorem laws_FnExactReadPart_ok (a b c d e) : Fo (tab fu) (n + 12) 3 [dS 1 (eI .u8) a, .agg [.bool b, dI c, dI d, dL e]] (laws_FnExactReadPart fu a (SAnchor.mk b c d e)) fun r => (.bool r, g2) := by refine fo rfl rfl rfl rfl ?_; unfold laws_FnExactReadPart c3; exact wf
def SAnchor.Wf (s : SAnchor) : Prop := (True) ∧ (WfI .i64 s.Number) ∧ (WfI .i64 s.Rung) ∧ (((s.Gains.length : Int) ≤ maxI ∧ ∀ x ∈ s.Gains, WfI .i64 x))
theorem SAnchor.of {ds : List D} (h : OkL [.bool, .int .i64, .int .i64, .sl 1 [.int .i64]] ds) : ∃ s : SAnchor, ds = s.cells .lent ∧ s.Wf := by
  simp only [OkL, OkD] at h
  obtain ⟨_, _, rfl, ⟨x0, rfl⟩, ⟨_, _, rfl, ⟨x1, rfl, hx1⟩, ⟨_, _, rfl, ⟨x2, rfl, hx2⟩, ⟨_, _, rfl, ⟨x3, rfl, lx3, hx3⟩, rfl⟩⟩⟩⟩ := h
  obtain ⟨yx3, rfl, wx3⟩ := rows_of (f := (eI .i64)) (W := fun x => WfI .i64 x) (fun el h => row_int h) hx3
  rw [rowE_len] at lx3
  exact ⟨⟨x0, x1, x2, yx3⟩, rfl, ⟨trivial, ⟨hx1.1, hx1.2⟩, ⟨hx2.1, hx2.2⟩, ⟨lx3, wx3⟩⟩⟩
end
end FnExactReadPart
end Go.Proofs.YtimgmahlbodfiaaGreatDoor.Wm
