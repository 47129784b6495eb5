/- Part of a machine that runs a Go function on plain values, with the proof that what it yields is what the function yields. -/
import Derived.Test.YtpbonfgmiffomaaWmC
set_option linter.unusedSimpArgs false
set_option linter.unusedVariables false
namespace Go.Proofs.Ytpbonfgmiffomaa.Wm
open Go
def z0 (_ : Nat) : List UInt8 := []
def u0 (_ : Nat) : Vc := .skip
def zn : List (List UInt8) → Nat → List UInt8
  | [], _ => []
  | x :: _, 0 => x
  | _ :: l, i + 1 => zn l i
def un : List Vc → Nat → Vc
  | [], _ => .skip
  | x :: _, 0 => x
  | _ :: l, i + 1 => un l i
attribute [go_sem] zn un
attribute [go_sem] Int.reduceOfNat Int.reduceNegSucc Int.reduceNeg
def odK : Od → Nat
  | .tmp t => t + 1
  | _ => 0
def ik : I → List Nat
  | .st _ a x => [odK a, odK x]
  | .call f xs => odK f :: xs.map odK
  | .cpy _ a x => [odK a, odK x]
  | .own i => ik i
  | _ => []
def vk (v : Vop) : List Nat := (match v.dst with
  | some d => d + 1
  | none => 0) :: ik v.i
def fnd (used k : List Nat) : Nat → List Vop → Nat
  | i, [] => i
  | i, v :: l => if (vk v == k && !inN i used) = true then i else fnd used k (i + 1) l
def pth (l : List Vop) : List Nat → List Vop → List Nat
  | _, [] => []
  | us, v :: r => fnd us (vk v) 0 l :: pth l (fnd us (vk v) 0 l :: us) r
def hds : List (List Nat) → List Nat
  | [] => []
  | [] :: ps => hds ps
  | (i :: _) :: ps => i :: (hds ps).filter fun j => !(j == i)
def tls (i : Nat) : List (List Nat) → List (List Nat)
  | [] => []
  | [] :: ps => tls i ps
  | (j :: p) :: ps => if (j == i) = true then p :: tls i ps else tls i ps
def mkT : Nat → List (List Nat) → Tr
  | 0, _ => .done
  | n + 1, ps => match hds ps with
    | [] => .done
    | [i] => .take i (mkT n (tls i ps))
    | is => .fork (is.foldr (fun i r => .alt i (mkT n (tls i ps)) r) .nil)
abbrev Hs := List (Nat × Hint)
def o1 (i : Nat) : Option Hint → Hs
  | some h => [(i, h)]
  | none => []
def j3 (x y : Hs × Hs × Hs × List (Nat × Tr)) : Hs × Hs × Hs × List (Nat × Tr) := (x.1 ++ y.1, x.2.1 ++ y.2.1, x.2.2.1 ++ y.2.2.1, x.2.2.2 ++ y.2.2.2)
def zp (P : Program) (own : FuncId → List Nat) : Code → Vc → Hs × Hs × Hs × List (Nat × Tr)
  | .region id ops draw, .region m al h => (o1 id h, [], [], if draw = true then [(id, mkT (m.length + 1) ((m :: al).map (pth ((convOps P ops (ownsOf h) 0 ops.toList).getD []) [])))] else [])
  | .seq (.seq r (.cond _ a b)) y, .seq r' (.condJ (.tmp t) ha hb a' b' y') => j3 (zp P own r r') (j3 (zp P own a a') (j3 (zp P own b b') (j3 (zp P own y y') ([(900000000 + t, ⟨[], [], [], [], [], [], [], []⟩)], o1 t ha, o1 t hb, []))))
  | .seq a b, .seq x y => j3 (zp P own a x) (zp P own b y)
  | .cond c a b, .cond _ ha hb x y => j3 (zp P own a x) (j3 (zp P own b y) ([], o1 (condT c) ha, o1 (condT c) hb, []))
  | .block _ c, .block _ x => zp P own c x
  | .loop c, .loop x => zp P own c x
  | _, _ => ([], [], [], [])
theorem isfZ {P : Program} {own : FuncId → List Nat} {f : FuncId} {vc : Vc} {nt : Nat} {rs : List (Nat × Option (Option Nat))} {fn : Func} (hf : P.funcs[f]? = some fn)
    (h : (fn.body.isSome, conv P own (fun i => look i (zp P own (fn.body.getD .skip) vc).1) (fun i => look i (zp P own (fn.body.getD .skip) vc).2.1) (fun i => look i (zp P own (fn.body.getD .skip) vc).2.2.1) (fun i => (look i (zp P own (fn.body.getD .skip) vc).2.2.2).getD .done) (fn.body.getD .skip), fn.ntmps, rsOf P fn.results.toList, fn.name == "runtime.NumGoroutine", Nat.ble nt 99999) = (true, some vc, nt, some rs, false, true)) : IsFn P own f vc nt rs :=
  isF _ _ _ _ hf h
theorem app_eL0 {α : Type} {k : K} {n : Nat} {E : α → List D} {xs : List (List α)} : rowE (eL k n E) xs ++ [[.sh k n []]] = rowE (eL k n E) (xs ++ [[]]) := by simp [rowE, eL]
theorem allCellO_e {k : K} {n : Nat} : allCellO [[.sh k n []]] = true := by cases k <;> rfl
attribute [go_sem] app_eL0 allCellO_e
section
variable {β τ : Type}
abbrev Un (T : Tab) (n : Nat) (K : List (Kont β)) (c : Vc) (fr : Fr) (r : Option τ) (o : (Ex → Fr → Option β) → τ → Option β) : Prop := run ⟨T.own, lev T n, T.gl⟩ K c fr = r.bind (o (plug ⟨T.own, lev T n, T.gl⟩ K))
abbrev Fo (T : Tab) (n : Nat) (f : FuncId) (ds : List D) (r : Option τ) (o : τ → D × List D) : Prop := lev T n f ds = r.map o
abbrev g0 : List D := []
abbrev g1 : List D := [.gone]
abbrev g2 : List D := [.gone, .gone]
abbrev g3 : List D := [.gone, .gone, .gone]
abbrev g4 : List D := [.gone, .gone, .gone, .gone]
abbrev g5 : List D := [.gone, .gone, .gone, .gone, .gone]
abbrev g6 : List D := [.gone, .gone, .gone, .gone, .gone, .gone]
abbrev g7 : List D := [.gone, .gone, .gone, .gone, .gone, .gone, .gone]
abbrev g8 : List D := [.gone, .gone, .gone, .gone, .gone, .gone, .gone, .gone]
abbrev dI (n : Int) : D := .int .i64 n
abbrev dS {α : Type} (z : Nat) (f : α → List D) (l : List α) : D := .sh .lent z (rowE f l)
abbrev dL (l : List Int) : D := .sh .lent 1 (rowE (eI .i64) l)
abbrev dO {α : Type} (z : Nat) (f : α → List D) (l : List α) : D := .ow z (rowE f l)
abbrev vI (n : Int) : V := .val (.int .i64 n)
abbrev vB (b : Bool) : V := .val (.bool b)
abbrev vS {α : Type} (z : Nat) (f : α → List D) (l : List α) : V := .val (.sh .lent z (rowE f l))
abbrev vL (l : List Int) : V := .val (.sh .lent 1 (rowE (eI .i64) l))
end
attribute [go_sem] g0 g1 g2 g3 g4 g5 g6 g7 g8 dI dS dL dO vI vB vS vL
section
variable {β : Type} {C : Cx} {K : List (Kont β)} {c : Vc} {fr : Fr} {T : Tab} {n N : Nat} {rs : List (Nat × Option (Option Nat))} {bs : List Nat} {ds : List D} {o : Option Fr} {z : Nat → List UInt8} {u : Nat → Vc} {G : (Nat → List UInt8) → (Nat → Vc) → Vc}
theorem run_dv (h : ∀ z u, dv z u N = G z u) : run C K (dv z u N) fr = run C K (G z u) fr := by rw [h]
theorem lev_dv (h : ∀ z u, dv z u N = G z u) : levA T n (dv z u N) rs bs ds o = levA T n (G z u) rs bs ds o := by rw [h]
variable {A1 A2 A3 A4 A5 A6 A7 A8 A9 A10 τ : Type} {fin : τ → Option β}
theorem lp1 {F : A1 → Fr} {st : A1 → Option (A1 ⊕ τ)} (h : ∀ k a, run C [.fin (loopK C K k)] c (F a) = (st a).bind fun r => match r with | .inl s => k (F s) | .inr t => fin t) (a : A1) : run C K (.loop c) (F a) = (loopO st a).bind fin := loop_run st F fin h a
theorem lp2 {F : A1 → A2 → Fr} {st : A1 × A2 → Option ((A1 × A2) ⊕ τ)} (h : ∀ k a b, run C [.fin (loopK C K k)] c (F a b) = (st (a, b)).bind fun r => match r with | .inl s => k (F s.1 s.2) | .inr t => fin t) (a b) : run C K (.loop c) (F a b) = (loopO st (a, b)).bind fin := loop_run st (fun s => F s.1 s.2) fin (fun k s => (h k s.1 s.2).trans (congrArg (Option.bind _) (funext fun r => by cases r <;> rfl))) (a, b)
theorem lp3 {F : A1 → A2 → A3 → Fr} {st : A1 × A2 × A3 → Option ((A1 × A2 × A3) ⊕ τ)} (h : ∀ k a b d, run C [.fin (loopK C K k)] c (F a b d) = (st (a, b, d)).bind fun r => match r with | .inl s => k (F s.1 s.2.1 s.2.2) | .inr t => fin t) (a b d) : run C K (.loop c) (F a b d) = (loopO st (a, b, d)).bind fin := loop_run st (fun s => F s.1 s.2.1 s.2.2) fin (fun k s => (h k s.1 s.2.1 s.2.2).trans (congrArg (Option.bind _) (funext fun r => by cases r <;> rfl))) (a, b, d)
theorem lp4 {F : A1 → A2 → A3 → A4 → Fr} {st : A1 × A2 × A3 × A4 → Option ((A1 × A2 × A3 × A4) ⊕ τ)} (h : ∀ k a b d e, run C [.fin (loopK C K k)] c (F a b d e) = (st (a, b, d, e)).bind fun r => match r with | .inl s => k (F s.1 s.2.1 s.2.2.1 s.2.2.2) | .inr t => fin t) (a b d e) : run C K (.loop c) (F a b d e) = (loopO st (a, b, d, e)).bind fin := loop_run st (fun s => F s.1 s.2.1 s.2.2.1 s.2.2.2) fin (fun k s => (h k s.1 s.2.1 s.2.2.1 s.2.2.2).trans (congrArg (Option.bind _) (funext fun r => by cases r <;> rfl))) (a, b, d, e)
theorem lp5 {F : A1 → A2 → A3 → A4 → A5 → Fr} {st : A1 × A2 × A3 × A4 × A5 → Option ((A1 × A2 × A3 × A4 × A5) ⊕ τ)} (h : ∀ k a b d e f, run C [.fin (loopK C K k)] c (F a b d e f) = (st (a, b, d, e, f)).bind fun r => match r with | .inl s => k (F s.1 s.2.1 s.2.2.1 s.2.2.2.1 s.2.2.2.2) | .inr t => fin t) (a b d e f) : run C K (.loop c) (F a b d e f) = (loopO st (a, b, d, e, f)).bind fin := loop_run st (fun s => F s.1 s.2.1 s.2.2.1 s.2.2.2.1 s.2.2.2.2) fin (fun k s => (h k s.1 s.2.1 s.2.2.1 s.2.2.2.1 s.2.2.2.2).trans (congrArg (Option.bind _) (funext fun r => by cases r <;> rfl))) (a, b, d, e, f)
theorem lp6 {F : A1 → A2 → A3 → A4 → A5 → A6 → Fr} {st : A1 × A2 × A3 × A4 × A5 × A6 → Option ((A1 × A2 × A3 × A4 × A5 × A6) ⊕ τ)} (h : ∀ k a b d e f g, run C [.fin (loopK C K k)] c (F a b d e f g) = (st (a, b, d, e, f, g)).bind fun r => match r with | .inl s => k (F s.1 s.2.1 s.2.2.1 s.2.2.2.1 s.2.2.2.2.1 s.2.2.2.2.2) | .inr t => fin t) (a b d e f g) : run C K (.loop c) (F a b d e f g) = (loopO st (a, b, d, e, f, g)).bind fin := loop_run st (fun s => F s.1 s.2.1 s.2.2.1 s.2.2.2.1 s.2.2.2.2.1 s.2.2.2.2.2) fin (fun k s => (h k s.1 s.2.1 s.2.2.1 s.2.2.2.1 s.2.2.2.2.1 s.2.2.2.2.2).trans (congrArg (Option.bind _) (funext fun r => by cases r <;> rfl))) (a, b, d, e, f, g)
theorem lp7 {F : A1 → A2 → A3 → A4 → A5 → A6 → A7 → Fr} {st : A1 × A2 × A3 × A4 × A5 × A6 × A7 → Option ((A1 × A2 × A3 × A4 × A5 × A6 × A7) ⊕ τ)} (h : ∀ k a b d e f g p, run C [.fin (loopK C K k)] c (F a b d e f g p) = (st (a, b, d, e, f, g, p)).bind fun r => match r with | .inl s => k (F s.1 s.2.1 s.2.2.1 s.2.2.2.1 s.2.2.2.2.1 s.2.2.2.2.2.1 s.2.2.2.2.2.2) | .inr t => fin t) (a b d e f g p) : run C K (.loop c) (F a b d e f g p) = (loopO st (a, b, d, e, f, g, p)).bind fin := loop_run st (fun s => F s.1 s.2.1 s.2.2.1 s.2.2.2.1 s.2.2.2.2.1 s.2.2.2.2.2.1 s.2.2.2.2.2.2) fin (fun k s => (h k s.1 s.2.1 s.2.2.1 s.2.2.2.1 s.2.2.2.2.1 s.2.2.2.2.2.1 s.2.2.2.2.2.2).trans (congrArg (Option.bind _) (funext fun r => by cases r <;> rfl))) (a, b, d, e, f, g, p)
theorem lp8 {F : A1 → A2 → A3 → A4 → A5 → A6 → A7 → A8 → Fr} {st : A1 × A2 × A3 × A4 × A5 × A6 × A7 × A8 → Option ((A1 × A2 × A3 × A4 × A5 × A6 × A7 × A8) ⊕ τ)} (h : ∀ k a b d e f g p q, run C [.fin (loopK C K k)] c (F a b d e f g p q) = (st (a, b, d, e, f, g, p, q)).bind fun r => match r with | .inl s => k (F s.1 s.2.1 s.2.2.1 s.2.2.2.1 s.2.2.2.2.1 s.2.2.2.2.2.1 s.2.2.2.2.2.2.1 s.2.2.2.2.2.2.2) | .inr t => fin t) (a b d e f g p q) : run C K (.loop c) (F a b d e f g p q) = (loopO st (a, b, d, e, f, g, p, q)).bind fin := loop_run st (fun s => F s.1 s.2.1 s.2.2.1 s.2.2.2.1 s.2.2.2.2.1 s.2.2.2.2.2.1 s.2.2.2.2.2.2.1 s.2.2.2.2.2.2.2) fin (fun k s => (h k s.1 s.2.1 s.2.2.1 s.2.2.2.1 s.2.2.2.2.1 s.2.2.2.2.2.1 s.2.2.2.2.2.2.1 s.2.2.2.2.2.2.2).trans (congrArg (Option.bind _) (funext fun r => by cases r <;> rfl))) (a, b, d, e, f, g, p, q)
theorem lp9 {F : A1 → A2 → A3 → A4 → A5 → A6 → A7 → A8 → A9 → Fr} {st : A1 × A2 × A3 × A4 × A5 × A6 × A7 × A8 × A9 → Option ((A1 × A2 × A3 × A4 × A5 × A6 × A7 × A8 × A9) ⊕ τ)} (h : ∀ k a b d e f g p q r0, run C [.fin (loopK C K k)] c (F a b d e f g p q r0) = (st (a, b, d, e, f, g, p, q, r0)).bind fun r => match r with | .inl s => k (F s.1 s.2.1 s.2.2.1 s.2.2.2.1 s.2.2.2.2.1 s.2.2.2.2.2.1 s.2.2.2.2.2.2.1 s.2.2.2.2.2.2.2.1 s.2.2.2.2.2.2.2.2) | .inr t => fin t) (a b d e f g p q r0) : run C K (.loop c) (F a b d e f g p q r0) = (loopO st (a, b, d, e, f, g, p, q, r0)).bind fin := loop_run st (fun s => F s.1 s.2.1 s.2.2.1 s.2.2.2.1 s.2.2.2.2.1 s.2.2.2.2.2.1 s.2.2.2.2.2.2.1 s.2.2.2.2.2.2.2.1 s.2.2.2.2.2.2.2.2) fin (fun k s => (h k s.1 s.2.1 s.2.2.1 s.2.2.2.1 s.2.2.2.2.1 s.2.2.2.2.2.1 s.2.2.2.2.2.2.1 s.2.2.2.2.2.2.2.1 s.2.2.2.2.2.2.2.2).trans (congrArg (Option.bind _) (funext fun r => by cases r <;> rfl))) (a, b, d, e, f, g, p, q, r0)
theorem lp10 {F : A1 → A2 → A3 → A4 → A5 → A6 → A7 → A8 → A9 → A10 → Fr} {st : A1 × A2 × A3 × A4 × A5 × A6 × A7 × A8 × A9 × A10 → Option ((A1 × A2 × A3 × A4 × A5 × A6 × A7 × A8 × A9 × A10) ⊕ τ)} (h : ∀ k a b d e f g p q r0 s0_, run C [.fin (loopK C K k)] c (F a b d e f g p q r0 s0_) = (st (a, b, d, e, f, g, p, q, r0, s0_)).bind fun r => match r with | .inl s => k (F s.1 s.2.1 s.2.2.1 s.2.2.2.1 s.2.2.2.2.1 s.2.2.2.2.2.1 s.2.2.2.2.2.2.1 s.2.2.2.2.2.2.2.1 s.2.2.2.2.2.2.2.2.1 s.2.2.2.2.2.2.2.2.2) | .inr t => fin t) (a b d e f g p q r0 s0_) : run C K (.loop c) (F a b d e f g p q r0 s0_) = (loopO st (a, b, d, e, f, g, p, q, r0, s0_)).bind fin := loop_run st (fun s => F s.1 s.2.1 s.2.2.1 s.2.2.2.1 s.2.2.2.2.1 s.2.2.2.2.2.1 s.2.2.2.2.2.2.1 s.2.2.2.2.2.2.2.1 s.2.2.2.2.2.2.2.2.1 s.2.2.2.2.2.2.2.2.2) fin (fun k s => (h k s.1 s.2.1 s.2.2.1 s.2.2.2.1 s.2.2.2.2.1 s.2.2.2.2.2.1 s.2.2.2.2.2.2.1 s.2.2.2.2.2.2.2.1 s.2.2.2.2.2.2.2.2.1 s.2.2.2.2.2.2.2.2.2).trans (congrArg (Option.bind _) (funext fun r => by cases r <;> rfl))) (a, b, d, e, f, g, p, q, r0, s0_)
end
theorem bind_com {α γ δ : Type} {a : Option α} {b : Option γ} {f : α → γ → Option δ} : (a.bind fun x => b.bind fun y => f x y) = b.bind fun y => a.bind fun x => f x y := by cases a <;> cases b <;> rfl
theorem if_ext {α : Type} {c : Prop} {_ : Decidable c} {a b a' b' : α} (h : c → a = a') (g : ¬ c → b = b') : (if c then a else b) = if c then a' else b' := by
  split
  · exact h ‹_›
  · exact g ‹_›
def cutT (n : Nat) (l h : Int) : Option Unit := (cutI n l h).map fun _ => ()
theorem cutI_T {n : Nat} {l h : Int} : cutI n l h = (cutT n l h).map fun _ => (l.toNat, h.toNat) := by
  unfold cutT cutI
  split
  · split <;> rfl
  · rfl
theorem wg {p : Prop} (h : p := by
  refine Eq.trans (run_dv fun z u => by conv => lhs; reduce) ?_
  simp +contextual -implicitDefEqProofs (maxSteps := 99999999) only [subI, go_sem, cutI_T, Int.toNat_natCast, Int.toNat_zero] <;> rfl) : p := h
theorem wh {p : Prop} (h : p := by
  refine Eq.trans (lev_dv fun z u => by conv => lhs; reduce) ?_
  simp +contextual -implicitDefEqProofs (maxSteps := 99999999) only [subI, go_sem, cutI_T, Int.toNat_natCast, Int.toNat_zero] <;> rfl) : p := h
theorem wu {p : Prop} (h : p := by
  refine Eq.trans (run_dv fun z u => by conv => lhs; reduce) ?_
  simp +contextual -implicitDefEqProofs (maxSteps := 99999999) only [subI, go_sem] <;> rfl) : p := h
theorem wf {p : Prop} (h : p := by
  refine Eq.trans (lev_dv fun z u => by conv => lhs; reduce) ?_
  simp +contextual -implicitDefEqProofs (maxSteps := 99999999) only [subI, go_sem] <;> rfl) : p := h
theorem wj {p : Prop} (h : p := by
  refine Eq.trans (lev_dv fun z u => by conv => lhs; reduce) ?_
  simp +contextual -implicitDefEqProofs (maxSteps := 99999999) only [rowE_nil, List.length_nil, subI, go_sem] <;> rfl) : p := h
theorem wa {p : Prop} (h : p := by
  refine Eq.trans (run_dv fun z u => by conv => lhs; reduce) ?_
  rw [run_alts]
  all_goals (repeat' first | exact trivial | refine And.intro ?_ ?_)
  all_goals (simp +contextual -implicitDefEqProofs (maxSteps := 99999999) only [subI, go_sem] <;> (repeat' first | rfl | refine bind_ext fun _ _ => ?_ | refine bind_swap fun _ _ _ _ => ?_ | refine Eq.trans bind_com (bind_ext fun _ _ => ?_) | refine if_ext (fun _ => ?_) (fun _ => ?_)))) : p := h
end Go.Proofs.Ytpbonfgmiffomaa.Wm
