/- Part of a machine that runs a Go function on plain values, with the proof that what it yields is what the function yields. -/
import Derived.Test.YtgnohnlpicmnaaaVnC
import Derived.Orders
import Derived.OrdersHeld
import Derived.LoopN
set_option linter.unusedSimpArgs false
set_option linter.unusedVariables false
namespace Go.Proofs.Ytgnohnlpicmnaaa.Vm
open Go

structure Vop where
  dst : Option Nat
  op : Op
  g : Option (Nat × Bool)

/-- A function that the program has, with a body. -/
def okFn (P : Program) (f : FuncId) : Prop := ∃ fn, P.funcs[f]? = some fn ∧ fn.body.isNone = false ∧ (fn.name == "runtime.NumGoroutine") = false

structure CSound (P : Program) (C : Cx) : Prop where
  ok : ∀ f ds r, C.fn f ds = some r → okFn P f
  sound : ∀ f, SoundFn P f (C.fn f)

def putV (fr : Fr) (dst : Option Nat) (y : V) : Option Fr := match dst with
  | some d => if d < fr.nt then some { fr with env := (d, y) :: fr.env } else none
  | none => some fr

def callV (env : List (Nat × V)) (f : Operand) (args : List Operand) : Option (FuncId × List V) := match strip true (opV env f) with
  | .fn g caps => some (g, args.map (fun x => strip true (opV env x)) ++ caps)
  | .val (.fn g cs) => some (g, args.map (fun x => strip true (opV env x)) ++ cs.map .val)
  | _ => none

/-- The value of a quiet operation under a condition. -/
def quietV (P : Program) (fr : Fr) (c : Bool) (op : Op) : Option V := match op with
  | .pick t a b => match strip c (opV fr.env t) with
    | .val (.bool t) => some (mergeV t (strip (c && t) (opV fr.env a)) (strip (c && !t) (opV fr.env b)))
    | _ => none
  | op => evq P fr.roots op fun x => strip c (opV fr.env x)

def putR (r : Option (V × Fr)) (dst : Option Nat) : Option Fr := match r with
  | some (y, fr) => putV fr dst y
  | none => none

/-- One operation, without a condition. -/
def step1 (P : Program) (C : Cx) (fr : Fr) (dst : Option Nat) (op : Op) : Option Fr := match op with
  | .box t x => putR (evm P fr (dst.getD 99999) (.box t x)) dst
  | .alloc t => putR (evm P fr (dst.getD 99999) (.alloc t)) dst
  | .buildSlice t l ps => putR (evm P fr (dst.getD 99999) (.buildSlice t l ps)) dst
  | .makeSlice t l c => putR (evm P fr (dst.getD 99999) (.makeSlice t l c)) dst
  | .store t a x => match evs P fr t (strip true (opV fr.env a)) (strip true (opV fr.env x)) with
    | some fr' => putV fr' dst .dead
    | none => none
  | .call ⟨.builtin .append, args, argTypes⟩ => match args.toList, argTypes.toList with
    | [s, x], [t, t'] => if t = t' then putR (eva P fr (dst.getD 99999) t s x) dst else none
    | _, _ => none
  | .call ⟨.value f, args, _⟩ => match callV fr.env f args.toList with
    | some (g, xs) => putR (evc C fr (dst.getD 99999) g xs) dst
    | none => none
  | op => match quietV P fr true op with
    | some y => putV fr dst y
    | none => none

section
variable {P : Program} {w0 : World} {L X0 : Nat → Prop} {w w' : World} {tm : Array Value} {fr : Fr} {rv : Nat → Value} {fp : Nat → Nat → Prop} {X : Nat → Prop} {R : List (Nat × D)}

theorem strip_sound {c : Bool} {x : V} {v : Value} (hc : c = true) (h : RepE w X R rv x v) : RepE w X R rv (strip c x) v := by
  subst hc
  unfold strip
  split
  · rename_i g x
    simp only [RepE] at h
    split
    · rename_i hg
      exact h.1 (by simpa using hg)
    · simp only [RepE]
  · exact h

/-- The frame behind an operation. -/
def After (w0 : World) (L X0 : Nat → Prop) (a a' : Act) (w' : World) (rv : Nat → Value) (fr' : Fr) : Prop :=
  ∃ rv' fp', FR w0 L X0 w' a'.tmps fr' rv' fp' ∧ a'.defers = a.defers ∧ a'.tmps.size = a.tmps.size ∧ ∀ s, 100000 ≤ s → rv' s = rv s

theorem put_after {a : Act} {fr1 fr' : Fr} {rv' : Nat → Value} {fp' : Nat → Nat → Prop} {dst : Option Nat} {y : V} {v : Value} (h : FR w0 L X0 w' a.tmps fr1 rv' fp') (hy : RepE w' (XX X0 fr1.roots fp') fr1.roots rv' y v)
    (hp : ∀ s, 100000 ≤ s → rv' s = rv s) (he : putV fr1 dst y = some fr') : After w0 L X0 a (a.put dst v) w' rv fr' := by
  unfold putV at he
  cases dst with
  | none =>
    obtain rfl := Option.some.inj he
    exact ⟨rv', fp', h, rfl, rfl, hp⟩
  | some d =>
    simp only at he
    split at he
    · rename_i hd
      obtain rfl := Option.some.inj he
      exact ⟨rv', fp', h.put hd hy, rfl, by simp [Act.put], hp⟩
    · simp at he

theorem quietV_sound {a : Act} (h : FR w0 L X0 w a.tmps fr rv fp) {c : Bool} (hc : c = true) {o : Oper} {y : V} (he : quietV P fr c o.op = some y) :
    ∃ u, (∀ w', Ext w w' → (execOp a.eval o).run P w' = .ok (.value u) w') ∧ RepE w (XX X0 fr.roots fp) fr.roots rv y u := by
  have hρ : ∀ x, RepE w (XX X0 fr.roots fp) fr.roots rv (strip c (opV fr.env x)) (a.eval x) := fun x => strip_sound hc (opV_sound h x)
  unfold quietV at he
  split at he
  · rename_i t x z hop
    split at he
    · rename_i b hb
      obtain rfl := Option.some.inj he
      have ht := hρ t
      rw [hb] at ht
      have hv : a.eval t = .bool b := repV_bool (by simpa only [RepE] using ht)
      refine ⟨if b then a.eval x else a.eval z, fun w' _ => ?_, mergeV_sound (fun hb => ?_) (fun hb => ?_)⟩
      · unfold execOp
        rw [hop]
        simp [hv, asBool]
      · exact strip_sound (by simp [hc, hb]) (opV_sound h x)
      · exact strip_sound (by simp [hc, hb]) (opV_sound h z)
    · simp at he
  · exact evq_sound h hρ he

theorem callV_sound {a : Act} (h : FR w0 L X0 w a.tmps fr rv fp) {f : Operand} {args : Array Operand} {ts : Array TypeId} {o : Oper} {g : FuncId} {xs : List V} (ho : o.op = .call ⟨.value f, args, ts⟩) (hg : okFn P g)
    (he : callV fr.env f args.toList = some (g, xs)) : ∃ us, RepEs w (XX X0 fr.roots fp) fr.roots rv xs us ∧ (execOp a.eval o).run P w = .ok (.enter g us.toArray) w := by
  have hρ : ∀ x, RepE w (XX X0 fr.roots fp) fr.roots rv (strip true (opV fr.env x)) (a.eval x) := fun x => strip_sound rfl (opV_sound h x)
  have hargs : RepEs w (XX X0 fr.roots fp) fr.roots rv (args.toList.map fun x => strip true (opV fr.env x)) (args.toList.map a.eval) := by
    rw [repEs_iff]
    exact ⟨by simp, map_get hρ args.toList⟩
  have hf := hρ f
  have run : ∀ cs : Array Value, a.eval f = .func (.func g) #[] cs → (execOp a.eval o).run P w = .ok (.enter g (args.toList.map a.eval ++ cs.toList).toArray) w := by
    intro cs hv
    obtain ⟨fn, h1, h2, h3⟩ := hg
    have h2' : fn.body ≠ none := by intro hh; simp [hh] at h2
    have h3' : fn.name ≠ "runtime.NumGoroutine" := by simpa using h3
    unfold execOp
    rw [ho]
    simp [resolve, hv, Deferred.ofValue, invoke, callFunc, h1, h2', h3']
  unfold callV at he
  split at he
  · rename_i g' caps hv
    obtain ⟨rfl, rfl⟩ := by simpa using he
    rw [hv] at hf
    simp only [RepE] at hf
    obtain ⟨us, hu, h2, h3⟩ := hf
    exact ⟨_, repEs_append hargs h3, run us hu⟩
  · rename_i g' cs hv
    obtain ⟨rfl, rfl⟩ := by simpa using he
    rw [hv] at hf
    simp only [RepE, RepV] at hf
    obtain ⟨us, φ, hu, h2, h3, h4, h5⟩ := hf
    refine ⟨_, repEs_append (us := args.toList.map a.eval) (vs := us.toList) hargs ?_, run us hu⟩
    exact cells_repEs (cells_of h2 h3 (fun b => by simpa [E] using h5 b))
  · simp at he

theorem evc_fn {C : Cx} {dst : Nat} {f : FuncId} {xs : List V} {r : V × Fr} (he : evc C fr dst f xs = some r) : ∃ ds r, C.fn f ds = some r := by
  unfold evc at he
  split at he
  · split at he
    · split at he
      · split at he
        · split at he
          · rename_i hfn
            exact ⟨_, _, hfn⟩
          · simp at he
        · simp at he
      · simp at he
    · simp at he
  · simp at he

/-- Whether an operation may turn what stood. -/
def isMut (own : FuncId → List Bool) : Op → Bool
  | .store .. => true
  | .call ⟨.builtin .append, _, _⟩ => true
  | .call ⟨.value (.func f), _, _⟩ => (own f).any id
  | .call ⟨.value _, _, _⟩ => true
  | _ => false

theorem ownCells_none : ∀ {bs : List Bool} {xs : List V}, bs.any id = false → ownCells bs xs = some []
  | [], [], _ => rfl
  | [], _ :: _, _ => rfl
  | b :: bs, [], _ => rfl
  | b :: bs, x :: xs, h => by
    simp only [List.any_cons, id, Bool.or_eq_false_iff] at h
    simp only [ownCells, ownCells_none h.2, h.1]
    rfl

theorem step1_sound {C : Cx} (hC : CSound P C) {a : Act} (h : FR w0 L X0 w a.tmps fr rv fp) (hnt : fr.nt ≤ 99999) {o : Oper} {fr' : Fr} (he : step1 P C fr o.dst o.op = some fr')
    {K : Act → World → Prop} {Q : Exit → Act → World → Prop} (hK : ∀ a' w', After w0 L X0 a a' w' rv fr' → (isMut C.own o.op = false → ExtS w w') → K a' w') : o.wp P a w K Q := by
  have hρ : ∀ x, RepE w (XX X0 fr.roots fp) fr.roots rv (strip true (opV fr.env x)) (a.eval x) := fun x => strip_sound rfl (opV_sound h x)
  have dlt : ∀ (y : V) (fr1 fr2 : Fr), putV fr1 o.dst y = some fr2 → fr1.nt = fr.nt → o.dst.getD 99999 < 100000 := by
    intro y fr1 fr2 hp hn
    unfold putV at hp
    cases hd : o.dst with
    | none => exact (by decide : (99999 : Nat) < 100000)
    | some d =>
      rw [hd] at hp
      simp only at hp
      split at hp
      · rename_i hlt
        have h2 : fr1.nt ≤ 100000 := by rw [hn]; omega
        exact Nat.lt_of_lt_of_le hlt h2
      · simp at hp
  have heavy : ∀ (r : Option (V × Fr)), putR r o.dst = some fr' → (∀ y fr1, r = some (y, fr1) → ∃ u w' rv' fp', (execOp a.eval o).run P w = .ok (.value u) w' ∧ FR w0 L X0 w' a.tmps fr1 rv' fp' ∧ RepE w' (XX X0 fr1.roots fp') fr1.roots rv' y u ∧ (∀ s, s ≠ o.dst.getD 99999 → rv' s = rv s) ∧ (isMut C.own o.op = false → ExtS w w')) → o.wp P a w K Q := by
    intro r hp hr
    unfold putR at hp
    split at hp
    · rename_i y fr1
      obtain ⟨u, w', rv', fp', a1, a2, a3, a4, a5⟩ := hr y fr1 rfl
      have hn : fr1.nt = fr.nt := by rw [← a2.nt, ← h.nt]
      unfold Oper.wp
      rw [a1, Oper.upon_value]
      exact hK _ _ (put_after a2 a3 (fun s hs => a4 s (fun e => by have := dlt y fr1 fr' hp hn; rw [← e] at this; exact absurd this (Nat.not_lt.2 hs))) hp) a5
    · simp at hp
  have make : ∀ op, o.op = op → putR (evm P fr (o.dst.getD 99999) op) o.dst = some fr' → o.wp P a w K Q := by
    intro op hop hp
    refine heavy _ hp fun y fr1 hr => ?_
    rw [← hop] at hr
    obtain ⟨u, w', rv', fp', b1, b2, b3, b4, b5⟩ := evm_sound h hr
    exact ⟨u, w', rv', fp', b1, b2, b3, b5, fun _ => ExtS.of_chg b4⟩
  unfold step1 at he
  split at he
  · rename_i t x hop; exact make _ hop he
  · rename_i t hop; exact make _ hop he
  · rename_i t l ps hop; exact make _ hop he
  · rename_i t l c hop; exact make _ hop he
  · rename_i t ad x hop
    split at he
    · rename_i fr1 hs
      obtain ⟨w', fp', b1, b2⟩ := evs_sound (P := P) (a := a) h (hρ ad) (hρ x) hs
      unfold Oper.wp
      have : (execOp a.eval o).run P w = .ok .skip w' := by
        unfold execOp
        rw [hop]
        simp [b1]
      rw [this, Oper.upon_skip]
      exact hK _ _ (put_after b2 (by simp only [RepE]) (fun _ _ => rfl) he) (fun hm => by rw [hop] at hm; simp [isMut] at hm)
    · simp at he
  · rename_i args ts hop
    split at he
    · rename_i s x t t' hargs hts
      split at he
      · rename_i htt
        subst htt
        refine heavy _ he fun y fr1 hr => ?_
        obtain ⟨u, w', rv', fp', b1, b2, b3, b4⟩ := eva_sound (ty := o.type) h hr
        refine ⟨u, w', rv', fp', ?_, b2, b3, b4, fun hm => by rw [hop] at hm; simp [isMut] at hm⟩
        have ha : args = #[s, x] := by simpa using congrArg List.toArray hargs
        have ht : ts = #[t, t] := by simpa using congrArg List.toArray hts
        subst ha ht
        unfold execOp
        rw [hop]
        simp [resolve, invoke, builtin, b1]
      · simp at he
    · simp at he
  · rename_i f args ts hop
    split at he
    · rename_i g xs hcall
      cases hev : evc C fr (o.dst.getD 99999) g xs with
      | none => simp [hev, putR] at he
      | some r =>
        obtain ⟨y, fr1⟩ := r
        rw [hev] at he
        simp only [putR] at he
        have hg : okFn P g := by
          obtain ⟨ds, r, hr⟩ := evc_fn hev
          exact hC.ok g ds r hr
        obtain ⟨us, c1, c2⟩ := callV_sound h hop hg hcall
        unfold Oper.wp
        rw [c2, Oper.upon_enter]
        refine (evc_sound hC.sound h c1 hev).mono ?_
        rintro e w' ⟨v, rv', fp', rfl, b1, b2, b3, b4⟩
        have hn : fr1.nt = fr.nt := by rw [← b1.nt, ← h.nt]
        exact hK _ _ (put_after b1 b2 (fun s hs => b3 s (fun e => by have := dlt y fr1 fr' he hn; rw [← e] at this; exact absurd this (Nat.not_lt.2 hs))) he) (fun hm => b4 (by
          rw [hop] at hm
          cases f with
          | func g' =>
            have : g = g' := by
              simp only [callV, opV, strip] at hcall
              simp at hcall
              exact hcall.1.symm
            subst this
            exact ownCells_none (by simpa [isMut] using hm)
          | _ => simp [isMut] at hm))
    · simp at he
  · split at he
    · rename_i y hq
      obtain ⟨u, b1, b2⟩ := quietV_sound h rfl hq
      unfold Oper.wp
      rw [b1 w (Ext.refl w), Oper.upon_value]
      exact hK _ _ (put_after h b2 (fun _ _ => rfl) he) (fun _ => ExtS.refl w)
    · simp at he
end
end Go.Proofs.Ytgnohnlpicmnaaa.Vm
set_option linter.unusedSimpArgs false
set_option linter.unusedVariables false
namespace Go.Proofs.Ytgnohnlpicmnaaa.Vm
open Go

/-- When a guarded operation is carried out. -/
def condV (v : V) (want : Bool) : Option Bool := match v with
  | .val (.bool b) => some (b == want)
  | .guard g (.val (.bool b)) => some (g && (b == want))
  | _ => none

def borLV : List V → Option (List D)
  | [] => some []
  | x :: xs => match borV [] x with
    | some d => match borLV xs with
      | some ds => some (d :: ds)
      | none => none
    | none => none

/-- What a call yields that looks at plain values alone. -/
def pureV (C : Cx) (g : FuncId) (xs : List V) : Option D := match borLV xs with
  | some ds => match C.fn g ds with
    | some (res, _) => if res.plain = true then some res else none
    | none => none
  | none => none

def callVG (env : List (Nat × V)) (c : Bool) (f : Operand) (args : List Operand) : Option (FuncId × List V) := match opV env f with
  | .fn g [] => some (g, args.map fun x => strip c (opV env x))
  | _ => none

def isHeavy : Op → Bool
  | .box .. | .alloc .. | .buildSlice .. | .makeSlice .. | .store .. => true
  | .call ⟨.builtin .append, _, _⟩ => true
  | .call ⟨.value _, _, _⟩ => true
  | _ => false

/-- One operation under a condition. -/
def stepG (P : Program) (C : Cx) (fr : Fr) (c : Bool) (dst : Option Nat) (op : Op) : Option Fr := match op with
  | .call ⟨.value f, args, ts⟩ => match callVG fr.env c f args.toList with
    | some (g, xs) => if C.pur g = true then (match pureV C g xs with
        | some res => putV fr dst (.guard c (.val res))
        | none => none) else if c = true then step1 P C fr dst (.call ⟨.value f, args, ts⟩) else putV fr dst .dead
    | none => if c = true then step1 P C fr dst (.call ⟨.value f, args, ts⟩) else putV fr dst .dead
  | op => if isHeavy op = true then (if c = true then step1 P C fr dst op else putV fr dst .dead)
    else match quietV P fr c op with
      | some y => putV fr dst (.guard c y)
      | none => none

def stepO (P : Program) (C : Cx) (fr : Fr) (o : Vop) : Option Fr := match o.g with
  | none => step1 P C fr o.dst o.op
  | some (t, want) => match condV (opV fr.env (.tmp t)) want with
    | some c => stepG P C fr c o.dst o.op
    | none => none

def steps (P : Program) (C : Cx) : Fr → List Vop → Option Fr
  | fr, [] => some fr
  | fr, o :: l => match stepO P C fr o with
    | some fr1 => steps P C fr1 l
    | none => none

/-- The machine's own form of an operation. -/
def vopOf (ops : Array Oper) (o : Oper) (v : Vop) : Prop :=
  v.dst = o.dst ∧ v.op = o.op ∧ ((o.guard = none ∧ v.g = none) ∨ ∃ j want t, o.guard = some (j, want) ∧ (ops[j]?).bind (·.dst) = some t ∧ v.g = some (t, want))

section
variable {P : Program} {w0 : World} {L X0 : Nat → Prop} {w w' : World} {tm : Array Value} {fr : Fr} {rv : Nat → Value} {fp : Nat → Nat → Prop} {X : Nat → Prop} {R : List (Nat × D)}

theorem borC_nil {x : V} {d : D} (h : borC [] x = some d) : leaves x = [] := by
  cases x with
  | val d' => rfl
  | ref r p o => simp [borC, refD, rowOf, look] at h
  | win r p o sz lo n => simp [borC, refD, rowOf, look] at h
  | addr r p o => simp [borC, rowOf, look] at h
  | _ => simp [borC] at h
theorem borL_nil : ∀ {xs : List V} {ds : List D}, borL [] xs = some ds → leavesL xs = []
  | [], _, _ => rfl
  | x :: xs, ds, h => by
    simp only [borL] at h
    split at h
    · rename_i d hd
      split at h
      · rename_i ds' hds
        simp [leavesL, borC_nil hd, borL_nil hds]
      · simp at h
    · simp at h
theorem borV_nil {x : V} {d : D} (h : borV [] x = some d) : leaves x = [] := by
  unfold borV at h
  split at h
  · split at h
    · rename_i hds; simpa [leaves] using borL_nil hds
    · simp at h
  · split at h
    · rename_i hds; simpa [leaves] using borL_nil hds
    · simp at h
  · exact borC_nil h

theorem borL_roots : ∀ {xs : List V} {ds : List D}, borL [] xs = some ds → borL R xs = some ds
  | [], _, h => h
  | x :: xs, ds, h => by
    simp only [borL] at h ⊢
    split at h
    · rename_i d hd
      split at h
      · rename_i ds' hds
        have hx : borC R x = some d := by
          have := borC_nil hd
          cases x <;> first | exact hd | (simp [leaves] at this) | (simp [borC] at hd)
        simp only [hx, borL_roots hds]
        exact h
      · simp at h
    · simp at h

theorem borV_nil_free {x : V} {v : Value} {d : D} (hx : RepE w X R rv x v) (he : borV [] x = some d) : RepV w X d v E := by
  have hl := borV_nil he
  have : borV R x = some d := by
    unfold borV at he ⊢
    split at he
    · split at he
      · rename_i hds; simp only [borL_roots (R := R) hds]; exact he
      · simp at he
    · split at he
      · rename_i hds; simp only [borL_roots (R := R) hds]; exact he
      · simp at he
    · have hl' := borC_nil he
      cases x <;> first | exact he | (simp [leaves] at hl') | (simp [borC] at he)
  exact borV_free hx hl this

theorem borLV_sound : ∀ {xs : List V} {us : List Value} {ds : List D}, RepEs w X R rv xs us → borLV xs = some ds → ds.length = us.length ∧ RepCs w X ds (fun j => us[j]?) 0 (fun _ => E)
  | [], us, ds, hx, he => by
    simp only [RepEs] at hx; subst hx
    simp only [borLV] at he; obtain rfl := Option.some.inj he
    exact ⟨rfl, by simp [RepCs]⟩
  | x :: xs, us, ds, hx, he => by
    simp only [RepEs] at hx
    obtain ⟨u, us', rfl, h1, h2⟩ := hx
    simp only [borLV] at he
    split at he
    · rename_i d hd
      split at he
      · rename_i ds' hds
        obtain rfl := Option.some.inj he
        obtain ⟨k1, k2⟩ := borLV_sound h2 hds
        refine ⟨by simp [k1], ?_⟩
        simp only [RepCs]
        refine ⟨⟨u, rfl, borV_nil_free h1 hd⟩, ?_⟩
        have e : (fun _ => E) = consF E (fun _ => E) := by funext j; cases j <;> rfl
        rw [e]
        exact repCs_shift (cv := fun j => (u :: us')[j]?) (by simpa using k2) E
      · simp at he
    · simp at he

/-- Whether the guarded operation is carried out. -/
theorem cond_sound {ops : Array Oper} {j t : Nat} {want c : Bool} {v : V} {tmps : Array Value} {o : Oper} (ho : o.guard = some (j, want)) (hj : (ops[j]?).bind (·.dst) = some t) (hv : RepE w X R rv v (tmps.getD t undef)) (he : condV v want = some c) :
    Region.wanted o (yielded ops tmps) = c := by
  have isb : ∀ b, tmps.getD t undef = .bool b → tmps[t]? = some (.bool b) := by
    intro b hb
    rw [Array.getD_eq_getD_getElem?] at hb
    cases hq : tmps[t]? with
    | none => rw [hq] at hb; simp [undef] at hb
    | some q => rw [hq] at hb; simpa using hb
  unfold Region.wanted yielded
  simp only [ho, hj, Option.bind_some]
  unfold condV at he
  split at he
  · rename_i b
    obtain rfl := Option.some.inj he
    rw [isb b (repV_bool (by simpa only [RepE] using hv))]
    cases b <;> cases want <;> rfl
  · rename_i g b
    obtain rfl := Option.some.inj he
    simp only [RepE] at hv
    cases g with
    | true =>
      rw [isb b (repV_bool (hv.1 rfl))]
      cases b <;> cases want <;> rfl
    | false =>
      have hu := hv.2 rfl
      have : ∀ b, tmps[t]? ≠ some (.bool b) := by
        intro b hb
        rw [Array.getD_eq_getD_getElem?, hb] at hu
        simp [undef] at hu
      cases hq : tmps[t]? with
      | none => simp
      | some q =>
        cases q <;> first | (simp; done) | exact absurd hq (this _)
  · simp at he

theorem stepG_sound {C : Cx} (hC : CSound P C) {a : Act} (h : FR w0 L X0 w a.tmps fr rv fp) (hnt : fr.nt ≤ 99999) {o : Oper} {fr' : Fr} {c : Bool} (he : stepG P C fr c o.dst o.op = some fr')
    {K : Act → World → Prop} {Q : Exit → Act → World → Prop} (hK : ∀ a' w', After w0 L X0 a a' w' rv fr' → (isMut C.own o.op = false → ExtS w w') → K a' w') : if c = true then o.wp P a w K Q else K (a.put o.dst undef) w := by
  have split : (if c = true then step1 P C fr o.dst o.op else putV fr o.dst .dead) = some fr' → if c = true then o.wp P a w K Q else K (a.put o.dst undef) w := by
    intro he
    split
    · rename_i hc
      rw [if_pos hc] at he
      exact step1_sound hC h hnt he hK
    · rename_i hc
      rw [if_neg hc] at he
      exact hK _ _ (put_after h (by simp only [RepE]) (fun _ _ => rfl) he) (fun _ => ExtS.refl w)
  unfold stepG at he
  split at he
  · rename_i f args ts hop
    split at he
    · rename_i g xs hcall
      split at he
      · rename_i hpur
        split at he
        · rename_i res hp
          have hskip : c = false → K (a.put o.dst undef) w := fun hc => hK _ _ (put_after h (by simp only [RepE]; exact ⟨fun hh => by simp [hc] at hh, fun _ => trivial⟩) (fun _ _ => rfl) he) (fun _ => ExtS.refl w)
          split
          · rename_i hc
            -- the call is carried out
            unfold pureV at hp
            split at hp
            · rename_i ds hds
              split at hp
              · rename_i res' outs hfn
                split at hp
                · rename_i hpl
                  obtain rfl := Option.some.inj hp
                  have hx : ∃ us, RepEs w (XX X0 fr.roots fp) fr.roots rv xs us ∧ (execOp a.eval o).run P w = .ok (.enter g us.toArray) w := by
                    unfold callVG at hcall
                    split at hcall
                    · rename_i g' hv
                      obtain ⟨rfl, rfl⟩ := by simpa using hcall
                      have hf := opV_sound h f
                      rw [hv] at hf
                      simp only [RepE] at hf
                      obtain ⟨us, hu, h2, h3⟩ := hf
                      have hus : us = #[] := Array.eq_empty_of_size_eq_zero (by simpa using h2)
                      subst hus
                      refine ⟨args.toList.map a.eval, ?_, ?_⟩
                      · rw [repEs_iff]
                        exact ⟨by simp, map_get (fun x => strip_sound hc (opV_sound h x)) args.toList⟩
                      · obtain ⟨fn, h1, h2, h3⟩ := hC.ok g' ds _ hfn
                        have h2' : fn.body ≠ none := by intro hh; simp [hh] at h2
                        have h3' : fn.name ≠ "runtime.NumGoroutine" := by simpa using h3
                        unfold execOp
                        rw [hop]
                        simp [resolve, hu, Deferred.ofValue, invoke, callFunc, h1, h2', h3']
                        rw [← Array.toList_map, Array.toArray_toList]
                    · simp at hcall
                  obtain ⟨us, hx1, hx2⟩ := hx
                  obtain ⟨k1, k2⟩ := borLV_sound hx1 hds
                  unfold Oper.wp
                  rw [hx2, Oper.upon_enter]
                  have nof : ∀ n b, ¬ AllF n (fun _ => E) b := fun n b ⟨_, _, hb⟩ => hb
                  refine (hC.sound g w (XX X0 fr.roots fp) ds us (fun _ => E) res' outs k1 k2 (fun _ _ _ _ _ hb => hb.elim) (fun b hb => absurd hb (nof _ b)) (fun b hb => h.XX_lt hb) hfn).mono ?_
                  rintro e w' ⟨v, G, χ, rfl, d1, d2, d3, d4, d5, d6, d7⟩
                  obtain ⟨f1, t1⟩ := h.chg (d2.mono (Z' := E) (fun b hb => (nof _ b hb).elim)) (fun b hb => hb.elim) (fun b hb => hb.elim)
                  obtain ⟨f2, t2⟩ := f1.less (X0 := X0) (fun b hb => .inl hb)
                  refine hK _ _ (put_after f2 (y := .guard c (.val res')) (v := v) ?_ (fun _ _ => rfl) he) (fun _ => ⟨fun b hb => d2.keep b hb (nof _ b), d2.size⟩)
                  simp only [RepE]
                  exact ⟨fun _ => plain_fp (RepV.stay res' ⟨fun _ _ _ => rfl, fun b _ hx => .inl ⟨hx, nof _ b⟩⟩ d3) hpl, fun hh => by simp [hc] at hh⟩
                · simp at hp
              · simp at hp
            · simp at hp
          · rename_i hc
            exact hskip (by simpa using hc)
        · simp at he
      · rw [← hop] at he; exact split he
    · rw [← hop] at he; exact split he
  · split at he
    · exact split he
    · split at he
      · rename_i y hq
        split
        · rename_i hc
          obtain ⟨u, b1, b2⟩ := quietV_sound h hc hq
          unfold Oper.wp
          rw [b1 w (Ext.refl w), Oper.upon_value]
          exact hK _ _ (put_after h (by simp only [RepE]; exact ⟨fun _ => b2, fun hh => by simp [hc] at hh⟩) (fun _ _ => rfl) he) (fun _ => ExtS.refl w)
        · rename_i hc
          exact hK _ _ (put_after h (by simp only [RepE]; exact ⟨fun hh => absurd hh hc, fun _ => trivial⟩) (fun _ _ => rfl) he) (fun _ => ExtS.refl w)
      · simp at he

theorem stepO_sound {C : Cx} (hC : CSound P C) {a : Act} (h : FR w0 L X0 w a.tmps fr rv fp) (hnt : fr.nt ≤ 99999) {ops : Array Oper} {i : Nat} {o : Oper} {v : Vop} {fr' : Fr} (hi : ops[i]? = some o) (hv : vopOf ops o v) (he : stepO P C fr v = some fr')
    {K : Act → World → Prop} {Q : Exit → Act → World → Prop} (hK : ∀ a' w', After w0 L X0 a a' w' rv fr' → (isMut C.own o.op = false → ExtS w w') → K a' w') : wpOp P ops Q i K a w := by
  obtain ⟨v1, v2, v3⟩ := hv
  unfold stepO at he
  unfold wpOp
  simp only [hi]
  rcases v3 with ⟨hg, hvg⟩ | ⟨j, want, t, hg, hj, hvg⟩
  · rw [hvg] at he
    simp only at he
    rw [v1, v2] at he
    have hw : Region.wanted o (yielded ops a.tmps) = true := by simp [Region.wanted, hg]
    rw [if_pos hw]
    exact .inl (step1_sound hC h hnt he hK)
  · rw [hvg] at he
    simp only at he
    split at he
    · rename_i c hc
      have hw := cond_sound hg hj (opV_sound h (.tmp t)) hc
      rw [v1, v2] at he
      have := stepG_sound hC h hnt he hK (Q := Q)
      rw [hw]
      cases c with
      | true => simp only [if_true] at this ⊢; exact .inl this
      | false => simpa using this
    · simp at he

theorem After.trans {a a1 a2 : Act} {w1 w2 : World} {fr1 fr2 : Fr} {rv1 : Nat → Value} (h1 : a1.defers = a.defers ∧ a1.tmps.size = a.tmps.size ∧ ∀ s, 100000 ≤ s → rv1 s = rv s) (h2 : After w0 L X0 a1 a2 w2 rv1 fr2) : After w0 L X0 a a2 w2 rv fr2 := by
  obtain ⟨rv', fp', b1, b2, b3, b4⟩ := h2
  exact ⟨rv', fp', b1, b2.trans h1.1, b3.trans h1.2.1, fun s hs => (b4 s hs).trans (h1.2.2 s hs)⟩

theorem steps_sound {C : Cx} (hC : CSound P C) {ops : Array Oper} {Q : Exit → Act → World → Prop} : ∀ (l : List Vop) (k : Nat) {w : World} {a : Act} {fr : Fr} {rv : Nat → Value} {fp : Nat → Nat → Prop} {fr' : Fr}, (∀ (j : Nat) (v : Vop), l[j]? = some v → ∃ o, ops[k + j]? = some o ∧ vopOf ops o v) →
    FR w0 L X0 w a.tmps fr rv fp → fr.nt ≤ 99999 → steps P C fr l = some fr' → (∀ a' w', After w0 L X0 a a' w' rv fr' → Q .normal a' w') → wpOps P ops Q (List.range' k l.length) a w
  | [], k, w, a, fr, rv, fp, fr', hl, h, hnt, he, hQ => by
    simp only [steps] at he
    obtain rfl := Option.some.inj he
    simp only [List.length_nil, List.range'_zero, wpOps]
    exact hQ _ _ ⟨rv, fp, h, rfl, rfl, fun _ _ => rfl⟩
  | v :: l, k, w, a, fr, rv, fp, fr', hl, h, hnt, he, hQ => by
    simp only [steps] at he
    split at he
    · rename_i fr1 h1
      obtain ⟨o, ho, hv⟩ := hl 0 v rfl
      simp only [List.length_cons, List.range'_succ]
      rw [wpOps_cons]
      refine stepO_sound hC h hnt ho hv h1 fun a' w' ⟨rv1, fp1, b1, b2, b3, b4⟩ _ => ?_
      refine steps_sound hC l (k + 1) (fun j v' hj => ?_) b1 (by rw [← b1.nt, b3, h.nt]; exact hnt) he fun a2 w2 h2 => hQ _ _ (h2.trans (w1 := w') (fr1 := fr1) ⟨b2, b3, b4⟩)
      obtain ⟨o', ho', hv'⟩ := hl (j + 1) v' (by simpa using hj)
      exact ⟨o', by rw [show k + 1 + j = k + (j + 1) by omega]; exact ho', hv'⟩
    · simp at he
theorem After.start {a : Act} (h : FR w0 L X0 w a.tmps fr rv fp) : After w0 L X0 a a w rv fr := ⟨rv, fp, h, rfl, rfl, fun _ _ => rfl⟩
end
end Go.Proofs.Ytgnohnlpicmnaaa.Vm
set_option linter.unusedSimpArgs false
set_option linter.unusedVariables false
namespace Go.Proofs.Ytgnohnlpicmnaaa.Vm
open Go
section
variable {P : Program} {ops : Array Oper} {Q : Exit → Act → World → Prop} {S : World → Prop} {mu : Nat → Bool}

/-- Whatever order is picked from here on; behind every operation that turns nothing that stood, S holds. -/
def wpAnyM (P : Program) (ops : Array Oper) (Q : Exit → Act → World → Prop) (S : World → Prop) (mu : Nat → Bool) : Nat → Array Bool → Act → World → Prop
  | 0, listed, a, w => Region.ready .any ops listed = [] ∧ Q .normal a w
  | fuel + 1, listed, a, w => (Region.ready .any ops listed = [] → Q .normal a w) ∧
    ∀ i ∈ Region.ready .any ops listed, wpOp P ops Q i (fun a' w' => if mu i = true then wpAny P .any ops Q fuel (listed.setIfInBounds i true) a' w' else S w' ∧ wpAnyM P ops Q S mu fuel (listed.setIfInBounds i true) a' w') a w

theorem wpAny_of_M : ∀ (fuel : Nat) (listed : Array Bool) (a : Act) (w : World), wpAnyM P ops Q S mu fuel listed a w → wpAny P .any ops Q fuel listed a w
  | 0, _, _, _, h => h
  | fuel + 1, _, _, _, h => ⟨h.1, fun i hi => wpOp_mono (fun a' w' h' => by
      by_cases hm : mu i = true
      · rw [if_pos hm] at h'; exact h'
      · rw [if_neg hm] at h'; exact wpAny_of_M fuel _ a' w' h'.2) (h.2 i hi)⟩

theorem wpAnyM_mono {S' : World → Prop} (hs : ∀ w, S w → S' w) : ∀ (fuel : Nat) (listed : Array Bool) (a : Act) (w : World), wpAnyM P ops Q S mu fuel listed a w → wpAnyM P ops Q S' mu fuel listed a w
  | 0, _, _, _, h => h
  | fuel + 1, _, _, _, h => ⟨h.1, fun i hi => wpOp_mono (fun a' w' h' => by
      by_cases hm : mu i = true
      · rw [if_pos hm] at h' ⊢; exact h'
      · rw [if_neg hm] at h' ⊢; exact ⟨hs w' h'.1, wpAnyM_mono hs fuel _ a' w' h'.2⟩) (h.2 i hi)⟩

/-- What may come up while number i has not: within a set that holds what is listed; whatever lies outside waits for something outside. -/
structure Cert (ops : Array Oper) (mu : Nat → Bool) (i : Nat) (oi : Oper) (L : Nat → Bool) : Prop where
  out : L i = false
  closed : ∀ (j : Nat) (o : Oper), ops[j]? = some o → L j = false → j ≠ i → ∃ e ∈ o.after, Region.binds .any e = true ∧ L e.on = false

theorem wpAnyM_first {i : Nat} {oi : Oper} {v : Value} {L : Nat → Bool} (hi : ops[i]? = some oi) (hmu : mu i = false) (hsel : ∀ (j : Nat) (o : Oper) cs b, ops[j]? = some o → o.op ≠ .select cs b)
    (hQ : ∀ c a w, Q (.panic c) (a.put oi.dst v) w → Q (.panic c) a w) (hL : Cert ops mu i oi L) :
    ∀ (fuel : Nat) (listed : Array Bool) (a : Act) (w : World),
      (∀ j, listed.getD j false = true → L j = true) → (∀ j oj, ops[j]? = some oj → L j = true → listed.getD j true = false → mu j = false ∧ oi.apart ops oj = true) →
      i ∈ Region.ready .any ops listed → YieldsIf P ops S oi v a → S w →
      wpAnyM P ops Q S mu fuel (listed.setIfInBounds i true) (a.put oi.dst v) w → wpAnyM P ops Q S mu (fuel + 1) listed a w := by
  intro fuel
  induction fuel with
  | zero =>
    intro listed a w hin hfree hr hy hS H
    refine ⟨fun h => (by rw [h] at hr; cases hr), fun j hj => ?_⟩
    by_cases hji : j = i
    · subst hji; exact hy.wpOp hi hS (by rw [hmu]; exact ⟨hS, H⟩)
    · have := ready_mono hj hji
      rw [H.1] at this
      cases this
  | succ fuel ih =>
    intro listed a w hin hfree hr hy hS H
    refine ⟨fun h => (by rw [h] at hr; cases hr), fun j hj => ?_⟩
    by_cases hji : j = i
    · subst hji; exact hy.wpOp hi hS (by rw [hmu]; exact ⟨hS, H⟩)
    · have h1 := H.2 j (ready_mono hj hji)
      obtain ⟨hjun, oj, hoj, hall⟩ := mem_ready.1 hj
      have hLj : L j = true := by
        cases hq : L j with
        | true => rfl
        | false =>
          obtain ⟨e, he, hb, hf⟩ := hL.closed j oj hoj hq hji
          have := hin e.on (hall e he hb)
          rw [hf] at this; cases this
      obtain ⟨hmj, hap⟩ := hfree j oj hoj hLj hjun
      rw [hmj] at h1 ⊢
      simp only [Bool.false_eq_true, if_false] at h1 ⊢
      have h2 := wpOp_putIf hoj hap (fun cs b => hsel i oi cs b hi) (fun cs b => hsel j oj cs b hoj) hQ hy h1
      refine wpOp_mono (fun a' w' h3 => ⟨h3.2.1, ih (listed.setIfInBounds j true) a' w' ?_ ?_ (ready_mono hr (Ne.symm hji)) h3.1 h3.2.1 ?_⟩) h2
      · intro k hk
        by_cases hjk : j = k
        · subst hjk; exact hLj
        · rw [getD_set_ne false hjk] at hk; exact hin k hk
      · intro k ok hk hLk hun
        refine hfree k ok hk hLk ?_
        by_cases hjk : j = k
        · subst hjk; exact hjun
        · rw [getD_set_ne true hjk] at hun; exact hun
      · rw [Array.setIfInBounds_comm _ _ hji]
        exact h3.2.2
end
end Go.Proofs.Ytgnohnlpicmnaaa.Vm
set_option linter.unusedSimpArgs false
set_option linter.unusedVariables false
namespace Go.Proofs.Ytgnohnlpicmnaaa.Vm
open Go

def mutAt (own : FuncId → List Bool) (ops : Array Oper) (i : Nat) : Bool := match ops[i]? with
  | some o => isMut own o.op
  | none => false

/-- All but number i and what waits for it. -/
def awayOf (ops : Array Oper) (i : Nat) : Array Bool :=
  (List.range ops.size).foldl (fun acc j => acc.push (!(j == i) && match ops[j]? with
    | some o => o.after.all fun e => !Region.binds .any e || acc.getD e.on true
    | none => true)) #[]

def certB (own : FuncId → List Bool) (ops : Array Oper) (listed : Array Bool) (i : Nat) (oi : Oper) : Bool :=
  let L := awayOf ops i
  (L.getD i true == false) &&
  ((List.range ops.size).all fun j => L.getD j true || j == i || match ops[j]? with
    | some o => o.after.any fun e => Region.binds .any e && !L.getD e.on true
    | none => true) &&
  ((List.range ops.size).all fun j => !listed.getD j false || L.getD j true) &&
  ((List.range ops.size).all fun j => !L.getD j true || listed.getD j true || match ops[j]? with
    | some oj => !isMut own oj.op && oi.apart ops oj
    | none => true)

def drawnOk (own : FuncId → List Bool) (ops : Array Oper) : Array Bool → List Nat → Bool
  | listed, [] => (Region.ready .any ops listed).isEmpty
  | listed, i :: rest => (match ops[i]? with
    | some o => if isHeavy o.op = true then (Region.ready .any ops listed == [i]) else (Region.ready .any ops listed).contains i && certB own ops listed i o
    | none => false) && drawnOk own ops (listed.setIfInBounds i true) rest

section
variable {P : Program} {w0 : World} {L X0 : Nat → Prop} {w w' : World} {tm : Array Value} {fr : Fr} {rv : Nat → Value} {fp : Nat → Nat → Prop}

theorem quiet_not_mut {own : FuncId → List Bool} {op : Op} (h : isHeavy op = false) : isMut own op = false := by
  cases op with
  | call c =>
    obtain ⟨callee, args, ts⟩ := c
    cases callee with
    | value f => simp [isHeavy] at h
    | builtin b => cases b <;> first | rfl | simp [isHeavy] at h
    | invoke r m => rfl
  | _ => first | rfl | simp [isHeavy] at h

theorem step1_quiet {C : Cx} {dst : Option Nat} {op : Op} (h : isHeavy op = false) : step1 P C fr dst op = match quietV P fr true op with
    | some y => putV fr dst y
    | none => none := by
  cases op with
  | call c =>
    obtain ⟨callee, args, ts⟩ := c
    cases callee with
    | value f => simp [isHeavy] at h
    | builtin b => cases b <;> first | rfl | simp [isHeavy] at h
    | invoke r m => rfl
  | _ => first | rfl | simp [isHeavy] at h

theorem stepG_quiet {C : Cx} {c : Bool} {dst : Option Nat} {op : Op} (h : isHeavy op = false) : stepG P C fr c dst op = match quietV P fr c op with
    | some y => putV fr dst (.guard c y)
    | none => none := by
  cases op with
  | call c' =>
    obtain ⟨callee, args, ts⟩ := c'
    cases callee with
    | value f => simp [isHeavy] at h
    | builtin b => cases b <;> first | rfl | simp [isHeavy] at h
    | invoke r m => rfl
  | _ => first | rfl | simp [isHeavy] at h

/-- A quiet operation yields one value in every world in which the blocks that stand are as they are. -/
theorem stepO_quiet {C : Cx} {a : Act} (h : FR w0 L X0 w a.tmps fr rv fp) {ops : Array Oper} {o : Oper} {v : Vop} {fr' : Fr} (hv : vopOf ops o v) (hq : isHeavy o.op = false) (he : stepO P C fr v = some fr') :
    ∃ u, YieldsIf P ops (Ext w) o u a ∧ After w0 L X0 a (a.put o.dst u) w rv fr' := by
  obtain ⟨v1, v2, v3⟩ := hv
  unfold stepO at he
  rcases v3 with ⟨hg, hvg⟩ | ⟨j, want, t, hg, hj, hvg⟩
  · rw [hvg] at he
    simp only at he
    rw [v1, v2, step1_quiet hq] at he
    split at he
    · rename_i y hy
      obtain ⟨u, b1, b2⟩ := quietV_sound h rfl hy
      exact ⟨u, .inl ⟨by simp [Region.wanted, hg], b1⟩, put_after h b2 (fun _ _ => rfl) he⟩
    · simp at he
  · rw [hvg] at he
    simp only at he
    split at he
    · rename_i c hc
      have hw := cond_sound hg hj (opV_sound h (.tmp t)) hc
      rw [v1, v2, stepG_quiet hq] at he
      split at he
      · rename_i y hy
        cases c with
        | true =>
          obtain ⟨u, b1, b2⟩ := quietV_sound h rfl hy
          exact ⟨u, .inl ⟨hw, b1⟩, put_after h (by simp only [RepE]; exact ⟨fun _ => b2, fun hh => by simp at hh⟩) (fun _ _ => rfl) he⟩
        | false =>
          exact ⟨undef, .inr ⟨hw, rfl⟩, put_after h (by simp only [RepE]; exact ⟨fun hh => by simp at hh, fun _ => trivial⟩) (fun _ _ => rfl) he⟩
      · simp at he
    · simp at he

theorem certB_spec {C : Cx} {ops : Array Oper} {listed : Array Bool} {i : Nat} {oi : Oper} (h : certB C.own ops listed i oi = true) :
    Cert ops (mutAt C.own ops) i oi (fun j => (awayOf ops i).getD j true) ∧ (∀ j, listed.getD j false = true → j < ops.size → (awayOf ops i).getD j true = true) ∧
      (∀ (j : Nat) (oj : Oper), ops[j]? = some oj → (awayOf ops i).getD j true = true → listed.getD j true = false → mutAt C.own ops j = false ∧ oi.apart ops oj = true) := by
  simp only [certB, Bool.and_eq_true, List.all_eq_true, List.mem_range, beq_iff_eq] at h
  obtain ⟨⟨⟨h1, h2⟩, h3⟩, h4⟩ := h
  refine ⟨⟨h1, fun j o ho hL hji => ?_⟩, fun j hj hlt => ?_, fun j oj hoj hL hun => ?_⟩
  · have := h2 j (Array.getElem?_eq_some_iff.1 ho).1
    simp only [ho] at this
    have hL' : (awayOf ops i).getD j true = false := hL
    simp only [hL', Bool.false_or, Bool.or_eq_true, beq_iff_eq, hji, false_or] at this
    obtain ⟨e, he, hb⟩ := Array.any_eq_true'.1 this
    simp only [Bool.and_eq_true, Bool.not_eq_true'] at hb
    exact ⟨e, he, hb.1, hb.2⟩
  · have := h3 j hlt
    simp only [hj, Bool.not_true, Bool.false_or] at this
    exact this
  · have := h4 j (Array.getElem?_eq_some_iff.1 hoj).1
    simp only [hoj, hL, hun, Bool.not_true, Bool.false_or, Bool.and_eq_true, Bool.not_eq_true'] at this
    exact ⟨by simp only [mutAt, hoj]; exact this.1, this.2⟩

theorem drawn_sound {C : Cx} (hC : CSound P C) {ops : Array Oper} (hsel : Region.noSelect ops = true) {R : Act → World → Prop} : ∀ (ord : List Nat) (vs : List Vop) {listed : Array Bool} {S : World → Prop} {w : World} {a : Act} {fr : Fr} {rv : Nat → Value} {fp : Nat → Nat → Prop} {fr' : Fr},
    listed.size = ops.size → vs.length = ord.length → (∀ (k : Nat) (v : Vop), vs[k]? = some v → ∃ i o, ord[k]? = some i ∧ ops[i]? = some o ∧ vopOf ops o v) → drawnOk C.own ops listed ord = true →
    FR w0 L X0 w a.tmps fr rv fp → fr.nt ≤ 99999 → steps P C fr vs = some fr' → (∀ w', Ext w w' → S w') → (∀ a' w', After w0 L X0 a a' w' rv fr' → R a' w') →
    wpAnyM P ops (fun e a w => e = .normal ∧ R a w) S (mutAt C.own ops) ord.length listed a w
  | [], vs, listed, S, w, a, fr, rv, fp, fr', hsz, hl, hv, hok, h, hnt, he, hS, hR => by
    obtain rfl := List.eq_nil_of_length_eq_zero (by simpa using hl)
    simp only [steps] at he
    obtain rfl := Option.some.inj he
    simp only [drawnOk, List.isEmpty_iff] at hok
    exact ⟨hok, rfl, hR _ _ (After.start h)⟩
  | i :: ord, vs, listed, S, w, a, fr, rv, fp, fr', hsz, hl, hv, hok, h, hnt, he, hS, hR => by
    obtain ⟨v, vs, rfl⟩ := List.exists_cons_of_ne_nil (l := vs) (by rintro rfl; simp at hl)
    simp only [steps] at he
    split at he
    · rename_i fr1 h1
      obtain ⟨i', o, hi', ho, hvo⟩ := hv 0 v rfl
      obtain rfl : i = i' := by simpa using hi'
      simp only [drawnOk, ho, Bool.and_eq_true] at hok
      obtain ⟨hk, hok⟩ := hok
      have hv' : ∀ (k : Nat) (v' : Vop), vs[k]? = some v' → ∃ i o, ord[k]? = some i ∧ ops[i]? = some o ∧ vopOf ops o v' := fun k v' hk => by simpa using hv (k + 1) v' (by simpa using hk)
      have hsz' : (listed.setIfInBounds i true).size = ops.size := by simpa using hsz
      have hmu : mutAt C.own ops i = isMut C.own o.op := by simp [mutAt, ho]
      split at hk
      · -- a heavy operation: it alone may come up
        have hrd : Region.ready .any ops listed = [i] := by simpa using hk
        refine ⟨fun h0 => by rw [hrd] at h0; simp at h0, fun j hj => ?_⟩
        rw [hrd] at hj
        obtain rfl : j = i := by simpa using hj
        refine stepO_sound hC h hnt ho hvo h1 fun a1 w1 ⟨rv1, fp1, b1, b2, b3, b4⟩ hext => ?_
        have go : ∀ S' : World → Prop, (∀ w', Ext w1 w' → S' w') → wpAnyM P ops (fun e a w => e = .normal ∧ R a w) S' (mutAt C.own ops) ord.length (listed.setIfInBounds j true) a1 w1 := fun S' hS' =>
          drawn_sound hC hsel ord vs hsz' (by simpa using hl) hv' hok b1 (by rw [← b1.nt, b3, h.nt]; exact hnt) he hS' (fun a2 w2 h2 => hR _ _ (h2.trans (w1 := w1) (fr1 := fr1) ⟨b2, b3, b4⟩))
        by_cases hm : mutAt C.own ops j = true
        · rw [if_pos hm]
          exact wpAny_of_M _ _ _ _ (go (fun _ => True) fun _ _ => trivial)
        · rw [if_neg hm]
          have hx := hext (by rw [← hmu]; simpa using hm)
          exact ⟨hS _ hx.1, go S fun w2 h2 => hS _ fun b hb => (h2 b (Nat.lt_of_lt_of_le hb hx.2)).trans (hx.1 b hb)⟩
      · rename_i hq
        have hq' : isHeavy o.op = false := by simpa using hq
        simp only [Bool.and_eq_true] at hk
        obtain ⟨u, hy, rv1, fp1, b1, b2, b3, b4⟩ := stepO_quiet h hvo hq' h1
        obtain ⟨k1, k2, k3⟩ := certB_spec hk.2
        have hrd : i ∈ Region.ready .any ops listed := by simpa using hk.1
        have H := drawn_sound hC hsel ord vs (S := Ext w) hsz' (by simpa using hl) hv' hok b1 (by rw [← b1.nt, b3, h.nt]; exact hnt) he (fun _ h => h) (fun a2 w2 h2 => hR _ _ (h2.trans (w1 := w) (fr1 := fr1) ⟨b2, b3, b4⟩))
        refine wpAnyM_mono hS _ _ _ _ (wpAnyM_first ho (by rw [hmu]; exact quiet_not_mut hq') (Region.noSelect_spec hsel) (fun c a w hh => by simp at hh) k1 ord.length listed a w (fun j hj => ?_) k3 hrd hy (Ext.refl w) H)
        refine k2 j hj ?_
        rw [← hsz]
        rcases Nat.lt_or_ge j listed.size with hlt | hge
        · exact hlt
        · rw [Array.getD_eq_getD_getElem?, Array.getElem?_eq_none hge] at hj; simp at hj
    · simp at he
end
end Go.Proofs.Ytgnohnlpicmnaaa.Vm
set_option linter.unusedSimpArgs false
set_option linter.unusedVariables false
namespace Go.Proofs.Ytgnohnlpicmnaaa.Vm
open Go

inductive Vc where
  | skip
  | region (ops : List Vop) (keep : Option (List Nat))
  | seq (a b : Vc)
  | cond (c : Operand) (a b : Vc)
  | block (id : Nat) (c : Vc)
  | loop (c : Vc)
  | exit (id : Nat)
  | ret

inductive Ex where
  | normal
  | exit (id : Nat)
  | ret
def Ex.to : Ex → Exit
  | .normal => .normal
  | .exit id => .exit id
  | .ret => .ret

/-! Loops: as often as it takes -/
def iter (g : Fr → Option (Ex × Fr)) : Nat → Fr → Option (Ex × Fr)
  | 0, _ => none
  | n + 1, fr => match g fr with
    | some (.normal, fr1) => iter g n fr1
    | r => r

theorem iter_more {g : Fr → Option (Ex × Fr)} : ∀ {n : Nat} {fr : Fr} {r : Ex × Fr}, iter g n fr = some r → iter g (n + 1) fr = some r
  | 0, fr, r, h => by simp [iter] at h
  | n + 1, fr, r, h => by
    rw [iter] at h ⊢
    split at h
    · rename_i fr1 hg
      exact iter_more h
    · rename_i hg
      exact h

theorem iter_le {g : Fr → Option (Ex × Fr)} {n m : Nat} {fr : Fr} {r : Ex × Fr} (hnm : n ≤ m) (h : iter g n fr = some r) : iter g m fr = some r := by
  induction hnm with
  | refl => exact h
  | step _ ih => exact iter_more ih

open Classical in
noncomputable def vloop (g : Fr → Option (Ex × Fr)) (fr : Fr) : Option (Ex × Fr) :=
  if h : ∃ n r, iter g n fr = some r then iter g h.choose fr else none

theorem vloop_iff {g : Fr → Option (Ex × Fr)} {fr : Fr} {r : Ex × Fr} : vloop g fr = some r ↔ ∃ n, iter g n fr = some r := by
  unfold vloop
  constructor
  · intro h
    split at h
    · rename_i hh; exact ⟨_, h⟩
    · simp at h
  · rintro ⟨n, hn⟩
    have hh : ∃ n r, iter g n fr = some r := ⟨n, r, hn⟩
    rw [dif_pos hh]
    obtain ⟨r', hr'⟩ := hh.choose_spec
    rw [hr']
    have a1 := iter_le (Nat.le_max_left n hh.choose) hn
    have a2 := iter_le (Nat.le_max_right n hh.choose) hr'
    rw [a1] at a2
    exact a2.symm

theorem vloop_eq (g : Fr → Option (Ex × Fr)) (fr : Fr) : vloop g fr = match g fr with
    | some (.normal, fr1) => vloop g fr1
    | r => r := by
  apply Option.ext
  intro r
  rw [vloop_iff]
  constructor
  · rintro ⟨n, hn⟩
    cases n with
    | zero => simp [iter] at hn
    | succ n =>
      rw [iter] at hn
      split at hn
      · rename_i fr1 hg
        exact vloop_iff.2 ⟨n, hn⟩
      · rename_i hg
        exact hn
  · intro h
    split at h
    · rename_i fr1 hg
      obtain ⟨n, hn⟩ := vloop_iff.1 h
      exact ⟨n + 1, by rw [iter, hg]; exact hn⟩
    · rename_i hg
      refine ⟨1, ?_⟩
      rw [iter]
      split
      · rename_i fr1 h1; exact absurd h1 (hg _)
      · exact h

/-- The roots that the kept values lead to. -/
def refsOf (env : List (Nat × V)) : List Nat := env.flatMap fun e => (leaves e.2).map leafRoot
def tidyE (keep : List Nat) (env : List (Nat × V)) : List (Nat × V) := keep.map fun t => (t, match look t env with
  | some x => x
  | none => .dead)
def inL (r : Nat) : List Nat → Bool
  | [] => false
  | s :: l => if s = r then true else inL r l
def tidyR (refs : List Nat) : List (Nat × D) → List (Nat × D)
  | [] => []
  | (r, d) :: l => if (decide (100000 ≤ r) || inL r refs) = true then (r, d) :: tidyR refs l else tidyR refs l
def tidy (keep : List Nat) (fr : Fr) : Fr :=
  { fr with env := tidyE keep fr.env, roots := tidyR (refsOf (tidyE keep fr.env)) fr.roots }
def tidyO (keep : Option (List Nat)) (fr : Fr) : Fr := match keep with
  | some l => tidy l fr
  | none => fr

noncomputable def vx (P : Program) (C : Cx) : Vc → Fr → Option (Ex × Fr)
  | .skip, fr => some (.normal, fr)
  | .region ops keep, fr => match steps P C fr ops with
    | some fr1 => some (.normal, tidyO keep fr1)
    | none => none
  | .seq a b, fr => match vx P C a fr with
    | some (.normal, fr1) => vx P C b fr1
    | r => r
  | .cond c a b, fr => match strip true (opV fr.env c) with
    | .val (.bool t) => if t = true then vx P C a fr else vx P C b fr
    | _ => none
  | .block id c, fr => match vx P C c fr with
    | some (.exit j, fr1) => if j = id then some (.normal, fr1) else some (.exit j, fr1)
    | r => r
  | .loop c, fr => vloop (vx P C c) fr
  | .exit id, fr => some (.exit id, fr)
  | .ret, fr => some (.ret, fr)

section
variable {P : Program} {w0 : World} {L X0 : Nat → Prop} {w w' : World} {tm : Array Value} {fr : Fr} {rv : Nat → Value} {fp : Nat → Nat → Prop} {X : Nat → Prop} {R : List (Nat × D)}

theorem inL_mem {r : Nat} : ∀ {l : List Nat}, r ∈ l → inL r l = true
  | s :: l, h => by
    simp only [inL]
    by_cases hs : s = r
    · rw [if_pos hs]
    · rw [if_neg hs]
      rcases List.mem_cons.1 h with h | h
      · exact absurd h.symm hs
      · exact inL_mem h

theorem look_tidyR {refs : List Nat} {r : Nat} : ∀ {R : List (Nat × D)}, look r (tidyR refs R) = if (decide (100000 ≤ r) || inL r refs) = true then look r R else none
  | [] => by simp [tidyR, look]
  | (s, d) :: l => by
    have ih := look_tidyR (refs := refs) (r := r) (R := l)
    simp only [tidyR]
    by_cases hs : (decide (100000 ≤ s) || inL s refs) = true
    · rw [if_pos hs]
      simp only [look]
      by_cases hsr : s = r
      · subst hsr; rw [if_pos rfl, if_pos rfl, if_pos hs]
      · rw [if_neg hsr, if_neg hsr]; exact ih
    · rw [if_neg hs, ih]
      simp only [look]
      by_cases hsr : s = r
      · subst hsr; rw [if_neg hs, if_neg hs]
      · rw [if_neg hsr]

/-- Roots are dropped that nothing leads to. -/
theorem FR.tidyR (h : FR w0 L X0 w tm fr rv fp) {refs : List Nat} (hr : ∀ e ∈ fr.env, ∀ y ∈ leaves e.2, leafRoot y ∈ refs) : FR w0 L X0 w tm { fr with roots := Vm.tidyR refs fr.roots } rv fp := by
  have sub : ∀ r d, look r (Vm.tidyR refs fr.roots) = some d → look r fr.roots = some d := fun r d hd => by
    rw [look_tidyR] at hd
    split at hd
    · exact hd
    · simp at hd
  have hXX : ∀ b, XX X0 (Vm.tidyR refs fr.roots) fp b → XX X0 fr.roots fp b := by
    rintro b (hb | ⟨s, d', hs, hb⟩)
    · exact .inl hb
    · exact .inr ⟨s, d', sub s d' hs, hb⟩
  have hst : ∀ F, Stay w w (XX X0 fr.roots fp) (XX X0 (Vm.tidyR refs fr.roots) fp) F := fun F => ⟨fun _ _ _ => rfl, fun b _ hb => hXX b hb⟩
  refine ⟨h.os, h.tape, h.output, h.size, h.x0, h.keep, fun r d hd => RepV.stay d (hst _) (h.root r d (sub r d hd)), fun s s' d1 d2 b hs hs' hb hb' => h.sep s s' d1 d2 b (sub _ _ hs) (sub _ _ hs') hb hb',
    fun s d b hs hb => h.new s d b (sub _ _ hs) hb, fun s d b hs hb => h.out s d b (sub _ _ hs) hb, ?_, h.nt⟩
  intro t x hx
  have hmem : ∃ e ∈ fr.env, e.2 = x := by
    have : ∀ {l : List (Nat × V)}, look t l = some x → ∃ e ∈ l, e.2 = x := by
      intro l
      induction l with
      | nil => intro h; simp [look] at h
      | cons e l ih =>
        obtain ⟨s, y⟩ := e
        intro h
        simp only [look] at h
        split at h
        · exact ⟨(s, y), by simp, Option.some.inj h⟩
        · obtain ⟨e, he, hx⟩ := ih h
          exact ⟨e, by simp [he], hx⟩
    exact this hx
  obtain ⟨e, he, rfl⟩ := hmem
  refine RepE.move (hst E) e.2 (fun y hy u hu => ?_) (h.env t _ hx)
  have hq := inL_mem (hr e he y hy)
  exact leaf_keep h (leaf_root e.2 hy) (by rw [look_tidyR, if_pos (by simp [hq])]) rfl (fun _ _ _ _ => rfl) u hu

theorem FR.tidyE (h : FR w0 L X0 w tm fr rv fp) (keep : List Nat) : FR w0 L X0 w tm { fr with env := Vm.tidyE keep fr.env } rv fp := by
  refine h.sub fun t x hx => ?_
  have : ∀ {l : List Nat}, look t (Vm.tidyE l fr.env) = some x → look t fr.env = some x ∨ x = .dead := by
    intro l
    induction l with
    | nil => intro h; simp [Vm.tidyE, look] at h
    | cons s l ih =>
      intro h
      simp only [Vm.tidyE, List.map_cons, look] at h
      split at h
      · rename_i hs
        subst hs
        split at h
        · rename_i y hy; exact .inl (by rw [hy]; exact h)
        · exact .inr (Option.some.inj h).symm
      · exact ih h
  exact this hx

theorem FR.tidyO (h : FR w0 L X0 w tm fr rv fp) (keep : Option (List Nat)) : FR w0 L X0 w tm (Vm.tidyO keep fr) rv fp := by
  cases keep with
  | none => exact h
  | some l =>
    refine (h.tidyE l).tidyR fun e he y hy => ?_
    simp only [refsOf, List.mem_flatMap, List.mem_map]
    exact ⟨e, he, y, hy, rfl⟩

/-! The code, in the machine's own form -/
def convOps (ops : Array Oper) : List Oper → Option (List Vop)
  | [] => some []
  | o :: l => match convOps ops l with
    | some r => match o.guard with
      | none => some (⟨o.dst, o.op, none⟩ :: r)
      | some (j, want) => match (ops[j]?).bind (·.dst) with
        | some t => some (⟨o.dst, o.op, some (t, want)⟩ :: r)
        | none => none
    | none => none

def pickL (l : List Vop) : List Nat → Option (List Vop)
  | [] => some []
  | i :: is => match l[i]? with
    | some v => match pickL l is with
      | some r => some (v :: r)
      | none => none
    | none => none

def conv (own : FuncId → List Bool) (A : Nat → Option (List Nat)) (B : Nat → List Nat) : Code → Option Vc
  | .skip => some .skip
  | .region id ops draw => match convOps ops ops.toList with
    | some l => if draw = true then (match pickL l (B id) with
        | some l' => if (Region.noSelect ops && drawnOk own ops (Array.replicate ops.size false) (B id) && decide ((B id).length = ops.size)) = true then some (.region l' (A id)) else none
        | none => none) else some (.region l (A id))
    | none => none
  | .seq a b => match conv own A B a with
    | some x => match conv own A B b with
      | some y => some (.seq x y)
      | none => none
    | none => none
  | .cond c a b => match conv own A B a with
    | some x => match conv own A B b with
      | some y => some (.cond c x y)
      | none => none
    | none => none
  | .block id c => match conv own A B c with
    | some x => some (.block id x)
    | none => none
  | .loop c => match conv own A B c with
    | some x => some (.loop x)
    | none => none
  | .exit id => some (.exit id)
  | .ret => some .ret
  | _ => none

theorem pickL_spec {l : List Vop} : ∀ {is : List Nat} {r : List Vop}, pickL l is = some r → r.length = is.length ∧ ∀ (k : Nat) (v : Vop), r[k]? = some v → ∃ i, is[k]? = some i ∧ l[i]? = some v
  | [], r, h => by
    simp only [pickL] at h
    obtain rfl := Option.some.inj h
    exact ⟨rfl, fun k v hk => by simp at hk⟩
  | i :: is, r, h => by
    simp only [pickL] at h
    split at h
    · rename_i v hv
      split at h
      · rename_i r' hr
        obtain rfl := Option.some.inj h
        obtain ⟨k1, k2⟩ := pickL_spec hr
        refine ⟨by simp [k1], fun k v' hk => ?_⟩
        cases k with
        | zero => simp at hk; subst hk; exact ⟨i, rfl, hv⟩
        | succ k => exact k2 k v' (by simpa using hk)
      · simp at h
    · simp at h

theorem convOps_spec {ops : Array Oper} : ∀ {l : List Oper} {vs : List Vop}, convOps ops l = some vs → vs.length = l.length ∧ ∀ (j : Nat) (v : Vop), vs[j]? = some v → ∃ o, l[j]? = some o ∧ vopOf ops o v
  | [], vs, h => by
    simp only [convOps] at h
    obtain rfl := Option.some.inj h
    exact ⟨rfl, fun j v hj => by simp at hj⟩
  | o :: l, vs, h => by
    simp only [convOps] at h
    split at h
    · rename_i r hr
      obtain ⟨k1, k2⟩ := convOps_spec hr
      have fin : ∀ v0 : Vop, vopOf ops o v0 → (v0 :: r).length = (o :: l).length ∧ ∀ (j : Nat) (v : Vop), (v0 :: r)[j]? = some v → ∃ o', (o :: l)[j]? = some o' ∧ vopOf ops o' v := by
        intro v0 h0
        refine ⟨by simp [k1], fun j v hj => ?_⟩
        cases j with
        | zero => simp at hj; subst hj; exact ⟨o, rfl, h0⟩
        | succ j => exact k2 j v (by simpa using hj)
      split at h
      · rename_i hg
        obtain rfl := Option.some.inj h
        exact fin _ ⟨rfl, rfl, .inl ⟨hg, rfl⟩⟩
      · rename_i j want hg
        split at h
        · rename_i t ht
          obtain rfl := Option.some.inj h
          exact fin _ ⟨rfl, rfl, .inr ⟨j, want, t, hg, ht, rfl⟩⟩
        · simp at h
    · simp at h

theorem vx_sound {C : Cx} (hC : CSound P C) (hwide : P.follows .mixedOrders = true) {A : Nat → Option (List Nat)} {B : Nat → List Nat} : ∀ (c : Code) {vc : Vc} {Q : Exit → Act → World → Prop} {w : World} {a : Act} {fr : Fr} {rv : Nat → Value} {fp : Nat → Nat → Prop} {ex : Ex} {fr' : Fr}, conv C.own A B c = some vc →
    FR w0 L X0 w a.tmps fr rv fp → fr.nt ≤ 99999 → vx P C vc fr = some (ex, fr') → (∀ a' w', After w0 L X0 a a' w' rv fr' → Q ex.to a' w') → c.wp P Q a w := by
  intro c
  induction c with
  | skip =>
    intro vc Q w a fr rv fp ex fr' hc h hnt he hQ
    simp only [conv] at hc; obtain rfl := Option.some.inj hc
    simp only [vx] at he
    obtain ⟨rfl, rfl⟩ := by simpa using he
    exact wp_skip (hQ _ _ (After.start h))
  | exit id =>
    intro vc Q w a fr rv fp ex fr' hc h hnt he hQ
    simp only [conv] at hc; obtain rfl := Option.some.inj hc
    simp only [vx] at he
    obtain ⟨rfl, rfl⟩ := by simpa using he
    exact wp_exit (hQ _ _ (After.start h))
  | ret =>
    intro vc Q w a fr rv fp ex fr' hc h hnt he hQ
    simp only [conv] at hc; obtain rfl := Option.some.inj hc
    simp only [vx] at he
    obtain ⟨rfl, rfl⟩ := by simpa using he
    exact wp_ret (hQ _ _ (After.start h))
  | region id ops draw =>
    intro vc Q w a fr rv fp ex fr' hc h hnt he hQ
    simp only [conv] at hc
    split at hc
    · rename_i l hl
      obtain ⟨k1, k2⟩ := convOps_spec hl
      split at hc
      · rename_i hd
        subst hd
        split at hc
        · rename_i l' hl'
          split at hc
          · rename_i hok
            obtain rfl := Option.some.inj hc
            simp only [Bool.and_eq_true, decide_eq_true_eq] at hok
            obtain ⟨⟨hsel, hdr⟩, hlen⟩ := hok
            obtain ⟨p1, p2⟩ := pickL_spec hl'
            simp only [vx] at he
            split at he
            · rename_i fr1 hs
              obtain ⟨rfl, rfl⟩ := by simpa using he
              -- the world behind the draw
              obtain ⟨f1, _⟩ := h.chg (w' := { w with drawn := w.drawn + 1 }) (Z := E) ⟨rfl, rfl, rfl, Nat.le_refl _, fun _ _ _ => rfl⟩ (fun b hb => hb.elim) (fun b hb => hb.elim)
              obtain ⟨f2, _⟩ := f1.less (X0 := X0) (fun b hb => .inl hb)
              have hm := drawn_sound hC hsel (R := fun a' w' => Q .normal a' w') (B id) l' (S := fun _ => True) (by simp) p1 (fun k v hk => by
                  obtain ⟨i, hi, hv⟩ := p2 k v hk
                  obtain ⟨o, ho, hvo⟩ := k2 i v hv
                  exact ⟨i, o, hi, by simpa using ho, hvo⟩) hdr f2 hnt hs (fun _ _ => trivial)
                (fun a' w' ⟨rv', fp', b1, b2, b3, b4⟩ => hQ a' w' ⟨rv', fp', b1.tidyO (A id), b2, b3, b4⟩)
              rw [hlen] at hm
              refine wp_mono (wp_region_any hwide (wpAny_of_M _ _ _ _ hm)) ?_
              rintro e a' w' ⟨rfl, hr⟩
              exact hr
            · simp at he
          · simp at hc
        · simp at hc
      · rename_i hd
        have hd' : draw = false := by simpa using hd
        subst hd'
        obtain rfl := Option.some.inj hc
        simp only [vx] at he
        split at he
        · rename_i fr1 hs
          obtain ⟨rfl, rfl⟩ := by simpa using he
          have := steps_sound hC (Q := Q) l 0 (fun j v hj => by obtain ⟨o, ho, hv⟩ := k2 j v hj; exact ⟨o, by simpa using ho, hv⟩) h hnt hs (fun a' w' ⟨rv', fp', b1, b2, b3, b4⟩ => hQ a' w' ⟨rv', fp', b1.tidyO (A id), b2, b3, b4⟩)
          refine wp_region ?_
          rw [k1] at this
          simpa [List.range_eq_range'] using this
        · simp at he
    · simp at hc
  | seq x y ihx ihy =>
    intro vc Q w a fr rv fp ex fr' hc h hnt he hQ
    simp only [conv] at hc
    split at hc
    · rename_i vx' hx
      split at hc
      · rename_i vy hy
        obtain rfl := Option.some.inj hc
        simp only [vx] at he
        refine wp_seq ?_
        split at he
        · rename_i fr1 h1
          refine ihx hx h hnt h1 fun a1 w1 ⟨rv1, fp1, b1, b2, b3, b4⟩ => ?_
          exact ihy hy b1 (by rw [← b1.nt, b3, h.nt]; exact hnt) he fun a2 w2 h2 => hQ _ _ (h2.trans (w1 := w1) (fr1 := fr1) ⟨b2, b3, b4⟩)
        · rename_i hne
          refine ihx hx h hnt he fun a1 w1 h1 => ?_
          cases ex with
          | normal => exact absurd he (hne _)
          | exit id => exact hQ _ _ h1
          | ret => exact hQ _ _ h1
      · simp at hc
    · simp at hc
  | cond c x y ihx ihy =>
    intro vc Q w a fr rv fp ex fr' hc h hnt he hQ
    simp only [conv] at hc
    split at hc
    · rename_i vx' hx
      split at hc
      · rename_i vy hy
        obtain rfl := Option.some.inj hc
        simp only [vx] at he
        split at he
        · rename_i t hv
          have hct := strip_sound (c := true) rfl (opV_sound h c)
          rw [hv] at hct
          refine wp_cond (t := t) (repV_bool (by simpa only [RepE] using hct)) ?_
          cases t with
          | true => simp only [if_true] at he ⊢; exact ihx hx h hnt he hQ
          | false => simp only [Bool.false_eq_true, if_false] at he ⊢; exact ihy hy h hnt he hQ
        · simp at he
      · simp at hc
    · simp at hc
  | block id c ih =>
    intro vc Q w a fr rv fp ex fr' hc h hnt he hQ
    simp only [conv] at hc
    split at hc
    · rename_i vx' hx
      obtain rfl := Option.some.inj hc
      simp only [vx] at he
      refine wp_block ?_
      split at he
      · rename_i j fr1 h1
        refine ih hx h hnt h1 fun a1 w1 h2 => ?_
        simp only [Ex.to, Exit.inBlock]
        split at he
        · rename_i hj
          obtain ⟨rfl, rfl⟩ := by simpa using he
          rw [if_pos hj]; exact hQ _ _ h2
        · rename_i hj
          obtain ⟨rfl, rfl⟩ := by simpa using he
          rw [if_neg hj]; exact hQ _ _ h2
      · rename_i hne
        refine ih hx h hnt he fun a1 w1 h1 => ?_
        cases ex with
        | normal => exact hQ _ _ h1
        | exit id' => exact absurd he (hne _ _)
        | ret => exact hQ _ _ h1
    · simp at hc
  | loop c ih =>
    intro vc Q w a fr rv fp ex fr' hc h hnt he hQ
    simp only [conv] at hc
    split at hc
    · rename_i vx' hx
      obtain rfl := Option.some.inj hc
      simp only [vx] at he
      obtain ⟨n, hn⟩ := vloop_iff.1 he
      refine wp_loop_rounds n ?_
      clear he
      induction n generalizing w a fr rv fp with
      | zero => simp [iter] at hn
      | succ n ihn =>
        rw [rounds_succ]
        rw [iter] at hn
        split at hn
        · rename_i fr1 h1
          refine ih hx h hnt h1 fun a1 w1 ⟨rv1, fp1, b1, b2, b3, b4⟩ => ?_
          exact ihn b1 (by rw [← b1.nt, b3, h.nt]; exact hnt) (fun a2 w2 h2 => hQ _ _ (h2.trans (w1 := w1) (fr1 := fr1) ⟨b2, b3, b4⟩)) hn
        · rename_i hne
          refine ih hx h hnt hn fun a1 w1 h1 => ?_
          cases ex with
          | normal => exact absurd hn (hne _)
          | exit id => exact hQ _ _ h1
          | ret => exact hQ _ _ h1
    · simp at hc
  | _ => intro vc Q w a fr rv fp ex fr' hc; simp [conv] at hc
end
end Go.Proofs.Ytgnohnlpicmnaaa.Vm
set_option linter.unusedSimpArgs false
set_option linter.unusedVariables false
namespace Go.Proofs.Ytgnohnlpicmnaaa.Vm
open Go

/-- The frame at a function's start. -/
def argsFr : Nat → List D → Fr → Option Fr
  | _, [], fr => some fr
  | i, d :: ds, fr => match resV (100000 + i) d with
    | some (y, dr) => argsFr (i + 1) ds { resFr fr (100000 + i) dr with env := (i, y) :: (resFr fr (100000 + i) dr).env }
    | none => none

/-- What is left of an argument. -/
def outD (fr : Fr) (i : Nat) (d : D) : Option D := if d.plain = true then some d else match look (100000 + i) fr.roots with
  | some r => match d with
    | .sl _ _ _ _ => match r with
      | .agg [e] => some e
      | _ => none
    | .tup _ => none
    | _ => some r
  | none => none

def outsD (fr : Fr) : Nat → List D → Option (List D)
  | _, [] => some []
  | i, d :: ds => match outD fr i d with
    | some o => match outsD fr (i + 1) ds with
      | some os => some (o :: os)
      | none => none
    | none => none

/-- What stands in a result's variable. -/
def resX (P : Program) (fr : Fr) : Nat × Option TypeId → Option V
  | (t, none) => some (strip true (opV fr.env (.tmp t)))
  | (t, some ty) => loadV P fr.roots ty (strip true (opV fr.env (.tmp t)))
def resXs (P : Program) (fr : Fr) : List (Nat × Option TypeId) → Option (List V)
  | [] => some []
  | r :: rs => match resX P fr r with
    | some x => match resXs P fr rs with
      | some xs => some (x :: xs)
      | none => none
    | none => none

/-- What a function yields, out of its frame at the end. -/
def finD (P : Program) (fr : Fr) (rs : List (Nat × Option TypeId)) : Option (D × Fr) := match resXs P fr rs with
  | some xs => match ownCells (xs.map fun _ => true) xs with
    | some fl => match moveAll fr fl [] with
      | some (ms, fr1, _) => match asm [] (xs.map fun _ => true) xs xs ms with
        | some ds => match ds with
          | [d] => some (d, fr1)
          | ds => some (.tup ds, fr1)
        | none => none
      | none => none
    | none => none
  | none => none

noncomputable def callFn (P : Program) (C : Cx) (vc : Vc) (nt : Nat) (rs : List (Nat × Option TypeId)) (ds : List D) : Option (D × List D) :=
  match argsFr 0 ds ⟨[], [], nt⟩ with
  | some fr => match vx P C vc fr with
    | some (.exit _, _) => none
    | some (_, fr1) => match finD P fr1 rs with
      | some (d, fr2) => match outsD fr2 0 ds with
        | some outs => some (d, outs)
        | none => none
      | none => none
    | none => none
  | none => none

section
variable {P : Program} {w0 : World} {L X0 : Nat → Prop} {w w' : World} {tm : Array Value} {fr : Fr} {rv : Nat → Value} {fp : Nat → Nat → Prop} {X : Nat → Prop} {R : List (Nat × D)}

def rootVal (d : D) (v : Value) : Value := match d with
  | .sl _ _ _ _ => .agg #[v]
  | _ => v

/-- What the root of an argument stands for. -/
def ArgOk (rv : Nat → Value) (R : List (Nat × D)) (i : Nat) (d : D) (v : Value) : Prop :=
  d.plain = true ∨ rv (100000 + i) = rootVal d v

theorem resV_rv {G Z : Nat → Prop} (h : FR w0 L (fun b => X0 b ∨ G b) w tm fr rv fp) (hG : ∀ b, G b → ¬ X0 b ∧ (L b ∨ w0.heap.size ≤ b)) {dst : Nat} {res : D} {v : Value} {y : V} {dr : Option D} (htup : ∀ ds, res ≠ .tup ds)
    (hrep : RepV w Z res v G) (hZ : ∀ b, b < w.heap.size → XX (fun b => X0 b ∨ G b) fr.roots fp b → Z b) (he : resV dst res = some (y, dr)) :
    ∃ rv' fp', FR w0 L X0 w tm (resFr fr dst dr) rv' fp' ∧ RepE w (XX X0 (resFr fr dst dr).roots fp') (resFr fr dst dr).roots rv' y v ∧ (∀ s, s ≠ dst → rv' s = rv s) ∧
      (res.plain = true ∨ rv' dst = rootVal res v) ∧ (∀ b, b < w.heap.size → XX X0 (resFr fr dst dr).roots fp' b → XX (fun b => X0 b ∨ G b) fr.roots fp b) := by
  obtain ⟨c1, c2⟩ := h.cut dst
  have hsub : ∀ b, XX (fun b => X0 b ∨ G b) (dropR fr dst).roots fp b → XX (fun b => X0 b ∨ G b) fr.roots fp b := by
    rintro b (hb | ⟨s, d', hs, hb⟩)
    · exact .inl hb
    · exact .inr ⟨s, d', (look_cutR_some hs).2, hb⟩
  have root : ∀ {d0 : D} {u0 : Value}, RepV w Z d0 u0 G → ∃ rv' fp', FR w0 L X0 w tm (bornV fr dst d0) rv' fp' ∧ rv' dst = u0 ∧ (∀ s, s ≠ dst → rv' s = rv s) ∧ (∀ b, b < w.heap.size → XX X0 (bornV fr dst d0).roots fp' b → XX (fun b => X0 b ∨ G b) fr.roots fp b) := by
    intro d0 u0 hr
    obtain ⟨a1, a2⟩ := c1.add (X1 := X0) (r0 := dst) look_cutR_self (d0 := d0) (u0 := u0) (F0 := G) (fun b hb => .inl hb) (fun b hb => ⟨.inr hb, hG b hb⟩) (Xe := Z) (fun b hb hh => hZ b hb (hsub b (by
      rcases hh with hh | hh | hh
      · exact .inl (.inl hh)
      · exact .inl (.inr hh)
      · exact .inr hh))) hr
    refine ⟨_, _, a1, setRv_self _ _ _, fun s hs => setRv_ne hs _ _, fun b hb hx => ?_⟩
    rcases hx with hx | ⟨s, d', hs, hx⟩
    · exact .inl (.inl hx)
    · by_cases hsr : s = dst
      · subst hsr; rw [setFp_self] at hx; exact .inl (.inr hx)
      · rw [setFp_ne hsr] at hx
        simp only [bornV, look] at hs
        rw [if_neg (Ne.symm hsr)] at hs
        exact hsub b (.inr ⟨s, d', hs, hx⟩)
  unfold resV at he
  split at he
  · rename_i hp
    obtain ⟨rfl, rfl⟩ := by simpa using he
    obtain ⟨a1, a2⟩ := h.less (X0 := X0) (fun b hb => .inl hb)
    refine ⟨rv, fp, a1, ?_, fun _ _ => rfl, .inl hp, fun b hb hx => hx.imp .inl id⟩
    simp only [RepE, resFr]
    exact plain_fp (RepV.stay res ⟨fun _ _ _ => rfl, fun b hb hx => hZ b hb (hx.imp .inl id)⟩ hrep) hp
  · split at he
    · rename_i sz n cs _
      obtain ⟨rfl, rfl⟩ := by simpa using he
      obtain ⟨rv', fp', a1, a2, a3, a4⟩ := root (wrap_row hrep)
      refine ⟨rv', fp', a1, ?_, a3, .inr a2, a4⟩
      simp only [RepV] at hrep
      obtain ⟨g, o, cap, φ, rfl, _⟩ := hrep
      simp only [RepE, resFr]
      exact ⟨.agg [.sl true sz n cs], [.sl true sz n cs], .vals #[.slice (some ⟨g, o, none⟩) n cap], by simp [bornV, look], by simp [D.rowAt, D.row], by simp, by simp [nav, a2, rowB], by simp [cvB], _, _, _, _, rfl⟩
    · rename_i cs _
      obtain ⟨rfl, rfl⟩ := by simpa using he
      obtain ⟨rv', fp', a1, a2, a3, a4⟩ := root hrep
      refine ⟨rv', fp', a1, ?_, a3, .inr a2, a4⟩
      simp only [RepV] at hrep
      obtain ⟨g, φ, rfl, _⟩ := hrep
      simp only [RepE, resFr]
      exact ⟨.ptr true cs, g, 0, by simp [bornV, look], ⟨fun _ => by simp [a2], .inl trivial⟩, by simp [nav, a2, rowB], by simp⟩
    · rename_i cs _
      obtain ⟨rfl, rfl⟩ := by simpa using he
      obtain ⟨rv', fp', a1, a2, a3, a4⟩ := root hrep
      refine ⟨rv', fp', a1, ?_, a3, .inr a2, a4⟩
      have hrep' := RepV.stay (.agg cs) (X' := XX X0 (bornV fr dst (.agg cs)).roots fp') (w' := w) ⟨fun _ _ _ => rfl, fun b hb hx => hZ b hb (a4 b hb hx)⟩ hrep
      simp only [RepV] at hrep'
      obtain ⟨us, φ, rfl, b2, b3, b4, b5⟩ := hrep'
      simp only [RepE, resFr]
      exact ⟨us, rfl, by rw [rowV_len, b2], rowV_sound (all := cs) (us := us) (φ := φ) (by simp [bornV, look]) a2 (fun j d hj => by simpa using hj) (fun j u hj => by simpa using hj) (by simp [b2]) (by simpa using b3)⟩
    · exact absurd rfl (htup _)
    · simp at he

theorem argsFr_sound : ∀ (ds : List D) {i : Nat} {Xb Z : Nat → Prop} {us : List Value} {φ : Nat → Nat → Prop} {fr fr' : Fr} {rv : Nat → Value} {fp : Nat → Nat → Prop}, us.length = ds.length → (∀ d ∈ ds, ∀ cs, d ≠ .tup cs) →
    FR w0 L (fun b => Xb b ∨ AllF ds.length φ b) w tm fr rv fp → (∀ b, AllF ds.length φ b → ¬ Xb b ∧ (L b ∨ w0.heap.size ≤ b)) → Disj ds.length φ → RepCs w Z ds (fun j => us[j]?) 0 φ → (∀ b, b < w.heap.size → XX (fun b => Xb b ∨ AllF ds.length φ b) fr.roots fp b → Z b) →
    (∀ (j : Nat) (u : Value), us[j]? = some u → tm.getD (i + j) undef = u) → i + ds.length ≤ fr.nt → argsFr i ds fr = some fr' →
    ∃ rv' fp', FR w0 L Xb w tm fr' rv' fp' ∧ (∀ (j : Nat) (d : D) (u : Value), ds[j]? = some d → us[j]? = some u → ArgOk rv' fr'.roots (i + j) d u) ∧ (∀ s, s < 100000 + i → rv' s = rv s) ∧ fr'.nt = fr.nt
  | [], i, Xb, Z, us, φ, fr, fr', rv, fp, hl, ht, h, hF, hD, hr, hZ, htm, hnt, he => by
    simp only [argsFr] at he
    obtain rfl := Option.some.inj he
    have e : (fun b => Xb b ∨ AllF ([] : List D).length φ b) = Xb := by funext b; simp [AllF]
    rw [e] at h
    exact ⟨rv, fp, h, fun j d u hj => by simp at hj, fun _ _ => rfl, rfl⟩
  | d :: ds, i, Xb, Z, us, φ, fr, fr', rv, fp, hl, ht, h, hF, hD, hr, hZ, htm, hnt, he => by
    obtain ⟨u, us, rfl⟩ := List.exists_cons_of_ne_nil (l := us) (by rintro rfl; simp at hl)
    simp only [argsFr] at he
    split at he
    · rename_i y dr hres
      simp only [RepCs] at hr
      obtain ⟨⟨v0, hv0, hrv⟩, hrs⟩ := hr
      obtain rfl : u = v0 := by simpa using hv0
      have hrs' := repCs_tail hrs
      simp only [List.getElem?_cons_succ] at hrs'
      have hall := allF_succ φ ds.length
      have e : (fun b => Xb b ∨ AllF (d :: ds).length φ b) = fun b => (Xb b ∨ AllF ds.length (fun j => φ (j + 1)) b) ∨ φ 0 b := by
        funext b
        rw [List.length_cons, hall b]
        apply propext
        constructor
        · rintro (h | h | h)
          · exact .inl (.inl h)
          · exact .inr h
          · exact .inl (.inr h)
        · rintro ((h | h) | h)
          · exact .inl h
          · exact .inr (.inr h)
          · exact .inr (.inl h)
      rw [e] at h hZ
      obtain ⟨rv1, fp1, a1, a2, a3, a4, a5⟩ := resV_rv h (fun b hb => ⟨fun hx => hx.elim (hF b ((hall b).2 (.inl hb))).1 (fun ⟨j, hj, hj'⟩ => by
        have := hD 0 (j + 1) b (by simp) (by simp; omega) hb hj'; omega), (hF b ((hall b).2 (.inl hb))).2⟩) (ht d (by simp)) hrv hZ hres
      have hi : i < (resFr fr (100000 + i) dr).nt := by
        have : (resFr fr (100000 + i) dr).nt = fr.nt := by rw [← a1.nt, ← h.nt]
        rw [this]; simp at hnt; omega
      have hu : tm.getD i undef = u := by simpa using htm 0 u rfl
      have a1' : FR w0 L (fun b => Xb b ∨ AllF ds.length (fun j => φ (j + 1)) b) w tm { resFr fr (100000 + i) dr with env := (i, y) :: (resFr fr (100000 + i) dr).env } rv1 fp1 := by
        have := a1.put hi a2
        have e2 : tm.setIfInBounds i u = tm := by
          apply Array.ext
          · simp
          · intro k h1 h2
            rw [Array.getElem_setIfInBounds (by simpa using h2)]
            split
            · rename_i hk
              subst hk
              rw [← hu]
              simp [h2]
            · rfl
        rw [e2] at this
        exact this
      obtain ⟨rv2, fp2, b1, b2, b3, b4⟩ := argsFr_sound ds (i := i + 1) (us := us) (φ := fun j => φ (j + 1)) (Z := Z) (by simpa using hl) (fun d' hd' => ht d' (by simp [hd'])) a1' (fun b hb => hF b ((hall b).2 (.inr hb)))
        (fun i j b hi hj q1 q2 => by have := hD (i + 1) (j + 1) b (by simp; omega) (by simp; omega) q1 q2; omega) hrs' (fun b hb hx => hZ b hb (a5 b hb hx))
        (fun j v hj => by have := htm (j + 1) v (by simpa using hj); rwa [show i + (j + 1) = i + 1 + j by omega] at this)
        (by show i + 1 + ds.length ≤ (resFr fr (100000 + i) dr).nt; have : (resFr fr (100000 + i) dr).nt = fr.nt := by rw [← a1.nt, ← h.nt]
            rw [this]; simp at hnt; omega) he
      refine ⟨rv2, fp2, b1, fun j d' u' hj hu' => ?_, fun s hs => ?_, ?_⟩
      · cases j with
        | zero =>
          simp at hj hu'; subst hj; subst hu'
          rcases a4 with a4 | a4
          · exact .inl a4
          · right
            have := b3 (100000 + i) (by omega)
            simp only [Nat.add_zero]
            rw [this]; exact a4
        | succ j =>
          have := b2 j d' u' (by simpa using hj) (by simpa using hu')
          rwa [show i + 1 + j = i + (j + 1) by omega] at this
      · rw [b3 s (by omega), a3 s (by omega)]
      · rw [b4]; show (resFr fr (100000 + i) dr).nt = fr.nt
        rw [← a1.nt, ← h.nt]
    · simp at he
end
end Go.Proofs.Ytgnohnlpicmnaaa.Vm
set_option linter.unusedSimpArgs false
set_option linter.unusedVariables false
namespace Go.Proofs.Ytgnohnlpicmnaaa.Vm
open Go
section
variable {P : Program} {w0 : World} {L X0 : Nat → Prop} {w w' : World} {tm : Array Value} {fr : Fr} {rv : Nat → Value} {fp : Nat → Nat → Prop} {X : Nat → Prop} {R : List (Nat × D)}

def resVal (us : List Value) : Value := match us with
  | [u] => u
  | us => .tuple us.toArray

def rvOf : Nat × Option TypeId → ResultVar
  | (t, none) => .tmp t
  | (t, some ty) => .cell t ty

def readRes (tmps : Array Value) : ResultVar → Sem Value
  | .tmp t => pure (tmps.getD t undef)
  | .cell a t => do loadVar t (← asAddr (tmps.getD a undef))

theorem loadAt_spec {t : TypeId} {v u : Value} (h : (Instr.loadAt t v).run P w = .ok u w) : (do loadVar t (← asAddr v) : Sem Value).run P w = .ok u w := by
  unfold Instr.loadAt at h
  cases v with
  | pointer p =>
    cases p with
    | some A => simpa [Instr.sureAddr, asAddr] using h
    | none => simp [Instr.sureAddr] at h
  | _ => simp [Instr.sureAddr] at h

theorem resXs_sound {a : Act} (h : FR w0 L X0 w a.tmps fr rv fp) : ∀ {rs : List (Nat × Option TypeId)} {xs : List V}, resXs P fr rs = some xs →
    ∃ us, RepEs w (XX X0 fr.roots fp) fr.roots rv xs us ∧ (List.mapM (readRes a.tmps) (rs.map rvOf)).run P w = .ok us w
  | [], xs, he => by
    simp only [resXs] at he
    obtain rfl := Option.some.inj he
    exact ⟨[], by simp [RepEs], by simp⟩
  | (t, o) :: rs, xs, he => by
    simp only [resXs] at he
    split at he
    · rename_i x hx
      split at he
      · rename_i xs' hxs
        obtain rfl := Option.some.inj he
        obtain ⟨us, k1, k2⟩ := resXs_sound h hxs
        have hs := strip_sound (c := true) rfl (opV_sound h (.tmp t))
        have head : ∃ u, RepE w (XX X0 fr.roots fp) fr.roots rv x u ∧ (readRes a.tmps (rvOf (t, o))).run P w = .ok u w := by
          cases o with
          | none =>
            simp only [resX] at hx
            obtain rfl := Option.some.inj hx
            exact ⟨_, hs, by simp [readRes, rvOf, Act.eval]⟩
          | some ty =>
            simp only [resX] at hx
            obtain ⟨u, b1, b2⟩ := loadV_sound h hs hx
            exact ⟨u, b2, loadAt_spec (b1 w (Ext.refl w))⟩
        obtain ⟨u, c1, c2⟩ := head
        refine ⟨u :: us, by simp only [RepEs]; exact ⟨u, us, rfl, c1, k1⟩, ?_⟩
        simp only [List.map_cons, List.mapM_cons, Sem.run_bind, c2, Result.andThen_ok, k2, Sem.run_pure]
      · simp at he
    · simp at he

theorem results_run {fn : Func} {rs : List (Nat × Option TypeId)} (h : fn.results = (rs.map rvOf).toArray) {tmps : Array Value} {us : List Value} (key : (List.mapM (readRes tmps) (rs.map rvOf)).run P w = .ok us w) : (results fn tmps).run P w = .ok (resVal us) w := by
  unfold results
  rw [h]
  rw [List.mapM_toArray]
  simp only [Sem.run_bind, Sem.run_map]
  have key' : ∀ f : ResultVar → Sem Value, f = readRes tmps → (List.mapM f (rs.map rvOf)).run P w = .ok us w := fun f hf => hf ▸ key
  rw [key' _ (by funext r; cases r <;> rfl)]
  simp only [Result.andThen_ok, Sem.run_pure]
  cases us with
  | nil => rfl
  | cons r rs => cases rs with
    | nil => rfl
    | cons r' rs => simp [resVal]

theorem finD_sound {a : Act} (h : FR w0 L X0 w a.tmps fr rv fp) {rs : List (Nat × Option TypeId)} {d : D} {fr1 : Fr} (he : finD P fr rs = some (d, fr1)) :
    ∃ G fp1 us, (List.mapM (readRes a.tmps) (rs.map rvOf)).run P w = .ok us w ∧ RepV w (XX X0 fr.roots fp) d (resVal us) G ∧ FR w0 L (fun b => X0 b ∨ G b) w a.tmps fr1 rv fp1 ∧ (∀ b, G b → ¬ X0 b ∧ (L b ∨ w0.heap.size ≤ b) ∧ b < w.heap.size) ∧ XX (fun b => X0 b ∨ G b) fr1.roots fp1 = XX X0 fr.roots fp := by
  unfold finD at he
  split at he
  · rename_i xs hxs
    obtain ⟨us, hx, hrun⟩ := resXs_sound h hxs
    split at he
    · rename_i fl hfl
      split at he
      · rename_i ms fr1' q hm
        split at he
        · rename_i ds hds
          have hflv := ownCells_sound (by simp) hx hfl
          obtain ⟨φ, fp1, a1, a2, a3, a4, a5, a6, a7⟩ := moveAll_sound fl.length rfl h hflv (vs := []) (by simp [RepEs]) hm
          obtain ⟨ψ, k1, k2, k3, k4⟩ := asm_sound (R' := []) hx rfl a2 (by rw [a1]; exact a3) (by rw [a1, repEs_len hflv]) (fun i y u d hy hu hb _ => by
            exfalso
            have hi : i < xs.length := (List.getElem?_eq_some_iff.1 hy).1
            apply hb
            simp [hi]) hds
          have hG : ∀ b, AllF ds.length ψ b ↔ AllF fl.length φ b := fun b => by rw [k4, a1]
          have hfr : fr1' = fr1 ∧ RepV w (XX X0 fr.roots fp) d (resVal us) (AllF fl.length φ) := by
            split at he
            · rename_i d' _
              obtain ⟨rfl, rfl⟩ := by simpa using he
              refine ⟨rfl, ?_⟩
              obtain ⟨u, rfl⟩ : ∃ u, us = [u] := by
                simp only [List.length_cons, List.length_nil] at k1
                cases us with
                | nil => simp at k1
                | cons t l => cases l with
                  | nil => exact ⟨t, rfl⟩
                  | cons _ _ => simp at k1
              simp only [RepCs] at k2
              obtain ⟨⟨v, hv, hr⟩, _⟩ := k2
              have : v = u := by simpa using hv.symm
              subst this
              refine hr.congr fun b => ?_
              rw [← hG]
              exact ⟨fun hb => ⟨0, by simp, hb⟩, fun ⟨i, hi, hb⟩ => by simp at hi; subst hi; exact hb⟩
            · rename_i hne
              obtain ⟨rfl, rfl⟩ := by simpa using he
              refine ⟨rfl, ?_⟩
              have hv : resVal us = .tuple us.toArray := by
                cases us with
                | nil => rfl
                | cons t l => cases l with
                  | nil =>
                    exfalso
                    cases ds with
                    | nil => simp at k1
                    | cons d l => cases l with
                      | nil => exact hne d rfl
                      | cons _ _ => simp at k1
                  | cons _ _ => rfl
              rw [hv]
              simp only [RepV]
              exact ⟨_, ψ, rfl, by simp [k1], by simpa using k2, k3, fun b => (hG b).symm⟩
          obtain ⟨rfl, hrep⟩ := hfr
          exact ⟨_, fp1, us, hrun, hrep, a4, a5, a6⟩
        · simp at he
      · simp at he
    · simp at he
  · simp at he

theorem unwrap_row {Y : Nat → Prop} {e : D} {v : Value} {F : Nat → Prop} (h : RepV w Y (.agg [e]) (.agg #[v]) F) : RepV w Y e v F := by
  simp only [RepV] at h
  obtain ⟨vs, φ, hv, h2, h3, h4, h5⟩ := h
  obtain rfl : #[v] = vs := by simpa using hv
  simp only [RepCs] at h3
  obtain ⟨⟨v', hv', hr⟩, _⟩ := h3
  obtain rfl : v = v' := by simpa using hv'
  exact hr.congr fun b => by rw [h5]; exact ⟨fun hb => ⟨0, by simp, hb⟩, fun ⟨i, hi, hb⟩ => by simp at hi; subst hi; exact hb⟩

/-- What is left of the arguments. -/
theorem outsD_sound (h : FR w0 L X0 w tm fr rv fp) : ∀ (ds : List D) {i : Nat} {us : List Value} {outs : List D}, us.length = ds.length → (∀ (j : Nat) (d : D) (u : Value), ds[j]? = some d → us[j]? = some u → ArgOk rv fr.roots (i + j) d u) →
    (∀ (j : Nat) (d : D) (u : Value), ds[j]? = some d → us[j]? = some u → d.plain = true → RepV w (XX X0 fr.roots fp) d u E) → outsD fr i ds = some outs →
    ∃ χ, outs.length = ds.length ∧ RepCs w (XX X0 fr.roots fp) outs (fun j => us[j]?) 0 χ ∧ (∀ j b, j < ds.length → χ j b → ∃ d, look (100000 + (i + j)) fr.roots = some d ∧ fp (100000 + (i + j)) b)
  | [], i, us, outs, hl, hA, hP, he => by
    simp only [outsD] at he
    obtain rfl := Option.some.inj he
    exact ⟨fun _ => E, rfl, by simp [RepCs], fun j b hj => by simp at hj⟩
  | d :: ds, i, us, outs, hl, hA, hP, he => by
    obtain ⟨u, us, rfl⟩ := List.exists_cons_of_ne_nil (l := us) (by rintro rfl; simp at hl)
    simp only [outsD] at he
    split at he
    · rename_i o ho
      split at he
      · rename_i os hos
        obtain rfl := Option.some.inj he
        obtain ⟨χ, k1, k2, k3⟩ := outsD_sound h ds (i := i + 1) (us := us) (by simpa using hl) (fun j d' u' hj hu => by
            have := hA (j + 1) d' u' (by simpa using hj) (by simpa using hu)
            rwa [show i + (j + 1) = i + 1 + j by omega] at this) (fun j d' u' hj hu => hP (j + 1) d' u' (by simpa using hj) (by simpa using hu)) hos
        have head : ∃ F, RepV w (XX X0 fr.roots fp) o u F ∧ ∀ b, F b → ∃ d, look (100000 + i) fr.roots = some d ∧ fp (100000 + i) b := by
          unfold outD at ho
          split at ho
          · rename_i hp
            obtain rfl := Option.some.inj ho
            exact ⟨E, hP 0 d u rfl rfl hp, fun b hb => hb.elim⟩
          · rename_i hnp
            have hA0 := (hA 0 d u rfl rfl).resolve_left hnp
            simp only [Nat.add_zero] at hA0
            split at ho
            · rename_i r hr
              have hroot := h.root _ r hr
              rw [hA0] at hroot
              split at ho
              · split at ho
                · obtain rfl := Option.some.inj ho
                  exact ⟨_, unwrap_row hroot, fun b hb => ⟨_, hr, hb⟩⟩
                · simp at ho
              · simp at ho
              · rename_i hns hnt
                obtain rfl := Option.some.inj ho
                have : rootVal d u = u := by
                  unfold rootVal
                  split
                  · exact absurd rfl (hns _ _ _ _)
                  · rfl
                rw [this] at hroot
                exact ⟨_, hroot, fun b hb => ⟨_, hr, hb⟩⟩
            · simp at ho
        obtain ⟨F, hF1, hF2⟩ := head
        refine ⟨consF F χ, by simp [k1], ?_, fun j b hj hb => ?_⟩
        · simp only [RepCs]
          exact ⟨⟨u, rfl, hF1⟩, repCs_shift (cv := fun j => (u :: us)[j]?) (by simpa using k2) _⟩
        · cases j with
          | zero => exact hF2 b hb
          | succ j =>
            have := k3 j b (by simpa using hj) hb
            rwa [show i + 1 + j = i + (j + 1) by omega] at this
      · simp at he
    · simp at he

/-- A function of the program, in the machine's own form. -/
structure IsFn (P : Program) (own : FuncId → List Bool) (f : FuncId) (vc : Vc) (nt : Nat) (rs : List (Nat × Option TypeId)) : Prop where
  ex : ∃ A B fn c, P.funcs[f]? = some fn ∧ fn.body = some c ∧ conv own A B c = some vc ∧ fn.ntmps = nt ∧ fn.results = (rs.map rvOf).toArray ∧ (fn.name == "runtime.NumGoroutine") = false
  nt : nt ≤ 99999

def argsOk (nt : Nat) (ds : List D) : Bool := decide (ds.length ≤ nt) && ds.all fun d => match d with
  | .tup _ => false
  | _ => true

theorem callFn_sound {C : Cx} (hC : CSound P C) (hwide : P.follows .mixedOrders = true) {f : FuncId} {vc : Vc} {nt : Nat} {rs : List (Nat × Option TypeId)} (hf : IsFn P C.own f vc nt rs) : SoundFn P f (fun ds => if argsOk nt ds = true then callFn P C vc nt rs ds else none) := by
  intro w X ds vs φ d outs hl hr hD hX hXs he
  simp only at he
  split at he
  · rename_i hcond
    simp only [argsOk, Bool.and_eq_true, decide_eq_true_eq] at hcond
    obtain ⟨hlen, htup⟩ := hcond
    obtain ⟨A, B, fn, c, h1, h2, h3, h4, h5, h6⟩ := hf.ex
    unfold callFn at he
    split at he
    · rename_i fr hargs
      refine calls_of_wp h1 h2 ?_
      rw [h4]
      -- the frame at the start
      have h0 : FR w (AllF ds.length φ) (fun b => (X b ∧ ¬ AllF ds.length φ b) ∨ AllF ds.length φ b) w (vs.toArray ++ Array.replicate (nt - vs.toArray.size) undef) ⟨[], [], nt⟩ (fun _ => undef) (fun _ => E) := by
        refine ⟨rfl, rfl, rfl, Nat.le_refl _, fun b hb => ?_, fun _ _ _ => rfl, fun r d hd => by simp [look] at hd, fun r r' d d' b hd => by simp [look] at hd, fun r d b hd => by simp [look] at hd, fun r d b hd => by simp [look] at hd, fun t x hx => by simp [look] at hx, ?_⟩
        · rcases hb with hb | hb
          · exact hXs b hb.1
          · exact hXs b (hX b hb)
        · simp; omega
      have htup' : ∀ d ∈ ds, ∀ cs, d ≠ .tup cs := by
        intro d hd cs e
        have := List.all_eq_true.1 htup d hd
        subst e
        simp at this
      obtain ⟨rv, fp, a1, a2, a3, a4⟩ := argsFr_sound (w := w) ds (i := 0) (Xb := fun b => X b ∧ ¬ AllF ds.length φ b) (Z := X) (us := vs) (φ := φ) hl.symm htup' h0 (fun b hb => ⟨fun hx => hx.2 hb, .inl hb⟩) hD hr
        (fun b hb hx => by
          rcases hx with (hx | hx) | ⟨r, d, hd, _⟩
          · exact hx.1
          · exact hX b hx
          · simp [look] at hd)
        (fun j u hj => by
          have hj' : j < vs.length := (List.getElem?_eq_some_iff.1 hj).1
          simp only [Nat.zero_add]
          rw [Array.getD_eq_getD_getElem?, Array.getElem?_append_left (by simpa using hj')]
          simp [hj]) (by simpa using hlen) hargs
      split at he
      · simp at he
      · rename_i ex fr1 hne hvx
        split at he
        · rename_i d' fr2 hfin
          split at he
          · rename_i outs' houts
            obtain ⟨rfl, rfl⟩ := by simpa using he
            refine vx_sound hC hwide (fr' := fr1) c h3 (a := { tmps := vs.toArray ++ Array.replicate (nt - vs.toArray.size) undef, defers := [] }) a1 (by rw [a4]; exact hf.nt) hvx ?_
            rintro a' w' ⟨rv', fp', b1, b2, b3, b4⟩
            obtain ⟨G, fp2, us', hrun, c1, c2, c3, c4⟩ := finD_sound b1 hfin
            have hOk : ∀ (j : Nat) (d : D) (u : Value), ds[j]? = some d → vs[j]? = some u → ArgOk rv' fr2.roots (0 + j) d u := fun j d u hj hu => by
              rcases a2 j d u hj hu with hq | hq
              · exact .inl hq
              · right; rw [b4 _ (by omega)]; exact hq
            have hchg : Chg w w' (AllF ds.length φ) := ⟨c2.os, c2.tape, c2.output, c2.size, c2.keep⟩
            have hsubX : ∀ b, (X b ∧ ¬ AllF ds.length φ b) → XX (fun b => (X b ∧ ¬ AllF ds.length φ b) ∨ G b) fr2.roots fp2 b := fun b hb => .inl (.inl hb)
            obtain ⟨χ, k1, k2, k3⟩ := outsD_sound c2 ds (i := 0) (us := vs) hl.symm hOk (fun j d u hj hu hp => by
              rw [repCs_iff] at hr
              obtain ⟨v, hv, hrv⟩ := hr j d hj
              simp only [Nat.zero_add] at hv
              rw [hu] at hv; obtain rfl := Option.some.inj hv
              refine RepV.stay d ⟨fun b hb hx => hchg.keep b hb fun hf => ?_, fun b hb hx => ?_⟩ (plain_fp hrv hp)
              · rcases hx with hx | hx
                · exact hx
                · exact hx (hX b hf)
              · by_cases hx' : X b
                · exact hx'
                · exfalso
                  rcases hx with (hx | hx) | ⟨s, d', hs, hx⟩
                  · exact hx' hx.1
                  · rcases (c3 b hx).2.1 with hq | hq
                    · exact hx' (hX b hq)
                    · omega
                  · rcases c2.new s d' b hs hx with hq | hq
                    · exact hx' (hX b hq)
                    · omega) houts
            have hχ : ∀ b, AllF outs'.length χ b → ∃ s d, look s fr2.roots = some d ∧ fp2 s b := fun b ⟨j, hj, hb⟩ => by
              obtain ⟨d, hd, hb⟩ := k3 j b (by omega) hb
              exact ⟨_, d, hd, hb⟩
            have hXX : ∀ b, ((X b ∧ ¬ AllF ds.length φ b) ∨ G b ∨ AllF outs'.length χ b) → XX (fun b => (X b ∧ ¬ AllF ds.length φ b) ∨ G b) fr2.roots fp2 b := by
              rintro b (hb | hb | hb)
              · exact hsubX b hb
              · exact .inl (.inr hb)
              · exact .inr (hχ b hb)
            have hpost : a'.defers = [] ∧ ∃ v, (results fn a'.tmps).run P w' = .ok v w' ∧ ∃ v' G χ, Ending.returned v = .returned v' ∧ outs'.length = ds.length ∧ Chg w w' (AllF ds.length φ) ∧
                RepV w' (fun b => (X b ∧ ¬ AllF ds.length φ b) ∨ G b ∨ AllF outs'.length χ b) d' v' G ∧ RepCs w' (fun b => (X b ∧ ¬ AllF ds.length φ b) ∨ G b ∨ AllF outs'.length χ b) outs' (fun j => vs[j]?) 0 χ ∧ Disj outs'.length χ ∧
                (∀ b, G b → ¬ AllF outs'.length χ b) ∧ ∀ b, G b ∨ AllF outs'.length χ b → AllF ds.length φ b ∨ w.heap.size ≤ b := by
              refine ⟨b2, _, results_run h5 hrun, _, G, χ, rfl, k1, hchg, ?_, ?_, ?_, ?_, ?_⟩
              · refine RepV.stay d' ⟨fun _ _ _ => rfl, fun b _ hb => ?_⟩ c1
                rw [← c4]; exact hXX b hb
              · exact RepCs.stay outs' (fun i hi => ⟨fun _ _ _ => rfl, fun b _ hb => hXX b hb⟩) k2
              · intro i j b hi hj hb hb'
                obtain ⟨d1, q1, q2⟩ := k3 i b (by omega) hb
                obtain ⟨d2, q3, q4⟩ := k3 j b (by omega) hb'
                have := c2.sep _ _ d1 d2 b q1 q3 q2 q4
                omega
              · intro b hb hb'
                obtain ⟨s, d, q1, q2⟩ := hχ b hb'
                exact c2.out s d b q1 q2 (.inr hb)
              · rintro b (hb | hb)
                · exact (c3 b hb).2.1
                · obtain ⟨s, d, q1, q2⟩ := hχ b hb
                  exact c2.new s d b q1 q2
            cases ex with
            | normal => exact hpost
            | ret => exact hpost
            | exit id => exact (hne id rfl).elim
          · simp at he
        · simp at he
      · simp at he
    · simp at he
  · simp at he
end
end Go.Proofs.Ytgnohnlpicmnaaa.Vm
set_option linter.unusedSimpArgs false
set_option linter.unusedVariables false
namespace Go.Proofs.Ytgnohnlpicmnaaa.Vm
open Go

/-- The functions of a program, in the machine's own form. -/
structure Tab where
  own : FuncId → List Bool
  pur : FuncId → Bool
  fn : FuncId → Option (Vc × Nat × List (Nat × Option TypeId))
  ext : FuncId → Option (List D → Option (D × List D))

/-- What a function yields, its calls carried out to a depth. -/
noncomputable def lev (P : Program) (T : Tab) : Nat → FuncId → List D → Option (D × List D)
  | 0, _, _ => none
  | n + 1, f, ds => match T.ext f with
    | some F => F ds
    | none => match T.fn f with
      | some (vc, nt, rs) => if argsOk nt ds = true then callFn P ⟨T.own, T.pur, lev P T n⟩ vc nt rs ds else none
      | none => none

structure TabOk (P : Program) (T : Tab) : Prop where
  wide : P.follows .mixedOrders = true
  fn : ∀ f vc nt rs, T.fn f = some (vc, nt, rs) → IsFn P T.own f vc nt rs
  ext : ∀ f F, T.ext f = some F → SoundFn P f F ∧ okFn P f

theorem lev_sound {P : Program} {T : Tab} (hT : TabOk P T) : ∀ n, CSound P ⟨T.own, T.pur, lev P T n⟩
  | 0 => ⟨fun f ds r h => by simp [lev] at h, fun f w X ds vs φ d outs _ _ _ _ _ h => by simp [lev] at h⟩
  | n + 1 => by
    have ih := lev_sound hT n
    refine ⟨fun f ds r h => ?_, fun f => ?_⟩
    · simp only [lev] at h
      split at h
      · rename_i F hF; exact (hT.ext f F hF).2
      · split at h
        · rename_i vc nt rs hf
          have hA := hT.fn f vc nt rs hf
          obtain ⟨A, B, fn, c, h1, h2, h3, h4, h5, h6⟩ := hA.ex
          exact ⟨fn, h1, by simp [h2], h6⟩
        · simp at h
    · intro w X ds vs φ d outs hl hr hD hX hXs h
      simp only [lev] at h
      split at h
      · rename_i F hF; exact (hT.ext f F hF).1 w X ds vs φ d outs hl hr hD hX hXs h
      · split at h
        · rename_i vc nt rs hf
          have hA := hT.fn f vc nt rs hf
          split at h
          · rename_i hok
            exact callFn_sound ih hT.wide hA w X ds vs φ d outs hl hr hD hX hXs (by simp only; rw [if_pos hok]; exact h)
          · simp at h
        · simp at h
end Go.Proofs.Ytgnohnlpicmnaaa.Vm
set_option linter.unusedSimpArgs false
set_option linter.unusedVariables false
namespace Go.Proofs.Ytgnohnlpicmnaaa.Vm
open Go

/-- What one round comes to: a new state, or the loop's end. -/
inductive Rd (σ : Type) where
  | on (s : σ)
  | off (r : Ex × Fr)

def runL {σ α : Type} (step : σ → α → Rd σ) (fin : σ → Ex × Fr) : σ → List α → Ex × Fr
  | s, [] => fin s
  | s, x :: l => match step s x with
    | .on s' => runL step fin s' l
    | .off r => r

/-- A loop that goes through a list. -/
theorem vloop_list {σ α : Type} {g : Fr → Option (Ex × Fr)} (frame : Nat → σ → Fr) (xs : List α) (step : σ → α → Rd σ) (fin : σ → Ex × Fr) (I : Nat → σ → Prop)
    (hstep : ∀ (k : Nat) (s : σ) (h : k < xs.length), I k s → (∀ s', step s xs[k] = .on s' → g (frame k s) = some (.normal, frame (k + 1) s') ∧ I (k + 1) s') ∧ (∀ r, step s xs[k] = .off r → g (frame k s) = some r ∧ r.1 ≠ .normal))
    (hend : ∀ s, I xs.length s → g (frame xs.length s) = some (fin s) ∧ (fin s).1 ≠ .normal) :
    ∀ (m k : Nat) (s : σ), k + m = xs.length → I k s → vloop g (frame k s) = some (runL step fin s (xs.drop k)) := by
  have stop : ∀ {fr : Fr} {r : Ex × Fr}, g fr = some r → r.1 ≠ .normal → vloop g fr = some r := by
    intro fr r h hn
    rw [vloop_eq, h]
    obtain ⟨e, f⟩ := r
    cases e with
    | normal => exact absurd rfl hn
    | exit id => rfl
    | ret => rfl
  intro m
  induction m with
  | zero =>
    intro k s hk hI
    have hk' : k = xs.length := by omega
    subst hk'
    obtain ⟨h1, h2⟩ := hend s hI
    rw [List.drop_length]
    exact stop h1 h2
  | succ m ih =>
    intro k s hk hI
    have hlt : k < xs.length := by omega
    rw [List.drop_eq_getElem_cons hlt]
    obtain ⟨h1, h2⟩ := hstep k s hlt hI
    simp only [runL]
    cases hs : step s xs[k] with
    | on s' =>
      obtain ⟨a1, a2⟩ := h1 s' hs
      rw [vloop_eq, a1]
      exact ih (k + 1) s' (by omega) a2
    | off r =>
      obtain ⟨a1, a2⟩ := h2 r hs
      exact stop a1 a2

theorem rd_off {σ : Type} {A : Rd σ} {r0 : Ex × Fr} {p : σ → Prop} {q : Ex × Fr → Prop} (h : A = .off r0) (hq : q r0) : (∀ s, A = .on s → p s) ∧ ∀ r, A = .off r → q r :=
  ⟨fun s hs => (by rw [h] at hs; cases hs), fun r hr => (by rw [h] at hr; cases hr; exact hq)⟩
theorem rd_on {σ : Type} {A : Rd σ} {s0 : σ} {p : σ → Prop} {q : Ex × Fr → Prop} (h : A = .on s0) (hp : p s0) : (∀ s, A = .on s → p s) ∧ ∀ r, A = .off r → q r :=
  ⟨fun s hs => (by rw [h] at hs; cases hs; exact hp), fun r hr => (by rw [h] at hr; cases hr)⟩
end Go.Proofs.Ytgnohnlpicmnaaa.Vm
