/- Part of a machine that runs a Go function on plain values, with the proof that what it yields is what the function yields. -/
import Derived.Test.YtpbonfgmiffomaaWmB
import Derived.LoopN
import Derived.ChangeArms
import Derived.WideShapes
import Derived.Shelf.Spec.SlicesGrow
import Derived.Shelf.Spec.SlicesInsertGrow
import Derived.Shelf.SlGeneric
set_option linter.unusedSimpArgs false
set_option linter.unusedVariables false
namespace Go.Proofs.Ytpbonfgmiffomaa.Wm
open Go
inductive Vc where
  | skip
  | region (main : List Vop) (alts : List (List Vop)) (h : Option Hint)
  | seq (a b : Vc)
  | cond (c : Od) (ha hb : Option Hint) (a b : Vc)
  | condJ (c : Od) (ha hb : Option Hint) (a b y : Vc)
  | block (id : Nat) (c : Vc)
  | loop (c : Vc)
  | exit (id : Nat)
  | ret
inductive Ex where
  | normal
  | exit (id : Nat)
  | ret
def Ex.to : Ex → Exit
  | .normal => .normal
  | .exit id => .exit id
  | .ret => .ret
def iter (g : Fr → Option (Ex × Fr)) : Nat → Fr → Option (Ex × Fr)
  | 0, _ => none
  | n + 1, fr => match g fr with
    | some (.normal, fr1) => iter g n fr1
    | r => r
theorem iter_more {g : Fr → Option (Ex × Fr)} : ∀ {n : Nat} {fr : Fr} {r : Ex × Fr}, iter g n fr = some r → iter g (n + 1) fr = some r
  | 0, fr, r, h => by simp [iter] at h
  | n + 1, fr, r, h => by
    rw [iter] at h ⊢
    split at h
    · rename_i fr1 hg
      exact iter_more h
    · rename_i hg
      exact h
theorem iter_le {g : Fr → Option (Ex × Fr)} {n m : Nat} {fr : Fr} {r : Ex × Fr} (hnm : n ≤ m) (h : iter g n fr = some r) : iter g m fr = some r := by
  induction hnm with
  | refl => exact h
  | step _ ih => exact iter_more ih
open Classical in
noncomputable def vloop (g : Fr → Option (Ex × Fr)) (fr : Fr) : Option (Ex × Fr) :=
  if h : ∃ n r, iter g n fr = some r then iter g h.choose fr else none
theorem vloop_iff {g : Fr → Option (Ex × Fr)} {fr : Fr} {r : Ex × Fr} : vloop g fr = some r ↔ ∃ n, iter g n fr = some r := by
  unfold vloop
  constructor
  · intro h
    split at h
    · rename_i hh; exact ⟨_, h⟩
    · simp at h
  · rintro ⟨n, hn⟩
    have hh : ∃ n r, iter g n fr = some r := ⟨n, r, hn⟩
    rw [dif_pos hh]
    obtain ⟨r', hr'⟩ := hh.choose_spec
    rw [hr']
    have a1 := iter_le (Nat.le_max_left n hh.choose) hn
    have a2 := iter_le (Nat.le_max_right n hh.choose) hr'
    rw [a1] at a2
    exact a2.symm
open Classical in
noncomputable def altsOk (C : Cx) (fr : Fr) (h : Option Hint) (fr2 : Fr) : List (List Vop) → Option (Ex × Fr)
  | [] => some (.normal, fr2)
  | alts => if ∀ l ∈ alts, ∃ fr3, steps C fr l = some fr3 ∧ tidyO h fr3 = some fr2 then some (.normal, fr2) else none
noncomputable def bothE (r1 r2 : Option (Ex × Fr)) : Option (Ex × Fr) := open Classical in if r1 = r2 then r1 else none
def seqE (g : Fr → Option (Ex × Fr)) : Option (Ex × Fr) → Option (Ex × Fr)
  | some (.normal, fr1) => g fr1
  | r => r
noncomputable def vx (C : Cx) : Vc → Fr → Option (Ex × Fr)
  | .skip, fr => some (.normal, fr)
  | .region main alts h, fr => match steps C fr main with
    | some fr1 => match tidyO h fr1 with
      | some fr2 => altsOk C fr h fr2 alts
      | none => none
    | none => none
  | .seq a b, fr => match vx C a fr with
    | some (.normal, fr1) => vx C b fr1
    | r => r
  | .cond c ha hb a b, fr => match oval C.gl fr.env c with
    | .val (.bool t) => if t = true then (tidyO ha fr).bind (fun fr1 => vx C a fr1) else (tidyO hb fr).bind (fun fr1 => vx C b fr1)
    | _ => none
  | .condJ c ha hb a b y, fr => match oval C.gl fr.env c with
    | .val (.bool t) => if t = true then (tidyO ha fr).bind (fun fr1 => seqE (vx C y) (vx C a fr1)) else (tidyO hb fr).bind (fun fr1 => seqE (vx C y) (vx C b fr1))
    | .anyb => bothE ((tidyO ha fr).bind (fun fr1 => seqE (vx C y) (vx C a fr1))) ((tidyO hb fr).bind (fun fr1 => seqE (vx C y) (vx C b fr1)))
    | _ => none
  | .block id c, fr => match vx C c fr with
    | some (.exit j, fr1) => if j = id then some (.normal, fr1) else some (.exit j, fr1)
    | r => r
  | .loop c, fr => vloop (vx C c) fr
  | .exit id, fr => some (.exit id, fr)
  | .ret, fr => some (.ret, fr)
def shI : I → I
  | .ld s x => .lds s x
  | i => i
def ownI (own : List Nat) (k : Nat) (i : I) : I := if inN k own = true then .own i else if inN (k + 1000) own = true then shI i else if inN (k + 2000) own = true then .own (.own i) else i
def ownsOf : Option Hint → List Nat
  | some h => h.own
  | none => []
def convOps (P : Program) (ops : Array Oper) (own : List Nat) : Nat → List Oper → Option (List Vop)
  | _, [] => some []
  | k, o :: l => match convOps P ops own (k + 1) l with
    | some r => match conv1 P o with
      | some i => match o.guard with
        | none => some (⟨o.dst, ownI own k i, none⟩ :: r)
        | some (j, want) => match (ops[j]?).bind (·.dst) with
          | some t => some (⟨o.dst, ownI own k i, some (t, want)⟩ :: r)
          | none => none
      | none => none
    | none => none
def pickL (l : List Vop) : List Nat → Option (List Vop)
  | [] => some []
  | i :: is => match l[i]? with
    | some v => match pickL l is with
      | some r => some (v :: r)
      | none => none
    | none => none
def pickLs (l : List Vop) : List (List Nat) → Option (List (List Vop))
  | [] => some []
  | i :: is => match pickL l i with
    | some v => match pickLs l is with
      | some r => some (v :: r)
      | none => none
    | none => none
def condT : Operand → Nat
  | .tmp t => t
  | _ => 0
def joinV (A : Nat → Option Hint) : Vc → Vc → Vc
  | .seq r (.cond (.tmp t) ha hb a b), y => if (A (900000000 + t)).isSome = true then .seq r (.condJ (.tmp t) ha hb a b y) else .seq (.seq r (.cond (.tmp t) ha hb a b)) y
  | x, y => .seq x y
def conv (P : Program) (own : FuncId → List Nat) (A A1 A2 : Nat → Option Hint) (B : Nat → Tr) : Code → Option Vc
  | .skip => some .skip
  | .region id ops draw => match convOps P ops (ownsOf (A id)) 0 ops.toList with
    | some l => if draw = true then (match pickLs l (B id).paths with
        | some (m :: r) => if (Region.noSelect ops && !(B id).isL && okT own ops l ops.size (Array.replicate ops.size false) (B id)) = true then some (.region m r (A id)) else none
        | _ => none) else some (.region l [] (A id))
    | none => none
  | .seq a b => match conv P own A A1 A2 B a with
    | some x => match conv P own A A1 A2 B b with
      | some y => some (joinV A x y)
      | none => none
    | none => none
  | .cond c0 a b => match od P 0 c0, conv P own A A1 A2 B a with
    | some c, some x => match conv P own A A1 A2 B b with
      | some y => some (.cond c (A1 (condT c0)) (A2 (condT c0)) x y)
      | none => none
    | _, _ => none
  | .block id c => match conv P own A A1 A2 B c with
    | some x => some (.block id x)
    | none => none
  | .loop c => match conv P own A A1 A2 B c with
    | some x => some (.loop x)
    | none => none
  | .exit id => some (.exit id)
  | .ret => some .ret
  | _ => none
section
variable {P : Program} {G : Nat → Option (List D)} {w0 : World} {L X0 X1 : Nat → Prop} {w w' w2 : World} {tm : Array Value} {fr : Fr} {ρ ρ' : Place} {X : K → Nat → Prop} {H : Heap}
theorem vloop_eq (g : Fr → Option (Ex × Fr)) (fr : Fr) : vloop g fr = match g fr with
    | some (.normal, fr1) => vloop g fr1
    | r => r := by
  apply Option.ext
  intro r
  rw [vloop_iff]
  constructor
  · rintro ⟨n, hn⟩
    cases n with
    | zero => simp [iter] at hn
    | succ n =>
      rw [iter] at hn
      split at hn
      · rename_i fr1 hg
        exact vloop_iff.2 ⟨n, hn⟩
      · rename_i hg
        exact hn
  · intro h
    split at h
    · rename_i fr1 hg
      obtain ⟨n, hn⟩ := vloop_iff.1 h
      exact ⟨n + 1, by rw [iter, hg]; exact hn⟩
    · rename_i hg
      refine ⟨1, ?_⟩
      rw [iter]
      split
      · rename_i fr1 h1; exact absurd h1 (hg _)
      · exact h
theorem pickL_spec {C : Cx} {l : List Vop} : ∀ {is : List Nat} {r : List Vop} {fr : Fr}, pickL l is = some r → stepsI C l fr is = steps C fr r
  | [], r, fr, h => by
    simp only [pickL] at h
    obtain rfl := Option.some.inj h
    rfl
  | i :: is, r, fr, h => by
    simp only [pickL] at h
    split at h
    · rename_i v hv
      split at h
      · rename_i r' hr
        obtain rfl := Option.some.inj h
        simp only [stepsI, hv, steps]
        cases stepO C fr v with
        | none => rfl
        | some fr1 => exact pickL_spec hr
      · simp at h
    · simp at h
theorem pickLs_spec {l : List Vop} : ∀ {ps : List (List Nat)} {r : List (List Vop)}, pickLs l ps = some r → ∀ p ∈ ps, ∃ q ∈ r, pickL l p = some q
  | [], r, h => by simp
  | p :: ps, r, h => by
    simp only [pickLs] at h
    split at h
    · rename_i v hv
      split at h
      · rename_i r' hr
        obtain rfl := Option.some.inj h
        intro q hq
        rcases List.mem_cons.1 hq with rfl | hq
        · exact ⟨v, by simp, hv⟩
        · obtain ⟨q', h1, h2⟩ := pickLs_spec hr q hq
          exact ⟨q', by simp [h1], h2⟩
      · simp at h
    · simp at h
theorem ownI_base {own : List Nat} {k : Nat} {o : Oper} {i : I} (h : conv1 P o = some i) : conv1 P o = some (ownI own k i).base := by
  unfold ownI
  split
  · rw [h]; cases i <;> first | rfl | exact (conv1_own h).elim | exact (conv1_lds h).elim
  · split
    · rw [h]; cases i <;> first | rfl | exact (conv1_own h).elim | exact (conv1_lds h).elim
    · split
      · exact h
      · rw [h]; cases i <;> first | rfl | exact (conv1_own h).elim | exact (conv1_lds h).elim
theorem convOps_spec {ops : Array Oper} {own : List Nat} : ∀ {l : List Oper} {k : Nat} {vs : List Vop}, convOps P ops own k l = some vs → vs.length = l.length ∧ ∀ (j : Nat) (o : Oper), l[j]? = some o → ∃ v, vs[j]? = some v ∧ vopOf P ops o v
  | [], k, vs, h => by
    simp only [convOps] at h
    obtain rfl := Option.some.inj h
    exact ⟨rfl, fun j v hj => by simp at hj⟩
  | o :: l, k, vs, h => by
    simp only [convOps] at h
    split at h
    · rename_i r hr
      obtain ⟨k1, k2⟩ := convOps_spec hr
      have fin : ∀ v0 : Vop, vopOf P ops o v0 → (v0 :: r).length = (o :: l).length ∧ ∀ (j : Nat) (o' : Oper), (o :: l)[j]? = some o' → ∃ v, (v0 :: r)[j]? = some v ∧ vopOf P ops o' v := by
        intro v0 h0
        refine ⟨by simp [k1], fun j o' hj => ?_⟩
        cases j with
        | zero => simp at hj; subst hj; exact ⟨v0, rfl, h0⟩
        | succ j => exact k2 j o' (by simpa using hj)
      split at h
      · rename_i i hi
        split at h
        · rename_i hg
          obtain rfl := Option.some.inj h
          exact fin _ ⟨rfl, ownI_base hi, .inl ⟨hg, rfl⟩⟩
        · rename_i j want hg
          split at h
          · rename_i t ht
            obtain rfl := Option.some.inj h
            exact fin _ ⟨rfl, ownI_base hi, .inr ⟨j, want, t, hg, ht, rfl⟩⟩
          · simp at h
      · simp at h
    · simp at h
theorem steps_sound {C : Cx} (hC : CSound P C) (hG : C.gl = G) {ops : Array Oper} {Q : Exit → Act → World → Prop} : ∀ (l : List Vop) (k : Nat) {w : World} {a : Act} {fr : Fr} {ρ : Place} {fr' : Fr}, (∀ (j : Nat) (v : Vop), l[j]? = some v → ∃ o, ops[k + j]? = some o ∧ vopOf P ops o v) →
    FR G w0 L X0 w a.tmps fr ρ → fr.nt ≤ 99999 → steps C fr l = some fr' → (∀ a' w', After G w0 L X0 a a' w' fr.heap ρ fr' → Q .normal a' w') → wpOps P ops Q (List.range' k l.length) a w
  | [], k, w, a, fr, ρ, fr', hl, h, hnt, he, hQ => by
    simp only [steps] at he
    obtain rfl := Option.some.inj he
    simp only [List.length_nil, List.range'_zero, wpOps]
    exact hQ _ _ (After.start h)
  | v :: l, k, w, a, fr, ρ, fr', hl, h, hnt, he, hQ => by
    simp only [steps] at he
    split at he
    · rename_i fr1 h1
      obtain ⟨o, ho, hv⟩ := hl 0 v rfl
      simp only [List.length_cons, List.range'_succ]
      rw [wpOps_cons]
      refine stepO_sound hC hG h hnt ho hv h1 fun a' w' ⟨ρ1, b1, b2, b3, b4, _⟩ _ => ?_
      refine steps_sound hC hG l (k + 1) (fun j v' hj => ?_) b1 (by rw [← b1.nt, b3, h.nt]; exact hnt) he fun a2 w2 h2 => hQ _ _ (h2.trans ⟨b2, b3, b4⟩)
      obtain ⟨o', ho', hv'⟩ := hl (j + 1) v' (by simpa using hj)
      exact ⟨o', by rw [show k + 1 + j = k + (j + 1) by omega]; exact ho', hv'⟩
    · simp at he
theorem After.tidy {a a' : Act} {w1 : World} {H0 : Heap} {ρ0 : Place} {fr1 fr2 : Fr} {hi : Option Hint} (h : After G w0 L X0 a a' w1 H0 ρ0 fr1) (ht : tidyO hi fr1 = some fr2) : After G w0 L X0 a a' w1 H0 ρ0 fr2 := by
  obtain ⟨ρ1, b1, b2, b3, b4⟩ := h
  obtain ⟨ρ2, c1, c2⟩ := tidy_sound b1 ht
  exact ⟨ρ2, c1, b2, b3, b4.trans c2⟩
theorem altsOk_spec {C : Cx} {h : Option Hint} {fr2 : Fr} {alts : List (List Vop)} {r : Ex × Fr} (he : altsOk C fr h fr2 alts = some r) : r = (.normal, fr2) ∧ ∀ l ∈ alts, ∃ fr3, steps C fr l = some fr3 ∧ tidyO h fr3 = some fr2 := by
  unfold altsOk at he
  split at he
  · exact ⟨(Option.some.inj he).symm, by simp⟩
  · split at he
    · rename_i hh; exact ⟨(Option.some.inj he).symm, hh⟩
    · simp at he
def CodeOk (P : Program) (G : Nat → Option (List D)) (w0 : World) (L X0 : Nat → Prop) (C : Cx) (A A1 A2 : Nat → Option Hint) (B : Nat → Tr) (c : Code) : Prop := ∀ ⦃vc : Vc⦄ ⦃Q : Exit → Act → World → Prop⦄ ⦃w : World⦄ ⦃a : Act⦄ ⦃fr : Fr⦄ ⦃ρ : Place⦄ ⦃ex : Ex⦄ ⦃fr' : Fr⦄, conv P C.own A A1 A2 B c = some vc →
    FR G w0 L X0 w a.tmps fr ρ → fr.nt ≤ 99999 → vx C vc fr = some (ex, fr') → (∀ a' w', After G w0 L X0 a a' w' fr.heap ρ fr' → Q ex.to a' w') → c.wp P Q a w
theorem conv_cond {own : FuncId → List Nat} {A A1 A2 : Nat → Option Hint} {B : Nat → Tr} {c : Code} {o : Od} {ha hb : Option Hint} {xa xb : Vc} (h : conv P own A A1 A2 B c = some (.cond o ha hb xa xb)) :
    ∃ c0 a b, c = .cond c0 a b ∧ od P 0 c0 = some o ∧ ha = A1 (condT c0) ∧ hb = A2 (condT c0) ∧ conv P own A A1 A2 B a = some xa ∧ conv P own A A1 A2 B b = some xb := by
  cases c with
  | cond c0 a b =>
    simp only [conv] at h
    split at h
    · rename_i c' x' h1 h2
      split at h
      · rename_i y' h3
        simp only [Option.some.injEq, Vc.cond.injEq] at h
        obtain ⟨rfl, rfl, rfl, rfl, rfl⟩ := h
        exact ⟨c0, a, b, rfl, h1, rfl, rfl, h2, h3⟩
      · simp at h
    · simp at h
  | seq x y =>
    simp only [conv] at h
    split at h
    · split at h
      · simp only [Option.some.injEq] at h
        unfold joinV at h
        split at h
        · split at h <;> simp at h
        · simp at h
      · simp at h
    · simp at h
  | region id ops draw =>
    simp only [conv] at h
    split at h
    · split at h
      · split at h
        · split at h <;> simp at h
        · simp at h
      · simp at h
    · simp at h
  | block id c => simp only [conv] at h; split at h <;> simp at h
  | loop c => simp only [conv] at h; split at h <;> simp at h
  | _ => simp [conv] at h
theorem conv_seq {own : FuncId → List Nat} {A A1 A2 : Nat → Option Hint} {B : Nat → Tr} {c : Code} {r : Vc} {o : Od} {ha hb : Option Hint} {xa xb : Vc} (h : conv P own A A1 A2 B c = some (.seq r (.cond o ha hb xa xb))) :
    ∃ x1 c0 a b, c = .seq x1 (.cond c0 a b) ∧ conv P own A A1 A2 B x1 = some r ∧ od P 0 c0 = some o ∧ ha = A1 (condT c0) ∧ hb = A2 (condT c0) ∧ conv P own A A1 A2 B a = some xa ∧ conv P own A A1 A2 B b = some xb := by
  cases c with
  | cond c0 a b =>
    simp only [conv] at h
    split at h
    · split at h <;> simp at h
    · simp at h
  | seq x y =>
    simp only [conv] at h
    split at h
    · rename_i vx' hx
      split at h
      · rename_i vy hy
        simp only [Option.some.injEq] at h
        have : vx' = r ∧ vy = .cond o ha hb xa xb := by
          unfold joinV at h
          split at h
          · split at h <;> simp at h
            exact ⟨h.1, h.2⟩
          · simpa using h
        obtain ⟨rfl, rfl⟩ := this
        obtain ⟨c0, a, b, rfl, q1, q2, q3, q4, q5⟩ := conv_cond hy
        exact ⟨x, c0, a, b, rfl, hx, q1, q2, q3, q4, q5⟩
      · simp at h
    · simp at h
  | region id ops draw =>
    simp only [conv] at h
    split at h
    · split at h
      · split at h
        · split at h <;> simp at h
        · simp at h
      · simp at h
    · simp at h
  | block id c => simp only [conv] at h; split at h <;> simp at h
  | loop c => simp only [conv] at h; split at h <;> simp at h
  | _ => simp [conv] at h
theorem vx_sound_all {C : Cx} (hC : CSound P C) (hG : C.gl = G) (hwide : P.follows .mixedOrders = true) {A A1 A2 : Nat → Option Hint} {B : Nat → Tr} : ∀ (c : Code),
    CodeOk P G w0 L X0 C A A1 A2 B c ∧ (∀ c0 x y, c = .cond c0 x y → CodeOk P G w0 L X0 C A A1 A2 B x ∧ CodeOk P G w0 L X0 C A A1 A2 B y) ∧
      ∀ z c0 x y, c = .seq z (.cond c0 x y) → CodeOk P G w0 L X0 C A A1 A2 B z ∧ CodeOk P G w0 L X0 C A A1 A2 B x ∧ CodeOk P G w0 L X0 C A A1 A2 B y := by
  intro c
  induction c with
  | skip =>
    refine ⟨?_, fun c0 x y e => (by cases e), fun z c0 x y e => by cases e⟩
    intro vc Q w a fr ρ ex fr' hc h hnt he hQ
    simp only [conv] at hc; obtain rfl := Option.some.inj hc
    simp only [vx] at he
    obtain ⟨rfl, rfl⟩ := by simpa using he
    exact wp_skip (hQ _ _ (After.start h))
  | exit id =>
    refine ⟨?_, fun c0 x y e => (by cases e), fun z c0 x y e => by cases e⟩
    intro vc Q w a fr ρ ex fr' hc h hnt he hQ
    simp only [conv] at hc; obtain rfl := Option.some.inj hc
    simp only [vx] at he
    obtain ⟨rfl, rfl⟩ := by simpa using he
    exact wp_exit (hQ _ _ (After.start h))
  | ret =>
    refine ⟨?_, fun c0 x y e => (by cases e), fun z c0 x y e => by cases e⟩
    intro vc Q w a fr ρ ex fr' hc h hnt he hQ
    simp only [conv] at hc; obtain rfl := Option.some.inj hc
    simp only [vx] at he
    obtain ⟨rfl, rfl⟩ := by simpa using he
    exact wp_ret (hQ _ _ (After.start h))
  | region id ops draw =>
    refine ⟨?_, fun c0 x y e => (by cases e), fun z c0 x y e => by cases e⟩
    intro vc Q w a fr ρ ex fr' hc h hnt he hQ
    simp only [conv] at hc
    split at hc
    · rename_i l hl
      obtain ⟨k1, k2⟩ := convOps_spec hl
      split at hc
      · rename_i hd
        subst hd
        split at hc
        · rename_i m r hl'
          split at hc
          · rename_i hok
            obtain rfl := Option.some.inj hc
            simp only [Bool.and_eq_true, Bool.not_eq_true'] at hok
            obtain ⟨⟨hsel, hnl⟩, hdr⟩ := hok
            simp only [vx] at he
            split at he
            · rename_i fr1 hs
              split at he
              · rename_i fr2 ht
                obtain ⟨hr, halts⟩ := altsOk_spec he
                obtain ⟨rfl, rfl⟩ := by simpa using hr
                obtain ⟨f1, _, _⟩ := h.turn (w' := { w with drawn := w.drawn + 1 }) (M := E) ⟨rfl, rfl, rfl, Nat.le_refl _, fun _ _ _ => rfl, fun _ _ h => h⟩ (fun b hb => hb.elim) (fun b hb => hb.elim)
                obtain ⟨f2, _⟩ := f1.less (X1 := X0) (fun b hb => .inl hb)
                have hm := tree_sound hC hG (ops := ops) (vs := l) (fun i o ho => k2 i o (by simpa using ho)) hsel (R := fun a' w' => Q .normal a' w') (B id) ops.size (listed := Array.replicate ops.size false) (W := fun _ _ => True) (by simp) hdr f2 hnt ⟨fun _ _ => trivial, fun _ _ => trivial⟩ (fun p hp => by
                    obtain ⟨q, hq, hpq⟩ := pickLs_spec hl' p hp
                    have : ∃ fr3, steps C fr q = some fr3 ∧ tidyO (A id) fr3 = some fr' := by
                      rcases List.mem_cons.1 hq with rfl | hq
                      · exact ⟨fr1, hs, ht⟩
                      · exact halts q hq
                    obtain ⟨fr3, t1, t2⟩ := this
                    exact ⟨fr3, by rw [pickL_spec hpq]; exact t1, fun a' w' hA => hQ a' w' (hA.tidy t2)⟩)
                simp only [TrSem, hnl, Bool.false_eq_true, if_false] at hm
                refine wp_mono (wp_region_any hwide (wpAny_of_M _ _ _ _ hm)) ?_
                rintro e a' w' ⟨rfl, hr⟩
                exact hr
              · simp at he
            · simp at he
          · simp at hc
        · simp at hc
      · rename_i hd
        have hd' : draw = false := by simpa using hd
        subst hd'
        obtain rfl := Option.some.inj hc
        simp only [vx] at he
        split at he
        · rename_i fr1 hs
          split at he
          · rename_i fr2 ht
            obtain ⟨hr, _⟩ := altsOk_spec he
            obtain ⟨rfl, rfl⟩ := by simpa using hr
            have := steps_sound hC hG (Q := Q) (ops := ops) l 0 (fun j v hj => by
              have hlt : j < ops.toList.length := by rw [← k1]; exact (List.getElem?_eq_some_iff.1 hj).1
              obtain ⟨v', q1, q2⟩ := k2 j ops.toList[j] (List.getElem?_eq_getElem hlt)
              rw [hj] at q1
              obtain rfl := Option.some.inj q1
              exact ⟨_, by simp, q2⟩) h hnt hs (fun a' w' hA => hQ a' w' (hA.tidy ht))
            refine wp_region ?_
            rw [k1] at this
            simpa only [List.range_eq_range', Array.length_toList] using this
          · simp at he
        · simp at he
    · simp at hc
  | seq x y ihx ihy =>
    have ihy3 := ihy.2.1
    replace ihy := ihy.1
    refine ⟨?_, fun c0 x y e => (by cases e), fun z c0 x y e => by cases e; exact ⟨ihx.1, ihy3 _ _ _ rfl⟩⟩
    intro vc Q w a fr ρ ex fr' hc h hnt he hQ
    simp only [conv] at hc
    split at hc
    · rename_i vx' hx
      split at hc
      · rename_i vy hy
        obtain rfl := Option.some.inj hc
        have go : ∀ {z : Code} {vz : Vc} {w : World} {a : Act} {fr0 : Fr} {ρ0 : Place}, CodeOk P G w0 L X0 C A A1 A2 B z → conv P C.own A A1 A2 B z = some vz → FR G w0 L X0 w a.tmps fr0 ρ0 → fr0.nt ≤ 99999 → seqE (vx C vy) (vx C vz fr0) = some (ex, fr') →
            (∀ a' w', After G w0 L X0 a a' w' fr0.heap ρ0 fr' → Q ex.to a' w') → z.wp P (Exit.then (y.wp P Q) Q) a w := by
          intro z vz w a fr0 ρ0 ihz hz h hnt he hQ
          unfold seqE at he
          split at he
          · rename_i fr1 h1
            refine ihz hz h hnt h1 fun a1 w1 ⟨ρ1, b1, b2, b3, b4⟩ => ?_
            exact ihy hy b1 (by rw [← b1.nt, b3, h.nt]; exact hnt) he fun a2 w2 h2 => hQ _ _ (h2.trans ⟨b2, b3, b4⟩)
          · rename_i hne
            refine ihz hz h hnt he fun a1 w1 h1 => ?_
            cases ex with
            | normal => exact absurd he (hne _)
            | exit id => exact hQ _ _ h1
            | ret => exact hQ _ _ h1
        have cond_way : ∀ {t : Nat} {ha hb : Option Hint} {xa xb : Vc} {a1 b1 : Code} {w : World} {a : Act} {fr : Fr} {ρ : Place} (c0 : Operand), CodeOk P G w0 L X0 C A A1 A2 B a1 → CodeOk P G w0 L X0 C A A1 A2 B b1 → od P 0 c0 = some (.tmp t) → conv P C.own A A1 A2 B a1 = some xa → conv P C.own A A1 A2 B b1 = some xb →
            FR G w0 L X0 w a.tmps fr ρ → fr.nt ≤ 99999 → (∀ a' w', After G w0 L X0 a a' w' fr.heap ρ fr' → Q ex.to a' w') → vx C (.condJ (.tmp t) ha hb xa xb vy) fr = some (ex, fr') → (Code.cond c0 a1 b1).wp P (Exit.then (y.wp P Q) Q) a w := by
          intro t ha hb xa xb a1 b1 w a fr ρ c0 iha ihb q1 q4 q5 h hnt hQ he
          have hct := od_sound h q1
          have way : ∀ {hh : Option Hint} {z : Code} {vz : Vc}, CodeOk P G w0 L X0 C A A1 A2 B z → conv P C.own A A1 A2 B z = some vz → (tidyO hh fr).bind (fun fr1 => seqE (vx C vy) (vx C vz fr1)) = some (ex, fr') →
              z.wp P (Exit.then (y.wp P Q) Q) a w := by
            intro hh z vz ihz hz hb
            obtain ⟨fr1, h1, h2⟩ := Option.bind_eq_some_iff.1 hb
            obtain ⟨ρ1, b1, b2⟩ := tidy_sound h h1
            exact go ihz hz b1 (by rw [← b1.nt, h.nt]; exact hnt) h2 fun a' w' hA => hQ _ _ (hA.trans ⟨rfl, rfl, b2⟩)
          simp only [vx] at he
          split at he
          · rename_i tt hv
            rw [← hG, hv] at hct
            refine wp_cond (t := tt) (rep_bool hct) ?_
            cases tt with
            | true => simp only [if_true] at he ⊢; exact way iha q4 he
            | false => simp only [Bool.false_eq_true, if_false] at he ⊢; exact way ihb q5 he
          · rename_i hv
            rw [← hG, hv] at hct
            have : ∃ tt, a.eval c0 = .bool tt := by
              generalize a.eval c0 = v at hct
              cases hct with
              | anyb b => exact ⟨b, rfl⟩
            obtain ⟨tt, htt⟩ := this
            unfold bothE at he
            split at he
            · rename_i heq
              refine wp_cond (t := tt) htt ?_
              cases tt with
              | true => simp only [if_true]; exact way iha q4 he
              | false => simp only [Bool.false_eq_true, if_false]; exact way ihb q5 (heq ▸ he)
            · simp at he
          · simp at he
        have plain : vx C (.seq vx' vy) fr = some (ex, fr') → (Code.seq x y).wp P Q a w := fun he => by
          simp only [vx] at he
          refine wp_seq ?_
          refine go ihx.1 hx h hnt ?_ hQ
          unfold seqE
          exact he
        unfold joinV at he
        split at he
        · rename_i r t ha hb xa xb
          split at he
          · obtain ⟨z1, c0, a1, b1, rfl, q0, q1, q2, q3, q4, q5⟩ := conv_seq hx
            obtain ⟨ihz, iha, ihb⟩ := ihx.2.2 _ _ _ _ rfl
            simp only [vx] at he
            refine wp_seq (wp_seq ?_)
            split at he
            · rename_i fr0 h0
              refine ihz q0 h hnt h0 fun a' w' ⟨ρ0, d1, d2, d3, d4⟩ => ?_
              simp only [Ex.to, Exit.then]
              have hQ' : ∀ a2 w2, After G w0 L X0 a' a2 w2 fr0.heap ρ0 fr' → Q ex.to a2 w2 := fun a2 w2 h2 => hQ _ _ (h2.trans ⟨d2, d3, d4⟩)
              have hnt0 : fr0.nt ≤ 99999 := by rw [← d1.nt, d3, h.nt]; exact hnt
              exact cond_way c0 iha ihb q1 q4 q5 d1 hnt0 hQ' he
            · rename_i hne
              refine ihz q0 h hnt he fun a1 w1 h1 => ?_
              cases ex with
              | normal => exact absurd he (hne _)
              | exit id => exact hQ _ _ h1
              | ret => exact hQ _ _ h1
          · exact plain he
        · exact plain he
      · simp at hc
    · simp at hc
  | cond c x y ihx ihy =>
    replace ihx := ihx.1
    replace ihy := ihy.1
    refine ⟨?_, fun c0 x' y' e => (by cases e; exact ⟨ihx, ihy⟩), fun z c0 x y e => by cases e⟩
    intro vc Q w a fr ρ ex fr' hc h hnt he hQ
    simp only [conv] at hc
    split at hc
    · rename_i c' vx' hcc hx
      split at hc
      · rename_i vy hy
        obtain rfl := Option.some.inj hc
        simp only [vx] at he
        split at he
        · rename_i t hv
          have hct := od_sound h hcc
          rw [← hG, hv] at hct
          refine wp_cond (t := t) (rep_bool hct) ?_
          have go : ∀ {hh : Option Hint} {vc : Vc} {cc : Code}, (∀ {fr1 : Fr} {ρ1 : Place}, FR G w0 L X0 w a.tmps fr1 ρ1 → fr1.nt ≤ 99999 → vx C vc fr1 = some (ex, fr') → (∀ a' w', After G w0 L X0 a a' w' fr1.heap ρ1 fr' → Q ex.to a' w') → cc.wp P Q a w) →
              (tidyO hh fr).bind (fun fr1 => vx C vc fr1) = some (ex, fr') → cc.wp P Q a w := by
            intro hh vc cc ih hb
            obtain ⟨fr1, h1, h2⟩ := Option.bind_eq_some_iff.1 hb
            obtain ⟨ρ1, b1, b2⟩ := tidy_sound h h1
            exact ih b1 (by rw [← b1.nt, h.nt]; exact hnt) h2 fun a' w' hA => hQ _ _ (hA.trans ⟨rfl, rfl, b2⟩)
          cases t with
          | true => simp only [if_true] at he ⊢; exact go (fun q1 q2 q3 q4 => ihx hx q1 q2 q3 q4) he
          | false => simp only [Bool.false_eq_true, if_false] at he ⊢; exact go (fun q1 q2 q3 q4 => ihy hy q1 q2 q3 q4) he
        · simp at he
      · simp at hc
    · simp at hc
  | block id c ih =>
    replace ih := ih.1
    refine ⟨?_, fun c0 x y e => (by cases e), fun z c0 x y e => by cases e⟩
    intro vc Q w a fr ρ ex fr' hc h hnt he hQ
    simp only [conv] at hc
    split at hc
    · rename_i vx' hx
      obtain rfl := Option.some.inj hc
      simp only [vx] at he
      refine wp_block ?_
      split at he
      · rename_i j fr1 h1
        refine ih hx h hnt h1 fun a1 w1 h2 => ?_
        simp only [Ex.to, Exit.inBlock]
        split at he
        · rename_i hj
          obtain ⟨rfl, rfl⟩ := by simpa using he
          rw [if_pos hj]; exact hQ _ _ h2
        · rename_i hj
          obtain ⟨rfl, rfl⟩ := by simpa using he
          rw [if_neg hj]; exact hQ _ _ h2
      · rename_i hne
        refine ih hx h hnt he fun a1 w1 h1 => ?_
        cases ex with
        | normal => exact hQ _ _ h1
        | exit id' => exact absurd he (hne _ _)
        | ret => exact hQ _ _ h1
    · simp at hc
  | loop c ih =>
    replace ih := ih.1
    refine ⟨?_, fun c0 x y e => (by cases e), fun z c0 x y e => by cases e⟩
    intro vc Q w a fr ρ ex fr' hc h hnt he hQ
    simp only [conv] at hc
    split at hc
    · rename_i vx' hx
      obtain rfl := Option.some.inj hc
      simp only [vx] at he
      obtain ⟨n, hn⟩ := vloop_iff.1 he
      refine wp_loop_rounds n ?_
      clear he
      induction n generalizing w a fr ρ with
      | zero => simp [iter] at hn
      | succ n ihn =>
        rw [rounds_succ]
        rw [iter] at hn
        split at hn
        · rename_i fr1 h1
          refine ih hx h hnt h1 fun a1 w1 ⟨ρ1, b1, b2, b3, b4⟩ => ?_
          exact ihn b1 (by rw [← b1.nt, b3, h.nt]; exact hnt) (fun a2 w2 h2 => hQ _ _ (h2.trans ⟨b2, b3, b4⟩)) hn
        · rename_i hne
          refine ih hx h hnt hn fun a1 w1 h1 => ?_
          cases ex with
          | normal => exact absurd hn (hne _)
          | exit id => exact hQ _ _ h1
          | ret => exact hQ _ _ h1
    · simp at hc
  | _ => exact ⟨fun vc Q w a fr ρ ex fr' hc => by simp [conv] at hc, fun c0 x y e => (by cases e), fun z c0 x y e => by cases e⟩
theorem vx_sound {C : Cx} (hC : CSound P C) (hG : C.gl = G) (hwide : P.follows .mixedOrders = true) {A A1 A2 : Nat → Option Hint} {B : Nat → Tr} (c : Code) {vc : Vc} {Q : Exit → Act → World → Prop} {w : World} {a : Act} {fr : Fr} {ρ : Place} {ex : Ex} {fr' : Fr} (hc : conv P C.own A A1 A2 B c = some vc)
    (h : FR G w0 L X0 w a.tmps fr ρ) (hnt : fr.nt ≤ 99999) (he : vx C vc fr = some (ex, fr')) (hQ : ∀ a' w', After G w0 L X0 a a' w' fr.heap ρ fr' → Q ex.to a' w') : c.wp P Q a w :=
  (vx_sound_all hC hG hwide c).1 hc h hnt he hQ
end
end Go.Proofs.Ytpbonfgmiffomaa.Wm
set_option linter.unusedSimpArgs false
set_option linter.unusedVariables false
namespace Go.Proofs.Ytpbonfgmiffomaa.Wm
open Go
def base (i : Nat) : Nat := 1000000000 + 1000 * i
def argM (i m : Nat) (ds : List D) (fr : Fr) : Option (Fr × List D) :=
  if 100 ≤ m then (if m - 100 ≤ ds.length then (match instL true (base i) fr.heap (ds.take (m - 100)) with
    | some (ys, H, _) => some ({ fr with env := (i, .agg ys) :: fr.env, heap := H }, ds.drop (m - 100))
    | none => none) else none) else (match ds with
    | d :: ds' => match inst1 true (base i) fr.heap d with
      | some (y, H, _) => some ({ fr with env := (i, y) :: fr.env, heap := H }, ds')
      | none => none
    | [] => none)
def argsFr (i : Nat) : List Nat → List D → Fr → Option Fr
  | [], ds, fr => if ds.isEmpty = true then some fr else none
  | m :: ms, ds, fr => match argM i m ds fr with
    | some (fr1, ds1) => argsFr (i + 1) ms ds1 fr1
    | none => none
def idsC : Nat → List D → List Nat
  | _, [] => []
  | b, d :: ds => b :: idsC (match d with | .ow _ _ => b + 1 | _ => b) ds
def idsM (i m : Nat) (ds : List D) : List Nat × List D :=
  if 100 ≤ m then (idsC (base i) (ds.take (m - 100)), ds.drop (m - 100)) else (match ds with
    | _ :: ds' => ([base i], ds')
    | [] => ([], []))
def idsOf (i : Nat) : List Nat → List D → List Nat
  | [], _ => []
  | m :: ms, ds => match idsM i m ds with
    | (bs, ds1) => bs ++ idsOf (i + 1) ms ds1
def takeT (H : Heap) : List V → List D × Heap × Bool
  | [] => ([], H, false)
  | x :: xs => match takeV false H x with
    | (d, H1, f1) => match takeT H1 xs with
      | (ds, H2, f2) => (d :: ds, H2, f1 || f2)
def outA (H : Heap) (b : Nat) : D → D × Heap × Bool
  | .op o _ => takeV false H (.pt b o)
  | .ow _ _ => match look b H with
    | some (.row old sz els) => (.ow sz els, updB b .gone H, old)
    | _ => (.gone, H, false)
  | _ => (.gone, H, false)
def outsD (H : Heap) : List Nat → List D → List D × Heap × Bool
  | b :: bs, d :: ds => match outA H b d with
    | (o, H1, f1) => match outsD H1 bs ds with
      | (os, H2, f2) => (o :: os, H2, f1 || f2)
  | _, _ => ([], H, false)
def resX (gl : Nat → Option (List D)) (fr : Fr) : Nat × Option (Option Nat) → Option V
  | (t, none) => some (oval gl fr.env (.tmp t))
  | (t, some s) => loadV fr.heap s (oval gl fr.env (.tmp t))
def resXs (gl : Nat → Option (List D)) (fr : Fr) : List (Nat × Option (Option Nat)) → Option (List V)
  | [] => some []
  | r :: rs => match resX gl fr r with
    | some x => match resXs gl fr rs with
      | some xs => some (x :: xs)
      | none => none
    | none => none
def resD : List D → D
  | [d] => d
  | ds => .tup ds
def finD (gl : Nat → Option (List D)) (rs : List (Nat × Option (Option Nat))) (bs : List Nat) (ds : List D) (fr : Fr) : Option (D × List D) := match resXs gl fr rs with
  | some xs => match takeT fr.heap xs with
    | (rd, H, _) => match outsD H bs ds with
      | (outs, _, _) => some (resD rd, outs)
  | none => none
noncomputable def callFn (C : Cx) (ms : List Nat) (vc : Vc) (nt : Nat) (rs : List (Nat × Option (Option Nat))) (ds : List D) : Option (D × List D) :=
  match argsFr 0 ms ds ⟨[], [], nt⟩ with
  | some fr => match vx C vc fr with
    | some (.exit _, _) => none
    | some (_, fr1) => finD C.gl rs (idsOf 0 ms ds) ds fr1
    | none => none
  | none => none
section
variable {P : Program} {G : Nat → Option (List D)} {w0 : World} {L X0 X1 : Nat → Prop} {w w' w2 : World} {tm : Array Value} {fr : Fr} {ρ ρ' : Place} {X : K → Nat → Prop} {H : Heap}
theorem base_big (i : Nat) : 1000000000 ≤ base i := by unfold base; omega
theorem idsC_spec : ∀ {ds : List D} {b : Nat}, (idsC b ds).length = ds.length ∧ ∀ x ∈ idsC b ds, b ≤ x
  | [], b => ⟨rfl, fun x hx => by simp [idsC] at hx⟩
  | d :: ds, b => by
    have go : ∀ {b' : Nat}, b ≤ b' → (b :: idsC b' ds).length = (d :: ds).length ∧ ∀ x ∈ b :: idsC b' ds, b ≤ x := fun {b'} hb => by
      obtain ⟨h1, h2⟩ := idsC_spec (ds := ds) (b := b')
      refine ⟨by simp [h1], fun x hx => ?_⟩
      rcases List.mem_cons.1 hx with rfl | hx
      · exact Nat.le_refl _
      · exact Nat.le_trans hb (h2 x hx)
    simp only [idsC]
    split
    · exact go (by omega)
    · exact go (Nat.le_refl _)
def ArgOk (w : World) (H : Heap) (ρ : Place) (b : Nat) (d : D) (v : Value) (F : Nat → Prop) : Prop := match d with
  | .ow sz els => ∃ B, look b H = some B ∧ (B.sh = .gone ∨ B.sh = .row sz els.length ∧ ((els = [] ∧ ∃ a, v = .slice a 0 0) ∨
      ∃ g k c, v = .slice (some ⟨g, k, none⟩) els.length c ∧ 0 < c ∧ els.length ≤ c ∧ OwnBlk w g (k + c * sz) ∧ ρ b = some (g, k)))
  | .op o _ => ∃ B, look b H = some B ∧ (B.sh = .gone ∧ (∃ a, v = .pointer a) ∨ B.sh = .var ∧ ∃ g k, v = .pointer (some ⟨g, k + o, none⟩) ∧ ρ b = some (g, k))
  | _ => True
theorem ArgOk.keep {H' : Heap} {i : Nat} (hi : 1000000000 ≤ i) {d : D} {v : Value} {F : Nat → Prop} (h : ArgOk w H ρ i d v F) (hk : Keep H H' ρ ρ') (ho : ∀ g m, OwnBlk w g m → OwnBlk w' g m) : ArgOk w' H' ρ' i d v F := by
  unfold ArgOk at h ⊢
  split at h
  · obtain ⟨B, h1, h2⟩ := h
    obtain ⟨B', k1, k2⟩ := hk _ B hi h1
    refine ⟨B', k1, ?_⟩
    rcases k2 with k2 | ⟨k2, k3⟩
    · exact .inl k2
    · rw [k3, k2]
      refine h2.imp id fun q => ⟨q.1, q.2.imp id ?_⟩
      rintro ⟨g, k, c, a1, a2, a3, a4, a5⟩
      exact ⟨g, k, c, a1, a2, a3, ho _ _ a4, a5⟩
  · obtain ⟨B, h1, h2⟩ := h
    obtain ⟨B', k1, k2⟩ := hk _ B hi h1
    refine ⟨B', k1, ?_⟩
    rcases k2 with k2 | ⟨k2, k3⟩
    · refine .inl ⟨k2, ?_⟩
      rcases h2 with h2 | ⟨_, g, k, h2, _⟩
      · exact h2.2
      · exact ⟨_, h2⟩
    · rw [k3, k2]; exact h2
  · trivial
theorem argOk_ow {sz : Nat} {els : List (List D)} {u : Value} {F : Nat → Prop} {Z : K → Nat → Prop} {b : Nat} {fl : Bool} (hlk : look b H = some (.row fl sz els)) (hre : RepE w X H ρ (.sl b 0 els.length) u) (hr : RepV w Z (.ow sz els) u F) : ArgOk w H ρ b (.ow sz els) u F := by
  refine ⟨.row fl sz els, hlk, .inr ⟨rfl, ?_⟩⟩
  cases hre with
  | sl _ _ _ _ B hb hs =>
    rw [hlk] at hb
    obtain rfl := Option.some.inj hb
    obtain ⟨s1, A, c, s2, s3, s4⟩ := hs
    subst s2
    rcases s4 with rfl | ⟨g, k, q1, q2, q3⟩
    · have : els = [] := List.eq_nil_of_length_eq_zero (by omega)
      subst this
      exact .inl ⟨rfl, A, rfl⟩
    · subst q2
      rcases Nat.eq_zero_or_pos c with rfl | hc
      · have : els = [] := List.eq_nil_of_length_eq_zero (by omega)
        subst this
        exact .inl ⟨rfl, _, rfl⟩
      · refine .inr ⟨g, k, c, ?_, hc, s3, by simpa using q3, q1⟩
        simp
theorem look_free {id s : Nat} {B C : Blk} (h : free id H = true) (hs : look s H = some B) : look s ((id, C) :: H) = some B := by
  have hne : id ≠ s := fun e => by subst e; rw [free_spec h] at hs; simp at hs
  simp only [look]; rw [if_neg hne]; exact hs
theorem instL_ids {fl : Bool} : ∀ {ds : List D} {id n : Nat} {H H' : Heap} {ys : List V}, instL fl id H ds = some (ys, H', n) → (∀ s B, look s H = some B → look s H' = some B) ∧ (∀ o cs, .op o cs ∉ ds) ∧
    ∀ (j sz : Nat) (els : List (List D)) (b : Nat), ds[j]? = some (.ow sz els) → (idsC id ds)[j]? = some b → ys[j]? = some (.sl b 0 els.length) ∧ look b H' = some (.row fl sz els)
  | [], id, n, H, H', ys, he => by
    simp only [instL] at he
    obtain ⟨rfl, rfl, rfl⟩ := by simpa using he
    exact ⟨fun _ _ h => h, by simp, fun j sz els b q => by simp at q⟩
  | d :: ds, id, n, H, H', ys, he => by
    simp only [instL] at he
    split at he
    · rename_i x H1 n1 h1
      split at he
      · rename_i xs H2 n2 h2
        obtain ⟨rfl, rfl, rfl⟩ := by simpa using he
        obtain ⟨a1, a2, a3⟩ := instL_ids h2
        cases d with
        | ow sz els =>
          simp only [instC] at h1
          split at h1
          · rename_i hf
            obtain ⟨rfl, rfl, rfl⟩ := by simpa using h1
            refine ⟨fun s B hs => a1 s B (look_free hf hs), fun o cs hm => ?_, fun j sz' els' b q1 q2 => ?_⟩
            · rcases List.mem_cons.1 hm with e | hm
              · cases e
              · exact a2 o cs hm
            · cases j with
              | zero =>
                simp [idsC] at q1 q2
                obtain ⟨rfl, rfl⟩ := q1
                subst q2
                exact ⟨rfl, a1 _ _ (by simp [look])⟩
              | succ j => exact a3 j sz' els' b (by simpa using q1) (by simpa [idsC] using q2)
          · simp at h1
        | op o cs => simp [instC] at h1
        | agg cs => simp [instC] at h1
        | tup cs => simp [instC] at h1
        | _ =>
          simp only [instC] at h1
          obtain ⟨rfl, rfl, rfl⟩ := by simpa using h1
          refine ⟨fun s B hs => a1 s B hs, fun o cs hm => ?_, fun j sz' els' b q1 q2 => ?_⟩
          · rcases List.mem_cons.1 hm with e | hm
            · cases e
            · exact a2 o cs hm
          · cases j with
            | zero => simp at q1
            | succ j => exact a3 j sz' els' b (by simpa using q1) (by simpa [idsC] using q2)
      · simp at he
    · simp at he
theorem allF_split {n : Nat} {φ : Nat → Nat → Prop} {m b : Nat} (h : n ≤ m) : AllF m φ b ↔ AllF n φ b ∨ AllF (m - n) (fun i => φ (n + i)) b := by
  constructor
  · rintro ⟨i, hi, hb⟩
    rcases Nat.lt_or_ge i n with h' | h'
    · exact .inl ⟨i, h', hb⟩
    · exact .inr ⟨i - n, by omega, by show φ (n + (i - n)) b; rw [show n + (i - n) = i by omega]; exact hb⟩
  · rintro (⟨i, hi, hb⟩ | ⟨i, hi, hb⟩)
    · exact ⟨i, by omega, hb⟩
    · exact ⟨n + i, by omega, hb⟩
theorem RepVs.split {Z : K → Nat → Prop} {ds : List D} {us vs : List Value} {φ : Nat → Nat → Prop} {n : Nat} (hn : n ≤ ds.length) (hl : us.length = n) (h : RepVs w Z ds (us ++ vs) φ) :
    RepVs w Z (ds.take n) us φ ∧ RepVs w Z (ds.drop n) vs (fun i => φ (n + i)) ∧ ∀ b, AllF n φ b → ¬ AllF (ds.length - n) (fun i => φ (n + i)) b := by
  obtain ⟨h1, h2, h3⟩ := h
  refine ⟨⟨by simp; omega, fun i j b hi hj => h2 i j b (by simp at hi; omega) (by simp at hj; omega), fun i d v q1 q2 => ?_⟩, ⟨by simp at h1 ⊢; omega, fun i j b hi hj q1 q2 => ?_, fun i d v q1 q2 => ?_⟩, ?_⟩
  · have hi : i < n := by have := (List.getElem?_eq_some_iff.1 q2).1; omega
    rw [List.getElem?_take, if_pos hi] at q1
    exact h3 i d v q1 (by rw [List.getElem?_append_left (by omega)]; exact q2)
  · have := h2 (n + i) (n + j) b (by simp at hi; omega) (by simp at hj; omega) q1 q2
    omega
  · rw [List.getElem?_drop] at q1
    exact h3 (n + i) d v q1 (by rw [List.getElem?_append_right (by omega), hl, show n + i - n = i by omega]; exact q2)
  · rintro b ⟨i, hi, q1⟩ ⟨j, hj, q2⟩
    have := h2 i (n + j) b (by omega) (by omega) q1 q2
    omega
theorem Flat.nil' {vs us : List Value} (h : Flat [] vs us) : vs = [] ∧ us = [] := by
  cases h; exact ⟨rfl, rfl⟩
theorem Flat.cons' {m : Nat} {ms : List Nat} {vs us : List Value} (h : Flat (m :: ms) vs us) : (m < 100 ∧ ∃ v vs' us', vs = v :: vs' ∧ us = v :: us' ∧ Flat ms vs' us') ∨
    (100 ≤ m ∧ ∃ (u0 : Array Value) (vs' us' : List Value), vs = .agg u0 :: vs' ∧ us = u0.toList ++ us' ∧ u0.size = m - 100 ∧ Flat ms vs' us') := by
  cases h with
  | one _ _ u vs us hm t => exact .inl ⟨hm, u, vs, us, rfl, rfl, t⟩
  | agg _ _ u0 vs us hm hs t => exact .inr ⟨hm, u0, vs, us, rfl, rfl, hs, t⟩
theorem argsFr_sound : ∀ (ms : List Nat) {i : Nat} {ds : List D} {Xb : Nat → Prop} {Z : K → Nat → Prop} {vs us : List Value} {φ : Nat → Nat → Prop} {fr fr' : Fr} {ρ : Place}, Flat ms vs us →
    FR G w0 L (fun b => Xb b ∨ AllF ds.length φ b) w tm fr ρ → (∀ b, AllF ds.length φ b → ¬ Xb b ∧ (L b ∨ w0.heap.size ≤ b)) → RepVs w Z ds us φ → (∀ k b, b < w.heap.size → XX w0 (fun b => Xb b ∨ AllF ds.length φ b) fr.heap ρ k b → Z k b) →
    (∀ (j : Nat) (u : Value), vs[j]? = some u → tm.getD (i + j) undef = u) → argsFr i ms ds fr = some fr' →
    ∃ ρ', FR G w0 L Xb w tm fr' ρ' ∧ Keep fr.heap fr'.heap ρ ρ' ∧ fr'.nt = fr.nt ∧ (idsOf i ms ds).length = ds.length ∧ (∀ b ∈ idsOf i ms ds, 1000000000 ≤ b) ∧
      ∀ (j : Nat) (d : D) (u : Value) (b : Nat), ds[j]? = some d → us[j]? = some u → (idsOf i ms ds)[j]? = some b → ArgOk w fr'.heap ρ' b d u (φ j) := by
  intro ms
  induction ms with
  | nil =>
    intro i ds Xb Z vs us φ fr fr' ρ hfl h hF hr hZ htm he
    obtain ⟨rfl, rfl⟩ := hfl.nil'
    obtain rfl : ds = [] := List.eq_nil_of_length_eq_zero (by have := hr.1; simpa using this.symm)
    simp only [argsFr, List.isEmpty_nil, if_true] at he
    obtain rfl := Option.some.inj he
    have e : (fun b => Xb b ∨ AllF ([] : List D).length φ b) = Xb := by funext b; simp [AllF]
    rw [e] at h
    exact ⟨ρ, h, Keep.refl _ _, rfl, rfl, fun b hb => by simp [idsOf] at hb, fun j d u b hj => by simp at hj⟩
  | cons m ms ih =>
    intro i ds Xb Z vs us φ fr fr' ρ hfl h hF hr hZ htm he
    simp only [argsFr, argM] at he
    simp only [idsOf, idsM]
    rcases hfl.cons' with ⟨hm, u, vs', us', rfl, rfl, t⟩ | ⟨hm, u0, vs', us', rfl, rfl, hs, t⟩
    ·
      rw [if_neg (by omega)] at he
      rw [if_neg (by omega)]
      obtain ⟨d, ds, rfl⟩ := List.exists_cons_of_ne_nil (l := ds) (by rintro rfl; have := hr.1; simp at this)
      obtain ⟨t1, t2, t3, t4⟩ := hr.tail
      simp only at he ⊢
      split at he
      case h_2 => simp at he
      rename_i fr1 ds1 hM
      split at hM
      · rename_i y H1 n hin
        obtain ⟨rfl, rfl⟩ := by simpa using hM
        have e1 : (fun b => Xb b ∨ AllF (d :: ds).length φ b) = fun b => (Xb b ∨ AllF ds.length (fun j => φ (j + 1)) b) ∨ φ 0 b := by
          funext b
          have : AllF (d :: ds).length φ b ↔ _ := t4 b
          rw [this, or_assoc]
          exact propext ⟨fun q => q.imp id fun q => q.symm, fun q => q.imp id fun q => q.symm⟩
        rw [e1] at h hZ
        obtain ⟨ρ1, p, r1⟩ := inst1_sound (fl := true) (X0 := fun b => Xb b ∨ AllF ds.length (fun j => φ (j + 1)) b) (F := φ 0) (Z := Z) h (fun b hb => by
            obtain ⟨q1, q2⟩ := hF b ((t4 b).2 (.inl hb))
            exact ⟨fun q => q.elim q1 (t3 b hb), q2.imp (fun q => ⟨rfl, q⟩) id⟩) t1 hZ hin
        have hu : tm.getD i undef = u := by simpa using htm 0 u rfl
        have p1 := p.1.putTm (t := i) (x := y) (by rw [hu]; exact r1)
        obtain ⟨ρ2, b1, b2, b3, b5, b6, b4⟩ := ih (i := i + 1) (Xb := Xb) (us := us') (φ := fun j => φ (j + 1)) (Z := Z) t p1 (fun b hb => hF b ((t4 b).2 (.inr hb))) t2 (fun k b hb q => hZ k b hb (p.2.1.off k b hb q))
          (fun j v hj => by have := htm (j + 1) v (by simpa using hj); rwa [show i + (j + 1) = i + 1 + j by omega] at this) he
        refine ⟨ρ2, b1, (Keep.of_htr p.2.2.1).trans b2, b3, by simp [b5], fun b hb => ?_, fun j d' u1 b hj hu1 hb => ?_⟩
        · rcases List.mem_cons.1 hb with rfl | hb
          · exact base_big i
          · exact b6 b hb
        · cases j with
          | succ j => exact b4 j d' u1 b (by simpa using hj) (by simpa using hu1) (by simpa using hb)
          | zero =>
            simp at hj hu1 hb
            subst hj; subst hu1; subst hb
            refine ArgOk.keep (base_big i) ?_ b2 (fun _ _ h => h)
            cases d with
            | ow sz els =>
              simp only [inst1, instC] at hin
              split at hin
              · obtain ⟨rfl, rfl, rfl⟩ := by simpa using hin
                exact argOk_ow (fl := true) (by simp [look]) r1 t1
              · simp at hin
            | op o cs =>
              simp only [inst1] at hin
              split at hin
              · split at hin
                · obtain ⟨rfl, rfl, rfl⟩ := by simpa using hin
                  rename_i xs0 _ _ _ _
                  refine ⟨.var true xs0, by simp [look], .inr ⟨rfl, ?_⟩⟩
                  cases r1 with
                  | pt _ _ _ B hb hs =>
                    simp [look] at hb
                    subst hb
                    obtain ⟨g, k, q1, q2⟩ := hs
                    exact ⟨g, k, q2, q1⟩
                · simp at hin
              · simp at hin
            | _ => trivial
      · simp at hM
    ·
      rw [if_pos hm] at he
      rw [if_pos hm]
      split at he
      case h_2 => simp at he
      rename_i fr1 ds1 hM
      split at hM
      · rename_i hn
        generalize hnn : m - 100 = n at hM hn hs ⊢
        obtain ⟨t1, t2, t3⟩ := hr.split hn (by simpa using hs)
        have t4 : ∀ b, AllF ds.length φ b ↔ AllF n φ b ∨ AllF (ds.length - n) (fun i => φ (n + i)) b := fun b => allF_split hn
        have l1 : (ds.take n).length = n := by simp; omega
        have l2 : (ds.drop n).length = ds.length - n := by simp
        split at hM
        · rename_i ys H1 n1 hin
          obtain ⟨rfl, rfl⟩ := by simpa using hM
          have e1 : (fun b => Xb b ∨ AllF ds.length φ b) = fun b => (Xb b ∨ AllF (ds.drop n).length (fun j => φ (n + j)) b) ∨ AllF (ds.take n).length φ b := by
            funext b
            rw [l1, l2, or_assoc]
            refine propext ⟨fun q => q.imp id fun q => ((t4 b).1 q).symm, fun q => q.imp id fun q => (t4 b).2 q.symm⟩
          rw [e1] at h hZ
          obtain ⟨ρ1, p, rl, r1⟩ := instL_sound (fl := true) (X0 := fun b => Xb b ∨ AllF (ds.drop n).length (fun j => φ (n + j)) b) (φ := φ) (Z := Z) (us := u0.toList) h (fun b hb => by
              rw [l1] at hb
              obtain ⟨q1, q2⟩ := hF b ((t4 b).2 (.inl hb))
              exact ⟨fun q => q.elim q1 (by rw [l2]; exact t3 b hb), q2.imp (fun q => ⟨rfl, q⟩) id⟩) t1 hZ hin
          obtain ⟨i1, i2, i3⟩ := instL_ids hin
          have hu : tm.getD i undef = .agg u0 := by simpa using htm 0 _ rfl
          have p1 := p.1.putTm (t := i) (x := .agg ys) (by rw [hu]; exact .agg ys u0 (by rw [rl, l1]; exact hs) fun i x u q1 q2 => r1 i x u q1 (by simpa using q2))
          obtain ⟨ρ2, b1, b2, b3, b5, b6, b4⟩ := ih (i := i + 1) (Xb := Xb) (us := us') (φ := fun j => φ (n + j)) (Z := Z) t p1 (fun b hb => hF b ((t4 b).2 (.inr (by rw [l2] at hb; exact hb)))) t2 (fun k b hb q => hZ k b hb (p.2.1.off k b hb q))
            (fun j v hj => by have := htm (j + 1) v (by simpa using hj); rwa [show i + (j + 1) = i + 1 + j by omega] at this) he
          obtain ⟨c1, c2⟩ := idsC_spec (ds := ds.take n) (b := base i)
          refine ⟨ρ2, b1, (Keep.of_htr p.2.2.1).trans b2, b3, by rw [List.length_append, c1, b5, l1, l2]; omega, fun b hb => ?_, fun j d' u1 b hj hu1 hb => ?_⟩
          · rcases List.mem_append.1 hb with hb | hb
            · exact Nat.le_trans (base_big i) (c2 b hb)
            · exact b6 b hb
          · rcases Nat.lt_or_ge j n with hjn | hjn
            · rw [List.getElem?_append_left (by rw [c1, l1]; exact hjn)] at hb
              rw [List.getElem?_append_left (by simpa [hs] using hjn)] at hu1
              have hj' : (ds.take n)[j]? = some d' := by rw [List.getElem?_take, if_pos hjn]; exact hj
              refine ArgOk.keep (Nat.le_trans (base_big i) (c2 b (List.mem_of_getElem? hb))) ?_ b2 (fun _ _ h => h)
              cases d' with
              | ow sz els =>
                obtain ⟨q1, q2⟩ := i3 j sz els b hj' hb
                exact argOk_ow q2 (r1 j _ u1 q1 hu1) (t1.2.2 j _ u1 hj' hu1)
              | op o cs => exact absurd (List.mem_of_getElem? hj') (i2 o cs)
              | _ => trivial
            · rw [List.getElem?_append_right (by rw [c1, l1]; exact hjn), c1, l1] at hb
              rw [List.getElem?_append_right (by simpa [hs] using hjn)] at hu1
              have hu2 : us'[j - n]? = some u1 := by simpa [hs] using hu1
              have := b4 (j - n) d' u1 b (by rw [List.getElem?_drop, show n + (j - n) = j by omega]; exact hj) hu2 hb
              simpa only [show n + (j - n) = j by omega] using this
        · simp at hM
      · simp at hM
theorem takeT_sound : ∀ {xs : List V} {us : List Value} {X0 : Nat → Prop} {fr : Fr} {ds : List D} {H' : Heap} {fl : Bool}, FR G w0 L X0 w tm fr ρ → us.length = xs.length →
    (∀ (i : Nat) (x : V) (u : Value), xs[i]? = some x → us[i]? = some u → RepE w (XX w0 X0 fr.heap ρ) fr.heap ρ x u) → takeT fr.heap xs = (ds, H', fl) →
    ∃ φ, Took G w0 L X0 w tm fr ρ H' fl (AllF ds.length φ) ∧ RepVs w (XX w0 X0 fr.heap ρ) ds us φ ∧ ds.length = xs.length
  | [], us, X0, fr, ds, H', fl, h, hl, hx, he => by
    simp only [takeT] at he
    obtain ⟨rfl, rfl, rfl⟩ := by simpa using he
    obtain rfl := List.eq_nil_of_length_eq_zero (by simpa using hl)
    exact ⟨fun _ => E, Took.none h fun b ⟨_, hi, _⟩ => by simp at hi, repVs_nil, rfl⟩
  | x :: xs, us, X0, fr, ds, H', fl, h, hl, hx, he => by
    obtain ⟨u, us, rfl⟩ := List.exists_cons_of_ne_nil (l := us) (by rintro rfl; simp at hl)
    simp only [takeT] at he
    cases h1 : takeV false fr.heap x with
    | mk d p =>
      obtain ⟨H1, f1⟩ := p
      simp only [h1] at he
      cases h2 : takeT H1 xs with
      | mk ds' p2 =>
        obtain ⟨H2, f2⟩ := p2
        simp only [h2] at he
        obtain ⟨rfl, rfl, rfl⟩ := by simpa using he
        obtain ⟨F, a1, a2⟩ := takeV_sound false h (hx 0 x u rfl rfl) h1
        have st : Stay w w (XX w0 X0 fr.heap ρ) (XX w0 (fun g => X0 g ∨ F g) H1 ρ) := by rw [a1.2.1]; exact Stay.refl _ _
        obtain ⟨φ, b1, b2, b3⟩ := takeT_sound (us := us) a1.1 (by simpa using hl) (fun i y v hy hv => (hx (i + 1) y v (by simpa using hy) (by simpa using hv)).tr st a1.2.2.1) h2
        obtain ⟨c1, c2⟩ := a1.trans b1
        simp only [a1.2.1] at b2
        have e : (fun b => F b ∨ AllF ds'.length φ b) = AllF (d :: ds').length (consF F φ) := by funext b; exact propext (allF_cons (n := ds'.length)).symm
        rw [e] at c1
        exact ⟨consF F φ, c1, b2.cons a2 c2, by simp [b3]⟩
theorem outA_sound (h : FR G w0 L X0 w tm fr ρ) {bb : Nat} {d : D} {v : Value} {F0 : Nat → Prop} (ha : ArgOk w fr.heap ρ bb d v F0) {o : D} {H' : Heap} {fl : Bool} (he : outA fr.heap bb d = (o, H', fl)) :
    ∃ F, Took G w0 L X0 w tm fr ρ H' fl F ∧ RepV w (XX w0 X0 fr.heap ρ) o v F ∧ ∀ sz els sz' els', d = .ow sz els → o = .ow sz' els' → (∀ b, MainV v F0 b → F b) ∨ (els = [] ∧ els' = [] ∧ ∃ a, v = .slice a 0 0) := by
  have non : ∃ F, Took G w0 L X0 w tm fr ρ fr.heap false F ∧ RepV w (XX w0 X0 fr.heap ρ) .gone v F := ⟨E, Took.none h fun b hb => hb, .plain _ _ _ (fun b hb => hb) (.gone _)⟩
  unfold outA at he
  unfold ArgOk at ha
  split at he
  · rename_i o' cs
    simp only at ha
    obtain ⟨B, h1, h2⟩ := ha
    have hx : RepE w (XX w0 X0 fr.heap ρ) fr.heap ρ (.pt bb o') v := by
      refine .pt _ _ _ B h1 ?_
      rcases h2 with ⟨h2, a, rfl⟩ | ⟨h2, g, k, rfl, h3⟩
      · rw [h2]; exact ⟨a, rfl⟩
      · rw [h2]; exact ⟨g, k, h3, rfl⟩
    obtain ⟨F, a1, a2⟩ := takeV_sound false h hx he
    exact ⟨F, a1, a2, fun sz els sz' els' e => by simp at e⟩
  · rename_i sz els
    simp only at ha
    obtain ⟨B, h1, h2⟩ := ha
    split at he
    · rename_i old sz' els' hlk
      obtain ⟨rfl, rfl, rfl⟩ := by simpa using he
      rw [hlk] at h1
      obtain rfl := Option.some.inj h1
      rcases h2 with h2 | ⟨h2, h3⟩
      · simp [Blk.sh] at h2
      · simp only [Blk.sh, Sh.row.injEq] at h2
        obtain ⟨rfl, hlen⟩ := h2
        obtain ⟨a1, a2, a3⟩ := h.kill hlk rfl
        have hx : RepE w (XX w0 X0 fr.heap ρ) fr.heap ρ (.sl bb 0 els'.length) v := by
          refine .sl _ _ _ _ _ hlk ⟨by simp [Blk.sh], ?_⟩
          rcases h3 with ⟨rfl, a, rfl⟩ | ⟨g, k, c, rfl, q2, q3, q4, q5⟩
          · have : els' = [] := List.eq_nil_of_length_eq_zero (by simpa using hlen)
            subst this
            exact ⟨a, 0, rfl, by simp, .inl rfl⟩
          · rw [hlen]
            exact ⟨_, c, rfl, q3, .inr ⟨g, k, q5, by simp, by simpa using q4⟩⟩
        have hr := h.row_own hx hlk
        simp only [List.drop_zero, List.take_length] at hr
        refine ⟨fun g => Blks ρ bb g, ⟨a1, a2, a3, fun g hk => ⟨h.out _ _ g hlk rfl hk, h.new _ _ g hlk rfl hk⟩⟩, .ow _ _ _ _ hr, fun sz1 els1 sz2 els2 e1 e2 => ?_⟩
        simp at e1 e2
        obtain ⟨rfl, rfl⟩ := e1
        obtain ⟨rfl, rfl⟩ := e2
        rcases h3 with ⟨rfl, a, rfl⟩ | ⟨g, k, c, rfl, q2, q3, q4, q5⟩
        · exact .inr ⟨rfl, List.eq_nil_of_length_eq_zero (by simpa using hlen), a, rfl⟩
        · left
          rintro b (⟨⟨a, e⟩, _⟩ | ⟨k', n', c', e, hc'⟩)
          · simp at e; omega
          · simp at e; exact .inl ⟨k, by rw [← e.1.1]; exact q5⟩
    · obtain ⟨rfl, rfl, rfl⟩ := by simpa using he
      obtain ⟨F, b1, b2⟩ := non
      exact ⟨F, b1, b2, fun sz els sz' els' _ e => by simp at e⟩
  · obtain ⟨rfl, rfl, rfl⟩ := by simpa using he
    obtain ⟨F, b1, b2⟩ := non
    exact ⟨F, b1, b2, fun sz els sz' els' _ e => by simp at e⟩
theorem outsD_sound : ∀ (ds : List D) {bs : List Nat} {us : List Value} {φ : Nat → Nat → Prop} {X0 : Nat → Prop} {fr : Fr} {outs : List D} {H' : Heap} {fl : Bool}, FR G w0 L X0 w tm fr ρ → us.length = ds.length → bs.length = ds.length → (∀ b ∈ bs, 1000000000 ≤ b) →
    (∀ (j : Nat) (d : D) (u : Value) (b : Nat), ds[j]? = some d → us[j]? = some u → bs[j]? = some b → ArgOk w fr.heap ρ b d u (φ j)) → outsD fr.heap bs ds = (outs, H', fl) →
    ∃ χ, Took G w0 L X0 w tm fr ρ H' fl (AllF outs.length χ) ∧ RepVs w (XX w0 X0 fr.heap ρ) outs us χ ∧ outs.length = ds.length ∧
      ∀ (j : Nat) (u : Value) sz els sz' els', ds[j]? = some (.ow sz els) → us[j]? = some u → outs[j]? = some (.ow sz' els') → (∀ b, MainV u (φ j) b → χ j b) ∨ (els = [] ∧ els' = [] ∧ ∃ a, u = .slice a 0 0)
  | [], bs, us, φ, X0, fr, outs, H', fl, h, hl, hb, hbig, hA, he => by
    have : bs = [] := List.eq_nil_of_length_eq_zero (by simpa using hb)
    subst this
    simp only [outsD] at he
    obtain ⟨rfl, rfl, rfl⟩ := by simpa using he
    obtain rfl := List.eq_nil_of_length_eq_zero (by simpa using hl)
    exact ⟨fun _ => E, Took.none h fun b ⟨_, hi, _⟩ => by simp at hi, repVs_nil, rfl, fun j u sz els sz' els' hj => by simp at hj⟩
  | d :: ds, bs, us, φ, X0, fr, outs, H', fl, h, hl, hb, hbig, hA, he => by
    obtain ⟨u, us, rfl⟩ := List.exists_cons_of_ne_nil (l := us) (by rintro rfl; simp at hl)
    obtain ⟨b0, bs, rfl⟩ := List.exists_cons_of_ne_nil (l := bs) (by rintro rfl; simp at hb)
    simp only [outsD] at he
    cases h1 : outA fr.heap b0 d with
    | mk o p =>
      obtain ⟨H1, f1⟩ := p
      simp only [h1] at he
      cases h2 : outsD H1 bs ds with
      | mk os p2 =>
        obtain ⟨H2, f2⟩ := p2
        simp only [h2] at he
        obtain ⟨rfl, rfl, rfl⟩ := by simpa using he
        obtain ⟨F, a1, a2, a3⟩ := outA_sound h (hA 0 d u b0 rfl rfl rfl) h1
        obtain ⟨χ, b1, b2, b3, b4⟩ := outsD_sound ds (bs := bs) (us := us) (φ := fun j => φ (j + 1)) (fr := { fr with heap := H1 }) a1.1 (by simpa using hl) (by simpa using hb) (fun b hb => hbig b (List.mem_cons_of_mem _ hb)) (fun j d' u' b' hj hu hb' => by
          have := hA (j + 1) d' u' b' (by simpa using hj) (by simpa using hu) (by simpa using hb')
          exact this.keep (hbig b' (List.mem_cons_of_mem _ (List.mem_of_getElem? hb'))) (Keep.of_htr a1.2.2.1) (fun _ _ h => h)) h2
        obtain ⟨c1, c2⟩ := a1.trans b1
        simp only [a1.2.1] at b2
        have e : (fun b => F b ∨ AllF os.length χ b) = AllF (o :: os).length (consF F χ) := by funext b; exact propext (allF_cons (n := os.length)).symm
        rw [e] at c1
        refine ⟨consF F χ, c1, b2.cons a2 c2, by simp [b3], fun j u' sz els sz' els' hj hu ho => ?_⟩
        cases j with
        | zero => simp at hj hu ho; subst hu; exact a3 sz els sz' els' hj ho
        | succ j => exact b4 j u' sz els sz' els' (by simpa using hj) (by simpa using hu) (by simpa using ho)
end
end Go.Proofs.Ytpbonfgmiffomaa.Wm
set_option linter.unusedSimpArgs false
set_option linter.unusedVariables false
namespace Go.Proofs.Ytpbonfgmiffomaa.Wm
open Go
def rsOf (P : Program) : List ResultVar → Option (List (Nat × Option (Option Nat)))
  | [] => some []
  | .tmp t :: l => match rsOf P l with
    | some r => some ((t, none) :: r)
    | none => none
  | .cell a ty :: l => match aggN P ty, rsOf P l with
    | some s, some r => some ((a, some s) :: r)
    | _, _ => none
structure IsFn (P : Program) (own : FuncId → List Nat) (f : FuncId) (vc : Vc) (nt : Nat) (rs : List (Nat × Option (Option Nat))) : Prop where
  ex : ∃ A A1 A2 B fn c, P.funcs[f]? = some fn ∧ fn.body = some c ∧ conv P own A A1 A2 B c = some vc ∧ fn.ntmps = nt ∧ rsOf P fn.results.toList = some rs ∧ (fn.name == "runtime.NumGoroutine") = false
  nt : nt ≤ 99999
section
variable {P : Program} {G : Nat → Option (List D)} {w0 : World} {L X0 X1 : Nat → Prop} {w w' w2 : World} {tm : Array Value} {fr : Fr} {ρ ρ' : Place} {X : K → Nat → Prop} {H : Heap}
def resVal (us : List Value) : Value := match us with
  | [u] => u
  | us => .tuple us.toArray
def readRes (tmps : Array Value) : ResultVar → Sem Value
  | .tmp t => pure (tmps.getD t undef)
  | .cell a t => do loadVar t (← asAddr (tmps.getD a undef))
theorem loadAt_spec {t : TypeId} {v u : Value} (h : (Instr.loadAt t v).run P w = .ok u w) : (do loadVar t (← asAddr v) : Sem Value).run P w = .ok u w := by
  unfold Instr.loadAt at h
  cases v with
  | pointer p =>
    cases p with
    | some A => simpa [Instr.sureAddr, asAddr] using h
    | none => simp [Instr.sureAddr] at h
  | _ => simp [Instr.sureAddr] at h
theorem tmp_sound {a : Act} (h : FR G w0 L X0 w a.tmps fr ρ) (t : Nat) : RepE w (XX w0 X0 fr.heap ρ) fr.heap ρ (oval G fr.env (.tmp t)) (a.tmps.getD t undef) := by
  simp only [oval]
  split
  · rename_i x hx; exact h.env t x hx
  · exact .dead _
theorem resXs_sound {a : Act} (h : FR G w0 L X0 w a.tmps fr ρ) : ∀ {vs : List ResultVar} {rs : List (Nat × Option (Option Nat))} {xs : List V}, rsOf P vs = some rs → resXs G fr rs = some xs →
    ∃ us : List Value, us.length = xs.length ∧ (∀ (i : Nat) (x : V) (u : Value), xs[i]? = some x → us[i]? = some u → RepE w (XX w0 X0 fr.heap ρ) fr.heap ρ x u) ∧ (List.mapM (readRes a.tmps) vs).run P w = .ok us w
  | [], rs, xs, hr, he => by
    simp only [rsOf] at hr
    obtain rfl := Option.some.inj hr
    simp only [resXs] at he
    obtain rfl := Option.some.inj he
    exact ⟨[], rfl, fun i x u q => by simp at q, by simp⟩
  | r :: vs, rs, xs, hr, he => by
    have step : ∀ {r0 : Nat × Option (Option Nat)} {rs' : List (Nat × Option (Option Nat))}, rsOf P vs = some rs' → resXs G fr (r0 :: rs') = some xs → (∀ x, resX G fr r0 = some x → ∃ u, RepE w (XX w0 X0 fr.heap ρ) fr.heap ρ x u ∧ (readRes a.tmps r).run P w = .ok u w) →
        ∃ us : List Value, us.length = xs.length ∧ (∀ (i : Nat) (x : V) (u : Value), xs[i]? = some x → us[i]? = some u → RepE w (XX w0 X0 fr.heap ρ) fr.heap ρ x u) ∧ (List.mapM (readRes a.tmps) (r :: vs)).run P w = .ok us w := by
      intro r0 rs' h1 he hd
      simp only [resXs] at he
      split at he
      · rename_i x hx
        split at he
        · rename_i xs' hxs
          obtain rfl := Option.some.inj he
          obtain ⟨us, k1, k2, k3⟩ := resXs_sound h h1 hxs
          obtain ⟨u, c1, c2⟩ := hd x hx
          refine ⟨u :: us, by simp [k1], fun i y v q1 q2 => ?_, ?_⟩
          · cases i with
            | zero => simp at q1 q2; subst q1; subst q2; exact c1
            | succ i => exact k2 i y v (by simpa using q1) (by simpa using q2)
          · simp only [List.mapM_cons, Sem.run_bind, c2, Result.andThen_ok, k3, Sem.run_pure]
        · simp at he
      · simp at he
    cases r with
    | tmp t =>
      simp only [rsOf] at hr
      split at hr
      · rename_i rs' h1
        obtain rfl := Option.some.inj hr
        refine step h1 he fun x hx => ?_
        simp only [resX] at hx
        obtain rfl := Option.some.inj hx
        exact ⟨_, tmp_sound h t, by simp [readRes]⟩
      · simp at hr
    | cell t ty =>
      simp only [rsOf] at hr
      split at hr
      · rename_i s rs' h0 h1
        obtain rfl := Option.some.inj hr
        refine step h1 he fun x hx => ?_
        simp only [resX] at hx
        obtain ⟨u, b1, b2⟩ := loadV_sound (Qw := Ext w) (fun _ h => h) h h0 (tmp_sound h t) hx
        exact ⟨u, b2, loadAt_spec (b1 w (Ext.refl w))⟩
      · simp at hr
theorem results_run {fn : Func} {tmps : Array Value} {us : List Value} (key : (List.mapM (readRes tmps) fn.results.toList).run P w = .ok us w) : (results fn tmps).run P w = .ok (resVal us) w := by
  have h : fn.results = fn.results.toList.toArray := by simp
  unfold results
  rw [h]
  rw [List.mapM_toArray]
  simp only [Sem.run_bind, Sem.run_map]
  have key' : ∀ f : ResultVar → Sem Value, f = readRes tmps → (List.mapM f fn.results.toList).run P w = .ok us w := fun f hf => hf ▸ key
  rw [key' _ (by funext r; cases r <;> rfl)]
  simp only [Result.andThen_ok, Sem.run_pure]
  cases us with
  | nil => rfl
  | cons r rs => cases rs with
    | nil => rfl
    | cons r' rs => simp [resVal]
theorem resD_sound {ds : List D} {us : List Value} {φ : Nat → Nat → Prop} (h : RepVs w X ds us φ) : RepV w X (resD ds) (resVal us) (AllF ds.length φ) := by
  obtain ⟨h1, h2, h3⟩ := h
  have tup : us.length = ds.length → RepV w X (.tup ds) (.tuple us.toArray) (AllF ds.length φ) := fun hl =>
    .tup ds us.toArray φ _ (fun b => Iff.rfl) h2 (by simp [hl]) fun i d v q1 q2 => h3 i d v q1 (by simpa using q2)
  cases ds with
  | nil => obtain rfl := List.eq_nil_of_length_eq_zero (by simpa using h1); exact tup rfl
  | cons d ds =>
    obtain ⟨u, us, rfl⟩ := List.exists_cons_of_ne_nil (l := us) (by rintro rfl; simp at h1)
    cases ds with
    | nil =>
      obtain rfl := List.eq_nil_of_length_eq_zero (l := us) (by simpa using h1)
      refine (h3 0 d u rfl rfl).congr fun b => ?_
      constructor
      · rintro ⟨i, hi, hb⟩
        obtain rfl : i = 0 := by simpa using hi
        exact hb
      · intro hb; exact ⟨0, by simp, hb⟩
    | cons d' ds =>
      obtain ⟨u', us, rfl⟩ := List.exists_cons_of_ne_nil (l := us) (by rintro rfl; simp at h1)
      exact tup h1
def noP : Place := ⟨fun _ => none, fun _ _ => False⟩
theorem ow_nil {sz : Nat} {els : List (List D)} {v : Value} {F : Nat → Prop} (h : RepC w X (.sh .own sz els) v F) {a : Option Addr} (hv : v = .slice a 0 0) : els = [] := by
  cases h with
  | plain d v F hF h =>
    cases h with
    | sh k sz els A c vf hk => exact absurd rfl hk
    | shn k sz hk => exact absurd rfl hk
  | own0 => rfl
  | own => simp at hv; exact hv.2.1
open Classical in
theorem callFn_sound {C : Cx} (hC : CSound P C) (hwide : P.follows .mixedOrders = true) {f : FuncId} {vc : Vc} {nt : Nat} {rs : List (Nat × Option (Option Nat))} (hf : IsFn P C.own f vc nt rs) :
    SoundFn P C.gl (C.own f) f (fun ds => if (C.own f).length ≤ nt then callFn C (C.own f) vc nt rs ds else none) := by
  intro w X ds vs fs φ d outs hflat hr hF hXs hgl hnf he
  simp only at he
  split at he
  · rename_i hlen
    obtain ⟨A, A1, A2, B, fn, c, h1, h2, h3, h4, h5, h6⟩ := hf.ex
    obtain ⟨r1, r2, r3⟩ := hr
    let U : Nat → Prop := fun i => (∃ sz, ds[i]? = some (.ow sz [])) ∧ ∃ a, fs[i]? = some (.slice a 0 0)
    let ψ : Nat → Nat → Prop := fun i b => φ i b ∧ ¬ U i
    have hψ : ∀ b, AllF ds.length ψ b → AllF ds.length φ b := fun b ⟨i, hi, hb⟩ => ⟨i, hi, hb.1⟩
    have hrψ : RepVs w (fun k b => k = .fresh ∨ X b) ds fs ψ := by
      refine ⟨r1, fun i j b hi hj q1 q2 => r2 i j b hi hj q1.1 q2.1, fun i d v q1 q2 => ?_⟩
      have hd := (r3 i d v q1 q2).nf (X' := fun k b => k = .fresh ∨ X b) (fun b _ q => q.resolve_left (by simp)) (nfL_get hnf q1)
      by_cases hU : U i
      · obtain ⟨⟨sz, e1⟩, a, e2⟩ := hU
        rw [q1] at e1; rw [q2] at e2
        obtain rfl := Option.some.inj e1
        obtain rfl := Option.some.inj e2
        exact .ow _ _ _ _ (.own0 sz a _ fun b hb => absurd ⟨⟨sz, q1⟩, a, q2⟩ hb.2)
      · exact hd.congr fun b => ⟨fun q => q.1, fun q => ⟨q, hU⟩⟩
    unfold callFn at he
    split at he
    · rename_i fr hargs
      refine calls_of_wp h1 h2 ?_
      rw [h4]
      have e0 : ∀ b, (X b ∧ ¬ AllF ds.length ψ b) ∨ AllF ds.length ψ b → X b := fun b hb => hb.elim (fun q => q.1) fun q => hF b (hψ b q)
      have hXX : ∀ k b, b < w.heap.size → XX w (fun b => (X b ∧ ¬ AllF ds.length ψ b) ∨ AllF ds.length ψ b) [] noP k b → (k = .fresh ∨ X b) := fun k b _ hx => by
        rcases hx with hx | hx | ⟨b', B, h1, _, _⟩
        · exact .inr (e0 b hx)
        · exact .inl hx.1
        · simp [look] at h1
      have h0 : FR C.gl w (AllF ds.length ψ) (fun b => (X b ∧ ¬ AllF ds.length ψ b) ∨ AllF ds.length ψ b) w (vs.toArray ++ Array.replicate (nt - vs.toArray.size) undef) ⟨[], [], nt⟩ noP := by
        refine ⟨Chg.refl _ _, fun b hb => hXs b (e0 b hb), fun b B hb => by simp [look] at hb, fun b b' B B' g hb => by simp [look] at hb, fun b B g hb => by simp [look] at hb, fun b B g hb => by simp [look] at hb, fun t x hx => by simp [look] at hx, ?_, fun g cs hg => ?_⟩
        · simp [hflat.len.1]; omega
        · obtain ⟨g1, g2⟩ := hgl g cs hg
          exact ⟨g2.1.nf (fun b hb q => (hXX .lent b hb q).resolve_left (by simp)) (by simpa only [nf] using g1), g2.2⟩
      obtain ⟨ρ, a1, a2, a3, a5, a6, a4⟩ := argsFr_sound (w := w) (C.own f) (i := 0) (ds := ds) (Xb := fun b => X b ∧ ¬ AllF ds.length ψ b) (Z := fun k b => k = .fresh ∨ X b) (vs := vs) (us := fs) (φ := ψ) hflat h0 (fun b hb => ⟨fun hx => hx.2 hb, .inl hb⟩) hrψ hXX
        (fun j u hj => by
          have hj' : j < vs.length := (List.getElem?_eq_some_iff.1 hj).1
          simp only [Nat.zero_add]
          rw [Array.getD_eq_getD_getElem?, Array.getElem?_append_left (by simpa using hj')]
          simp [hj]) hargs
      split at he
      · simp at he
      · rename_i ex fr1 hne hvx
        refine vx_sound hC rfl hwide (fr' := fr1) c h3 (a := { tmps := vs.toArray ++ Array.replicate (nt - vs.toArray.size) undef, defers := [] }) a1 (by rw [a3]; exact hf.nt) hvx ?_
        rintro a' w' ⟨ρ', b1, b2, b3, b4⟩
        unfold finD at he
        split at he
        · rename_i xs hxs
          obtain ⟨us', u1, u2, u3⟩ := resXs_sound b1 h5 hxs
          cases ht : takeT fr1.heap xs with
          | mk rd p =>
            obtain ⟨H2, f2⟩ := p
            simp only [ht] at he
            obtain ⟨θ, t1, t2, t3⟩ := takeT_sound b1 u1 u2 ht
            cases ho : outsD H2 (idsOf 0 (C.own f) ds) ds with
            | mk os p2 =>
              obtain ⟨H3, f3⟩ := p2
              simp only [ho] at he
              obtain ⟨rfl, rfl⟩ := by simpa using he
              have hA : ∀ (j : Nat) (d : D) (u : Value) (b : Nat), ds[j]? = some d → fs[j]? = some u → (idsOf 0 (C.own f) ds)[j]? = some b → ArgOk w' H2 ρ' b d u (ψ j) := fun j d u b q1 q2 q3 =>
                have hbig := a6 b (List.mem_of_getElem? q3)
                ((a4 j d u b q1 q2 q3).keep hbig b4 b1.chg.own).keep hbig (Keep.of_htr t1.2.2.1) (fun _ _ h => h)
              obtain ⟨χ, o1, o2, o3, o4⟩ := outsD_sound ds (bs := idsOf 0 (C.own f) ds) (us := fs) (φ := ψ) (fr := { fr1 with heap := H2 }) t1.1 r1 a5 a6 hA ho
              obtain ⟨m1, m2⟩ := t1.trans o1
              simp only [t1.2.1] at o2
              have hvl : fs.length = ds.length := r1
              let W : Nat → Prop := fun i => U i ∧ ∃ sz els, os[i]? = some (.ow sz els)
              let κ : Nat → Nat → Prop := fun i b => χ i b ∨ (W i ∧ φ i b)
              have hWX : ∀ i b, U i → i < ds.length → φ i b → X b ∧ ¬ AllF ds.length ψ b := fun i b hU hi hb => ⟨hF b ⟨i, hi, hb⟩, fun ⟨j, hj, hq⟩ => by
                have := r2 i j b hi hj hb hq.1
                subst this
                exact hq.2 hU⟩
              have hR : ∀ b, AllF rd.length θ b → ¬ (X b ∧ ¬ AllF ds.length ψ b) ∧ (AllF ds.length ψ b ∨ w.heap.size ≤ b) := fun b hb => by
                obtain ⟨q1, q2⟩ := t1.2.2.2 b hb
                exact ⟨q1, q2.imp (fun q => q.2) id⟩
              have hχ : ∀ b, AllF os.length χ b → ¬ (X b ∧ ¬ AllF ds.length ψ b) ∧ ¬ AllF rd.length θ b ∧ (AllF ds.length ψ b ∨ w.heap.size ≤ b) := fun b hb => by
                obtain ⟨q1, q2⟩ := o1.2.2.2 b hb
                exact ⟨fun q => q1 (.inl q), fun q => q1 (.inr q), q2.imp (fun q => q.2) id⟩
              have hκ : ∀ b, AllF os.length κ b → AllF os.length χ b ∨ ∃ i, i < ds.length ∧ U i ∧ φ i b := by
                rintro b ⟨i, hi, hb | hb⟩
                · exact .inl ⟨i, hi, hb⟩
                · exact .inr ⟨i, by omega, hb.1.1, hb.2⟩
              have hsub : ∀ k b, b < w'.heap.size → XR w X (AllF ds.length φ) (fun b => AllF rd.length θ b ∨ AllF os.length κ b) k b → XX w (fun b => X b ∧ ¬ AllF ds.length ψ b) fr1.heap ρ' k b := by
                intro k b _ hx
                rcases hx with hx | hx | hx | hx
                · exact .inr (.inl hx)
                · exact .inl ⟨hx.1, fun q => hx.2 (hψ b q)⟩
                · rw [← t1.2.1]; exact .inl (.inr hx)
                · rcases hκ b hx with hx | ⟨i, hi, hU, hb⟩
                  · rw [← t1.2.1]
                    have := o1.2.1
                    simp only at this
                    rw [← this]
                    exact .inl (.inr hx)
                  · exact .inl (hWX i b hU hi hb)
              have hst : Stay w' w' (XX w (fun b => X b ∧ ¬ AllF ds.length ψ b) fr1.heap ρ') (XR w X (AllF ds.length φ) (fun b => AllF rd.length θ b ∨ AllF os.length κ b)) := ⟨fun _ _ _ _ => rfl, hsub⟩
              have hsz := b1.chg.size
              have hpost : a'.defers = [] ∧ ∃ v, (results fn a'.tmps).run P w' = .ok v w' ∧ ∃ v' R χ', Ending.returned v = .returned v' ∧ Chg w w' (AllF ds.length φ) ∧
                  RepV w' (XR w X (AllF ds.length φ) (fun b => R b ∨ AllF os.length χ' b)) (resD rd) v' R ∧ RepVs w' (XR w X (AllF ds.length φ) (fun b => R b ∨ AllF os.length χ' b)) os fs χ' ∧
                  (∀ b, R b → ¬ AllF os.length χ' b) ∧ (∀ b, R b ∨ AllF os.length χ' b → AllF ds.length φ b ∨ w.heap.size ≤ b) ∧
                  (∀ (i sz : Nat) (els : List (List D)) (sz' : Nat) (els' : List (List D)) (u : Value), ds[i]? = some (.ow sz els) → os[i]? = some (.ow sz' els') → fs[i]? = some u → ∀ b, MainV u (φ i) b → χ' i b) := by
                refine ⟨b2, _, results_run u3, _, AllF rd.length θ, κ, rfl, b1.chg.mono hψ, (resD_sound t2).stay hst fun _ _ => rfl, ⟨o2.1, fun i j b hi hj q1 q2 => ?_, fun i d v q1 q2 => ?_⟩, fun b hb hb' => ?_, fun b hb => ?_, fun i sz els sz' els' u q1 q2 qu b hb => ?_⟩
                · rcases q1 with q1 | q1 <;> rcases q2 with q2 | q2
                  · exact o2.2.1 i j b hi hj q1 q2
                  · exact absurd (hWX j b q2.1.1 (by omega) q2.2) (hχ b ⟨i, hi, q1⟩).1
                  · exact absurd (hWX i b q1.1.1 (by omega) q1.2) (hχ b ⟨j, hj, q2⟩).1
                  · exact r2 i j b (by omega) (by omega) q1.2 q2.2
                · have hi : i < os.length := (List.getElem?_eq_some_iff.1 q1).1
                  have hb := (o2.2.2 i d v q1 q2).stay hst fun _ _ => rfl
                  by_cases hW : W i
                  · obtain ⟨⟨⟨sz, e1⟩, a, e2⟩, sz', els', e3⟩ := hW
                    rw [q1] at e3; rw [q2] at e2
                    obtain rfl := Option.some.inj e3
                    obtain rfl := Option.some.inj e2
                    have : els' = [] := by
                      generalize hv : Value.slice a 0 0 = v at hb
                      cases hb with
                      | plain _ _ _ _ h => cases h
                      | ow sz els v F h => exact ow_nil h hv.symm
                    subst this
                    refine .ow _ _ _ _ (.own0 _ _ _ fun b q => ?_)
                    rcases q with q | q
                    · exact hb.old b q
                    · exact Nat.lt_of_lt_of_le (hXs b (hF b ⟨i, by omega, q.2⟩)) hsz
                  · exact hb.congr fun b => ⟨fun q => q.elim id fun q => absurd q.1 hW, .inl⟩
                · rcases hκ b hb' with hb' | ⟨i, hi, hU, hb'⟩
                  · exact (hχ b hb').2.1 hb
                  · exact (hR b hb).1 (hWX i b hU hi hb')
                · rcases hb with hb | hb
                  · exact (hR b hb).2.imp (hψ b) id
                  · rcases hκ b hb with hb | ⟨i, hi, hU, hb⟩
                    · exact (hχ b hb).2.2.imp (hψ b) id
                    · exact .inl ⟨i, hi, hb⟩
                · have hi : i < fs.length := by rw [hvl]; exact (List.getElem?_eq_some_iff.1 q1).1
                  have hqu : fs[i] = u := by rw [List.getElem?_eq_getElem hi] at qu; exact Option.some.inj qu
                  by_cases hU : U i
                  · refine .inr ⟨⟨hU, sz', els', q2⟩, ?_⟩
                    obtain ⟨_, a, e2⟩ := hU
                    rw [qu] at e2
                    obtain rfl := Option.some.inj e2
                    rcases hb with ⟨_, hb⟩ | ⟨k, n, c, e, hc⟩
                    · exact hb
                    · simp at e; omega
                  · rcases o4 i fs[i] sz els sz' els' q1 (List.getElem?_eq_getElem hi) q2 with q | ⟨rfl, rfl, a, q⟩
                    · rw [hqu] at q
                      exact .inl (q b (hb.imp (fun q => ⟨q.1, q.2, hU⟩) id))
                    · exact absurd ⟨⟨sz, q1⟩, a, by rw [List.getElem?_eq_getElem hi, q]⟩ hU
              cases ex with
              | normal => exact hpost
              | ret => exact hpost
              | exit id => exact (hne id rfl).elim
        · simp at he
      · simp at he
    · simp at he
  · simp at he
end
end Go.Proofs.Ytpbonfgmiffomaa.Wm
set_option linter.unusedSimpArgs false
set_option linter.unusedVariables false
namespace Go.Proofs.Ytpbonfgmiffomaa.Wm
open Go
structure Tab where
  own : FuncId → List Nat
  fn : FuncId → Option (Vc × Nat × List (Nat × Option (Option Nat)))
  ext : FuncId → Option (List D → Option (D × List D))
  gl : Nat → Option (List D)
noncomputable def lev (T : Tab) : Nat → FuncId → List D → Option (D × List D)
  | 0, _, _ => none
  | n + 1, f, ds => match T.ext f with
    | some F => F ds
    | none => match T.fn f with
      | some (vc, nt, rs) => if (T.own f).length ≤ nt then callFn ⟨T.own, lev T n, T.gl⟩ (T.own f) vc nt rs ds else none
      | none => none
structure TabOk (P : Program) (T : Tab) : Prop where
  wide : P.follows .mixedOrders = true
  fn : ∀ f vc nt rs, T.fn f = some (vc, nt, rs) → IsFn P T.own f vc nt rs
  ext : ∀ f F, T.ext f = some F → SoundFn P T.gl (T.own f) f F ∧ okFn P f
  nf : ∀ g cs, T.gl g = some cs → nfL cs = true
theorem lev_sound {P : Program} {T : Tab} (hT : TabOk P T) : ∀ n, CSound P ⟨T.own, lev T n, T.gl⟩
  | 0 => ⟨fun f ds r h => by simp [lev] at h, fun f w X ds vs fs φ d outs _ _ _ _ _ _ h => by simp [lev] at h, hT.nf⟩
  | n + 1 => by
    have ih := lev_sound hT n
    refine ⟨fun f ds r h => ?_, fun f => ?_, hT.nf⟩
    · simp only [lev] at h
      split at h
      · rename_i F hF; exact (hT.ext f F hF).2
      · split at h
        · rename_i vc nt rs hf
          obtain ⟨A, A1, A2, B, fn, c, h1, h2, h3, h4, h5, h6⟩ := (hT.fn f vc nt rs hf).ex
          exact ⟨fn, h1, by simp [h2], h6⟩
        · simp at h
    · intro w X ds vs fs φ d outs hfl hr hX0 hX hg hn h
      simp only [lev] at h
      split at h
      · rename_i F hF; exact (hT.ext f F hF).1 w X ds vs fs φ d outs hfl hr hX0 hX hg hn h
      · split at h
        · rename_i vc nt rs hf
          exact callFn_sound ih hT.wide (hT.fn f vc nt rs hf) w X ds vs fs φ d outs hfl hr hX0 hX hg hn h
        · simp at h
end Go.Proofs.Ytpbonfgmiffomaa.Wm
set_option linter.unusedSimpArgs false
set_option linter.unusedVariables false
namespace Go.Proofs.Ytpbonfgmiffomaa.Wm
open Go
noncomputable def recExt (T : Tab) (R : FuncId → Option Nat) : Nat → FuncId → Option (List D → Option (D × List D))
  | 0, f => match R f with
    | some _ => some fun _ => none
    | none => T.ext f
  | k + 1, f => match R f with
    | some N => some fun ds => match T.fn f with
      | some (vc, nt, rs) => if (T.own f).length ≤ nt then callFn ⟨T.own, lev ⟨T.own, T.fn, recExt T R k, T.gl⟩ N, T.gl⟩ (T.own f) vc nt rs ds else none
      | none => none
    | none => T.ext f
noncomputable def recTab (T : Tab) (R : FuncId → Option Nat) (k : Nat) : Tab := ⟨T.own, T.fn, recExt T R k, T.gl⟩
theorem recTab_ok {P : Program} {T : Tab} {R : FuncId → Option Nat} (hT : TabOk P T) (hR : ∀ f N, R f = some N → ∃ p, T.fn f = some p) : ∀ k, TabOk P (recTab T R k) := by
  have ok : ∀ f p, T.fn f = some p → okFn P f := fun f p hf => by
    obtain ⟨vc, nt, rs⟩ := p
    obtain ⟨A, A1, A2, B, fn, c, h1, h2, h3, h4, h5, h6⟩ := (hT.fn f vc nt rs hf).ex
    exact ⟨fn, h1, by simp [h2], h6⟩
  intro k
  induction k with
  | zero =>
    refine ⟨hT.wide, hT.fn, fun f F hF => ?_, hT.nf⟩
    simp only [recTab, recExt] at hF
    split at hF
    · rename_i N hN
      obtain rfl := Option.some.inj hF
      obtain ⟨p, hp⟩ := hR f N hN
      exact ⟨fun w X ds vs fs φ d outs _ _ _ _ _ _ h => by simp at h, ok f p hp⟩
    · exact hT.ext f F hF
  | succ k ih =>
    refine ⟨hT.wide, hT.fn, fun f F hF => ?_, hT.nf⟩
    simp only [recTab, recExt] at hF
    split at hF
    · rename_i N hN
      obtain rfl := Option.some.inj hF
      obtain ⟨p, hp⟩ := hR f N hN
      refine ⟨?_, ok f p hp⟩
      obtain ⟨vc, nt, rs⟩ := p
      intro w X ds vs fs φ d outs hfl hr hX0 hX hg hn h
      simp only [hp] at h
      exact callFn_sound (lev_sound ih N) hT.wide (hT.fn f vc nt rs hp) w X ds vs fs φ d outs hfl hr hX0 hX hg hn h
    · exact hT.ext f F hF
section
variable {T : Tab} {R : FuncId → Option Nat} {k n N : Nat} {f : FuncId} {ds : List D} {vc : Vc} {nt : Nat} {rs : List (Nat × Option (Option Nat))}
theorem lev_rec0 (hR : R f = some N) : lev (recTab T R 0) (n + 1) f ds = none := by
  simp only [lev, recTab, recExt, hR]
theorem lev_rec (hR : R f = some N) (hf : T.fn f = some (vc, nt, rs)) (hl : (T.own f).length ≤ nt) :
    lev (recTab T R (k + 1)) (n + 1) f ds = callFn ⟨T.own, lev (recTab T R k) N, T.gl⟩ (T.own f) vc nt rs ds := by
  simp only [lev, recTab, recExt, hR, hf, hl, if_true]
end
end Go.Proofs.Ytpbonfgmiffomaa.Wm
set_option linter.unusedSimpArgs false
set_option linter.unusedVariables false
namespace Go.Proofs.Ytpbonfgmiffomaa.Wm
open Go
inductive Kont (β : Type) where
  | seq (c : Vc)
  | block (id : Nat)
  | fin (k : Ex → Fr → Option β)
noncomputable def plug {β : Type} (C : Cx) : List (Kont β) → Ex → Fr → Option β
  | [], _, _ => none
  | .fin k :: _, e, fr => k e fr
  | .seq b :: K, .normal, fr => (vx C b fr).bind fun r => plug C K r.1 r.2
  | .seq _ :: K, e, fr => plug C K e fr
  | .block id :: K, .exit j, fr => if j = id then plug C K .normal fr else plug C K (.exit j) fr
  | .block _ :: K, e, fr => plug C K e fr
noncomputable def run {β : Type} (C : Cx) (K : List (Kont β)) (c : Vc) (fr : Fr) : Option β := (vx C c fr).bind fun r => plug C K r.1 r.2
noncomputable def runR {β : Type} (C : Cx) (K : List (Kont β)) (h : Option Hint) (l : List Vop) (fr : Fr) : Option β := (steps C fr l).bind fun fr1 => (tidyO h fr1).bind fun fr2 => plug C K .normal fr2
noncomputable def contV {β : Type} (C : Cx) (K : List (Kont β)) (h : Option Hint) (l : List Vop) (d : Option Nat) (fr : Fr) (r : Option V) : Option β := r.bind fun y => (putV fr d y).bind fun fr1 => runR C K h l fr1
noncomputable def contH {β : Type} (C : Cx) (K : List (Kont β)) (h : Option Hint) (l : List Vop) (d : Option Nat) (fr : Fr) (r : Option (V × Heap)) : Option β := r.bind fun p => (putV { fr with heap := p.2 } d p.1).bind fun fr1 => runR C K h l fr1
noncomputable def contF {β : Type} (C : Cx) (K : List (Kont β)) (r : Option Fr) : Option β := r.bind fun fr2 => plug C K .normal fr2
noncomputable def contT {β : Type} (C : Cx) (K : List (Kont β)) (c : Vc) (r : Option Fr) : Option β := r.bind fun fr1 => run C K c fr1
def condR {β : Type} (v : V) (x y : Option β) : Option β := match v with
  | .val (.bool t) => if t = true then x else y
  | _ => none
section
variable {β : Type} {C : Cx} {K : List (Kont β)} {c a b : Vc} {fr : Fr} {id j : Nat} {h : Option Hint} {l : List Vop} {d : Option Nat} {e : Ex}
theorem run_skip : run C K .skip fr = plug C K .normal fr := rfl
theorem run_exit : run C K (.exit id) fr = plug C K (.exit id) fr := rfl
theorem run_ret : run C K .ret fr = plug C K .ret fr := rfl
theorem run_seq : run C K (.seq a b) fr = run C (.seq b :: K) a fr := by
  unfold run
  simp only [vx]
  cases vx C a fr with
  | none => rfl
  | some r => obtain ⟨e, fr1⟩ := r; cases e <;> rfl
theorem contT_some : contT C K c (some fr) = run C K c fr := rfl
theorem run_cond {c : Od} {ha hb : Option Hint} : run C K (.cond c ha hb a b) fr = condR (oval C.gl fr.env c) (contT C K a (tidyO ha fr)) (contT C K b (tidyO hb fr)) := by
  unfold run condR contT
  simp only [vx]
  generalize oval C.gl fr.env c = v
  cases v with
  | val d => cases d with
    | bool t => cases t with
      | true => simp only [if_true, run]; cases tidyO ha fr <;> rfl
      | false => simp only [Bool.false_eq_true, if_false, run]; cases tidyO hb fr <;> rfl
    | _ => rfl
  | _ => rfl
theorem run_block : run C K (.block id c) fr = run C (.block id :: K) c fr := by
  unfold run
  simp only [vx]
  cases vx C c fr with
  | none => rfl
  | some r =>
    obtain ⟨e, fr1⟩ := r
    cases e with
    | exit j =>
      simp only [plug, Option.bind_some]
      split <;> rfl
    | _ => rfl
theorem run_region {main : List Vop} : run C K (.region main [] h) fr = runR C K h main fr := by
  unfold run runR
  simp only [vx]
  cases steps C fr main with
  | none => rfl
  | some fr1 =>
    simp only [Option.bind_some]
    cases tidyO h fr1 <;> rfl
theorem plug_fin {k : Ex → Fr → Option β} : plug C (.fin k :: K) e fr = k e fr := by cases e <;> rfl
theorem plug_seq : plug C (.seq b :: K) .normal fr = run C K b fr := rfl
theorem plug_seq_exit : plug C (.seq b :: K) (.exit j) fr = plug C K (.exit j) fr := rfl
theorem plug_seq_ret : plug C (.seq b :: K) .ret fr = plug C K .ret fr := rfl
theorem plug_block : plug C (.block id :: K) (.exit j) fr = if j = id then plug C K .normal fr else plug C K (.exit j) fr := rfl
theorem plug_block_normal : plug C (.block id :: K) .normal fr = plug C K .normal fr := rfl
theorem plug_block_ret : plug C (.block id :: K) .ret fr = plug C K .ret fr := rfl
theorem runR_nil : runR C K h [] fr = contF C K (tidyO h fr) := rfl
theorem contF_some : contF C K (some fr) = plug C K .normal fr := rfl
theorem contV_some {y : V} {env : List (Nat × V)} {H : Heap} {nt t : Nat} (ht : t < nt) : contV C K h l (some t) ⟨env, H, nt⟩ (some y) = runR C K h l ⟨(t, y) :: env, H, nt⟩ := by
  unfold contV putV
  simp [ht]
theorem contV_none_dst {y : V} : contV C K h l none fr (some y) = runR C K h l fr := rfl
theorem contV_none : contV C K h l d fr none = none := rfl
theorem contV_bind {α : Type} {r : Option α} {f : α → Option V} : contV C K h l d fr (r.bind f) = r.bind fun x => contV C K h l d fr (f x) := by cases r <;> rfl
theorem contV_map {α : Type} {r : Option α} {f : α → V} : contV C K h l d fr (r.map f) = r.bind fun x => contV C K h l d fr (some (f x)) := by cases r <;> rfl
theorem contV_ite {p : Prop} [Decidable p] {x y : Option V} : contV C K h l d fr (if p then x else y) = if p then contV C K h l d fr x else contV C K h l d fr y := by split <;> rfl
theorem contH_some {y : V} {env : List (Nat × V)} {H H' : Heap} {nt t : Nat} (ht : t < nt) : contH C K h l (some t) ⟨env, H, nt⟩ (some (y, H')) = runR C K h l ⟨(t, y) :: env, H', nt⟩ := by
  unfold contH putV
  simp [ht]
theorem contH_none_dst {y : V} {env : List (Nat × V)} {H H' : Heap} {nt : Nat} : contH C K h l none ⟨env, H, nt⟩ (some (y, H')) = runR C K h l ⟨env, H', nt⟩ := rfl
theorem contH_none : contH C K h l d fr none = none := rfl
theorem contH_bind {α : Type} {r : Option α} {f : α → Option (V × Heap)} : contH C K h l d fr (r.bind f) = r.bind fun x => contH C K h l d fr (f x) := by cases r <;> rfl
theorem contH_ite {p : Prop} [Decidable p] {x y : Option (V × Heap)} : contH C K h l d fr (if p then x else y) = if p then contH C K h l d fr x else contH C K h l d fr y := by split <;> rfl
theorem condR_bool {t : Bool} {x y : Option β} : condR (.val (.bool t)) x y = if t = true then x else y := rfl
theorem runR_quiet {i : I} (hq : heavy i = false) : runR C K h (⟨d, i, none⟩ :: l) fr = contV C K h l d fr (evq fr.heap (oval C.gl fr.env) i) := by
  unfold runR contV
  simp only [steps, stepO, step1, eff_quiet hq]
  cases evq fr.heap (oval C.gl fr.env) i with
  | none => rfl
  | some y =>
    simp only [putR, Option.bind_some]
    have : ({ fr with heap := fr.heap } : Fr) = fr := rfl
    cases putV fr d y <;> rfl
theorem runR_heavy {i : I} : runR C K h (⟨d, i, none⟩ :: l) fr = contH C K h l d fr (eff C (oval C.gl fr.env) fr.heap (d.getD 99999) i) := by
  unfold runR contH
  simp only [steps, stepO, step1]
  cases eff C (oval C.gl fr.env) fr.heap (d.getD 99999) i with
  | none => rfl
  | some p =>
    obtain ⟨y, H⟩ := p
    simp only [putR, Option.bind_some]
    cases putV { fr with heap := H } d y <;> rfl
theorem oval_hit {gl : Nat → Option (List D)} {t : Nat} {x : V} {env : List (Nat × V)} : oval gl ((t, x) :: env) (.tmp t) = x := by simp [oval, look]
theorem oval_miss {gl : Nat → Option (List D)} {s t : Nat} {x : V} {env : List (Nat × V)} (h : s ≠ t) : oval gl ((s, x) :: env) (.tmp t) = oval gl env (.tmp t) := by simp [oval, look, h]
theorem oval_cst {gl : Nat → Option (List D)} {v : D} {env : List (Nat × V)} : oval gl env (.cst v) = .val v := rfl
theorem oval_emp {gl : Nat → Option (List D)} {sz : Nat} {env : List (Nat × V)} : oval gl env (.emp sz) = .emp sz := rfl
theorem look_hit {α : Type} {t : Nat} {x : α} {l : List (Nat × α)} : look t ((t, x) :: l) = some x := by simp [look]
theorem look_miss {α : Type} {s t : Nat} {x : α} {l : List (Nat × α)} (h : s ≠ t) : look t ((s, x) :: l) = look t l := by simp [look, h]
theorem look_nil {α : Type} {t : Nat} : look t ([] : List (Nat × α)) = none := rfl
end
end Go.Proofs.Ytpbonfgmiffomaa.Wm
set_option linter.unusedSimpArgs false
set_option linter.unusedVariables false
namespace Go.Proofs.Ytpbonfgmiffomaa.Wm
open Go
section
variable {β : Type} {C : Cx} {K : List (Kont β)} {env : List (Nat × V)} {H : Heap} {nt : Nat} {h : Option Hint} {l : List Vop} {d : Option Nat} {x y c a b : Od} {op : BinOp} {s : Option Nat} {k n o sz : Nat}
theorem w_mov : runR C K h (⟨d, .mov x, none⟩ :: l) ⟨env, H, nt⟩ = contV C K h l d ⟨env, H, nt⟩ (some ((oval C.gl env) x)) := runR_quiet rfl
def pickV (c a b : V) : Option V := match c with
  | .val (.bool t) => if t = true then some a else some b
  | _ => none
theorem w_pick : runR C K h (⟨d, .pick c a b, none⟩ :: l) ⟨env, H, nt⟩ = contV C K h l d ⟨env, H, nt⟩ (pickV ((oval C.gl env) c) ((oval C.gl env) a) ((oval C.gl env) b)) := by
  rw [runR_quiet rfl]
  congr 1
  simp only [evq, pickV]
  generalize oval C.gl env c = v
  cases v with
  | val d => cases d with
    | bool t => cases t <;> rfl
    | _ => rfl
  | _ => rfl
theorem w_ld : runR C K h (⟨d, .ld s x, none⟩ :: l) ⟨env, H, nt⟩ = contV C K h l d ⟨env, H, nt⟩ (loadV H s ((oval C.gl env) x)) := runR_quiet rfl
theorem w_fad : runR C K h (⟨d, .fad k x, none⟩ :: l) ⟨env, H, nt⟩ = contV C K h l d ⟨env, H, nt⟩ (fadV H k ((oval C.gl env) x)) := runR_quiet rfl
def fldV (o : Nat) (s : Option Nat) (x : V) : Option V := match aggCells x with
  | some vs => partV s o vs
  | none => none
theorem w_fld : runR C K h (⟨d, .fld o s x, none⟩ :: l) ⟨env, H, nt⟩ = contV C K h l d ⟨env, H, nt⟩ (fldV o s ((oval C.gl env) x)) := runR_quiet rfl
def nchkV (H : Heap) (x : V) : Option V := match x with
    | .pt b o => match look b H with
      | some (.var _ _) => some (.pt b o)
      | _ => none
    | .ep b i o => match look b H with
      | some (.row _ _ _) => some (.ep b i o)
      | _ => none
    | .val (.ptr cs) => some (.val (.ptr cs))
    | _ => none
theorem w_nchk : runR C K h (⟨d, .nchk x, none⟩ :: l) ⟨env, H, nt⟩ = contV C K h l d ⟨env, H, nt⟩ (nchkV H ((oval C.gl env) x)) := runR_quiet rfl
def extV (i : Nat) (x : V) : Option V := match tupCells x with
  | some vs => vs[i]?
  | none => none
theorem w_ext : runR C K h (⟨d, .ext k x, none⟩ :: l) ⟨env, H, nt⟩ = contV C K h l d ⟨env, H, nt⟩ (extV k ((oval C.gl env) x)) := runR_quiet rfl
theorem w_iad : runR C K h (⟨d, .iad sz x y, none⟩ :: l) ⟨env, H, nt⟩ = contV C K h l d ⟨env, H, nt⟩ (iadV H sz ((oval C.gl env) x) ((oval C.gl env) y)) := runR_quiet rfl
theorem w_iada : runR C K h (⟨d, .iada n sz x y, none⟩ :: l) ⟨env, H, nt⟩ = contV C K h l d ⟨env, H, nt⟩ (iadaV H n sz ((oval C.gl env) x) ((oval C.gl env) y)) := runR_quiet rfl
theorem w_idx : runR C K h (⟨d, .idx n sz s x y, none⟩ :: l) ⟨env, H, nt⟩ = contV C K h l d ⟨env, H, nt⟩ (idxV n sz s ((oval C.gl env) x) ((oval C.gl env) y)) := runR_quiet rfl
theorem w_sidx : runR C K h (⟨d, .sidx x y, none⟩ :: l) ⟨env, H, nt⟩ = contV C K h l d ⟨env, H, nt⟩ (sidxV ((oval C.gl env) x) ((oval C.gl env) y)) := runR_quiet rfl
theorem w_sli {lo hi mx : Option Od} : runR C K h (⟨d, .sli sz x lo hi mx, none⟩ :: l) ⟨env, H, nt⟩ = contV C K h l d ⟨env, H, nt⟩ (sliV H sz ((oval C.gl env) x) (lo.map (oval C.gl env)) (hi.map (oval C.gl env)) (mx.map (oval C.gl env))) := runR_quiet rfl
theorem w_ssl {lo hi : Option Od} : runR C K h (⟨d, .ssl x lo hi, none⟩ :: l) ⟨env, H, nt⟩ = contV C K h l d ⟨env, H, nt⟩ (sslV ((oval C.gl env) x) (lo.map (oval C.gl env)) (hi.map (oval C.gl env))) := runR_quiet rfl
theorem w_bin : runR C K h (⟨d, .bin op x y, none⟩ :: l) ⟨env, H, nt⟩ = contV C K h l d ⟨env, H, nt⟩ (binV op ((oval C.gl env) x) ((oval C.gl env) y)) := runR_quiet rfl
theorem w_binb : runR C K h (⟨d, .binb op x y, none⟩ :: l) ⟨env, H, nt⟩ = contV C K h l d ⟨env, H, nt⟩ (binbV op ((oval C.gl env) x) ((oval C.gl env) y)) := runR_quiet rfl
theorem w_bine : runR C K h (⟨d, .bine op x y, none⟩ :: l) ⟨env, H, nt⟩ = contV C K h l d ⟨env, H, nt⟩ (bineV op ((oval C.gl env) x) ((oval C.gl env) y)) := runR_quiet rfl
theorem w_un {op : UnOp} : runR C K h (⟨d, .un op x, none⟩ :: l) ⟨env, H, nt⟩ = contV C K h l d ⟨env, H, nt⟩ (unV op ((oval C.gl env) x)) := runR_quiet rfl
theorem w_cvi {k : IntKind} : runR C K h (⟨d, .cvi k x, none⟩ :: l) ⟨env, H, nt⟩ = contV C K h l d ⟨env, H, nt⟩ (cviV k ((oval C.gl env) x)) := runR_quiet rfl
theorem w_cvs : runR C K h (⟨d, .cvs x, none⟩ :: l) ⟨env, H, nt⟩ = contV C K h l d ⟨env, H, nt⟩ (cvsV H ((oval C.gl env) x)) := runR_quiet rfl
def bldV (r : Od → V) (zs : List V) (ps : List Part) : Option V := match fillV r zs ps with
  | some cs => some (.agg cs)
  | none => none
theorem w_bld {zs : List V} {ps : List Part} : runR C K h (⟨d, .bld zs ps, none⟩ :: l) ⟨env, H, nt⟩ = contV C K h l d ⟨env, H, nt⟩ (bldV (oval C.gl env) zs ps) := runR_quiet rfl
theorem w_mkf {f : FuncId} {cap : List Od} : runR C K h (⟨d, .mkf f cap, none⟩ :: l) ⟨env, H, nt⟩ = contV C K h l d ⟨env, H, nt⟩ (some (.fn f (cap.map (oval C.gl env)))) := runR_quiet rfl
theorem w_len : runR C K h (⟨d, .len x, none⟩ :: l) ⟨env, H, nt⟩ = contV C K h l d ⟨env, H, nt⟩ (lenV H ((oval C.gl env) x)) := runR_quiet rfl
theorem w_lens : runR C K h (⟨d, .lens x, none⟩ :: l) ⟨env, H, nt⟩ = contV C K h l d ⟨env, H, nt⟩ (lensV ((oval C.gl env) x)) := runR_quiet rfl
theorem w_sla : runR C K h (⟨d, .sla n x, none⟩ :: l) ⟨env, H, nt⟩ = contV C K h l d ⟨env, H, nt⟩ (slaV n (oval C.gl env x)) := runR_quiet rfl
theorem w_lena : runR C K h (⟨d, .lena n, none⟩ :: l) ⟨env, H, nt⟩ = contV C K h l d ⟨env, H, nt⟩ (some (.val (.int .i64 n))) := runR_quiet rfl
theorem w_mm {mx : Bool} {xs : List Od} : runR C K h (⟨d, .mm mx xs, none⟩ :: l) ⟨env, H, nt⟩ = contV C K h l d ⟨env, H, nt⟩ (minMax mx (xs.map (oval C.gl env))) := runR_quiet rfl
theorem w_box : runR C K h (⟨d, .box s x, none⟩ :: l) ⟨env, H, nt⟩ = contH C K h l d ⟨env, H, nt⟩ (evm (oval C.gl env) H (d.getD 99999) (.box s x)) := runR_heavy
theorem w_alc {zs : List V} : runR C K h (⟨d, .alc zs, none⟩ :: l) ⟨env, H, nt⟩ = contH C K h l d ⟨env, H, nt⟩ (evm (oval C.gl env) H (d.getD 99999) (.alc zs)) := runR_heavy
theorem w_bsl {zs : List D} {ps : List Part} : runR C K h (⟨d, .bsl sz zs n ps, none⟩ :: l) ⟨env, H, nt⟩ = contH C K h l d ⟨env, H, nt⟩ (evm (oval C.gl env) H (d.getD 99999) (.bsl sz zs n ps)) := runR_heavy
theorem w_msl {zs : List D} {by_ : Nat} : runR C K h (⟨d, .msl sz by_ zs x y, none⟩ :: l) ⟨env, H, nt⟩ = contH C K h l d ⟨env, H, nt⟩ (evm (oval C.gl env) H (d.getD 99999) (.msl sz by_ zs x y)) := runR_heavy
def stR (r : Option Heap) : Option (V × Heap) := match r with
  | some H => some (.dead, H)
  | none => none
theorem w_st : runR C K h (⟨d, .st s a x, none⟩ :: l) ⟨env, H, nt⟩ = contH C K h l d ⟨env, H, nt⟩ (stR (evs (oval C.gl env) H (.st s a x))) := runR_heavy
theorem w_app {by_ : Nat} : runR C K h (⟨d, .app sz by_ a x, none⟩ :: l) ⟨env, H, nt⟩ = contH C K h l d ⟨env, H, nt⟩ (eva (oval C.gl env) H (d.getD 99999) (.app sz by_ a x)) := runR_heavy
def callR (C : Cx) (H : Heap) (d : Nat) (r : Option (FuncId × List V)) : Option (V × Heap) := match r with
  | some (g, ys) => evcG C H d g ys
  | none => none
theorem w_call {f : Od} {xs : List Od} : runR C K h (⟨d, .call f xs, none⟩ :: l) ⟨env, H, nt⟩ = contH C K h l d ⟨env, H, nt⟩ (callR C H (d.getD 99999) (callV (oval C.gl env) f xs)) := runR_heavy
theorem w_guard {i : I} {t : Nat} {want : Bool} {fr : Fr} : runR C K h (⟨d, i, some (t, want)⟩ :: l) fr = (condV (oval C.gl fr.env (.tmp t)) want).bind fun c => if c = true then runR C K h (⟨d, i, none⟩ :: l) fr else contV C K h l d fr (some (.tup [])) := by
  unfold runR contV
  simp only [steps, stepO]
  cases condV (oval C.gl fr.env (.tmp t)) want with
  | none => rfl
  | some c =>
    cases c with
    | true => rfl
    | false =>
      simp only [Option.bind_some, Bool.false_eq_true, if_false]
      cases putV fr d (.tup []) <;> rfl
theorem condV_true {b : Bool} : condV (.val (.bool b)) true = some b := by cases b <;> rfl
theorem condV_false {b : Bool} : condV (.val (.bool b)) false = some (!b) := by cases b <;> rfl
theorem condV_undef {want : Bool} : condV (.tup []) want = some false := rfl
end
end Go.Proofs.Ytpbonfgmiffomaa.Wm
set_option linter.unusedSimpArgs false
set_option linter.unusedVariables false
namespace Go.Proofs.Ytpbonfgmiffomaa.Wm
open Go
attribute [go_sem] run_skip run_exit run_ret run_seq run_block run_region plug_fin plug_seq plug_seq_exit plug_seq_ret plug_block plug_block_normal plug_block_ret runR_nil contF_some contT_some contV_some contV_none_dst contV_none contV_bind contV_map contV_ite contH_some contH_none_dst contH_none contH_bind contH_ite
attribute [go_sem] oval_hit oval_miss oval_cst oval_emp look_hit look_miss look_nil
attribute [go_sem] w_mov w_pick w_ld w_fad w_fld w_nchk w_ext w_iad w_iada w_idx w_sidx w_sli w_ssl w_bin w_binb w_bine w_un w_cvi w_cvs w_bld w_mkf w_len w_lens w_lena w_mm w_box w_alc w_bsl w_msl w_st w_app w_call
theorem renB_row {r : Nat → Option Nat} {o : Bool} {sz : Nat} {els : List (List D)} : renB r (.row o sz els) = .row o sz els := rfl
theorem renB_var {r : Nat → Option Nat} {o : Bool} {cs : List V} : renB r (.var o cs) = .var o (renL r cs) := rfl
theorem renB_gone {r : Nat → Option Nat} : renB r .gone = .gone := rfl
theorem renB_awayR {r : Nat → Option Nat} {sz len : Nat} : renB r (.awayR sz len) = .awayR sz len := rfl
theorem renB_awayV {r : Nat → Option Nat} : renB r .awayV = .awayV := rfl
theorem renC_some {r : Nat → Option Nat} {n : Nat} {rest : Heap} {B : Blk} : renC r n rest (some B) = (n, renB r B) :: rest := rfl
theorem renC_none {r : Nat → Option Nat} {n : Nat} {rest : Heap} : renC r n rest none = rest := rfl
theorem keepC_some {r : Nat → Option Nat} {t : Nat} {rest : List (Nat × V)} {x : V} : keepC r t rest (some x) = (t, renV r x) :: rest := rfl
theorem keepC_none {r : Nat → Option Nat} {t : Nat} {rest : List (Nat × V)} : keepC r t rest none = rest := rfl
attribute [go_sem] renB_row renB_var renB_gone renB_awayR renB_awayV renC_some renC_none keepC_some keepC_none
attribute [go_sem] tidyO tidyA freezeT voidT voidC voids2 oldB okRen renF renH renA renP keepE renV renL rmap List.nil_append inN
attribute [go_sem] ne_eq not_false_eq_true if_true if_false Option.map_some Option.map_none Option.bind_some Option.bind_none Option.getD_some Option.getD_none
attribute [go_sem] pickV fldV nchkV extV aggCells tupCells partV binV intOp shiftOp strOp binbV bineV unV cviV bldV fillV cellsV isCell callR callV bid
attribute [go_sem] List.drop_zero List.take_zero List.drop_succ_cons List.take_succ_cons List.cons_append List.length_cons List.length_nil Nat.zero_add List.map_cons List.map_nil List.all_cons List.all_nil Bool.and_true Bool.true_and
end Go.Proofs.Ytpbonfgmiffomaa.Wm
set_option linter.unusedSimpArgs false
set_option linter.unusedVariables false
namespace Go.Proofs.Ytpbonfgmiffomaa.Wm
open Go
def iterO {σ τ : Type} (step : σ → Option (σ ⊕ τ)) : Nat → σ → Option τ
  | 0, _ => none
  | n + 1, s => match step s with
    | some (.inl s') => iterO step n s'
    | some (.inr t) => some t
    | none => none
theorem iterO_more {σ τ : Type} {step : σ → Option (σ ⊕ τ)} : ∀ {n : Nat} {s : σ} {r : τ}, iterO step n s = some r → iterO step (n + 1) s = some r
  | 0, s, r, h => by simp [iterO] at h
  | n + 1, s, r, h => by
    rw [iterO] at h ⊢
    split at h
    · exact iterO_more h
    · exact h
    · simp at h
theorem iterO_le {σ τ : Type} {step : σ → Option (σ ⊕ τ)} {n m : Nat} {s : σ} {r : τ} (hnm : n ≤ m) (h : iterO step n s = some r) : iterO step m s = some r := by
  induction hnm with
  | refl => exact h
  | step _ ih => exact iterO_more ih
open Classical in
noncomputable def loopO {σ τ : Type} (step : σ → Option (σ ⊕ τ)) (s : σ) : Option τ :=
  if h : ∃ n r, iterO step n s = some r then iterO step h.choose s else none
theorem loopO_iff {σ τ : Type} {step : σ → Option (σ ⊕ τ)} {s : σ} {r : τ} : loopO step s = some r ↔ ∃ n, iterO step n s = some r := by
  unfold loopO
  constructor
  · intro h
    split at h
    · rename_i hh; exact ⟨_, h⟩
    · simp at h
  · rintro ⟨n, hn⟩
    have hh : ∃ n r, iterO step n s = some r := ⟨n, r, hn⟩
    rw [dif_pos hh]
    obtain ⟨r', hr'⟩ := hh.choose_spec
    rw [hr']
    have a1 := iterO_le (Nat.le_max_left n hh.choose) hn
    have a2 := iterO_le (Nat.le_max_right n hh.choose) hr'
    rw [a1] at a2
    exact a2.symm
theorem loopO_eq {σ τ : Type} (step : σ → Option (σ ⊕ τ)) (s : σ) : loopO step s = match step s with
    | some (.inl s') => loopO step s'
    | some (.inr t) => some t
    | none => none := by
  apply Option.ext
  intro r
  rw [loopO_iff]
  constructor
  · rintro ⟨n, hn⟩
    cases n with
    | zero => simp [iterO] at hn
    | succ n =>
      rw [iterO] at hn
      split at hn
      · exact loopO_iff.2 ⟨n, hn⟩
      · exact hn
      · simp at hn
  · intro h
    split at h
    · obtain ⟨n, hn⟩ := loopO_iff.1 h
      rename_i h1
      exact ⟨n + 1, by rw [iterO, h1]; exact hn⟩
    · rename_i h1
      exact ⟨1, by rw [iterO, h1]; exact h⟩
    · simp at h
noncomputable def loopK {β : Type} (C : Cx) (K : List (Kont β)) (k : Fr → Option β) : Ex → Fr → Option β
  | .normal, fr => k fr
  | e, fr => plug C K e fr
section
variable {β : Type} {C : Cx} {K : List (Kont β)}
theorem loopK_normal {k : Fr → Option β} {fr : Fr} : loopK C K k .normal fr = k fr := rfl
theorem loopK_exit {k : Fr → Option β} {fr : Fr} {j : Nat} : loopK C K k (.exit j) fr = plug C K (.exit j) fr := rfl
theorem loopK_ret {k : Fr → Option β} {fr : Fr} : loopK C K k .ret fr = plug C K .ret fr := rfl
theorem loop_once {c : Vc} {fr : Fr} : run C K (.loop c) fr = run C [.fin (loopK C K (fun f => run C K (.loop c) f))] c fr := by
  unfold run
  simp only [vx]
  rw [vloop_eq]
  cases vx C c fr with
  | none => rfl
  | some r => obtain ⟨e, fr1⟩ := r; cases e <;> rfl
theorem loop_run {σ τ : Type} {c : Vc} (step : σ → Option (σ ⊕ τ)) (F : σ → Fr) (fin : τ → Option β)
    (h : ∀ (k : Fr → Option β) (s : σ), run C [.fin (loopK C K k)] c (F s) = (step s).bind fun r => match r with | .inl s' => k (F s') | .inr t => fin t) (s : σ) :
    run C K (.loop c) (F s) = (loopO step s).bind fin := by
  have one : ∀ (k : Fr → Option β) (fr : Fr), run C [.fin (loopK C K k)] c fr = (vx C c fr).bind fun r => match r.1 with | .normal => k r.2 | e => plug C K e r.2 := fun k fr => by
    unfold run
    cases vx C c fr with
    | none => rfl
    | some r => obtain ⟨e, fr1⟩ := r; cases e <;> rfl
  have key : ∀ n s, (iter (vx C c) n (F s)).bind (fun r => plug C K r.1 r.2) = (iterO step n s).bind fin := by
    intro n
    induction n with
    | zero => intro s; rfl
    | succ n ih =>
      intro s
      have h1 := h (fun fr => (iter (vx C c) n fr).bind (fun r => plug C K r.1 r.2)) s
      rw [one] at h1
      have l : (iter (vx C c) (n + 1) (F s)).bind (fun r => plug C K r.1 r.2) = (vx C c (F s)).bind fun r => match r.1 with | .normal => (iter (vx C c) n r.2).bind (fun r => plug C K r.1 r.2) | e => plug C K e r.2 := by
        rw [iter]
        cases vx C c (F s) with
        | none => rfl
        | some r => obtain ⟨e, fr1⟩ := r; cases e <;> rfl
      rw [l, h1, iterO]
      cases step s with
      | none => rfl
      | some r => cases r with
        | inl s' => exact ih s'
        | inr t => rfl
  unfold run
  simp only [vx]
  apply Option.ext
  intro r
  constructor
  · intro hr
    obtain ⟨x, hx, hp⟩ := Option.bind_eq_some_iff.1 hr
    obtain ⟨n, hn⟩ := vloop_iff.1 hx
    have := key n s
    rw [hn] at this
    simp only [Option.bind_some] at this
    rw [hp] at this
    obtain ⟨t, ht, hf⟩ := Option.bind_eq_some_iff.1 this.symm
    exact Option.bind_eq_some_iff.2 ⟨t, loopO_iff.2 ⟨n, ht⟩, hf⟩
  · intro hr
    obtain ⟨t, ht, hf⟩ := Option.bind_eq_some_iff.1 hr
    obtain ⟨n, hn⟩ := loopO_iff.1 ht
    have := key n s
    rw [hn] at this
    simp only [Option.bind_some] at this
    rw [hf] at this
    obtain ⟨x, hx, hp⟩ := Option.bind_eq_some_iff.1 this
    exact Option.bind_eq_some_iff.2 ⟨x, vloop_iff.2 ⟨n, hx⟩, hp⟩
def finK (gl : Nat → Option (List D)) (rs : List (Nat × Option (Option Nat))) (bs : List Nat) (ds : List D) : Ex → Fr → Option (D × List D)
  | .exit _, _ => none
  | _, fr => finD gl rs bs ds fr
theorem finK_ret {gl : Nat → Option (List D)} {rs : List (Nat × Option (Option Nat))} {bs : List Nat} {ds : List D} {fr : Fr} : finK gl rs bs ds .ret fr = finD gl rs bs ds fr := rfl
theorem finK_normal {gl : Nat → Option (List D)} {rs : List (Nat × Option (Option Nat))} {bs : List Nat} {ds : List D} {fr : Fr} : finK gl rs bs ds .normal fr = finD gl rs bs ds fr := rfl
theorem lev_fn {T : Tab} {n : Nat} {f : FuncId} {vc : Vc} {nt : Nat} {rs : List (Nat × Option (Option Nat))} {ds : List D} (he : T.ext f = none) (hf : T.fn f = some (vc, nt, rs)) (hl : (T.own f).length ≤ nt) :
    lev T (n + 1) f ds = (argsFr 0 (T.own f) ds ⟨[], [], nt⟩).bind fun fr => run ⟨T.own, lev T n, T.gl⟩ [.fin (finK T.gl rs (idsOf 0 (T.own f) ds) ds)] vc fr := by
  simp only [lev, he, hf, if_pos hl, callFn]
  cases argsFr 0 (T.own f) ds ⟨[], [], nt⟩ with
  | none => rfl
  | some fr =>
    simp only [Option.bind_some, run]
    cases vx ⟨T.own, lev T n, T.gl⟩ vc fr with
    | none => rfl
    | some r => obtain ⟨e, fr1⟩ := r; cases e <;> simp only [Option.bind_some, plug_fin] <;> rfl
theorem evc_eq {ms : List Nat} {H : Heap} {dst : Nat} {f : FuncId} {xs : List V} : evc C ms H dst f xs = (takes H ms xs).bind fun p => (lends p.2.1 ms xs p.1).bind fun ds => (C.fn f ds).bind fun r =>
    if (!usesL ms xs || (clean r.1 && cleanL r.2)) = true then (backs p.2.2 (bid dst + 100) p.2.1 ms xs r.2).bind fun H2 => (inst p.2.2 (bid dst) H2 r.1).bind fun q => some (q.1, q.2.1) else none := by
  unfold evc
  cases takes H ms xs with
  | none => rfl
  | some p =>
    obtain ⟨os, H1, fl⟩ := p
    simp only [Option.bind_some]
    cases lends H1 ms xs os with
    | none => rfl
    | some ds =>
      simp only [Option.bind_some]
      cases C.fn f ds with
      | none => rfl
      | some r =>
        obtain ⟨res, outs⟩ := r
        simp only [Option.bind_some]
        have : (usesL ms xs = true → (clean res && cleanL outs) = true) ↔ (!usesL ms xs || (clean res && cleanL outs)) = true := by
          cases usesL ms xs <;> simp
        simp only [this]
        split
        · cases backs fl (bid dst + 100) H1 ms xs outs with
          | none => rfl
          | some H2 =>
            simp only [Option.bind_some]
            cases inst fl (bid dst) H2 res with
            | none => rfl
            | some q => rfl
        · rfl
end
theorem bind_map' {α β γ : Type} {o : Option α} {f : α → β} {g : β → Option γ} : (o.map f).bind g = o.bind fun x => g (f x) := by cases o <;> rfl
theorem bind_assoc' {α β γ : Type} {o : Option α} {f : α → Option β} {g : β → Option γ} : (o.bind f).bind g = o.bind fun x => (f x).bind g := by cases o <;> rfl
theorem map_bind' {α β γ : Type} {o : Option α} {f : α → Option β} {g : β → γ} : (o.bind f).map g = o.bind fun x => (f x).map g := by cases o <;> rfl
theorem map_map' {α β γ : Type} {o : Option α} {f : α → β} {g : β → γ} : (o.map f).map g = o.map fun x => g (f x) := by cases o <;> rfl
theorem ite_bind' {α β : Type} {p : Prop} [Decidable p] {x y : Option α} {g : α → Option β} : (if p then x else y).bind g = if p then x.bind g else y.bind g := by split <;> rfl
theorem ite_map' {α β : Type} {p : Prop} [Decidable p] {x y : Option α} {g : α → β} : (if p then x else y).map g = if p then x.map g else y.map g := by split <;> rfl
def rowE {α : Type} (f : α → List D) (xs : List α) : List (List D) := xs.map f
def eI (k : IntKind) (n : Int) : List D := [.int k n]
def eB (b : Bool) : List D := [.bool b]
def eS (s : List UInt8) : List D := [.str s]
def eL {α : Type} (k : K) (sz : Nat) (f : α → List D) (xs : List α) : List D := [.sh k sz (rowE f xs)]
section
variable {α : Type} {f : α → List D} {xs ys : List α} {H : Heap} {sz : Nat} {k : K}
theorem rowE_len : (rowE f xs).length = xs.length := by simp [rowE]
theorem rowE_take_len : (rowE f xs).take xs.length = rowE f xs := by
  rw [← rowE_len (f := f) (xs := xs)]; exact List.take_length
theorem rowE_drop {n : Nat} : (rowE f xs).drop n = rowE f (xs.drop n) := by simp [rowE]
theorem rowE_take {n : Nat} : (rowE f xs).take n = rowE f (xs.take n) := by simp [rowE]
theorem rowE_app : rowE f xs ++ rowE f ys = rowE f (xs ++ ys) := by simp [rowE]
theorem rowE_get {i : Nat} : (rowE f xs)[i]? = xs[i]?.map f := by simp [rowE]
theorem rowE_getI {i : Int} : getI (rowE f xs) i = (getI xs i).map f := by unfold getI; split <;> simp [rowE]
theorem rowE_int {k : IntKind} {a : Int} : ([[D.int k a]] : List (List D)) = rowE (eI k) [a] := rfl
theorem rowE_int_cons {k : IntKind} {a : Int} {l : List Int} : ([D.int k a] :: rowE (eI k) l : List (List D)) = rowE (eI k) (a :: l) := rfl
theorem rowE_bool {a : Bool} : ([[D.bool a]] : List (List D)) = rowE eB [a] := rfl
theorem rowE_bool_cons {a : Bool} {l : List Bool} : ([D.bool a] :: rowE eB l : List (List D)) = rowE eB (a :: l) := rfl
theorem rowE_str {a : List UInt8} : ([[D.str a]] : List (List D)) = rowE eS [a] := rfl
theorem rowE_str_cons {a : List UInt8} {l : List (List UInt8)} : ([D.str a] :: rowE eS l : List (List D)) = rowE eS (a :: l) := rfl
theorem rowE_rep {n : Nat} {k : IntKind} {a : Int} : List.replicate n [D.int k a] = rowE (eI k) (List.replicate n a) := by simp [rowE, eI]
theorem rowE_set_int {k : IntKind} {a : Int} {l : List Int} {i : Nat} : (rowE (eI k) l).set i [D.int k a] = rowE (eI k) (l.set i a) := by simp [rowE, eI, List.map_set]
theorem rowE_set_bool {a : Bool} {l : List Bool} {i : Nat} : (rowE eB l).set i [D.bool a] = rowE eB (l.set i a) := by simp [rowE, eB, List.map_set]
theorem rowE_set_str {a : List UInt8} {l : List (List UInt8)} {i : Nat} : (rowE eS l).set i [D.str a] = rowE eS (l.set i a) := by simp [rowE, eS, List.map_set]
theorem lentE_row (h : ∀ x, lentL (f x) = f x) : lentE (rowE f xs) = rowE f xs := by
  rw [lentE_map]; unfold rowE; rw [List.map_map]; exact List.map_congr_left fun x _ => h x
theorem lentE_int {k : IntKind} {xs : List Int} : lentE (rowE (eI k) xs) = rowE (eI k) xs := lentE_row fun _ => rfl
theorem lentE_bool {xs : List Bool} : lentE (rowE eB xs) = rowE eB xs := lentE_row fun _ => rfl
theorem lentE_str {xs : List (List UInt8)} : lentE (rowE eS xs) = rowE eS xs := lentE_row fun _ => rfl
theorem cleanE_row (h : ∀ x, cleanL (f x) = true) : cleanE (rowE f xs) = true := by
  induction xs with
  | nil => rfl
  | cons x xs ih => simp only [rowE, List.map_cons, cleanE, Bool.and_eq_true]; exact ⟨h x, ih⟩
theorem cleanE_int {k : IntKind} {xs : List Int} : cleanE (rowE (eI k) xs) = true := cleanE_row fun _ => rfl
theorem cleanE_bool {xs : List Bool} : cleanE (rowE eB xs) = true := cleanE_row fun _ => rfl
theorem cleanE_str {xs : List (List UInt8)} : cleanE (rowE eS xs) = true := cleanE_row fun _ => rfl
theorem allCell_row (h : ∀ x, cellL (f x) = true) : allCell (rowE f xs) = true := by
  induction xs with
  | nil => rfl
  | cons x xs ih => simp only [rowE, List.map_cons, allCell, Bool.and_eq_true]; exact ⟨h x, ih⟩
theorem allCell_int {k : IntKind} {xs : List Int} : allCell (rowE (eI k) xs) = true := allCell_row fun _ => rfl
theorem allCell_bool {xs : List Bool} : allCell (rowE eB xs) = true := allCell_row fun _ => rfl
theorem allCell_str {xs : List (List UInt8)} : allCell (rowE eS xs) = true := allCell_row fun _ => rfl
theorem iad_sh {j : IntKind} {i : Int} : iadV H sz (.val (.sh k sz (rowE f xs))) (.val (.int j i)) = (getI xs i).map fun x => .val (.ptr (f x)) := by
  simp only [iadV, if_true, rowE_getI]
  cases getI xs i <;> rfl
def iadR (b : Nat) (sz : Nat) (o n : Nat) (i : Int) : Option Blk → Option V
  | some (.row _ sz' els) => if sz' = sz then (match getI ((els.drop o).take n) i with
        | some _ => some (.ep b (o + i.toNat) 0)
        | none => none) else none
  | _ => none
theorem iad_sl {j : IntKind} {i : Int} {b o n : Nat} : iadV H sz (.sl b o n) (.val (.int j i)) = iadR b sz o n i (look b H) := by
  simp only [iadV, iadR]
  cases look b H with
  | none => rfl
  | some B => cases B <;> rfl
theorem iadR_full {b : Nat} {i : Int} {old : Bool} : iadR b sz 0 xs.length i (some (.row old sz (rowE f xs))) = (getI xs i).bind fun _ => some (.ep b i.toNat 0) := by
  simp only [iadR, if_true, List.drop_zero, rowE_take_len, rowE_getI, Nat.zero_add]
  cases getI xs i <;> rfl
end
end Go.Proofs.Ytpbonfgmiffomaa.Wm
set_option linter.unusedSimpArgs false
set_option linter.unusedVariables false
namespace Go.Proofs.Ytpbonfgmiffomaa.Wm
open Go
attribute [go_sem] condV_true condV_false condV_undef loopK_normal loopK_exit loopK_ret finK_ret finK_normal bind_map' bind_assoc' map_bind' map_map' ite_bind' ite_map'
attribute [go_sem] inst1 inst instT instC instL free base finD resXs resX takeT takeV takeC takeL eD eE outsD outA resD Bool.false_eq_true Bool.not_true Bool.not_false Bool.false_and Bool.true_or Bool.false_or Bool.or_true Bool.or_false Bool.and_false Bool.and_self Bool.or_self
attribute [go_sem] takes takeA lendV lendP lendC lentD lentL usesL usesB clean cleanL backs updB List.any_cons List.any_nil beq_iff_eq
attribute [go_sem] rowE_len rowE_take_len rowE_drop rowE_take rowE_app rowE_get rowE_getI rowE_int rowE_int_cons rowE_bool rowE_bool_cons rowE_str rowE_str_cons rowE_rep lentE_int lentE_bool lentE_str cleanE_int cleanE_bool cleanE_str allCell_int allCell_bool allCell_str iad_sh iad_sl iadR_full
attribute [go_sem] eI eB eS List.getElem?_cons_zero List.getElem?_cons_succ lenV lensV bslEls plainL plainV List.replicate_succ List.replicate_zero List.set_cons_zero List.set_cons_succ
attribute [go_sem] decide_true decide_false rowE_set_int rowE_set_bool rowE_set_str splice and_true true_and and_self
theorem ite_cong {β : Type} {c : Bool} {x y u v : Option β} (h1 : c = true → x = u) (h2 : c = false → y = v) : (if c = true then x else y) = if c = true then u else v := by
  cases c with
  | true => simpa using h1 rfl
  | false => simpa using h2 rfl
def consO : Option (List D) → Option D → Option (List D)
  | some ds, some d => some (d :: ds)
  | _, _ => none
section
variable {H : Heap} {m o i b sz : Nat} {ms : List Nat} {x : V} {xs : List V} {os : List (Option D)} {d : D} {ds : List D} {α : Type} {l : List α} {r : Option α} {old : Bool}
theorem lends_nil : lends H [] [] [] = some [] := rfl
theorem lends_none : lends H (m :: ms) (x :: xs) (none :: os) = consO (lends H ms xs os) (lendE H m x) := by
  simp only [lends]
  cases lends H ms xs os with
  | none => rfl
  | some ds => cases lendE H m x <;> rfl
theorem lends_some : lends H (m :: ms) (x :: xs) (some d :: os) = consO (lends H ms xs os) (some d) := by
  simp only [lends]
  cases lends H ms xs os <;> rfl
theorem consO_some : consO (some ds) (some d) = some (d :: ds) := rfl
theorem consO_left {f : α → Option (List D)} {y : Option D} : consO (r.bind f) y = r.bind fun x => consO (f x) y := by cases r <;> rfl
theorem consO_right {f : α → Option D} : consO (some ds) (r.bind f) = r.bind fun x => consO (some ds) (f x) := by cases r <;> rfl
theorem lendEp_row {f : α → List D} : lendEp o i (some (.row old sz (rowE f l))) = (l[i]?).bind fun x => some (.ptr (lentL ((f x).drop o))) := by
  simp only [lendEp, rowE, List.getElem?_map]
  cases l[i]? <;> rfl
theorem lendE_ep : lendE H 0 (.ep b i o) = lendEp o i (look b H) := rfl
end
attribute [go_sem] lends_nil lends_none lends_some consO_some consO_left consO_right lendEp_row lendE
end Go.Proofs.Ytpbonfgmiffomaa.Wm
set_option linter.unusedSimpArgs false
set_option linter.unusedVariables false
namespace Go.Proofs.Ytpbonfgmiffomaa.Wm
open Go
theorem ite_cong2 {β : Type} {c c' : Bool} {x y u v : Option β} (h0 : c = c') (h1 : c' = true → x = u) (h2 : c' = false → y = v) : (if c = true then x else y) = if c' = true then u else v := by
  subst h0; exact ite_cong h1 h2
theorem some_ite' {α : Type} {p : Prop} [Decidable p] {x y : α} : some (if p then x else y) = if p then some x else some y := by split <;> rfl
theorem ite_not' {α : Type} {b : Bool} {x y : α} : (if (!b) = true then x else y) = if b = true then y else x := by cases b <;> rfl
theorem sum_bind {α β γ δ : Type} {f : α → Option γ} {g : β → Option γ} {h : γ → Option δ} {x : α ⊕ β} : (Sum.elim f g x).bind h = Sum.elim (fun y => (f y).bind h) (fun y => (g y).bind h) x := by cases x <;> rfl
theorem sum_map {α β γ δ : Type} {f : α → Option γ} {g : β → Option γ} {h : γ → δ} {x : α ⊕ β} : (Sum.elim f g x).map h = Sum.elim (fun y => (f y).map h) (fun y => (g y).map h) x := by cases x <;> rfl
theorem sum_some {α β γ : Type} {f : α → γ} {g : β → γ} {x : α ⊕ β} : some (Sum.elim f g x) = Sum.elim (fun y => some (f y)) (fun y => some (g y)) x := by cases x <;> rfl
attribute [go_sem] some_ite' sum_bind sum_map sum_some Sum.elim_inl Sum.elim_inr
def ldP (s : Option Nat) (o : Nat) : Option Blk → Option V
  | some (.var _ cs) => match s with
      | some n => if o + n ≤ cs.length then some (.agg ((cs.drop o).take n)) else none
      | none => cs[o]?
  | _ => none
def ldC (s : Option Nat) (o : Nat) (el : List D) : Option V := match s with
  | some n => if o + n ≤ el.length ∧ noOwn ((el.drop o).take n) = true then some (.agg (((el.drop o).take n).map .val)) else none
  | none => match el[o]? with
    | some d => if ownD d = true then none else some (.val d)
    | none => none
def ldR (s : Option Nat) (i o : Nat) : Option Blk → Option V
  | some (.row _ _ els) => els[i]?.bind (ldC s o)
  | _ => none
section
variable {H : Heap} {s : Option Nat} {b o i n : Nat} {cs : List V} {ds : List D} {old : Bool} {sz : Nat} {α : Type} {f : α → List D} {xs : List α}
theorem loadV_pt : loadV H s (.pt b o) = ldP s o (look b H) := by
  simp only [loadV, ldP]
  cases look b H with
  | none => rfl
  | some B => cases B <;> rfl
theorem loadV_ep : loadV H s (.ep b i o) = ldR s i o (look b H) := by
  simp only [loadV, ldR]
  cases look b H with
  | none => rfl
  | some B =>
    cases B with
    | row old sz els => simp only []; cases els[i]? <;> rfl
    | _ => rfl
theorem loadV_ptr1 {d : D} : loadV H none (.val (.ptr (d :: ds))) = some (.val d) := rfl
theorem loadV_ptrn : loadV H (some n) (.val (.ptr ds)) = if n ≤ ds.length then some (.agg ((ds.take n).map .val)) else none := rfl
theorem ldP_var : ldP none o (some (.var old cs)) = cs[o]? := rfl
theorem ldP_varn : ldP (some n) o (some (.var old cs)) = if o + n ≤ cs.length then some (.agg ((cs.drop o).take n)) else none := rfl
theorem ldR_row : ldR s i o (some (.row old sz (rowE f xs))) = xs[i]?.bind fun x => ldC s o (f x) := by
  simp only [ldR, rowE_get]; cases xs[i]? <;> rfl
end
attribute [go_sem] loadV_pt loadV_ep loadV_ptr1 ldP_var ldP_varn ldR_row ldC Nat.zero_le Nat.le_refl
end Go.Proofs.Ytpbonfgmiffomaa.Wm
set_option linter.unusedSimpArgs false
set_option linter.unusedVariables false
namespace Go.Proofs.Ytpbonfgmiffomaa.Wm
open Go
def okMake (by_ : Nat) (l : Int) : Bool := decide (0 ≤ l ∧ (by_ : Int) * l ≤ 281474976710656 ∧ l ≤ 9223372036854775807)
def okApp (by_ n : Nat) : Bool := decide (n * by_ ≤ 140737488355328)
def mslF (H : Heap) (id sz : Nat) (zs : List D) (l : Int) : Bool → Option (V × Heap)
  | true => some (.sl id 0 l.toNat, (id, .row false sz (List.replicate l.toNat zs)) :: H)
  | false => none
def mslV (H : Heap) (id sz by_ : Nat) (zs : List D) (l c : V) : Option (V × Heap) := match l, c with
  | .val (.int _ l), .val (.int _ c) => if l = c then (if okMake by_ l = true then mslF H id sz zs l (free id H) else none) else none
  | _, _ => none
section
variable {β : Type} {C : Cx} {K : List (Kont β)} {env : List (Nat × V)} {H : Heap} {nt : Nat} {h : Option Hint} {l : List Vop} {d : Option Nat} {x y c a b : Od} {k n o sz by_ id : Nat} {α : Type} {f : α → List D} {xs ys : List α} {old : Bool} {bb : Nat}
theorem evm_msl {ρ : Od → V} {dst : Nat} {zs : List D} : evm ρ H dst (.msl sz by_ zs x y) = mslV H (bid dst) sz by_ zs (ρ x) (ρ y) := by
  simp only [evm, mslV]
  generalize ρ x = u
  generalize ρ y = v
  cases u with
  | val d => cases d with
    | int k l => cases v with
      | val d => cases d with
        | int k' c =>
          simp only [okMake, decide_eq_true_eq]
          by_cases h1 : l = c
          · subst h1
            simp only [true_and, if_true]
            cases hf : free (bid dst) H with
            | true => simp only [mslF, and_true]; 
            | false => simp [mslF]
          · simp [h1]
        | _ => rfl
      | _ => rfl
    | _ => rfl
  | _ => rfl
theorem mslV_int {zs : List D} {k : IntKind} {l : Int} : mslV H id sz by_ zs (.val (.int k l)) (.val (.int k l)) = if okMake by_ l = true then mslF H id sz zs l (free id H) else none := by simp [mslV]
theorem mslF_int {k : IntKind} {z : Int} {l : Int} : mslF H id sz [.int k z] l true = some (.sl id 0 (List.replicate l.toNat z).length, (id, .row false sz (rowE (eI k) (List.replicate l.toNat z))) :: H) := by
  simp [mslF, rowE_rep]
theorem mslF_bool {z : Bool} {l : Int} : mslF H id sz [.bool z] l true = some (.sl id 0 (List.replicate l.toNat z).length, (id, .row false sz (rowE eB (List.replicate l.toNat z))) :: H) := by
  simp [mslF, rowE, eB]
def elsR (o n : Nat) : Option Blk → Option (Nat × List (List D))
  | some (.row _ sz els) => some (sz, (els.drop o).take n)
  | _ => none
theorem elsOf_sl {b o n : Nat} : elsOf H (.sl b o n) = elsR o n (look b H) := by
  simp only [elsOf, elsR]
  cases look b H with
  | none => rfl
  | some B => cases B <;> rfl
theorem elsOf_sh {k : Wm.K} {els : List (List D)} : elsOf H (.val (.sh k sz els)) = some (sz, els) := rfl
theorem elsOf_emp : elsOf H (.emp sz) = some (sz, []) := rfl
theorem elsR_row {els : List (List D)} : elsR o n (some (.row old sz els)) = some (sz, (els.drop o).take n) := rfl
def appC (id sz by_ : Nat) (old : Bool) (els : List (List D)) (H1 : Heap) : Bool → Option (V × Heap)
  | true => if okApp by_ els.length = true then some (.sl id 0 els.length, (id, .row old sz els) :: H1) else none
  | false => none
def appR (H : Heap) (id sz by_ b o n : Nat) (r : Option Blk) (e : Option (Nat × List (List D))) : Option (V × Heap) := match r, e with
  | some (.row old sz' els), some (sz2, ds) => if sz' = sz then (if sz2 = sz then (if allCell ds = true then appC id sz by_ old ((els.drop o).take n ++ ds) (updB b .gone H) (free id (updB b .gone H)) else none) else none) else none
  | _, _ => none
def appV (H : Heap) (id sz by_ : Nat) (s : V) (e : Option (Nat × List (List D))) : Option (V × Heap) := match s with
  | .sl b o n => appR H id sz by_ b o n (look b H) e
  | .emp _ => match e with
    | some (sz2, ds) => if sz2 = sz then (if allCell ds = true then appC id sz by_ false ds H (free id H) else none) else none
    | none => none
  | _ => none
theorem eva_app {ρ : Od → V} {dst : Nat} : eva ρ H dst (.app sz by_ x y) = appV H (bid dst) sz by_ (ρ x) (elsOf H (ρ y)) := by
  simp only [eva]
  generalize elsOf H (ρ y) = e
  generalize ρ x = s
  cases e with
  | none =>
    cases s <;> first | rfl | skip
    simp only [appV, appR]; split <;> simp_all
  | some p =>
    obtain ⟨sz2, ds⟩ := p
    have key : ∀ (cs : List (List D)) (old : Bool) (H1 : Heap), (if sz2 = sz ∧ allCell ds = true ∧ (cs.length + ds.length) * by_ ≤ 140737488355328 ∧ free (bid dst) H1 = true then some (V.sl (bid dst) 0 (cs.length + ds.length), (bid dst, Blk.row old sz (cs ++ ds)) :: H1) else none) =
        if sz2 = sz then (if allCell ds = true then appC (bid dst) sz by_ old (cs ++ ds) H1 (free (bid dst) H1) else none) else none := by
      intro cs old H1
      by_cases h1 : sz2 = sz
      · by_cases h2 : allCell ds = true
        · cases h3 : free (bid dst) H1 with
          | true => simp [h1, h2, appC, okApp]
          | false => simp [appC]
        · simp [h1, h2]
      · simp [h1]
    cases s with
    | sl b o n =>
      simp only [baseOf, appV, appR]
      cases look b H with
      | none => rfl
      | some B =>
        cases B with
        | row old sz' els =>
          simp only []
          by_cases h : sz' = sz
          · simp only [h, if_true]; exact key _ _ _
          · simp only [h, if_false]
        | _ => rfl
    | emp sz' =>
      simp only [baseOf, appV]
      have := key [] false H
      simpa using this
    | _ => rfl
theorem appC_row : appC id sz by_ old (rowE f xs) H true = if okApp by_ xs.length = true then some (.sl id 0 xs.length, (id, .row old sz (rowE f xs)) :: H) else none := by
  simp only [appC, rowE_len]
theorem rowE_nil : rowE f [] = [] := rfl
end
end Go.Proofs.Ytpbonfgmiffomaa.Wm
set_option linter.unusedSimpArgs false
set_option linter.unusedVariables false
namespace Go.Proofs.Ytpbonfgmiffomaa.Wm
open Go
def bslF (id sz len : Nat) : Option (List (List D) × Heap) → Option (V × Heap)
  | some (els, H1) => if free id H1 = true then some (.sl id 0 len, (id, .row false sz els) :: H1) else none
  | none => none
def boxF (H : Heap) (id : Nat) : Option (List V) → Option (V × Heap)
  | some xs => if free id H = true then some (.pt id 0, (id, .var false xs) :: H) else none
  | none => none
def stP (H : Heap) (b o : Nat) (xs : List V) : Option Blk → Option Heap
  | some (.var old cs) => if o + xs.length ≤ cs.length then some (updB b (.var old (splice cs xs o)) H) else none
  | _ => none
def stE1 (b i o : Nat) (ds : List D) (H1 : Heap) : Option Blk → Option Heap
  | some (.row old sz els) => els[i]?.bind fun el => if o + ds.length ≤ el.length then some (updB b (.row old sz (els.set i (splice el ds o))) H1) else none
  | _ => none
def stE (b i o : Nat) : Option (List D × Heap) → Option Heap
  | some (ds, H1) => stE1 b i o ds H1 (look b H1)
  | none => none
def stA (H : Heap) (xs : List V) : V → Option Heap
  | .pt b o => stP H b o xs (look b H)
  | .ep b i o => stE b i o (plainL H xs)
  | _ => none
def stX (H : Heap) (a : V) : Option (List V) → Option Heap
  | some xs => if xs.all isCell = true then stA H xs a else none
  | none => none
section
variable {β : Type} {C : Cx} {H : Heap} {x y a : Od} {s : Option Nat} {n o sz dst b i len : Nat} {α : Type} {f : α → List D} {xs ys : List α} {old : Bool} {ρ : Od → V} {zs : List D}
theorem evm_box : evm ρ H dst (.box s x) = boxF H (bid dst) (cellsV s (ρ x)) := by
  simp only [evm, boxF]
  cases cellsV s (ρ x) <;> rfl
theorem evm_alc {zs : List V} : evm ρ H dst (.alc zs) = boxF H (bid dst) (some zs) := rfl
theorem evm_bsl {ps : List Part} : evm ρ H dst (.bsl sz zs len ps) = bslF (bid dst) sz len (bslEls ρ sz H (List.replicate len zs) ps) := by
  simp only [evm, bslF]
  cases bslEls ρ sz H (List.replicate len zs) ps <;> rfl
theorem evs_st : evs ρ H (.st s a x) = stX H (ρ a) (cellsV s (ρ x)) := by
  simp only [evs, stX]
  cases cellsV s (ρ x) with
  | none => rfl
  | some xs =>
    simp only []
    split
    · generalize ρ a = v
      cases v with
      | pt b o => 
        simp only [stA, stP]
        cases look b H with
        | none => rfl
        | some B => cases B <;> rfl
      | ep b i o =>
        simp only [stA, stE]
        cases plainL H xs with
        | none => rfl
        | some p =>
          obtain ⟨ds, H1⟩ := p
          simp only [stE1]
          cases look b H1 with
          | none => rfl
          | some B =>
            cases B with
            | row old sz els => simp only []; cases els[i]? <;> rfl
            | _ => rfl
      | _ => rfl
    · rfl
theorem stR_some : stR (some H) = some (.dead, H) := rfl
theorem stR_none : stR none = none := rfl
theorem stR_bind {r : Option α} {g : α → Option Heap} : stR (r.bind g) = r.bind fun x => stR (g x) := by cases r <;> rfl
def cutI (n : Nat) (l h : Int) : Option (Nat × Nat) := if 0 ≤ h ∧ h ≤ (n : Int) then (if 0 ≤ l ∧ l ≤ (h.toNat : Int) then some (l.toNat, h.toNat) else none) else none
def subI (xs : List α) (l h : Int) : Option (List α) := (cutI xs.length l h).map fun p => (xs.drop p.1).take (p.2 - p.1)
theorem cut_oo {j k : IntKind} {l h : Int} : cut n (some (.val (.int j l))) (some (.val (.int k h))) = cutI n l h := by
  simp only [cut, bnd, cutI]
  by_cases h1 : 0 ≤ h ∧ h ≤ (n : Int)
  · simp only [if_pos h1]; split <;> rename_i q <;> split at q <;> simp_all
  · simp only [if_neg h1]
theorem cut_on {j : IntKind} {l : Int} : cut n (some (.val (.int j l))) none = cutI n l n := by
  simp only [cut, bnd, cutI]
  have h1 : (0 : Int) ≤ n ∧ (n : Int) ≤ n := ⟨by omega, by omega⟩
  simp only [if_pos h1, Int.toNat_natCast]
  split <;> rename_i q <;> split at q <;> simp_all
theorem cut_no {k : IntKind} {h : Int} : cut n none (some (.val (.int k h))) = cutI n 0 h := by
  simp only [cut, bnd, cutI]
  by_cases h1 : 0 ≤ h ∧ h ≤ (n : Int)
  · have : (0 : Int) ≤ 0 ∧ (0 : Int) ≤ (h.toNat : Int) := ⟨by omega, by omega⟩
    simp only [if_pos h1, if_pos this]; rfl
  · simp only [if_neg h1]
theorem cut_nn : cut n none none = cutI n 0 n := by
  simp only [cut, bnd, cutI]
  have h1 : (0 : Int) ≤ n ∧ (n : Int) ≤ n := ⟨by omega, by omega⟩
  have h2 : (0 : Int) ≤ 0 ∧ (0 : Int) ≤ ((n : Int).toNat : Int) := ⟨by omega, by omega⟩
  simp only [if_pos h1, if_pos h2]; rfl
def sliR (b sz o : Nat) (c : Option (Nat × Nat)) : Option Blk → Option V
  | some (.row _ sz' els) => if sz' = sz then c.map fun p => .sl b (o + p.1) (p.2 - p.1) else none
  | _ => none
def sliZ (b sz : Nat) : Option Blk → Option V
  | some (.row _ _ els) => some (.emp sz)
  | _ => none
theorem sli_sl {lo hi : Option V} : sliV H sz (.sl b o n) lo hi none = sliR b sz o (cut n lo hi) (look b H) := by
  simp only [sliV, sliR]
  cases look b H with
  | none => rfl
  | some B =>
    cases B with
    | row old sz' els => simp only []; split
                         · cases cut n lo hi <;> rfl
                         · rfl
    | _ => rfl
theorem sliR_row {c : Option (Nat × Nat)} : sliR b sz o c (some (.row old sz (rowE f xs))) = c.map fun p => .sl b (o + p.1) (p.2 - p.1) := by simp [sliR]
theorem sli_sh {k : Wm.K} {lo hi : Option V} : sliV H sz (.val (.sh k sz (rowE f xs))) lo hi none = (cut xs.length lo hi).map fun p => .val (.sh k sz (rowE f ((xs.drop p.1).take (p.2 - p.1)))) := by
  simp only [sliV, if_true, rowE_len]
  cases cut xs.length lo hi with
  | none => rfl
  | some p => simp [rowE]
theorem sli_emp {lo hi : Option V} : sliV H sz (.emp n) lo hi none = (cut 0 lo hi).map fun _ => .emp n := by
  simp only [sliV]
  cases cut 0 lo hi <;> rfl
theorem sliZ_sl {j k : IntKind} : sliV H sz (.sl b o n) none (some (.val (.int j 0))) (some (.val (.int k 0))) = sliZ b sz (look b H) := by
  simp only [sliV, sliZ, isZ, Option.isNone_none, Bool.and_self, if_true]
  cases look b H with
  | none => rfl
  | some B => cases B <;> rfl
theorem sliZ_row {els : List (List D)} : sliZ b sz (some (.row old n els)) = some (.emp sz) := rfl
theorem sliZ_sh {k' : Wm.K} {j k : IntKind} {els : List (List D)} : sliV H sz (.val (.sh k' n els)) none (some (.val (.int j 0))) (some (.val (.int k 0))) = some (.emp sz) := by
  simp [sliV, isZ]
theorem sliZ_emp {j k : IntKind} : sliV H sz (.emp n) none (some (.val (.int j 0))) (some (.val (.int k 0))) = some (.emp sz) := by
  simp [sliV, isZ]
theorem ssl_str {s : List UInt8} {lo hi : Option V} : sslV (.val (.str s)) lo hi = (cut s.length lo hi).map fun p => .val (.str ((s.drop p.1).take (p.2 - p.1))) := by
  simp only [sslV]
  cases cut s.length lo hi <;> rfl
theorem sidx_str {s : List UInt8} {j : IntKind} {i : Int} : sidxV (.val (.str s)) (.val (.int j i)) = (getI s i).map fun b => .val (.int .u8 (b.toNat : Int)) := by
  simp only [sidxV]
  cases getI s i <;> rfl
def bytesI : List Int → Option (List UInt8)
  | [] => some []
  | n :: l => (byteOf [.int .u8 n]).bind fun b => (bytesI l).map fun bs => b :: bs
theorem bytesOf_row {l : List Int} : bytesOf (rowE (eI .u8) l) = bytesI l := by
  induction l with
  | nil => rfl
  | cons n l ih =>
    have : rowE (eI .u8) (n :: l) = [.int .u8 n] :: rowE (eI .u8) l := rfl
    simp only [this, bytesOf, bytesI, ih]
    cases byteOf [.int .u8 n] with
    | none => rfl
    | some b => simp only [Option.bind_some]; cases bytesI l <;> rfl
def cvsR : Option (Nat × List (List D)) → Option V
  | some (_, els) => (bytesOf els).map fun s => .val (.str s)
  | none => none
theorem cvs_eq {v : V} : cvsV H v = cvsR (elsOf H v) := by
  simp only [cvsV, cvsR]
  cases elsOf H v with
  | none => rfl
  | some p => obtain ⟨sz, els⟩ := p; simp only []; cases bytesOf els <;> rfl
theorem cvsR_some {els : List (List D)} : cvsR (some (n, els)) = (bytesOf els).map fun s => .val (.str s) := rfl
end
attribute [go_sem] evm_box evm_alc evm_bsl evm_msl mslV_int mslF_int mslF_bool eva_app elsOf_sl elsOf_sh elsOf_emp elsR_row appV appR appC_row boxF bslF
attribute [go_sem] List.length_set evs_st stX stA stP stE stE1 stR_some stR_none stR_bind rowE_nil List.take_length List.nil_append List.append_nil
attribute [go_sem] cut_oo cut_on cut_no cut_nn sli_sl sliR_row sli_sh sli_emp sliZ_sl sliZ_row sliZ_sh sliZ_emp ssl_str sidx_str cvs_eq cvsR_some bytesOf_row
end Go.Proofs.Ytpbonfgmiffomaa.Wm
namespace Go.Proofs.Ytpbonfgmiffomaa.Wm
open Go
section
variable {β : Type} {C : Cx} {K : List (Kont β)} {fr : Fr} {h : Option Hint}
def altsEq (C : Cx) (h : Option Hint) (m : List Vop) (fr : Fr) : List (List Vop) → Prop
  | [] => True
  | l :: ls => runR (β := Fr) C [.fin fun _ f => some f] h l fr = runR (β := Fr) C [.fin fun _ f => some f] h m fr ∧ altsEq C h m fr ls
theorem runR_fin {l : List Vop} : runR (β := Fr) C [.fin fun _ f => some f] h l fr = (steps C fr l).bind (tidyO h) := by
  unfold runR
  cases steps C fr l with
  | none => rfl
  | some f1 => simp only [Option.bind_some]; cases tidyO h f1 <;> rfl
theorem altsEq_all {m : List Vop} : ∀ {alts : List (List Vop)}, altsEq C h m fr alts → ∀ l ∈ alts, (steps C fr l).bind (tidyO h) = (steps C fr m).bind (tidyO h)
  | a :: alts, hh, l, hl => by
    simp only [altsEq, runR_fin] at hh
    rcases List.mem_cons.1 hl with rfl | hl
    · exact hh.1
    · exact altsEq_all hh.2 l hl
theorem run_alts {m : List Vop} {alts : List (List Vop)} (H : altsEq C h m fr alts) : run C K (.region m alts h) fr = runR C K h m fr := by
  have H' := altsEq_all H
  unfold run runR
  simp only [vx]
  cases hm : steps C fr m with
  | none => rfl
  | some f1 =>
    simp only [Option.bind_some]
    cases ht : tidyO h f1 with
    | none => rfl
    | some f2 =>
      have : altsOk C fr h f2 alts = some (.normal, f2) := by
        unfold altsOk
        split
        · rfl
        · rw [if_pos]
          intro l hl
          have := H' l hl
          rw [hm] at this
          simp only [Option.bind_some, ht] at this
          obtain ⟨f3, q1, q2⟩ := Option.bind_eq_some_iff.1 this
          exact ⟨f3, q1, q2⟩
      simp only [this, Option.bind_some]
end
end Go.Proofs.Ytpbonfgmiffomaa.Wm
namespace Go.Proofs.Ytpbonfgmiffomaa.Wm
open Go
section
variable {β : Type} {C : Cx} {K : List (Kont β)} {fr fr' : Fr} {h : Option Hint} {l : List Vop} {d : Option Nat}
noncomputable def guardR (C : Cx) (K : List (Kont β)) (h : Option Hint) (l : List Vop) (d : Option Nat) (i : I) (fr : Fr) (o : Option Bool) : Option β := o.bind fun c => if c = true then runR C K h (⟨d, i, none⟩ :: l) fr else contV C K h l d fr (some (.tup []))
theorem w_guardR {i : I} {t : Nat} {want : Bool} {env : List (Nat × V)} {H : Heap} {nt : Nat} : runR C K h (⟨d, i, some (t, want)⟩ :: l) ⟨env, H, nt⟩ = guardR C K h l d i ⟨env, H, nt⟩ (condV (oval C.gl env (.tmp t)) want) := w_guard
theorem guardR_some {i : I} {c : Bool} : guardR C K h l d i fr (some c) = if c = true then runR C K h (⟨d, i, none⟩ :: l) fr else contV C K h l d fr (some (.tup [])) := rfl
noncomputable def condX (C : Cx) (K : List (Kont β)) (a b : Vc) (ha hb : Option Hint) (fr : Fr) (v : V) : Option β := condR v (contT C K a (tidyO ha fr)) (contT C K b (tidyO hb fr))
theorem run_condX {c : Od} {ha hb : Option Hint} {a b : Vc} {env : List (Nat × V)} {H : Heap} {nt : Nat} : run C K (.cond c ha hb a b) ⟨env, H, nt⟩ = condX C K a b ha hb ⟨env, H, nt⟩ (oval C.gl env c) := run_cond
theorem condX_bool {a b : Vc} {ha hb : Option Hint} {t : Bool} : condX C K a b ha hb fr (.val (.bool t)) = if t = true then contT C K a (tidyO ha fr) else contT C K b (tidyO hb fr) := rfl
theorem run_cg {c : Vc} (e : fr = fr') : run C K c fr = run C K c fr' := by rw [e]
theorem runR_cg (e : fr = fr') : runR C K h l fr = runR C K h l fr' := by rw [e]
theorem plug_cg {x : Ex} (e : fr = fr') : plug C K x fr = plug C K x fr' := by rw [e]
theorem contV_cg {r r' : Option V} (e : r = r') : contV C K h l d fr r = contV C K h l d fr r' := by rw [e]
theorem contH_cg {r r' : Option (V × Heap)} (e : r = r') : contH C K h l d fr r = contH C K h l d fr r' := by rw [e]
theorem contT_cg {c : Vc} {r r' : Option Fr} (e : r = r') : contT C K c r = contT C K c r' := by rw [e]
theorem contF_cg {r r' : Option Fr} (e : r = r') : contF C K r = contF C K r' := by rw [e]
theorem guardR_cg {i : I} {o o' : Option Bool} (e : o = o') : guardR C K h l d i fr o = guardR C K h l d i fr o' := by rw [e]
theorem condX_cg {a b : Vc} {ha hb : Option Hint} {v v' : V} (e : v = v') : condX C K a b ha hb fr v = condX C K a b ha hb fr v' := by rw [e]
end
attribute [go_sem] w_guardR guardR_some run_condX condX_bool
end Go.Proofs.Ytpbonfgmiffomaa.Wm
namespace Go.Proofs.Ytpbonfgmiffomaa.Wm
open Go
def dropN : Nat → List D → Option (List D)
  | 0, d :: ds => some (d :: ds)
  | k + 1, _ :: ds => dropN k ds
  | _, [] => none
def takeN : Nat → List D → Option (List D)
  | 0, _ => some []
  | n + 1, d :: ds => (takeN n ds).map (d :: ·)
  | _ + 1, [] => none
theorem dropN_eq : ∀ {k : Nat} {cs : List D}, dropN k cs = if k < cs.length then some (cs.drop k) else none
  | 0, [] => rfl
  | 0, d :: ds => by simp [dropN]
  | k + 1, [] => by simp [dropN]
  | k + 1, d :: ds => by simp [dropN, dropN_eq (k := k) (cs := ds)]
theorem takeN_eq : ∀ {n : Nat} {cs : List D}, takeN n cs = if n ≤ cs.length then some (cs.take n) else none
  | 0, cs => by simp [takeN]
  | n + 1, [] => by simp [takeN]
  | n + 1, d :: ds => by
    simp only [takeN, takeN_eq (n := n) (cs := ds), List.length_cons, Nat.add_le_add_iff_right, List.take_succ_cons]
    split <;> rfl
theorem dropN_zero {d : D} {ds : List D} : dropN 0 (d :: ds) = some (d :: ds) := rfl
theorem dropN_succ {k : Nat} {d : D} {ds : List D} : dropN (k + 1) (d :: ds) = dropN k ds := rfl
theorem takeN_zero {ds : List D} : takeN 0 ds = some [] := by cases ds <;> rfl
theorem takeN_succ {n : Nat} {d : D} {ds : List D} : takeN (n + 1) (d :: ds) = (takeN n ds).map (d :: ·) := rfl
theorem loadV_ptrN {H : Heap} {n : Nat} {ds : List D} : loadV H (some n) (.val (.ptr ds)) = (takeN n ds).map fun l => .agg (l.map .val) := by
  rw [loadV_ptrn, takeN_eq]; split <;> rfl
theorem fad_ptrN {H : Heap} {k : Nat} {cs : List D} : fadV H k (.val (.ptr cs)) = (dropN k cs).map fun l => .val (.ptr l) := by
  simp only [fadV, dropN_eq]; split <;> rfl
def fadP (k b o : Nat) : Option Blk → Option V
  | some (.var _ _) => some (.pt b (o + k))
  | _ => none
def fadE (k b i o : Nat) : Option Blk → Option V
  | some (.row _ _ _) => some (.ep b i (o + k))
  | _ => none
theorem fad_pt {H : Heap} {k b o : Nat} : fadV H k (.pt b o) = fadP k b o (look b H) := by
  simp only [fadV, fadP]
  cases look b H with
  | none => rfl
  | some B => cases B <;> rfl
theorem fad_ep {H : Heap} {k b i o : Nat} : fadV H k (.ep b i o) = fadE k b i o (look b H) := by
  simp only [fadV, fadE]
  cases look b H with
  | none => rfl
  | some B =>
    cases B <;> rfl
attribute [go_sem] dropN_zero dropN_succ takeN_zero takeN_succ loadV_ptrN fad_ptrN fad_pt fad_ep fadP fadE
end Go.Proofs.Ytpbonfgmiffomaa.Wm
namespace Go.Proofs.Ytpbonfgmiffomaa.Wm
open Go
section
variable {β : Type} {C : Cx} {ms : List Nat} {H H1 H2 H3 : Heap} {d : Nat} {f : FuncId} {xs : List V} {os : List (Option D)} {fl : Bool} {ds : List D} {res : D} {outs : List D}
def evcF : Option (V × Heap × Nat) → Option (V × Heap)
  | some (y, H3, _) => some (y, H3)
  | none => none
def evcE (d : Nat) (fl : Bool) (res : D) : Option Heap → Option (V × Heap)
  | some H2 => evcF (inst fl (bid d) H2 res)
  | none => none
def evcD (C : Cx) (ms : List Nat) (d : Nat) (f : FuncId) (xs : List V) (H1 : Heap) (fl : Bool) (p : D × List D) : Option (V × Heap) :=
  if (!usesL ms xs || (clean p.1 && cleanL p.2)) = true then evcE d fl p.1 (backs fl (bid d + 100) H1 ms xs p.2) else none
def evcC (C : Cx) (ms : List Nat) (d : Nat) (f : FuncId) (xs : List V) (H1 : Heap) (fl : Bool) (o : Option (D × List D)) : Option (V × Heap) := o.bind (evcD C ms d f xs H1 fl)
def evcB (C : Cx) (ms : List Nat) (d : Nat) (f : FuncId) (xs : List V) (H1 : Heap) (fl : Bool) : Option (List D) → Option (V × Heap)
  | some ds => evcC C ms d f xs H1 fl (C.fn f ds)
  | none => none
def evcA (C : Cx) (ms : List Nat) (d : Nat) (f : FuncId) (xs : List V) : Option (List (Option D) × Heap × Bool) → Option (V × Heap)
  | some (os, H1, fl) => evcB C ms d f xs H1 fl (lends H1 ms xs os)
  | none => none
theorem evc_st : evc C ms H d f xs = evcA C ms d f xs (takes H ms xs) := by
  rw [evc_eq]
  unfold evcA
  cases takes H ms xs with
  | none => rfl
  | some p =>
    obtain ⟨os, H1, fl⟩ := p
    simp only [Option.bind_some, evcB]
    cases lends H1 ms xs os with
    | none => rfl
    | some ds =>
      simp only [Option.bind_some, evcC]
      congr 1
      funext p
      obtain ⟨res, outs⟩ := p
      simp only [evcD]
      split
      · cases backs fl (bid d + 100) H1 ms xs outs with
        | none => rfl
        | some H2 =>
          simp only [Option.bind_some, evcE]
          cases inst fl (bid d) H2 res with
          | none => rfl
          | some q => rfl
      · rfl
theorem evcA_some : evcA C ms d f xs (some (os, H1, fl)) = evcB C ms d f xs H1 fl (lends H1 ms xs os) := rfl
theorem evcB_some : evcB C ms d f xs H1 fl (some ds) = evcC C ms d f xs H1 fl (C.fn f ds) := rfl
theorem evcB_bind {α : Type} {r : Option α} {g : α → Option (List D)} : evcB C ms d f xs H1 fl (r.bind g) = r.bind fun x => evcB C ms d f xs H1 fl (g x) := by cases r <;> rfl
theorem evcC_map {α : Type} {o : Option α} {g : α → D × List D} : evcC C ms d f xs H1 fl (o.map g) = o.bind fun x => evcD C ms d f xs H1 fl (g x) := by cases o <;> rfl
theorem evcC_bind {α : Type} {o : Option α} {g : α → Option (D × List D)} : evcC C ms d f xs H1 fl (o.bind g) = o.bind fun x => evcC C ms d f xs H1 fl (g x) := by cases o <;> rfl
theorem evcC_some : evcC C ms d f xs H1 fl (some (res, outs)) = evcD C ms d f xs H1 fl (res, outs) := rfl
theorem evcC_ite {p : Prop} [Decidable p] {x y : Option (D × List D)} : evcC C ms d f xs H1 fl (if p then x else y) = if p then evcC C ms d f xs H1 fl x else evcC C ms d f xs H1 fl y := by split <;> rfl
theorem evcD_mk : evcD C ms d f xs H1 fl (res, outs) = if (!usesL ms xs || (clean res && cleanL outs)) = true then evcE d fl res (backs fl (bid d + 100) H1 ms xs outs) else none := rfl
theorem evcE_some : evcE d fl res (some H2) = evcF (inst fl (bid d) H2 res) := rfl
theorem evcF_some {y : V} {n : Nat} : evcF (some (y, H3, n)) = some (y, H3) := rfl
theorem evcA_cg {o o' : Option (List (Option D) × Heap × Bool)} (e : o = o') : evcA C ms d f xs o = evcA C ms d f xs o' := by rw [e]
theorem evcB_cg {o o' : Option (List D)} (e : o = o') : evcB C ms d f xs H1 fl o = evcB C ms d f xs H1 fl o' := by rw [e]
theorem evcC_cg {o o' : Option (D × List D)} (e : o = o') : evcC C ms d f xs H1 fl o = evcC C ms d f xs H1 fl o' := by rw [e]
theorem evcE_cg {o o' : Option Heap} (e : o = o') : evcE d fl res o = evcE d fl res o' := by rw [e]
noncomputable def levA (T : Tab) (n : Nat) (vc : Vc) (rs : List (Nat × Option (Option Nat))) (bs : List Nat) (ds : List D) (o : Option Fr) : Option (D × List D) := o.bind fun fr => run ⟨T.own, lev T n, T.gl⟩ [.fin (finK T.gl rs bs ds)] vc fr
theorem lev_st {T : Tab} {n : Nat} {f : FuncId} {vc : Vc} {nt : Nat} {rs : List (Nat × Option (Option Nat))} {ds : List D} (he : T.ext f = none) (hf : T.fn f = some (vc, nt, rs)) (hl : (T.own f).length ≤ nt) :
    lev T (n + 1) f ds = levA T n vc rs (idsOf 0 (T.own f) ds) ds (argsFr 0 (T.own f) ds ⟨[], [], nt⟩) := lev_fn he hf hl
theorem levA_some {T : Tab} {n : Nat} {vc : Vc} {rs : List (Nat × Option (Option Nat))} {bs : List Nat} {ds : List D} {fr : Fr} : levA T n vc rs bs ds (some fr) = run ⟨T.own, lev T n, T.gl⟩ [.fin (finK T.gl rs bs ds)] vc fr := rfl
theorem levA_cg {T : Tab} {n : Nat} {vc : Vc} {rs : List (Nat × Option (Option Nat))} {bs : List Nat} {ds : List D} {o o' : Option Fr} (e : o = o') : levA T n vc rs bs ds o = levA T n vc rs bs ds o' := by rw [e]
end
attribute [go_sem] evc_st evcA_some evcB_some evcB_bind evcC_map evcC_bind evcC_some evcC_ite evcE_some evcF_some levA_some
end Go.Proofs.Ytpbonfgmiffomaa.Wm
namespace Go.Proofs.Ytpbonfgmiffomaa.Wm
open Go
section
variable {α : Type} {f g : α → List D} {xs : List α}
theorem lentE_to (h : ∀ x, lentL (f x) = g x) : lentE (rowE f xs) = rowE g xs := by
  rw [lentE_map]; unfold rowE; rw [List.map_map]; exact List.map_congr_left fun x _ => h x
theorem lentL_eL {k : Wm.K} {sz : Nat} (h : lentE (rowE f xs) = rowE g xs) : lentL (eL k sz f xs) = eL .lent sz g xs := by
  simp only [eL, lentL, lentD, h]
end
end Go.Proofs.Ytpbonfgmiffomaa.Wm
namespace Go.Proofs.Ytpbonfgmiffomaa.Wm
open Go
section
variable {β : Type} {C : Cx} {K : List (Kont β)} {env : List (Nat × V)} {H : Heap} {nt : Nat} {h : Option Hint} {l : List Vop} {d : Option Nat} {x y : Od}
theorem w_bina {op : BinOp} {ks : List EqK} : runR C K h (⟨d, .bina op ks x y, none⟩ :: l) ⟨env, H, nt⟩ = contV C K h l d ⟨env, H, nt⟩ (binaV op ks ((oval C.gl env) x) ((oval C.gl env) y)) := runR_quiet rfl
end
attribute [go_sem] w_bina binaV eqC eq1
end Go.Proofs.Ytpbonfgmiffomaa.Wm
namespace Go.Proofs.Ytpbonfgmiffomaa.Wm
open Go
section
variable {C : Cx} {H H1 : Heap} {d : Nat} {f : FuncId} {xs ys : List V}
def evcH (C : Cx) (ms : List Nat) (d : Nat) (f : FuncId) : Option (List V × Heap) → Option (V × Heap)
  | some (ys, H1) => evc C ms H1 d f ys
  | none => none
def evcI (C : Cx) (ms : List Nat) (H : Heap) (d : Nat) (f : FuncId) : Option (List V) → Option (V × Heap)
  | some zs => evcH C ms d f (gives H ms zs)
  | none => none
theorem evcG_st : evcG C H d f xs = evcI C (flatM (C.own f)) H d f (flatV (C.own f) xs) := by
  unfold evcG evcI
  cases flatV (C.own f) xs <;> rfl
theorem evcI_some {ms : List Nat} : evcI C ms H d f (some ys) = evcH C ms d f (gives H ms ys) := rfl
theorem evcH_some {ms : List Nat} : evcH C ms d f (some (ys, H1)) = evc C ms H1 d f ys := rfl
theorem evcH_cg {ms : List Nat} {o o' : Option (List V × Heap)} (e : o = o') : evcH C ms d f o = evcH C ms d f o' := by rw [e]
def appV1 (vs : List V) : Option (List V) → Option (List V)
  | some xs => some (vs ++ xs)
  | none => none
theorem flatV_one {m : Nat} {ms : List Nat} {x : V} {xs : List V} (h : (100 ≤ m) = False) : flatV (m :: ms) (x :: xs) = (flatV ms xs).map (x :: ·) := by
  simp only [flatV]; rw [if_neg (by rw [h]; exact id)]
theorem flatV_agg {m : Nat} {ms : List Nat} {vs xs : List V} (h : (100 ≤ m) = True) (hl : vs.length = m - 100) : flatV (m :: ms) (.agg vs :: xs) = (flatV ms xs).map (vs ++ ·) := by
  simp only [flatV]; rw [if_pos (by rw [h]; trivial), if_pos hl]
theorem flatV_nil : flatV [] [] = some [] := rfl
theorem flatM_one {m : Nat} {ms : List Nat} (h : (100 ≤ m) = False) : flatM (m :: ms) = m :: flatM ms := by
  simp only [flatM]; rw [if_neg (by rw [h]; exact id)]
theorem flatM_agg {m : Nat} {ms : List Nat} (h : (100 ≤ m) = True) : flatM (m :: ms) = List.replicate (m - 100) 1 ++ flatM ms := by
  simp only [flatM]; rw [if_pos (by rw [h]; trivial)]
theorem flatM_nil : flatM [] = [] := rfl
end
section
variable {i m k : Nat} {ms : List Nat} {d : D} {ds : List D} {fr : Fr}
def argX (i : Nat) (ms : List Nat) (ds : List D) (env : List (Nat × V)) (nt : Nat) : Option (V × Heap × Nat) → Option Fr
  | some (y, H, _) => argsFr (i + 1) ms ds ⟨(i, y) :: env, H, nt⟩
  | none => none
def argY (i : Nat) (ms : List Nat) (ds : List D) (env : List (Nat × V)) (nt : Nat) : Option (List V × Heap × Nat) → Option Fr
  | some (ys, H, _) => argsFr (i + 1) ms ds ⟨(i, .agg ys) :: env, H, nt⟩
  | none => none
theorem argsFr_nil : argsFr i [] [] fr = some fr := rfl
theorem argsFr_one {env : List (Nat × V)} {H : Heap} {nt : Nat} (h : (100 ≤ m) = False) : argsFr i (m :: ms) (d :: ds) ⟨env, H, nt⟩ = argX i ms ds env nt (inst1 true (base i) H d) := by
  simp only [argsFr, argM]; rw [if_neg (by rw [h]; exact id)]
  cases inst1 true (base i) H d <;> rfl
theorem argsFr_agg {env : List (Nat × V)} {H : Heap} {nt : Nat} (h : (100 ≤ m) = True) (hk : m - 100 = k) (hl : (k ≤ ds.length) = True) : argsFr i (m :: ms) ds ⟨env, H, nt⟩ = argY i ms (ds.drop k) env nt (instL true (base i) H (ds.take k)) := by
  subst hk
  simp only [argsFr, argM]; rw [if_pos (by rw [h]; trivial), if_pos (by rw [hl]; trivial)]
  cases instL true (base i) H (ds.take (m - 100)) <;> rfl
theorem argX_some {env : List (Nat × V)} {H : Heap} {nt n : Nat} {y : V} : argX i ms ds env nt (some (y, H, n)) = argsFr (i + 1) ms ds ⟨(i, y) :: env, H, nt⟩ := rfl
theorem argY_some {env : List (Nat × V)} {H : Heap} {nt n : Nat} {ys : List V} : argY i ms ds env nt (some (ys, H, n)) = argsFr (i + 1) ms ds ⟨(i, .agg ys) :: env, H, nt⟩ := rfl
theorem idsOf_one (h : (100 ≤ m) = False) : idsOf i (m :: ms) (d :: ds) = base i :: idsOf (i + 1) ms ds := by
  simp only [idsOf, idsM]; rw [if_neg (by rw [h]; exact id)]; rfl
theorem idsOf_agg (h : (100 ≤ m) = True) (hk : m - 100 = k) : idsOf i (m :: ms) ds = idsC (base i) (ds.take k) ++ idsOf (i + 1) ms (ds.drop k) := by
  subst hk
  simp only [idsOf, idsM]; rw [if_pos (by rw [h]; trivial)]
theorem idsOf_nil : idsOf i [] ds = [] := rfl
end
attribute [go_sem] evcG_st evcI_some evcH_some gives flatV_one flatV_agg flatV_nil flatM_one flatM_agg flatM_nil argsFr_nil argsFr_one argsFr_agg argX_some argY_some idsOf_one idsOf_agg idsOf_nil idsC List.replicate_succ List.replicate_zero List.cons_append List.take_succ_cons List.take_zero List.drop_succ_cons List.drop_zero
end Go.Proofs.Ytpbonfgmiffomaa.Wm
namespace Go.Proofs.Ytpbonfgmiffomaa.Wm
open Go
def mxI (a b : Int) : Int := if a < b then b else a
def mnI (a b : Int) : Int := if b < a then b else a
theorem mm_max {k k' : IntKind} {a b : Int} : minMax true [.val (.int k a), .val (.int k' b)] = some (.val (.int k (mxI a b))) := by simp [minMax, mxI]
theorem mm_min {k k' : IntKind} {a b : Int} : minMax false [.val (.int k a), .val (.int k' b)] = some (.val (.int k (mnI a b))) := by simp [minMax, mnI]
attribute [go_sem] mm_max mm_min
end Go.Proofs.Ytpbonfgmiffomaa.Wm
set_option linter.unusedSimpArgs false
set_option linter.unusedVariables false
namespace Go.Proofs.Ytpbonfgmiffomaa.Wm
open Go
section
variable {β : Type} {C : Cx} {K : List (Kont β)} {env : List (Nat × V)} {H : Heap} {nt : Nat} {h : Option Hint} {l : List Vop} {d : Option Nat} {x : Od} {α : Type} {f : α → List D} {xs : List α} {fr : Fr}
theorem w_isnl {ne : Bool} : runR C K h (⟨d, .isnl ne x, none⟩ :: l) ⟨env, H, nt⟩ = contV C K h l d ⟨env, H, nt⟩ (nilV H ne ((oval C.gl env) x)) := runR_quiet rfl
theorem nilV_cons {ne : Bool} {k : Wm.K} {sz : Nat} {y : α} : nilV H ne (.val (.sh k sz (rowE f (y :: xs)))) = some (.val (.bool ne)) := rfl
theorem nilV_nil {ne : Bool} {k : Wm.K} {sz : Nat} : nilV H ne (.val (.sh k sz [])) = some .anyb := rfl
theorem nilV_emp {ne : Bool} {sz : Nat} : nilV H ne (.emp sz) = some .anyb := rfl
def pairK : Ex → Fr → Option (Ex × Fr) := fun e f => some (e, f)
theorem pairK_eq {e : Ex} : pairK e fr = some (e, fr) := rfl
noncomputable def bothX (C : Cx) (K : List (Kont β)) (r1 r2 : Option (Ex × Fr)) : Option β := (bothE r1 r2).bind fun r => plug C K r.1 r.2
theorem bothX_same {e : Ex} : bothX C K (some (e, fr)) (some (e, fr)) = plug C K e fr := by simp [bothX, bothE]
noncomputable def condJX (C : Cx) (K : List (Kont β)) (ha hb : Option Hint) (a b y : Vc) (fr : Fr) (v : V) : Option β := match v with
  | .val (.bool t) => if t = true then contT C (.seq y :: K) a (tidyO ha fr) else contT C (.seq y :: K) b (tidyO hb fr)
  | .anyb => bothX C K (contT C [.seq y, .fin pairK] a (tidyO ha fr)) (contT C [.seq y, .fin pairK] b (tidyO hb fr))
  | _ => none
theorem plug_pair {r : Option (Ex × Fr)} : (r.bind fun r => plug C [.fin pairK] r.1 r.2) = r := by
  cases r with
  | none => rfl
  | some r => obtain ⟨e, f⟩ := r; simp [plug_fin, pairK]
theorem seqE_plug {γ : Type} {K : List (Kont γ)} {y : Vc} {r : Option (Ex × Fr)} : (seqE (vx C y) r).bind (fun r => plug C K r.1 r.2) = r.bind fun r => plug C (.seq y :: K) r.1 r.2 := by
  cases r with
  | none => rfl
  | some r => obtain ⟨e, f⟩ := r; cases e <;> rfl
theorem way_plug {γ : Type} {K : List (Kont γ)} {a y : Vc} {o : Option Fr} : (o.bind fun fr1 => seqE (vx C y) (vx C a fr1)).bind (fun r => plug C K r.1 r.2) = contT C (.seq y :: K) a o := by
  cases o with
  | none => rfl
  | some f => simp only [Option.bind_some, contT, run]; exact seqE_plug
theorem run_condJ {c : Od} {ha hb : Option Hint} {a b y : Vc} : run C K (.condJ c ha hb a b y) ⟨env, H, nt⟩ = condJX C K ha hb a b y ⟨env, H, nt⟩ (oval C.gl env c) := by
  unfold run condJX
  simp only [vx]
  generalize oval C.gl env c = v
  cases v with
  | val d => cases d with
    | bool t => cases t with
      | true => simp only [if_true]; exact way_plug
      | false => simp only [Bool.false_eq_true, if_false]; exact way_plug
    | _ => rfl
  | anyb =>
    simp only [bothX]
    rw [← way_plug (K := [.fin pairK]) (a := a), ← way_plug (K := [.fin pairK]) (a := b), plug_pair, plug_pair]
  | _ => rfl
theorem condJX_bool {ha hb : Option Hint} {a b y : Vc} {t : Bool} : condJX C K ha hb a b y fr (.val (.bool t)) = if t = true then contT C (.seq y :: K) a (tidyO ha fr) else contT C (.seq y :: K) b (tidyO hb fr) := rfl
theorem condJX_any {ha hb : Option Hint} {a b y : Vc} : condJX C K ha hb a b y fr .anyb = bothX C K (contT C [.seq y, .fin pairK] a (tidyO ha fr)) (contT C [.seq y, .fin pairK] b (tidyO hb fr)) := rfl
theorem condJX_cg {ha hb : Option Hint} {a b y : Vc} {v v' : V} (e : v = v') : condJX C K ha hb a b y fr v = condJX C K ha hb a b y fr v' := by rw [e]
theorem allCell_nil : allCell [] = true := rfl
theorem appC_nil {id sz by_ : Nat} {old : Bool} : appC id sz by_ old [] H true = some (.sl id 0 0, (id, .row old sz []) :: H) := by simp [appC, okApp]
theorem subId_hi {id : Nat} (h : (1000000000 ≤ id) = True) : subId id = id - 499999999 := by unfold subId; rw [if_pos (by rw [h]; trivial)]
theorem subId_lo {id : Nat} (h : (1000000000 ≤ id) = False) : subId id = id + 1 := by unfold subId; rw [if_neg (by rw [h]; exact fun h => h)]
theorem okApp_zero {n : Nat} : okApp n 0 = true := by simp [okApp]
end
section
variable {d : Nat} {fl : Bool} {res : D} {p : Prop} [Decidable p] {x y : Option Heap}
theorem evcE_ite : evcE d fl res (if p then x else y) = if p then evcE d fl res x else evcE d fl res y := by split <;> rfl
theorem evcE_none : evcE d fl res none = none := rfl
end
attribute [go_sem] w_isnl nilV_cons nilV_nil nilV_emp pairK_eq bothX_same run_condJ condJX_bool condJX_any evcE_ite evcE_none subId_hi subId_lo okApp_zero allCell_nil appC_nil List.drop_nil List.take_nil
theorem iadR_len {α : Type} {b sz n : Nat} {i : Int} {old : Bool} {f : α → List D} {xs : List α} (h : xs.length = n) : iadR b sz 0 n i (some (.row old sz (rowE f xs))) = (getI xs i).bind fun _ => some (.ep b i.toNat 0) := by
  subst h; exact iadR_full
attribute [go_sem] iadR_len List.length_set
theorem iadR_win {α : Type} {b sz o n : Nat} {i : Int} {old : Bool} {f : α → List D} {xs : List α} : iadR b sz o n i (some (.row old sz (rowE f xs))) = (getI ((xs.drop o).take n) i).bind fun _ => some (.ep b (o + i.toNat) 0) := by
  simp only [iadR, if_true, rowE_drop, rowE_take, rowE_getI]
  cases getI ((xs.drop o).take n) i <;> rfl
def upI (n : Nat) (h : Int) : Option Nat := if 0 ≤ h ∧ h ≤ n then some h.toNat else none
theorem cutI_up {n : Nat} {h : Int} : cutI n 0 h = (upI n h).map fun k => (0, k) := by
  unfold cutI upI
  by_cases h1 : 0 ≤ h ∧ h ≤ n
  · rw [if_pos h1, if_pos h1, if_pos ⟨Int.le_refl _, by omega⟩]; rfl
  · rw [if_neg h1, if_neg h1]; rfl
attribute [go_sem low] iadR_win
attribute [go_sem] cutI_up Nat.zero_add Nat.sub_zero
class IntCells (cs : List V) (k : outParam IntKind) (xs : outParam (List Int)) : Prop where
  eq : cs = xs.map fun x => .val (.int k x)
instance {k : IntKind} {a : Int} : IntCells [.val (.int k a)] k [a] := ⟨rfl⟩
instance {k : IntKind} {a b : Int} {cs : List V} {xs : List Int} [h : IntCells (.val (.int k b) :: cs) k xs] : IntCells (.val (.int k a) :: .val (.int k b) :: cs) k (a :: xs) := ⟨by rw [h.eq]; rfl⟩
theorem get_ints {cs : List V} {k : IntKind} {xs : List Int} [h : IntCells cs k xs] {i : Int} : cs[i.toNat]? = (xs[i.toNat]?).map fun x => V.val (.int k x) := by
  rw [h.eq, List.getElem?_map]
attribute [go_sem] get_ints Nat.mul_one
theorem lentE_nil : lentE [] = [] := rfl
attribute [go_sem] lentE_nil
def allEq : List (Nat × Nat) → Bool
  | [] => true
  | (a, b) :: l => decide (a = b) && allEq l
theorem allEq_nil : (allEq [] = true) = True := by simp [allEq]
theorem allEq_one {a b : Nat} : (allEq [(a, b)] = true) = (a = b) := by simp [allEq]
theorem allEq_more {a b : Nat} {c : Nat × Nat} {l : List (Nat × Nat)} : (allEq ((a, b) :: c :: l) = true) = (a = b ∧ allEq (c :: l) = true) := by simp [allEq]
def backsB (fl : Bool) (g : List (Nat × Nat)) (id : Nat) (H : Heap) : List Nat → List V → List D → Option (List (Nat × Nat) × Heap)
  | m :: ms, x :: xs, d :: ds => if m = 1 then (match x with
      | .pt b o => match d with
        | .op o' cs => if o' = o then (match instL fl id H cs with
          | some (vs, H1, _) => match look b H1 with
            | some .awayV => backsB fl g (id + 100) (updB b (.var fl vs) H1) ms xs ds
            | _ => none
          | none => none) else none
        | .gone => backsB fl g id H ms xs ds
        | _ => none
      | .sl b _ _ => match d with
        | .gone => backsB fl g id H ms xs ds
        | .ow sz els => match look b H with
          | some (.awayR sz' len) => if sz' = sz then backsB fl ((len, els.length) :: g) (id + 100) (updB b (.row fl sz els) H) ms xs ds else none
          | _ => none
        | _ => none
      | .emp _ => backsB fl g id H ms xs ds
      | .val _ => backsB fl g id H ms xs ds
      | _ => none) else backsB fl g id H ms xs ds
  | [], [], [] => some (g, H)
  | _, _, _ => none
def fitB : Option (List (Nat × Nat) × Heap) → Option Heap
  | some (g, H) => if allEq g = true then some H else none
  | none => none
theorem backsB_eq {fl : Bool} : ∀ {ms : List Nat} {xs : List V} {ds : List D} {g : List (Nat × Nat)} {id : Nat} {H : Heap}, fitB (backsB fl g id H ms xs ds) = if allEq g = true then backs fl id H ms xs ds else none
  | m :: ms, x :: xs, d :: ds, g, id, H => by
    have ih : ∀ {g : List (Nat × Nat)} {id : Nat} {H : Heap}, fitB (backsB fl g id H ms xs ds) = if allEq g = true then backs fl id H ms xs ds else none := backsB_eq
    have nn : fitB none = (if allEq g = true then none else none : Option Heap) := by simp [fitB]
    unfold backsB backs
    by_cases hm : m = 1
    · rw [if_pos hm, if_pos hm]
      cases x with
      | sl b o n =>
        cases d with
        | gone => exact ih
        | ow sz els =>
          dsimp only
          cases look b H with
          | none => exact nn
          | some B =>
            cases B with
            | awayR sz' len =>
              dsimp only
              by_cases hz : sz' = sz
              · rw [if_pos hz, ih]
                by_cases hl : len = els.length
                · simp [allEq, hl, hz]
                · simp [allEq, hl]
              · rw [if_neg hz]; simp [hz, fitB]
            | _ => exact nn
        | _ => exact nn
      | pt b o =>
        cases d with
        | gone => exact ih
        | op o' cs =>
          dsimp only
          by_cases ho : o' = o
          · rw [if_pos ho, if_pos ho]
            cases instL fl id H cs with
            | none => exact nn
            | some q =>
              obtain ⟨vs, H1, k⟩ := q
              dsimp only
              cases look b H1 with
              | none => exact nn
              | some B =>
                cases B with
                | awayV => exact ih
                | _ => exact nn
          · rw [if_neg ho, if_neg ho]; exact nn
        | _ => exact nn
      | emp sz => exact ih
      | val d' => exact ih
      | _ => exact nn
    · rw [if_neg hm, if_neg hm]; exact ih
  | [], [], [], g, id, H => rfl
  | [], [], _ :: _, g, id, H => by simp [backsB, backs, fitB]
  | [], _ :: _, _, g, id, H => by simp [backsB, backs, fitB]
  | _ :: _, [], _, g, id, H => by simp [backsB, backs, fitB]
  | _ :: _, _ :: _, [], g, id, H => by simp [backsB, backs, fitB]
section
variable {C : Cx} {ms : List Nat} {H1 H2 : Heap} {d : Nat} {f : FuncId} {xs : List V} {fl : Bool} {res : D} {outs : List D}
def evcBk (d : Nat) (fl : Bool) (res : D) : Option (List (Nat × Nat) × Heap) → Option (V × Heap)
  | some (g, H2) => if allEq g = true then evcF (inst fl (bid d) H2 res) else none
  | none => none
theorem evcD_B : evcD C ms d f xs H1 fl (res, outs) = if (!usesL ms xs || (clean res && cleanL outs)) = true then evcBk d fl res (backsB fl [] (bid d + 100) H1 ms xs outs) else none := by
  have := backsB_eq (fl := fl) (ms := ms) (xs := xs) (ds := outs) (g := []) (id := bid d + 100) (H := H1)
  rw [if_pos (show allEq [] = true from rfl)] at this
  rw [evcD_mk, ← this]
  congr 1
  cases backsB fl [] (bid d + 100) H1 ms xs outs with
  | none => rfl
  | some p =>
    obtain ⟨g, H2⟩ := p
    simp only [fitB, evcBk]
    split <;> rfl
theorem evcBk_some {g : List (Nat × Nat)} : evcBk d fl res (some (g, H2)) = if allEq g = true then evcF (inst fl (bid d) H2 res) else none := rfl
end
attribute [go_sem] allEq_nil allEq_one allEq_more backsB evcD_B evcBk_some
theorem bind_ext {α β : Type} {a : Option α} {f g : α → Option β} (h : ∀ x, a = some x → f x = g x) : a.bind f = a.bind g := by
  cases a with
  | none => rfl
  | some x => exact h x rfl
theorem bind_swap {α β γ : Type} {a : Option α} {b : Option β} {f : α → β → Option γ} {g : β → α → Option γ} (h : ∀ x y, a = some x → b = some y → f x y = g y x) : (a.bind fun x => b.bind fun y => f x y) = b.bind fun y => a.bind fun x => g y x := by
  cases a with
  | none => cases b <;> rfl
  | some x => cases b with
    | none => rfl
    | some y => exact h x y rfl rfl
end Go.Proofs.Ytpbonfgmiffomaa.Wm
set_option linter.unusedSimpArgs false
set_option linter.unusedVariables false
namespace Go.Proofs.Ytpbonfgmiffomaa.Wm
open Go
section
variable {α : Type} {f g : α → List D} {xs : List α} {sz : Nat} {k : Wm.K} {els : List (List D)} {H : Heap} {n : Nat} {j : IntKind}
theorem ownD_lent : ownD (.sh .lent sz els) = false := rfl
theorem ownD_fresh : ownD (.sh .fresh sz els) = false := rfl
theorem ownD_own : ownD (.sh .own sz els) = true := rfl
theorem ownD_int {n : Int} : ownD (.int j n) = false := rfl
theorem ownD_bool {b : Bool} : ownD (.bool b) = false := rfl
theorem ownD_str {s : List UInt8} : ownD (.str s) = false := rfl
theorem ownD_err {b : Bool} : ownD (.err b) = false := rfl
theorem ownD_fn {i : FuncId} {c : List D} : ownD (.fn i c) = false := rfl
theorem ownD_ptr {c : List D} : ownD (.ptr c) = false := rfl
theorem ownZ_fresh : ownZ (.sh .fresh sz []) = .sh .own sz [] := rfl
theorem ownZ_int {n : Int} : ownZ (.int j n) = .int j n := rfl
theorem ownZ_bool {b : Bool} : ownZ (.bool b) = .bool b := rfl
theorem ownZ_str {s : List UInt8} : ownZ (.str s) = .str s := rfl
theorem ownZ_err {b : Bool} : ownZ (.err b) = .err b := rfl
theorem cellD_ow : cellD (.ow sz els) = some (.sh .own sz els) := rfl
theorem cellD_int {n : Int} : cellD (.int j n) = some (.int j n) := rfl
theorem cellD_bool {b : Bool} : cellD (.bool b) = some (.bool b) := rfl
theorem cellD_str {s : List UInt8} : cellD (.str s) = some (.str s) := rfl
theorem cellD_err {b : Bool} : cellD (.err b) = some (.err b) := rfl
theorem cellD_sh : cellD (.sh k sz els) = some (.sh k sz els) := rfl
theorem isCell_lent : isCell (.val (.sh .lent sz els)) = true := rfl
theorem isCell_fresh : isCell (.val (.sh .fresh sz els)) = true := rfl
theorem isCell_own : isCell (.val (.sh .own sz els)) = false := rfl
theorem kClean_lent : kClean .lent = false := rfl
theorem kClean_fresh : kClean .fresh = true := rfl
theorem kClean_own : kClean .own = true := rfl
theorem eraD_lent : eraD (.sh .lent sz els) = .sh .lent sz (eraE els) := rfl
theorem eraD_fresh : eraD (.sh .fresh sz els) = .sh .lent sz (eraE els) := rfl
theorem eraD_own : eraD (.sh .own sz els) = .sh .own sz (eraE els) := rfl
theorem eraD_int {n : Int} : eraD (.int j n) = .int j n := rfl
theorem eraD_bool {b : Bool} : eraD (.bool b) = .bool b := rfl
theorem eraD_str {s : List UInt8} : eraD (.str s) = .str s := rfl
theorem eraD_err {b : Bool} : eraD (.err b) = .err b := rfl
theorem eraD_fn {i : FuncId} {c : List D} : eraD (.fn i c) = .fn i (eraL c) := rfl
theorem eraD_ptr {c : List D} : eraD (.ptr c) = .ptr (eraL c) := rfl
theorem eraD_gone : eraD .gone = .gone := rfl
theorem eraE_nil : eraE [] = [] := rfl
theorem noOwnE_nil : noOwnE [] = true := rfl
theorem eraE_to (h : ∀ x, eraL (f x) = g x) : eraE (rowE f xs) = rowE g xs := by
  rw [eraE_map]; unfold rowE; rw [List.map_map]; exact List.map_congr_left fun x _ => h x
theorem eraE_int {xs : List Int} : eraE (rowE (eI j) xs) = rowE (eI j) xs := eraE_to fun _ => rfl
theorem eraE_bool {xs : List Bool} : eraE (rowE eB xs) = rowE eB xs := eraE_to fun _ => rfl
theorem eraE_str {xs : List (List UInt8)} : eraE (rowE eS xs) = rowE eS xs := eraE_to fun _ => rfl
theorem noOwnE_row (h : ∀ x, noOwn (f x) = true) : noOwnE (rowE f xs) = true := by
  induction xs with
  | nil => rfl
  | cons x xs ih => simp only [rowE, List.map_cons, noOwnE, Bool.and_eq_true]; exact ⟨h x, ih⟩
theorem noOwnE_int {xs : List Int} : noOwnE (rowE (eI j) xs) = true := noOwnE_row fun _ => rfl
theorem noOwnE_bool {xs : List Bool} : noOwnE (rowE eB xs) = true := noOwnE_row fun _ => rfl
theorem noOwnE_str {xs : List (List UInt8)} : noOwnE (rowE eS xs) = true := noOwnE_row fun _ => rfl
theorem allCellO_row (h : ∀ x, cellLO (f x) = true) : allCellO (rowE f xs) = true := by
  induction xs with
  | nil => rfl
  | cons x xs ih => simp only [rowE, List.map_cons, allCellO, Bool.and_eq_true]; exact ⟨h x, ih⟩
theorem allCellO_int {xs : List Int} : allCellO (rowE (eI j) xs) = true := allCellO_row fun _ => rfl
theorem allCellO_bool {xs : List Bool} : allCellO (rowE eB xs) = true := allCellO_row fun _ => rfl
theorem allCellO_str {xs : List (List UInt8)} : allCellO (rowE eS xs) = true := allCellO_row fun _ => rfl
theorem lentE_eL {xs : List (List α)} (h : ∀ xs : List α, lentE (rowE f xs) = rowE g xs) : lentE (rowE (eL k sz f) xs) = rowE (eL .lent sz g) xs := lentE_to fun x => lentL_eL (h x)
theorem lentE_eLI {xs : List (List Int)} : lentE (rowE (eL k sz (eI j)) xs) = rowE (eL .lent sz (eI j)) xs := lentE_eL fun _ => lentE_int
theorem lentE_eLB {xs : List (List Bool)} : lentE (rowE (eL k sz eB) xs) = rowE (eL .lent sz eB) xs := lentE_eL fun _ => lentE_bool
theorem cleanE_eL {xs : List (List α)} (hk : kClean k = true) (h : ∀ xs : List α, cleanE (rowE f xs) = true) : cleanE (rowE (eL k sz f) xs) = true := cleanE_row fun x => by simp [eL, cleanL, clean, hk, h x]
theorem cleanE_eLF {xs : List (List Int)} : cleanE (rowE (eL .fresh sz (eI j)) xs) = true := cleanE_eL rfl fun _ => cleanE_int
theorem cleanE_eLO {xs : List (List Int)} : cleanE (rowE (eL .own sz (eI j)) xs) = true := cleanE_eL rfl fun _ => cleanE_int
theorem allCell_eLF {xs : List (List α)} : allCell (rowE (eL .fresh sz f) xs) = true := allCell_row fun _ => rfl
theorem allCell_eLL {xs : List (List α)} : allCell (rowE (eL .lent sz f) xs) = true := allCell_row fun _ => rfl
theorem allCellO_eL {xs : List (List α)} : allCellO (rowE (eL .own sz f) xs) = true := allCellO_row fun _ => rfl
theorem noOwnE_eLF {xs : List (List α)} : noOwnE (rowE (eL .fresh sz f) xs) = true := noOwnE_row fun _ => rfl
theorem noOwnE_eLL {xs : List (List α)} : noOwnE (rowE (eL .lent sz f) xs) = true := noOwnE_row fun _ => rfl
theorem eraE_eLO {xs : List (List Int)} : eraE (rowE (eL .own sz (eI j)) xs) = rowE (eL .own sz (eI j)) xs := eraE_to fun x => by simp [eL, eraL, eraD_own, eraE_int]
theorem eraE_eLL {xs : List (List Int)} : eraE (rowE (eL .lent sz (eI j)) xs) = rowE (eL .lent sz (eI j)) xs := eraE_to fun x => by simp [eL, eraL, eraD_lent, eraE_int]
theorem eraE_eLF {xs : List (List Int)} : eraE (rowE (eL .fresh sz (eI j)) xs) = rowE (eL .lent sz (eI j)) xs := eraE_to fun x => by simp [eL, eraL, eraD_fresh, eraE_int]
theorem mslF_eL {l : Int} {id : Nat} (h : f = f) : mslF H id 1 [.sh k sz []] l true = some (.sl id 0 (List.replicate l.toNat ([] : List α)).length, (id, .row false 1 (rowE (eL k sz f) (List.replicate l.toNat []))) :: H) := by
  simp [mslF, rowE, eL]
theorem mslF_eLI {l : Int} {id : Nat} (hk : k = .own) : True := trivial
theorem rowE_eL {a : List α} : ([[.sh k sz (rowE f a)]] : List (List D)) = rowE (eL k sz f) [a] := rfl
theorem rowE_eL_cons {a : List α} {l : List (List α)} : ([.sh k sz (rowE f a)] :: rowE (eL k sz f) l : List (List D)) = rowE (eL k sz f) (a :: l) := rfl
theorem rowE_set_eL {a : List α} {l : List (List α)} {i : Nat} : (rowE (eL k sz f) l).set i [.sh k sz (rowE f a)] = rowE (eL k sz f) (l.set i a) := by simp [rowE, eL, List.map_set]
theorem rowE_set_eL0 {l : List (List α)} {i : Nat} : (rowE (eL k sz f) l).set i [.sh k sz []] = rowE (eL k sz f) (l.set i []) := by simp [rowE, eL, List.map_set]
end
attribute [go_sem] ownD_lent ownD_fresh ownD_own ownD_int ownD_bool ownD_str ownD_err ownD_fn ownD_ptr ownZ_fresh ownZ_int ownZ_bool ownZ_str ownZ_err cellD_ow cellD_int cellD_bool cellD_str cellD_err cellD_sh
attribute [go_sem] isCell_lent isCell_fresh isCell_own kClean_lent kClean_fresh kClean_own eraD_lent eraD_fresh eraD_own eraD_int eraD_bool eraD_str eraD_err eraD_fn eraD_ptr eraD_gone eraE_nil noOwnE_nil eraE_int eraE_bool eraE_str noOwnE_int noOwnE_bool noOwnE_str allCellO_int allCellO_bool allCellO_str
attribute [go_sem] lentE_eLI lentE_eLB cleanE_eLF cleanE_eLO allCell_eLF allCell_eLL allCellO_eL noOwnE_eLF noOwnE_eLL eraE_eLO eraE_eLL eraE_eLF rowE_eL rowE_eL_cons rowE_set_eL rowE_set_eL0 eraL noOwn ownZs cellDs eL
theorem fl_old {a b : Bool} : (a = true → b = true) = ((!a || b) = true) := by cases a <;> cases b <;> simp
def ldY (H : Heap) (id b i o : Nat) (old : Bool) (sz : Nat) (els : List (List D)) : Option D → Option (V × Heap)
  | some (.sh .own sz' es) => if free id H = true then some (.sl id 0 es.length, (id, .row old sz' es) :: updB b (.hole old sz els i o id es.length) H) else none
  | _ => none
def ldX (H : Heap) (id b i o : Nat) : Option Blk → Option (V × Heap)
  | some (.row old sz els) => els[i]?.bind fun el => ldY H id b i o old sz els (el[o]?)
  | _ => none
def soZ (b i o : Nat) (fl : Bool) (cs : List D) (H1 : Heap) : Option Blk → Option Heap
  | some (.row old sz els) => els[i]?.bind fun el => if o + cs.length ≤ el.length ∧ ((!fl || old) = true) then some (updB b (.row old sz (els.set i (splice el cs o))) H1) else none
  | _ => none
def soY (b i o : Nat) (fl : Bool) (H1 : Heap) : Option (List D) → Option Heap
  | some cs => soZ b i o fl cs H1 (look b H1)
  | none => none
def soX (b i o : Nat) : List D × Heap × Bool → Option Heap
  | (ds, H1, fl) => soY b i o fl H1 (cellDs ds)
def soA (H : Heap) (xs : List V) : V → Option Heap
  | .ep b i o => soX b i o (takeL false H xs)
  | _ => none
def soV (H : Heap) (a : V) : Option (List V) → Option Heap
  | some xs => if xs.all isCell = true then soA H xs a else none
  | none => none
def atZ (H : Heap) (b i j n b2 : Nat) (old : Bool) (sz : Nat) (els : List (List D)) : Option Blk → Option Heap
  | some (.row old2 sz2 els2) => els[i]?.bind fun el => if j < el.length ∧ els2.length = n ∧ ((!old2 || old) = true) then some (updB b (.row old sz (els.set i (el.set j (.sh .own sz2 els2)))) (updB b2 .gone H)) else none
  | _ => none
def atX (H : Heap) (b : Nat) : Option Blk → Option Heap
  | some (.hole old sz els i j b2 n) => atZ H b i j n b2 old sz els (look b2 H)
  | _ => none
section
variable {β : Type} {C : Cx} {K : List (Kont β)} {env : List (Nat × V)} {H : Heap} {nt : Nat} {h : Option Hint} {l : List Vop} {d : Option Nat} {x y a : Od} {s : Option Nat} {sz n b i o id by_ j b2 : Nat} {α : Type} {f : α → List D} {xs : List α} {old fl : Bool} {zs : List D} {fr : Fr}
theorem ldO_ep {dst : Nat} : ldO H dst (.ep b i o) = ldX H (bid dst) b i o (look b H) := by
  simp only [ldO, ldX]
  cases look b H with
  | none => rfl
  | some B =>
    cases B with
    | row old sz els =>
      simp only []
      cases els[i]? with
      | none => rfl
      | some el =>
        simp only [Option.bind_some]
        generalize el[o]? = z
        cases z with
        | none => rfl
        | some dd => cases dd with
          | sh k sz' es => cases k <;> rfl
          | _ => rfl
    | _ => rfl
theorem ldX_row : ldX H id b i o (some (.row old sz (rowE f xs))) = xs[i]?.bind fun x => ldY H id b i o old sz (rowE f xs) ((f x)[o]?) := by
  simp only [ldX, rowE_get]; cases xs[i]? <;> rfl
theorem stO_st {v : V} {ys : List V} : stO H ys v = soA H ys v := by
  cases v with
  | ep b i o =>
    simp only [stO, soA]
    generalize takeL false H ys = r
    obtain ⟨ds, H1, fl⟩ := r
    simp only [soX]
    cases cellDs ds with
    | none => rfl
    | some cs =>
      simp only [soY]
      cases look b H1 with
      | none => rfl
      | some B =>
        cases B with
        | row old sz els =>
          simp only [soZ, fl_old]
          cases els[i]? <;> rfl
        | _ => rfl
  | _ => rfl
theorem soZ_row {cs : List D} : soZ b i o fl cs H (some (.row old sz (rowE f xs))) = xs[i]?.bind fun x => if o + cs.length ≤ (f x).length ∧ ((!fl || old) = true) then some (updB b (.row old sz ((rowE f xs).set i (splice (f x) cs o))) H) else none := by
  simp only [soZ, rowE_get]; cases xs[i]? <;> rfl
theorem atZ_row {els2 : List (List D)} {old2 : Bool} {sz2 : Nat} : atZ H b i j n b2 old sz (rowE f xs) (some (.row old2 sz2 els2)) = xs[i]?.bind fun x => if j < (f x).length ∧ els2.length = n ∧ ((!old2 || old) = true) then some (updB b (.row old sz ((rowE f xs).set i ((f x).set j (.sh .own sz2 els2)))) (updB b2 .gone H)) else none := by
  simp only [atZ, rowE_get]; cases xs[i]? <;> rfl
theorem attach1_eq : attach1 H b = atX H b (look b H) := by
  simp only [attach1, atX]
  cases look b H with
  | none => rfl
  | some B =>
    cases B with
    | hole old sz els i j b2 n =>
      simp only []
      cases look b2 H with
      | none => rfl
      | some B2 => cases B2 with
        | row old2 sz2 els2 => simp only [atZ, fl_old]; cases els[i]? <;> rfl
        | _ => rfl
    | _ => rfl
theorem attachs_nil : attachs H [] = some H := rfl
theorem attachs_cons {bs : List Nat} : attachs H (b :: bs) = (attach1 H b).bind fun H1 => attachs H1 bs := by
  simp only [attachs]; cases attach1 H b <;> rfl
theorem tidy_eq {hi : Hint} : tidy hi fr = (attachs fr.heap hi.att).bind fun H0 => tidyA hi { fr with heap := H0 } := by
  simp only [tidy]; cases attachs fr.heap hi.att <;> rfl
theorem contF_bind {r : Option α} {g : α → Option Fr} : contF C K (r.bind g) = r.bind fun x => contF C K (g x) := by cases r <;> rfl
theorem contF_ite {p : Prop} [Decidable p] {x y : Option Fr} : contF C K (if p then x else y) = if p then contF C K x else contF C K y := by split <;> rfl
theorem contF_none : contF C K none = none := rfl
theorem w_own_ld : runR C K h (⟨d, .own (.ld none x), none⟩ :: l) ⟨env, H, nt⟩ = contH C K h l d ⟨env, H, nt⟩ (ldO H (d.getD 99999) (oval C.gl env x)) := runR_heavy
theorem w_own_msl : runR C K h (⟨d, .own (.msl sz by_ zs x y), none⟩ :: l) ⟨env, H, nt⟩ = contH C K h l d ⟨env, H, nt⟩ (evm (oval C.gl env) H (d.getD 99999) (.msl sz by_ (ownZs zs) x y)) := runR_heavy
theorem w_own_st : runR C K h (⟨d, .own (.st s a x), none⟩ :: l) ⟨env, H, nt⟩ = contH C K h l d ⟨env, H, nt⟩ (stR (soV H (oval C.gl env a) (cellsV s (oval C.gl env x)))) := by
  rw [runR_heavy]
  congr 1
  simp only [eff, effO, soV]
  cases cellsV s (oval C.gl env x) with
  | none => rfl
  | some ys =>
    simp only []
    split
    · rw [stO_st]
      cases soA H ys (oval C.gl env a) <;> rfl
    · rfl
theorem w_own_app : runR C K h (⟨d, .own (.app sz by_ a x), none⟩ :: l) ⟨env, H, nt⟩ = contH C K h l d ⟨env, H, nt⟩ (evaO (oval C.gl env) H (d.getD 99999) (.app sz by_ a x)) := runR_heavy
end
attribute [go_sem] ldO_ep ldX_row ldY soV soA soX soY soZ_row atX atZ_row attach1_eq attachs_nil attachs_cons tidy_eq w_own_ld w_own_msl w_own_st w_own_app contF_bind contF_ite contF_none
section
variable {T : Tab} {R : FuncId → Option Nat} {k n N : Nat} {f : FuncId} {ds : List D} {vc : Vc} {nt : Nat} {rs : List (Nat × Option (Option Nat))}
theorem callFn_run {C : Cx} {ms : List Nat} : callFn C ms vc nt rs ds = (argsFr 0 ms ds ⟨[], [], nt⟩).bind fun fr => run C [.fin (finK C.gl rs (idsOf 0 ms ds) ds)] vc fr := by
  simp only [callFn]
  cases argsFr 0 ms ds ⟨[], [], nt⟩ with
  | none => rfl
  | some fr =>
    simp only [Option.bind_some, run]
    cases vx C vc fr with
    | none => rfl
    | some r => obtain ⟨e, fr1⟩ := r; cases e <;> simp only [Option.bind_some, plug_fin] <;> rfl
theorem lev_rec_st (hR : R f = some N) (hf : T.fn f = some (vc, nt, rs)) (hl : (T.own f).length ≤ nt) :
    lev (recTab T R (k + 1)) (n + 1) f ds = levA (recTab T R k) N vc rs (idsOf 0 (T.own f) ds) ds (argsFr 0 (T.own f) ds ⟨[], [], nt⟩) :=
  (lev_rec hR hf hl).trans callFn_run
end
end Go.Proofs.Ytpbonfgmiffomaa.Wm
set_option linter.unusedSimpArgs false
set_option linter.unusedVariables false
namespace Go.Proofs.Ytpbonfgmiffomaa.Wm
open Go
section
variable {β : Type} {C : Cx} {K : List (Kont β)} {env : List (Nat × V)} {H : Heap} {nt : Nat} {h : Option Hint} {l : List Vop} {d : Option Nat}
theorem contV_no {fr : Fr} : contV C K h l d fr none = none := rfl
theorem w_bad : runR C K h (⟨d, .bad, none⟩ :: l) ⟨env, H, nt⟩ = none := by rw [runR_quiet rfl]; rfl
end
def idxA (s : Option Nat) (o : Nat) (x : V) : Option V := match aggCells x with
  | some vs => partV s o vs
  | none => none
theorem idxV_any {n sz : Nat} {s : Option Nat} {x : V} {k : IntKind} {i : Int} : idxV n sz s x (.val (.int k i)) = if 0 ≤ i ∧ i < (n : Int) then idxA s (i.toNat * sz) x else none := rfl
theorem iadaV_any {H : Heap} {n sz : Nat} {x : V} {k : IntKind} {i : Int} : iadaV H n sz x (.val (.int k i)) = if 0 ≤ i ∧ i < (n : Int) then fadV H (i.toNat * sz) x else none := rfl
theorem idxV_2 {sz : Nat} {s : Option Nat} {x : V} {k : IntKind} {i : Int} : idxV 2 sz s x (.val (.int k i)) = if (i == 0) = true then idxA s 0 x else if (i == 1) = true then idxA s sz x else none := by
  rw [idxV_any]
  by_cases h : 0 ≤ i ∧ i < (2 : Int)
  · have : i = 0 ∨ i = 1 := by omega
    rcases this with rfl | rfl <;> simp
  · have q : ¬ i = 0 ∧ ¬ i = 1 := by omega
    simp [q]; omega
theorem iadaV_2 {H : Heap} {sz : Nat} {x : V} {k : IntKind} {i : Int} : iadaV H 2 sz x (.val (.int k i)) = if (i == 0) = true then fadV H 0 x else if (i == 1) = true then fadV H sz x else none := by
  rw [iadaV_any]
  by_cases h : 0 ≤ i ∧ i < (2 : Int)
  · have : i = 0 ∨ i = 1 := by omega
    rcases this with rfl | rfl <;> simp
  · have q : ¬ i = 0 ∧ ¬ i = 1 := by omega
    simp [q]; omega
theorem idxV_3 {sz : Nat} {s : Option Nat} {x : V} {k : IntKind} {i : Int} : idxV 3 sz s x (.val (.int k i)) = if (i == 0) = true then idxA s 0 x else if (i == 1) = true then idxA s sz x else if (i == 2) = true then idxA s (2 * sz) x else none := by
  rw [idxV_any]
  by_cases h : 0 ≤ i ∧ i < (3 : Int)
  · have : i = 0 ∨ i = 1 ∨ i = 2 := by omega
    rcases this with rfl | rfl | rfl <;> simp
  · have q : ¬ i = 0 ∧ ¬ i = 1 ∧ ¬ i = 2 := by omega
    simp [q]; omega
theorem iadaV_3 {H : Heap} {sz : Nat} {x : V} {k : IntKind} {i : Int} : iadaV H 3 sz x (.val (.int k i)) = if (i == 0) = true then fadV H 0 x else if (i == 1) = true then fadV H sz x else if (i == 2) = true then fadV H (2 * sz) x else none := by
  rw [iadaV_any]
  by_cases h : 0 ≤ i ∧ i < (3 : Int)
  · have : i = 0 ∨ i = 1 ∨ i = 2 := by omega
    rcases this with rfl | rfl | rfl <;> simp
  · have q : ¬ i = 0 ∧ ¬ i = 1 ∧ ¬ i = 2 := by omega
    simp [q]; omega
theorem idxV_4 {sz : Nat} {s : Option Nat} {x : V} {k : IntKind} {i : Int} : idxV 4 sz s x (.val (.int k i)) = if (i == 0) = true then idxA s 0 x else if (i == 1) = true then idxA s sz x else if (i == 2) = true then idxA s (2 * sz) x else if (i == 3) = true then idxA s (3 * sz) x else none := by
  rw [idxV_any]
  by_cases h : 0 ≤ i ∧ i < (4 : Int)
  · have : i = 0 ∨ i = 1 ∨ i = 2 ∨ i = 3 := by omega
    rcases this with rfl | rfl | rfl | rfl <;> simp
  · have q : ¬ i = 0 ∧ ¬ i = 1 ∧ ¬ i = 2 ∧ ¬ i = 3 := by omega
    simp [q]; omega
theorem iadaV_4 {H : Heap} {sz : Nat} {x : V} {k : IntKind} {i : Int} : iadaV H 4 sz x (.val (.int k i)) = if (i == 0) = true then fadV H 0 x else if (i == 1) = true then fadV H sz x else if (i == 2) = true then fadV H (2 * sz) x else if (i == 3) = true then fadV H (3 * sz) x else none := by
  rw [iadaV_any]
  by_cases h : 0 ≤ i ∧ i < (4 : Int)
  · have : i = 0 ∨ i = 1 ∨ i = 2 ∨ i = 3 := by omega
    rcases this with rfl | rfl | rfl | rfl <;> simp
  · have q : ¬ i = 0 ∧ ¬ i = 1 ∧ ¬ i = 2 ∧ ¬ i = 3 := by omega
    simp [q]; omega
theorem idxV_5 {sz : Nat} {s : Option Nat} {x : V} {k : IntKind} {i : Int} : idxV 5 sz s x (.val (.int k i)) = if (i == 0) = true then idxA s 0 x else if (i == 1) = true then idxA s sz x else if (i == 2) = true then idxA s (2 * sz) x else if (i == 3) = true then idxA s (3 * sz) x else if (i == 4) = true then idxA s (4 * sz) x else none := by
  rw [idxV_any]
  by_cases h : 0 ≤ i ∧ i < (5 : Int)
  · have : i = 0 ∨ i = 1 ∨ i = 2 ∨ i = 3 ∨ i = 4 := by omega
    rcases this with rfl | rfl | rfl | rfl | rfl <;> simp
  · have q : ¬ i = 0 ∧ ¬ i = 1 ∧ ¬ i = 2 ∧ ¬ i = 3 ∧ ¬ i = 4 := by omega
    simp [q]; omega
theorem iadaV_5 {H : Heap} {sz : Nat} {x : V} {k : IntKind} {i : Int} : iadaV H 5 sz x (.val (.int k i)) = if (i == 0) = true then fadV H 0 x else if (i == 1) = true then fadV H sz x else if (i == 2) = true then fadV H (2 * sz) x else if (i == 3) = true then fadV H (3 * sz) x else if (i == 4) = true then fadV H (4 * sz) x else none := by
  rw [iadaV_any]
  by_cases h : 0 ≤ i ∧ i < (5 : Int)
  · have : i = 0 ∨ i = 1 ∨ i = 2 ∨ i = 3 ∨ i = 4 := by omega
    rcases this with rfl | rfl | rfl | rfl | rfl <;> simp
  · have q : ¬ i = 0 ∧ ¬ i = 1 ∧ ¬ i = 2 ∧ ¬ i = 3 ∧ ¬ i = 4 := by omega
    simp [q]; omega
theorem idxV_6 {sz : Nat} {s : Option Nat} {x : V} {k : IntKind} {i : Int} : idxV 6 sz s x (.val (.int k i)) = if (i == 0) = true then idxA s 0 x else if (i == 1) = true then idxA s sz x else if (i == 2) = true then idxA s (2 * sz) x else if (i == 3) = true then idxA s (3 * sz) x else if (i == 4) = true then idxA s (4 * sz) x else if (i == 5) = true then idxA s (5 * sz) x else none := by
  rw [idxV_any]
  by_cases h : 0 ≤ i ∧ i < (6 : Int)
  · have : i = 0 ∨ i = 1 ∨ i = 2 ∨ i = 3 ∨ i = 4 ∨ i = 5 := by omega
    rcases this with rfl | rfl | rfl | rfl | rfl | rfl <;> simp
  · have q : ¬ i = 0 ∧ ¬ i = 1 ∧ ¬ i = 2 ∧ ¬ i = 3 ∧ ¬ i = 4 ∧ ¬ i = 5 := by omega
    simp [q]; omega
theorem iadaV_6 {H : Heap} {sz : Nat} {x : V} {k : IntKind} {i : Int} : iadaV H 6 sz x (.val (.int k i)) = if (i == 0) = true then fadV H 0 x else if (i == 1) = true then fadV H sz x else if (i == 2) = true then fadV H (2 * sz) x else if (i == 3) = true then fadV H (3 * sz) x else if (i == 4) = true then fadV H (4 * sz) x else if (i == 5) = true then fadV H (5 * sz) x else none := by
  rw [iadaV_any]
  by_cases h : 0 ≤ i ∧ i < (6 : Int)
  · have : i = 0 ∨ i = 1 ∨ i = 2 ∨ i = 3 ∨ i = 4 ∨ i = 5 := by omega
    rcases this with rfl | rfl | rfl | rfl | rfl | rfl <;> simp
  · have q : ¬ i = 0 ∧ ¬ i = 1 ∧ ¬ i = 2 ∧ ¬ i = 3 ∧ ¬ i = 4 ∧ ¬ i = 5 := by omega
    simp [q]; omega
theorem idxV_7 {sz : Nat} {s : Option Nat} {x : V} {k : IntKind} {i : Int} : idxV 7 sz s x (.val (.int k i)) = if (i == 0) = true then idxA s 0 x else if (i == 1) = true then idxA s sz x else if (i == 2) = true then idxA s (2 * sz) x else if (i == 3) = true then idxA s (3 * sz) x else if (i == 4) = true then idxA s (4 * sz) x else if (i == 5) = true then idxA s (5 * sz) x else if (i == 6) = true then idxA s (6 * sz) x else none := by
  rw [idxV_any]
  by_cases h : 0 ≤ i ∧ i < (7 : Int)
  · have : i = 0 ∨ i = 1 ∨ i = 2 ∨ i = 3 ∨ i = 4 ∨ i = 5 ∨ i = 6 := by omega
    rcases this with rfl | rfl | rfl | rfl | rfl | rfl | rfl <;> simp
  · have q : ¬ i = 0 ∧ ¬ i = 1 ∧ ¬ i = 2 ∧ ¬ i = 3 ∧ ¬ i = 4 ∧ ¬ i = 5 ∧ ¬ i = 6 := by omega
    simp [q]; omega
theorem iadaV_7 {H : Heap} {sz : Nat} {x : V} {k : IntKind} {i : Int} : iadaV H 7 sz x (.val (.int k i)) = if (i == 0) = true then fadV H 0 x else if (i == 1) = true then fadV H sz x else if (i == 2) = true then fadV H (2 * sz) x else if (i == 3) = true then fadV H (3 * sz) x else if (i == 4) = true then fadV H (4 * sz) x else if (i == 5) = true then fadV H (5 * sz) x else if (i == 6) = true then fadV H (6 * sz) x else none := by
  rw [iadaV_any]
  by_cases h : 0 ≤ i ∧ i < (7 : Int)
  · have : i = 0 ∨ i = 1 ∨ i = 2 ∨ i = 3 ∨ i = 4 ∨ i = 5 ∨ i = 6 := by omega
    rcases this with rfl | rfl | rfl | rfl | rfl | rfl | rfl <;> simp
  · have q : ¬ i = 0 ∧ ¬ i = 1 ∧ ¬ i = 2 ∧ ¬ i = 3 ∧ ¬ i = 4 ∧ ¬ i = 5 ∧ ¬ i = 6 := by omega
    simp [q]; omega
theorem idxV_8 {sz : Nat} {s : Option Nat} {x : V} {k : IntKind} {i : Int} : idxV 8 sz s x (.val (.int k i)) = if (i == 0) = true then idxA s 0 x else if (i == 1) = true then idxA s sz x else if (i == 2) = true then idxA s (2 * sz) x else if (i == 3) = true then idxA s (3 * sz) x else if (i == 4) = true then idxA s (4 * sz) x else if (i == 5) = true then idxA s (5 * sz) x else if (i == 6) = true then idxA s (6 * sz) x else if (i == 7) = true then idxA s (7 * sz) x else none := by
  rw [idxV_any]
  by_cases h : 0 ≤ i ∧ i < (8 : Int)
  · have : i = 0 ∨ i = 1 ∨ i = 2 ∨ i = 3 ∨ i = 4 ∨ i = 5 ∨ i = 6 ∨ i = 7 := by omega
    rcases this with rfl | rfl | rfl | rfl | rfl | rfl | rfl | rfl <;> simp
  · have q : ¬ i = 0 ∧ ¬ i = 1 ∧ ¬ i = 2 ∧ ¬ i = 3 ∧ ¬ i = 4 ∧ ¬ i = 5 ∧ ¬ i = 6 ∧ ¬ i = 7 := by omega
    simp [q]; omega
theorem iadaV_8 {H : Heap} {sz : Nat} {x : V} {k : IntKind} {i : Int} : iadaV H 8 sz x (.val (.int k i)) = if (i == 0) = true then fadV H 0 x else if (i == 1) = true then fadV H sz x else if (i == 2) = true then fadV H (2 * sz) x else if (i == 3) = true then fadV H (3 * sz) x else if (i == 4) = true then fadV H (4 * sz) x else if (i == 5) = true then fadV H (5 * sz) x else if (i == 6) = true then fadV H (6 * sz) x else if (i == 7) = true then fadV H (7 * sz) x else none := by
  rw [iadaV_any]
  by_cases h : 0 ≤ i ∧ i < (8 : Int)
  · have : i = 0 ∨ i = 1 ∨ i = 2 ∨ i = 3 ∨ i = 4 ∨ i = 5 ∨ i = 6 ∨ i = 7 := by omega
    rcases this with rfl | rfl | rfl | rfl | rfl | rfl | rfl | rfl <;> simp
  · have q : ¬ i = 0 ∧ ¬ i = 1 ∧ ¬ i = 2 ∧ ¬ i = 3 ∧ ¬ i = 4 ∧ ¬ i = 5 ∧ ¬ i = 6 ∧ ¬ i = 7 := by omega
    simp [q]; omega
attribute [go_sem low] idxV_any iadaV_any
attribute [go_sem] w_bad idxA idxV_2 iadaV_2 idxV_3 iadaV_3 idxV_4 iadaV_4 idxV_5 iadaV_5 idxV_6 iadaV_6 idxV_7 iadaV_7 idxV_8 iadaV_8
def ldsV (H : Heap) (s : Option Nat) (v : V) : Option V := match v with
  | .val (.ptr cs) => loadV H s (.val (.ptr cs))
  | _ => none
theorem ldsV_ptr {H : Heap} {s : Option Nat} {cs : List D} : ldsV H s (.val (.ptr cs)) = loadV H s (.val (.ptr cs)) := rfl
def basR (H : Heap) (sz b o n : Nat) : Option Blk → Option (List (List D) × Bool × Heap)
  | some (.row old sz' els) => if sz' = sz then some ((els.drop o).take n, old, updB b .gone H) else none
  | _ => none
def apO2 (id sz by_ : Nat) (ds : List (List D)) (old2 : Bool) : Option (List (List D) × Bool × Heap) → Option (V × Heap)
  | some (cs, old, H2) => if allCellO ds = true then appC id sz by_ (old2 || old) (cs ++ ds) H2 (free id H2) else none
  | none => none
def apO1 (id sz by_ : Nat) (v : V) : Option (List (List D) × Bool × Heap) → Option (V × Heap)
  | some (ds, old2, H1) => apO2 id sz by_ ds old2 (baseOf H1 sz v)
  | none => none
def bsO1 (id sz len : Nat) : Option (List (List D) × Heap × Bool) → Option (V × Heap)
  | some (els, H1, fl) => if free id H1 = true then some (.sl id 0 len, (id, .row fl sz els) :: H1) else none
  | none => none
def bsE3 (ρ : Od → V) (sz : Nat) (H1 : Heap) (fl : Bool) (els : List (List D)) (at_ : Nat) (ps : List Part) : Option (List D) → Option (List (List D) × Heap × Bool)
  | some cs => if at_ < els.length ∧ cs.length = sz then bslElsO ρ sz H1 fl (els.set at_ cs) ps else none
  | none => none
def bsE2 (ρ : Od → V) (sz : Nat) (fl : Bool) (els : List (List D)) (at_ : Nat) (ps : List Part) : List D × Heap × Bool → Option (List (List D) × Heap × Bool)
  | (ds, H1, f1) => bsE3 ρ sz H1 (fl || f1) els at_ ps (cellDs ds)
def bsE1 (ρ : Od → V) (sz : Nat) (H : Heap) (fl : Bool) (els : List (List D)) (at_ : Nat) (ps : List Part) : Option (List V) → Option (List (List D) × Heap × Bool)
  | some xs => if xs.all isCell = true then bsE2 ρ sz fl els at_ ps (takeL false H xs) else none
  | none => none
section
variable {β : Type} {C : Cx} {K : List (Kont β)} {env : List (Nat × V)} {H : Heap} {nt : Nat} {h : Option Hint} {l : List Vop} {d : Option Nat} {x y a : Od} {s : Option Nat} {sz n b i o id by_ len dst : Nat} {zs : List D} {ps : List Part} {ρ : Od → V} {fl : Bool} {els : List (List D)} {p : Part}
theorem w_lds : runR C K h (⟨d, .lds s x, none⟩ :: l) ⟨env, H, nt⟩ = contV C K h l d ⟨env, H, nt⟩ (ldsV H s (oval C.gl env x)) := runR_quiet rfl
theorem baseOf_sl : baseOf H sz (.sl b o n) = basR H sz b o n (look b H) := by
  simp only [baseOf, basR]
  cases look b H with
  | none => rfl
  | some B => cases B <;> rfl
theorem baseOf_emp : baseOf H sz (.emp n) = some ([], false, H) := rfl
theorem evaO_app : evaO ρ H dst (.app sz by_ x y) = apO1 (bid dst) sz by_ (ρ x) (baseOf H sz (ρ y)) := by
  simp only [evaO]
  cases baseOf H sz (ρ y) with
  | none => rfl
  | some p =>
    obtain ⟨ds, old2, H1⟩ := p
    simp only [apO1]
    cases baseOf H1 sz (ρ x) with
    | none => rfl
    | some q =>
      obtain ⟨cs, old, H2⟩ := q
      simp only [apO2]
      by_cases h2 : allCellO ds = true
      · cases h3 : free (bid dst) H2 with
        | true => simp [h2, appC, okApp]
        | false => simp [appC]
      · simp [h2]
theorem baseOf_restW {els : List (List D)} {n m : Nat} : ((restW els 0 n).drop n).take m = (els.drop n).take m := by rw [restW_drop]
theorem sliR_restW {old : Bool} {u v : Nat} {els : List (List D)} {c : Option (Nat × Nat)} : sliR b sz o c (some (.row old sz (restW els u v))) = c.map fun p => .sl b (o + p.1) (p.2 - p.1) := by simp [sliR]
theorem w_own2 {i : I} : runR C K h (⟨d, .own (.own i), none⟩ :: l) ⟨env, H, nt⟩ = contH C K h l d ⟨env, H, nt⟩ (evaP (oval C.gl env) H (d.getD 99999) i) := by
  rw [runR_heavy]
  rfl
def paR (H : Heap) (sz b o n : Nat) : Option Blk → Option (List (List D) × Bool × Heap)
  | some (.row old sz' els) => if sz' = sz then some ((els.drop o).take n, old, updB b (.row old sz (restW els o n)) H) else none
  | _ => none
def apP2 (id sz by_ : Nat) (cs : List (List D)) (old : Bool) : Option (List (List D) × Bool × Heap) → Option (V × Heap)
  | some (ds, old2, H2) => if allCellO ds = true then appC id sz by_ (old2 || old) (cs ++ ds) H2 (free id H2) else none
  | none => none
def apP1 (id sz by_ : Nat) (v : V) : Option (List (List D) × Bool × Heap) → Option (V × Heap)
  | some (cs, old, H1) => apP2 id sz by_ cs old (partB H1 sz v)
  | none => none
theorem partB_sl : partB H sz (.sl b o n) = paR H sz b o n (look b H) := by
  simp only [partB, paR]
  cases look b H with
  | none => rfl
  | some B => cases B <;> rfl
theorem evaP_app : evaP ρ H dst (.app sz by_ x y) = apP1 (bid dst) sz by_ (ρ y) (baseOf H sz (ρ x)) := by
  simp only [evaP]
  cases baseOf H sz (ρ x) with
  | none => rfl
  | some p =>
    obtain ⟨cs, old, H1⟩ := p
    simp only [apP1]
    cases partB H1 sz (ρ y) with
    | none => rfl
    | some q =>
      obtain ⟨ds, old2, H2⟩ := q
      simp only [apP2]
      by_cases h2 : allCellO ds = true
      · cases h3 : free (bid dst) H2 with
        | true => simp [h2, appC, okApp]
        | false => simp [appC]
      · simp [h2]
theorem w_own_bsl : runR C K h (⟨d, .own (.bsl sz zs len ps), none⟩ :: l) ⟨env, H, nt⟩ = contH C K h l d ⟨env, H, nt⟩ (bsO1 (bid (d.getD 99999)) sz len (bslElsO (oval C.gl env) sz H false (List.replicate len (ownZs zs)) ps)) := by
  rw [runR_heavy]
  rfl
theorem bslElsO_nil : bslElsO ρ sz H fl els [] = some (els, H, fl) := rfl
theorem bslElsO_cons : bslElsO ρ sz H fl els (p :: ps) = bsE1 ρ sz H fl els p.at_ ps (cellsV p.s (ρ p.x)) := by
  simp only [bslElsO]
  cases cellsV p.s (ρ p.x) with
  | none => rfl
  | some xs =>
    simp only [bsE1]
    generalize takeL false H xs = r
    obtain ⟨ds, H1, f1⟩ := r
    simp only [bsE2]
    cases cellDs ds with
    | none => simp [bsE3]
    | some cs =>
      simp only [bsE3]
      by_cases h : xs.all isCell = true
      · simp [h]
      · simp [h]
end
attribute [go_sem] sliR_restW baseOf_restW w_own2 paR apP2 apP1 partB_sl evaP_app w_lds ldsV_ptr basR apO1 apO2 bsO1 bsE1 bsE2 bsE3 baseOf_sl baseOf_emp evaO_app w_own_bsl bslElsO_nil bslElsO_cons
theorem lentE_cons {e : List D} {es : List (List D)} : Wm.lentE (e :: es) = lentL e :: Wm.lentE es := rfl
attribute [go_sem] lentE_cons
def hk (k : List Nat) : Hint := ⟨[], k, [], [], [], [], [], []⟩
def hr (k : List Nat) (r : List (Nat × Nat)) : Hint := ⟨[], k, r, [], [], [], [], []⟩
def s0 : Option Hint := some ⟨[], [], [], [], [], [], [], []⟩
def sk (k : List Nat) : Option Hint := some ⟨[], k, [], [], [], [], [], []⟩
def sr (k : List Nat) (r : List (Nat × Nat)) : Option Hint := some ⟨[], k, r, [], [], [], [], []⟩
def ii (d : Nat) (i : I) : Vop := ⟨some d, i, none⟩
def mm (d t : Nat) : Vop := ⟨some d, .mov (.tmp t), none⟩
def ci (n : Int) : Od := .cst (.int .i64 n)
attribute [go_sem] hk hr s0 sk sr ii mm ci
attribute [go_sem ↓] ite_not' reduceIte
attribute [go_sem] Nat.reduceEqDiff Nat.reduceLT Nat.reduceLeDiff Nat.reduceAdd Nat.reduceMul Nat.reduceSub Int.reduceEq Int.reduceLT Int.reduceLE Int.reduceToNat Int.cast_ofNat_Int Nat.reduceBEq
theorem isF {P : Program} {own : FuncId → List Nat} {f : FuncId} {vc : Vc} {nt : Nat} {rs : List (Nat × Option (Option Nat))} (A A1 A2 : List (Nat × Hint)) (B : List (Nat × Tr)) {fn : Func} (hf : P.funcs[f]? = some fn)
    (h : (fn.body.isSome, conv P own (fun i => look i A) (fun i => look i A1) (fun i => look i A2) (fun i => (look i B).getD .done) (fn.body.getD .skip), fn.ntmps, rsOf P fn.results.toList, fn.name == "runtime.NumGoroutine", Nat.ble nt 99999) = (true, some vc, nt, some rs, false, true)) : IsFn P own f vc nt rs := by
  simp only [Prod.mk.injEq] at h
  obtain ⟨h1, h2, h3, h4, h5, h6⟩ := h
  refine ⟨⟨_, _, _, _, fn, fn.body.getD .skip, hf, ?_, h2, h3, h4, h5⟩, Nat.le_of_ble_eq_true h6⟩
  cases hb : fn.body with
  | none => rw [hb] at h1; cases h1
  | some c => rfl
theorem slaV_strs {n : Nat} {a b c d : List UInt8} : slaV n (.val (.ptr [.str a, .str b, .str c, .str d])) = if 4 = n then some (.val (.sh .lent 1 (rowE eS [a, b, c, d]))) else none := rfl
attribute [go_sem] w_sla slaV_strs
def ovg : Option (List D) → V
  | some cs => .val (.ptr cs)
  | none => .dead
theorem oval_gl {gl : Nat → Option (List D)} {g : Nat} {env : List (Nat × V)} : oval gl env (.gl g) = ovg (gl g) := by
  simp only [oval]
  cases gl g <;> rfl
theorem ovg_some {cs : List D} : ovg (some cs) = .val (.ptr cs) := rfl
attribute [go_sem] oval_gl ovg_some
end Go.Proofs.Ytpbonfgmiffomaa.Wm
set_option linter.unusedSimpArgs false
set_option linter.unusedVariables false
namespace Go.Proofs.Ytpbonfgmiffomaa.Wm
open Go
inductive Ty where
  | int (k : IntKind)
  | bool
  | str
  | sl (sz : Nat) (e : List Ty)
def maxI : Int := 9223372036854775807
mutual
def OkD : Ty → D → Prop
  | .int k, d => ∃ n, d = .int k n ∧ k.min ≤ n ∧ n ≤ k.max
  | .bool, d => ∃ b, d = .bool b
  | .str, d => ∃ s, d = .str s ∧ (s.length : Int) ≤ maxI
  | .sl sz e, d => ∃ els, d = .sh .lent sz els ∧ (els.length : Int) ≤ maxI ∧ ∀ el ∈ els, OkL e el
def OkL : List Ty → List D → Prop
  | [], ds => ds = []
  | t :: ts, ds => ∃ d r, ds = d :: r ∧ OkD t d ∧ OkL ts r
end
theorem OkL.len : ∀ {ts : List Ty} {ds : List D}, OkL ts ds → ds.length = ts.length
  | [], ds, h => by simp only [OkL] at h; simp [h]
  | t :: ts, ds, h => by
    simp only [OkL] at h
    obtain ⟨d, r, rfl, _, h⟩ := h
    simp [h.len]
theorem OkL.app : ∀ {ts us : List Ty} {ds es : List D}, OkL ts ds → OkL us es → OkL (ts ++ us) (ds ++ es)
  | [], us, ds, es, h, k => by simp only [OkL] at h; subst h; exact k
  | t :: ts, us, ds, es, h, k => by
    simp only [OkL] at h
    obtain ⟨d, r, rfl, h1, h⟩ := h
    simp only [List.cons_append, OkL]
    exact ⟨d, _, rfl, h1, h.app k⟩
mutual
theorem OkD.nf : ∀ {t : Ty} {d : D}, OkD t d → nf d = true
  | .int k, d, h => by simp only [OkD] at h; obtain ⟨n, rfl, _⟩ := h; rfl
  | .bool, d, h => by simp only [OkD] at h; obtain ⟨n, rfl⟩ := h; rfl
  | .str, d, h => by simp only [OkD] at h; obtain ⟨n, rfl, _⟩ := h; rfl
  | .sl sz e, d, h => by
    simp only [OkD] at h
    obtain ⟨els, rfl, hl, h⟩ := h
    clear hl
    simp only [Wm.nf, kNf, Bool.true_and]
    induction els with
    | nil => rfl
    | cons x xs ih => simp only [nfE, Bool.and_eq_true]; exact ⟨OkL.nf (h x (by simp)), ih fun el he => h el (by simp [he])⟩
theorem OkL.nf : ∀ {ts : List Ty} {ds : List D}, OkL ts ds → nfL ds = true
  | [], ds, h => by simp only [OkL] at h; subst h; rfl
  | t :: ts, ds, h => by
    simp only [OkL] at h
    obtain ⟨d, r, rfl, h1, h2⟩ := h
    simp only [nfL, Bool.and_eq_true]
    exact ⟨OkD.nf h1, OkL.nf h2⟩
end
def shapesF (P : Program) (sh : TypeId → Option (List Ty)) : List Field → Nat → Option (List Ty)
  | [], _ => some []
  | f :: fs, o => match sh f.type with
    | some s => if f.offset = o ∧ s.length = P.cellsOf f.type then (match shapesF P sh fs (o + s.length) with
      | some r => some (s ++ r)
      | none => none) else none
    | none => none
def shapes (P : Program) : Nat → TypeId → Option (List Ty)
  | 0, _ => none
  | n + 1, t => match P.underlying t with
    | some (.int k) => some [.int k]
    | some .bool => some [.bool]
    | some .string => some [.str]
    | some (.slice e) => match shapes P n e with
      | some s => if s.length = P.cellsOf e ∧ 0 < s.length then some [.sl (P.cellsOf e) s] else none
      | none => none
    | some (.struct fs) => match shapesF P (shapes P n) fs.toList 0 with
      | some s => if s.length = P.cellsOf t then some s else none
      | none => none
    | _ => none
def RepSs (w : World) (ds : List D) (vs : List Value) : Prop := ds.length = vs.length ∧ ∀ (i : Nat) (d : D) (v : Value), ds[i]? = some d → vs[i]? = some v → RepS w (fun _ _ => False) d v
theorem RepSs.one {w : World} {d : D} {v : Value} (h : RepS w (fun _ _ => False) d v) : RepSs w [d] [v] := ⟨rfl, fun i d' v' h1 h2 => by
  cases i with
  | zero => simp at h1 h2; subst h1; subst h2; exact h
  | succ i => simp at h1⟩
theorem RepSs.app {w : World} {ds es : List D} {vs us : List Value} (h : RepSs w ds vs) (k : RepSs w es us) : RepSs w (ds ++ es) (vs ++ us) := by
  refine ⟨by simp [h.1, k.1], fun i d v h1 h2 => ?_⟩
  rcases Nat.lt_or_ge i ds.length with hi | hi
  · rw [List.getElem?_append_left hi] at h1
    rw [List.getElem?_append_left (by rw [← h.1]; exact hi)] at h2
    exact h.2 i d v h1 h2
  · rw [List.getElem?_append_right hi] at h1
    rw [List.getElem?_append_right (by rw [← h.1]; exact hi), ← h.1] at h2
    exact k.2 _ d v h1 h2
section
variable {H : Type} {enc : TypeId × Value → H} {P : Program} {w : World} {spare : Nat → Bool} {held : Bool}
theorem cells_get {a : Addr} {n : Nat} {cs : List Value} (h : w.cells? 0 a n = some cs) : cs.length = n ∧ ∀ j, j < n → w.cell? (a.add j) = cs[j]? := by
  unfold World.cells? at h
  simp only [Nat.zero_le, if_true] at h
  refine ⟨by simpa using mapM_some_length h, fun j hj => ?_⟩
  have := mapM_some_get h j j (by simp [hj])
  simpa using this
theorem cell_spot {a : Addr} {v : Value} (h : w.cell? a = some v) : a.spot = none := by
  cases hs : a.spot with
  | none => rfl
  | some p =>
    unfold World.cell? at h
    split at h
    · simp [hs] at h
    · simp at h
theorem add_cell {a : Addr} {n m : Nat} {v : Value} (h : w.cell? ((a.add n).add m) = some v) : w.cell? ⟨a.block, a.off + n + m, none⟩ = some v := by
  have hs := cell_spot h
  have e : (a.add n).add m = ⟨a.block, a.off + n + m, none⟩ := by
    obtain ⟨b, o, s⟩ := a
    unfold Addr.add at hs ⊢
    by_cases hn : n = 0
    · by_cases hm : m = 0
      · simp only [hn, hm, if_true] at hs ⊢; simp only [hs, Nat.add_zero]
      · simp [hn, hm]
    · by_cases hm : m = 0
      · simp [hn, hm]
      · simp [hn, hm]
  rw [← e]; exact h
theorem add_spot {a : Addr} {v : Value} (h : w.cell? ((a.add 0).add 0) = some v) : a.spot = none := by
  have := cell_spot h
  unfold Addr.add at this
  simpa using this
theorem fields_open {sh : TypeId → Option (List Ty)} {cs : List Value} : ∀ {fs : List Field} {o : Nat} {ts : List Ty}, shapesF P sh fs o = some ts → o + ts.length ≤ cs.length →
    (∀ f ∈ fs, ∀ s, sh f.type = some s → s.length = P.cellsOf f.type → ∃ ds, OkL s ds ∧ RepSs w ds ((cs.drop f.offset).take (P.cellsOf f.type))) →
    ∃ ds, OkL ts ds ∧ RepSs w ds ((cs.drop o).take ts.length)
  | [], o, ts, h, hl, hf => by
    simp only [shapesF] at h
    obtain rfl := Option.some.inj h
    exact ⟨[], by simp [OkL], by simp [RepSs]⟩
  | f :: fs, o, ts, h, hl, hf => by
    simp only [shapesF] at h
    split at h
    · rename_i s hs
      split at h
      · rename_i hc
        obtain ⟨h1, h2⟩ := hc
        split at h
        · rename_i r hr
          obtain rfl := Option.some.inj h
          simp only [List.length_append] at hl
          obtain ⟨ds, a1, a2⟩ := hf f (by simp) s hs h2
          obtain ⟨es, b1, b2⟩ := fields_open hr (by omega) (fun g hg => hf g (by simp [hg]))
          refine ⟨ds ++ es, a1.app b1, ?_⟩
          rw [h1, ← h2] at a2
          have e : (cs.drop o).take (s ++ r).length = (cs.drop o).take s.length ++ (cs.drop (o + s.length)).take r.length := by
            rw [List.length_append, List.take_add, List.drop_drop]
          rw [e]
          exact a2.app b2
        · simp at h
      · simp at h
    · simp at h
theorem open_cells : ∀ (n : Nat) {t : TypeId} {ts : List Ty} {fuel : Nat} {cs : List Value} {x : DataW H × List MemPlace}, shapes P n t = some ts → DataW.trod enc P w 0 spare held fuel t cs = some x → ∃ ds, OkL ts ds ∧ RepSs w ds cs
  | 0, t, ts, fuel, cs, x, hs, h => by simp [shapes] at hs
  | n + 1, t, ts, fuel, cs, x, hs, h => by
    simp only [shapes] at hs
    split at hs
    · rename_i k hk
      obtain rfl := Option.some.inj hs
      obtain ⟨m, rfl, _, hw⟩ := DataW.trod_int hk h
      simp only [Lit.wf, Bool.and_eq_true, decide_eq_true_eq] at hw
      exact ⟨[.int k m], by simp only [OkL, OkD]; exact ⟨_, _, rfl, ⟨m, rfl, hw⟩, rfl⟩, RepSs.one (.int k m)⟩
    · rename_i hk
      obtain rfl := Option.some.inj hs
      obtain ⟨b, rfl, _⟩ := DataW.trod_bool hk h
      exact ⟨[.bool b], by simp only [OkL, OkD]; exact ⟨_, _, rfl, ⟨b, rfl⟩, rfl⟩, RepSs.one (.bool b)⟩
    · rename_i hk
      obtain rfl := Option.some.inj hs
      obtain ⟨s, rfl, _, hl⟩ := DataW.trod_string hk h
      have hb : ((s.data.toList.length : Nat) : Int) ≤ maxI := by
        have e1 : s.data.toList.length = s.size := by rw [Array.length_toList]; rfl
        rw [e1]
        unfold maxLen at hl
        unfold maxI
        omega
      exact ⟨[.str s.data.toList], by simp only [OkL, OkD]; exact ⟨_, _, rfl, ⟨_, rfl, hb⟩, rfl⟩, RepSs.one (.str s.data.toList)⟩
    · rename_i e hk
      split at hs
      · rename_i s hse
        split at hs
        · rename_i hc
          obtain ⟨hc, hpos⟩ := hc
          obtain rfl := Option.some.inj hs
          rcases DataW.trod_slice hk h with ⟨rfl, _⟩ | ⟨a, len, cap, elems, rest, m, rfl, rfl, _, _, hl, hm, he, hel, _⟩
          · exact ⟨[.sh .lent (P.cellsOf e) []], by simp only [OkL, OkD]; exact ⟨_, _, rfl, ⟨[], rfl, by simp [maxI], by simp⟩, rfl⟩, RepSs.one (.shn _ _ (by simp))⟩
          · have one : ∀ i, ∃ el, i < len → OkL s el ∧ ∃ cs, w.cells? 0 (a.add (i * P.cellsOf e)) (P.cellsOf e) = some cs ∧ RepSs w el cs := fun i => by
              by_cases hi : i < len
              · have h1 := hel i hi
                rw [List.getElem?_eq_getElem (by omega)] at h1
                obtain ⟨cs, h2, h3⟩ := Option.bind_eq_some_iff.1 h1
                obtain ⟨el, k1, k2⟩ := open_cells n hse h3
                exact ⟨el, fun _ => ⟨k1, cs, h2, k2⟩⟩
              · exact ⟨[], fun h => absurd h hi⟩
            have two : ∀ i, ∃ el, ∃ cs, i < len → OkL s el ∧ w.cells? 0 (a.add (i * P.cellsOf e)) (P.cellsOf e) = some cs ∧ RepSs w el cs := fun i => by
              obtain ⟨el, h1⟩ := one i
              by_cases hi : i < len
              · obtain ⟨a1, cs, a2⟩ := h1 hi; exact ⟨el, cs, fun _ => ⟨a1, a2⟩⟩
              · exact ⟨el, [], fun h => absurd h hi⟩
            let g : Nat → List D := fun i => Classical.choose (two i)
            have hg : ∀ i, i < len → OkL s (g i) ∧ ∃ cs, w.cells? 0 (a.add (i * P.cellsOf e)) (P.cellsOf e) = some cs ∧ RepSs w (g i) cs := fun i hi => by
              obtain ⟨cs, q⟩ := Classical.choose_spec (two i)
              exact ⟨(q hi).1, cs, (q hi).2⟩
            have hlen : ((List.range len).map g).length = len := by simp
            have get : ∀ (i : Nat) (el : List D), ((List.range len).map g)[i]? = some el → i < len ∧ el = g i := fun i el h1 => by
              rw [List.getElem?_map] at h1
              obtain ⟨j, h2, rfl⟩ := Option.map_eq_some_iff.1 h1
              obtain ⟨h3, h4⟩ := List.getElem?_eq_some_iff.1 h2
              simp at h3 h4
              subst h4
              exact ⟨h3, rfl⟩
            have cell : ∀ i j d, i < len → (g i)[j]? = some d → ∃ v, w.cell? ((a.add (i * P.cellsOf e)).add j) = some v ∧ RepS w (fun _ _ => False) d v := fun i j d hi hj => by
              obtain ⟨_, cs, q1, q2⟩ := hg i hi
              obtain ⟨r1, r2⟩ := cells_get q1
              have hjl : j < cs.length := by rw [← q2.1]; exact (List.getElem?_eq_some_iff.1 hj).1
              have hv := List.getElem?_eq_getElem hjl
              exact ⟨cs[j], by rw [r2 j (by omega)]; exact hv, q2.2 j d _ hj hv⟩
            refine ⟨[.sh .lent (P.cellsOf e) ((List.range len).map g)], by
              simp only [OkL, OkD]
              refine ⟨_, _, rfl, ⟨_, rfl, ?_, fun el hel' => ?_⟩, rfl⟩
              · rw [hlen]; unfold maxLen at hm; unfold maxI; omega
              · obtain ⟨i, hi, rfl⟩ := List.mem_map.1 hel'
                exact (hg i (by simpa using hi)).1, RepSs.one ?_⟩
            have key := RepS.sh (w := w) (X := fun _ _ => False) .lent (P.cellsOf e) ((List.range len).map g) a cap (fun i j => (w.cell? ((a.add (i * P.cellsOf e)).add j)).getD .nilFunc) (by simp) (by rw [hlen]; exact hl) (fun el hel' => by
                obtain ⟨i, hi, rfl⟩ := List.mem_map.1 hel'
                have := (hg i (by simpa using hi)).1.len
                omega) (fun i j el d h1 h2 => by
                obtain ⟨hi, rfl⟩ := get i el h1
                obtain ⟨v, q1, q2⟩ := cell i j d hi h2
                refine ⟨?_, id, ?_⟩
                · have h0 : 0 < (g 0).length := by rw [(hg 0 (by omega)).1.len]; exact hpos
                  obtain ⟨v0, z1, _⟩ := cell 0 0 _ (by omega) (List.getElem?_eq_getElem h0)
                  rw [Nat.zero_mul] at z1
                  exact add_spot z1
                · rw [q1]; exact add_cell q1) (fun i j el d h1 h2 => by
                obtain ⟨hi, rfl⟩ := get i el h1
                obtain ⟨v, q1, q2⟩ := cell i j d hi h2
                rw [q1]; exact q2)
            rw [hlen] at key
            exact key
        · simp at hs
      · simp at hs
    · rename_i fs hk
      split at hs
      · rename_i s hsf
        split at hs
        · rename_i hc
          obtain rfl := Option.some.inj hs
          obtain ⟨xs, m, rfl, _, hl, hx, hg⟩ := DataW.trod_struct hk h
          obtain ⟨ds, a1, a2⟩ := fields_open (w := w) (cs := cs) hsf (by omega) (fun f hf s' hs' hl' => by
            obtain ⟨i, hi⟩ := List.getElem?_of_mem hf
            have hi' : fs[i]? = some f := by simpa using hi
            have h1 := hg i f hi'
            have hlt : i < xs.length := by rw [hx]; exact (Array.getElem?_eq_some_iff.1 hi').1
            rw [List.getElem?_eq_getElem hlt] at h1
            exact open_cells n hs' h1)
          refine ⟨ds, a1, ?_⟩
          simpa [hc, ← hl] using a2
        · simp at hs
      · simp at hs
    · simp at hs
theorem open_struct {n : Nat} {t : TypeId} {fs : Array Field} {ts : List Ty} {v : Value} {r : Reach} {b0 : Nat} {d : DataW H} {p : List MemPlace} (ht : P.underlying t = some (.struct fs)) (hs : shapes P n t = some ts)
    (hval : Value.okWide P w r b0 t v) (h : DataW.Trod enc P w 0 spare held t v d p) : ∃ ds, OkL ts ds ∧ RepS w (fun _ _ => False) (.agg ds) v := by
  unfold Value.okWide at hval
  simp only [ht] at hval
  obtain ⟨cs, rfl, _⟩ := hval
  obtain ⟨fuel, hf⟩ := h
  obtain ⟨ds, h1, h2⟩ := open_cells n hs hf
  refine ⟨ds, h1, .agg ds cs ?_ fun i d v q1 q2 => h2.2 i d v q1 ?_⟩
  · have := h2.1; simp [Value.cells] at this; omega
  · simp [Value.cells]; exact q2
theorem open_plain {n : Nat} {t : TypeId} {k : Ty} {v : Value} {r : Reach} {b0 : Nat} {d : DataW H} {p : List MemPlace} (hs : shapes P n t = some [k]) (hn : ∀ fs, P.underlying t ≠ some (.struct fs))
    (hval : Value.okWide P w r b0 t v) (h : DataW.Trod enc P w 0 spare held t v d p) : ∃ d, OkD k d ∧ RepS w (fun _ _ => False) d v := by
  have hv : v.cells = #[v] := by
    cases n with
    | zero => simp [shapes] at hs
    | succ n =>
      simp only [shapes] at hs
      split at hs
      · rename_i q; obtain ⟨m, rfl⟩ := WideShapes.okWide_int q hval; rfl
      · rename_i q
        simp only [Value.okWide, q, Cell.okWide] at hval
        cases v <;> simp_all [Cell.ok, Value.cells]
      · rename_i q; obtain ⟨m, rfl⟩ := WideShapes.okWide_string q hval; rfl
      · rename_i q; obtain ⟨a, l, c, rfl⟩ := WideShapes.okWide_slice q hval; rfl
      · rename_i q; exact absurd q (hn _)
      · simp at hs
  obtain ⟨fuel, hf⟩ := h
  obtain ⟨ds, h1, h2⟩ := open_cells n hs hf
  simp only [OkL] at h1
  obtain ⟨d, _, rfl, h1, rfl⟩ := h1
  exact ⟨d, h1, h2.2 0 d v rfl (by rw [hv]; rfl)⟩
theorem rows_of {α : Type} {f : α → List D} {W : α → Prop} {e : List Ty} (hf : ∀ el, OkL e el → ∃ a, el = f a ∧ W a) : ∀ {els : List (List D)}, (∀ el ∈ els, OkL e el) → ∃ xs, els = rowE f xs ∧ ∀ x ∈ xs, W x
  | [], _ => ⟨[], rfl, by simp⟩
  | el :: els, h => by
    obtain ⟨a, rfl, ha⟩ := hf el (h el (by simp))
    obtain ⟨xs, rfl, hx⟩ := rows_of hf (els := els) fun el' he => h el' (by simp [he])
    exact ⟨a :: xs, rfl, by simp only [List.mem_cons]; exact fun x hq => hq.elim (fun e => by subst e; exact ha) (hx x)⟩
def WfI (k : IntKind) (n : Int) : Prop := k.min ≤ n ∧ n ≤ k.max
theorem row_int {k : IntKind} {el : List D} (h : OkL [.int k] el) : ∃ a, el = eI k a ∧ WfI k a := by
  simp only [OkL, OkD] at h
  obtain ⟨_, _, rfl, ⟨n, rfl, h1⟩, rfl⟩ := h
  exact ⟨n, rfl, h1⟩
theorem row_sl {α : Type} {f : α → List D} {W : α → Prop} {e : List Ty} {sz : Nat} (hf : ∀ el, OkL e el → ∃ a, el = f a ∧ W a) {el : List D} (h : OkL [.sl sz e] el) : ∃ a : List α, el = eL .lent sz f a ∧ ((a.length : Int) ≤ maxI ∧ ∀ x ∈ a, W x) := by
  simp only [OkL, OkD] at h
  obtain ⟨_, _, rfl, ⟨els, rfl, hl, h⟩, rfl⟩ := h
  obtain ⟨xs, rfl, hx⟩ := rows_of hf h
  rw [rowE_len] at hl
  exact ⟨xs, rfl, hl, hx⟩
theorem row_bool {el : List D} (h : OkL [.bool] el) : ∃ a, el = eB a ∧ True := by
  simp only [OkL, OkD] at h
  obtain ⟨_, _, rfl, ⟨n, rfl⟩, rfl⟩ := h
  exact ⟨n, rfl, trivial⟩
def okTab (P : Program) (own : FuncId → List Nat) : List (Nat × Vc × Nat × List (Nat × Option (Option Nat))) → Prop
  | [] => True
  | (f, vc, nt, rs) :: l => IsFn P own f vc nt rs ∧ okTab P own l
theorem okTab_get {own : FuncId → List Nat} {f : Nat} {vc : Vc} {nt : Nat} {rs : List (Nat × Option (Option Nat))} : ∀ {l : List (Nat × Vc × Nat × List (Nat × Option (Option Nat)))}, okTab P own l → look f l = some (vc, nt, rs) → IsFn P own f vc nt rs
  | [], _, h => by simp [look] at h
  | (g, vc', nt', rs') :: l, hk, h => by
    simp only [look] at h
    split at h
    · rename_i e
      subst e
      simp only [Option.some.injEq, Prod.mk.injEq] at h
      obtain ⟨rfl, rfl, rfl⟩ := h
      exact hk.1
    · exact okTab_get hk.2 h
theorem tabOk_of {own : FuncId → List Nat} {l : List (Nat × Vc × Nat × List (Nat × Option (Option Nat)))} (hw : P.follows .mixedOrders = true) (h : okTab P own l) : TabOk P ⟨own, fun f => look f l, fun _ => none, fun _ => none⟩ :=
  ⟨hw, fun f vc nt rs hf => okTab_get h hf, fun f F hf => by simp at hf, fun g cs hg => by simp at hg⟩
theorem Flat.same : ∀ {ms : List Nat} {vs : List Value}, ms.all (fun m => decide (m < 100)) = true → ms.length = vs.length → Flat ms vs vs
  | [], [], _, _ => .nil
  | m :: ms, v :: vs, h, hl => by
    simp only [List.all_cons, Bool.and_eq_true, decide_eq_true_eq] at h
    exact .one m ms v vs vs h.1 (Flat.same h.2 (by simpa using hl))
theorem call_true {T : Tab} (hT : TabOk P T) {n : Nat} {f : FuncId} {ds outs : List D} {vs : List Value} (hl : lev T n f ds = some (.bool true, outs)) (hg : ∀ g, T.gl g = none) (hnf : nfL ds = true) (ho : (T.own f).all (fun m => decide (m < 100)) = true) (hol : (T.own f).length = ds.length)
    (hr : ds.length = vs.length) (h : ∀ (i : Nat) (d : D) (v : Value), ds[i]? = some d → vs[i]? = some v → RepS w (fun _ _ => False) d v) :
    Calls P f vs.toArray w fun e W' => e = .returned (.bool true) ∧ W'.os = w.os ∧ W'.tape = w.tape ∧ W'.output = w.output ∧ w.heap.size ≤ W'.heap.size ∧ ∀ k, k < w.heap.size → W'.heap[k]? = w.heap[k]? := by
  have hs := (lev_sound hT n).sound f w (fun _ => False) ds vs vs (fun _ _ => False) (.bool true) outs (Flat.same ho (hol.trans hr))
    ⟨hr.symm, fun i j b _ _ hb => hb.elim, fun i d v h1 h2 => .plain d v _ (fun _ hb => hb) (h i d v h1 h2)⟩
    (fun b ⟨_, _, hb⟩ => hb.elim) (fun b hb => hb.elim) (fun g cs hc => by simp [hg] at hc) hnf hl
  refine hs.mono ?_
  rintro e W' ⟨v, R, χ, rfl, hc, hv, _⟩
  have : v = .bool true := by
    cases hv with
    | plain _ _ _ _ h => cases h; rfl
  subst this
  exact ⟨rfl, hc.os, hc.tape, hc.output, hc.size, fun k hk => hc.keep k hk (fun ⟨_, _, hb⟩ => hb)⟩
end
end Go.Proofs.Ytpbonfgmiffomaa.Wm
set_option linter.unusedSimpArgs false
set_option linter.unusedVariables false
namespace Go.Proofs.Ytpbonfgmiffomaa.Wm
open Go
theorem loop_rule {ς τ : Type} {step : ς → Option (ς ⊕ τ)} (I : Nat → ς → Prop) (Q : τ → Prop) (n : Nat)
    (h : ∀ i s, i ≤ n → I i s → (i < n ∧ ∃ s', step s = some (.inl s') ∧ I (i + 1) s') ∨ ∃ t, step s = some (.inr t) ∧ Q t) {s : ς} (h0 : I 0 s) : ∃ t, loopO step s = some t ∧ Q t := by
  have key : ∀ m i s, n - i = m → i ≤ n → I i s → ∃ t, loopO step s = some t ∧ Q t := by
    intro m
    induction m with
    | zero =>
      intro i s hm hi hI
      rcases h i s hi hI with ⟨h1, _⟩ | ⟨t, h1, h2⟩
      · omega
      · exact ⟨t, by rw [loopO_eq, h1], h2⟩
    | succ m ih =>
      intro i s hm hi hI
      rcases h i s hi hI with ⟨h1, s', h2, h3⟩ | ⟨t, h1, h2⟩
      · obtain ⟨t, k1, k2⟩ := ih (i + 1) s' (by omega) (by omega) h3
        exact ⟨t, by rw [loopO_eq, h2]; exact k1, k2⟩
      · exact ⟨t, by rw [loopO_eq, h1], h2⟩
  exact key (n - 0) 0 s rfl (Nat.zero_le _) h0
theorem w64 {n : Int} (h : -9223372036854775808 ≤ n ∧ n ≤ 9223372036854775807) : IntKind.i64.wrap n = n := by rw [IntKind.wrap_i64]; omega
theorem wu64 {n : Int} (h : 0 ≤ n ∧ n ≤ 18446744073709551615) : IntKind.u64.wrap n = n := by
  simp [IntKind.wrap, IntKind.bits, IntKind.signed]; omega
theorem wu32 {n : Int} (h : 0 ≤ n ∧ n ≤ 4294967295) : IntKind.u32.wrap n = n := by
  simp [IntKind.wrap, IntKind.bits, IntKind.signed]; omega
theorem wu8 {n : Int} (h : 0 ≤ n ∧ n ≤ 255) : IntKind.u8.wrap n = n := by
  simp [IntKind.wrap, IntKind.bits, IntKind.signed]; omega
theorem getI_nat {α : Type} {l : List α} {i : Nat} : getI l (i : Int) = l[i]? := by unfold getI; rw [if_pos (by omega), Int.toNat_natCast]
theorem get_lt {α : Type} {l : List α} {i : Nat} (h : i < l.length) : ∃ x, l[i]? = some x ∧ x ∈ l := ⟨l[i], List.getElem?_eq_getElem h, List.getElem_mem h⟩
theorem wfI64 {n : Int} : WfI .i64 n ↔ -9223372036854775808 ≤ n ∧ n ≤ 9223372036854775807 := by
  unfold WfI IntKind.min IntKind.max
  simp [IntKind.signed, IntKind.bits]
theorem okMake_of {by_ : Nat} {l : Int} (h0 : 0 ≤ l) (h : (by_ : Int) * l ≤ 281474976710656) (h2 : l ≤ 9223372036854775807) : okMake by_ l = true := by
  simp [okMake, h0, h, h2]
theorem okApp_of {by_ n : Nat} (h : n * by_ ≤ 140737488355328) : okApp by_ n = true := by simp [okApp, h]
theorem okMake_8 {l : Int} (h0 : 0 ≤ l) (h : l ≤ 35184372088832) : okMake 8 l = true := okMake_of h0 (by simp; omega) (by omega)
theorem okApp_8 {n : Nat} (h : n ≤ 17592186044416) : okApp 8 n = true := okApp_of (by omega)
theorem list_ext {α : Type} {l m : List α} (hl : l.length = m.length) (h : ∀ j, j < m.length → l[j]? = m[j]?) : l = m := by
  apply List.ext_getElem? 
  intro j
  rcases Nat.lt_or_ge j m.length with hj | hj
  · exact h j hj
  · rw [List.getElem?_eq_none hj, List.getElem?_eq_none (by omega)]
theorem find_loop {l : List Int} (p : Int → Bool) {step : Int → Option (Int ⊕ (Unit ⊕ Int))} (h1 : ∀ (i : Nat) (x : Int), l[i]? = some x → step i = some (if p x = true then .inr (.inr (i : Int)) else .inl (IntKind.i64.wrap ((i : Int) + 1))))
    (h2 : step (l.length : Int) = some (.inr (.inl ()))) (hl : (l.length : Int) ≤ maxI) : ∃ r : Int, ((loopO step 0).bind fun t => (Sum.elim (fun _ => some (-1)) (fun y => some y)) t) = some r ∧ decide (r ≥ 0) = l.any p := by
  unfold maxI at hl
  obtain ⟨t, q1, q2⟩ := loop_rule (step := step) (fun i s => s = (i : Int) ∧ ∀ j x, j < i → l[j]? = some x → p x = false)
      (fun t => (t = .inl () ∧ l.any p = false) ∨ (∃ n : Int, 0 ≤ n ∧ t = .inr n ∧ l.any p = true)) l.length (by
    rintro i s hi ⟨rfl, hj⟩
    rcases Nat.lt_or_ge i l.length with h | h
    · obtain ⟨x, hx, hm⟩ := get_lt h
      rw [h1 i x hx, w64 (by omega)]
      cases hp : p x with
      | false =>
        left
        simp only [Bool.false_eq_true, if_false]
        refine ⟨h, _, rfl, by simp, fun j y hj' hy => ?_⟩
        rcases Nat.lt_or_ge j i with hji | hji
        · exact hj j y hji hy
        · obtain rfl : j = i := by omega
          rw [hx] at hy; obtain rfl := Option.some.inj hy; exact hp
      | true =>
        right
        simp only [if_true]
        exact ⟨_, rfl, .inr ⟨_, by omega, rfl, List.any_eq_true.2 ⟨x, hm, hp⟩⟩⟩
    · obtain rfl : i = l.length := by omega
      right
      rw [h2]
      refine ⟨_, rfl, .inl ⟨rfl, ?_⟩⟩
      rw [List.any_eq_false]
      intro x hx
      obtain ⟨j, hj'⟩ := List.getElem?_of_mem hx
      rw [hj j x (by have := (List.getElem?_eq_some_iff.1 hj').1; omega) hj']; simp) (s := 0) ⟨rfl, fun j x hj => by omega⟩
  rw [q1]
  rcases q2 with ⟨rfl, h⟩ | ⟨n, hn, rfl, h⟩
  · exact ⟨-1, rfl, by rw [h]; decide⟩
  · exact ⟨n, rfl, by rw [h]; exact decide_eq_true hn⟩
def allSame {α : Type} (q : α → α → Bool) : List α → List α → Bool
  | x :: l, y :: m => q x y && allSame q l m
  | _, _ => true
theorem allSame_iff {α : Type} {q : α → α → Bool} : ∀ {l m : List α}, allSame q l m = true ↔ ∀ (i : Nat) (x y : α), l[i]? = some x → m[i]? = some y → q x y = true
  | [], m => by simp [allSame]
  | x :: l, [] => by simp [allSame]
  | x :: l, y :: m => by
    simp only [allSame, Bool.and_eq_true, allSame_iff (l := l) (m := m)]
    constructor
    · rintro ⟨h1, h2⟩ i a b ha hb
      cases i with
      | zero => simp at ha hb; subst ha; subst hb; exact h1
      | succ i => exact h2 i a b (by simpa using ha) (by simpa using hb)
    · intro h
      exact ⟨h 0 x y rfl rfl, fun i a b ha hb => h (i + 1) a b (by simpa using ha) (by simpa using hb)⟩
theorem allSame_self {α : Type} {q : α → α → Bool} {l : List α} (h : ∀ x ∈ l, q x x = true) : allSame q l l = true := by
  rw [allSame_iff]
  intro i x y hx hy
  rw [hx] at hy
  obtain rfl := Option.some.inj hy
  exact h x (List.mem_of_getElem? hx)
theorem same_loop {α : Type} {l m : List α} (q : α → α → Bool) {step : Int → Option (Int ⊕ (Unit ⊕ Unit))} (hlen : l.length = m.length)
    (h1 : ∀ (i : Nat) (x y : α), l[i]? = some x → m[i]? = some y → step i = some (if q x y = true then .inl (IntKind.i64.wrap ((i : Int) + 1)) else .inr (.inr ())))
    (h2 : step (l.length : Int) = some (.inr (.inl ()))) (hl : (l.length : Int) ≤ maxI) : ((loopO step 0).bind fun t => (Sum.elim (fun _ => some true) (fun _ => some false)) t) = some (allSame q l m) := by
  unfold maxI at hl
  obtain ⟨t, q1, q2⟩ := loop_rule (step := step) (fun i s => s = (i : Int) ∧ ∀ j x y, j < i → l[j]? = some x → m[j]? = some y → q x y = true)
      (fun t => (t = .inl () ∧ allSame q l m = true) ∨ (t = .inr () ∧ allSame q l m = false)) l.length (by
    rintro i s hi ⟨rfl, hj⟩
    rcases Nat.lt_or_ge i l.length with h | h
    · obtain ⟨x, hx, _⟩ := get_lt h
      obtain ⟨y, hy, _⟩ := get_lt (l := m) (i := i) (by omega)
      rw [h1 i x y hx hy, w64 (by omega)]
      cases hp : q x y with
      | true =>
        left
        simp only [if_true]
        refine ⟨h, _, rfl, by simp, fun j a b hj' ha hb => ?_⟩
        rcases Nat.lt_or_ge j i with hji | hji
        · exact hj j a b hji ha hb
        · obtain rfl : j = i := by omega
          rw [hx] at ha; rw [hy] at hb
          obtain rfl := Option.some.inj ha; obtain rfl := Option.some.inj hb; exact hp
      | false =>
        right
        simp only [Bool.false_eq_true, if_false]
        refine ⟨_, rfl, .inr ⟨rfl, ?_⟩⟩
        cases hs : allSame q l m with
        | false => rfl
        | true => rw [allSame_iff.1 hs i x y hx hy] at hp; simp at hp
    · obtain rfl : i = l.length := by omega
      right
      rw [h2]
      exact ⟨_, rfl, .inl ⟨rfl, allSame_iff.2 fun j x y hx hy => hj j x y (List.getElem?_eq_some_iff.1 hx).1 hx hy⟩⟩) (s := 0) ⟨rfl, fun j x y hj => by omega⟩
  rw [q1]
  rcases q2 with ⟨rfl, h⟩ | ⟨rfl, h⟩ <;> rw [h] <;> rfl
theorem allSame_eq {l m : List Int} (hlen : l.length = m.length) : allSame (fun x y => x == y) l m = decide (l = m) := by
  rw [Bool.eq_iff_iff, allSame_iff, decide_eq_true_eq]
  constructor
  · intro h
    apply List.ext_getElem hlen
    intro i h1 h2
    have := h i l[i] m[i] (List.getElem?_eq_getElem h1) (List.getElem?_eq_getElem h2)
    simpa using this
  · rintro rfl i x y hx hy
    rw [hx] at hy; obtain rfl := Option.some.inj hy; simp
theorem bytesI_eq : ∀ {l : List Int}, bytesI l = some (l.map fun n => UInt8.ofNat n.toNat)
  | [] => rfl
  | n :: l => by simp only [bytesI, byteOf, Option.bind_some, bytesI_eq (l := l), Option.map_some, List.map_cons]
theorem bytes_inj : ∀ {l m : List Int}, (∀ x ∈ l, 0 ≤ x ∧ x ≤ 255) → (∀ x ∈ m, 0 ≤ x ∧ x ≤ 255) → ((l.map fun n => UInt8.ofNat n.toNat) = m.map fun n => UInt8.ofNat n.toNat) → l = m
  | [], [], _, _, _ => rfl
  | [], y :: m, _, _, h => by simp at h
  | x :: l, [], _, _, h => by simp at h
  | x :: l, y :: m, h1, h2, h => by
    simp only [List.map_cons, List.cons.injEq] at h
    obtain ⟨ha, hb⟩ := h
    have hx := h1 x (by simp)
    have hy := h2 y (by simp)
    have := congrArg UInt8.toNat ha
    simp only [UInt8.toNat_ofNat'] at this
    have e : x = y := by omega
    rw [e, bytes_inj (fun z hz => h1 z (by simp [hz])) (fun z hz => h2 z (by simp [hz])) hb]
theorem wfU8 {n : Int} : WfI .u8 n ↔ 0 ≤ n ∧ n ≤ 255 := by
  unfold WfI IntKind.min IntKind.max
  simp [IntKind.signed, IntKind.bits]
theorem copy_loop {α : Type} {l : List α} {z : α} {step : List α × Int → Option ((List α × Int) ⊕ List α)} (h1 : ∀ (a : List α) (i : Nat) (x y : α), l[i]? = some x → a[i]? = some y → a.length = l.length → step (a, (i : Int)) = some (.inl (a.set i x, IntKind.i64.wrap ((i : Int) + 1))))
    (h2 : ∀ a : List α, step (a, (l.length : Int)) = some (.inr a)) (hl : (l.length : Int) ≤ maxI) : loopO step (List.replicate l.length z, 0) = some l := by
  unfold maxI at hl
  obtain ⟨t, q1, rfl⟩ := loop_rule (step := step) (fun i s => s.2 = i ∧ s.1.length = l.length ∧ ∀ j, j < i → s.1[j]? = l[j]?) (fun t => t = l) l.length (by
    rintro i ⟨a, k⟩ hi ⟨hk, ha, hj⟩
    simp only at hk ha hj
    subst hk
    rcases Nat.lt_or_ge i l.length with h | h
    · left
      obtain ⟨x, hx, _⟩ := get_lt h
      obtain ⟨y, hy, _⟩ := get_lt (l := a) (i := i) (by omega)
      rw [h1 a i x y hx hy ha, w64 (by omega)]
      refine ⟨h, _, rfl, by simp, by simp [ha], fun j hj' => ?_⟩
      simp only [List.getElem?_set]
      split
      · rename_i e; subst e; rw [if_pos (by omega), hx]
      · exact hj j (by omega)
    · right
      obtain rfl : i = l.length := by omega
      exact ⟨a, h2 a, list_ext ha fun j hj' => hj j hj'⟩) (s := (List.replicate l.length z, 0)) ⟨rfl, by simp, fun j hj => by omega⟩
  exact q1
end Go.Proofs.Ytpbonfgmiffomaa.Wm
set_option linter.unusedSimpArgs false
set_option linter.unusedVariables false
namespace Go.Proofs.Ytpbonfgmiffomaa.Wm
open Go Go.Proofs Go.Shelf
def okGrow (by_ : Nat) (n : Int) : Bool := decide (0 ≤ n ∧ n ≤ 4611686018427387904 ∧ n * by_ ≤ 140737488355328)
def growF (sz by_ : Nat) : List D → Option (D × List D)
  | [.emp s, .int .i64 n] => if s = sz ∧ okGrow by_ n = true then some (.ow sz [], [.gone, .gone]) else none
  | _ => none
theorem repVs_gone {w : World} {X : K → Nat → Prop} {fs : List Value} {n : Nat} (h : fs.length = n) : RepVs w X (List.replicate n .gone) fs (fun _ _ => False) :=
  ⟨by simp [h], fun _ _ _ _ _ q => q.elim, fun i d v h1 h2 => by
    have : d = .gone := by
      rw [List.getElem?_replicate] at h1
      split at h1 <;> simp_all
    subst this
    exact .plain _ _ _ (fun _ h => h) (.gone v)⟩
theorem grow_sound {P : Program} {ρ : Ren} {G : Nat → Option (List D)} (L : Lays8.n4 P ρ) {i0 : TypeInfo} {z : Value} {sz by_ : Nat} (hi0 : P.info? (ρ.t 25) = some i0) (hz0 : i0.zero = some z) (hs : i0.size = sz) (hb : i0.bytes = by_) (hs0 : 0 < sz) (hz : z.cells.size = sz) :
    SoundFn P G [2, 0] (ρ.f 4) (growF sz by_) := by
  subst hs hb
  intro w X ds vs fs φ d outs hfl hr hX hX0 hG hn h
  unfold growF at h
  split at h
  · rename_i s n
    split at h
    · rename_i hc
      obtain ⟨rfl, hok⟩ := hc
      simp only [okGrow, decide_eq_true_eq] at hok
      obtain ⟨n0, n1, n2⟩ := hok
      obtain ⟨rfl, rfl⟩ : D.ow i0.size [] = d ∧ [D.gone, D.gone] = outs := by simpa using h
      obtain ⟨N, rfl⟩ := Int.eq_ofNat_of_zero_le n0
      cases hfl with
      | agg _ _ _ _ _ q => omega
      | one _ _ v0 vs fs _ t =>
        cases t with
        | agg _ _ _ _ _ q => omega
        | one _ _ v1 vs fs _ t =>
          cases t
          have h1 := hr.2.2 1 _ v1 rfl rfl
          have h0 := hr.2.2 0 _ v0 rfl rfl
          obtain rfl : v1 = .int .i64 N := by
            cases h1 with
            | plain _ _ _ _ h => cases h; rfl
          obtain ⟨a, rfl⟩ : ∃ a, v0 = .slice a 0 0 := by
            cases h0 with
            | plain _ _ _ _ h => cases h; exact ⟨_, rfl⟩
          have hbig : (0 + N) * i0.bytes ≤ 140737488355328 := by
            rw [Nat.zero_add]
            have q : ((N * i0.bytes : Nat) : Int) ≤ 140737488355328 := by rw [Int.natCast_mul]; exact n2
            omega
          have g0 : ∀ w' : World, RepVs w' (XR w X (AllF 2 φ) (fun b => b = w.heap.size ∨ AllF 2 (fun _ _ => False) b)) [D.gone, D.gone] [.slice a 0 0, .int .i64 N] (fun _ _ => False) := fun w' => repVs_gone (n := 2) rfl
          have nof : ∀ b, ¬ AllF 2 (fun _ _ => False) b := fun b ⟨_, _, q⟩ => q
          rcases Nat.eq_zero_or_pos N with rfl | hN
          · refine (Any8.slices_Grow_room L a 0 0 0 w (Nat.le_refl _) (by omega) (by omega) (by omega)).mono ?_
            rintro e w' ⟨rfl, rfl⟩
            refine ⟨_, fun _ => False, fun _ _ => False, rfl, Chg.refl _ _, .ow _ _ _ _ (.own0 _ _ _ fun _ q => q.elim), repVs_gone (n := 2) rfl, fun b q => q.elim, fun b q => (q.elim id (nof b)).elim, fun i sz els sz' els' u q1 q2 => ?_⟩
            rcases i with _ | _ | i <;> simp at q2
          · refine (Any8.slices_Grow_grow L i0 z hi0 hz0 hs0 a 0 0 N [] w (Nat.le_refl _) (by omega) hbig (by omega) (by simp) (fun _ => rfl) (fun _ _ j v q => by simp at q)).mono ?_
            rintro e w' ⟨rfl, rfl⟩
            have hcg : Chg w (w.drew.alloc (.cells (([] : List Value).toArray ++ Builtin.zeroCells z.cells (0 + N - 0) ++ Builtin.zeroCells z.cells (grownCap w (0 + N) 0 (ρ.t 25) - (0 + N))) (ρ.t 25))) E := (show Chg w w.drew E from ⟨rfl, rfl, rfl, Nat.le_refl _, fun _ _ _ => rfl, fun _ _ h => h⟩).trans (chg_alloc w.drew _) (fun _ q => q.elim)
            have hnew : (w.drew.alloc (.cells (([] : List Value).toArray ++ Builtin.zeroCells z.cells (0 + N - 0) ++ Builtin.zeroCells z.cells (grownCap w (0 + N) 0 (ρ.t 25) - (0 + N))) (ρ.t 25))).heap[w.heap.size]? = some (.cells (([] : List Value).toArray ++ Builtin.zeroCells z.cells (0 + N - 0) ++ Builtin.zeroCells z.cells (grownCap w (0 + N) 0 (ρ.t 25) - (0 + N))) (ρ.t 25) (0, 0)) := heap_alloc_new w.drew _
            have hge : 0 + N ≤ grownCap w (0 + N) 0 (ρ.t 25) := grownCap_ge w _ _ _
            have zc : ∀ k, (Builtin.zeroCells z.cells k).size = k * i0.size := fun k => by rw [← hz]; simp [Builtin.zeroCells]
            refine ⟨_, fun b => b = w.heap.size, fun _ _ => False, rfl, hcg.mono fun _ q => q.elim, .ow _ _ _ _ (.own _ [] w.heap.size 0 _ (fun _ _ _ => False) _ (fun b q => by subst q; exact (Array.getElem?_eq_some_iff.1 hnew).1) rfl (fun _ _ _ ⟨el, d, q, _⟩ => by simp at q) (fun _ _ _ _ _ ⟨el, d, q, _⟩ => by simp at q) (by simp) ⟨_, _, hnew, ?_⟩ (by simp) (fun _ _ => undef) (fun i j el d q => by simp at q) (fun i j el d q => by simp at q)), repVs_gone (n := 2) rfl, fun b q => nof b, fun b q => ?_, fun i sz els sz' els' u q1 q2 => ?_⟩
            · simp only [Array.size_append, zc]
              have e0 : ([] : List Value).toArray.size = 0 := rfl
              rw [e0, Nat.add_assoc, ← Nat.add_mul, Nat.zero_add]
              have := Nat.mul_le_mul_right i0.size (show grownCap w (0 + N) 0 (ρ.t 25) ≤ 0 + N - 0 + (grownCap w (0 + N) 0 (ρ.t 25) - (0 + N)) by omega)
              omega
            · rcases q with q | q
              · subst q; exact .inr (Nat.le_refl _)
              · exact (nof b q).elim
            · rcases i with _ | _ | i <;> simp at q2
    · simp at h
  · simp at h
section
variable {T : Tab} {F : List D → Option (D × List D)} {n : Nat} {f : FuncId} {ds : List D}
theorem lev_ext (h : T.ext f = some F) : lev T (n + 1) f ds = F ds := by simp only [lev, h]
end
def okExt (P : Program) (own : FuncId → List Nat) : List (Nat × (List D → Option (D × List D))) → Prop
  | [] => True
  | (f, F) :: l => (SoundFn P (fun _ => none) (own f) f F ∧ okFn P f) ∧ okExt P own l
theorem okExt_get {P : Program} {own : FuncId → List Nat} {f : Nat} {F : List D → Option (D × List D)} : ∀ {l : List (Nat × (List D → Option (D × List D)))}, okExt P own l → look f l = some F → SoundFn P (fun _ => none) (own f) f F ∧ okFn P f
  | [], _, h => by simp [look] at h
  | (g, F') :: l, hk, h => by
    simp only [look] at h
    split at h
    · rename_i e
      subst e
      obtain rfl := Option.some.inj h
      exact hk.1
    · exact okExt_get hk.2 h
theorem tabOk_ofX {P : Program} {own : FuncId → List Nat} {l : List (Nat × Vc × Nat × List (Nat × Option (Option Nat)))} {x : List (Nat × (List D → Option (D × List D)))} (hw : P.follows .mixedOrders = true) (h : okTab P own l) (hx : okExt P own x) : TabOk P ⟨own, fun f => look f l, fun f => look f x, fun _ => none⟩ :=
  ⟨hw, fun f vc nt rs hf => okTab_get h hf, fun f F hf => okExt_get hx hf, fun g cs hg => by simp at hg⟩
end Go.Proofs.Ytpbonfgmiffomaa.Wm
set_option linter.unusedSimpArgs false
set_option linter.unusedVariables false
namespace Go.Proofs.Ytpbonfgmiffomaa.Wm
open Go Go.Proofs Go.Shelf Go.RowKit
structure InsL (P : Program) (ρ : Ren) (ei : TypeInfo) (z : Value) : Prop where
  mixed : P.follows .mixedOrders = true
  f22 : Bears P (ρ.f 22) (Body2.n22 ρ)
  f29 : ∀ (args : Array Value) (w : World), (callFunc (ρ.f 29) args).run P w = ((Extern.SlicesOverlaps.overlaps #[(ρ.t 24), (ρ.t 24)] #[(ρ.t 4)] args).run P w).andThen fun v w' => .ok (.value v) w'
  t3 : P.underlying (ρ.t 3) = some (TypeDesc.int IntKind.i64)
  a3 : ∀ w, (isAgg (ρ.t 3)).run P w = .ok false w
  z3 : ∀ w, (Go.sizeOf (ρ.t 3)).run P w = .ok 1 w
  v3 : ∀ w, (zeroValue (ρ.t 3)).run P w = .ok (Value.int IntKind.i64 0) w
  t4 : P.underlying (ρ.t 4) = some (TypeDesc.bool)
  a4 : ∀ w, (isAgg (ρ.t 4)).run P w = .ok false w
  z4 : ∀ w, (Go.sizeOf (ρ.t 4)).run P w = .ok 1 w
  v4 : ∀ w, (zeroValue (ρ.t 4)).run P w = .ok (Value.bool false) w
  t24 : P.underlying (ρ.t 24) = some (TypeDesc.slice (ρ.t 9))
  a24 : ∀ w, (isAgg (ρ.t 24)).run P w = .ok false w
  z24 : ∀ w, (Go.sizeOf (ρ.t 24)).run P w = .ok 1 w
  v24 : ∀ w, (zeroValue (ρ.t 24)).run P w = .ok (Value.slice none 0 0) w
  z9 : ∀ w, (Go.sizeOf (ρ.t 9)).run P w = .ok ei.size w
  i9 : P.info? (ρ.t 9) = some ei
  i9z : ei.zero = some z
  i9s : z.cells.size = ei.size
  i9p : 0 < ei.size
  i9b : 1 ≤ ei.bytes
section
variable {P : Program} {ρ : Ren} {ei : TypeInfo} {z : Value}
set_option maxHeartbeats 4000000 in
set_option maxRecDepth 100000 in
theorem ins_end (L : InsL P ρ ei z) {base va : Option Addr} {n c vc : Nat} {w w1 : World} {v1 : Value} (hr : (Builtin.append_ #[ρ.t 24, ρ.t 24] (ρ.t 24) #[.slice base n c, .slice va 1 vc]).run P w = .ok v1 w1) (hnc : n ≤ c) :
    Calls P (ρ.f 22) #[.slice base n c, .int .i64 n, .slice va 1 vc] w fun e w' => e = .returned v1 ∧ w' = w1 := by
  obtain ⟨nm, hnm, f22⟩ := L.f22
  have t3 := L.t3; have a3 := L.a3; have z3 := L.z3; have v3 := L.v3; have t4 := L.t4; have a4 := L.a4; have z4 := L.z4; have v4 := L.v4; have t24 := L.t24; have a24 := L.a24; have z24 := L.z24; have v24 := L.v24; have z9 := L.z9
  have u3 := run_underlying L.t3; have u4 := run_underlying L.t4; have u24 := run_underlying L.t24
  have mixed := L.mixed
  go_enter f22, Body2.n22_ntmps ρ
  go_wp2_with (at_builtin; refine Lib.wpList_append_run _ rfl _ _ (ρ.t 24) (ρ.t 24) rfl _ _ rfl rfl _ _ hr ?_)
  all_goals (go_ret; exact ⟨rfl, rfl⟩)
theorem run_copyZ (w : World) (dT sT ty elem : TypeId) (i : TypeInfo) (b o dLen dCap : Nat) (a : Addr) (sLen sCap k : Nat) (cs : List Value)
    (hu : P.underlying dT = some (.slice elem)) (hi : P.info? elem = some i) (hk : Nat.min sLen dLen = k) (hn : cs.length = k * i.size)
    (hsrc : ∀ j v, cs[j]? = some v → w.cell? (a.add j) = some v) (hc : ∀ j, j < cs.length → (w.cell? ⟨b, o + j, none⟩).isSome = true) (hf : ∀ j, j < cs.length → w.frozen? ⟨b, o + j, none⟩ = false) (h1 : ∀ v ∈ cs, v.oneCell' = true) :
    (Builtin.copy_ #[dT, sT] ty #[.slice (some ⟨b, o, none⟩) dLen dCap, .slice (some a) sLen sCap]).run P w = .ok (goInt k) (w.setCells b o cs) := by
  have hl : (Builtin.firstCells i.size k (.slice (some a) sLen sCap)).run P w = .ok cs.toArray w := run_firstCells_some w i.size k a sLen sCap cs hn hsrc
  have hst := run_storeCells_cells (P := P) b o cs 0 w (by simpa using hc) (by simpa using hf) h1
  simp [Builtin.copy_, run_underlying hu, Builtin.lenOf, Go.sizeOf, typeInfo, hi, hk, hl, hst]
set_option maxHeartbeats 4000000 in
set_option maxRecDepth 100000 in
theorem ins_shift (L : InsL P ρ ei z) {b off n c i vb voff vc : Nat} {cs vs : List Value} {w : World} (hi : i < n) (hroom : n + 1 ≤ c) (hn63 : n + 1 ≤ 140737488355328) (hvb : vb ≠ b)
    (hcl : cs.length = n * ei.size) (hvl : vs.length = ei.size) (hcs : ∀ j v, cs[j]? = some v → w.cell? ⟨b, off + j, none⟩ = some v) (hsp : ∀ j, j < (n + 1) * ei.size → (w.cell? ⟨b, off + j, none⟩).isSome = true) (hfz : ∀ j, w.frozen? ⟨b, j, none⟩ = false)
    (hvs : ∀ j v, vs[j]? = some v → w.cell? ⟨vb, voff + j, none⟩ = some v) (h1c : ∀ v ∈ cs, v.oneCell' = true) (h1v : ∀ v ∈ vs, v.oneCell' = true)
    {tA tB : TypeId} {kA kB : Nat} (hsa : w.shape? vb = some (tA, kA)) (hsb : w.shape? b = some (tB, kB)) (hkB : kB ≠ 0) (hfa : ∀ j, w.frozen? ⟨vb, j, none⟩ = false) :
    Calls P (ρ.f 22) #[.slice (some ⟨b, off, none⟩) n c, .int .i64 i, .slice (some ⟨vb, voff, none⟩) 1 vc] w fun e w' =>
      e = .returned (.slice (some ⟨b, off, none⟩) (n + 1) c) ∧ w' = (w.drew.setCells b (off + (i * ei.size + ei.size)) (cs.drop (i * ei.size))).setCells b (off + i * ei.size) vs := by
  obtain ⟨nm, hnm, f22⟩ := L.f22
  have t3 := L.t3; have a3 := L.a3; have z3 := L.z3; have v3 := L.v3; have t4 := L.t4; have a4 := L.a4; have z4 := L.z4; have v4 := L.v4; have t24 := L.t24; have a24 := L.a24; have z24 := L.z24; have v24 := L.v24; have z9 := L.z9
  have u3 := run_underlying L.t3; have u4 := run_underlying L.t4; have u24 := run_underlying L.t24
  have mixed := L.mixed
  have hz2 : ¬ ((i : Int) = (n : Int)) := by omega
  have hov : ∀ lb cb, (callFunc (ρ.f 29) #[.slice (some ⟨vb, voff, none⟩) 1 vc, .slice (some ⟨b, off + (i * ei.size + ei.size), none⟩) lb cb]).run P w = .ok (.value (.bool false)) w := fun lb cb => by
    rw [L.f29,
      Lib.run_overlaps_apart w (ρ.t 24) (ρ.t 4) (ρ.t 9) L.t24 ei.size L.z9 ⟨vb, voff, none⟩ ⟨b, off + (i * ei.size + ei.size), none⟩ 1 vc lb cb hvb tA tB kA kB hsa hsb hkB (hfa _) (hfa _)]
    rfl
  have hmul : (i + 1) * ei.size = i * ei.size + ei.size := Nat.succ_mul _ _
  have hle : (i + 1) * ei.size ≤ n * ei.size := Nat.mul_le_mul_right _ hi
  have hn1 : (n + 1) * ei.size = n * ei.size + ei.size := Nat.succ_mul _ _
  have hdl : (cs.drop (i * ei.size)).length = (n - i) * ei.size := by rw [List.length_drop, hcl, Nat.sub_mul]
  have hin : i * ei.size ≤ n * ei.size := Nat.mul_le_mul_right _ (by omega)
  have hdl2 : (cs.drop (i * ei.size)).length + (i * ei.size + ei.size) = (n + 1) * ei.size := by rw [List.length_drop, hcl]; omega
  have hw1 : IntKind.i64.wrap ((i : Int) + (1 : Int)) = (i : Int) + (1 : Int) := by rw [IntKind.wrap_i64]; omega
  have hb1 : (0 : Int) ≤ (i : Int) + (1 : Int) := by omega
  have htn : ((i : Int) + (1 : Int)).toNat = i + 1 := by omega
  have hb2 : ¬ (c = i + 1) := by omega
  have hb3 : (i : Int) ≤ (n : Int) := by omega
  have hb4 : ¬ (c = i) := by omega
  have hb5 : (i : Int) ≤ (n : Int) + 1 := by omega
  have hcp1 : ∀ ty dc sc, (Builtin.copy_ #[(ρ.t 24), (ρ.t 24)] ty #[.slice (some ⟨b, off + (i * ei.size + ei.size), none⟩) (n - i) dc, .slice (some ⟨b, off + i * ei.size, none⟩) (n + 1 - i) sc]).run P w.drew = .ok (goInt ((n - i : Nat) : Int)) (w.drew.setCells b (off + (i * ei.size + ei.size)) (cs.drop (i * ei.size))) := fun ty dc sc =>
    run_copyZ w.drew _ _ ty (ρ.t 9) ei b (off + (i * ei.size + ei.size)) (n - i) dc ⟨b, off + i * ei.size, none⟩ (n + 1 - i) sc (n - i) (cs.drop (i * ei.size)) L.t24 L.i9 (by simp only [Nat.min_def]; split <;> omega) hdl
      (fun j v hj => by rw [Addr.add_lit, Nat.add_assoc]; exact hcs _ v (by rwa [List.getElem?_drop] at hj))
      (fun j hj => by rw [Nat.add_assoc]; exact hsp _ (by omega)) (fun j hj => hfz _) (fun v hv => h1c v (List.mem_of_mem_drop hv))
  obtain ⟨W1, hW1⟩ : ∃ W1, W1 = w.drew.setCells b (off + (i * ei.size + ei.size)) (cs.drop (i * ei.size)) := ⟨_, rfl⟩
  have hsp1 : ∀ k, k < (n + 1) * ei.size → (W1.cell? ⟨b, off + k, none⟩).isSome = true := fun k hk => by
    rw [hW1]
    exact isSome_setCells b _ _ _ (fun j hj => by rw [Nat.add_assoc]; exact hsp _ (by omega)) _ (hsp k hk)
  have hcp2 : ∀ (W : World), (∀ x, W.cell? x = W1.cell? x) → (∀ x, W.frozen? x = W1.frozen? x) → ∀ ty dc, (Builtin.copy_ #[(ρ.t 24), (ρ.t 24)] ty #[.slice (some ⟨b, off + i * ei.size, none⟩) (n + 1 - i) dc, .slice (some ⟨vb, voff, none⟩) 1 vc]).run P W = .ok (goInt 1) (W.setCells b (off + i * ei.size) vs) := fun W hWc hWf ty dc =>
    run_copyZ W _ _ ty (ρ.t 9) ei b (off + i * ei.size) (n + 1 - i) dc ⟨vb, voff, none⟩ 1 vc 1 vs L.t24 L.i9 (by simp only [Nat.min_def]; split <;> omega) (by rw [hvl, Nat.one_mul])
      (fun j v hj => by
        rw [Addr.add_lit, hWc, hW1, World.cell?_setCells_out b _ _ _ _ (fun h _ => absurd h hvb)]
        exact hvs j v hj)
      (fun j hj => by rw [hWc, Nat.add_assoc]; exact hsp1 _ (by omega)) (fun j hj => by rw [hWf, hW1, World.frozen?_setCells]; exact hfz _) h1v
  rw [← hW1] at hcp1 ⊢
  clear hsp hsp1 hsa hsb hcs
  go_enter f22, Body2.n22_ntmps ρ
  go_wp2_with (simp only [hov])
  go_region_law_o (refine step_copy_runI rfl _ _ (ρ.t 24) (ρ.t 24) rfl _ _ (by simp [Act.eval, Act.put]) (by simp [Act.eval, Act.put]) (hcp1 _ _ _) ?_)
  go_wp2_with (at_builtin; refine wpList_copy_runI _ rfl _ _ (ρ.t 24) (ρ.t 24) rfl _ _ rfl rfl (hcp2 _ (fun _ => rfl) (fun _ => rfl) _ _) ?_)
  go_ret
  exact ⟨rfl, by rw [hW1]⟩
set_option maxHeartbeats 4000000 in
set_option maxRecDepth 100000 in
theorem ins_grow (L : InsL P ρ ei z) {b off n c i vb voff vc : Nat} {cs vs : List Value} {w : World} (hi : i < n) (hnc : n ≤ c) (hroom : c < n + 1) (hbig : (n + 1) * ei.bytes ≤ 140737488355328)
    (hcl : cs.length = n * ei.size) (hvl : vs.length = ei.size) (hcs : ∀ j v, cs[j]? = some v → w.cell? ⟨b, off + j, none⟩ = some v)
    (hvs : ∀ j v, vs[j]? = some v → w.cell? ⟨vb, voff + j, none⟩ = some v) (h1c : ∀ v ∈ cs, v.oneCell' = true) (h1v : ∀ v ∈ vs, v.oneCell' = true) :
    Calls P (ρ.f 22) #[.slice (some ⟨b, off, none⟩) n c, .int .i64 i, .slice (some ⟨vb, voff, none⟩) 1 vc] w fun e w' =>
      ∃ G ROW, n + 1 ≤ G ∧ e = .returned (.slice (some ⟨w.heap.size, 0, none⟩) (n + 1) G) ∧ (ROW : Array Value).size = G * ei.size ∧ (∀ j v, j < i * ei.size → cs[j]? = some v → ROW[j]? = some v) ∧
      w' = (((w.alloc (.cells ROW (ρ.t 9))).drew.setCells w.heap.size (i * ei.size) vs).drew).setCells w.heap.size ((i + 1) * ei.size) (cs.drop (i * ei.size)) := by
  obtain ⟨nm, hnm, f22⟩ := L.f22
  have t3 := L.t3; have a3 := L.a3; have z3 := L.z3; have v3 := L.v3; have t4 := L.t4; have a4 := L.a4; have z4 := L.z4; have v4 := L.v4; have t24 := L.t24; have a24 := L.a24; have z24 := L.z24; have v24 := L.v24; have z9 := L.z9
  have u3 := run_underlying L.t3; have u4 := run_underlying L.t4; have u24 := run_underlying L.t24
  have mixed := L.mixed
  have hp := L.i9p
  have hin : i * ei.size + ei.size ≤ n * ei.size := by rw [← Nat.succ_mul]; exact Nat.mul_le_mul_right _ hi
  have hmul : (i + 1) * ei.size = i * ei.size + ei.size := Nat.succ_mul _ _
  have hn1 : (n + 1) * ei.size = n * ei.size + ei.size := Nat.succ_mul _ _
  have hb : n + 1 ≤ 140737488355328 := Nat.le_trans (Nat.le_mul_of_pos_right _ L.i9b) hbig
  have hz2 : ¬ ((i : Int) = (n : Int)) := by omega
  have hz3 : (c : Int) < (n : Int) + 1 := by omega
  have hbw : b < w.heap.size := block_lt_of_cell (hcs 0 _ (List.getElem?_eq_getElem (by omega)))
  have hvw : vb < w.heap.size := block_lt_of_cell (hvs 0 _ (List.getElem?_eq_getElem (by omega)))
  have hkk : (n : Int) + 1 - (i : Int) = ((n + 1 - i : Nat) : Int) := by omega
  have hik : i + (n + 1 - i) = n + 1 := by omega
  have htl : (cs.take (i * ei.size)).length = i * ei.size := by rw [List.length_take]; omega
  have hold : (Builtin.firstCells ei.size i (.slice (some ⟨b, off, none⟩) i c)).run P w.drew = .ok (cs.take (i * ei.size)).toArray w.drew := by
    exact run_firstCells_some w.drew ei.size i ⟨b, off, none⟩ i c (cs.take (i * ei.size)) htl (fun j v hj => by
      rw [Addr.add_lit]
      rw [List.getElem?_take] at hj
      split at hj
      · exact hcs j v hj
      · cases hj)
  obtain ⟨G, hG⟩ : ∃ G, G = grownCap w (n + 1) c (ρ.t 9) := ⟨_, rfl⟩
  obtain ⟨ROW, hROW⟩ : ∃ ROW : Array Value, ROW = (cs.take (i * ei.size)).toArray ++ Builtin.zeroCells z.cells (n + 1 - i) ++ Builtin.zeroCells z.cells (G - (n + 1)) := ⟨_, rfl⟩
  have hrz : ∀ ty, (Builtin.append_ #[(ρ.t 24), (ρ.t 3)] ty #[.slice (some ⟨b, off, none⟩) i c, .int .i64 ((n : Int) + 1 - (i : Int))]).run P w = .ok (.slice (some ⟨w.heap.size, 0, none⟩) (n + 1) G) (w.drew.alloc (.cells ROW (ρ.t 9))) := fun ty => by
    have h := Lib.run_append_grow_zeros w (ρ.t 24) (ρ.t 3) ty (ρ.t 9) ei _ .i64 .i64 L.t24 L.t3 L.i9 L.i9z (some ⟨b, off, none⟩) i c (cs.take (i * ei.size)) hold (n + 1 - i) (by omega) hp (by omega) (by omega)
      (Nat.le_trans (Nat.mul_le_mul_right _ (by omega)) (Nat.le_trans hbig (by omega))) (by rw [hik]; exact growslice_fits hroom hbig)
    rw [hik] at h
    rw [hkk, hROW, hG]
    exact h
  have hGn : n + 1 ≤ G := by rw [hG]; exact grownCap_ge w _ _ _
  have hG63 : G ≤ 9223372036854775807 := by
    have := grownCap_le_maxLen w (n + 1) c (ρ.t 9) (by unfold maxLen; omega)
    rw [← hG] at this
    unfold maxLen at this
    omega
  have hzc : ∀ k, (Builtin.zeroCells z.cells k).size = k * ei.size := fun k => by rw [← L.i9s]; simp [Builtin.zeroCells]
  have hRs : ROW.size = G * ei.size := by
    rw [hROW]
    simp only [Array.size_append, List.size_toArray, htl, hzc]
    rw [← Nat.add_mul, ← Nat.add_mul]; congr 1; omega
  have hRl : (n + 1) * ei.size ≤ ROW.size := by rw [hRs]; exact Nat.mul_le_mul_right _ hGn
  have hRg : ∀ j v, j < i * ei.size → cs[j]? = some v → ROW[j]? = some v := fun j v hj hv => by
    rw [hROW, Array.getElem?_append_left (by simp only [Array.size_append, List.size_toArray, htl]; omega), Array.getElem?_append_left (by simp only [List.size_toArray, htl]; exact hj)]
    simp [List.getElem?_take, hj, hv]
  clear hROW
  obtain ⟨W1, hW1⟩ : ∃ W1, W1 = w.drew.alloc (.cells ROW (ρ.t 9)) := ⟨_, rfl⟩
  rw [← hW1] at hrz
  have hN : ∀ j, j < (n + 1) * ei.size → (W1.cell? ⟨w.heap.size, j, none⟩).isSome = true := fun j hj => by
    rw [hW1, World.cell?_alloc_at (w := w.drew) ROW _ w.heap.size j rfl, Array.getElem?_eq_getElem (by omega)]; rfl
  have hNf : ∀ j, W1.frozen? ⟨w.heap.size, j, none⟩ = false := fun j => by rw [hW1]; exact World.frozen?_alloc_at (w := w.drew) ROW _ w.heap.size j rfl
  have hOb : ∀ j v, w.cell? ⟨b, j, none⟩ = some v → W1.cell? ⟨b, j, none⟩ = some v := fun j v h => by rw [hW1, World.cell?_alloc_past (w := w.drew) _ b j hbw]; exact h
  have hOv : ∀ j v, w.cell? ⟨vb, j, none⟩ = some v → W1.cell? ⟨vb, j, none⟩ = some v := fun j v h => by rw [hW1, World.cell?_alloc_past (w := w.drew) _ vb j hvw]; exact h
  have hcpA : ∀ (W : World), (∀ x, W.cell? x = W1.cell? x) → (∀ x, W.frozen? x = W1.frozen? x) → ∀ ty dc, (Builtin.copy_ #[(ρ.t 24), (ρ.t 24)] ty #[.slice (some ⟨w.heap.size, i * ei.size, none⟩) (n + 1 - i) dc, .slice (some ⟨vb, voff, none⟩) 1 vc]).run P W = .ok (goInt 1) (W.setCells w.heap.size (i * ei.size) vs) := fun W hWc hWf ty dc =>
    run_copyZ W _ _ ty (ρ.t 9) ei w.heap.size (i * ei.size) (n + 1 - i) dc ⟨vb, voff, none⟩ 1 vc 1 vs L.t24 L.i9 (by simp only [Nat.min_def]; split <;> omega) (by rw [hvl, Nat.one_mul])
      (fun j v hj => by rw [Addr.add_lit, hWc]; exact hOv _ v (hvs j v hj))
      (fun j hj => by rw [hWc]; exact hN _ (by omega)) (fun j hj => by rw [hWf]; exact hNf _) h1v
  have hGi : ¬ (G = i) := by omega
  have hGim : ¬ (G = i + 1) := by omega
  have hci : ¬ (c = i) := by omega
  have hbN : b ≠ w.heap.size := by omega
  have hdl : (cs.drop (i * ei.size)).length = (n - i) * ei.size := by rw [List.length_drop, hcl, Nat.sub_mul]
  have hdl2 : (cs.drop (i * ei.size)).length + (i * ei.size + ei.size) = (n + 1) * ei.size := by rw [List.length_drop, hcl]; omega
  have hcpB : ∀ (W : World), (∀ x, W.cell? x = (W1.setCells w.heap.size (i * ei.size) vs).cell? x) → (∀ x, W.frozen? x = (W1.setCells w.heap.size (i * ei.size) vs).frozen? x) → ∀ ty dc sc, (Builtin.copy_ #[(ρ.t 24), (ρ.t 24)] ty #[.slice (some ⟨w.heap.size, (i + 1) * ei.size, none⟩) (n - i) dc, .slice (some ⟨b, off + i * ei.size, none⟩) (n - i) sc]).run P W = .ok (goInt ((n - i : Nat) : Int)) (W.setCells w.heap.size ((i + 1) * ei.size) (cs.drop (i * ei.size))) := fun W hWc hWf ty dc sc =>
    run_copyZ W _ _ ty (ρ.t 9) ei w.heap.size ((i + 1) * ei.size) (n - i) dc ⟨b, off + i * ei.size, none⟩ (n - i) sc (n - i) (cs.drop (i * ei.size)) L.t24 L.i9 (by simp only [Nat.min_def]; split <;> omega) hdl
      (fun j v hj => by
        rw [Addr.add_lit, hWc, World.cell?_setCells_out _ _ _ _ _ (fun h _ => absurd h hbN), Nat.add_assoc]
        exact hOb _ v (hcs _ v (by rwa [List.getElem?_drop] at hj)))
      (fun j hj => by rw [hWc]; exact isSome_setCells _ _ _ _ (fun t ht => hN _ (by omega)) _ (hN _ (by omega)))
      (fun j hj => by rw [hWf, World.frozen?_setCells]; exact hNf _) (fun v hv => h1c v (List.mem_of_mem_drop hv))
  subst hW1
  have hE1 : ∀ x, ((w.alloc (.cells ROW (ρ.t 9))).drew).cell? x = (w.drew.alloc (.cells ROW (ρ.t 9))).cell? x := fun x => rfl
  have hE2 : ∀ x, ((w.alloc (.cells ROW (ρ.t 9))).drew).frozen? x = (w.drew.alloc (.cells ROW (ρ.t 9))).frozen? x := fun x => rfl
  have hF1 : ∀ x, (((w.alloc (.cells ROW (ρ.t 9))).drew.setCells w.heap.size (i * ei.size) vs).drew).cell? x = ((w.drew.alloc (.cells ROW (ρ.t 9))).setCells w.heap.size (i * ei.size) vs).cell? x := fun x => rfl
  have hF2 : ∀ x, (((w.alloc (.cells ROW (ρ.t 9))).drew.setCells w.heap.size (i * ei.size) vs).drew).frozen? x = ((w.drew.alloc (.cells ROW (ρ.t 9))).setCells w.heap.size (i * ei.size) vs).frozen? x := fun x => rfl
  have hw1 : IntKind.i64.wrap ((i : Int) + (1 : Int)) = (i : Int) + (1 : Int) := by rw [IntKind.wrap_i64]; omega
  have hb1 : (0 : Int) ≤ (i : Int) + (1 : Int) := by omega
  have hle : i ≤ n := by omega
  have htn : ((i : Int) + (1 : Int)).toNat = i + 1 := by omega
  have hb3 : (i : Int) ≤ (n : Int) := by omega
  have hb5 : (i : Int) ≤ (n : Int) + 1 := by omega
  clear hmul hkk hik hold hG hRl hN hOb hOv hNf hcs
  go_enter f22, Body2.n22_ntmps ρ
  go_wp2_with (first
    | (at_builtin; refine Lib.wpList_append_run _ rfl _ _ _ _ rfl _ _ rfl rfl _ _ (hrz _) ?_)
    | (at_builtin; refine wpList_copy_runI _ rfl _ _ (ρ.t 24) (ρ.t 24) rfl _ _ rfl rfl (hcpA _ hE1 hE2 _ _) ?_)
    | (at_builtin; refine wpList_copy_runI _ rfl _ _ (ρ.t 24) (ρ.t 24) rfl _ _ rfl rfl (hcpB _ (fun _ => rfl) (fun _ => rfl) _ _ _) ?_))
  go_region_law_o (refine step_copy_runI rfl _ _ (ρ.t 24) (ρ.t 24) rfl (.slice (some ⟨w.heap.size, (i + 1) * ei.size, none⟩) (n - i) (G - (i + 1))) (.slice (some ⟨b, off + i * ei.size, none⟩) (n - i) (c - i)) (by simp [Act.eval, Act.put]) (by simp [Act.eval, Act.put]) (hcpB _ hF1 hF2 (ρ.t 3) (G - (i + 1)) (c - i)) ?_)
  go_wp2
  go_ret
  exact ⟨_, _, hGn, rfl, hRs, hRg, rfl⟩
end
def okIns (by_ n m : Nat) (i : Int) : Bool := decide (0 ≤ i ∧ i ≤ n ∧ m = 1 ∧ (n + 1) * max 1 by_ ≤ 140737488355328)
def insF (sz by_ : Nat) : List D → Option (D × List D)
  | [.ow s1 els, .int .i64 i, .ow s2 es] => if s1 = sz ∧ s2 = sz ∧ okIns by_ els.length es.length i = true ∧ allCellO els = true ∧ allCellO es = true then some (.ow sz (els.take i.toNat ++ (es ++ els.drop i.toNat)), [.gone, .gone, .gone]) else none
  | _ => none
theorem setCells_eq {w : World} {g o : Nat} {c : Array Value} {ty : TypeId} {vs : List Value} (hg : w.heap[g]? = some (.cells c ty (0, 0))) (hfit : o + vs.length ≤ c.size) (h1 : ∀ u ∈ vs, u.oneCell' = true) :
    ∃ c' : Array Value, w.setCells g o vs = w.setRow g c' ∧ c'.size = c.size ∧ ∀ j, c'[j]? = if o ≤ j ∧ j < o + vs.length then vs[j - o]? else c[j]? := by
  have r1 := run_storeCells_at default g o ty vs 0 c w hg (by omega) h1
  have r2 := run_storeCells_cells (P := default) g o vs 0 w (fun j hj => by
      simp only [World.cell?, hg]
      have : o + j < c.size := by omega
      simp [this]) (fun j hj => by simp [World.frozen?, hg]) h1
  rw [r1] at r2
  have e : w.setRow g (c.toList.take (o + 0) ++ vs ++ c.toList.drop (o + 0 + vs.length)).toArray = w.setCells g (o + 0) vs := by simpa using r2
  refine ⟨_, e.symm, by simp; omega, fun j => ?_⟩
  have hs := splice_get (cs := c.toList) (xs := vs) (o := o) (j := j) (by simpa using hfit)
  unfold splice at hs
  rw [← List.append_assoc] at hs
  simp only [Nat.add_zero, List.getElem?_toArray, hs]
  simp
theorem ins_rep {w w' : World} {X : Nat → Prop} {A : Nat → Prop} {sz i g' o' c' : Nat} {els es : List (List D)} {olds news : List Value} {φ ψ : Nat → Nat → Nat → Prop} {F0 F2 : Nat → Prop}
    (hi : i ≤ els.length) (hm : es.length = 1) (hz : ∀ el ∈ els, el.length = sz) (hz2 : ∀ el ∈ es, el.length = sz) (hl : olds.length = els.length * sz) (hl2 : news.length = sz)
    (ho : ∀ (p j : Nat) (el : List D) (d : D), els[p]? = some el → el[j]? = some d → ∃ u, olds[p * sz + j]? = some u ∧ RepC w (fun _ => X) d u (φ p j))
    (hn : ∀ (p j : Nat) (el : List D) (d : D), es[p]? = some el → el[j]? = some d → ∃ u, news[p * sz + j]? = some u ∧ RepC w (fun _ => X) d u (ψ p j))
    (hnf : nfE els = true) (hnf2 : nfE es = true) (hd : RowD els φ) (hd2 : RowD es ψ) (hF : ∀ p j x, InR els p j → φ p j x → F0 x ∧ x ≠ g') (hF2 : ∀ p j x, InR es p j → ψ p j x → F2 x ∧ x ≠ g') (h02 : ∀ x, F0 x → ¬ F2 x)
    (hA0 : ∀ x, F0 x → A x) (hA2 : ∀ x, F2 x → A x) (hAX : ∀ x, A x → X x) (hXl : ∀ x, X x → x < w.heap.size) (hA' : A g' ∨ w.heap.size ≤ g') (hkeep : ∀ x, x < w.heap.size → x ≠ g' → w'.heap[x]? = w.heap[x]?)
    (hsz : w.heap.size ≤ w'.heap.size) (hown : OwnBlk w' g' (o' + c' * sz)) (hc : els.length + 1 ≤ c')
    (hmem : ∀ (j : Nat) (u : Value), (olds.take (i * sz) ++ (news ++ olds.drop (i * sz)))[j]? = some u → w'.cell? ⟨g', o' + j, none⟩ = some u) :
    RepC w' (XR w X A (fun b => (b = g' ∨ F0 b ∨ F2 b) ∨ False)) (.sh .own sz (els.take i ++ (es ++ els.drop i))) (.slice (some ⟨g', o', none⟩) (els.length + 1) c') (fun b => b = g' ∨ F0 b ∨ F2 b) := by
  have hlen : (els.take i ++ (es ++ els.drop i)).length = els.length + 1 := by simp; omega
  have hisz : i * sz ≤ olds.length := by rw [hl]; exact Nat.mul_le_mul_right _ hi
  have get : ∀ (p j : Nat) (el : List D) (d : D), (els.take i ++ (es ++ els.drop i))[p]? = some el → el[j]? = some d →
      ∃ u, w'.cell? ⟨g', o' + p * sz + j, none⟩ = some u ∧ ((p < i ∧ InR els p j ∧ RepC w (fun _ => X) d u (φ p j) ∧ nf d = true) ∨ (p = i ∧ InR es 0 j ∧ RepC w (fun _ => X) d u (ψ 0 j) ∧ nf d = true) ∨ (i < p ∧ InR els (p - 1) j ∧ RepC w (fun _ => X) d u (φ (p - 1) j) ∧ nf d = true)) := by
    intro p j el d h1 h2
    have hti : (els.take i).length = i := by simp; omega
    have hto : (olds.take (i * sz)).length = i * sz := by simp; omega
    rcases Nat.lt_trichotomy p i with hp | hp | hp
    · rw [List.getElem?_append_left (by omega), List.getElem?_take, if_pos hp] at h1
      obtain ⟨u, q1, q2⟩ := ho p j el d h1 h2
      have hj : j < sz := by rw [← hz el (List.mem_of_getElem? h1)]; exact (List.getElem?_eq_some_iff.1 h2).1
      have hlt : p * sz + j < i * sz := idx_lt hp hj
      have key := hmem (p * sz + j) u (by rw [List.getElem?_append_left (by omega), List.getElem?_take, if_pos hlt]; exact q1)
      rw [← Nat.add_assoc] at key
      exact ⟨u, key, .inl ⟨hp, ⟨el, d, h1, h2⟩, q2, nfL_get (nfE_get hnf h1) h2⟩⟩
    · subst hp
      rw [List.getElem?_append_right (by omega), hti, Nat.sub_self, List.getElem?_append_left (by omega)] at h1
      obtain ⟨u, q1, q2⟩ := hn 0 j el d h1 h2
      rw [Nat.zero_mul, Nat.zero_add] at q1
      have hj : j < sz := by rw [← hz2 el (List.mem_of_getElem? h1)]; exact (List.getElem?_eq_some_iff.1 h2).1
      have key := hmem (p * sz + j) u (by
        rw [List.getElem?_append_right (by omega), hto, Nat.add_sub_cancel_left, List.getElem?_append_left (by omega)]
        exact q1)
      rw [← Nat.add_assoc] at key
      exact ⟨u, key, .inr (.inl ⟨rfl, ⟨el, d, h1, h2⟩, q2, nfL_get (nfE_get hnf2 h1) h2⟩)⟩
    · rw [List.getElem?_append_right (by omega), hti, List.getElem?_append_right (by omega), hm, List.getElem?_drop] at h1
      have e1 : i + (p - i - 1) = p - 1 := by omega
      rw [e1] at h1
      obtain ⟨u, q1, q2⟩ := ho (p - 1) j el d h1 h2
      have hj : j < sz := by rw [← hz el (List.mem_of_getElem? h1)]; exact (List.getElem?_eq_some_iff.1 h2).1
      obtain ⟨k, rfl⟩ : ∃ k, p = i + 1 + k := ⟨p - i - 1, by omega⟩
      have e2 : (i + 1 + k) * sz = i * sz + sz + k * sz := by rw [Nat.add_mul, Nat.succ_mul]
      have e3 : (i + 1 + k - 1) * sz = i * sz + k * sz := by rw [show i + 1 + k - 1 = i + k by omega, Nat.add_mul]
      rw [e3] at q1
      have key := hmem ((i + 1 + k) * sz + j) u (by
        rw [e2, List.getElem?_append_right (by omega), hto, List.getElem?_append_right (by omega), hl2, List.getElem?_drop]
        rw [show i * sz + (i * sz + sz + k * sz + j - i * sz - sz) = i * sz + k * sz + j by omega]
        exact q1)
      rw [← Nat.add_assoc] at key
      exact ⟨u, key, .inr (.inr ⟨hp, ⟨el, d, h1, h2⟩, q2, nfL_get (nfE_get hnf h1) h2⟩)⟩
  have hg' : g' < w'.heap.size := hown.lt
  have hRl : ∀ b, (b = g' ∨ F0 b ∨ F2 b) → b < w'.heap.size := fun b hb => by
    rcases hb with rfl | hb | hb
    · exact hg'
    · exact Nat.lt_of_lt_of_le (hXl b (hAX b (hA0 b hb))) hsz
    · exact Nat.lt_of_lt_of_le (hXl b (hAX b (hA2 b hb))) hsz
  have tr : ∀ {d : D} {u : Value} {Φ : Nat → Prop}, RepC w (fun _ => X) d u Φ → nf d = true → (∀ x, Φ x → x ≠ g' ∧ x < w.heap.size) → RepC w' (XR w X A (fun b => (b = g' ∨ F0 b ∨ F2 b) ∨ False)) d u Φ := by
    intro d u Φ h hnf hΦ
    have h1 : RepC w (fun k b => k = .fresh ∨ X b) d u Φ := h.nf (fun b _ hx => by rcases hx with hx | hx; · cases hx
                                                                                   · exact hx) hnf
    refine h1.stay ⟨fun k b hb hx => hkeep b hb fun e => ?_, fun k b hb hx => ?_⟩ fun b hb => hkeep b (hΦ b hb).2 (hΦ b hb).1
    · subst e
      rcases hA' with ha | ha
      · exact hx (.inr (hAX b ha))
      · omega
    · rcases hx with ⟨rfl, _⟩ | ⟨hx, _⟩ | ((rfl | hx | hx) | hx)
      · exact .inl rfl
      · exact .inr hx
      · rcases hA' with ha | ha
        · exact .inr (hAX b ha)
        · omega
      · exact .inr (hAX b (hA0 b hx))
      · exact .inr (hAX b (hA2 b hx))
      · exact hx.elim
  let χ : Nat → Nat → Nat → Prop := fun p j => if p < i then φ p j else if p = i then ψ 0 j else φ (p - 1) j
  have χin : ∀ p j x, InR (els.take i ++ (es ++ els.drop i)) p j → χ p j x → (p < i ∧ InR els p j ∧ φ p j x) ∨ (p = i ∧ InR es 0 j ∧ ψ 0 j x) ∨ (i < p ∧ InR els (p - 1) j ∧ φ (p - 1) j x) := by
    rintro p j x ⟨el, d, h1, h2⟩ hx
    obtain ⟨u, _, hh⟩ := get p j el d h1 h2
    rcases hh with ⟨q1, q2, _⟩ | ⟨q1, q2, _⟩ | ⟨q1, q2, _⟩
    · simp only [χ, if_pos q1] at hx; exact .inl ⟨q1, q2, hx⟩
    · simp only [χ, if_neg (show ¬ p < i by omega), if_pos q1] at hx; exact .inr (.inl ⟨q1, q2, hx⟩)
    · simp only [χ, if_neg (show ¬ p < i by omega), if_neg (show ¬ p = i by omega)] at hx; exact .inr (.inr ⟨q1, q2, hx⟩)
  rw [← hlen]
  refine .own sz _ g' o' c' χ _ hRl (.inl rfl) (fun p j x hin hx => ?_) (fun p j p' j' x hin hin' hx hx' => ?_) (by rw [hlen]; exact hc) hown (fun el hel => ?_) (fun p j => (w'.cell? ⟨g', o' + p * sz + j, none⟩).getD undef) (fun p j el d h1 h2 => ?_) fun p j el d h1 h2 => ?_
  · rcases χin p j x hin hx with ⟨_, q, h⟩ | ⟨_, q, h⟩ | ⟨_, q, h⟩
    · exact ⟨.inr (.inl (hF _ _ x q h).1), (hF _ _ x q h).2⟩
    · exact ⟨.inr (.inr (hF2 _ _ x q h).1), (hF2 _ _ x q h).2⟩
    · exact ⟨.inr (.inl (hF _ _ x q h).1), (hF _ _ x q h).2⟩
  · rcases χin p j x hin hx with ⟨r, q, h⟩ | ⟨r, q, h⟩ | ⟨r, q, h⟩ <;> rcases χin p' j' x hin' hx' with ⟨r', q', h'⟩ | ⟨r', q', h'⟩ | ⟨r', q', h'⟩
    · exact hd _ _ _ _ x q q' h h'
    · exact absurd (hF2 _ _ x q' h').1 (h02 x (hF _ _ x q h).1)
    · have := hd _ _ _ _ x q q' h h'; omega
    · exact absurd (hF2 _ _ x q h).1 (h02 x (hF _ _ x q' h').1)
    · have := hd2 _ _ _ _ x q q' h h'; omega
    · exact absurd (hF2 _ _ x q h).1 (h02 x (hF _ _ x q' h').1)
    · have := hd _ _ _ _ x q q' h h'; omega
    · exact absurd (hF2 _ _ x q' h').1 (h02 x (hF _ _ x q h).1)
    · have := hd _ _ _ _ x q q' h h'; omega
  · rcases List.mem_append.1 hel with h | h
    · exact hz el (List.mem_of_mem_take h)
    · rcases List.mem_append.1 h with h | h
      · exact hz2 el h
      · exact hz el (List.mem_of_mem_drop h)
  · obtain ⟨u, q, _⟩ := get p j el d h1 h2
    rw [q]; rfl
  · obtain ⟨u, q, hh⟩ := get p j el d h1 h2
    simp only [q, Option.getD_some]
    rcases hh with ⟨q1, q2, q3, q4⟩ | ⟨q1, q2, q3, q4⟩ | ⟨q1, q2, q3, q4⟩
    · have e : χ p j = φ p j := by simp only [χ, if_pos q1]
      rw [e]; exact tr q3 q4 fun x hx => ⟨(hF _ _ x q2 hx).2, hXl x (hAX x (hA0 x (hF _ _ x q2 hx).1))⟩
    · have e : χ p j = ψ 0 j := by simp only [χ, if_neg (show ¬ p < i by omega), if_pos q1]
      rw [e]; exact tr q3 q4 fun x hx => ⟨(hF2 _ _ x q2 hx).2, hXl x (hAX x (hA2 x (hF2 _ _ x q2 hx).1))⟩
    · have e : χ p j = φ (p - 1) j := by simp only [χ, if_neg (show ¬ p < i by omega), if_neg (show ¬ p = i by omega)]
      rw [e]; exact tr q3 q4 fun x hx => ⟨(hF _ _ x q2 hx).2, hXl x (hAX x (hA0 x (hF _ _ x q2 hx).1))⟩
theorem ins_sound {P : Program} {ρ : Ren} {ei : TypeInfo} {z : Value} {G : Nat → Option (List D)} (L : InsL P ρ ei z) : SoundFn P G [1, 0, 1] (ρ.f 22) (insF ei.size ei.bytes) := by
  intro w X ds vs fs φ d outs hfl hr hX hX0 hGl hnn h
  unfold insF at h
  split at h
  case h_2 => simp at h
  rename_i s1 els q s2 es
  split at h
  case isFalse => simp at h
  rename_i hc
  obtain ⟨rfl, rfl, hok, hal, hal2⟩ := hc
  obtain ⟨hq0, hqn, hm, hbig⟩ := of_decide_eq_true hok
  obtain ⟨rfl, rfl⟩ : D.ow ei.size (els.take q.toNat ++ (es ++ els.drop q.toNat)) = d ∧ [D.gone, D.gone, D.gone] = outs := by simpa using h
  obtain ⟨i, rfl⟩ : ∃ i : Nat, q = i := ⟨q.toNat, by omega⟩
  simp only [Int.toNat_natCast] at *
  have hi : i ≤ els.length := by omega
  have hp := L.i9p
  have hb1 : (els.length + 1) * ei.bytes ≤ 140737488355328 := Nat.le_trans (Nat.mul_le_mul_left _ (by omega)) hbig
  have hn63 : els.length + 1 ≤ 140737488355328 := Nat.le_trans (Nat.le_mul_of_pos_right _ (by omega)) hbig
  have hnf : nfE els = true := by
    have := nfL_get (i := 0) hnn rfl
    simpa [nf] using this
  have hnf2 : nfE es = true := by
    have := nfL_get (i := 2) hnn rfl
    simpa [nf] using this
  cases hfl with
  | agg _ _ _ _ _ q => omega
  | one _ _ v0 vs fs _ t =>
  cases t with
  | agg _ _ _ _ _ q => omega
  | one _ _ v1 vs fs _ t =>
  cases t with
  | agg _ _ _ _ _ q => omega
  | one _ _ v2 vs fs _ t =>
  cases t
  have h0 := hr.2.2 0 _ v0 rfl rfl
  have h1 := hr.2.2 1 _ v1 rfl rfl
  have h2 := hr.2.2 2 _ v2 rfl rfl
  have hdis := hr.2.1
  clear hr hok h
  obtain rfl : v1 = .int .i64 i := by
    cases h1 with
    | plain _ _ _ _ h => cases h; rfl
  have A0 : ∀ b, φ 0 b → AllF 3 φ b := fun b hb => ⟨0, by omega, hb⟩
  have A2 : ∀ b, φ 2 b → AllF 3 φ b := fun b hb => ⟨2, by omega, hb⟩
  have d02 : ∀ b, φ 0 b → ¬ φ 2 b := fun b h0 h2 => by
    have := hdis 0 2 b (by simp) (by simp) h0 h2
    omega
  cases h2 with
  | plain _ _ _ hF h => cases h
  | ow _ _ _ _ h2 =>
  generalize hsh2 : D.sh .own ei.size es = sh2 at h2
  cases h2 with
  | plain _ _ _ _ h => cases h <;> simp at hsh2 <;> simp_all
  | own0 sz a =>
    exfalso
    simp only [D.sh.injEq, true_and] at hsh2
    rw [hsh2.2] at hm; simp at hm
  | own sz2 es' g2 k2 c2 ψ _ hF2 hg2 hs2 hd2 hc2 ho2 hz2 vf2 hm2 hh2 =>
  simp only [D.sh.injEq, true_and] at hsh2
  obtain ⟨rfl, rfl⟩ := hsh2
  obtain ⟨news, n1, n2, n3⟩ := els_vals (w := w) (R := fun i j d u => RepC w (fun _ => X) d u (ψ i j)) (g := g2) (k := k2) hz2 (fun i j el d q1 q2 => ⟨_, hm2 i j el d q1 q2, hh2 i j el d q1 q2⟩)
  have n4 := vals_ones hz2 n1 (allCellO_spec hal2) n3
  rw [hm, Nat.one_mul] at n1
  have hl2 : es.length = 1 := hm
  have fin : ∀ {olds : List Value} {φ' : Nat → Nat → Nat → Prop} {g' o' c' : Nat} {w' : World}, (∀ el ∈ els, el.length = ei.size) → olds.length = els.length * ei.size →
      (∀ (p j : Nat) (el : List D) (d : D), els[p]? = some el → el[j]? = some d → ∃ u, olds[p * ei.size + j]? = some u ∧ RepC w (fun _ => X) d u (φ' p j)) → RowD els φ' → (∀ p j x, InR els p j → φ' p j x → φ 0 x ∧ x ≠ g') →
      ((φ 0 g' ∧ Chg w w' (fun b => b = g')) ∨ (g' = w.heap.size ∧ Chg w w' E)) → OwnBlk w' g' (o' + c' * ei.size) → els.length + 1 ≤ c' →
      (∀ (j : Nat) (u : Value), (olds.take (i * ei.size) ++ (news ++ olds.drop (i * ei.size)))[j]? = some u → w'.cell? ⟨g', o' + j, none⟩ = some u) →
      ∃ v R χ, Ending.returned (.slice (some ⟨g', o', none⟩) (els.length + 1) c') = .returned v ∧ Chg w w' (AllF 3 φ) ∧
        RepV w' (XR w X (AllF 3 φ) (fun b => R b ∨ AllF 3 χ b)) (.ow ei.size (els.take i ++ (es ++ els.drop i))) v R ∧ RepVs w' (XR w X (AllF 3 φ) (fun b => R b ∨ AllF 3 χ b)) [D.gone, D.gone, D.gone] [v0, .int .i64 i, .slice (some ⟨g2, k2, none⟩) es.length c2] χ ∧
        (∀ b, R b → ¬ AllF 3 χ b) ∧ (∀ b, R b ∨ AllF 3 χ b → AllF 3 φ b ∨ w.heap.size ≤ b) ∧
        (∀ (i' sz : Nat) (els' : List (List D)) (sz' : Nat) (els2 : List (List D)) (u : Value), [D.ow ei.size els, .int .i64 i, .ow ei.size es][i']? = some (.ow sz els') → [D.gone, D.gone, D.gone][i']? = some (.ow sz' els2) → [v0, Value.int .i64 i, .slice (some ⟨g2, k2, none⟩) es.length c2][i']? = some u → ∀ b, MainV u (φ i') b → χ i' b) := by
    intro olds φ' g' o' c' w' z1 z2 z3 z4 z5 z6 z7 z8 z9
    have nof : ∀ b, ¬ AllF 3 (fun _ _ => False) b := fun b ⟨_, _, q⟩ => q
    have eX : (fun b => (b = g' ∨ φ 0 b ∨ φ 2 b) ∨ AllF 3 (fun _ _ => False) b) = fun b => (b = g' ∨ φ 0 b ∨ φ 2 b) ∨ False := by funext b; simp [nof b]
    have hch : Chg w w' (AllF 3 φ) := by
      rcases z6 with ⟨a, b⟩ | ⟨_, b⟩
      · exact b.mono fun x hx => by subst hx; exact A0 _ a
      · exact b.mono fun x hx => hx.elim
    have hA' : AllF 3 φ g' ∨ w.heap.size ≤ g' := by
      rcases z6 with ⟨a, b⟩ | ⟨a, b⟩
      · exact .inl (A0 _ a)
      · exact .inr (by omega)
    have hkeep : ∀ x, x < w.heap.size → x ≠ g' → w'.heap[x]? = w.heap[x]? := by
      rcases z6 with ⟨a, b⟩ | ⟨_, b⟩
      · exact fun x hx hn => b.keep x hx hn
      · exact fun x hx hn => b.keep x hx fun h => h
    refine ⟨_, fun b => b = g' ∨ φ 0 b ∨ φ 2 b, fun _ _ => False, rfl, hch, .ow _ _ _ _ ?_, repVs_gone (n := 3) rfl, fun b _ => nof b, fun b q => ?_, fun i' sz els' sz' els2 u q1 q2 => ?_⟩
    · rw [eX]
      exact ins_rep (F0 := φ 0) (F2 := φ 2) hi hm z1 hz2 z2 n1 z3 n3 hnf hnf2 z4 hd2 z5 (fun p j x q1 q2 => ⟨(hs2 p j x q1 q2).1, fun e => by
        subst e
        rcases z6 with ⟨a, _⟩ | ⟨a, _⟩
        · exact d02 _ a (hs2 p j _ q1 q2).1
        · have := hX0 _ (hX _ (A2 _ (hs2 p j _ q1 q2).1)); omega⟩) d02 A0 A2 hX hX0 hA' hkeep hch.size z7 z8 z9
    · rcases q with (rfl | q | q) | q
      · exact hA'
      · exact .inl (A0 _ q)
      · exact .inl (A2 _ q)
      · exact (nof b q).elim
    · rcases i' with _ | _ | _ | i' <;> simp at q2
  cases h0 with
  | plain _ _ _ hF h => cases h
  | ow _ _ _ _ h0 =>
  generalize hsh : D.sh .own ei.size els = sh at h0
  cases h0 with
  | plain _ _ _ _ h => cases h <;> simp at hsh <;> simp_all
  | own0 sz a =>
    simp only [D.sh.injEq, true_and] at hsh
    obtain ⟨rfl, rfl⟩ := hsh
    obtain rfl : i = 0 := by simpa using hi
    rcases append_law (P := P) (w := w) (ρ.t 24) (ρ.t 24) (ρ.t 9) ei z L.t24 L.i9 L.i9z L.i9s (vs := .slice a 0 0) (vx := .slice (some ⟨g2, k2, none⟩) 1 c2) (n := 0) (m := 1) (olds := []) (news := news) (by simp) (by rw [n1, Nat.one_mul]) (.inl ⟨a, rfl, rfl⟩)
      (.inr ⟨⟨g2, k2, none⟩, c2, rfl, .inr rfl, n2⟩) n4 (by simpa using hbig) with ⟨_, h01, _⟩ | ⟨w', g', o', cap', hrun, e1, e2, e3, e4⟩
    · omega
    · have := ins_end L hrun (Nat.le_refl 0)
      rw [hl2]
      refine this.mono ?_
      rintro e w'' ⟨rfl, rfl⟩
      rw [hl2] at fin
      refine fin (olds := []) (φ' := fun _ _ _ => False) (by simp) (by simp) (fun p j el d q => by simp at q) (fun _ _ _ _ _ _ _ q => q.elim) (fun _ _ _ _ q => q.elim) ?_ e2 e1 (fun j u hj => e3 j u (by simpa using hj))
      rcases e4 with ⟨o, cap, q1, q2, _⟩ | ⟨q1, _, q3⟩
      · exfalso; simp at q1; omega
      · exact .inr ⟨q1, q3⟩
  | own sz els' g k c φ0 _ hF hg hs hd hcc ho hz vf hmm hh =>
    simp only [D.sh.injEq, true_and] at hsh
    obtain ⟨rfl, rfl⟩ := hsh
    obtain ⟨olds, m1, m2, m3⟩ := els_vals (w := w) (R := fun i j d u => RepC w (fun _ => X) d u (φ0 i j)) (g := g) (k := k) hz (fun i j el d q1 q2 => ⟨_, hmm i j el d q1 q2, hh i j el d q1 q2⟩)
    have m4 := vals_ones hz m1 (allCellO_spec hal) m3
    have hgw : g < w.heap.size := hX0 _ (hX _ (A0 _ hg))
    have hsn : ∀ p j x, InR els p j → φ0 p j x → φ 0 x ∧ x ≠ w.heap.size := fun p j x q1 q2 => ⟨(hs p j x q1 q2).1, fun e => by
      have := hX0 _ (hX _ (A0 _ (hs p j x q1 q2).1)); omega⟩
    rw [hl2]
    rw [hl2] at fin
    by_cases hin : i = els.length
    · subst hin
      rcases append_law (P := P) (w := w) (ρ.t 24) (ρ.t 24) (ρ.t 9) ei z L.t24 L.i9 L.i9z L.i9s (vs := .slice (some ⟨g, k, none⟩) els.length c) (vx := .slice (some ⟨g2, k2, none⟩) 1 c2) (n := els.length) (m := 1) (olds := olds) (news := news) m1 (by rw [n1, Nat.one_mul])
        (.inr ⟨g, k, c, rfl, hcc, ho, m2⟩) (.inr ⟨⟨g2, k2, none⟩, c2, rfl, .inr rfl, n2⟩) n4 hbig with ⟨_, h01, _⟩ | ⟨w', g', o', cap', hrun, e1, e2, e3, e4⟩
      · omega
      · refine (ins_end L hrun hcc).mono ?_
        rintro e w'' ⟨rfl, rfl⟩
        have hmem : ∀ (j : Nat) (u : Value), (olds.take (els.length * ei.size) ++ (news ++ olds.drop (els.length * ei.size)))[j]? = some u → w''.cell? ⟨g', o' + j, none⟩ = some u := fun j u hj => e3 j u (by
          rw [List.take_of_length_le (by omega), List.drop_of_length_le (by omega), List.append_nil] at hj; exact hj)
        rcases e4 with ⟨o, cap, q1, q2, q3⟩ | ⟨q1, _, q3⟩
        · obtain ⟨⟨rfl, rfl⟩, rfl⟩ : (g = g' ∧ k = o) ∧ c = cap := by simpa using q1
          exact fin hz m1 m3 hd hs (.inl ⟨hg, q3⟩) e2 e1 hmem
        · subst q1
          exact fin hz m1 m3 hd hsn (.inr ⟨rfl, q3⟩) e2 e1 hmem
    · have hin' : i < els.length := by omega
      have hmul : (i + 1) * ei.size = i * ei.size + ei.size := Nat.succ_mul _ _
      have hle : (i + 1) * ei.size ≤ els.length * ei.size := Nat.mul_le_mul_right _ hin'
      have hn1 : (els.length + 1) * ei.size = els.length * ei.size + ei.size := Nat.succ_mul _ _
      have hdl : (olds.drop (i * ei.size)).length = els.length * ei.size - i * ei.size := by rw [List.length_drop, m1]
      have htl : (olds.take (i * ei.size)).length = i * ei.size := by rw [List.length_take, m1]; omega
      have hne : g2 ≠ g := fun e => by subst e; exact d02 _ hg hg2
      obtain ⟨cs, ty, hbl, hbs⟩ := ho
      obtain ⟨cs2, ty2, hbl2, hbs2⟩ := ho2
      have fz : ∀ {g : Nat} {cs : Array Value} {ty : TypeId}, w.heap[g]? = some (.cells cs ty (0, 0)) → ∀ j, w.frozen? ⟨g, j, none⟩ = false := fun h j => by simp [World.frozen?, h]
      by_cases hroom : els.length + 1 ≤ c
      · have hcz : (els.length + 1) * ei.size ≤ c * ei.size := Nat.mul_le_mul_right _ hroom
        refine (ins_shift L (off := k) (voff := k2) (vc := c2) (cs := olds) (vs := news) hin' hroom hn63 hne m1 n1 m2 (fun j hj => ?_) (fz hbl) n2 m4 n4 (tA := ty2) (tB := ty) (kA := cs2.size) (kB := cs.size) (by simp [World.shape?, hbl2]) (by simp [World.shape?, hbl]) (by omega) (fz hbl2)).mono ?_
        · have : k + j < cs.size := by omega
          simp only [World.cell?, hbl]; simp [this]
        · rintro e w'' ⟨rfl, rfl⟩
          obtain ⟨c1, e1, f1, g1⟩ := setCells_eq (w := w.drew) (o := k + (i * ei.size + ei.size)) (vs := olds.drop (i * ei.size)) hbl (by omega) (fun u hu => m4 u (List.mem_of_mem_drop hu))
          rw [e1]
          have hb1' := setRow_heap w.drew g cs c1 ty _ hbl
          obtain ⟨c3, e3, f3, g3⟩ := setCells_eq (o := k + i * ei.size) (vs := news) hb1' (by omega) n4
          rw [e3]
          have hb3' := setRow_heap (w.drew.setRow g c1) g c1 c3 ty _ hb1'
          have ch1 : Chg w (w.drew.setRow g c1) (fun b => b = g) := by
            have := chg_setRow (w := w.drew) hbl f1
            exact ⟨this.os, this.tape, this.output, this.size, this.keep, this.own⟩
          have ch := ch1.trans (chg_setRow hb1' f3) (fun b hb => .inl hb)
          refine fin hz m1 m3 hd hs (.inl ⟨hg, ch⟩) ⟨c3, ty, hb3', by omega⟩ hroom fun j u hj => ?_
          have hj' := (List.getElem?_eq_some_iff.1 hj).1
          simp only [List.length_append, htl, n1, hdl] at hj'
          simp only [World.cell?, hb3']
          simp only [Option.isSome_none, Bool.false_eq_true, if_false]
          rw [g3]
          rcases Nat.lt_or_ge j (i * ei.size) with hj1 | hj1
          · rw [if_neg (by omega), g1, if_neg (by omega)]
            rw [List.getElem?_append_left (by omega), List.getElem?_take, if_pos hj1] at hj
            have := m2 j u hj
            simpa [World.cell?, hbl] using this
          · rw [List.getElem?_append_right (by omega), htl] at hj
            rcases Nat.lt_or_ge j (i * ei.size + ei.size) with hj2 | hj2
            · rw [if_pos (by omega)]
              rw [List.getElem?_append_left (by omega)] at hj
              rw [← hj]; congr 1; omega
            · rw [if_neg (by omega), g1, if_pos (by omega)]
              rw [List.getElem?_append_right (by omega), n1] at hj
              rw [← hj]; congr 1; omega
      · refine (ins_grow L (off := k) (voff := k2) (vc := c2) (cs := olds) (vs := news) hin' hcc (by omega) hb1 m1 n1 m2 n2 m4 n4).mono ?_
        rintro e w'' ⟨G', ROW, e1, rfl, e2, e3, rfl⟩
        have hG : (els.length + 1) * ei.size ≤ G' * ei.size := Nat.mul_le_mul_right _ e1
        have hb0 : (w.alloc (.cells ROW (ρ.t 9))).drew.heap[w.heap.size]? = some (.cells ROW (ρ.t 9) (0, 0)) := heap_alloc_new w _
        obtain ⟨c1, p1, f1, g1⟩ := setCells_eq (o := i * ei.size) (vs := news) hb0 (by omega) n4
        rw [p1]
        have hb1' := setRow_heap _ _ ROW c1 _ _ hb0
        obtain ⟨c3, p3, f3, g3⟩ := setCells_eq (w := ((w.alloc (.cells ROW (ρ.t 9))).drew.setRow w.heap.size c1).drew) (o := (i + 1) * ei.size) (vs := olds.drop (i * ei.size)) hb1' (by omega) (fun u hu => m4 u (List.mem_of_mem_drop hu))
        rw [p3]
        have hb3' := setRow_heap ((w.alloc (.cells ROW (ρ.t 9))).drew.setRow w.heap.size c1).drew _ c1 c3 _ _ hb1'
        have hk : ∀ b, b < w.heap.size → ((((w.alloc (.cells ROW (ρ.t 9))).drew.setRow w.heap.size c1).drew.setRow w.heap.size c3)).heap[b]? = w.heap[b]? := fun b hb => by
          have hne : b ≠ w.heap.size := by omega
          rw [setRow_other _ _ _ _ hne]
          exact (setRow_other (w.alloc (.cells ROW (ρ.t 9))).drew _ _ _ hne).trans (heap_alloc_old w _ hb)
        have ch : Chg w (((w.alloc (.cells ROW (ρ.t 9))).drew.setRow w.heap.size c1).drew.setRow w.heap.size c3) E := by
          refine ⟨rfl, rfl, rfl, ?_, fun b hb _ => hk b hb, fun b m hb => hb.same (hk b hb.lt)⟩
          have := (Array.getElem?_eq_some_iff.1 hb3').1
          omega
        refine fin hz m1 m3 hd hsn (.inr ⟨rfl, ch⟩) ⟨c3, _, hb3', by omega⟩ e1 fun j u hj => ?_
        have hj' := (List.getElem?_eq_some_iff.1 hj).1
        simp only [List.length_append, htl, n1, hdl] at hj'
        simp only [World.cell?, hb3']
        simp only [Option.isSome_none, Bool.false_eq_true, if_false, Nat.zero_add]
        rw [g3]
        rcases Nat.lt_or_ge j (i * ei.size) with hj1 | hj1
        · rw [if_neg (by omega), g1, if_neg (by omega)]
          rw [List.getElem?_append_left (by omega), List.getElem?_take, if_pos hj1] at hj
          exact e3 j u hj1 hj
        · rw [List.getElem?_append_right (by omega), htl] at hj
          rcases Nat.lt_or_ge j (i * ei.size + ei.size) with hj2 | hj2
          · rw [if_neg (by omega), g1, if_pos (by omega)]
            rw [List.getElem?_append_left (by omega)] at hj
            exact hj
          · rw [if_pos (by omega)]
            rw [List.getElem?_append_right (by omega), n1] at hj
            rw [← hj]; congr 1; omega
theorem insF_row {α : Type} {f : α → List D} {sz by_ : Nat} {i : Int} {xs ys : List α} (hc : ∀ zs : List α, allCellO (rowE f zs) = true) : insF sz by_ [.ow sz (rowE f xs), .int .i64 i, .ow sz (rowE f ys)] = (if okIns by_ xs.length ys.length i = true then some (xs.take i.toNat ++ (ys ++ xs.drop i.toNat)) else none).map fun r => (.ow sz (rowE f r), [.gone, .gone, .gone]) := by
  unfold insF
  simp only [hc, true_and, and_true]
  have e : ∀ zs : List α, (rowE f zs).length = zs.length := fun zs => by simp [rowE]
  rw [e, e]
  by_cases h : okIns by_ xs.length ys.length i = true
  · rw [if_pos h, if_pos h]; simp [rowE]
  · rw [if_neg h, if_neg h]; rfl
end Go.Proofs.Ytpbonfgmiffomaa.Wm
namespace Go.Proofs.Ytpbonfgmiffomaa.Wm
open Go
def rN : Nat → Nat → Nat × Nat
  | 0, s => (0, s)
  | k + 1, s => match Nat.blt (s % 16) 8 with
    | true => (s % 16, s / 16)
    | false => match rN k (s / 16) with
      | (m, t) => (s % 16 - 8 + 8 * m, t)
def rn (s : Nat) : Nat × Nat := rN 40 s
def zz (m : Nat) : Int := match m % 2 with
  | 0 => ((m / 2 : Nat) : Int)
  | _ => 0 - ((m / 2 + 1 : Nat) : Int)
def rB (m : Nat) : Bool := Nat.beq m 1
def rL {α : Type} (f : Nat → α × Nat) : Nat → Nat → List α × Nat
  | 0, s => ([], s)
  | n + 1, s => match f s with
    | (x, s) => match rL f n s with
      | (l, s) => (x :: l, s)
def rl {α : Type} (f : Nat → α × Nat) (s : Nat) : List α × Nat := match rn s with
  | (n, s) => rL f n s
def rO {α : Type} (f : Nat → α × Nat) (s : Nat) : Option α × Nat := match rn s with
  | (0, s) => (none, s)
  | (_, s) => match f s with
    | (x, s) => (some x, s)
def rp {α β : Type} (f : Nat → α × Nat) (g : Nat → β × Nat) (s : Nat) : (α × β) × Nat := match f s with
  | (x, s) => match g s with
    | (y, s) => ((x, y), s)
def kN : Nat → IntKind
  | 0 => .i64 | 1 => .u8 | 2 => .u16 | 3 => .u32 | 4 => .u64 | 5 => .i8 | 6 => .i16 | _ => .i32
def bN : Nat → BinOp
  | 0 => .add | 1 => .sub | 2 => .mul | 3 => .lss | 4 => .eql | 5 => .neq | 6 => .quo | 7 => .rem | 8 => .leq | 9 => .gtr | 10 => .geq | 11 => .and | 12 => .or | 13 => .xor | 14 => .shl | 15 => .shr | _ => .andNot
def uN : Nat → UnOp
  | 0 => .neg | 1 => .not | 2 => .xor | _ => .plus
def eN : Nat → EqK
  | 0 => .int | 1 => .bool | _ => .str
def KN : Nat → K
  | 0 => .fresh | 1 => .lent | _ => .own
section
variable (z : Nat → List UInt8)
def rD (s : Nat) : D × Nat := match rn s with
  | (0, s) => (.int .i64 0, s)
  | (1, s) => match rn s with
    | (k, s) => match rn s with
      | (n, s) => (.int (kN k) (zz n), s)
  | (2, s) => (.bool false, s)
  | (3, s) => (.bool true, s)
  | (4, s) => (.str [], s)
  | (5, s) => match rn s with
    | (i, s) => (.str (z i), s)
  | (6, s) => match rn s with
    | (f, s) => (.fn f [], s)
  | (7, s) => match rn s with
    | (k, s) => match rn s with
      | (n, s) => (.sh (KN k) n [], s)
  | (8, s) => (.err true, s)
  | (9, s) => (.err false, s)
  | (_, s) => (.gone, s)
def rV (s : Nat) : V × Nat := match rn s with
  | (0, s) => match rD z s with
    | (d, s) => (.val d, s)
  | (1, s) => match rn s with
    | (n, s) => (.emp n, s)
  | (_, s) => (.dead, s)
def rX (d s : Nat) : Od × Nat := match rn s with
  | (m, s) => match m % 4 with
    | 0 => (.tmp (d - m / 4), s)
    | 1 => (.tmp (m / 4), s)
    | 2 => (.cst (.int .i64 (zz (m / 4))), s)
    | _ => match m / 4 with
      | 0 => match rD z s with
        | (x, s) => (.cst x, s)
      | 1 => match rn s with
        | (n, s) => (.emp n, s)
      | 2 => match rn s with
        | (n, s) => (.gl n, s)
      | n => (.cst (.fn (n - 3) []), s)
def rP (d s : Nat) : Part × Nat := match rn s with
  | (a, s) => match rO rn s with
    | (n, s) => match rX z d s with
      | (x, s) => (⟨a, n, x⟩, s)
def r1 (d : Nat) (f : Od → I) (s : Nat) : I × Nat := match rX z d s with
  | (x, s) => (f x, s)
def r2 (d : Nat) (f : Od → Od → I) (s : Nat) : I × Nat := match rX z d s with
  | (x, s) => r1 z d (f x) s
def rn1 (f : Nat → Nat → I × Nat) (s : Nat) : I × Nat := match rn s with
  | (n, s) => f n s
def rI (d : Nat) : Nat → Nat → I × Nat
  | 0, s => r1 z d (.ld none) s
  | 1, s => r1 z d .mov s
  | 2, s => rn1 (fun n => r2 z d (.bin (bN n))) s
  | 3, s => rn1 (fun n => r1 z d (.fad n)) s
  | 4, s => match rX z d s with
    | (f, s) => match rl (rX z d) s with
      | (xs, s) => (.call f xs, s)
  | 5, s => rn1 (fun n => r2 z d (.iad n)) s
  | 6, s => r1 z d .len s
  | 7, s => match rX z d s with
    | (c, s) => r2 z d (.pick c) s
  | 8, s => r1 z d .nchk s
  | 9, s => rn1 (fun n => r1 z d (.un (uN n))) s
  | 10, s => rn1 (fun n => r1 z d (.ext n)) s
  | 11, s => match rO rn s with
    | (n, s) => r2 z d (.st n) s
  | 12, s => match rO rn s with
    | (n, s) => r1 z d (.ld n) s
  | 13, s => rn1 (fun n => rn1 fun m => r2 z d (.app n m)) s
  | 14, s => match rn s with
    | (n, s) => match rl (rD z) s with
      | (zs, s) => match rn s with
        | (l, s) => match rl (rP z d) s with
          | (ps, s) => (.bsl n zs l ps, s)
  | 15, s => match rO rn s with
    | (n, s) => r1 z d (.box n) s
  | 16, s => match rl (rV z) s with
    | (zs, s) => match rl (rP z d) s with
      | (ps, s) => (.bld zs ps, s)
  | 17, s => match rl (rV z) s with
    | (zs, s) => (.alc zs, s)
  | 18, s => rn1 (fun o s => match rO rn s with
    | (n, s) => r1 z d (.fld o n) s) s
  | 19, s => rn1 (fun n => r1 z d (.cvi (kN n))) s
  | 20, s => rn1 (fun a s => match rX z d s with
    | (x, s) => match rO (rX z d) s with
      | (lo, s) => match rO (rX z d) s with
        | (hi, s) => match rO (rX z d) s with
          | (mx, s) => (.sli a x lo hi mx, s)) s
  | 21, s => match rX z d s with
      | (x, s) => match rO (rX z d) s with
        | (lo, s) => match rO (rX z d) s with
          | (hi, s) => (.ssl x lo hi, s)
  | 22, s => rn1 (fun n => r2 z d (.binb (bN n))) s
  | 23, s => rn1 (fun n => r2 z d (.bine (bN n))) s
  | 24, s => rn1 (fun n s => match rl (fun s => match rn s with | (k, s) => (eN k, s)) s with
    | (ks, s) => r2 z d (.bina (bN n) ks) s) s
  | 25, s => rn1 (fun n => rn1 fun m => r2 z d (.iada n m)) s
  | 26, s => rn1 (fun n => rn1 fun m s => match rO rn s with
    | (q, s) => r2 z d (.idx n m q) s) s
  | 27, s => r2 z d .sidx s
  | 28, s => r1 z d .cvs s
  | 29, s => rn1 (fun f s => match rl (rX z d) s with
    | (xs, s) => (.mkf f xs, s)) s
  | 30, s => r1 z d .lens s
  | 31, s => r1 z d .capv s
  | 32, s => rn1 (fun n s => (.lena n, s)) s
  | 33, s => rn1 (fun b s => match rl (rX z d) s with
    | (xs, s) => (.mm (rB b) xs, s)) s
  | 34, s => rn1 (fun b => r1 z d (.isnl (rB b))) s
  | 35, s => rn1 (fun n => rn1 fun m s => match rl (rD z) s with
    | (zs, s) => r2 z d (.msl n m zs) s) s
  | 36, s => rn1 (fun n => r2 z d (.cpy n)) s
  | 37, s => match rO rn s with
    | (n, s) => r1 z d (.lds n) s
  | 38, s => rn1 (fun n => r1 z d (.sla n)) s
  | _, s => (.bad, s)
def rIo (d o s : Nat) : I × Nat := match Nat.blt o 40 with
  | true => rI z d o s
  | false => match Nat.blt o 80 with
    | true => match rI z d (o - 40) s with
      | (i, s) => (.own i, s)
    | false => match rI z d (o - 80) s with
      | (i, s) => (.own (.own i), s)
def rVs : Nat → Nat → Option (Nat × Bool) → Nat → List Vop × Nat × Nat
  | 0, d, _, s => ([], d, s)
  | n + 1, d, g, s => match rn s with
    | (h, s) => match h / 4 with
      | 15 => match rn s with
        | (m, s) => rVs n d (match m with
          | 0 => none
          | m + 1 => some (m / 2, rB (m % 2))) s
      | o => match (match h % 4 with
        | 0 => (some (d + 1), d + 1, s)
        | 1 => (none, d, s)
        | 2 => match rn s with
          | (t, s) => (some t, d, s)
        | _ => match rn s with
          | (t, s) => (some t, t, s) : Option Nat × Nat × Nat) with
        | (t, e, s) => match rIo z d (match Nat.blt o 15 with | true => o | false => o - 1) s with
          | (i, s) => match rVs n e g s with
            | (l, e, s) => (⟨t, i, g⟩ :: l, e, s)
end
def rK : Nat → Nat → Nat → List Nat × Nat
  | 0, _, s => ([], s)
  | n + 1, k, s => match rn s with
    | (m, s) => match rK n (k + m + 1) s with
      | (l, s) => ((k + m) :: l, s)
def rk (s : Nat) : List Nat × Nat := match rn s with
  | (n, s) => rK n 0 s
def rR (s : Nat) : (Nat × Nat) × Nat := match rn s with
  | (m, s) => match m % 2 with
    | 0 => ((m / 2, m / 2), s)
    | _ => match rn s with
      | (o, s) => ((o, m / 2), s)
def rH (s : Nat) : Option Hint × Nat := match rn s with
  | (0, s) => (none, s)
  | (m, s) => match rk s with
    | (k, s) => match m with
      | 1 => (some ⟨[], k, [], [], [], [], [], []⟩, s)
      | _ => match rl rR s with
        | (r, s) => match m with
          | 2 => (some ⟨[], k, r, [], [], [], [], []⟩, s)
          | _ => match rl rn s with
            | (p, s) => match rl (rp rn (rp rn rn)) s with
              | (v, s) => match rl (rp rn (rp rn (rp rn rn))) s with
                | (c, s) => match rl rn s with
                  | (o, s) => match rl rn s with
                    | (a, s) => match rl rn s with
                      | (w, s) => (some ⟨p, k, r, v, c, o, a, w⟩, s)
section
variable (z : Nat → List UInt8) (u : Nat → Vc)
def pick0 (l : List Vop) (is : List Nat) : List Vop := is.map fun i => l.getD i ⟨none, .bad, none⟩
def rC : Nat → Nat → Nat → Vc × Nat × Nat
  | 0, d, s => (.skip, d, s)
  | k + 1, d, s => match rn s with
    | (0, s) => match rn s with
      | (n, s) => match rVs z n d none s with
        | (l, d, s) => match rH s with
          | (h, s) => (.region l [] h, d, s)
    | (1, s) => match rC k d s with
      | (a, d, s) => match rC k d s with
        | (b, d, s) => (.seq a b, d, s)
    | (2, s) => match rX z d s with
      | (x, s) => match rH s with
        | (p, s) => match rH s with
          | (q, s) => match rC k d s with
            | (a, d, s) => match rC k d s with
              | (b, d, s) => (.cond x p q a b, d, s)
    | (3, s) => (.ret, d, s)
    | (4, s) => (.skip, d, s)
    | (5, s) => match rn s with
      | (i, s) => (u i, d, s)
    | (6, s) => match rn s with
      | (i, s) => match rC k d s with
        | (a, d, s) => (.block i (.loop a), d, s)
    | (7, s) => match rn s with
      | (i, s) => (.exit i, d, s)
    | (8, s) => match rn s with
      | (i, s) => match rC k d s with
        | (a, d, s) => (.block i a, d, s)
    | (9, s) => match rC k d s with
      | (a, d, s) => (.loop a, d, s)
    | (10, s) => match rX z d s with
      | (x, s) => match rH s with
        | (p, s) => match rH s with
          | (q, s) => match rC k d s with
            | (a, d, s) => match rC k d s with
              | (b, d, s) => match rC k d s with
                | (c, d, s) => (.condJ x p q a b c, d, s)
    | (_, s) => match rn s with
      | (n, s) => match rVs z n d none s with
        | (l, d, s) => match rH s with
          | (h, s) => match rl (rl rn) s with
            | (ps, s) => (.region l (ps.map (pick0 l)) h, d, s)
def dv (N : Nat) : Vc := (rC z u 200 0 N).1
end
end Go.Proofs.Ytpbonfgmiffomaa.Wm
