/- Part of a machine that runs a Go function on plain values, with the proof that what it yields is what the function yields. -/
import Derived.Test.YtclhghlpokdiiaaDoorWmA
import Derived.Orders
import Derived.OrdersHeld
import Derived.LoopN
set_option linter.unusedSimpArgs false
set_option linter.unusedVariables false
namespace Go.Proofs.YtclhghlpokdiiaaDoor.Wm
open Go

mutual
/-- Nothing in it is lent. -/
def clean : D → Bool
  | .fn _ cap => cleanL cap
  | .sh k _ els => decide (k = .fresh) && cleanE els
  | .ow _ els => cleanE els
  | .ptr cs => cs.isEmpty
  | .op _ cs => cleanL cs
  | .agg cs => cleanL cs
  | .tup cs => cleanL cs
  | _ => true
def cleanL : List D → Bool
  | [] => true
  | d :: ds => clean d && cleanL ds
def cleanE : List (List D) → Bool
  | [] => true
  | e :: es => cleanL e && cleanE es
end
theorem cleanL_get : ∀ {cs : List D} {i : Nat} {d : D}, cleanL cs = true → cs[i]? = some d → clean d = true
  | c :: cs, 0, d, h, hd => by simp only [cleanL, Bool.and_eq_true] at h; simp at hd; subst hd; exact h.1
  | c :: cs, i + 1, d, h, hd => by simp only [cleanL, Bool.and_eq_true] at h; exact cleanL_get h.2 (by simpa using hd)
theorem cleanE_get : ∀ {es : List (List D)} {i : Nat} {e : List D}, cleanE es = true → es[i]? = some e → cleanL e = true
  | c :: cs, 0, d, h, hd => by simp only [cleanE, Bool.and_eq_true] at h; simp at hd; subst hd; exact h.1
  | c :: cs, i + 1, d, h, hd => by simp only [cleanE, Bool.and_eq_true] at h; exact cleanE_get h.2 (by simpa using hd)

theorem RepS.clean {w : World} {X X' : K → Nat → Prop} (hX : ∀ b, b < w.heap.size → X' .fresh b → X .fresh b) {d : D} {v : Value} (h : RepS w X d v) (hc : Wm.clean d = true) : RepS w X' d v := by
  induction h with
  | int k n => exact .int k n
  | bool b => exact .bool b
  | str s => exact .str s
  | err0 => exact .err0
  | err1 t v => exact .err1 t v
  | fn f cap vs hs h ih => simp only [Wm.clean] at hc; exact .fn f cap vs hs fun i d v h1 h2 => ih i d v h1 h2 (cleanL_get hc h1)
  | sh k sz els A c vf hcc hz hm h ih =>
    simp only [Wm.clean, Bool.and_eq_true, decide_eq_true_eq] at hc
    obtain ⟨rfl, hc⟩ := hc
    refine .sh _ sz els A c vf hcc hz (fun i j el d h1 h2 => ?_) fun i j el d h1 h2 => ih i j el d h1 h2 (cleanL_get (cleanE_get hc h1) h2)
    obtain ⟨a, b, e⟩ := hm i j el d h1 h2
    exact ⟨a, fun hx => b (hX _ (cell_lt' e) hx), e⟩
  | shn k sz => exact .shn k sz
  | emp sz a => exact .emp sz a
  | ptr cs A vf hm h ih =>
    simp only [Wm.clean, List.isEmpty_iff] at hc
    subst hc
    exact .ptr [] A vf (fun j d h1 => by simp at h1) fun j d h1 => by simp at h1
  | agg cs vs hs h ih => simp only [Wm.clean] at hc; exact .agg cs vs hs fun i d v h1 h2 => ih i d v h1 h2 (cleanL_get hc h1)
  | tup cs vs hs h ih => simp only [Wm.clean] at hc; exact .tup cs vs hs fun i d v h1 h2 => ih i d v h1 h2 (cleanL_get hc h1)
  | gone v => exact .gone v

theorem RepV.clean {w : World} {X X' : K → Nat → Prop} (hX : ∀ b, b < w.heap.size → X' .fresh b → X .fresh b) {d : D} {v : Value} {F : Nat → Prop} (h : RepV w X d v F) (hc : Wm.clean d = true) : RepV w X' d v F := by
  induction h with
  | plain d v F hF h => exact .plain d v F hF (h.clean hX hc)
  | ow sz els g k c F hF hcc ho hz h =>
    simp only [Wm.clean] at hc
    refine .ow sz els g k c F hF hcc ho hz fun i j el d h1 h2 => ?_
    obtain ⟨u, q1, q2⟩ := h i j el d h1 h2
    exact ⟨u, q1, q2.clean hX (cleanL_get (cleanE_get hc h1) h2)⟩
  | own sz a F hF => exact .own sz a F hF
  | op o cs g k φ F hF hd hg ho vf hm h ih => simp only [Wm.clean] at hc; exact .op o cs g k φ F hF hd hg ho vf hm fun j d h1 => ih j d h1 (cleanL_get hc h1)
  | agg cs vs φ F hF hd hs h ih => simp only [Wm.clean] at hc; exact .agg cs vs φ F hF hd hs fun i d v h1 h2 => ih i d v h1 h2 (cleanL_get hc h1)
  | tup cs vs φ F hF hd hs h ih => simp only [Wm.clean] at hc; exact .tup cs vs φ F hF hd hs fun i d v h1 h2 => ih i d v h1 h2 (cleanL_get hc h1)

mutual
/-- What is shared in it is lent. -/
def nf : D → Bool
  | .fn _ cap => nfL cap
  | .sh k _ els => decide (k = .lent) && nfE els
  | .ow _ els => nfE els
  | .ptr cs => nfL cs
  | .op _ cs => nfL cs
  | .agg cs => nfL cs
  | .tup cs => nfL cs
  | _ => true
def nfL : List D → Bool
  | [] => true
  | d :: ds => nf d && nfL ds
def nfE : List (List D) → Bool
  | [] => true
  | e :: es => nfL e && nfE es
end
theorem nfL_get : ∀ {cs : List D} {i : Nat} {d : D}, nfL cs = true → cs[i]? = some d → nf d = true
  | c :: cs, 0, d, h, hd => by simp only [nfL, Bool.and_eq_true] at h; simp at hd; subst hd; exact h.1
  | c :: cs, i + 1, d, h, hd => by simp only [nfL, Bool.and_eq_true] at h; exact nfL_get h.2 (by simpa using hd)
theorem nfE_get : ∀ {es : List (List D)} {i : Nat} {e : List D}, nfE es = true → es[i]? = some e → nfL e = true
  | c :: cs, 0, d, h, hd => by simp only [nfE, Bool.and_eq_true] at h; simp at hd; subst hd; exact h.1
  | c :: cs, i + 1, d, h, hd => by simp only [nfE, Bool.and_eq_true] at h; exact nfE_get h.2 (by simpa using hd)
theorem nfL_all : ∀ {cs : List D}, (∀ d ∈ cs, nf d = true) → nfL cs = true
  | [], _ => rfl
  | c :: cs, h => by simp only [nfL, Bool.and_eq_true]; exact ⟨h c (by simp), nfL_all fun d hd => h d (by simp [hd])⟩
mutual
theorem lentD_nf : ∀ d, nf (lentD d) = true
  | .fn _ cap => by simp only [lentD, nf]; exact lentL_nf cap
  | .sh _ _ els => by simp only [lentD, nf, Bool.and_eq_true, decide_eq_true_eq, true_and]; exact lentE_nf els
  | .ow _ els => by simp only [lentD, nf]; exact lentE_nf els
  | .ptr cs => by simp only [lentD, nf]; exact lentL_nf cs
  | .op _ cs => by simp only [lentD, nf]; exact lentL_nf cs
  | .agg cs => by simp only [lentD, nf]; exact lentL_nf cs
  | .tup cs => by simp only [lentD, nf]; exact lentL_nf cs
  | .int _ _ => rfl
  | .bool _ => rfl
  | .str _ => rfl
  | .err _ => rfl
  | .emp _ => rfl
  | .gone => rfl
theorem lentL_nf : ∀ cs, nfL (lentL cs) = true
  | [] => rfl
  | d :: ds => by simp only [lentL, nfL, Bool.and_eq_true]; exact ⟨lentD_nf d, lentL_nf ds⟩
theorem lentE_nf : ∀ es, nfE (lentE es) = true
  | [] => rfl
  | e :: es => by simp only [lentE, nfE, Bool.and_eq_true]; exact ⟨lentL_nf e, lentE_nf es⟩
end

theorem RepS.nf {w : World} {X X' : K → Nat → Prop} (hX : ∀ b, b < w.heap.size → X' .lent b → X .lent b) {d : D} {v : Value} (h : RepS w X d v) (hc : Wm.nf d = true) : RepS w X' d v := by
  induction h with
  | int k n => exact .int k n
  | bool b => exact .bool b
  | str s => exact .str s
  | err0 => exact .err0
  | err1 t v => exact .err1 t v
  | fn f cap vs hs h ih => simp only [Wm.nf] at hc; exact .fn f cap vs hs fun i d v h1 h2 => ih i d v h1 h2 (nfL_get hc h1)
  | sh k sz els A c vf hcc hz hm h ih =>
    simp only [Wm.nf, Bool.and_eq_true, decide_eq_true_eq] at hc
    obtain ⟨rfl, hc⟩ := hc
    refine .sh _ sz els A c vf hcc hz (fun i j el d h1 h2 => ?_) fun i j el d h1 h2 => ih i j el d h1 h2 (nfL_get (nfE_get hc h1) h2)
    obtain ⟨a, b, e⟩ := hm i j el d h1 h2
    exact ⟨a, fun hx => b (hX _ (cell_lt' e) hx), e⟩
  | shn k sz => exact .shn k sz
  | emp sz a => exact .emp sz a
  | ptr cs A vf hm h ih =>
    simp only [Wm.nf] at hc
    refine .ptr cs A vf (fun j d h1 => ?_) fun j d h1 => ih j d h1 (nfL_get hc h1)
    obtain ⟨a, b, e⟩ := hm j d h1
    exact ⟨a, fun hx => b (hX _ (cell_lt' e) hx), e⟩
  | agg cs vs hs h ih => simp only [Wm.nf] at hc; exact .agg cs vs hs fun i d v h1 h2 => ih i d v h1 h2 (nfL_get hc h1)
  | tup cs vs hs h ih => simp only [Wm.nf] at hc; exact .tup cs vs hs fun i d v h1 h2 => ih i d v h1 h2 (nfL_get hc h1)
  | gone v => exact .gone v

theorem RepV.nf {w : World} {X X' : K → Nat → Prop} (hX : ∀ b, b < w.heap.size → X' .lent b → X .lent b) {d : D} {v : Value} {F : Nat → Prop} (h : RepV w X d v F) (hc : Wm.nf d = true) : RepV w X' d v F := by
  induction h with
  | plain d v F hF h => exact .plain d v F hF (h.nf hX hc)
  | ow sz els g k c F hF hcc ho hz h =>
    simp only [Wm.nf] at hc
    refine .ow sz els g k c F hF hcc ho hz fun i j el d h1 h2 => ?_
    obtain ⟨u, q1, q2⟩ := h i j el d h1 h2
    exact ⟨u, q1, q2.nf hX (nfL_get (nfE_get hc h1) h2)⟩
  | own sz a F hF => exact .own sz a F hF
  | op o cs g k φ F hF hd hg ho vf hm h ih => simp only [Wm.nf] at hc; exact .op o cs g k φ F hF hd hg ho vf hm fun j d h1 => ih j d h1 (nfL_get hc h1)
  | agg cs vs φ F hF hd hs h ih => simp only [Wm.nf] at hc; exact .agg cs vs φ F hF hd hs fun i d v h1 h2 => ih i d v h1 h2 (nfL_get hc h1)
  | tup cs vs φ F hF hd hs h ih => simp only [Wm.nf] at hc; exact .tup cs vs φ F hF hd hs fun i d v h1 h2 => ih i d v h1 h2 (nfL_get hc h1)

/-! Lending -/
def lendC (H : Heap) : V → D
  | .val d => lentD d
  | .emp sz => .sh .lent sz []
  | .sl b o n => match look b H with
    | some (.row _ sz els) => .sh .lent sz (lentE ((els.drop o).take n))
    | _ => .gone
  | .fn f [] => .fn f []
  | _ => .gone
def lendP (H : Heap) : V → D
  | .pt b o => match look b H with
    | some (.var _ cs) => .ptr ((cs.map (lendC H)).drop o)
    | _ => .gone
  | .ep b i o => match look b H with
    | some (.row _ _ els) => match els[i]? with
      | some el => .ptr (lentL (el.drop o))
      | none => .gone
    | _ => .gone
  | x => lendC H x
def lendV (H : Heap) : V → D
  | .agg vs => .agg (vs.map (lendC H))
  | .fn f cap => .fn f (cap.map (lendP H))
  | x => lendP H x

/-- It may lead to a block of the frame's. -/
def usesB : V → Bool
  | .val _ => false
  | .emp _ => false
  | .dead => false
  | .agg vs => vs.any fun x => match x with
    | .val _ => false
    | .emp _ => false
    | _ => true
  | .fn _ cap => !cap.isEmpty
  | _ => true

theorem lendC_nf (H : Heap) : ∀ x, nf (lendC H x) = true := by
  intro x
  cases x with
  | val d => exact lentD_nf d
  | sl b o n =>
    simp only [lendC]
    split
    · simp only [nf, Bool.and_eq_true, decide_eq_true_eq, true_and]; exact lentE_nf _
    · rfl
  | fn f cap => cases cap <;> rfl
  | _ => rfl
theorem lendP_nf (H : Heap) : ∀ x, nf (lendP H x) = true := by
  intro x
  cases x with
  | pt b o =>
    simp only [lendP]
    split
    · simp only [nf]
      refine nfL_all fun d hd => ?_
      obtain ⟨y, _, rfl⟩ := List.mem_map.1 (List.mem_of_mem_drop hd)
      exact lendC_nf H y
    · rfl
  | ep b i o =>
    simp only [lendP]
    split
    · split
      · simp only [nf]; exact lentL_nf _
      · rfl
    · rfl
  | _ => simp only [lendP]; exact lendC_nf H _
theorem lendV_nf (H : Heap) : ∀ x, nf (lendV H x) = true := by
  intro x
  cases x with
  | agg vs =>
    simp only [lendV, nf]
    refine nfL_all fun d hd => ?_
    obtain ⟨y, _, rfl⟩ := List.mem_map.1 hd
    exact lendC_nf H y
  | fn f cap =>
    simp only [lendV, nf]
    refine nfL_all fun d hd => ?_
    obtain ⟨y, _, rfl⟩ := List.mem_map.1 hd
    exact lendP_nf H y
  | _ => simp only [lendV]; exact lendP_nf H _

section
variable {P : Program} {G : Nat → Option (List D)} {w0 : World} {L X0 X1 : Nat → Prop} {w w' w2 : World} {tm : Array Value} {fr : Fr} {ρ ρ' : Place} {X : K → Nat → Prop} {H : Heap}

theorem lendC_sound (h : FR G w0 L X0 w tm fr ρ) {X' : K → Nat → Prop} (hX : ∀ k b, b < w.heap.size → X' .lent b → XX w0 X0 fr.heap ρ k b) {x : V} {v : Value} (hU : usesB x = true → ∀ g, Held fr.heap ρ g → ¬ X' .lent g)
    (hx : RepE w (XX w0 X0 fr.heap ρ) fr.heap ρ x v) : RepS w X' (lendC fr.heap x) v := by
  cases x with
  | val d =>
    cases hx with
    | val d v hx => exact hx.lent hX
  | emp sz =>
    cases hx with
    | emp sz a =>
      cases a with
      | none => exact .shn _ _
      | some A => exact .sh .lent sz [] A 0 (fun _ _ => undef) (by simp) (by simp) (fun i j el d q => by simp at q) fun i j el d q => by simp at q
  | sl b o n =>
    simp only [lendC]
    split
    · rename_i old sz els hb
      obtain ⟨q1, A, c, rfl, q3, q4⟩ := sl_open hx hb
      obtain ⟨r1, r2, r3⟩ := h.blk b _ hb
      have hlen : (lentE ((els.drop o).take n)).length = n := by rw [lentE_len]; simp; omega
      rcases q4 with rfl | ⟨g, k, s1, rfl, s3⟩
      · have hn0 : n = 0 := by omega
        subst hn0
        have e0 : lentE ((els.drop o).take 0) = [] := List.eq_nil_of_length_eq_zero hlen
        rw [e0]
        cases A with
        | none => exact .shn _ _
        | some A => exact .sh _ sz [] A 0 (fun _ _ => undef) (by simp) (by simp) (fun i j el d q => by simp at q) fun i j el d q => by simp at q
      · obtain ⟨t1, t2⟩ := r3 g k s1
        have hg := hU rfl g ⟨b, _, k, hb, rfl, s1⟩
        have key : ∀ (i j : Nat) (el : List D) (d : D), (lentE ((els.drop o).take n))[i]? = some el → el[j]? = some d → ∃ u d0, w.cell? ⟨g, k + o * sz + i * sz + j, none⟩ = some u ∧ RepS w (XX w0 X0 fr.heap ρ) d0 u ∧ d = lentD d0 := fun i j el d h1 h2 => by
          obtain ⟨e0, g1, rfl⟩ := lentE_get h1
          obtain ⟨d0, g2, rfl⟩ := lentL_get h2
          rw [List.getElem?_take] at g1
          split at g1
          · rw [List.getElem?_drop] at g1
            obtain ⟨u, p1, p2⟩ := t2 (o + i) j e0 d0 g1 g2
            rw [Nat.add_mul, ← Nat.add_assoc k] at p1
            exact ⟨u, d0, p1, p2, rfl⟩
          · simp at g1
        have goal : RepS w X' (.sh .lent sz (lentE ((els.drop o).take n))) (.slice (some ⟨g, k + o * sz, none⟩) (lentE ((els.drop o).take n)).length c) := by
          refine .sh _ _ _ _ _ (fun i j => (w.cell? ⟨g, k + o * sz + i * sz + j, none⟩).getD undef) (by rw [hlen]; exact q3) (fun el hel => ?_) (fun i j el d h1 h2 => ?_) fun i j el d h1 h2 => ?_
          · rw [lentE_map] at hel
            obtain ⟨e0, he0, rfl⟩ := List.mem_map.1 hel
            rw [lentL_len]; exact r1 e0 (List.mem_of_mem_drop (List.mem_of_mem_take he0))
          · obtain ⟨u, d0, p1, p2, rfl⟩ := key i j el d h1 h2
            exact ⟨rfl, hg, by simp only [p1, Option.getD_some]⟩
          · obtain ⟨u, d0, p1, p2, rfl⟩ := key i j el d h1 h2
            rw [p1]; exact p2.lent hX
        rw [hlen] at goal
        exact goal
    · exact .gone _
  | fn f cap =>
    cases cap with
    | nil =>
      cases hx with
      | fn f vs us hs hh => exact .fn f [] us (by simpa using hs) (by simp)
    | cons a l => exact .gone _
  | _ => exact .gone _

theorem lendP_sound (h : FR G w0 L X0 w tm fr ρ) {X' : K → Nat → Prop} (hX : ∀ k b, b < w.heap.size → X' .lent b → XX w0 X0 fr.heap ρ k b) {x : V} {v : Value} (hU : usesB x = true → ∀ g, Held fr.heap ρ g → ¬ X' .lent g)
    (hx : RepE w (XX w0 X0 fr.heap ρ) fr.heap ρ x v) : RepS w X' (lendP fr.heap x) v := by
  cases x with
  | pt b o =>
    simp only [lendP]
    split
    · rename_i old cs hb
      obtain ⟨g, k, hp, rfl⟩ := pt_open hx hb
      obtain ⟨g', k', hp', hown, hcells⟩ := h.blk b _ hb
      rw [hp] at hp'; obtain ⟨rfl, rfl⟩ : g = g' ∧ k = k' := by simpa using hp'
      have hU' := hU rfl
      have hg := hU' g ⟨b, _, k, hb, rfl, hp⟩
      have key : ∀ (j : Nat) (d : D), ((cs.map (lendC fr.heap)).drop o)[j]? = some d → ∃ u, w.cell? ⟨g, k + o + j, none⟩ = some u ∧ RepS w X' d u := fun j d hj => by
        rw [List.getElem?_drop, List.getElem?_map, Option.map_eq_some_iff] at hj
        obtain ⟨x, hx, rfl⟩ := hj
        obtain ⟨u, q1, q2⟩ := hcells _ x hx
        exact ⟨u, by rw [Nat.add_assoc]; exact q1, lendC_sound h hX (fun _ => hU') q2⟩
      refine .ptr _ _ (fun j => (w.cell? ⟨g, k + o + j, none⟩).getD undef) (fun j d hj => ?_) fun j d hj => ?_
      · obtain ⟨u, q1, q2⟩ := key j d hj
        exact ⟨rfl, hg, by simp only [q1, Option.getD_some]⟩
      · obtain ⟨u, q1, q2⟩ := key j d hj
        rw [q1]; exact q2
    · exact .gone _
  | ep b i o =>
    simp only [lendP]
    split
    · rename_i old sz els hb
      split
      · rename_i el hel
        obtain ⟨g, k, hp, rfl⟩ := ep_open hx hb
        obtain ⟨r1, r2, r3⟩ := h.blk b _ hb
        obtain ⟨t1, t2⟩ := r3 g k hp
        have hg := hU rfl g ⟨b, _, k, hb, rfl, hp⟩
        have key : ∀ (j : Nat) (d : D), (lentL (el.drop o))[j]? = some d → ∃ u, w.cell? ⟨g, k + i * sz + o + j, none⟩ = some u ∧ RepS w X' d u := fun j d hj => by
          obtain ⟨d0, hj0, rfl⟩ := lentL_get hj
          rw [List.getElem?_drop] at hj0
          obtain ⟨u, q1, q2⟩ := t2 i _ el d0 hel hj0
          exact ⟨u, by rw [Nat.add_assoc]; exact q1, q2.lent hX⟩
        refine .ptr _ _ (fun j => (w.cell? ⟨g, k + i * sz + o + j, none⟩).getD undef) (fun j d hj => ?_) fun j d hj => ?_
        · obtain ⟨u, q1, q2⟩ := key j d hj
          exact ⟨rfl, hg, by simp only [q1, Option.getD_some]⟩
        · obtain ⟨u, q1, q2⟩ := key j d hj
          rw [q1]; exact q2
      · exact .gone _
    · exact .gone _
  | val d => exact lendC_sound h hX hU hx
  | emp sz => exact lendC_sound h hX hU hx
  | sl b o n => exact lendC_sound h hX hU hx
  | agg vs => exact lendC_sound h hX hU hx
  | tup vs => exact lendC_sound h hX hU hx
  | fn f cap => exact lendC_sound h hX hU hx
  | dead => exact lendC_sound h hX hU hx
  | anyb => exact lendC_sound h hX hU hx

theorem lendV_sound (h : FR G w0 L X0 w tm fr ρ) {X' : K → Nat → Prop} (hX : ∀ k b, b < w.heap.size → X' .lent b → XX w0 X0 fr.heap ρ k b) {x : V} {v : Value} (hU : usesB x = true → ∀ g, Held fr.heap ρ g → ¬ X' .lent g)
    (hx : RepE w (XX w0 X0 fr.heap ρ) fr.heap ρ x v) : RepS w X' (lendV fr.heap x) v := by
  cases x with
  | agg vs =>
    cases hx with
    | agg vs us hs hh =>
      refine .agg _ us (by simpa using hs) fun i d v h1 h2 => ?_
      rw [List.getElem?_map, Option.map_eq_some_iff] at h1
      obtain ⟨x, hx, rfl⟩ := h1
      refine lendC_sound h hX (fun hu => hU ?_) (hh i x v hx h2)
      simp only [usesB, List.any_eq_true]
      refine ⟨x, List.mem_of_getElem? hx, ?_⟩
      cases x <;> first | rfl | simp [usesB] at hu
      
  | fn f cap =>
    cases hx with
    | fn f vs us hs hh =>
      refine .fn f _ us (by simpa using hs) fun i d v h1 h2 => ?_
      rw [List.getElem?_map, Option.map_eq_some_iff] at h1
      obtain ⟨x, hx, rfl⟩ := h1
      refine lendP_sound h hX (fun hu => hU ?_) (hh i x v hx h2)
      cases cap with
      | nil => simp at hx
      | cons a l => rfl
  | val d => exact lendP_sound h hX hU hx
  | emp sz => exact lendP_sound h hX hU hx
  | sl b o n => exact lendP_sound h hX hU hx
  | pt b o => exact lendP_sound h hX hU hx
  | ep b i o => exact lendP_sound h hX hU hx
  | tup vs => exact lendP_sound h hX hU hx
  | dead => exact lendP_sound h hX hU hx
  | anyb => exact lendP_sound h hX hU hx
end
end Go.Proofs.YtclhghlpokdiiaaDoor.Wm
set_option linter.unusedSimpArgs false
set_option linter.unusedVariables false
namespace Go.Proofs.YtclhghlpokdiiaaDoor.Wm
open Go

def takeA (H : Heap) : V → Option (D × Heap × Bool)
  | .pt b o => match look b H with
    | some (.var old cs) => match takeL true (updB b .awayV H) cs with
      | (ds, H1, f) => some (.op o ds, H1, old || f)
    | _ => none
  | .sl b o n => match look b H with
    | some (.row old sz els) => if o = 0 ∧ n = els.length then some (.ow sz (lentE els), updB b (.awayR sz els.length) H, old) else none
    | _ => none
  | .emp sz => some (.ow sz [], H, false)
  | .val d => some (lentD d, H, false)
  | _ => none

/-- The arguments that are handed over. -/
def takes (H : Heap) : List Nat → List V → Option (List (Option D) × Heap × Bool)
  | m :: ms, x :: xs => if m = 1 then (match takeA H x with
      | some (d, H1, f1) => match takes H1 ms xs with
        | some (os, H2, f2) => some (some d :: os, H2, f1 || f2)
        | none => none
      | none => none) else (match takes H ms xs with
      | some (os, H2, f2) => some (none :: os, H2, f2)
      | none => none)
  | [], [] => some ([], H, false)
  | _, _ => none

def lendE (H : Heap) (m : Nat) (x : V) : Option D := if m = 2 then (match x with
  | .emp sz => some (.emp sz)
  | _ => none) else some (lendV H x)

/-- All of the arguments. -/
def lends (H : Heap) : List Nat → List V → List (Option D) → Option (List D)
  | m :: ms, x :: xs, o :: os => match lends H ms xs os with
    | some ds => match o with
      | some d => some (d :: ds)
      | none => match lendE H m x with
        | some d => some (d :: ds)
        | none => none
    | none => none
  | [], [], [] => some []
  | _, _, _ => none

def usesL : List Nat → List V → Bool
  | m :: ms, x :: xs => (!(m == 1) && usesB x) || usesL ms xs
  | _, _ => false

/-- What comes back. -/
def backs (fl : Bool) (id : Nat) (H : Heap) : List Nat → List V → List D → Option Heap
  | m :: ms, x :: xs, d :: ds => if m = 1 then (match x with
      | .pt b o => match d with
        | .op o' cs => if o' = o then (match instL fl id H cs with
          | some (vs, H1, _) => match look b H1 with
            | some .awayV => backs fl (id + 100) (updB b (.var fl vs) H1) ms xs ds
            | _ => none
          | none => none) else none
        | .gone => backs fl id H ms xs ds
        | _ => none
      | .sl b _ _ => match d with
        | .gone => backs fl id H ms xs ds
        | .ow sz els => match look b H with
          | some (.awayR sz' len) => if sz' = sz ∧ len = els.length then backs fl (id + 100) (updB b (.row fl sz els) H) ms xs ds else none
          | _ => none
        | _ => none
      | .emp _ => backs fl id H ms xs ds
      | .val _ => backs fl id H ms xs ds
      | _ => none) else backs fl id H ms xs ds
  | [], [], [] => some H
  | _, _, _ => none

def GlOk (G : Nat → Option (List D)) (w : World) (X : Nat → Prop) : Prop := ∀ g cs, G g = some cs → nfL cs = true ∧ RepS w (fun _ => X) (.ptr cs) (gAddr g)

/-- What the shared parts of a result keep off. -/
def XR (w : World) (X A R : Nat → Prop) : K → Nat → Prop := fun k b => (k = .fresh ∧ b < w.heap.size) ∨ (X b ∧ ¬ A b) ∨ R b

/-! Structs that are handed over, cell by cell: mode 100 + how many cells -/
def flatM : List Nat → List Nat
  | [] => []
  | m :: ms => if 100 ≤ m then List.replicate (m - 100) 1 ++ flatM ms else m :: flatM ms
inductive Flat : List Nat → List Value → List Value → Prop
  | nil : Flat [] [] []
  | one (m ms v vs fs) (h : m < 100) (t : Flat ms vs fs) : Flat (m :: ms) (v :: vs) (v :: fs)
  | agg (m ms) (us : Array Value) (vs fs) (h : 100 ≤ m) (hs : us.size = m - 100) (t : Flat ms vs fs) : Flat (m :: ms) (.agg us :: vs) (us.toList ++ fs)
def flatV : List Nat → List V → Option (List V)
  | m :: ms, x :: xs => if 100 ≤ m then (match x with
      | .agg vs => if vs.length = m - 100 then (flatV ms xs).map (vs ++ ·) else none
      | _ => none) else (flatV ms xs).map (x :: ·)
  | [], [] => some []
  | _, _ => none
theorem Flat.len {ms : List Nat} {vs fs : List Value} (h : Flat ms vs fs) : vs.length = ms.length ∧ fs.length = (flatM ms).length := by
  induction h with
  | nil => exact ⟨rfl, rfl⟩
  | one m ms v vs fs h t ih =>
    simp only [flatM]; rw [if_neg (by omega)]
    exact ⟨by simp [ih.1], by simp [ih.2]⟩
  | agg m ms us vs fs h hs t ih =>
    simp only [flatM]; rw [if_pos h]
    exact ⟨by simp [ih.1], by simp [ih.2, hs]⟩
theorem flatV_sound {w : World} {X : K → Nat → Prop} {H : Heap} {ρ : Place} : ∀ {ms : List Nat} {xs : List V} {us : List Value} {ys : List V}, us.length = xs.length →
    (∀ (i : Nat) (x : V) (u : Value), xs[i]? = some x → us[i]? = some u → RepE w X H ρ x u) → flatV ms xs = some ys →
    ∃ fs, Flat ms us fs ∧ fs.length = ys.length ∧ ∀ (i : Nat) (y : V) (u : Value), ys[i]? = some y → fs[i]? = some u → RepE w X H ρ y u
  | [], [], us, ys, hl, hx, he => by
    simp only [flatV] at he
    obtain rfl := Option.some.inj he
    obtain rfl := List.eq_nil_of_length_eq_zero (by simpa using hl)
    exact ⟨[], .nil, rfl, fun i y u q => by simp at q⟩
  | m :: ms, x :: xs, us, ys, hl, hx, he => by
    obtain ⟨u, us, rfl⟩ := List.exists_cons_of_ne_nil (l := us) (by rintro rfl; simp at hl)
    have tl : ∀ (i : Nat) (y : V) (v : Value), xs[i]? = some y → us[i]? = some v → RepE w X H ρ y v := fun i y v q1 q2 => hx (i + 1) y v (by simpa using q1) (by simpa using q2)
    simp only [flatV] at he
    split at he
    · rename_i hm
      split at he
      · rename_i vs
        split at he
        · rename_i hvl
          obtain ⟨zs, hz, rfl⟩ := Option.map_eq_some_iff.1 he
          obtain ⟨fs, a1, a2, a3⟩ := flatV_sound (us := us) (by simpa using hl) tl hz
          cases hx 0 _ u rfl rfl with
          | agg vs us0 hs hh =>
            refine ⟨us0.toList ++ fs, .agg m ms us0 us fs hm (by omega) a1, by simp [a2, hs], fun i y v q1 q2 => ?_⟩
            rcases Nat.lt_or_ge i vs.length with hi | hi
            · rw [List.getElem?_append_left hi] at q1
              rw [List.getElem?_append_left (by simpa [hs] using hi)] at q2
              exact hh i y v q1 (by simpa using q2)
            · rw [List.getElem?_append_right hi] at q1
              rw [List.getElem?_append_right (by simpa [hs] using hi)] at q2
              exact a3 _ y v q1 (by simpa [hs] using q2)
        · simp at he
      · simp at he
    · rename_i hm
      obtain ⟨zs, hz, rfl⟩ := Option.map_eq_some_iff.1 he
      obtain ⟨fs, a1, a2, a3⟩ := flatV_sound (us := us) (by simpa using hl) tl hz
      refine ⟨u :: fs, .one m ms u us fs (by omega) a1, by simp [a2], fun i y v q1 q2 => ?_⟩
      cases i with
      | zero => simp at q1 q2; subst q1; subst q2; exact hx 0 x u rfl rfl
      | succ i => exact a3 i y v (by simpa using q1) (by simpa using q2)
  | [], _ :: _, us, ys, hl, hx, he => by simp [flatV] at he
  | _ :: _, [], us, ys, hl, hx, he => by simp [flatV] at he

def SoundFn (P : Program) (G : Nat → Option (List D)) (own : List Nat) (f : FuncId) (F : List D → Option (D × List D)) : Prop :=
  ∀ (w : World) (X : Nat → Prop) (ds : List D) (vs fs : List Value) (φ : Nat → Nat → Prop) (d : D) (outs : List D),
    Flat own vs fs → RepVs w (fun _ => X) ds fs φ → (∀ b, AllF ds.length φ b → X b) → (∀ b, X b → b < w.heap.size) → GlOk G w X → nfL ds = true → F ds = some (d, outs) →
    Calls P f vs.toArray w fun e w' => ∃ v R χ, e = .returned v ∧ Chg w w' (AllF ds.length φ) ∧
      RepV w' (XR w X (AllF ds.length φ) (fun b => R b ∨ AllF outs.length χ b)) d v R ∧ RepVs w' (XR w X (AllF ds.length φ) (fun b => R b ∨ AllF outs.length χ b)) outs fs χ ∧
      (∀ b, R b → ¬ AllF outs.length χ b) ∧ (∀ b, R b ∨ AllF outs.length χ b → AllF ds.length φ b ∨ w.heap.size ≤ b) ∧
      (∀ (i sz : Nat) (els : List (List D)) (sz' : Nat) (els' : List (List D)), ds[i]? = some (.ow sz els) → outs[i]? = some (.ow sz' els') → ∀ b, φ i b → χ i b)

def evc (C : Cx) (ms : List Nat) (H : Heap) (dst : Nat) (f : FuncId) (xs : List V) : Option (V × Heap) :=
  match takes H ms xs with
  | some (os, H1, fl) => match lends H1 ms xs os with
    | some ds => match C.fn f ds with
      | some (res, outs) => if usesL ms xs = true → (clean res && cleanL outs) = true then (match backs fl (bid dst + 100) H1 ms xs outs with
        | some H2 => match inst fl (bid dst) H2 res with
          | some (y, H3, _) => some (y, H3)
          | none => none
        | none => none) else none
      | none => none
    | none => none
  | none => none

section
variable {P : Program} {G : Nat → Option (List D)} {w0 : World} {L X0 X1 : Nat → Prop} {w w' w2 : World} {tm : Array Value} {fr : Fr} {ρ ρ' : Place} {X : K → Nat → Prop} {H : Heap}

/-- A block that was away is there again. -/
theorem Puts.revive {F : Nat → Prop} (h : FR G w0 L (fun b => X0 b ∨ F b) w tm fr ρ) {b : Nat} {B B' : Blk} (hb : look b fr.heap = some B) (hl : B.live = false) (hs : B'.sh = B.sh) (hF : ∀ b, F b → ¬ X0 b ∧ ((B'.old = true ∧ L b) ∨ w0.heap.size ≤ b)) (hp : ∀ g k, ρ b = some (g, k) → F g)
    (hB : ∀ X' H' ρ', Stay w w (XX w0 (fun b => X0 b ∨ F b) fr.heap ρ) X' → HTr w w fr.heap H' ρ ρ' → RepB w X' H' ρ' (ρ b) B') :
    Puts G w0 L X0 w tm fr ρ F (updB b B' fr.heap) ρ := by
  have lk : ∀ b' C, look b' (updB b B' fr.heap) = some C → (b' = b ∧ C = B') ∨ (b' ≠ b ∧ look b' fr.heap = some C) := fun b' C h1 => by
    by_cases hbb : b' = b
    · subst hbb; rw [look_updB_self hb] at h1; exact .inl ⟨rfl, (Option.some.inj h1).symm⟩
    · rw [look_updB_ne hbb] at h1; exact .inr ⟨hbb, h1⟩
  have sub : ∀ k g, XX w0 X0 (updB b B' fr.heap) ρ k g → XX w0 (fun b => X0 b ∨ F b) fr.heap ρ k g := by
    rintro k g (hx | hx | ⟨b', C, k', h1, h2, h3⟩)
    · exact .inl (.inl hx)
    · exact .inr (.inl hx)
    · rcases lk b' C h1 with ⟨rfl, rfl⟩ | ⟨_, q⟩
      · exact .inl (.inr (hp g k' h3))
      · exact .inr (.inr ⟨b', C, k', q, h2, h3⟩)
  have st : Stay w w (XX w0 (fun b => X0 b ∨ F b) fr.heap ρ) (XX w0 X0 (updB b B' fr.heap) ρ) := ⟨fun _ _ _ _ => rfl, fun k g _ hx => sub k g hx⟩
  have t : HTr w w fr.heap (updB b B' fr.heap) ρ ρ := by
    refine ⟨fun _ _ h => h, fun b' C h1 => ?_⟩
    by_cases hbb : b' = b
    · subst hbb; rw [hb] at h1; obtain rfl := Option.some.inj h1; exact ⟨B', look_updB_self hb, .inr ⟨rfl, hs⟩⟩
    · exact ⟨C, by rw [look_updB_ne hbb]; exact h1, .inr ⟨rfl, rfl⟩⟩
  refine ⟨h.re h.chg (fun g hg => h.x0 g (.inl hg)) st t (fun b' C h1 h2 => ?_) (fun b1 b2 B1 B2 g k k' h1 h2 l1 l2 p1 p2 => ?_) (fun b' C g k h1 h2 h3 => ?_) (fun b' C g k h1 h2 h3 hx => ?_), st, t, fun s hs => ⟨?_, rfl⟩⟩
  · rcases lk b' C h1 with ⟨rfl, rfl⟩ | ⟨_, q⟩
    · exact .inr (hB _ _ _ st t)
    · exact .inl ⟨q, rfl, fun _ _ _ => rfl⟩
  · rcases lk b1 B1 h1 with ⟨e1, _⟩ | ⟨q1, q2⟩ <;> rcases lk b2 B2 h2 with ⟨e2, _⟩ | ⟨r1, r2⟩
    · rw [e1, e2]
    · subst e1; exact absurd (.inr (hp g k p1)) (h.out b2 B2 g k' r2 l2 p2)
    · subst e2; exact absurd (.inr (hp g k' p2)) (h.out b1 B1 g k q2 l1 p1)
    · exact h.sep b1 b2 B1 B2 g k k' q2 r2 l1 l2 p1 p2
  · rcases lk b' C h1 with ⟨rfl, rfl⟩ | ⟨_, q⟩
    · exact (hF g (hp g k h3)).2
    · exact h.new b' C g k q h2 h3
  · rcases lk b' C h1 with ⟨rfl, rfl⟩ | ⟨_, q⟩
    · exact (hF g (hp g k h3)).1 hx
    · exact h.out b' C g k q h2 h3 (.inl hx)
  · by_cases hbb : s = b
    · subst hbb; rw [look_updB_self hb]; simp
    · rw [look_updB_ne hbb]; exact hs

theorem takeA_sound (h : FR G w0 L X0 w tm fr ρ) {x : V} {v : Value} {d : D} {H' : Heap} {fl : Bool} (hx : RepE w (XX w0 X0 fr.heap ρ) fr.heap ρ x v) (he : takeA fr.heap x = some (d, H', fl)) :
    ∃ F, Took G w0 L X0 w tm fr ρ H' fl F ∧ RepV w (XX w0 X0 fr.heap ρ) d v F ∧ ∀ b o n g k, x = .sl b o n → ρ b = some (g, k) → F g ∧ OwnBlk w g k := by
  have hX : ∀ k b, b < w.heap.size → XX w0 X0 fr.heap ρ .lent b → XX w0 X0 fr.heap ρ k b := fun k b _ hx => XX_kind hx
  unfold takeA at he
  split at he
  · rename_i b o
    split at he
    · rename_i old cs hb
      obtain ⟨g, k, hp, rfl⟩ := pt_open hx hb
      obtain ⟨g', k', hp', hown, hcells⟩ := h.blk b _ hb
      rw [hp] at hp'; obtain ⟨rfl, rfl⟩ : g = g' ∧ k = k' := by simpa using hp'
      obtain ⟨a1, a2, a3⟩ := h.kill' (C := .awayV) hb rfl rfl (.inr rfl)
      have took : Took G w0 L X0 w tm fr ρ (updB b .awayV fr.heap) old (fun g => ∃ k, ρ b = some (g, k)) := ⟨a1, a2, a3, fun g ⟨k, hk⟩ => ⟨h.out b _ g k hb rfl hk, h.new b _ g k hb rfl hk⟩⟩
      cases ht : takeL true (updB b .awayV fr.heap) cs with
      | mk ds p =>
        obtain ⟨H1, f1⟩ := p
        simp only [ht] at he
        obtain ⟨rfl, rfl, rfl⟩ := by simpa using he
        have st : Stay w w (XX w0 X0 fr.heap ρ) (XX w0 (fun g => X0 g ∨ ∃ k, ρ b = some (g, k)) (updB b .awayV fr.heap) ρ) := by rw [a2]; exact Stay.refl _ _
        obtain ⟨φ, b1, b2, b3⟩ := takeL_sound true (us := (List.range cs.length).map fun j => (w.cell? ⟨g, k + j, none⟩).getD undef) a1 (by simp) (fun i y v hy hv => by
          obtain ⟨hi, rfl⟩ := range_map_get hv
          obtain ⟨u, q1, q2⟩ := hcells i y hy
          rw [q1]; exact q2.tr st a3) ht
        obtain ⟨c1, c2⟩ := took.trans b1
        rw [a2] at b2
        refine ⟨_, c1, .op o ds g k φ _ (fun x => ?_) b2.2.1 (fun hh => c2 g ⟨k, hp⟩ hh) (by rw [b3]; exact hown) (fun j => (w.cell? ⟨g, k + j, none⟩).getD undef) (fun j d hj => ?_) fun j d hj => b2.2.2 j d _ hj ?_, fun b o n g k e => by simp at e⟩
        · constructor
          · rintro (⟨k', hk⟩ | hh)
            · rw [hp] at hk; simp at hk; exact .inl hk.1.symm
            · exact .inr hh
          · rintro (rfl | hh)
            · exact .inl ⟨k, hp⟩
            · exact .inr hh
        · have hlt : j < cs.length := by rw [← b3]; exact (List.getElem?_eq_some_iff.1 hj).1
          obtain ⟨u, q1, q2⟩ := hcells j cs[j] (List.getElem?_eq_getElem hlt)
          rw [q1]; rfl
        · have hlt : j < cs.length := by rw [← b3]; exact (List.getElem?_eq_some_iff.1 hj).1
          simp [hlt]
    · simp at he
  · rename_i b o n
    split at he
    · rename_i old sz els hb
      split at he
      · rename_i hc
        obtain ⟨rfl, rfl⟩ := hc
        obtain ⟨rfl, rfl, rfl⟩ := by simpa using he
        obtain ⟨a1, a2, a3⟩ := h.kill' (C := .awayR sz els.length) hb rfl rfl (.inr rfl)
        obtain ⟨r1, r2, r3⟩ := h.blk b _ hb
        obtain ⟨q1, A, c, rfl, q3, q4⟩ := sl_open hx hb
        refine ⟨fun g => ∃ k, ρ b = some (g, k), ⟨a1, a2, a3, fun g ⟨k, hk⟩ => ⟨h.out b _ g k hb rfl hk, h.new b _ g k hb rfl hk⟩⟩, ?_, fun b' o' n' g k e hg => ?_⟩
        · rcases q4 with rfl | ⟨g, k, s1, rfl, s3⟩
          · have hn0 : els = [] := List.eq_nil_of_length_eq_zero (by omega)
            subst hn0
            exact .own _ _ _ fun g ⟨k, hk⟩ => h.held_lt ⟨b, _, k, hb, rfl, hk⟩
          · obtain ⟨t1, t2⟩ := r3 g k s1
            have goal : RepV w (XX w0 X0 fr.heap ρ) (.ow sz (lentE els)) (.slice (some ⟨g, k, none⟩) (lentE els).length c) (fun g => ∃ k, ρ b = some (g, k)) := by
              refine .ow sz _ g _ c _ (fun x => ⟨fun ⟨k', hk⟩ => ?_, fun hx => ⟨k, by rw [hx]; exact s1⟩⟩) (by rw [lentE_len]; exact q3) (by simpa using s3) (fun el hel => ?_) (lentC_sound (sz := sz) (p := fun i j u => w.cell? ⟨g, k + i * sz + j, none⟩ = some u) hX true t2)
              · rw [s1] at hk; simp at hk; exact hk.1.symm
              · rw [lentE_map] at hel
                obtain ⟨e0, h0, rfl⟩ := List.mem_map.1 hel
                rw [lentL_len]; exact r1 e0 h0
            rw [lentE_len] at goal
            simpa using goal
        · obtain ⟨rfl, _, _⟩ : b = b' ∧ _ ∧ _ := by simpa using e
          exact ⟨⟨k, hg⟩, (r3 g k hg).1.le (by omega)⟩
      · simp at he
    · simp at he
  · obtain ⟨rfl, rfl, rfl⟩ := by simpa using he
    cases hx with
    | emp sz a => exact ⟨E, Took.none h fun b hb => hb, .own _ _ _ fun b hb => hb.elim, fun b o n g k e => by simp at e⟩
  · obtain ⟨rfl, rfl, rfl⟩ := by simpa using he
    cases hx with
    | val d v hx => exact ⟨E, Took.none h fun b hb => hb, .plain _ _ _ (fun b hb => hb) (by have := eD_sound (er := true) hX hx; simpa [eD] using this), fun b o n g k e => by simp at e⟩
  · simp at he

theorem takes_sound : ∀ {ms : List Nat} {xs : List V} {us : List Value} {X0 : Nat → Prop} {fr : Fr} {os : List (Option D)} {H' : Heap} {fl : Bool}, FR G w0 L X0 w tm fr ρ → us.length = xs.length →
    (∀ (i : Nat) (x : V) (u : Value), xs[i]? = some x → us[i]? = some u → RepE w (XX w0 X0 fr.heap ρ) fr.heap ρ x u) → takes fr.heap ms xs = some (os, H', fl) →
    ∃ ψ, Took G w0 L X0 w tm fr ρ H' fl (AllF os.length ψ) ∧ os.length = xs.length ∧ Disj os.length ψ ∧ (∀ (i : Nat) (d : D) (u : Value), os[i]? = some (some d) → us[i]? = some u → RepV w (XX w0 X0 fr.heap ρ) d u (ψ i)) ∧
      (∀ (i : Nat), os[i]? = some none → ∀ b, ¬ ψ i b) ∧ (∀ (i : Nat) (b o n g k : Nat), xs[i]? = some (.sl b o n) → ms[i]? = some 1 → ρ b = some (g, k) → ψ i g ∧ OwnBlk w g k) ∧ (∀ (i : Nat), ms[i]? = some 1 → ∃ d : D, os[i]? = some (some d))
  | [], [], us, X0, fr, os, H', fl, h, hl, hx, he => by
    simp only [takes] at he
    obtain ⟨rfl, rfl, rfl⟩ := by simpa using he
    exact ⟨fun _ => E, Took.none h fun b ⟨_, hi, _⟩ => by simp at hi, rfl, fun i j b hi => by simp at hi, fun i d u hd => by simp at hd, fun i hd => by simp at hd, fun i b o n g k hd => by simp at hd, fun i hd => by simp at hd⟩
  | m :: ms, x :: xs, us, X0, fr, os, H', fl, h, hl, hx, he => by
    obtain ⟨u, us, rfl⟩ := List.exists_cons_of_ne_nil (l := us) (by rintro rfl; simp at hl)
    simp only [takes] at he
    split at he
    · rename_i hm
      split at he
      · rename_i d H1 f1 h1
        split at he
        · rename_i os' H2 f2 h2
          obtain ⟨rfl, rfl, rfl⟩ := by simpa using he
          obtain ⟨F, a1, a2, a3⟩ := takeA_sound h (hx 0 x u rfl rfl) h1
          have st : Stay w w (XX w0 X0 fr.heap ρ) (XX w0 (fun g => X0 g ∨ F g) H1 ρ) := by rw [a1.2.1]; exact Stay.refl _ _
          obtain ⟨ψ, b1, b2, b3, b4, b5, b6, b7⟩ := takes_sound (us := us) a1.1 (by simpa using hl) (fun i y v hy hv => (hx (i + 1) y v (by simpa using hy) (by simpa using hv)).tr st a1.2.2.1) h2
          obtain ⟨c1, c2⟩ := a1.trans b1
          simp only [a1.2.1] at b4
          have e : (fun b => F b ∨ AllF os'.length ψ b) = AllF (some d :: os').length (consF F ψ) := by funext b; exact propext (allF_cons (n := os'.length)).symm
          rw [e] at c1
          refine ⟨consF F ψ, c1, by simp [b2], disj_cons b3 c2, fun i d' u' h1 h2 => ?_, fun i h1 => ?_, fun i b o n g k h1 h2 h3 => ?_, fun i h1 => ?_⟩
          · cases i with
            | zero => simp at h1 h2; subst h1; subst h2; exact a2
            | succ i => exact b4 i d' u' (by simpa using h1) (by simpa using h2)
          · cases i with
            | zero => simp at h1
            | succ i => exact b5 i (by simpa using h1)
          · cases i with
            | zero => simp at h1; exact a3 b o n g k h1 h3
            | succ i => exact b6 i b o n g k (by simpa using h1) (by simpa using h2) h3
          · cases i with
            | zero => exact ⟨d, rfl⟩
            | succ i => exact b7 i (by simpa using h1)
        · simp at he
      · simp at he
    · rename_i hm
      split at he
      · rename_i os' H2 f2 h2
        obtain ⟨rfl, rfl, rfl⟩ := by simpa using he
        obtain ⟨ψ, b1, b2, b3, b4, b5, b6, b7⟩ := takes_sound (us := us) h (by simpa using hl) (fun i y v hy hv => hx (i + 1) y v (by simpa using hy) (by simpa using hv)) h2
        have e : AllF os'.length ψ = AllF ((none : Option D) :: os').length (consF E ψ) := by
          funext b
          refine propext ((allF_cons (F := E) (n := os'.length)).trans ?_).symm
          exact ⟨fun h => h.resolve_left (fun h => h), .inr⟩
        rw [e] at b1
        refine ⟨consF E ψ, b1, by simp [b2], disj_cons b3 (fun b hb => hb.elim), fun i d' u' h1 h2 => ?_, fun i h1 => ?_, fun i b o n g k h1 h2 h3 => ?_, fun i h1 => ?_⟩
        · cases i with
          | zero => simp at h1
          | succ i => exact b4 i d' u' (by simpa using h1) (by simpa using h2)
        · cases i with
          | zero => exact fun b hb => hb
          | succ i => exact b5 i (by simpa using h1)
        · cases i with
          | zero => simp at h2; exact absurd h2 hm
          | succ i => exact b6 i b o n g k (by simpa using h1) (by simpa using h2) h3
        · cases i with
          | zero => simp at h1; exact absurd h1 hm
          | succ i => exact b7 i (by simpa using h1)
      · simp at he
  | [], _ :: _, us, X0, fr, os, H', fl, h, hl, hx, he => by simp [takes] at he
  | _ :: _, [], us, X0, fr, os, H', fl, h, hl, hx, he => by simp [takes] at he
end
end Go.Proofs.YtclhghlpokdiiaaDoor.Wm
set_option linter.unusedSimpArgs false
set_option linter.unusedVariables false
namespace Go.Proofs.YtclhghlpokdiiaaDoor.Wm
open Go
section
variable {P : Program} {G : Nat → Option (List D)} {w0 : World} {L X0 X1 : Nat → Prop} {w w' w2 : World} {tm : Array Value} {fr : Fr} {ρ ρ' : Place} {X : K → Nat → Prop} {H : Heap}

theorem lends_sound (h : FR G w0 L X0 w tm fr ρ) {Xc : Nat → Prop} (hX : ∀ k b, b < w.heap.size → Xc b → XX w0 X0 fr.heap ρ k b) :
    ∀ {ms : List Nat} {xs : List V} {us : List Value} {os : List (Option D)} {ds : List D} {ψ : Nat → Nat → Prop}, us.length = xs.length →
    (∀ (i : Nat) (x : V) (u : Value), xs[i]? = some x → us[i]? = some u → RepE w (XX w0 X0 fr.heap ρ) fr.heap ρ x u) → Disj os.length ψ →
    (∀ (i : Nat) (d : D) (u : Value), os[i]? = some (some d) → us[i]? = some u → RepV w (XX w0 X0 fr.heap ρ) d u (ψ i)) → (∀ (i : Nat), os[i]? = some none → ∀ b, ¬ ψ i b) →
    (∀ (i : Nat), ms[i]? = some 1 → ∃ d : D, os[i]? = some (some d)) → (usesL ms xs = true → ∀ g, Held fr.heap ρ g → ¬ Xc g) → lends fr.heap ms xs os = some ds →
    RepVs w (fun _ => Xc) ds us ψ ∧ ds.length = os.length ∧ ∀ (i : Nat) (d : D), os[i]? = some (some d) → ds[i]? = some d
  | [], [], us, [], ds, ψ, hl, hx, hd, ho, hn, hm, hU, he => by
    simp only [lends] at he
    obtain rfl := Option.some.inj he
    obtain rfl := List.eq_nil_of_length_eq_zero (by simpa using hl)
    exact ⟨repVs_nil, rfl, fun i d h => by simp at h⟩
  | m :: ms, x :: xs, us, o :: os, ds, ψ, hl, hx, hd, ho, hn, hm, hU, he => by
    obtain ⟨u, us, rfl⟩ := List.exists_cons_of_ne_nil (l := us) (by rintro rfl; simp at hl)
    simp only [lends] at he
    split at he
    · rename_i ds' h1
      have zst : Stay w w (XX w0 X0 fr.heap ρ) (fun _ => Xc) := ⟨fun _ _ _ _ => rfl, hX⟩
      have hU' : usesL ms xs = true → ∀ g, Held fr.heap ρ g → ¬ Xc g := fun q => hU (by simp [usesL, q])
      obtain ⟨a1, a2, a3⟩ := lends_sound h hX (us := us) (ψ := fun i => ψ (i + 1)) (by simpa using hl) (fun i y v hy hv => hx (i + 1) y v (by simpa using hy) (by simpa using hv))
        (fun i j b hi hj q1 q2 => by have := hd (i + 1) (j + 1) b (by simpa using hi) (by simpa using hj) q1 q2; omega)
        (fun i d v q1 q2 => ho (i + 1) d v (by simpa using q1) (by simpa using q2)) (fun i q1 => hn (i + 1) (by simpa using q1)) (fun i q1 => by simpa using hm (i + 1) (by simpa using q1)) hU' h1
      have fin : ∀ d, RepV w (fun _ => Xc) d u (ψ 0) → RepVs w (fun _ => Xc) (d :: ds') (u :: us) ψ := fun d hd0 => by
        have := RepVs.cons hd0 a1 (fun b hb ⟨i, hi, hb'⟩ => by
          have := hd 0 (i + 1) b (by simp) (by simpa [a2] using hi) hb hb'
          omega)
        refine ⟨this.1, fun i j b hi hj q1 q2 => hd i j b (by simpa [a2] using hi) (by simpa [a2] using hj) q1 q2, fun i d' v' q1 q2 => ?_⟩
        cases i with
        | zero => exact this.2.2 0 d' v' q1 q2
        | succ i => exact this.2.2 (i + 1) d' v' q1 q2
      split at he
      · rename_i d
        obtain rfl := Option.some.inj he
        refine ⟨fin d ((ho 0 d u rfl rfl).stay zst fun _ _ => rfl), by simp [a2], fun i d' q => ?_⟩
        cases i with
        | zero => simpa using q
        | succ i => exact a3 i d' (by simpa using q)
      · split at he
        · rename_i d hle
          obtain rfl := Option.some.inj he
          have hm1 : m ≠ 1 := fun e => by
            obtain ⟨d, hd⟩ := hm 0 (by simp [e])
            simp at hd
          refine ⟨fin d (.plain d u _ (hn 0 rfl) ?_), by simp [a2], fun i d' q => ?_⟩
          · unfold lendE at hle
            split at hle
            · split at hle
              · obtain rfl := Option.some.inj hle
                have := hx 0 _ u rfl rfl
                cases this with
                | emp _ a => exact .emp _ a
              · simp at hle
            · obtain rfl := Option.some.inj hle
              exact lendV_sound h (fun k b hb q => hX k b hb q) (fun hu => hU (by simp [usesL, hm1, hu])) (hx 0 x u rfl rfl)
          · cases i with
            | zero => simp at q
            | succ i => exact a3 i d' (by simpa using q)
        · simp at he
    · simp at he
  | [], _ :: _, us, os, ds, ψ, hl, hx, hd, ho, hn, hm, hU, he => by simp [lends] at he
  | _ :: _, [], us, os, ds, ψ, hl, hx, hd, ho, hn, hm, hU, he => by simp [lends] at he
  | _ :: _, _ :: _, us, [], ds, ψ, hl, hx, hd, ho, hn, hm, hU, he => by simp [lends] at he
  | [], [], us, _ :: _, ds, ψ, hl, hx, hd, ho, hn, hm, hU, he => by simp [lends] at he

theorem takeC_nf {H H' : Heap} {x : V} {d : D} {fl : Bool} (h : takeC true H x = (d, H', fl)) : nf d = true := by
  unfold takeC at h
  split at h
  · obtain ⟨rfl, _⟩ := by simpa using h
    exact lentD_nf _
  · obtain ⟨rfl, _⟩ := by simpa using h
    rfl
  · split at h
    · obtain ⟨rfl, _⟩ := by simpa using h
      simp only [nf]; exact lentE_nf _
    · obtain ⟨rfl, _⟩ := by simpa using h
      rfl
  · obtain ⟨rfl, _⟩ := by simpa using h
    rfl
  · obtain ⟨rfl, _⟩ := by simpa using h
    rfl
theorem takeL_nf : ∀ {xs : List V} {H H' : Heap} {ds : List D} {fl : Bool}, takeL true H xs = (ds, H', fl) → nfL ds = true
  | [], H, H', ds, fl, h => by
    simp only [takeL] at h
    obtain ⟨rfl, _⟩ := by simpa using h
    rfl
  | x :: xs, H, H', ds, fl, h => by
    simp only [takeL] at h
    cases h1 : takeC true H x with
    | mk d p =>
      obtain ⟨H1, f1⟩ := p
      simp only [h1] at h
      cases h2 : takeL true H1 xs with
      | mk ds' p2 =>
        obtain ⟨H2, f2⟩ := p2
        simp only [h2] at h
        obtain ⟨rfl, _⟩ := by simpa using h
        simp only [nfL, Bool.and_eq_true]
        exact ⟨takeC_nf h1, takeL_nf h2⟩
theorem takeA_nf {H H' : Heap} {x : V} {d : D} {fl : Bool} (h : takeA H x = some (d, H', fl)) : nf d = true := by
  unfold takeA at h
  split at h
  · rename_i b o
    split at h
    · rename_i old cs _
      cases h1 : takeL true (updB b .awayV H) cs with
      | mk ds p =>
        obtain ⟨H1, f1⟩ := p
        simp only [h1] at h
        obtain ⟨rfl, _⟩ := by simpa using h
        simp only [nf]; exact takeL_nf h1
    · simp at h
  · split at h
    · split at h
      · obtain ⟨rfl, _⟩ := by simpa using h
        simp only [nf]; exact lentE_nf _
      · simp at h
    · simp at h
  · obtain ⟨rfl, _⟩ := by simpa using h
    rfl
  · obtain ⟨rfl, _⟩ := by simpa using h
    exact lentD_nf _
  · simp at h
theorem takes_nf : ∀ {ms : List Nat} {xs : List V} {H H' : Heap} {os : List (Option D)} {fl : Bool}, takes H ms xs = some (os, H', fl) → ∀ d, some d ∈ os → nf d = true
  | [], [], H, H', os, fl, he, d, hd => by simp [takes] at he; obtain ⟨rfl, _, _⟩ := he; simp at hd
  | m :: ms, x :: xs, H, H', os, fl, he, d, hd => by
    simp only [takes] at he
    split at he
    · split at he
      · rename_i h1
        split at he
        · rename_i h2
          obtain ⟨rfl, rfl, rfl⟩ := by simpa using he
          rcases List.mem_cons.1 hd with e | hd
          · obtain rfl := Option.some.inj e
            exact takeA_nf h1
          · exact takes_nf h2 d hd
        · simp at he
      · simp at he
    · split at he
      · rename_i h2
        obtain ⟨rfl, rfl, rfl⟩ := by simpa using he
        rcases List.mem_cons.1 hd with e | hd
        · simp at e
        · exact takes_nf h2 d hd
      · simp at he
  | [], _ :: _, H, H', os, fl, he, d, hd => by simp [takes] at he
  | _ :: _, [], H, H', os, fl, he, d, hd => by simp [takes] at he
theorem lends_nf : ∀ {ms : List Nat} {xs : List V} {os : List (Option D)} {ds : List D}, lends H ms xs os = some ds → (∀ d, some d ∈ os → nf d = true) → nfL ds = true
  | [], [], [], ds, he, hn => by simp only [lends] at he; obtain rfl := Option.some.inj he; rfl
  | m :: ms, x :: xs, o :: os, ds, he, hn => by
    simp only [lends] at he
    split at he
    · rename_i ds' h1
      have ih := lends_nf h1 fun d hd => hn d (List.mem_cons_of_mem _ hd)
      split at he
      · rename_i d
        obtain rfl := Option.some.inj he
        simp only [nfL, Bool.and_eq_true]
        exact ⟨hn d (by simp), ih⟩
      · split at he
        · rename_i d hle
          obtain rfl := Option.some.inj he
          simp only [nfL, Bool.and_eq_true]
          refine ⟨?_, ih⟩
          unfold lendE at hle
          split at hle
          · split at hle
            · obtain rfl := Option.some.inj hle; rfl
            · simp at hle
          · obtain rfl := Option.some.inj hle
            exact lendV_nf _ _
        · simp at he
    · simp at he
  | [], _ :: _, os, ds, he, hn => by simp [lends] at he
  | _ :: _, [], os, ds, he, hn => by simp [lends] at he
  | _ :: _, _ :: _, [], ds, he, hn => by simp [lends] at he
  | [], [], _ :: _, ds, he, hn => by simp [lends] at he

theorem backs_sound {fl : Bool} {Z : K → Nat → Prop} : ∀ {ms : List Nat} {xs : List V} {us : List Value} {ds : List D} {χ : Nat → Nat → Prop} {fr : Fr} {ρ : Place} {id : Nat} {H' : Heap},
    FR G w0 L (fun b => X0 b ∨ AllF ds.length χ b) w tm fr ρ → (∀ b, AllF ds.length χ b → ¬ X0 b ∧ ((fl = true ∧ L b) ∨ w0.heap.size ≤ b)) → RepVs w Z ds us χ →
    (∀ k b, b < w.heap.size → XX w0 (fun b => X0 b ∨ AllF ds.length χ b) fr.heap ρ k b → Z k b) →
    (∀ (i : Nat) (x : V) (u : Value), xs[i]? = some x → us[i]? = some u → ∃ X, RepE w X fr.heap ρ x u) →
    (∀ (i : Nat) (b o n g k sz : Nat) (els : List (List D)), xs[i]? = some (.sl b o n) → ms[i]? = some 1 → ds[i]? = some (.ow sz els) → ρ b = some (g, k) → χ i g ∧ OwnBlk w g k) →
    backs fl id fr.heap ms xs ds = some H' → ∃ ρ', Puts G w0 L X0 w tm fr ρ (AllF ds.length χ) H' ρ'
  | [], [], us, [], χ, fr, ρ, id, H', h, hF, hr, hZ, hx, hsl, he => by
    simp only [backs] at he
    obtain rfl := Option.some.inj he
    exact ⟨ρ, Puts.nil h⟩
  | m :: ms, x :: xs, us, d :: ds, χ, fr, ρ, id, H', h, hF, hr, hZ, hx, hsl, he => by
    obtain ⟨u, us, rfl⟩ := List.exists_cons_of_ne_nil (l := us) (by rintro rfl; have := hr.1; simp at this)
    obtain ⟨t1, t2, t3, t4⟩ := hr.tail
    have hlen : (d :: ds).length = ds.length + 1 := rfl
    have e1 : AllF (d :: ds).length χ = fun b => χ 0 b ∨ AllF ds.length (fun i => χ (i + 1)) b := by funext b; exact propext (t4 b)
    have h1 : FR G w0 L (fun b => (X0 b ∨ AllF ds.length (fun i => χ (i + 1)) b) ∨ χ 0 b) w tm fr ρ := by
      have : (fun b => X0 b ∨ AllF (d :: ds).length χ b) = fun b => (X0 b ∨ AllF ds.length (fun i => χ (i + 1)) b) ∨ χ 0 b := by
        rw [e1]; funext b; simp only [or_assoc, or_comm, or_left_comm]
      rw [← this]; exact h
    have hF0 : ∀ b, χ 0 b → ¬ (X0 b ∨ AllF ds.length (fun i => χ (i + 1)) b) ∧ ((fl = true ∧ L b) ∨ w0.heap.size ≤ b) := fun b hb => by
      obtain ⟨q1, q2⟩ := hF b ((t4 b).2 (.inl hb))
      exact ⟨fun q => q.elim q1 (t3 b hb), q2⟩
    have hFt : ∀ b, AllF ds.length (fun i => χ (i + 1)) b → ¬ X0 b ∧ ((fl = true ∧ L b) ∨ w0.heap.size ≤ b) := fun b hb => hF b ((t4 b).2 (.inr hb))
    have hZ1 : ∀ k b, b < w.heap.size → XX w0 (fun b => (X0 b ∨ AllF ds.length (fun i => χ (i + 1)) b) ∨ χ 0 b) fr.heap ρ k b → Z k b := fun k b hb q => by
      refine hZ k b hb ?_
      rcases q with (q | q) | q
      · rcases q with q | q
        · exact .inl (.inl q)
        · exact .inl (.inr ((t4 b).2 (.inr q)))
      · exact .inl (.inr ((t4 b).2 (.inl q)))
      · exact .inr q
    have go : ∀ {H1 : Heap} {id : Nat}, (∃ ρ1, Puts G w0 L (fun b => X0 b ∨ AllF ds.length (fun i => χ (i + 1)) b) w tm fr ρ (χ 0) H1 ρ1) → backs fl id H1 ms xs ds = some H' → ∃ ρ', Puts G w0 L X0 w tm fr ρ (AllF (d :: ds).length χ) H' ρ' := by
      intro H1 id hp hb
      obtain ⟨ρ1, p1, p2, p3, p4⟩ := hp
      have hsl' : ∀ (i : Nat) (b o n g k sz : Nat) (els : List (List D)), xs[i]? = some (.sl b o n) → ms[i]? = some 1 → ds[i]? = some (.ow sz els) → ρ1 b = some (g, k) → χ (i + 1) g ∧ OwnBlk w g k := fun i b o n g k sz els q1 q2 q4 q3 => by
        have hul : us.length = ds.length := by have := hr.1; simpa using this
        rcases Nat.lt_or_ge i us.length with hi | hi
        · obtain ⟨X, hxx⟩ := hx (i + 1) _ us[i] (by simpa using q1) (by simp [hi])
          have : look b fr.heap ≠ none := by
            cases hxx with
            | sl b o n v B hb h => rw [hb]; simp
          rw [(p4 b this).2] at q3
          exact hsl (i + 1) b o n g k sz els (by simpa using q1) (by simpa using q2) (by simpa using q4) q3
        · exfalso
          have : ∀ {id : Nat} {H1 : Heap} {ms : List Nat} {xs : List V} {ds : List D}, backs fl id H1 ms xs ds = some H' → xs.length = ds.length := by
            intro id H1 ms
            induction ms generalizing id H1 with
            | nil => intro xs ds hb; cases xs <;> cases ds <;> simp [backs] at hb ⊢
            | cons m ms ih =>
              intro xs ds hb
              cases xs with
              | nil => simp [backs] at hb
              | cons x xs => cases ds with
                | nil => simp [backs] at hb
                | cons d ds =>
                  simp only [backs] at hb
                  simp only [List.length_cons, Nat.add_right_cancel_iff]
                  (repeat' split at hb) <;> first | exact ih hb | (simp at hb; done)
          have := this hb
          have : i < xs.length := (List.getElem?_eq_some_iff.1 q1).1
          omega
      obtain ⟨ρ', r1⟩ := backs_sound (us := us) (ds := ds) (χ := fun i => χ (i + 1)) (Z := Z) p1 hFt t2 (fun k b hb q => hZ1 k b hb (by
          have := p2.off k b hb
          rcases q with (q | q) | q
          · exact this (.inl (.inl q))
          · exact this (.inl (.inr q))
          · exact this (.inr q))) (fun i y v hy hv => by
            obtain ⟨X, q⟩ := hx (i + 1) y v (by simpa using hy) (by simpa using hv)
            exact ⟨_, q.tr (Stay.refl _ _) p3⟩) hsl' hb
      exact ⟨ρ', by rw [e1]; exact Puts.trans ⟨p1, p2, p3, p4⟩ r1⟩
    have skip : ∀ {id : Nat}, backs fl id fr.heap ms xs ds = some H' → ∃ ρ', Puts G w0 L X0 w tm fr ρ (AllF (d :: ds).length χ) H' ρ' := fun hb => go ⟨ρ, Puts.nil h1⟩ hb
    simp only [backs] at he
    split at he
    · rename_i hm
      subst hm
      split at he
      · rename_i b o
        split at he
        · rename_i o' cs
          split at he
          · rename_i ho
            subst ho
            split at he
            · rename_i vs H1 n hin
              split at he
              · rename_i hlk
                refine go ?_ he
                cases t1 with
                | plain _ _ _ hF h => cases h
                | op o cs g k φ F hFF hdj hg how vf hm hh =>
                have eF : χ 0 = fun x => AllF cs.length φ x ∨ x = g := by funext x; exact propext ((hFF x).trans or_comm)
                have gF : χ 0 g := (hFF g).2 (.inl rfl)
                have us' : RepVs w Z cs ((List.range cs.length).map vf) φ := ⟨by simp, hdj, fun i d v q1 q2 => by obtain ⟨_, rfl⟩ := range_map_get q2; exact hh i d q1⟩
                obtain ⟨ρ1, p, r2, r3⟩ := instL_sound (fl := fl) (X0 := fun b => (X0 b ∨ AllF ds.length (fun i => χ (i + 1)) b) ∨ b = g) (φ := φ) (Z := Z) (ds := cs) (us := (List.range cs.length).map vf) (fr := fr) (ρ := ρ) (w := w) (w0 := w0) (tm := tm) (G := G) (L := L)
                  (by
                    have : (fun b => (X0 b ∨ AllF ds.length (fun i => χ (i + 1)) b) ∨ χ 0 b) = fun b => ((X0 b ∨ AllF ds.length (fun i => χ (i + 1)) b) ∨ b = g) ∨ AllF cs.length φ b := by
                      rw [eF]; funext b; simp only [or_assoc, or_comm, or_left_comm]
                    rw [← this]; exact h1)
                  (fun b hb => by
                    obtain ⟨q1, q2⟩ := hF0 b ((hFF b).2 (.inr hb))
                    exact ⟨fun q => q.elim q1 fun e => hg (by rw [← e]; exact hb), q2⟩)
                  us' (fun k b hb q => hZ1 k b hb (by
                    rcases q with (q | q) | q
                    · rcases q with q | q
                      · exact .inl (.inl q)
                      · exact .inl (.inr (by rw [q]; exact gF))
                    · exact .inl (.inr ((hFF b).2 (.inr q)))
                    · exact .inr q)) hin
                obtain ⟨X, hxx⟩ := hx 0 _ _ rfl rfl
                have hx1 := hxx.tr (Stay.refl _ _) p.2.2.1
                have hpb : ρ1 b = some (g, k) := by
                  cases hx1 with
                  | pt _ _ _ B hb hpt =>
                    rw [hlk] at hb
                    obtain rfl := Option.some.inj hb
                    obtain ⟨g', k', q1, q2⟩ := hpt
                    simp at q2
                    obtain ⟨rfl, q3⟩ := q2
                    obtain rfl : k = k' := by omega
                    exact q1
                have p2 := Puts.revive (X0 := fun b => X0 b ∨ AllF ds.length (fun i => χ (i + 1)) b) (F := fun x => x = g) (B' := .var fl vs) p.1 hlk rfl rfl (fun x hx => by subst hx; exact hF0 x gF) (fun g' k' e => by rw [hpb] at e; simp at e; exact e.1.symm)
                  (fun X' H' ρ' st t => ⟨g, k, hpb, by rw [r2]; exact how, fun j x hj => by
                    have hlt : j < cs.length := by rw [← r2]; exact (List.getElem?_eq_some_iff.1 hj).1
                    exact ⟨vf j, hm j cs[j] (List.getElem?_eq_getElem hlt), (r3 j x (vf j) hj (by simp [hlt])).tr st t⟩⟩)
                rw [eF]
                exact ⟨_, Puts.trans p p2⟩
              · simp at he
            · simp at he
          · simp at he
        · exact skip he
        · simp at he
      · rename_i b o n
        split at he
        · exact skip he
        · rename_i sz els
          split at he
          · rename_i sz' len hlk
            split at he
            · rename_i hc
              obtain ⟨rfl, rfl⟩ := hc
              refine go ?_ he
              obtain ⟨X, hxx⟩ := hx 0 _ _ rfl rfl
              have hpl : ∀ g k, ρ b = some (g, k) → χ 0 g ∧ OwnBlk w g k := fun g k e => hsl 0 b o n g k _ _ rfl rfl rfl e
              refine ⟨_, Puts.revive h1 hlk rfl rfl (fun x hx => hF0 x hx) (fun g k e => (hpl g k e).1) fun X' H' ρ' st t => ?_⟩
              have nilB : els = [] → RepB w X' H' ρ' (ρ b) (.row fl sz' els) := by
                rintro rfl
                exact ⟨fun el hel => by simp at hel, .inl rfl, fun g k e => ⟨by simpa using (hpl g k e).2, fun i j el d hi => by simp at hi⟩⟩
              cases t1 with
              | plain _ _ _ hF h => cases h
              | own sz a F hF => exact nilB rfl
              | ow sz els g k c F hFF hcc how hz hh =>
                cases hxx with
                | sl _ _ _ _ B hb hsl =>
                  rw [hlk] at hb
                  obtain rfl := Option.some.inj hb
                  obtain ⟨q1, A, c', q2, q3, q4⟩ := hsl
                  simp at q2
                  obtain ⟨rfl, rfl, rfl⟩ := q2
                  rcases q4 with rfl | ⟨g', k', s1, s2, s3⟩
                  · exact nilB (List.eq_nil_of_length_eq_zero (by omega))
                  · simp at s2
                    obtain ⟨rfl, s2⟩ := s2
                    have ho : o = 0 := by omega
                    subst ho
                    simp at s2
                    subst s2
                    refine ⟨hz, .inr (by rw [s1]; simp), fun g2 k2 e => ?_⟩
                    rw [s1] at e
                    simp at e
                    obtain ⟨rfl, rfl⟩ := e
                    refine ⟨how.le (by have := Nat.mul_le_mul_right sz' hcc; omega), fun i j el d h1 h2 => ?_⟩
                    obtain ⟨u, q5, q6⟩ := hh i j el d h1 h2
                    exact ⟨u, q5, q6.stay ⟨fun _ _ _ _ => rfl, fun k b hb q => hZ1 k b hb (st.off k b hb q)⟩⟩
            · simp at he
          · simp at he
        · simp at he
      · exact skip he
      · exact skip he
      · simp at he
    · exact skip he
  | [], _ :: _, us, ds, χ, fr, ρ, id, H', h, hF, hr, hZ, hx, hsl, he => by simp [backs] at he
  | _ :: _, [], us, ds, χ, fr, ρ, id, H', h, hF, hr, hZ, hx, hsl, he => by simp [backs] at he
  | _ :: _, _ :: _, us, [], χ, fr, ρ, id, H', h, hF, hr, hZ, hx, hsl, he => by simp [backs] at he
  | [], [], us, _ :: _, χ, fr, ρ, id, H', h, hF, hr, hZ, hx, hsl, he => by simp [backs] at he
end
end Go.Proofs.YtclhghlpokdiiaaDoor.Wm
set_option linter.unusedSimpArgs false
set_option linter.unusedVariables false
namespace Go.Proofs.YtclhghlpokdiiaaDoor.Wm
open Go
section
variable {P : Program} {G : Nat → Option (List D)} {w0 : World} {L X0 X1 : Nat → Prop} {w w' w2 : World} {tm : Array Value} {fr : Fr} {ρ ρ' : Place} {X : K → Nat → Prop} {H : Heap}

theorem repVs_iff {Z Z' : K → Nat → Prop} {ds : List D} {us : List Value} {χ : Nat → Nat → Prop} (h : RepVs w Z ds us χ) (hh : ∀ (i : Nat) (d : D) (v : Value), ds[i]? = some d → RepV w Z d v (χ i) → RepV w Z' d v (χ i)) : RepVs w Z' ds us χ :=
  ⟨h.1, h.2.1, fun i d v q1 q2 => hh i d v q1 (h.2.2 i d v q1 q2)⟩

theorem takes_none : ∀ {ms : List Nat} {xs : List V} {H H' : Heap} {os : List (Option D)} {fl : Bool}, ms.contains 1 = false → takes H ms xs = some (os, H', fl) → ∀ (i : Nat) (o : Option D), os[i]? = some o → o = none
  | [], [], H, H', os, fl, hm, he, i, o, hi => by simp [takes] at he; obtain ⟨rfl, _, _⟩ := he; simp at hi
  | m :: ms, x :: xs, H, H', os, fl, hm, he, i, o, hi => by
    have hm1 : m ≠ 1 := fun e => by subst e; simp at hm
    have hms : ms.contains 1 = false := by simp at hm ⊢; exact hm.2
    simp only [takes, if_neg hm1] at he
    split at he
    · rename_i os' H2 f2 h2
      obtain ⟨rfl, rfl, rfl⟩ := by simpa using he
      cases i with
      | zero => simp at hi; exact hi.symm
      | succ i => exact takes_none hms h2 i o (by simpa using hi)
    · simp at he
  | [], _ :: _, H, H', os, fl, hm, he, i, o, hi => by simp [takes] at he
  | _ :: _, [], H, H', os, fl, hm, he, i, o, hi => by simp [takes] at he

theorem evc_sound {C : Cx} {ms : List Nat} {dst : Nat} {f : FuncId} {xs : List V} {us vs : List Value} {y : V} {H' : Heap} (hfl : Flat (C.own f) vs us) (hG : C.gl = G) (hN : ∀ g cs, G g = some cs → nfL cs = true) (hS : SoundFn P G (C.own f) f (C.fn f)) (h : FR G w0 L X0 w tm fr ρ) (hl : us.length = xs.length)
    (hx : ∀ (i : Nat) (x : V) (u : Value), xs[i]? = some x → us[i]? = some u → RepE w (XX w0 X0 fr.heap ρ) fr.heap ρ x u) (he : evc C ms fr.heap dst f xs = some (y, H')) :
    Calls P f vs.toArray w fun e w' => ∃ v ρ', e = .returned v ∧ FR G w0 L X0 w' tm { fr with heap := H' } ρ' ∧ RepE w' (XX w0 X0 H' ρ') H' ρ' y v ∧ HTr w w' fr.heap H' ρ ρ' ∧ (ms.contains 1 = false → Chg w w' E) := by
  unfold evc at he
  split at he
  · rename_i os H1 fl ht
    split at he
    · rename_i ds hle
      split at he
      · rename_i res outs hfn
        split at he
        · rename_i hcl
          split at he
          · rename_i H2 hba
            split at he
            · rename_i y' H3 n hin
              obtain ⟨rfl, rfl⟩ := by simpa using he
              obtain ⟨ψ, a1, a2, a3, a4, a5, a6, a7⟩ := takes_sound h hl hx ht
              obtain ⟨b1, b2, b3, b4⟩ := a1
              have hx1 : ∀ (i : Nat) (x : V) (u : Value), xs[i]? = some x → us[i]? = some u → RepE w (XX w0 (fun g => X0 g ∨ AllF os.length ψ g) H1 ρ) H1 ρ x u := fun i x u q1 q2 => by
                rw [b2]; exact (hx i x u q1 q2).tr (Stay.refl _ _) b3
              let Xc : Nat → Prop := fun g => (X0 g ∨ AllF os.length ψ g) ∨ (usesL ms xs = false ∧ Held H1 ρ g)
              have hXc : ∀ k b, Xc b → XX w0 (fun g => X0 g ∨ AllF os.length ψ g) H1 ρ k b := fun k b q => q.elim (fun q => .inl q) fun q => .inr (.inr q.2)
              obtain ⟨c1, c2, c3⟩ := lends_sound b1 (Xc := Xc) (fun k b _ q => hXc k b q) hl hx1 a3 (fun i d u q1 q2 => by rw [b2]; exact a4 i d u q1 q2) a5 a7
                (fun hu g hg q => by
                  obtain ⟨b, B, k, q1, q2, q3⟩ := hg
                  rcases q with q | q
                  · exact b1.out b B g k q1 q2 q3 q
                  · rw [hu] at q; simp at q) hle
              have hlt : ∀ b, Xc b → b < w.heap.size := fun b q => b1.XX_lt (hXc .lent b q)
              have eF : AllF ds.length ψ = AllF os.length ψ := by rw [c2]
              refine (hS w Xc ds vs us ψ res outs hfl c1 (fun b hb => .inl (.inr (by rw [← eF]; exact hb))) hlt (fun g cs hg => ⟨hN g cs hg, (b1.gl g cs hg).stay ⟨fun _ _ _ _ => rfl, fun k b _ q => hXc k b q⟩⟩) (lends_nf hle (takes_nf ht)) hfn).mono ?_
              rintro e w' ⟨v, R, χ, rfl, d1, d2, d3, d4, d5, d6⟩
              rw [eF] at d1 d2 d3 d5
              -- the world turns
              obtain ⟨e1, e2, e3⟩ := b1.turn d1 (fun b hb => .inr hb) (fun b hb => (b4 b hb).2.imp (fun q => q.2) id)
              have hsz := d1.size
              have newlt : ∀ b, R b ∨ AllF outs.length χ b → b < w'.heap.size := fun b hb => by
                rcases hb with hb | ⟨i, hi, hb⟩
                · exact d2.old b hb
                · exact (d3.2.2 i outs[i] (us[i]'(by have := d3.1; omega)) (List.getElem?_eq_getElem hi) (by simp)).old b hb
              obtain ⟨f1, f2⟩ := e1.less (X1 := fun b => (X0 b ∨ R b) ∨ AllF outs.length χ b) (fun b hb => by
                have go : R b ∨ AllF outs.length χ b → (X0 b ∨ AllF os.length ψ b) ∨ w.heap.size ≤ b ∧ b < w'.heap.size := fun hb => (d5 b hb).elim (fun q => .inl (.inr q)) fun q => .inr ⟨q, newlt b hb⟩
                rcases hb with (hb | hb) | hb
                · exact .inl (.inl hb)
                · exact go (.inl hb)
                · exact go (.inr hb))
              have put : ∀ b, R b ∨ AllF outs.length χ b → ¬ X0 b ∧ ((fl = true ∧ L b) ∨ w0.heap.size ≤ b) := fun b hb => by
                rcases d5 b hb with q | q
                · exact b4 b q
                · exact ⟨fun hx0 => by have := h.x0 b hx0; omega, .inr (Nat.le_trans h.chg.size q)⟩
              obtain ⟨Z, g1, g2, g3⟩ : ∃ Z : K → Nat → Prop, RepV w' Z res v R ∧ RepVs w' Z outs us χ ∧ ∀ k b, b < w'.heap.size → XX w0 (fun b => (X0 b ∨ R b) ∨ AllF outs.length χ b) H1 ρ k b → Z k b := by
                cases hu : usesL ms xs with
                | true =>
                  have hc := hcl hu
                  simp only [Bool.and_eq_true] at hc
                  refine ⟨fun _ b => b < w.heap.size ∨ R b ∨ AllF outs.length χ b, d2.clean (fun b _ q => q.elim (fun q => .inl ⟨rfl, q⟩) fun q => .inr (.inr q)) hc.1,
                    repVs_iff d3 fun i d v q1 q2 => q2.clean (fun b _ q => q.elim (fun q => .inl ⟨rfl, q⟩) fun q => .inr (.inr q)) (cleanL_get hc.2 q1), fun k b _ q => ?_⟩
                  rcases q with (q | q) | q
                  · rcases q with q | q
                    · exact .inl (h.x0 b q)
                    · exact .inr (.inl q)
                  · exact .inr (.inr q)
                  · exact .inl (q.elim (fun q => Nat.lt_of_lt_of_le q.2 h.chg.size) fun q => b1.held_lt q)
                | false =>
                  refine ⟨_, d2, d3, fun k b _ q => ?_⟩
                  have hx0 : X0 b → XR w Xc (AllF os.length ψ) (fun b => R b ∨ AllF outs.length χ b) k b := fun q => .inr (.inl ⟨.inl (.inl q), fun q' => (b4 b q').1 q⟩)
                  rcases q with (q | q) | q
                  · rcases q with q | q
                    · exact hx0 q
                    · exact .inr (.inr (.inl q))
                  · exact .inr (.inr (.inr q))
                  · rcases q with q | q
                    · exact .inl ⟨q.1, Nat.lt_of_lt_of_le q.2 h.chg.size⟩
                    · refine .inr (.inl ⟨.inr ⟨hu, q⟩, fun q' => ?_⟩)
                      obtain ⟨b', B, k', q1, q2, q3⟩ := q
                      exact b1.out b' B b k' q1 q2 q3 (.inr q')
              have hx2 : ∀ (i : Nat) (x : V) (u : Value), xs[i]? = some x → us[i]? = some u → ∃ X, RepE w' X H1 ρ x u := fun i x u q1 q2 => ⟨_, (hx1 i x u q1 q2).tr e2 e3⟩
              obtain ⟨ρ2, p1, p2, p3, p4⟩ := backs_sound (X0 := fun b => X0 b ∨ R b) (Z := Z) f1 (fun b hb => by
                  obtain ⟨q1, q2⟩ := put b (.inr hb)
                  exact ⟨fun q => q.elim q1 fun q => d4 b q hb, q2⟩) g2 g3 hx2 (fun i b o n g k sz0 els0 q1 q2 q4 q3 => by
                  obtain ⟨r1, r2⟩ := a6 i b o n g k q1 q2 q3
                  obtain ⟨d, hd⟩ := a7 i q2
                  have hdi := c3 i d hd
                  have hul : i < us.length := by rw [hl]; exact (List.getElem?_eq_some_iff.1 q1).1
                  refine ⟨?_, d1.own _ _ r2⟩
                  have hmem := hdi
                  cases hd' : d with
                  | ow sz els => subst hd'; exact d6 i sz els sz0 els0 hdi q4 g r1
                  | _ =>
                    exfalso
                    have : ∀ {ms : List Nat} {xs : List V} {H H' : Heap} {os : List (Option D)} {fl : Bool} {i b o n : Nat} {d : D}, takes H ms xs = some (os, H', fl) → xs[i]? = some (.sl b o n) → os[i]? = some (some d) → ∃ sz els, d = .ow sz els := by
                      intro ms
                      induction ms with
                      | nil => intro xs H H' os fl i b o n d he hi hd; cases xs <;> simp [takes] at he; obtain ⟨rfl, _, _⟩ := he; simp at hd
                      | cons m ms ih =>
                        intro xs H H' os fl i b o n d he hi hd
                        cases xs with
                        | nil => simp [takes] at he
                        | cons x xs =>
                          simp only [takes] at he
                          split at he
                          · split at he
                            · rename_i hta
                              split at he
                              · rename_i h2
                                obtain ⟨rfl, rfl, rfl⟩ := by simpa using he
                                cases i with
                                | zero =>
                                  simp at hi hd
                                  subst hi; subst hd
                                  simp only [takeA] at hta
                                  split at hta
                                  · split at hta
                                    · simp at hta; exact ⟨_, _, hta.1.symm⟩
                                    · simp at hta
                                  · simp at hta
                                | succ i => exact ih h2 (by simpa using hi) (by simpa using hd)
                              · simp at he
                            · simp at he
                          · split at he
                            · rename_i h2
                              obtain ⟨rfl, rfl, rfl⟩ := by simpa using he
                              cases i with
                              | zero => simp at hd
                              | succ i => exact ih h2 (by simpa using hi) (by simpa using hd)
                            · simp at he
                    obtain ⟨sz, els, e⟩ := this ht q1 hd
                    rw [hd'] at e
                    cases e) hba
              obtain ⟨ρ3, r1, r2⟩ := inst_sound (X0 := X0) (F := R) (Z := Z) (fr := { fr with heap := H2 }) p1 (fun b hb => put b (.inl hb)) g1 (fun k b hb q => g3 k b hb (by
                have := p2.off k b hb
                rcases q with (q | q) | q
                · exact this (.inl (.inl q))
                · exact this (.inl (.inr q))
                · exact this (.inr q))) hin
              refine ⟨v, ρ3, rfl, r1.1, r2, ((b3.trans e3).trans p3).trans r1.2.2.1, fun hno => d1.mono fun b hb => ?_⟩
              obtain ⟨i, hi, hb⟩ := hb
              have := takes_none hno ht i os[i] (List.getElem?_eq_getElem hi)
              exact a5 i (by rw [List.getElem?_eq_getElem hi, this]) b hb
            · simp at he
          · simp at he
        · simp at he
      · simp at he
    · simp at he
  · simp at he
end
end Go.Proofs.YtclhghlpokdiiaaDoor.Wm
set_option linter.unusedSimpArgs false
set_option linter.unusedVariables false
namespace Go.Proofs.YtclhghlpokdiiaaDoor.Wm
open Go
/-! Arguments that are given: nobody writes them any more -/
def gives (H : Heap) : List Nat → List V → Option (List V × Heap)
  | m :: ms, x :: xs => if m = 3 then (match plainV H x with
      | some (d, H1) => match gives H1 ms xs with
        | some (ys, H2) => some (.val d :: ys, H2)
        | none => none
      | none => none) else (match gives H ms xs with
      | some (ys, H2) => some (x :: ys, H2)
      | none => none)
  | [], [] => some ([], H)
  | _, _ => none
def evcG (C : Cx) (H : Heap) (dst : Nat) (f : FuncId) (xs : List V) : Option (V × Heap) := match flatV (C.own f) xs with
  | some zs => (match gives H (flatM (C.own f)) zs with
    | some (ys, H1) => evc C (flatM (C.own f)) H1 dst f ys
    | none => none)
  | none => none
section
variable {P : Program} {G : Nat → Option (List D)} {w0 : World} {L X0 X1 : Nat → Prop} {w w' w2 : World} {tm : Array Value} {fr : Fr} {ρ ρ' : Place} {X : K → Nat → Prop} {H : Heap}
theorem gives_sound : ∀ {ms : List Nat} {xs : List V} {us : List Value} {fr : Fr} {ys : List V} {H' : Heap}, FR G w0 L X0 w tm fr ρ → us.length = xs.length →
    (∀ (i : Nat) (x : V) (u : Value), xs[i]? = some x → us[i]? = some u → RepE w (XX w0 X0 fr.heap ρ) fr.heap ρ x u) → gives fr.heap ms xs = some (ys, H') →
    FR G w0 L X0 w tm { fr with heap := H' } ρ ∧ Stay w w (XX w0 X0 fr.heap ρ) (XX w0 X0 H' ρ) ∧ HTr w w fr.heap H' ρ ρ ∧ ys.length = xs.length ∧
      ∀ (i : Nat) (y : V) (u : Value), ys[i]? = some y → us[i]? = some u → RepE w (XX w0 X0 H' ρ) H' ρ y u
  | [], [], us, fr, ys, H', h, hl, hx, he => by
    simp only [gives] at he
    obtain ⟨rfl, rfl⟩ := by simpa using he
    exact ⟨h, Stay.refl _ _, HTr.same fun _ _ h => h, rfl, fun i y u hy => by simp at hy⟩
  | m :: ms, x :: xs, us, fr, ys, H', h, hl, hx, he => by
    obtain ⟨u, us, rfl⟩ := List.exists_cons_of_ne_nil (l := us) (by rintro rfl; simp at hl)
    simp only [gives] at he
    split at he
    · split at he
      · rename_i d H1 h1
        split at he
        · rename_i ys' H2 h2
          obtain ⟨rfl, rfl⟩ := by simpa using he
          obtain ⟨a1, a2, a3, a4⟩ := plainV_sound h (hx 0 x u rfl rfl) h1
          obtain ⟨b1, b2, b3, b4, b5⟩ := gives_sound (us := us) (fr := { fr with heap := H1 }) a1 (by simpa using hl) (fun i y v hy hv => (hx (i + 1) y v (by simpa using hy) (by simpa using hv)).tr a2 a3) h2
          refine ⟨b1, Stay.trans a2 b2 (Nat.le_refl _), HTr.trans a3 b3, by simp [b4], fun i y v hy hv => ?_⟩
          cases i with
          | zero => simp at hy hv; subst hy; subst hv; exact .val _ _ (a4.stay b2)
          | succ i => exact b5 i y v (by simpa using hy) (by simpa using hv)
        · simp at he
      · simp at he
    · split at he
      · rename_i ys' H2 h2
        obtain ⟨rfl, rfl⟩ := by simpa using he
        obtain ⟨b1, b2, b3, b4, b5⟩ := gives_sound (us := us) h (by simpa using hl) (fun i y v hy hv => hx (i + 1) y v (by simpa using hy) (by simpa using hv)) h2
        refine ⟨b1, b2, b3, by simp [b4], fun i y v hy hv => ?_⟩
        cases i with
        | zero => simp at hy hv; subst hy; subst hv; exact (hx 0 x u rfl rfl).tr b2 b3
        | succ i => exact b5 i y v (by simpa using hy) (by simpa using hv)
      · simp at he
  | [], _ :: _, us, fr, ys, H', h, hl, hx, he => by simp [gives] at he
  | _ :: _, [], us, fr, ys, H', h, hl, hx, he => by simp [gives] at he
theorem evcG_sound {C : Cx} {dst : Nat} {f : FuncId} {xs : List V} {us : List Value} {y : V} {H' : Heap} (hG : C.gl = G) (hN : ∀ g cs, G g = some cs → nfL cs = true) (hS : SoundFn P G (C.own f) f (C.fn f)) (h : FR G w0 L X0 w tm fr ρ) (hl : us.length = xs.length)
    (hx : ∀ (i : Nat) (x : V) (u : Value), xs[i]? = some x → us[i]? = some u → RepE w (XX w0 X0 fr.heap ρ) fr.heap ρ x u) (he : evcG C fr.heap dst f xs = some (y, H')) :
    Calls P f us.toArray w fun e w' => ∃ v ρ', e = .returned v ∧ FR G w0 L X0 w' tm { fr with heap := H' } ρ' ∧ RepE w' (XX w0 X0 H' ρ') H' ρ' y v ∧ HTr w w' fr.heap H' ρ ρ' ∧ ((flatM (C.own f)).contains 1 = false → Chg w w' E) := by
  unfold evcG at he
  split at he
  · rename_i zs hz
    split at he
    · rename_i ys H1 hg
      obtain ⟨fs, z1, z2, z3⟩ := flatV_sound hl hx hz
      obtain ⟨b1, b2, b3, b4, b5⟩ := gives_sound h z2 z3 hg
      refine (evc_sound (fr := { fr with heap := H1 }) z1 hG hN hS b1 (by rw [z2, b4]) b5 he).mono ?_
      rintro e w' ⟨v, ρ', rfl, c1, c2, c3, c4⟩
      exact ⟨v, ρ', rfl, c1, c2, HTr.trans b3 c3, c4⟩
    · simp at he
  · simp at he
end
end Go.Proofs.YtclhghlpokdiiaaDoor.Wm
set_option linter.unusedSimpArgs false
set_option linter.unusedVariables false
namespace Go.Proofs.YtclhghlpokdiiaaDoor.Wm
open Go

/-! One operation, then more -/
structure Vop where
  dst : Option Nat
  i : I
  g : Option (Nat × Bool)

def putV (fr : Fr) (dst : Option Nat) (y : V) : Option Fr := match dst with
  | some d => if d < fr.nt then some { fr with env := (d, y) :: fr.env } else none
  | none => some fr
def putR (fr : Fr) (dst : Option Nat) (r : Option (V × Heap)) : Option Fr := match r with
  | some (y, H) => putV { fr with heap := H } dst y
  | none => none

def callV (ρ : Od → V) (f : Od) (xs : List Od) : Option (FuncId × List V) := match ρ f with
  | .fn g caps => some (g, xs.map ρ ++ caps)
  | .val (.fn g cs) => some (g, xs.map ρ ++ cs.map .val)
  | _ => none

def eff (C : Cx) (ρ : Od → V) (H : Heap) (d : Nat) (i : I) : Option (V × Heap) := match i with
  | .st s a x => match evs ρ H (.st s a x) with
    | some H1 => some (.dead, H1)
    | none => none
  | .app sz by_ s x => eva ρ H d (.app sz by_ s x)
  | .call f xs => match callV ρ f xs with
    | some (g, ys) => evcG C H d g ys
    | none => none
  | .cpy .. => none
  | .box s x => evm ρ H d (.box s x)
  | .alc zs => evm ρ H d (.alc zs)
  | .bsl sz zs l ps => evm ρ H d (.bsl sz zs l ps)
  | .msl sz b zs l c => evm ρ H d (.msl sz b zs l c)
  | i => match evq H ρ i with
    | some y => some (y, H)
    | none => none

def step1 (C : Cx) (fr : Fr) (dst : Option Nat) (i : I) : Option Fr := putR fr dst (eff C (oval C.gl fr.env) fr.heap (dst.getD 99999) i)

/-- When a guarded operation is carried out. -/
def condV (v : V) (want : Bool) : Option Bool := match v with
  | .val (.bool b) => some (b == want)
  | .tup [] => some false
  | _ => none

def stepO (C : Cx) (fr : Fr) (o : Vop) : Option Fr := match o.g with
  | none => step1 C fr o.dst o.i
  | some (t, want) => match condV (oval C.gl fr.env (.tmp t)) want with
    | some true => step1 C fr o.dst o.i
    | some false => putV fr o.dst (.tup [])
    | none => none

def steps (C : Cx) : Fr → List Vop → Option Fr
  | fr, [] => some fr
  | fr, o :: l => match stepO C fr o with
    | some fr1 => steps C fr1 l
    | none => none

/-- The machine's own form of an operation. -/
def vopOf (P : Program) (ops : Array Oper) (o : Oper) (v : Vop) : Prop :=
  v.dst = o.dst ∧ conv1 P o = some v.i ∧ ((o.guard = none ∧ v.g = none) ∨ ∃ j want t, o.guard = some (j, want) ∧ (ops[j]?).bind (·.dst) = some t ∧ v.g = some (t, want))

/-- A function that the program has, with a body. -/
def okFn (P : Program) (f : FuncId) : Prop := ∃ fn, P.funcs[f]? = some fn ∧ fn.body.isNone = false ∧ (fn.name == "runtime.NumGoroutine") = false

structure CSound (P : Program) (C : Cx) : Prop where
  ok : ∀ f ds r, C.fn f ds = some r → okFn P f
  sound : ∀ f, SoundFn P C.gl (C.own f) f (C.fn f)
  nf : ∀ g cs, C.gl g = some cs → nfL cs = true

/-- Whether an operation may turn what stood. -/
def isMut (own : FuncId → List Nat) : I → Bool
  | .st .. => true
  | .app .. => true
  | .cpy .. => true
  | .call (.cst (.fn g [])) _ => (flatM (own g)).contains 1
  | .call .. => true
  | _ => false

def ExtS (w w' : World) : Prop := Ext w w' ∧ w.heap.size ≤ w'.heap.size
theorem ExtS.refl (w : World) : ExtS w w := ⟨Ext.refl w, Nat.le_refl _⟩
theorem ExtS.of_chg {w w' : World} (h : Chg w w' E) : ExtS w w' := ⟨fun b hb => h.keep b hb fun h => h, h.size⟩

/-- Blocks may go; what is there has its shape and its place. -/
def Keep (H H' : Heap) (ρ ρ' : Place) : Prop := ∀ s B, 1000000000 ≤ s → look s H = some B → ∃ B', look s H' = some B' ∧ (B'.sh = .gone ∨ (ρ' s = ρ s ∧ B'.sh = B.sh))
theorem Keep.refl (H : Heap) (ρ : Place) : Keep H H ρ ρ := fun s B _ h => ⟨B, h, .inr ⟨rfl, rfl⟩⟩
theorem Keep.trans {H1 H2 H3 : Heap} {ρ1 ρ2 ρ3 : Place} (h : Keep H1 H2 ρ1 ρ2) (k : Keep H2 H3 ρ2 ρ3) : Keep H1 H3 ρ1 ρ3 := fun s B hs hb => by
  obtain ⟨B2, h2, q2⟩ := h s B hs hb
  obtain ⟨B3, h3, q3⟩ := k s B2 hs h2
  refine ⟨B3, h3, ?_⟩
  rcases q3 with q3 | ⟨q3, q4⟩
  · exact .inl q3
  · rcases q2 with q2 | ⟨q2, q5⟩
    · exact .inl (q4.trans q2)
    · exact .inr ⟨q3.trans q2, q4.trans q5⟩
theorem Keep.of_htr {w w' : World} {H H' : Heap} {ρ ρ' : Place} (h : HTr w w' H H' ρ ρ') : Keep H H' ρ ρ' := fun s B _ hb => h.blk s B hb

/-- Behind what only makes and freezes. -/
def Gr (H H' : Heap) : Prop := ∀ s B, look s H = some B → ∃ B', look s H' = some B' ∧ (B'.sh = .gone ∨ B'.sh = B.sh)
theorem Gr.refl (H : Heap) : Gr H H := fun s B h => ⟨B, h, .inr rfl⟩
theorem Gr.trans {H1 H2 H3 : Heap} (h : Gr H1 H2) (k : Gr H2 H3) : Gr H1 H3 := fun s B hb => by
  obtain ⟨B2, h2, q2⟩ := h s B hb
  obtain ⟨B3, h3, q3⟩ := k s B2 h2
  refine ⟨B3, h3, ?_⟩
  rcases q3 with q3 | q3
  · exact .inl q3
  · exact q2.imp (fun q => q3.trans q) fun q => q3.trans q
theorem Gr.add {H : Heap} {id : Nat} {B : Blk} (h : free id H = true) : Gr H ((id, B) :: H) := fun s C hc => ⟨C, by
  have hne : id ≠ s := fun e => by subst e; rw [free_spec h] at hc; simp at hc
  simp only [look]; rw [if_neg hne]; exact hc, .inr rfl⟩
theorem Gr.gone (H : Heap) (b : Nat) : Gr H (updB b .gone H) := fun s C hc => by
  by_cases h : s = b
  · subst h; exact ⟨.gone, look_updB_self hc, .inl rfl⟩
  · exact ⟨C, by rw [look_updB_ne h]; exact hc, .inr rfl⟩
theorem Gr.keep {H H' : Heap} {ρ ρ' : Place} {b : Nat} (h : Gr H H') (hp : ∀ s, s ≠ b → ρ' s = ρ s) (hb : b < 1000000000) : Keep H H' ρ ρ' := fun s B hs hB => by
  obtain ⟨B', h1, h2⟩ := h s B hB
  exact ⟨B', h1, h2.imp id fun q => ⟨hp s (by omega), q⟩⟩

theorem plainV_gr {H H' : Heap} {x : V} {d : D} (h : plainV H x = some (d, H')) : Gr H H' := by
  unfold plainV at h
  split at h
  · obtain ⟨_, rfl⟩ := by simpa using h
    exact Gr.refl _
  · obtain ⟨_, rfl⟩ := by simpa using h
    exact Gr.refl _
  · obtain ⟨_, rfl⟩ := by simpa using h
    exact Gr.refl _
  · split at h
    · obtain ⟨_, rfl⟩ := by simpa using h
      exact Gr.gone _ _
    · simp at h
  · simp at h
theorem plainL_gr : ∀ {xs : List V} {H H' : Heap} {ds : List D}, plainL H xs = some (ds, H') → Gr H H'
  | [], H, H', ds, h => by
    simp only [plainL] at h
    obtain ⟨_, rfl⟩ := by simpa using h
    exact Gr.refl _
  | x :: xs, H, H', ds, h => by
    simp only [plainL] at h
    split at h
    · rename_i h1
      split at h
      · rename_i h2
        obtain ⟨_, rfl⟩ := by simpa using h
        exact (plainV_gr h1).trans (plainL_gr h2)
      · simp at h
    · simp at h
theorem bslEls_gr {ρ : Od → V} {sz : Nat} : ∀ {ps : List Part} {H H' : Heap} {els els' : List (List D)}, bslEls ρ sz H els ps = some (els', H') → Gr H H'
  | [], H, H', els, els', h => by
    simp only [bslEls] at h
    obtain ⟨_, rfl⟩ := by simpa using h
    exact Gr.refl _
  | p :: ps, H, H', els, els', h => by
    simp only [bslEls] at h
    split at h
    · split at h
      · rename_i h1
        split at h
        · exact (plainL_gr h1).trans (bslEls_gr h)
        · simp at h
      · simp at h
    · simp at h
theorem evm_gr {ρ : Od → V} {H H' : Heap} {dst : Nat} {i : I} {y : V} (h : evm ρ H dst i = some (y, H')) : Gr H H' := by
  unfold evm at h
  split at h
  · split at h
    · split at h
      · rename_i hf
        obtain ⟨_, rfl⟩ := by simpa using h
        exact Gr.add hf
      · simp at h
    · simp at h
  · split at h
    · rename_i hf
      obtain ⟨_, rfl⟩ := by simpa using h
      exact Gr.add hf
    · simp at h
  · split at h
    · rename_i h1
      split at h
      · rename_i hf
        obtain ⟨_, rfl⟩ := by simpa using h
        exact (bslEls_gr h1).trans (Gr.add hf)
      · simp at h
    · simp at h
  · split at h
    · split at h
      · rename_i hf
        obtain ⟨_, rfl⟩ := by simpa using h
        exact Gr.add hf.2.2.2.2
      · simp at h
    · simp at h
  · simp at h
theorem eva_gr {ρ : Od → V} {H H' : Heap} {dst : Nat} {i : I} {y : V} (h : eva ρ H dst i = some (y, H')) : Gr H H' := by
  unfold eva at h
  split at h
  · split at h
    · split at h
      · rename_i hb
        split at h
        · rename_i hf
          obtain ⟨_, rfl⟩ := by simpa using h
          refine Gr.trans ?_ (Gr.add hf.2.2.2)
          unfold baseOf at hb
          split at hb
          · split at hb
            · split at hb
              · obtain ⟨_, _, rfl⟩ := by simpa using hb
                exact Gr.gone _ _
              · simp at hb
            · simp at hb
          · obtain ⟨_, _, rfl⟩ := by simpa using hb
            exact Gr.refl _
          · simp at hb
        · simp at h
      · simp at h
    · simp at h
  · simp at h
end Go.Proofs.YtclhghlpokdiiaaDoor.Wm
set_option linter.unusedSimpArgs false
set_option linter.unusedVariables false
namespace Go.Proofs.YtclhghlpokdiiaaDoor.Wm
open Go
section
variable {P : Program} {G : Nat → Option (List D)} {w0 : World} {L X0 X1 : Nat → Prop} {w w' w2 : World} {tm : Array Value} {fr : Fr} {ρ ρ' : Place} {X : K → Nat → Prop} {H : Heap}

/-- The frame behind an operation. -/
def After (G : Nat → Option (List D)) (w0 : World) (L X0 : Nat → Prop) (a a' : Act) (w' : World) (H : Heap) (ρ : Place) (fr' : Fr) : Prop :=
  ∃ ρ', FR G w0 L X0 w' a'.tmps fr' ρ' ∧ a'.defers = a.defers ∧ a'.tmps.size = a.tmps.size ∧ Keep H fr'.heap ρ ρ'

theorem put_after {a : Act} {fr1 fr' : Fr} {ρ' : Place} {dst : Option Nat} {y : V} {v : Value} (h : FR G w0 L X0 w' a.tmps fr1 ρ') (hy : RepE w' (XX w0 X0 fr1.heap ρ') fr1.heap ρ' y v)
    (hp : Keep H fr1.heap ρ ρ') (he : putV fr1 dst y = some fr') : After G w0 L X0 a (a.put dst v) w' H ρ fr' := by
  unfold putV at he
  cases dst with
  | none =>
    obtain rfl := Option.some.inj he
    exact ⟨ρ', h, rfl, rfl, hp⟩
  | some d =>
    simp only at he
    split at he
    · rename_i hd
      obtain rfl := Option.some.inj he
      exact ⟨ρ', h.put hd hy, rfl, by simp [Act.put], hp⟩
    · simp at he

theorem bid_lt {fr fr1 fr2 : Fr} {dst : Option Nat} {y : V} (h : putV fr1 dst y = some fr2) (hn : fr1.nt = fr.nt) (hnt : fr.nt ≤ 99999) : bid (dst.getD 99999) < 1000000000 := by
  unfold putV at h
  unfold bid
  cases dst with
  | none => simp
  | some d =>
    simp only at h
    split at h
    · simp; omega
    · simp at h

theorem evc_fn {C : Cx} {ms : List Nat} {H : Heap} {dst : Nat} {f : FuncId} {xs : List V} {r : V × Heap} (he : evc C ms H dst f xs = some r) : ∃ ds r, C.fn f ds = some r := by
  unfold evc at he
  split at he
  · split at he
    · split at he
      · rename_i hfn
        exact ⟨_, _, hfn⟩
      · simp at he
    · simp at he
  · simp at he

theorem evcG_fn {C : Cx} {H : Heap} {dst : Nat} {f : FuncId} {xs : List V} {r : V × Heap} (he : evcG C H dst f xs = some r) : ∃ ds r, C.fn f ds = some r := by
  unfold evcG at he
  split at he
  · split at he
    · exact evc_fn he
    · simp at he
  · simp at he

theorem odL_spec : ∀ {ts : List TypeId} {xs : List Operand} {ys : List Od}, odL P ts xs = some ys → ys.length = xs.length ∧ ∀ (i : Nat) (y : Od) (x : Operand), ys[i]? = some y → xs[i]? = some x → ∃ t, od P t x = some y
  | [], [], ys, h => by simp [odL] at h; subst h; exact ⟨rfl, fun i y x q => by simp at q⟩
  | t :: ts, [], ys, h => by simp [odL] at h; subst h; exact ⟨rfl, fun i y x q => by simp at q⟩
  | [], x :: xs, ys, h => by simp [odL] at h
  | t :: ts, x :: xs, ys, h => by
    simp only [odL] at h
    split at h
    · rename_i y hy
      split at h
      · rename_i ys' hys
        obtain rfl := Option.some.inj h
        obtain ⟨a1, a2⟩ := odL_spec hys
        refine ⟨by simp [a1], fun i y' x' q1 q2 => ?_⟩
        cases i with
        | zero => simp at q1 q2; subst q1; subst q2; exact ⟨t, hy⟩
        | succ i => exact a2 i y' x' (by simpa using q1) (by simpa using q2)
      · simp at h
    · simp at h

theorem callV_sound {a : Act} (h : FR G w0 L X0 w a.tmps fr ρ) {f : Operand} {args : Array Operand} {ts : Array TypeId} {o : Oper} {g : FuncId} {ys : List V} {f' : Od} {xs' : List Od} (ho : o.op = .call ⟨.value f, args, ts⟩) (hg : okFn P g) (hf' : od P 0 f = some f') (hxs : odL P ts.toList args.toList = some xs')
    (he : callV (oval G fr.env) f' xs' = some (g, ys)) : ∃ us : List Value, us.length = ys.length ∧ (∀ (i : Nat) (x : V) (u : Value), ys[i]? = some x → us[i]? = some u → RepE w (XX w0 X0 fr.heap ρ) fr.heap ρ x u) ∧ (execOp a.eval o).run P w = .ok (.enter g us.toArray) w := by
  obtain ⟨k1, k2⟩ := odL_spec hxs
  have hargs : ∀ (i : Nat) (x : V) (u : Value), (xs'.map (oval G fr.env))[i]? = some x → (args.toList.map a.eval)[i]? = some u → RepE w (XX w0 X0 fr.heap ρ) fr.heap ρ x u := fun i x u q1 q2 => by
    rw [List.getElem?_map, Option.map_eq_some_iff] at q1 q2
    obtain ⟨y, q1, rfl⟩ := q1
    obtain ⟨z, q2, rfl⟩ := q2
    obtain ⟨t, ht⟩ := k2 i y z q1 q2
    exact od_sound h ht
  have hf := od_sound h hf'
  have run : ∀ cs : Array Value, a.eval f = .func (.func g) #[] cs → (execOp a.eval o).run P w = .ok (.enter g (args.toList.map a.eval ++ cs.toList).toArray) w := by
    intro cs hv
    obtain ⟨fn, h1, h2, h3⟩ := hg
    have h2' : fn.body ≠ none := by intro hh; simp [hh] at h2
    have h3' : fn.name ≠ "runtime.NumGoroutine" := by simpa using h3
    unfold execOp
    rw [ho]
    simp [resolve, hv, Deferred.ofValue, invoke, callFunc, h1, h2', h3']
  have fin : ∀ {caps : List V} {cs : List Value}, cs.length = caps.length → (∀ (i : Nat) (x : V) (u : Value), caps[i]? = some x → cs[i]? = some u → RepE w (XX w0 X0 fr.heap ρ) fr.heap ρ x u) →
      ∀ (i : Nat) (x : V) (u : Value), (xs'.map (oval G fr.env) ++ caps)[i]? = some x → (args.toList.map a.eval ++ cs)[i]? = some u → RepE w (XX w0 X0 fr.heap ρ) fr.heap ρ x u := by
    intro caps cs hl hh i x u q1 q2
    have e : (xs'.map (oval G fr.env)).length = (args.toList.map a.eval).length := by simp [k1]
    rw [List.getElem?_append] at q1 q2
    rw [e] at q1
    split at q1
    · rename_i hi
      rw [if_pos hi] at q2
      exact hargs i x u q1 q2
    · rename_i hi
      rw [if_neg hi] at q2
      exact hh _ x u q1 q2
  unfold callV at he
  split at he
  · rename_i g' caps hv
    obtain ⟨rfl, rfl⟩ := by simpa using he
    rw [hv] at hf
    generalize hfe : a.eval f = fv at hf
    cases hf with
    | fn _ _ us hs hh =>
      exact ⟨_, by simp [k1, hs], fin (by simpa using hs) (fun i x u q1 q2 => hh i x u q1 (by simpa using q2)), run us hfe⟩
  · rename_i g' cs hv
    obtain ⟨rfl, rfl⟩ := by simpa using he
    rw [hv] at hf
    generalize hfe : a.eval f = fv at hf
    cases hf with
    | val _ _ hf =>
      cases hf with
      | fn _ _ us hs hh =>
        exact ⟨_, by simp [k1, hs], fin (caps := cs.map .val) (by simpa using hs) (fun i x u q1 q2 => by
          rw [List.getElem?_map, Option.map_eq_some_iff] at q1
          obtain ⟨d, q1, rfl⟩ := q1
          exact .val d u (hh i d u q1 (by simpa using q2))), run us hfe⟩
  · simp at he

theorem eff_quiet {C : Cx} {r : Od → V} {d : Nat} {i : I} (h : heavy i = false) : eff C r H d i = match evq H r i with
    | some y => some (y, H)
    | none => none := by
  cases i <;> first | rfl | (simp [heavy] at h; done)

theorem step1_sound {C : Cx} (hC : CSound P C) (hG : C.gl = G) {a : Act} (h : FR G w0 L X0 w a.tmps fr ρ) (hnt : fr.nt ≤ 99999) {o : Oper} {i : I} (hc : conv1 P o = some i) {fr' : Fr} (he : step1 C fr o.dst i = some fr')
    {K : Act → World → Prop} {Q : Exit → Act → World → Prop} (hK : ∀ a' w', After G w0 L X0 a a' w' fr.heap ρ fr' → (isMut C.own i = false → ExtS w w') → K a' w') : o.wp P a w K Q := by
  unfold step1 at he
  rw [hG] at he
  have fin : ∀ {r : Option (V × Heap)}, putR fr o.dst r = some fr' → ∃ y H1, r = some (y, H1) ∧ putV { fr with heap := H1 } o.dst y = some fr' := by
    intro r hr
    unfold putR at hr
    split at hr
    · exact ⟨_, _, rfl, hr⟩
    · simp at hr
  obtain ⟨y, H1, he, hp⟩ := fin he
  have hb : bid (o.dst.getD 99999) < 1000000000 := bid_lt hp rfl hnt
  have quiet : evq fr.heap (oval G fr.env) i = some y → H1 = fr.heap → o.wp P a w K Q := by
    intro hq hH
    subst hH
    obtain ⟨u, b1, b2⟩ := evq_sound h hc hq
    unfold Oper.wp
    rw [b1 w (Ext.refl w), Oper.upon_value]
    exact hK _ _ (put_after h b2 (Keep.refl _ _) hp) (fun _ => ExtS.refl w)
  have make : evm (oval G fr.env) fr.heap (o.dst.getD 99999) i = some (y, H1) → o.wp P a w K Q := by
    intro hm
    obtain ⟨u, w', ρ', b1, b2, b3, b4, b5⟩ := evm_sound h hc hm
    unfold Oper.wp
    rw [b1, Oper.upon_value]
    exact hK _ _ (put_after b2 b3 ((evm_gr hm).keep b5 hb) hp) (fun _ => ExtS.of_chg b4)
  have qs : ∀ {r : Option V}, (match r with | some y => some (y, fr.heap) | none => none) = some (y, H1) → r = some y ∧ H1 = fr.heap := by
    intro r hr
    cases r with
    | none => simp at hr
    | some z => simp at hr; obtain ⟨rfl, rfl⟩ := hr; exact ⟨rfl, rfl⟩
  by_cases hh : heavy i = false
  · rw [eff_quiet hh] at he
    obtain ⟨e1, e2⟩ := qs he
    exact quiet e1 e2
  cases i <;> first | (exact absurd rfl hh) | skip
  case box => exact make he
  case alc => exact make he
  case bsl => exact make he
  case msl => exact make he
  all_goals simp only [eff] at he
  case st s ad x =>
    split at he
    · rename_i H2 hs
      obtain ⟨rfl, rfl⟩ := by simpa using he
      obtain ⟨w', b1, b2, b3, b4⟩ := evs_sound (P := P) (a := a) h hc hs
      unfold Oper.wp
      rw [b1, Oper.upon_skip]
      exact hK _ _ (put_after b2 (.dead _) (Keep.of_htr b4) hp) (fun hm => by simp [isMut] at hm)
    · simp at he
  case app sz by_ s x =>
    obtain ⟨u, w', ρ', b1, b2, b3, b4⟩ := eva_sound h hc he
    unfold Oper.wp
    rw [b1, Oper.upon_value]
    exact hK _ _ (put_after b2 b3 ((eva_gr he).keep b4 hb) hp) (fun hm => by simp [isMut] at hm)
  case cpy sz d s => simp at he
  case call f xs =>
    split at he
    · rename_i g ys hcall
      have hk := kind_of hc
      have ⟨f0, args, ts, hop⟩ : ∃ f0 args ts, o.op = .call ⟨.value f0, args, ts⟩ := hk
      obtain ⟨odst, op, otype, pos, after, guard⟩ := o
      simp only at hop
      subst hop
      simp only [conv1] at hc
      split at hc
      · rename_i f1 xs1 h1 h2
        obtain ⟨rfl, rfl⟩ := by simpa using hc
        have hg : okFn P g := by
          obtain ⟨ds, r, hr⟩ := evcG_fn he
          exact hC.ok g ds r hr
        obtain ⟨us, c1, c2, c3⟩ := callV_sound (o := ⟨odst, .call ⟨.value f0, args, ts⟩, otype, pos, after, guard⟩) h rfl hg h1 h2 hcall
        unfold Oper.wp
        rw [c3, Oper.upon_enter]
        refine (evcG_sound hG (by rw [← hG]; exact hC.nf) (by rw [← hG]; exact hC.sound g) h c1 c2 he).mono ?_
        rintro e w' ⟨v, ρ', rfl, b1, b2, b3, b4⟩
        exact hK _ _ (put_after b1 b2 (Keep.of_htr b3) hp) (fun hm => ExtS.of_chg (b4 (by
          have hfv : ∃ g' , f1 = .cst (.fn g' []) ∧ (flatM (C.own g')).contains 1 = false := by
            cases f1 with
            | cst d => cases d with
              | fn g' cap => cases cap with
                | nil => exact ⟨g', rfl, by simpa [isMut] using hm⟩
                | cons => simp [isMut] at hm
              | _ => simp [isMut] at hm
            | _ => simp [isMut] at hm
          obtain ⟨g', rfl, hg'⟩ := hfv
          simp only [callV, oval] at hcall
          simp at hcall
          rw [← hcall.1]; exact hg')))
      · simp at hc
    · simp at he
end
end Go.Proofs.YtclhghlpokdiiaaDoor.Wm
set_option linter.unusedSimpArgs false
set_option linter.unusedVariables false
namespace Go.Proofs.YtclhghlpokdiiaaDoor.Wm
open Go
section
variable {P : Program} {ops : Array Oper} {Q : Exit → Act → World → Prop} {S : World → Prop} {mu : Nat → Bool}

/-- Whatever order is picked from here on; behind every operation that turns nothing that stood, S holds. -/
def wpAnyM (P : Program) (ops : Array Oper) (Q : Exit → Act → World → Prop) (S : World → Prop) (mu : Nat → Bool) : Nat → Array Bool → Act → World → Prop
  | 0, listed, a, w => Region.ready .any ops listed = [] ∧ Q .normal a w
  | fuel + 1, listed, a, w => (Region.ready .any ops listed = [] → Q .normal a w) ∧
    ∀ i ∈ Region.ready .any ops listed, wpOp P ops Q i (fun a' w' => if mu i = true then wpAny P .any ops Q fuel (listed.setIfInBounds i true) a' w' else S w' ∧ wpAnyM P ops Q S mu fuel (listed.setIfInBounds i true) a' w') a w

theorem wpAny_of_M : ∀ (fuel : Nat) (listed : Array Bool) (a : Act) (w : World), wpAnyM P ops Q S mu fuel listed a w → wpAny P .any ops Q fuel listed a w
  | 0, _, _, _, h => h
  | fuel + 1, _, _, _, h => ⟨h.1, fun i hi => wpOp_mono (fun a' w' h' => by
      by_cases hm : mu i = true
      · rw [if_pos hm] at h'; exact h'
      · rw [if_neg hm] at h'; exact wpAny_of_M fuel _ a' w' h'.2) (h.2 i hi)⟩
theorem wpM_of_any : ∀ (fuel : Nat) (listed : Array Bool) (a : Act) (w : World), wpAny P .any ops Q fuel listed a w → wpAnyM P ops Q (fun _ => True) (fun _ => false) fuel listed a w
  | 0, _, _, _, h => h
  | fuel + 1, _, _, _, h => ⟨h.1, fun i hi => wpOp_mono (fun a' w' h' => by
      simp only [Bool.false_eq_true, if_false, true_and]; exact wpM_of_any fuel _ a' w' h') (h.2 i hi)⟩

theorem wpAnyM_mono {S' : World → Prop} (hs : ∀ w, S w → S' w) : ∀ (fuel : Nat) (listed : Array Bool) (a : Act) (w : World), wpAnyM P ops Q S mu fuel listed a w → wpAnyM P ops Q S' mu fuel listed a w
  | 0, _, _, _, h => h
  | fuel + 1, _, _, _, h => ⟨h.1, fun i hi => wpOp_mono (fun a' w' h' => by
      by_cases hm : mu i = true
      · rw [if_pos hm] at h' ⊢; exact h'
      · rw [if_neg hm] at h' ⊢; exact ⟨hs w' h'.1, wpAnyM_mono hs fuel _ a' w' h'.2⟩) (h.2 i hi)⟩

/-- What may come up while number i has not: within a set that holds what is listed; whatever lies outside waits for something outside. -/
structure Cert (ops : Array Oper) (i : Nat) (L : Nat → Bool) : Prop where
  out : L i = false
  closed : ∀ (j : Nat) (o : Oper), ops[j]? = some o → L j = false → j ≠ i → ∃ e ∈ o.after, Region.binds .any e = true ∧ L e.on = false

theorem wpAnyM_first {i : Nat} {oi : Oper} {v : Value} {L : Nat → Bool} (hi : ops[i]? = some oi) (hmu : mu i = false) (hsel : ∀ (j : Nat) (o : Oper) cs b, ops[j]? = some o → o.op ≠ .select cs b)
    (hQ : ∀ c a w, Q (.panic c) (a.put oi.dst v) w → Q (.panic c) a w) (hL : Cert ops i L) :
    ∀ (fuel : Nat) (listed : Array Bool) (a : Act) (w : World),
      (∀ j, listed.getD j false = true → L j = true) → (∀ j oj, ops[j]? = some oj → L j = true → listed.getD j true = false → mu j = false ∧ oi.apart ops oj = true) →
      i ∈ Region.ready .any ops listed → YieldsIf P ops S oi v a → S w →
      wpAnyM P ops Q S mu fuel (listed.setIfInBounds i true) (a.put oi.dst v) w → wpAnyM P ops Q S mu (fuel + 1) listed a w := by
  intro fuel
  induction fuel with
  | zero =>
    intro listed a w hin hfree hr hy hS H
    refine ⟨fun h => (by rw [h] at hr; cases hr), fun j hj => ?_⟩
    by_cases hji : j = i
    · subst hji; exact hy.wpOp hi hS (by rw [hmu]; exact ⟨hS, H⟩)
    · have := ready_mono hj hji
      rw [H.1] at this
      cases this
  | succ fuel ih =>
    intro listed a w hin hfree hr hy hS H
    refine ⟨fun h => (by rw [h] at hr; cases hr), fun j hj => ?_⟩
    by_cases hji : j = i
    · subst hji; exact hy.wpOp hi hS (by rw [hmu]; exact ⟨hS, H⟩)
    · have h1 := H.2 j (ready_mono hj hji)
      obtain ⟨hjun, oj, hoj, hall⟩ := mem_ready.1 hj
      have hLj : L j = true := by
        cases hq : L j with
        | true => rfl
        | false =>
          obtain ⟨e, he, hb, hf⟩ := hL.closed j oj hoj hq hji
          have := hin e.on (hall e he hb)
          rw [hf] at this; cases this
      obtain ⟨hmj, hap⟩ := hfree j oj hoj hLj hjun
      rw [hmj] at h1 ⊢
      simp only [Bool.false_eq_true, if_false] at h1 ⊢
      have h2 := wpOp_putIf hoj hap (fun cs b => hsel i oi cs b hi) (fun cs b => hsel j oj cs b hoj) hQ hy h1
      refine wpOp_mono (fun a' w' h3 => ⟨h3.2.1, ih (listed.setIfInBounds j true) a' w' ?_ ?_ (ready_mono hr (Ne.symm hji)) h3.1 h3.2.1 ?_⟩) h2
      · intro k hk
        by_cases hjk : j = k
        · subst hjk; exact hLj
        · rw [getD_set_ne false hjk] at hk; exact hin k hk
      · intro k ok hk hLk hun
        refine hfree k ok hk hLk ?_
        by_cases hjk : j = k
        · subst hjk; exact hjun
        · rw [getD_set_ne true hjk] at hun; exact hun
      · rw [Array.setIfInBounds_comm _ _ hji]
        exact h3.2.2

/-- The same, for what yields in whatever world. -/
theorem wpAnyM_any {i : Nat} {oi : Oper} {v : Value} {L : Nat → Bool} (hi : ops[i]? = some oi) (hmu : mu i = false) (hsel : ∀ (j : Nat) (o : Oper) cs b, ops[j]? = some o → o.op ≠ .select cs b)
    (hQ : ∀ c a w, Q (.panic c) (a.put oi.dst v) w → Q (.panic c) a w) (hL : Cert ops i L) :
    ∀ (fuel : Nat) (listed : Array Bool) (a : Act) (w : World),
      (∀ j, listed.getD j false = true → L j = true) → (∀ j oj, ops[j]? = some oj → L j = true → listed.getD j true = false → oi.apart ops oj = true) →
      i ∈ Region.ready .any ops listed → YieldsIf P ops (fun _ => True) oi v a → S w →
      wpAnyM P ops Q S mu fuel (listed.setIfInBounds i true) (a.put oi.dst v) w → wpAnyM P ops Q S mu (fuel + 1) listed a w := by
  intro fuel
  induction fuel with
  | zero =>
    intro listed a w hin hfree hr hy hS H
    refine ⟨fun h => (by rw [h] at hr; cases hr), fun j hj => ?_⟩
    by_cases hji : j = i
    · subst hji; exact hy.wpOp hi trivial (by rw [hmu]; exact ⟨hS, H⟩)
    · have := ready_mono hj hji
      rw [H.1] at this
      cases this
  | succ fuel ih =>
    intro listed a w hin hfree hr hy hS H
    refine ⟨fun h => (by rw [h] at hr; cases hr), fun j hj => ?_⟩
    by_cases hji : j = i
    · subst hji; exact hy.wpOp hi trivial (by rw [hmu]; exact ⟨hS, H⟩)
    · have h1 := H.2 j (ready_mono hj hji)
      obtain ⟨hjun, oj, hoj, hall⟩ := mem_ready.1 hj
      have hLj : L j = true := by
        cases hq : L j with
        | true => rfl
        | false =>
          obtain ⟨e, he, hb, hf⟩ := hL.closed j oj hoj hq hji
          have := hin e.on (hall e he hb)
          rw [hf] at this; cases this
      have hap := hfree j oj hoj hLj hjun
      have hin' : ∀ k, (listed.setIfInBounds j true).getD k false = true → L k = true := by
        intro k hk
        by_cases hjk : j = k
        · subst hjk; exact hLj
        · rw [getD_set_ne false hjk] at hk; exact hin k hk
      have hfree' : ∀ k ok, ops[k]? = some ok → L k = true → (listed.setIfInBounds j true).getD k true = false → oi.apart ops ok = true := by
        intro k ok hk hLk hun
        refine hfree k ok hk hLk ?_
        by_cases hjk : j = k
        · subst hjk; exact hjun
        · rw [getD_set_ne true hjk] at hun; exact hun
      have h2 := wpOp_putIf hoj hap (fun cs b => hsel i oi cs b hi) (fun cs b => hsel j oj cs b hoj) hQ hy h1
      refine wpOp_mono (fun a' w' h3 => ?_) h2
      obtain ⟨h3, h4⟩ := h3
      by_cases hm : mu j = true
      · rw [if_pos hm] at h4 ⊢
        refine wpAny_of_M _ _ _ _ (wpAnyM_first (S := fun _ => True) (mu := fun _ => false) hi rfl hsel hQ hL fuel (listed.setIfInBounds j true) a' w' hin' (fun k ok hk hLk hun => ⟨rfl, hfree' k ok hk hLk hun⟩) (ready_mono hr (Ne.symm hji)) h3 trivial ?_)
        rw [Array.setIfInBounds_comm _ _ hji]
        exact wpM_of_any _ _ _ _ h4
      · rw [if_neg hm] at h4 ⊢
        refine ⟨h4.1, ih (listed.setIfInBounds j true) a' w' hin' hfree' (ready_mono hr (Ne.symm hji)) h3 h4.1 ?_⟩
        rw [Array.setIfInBounds_comm _ _ hji]
        exact h4.2
end

/-! Trees of orders -/
inductive Tr where
  | done
  | take (i : Nat) (t : Tr)
  | fork (t : Tr)
  | alt (i : Nat) (t rest : Tr)
  | nil

def Tr.heads : Tr → List Nat
  | .alt i _ r => i :: r.heads
  | _ => []
def Tr.paths : Tr → List (List Nat)
  | .done => [[]]
  | .take i t => t.paths.map (i :: ·)
  | .fork t => t.paths
  | .alt i t r => t.paths.map (i :: ·) ++ r.paths
  | .nil => []
def Tr.isL : Tr → Bool
  | .alt .. => true
  | .nil => true
  | _ => false

def mutAt (own : FuncId → List Nat) (vs : List Vop) (i : Nat) : Bool := match vs[i]? with
  | some v => isMut own v.i
  | none => false

/-- All but number i and what waits for it. -/
def awayOf (ops : Array Oper) (i : Nat) : Array Bool :=
  (List.range ops.size).foldl (fun acc j => acc.push (!(j == i) && match ops[j]? with
    | some o => o.after.all fun e => !Region.binds .any e || acc.getD e.on true
    | none => true)) #[]

def certB (own : FuncId → List Nat) (ops : Array Oper) (vs : List Vop) (listed : Array Bool) (i : Nat) (oi : Oper) (rd : Bool) : Bool :=
  let L := awayOf ops i
  (L.getD i true == false) &&
  ((List.range ops.size).all fun j => L.getD j true || j == i || match ops[j]? with
    | some o => o.after.any fun e => Region.binds .any e && !L.getD e.on true
    | none => true) &&
  ((List.range ops.size).all fun j => !listed.getD j false || L.getD j true) &&
  ((List.range ops.size).all fun j => !L.getD j true || listed.getD j true || match ops[j]? with
    | some oj => (!rd || !mutAt own vs j) && oi.apart ops oj
    | none => true)

def okT (own : FuncId → List Nat) (ops : Array Oper) (vs : List Vop) : Nat → Array Bool → Tr → Bool
  | 0, listed, .done => (Region.ready .any ops listed).isEmpty
  | n + 1, listed, .take i t => (match ops[i]?, vs[i]? with
    | some o, some v => if heavy v.i = true then (Region.ready .any ops listed == [i]) else (Region.ready .any ops listed).contains i && certB own ops vs listed i o (reads v.i)
    | _, _ => false) && !t.isL && okT own ops vs n (listed.setIfInBounds i true) t
  | n + 1, listed, .fork t => t.isL && (Region.ready .any ops listed != []) && (Region.ready .any ops listed).all (fun j => t.heads.contains j) && okT own ops vs (n + 1) listed t
  | n + 1, listed, .alt i t r => !t.isL && r.isL && decide (i < ops.size) && okT own ops vs n (listed.setIfInBounds i true) t && okT own ops vs (n + 1) listed r
  | _, _, .nil => true
  | _, _, _ => false

def stepsI (C : Cx) (vs : List Vop) : Fr → List Nat → Option Fr
  | fr, [] => some fr
  | fr, i :: l => match vs[i]? with
    | some v => match stepO C fr v with
      | some fr1 => stepsI C vs fr1 l
      | none => none
    | none => none
end Go.Proofs.YtclhghlpokdiiaaDoor.Wm
set_option linter.unusedSimpArgs false
set_option linter.unusedVariables false
namespace Go.Proofs.YtclhghlpokdiiaaDoor.Wm
open Go
section
variable {P : Program} {G : Nat → Option (List D)} {w0 : World} {L X0 X1 : Nat → Prop} {w w' w2 : World} {tm : Array Value} {fr : Fr} {ρ ρ' : Place} {X : K → Nat → Prop} {H : Heap}

/-- Whether the guarded operation is carried out. -/
theorem cond_sound {ops : Array Oper} {j t : Nat} {want c : Bool} {v : V} {tmps : Array Value} {o : Oper} (ho : o.guard = some (j, want)) (hj : (ops[j]?).bind (·.dst) = some t) (hv : RepE w X H ρ v (tmps.getD t undef)) (he : condV v want = some c) :
    Region.wanted o (yielded ops tmps) = c := by
  unfold Region.wanted yielded
  simp only [ho, hj, Option.bind_some]
  generalize hq : tmps.getD t undef = q at hv
  unfold condV at he
  split at he
  · rename_i b
    obtain rfl := Option.some.inj he
    have hb := rep_bool hv
    subst hb
    have isb : tmps[t]? = some (.bool b) := by
      rw [Array.getD_eq_getD_getElem?] at hq
      cases hp : tmps[t]? with
      | none => rw [hp] at hq; simp [undef] at hq
      | some p => rw [hp] at hq; simpa using hq
    rw [isb]
    cases b <;> cases want <;> rfl
  · obtain rfl := Option.some.inj he
    cases hv with
    | tup _ us hs _ =>
      have hus : us = #[] := Array.eq_empty_of_size_eq_zero (by simpa using hs)
      subst hus
      cases hp : tmps[t]? with
      | none => simp
      | some p =>
        rw [Array.getD_eq_getD_getElem?, hp] at hq
        simp at hq
        subst hq
        simp
  · simp at he

theorem After.trans {a a1 a2 : Act} {H1 : Heap} {ρ1 : Place} {fr2 : Fr} (h1 : a1.defers = a.defers ∧ a1.tmps.size = a.tmps.size ∧ Keep H H1 ρ ρ1) (h2 : After G w0 L X0 a1 a2 w2 H1 ρ1 fr2) : After G w0 L X0 a a2 w2 H ρ fr2 := by
  obtain ⟨ρ', b1, b2, b3, b4⟩ := h2
  exact ⟨ρ', b1, b2.trans h1.1, b3.trans h1.2.1, h1.2.2.trans b4⟩
theorem After.start {a : Act} (h : FR G w0 L X0 w a.tmps fr ρ) : After G w0 L X0 a a w fr.heap ρ fr := ⟨ρ, h, rfl, rfl, Keep.refl _ _⟩

theorem rep_undef : RepE w X H ρ (.tup []) undef := .tup [] #[] rfl (by simp)

theorem stepO_sound {C : Cx} (hC : CSound P C) (hG : C.gl = G) {a : Act} (h : FR G w0 L X0 w a.tmps fr ρ) (hnt : fr.nt ≤ 99999) {ops : Array Oper} {i : Nat} {o : Oper} {v : Vop} {fr' : Fr} (hi : ops[i]? = some o) (hv : vopOf P ops o v) (he : stepO C fr v = some fr')
    {K : Act → World → Prop} {Q : Exit → Act → World → Prop} (hK : ∀ a' w', After G w0 L X0 a a' w' fr.heap ρ fr' → (isMut C.own v.i = false → ExtS w w') → K a' w') : wpOp P ops Q i K a w := by
  obtain ⟨v1, v2, v3⟩ := hv
  unfold stepO at he
  unfold wpOp
  simp only [hi]
  rcases v3 with ⟨hg, hvg⟩ | ⟨j, want, t, hg, hj, hvg⟩
  · rw [hvg] at he
    simp only at he
    rw [v1] at he
    have hw : Region.wanted o (yielded ops a.tmps) = true := by simp [Region.wanted, hg]
    rw [if_pos hw]
    exact .inl (step1_sound hC hG h hnt v2 he hK)
  · rw [hvg] at he
    simp only at he
    have hrt : RepE w (XX w0 X0 fr.heap ρ) fr.heap ρ (oval C.gl fr.env (.tmp t)) (a.tmps.getD t undef) := by
      rw [hG]
      simp only [oval]
      split
      · rename_i x hx; exact h.env t x hx
      · exact .dead _
    split at he
    · rename_i hc
      have hw := cond_sound hg hj hrt hc
      rw [if_pos hw]
      rw [v1] at he
      exact .inl (step1_sound hC hG h hnt v2 he hK)
    · rename_i hc
      have hw := cond_sound hg hj hrt hc
      rw [if_neg (by rw [hw]; simp)]
      rw [v1] at he
      exact hK _ _ (put_after h rep_undef (Keep.refl _ _) he) (fun _ => ExtS.refl w)
    · simp at he

/-- A quiet operation yields one value in every world in which the blocks that stand are as they are; or in whatever world, if it reads no memory. -/
theorem stepO_quiet {C : Cx} (hG : C.gl = G) {a : Act} (h : FR G w0 L X0 w a.tmps fr ρ) {ops : Array Oper} {o : Oper} {v : Vop} {fr' : Fr} (hv : vopOf P ops o v) (hq : heavy v.i = false) (he : stepO C fr v = some fr') {Qw : World → Prop} (hQ : reads v.i = true → ∀ w', Qw w' → Ext w w') :
    ∃ u, YieldsIf P ops Qw o u a ∧ After G w0 L X0 a (a.put o.dst u) w fr.heap ρ fr' := by
  obtain ⟨v1, v2, v3⟩ := hv
  have one : step1 C fr v.dst v.i = some fr' → ∃ u, (∀ w', Qw w' → (execOp a.eval o).run P w' = .ok (.value u) w') ∧ After G w0 L X0 a (a.put o.dst u) w fr.heap ρ fr' := by
    intro he
    unfold step1 at he
    rw [eff_quiet hq, hG, v1] at he
    cases hy : evq fr.heap (oval G fr.env) v.i with
    | none => rw [hy] at he; simp [putR] at he
    | some y =>
      rw [hy] at he
      simp only [putR] at he
      obtain ⟨u, b1, b2⟩ := evq_sound' h v2 hy hQ
      exact ⟨u, b1, put_after h b2 (Keep.refl _ _) he⟩
  unfold stepO at he
  rcases v3 with ⟨hg, hvg⟩ | ⟨j, want, t, hg, hj, hvg⟩
  · rw [hvg] at he
    simp only at he
    obtain ⟨u, b1, b2⟩ := one he
    exact ⟨u, .inl ⟨by simp [Region.wanted, hg], b1⟩, b2⟩
  · rw [hvg] at he
    simp only at he
    have hrt : RepE w (XX w0 X0 fr.heap ρ) fr.heap ρ (oval C.gl fr.env (.tmp t)) (a.tmps.getD t undef) := by
      rw [hG]
      simp only [oval]
      split
      · rename_i x hx; exact h.env t x hx
      · exact .dead _
    split at he
    · rename_i hc
      have hw := cond_sound hg hj hrt hc
      obtain ⟨u, b1, b2⟩ := one he
      exact ⟨u, .inl ⟨hw, b1⟩, b2⟩
    · rename_i hc
      have hw := cond_sound hg hj hrt hc
      rw [v1] at he
      exact ⟨undef, .inr ⟨hw, rfl⟩, put_after h rep_undef (Keep.refl _ _) he⟩
    · simp at he

theorem certB_spec {own : FuncId → List Nat} {ops : Array Oper} {vs : List Vop} {listed : Array Bool} {i : Nat} {oi : Oper} {rd : Bool} (h : certB own ops vs listed i oi rd = true) :
    Cert ops i (fun j => (awayOf ops i).getD j true) ∧ (∀ j, listed.getD j false = true → j < ops.size → (awayOf ops i).getD j true = true) ∧
      (∀ (j : Nat) (oj : Oper), ops[j]? = some oj → (awayOf ops i).getD j true = true → listed.getD j true = false → (rd = true → mutAt own vs j = false) ∧ oi.apart ops oj = true) := by
  simp only [certB, Bool.and_eq_true, List.all_eq_true, List.mem_range, beq_iff_eq] at h
  obtain ⟨⟨⟨h1, h2⟩, h3⟩, h4⟩ := h
  refine ⟨⟨h1, fun j o ho hL hji => ?_⟩, fun j hj hlt => ?_, fun j oj hoj hL hun => ?_⟩
  · have := h2 j (Array.getElem?_eq_some_iff.1 ho).1
    simp only [ho] at this
    have hL' : (awayOf ops i).getD j true = false := hL
    simp only [hL', Bool.false_or, Bool.or_eq_true, beq_iff_eq, hji, false_or] at this
    obtain ⟨e, he, hb⟩ := Array.any_eq_true'.1 this
    simp only [Bool.and_eq_true, Bool.not_eq_true'] at hb
    exact ⟨e, he, hb.1, hb.2⟩
  · have := h3 j hlt
    simp only [hj, Bool.not_true, Bool.false_or] at this
    exact this
  · have := h4 j (Array.getElem?_eq_some_iff.1 hoj).1
    simp only [hoj, hL, hun, Bool.not_true, Bool.false_or, Bool.and_eq_true] at this
    exact ⟨fun hr => by simpa [hr] using this.1, this.2⟩

def TrSem (P : Program) (ops : Array Oper) (Q : Exit → Act → World → Prop) (S : World → Prop) (mu : Nat → Bool) (n : Nat) (listed : Array Bool) (a : Act) (w : World) (t : Tr) : Prop :=
  if t.isL = true then ∀ i ∈ t.heads, ∃ m, n = m + 1 ∧ wpOp P ops Q i (fun a' w' => if mu i = true then wpAny P .any ops Q m (listed.setIfInBounds i true) a' w' else S w' ∧ wpAnyM P ops Q S mu m (listed.setIfInBounds i true) a' w') a w
  else wpAnyM P ops Q S mu n listed a w

theorem tree_sound {C : Cx} (hC : CSound P C) (hG : C.gl = G) {ops : Array Oper} {vs : List Vop} (hvs : ∀ (i : Nat) (o : Oper), ops[i]? = some o → ∃ v, vs[i]? = some v ∧ vopOf P ops o v) (hsel : Region.noSelect ops = true) {R : Act → World → Prop} : ∀ (t : Tr) (n : Nat) {listed : Array Bool} {S : World → Prop} {w : World} {a : Act} {fr : Fr} {ρ : Place},
    listed.size = ops.size → okT C.own ops vs n listed t = true → FR G w0 L X0 w a.tmps fr ρ → fr.nt ≤ 99999 → (∀ w', Ext w w' → S w') → (∀ p ∈ t.paths, ∃ fr', stepsI C vs fr p = some fr' ∧ ∀ a' w', After G w0 L X0 a a' w' fr.heap ρ fr' → R a' w') →
    TrSem P ops (fun e a w => e = .normal ∧ R a w) S (mutAt C.own vs) n listed a w t := by
  have stepH : ∀ (i : Nat) (t : Tr) (n : Nat) {listed : Array Bool} {S : World → Prop} {w : World} {a : Act} {fr : Fr} {ρ : Place} {o : Oper} {v : Vop}, ops[i]? = some o → vs[i]? = some v →
      (∀ {S : World → Prop} {w1 : World} {a1 : Act} {fr1 : Fr} {ρ1 : Place}, FR G w0 L X0 w1 a1.tmps fr1 ρ1 → fr1.nt ≤ 99999 → (∀ w', Ext w1 w' → S w') → (∀ p ∈ t.paths, ∃ fr', stepsI C vs fr1 p = some fr' ∧ ∀ a' w', After G w0 L X0 a1 a' w' fr1.heap ρ1 fr' → R a' w') →
        wpAnyM P ops (fun e a w => e = .normal ∧ R a w) S (mutAt C.own vs) n (listed.setIfInBounds i true) a1 w1) →
      t.paths ≠ [] → FR G w0 L X0 w a.tmps fr ρ → fr.nt ≤ 99999 → (∀ w', Ext w w' → S w') → (∀ p ∈ t.paths, ∃ fr', stepsI C vs fr (i :: p) = some fr' ∧ ∀ a' w', After G w0 L X0 a a' w' fr.heap ρ fr' → R a' w') →
      wpOp P ops (fun e a w => e = .normal ∧ R a w) i (fun a' w' => if mutAt C.own vs i = true then wpAny P .any ops (fun e a w => e = .normal ∧ R a w) n (listed.setIfInBounds i true) a' w' else S w' ∧ wpAnyM P ops (fun e a w => e = .normal ∧ R a w) S (mutAt C.own vs) n (listed.setIfInBounds i true) a' w') a w := by
    intro i t n listed S w a fr ρ o v ho hv ih hne h hnt hS hp
    obtain ⟨v', hv', hvo⟩ := hvs i o ho
    rw [hv] at hv'; obtain rfl := Option.some.inj hv'
    have hmu : mutAt C.own vs i = isMut C.own v.i := by simp [mutAt, hv]
    obtain ⟨p0, hp0⟩ := List.exists_mem_of_ne_nil _ hne
    obtain ⟨fr0, hs0, _⟩ := hp p0 hp0
    simp only [stepsI, hv] at hs0
    split at hs0
    · rename_i fr1 h1
      refine stepO_sound hC hG h hnt ho hvo h1 fun a1 w1 ⟨ρ1, b1, b2, b3, b4⟩ hext => ?_
      have go : ∀ S' : World → Prop, (∀ w', Ext w1 w' → S' w') → wpAnyM P ops (fun e a w => e = .normal ∧ R a w) S' (mutAt C.own vs) n (listed.setIfInBounds i true) a1 w1 := fun S' hS' =>
        ih b1 (by rw [← b1.nt, b3, h.nt]; exact hnt) hS' fun p hpp => by
          obtain ⟨fr', q1, q2⟩ := hp p hpp
          simp only [stepsI, hv, h1] at q1
          exact ⟨fr', q1, fun a' w' h2 => q2 _ _ (h2.trans ⟨b2, b3, b4⟩)⟩
      by_cases hm : mutAt C.own vs i = true
      · rw [if_pos hm]
        exact wpAny_of_M _ _ _ _ (go (fun _ => True) fun _ _ => trivial)
      · rw [if_neg hm]
        have hx := hext (by rw [← hmu]; simpa using hm)
        exact ⟨hS _ hx.1, go S fun w2 h2 => hS _ fun b hb => (h2 b (Nat.lt_of_lt_of_le hb hx.2)).trans (hx.1 b hb)⟩
    · simp at hs0
  have pne : ∀ (t : Tr) (n : Nat) (listed : Array Bool), okT C.own ops vs n listed t = true → t ≠ .nil → t.paths ≠ [] := by
    intro t
    induction t with
    | done => intro n listed h hn; simp [Tr.paths]
    | take i t ih =>
      intro n listed h hn
      cases n with
      | zero => simp [okT] at h
      | succ n =>
        simp only [okT, Bool.and_eq_true, Bool.not_eq_true'] at h
        have := ih n _ h.2 (by rintro rfl; simp [Tr.isL] at h)
        simpa [Tr.paths] using this
    | fork t ih =>
      intro n listed h hn
      cases n with
      | zero => simp [okT] at h
      | succ n =>
        simp only [okT, Bool.and_eq_true] at h
        obtain ⟨⟨⟨h1, h2⟩, h3⟩, h4⟩ := h
        refine ih _ _ h4 ?_
        rintro rfl
        simp only [Tr.heads, List.contains_nil, List.all_eq_true, Bool.false_eq_true, imp_false] at h3
        have : Region.ready .any ops listed = [] := List.eq_nil_iff_forall_not_mem.2 h3
        simp [this] at h2
    | alt i t r ih1 ih2 =>
      intro n listed h hn
      cases n with
      | zero => simp [okT] at h
      | succ n =>
        simp only [okT, Bool.and_eq_true, Bool.not_eq_true'] at h
        have := ih1 n _ h.1.2 (by rintro rfl; simp [Tr.isL] at h)
        simp [Tr.paths, this]
    | nil => intro n listed h hn; exact absurd rfl hn
  intro t
  induction t with
  | done =>
    intro n listed S w a fr ρ hsz hok h hnt hS hp
    cases n with
    | zero =>
      simp only [okT, List.isEmpty_iff] at hok
      obtain ⟨fr', q1, q2⟩ := hp [] (by simp [Tr.paths])
      simp only [stepsI] at q1
      obtain rfl := Option.some.inj q1
      simp only [TrSem, Tr.isL, Bool.false_eq_true, if_false]
      exact ⟨hok, rfl, q2 _ _ (After.start h)⟩
    | succ n => simp [okT] at hok
  | take i t ih =>
    intro n listed S w a fr ρ hsz hok h hnt hS hp
    cases n with
    | zero => simp [okT] at hok
    | succ n =>
      simp only [okT, Bool.and_eq_true, Bool.not_eq_true'] at hok
      obtain ⟨⟨hk, hl⟩, hok⟩ := hok
      have hne : t.paths ≠ [] := pne t n _ hok (by rintro rfl; simp [Tr.isL] at hl)
      have ih' : ∀ {S : World → Prop} {w1 : World} {a1 : Act} {fr1 : Fr} {ρ1 : Place}, FR G w0 L X0 w1 a1.tmps fr1 ρ1 → fr1.nt ≤ 99999 → (∀ w', Ext w1 w' → S w') → (∀ p ∈ t.paths, ∃ fr', stepsI C vs fr1 p = some fr' ∧ ∀ a' w', After G w0 L X0 a1 a' w' fr1.heap ρ1 fr' → R a' w') →
        wpAnyM P ops (fun e a w => e = .normal ∧ R a w) S (mutAt C.own vs) n (listed.setIfInBounds i true) a1 w1 := fun q1 q2 q3 q4 => by
          have := ih n (listed := listed.setIfInBounds i true) (by simpa using hsz) hok q1 q2 q3 q4
          simpa only [TrSem, hl, Bool.false_eq_true, if_false] using this
      have hp' : ∀ p ∈ t.paths, ∃ fr', stepsI C vs fr (i :: p) = some fr' ∧ ∀ a' w', After G w0 L X0 a a' w' fr.heap ρ fr' → R a' w' := fun p hpp => hp (i :: p) (by simp [Tr.paths, hpp])
      simp only [TrSem, Tr.isL, Bool.false_eq_true, if_false]
      split at hk
      · rename_i o v ho hv
        split at hk
        · have hrd : Region.ready .any ops listed = [i] := by simpa using hk
          refine ⟨fun h0 => by rw [hrd] at h0; simp at h0, fun j hj => ?_⟩
          rw [hrd] at hj
          obtain rfl : j = i := by simpa using hj
          exact stepH j t n ho hv ih' hne h hnt hS hp'
        · rename_i hq
          have hq' : heavy v.i = false := by simpa using hq
          simp only [Bool.and_eq_true] at hk
          obtain ⟨v', hv', hvo⟩ := hvs i o ho
          rw [hv] at hv'; obtain rfl := Option.some.inj hv'
          obtain ⟨k1, k2, k3⟩ := certB_spec hk.2
          have hrd : i ∈ Region.ready .any ops listed := by simpa using hk.1
          have hin : ∀ j, listed.getD j false = true → (awayOf ops i).getD j true = true := fun j hj => by
            refine k2 j hj ?_
            rw [← hsz]
            rcases Nat.lt_or_ge j listed.size with hlt | hge
            · exact hlt
            · rw [Array.getD_eq_getD_getElem?, Array.getElem?_eq_none hge] at hj; simp at hj
          have hmut : mutAt C.own vs i = false := by
            simp only [mutAt, hv]
            cases hvi : v.i <;> rw [hvi] at hq' <;> first | rfl | (simp [heavy] at hq')
          obtain ⟨p0, hp0⟩ := List.exists_mem_of_ne_nil _ hne
          obtain ⟨fr0, hs0, _⟩ := hp' p0 hp0
          simp only [stepsI, hv] at hs0
          split at hs0
          · rename_i fr1 h1
            have rest : ∀ {u : Value}, After G w0 L X0 a (a.put o.dst u) w fr.heap ρ fr1 → wpAnyM P ops (fun e a w => e = .normal ∧ R a w) (Ext w) (mutAt C.own vs) n (listed.setIfInBounds i true) (a.put o.dst u) w := by
              rintro u ⟨ρ1, b1, b2, b3, b4⟩
              refine ih' b1 (by rw [← b1.nt, b3, h.nt]; exact hnt) (fun _ h => h) fun p hpp => ?_
              obtain ⟨fr', q1, q2⟩ := hp' p hpp
              simp only [stepsI, hv, h1] at q1
              exact ⟨fr', q1, fun a' w' h2 => q2 _ _ (h2.trans ⟨b2, b3, b4⟩)⟩
            cases hrdv : reads v.i with
            | true =>
              obtain ⟨u, hy, hA⟩ := stepO_quiet hG h hvo hq' h1 (Qw := Ext w) (fun _ _ h => h)
              exact wpAnyM_mono hS _ _ _ _ (wpAnyM_first ho hmut (Region.noSelect_spec hsel) (fun c a w hh => by simp at hh) k1 n listed a w hin (fun j oj q1 q2 q3 => ⟨(k3 j oj q1 q2 q3).1 hrdv, (k3 j oj q1 q2 q3).2⟩) hrd hy (Ext.refl w) (rest hA))
            | false =>
              obtain ⟨u, hy, hA⟩ := stepO_quiet hG h hvo hq' h1 (Qw := fun _ => True) (fun hh => by rw [hrdv] at hh; simp at hh)
              exact wpAnyM_mono hS _ _ _ _ (wpAnyM_any ho hmut (Region.noSelect_spec hsel) (fun c a w hh => by simp at hh) k1 n listed a w hin (fun j oj q1 q2 q3 => (k3 j oj q1 q2 q3).2) hrd hy (Ext.refl w) (rest hA))
          · simp at hs0
      · simp at hk
  | fork t ih =>
    intro n listed S w a fr ρ hsz hok h hnt hS hp
    cases n with
    | zero => simp [okT] at hok
    | succ n =>
      simp only [okT, Bool.and_eq_true] at hok
      obtain ⟨⟨⟨h1, h2⟩, h3⟩, h4⟩ := hok
      have := ih (n + 1) hsz h4 h hnt hS hp
      simp only [TrSem, h1, if_true] at this
      simp only [TrSem, Tr.isL, Bool.false_eq_true, if_false]
      refine ⟨fun h0 => by rw [h0] at h2; simp at h2, fun j hj => ?_⟩
      obtain ⟨m, hm, hw⟩ := this j (by simpa using List.all_eq_true.1 h3 j hj)
      obtain rfl : n = m := by omega
      exact hw
  | alt i t r ih1 ih2 =>
    intro n listed S w a fr ρ hsz hok h hnt hS hp
    cases n with
    | zero => simp [okT] at hok
    | succ n =>
      simp only [okT, Bool.and_eq_true, Bool.not_eq_true', decide_eq_true_eq] at hok
      obtain ⟨⟨⟨⟨h1, h2⟩, hlt⟩, h3⟩, h4⟩ := hok
      have k2 := ih2 (n + 1) hsz h4 h hnt hS fun p hpp => hp p (by simp [Tr.paths, hpp])
      simp only [TrSem, h2, if_true] at k2
      simp only [TrSem, Tr.isL, if_true, Tr.heads]
      intro j hj
      rcases List.mem_cons.1 hj with rfl | hj
      · refine ⟨n, rfl, ?_⟩
        have hne : t.paths ≠ [] := pne t n _ h3 (by rintro rfl; simp [Tr.isL] at h1)
        have hp' : ∀ p ∈ t.paths, ∃ fr', stepsI C vs fr (j :: p) = some fr' ∧ ∀ a' w', After G w0 L X0 a a' w' fr.heap ρ fr' → R a' w' := fun p hpp => hp (j :: p) (by simp [Tr.paths, hpp])
        have hex : ∃ o v, ops[j]? = some o ∧ vs[j]? = some v := by
          obtain ⟨p0, hp0⟩ := List.exists_mem_of_ne_nil _ hne
          obtain ⟨fr0, hs0, _⟩ := hp' p0 hp0
          simp only [stepsI] at hs0
          split at hs0
          · rename_i v hv
            exact ⟨ops[j], v, by simp [hlt], hv⟩
          · simp at hs0
        obtain ⟨o, v, ho, hv⟩ := hex
        exact stepH j t n ho hv (fun q1 q2 q3 q4 => by
          have := ih1 n (listed := listed.setIfInBounds j true) (by simpa using hsz) h3 q1 q2 q3 q4
          simpa only [TrSem, h1, Bool.false_eq_true, if_false] using this) hne h hnt hS hp'
      · exact k2 j hj
  | nil =>
    intro n listed S w a fr ρ hsz hok h hnt hS hp
    simp only [TrSem, Tr.isL, if_true, Tr.heads]
    intro i hi
    simp at hi
end
end Go.Proofs.YtclhghlpokdiiaaDoor.Wm
set_option linter.unusedSimpArgs false
set_option linter.unusedVariables false
namespace Go.Proofs.YtclhghlpokdiiaaDoor.Wm
open Go

/-! Tidying: what is kept, and under which names -/
mutual
def renV (r : Nat → Option Nat) : V → V
  | .sl b o n => match r b with
    | some b' => .sl b' o n
    | none => .dead
  | .pt b o => match r b with
    | some b' => .pt b' o
    | none => .dead
  | .ep b i o => match r b with
    | some b' => .ep b' i o
    | none => .dead
  | .agg vs => .agg (renL r vs)
  | .tup vs => .tup (renL r vs)
  | .fn f vs => .fn f (renL r vs)
  | .val d => .val d
  | .emp sz => .emp sz
  | .dead => .dead
  | .anyb => .anyb
def renL (r : Nat → Option Nat) : List V → List V
  | [] => []
  | x :: xs => renV r x :: renL r xs
end
theorem renL_map (r : Nat → Option Nat) : ∀ xs, renL r xs = xs.map (renV r)
  | [] => rfl
  | x :: xs => by simp [renL, renL_map r xs]

def renB (r : Nat → Option Nat) : Blk → Blk
  | .var old cs => .var old (renL r cs)
  | B => B

def rmap (ren : List (Nat × Nat)) (b : Nat) : Option Nat := if 1000000000 ≤ b then some b else look b ren
def renA (r : Nat → Option Nat) (H : Heap) : List (Nat × Nat) → Heap
  | [] => []
  | (o, n) :: l => match look o H with
    | some B => (n, renB r B) :: renA r H l
    | none => renA r H l
def renP (r : Nat → Option Nat) : Heap → Heap
  | [] => []
  | (b, B) :: l => if 1000000000 ≤ b then (b, renB r B) :: renP r l else renP r l
def renH (ren : List (Nat × Nat)) (H : Heap) : Heap := renA (rmap ren) H ren ++ renP (rmap ren) H
def keepE (r : Nat → Option Nat) (env : List (Nat × V)) : List Nat → List (Nat × V)
  | [] => []
  | t :: ts => match look t env with
    | some x => (t, renV r x) :: keepE r env ts
    | none => keepE r env ts

def inN (n : Nat) : List Nat → Bool
  | [] => false
  | m :: l => if m = n then true else inN n l
def okRen : List (Nat × Nat) → Bool
  | [] => true
  | (o, n) :: l => decide (o < 1000000000) && decide (n < 1000000000) && !inN o (l.map (·.1)) && !inN n (l.map (·.2)) && okRen l

structure Hint where
  pre : List Nat
  keep : List Nat
  ren : List (Nat × Nat)
  voids : List (Nat × Nat × Nat)
  cells : List (Nat × Nat × Nat × Nat)
  olds : List Nat

def freezeT (fr : Fr) : List Nat → Option Fr
  | [] => some fr
  | t :: ts => match look t fr.env with
    | some x => match plainV fr.heap x with
      | some (d, H) => freezeT { fr with env := (t, .val d) :: fr.env, heap := H } ts
      | none => none
    | none => none
def voidT (fr : Fr) : List (Nat × Nat × Nat) → Option Fr
  | [] => some fr
  | (t, id, sz) :: l => match look t fr.env with
    | some (.emp sz') => if sz' = sz ∧ free id fr.heap = true ∧ id < 1000000000 then voidT { fr with env := (t, .sl id 0 0) :: fr.env, heap := (id, .row false sz []) :: fr.heap } l else none
    | _ => voidT fr l
/-- A cell that holds no slice yet comes to hold one of its own. -/
def voidC (fr : Fr) : List (Nat × Nat × Nat × Nat) → Option Fr
  | [] => some fr
  | (b, j, id, sz) :: l => match look b fr.heap with
    | some (.var old cs) => match cs[j]? with
      | some (.emp sz') => if sz' = sz ∧ free id fr.heap = true ∧ id < 1000000000 then voidC { fr with heap := updB b (.var old (cs.set j (.sl id 0 0))) ((id, .row false sz []) :: fr.heap) } l else none
      | _ => voidC fr l
    | _ => voidC fr l
/-- Blocks come to count as old ones. -/
def oldB (fr : Fr) : List Nat → Fr
  | [] => fr
  | b :: l => match look b fr.heap with
    | some (.row _ sz els) => oldB { fr with heap := updB b (.row true sz els) fr.heap } l
    | some (.var _ cs) => oldB { fr with heap := updB b (.var true cs) fr.heap } l
    | _ => oldB fr l
def voids2 (fr : Fr) (h : Hint) : Option Fr := match voidC fr h.cells with
  | some fr1 => (voidT fr1 h.voids).map fun fr2 => oldB fr2 h.olds
  | none => none
def renF (keep : List Nat) (ren : List (Nat × Nat)) (fr : Fr) : Fr := ⟨keepE (rmap ren) fr.env keep, renH ren fr.heap, fr.nt⟩
def tidy (h : Hint) (fr : Fr) : Option Fr := match freezeT fr h.pre with
  | some fr1 => match voids2 fr1 h with
    | some fr2 => if okRen h.ren = true then some (renF h.keep h.ren fr2) else none
    | none => none
  | none => none
def tidyO (h : Option Hint) (fr : Fr) : Option Fr := match h with
  | some h => tidy h fr
  | none => some fr

section
variable {P : Program} {G : Nat → Option (List D)} {w0 : World} {L X0 X1 : Nat → Prop} {w w' w2 : World} {tm : Array Value} {fr : Fr} {ρ ρ' : Place} {X : K → Nat → Prop} {H : Heap}

theorem FR.putTm (h : FR G w0 L X0 w tm fr ρ) {t : Nat} {x : V} (hx : RepE w (XX w0 X0 fr.heap ρ) fr.heap ρ x (tm.getD t undef)) : FR G w0 L X0 w tm { fr with env := (t, x) :: fr.env } ρ :=
  ⟨h.chg, h.x0, h.blk, h.sep, h.new, h.out, fun s y hy => by
    simp only [look] at hy
    split at hy
    · rename_i hs; subst hs; obtain rfl := Option.some.inj hy; exact hx
    · exact h.env s y hy, h.nt, h.gl⟩

theorem freezeT_sound : ∀ {ts : List Nat} {fr fr' : Fr}, FR G w0 L X0 w tm fr ρ → freezeT fr ts = some fr' → FR G w0 L X0 w tm fr' ρ ∧ Keep fr.heap fr'.heap ρ ρ
  | [], fr, fr', h, he => by
    simp only [freezeT] at he
    obtain rfl := Option.some.inj he
    exact ⟨h, Keep.refl _ _⟩
  | t :: ts, fr, fr', h, he => by
    simp only [freezeT] at he
    split at he
    · rename_i x hx
      split at he
      · rename_i d H1 hp
        obtain ⟨a1, a2, a3, a4⟩ := plainV_sound h (h.env t x hx) hp
        obtain ⟨b1, b2⟩ := freezeT_sound (a1.putTm (t := t) (x := .val d) (.val d _ a4)) he
        exact ⟨b1, (Keep.of_htr a3).trans b2⟩
      · simp at he
    · simp at he

theorem voidT_sound : ∀ {l : List (Nat × Nat × Nat)} {fr fr' : Fr} {ρ : Place}, FR G w0 L X0 w tm fr ρ → voidT fr l = some fr' → ∃ ρ', FR G w0 L X0 w tm fr' ρ' ∧ Keep fr.heap fr'.heap ρ ρ'
  | [], fr, fr', ρ, h, he => by
    simp only [voidT] at he
    obtain rfl := Option.some.inj he
    exact ⟨ρ, h, Keep.refl _ _⟩
  | (t, id, sz) :: l, fr, fr', ρ, h, he => by
    simp only [voidT] at he
    split at he
    · rename_i sz' hx
      split at he
      · rename_i hc
        obtain ⟨rfl, hf, hid⟩ := hc
        have hE : FR G w0 L (fun b => X0 b ∨ E b) w tm fr ρ := by
          have e : (fun b => X0 b ∨ E b) = X0 := by funext b; simp [E]
          rw [e]; exact h
        obtain ⟨p1, p2, p3, p4⟩ := Puts.add (F := E) hE (id := id) (B := .row false sz' []) (p := none) (free_spec hf) (fun b hb => hb.elim) (fun g k e => by simp at e) (fun X' H' ρ' _ _ => ⟨by simp, .inl rfl, fun g k e => by simp at e⟩)
        have hv := h.env t _ hx
        generalize tm.getD t undef = v at hv
        have hx' : RepE w (XX w0 X0 ((id, .row false sz' []) :: fr.heap) (setP id none ρ)) ((id, .row false sz' []) :: fr.heap) (setP id none ρ) (.sl id 0 0) (tm.getD t undef) := by
          have hv := h.env t _ hx
          generalize tm.getD t undef = v at hv
          cases hv with
          | emp _ a => exact .sl _ _ _ _ (.row false sz' []) (by simp [look]) ⟨by simp, a, 0, rfl, by simp, .inl rfl⟩
        obtain ⟨ρ2, b1, b2⟩ := voidT_sound (p1.putTm (t := t) hx') he
        exact ⟨ρ2, b1, (Keep.of_htr p3).trans b2⟩
      · simp at he
    · exact voidT_sound h he

/-- Other values for a variable's cells, the memory as it is. -/
theorem FR.recell (h : FR G w0 L X0 w tm fr ρ) {b : Nat} {old : Bool} {cs cs' : List V} (hb : look b fr.heap = some (.var old cs)) (hl : cs'.length = cs.length)
    (hc : ∀ g k, ρ b = some (g, k) → ∀ (j : Nat) (x : V), cs'[j]? = some x → ∃ u, w.cell? ⟨g, k + j, none⟩ = some u ∧ RepE w (XX w0 X0 fr.heap ρ) fr.heap ρ x u) :
    FR G w0 L X0 w tm { fr with heap := updB b (.var old cs') fr.heap } ρ ∧ HTr w w fr.heap (updB b (.var old cs') fr.heap) ρ ρ := by
  have lk : ∀ b' B', look b' (updB b (.var old cs') fr.heap) = some B' → (b' = b ∧ B' = .var old cs') ∨ (b' ≠ b ∧ look b' fr.heap = some B') := fun b' B' h1 => by
    by_cases hbb : b' = b
    · subst hbb; rw [look_updB_self hb] at h1; exact .inl ⟨rfl, (Option.some.inj h1).symm⟩
    · rw [look_updB_ne hbb] at h1; exact .inr ⟨hbb, h1⟩
  have e : XX w0 X0 (updB b (.var old cs') fr.heap) ρ = XX w0 X0 fr.heap ρ := by
    funext k g
    apply propext
    constructor
    · rintro (hx | hx | ⟨b', B', k', h1, h2, h3⟩)
      · exact .inl hx
      · exact .inr (.inl hx)
      · rcases lk b' B' h1 with ⟨rfl, rfl⟩ | ⟨_, q⟩
        · exact .inr (.inr ⟨b', _, k', hb, rfl, h3⟩)
        · exact .inr (.inr ⟨b', B', k', q, h2, h3⟩)
    · rintro (hx | hx | ⟨b', B', k', h1, h2, h3⟩)
      · exact .inl hx
      · exact .inr (.inl hx)
      · by_cases hbb : b' = b
        · subst hbb; exact .inr (.inr ⟨b', _, k', look_updB_self hb, rfl, h3⟩)
        · exact .inr (.inr ⟨b', B', k', by rw [look_updB_ne hbb]; exact h1, h2, h3⟩)
  have st : Stay w w (XX w0 X0 fr.heap ρ) (XX w0 X0 (updB b (.var old cs') fr.heap) ρ) := by rw [e]; exact Stay.refl _ _
  have t : HTr w w fr.heap (updB b (.var old cs') fr.heap) ρ ρ := by
    refine ⟨fun _ _ h => h, fun b' B' h1 => ?_⟩
    by_cases hbb : b' = b
    · subst hbb; rw [hb] at h1; obtain rfl := Option.some.inj h1; exact ⟨_, look_updB_self hb, .inr ⟨rfl, rfl⟩⟩
    · exact ⟨B', by rw [look_updB_ne hbb]; exact h1, .inr ⟨rfl, rfl⟩⟩
  refine ⟨h.re h.chg h.x0 st t (fun b' B' h1 h2 => ?_) (fun b1 b2 B1 B2 g k k' h1 h2 l1 l2 p1 p2 => ?_) (fun b' B' g k h1 h2 h3 => ?_) (fun b' B' g k h1 h2 h3 => ?_), t⟩
  · rcases lk b' B' h1 with ⟨rfl, rfl⟩ | ⟨_, q⟩
    · right
      obtain ⟨g, k, q1, q2, q3⟩ := h.blk b' _ hb
      refine ⟨g, k, q1, by rw [hl]; exact q2, fun j x hx => ?_⟩
      obtain ⟨u, r1, r2⟩ := hc g k q1 j x hx
      exact ⟨u, r1, r2.tr st t⟩
    · exact .inl ⟨q, rfl, fun _ _ _ => rfl⟩
  · rcases lk b1 B1 h1 with ⟨e1, _⟩ | ⟨_, q1⟩ <;> rcases lk b2 B2 h2 with ⟨e2, _⟩ | ⟨_, q2⟩
    · rw [e1, e2]
    · subst e1; exact h.sep b1 b2 _ B2 g k k' hb q2 rfl l2 p1 p2
    · subst e2; exact h.sep b1 b2 B1 _ g k k' q1 hb l1 rfl p1 p2
    · exact h.sep b1 b2 B1 B2 g k k' q1 q2 l1 l2 p1 p2
  · rcases lk b' B' h1 with ⟨rfl, rfl⟩ | ⟨_, q⟩
    · have q := h.new b' (.var old cs) g k hb rfl h3
      exact q
    · exact h.new b' B' g k q h2 h3
  · rcases lk b' B' h1 with ⟨rfl, rfl⟩ | ⟨_, q⟩
    · exact h.out b' (.var old cs) g k hb rfl h3
    · exact h.out b' B' g k q h2 h3

/-- A block counts as an old one. -/
theorem FR.reold (h : FR G w0 L X0 w tm fr ρ) {b : Nat} {B B' : Blk} (hb : look b fr.heap = some B) (hl : B.live = true) (hl' : B'.live = true) (hs : B'.sh = B.sh) (ho : B'.old = true)
    (hB : ∀ X H ρ p, RepB w X H ρ p B → RepB w X H ρ p B') : FR G w0 L X0 w tm { fr with heap := updB b B' fr.heap } ρ ∧ HTr w w fr.heap (updB b B' fr.heap) ρ ρ := by
  have lk : ∀ b' C, look b' (updB b B' fr.heap) = some C → (b' = b ∧ C = B') ∨ (b' ≠ b ∧ look b' fr.heap = some C) := fun b' C h1 => by
    by_cases hbb : b' = b
    · subst hbb; rw [look_updB_self hb] at h1; exact .inl ⟨rfl, (Option.some.inj h1).symm⟩
    · rw [look_updB_ne hbb] at h1; exact .inr ⟨hbb, h1⟩
  have e : XX w0 X0 (updB b B' fr.heap) ρ = XX w0 X0 fr.heap ρ := by
    funext k g
    apply propext
    constructor
    · rintro (hx | hx | ⟨b', C, k', h1, h2, h3⟩)
      · exact .inl hx
      · exact .inr (.inl hx)
      · rcases lk b' C h1 with ⟨e1, _⟩ | ⟨_, q⟩
        · subst e1; exact .inr (.inr ⟨b', B, k', hb, hl, h3⟩)
        · exact .inr (.inr ⟨b', C, k', q, h2, h3⟩)
    · rintro (hx | hx | ⟨b', C, k', h1, h2, h3⟩)
      · exact .inl hx
      · exact .inr (.inl hx)
      · by_cases hbb : b' = b
        · subst hbb; exact .inr (.inr ⟨b', B', k', look_updB_self hb, hl', h3⟩)
        · exact .inr (.inr ⟨b', C, k', by rw [look_updB_ne hbb]; exact h1, h2, h3⟩)
  have st : Stay w w (XX w0 X0 fr.heap ρ) (XX w0 X0 (updB b B' fr.heap) ρ) := by rw [e]; exact Stay.refl _ _
  have t : HTr w w fr.heap (updB b B' fr.heap) ρ ρ := by
    refine ⟨fun _ _ h => h, fun b' C h1 => ?_⟩
    by_cases hbb : b' = b
    · subst hbb; rw [hb] at h1; obtain rfl := Option.some.inj h1; exact ⟨B', look_updB_self hb, .inr ⟨rfl, hs⟩⟩
    · exact ⟨C, by rw [look_updB_ne hbb]; exact h1, .inr ⟨rfl, rfl⟩⟩
  refine ⟨h.re h.chg h.x0 st t (fun b' C h1 h2 => ?_) (fun b1 b2 B1 B2 g k k' h1 h2 l1 l2 p1 p2 => ?_) (fun b' C g k h1 h2 h3 => ?_) (fun b' C g k h1 h2 h3 => ?_), t⟩
  · rcases lk b' C h1 with ⟨e1, e2⟩ | ⟨_, q⟩
    · subst e1; subst e2
      exact .inr (hB _ _ _ _ ((h.blk b' B hb).tr st t (fun _ _ _ _ => rfl)))
    · exact .inl ⟨q, rfl, fun _ _ _ => rfl⟩
  · rcases lk b1 B1 h1 with ⟨e1, _⟩ | ⟨_, q1⟩ <;> rcases lk b2 B2 h2 with ⟨e2, _⟩ | ⟨_, q2⟩
    · rw [e1, e2]
    · subst e1; exact h.sep b1 b2 B B2 g k k' hb q2 hl l2 p1 p2
    · subst e2; exact h.sep b1 b2 B1 B g k k' q1 hb l1 hl p1 p2
    · exact h.sep b1 b2 B1 B2 g k k' q1 q2 l1 l2 p1 p2
  · rcases lk b' C h1 with ⟨e1, e2⟩ | ⟨_, q⟩
    · subst e1; subst e2
      rcases h.new b' B g k hb hl h3 with q | q
      · exact .inl ⟨ho, q.2⟩
      · exact .inr q
    · exact h.new b' C g k q h2 h3
  · rcases lk b' C h1 with ⟨e1, e2⟩ | ⟨_, q⟩
    · subst e1; exact h.out b' B g k hb hl h3
    · exact h.out b' C g k q h2 h3

theorem oldB_sound : ∀ {l : List Nat} {fr : Fr}, FR G w0 L X0 w tm fr ρ → FR G w0 L X0 w tm (oldB fr l) ρ ∧ Keep fr.heap (oldB fr l).heap ρ ρ
  | [], fr, h => ⟨h, Keep.refl _ _⟩
  | b :: l, fr, h => by
    simp only [oldB]
    split
    · rename_i old sz els hb
      obtain ⟨a1, a2⟩ := h.reold (B' := .row true sz els) hb rfl rfl rfl rfl (fun X H ρ p q => q)
      obtain ⟨b1, b2⟩ := oldB_sound (l := l) a1
      exact ⟨b1, (Keep.of_htr a2).trans b2⟩
    · rename_i old cs hb
      obtain ⟨a1, a2⟩ := h.reold (B' := .var true cs) hb rfl rfl rfl rfl (fun X H ρ p q => q)
      obtain ⟨b1, b2⟩ := oldB_sound (l := l) a1
      exact ⟨b1, (Keep.of_htr a2).trans b2⟩
    · exact oldB_sound h

theorem voidC_sound : ∀ {l : List (Nat × Nat × Nat × Nat)} {fr fr' : Fr} {ρ : Place}, FR G w0 L X0 w tm fr ρ → voidC fr l = some fr' → ∃ ρ', FR G w0 L X0 w tm fr' ρ' ∧ Keep fr.heap fr'.heap ρ ρ'
  | [], fr, fr', ρ, h, he => by
    simp only [voidC] at he
    obtain rfl := Option.some.inj he
    exact ⟨ρ, h, Keep.refl _ _⟩
  | (b, j, id, sz) :: l, fr, fr', ρ, h, he => by
    simp only [voidC] at he
    split at he
    · rename_i old cs hb
      split at he
      · rename_i sz' hj
        split at he
        · rename_i hcond
          obtain ⟨rfl, hf, hid⟩ := hcond
          have hE : FR G w0 L (fun b => X0 b ∨ E b) w tm fr ρ := by
            have e : (fun b => X0 b ∨ E b) = X0 := by funext b; simp [E]
            rw [e]; exact h
          obtain ⟨p1, p2, p3, p4⟩ := Puts.add (F := E) hE (id := id) (B := .row false sz' []) (p := none) (free_spec hf) (fun b hb => hb.elim) (fun g k e => by simp at e) (fun X' H' ρ' _ _ => ⟨by simp, .inl rfl, fun g k e => by simp at e⟩)
          have hbne : id ≠ b := fun e => by subst e; have := free_spec hf; rw [this] at hb; simp at hb
          have hb' : look b ((id, Blk.row false sz' []) :: fr.heap) = some (.var old cs) := by simp only [look]; rw [if_neg hbne]; exact hb
          have hρ : ∀ s, s ≠ id → setP id none ρ s = ρ s := fun s hs => by simp [setP, hs]
          obtain ⟨c1, c2⟩ := FR.recell (cs' := cs.set j (.sl id 0 0)) p1 hb' (by simp) (fun g k hg i x hx => by
            obtain ⟨g', k', q1, q2, q3⟩ := p1.blk b _ hb'
            rw [q1] at hg
            obtain ⟨rfl, rfl⟩ : g' = g ∧ k' = k := by simpa using hg
            rw [List.getElem?_set] at hx
            split at hx
            · rename_i hji
              subst hji
              split at hx
              · obtain rfl := Option.some.inj hx
                obtain ⟨u, r1, r2⟩ := q3 j _ hj
                refine ⟨u, r1, ?_⟩
                cases r2 with
                | emp _ a => exact .sl _ _ _ _ (.row false sz' []) (by simp [look]) ⟨by simp, a, 0, rfl, by simp, .inl rfl⟩
              · simp at hx
            · exact q3 i x hx)
          obtain ⟨ρ2, b1, b2⟩ := voidC_sound c1 he
          exact ⟨ρ2, b1, ((Keep.of_htr p3).trans (Keep.of_htr c2)).trans b2⟩
        · simp at he
      · exact voidC_sound h he
    · exact voidC_sound h he
theorem voids2_sound {hi : Hint} {fr fr' : Fr} {ρ : Place} (h : FR G w0 L X0 w tm fr ρ) (he : voids2 fr hi = some fr') : ∃ ρ', FR G w0 L X0 w tm fr' ρ' ∧ Keep fr.heap fr'.heap ρ ρ' := by
  unfold voids2 at he
  split at he
  · rename_i fr1 h1
    obtain ⟨ρ1, a1, a2⟩ := voidC_sound h h1
    obtain ⟨fr2, h2, rfl⟩ := Option.map_eq_some_iff.1 he
    obtain ⟨ρ2, b1, b2⟩ := voidT_sound a1 h2
    obtain ⟨c1, c2⟩ := oldB_sound (l := hi.olds) b1
    exact ⟨ρ2, c1, (a2.trans b2).trans c2⟩
  · simp at he

theorem inN_mem {n : Nat} : ∀ {l : List Nat}, inN n l = true ↔ n ∈ l
  | [] => by simp [inN]
  | m :: l => by
    simp only [inN, List.mem_cons]
    by_cases h : m = n
    · simp [h]
    · rw [if_neg h, inN_mem]
      constructor
      · exact .inr
      · rintro (e | e)
        · exact absurd e.symm h
        · exact e
theorem look_mem {α : Type} {t : Nat} {x : α} : ∀ {l : List (Nat × α)}, look t l = some x → (t, x) ∈ l
  | (s, y) :: l, h => by
    simp only [look] at h
    split at h
    · rename_i hs; subst hs; obtain rfl := Option.some.inj h; simp
    · exact List.mem_cons_of_mem _ (look_mem h)
theorem okRen_spec : ∀ {ren : List (Nat × Nat)}, okRen ren = true → (∀ o n, (o, n) ∈ ren → o < 1000000000 ∧ n < 1000000000 ∧ look o ren = some n) ∧ (∀ o o' n, (o, n) ∈ ren → (o', n) ∈ ren → o = o')
  | [], h => ⟨fun o n hm => by simp at hm, fun o o' n hm => by simp at hm⟩
  | (o, n) :: l, h => by
    simp only [okRen, Bool.and_eq_true, decide_eq_true_eq, Bool.not_eq_true'] at h
    obtain ⟨⟨⟨⟨h1, h2⟩, h3⟩, h4⟩, h5⟩ := h
    obtain ⟨i1, i2⟩ := okRen_spec h5
    have no : ∀ n', (o, n') ∉ l := fun n' hm => by
      have : inN o (l.map (·.1)) = true := inN_mem.2 (List.mem_map.2 ⟨_, hm, rfl⟩)
      rw [h3] at this; simp at this
    have nn : ∀ o', (o', n) ∉ l := fun o' hm => by
      have : inN n (l.map (·.2)) = true := inN_mem.2 (List.mem_map.2 ⟨_, hm, rfl⟩)
      rw [h4] at this; simp at this
    refine ⟨fun o' n' hm => ?_, fun o1 o2 n' m1 m2 => ?_⟩
    · rcases List.mem_cons.1 hm with e | hm
      · obtain ⟨rfl, rfl⟩ := by simpa using e
        exact ⟨h1, h2, by simp [look]⟩
      · obtain ⟨k1, k2, k3⟩ := i1 o' n' hm
        have hne : o ≠ o' := fun e => by subst e; exact no n' hm
        exact ⟨k1, k2, by simp only [look]; rw [if_neg hne]; exact k3⟩
    · rcases List.mem_cons.1 m1 with e1 | m1 <;> rcases List.mem_cons.1 m2 with e2 | m2
      · simp at e1 e2; rw [e1.1, e2.1]
      · simp at e1; rw [e1.2] at m2; exact absurd m2 (nn o2)
      · simp at e2; rw [e2.2] at m1; exact absurd m1 (nn o1)
      · exact i2 o1 o2 n' m1 m2

theorem look_renA {r : Nat → Option Nat} {n : Nat} {B' : Blk} : ∀ {l : List (Nat × Nat)}, look n (renA r H l) = some B' → ∃ o B, (o, n) ∈ l ∧ look o H = some B ∧ B' = renB r B
  | (o, m) :: l, h => by
    simp only [renA] at h
    split at h
    · rename_i B hB
      simp only [look] at h
      split at h
      · rename_i hm; subst hm; exact ⟨o, B, by simp, hB, (Option.some.inj h).symm⟩
      · obtain ⟨o', B2, q1, q2⟩ := look_renA h
        exact ⟨o', B2, List.mem_cons_of_mem _ q1, q2⟩
    · obtain ⟨o', B2, q1, q2⟩ := look_renA h
      exact ⟨o', B2, List.mem_cons_of_mem _ q1, q2⟩
theorem look_renA_none {r : Nat → Option Nat} {n : Nat} : ∀ {l : List (Nat × Nat)}, (∀ o, (o, n) ∈ l → look o H = none) → look n (renA r H l) = none
  | [], h => rfl
  | (o, m) :: l, h => by
    simp only [renA]
    have ih := look_renA_none (r := r) (l := l) fun o' hm => h o' (List.mem_cons_of_mem _ hm)
    split
    · rename_i B hB
      simp only [look]
      split
      · rename_i hm; subst hm; have := h o (by simp); rw [hB] at this; simp at this
      · exact ih
    · exact ih
theorem look_append {α : Type} {t : Nat} : ∀ {l m : List (Nat × α)}, look t (l ++ m) = match look t l with | some x => some x | none => look t m
  | [], m => rfl
  | (s, x) :: l, m => by
    simp only [List.cons_append, look]
    split
    · rfl
    · exact look_append
theorem look_renP {r : Nat → Option Nat} {n : Nat} : ∀ {H : Heap}, look n (renP r H) = if 1000000000 ≤ n then (look n H).map (renB r) else none
  | [] => by simp [renP, look]
  | (b, B) :: l => by
    simp only [renP]
    have ih := look_renP (r := r) (n := n) (H := l)
    by_cases hb : 1000000000 ≤ b
    · rw [if_pos hb]
      simp only [look]
      by_cases hbn : b = n
      · subst hbn; rw [if_pos rfl, if_pos rfl, if_pos hb]; rfl
      · rw [if_neg hbn, if_neg hbn]; exact ih
    · rw [if_neg hb, ih]
      by_cases hn : 1000000000 ≤ n
      · rw [if_pos hn, if_pos hn]
        have hbn : b ≠ n := by omega
        simp only [look]; rw [if_neg hbn]
      · rw [if_neg hn, if_neg hn]

/-- Where the renamed blocks lie. -/
def renPl (ren : List (Nat × Nat)) (ρ : Place) : Place := fun n => match look n (ren.map fun p => (p.2, p.1)) with
  | some o => ρ o
  | none => ρ n

theorem renH_sub {ren : List (Nat × Nat)} (hok : okRen ren = true) {n : Nat} {B' : Blk} (h : look n (renH ren H) = some B') : ∃ o B, rmap ren o = some n ∧ look o H = some B ∧ B' = renB (rmap ren) B := by
  obtain ⟨k1, k2⟩ := okRen_spec hok
  unfold renH at h
  rw [look_append] at h
  split at h
  · rename_i B1 h1
    obtain rfl := Option.some.inj h
    obtain ⟨o, B, q1, q2, q3⟩ := look_renA h1
    obtain ⟨q4, q5, q6⟩ := k1 o n q1
    exact ⟨o, B, by unfold rmap; rw [if_neg (by omega)]; exact q6, q2, q3⟩
  · rw [look_renP] at h
    split at h
    · rename_i hn
      obtain ⟨B, hB, rfl⟩ := Option.map_eq_some_iff.1 h
      exact ⟨n, B, by unfold rmap; rw [if_pos hn], hB, rfl⟩
    · simp at h

theorem rmap_inj {ren : List (Nat × Nat)} (hok : okRen ren = true) {o o' n : Nat} (h : rmap ren o = some n) (h' : rmap ren o' = some n) : o = o' := by
  obtain ⟨k1, k2⟩ := okRen_spec hok
  unfold rmap at h h'
  split at h <;> split at h'
  · simp at h h'; omega
  · simp at h; have := (k1 o' n (look_mem h')).2.1; omega
  · simp at h'; have := (k1 o n (look_mem h)).2.1; omega
  · exact k2 o o' n (look_mem h) (look_mem h')

theorem renPl_at {ren : List (Nat × Nat)} (hok : okRen ren = true) {o n : Nat} (h : rmap ren o = some n) : renPl ren ρ n = ρ o := by
  obtain ⟨k1, k2⟩ := okRen_spec hok
  unfold renPl
  split
  · rename_i o' ho'
    have := look_mem ho'
    obtain ⟨p, hp, e⟩ := List.mem_map.1 this
    obtain ⟨p1, p2⟩ := p
    obtain ⟨rfl, rfl⟩ := by simpa using e
    obtain ⟨q1, q2, q3⟩ := k1 _ _ hp
    have : rmap ren p1 = some p2 := by unfold rmap; rw [if_neg (by omega)]; exact q3
    rw [rmap_inj hok h this]
  · rename_i hn
    unfold rmap at h
    split at h
    · simp at h; rw [h]
    · exfalso
      have hm := look_mem h
      have : ∀ {l : List (Nat × Nat)}, (o, n) ∈ l → look n (l.map fun p => (p.2, p.1)) ≠ none := by
        intro l
        induction l with
        | nil => intro h; simp at h
        | cons p l ih =>
          intro h
          simp only [List.map_cons, look]
          split
          · simp
          · rename_i hne
            rcases List.mem_cons.1 h with e | h
            · subst e; exact absurd rfl hne
            · exact ih h
      exact this hm hn

theorem renH_look {ren : List (Nat × Nat)} (hok : okRen ren = true) {o n : Nat} {B : Blk} (h : rmap ren o = some n) (hB : look o H = some B) : look n (renH ren H) = some (renB (rmap ren) B) := by
  have hne : look n (renH ren H) ≠ none := by
    obtain ⟨k1, k2⟩ := okRen_spec hok
    unfold renH
    rw [look_append]
    unfold rmap at h
    split at h
    · rename_i ho
      simp at h; subst h
      split
      · simp
      · rw [look_renP, if_pos ho, hB]; simp
    · have hm := look_mem h
      have : ∀ {l : List (Nat × Nat)} {r : Nat → Option Nat}, (o, n) ∈ l → look n (renA r H l) ≠ none := by
        intro l r
        induction l with
        | nil => intro h; simp at h
        | cons p l ih =>
          obtain ⟨p1, p2⟩ := p
          intro h
          simp only [renA]
          split
          · simp only [look]
            split
            · simp
            · rename_i hne
              rcases List.mem_cons.1 h with e | h
              · simp at e; exact absurd e.2.symm hne
              · exact ih h
          · rename_i hn
            rcases List.mem_cons.1 h with e | h
            · simp at e; rw [← e.1, hB] at hn; simp at hn
            · exact ih h
      have := this (r := rmap ren) hm
      split
      · simp
      · rename_i h2
        exact absurd h2 this
  obtain ⟨B', hB'⟩ := Option.ne_none_iff_exists'.1 hne
  obtain ⟨o', B2, q1, q2, q3⟩ := renH_sub hok hB'
  obtain rfl := rmap_inj hok h q1
  rw [hB] at q2
  obtain rfl := Option.some.inj q2
  rw [hB', q3]

theorem renB_sh (r : Nat → Option Nat) (B : Blk) : (renB r B).sh = B.sh := by cases B <;> rfl
theorem renB_old (r : Nat → Option Nat) (B : Blk) : (renB r B).old = B.old := by cases B <;> rfl
theorem renB_live (r : Nat → Option Nat) (B : Blk) : (renB r B).live = B.live := by cases B <;> rfl

theorem renE {ren : List (Nat × Nat)} (hok : okRen ren = true) {X' : K → Nat → Prop} (st : Stay w w X X') {x : V} {v : Value} (h : RepE w X H ρ x v) : RepE w X' (renH ren H) (renPl ren ρ) (renV (rmap ren) x) v := by
  have blk : ∀ {b b' : Nat} {B : Blk}, rmap ren b = some b' → look b H = some B → ∃ B', look b' (renH ren H) = some B' ∧ B'.sh = B.sh ∧ renPl ren ρ b' = ρ b := fun h1 h2 => ⟨_, renH_look hok h1 h2, renB_sh _ _, renPl_at hok h1⟩
  induction h with
  | val d v h => simp only [renV]; exact .val d v (h.stay st)
  | emp sz a => simp only [renV]; exact .emp sz a
  | sl b o n v B hb h =>
    simp only [renV]
    split
    · rename_i b' hr
      obtain ⟨B', q1, q2, q3⟩ := blk hr hb
      exact .sl b' o n v B' q1 (by rw [q2, q3]; exact h)
    · exact .dead v
  | pt b o v B hb h =>
    simp only [renV]
    split
    · rename_i b' hr
      obtain ⟨B', q1, q2, q3⟩ := blk hr hb
      exact .pt b' o v B' q1 (by rw [q2, q3]; exact h)
    · exact .dead v
  | ep b i o v B hb h =>
    simp only [renV]
    split
    · rename_i b' hr
      obtain ⟨B', q1, q2, q3⟩ := blk hr hb
      exact .ep b' i o v B' q1 (by rw [q2, q3]; exact h)
    · exact .dead v
  | agg vs us hs h ih =>
    simp only [renV, renL_map]
    refine .agg _ us (by simpa using hs) fun i x u h1 h2 => ?_
    rw [List.getElem?_map, Option.map_eq_some_iff] at h1
    obtain ⟨y, hy, rfl⟩ := h1
    exact ih i y u hy h2
  | tup vs us hs h ih =>
    simp only [renV, renL_map]
    refine .tup _ us (by simpa using hs) fun i x u h1 h2 => ?_
    rw [List.getElem?_map, Option.map_eq_some_iff] at h1
    obtain ⟨y, hy, rfl⟩ := h1
    exact ih i y u hy h2
  | fn f vs us hs h ih =>
    simp only [renV, renL_map]
    refine .fn f _ us (by simpa using hs) fun i x u h1 h2 => ?_
    rw [List.getElem?_map, Option.map_eq_some_iff] at h1
    obtain ⟨y, hy, rfl⟩ := h1
    exact ih i y u hy h2
  | dead v => simp only [renV]; exact .dead v
  | anyb b => simp only [renV]; exact .anyb b

theorem renF_sound (h : FR G w0 L X0 w tm fr ρ) {keep : List Nat} {ren : List (Nat × Nat)} (hok : okRen ren = true) : FR G w0 L X0 w tm (renF keep ren fr) (renPl ren ρ) ∧ Keep fr.heap (renF keep ren fr).heap ρ (renPl ren ρ) := by
  have sub : ∀ n B', look n (renH ren fr.heap) = some B' → ∃ o B, rmap ren o = some n ∧ look o fr.heap = some B ∧ B' = renB (rmap ren) B ∧ renPl ren ρ n = ρ o := fun n B' hn => by
    obtain ⟨o, B, q1, q2, q3⟩ := renH_sub hok hn
    exact ⟨o, B, q1, q2, q3, renPl_at hok q1⟩
  have st : Stay w w (XX w0 X0 fr.heap ρ) (XX w0 X0 (renH ren fr.heap) (renPl ren ρ)) := by
    refine ⟨fun _ _ _ _ => rfl, fun k b _ hx => hx.imp id (Or.imp id ?_)⟩
    rintro ⟨n, B', k', h1, h2, h3⟩
    obtain ⟨o, B, q1, q2, q3, q4⟩ := sub n B' h1
    subst q3
    rw [renB_live] at h2
    rw [q4] at h3
    exact ⟨o, B, k', q2, h2, h3⟩
  refine ⟨⟨h.chg, h.x0, fun n B' hn => ?_, fun b b' B B' g k k' h1 h2 l1 l2 p1 p2 => ?_, fun b B g k h1 l1 p1 => ?_, fun b B g k h1 l1 p1 => ?_, fun t x hx => ?_, h.nt, fun g cs hg => (h.gl g cs hg).stay st⟩, fun s B hs hB => ?_⟩
  · obtain ⟨o, B, q1, q2, q3, q4⟩ := sub n B' hn
    subst q3
    have hb := h.blk o B q2
    rw [q4]
    cases B with
    | row old sz els =>
      obtain ⟨r1, r2, r3⟩ := hb
      refine ⟨r1, r2, fun g k e => ?_⟩
      obtain ⟨t1, t2⟩ := r3 g k e
      refine ⟨t1, fun i j el d m1 m2 => ?_⟩
      obtain ⟨u, u1, u2⟩ := t2 i j el d m1 m2
      exact ⟨u, u1, u2.stay st⟩
    | var old cs =>
      obtain ⟨g, k, r1, r2, r3⟩ := hb
      refine ⟨g, k, r1, by simpa [renL_map] using r2, fun j x hx => ?_⟩
      rw [renL_map, List.getElem?_map, Option.map_eq_some_iff] at hx
      obtain ⟨y, hy, rfl⟩ := hx
      obtain ⟨u, u1, u2⟩ := r3 j y hy
      exact ⟨u, u1, renE hok st u2⟩
    | gone => trivial
    | awayR sz len => trivial
    | awayV => trivial
  · obtain ⟨o, C, q1, q2, q3, q4⟩ := sub b B h1
    obtain ⟨o', C', r1, r2, r3, r4⟩ := sub b' B' h2
    subst q3; subst r3
    rw [renB_live] at l1 l2
    rw [q4] at p1; rw [r4] at p2
    have := h.sep o o' C C' g k k' q2 r2 l1 l2 p1 p2
    subst this
    rw [q1] at r1; exact Option.some.inj r1
  · obtain ⟨o, C, q1, q2, q3, q4⟩ := sub b B h1
    subst q3
    rw [renB_live] at l1
    rw [q4] at p1
    rw [renB_old]
    exact h.new o C g k q2 l1 p1
  · obtain ⟨o, C, q1, q2, q3, q4⟩ := sub b B h1
    subst q3
    rw [renB_live] at l1
    rw [q4] at p1
    exact h.out o C g k q2 l1 p1
  · have : ∀ {l : List Nat}, look t (keepE (rmap ren) fr.env l) = some x → ∃ y, look t fr.env = some y ∧ x = renV (rmap ren) y := by
      intro l
      induction l with
      | nil => intro h; simp [keepE, look] at h
      | cons s l ih =>
        intro h
        simp only [keepE] at h
        split at h
        · rename_i y hy
          simp only [look] at h
          split at h
          · rename_i hs; subst hs; exact ⟨y, hy, (Option.some.inj h).symm⟩
          · exact ih h
        · exact ih h
    obtain ⟨y, hy, rfl⟩ := this hx
    exact renE hok st (h.env t y hy)
  · have hr : rmap ren s = some s := by unfold rmap; rw [if_pos hs]
    exact ⟨_, renH_look hok hr hB, .inr ⟨renPl_at hok hr, renB_sh _ _⟩⟩

theorem tidy_sound (h : FR G w0 L X0 w tm fr ρ) {hi : Option Hint} {fr' : Fr} (he : tidyO hi fr = some fr') : ∃ ρ', FR G w0 L X0 w tm fr' ρ' ∧ Keep fr.heap fr'.heap ρ ρ' := by
  cases hi with
  | none =>
    simp only [tidyO] at he
    obtain rfl := Option.some.inj he
    exact ⟨ρ, h, Keep.refl _ _⟩
  | some hi =>
    simp only [tidyO, tidy] at he
    split at he
    · rename_i fr1 h1
      obtain ⟨a1, a2⟩ := freezeT_sound h h1
      split at he
      · rename_i fr2 h2
        obtain ⟨ρ2, b1, b2⟩ := voids2_sound a1 h2
        split at he
        · rename_i hok
          obtain rfl := Option.some.inj he
          obtain ⟨c1, c2⟩ := renF_sound b1 (keep := hi.keep) hok
          exact ⟨_, c1, (a2.trans b2).trans c2⟩
        · simp at he
      · simp at he
    · simp at he
end
end Go.Proofs.YtclhghlpokdiiaaDoor.Wm
set_option linter.unusedSimpArgs false
set_option linter.unusedVariables false
namespace Go.Proofs.YtclhghlpokdiiaaDoor.Wm
open Go

inductive Vc where
  | skip
  | region (main : List Vop) (alts : List (List Vop)) (h : Option Hint)
  | seq (a b : Vc)
  | cond (c : Od) (ha hb : Option Hint) (a b : Vc)
  | condJ (c : Od) (ha hb : Option Hint) (a b y : Vc)
  | block (id : Nat) (c : Vc)
  | loop (c : Vc)
  | exit (id : Nat)
  | ret

inductive Ex where
  | normal
  | exit (id : Nat)
  | ret
def Ex.to : Ex → Exit
  | .normal => .normal
  | .exit id => .exit id
  | .ret => .ret

/-! Loops: as often as it takes -/
def iter (g : Fr → Option (Ex × Fr)) : Nat → Fr → Option (Ex × Fr)
  | 0, _ => none
  | n + 1, fr => match g fr with
    | some (.normal, fr1) => iter g n fr1
    | r => r

theorem iter_more {g : Fr → Option (Ex × Fr)} : ∀ {n : Nat} {fr : Fr} {r : Ex × Fr}, iter g n fr = some r → iter g (n + 1) fr = some r
  | 0, fr, r, h => by simp [iter] at h
  | n + 1, fr, r, h => by
    rw [iter] at h ⊢
    split at h
    · rename_i fr1 hg
      exact iter_more h
    · rename_i hg
      exact h

theorem iter_le {g : Fr → Option (Ex × Fr)} {n m : Nat} {fr : Fr} {r : Ex × Fr} (hnm : n ≤ m) (h : iter g n fr = some r) : iter g m fr = some r := by
  induction hnm with
  | refl => exact h
  | step _ ih => exact iter_more ih

open Classical in
noncomputable def vloop (g : Fr → Option (Ex × Fr)) (fr : Fr) : Option (Ex × Fr) :=
  if h : ∃ n r, iter g n fr = some r then iter g h.choose fr else none

theorem vloop_iff {g : Fr → Option (Ex × Fr)} {fr : Fr} {r : Ex × Fr} : vloop g fr = some r ↔ ∃ n, iter g n fr = some r := by
  unfold vloop
  constructor
  · intro h
    split at h
    · rename_i hh; exact ⟨_, h⟩
    · simp at h
  · rintro ⟨n, hn⟩
    have hh : ∃ n r, iter g n fr = some r := ⟨n, r, hn⟩
    rw [dif_pos hh]
    obtain ⟨r', hr'⟩ := hh.choose_spec
    rw [hr']
    have a1 := iter_le (Nat.le_max_left n hh.choose) hn
    have a2 := iter_le (Nat.le_max_right n hh.choose) hr'
    rw [a1] at a2
    exact a2.symm

open Classical in
/-- The other orders come to the same frame. -/
noncomputable def altsOk (C : Cx) (fr : Fr) (h : Option Hint) (fr2 : Fr) : List (List Vop) → Option (Ex × Fr)
  | [] => some (.normal, fr2)
  | alts => if ∀ l ∈ alts, ∃ fr3, steps C fr l = some fr3 ∧ tidyO h fr3 = some fr2 then some (.normal, fr2) else none

/-- Both ways come to the same. -/
noncomputable def bothE (r1 r2 : Option (Ex × Fr)) : Option (Ex × Fr) := open Classical in if r1 = r2 then r1 else none
def seqE (g : Fr → Option (Ex × Fr)) : Option (Ex × Fr) → Option (Ex × Fr)
  | some (.normal, fr1) => g fr1
  | r => r

noncomputable def vx (C : Cx) : Vc → Fr → Option (Ex × Fr)
  | .skip, fr => some (.normal, fr)
  | .region main alts h, fr => match steps C fr main with
    | some fr1 => match tidyO h fr1 with
      | some fr2 => altsOk C fr h fr2 alts
      | none => none
    | none => none
  | .seq a b, fr => match vx C a fr with
    | some (.normal, fr1) => vx C b fr1
    | r => r
  | .cond c ha hb a b, fr => match oval C.gl fr.env c with
    | .val (.bool t) => if t = true then (tidyO ha fr).bind (fun fr1 => vx C a fr1) else (tidyO hb fr).bind (fun fr1 => vx C b fr1)
    | _ => none
  | .condJ c ha hb a b y, fr => match oval C.gl fr.env c with
    | .val (.bool t) => if t = true then (tidyO ha fr).bind (fun fr1 => seqE (vx C y) (vx C a fr1)) else (tidyO hb fr).bind (fun fr1 => seqE (vx C y) (vx C b fr1))
    | .anyb => bothE ((tidyO ha fr).bind (fun fr1 => seqE (vx C y) (vx C a fr1))) ((tidyO hb fr).bind (fun fr1 => seqE (vx C y) (vx C b fr1)))
    | _ => none
  | .block id c, fr => match vx C c fr with
    | some (.exit j, fr1) => if j = id then some (.normal, fr1) else some (.exit j, fr1)
    | r => r
  | .loop c, fr => vloop (vx C c) fr
  | .exit id, fr => some (.exit id, fr)
  | .ret, fr => some (.ret, fr)

/-! Out of the program's code -/
def convOps (P : Program) (ops : Array Oper) : List Oper → Option (List Vop)
  | [] => some []
  | o :: l => match convOps P ops l with
    | some r => match conv1 P o with
      | some i => match o.guard with
        | none => some (⟨o.dst, i, none⟩ :: r)
        | some (j, want) => match (ops[j]?).bind (·.dst) with
          | some t => some (⟨o.dst, i, some (t, want)⟩ :: r)
          | none => none
      | none => none
    | none => none

def pickL (l : List Vop) : List Nat → Option (List Vop)
  | [] => some []
  | i :: is => match l[i]? with
    | some v => match pickL l is with
      | some r => some (v :: r)
      | none => none
    | none => none
def pickLs (l : List Vop) : List (List Nat) → Option (List (List Vop))
  | [] => some []
  | i :: is => match pickL l i with
    | some v => match pickLs l is with
      | some r => some (v :: r)
      | none => none
    | none => none

def condT : Operand → Nat
  | .tmp t => t
  | _ => 0

/-- Where a hint says so, what comes behind a condition is carried out under it. -/
def joinV (A : Nat → Option Hint) : Vc → Vc → Vc
  | .seq r (.cond (.tmp t) ha hb a b), y => if (A (900000000 + t)).isSome = true then .seq r (.condJ (.tmp t) ha hb a b y) else .seq (.seq r (.cond (.tmp t) ha hb a b)) y
  | x, y => .seq x y

def conv (P : Program) (own : FuncId → List Nat) (A A1 A2 : Nat → Option Hint) (B : Nat → Tr) : Code → Option Vc
  | .skip => some .skip
  | .region id ops draw => match convOps P ops ops.toList with
    | some l => if draw = true then (match pickLs l (B id).paths with
        | some (m :: r) => if (Region.noSelect ops && !(B id).isL && okT own ops l ops.size (Array.replicate ops.size false) (B id)) = true then some (.region m r (A id)) else none
        | _ => none) else some (.region l [] (A id))
    | none => none
  | .seq a b => match conv P own A A1 A2 B a with
    | some x => match conv P own A A1 A2 B b with
      | some y => some (joinV A x y)
      | none => none
    | none => none
  | .cond c0 a b => match od P 0 c0, conv P own A A1 A2 B a with
    | some c, some x => match conv P own A A1 A2 B b with
      | some y => some (.cond c (A1 (condT c0)) (A2 (condT c0)) x y)
      | none => none
    | _, _ => none
  | .block id c => match conv P own A A1 A2 B c with
    | some x => some (.block id x)
    | none => none
  | .loop c => match conv P own A A1 A2 B c with
    | some x => some (.loop x)
    | none => none
  | .exit id => some (.exit id)
  | .ret => some .ret
  | _ => none

section
variable {P : Program} {G : Nat → Option (List D)} {w0 : World} {L X0 X1 : Nat → Prop} {w w' w2 : World} {tm : Array Value} {fr : Fr} {ρ ρ' : Place} {X : K → Nat → Prop} {H : Heap}

theorem vloop_eq (g : Fr → Option (Ex × Fr)) (fr : Fr) : vloop g fr = match g fr with
    | some (.normal, fr1) => vloop g fr1
    | r => r := by
  apply Option.ext
  intro r
  rw [vloop_iff]
  constructor
  · rintro ⟨n, hn⟩
    cases n with
    | zero => simp [iter] at hn
    | succ n =>
      rw [iter] at hn
      split at hn
      · rename_i fr1 hg
        exact vloop_iff.2 ⟨n, hn⟩
      · rename_i hg
        exact hn
  · intro h
    split at h
    · rename_i fr1 hg
      obtain ⟨n, hn⟩ := vloop_iff.1 h
      exact ⟨n + 1, by rw [iter, hg]; exact hn⟩
    · rename_i hg
      refine ⟨1, ?_⟩
      rw [iter]
      split
      · rename_i fr1 h1; exact absurd h1 (hg _)
      · exact h

theorem pickL_spec {C : Cx} {l : List Vop} : ∀ {is : List Nat} {r : List Vop} {fr : Fr}, pickL l is = some r → stepsI C l fr is = steps C fr r
  | [], r, fr, h => by
    simp only [pickL] at h
    obtain rfl := Option.some.inj h
    rfl
  | i :: is, r, fr, h => by
    simp only [pickL] at h
    split at h
    · rename_i v hv
      split at h
      · rename_i r' hr
        obtain rfl := Option.some.inj h
        simp only [stepsI, hv, steps]
        cases stepO C fr v with
        | none => rfl
        | some fr1 => exact pickL_spec hr
      · simp at h
    · simp at h
theorem pickLs_spec {l : List Vop} : ∀ {ps : List (List Nat)} {r : List (List Vop)}, pickLs l ps = some r → ∀ p ∈ ps, ∃ q ∈ r, pickL l p = some q
  | [], r, h => by simp
  | p :: ps, r, h => by
    simp only [pickLs] at h
    split at h
    · rename_i v hv
      split at h
      · rename_i r' hr
        obtain rfl := Option.some.inj h
        intro q hq
        rcases List.mem_cons.1 hq with rfl | hq
        · exact ⟨v, by simp, hv⟩
        · obtain ⟨q', h1, h2⟩ := pickLs_spec hr q hq
          exact ⟨q', by simp [h1], h2⟩
      · simp at h
    · simp at h

theorem convOps_spec {ops : Array Oper} : ∀ {l : List Oper} {vs : List Vop}, convOps P ops l = some vs → vs.length = l.length ∧ ∀ (j : Nat) (o : Oper), l[j]? = some o → ∃ v, vs[j]? = some v ∧ vopOf P ops o v
  | [], vs, h => by
    simp only [convOps] at h
    obtain rfl := Option.some.inj h
    exact ⟨rfl, fun j v hj => by simp at hj⟩
  | o :: l, vs, h => by
    simp only [convOps] at h
    split at h
    · rename_i r hr
      obtain ⟨k1, k2⟩ := convOps_spec hr
      have fin : ∀ v0 : Vop, vopOf P ops o v0 → (v0 :: r).length = (o :: l).length ∧ ∀ (j : Nat) (o' : Oper), (o :: l)[j]? = some o' → ∃ v, (v0 :: r)[j]? = some v ∧ vopOf P ops o' v := by
        intro v0 h0
        refine ⟨by simp [k1], fun j o' hj => ?_⟩
        cases j with
        | zero => simp at hj; subst hj; exact ⟨v0, rfl, h0⟩
        | succ j => exact k2 j o' (by simpa using hj)
      split at h
      · rename_i i hi
        split at h
        · rename_i hg
          obtain rfl := Option.some.inj h
          exact fin _ ⟨rfl, hi, .inl ⟨hg, rfl⟩⟩
        · rename_i j want hg
          split at h
          · rename_i t ht
            obtain rfl := Option.some.inj h
            exact fin _ ⟨rfl, hi, .inr ⟨j, want, t, hg, ht, rfl⟩⟩
          · simp at h
      · simp at h
    · simp at h

theorem steps_sound {C : Cx} (hC : CSound P C) (hG : C.gl = G) {ops : Array Oper} {Q : Exit → Act → World → Prop} : ∀ (l : List Vop) (k : Nat) {w : World} {a : Act} {fr : Fr} {ρ : Place} {fr' : Fr}, (∀ (j : Nat) (v : Vop), l[j]? = some v → ∃ o, ops[k + j]? = some o ∧ vopOf P ops o v) →
    FR G w0 L X0 w a.tmps fr ρ → fr.nt ≤ 99999 → steps C fr l = some fr' → (∀ a' w', After G w0 L X0 a a' w' fr.heap ρ fr' → Q .normal a' w') → wpOps P ops Q (List.range' k l.length) a w
  | [], k, w, a, fr, ρ, fr', hl, h, hnt, he, hQ => by
    simp only [steps] at he
    obtain rfl := Option.some.inj he
    simp only [List.length_nil, List.range'_zero, wpOps]
    exact hQ _ _ (After.start h)
  | v :: l, k, w, a, fr, ρ, fr', hl, h, hnt, he, hQ => by
    simp only [steps] at he
    split at he
    · rename_i fr1 h1
      obtain ⟨o, ho, hv⟩ := hl 0 v rfl
      simp only [List.length_cons, List.range'_succ]
      rw [wpOps_cons]
      refine stepO_sound hC hG h hnt ho hv h1 fun a' w' ⟨ρ1, b1, b2, b3, b4⟩ _ => ?_
      refine steps_sound hC hG l (k + 1) (fun j v' hj => ?_) b1 (by rw [← b1.nt, b3, h.nt]; exact hnt) he fun a2 w2 h2 => hQ _ _ (h2.trans ⟨b2, b3, b4⟩)
      obtain ⟨o', ho', hv'⟩ := hl (j + 1) v' (by simpa using hj)
      exact ⟨o', by rw [show k + 1 + j = k + (j + 1) by omega]; exact ho', hv'⟩
    · simp at he

theorem After.tidy {a a' : Act} {w1 : World} {H0 : Heap} {ρ0 : Place} {fr1 fr2 : Fr} {hi : Option Hint} (h : After G w0 L X0 a a' w1 H0 ρ0 fr1) (ht : tidyO hi fr1 = some fr2) : After G w0 L X0 a a' w1 H0 ρ0 fr2 := by
  obtain ⟨ρ1, b1, b2, b3, b4⟩ := h
  obtain ⟨ρ2, c1, c2⟩ := tidy_sound b1 ht
  exact ⟨ρ2, c1, b2, b3, b4.trans c2⟩

theorem altsOk_spec {C : Cx} {h : Option Hint} {fr2 : Fr} {alts : List (List Vop)} {r : Ex × Fr} (he : altsOk C fr h fr2 alts = some r) : r = (.normal, fr2) ∧ ∀ l ∈ alts, ∃ fr3, steps C fr l = some fr3 ∧ tidyO h fr3 = some fr2 := by
  unfold altsOk at he
  split at he
  · exact ⟨(Option.some.inj he).symm, by simp⟩
  · split at he
    · rename_i hh; exact ⟨(Option.some.inj he).symm, hh⟩
    · simp at he

def CodeOk (P : Program) (G : Nat → Option (List D)) (w0 : World) (L X0 : Nat → Prop) (C : Cx) (A A1 A2 : Nat → Option Hint) (B : Nat → Tr) (c : Code) : Prop := ∀ ⦃vc : Vc⦄ ⦃Q : Exit → Act → World → Prop⦄ ⦃w : World⦄ ⦃a : Act⦄ ⦃fr : Fr⦄ ⦃ρ : Place⦄ ⦃ex : Ex⦄ ⦃fr' : Fr⦄, conv P C.own A A1 A2 B c = some vc →
    FR G w0 L X0 w a.tmps fr ρ → fr.nt ≤ 99999 → vx C vc fr = some (ex, fr') → (∀ a' w', After G w0 L X0 a a' w' fr.heap ρ fr' → Q ex.to a' w') → c.wp P Q a w

theorem conv_cond {own : FuncId → List Nat} {A A1 A2 : Nat → Option Hint} {B : Nat → Tr} {c : Code} {o : Od} {ha hb : Option Hint} {xa xb : Vc} (h : conv P own A A1 A2 B c = some (.cond o ha hb xa xb)) :
    ∃ c0 a b, c = .cond c0 a b ∧ od P 0 c0 = some o ∧ ha = A1 (condT c0) ∧ hb = A2 (condT c0) ∧ conv P own A A1 A2 B a = some xa ∧ conv P own A A1 A2 B b = some xb := by
  cases c with
  | cond c0 a b =>
    simp only [conv] at h
    split at h
    · rename_i c' x' h1 h2
      split at h
      · rename_i y' h3
        simp only [Option.some.injEq, Vc.cond.injEq] at h
        obtain ⟨rfl, rfl, rfl, rfl, rfl⟩ := h
        exact ⟨c0, a, b, rfl, h1, rfl, rfl, h2, h3⟩
      · simp at h
    · simp at h
  | seq x y =>
    simp only [conv] at h
    split at h
    · split at h
      · simp only [Option.some.injEq] at h
        unfold joinV at h
        split at h
        · split at h <;> simp at h
        · simp at h
      · simp at h
    · simp at h
  | region id ops draw =>
    simp only [conv] at h
    split at h
    · split at h
      · split at h
        · split at h <;> simp at h
        · simp at h
      · simp at h
    · simp at h
  | block id c => simp only [conv] at h; split at h <;> simp at h
  | loop c => simp only [conv] at h; split at h <;> simp at h
  | _ => simp [conv] at h

theorem conv_seq {own : FuncId → List Nat} {A A1 A2 : Nat → Option Hint} {B : Nat → Tr} {c : Code} {r : Vc} {o : Od} {ha hb : Option Hint} {xa xb : Vc} (h : conv P own A A1 A2 B c = some (.seq r (.cond o ha hb xa xb))) :
    ∃ x1 c0 a b, c = .seq x1 (.cond c0 a b) ∧ conv P own A A1 A2 B x1 = some r ∧ od P 0 c0 = some o ∧ ha = A1 (condT c0) ∧ hb = A2 (condT c0) ∧ conv P own A A1 A2 B a = some xa ∧ conv P own A A1 A2 B b = some xb := by
  cases c with
  | cond c0 a b =>
    simp only [conv] at h
    split at h
    · split at h <;> simp at h
    · simp at h
  | seq x y =>
    simp only [conv] at h
    split at h
    · rename_i vx' hx
      split at h
      · rename_i vy hy
        simp only [Option.some.injEq] at h
        have : vx' = r ∧ vy = .cond o ha hb xa xb := by
          unfold joinV at h
          split at h
          · split at h <;> simp at h
            exact ⟨h.1, h.2⟩
          · simpa using h
        obtain ⟨rfl, rfl⟩ := this
        obtain ⟨c0, a, b, rfl, q1, q2, q3, q4, q5⟩ := conv_cond hy
        exact ⟨x, c0, a, b, rfl, hx, q1, q2, q3, q4, q5⟩
      · simp at h
    · simp at h
  | region id ops draw =>
    simp only [conv] at h
    split at h
    · split at h
      · split at h
        · split at h <;> simp at h
        · simp at h
      · simp at h
    · simp at h
  | block id c => simp only [conv] at h; split at h <;> simp at h
  | loop c => simp only [conv] at h; split at h <;> simp at h
  | _ => simp [conv] at h

theorem vx_sound_all {C : Cx} (hC : CSound P C) (hG : C.gl = G) (hwide : P.follows .mixedOrders = true) {A A1 A2 : Nat → Option Hint} {B : Nat → Tr} : ∀ (c : Code),
    CodeOk P G w0 L X0 C A A1 A2 B c ∧ (∀ c0 x y, c = .cond c0 x y → CodeOk P G w0 L X0 C A A1 A2 B x ∧ CodeOk P G w0 L X0 C A A1 A2 B y) ∧
      ∀ z c0 x y, c = .seq z (.cond c0 x y) → CodeOk P G w0 L X0 C A A1 A2 B z ∧ CodeOk P G w0 L X0 C A A1 A2 B x ∧ CodeOk P G w0 L X0 C A A1 A2 B y := by
  intro c
  induction c with
  | skip =>
    refine ⟨?_, fun c0 x y e => (by cases e), fun z c0 x y e => by cases e⟩
    intro vc Q w a fr ρ ex fr' hc h hnt he hQ
    simp only [conv] at hc; obtain rfl := Option.some.inj hc
    simp only [vx] at he
    obtain ⟨rfl, rfl⟩ := by simpa using he
    exact wp_skip (hQ _ _ (After.start h))
  | exit id =>
    refine ⟨?_, fun c0 x y e => (by cases e), fun z c0 x y e => by cases e⟩
    intro vc Q w a fr ρ ex fr' hc h hnt he hQ
    simp only [conv] at hc; obtain rfl := Option.some.inj hc
    simp only [vx] at he
    obtain ⟨rfl, rfl⟩ := by simpa using he
    exact wp_exit (hQ _ _ (After.start h))
  | ret =>
    refine ⟨?_, fun c0 x y e => (by cases e), fun z c0 x y e => by cases e⟩
    intro vc Q w a fr ρ ex fr' hc h hnt he hQ
    simp only [conv] at hc; obtain rfl := Option.some.inj hc
    simp only [vx] at he
    obtain ⟨rfl, rfl⟩ := by simpa using he
    exact wp_ret (hQ _ _ (After.start h))
  | region id ops draw =>
    refine ⟨?_, fun c0 x y e => (by cases e), fun z c0 x y e => by cases e⟩
    intro vc Q w a fr ρ ex fr' hc h hnt he hQ
    simp only [conv] at hc
    split at hc
    · rename_i l hl
      obtain ⟨k1, k2⟩ := convOps_spec hl
      split at hc
      · rename_i hd
        subst hd
        split at hc
        · rename_i m r hl'
          split at hc
          · rename_i hok
            obtain rfl := Option.some.inj hc
            simp only [Bool.and_eq_true, Bool.not_eq_true'] at hok
            obtain ⟨⟨hsel, hnl⟩, hdr⟩ := hok
            simp only [vx] at he
            split at he
            · rename_i fr1 hs
              split at he
              · rename_i fr2 ht
                obtain ⟨hr, halts⟩ := altsOk_spec he
                obtain ⟨rfl, rfl⟩ := by simpa using hr
                -- the world behind the draw
                obtain ⟨f1, _, _⟩ := h.turn (w' := { w with drawn := w.drawn + 1 }) (M := E) ⟨rfl, rfl, rfl, Nat.le_refl _, fun _ _ _ => rfl, fun _ _ h => h⟩ (fun b hb => hb.elim) (fun b hb => hb.elim)
                obtain ⟨f2, _⟩ := f1.less (X1 := X0) (fun b hb => .inl hb)
                have hm := tree_sound hC hG (ops := ops) (vs := l) (fun i o ho => k2 i o (by simpa using ho)) hsel (R := fun a' w' => Q .normal a' w') (B id) ops.size (listed := Array.replicate ops.size false) (S := fun _ => True) (by simp) hdr f2 hnt (fun _ _ => trivial) (fun p hp => by
                    obtain ⟨q, hq, hpq⟩ := pickLs_spec hl' p hp
                    have : ∃ fr3, steps C fr q = some fr3 ∧ tidyO (A id) fr3 = some fr' := by
                      rcases List.mem_cons.1 hq with rfl | hq
                      · exact ⟨fr1, hs, ht⟩
                      · exact halts q hq
                    obtain ⟨fr3, t1, t2⟩ := this
                    exact ⟨fr3, by rw [pickL_spec hpq]; exact t1, fun a' w' hA => hQ a' w' (hA.tidy t2)⟩)
                simp only [TrSem, hnl, Bool.false_eq_true, if_false] at hm
                refine wp_mono (wp_region_any hwide (wpAny_of_M _ _ _ _ hm)) ?_
                rintro e a' w' ⟨rfl, hr⟩
                exact hr
              · simp at he
            · simp at he
          · simp at hc
        · simp at hc
      · rename_i hd
        have hd' : draw = false := by simpa using hd
        subst hd'
        obtain rfl := Option.some.inj hc
        simp only [vx] at he
        split at he
        · rename_i fr1 hs
          split at he
          · rename_i fr2 ht
            obtain ⟨hr, _⟩ := altsOk_spec he
            obtain ⟨rfl, rfl⟩ := by simpa using hr
            have := steps_sound hC hG (Q := Q) (ops := ops) l 0 (fun j v hj => by
              have hlt : j < ops.toList.length := by rw [← k1]; exact (List.getElem?_eq_some_iff.1 hj).1
              obtain ⟨v', q1, q2⟩ := k2 j ops.toList[j] (List.getElem?_eq_getElem hlt)
              rw [hj] at q1
              obtain rfl := Option.some.inj q1
              exact ⟨_, by simp, q2⟩) h hnt hs (fun a' w' hA => hQ a' w' (hA.tidy ht))
            refine wp_region ?_
            rw [k1] at this
            simpa only [List.range_eq_range', Array.length_toList] using this
          · simp at he
        · simp at he
    · simp at hc
  | seq x y ihx ihy =>
    have ihy3 := ihy.2.1
    replace ihy := ihy.1
    refine ⟨?_, fun c0 x y e => (by cases e), fun z c0 x y e => by cases e; exact ⟨ihx.1, ihy3 _ _ _ rfl⟩⟩
    intro vc Q w a fr ρ ex fr' hc h hnt he hQ
    simp only [conv] at hc
    split at hc
    · rename_i vx' hx
      split at hc
      · rename_i vy hy
        obtain rfl := Option.some.inj hc
        -- one code, then the other
        have go : ∀ {z : Code} {vz : Vc} {w : World} {a : Act} {fr0 : Fr} {ρ0 : Place}, CodeOk P G w0 L X0 C A A1 A2 B z → conv P C.own A A1 A2 B z = some vz → FR G w0 L X0 w a.tmps fr0 ρ0 → fr0.nt ≤ 99999 → seqE (vx C vy) (vx C vz fr0) = some (ex, fr') →
            (∀ a' w', After G w0 L X0 a a' w' fr0.heap ρ0 fr' → Q ex.to a' w') → z.wp P (Exit.then (y.wp P Q) Q) a w := by
          intro z vz w a fr0 ρ0 ihz hz h hnt he hQ
          unfold seqE at he
          split at he
          · rename_i fr1 h1
            refine ihz hz h hnt h1 fun a1 w1 ⟨ρ1, b1, b2, b3, b4⟩ => ?_
            exact ihy hy b1 (by rw [← b1.nt, b3, h.nt]; exact hnt) he fun a2 w2 h2 => hQ _ _ (h2.trans ⟨b2, b3, b4⟩)
          · rename_i hne
            refine ihz hz h hnt he fun a1 w1 h1 => ?_
            cases ex with
            | normal => exact absurd he (hne _)
            | exit id => exact hQ _ _ h1
            | ret => exact hQ _ _ h1
        have cond_way : ∀ {t : Nat} {ha hb : Option Hint} {xa xb : Vc} {a1 b1 : Code} {w : World} {a : Act} {fr : Fr} {ρ : Place} (c0 : Operand), CodeOk P G w0 L X0 C A A1 A2 B a1 → CodeOk P G w0 L X0 C A A1 A2 B b1 → od P 0 c0 = some (.tmp t) → conv P C.own A A1 A2 B a1 = some xa → conv P C.own A A1 A2 B b1 = some xb →
            FR G w0 L X0 w a.tmps fr ρ → fr.nt ≤ 99999 → (∀ a' w', After G w0 L X0 a a' w' fr.heap ρ fr' → Q ex.to a' w') → vx C (.condJ (.tmp t) ha hb xa xb vy) fr = some (ex, fr') → (Code.cond c0 a1 b1).wp P (Exit.then (y.wp P Q) Q) a w := by
          intro t ha hb xa xb a1 b1 w a fr ρ c0 iha ihb q1 q4 q5 h hnt hQ he
          have hct := od_sound h q1
          have way : ∀ {hh : Option Hint} {z : Code} {vz : Vc}, CodeOk P G w0 L X0 C A A1 A2 B z → conv P C.own A A1 A2 B z = some vz → (tidyO hh fr).bind (fun fr1 => seqE (vx C vy) (vx C vz fr1)) = some (ex, fr') →
              z.wp P (Exit.then (y.wp P Q) Q) a w := by
            intro hh z vz ihz hz hb
            obtain ⟨fr1, h1, h2⟩ := Option.bind_eq_some_iff.1 hb
            obtain ⟨ρ1, b1, b2⟩ := tidy_sound h h1
            exact go ihz hz b1 (by rw [← b1.nt, h.nt]; exact hnt) h2 fun a' w' hA => hQ _ _ (hA.trans ⟨rfl, rfl, b2⟩)
          simp only [vx] at he
          split at he
          · rename_i tt hv
            rw [← hG, hv] at hct
            refine wp_cond (t := tt) (rep_bool hct) ?_
            cases tt with
            | true => simp only [if_true] at he ⊢; exact way iha q4 he
            | false => simp only [Bool.false_eq_true, if_false] at he ⊢; exact way ihb q5 he
          · rename_i hv
            rw [← hG, hv] at hct
            have : ∃ tt, a.eval c0 = .bool tt := by
              generalize a.eval c0 = v at hct
              cases hct with
              | anyb b => exact ⟨b, rfl⟩
            obtain ⟨tt, htt⟩ := this
            unfold bothE at he
            split at he
            · rename_i heq
              refine wp_cond (t := tt) htt ?_
              cases tt with
              | true => simp only [if_true]; exact way iha q4 he
              | false => simp only [Bool.false_eq_true, if_false]; exact way ihb q5 (heq ▸ he)
            · simp at he
          · simp at he
        have plain : vx C (.seq vx' vy) fr = some (ex, fr') → (Code.seq x y).wp P Q a w := fun he => by
          simp only [vx] at he
          refine wp_seq ?_
          refine go ihx.1 hx h hnt ?_ hQ
          unfold seqE
          exact he
        unfold joinV at he
        split at he
        · rename_i r t ha hb xa xb
          split at he
          · obtain ⟨z1, c0, a1, b1, rfl, q0, q1, q2, q3, q4, q5⟩ := conv_seq hx
            obtain ⟨ihz, iha, ihb⟩ := ihx.2.2 _ _ _ _ rfl
            simp only [vx] at he
            refine wp_seq (wp_seq ?_)
            split at he
            · rename_i fr0 h0
              refine ihz q0 h hnt h0 fun a' w' ⟨ρ0, d1, d2, d3, d4⟩ => ?_
              simp only [Ex.to, Exit.then]
              have hQ' : ∀ a2 w2, After G w0 L X0 a' a2 w2 fr0.heap ρ0 fr' → Q ex.to a2 w2 := fun a2 w2 h2 => hQ _ _ (h2.trans ⟨d2, d3, d4⟩)
              have hnt0 : fr0.nt ≤ 99999 := by rw [← d1.nt, d3, h.nt]; exact hnt
              exact cond_way c0 iha ihb q1 q4 q5 d1 hnt0 hQ' he
            · rename_i hne
              refine ihz q0 h hnt he fun a1 w1 h1 => ?_
              cases ex with
              | normal => exact absurd he (hne _)
              | exit id => exact hQ _ _ h1
              | ret => exact hQ _ _ h1
          · exact plain he
        · exact plain he
      · simp at hc
    · simp at hc
  | cond c x y ihx ihy =>
    replace ihx := ihx.1
    replace ihy := ihy.1
    refine ⟨?_, fun c0 x' y' e => (by cases e; exact ⟨ihx, ihy⟩), fun z c0 x y e => by cases e⟩
    intro vc Q w a fr ρ ex fr' hc h hnt he hQ
    simp only [conv] at hc
    split at hc
    · rename_i c' vx' hcc hx
      split at hc
      · rename_i vy hy
        obtain rfl := Option.some.inj hc
        simp only [vx] at he
        split at he
        · rename_i t hv
          have hct := od_sound h hcc
          rw [← hG, hv] at hct
          refine wp_cond (t := t) (rep_bool hct) ?_
          have go : ∀ {hh : Option Hint} {vc : Vc} {cc : Code}, (∀ {fr1 : Fr} {ρ1 : Place}, FR G w0 L X0 w a.tmps fr1 ρ1 → fr1.nt ≤ 99999 → vx C vc fr1 = some (ex, fr') → (∀ a' w', After G w0 L X0 a a' w' fr1.heap ρ1 fr' → Q ex.to a' w') → cc.wp P Q a w) →
              (tidyO hh fr).bind (fun fr1 => vx C vc fr1) = some (ex, fr') → cc.wp P Q a w := by
            intro hh vc cc ih hb
            obtain ⟨fr1, h1, h2⟩ := Option.bind_eq_some_iff.1 hb
            obtain ⟨ρ1, b1, b2⟩ := tidy_sound h h1
            exact ih b1 (by rw [← b1.nt, h.nt]; exact hnt) h2 fun a' w' hA => hQ _ _ (hA.trans ⟨rfl, rfl, b2⟩)
          cases t with
          | true => simp only [if_true] at he ⊢; exact go (fun q1 q2 q3 q4 => ihx hx q1 q2 q3 q4) he
          | false => simp only [Bool.false_eq_true, if_false] at he ⊢; exact go (fun q1 q2 q3 q4 => ihy hy q1 q2 q3 q4) he
        · simp at he
      · simp at hc
    · simp at hc
  | block id c ih =>
    replace ih := ih.1
    refine ⟨?_, fun c0 x y e => (by cases e), fun z c0 x y e => by cases e⟩
    intro vc Q w a fr ρ ex fr' hc h hnt he hQ
    simp only [conv] at hc
    split at hc
    · rename_i vx' hx
      obtain rfl := Option.some.inj hc
      simp only [vx] at he
      refine wp_block ?_
      split at he
      · rename_i j fr1 h1
        refine ih hx h hnt h1 fun a1 w1 h2 => ?_
        simp only [Ex.to, Exit.inBlock]
        split at he
        · rename_i hj
          obtain ⟨rfl, rfl⟩ := by simpa using he
          rw [if_pos hj]; exact hQ _ _ h2
        · rename_i hj
          obtain ⟨rfl, rfl⟩ := by simpa using he
          rw [if_neg hj]; exact hQ _ _ h2
      · rename_i hne
        refine ih hx h hnt he fun a1 w1 h1 => ?_
        cases ex with
        | normal => exact hQ _ _ h1
        | exit id' => exact absurd he (hne _ _)
        | ret => exact hQ _ _ h1
    · simp at hc
  | loop c ih =>
    replace ih := ih.1
    refine ⟨?_, fun c0 x y e => (by cases e), fun z c0 x y e => by cases e⟩
    intro vc Q w a fr ρ ex fr' hc h hnt he hQ
    simp only [conv] at hc
    split at hc
    · rename_i vx' hx
      obtain rfl := Option.some.inj hc
      simp only [vx] at he
      obtain ⟨n, hn⟩ := vloop_iff.1 he
      refine wp_loop_rounds n ?_
      clear he
      induction n generalizing w a fr ρ with
      | zero => simp [iter] at hn
      | succ n ihn =>
        rw [rounds_succ]
        rw [iter] at hn
        split at hn
        · rename_i fr1 h1
          refine ih hx h hnt h1 fun a1 w1 ⟨ρ1, b1, b2, b3, b4⟩ => ?_
          exact ihn b1 (by rw [← b1.nt, b3, h.nt]; exact hnt) (fun a2 w2 h2 => hQ _ _ (h2.trans ⟨b2, b3, b4⟩)) hn
        · rename_i hne
          refine ih hx h hnt hn fun a1 w1 h1 => ?_
          cases ex with
          | normal => exact absurd hn (hne _)
          | exit id => exact hQ _ _ h1
          | ret => exact hQ _ _ h1
    · simp at hc
  | _ => exact ⟨fun vc Q w a fr ρ ex fr' hc => by simp [conv] at hc, fun c0 x y e => (by cases e), fun z c0 x y e => by cases e⟩

theorem vx_sound {C : Cx} (hC : CSound P C) (hG : C.gl = G) (hwide : P.follows .mixedOrders = true) {A A1 A2 : Nat → Option Hint} {B : Nat → Tr} (c : Code) {vc : Vc} {Q : Exit → Act → World → Prop} {w : World} {a : Act} {fr : Fr} {ρ : Place} {ex : Ex} {fr' : Fr} (hc : conv P C.own A A1 A2 B c = some vc)
    (h : FR G w0 L X0 w a.tmps fr ρ) (hnt : fr.nt ≤ 99999) (he : vx C vc fr = some (ex, fr')) (hQ : ∀ a' w', After G w0 L X0 a a' w' fr.heap ρ fr' → Q ex.to a' w') : c.wp P Q a w :=
  (vx_sound_all hC hG hwide c).1 hc h hnt he hQ
end
end Go.Proofs.YtclhghlpokdiiaaDoor.Wm
set_option linter.unusedSimpArgs false
set_option linter.unusedVariables false
namespace Go.Proofs.YtclhghlpokdiiaaDoor.Wm
open Go

/-! Functions -/
def base (i : Nat) : Nat := 1000000000 + 1000 * i

def argM (i m : Nat) (ds : List D) (fr : Fr) : Option (Fr × List D) :=
  if 100 ≤ m then (if m - 100 ≤ ds.length then (match instL true (base i) fr.heap (ds.take (m - 100)) with
    | some (ys, H, _) => some ({ fr with env := (i, .agg ys) :: fr.env, heap := H }, ds.drop (m - 100))
    | none => none) else none) else (match ds with
    | d :: ds' => match inst1 true (base i) fr.heap d with
      | some (y, H, _) => some ({ fr with env := (i, y) :: fr.env, heap := H }, ds')
      | none => none
    | [] => none)
def argsFr (i : Nat) : List Nat → List D → Fr → Option Fr
  | [], ds, fr => if ds.isEmpty = true then some fr else none
  | m :: ms, ds, fr => match argM i m ds fr with
    | some (fr1, ds1) => argsFr (i + 1) ms ds1 fr1
    | none => none

/-- Where what is handed over comes to lie. -/
def idsC : Nat → List D → List Nat
  | _, [] => []
  | b, d :: ds => b :: idsC (match d with | .ow _ _ => b + 1 | _ => b) ds
def idsM (i m : Nat) (ds : List D) : List Nat × List D :=
  if 100 ≤ m then (idsC (base i) (ds.take (m - 100)), ds.drop (m - 100)) else (match ds with
    | _ :: ds' => ([base i], ds')
    | [] => ([], []))
def idsOf (i : Nat) : List Nat → List D → List Nat
  | [], _ => []
  | m :: ms, ds => match idsM i m ds with
    | (bs, ds1) => bs ++ idsOf (i + 1) ms ds1

def takeT (H : Heap) : List V → List D × Heap × Bool
  | [] => ([], H, false)
  | x :: xs => match takeV false H x with
    | (d, H1, f1) => match takeT H1 xs with
      | (ds, H2, f2) => (d :: ds, H2, f1 || f2)

/-- What is left of an argument. -/
def outA (H : Heap) (b : Nat) : D → D × Heap × Bool
  | .op o _ => takeV false H (.pt b o)
  | .ow _ _ => match look b H with
    | some (.row old sz els) => (.ow sz els, updB b .gone H, old)
    | _ => (.gone, H, false)
  | _ => (.gone, H, false)
def outsD (H : Heap) : List Nat → List D → List D × Heap × Bool
  | b :: bs, d :: ds => match outA H b d with
    | (o, H1, f1) => match outsD H1 bs ds with
      | (os, H2, f2) => (o :: os, H2, f1 || f2)
  | _, _ => ([], H, false)

/-- What stands in a result's variable. -/
def resX (gl : Nat → Option (List D)) (fr : Fr) : Nat × Option (Option Nat) → Option V
  | (t, none) => some (oval gl fr.env (.tmp t))
  | (t, some s) => loadV fr.heap s (oval gl fr.env (.tmp t))
def resXs (gl : Nat → Option (List D)) (fr : Fr) : List (Nat × Option (Option Nat)) → Option (List V)
  | [] => some []
  | r :: rs => match resX gl fr r with
    | some x => match resXs gl fr rs with
      | some xs => some (x :: xs)
      | none => none
    | none => none
def resD : List D → D
  | [d] => d
  | ds => .tup ds

def finD (gl : Nat → Option (List D)) (rs : List (Nat × Option (Option Nat))) (bs : List Nat) (ds : List D) (fr : Fr) : Option (D × List D) := match resXs gl fr rs with
  | some xs => match takeT fr.heap xs with
    | (rd, H, _) => match outsD H bs ds with
      | (outs, _, _) => some (resD rd, outs)
  | none => none

noncomputable def callFn (C : Cx) (ms : List Nat) (vc : Vc) (nt : Nat) (rs : List (Nat × Option (Option Nat))) (ds : List D) : Option (D × List D) :=
  match argsFr 0 ms ds ⟨[], [], nt⟩ with
  | some fr => match vx C vc fr with
    | some (.exit _, _) => none
    | some (_, fr1) => finD C.gl rs (idsOf 0 ms ds) ds fr1
    | none => none
  | none => none

section
variable {P : Program} {G : Nat → Option (List D)} {w0 : World} {L X0 X1 : Nat → Prop} {w w' w2 : World} {tm : Array Value} {fr : Fr} {ρ ρ' : Place} {X : K → Nat → Prop} {H : Heap}

theorem base_big (i : Nat) : 1000000000 ≤ base i := by unfold base; omega

theorem idsC_spec : ∀ {ds : List D} {b : Nat}, (idsC b ds).length = ds.length ∧ ∀ x ∈ idsC b ds, b ≤ x
  | [], b => ⟨rfl, fun x hx => by simp [idsC] at hx⟩
  | d :: ds, b => by
    have go : ∀ {b' : Nat}, b ≤ b' → (b :: idsC b' ds).length = (d :: ds).length ∧ ∀ x ∈ b :: idsC b' ds, b ≤ x := fun {b'} hb => by
      obtain ⟨h1, h2⟩ := idsC_spec (ds := ds) (b := b')
      refine ⟨by simp [h1], fun x hx => ?_⟩
      rcases List.mem_cons.1 hx with rfl | hx
      · exact Nat.le_refl _
      · exact Nat.le_trans hb (h2 x hx)
    simp only [idsC]
    split
    · exact go (by omega)
    · exact go (Nat.le_refl _)

/-- Where an argument lies. -/
def ArgOk (w : World) (H : Heap) (ρ : Place) (b : Nat) (d : D) (v : Value) (F : Nat → Prop) : Prop := match d with
  | .ow sz els => ∃ B, look b H = some B ∧ (B.sh = .gone ∨ B.sh = .row sz els.length ∧ ((els = [] ∧ ∃ a, v = .slice a 0 0) ∨
      ∃ g k c, v = .slice (some ⟨g, k, none⟩) els.length c ∧ (∀ b, F b ↔ b = g) ∧ els.length ≤ c ∧ OwnBlk w g (k + c * sz) ∧ ρ b = some (g, k)))
  | .op o _ => ∃ B, look b H = some B ∧ (B.sh = .gone ∧ (∃ a, v = .pointer a) ∨ B.sh = .var ∧ ∃ g k, v = .pointer (some ⟨g, k + o, none⟩) ∧ ρ b = some (g, k))
  | _ => True

theorem ArgOk.keep {H' : Heap} {i : Nat} (hi : 1000000000 ≤ i) {d : D} {v : Value} {F : Nat → Prop} (h : ArgOk w H ρ i d v F) (hk : Keep H H' ρ ρ') (ho : ∀ g m, OwnBlk w g m → OwnBlk w' g m) : ArgOk w' H' ρ' i d v F := by
  unfold ArgOk at h ⊢
  split at h
  · obtain ⟨B, h1, h2⟩ := h
    obtain ⟨B', k1, k2⟩ := hk _ B hi h1
    refine ⟨B', k1, ?_⟩
    rcases k2 with k2 | ⟨k2, k3⟩
    · exact .inl k2
    · rw [k3, k2]
      refine h2.imp id fun q => ⟨q.1, q.2.imp id ?_⟩
      rintro ⟨g, k, c, a1, a2, a3, a4, a5⟩
      exact ⟨g, k, c, a1, a2, a3, ho _ _ a4, a5⟩
  · obtain ⟨B, h1, h2⟩ := h
    obtain ⟨B', k1, k2⟩ := hk _ B hi h1
    refine ⟨B', k1, ?_⟩
    rcases k2 with k2 | ⟨k2, k3⟩
    · refine .inl ⟨k2, ?_⟩
      rcases h2 with h2 | ⟨_, g, k, h2, _⟩
      · exact h2.2
      · exact ⟨_, h2⟩
    · rw [k3, k2]; exact h2
  · trivial

/-- What came in as a block of its own. -/
theorem argOk_ow {sz : Nat} {els : List (List D)} {u : Value} {F : Nat → Prop} {Z : K → Nat → Prop} {b : Nat} {fl : Bool} (hlk : look b H = some (.row fl sz els)) (hre : RepE w X H ρ (.sl b 0 els.length) u) (hr : RepV w Z (.ow sz els) u F) : ArgOk w H ρ b (.ow sz els) u F := by
  refine ⟨.row fl sz els, hlk, .inr ⟨rfl, ?_⟩⟩
  cases hre with
  | sl _ _ _ _ B hb hs =>
    rw [hlk] at hb
    obtain rfl := Option.some.inj hb
    obtain ⟨s1, A, c, s2, s3, s4⟩ := hs
    cases hr with
    | plain _ _ _ hF h => cases h
    | own sz a F hF => exact .inl ⟨rfl, a, rfl⟩
    | ow sz els g k c' F hFF hcc how hz hh =>
      simp at s2
      obtain ⟨rfl, rfl⟩ := s2
      rcases s4 with rfl | ⟨g', k', q1, q2, q3⟩
      · have : els = [] := List.eq_nil_of_length_eq_zero (by omega)
        subst this
        exact .inl ⟨rfl, _, rfl⟩
      · simp at q2
        obtain ⟨rfl, rfl⟩ := q2
        exact .inr ⟨g, k, c', rfl, hFF, hcc, how, q1⟩

theorem look_free {id s : Nat} {B C : Blk} (h : free id H = true) (hs : look s H = some B) : look s ((id, C) :: H) = some B := by
  have hne : id ≠ s := fun e => by subst e; rw [free_spec h] at hs; simp at hs
  simp only [look]; rw [if_neg hne]; exact hs
/-- The blocks of cells that come in. -/
theorem instL_ids {fl : Bool} : ∀ {ds : List D} {id n : Nat} {H H' : Heap} {ys : List V}, instL fl id H ds = some (ys, H', n) → (∀ s B, look s H = some B → look s H' = some B) ∧ (∀ o cs, .op o cs ∉ ds) ∧
    ∀ (j sz : Nat) (els : List (List D)) (b : Nat), ds[j]? = some (.ow sz els) → (idsC id ds)[j]? = some b → ys[j]? = some (.sl b 0 els.length) ∧ look b H' = some (.row fl sz els)
  | [], id, n, H, H', ys, he => by
    simp only [instL] at he
    obtain ⟨rfl, rfl, rfl⟩ := by simpa using he
    exact ⟨fun _ _ h => h, by simp, fun j sz els b q => by simp at q⟩
  | d :: ds, id, n, H, H', ys, he => by
    simp only [instL] at he
    split at he
    · rename_i x H1 n1 h1
      split at he
      · rename_i xs H2 n2 h2
        obtain ⟨rfl, rfl, rfl⟩ := by simpa using he
        obtain ⟨a1, a2, a3⟩ := instL_ids h2
        cases d with
        | ow sz els =>
          simp only [instC] at h1
          split at h1
          · rename_i hf
            obtain ⟨rfl, rfl, rfl⟩ := by simpa using h1
            refine ⟨fun s B hs => a1 s B (look_free hf hs), fun o cs hm => ?_, fun j sz' els' b q1 q2 => ?_⟩
            · rcases List.mem_cons.1 hm with e | hm
              · cases e
              · exact a2 o cs hm
            · cases j with
              | zero =>
                simp [idsC] at q1 q2
                obtain ⟨rfl, rfl⟩ := q1
                subst q2
                exact ⟨rfl, a1 _ _ (by simp [look])⟩
              | succ j => exact a3 j sz' els' b (by simpa using q1) (by simpa [idsC] using q2)
          · simp at h1
        | op o cs => simp [instC] at h1
        | agg cs => simp [instC] at h1
        | tup cs => simp [instC] at h1
        | _ =>
          simp only [instC] at h1
          obtain ⟨rfl, rfl, rfl⟩ := by simpa using h1
          refine ⟨fun s B hs => a1 s B hs, fun o cs hm => ?_, fun j sz' els' b q1 q2 => ?_⟩
          · rcases List.mem_cons.1 hm with e | hm
            · cases e
            · exact a2 o cs hm
          · cases j with
            | zero => simp at q1
            | succ j => exact a3 j sz' els' b (by simpa using q1) (by simpa [idsC] using q2)
      · simp at he
    · simp at he

theorem allF_split {n : Nat} {φ : Nat → Nat → Prop} {m b : Nat} (h : n ≤ m) : AllF m φ b ↔ AllF n φ b ∨ AllF (m - n) (fun i => φ (n + i)) b := by
  constructor
  · rintro ⟨i, hi, hb⟩
    rcases Nat.lt_or_ge i n with h' | h'
    · exact .inl ⟨i, h', hb⟩
    · exact .inr ⟨i - n, by omega, by show φ (n + (i - n)) b; rw [show n + (i - n) = i by omega]; exact hb⟩
  · rintro (⟨i, hi, hb⟩ | ⟨i, hi, hb⟩)
    · exact ⟨i, by omega, hb⟩
    · exact ⟨n + i, by omega, hb⟩
theorem RepVs.split {Z : K → Nat → Prop} {ds : List D} {us vs : List Value} {φ : Nat → Nat → Prop} {n : Nat} (hn : n ≤ ds.length) (hl : us.length = n) (h : RepVs w Z ds (us ++ vs) φ) :
    RepVs w Z (ds.take n) us φ ∧ RepVs w Z (ds.drop n) vs (fun i => φ (n + i)) ∧ ∀ b, AllF n φ b → ¬ AllF (ds.length - n) (fun i => φ (n + i)) b := by
  obtain ⟨h1, h2, h3⟩ := h
  refine ⟨⟨by simp; omega, fun i j b hi hj => h2 i j b (by simp at hi; omega) (by simp at hj; omega), fun i d v q1 q2 => ?_⟩, ⟨by simp at h1 ⊢; omega, fun i j b hi hj q1 q2 => ?_, fun i d v q1 q2 => ?_⟩, ?_⟩
  · have hi : i < n := by have := (List.getElem?_eq_some_iff.1 q2).1; omega
    rw [List.getElem?_take, if_pos hi] at q1
    exact h3 i d v q1 (by rw [List.getElem?_append_left (by omega)]; exact q2)
  · have := h2 (n + i) (n + j) b (by simp at hi; omega) (by simp at hj; omega) q1 q2
    omega
  · rw [List.getElem?_drop] at q1
    exact h3 (n + i) d v q1 (by rw [List.getElem?_append_right (by omega), hl, show n + i - n = i by omega]; exact q2)
  · rintro b ⟨i, hi, q1⟩ ⟨j, hj, q2⟩
    have := h2 i (n + j) b (by omega) (by omega) q1 q2
    omega

theorem Flat.nil' {vs us : List Value} (h : Flat [] vs us) : vs = [] ∧ us = [] := by
  cases h; exact ⟨rfl, rfl⟩
theorem Flat.cons' {m : Nat} {ms : List Nat} {vs us : List Value} (h : Flat (m :: ms) vs us) : (m < 100 ∧ ∃ v vs' us', vs = v :: vs' ∧ us = v :: us' ∧ Flat ms vs' us') ∨
    (100 ≤ m ∧ ∃ (u0 : Array Value) (vs' us' : List Value), vs = .agg u0 :: vs' ∧ us = u0.toList ++ us' ∧ u0.size = m - 100 ∧ Flat ms vs' us') := by
  cases h with
  | one _ _ u vs us hm t => exact .inl ⟨hm, u, vs, us, rfl, rfl, t⟩
  | agg _ _ u0 vs us hm hs t => exact .inr ⟨hm, u0, vs, us, rfl, rfl, hs, t⟩

theorem argsFr_sound : ∀ (ms : List Nat) {i : Nat} {ds : List D} {Xb : Nat → Prop} {Z : K → Nat → Prop} {vs us : List Value} {φ : Nat → Nat → Prop} {fr fr' : Fr} {ρ : Place}, Flat ms vs us →
    FR G w0 L (fun b => Xb b ∨ AllF ds.length φ b) w tm fr ρ → (∀ b, AllF ds.length φ b → ¬ Xb b ∧ (L b ∨ w0.heap.size ≤ b)) → RepVs w Z ds us φ → (∀ k b, b < w.heap.size → XX w0 (fun b => Xb b ∨ AllF ds.length φ b) fr.heap ρ k b → Z k b) →
    (∀ (j : Nat) (u : Value), vs[j]? = some u → tm.getD (i + j) undef = u) → argsFr i ms ds fr = some fr' →
    ∃ ρ', FR G w0 L Xb w tm fr' ρ' ∧ Keep fr.heap fr'.heap ρ ρ' ∧ fr'.nt = fr.nt ∧ (idsOf i ms ds).length = ds.length ∧ (∀ b ∈ idsOf i ms ds, 1000000000 ≤ b) ∧
      ∀ (j : Nat) (d : D) (u : Value) (b : Nat), ds[j]? = some d → us[j]? = some u → (idsOf i ms ds)[j]? = some b → ArgOk w fr'.heap ρ' b d u (φ j) := by
  intro ms
  induction ms with
  | nil =>
    intro i ds Xb Z vs us φ fr fr' ρ hfl h hF hr hZ htm he
    obtain ⟨rfl, rfl⟩ := hfl.nil'
    obtain rfl : ds = [] := List.eq_nil_of_length_eq_zero (by have := hr.1; simpa using this.symm)
    simp only [argsFr, List.isEmpty_nil, if_true] at he
    obtain rfl := Option.some.inj he
    have e : (fun b => Xb b ∨ AllF ([] : List D).length φ b) = Xb := by funext b; simp [AllF]
    rw [e] at h
    exact ⟨ρ, h, Keep.refl _ _, rfl, rfl, fun b hb => by simp [idsOf] at hb, fun j d u b hj => by simp at hj⟩
  | cons m ms ih =>
    intro i ds Xb Z vs us φ fr fr' ρ hfl h hF hr hZ htm he
    simp only [argsFr, argM] at he
    simp only [idsOf, idsM]
    rcases hfl.cons' with ⟨hm, u, vs', us', rfl, rfl, t⟩ | ⟨hm, u0, vs', us', rfl, rfl, hs, t⟩
    ·
      rw [if_neg (by omega)] at he
      rw [if_neg (by omega)]
      obtain ⟨d, ds, rfl⟩ := List.exists_cons_of_ne_nil (l := ds) (by rintro rfl; have := hr.1; simp at this)
      obtain ⟨t1, t2, t3, t4⟩ := hr.tail
      simp only at he ⊢
      split at he
      case h_2 => simp at he
      rename_i fr1 ds1 hM
      split at hM
      · rename_i y H1 n hin
        obtain ⟨rfl, rfl⟩ := by simpa using hM
        have e1 : (fun b => Xb b ∨ AllF (d :: ds).length φ b) = fun b => (Xb b ∨ AllF ds.length (fun j => φ (j + 1)) b) ∨ φ 0 b := by
          funext b
          have : AllF (d :: ds).length φ b ↔ _ := t4 b
          rw [this, or_assoc]
          exact propext ⟨fun q => q.imp id fun q => q.symm, fun q => q.imp id fun q => q.symm⟩
        rw [e1] at h hZ
        obtain ⟨ρ1, p, r1⟩ := inst1_sound (fl := true) (X0 := fun b => Xb b ∨ AllF ds.length (fun j => φ (j + 1)) b) (F := φ 0) (Z := Z) h (fun b hb => by
            obtain ⟨q1, q2⟩ := hF b ((t4 b).2 (.inl hb))
            exact ⟨fun q => q.elim q1 (t3 b hb), q2.imp (fun q => ⟨rfl, q⟩) id⟩) t1 hZ hin
        have hu : tm.getD i undef = u := by simpa using htm 0 u rfl
        have p1 := p.1.putTm (t := i) (x := y) (by rw [hu]; exact r1)
        obtain ⟨ρ2, b1, b2, b3, b5, b6, b4⟩ := ih (i := i + 1) (Xb := Xb) (us := us') (φ := fun j => φ (j + 1)) (Z := Z) t p1 (fun b hb => hF b ((t4 b).2 (.inr hb))) t2 (fun k b hb q => hZ k b hb (p.2.1.off k b hb q))
          (fun j v hj => by have := htm (j + 1) v (by simpa using hj); rwa [show i + (j + 1) = i + 1 + j by omega] at this) he
        refine ⟨ρ2, b1, (Keep.of_htr p.2.2.1).trans b2, b3, by simp [b5], fun b hb => ?_, fun j d' u1 b hj hu1 hb => ?_⟩
        · rcases List.mem_cons.1 hb with rfl | hb
          · exact base_big i
          · exact b6 b hb
        · cases j with
          | succ j => exact b4 j d' u1 b (by simpa using hj) (by simpa using hu1) (by simpa using hb)
          | zero =>
            simp at hj hu1 hb
            subst hj; subst hu1; subst hb
            refine ArgOk.keep (base_big i) ?_ b2 (fun _ _ h => h)
            cases d with
            | ow sz els =>
              simp only [inst1, instC] at hin
              split at hin
              · obtain ⟨rfl, rfl, rfl⟩ := by simpa using hin
                exact argOk_ow (fl := true) (by simp [look]) r1 t1
              · simp at hin
            | op o cs =>
              simp only [inst1] at hin
              split at hin
              · split at hin
                · obtain ⟨rfl, rfl, rfl⟩ := by simpa using hin
                  rename_i xs0 _ _ _ _
                  refine ⟨.var true xs0, by simp [look], .inr ⟨rfl, ?_⟩⟩
                  cases r1 with
                  | pt _ _ _ B hb hs =>
                    simp [look] at hb
                    subst hb
                    obtain ⟨g, k, q1, q2⟩ := hs
                    exact ⟨g, k, q2, q1⟩
                · simp at hin
              · simp at hin
            | _ => trivial
      · simp at hM
    ·
      rw [if_pos hm] at he
      rw [if_pos hm]
      split at he
      case h_2 => simp at he
      rename_i fr1 ds1 hM
      split at hM
      · rename_i hn
        generalize hnn : m - 100 = n at hM hn hs ⊢
        obtain ⟨t1, t2, t3⟩ := hr.split hn (by simpa using hs)
        have t4 : ∀ b, AllF ds.length φ b ↔ AllF n φ b ∨ AllF (ds.length - n) (fun i => φ (n + i)) b := fun b => allF_split hn
        have l1 : (ds.take n).length = n := by simp; omega
        have l2 : (ds.drop n).length = ds.length - n := by simp
        split at hM
        · rename_i ys H1 n1 hin
          obtain ⟨rfl, rfl⟩ := by simpa using hM
          have e1 : (fun b => Xb b ∨ AllF ds.length φ b) = fun b => (Xb b ∨ AllF (ds.drop n).length (fun j => φ (n + j)) b) ∨ AllF (ds.take n).length φ b := by
            funext b
            rw [l1, l2, or_assoc]
            refine propext ⟨fun q => q.imp id fun q => ((t4 b).1 q).symm, fun q => q.imp id fun q => (t4 b).2 q.symm⟩
          rw [e1] at h hZ
          obtain ⟨ρ1, p, rl, r1⟩ := instL_sound (fl := true) (X0 := fun b => Xb b ∨ AllF (ds.drop n).length (fun j => φ (n + j)) b) (φ := φ) (Z := Z) (us := u0.toList) h (fun b hb => by
              rw [l1] at hb
              obtain ⟨q1, q2⟩ := hF b ((t4 b).2 (.inl hb))
              exact ⟨fun q => q.elim q1 (by rw [l2]; exact t3 b hb), q2.imp (fun q => ⟨rfl, q⟩) id⟩) t1 hZ hin
          obtain ⟨i1, i2, i3⟩ := instL_ids hin
          have hu : tm.getD i undef = .agg u0 := by simpa using htm 0 _ rfl
          have p1 := p.1.putTm (t := i) (x := .agg ys) (by rw [hu]; exact .agg ys u0 (by rw [rl, l1]; exact hs) fun i x u q1 q2 => r1 i x u q1 (by simpa using q2))
          obtain ⟨ρ2, b1, b2, b3, b5, b6, b4⟩ := ih (i := i + 1) (Xb := Xb) (us := us') (φ := fun j => φ (n + j)) (Z := Z) t p1 (fun b hb => hF b ((t4 b).2 (.inr (by rw [l2] at hb; exact hb)))) t2 (fun k b hb q => hZ k b hb (p.2.1.off k b hb q))
            (fun j v hj => by have := htm (j + 1) v (by simpa using hj); rwa [show i + (j + 1) = i + 1 + j by omega] at this) he
          obtain ⟨c1, c2⟩ := idsC_spec (ds := ds.take n) (b := base i)
          refine ⟨ρ2, b1, (Keep.of_htr p.2.2.1).trans b2, b3, by rw [List.length_append, c1, b5, l1, l2]; omega, fun b hb => ?_, fun j d' u1 b hj hu1 hb => ?_⟩
          · rcases List.mem_append.1 hb with hb | hb
            · exact Nat.le_trans (base_big i) (c2 b hb)
            · exact b6 b hb
          · rcases Nat.lt_or_ge j n with hjn | hjn
            · rw [List.getElem?_append_left (by rw [c1, l1]; exact hjn)] at hb
              rw [List.getElem?_append_left (by simpa [hs] using hjn)] at hu1
              have hj' : (ds.take n)[j]? = some d' := by rw [List.getElem?_take, if_pos hjn]; exact hj
              refine ArgOk.keep (Nat.le_trans (base_big i) (c2 b (List.mem_of_getElem? hb))) ?_ b2 (fun _ _ h => h)
              cases d' with
              | ow sz els =>
                obtain ⟨q1, q2⟩ := i3 j sz els b hj' hb
                exact argOk_ow q2 (r1 j _ u1 q1 hu1) (t1.2.2 j _ u1 hj' hu1)
              | op o cs => exact absurd (List.mem_of_getElem? hj') (i2 o cs)
              | _ => trivial
            · rw [List.getElem?_append_right (by rw [c1, l1]; exact hjn), c1, l1] at hb
              rw [List.getElem?_append_right (by simpa [hs] using hjn)] at hu1
              have hu2 : us'[j - n]? = some u1 := by simpa [hs] using hu1
              have := b4 (j - n) d' u1 b (by rw [List.getElem?_drop, show n + (j - n) = j by omega]; exact hj) hu2 hb
              simpa only [show n + (j - n) = j by omega] using this
        · simp at hM
      · simp at hM

theorem takeT_sound : ∀ {xs : List V} {us : List Value} {X0 : Nat → Prop} {fr : Fr} {ds : List D} {H' : Heap} {fl : Bool}, FR G w0 L X0 w tm fr ρ → us.length = xs.length →
    (∀ (i : Nat) (x : V) (u : Value), xs[i]? = some x → us[i]? = some u → RepE w (XX w0 X0 fr.heap ρ) fr.heap ρ x u) → takeT fr.heap xs = (ds, H', fl) →
    ∃ φ, Took G w0 L X0 w tm fr ρ H' fl (AllF ds.length φ) ∧ RepVs w (XX w0 X0 fr.heap ρ) ds us φ ∧ ds.length = xs.length
  | [], us, X0, fr, ds, H', fl, h, hl, hx, he => by
    simp only [takeT] at he
    obtain ⟨rfl, rfl, rfl⟩ := by simpa using he
    obtain rfl := List.eq_nil_of_length_eq_zero (by simpa using hl)
    exact ⟨fun _ => E, Took.none h fun b ⟨_, hi, _⟩ => by simp at hi, repVs_nil, rfl⟩
  | x :: xs, us, X0, fr, ds, H', fl, h, hl, hx, he => by
    obtain ⟨u, us, rfl⟩ := List.exists_cons_of_ne_nil (l := us) (by rintro rfl; simp at hl)
    simp only [takeT] at he
    cases h1 : takeV false fr.heap x with
    | mk d p =>
      obtain ⟨H1, f1⟩ := p
      simp only [h1] at he
      cases h2 : takeT H1 xs with
      | mk ds' p2 =>
        obtain ⟨H2, f2⟩ := p2
        simp only [h2] at he
        obtain ⟨rfl, rfl, rfl⟩ := by simpa using he
        obtain ⟨F, a1, a2⟩ := takeV_sound false h (hx 0 x u rfl rfl) h1
        have st : Stay w w (XX w0 X0 fr.heap ρ) (XX w0 (fun g => X0 g ∨ F g) H1 ρ) := by rw [a1.2.1]; exact Stay.refl _ _
        obtain ⟨φ, b1, b2, b3⟩ := takeT_sound (us := us) a1.1 (by simpa using hl) (fun i y v hy hv => (hx (i + 1) y v (by simpa using hy) (by simpa using hv)).tr st a1.2.2.1) h2
        obtain ⟨c1, c2⟩ := a1.trans b1
        simp only [a1.2.1] at b2
        have e : (fun b => F b ∨ AllF ds'.length φ b) = AllF (d :: ds').length (consF F φ) := by funext b; exact propext (allF_cons (n := ds'.length)).symm
        rw [e] at c1
        exact ⟨consF F φ, c1, b2.cons a2 c2, by simp [b3]⟩

theorem outA_sound (h : FR G w0 L X0 w tm fr ρ) {bb : Nat} {d : D} {v : Value} {F0 : Nat → Prop} (ha : ArgOk w fr.heap ρ bb d v F0) {o : D} {H' : Heap} {fl : Bool} (he : outA fr.heap bb d = (o, H', fl)) :
    ∃ F, Took G w0 L X0 w tm fr ρ H' fl F ∧ RepV w (XX w0 X0 fr.heap ρ) o v F ∧ ∀ sz els sz' els', d = .ow sz els → o = .ow sz' els' → (∀ b, F0 b → F b) ∨ (els = [] ∧ els' = [] ∧ ∃ a, v = .slice a 0 0) := by
  have non : ∃ F, Took G w0 L X0 w tm fr ρ fr.heap false F ∧ RepV w (XX w0 X0 fr.heap ρ) .gone v F := ⟨E, Took.none h fun b hb => hb, .plain _ _ _ (fun b hb => hb) (.gone _)⟩
  unfold outA at he
  unfold ArgOk at ha
  split at he
  · rename_i o' cs
    simp only at ha
    obtain ⟨B, h1, h2⟩ := ha
    have hx : RepE w (XX w0 X0 fr.heap ρ) fr.heap ρ (.pt bb o') v := by
      refine .pt _ _ _ B h1 ?_
      rcases h2 with ⟨h2, a, rfl⟩ | ⟨h2, g, k, rfl, h3⟩
      · rw [h2]; exact ⟨a, rfl⟩
      · rw [h2]; exact ⟨g, k, h3, rfl⟩
    obtain ⟨F, a1, a2⟩ := takeV_sound false h hx he
    exact ⟨F, a1, a2, fun sz els sz' els' e => by simp at e⟩
  · rename_i sz els
    simp only at ha
    obtain ⟨B, h1, h2⟩ := ha
    split at he
    · rename_i old sz' els' hlk
      obtain ⟨rfl, rfl, rfl⟩ := by simpa using he
      rw [hlk] at h1
      obtain rfl := Option.some.inj h1
      rcases h2 with h2 | ⟨h2, h3⟩
      · simp [Blk.sh] at h2
      · simp only [Blk.sh, Sh.row.injEq] at h2
        obtain ⟨rfl, hlen⟩ := h2
        obtain ⟨a1, a2, a3⟩ := h.kill hlk rfl
        obtain ⟨r1, r2, r3⟩ := h.blk _ _ hlk
        refine ⟨fun g => ∃ k, ρ bb = some (g, k), ⟨a1, a2, a3, fun g ⟨k, hk⟩ => ⟨h.out _ _ g k hlk rfl hk, h.new _ _ g k hlk rfl hk⟩⟩, ?_, fun sz1 els1 sz2 els2 e1 e2 => ?_⟩
        · rcases h3 with ⟨rfl, a, rfl⟩ | ⟨g, k, c, rfl, q2, q3, q4, q5⟩
          · have : els' = [] := List.eq_nil_of_length_eq_zero (by simpa using hlen)
            subst this
            exact .own _ _ _ fun g ⟨k, hk⟩ => h.held_lt ⟨_, _, k, hlk, rfl, hk⟩
          · rw [← hlen]
            exact .ow _ _ g k c _ (fun x => ⟨fun ⟨k', hk⟩ => by rw [q5] at hk; simp at hk; exact hk.1.symm, fun hx => ⟨k, by rw [hx]; exact q5⟩⟩) (by rw [hlen]; exact q3) q4 r1 (r3 g k q5).2
        · simp at e1 e2
          obtain ⟨rfl, rfl⟩ := e1
          obtain ⟨rfl, rfl⟩ := e2
          rcases h3 with ⟨rfl, a, rfl⟩ | ⟨g, k, c, rfl, q2, q3, q4, q5⟩
          · exact .inr ⟨rfl, List.eq_nil_of_length_eq_zero (by simpa using hlen), a, rfl⟩
          · left
            intro b hb
            rw [(q2 b).1 hb]
            exact ⟨k, q5⟩
    · obtain ⟨rfl, rfl, rfl⟩ := by simpa using he
      obtain ⟨F, b1, b2⟩ := non
      exact ⟨F, b1, b2, fun sz els sz' els' _ e => by simp at e⟩
  · obtain ⟨rfl, rfl, rfl⟩ := by simpa using he
    obtain ⟨F, b1, b2⟩ := non
    exact ⟨F, b1, b2, fun sz els sz' els' _ e => by simp at e⟩

theorem outsD_sound : ∀ (ds : List D) {bs : List Nat} {us : List Value} {φ : Nat → Nat → Prop} {X0 : Nat → Prop} {fr : Fr} {outs : List D} {H' : Heap} {fl : Bool}, FR G w0 L X0 w tm fr ρ → us.length = ds.length → bs.length = ds.length → (∀ b ∈ bs, 1000000000 ≤ b) →
    (∀ (j : Nat) (d : D) (u : Value) (b : Nat), ds[j]? = some d → us[j]? = some u → bs[j]? = some b → ArgOk w fr.heap ρ b d u (φ j)) → outsD fr.heap bs ds = (outs, H', fl) →
    ∃ χ, Took G w0 L X0 w tm fr ρ H' fl (AllF outs.length χ) ∧ RepVs w (XX w0 X0 fr.heap ρ) outs us χ ∧ outs.length = ds.length ∧
      ∀ (j : Nat) (u : Value) sz els sz' els', ds[j]? = some (.ow sz els) → us[j]? = some u → outs[j]? = some (.ow sz' els') → (∀ b, φ j b → χ j b) ∨ (els = [] ∧ els' = [] ∧ ∃ a, u = .slice a 0 0)
  | [], bs, us, φ, X0, fr, outs, H', fl, h, hl, hb, hbig, hA, he => by
    have : bs = [] := List.eq_nil_of_length_eq_zero (by simpa using hb)
    subst this
    simp only [outsD] at he
    obtain ⟨rfl, rfl, rfl⟩ := by simpa using he
    obtain rfl := List.eq_nil_of_length_eq_zero (by simpa using hl)
    exact ⟨fun _ => E, Took.none h fun b ⟨_, hi, _⟩ => by simp at hi, repVs_nil, rfl, fun j u sz els sz' els' hj => by simp at hj⟩
  | d :: ds, bs, us, φ, X0, fr, outs, H', fl, h, hl, hb, hbig, hA, he => by
    obtain ⟨u, us, rfl⟩ := List.exists_cons_of_ne_nil (l := us) (by rintro rfl; simp at hl)
    obtain ⟨b0, bs, rfl⟩ := List.exists_cons_of_ne_nil (l := bs) (by rintro rfl; simp at hb)
    simp only [outsD] at he
    cases h1 : outA fr.heap b0 d with
    | mk o p =>
      obtain ⟨H1, f1⟩ := p
      simp only [h1] at he
      cases h2 : outsD H1 bs ds with
      | mk os p2 =>
        obtain ⟨H2, f2⟩ := p2
        simp only [h2] at he
        obtain ⟨rfl, rfl, rfl⟩ := by simpa using he
        obtain ⟨F, a1, a2, a3⟩ := outA_sound h (hA 0 d u b0 rfl rfl rfl) h1
        obtain ⟨χ, b1, b2, b3, b4⟩ := outsD_sound ds (bs := bs) (us := us) (φ := fun j => φ (j + 1)) (fr := { fr with heap := H1 }) a1.1 (by simpa using hl) (by simpa using hb) (fun b hb => hbig b (List.mem_cons_of_mem _ hb)) (fun j d' u' b' hj hu hb' => by
          have := hA (j + 1) d' u' b' (by simpa using hj) (by simpa using hu) (by simpa using hb')
          exact this.keep (hbig b' (List.mem_cons_of_mem _ (List.mem_of_getElem? hb'))) (Keep.of_htr a1.2.2.1) (fun _ _ h => h)) h2
        obtain ⟨c1, c2⟩ := a1.trans b1
        simp only [a1.2.1] at b2
        have e : (fun b => F b ∨ AllF os.length χ b) = AllF (o :: os).length (consF F χ) := by funext b; exact propext (allF_cons (n := os.length)).symm
        rw [e] at c1
        refine ⟨consF F χ, c1, b2.cons a2 c2, by simp [b3], fun j u' sz els sz' els' hj hu ho => ?_⟩
        cases j with
        | zero => simp at hj hu ho; subst hu; exact a3 sz els sz' els' hj ho
        | succ j => exact b4 j u' sz els sz' els' (by simpa using hj) (by simpa using hu) (by simpa using ho)
end
end Go.Proofs.YtclhghlpokdiiaaDoor.Wm
set_option linter.unusedSimpArgs false
set_option linter.unusedVariables false
namespace Go.Proofs.YtclhghlpokdiiaaDoor.Wm
open Go

def rsOf (P : Program) : List ResultVar → Option (List (Nat × Option (Option Nat)))
  | [] => some []
  | .tmp t :: l => match rsOf P l with
    | some r => some ((t, none) :: r)
    | none => none
  | .cell a ty :: l => match aggN P ty, rsOf P l with
    | some s, some r => some ((a, some s) :: r)
    | _, _ => none

/-- A function of the program, in the machine's own form. -/
structure IsFn (P : Program) (own : FuncId → List Nat) (f : FuncId) (vc : Vc) (nt : Nat) (rs : List (Nat × Option (Option Nat))) : Prop where
  ex : ∃ A A1 A2 B fn c, P.funcs[f]? = some fn ∧ fn.body = some c ∧ conv P own A A1 A2 B c = some vc ∧ fn.ntmps = nt ∧ rsOf P fn.results.toList = some rs ∧ (fn.name == "runtime.NumGoroutine") = false
  nt : nt ≤ 99999

section
variable {P : Program} {G : Nat → Option (List D)} {w0 : World} {L X0 X1 : Nat → Prop} {w w' w2 : World} {tm : Array Value} {fr : Fr} {ρ ρ' : Place} {X : K → Nat → Prop} {H : Heap}

def resVal (us : List Value) : Value := match us with
  | [u] => u
  | us => .tuple us.toArray

def readRes (tmps : Array Value) : ResultVar → Sem Value
  | .tmp t => pure (tmps.getD t undef)
  | .cell a t => do loadVar t (← asAddr (tmps.getD a undef))

theorem loadAt_spec {t : TypeId} {v u : Value} (h : (Instr.loadAt t v).run P w = .ok u w) : (do loadVar t (← asAddr v) : Sem Value).run P w = .ok u w := by
  unfold Instr.loadAt at h
  cases v with
  | pointer p =>
    cases p with
    | some A => simpa [Instr.sureAddr, asAddr] using h
    | none => simp [Instr.sureAddr] at h
  | _ => simp [Instr.sureAddr] at h

theorem tmp_sound {a : Act} (h : FR G w0 L X0 w a.tmps fr ρ) (t : Nat) : RepE w (XX w0 X0 fr.heap ρ) fr.heap ρ (oval G fr.env (.tmp t)) (a.tmps.getD t undef) := by
  simp only [oval]
  split
  · rename_i x hx; exact h.env t x hx
  · exact .dead _

theorem resXs_sound {a : Act} (h : FR G w0 L X0 w a.tmps fr ρ) : ∀ {vs : List ResultVar} {rs : List (Nat × Option (Option Nat))} {xs : List V}, rsOf P vs = some rs → resXs G fr rs = some xs →
    ∃ us : List Value, us.length = xs.length ∧ (∀ (i : Nat) (x : V) (u : Value), xs[i]? = some x → us[i]? = some u → RepE w (XX w0 X0 fr.heap ρ) fr.heap ρ x u) ∧ (List.mapM (readRes a.tmps) vs).run P w = .ok us w
  | [], rs, xs, hr, he => by
    simp only [rsOf] at hr
    obtain rfl := Option.some.inj hr
    simp only [resXs] at he
    obtain rfl := Option.some.inj he
    exact ⟨[], rfl, fun i x u q => by simp at q, by simp⟩
  | r :: vs, rs, xs, hr, he => by
    have step : ∀ {r0 : Nat × Option (Option Nat)} {rs' : List (Nat × Option (Option Nat))}, rsOf P vs = some rs' → resXs G fr (r0 :: rs') = some xs → (∀ x, resX G fr r0 = some x → ∃ u, RepE w (XX w0 X0 fr.heap ρ) fr.heap ρ x u ∧ (readRes a.tmps r).run P w = .ok u w) →
        ∃ us : List Value, us.length = xs.length ∧ (∀ (i : Nat) (x : V) (u : Value), xs[i]? = some x → us[i]? = some u → RepE w (XX w0 X0 fr.heap ρ) fr.heap ρ x u) ∧ (List.mapM (readRes a.tmps) (r :: vs)).run P w = .ok us w := by
      intro r0 rs' h1 he hd
      simp only [resXs] at he
      split at he
      · rename_i x hx
        split at he
        · rename_i xs' hxs
          obtain rfl := Option.some.inj he
          obtain ⟨us, k1, k2, k3⟩ := resXs_sound h h1 hxs
          obtain ⟨u, c1, c2⟩ := hd x hx
          refine ⟨u :: us, by simp [k1], fun i y v q1 q2 => ?_, ?_⟩
          · cases i with
            | zero => simp at q1 q2; subst q1; subst q2; exact c1
            | succ i => exact k2 i y v (by simpa using q1) (by simpa using q2)
          · simp only [List.mapM_cons, Sem.run_bind, c2, Result.andThen_ok, k3, Sem.run_pure]
        · simp at he
      · simp at he
    cases r with
    | tmp t =>
      simp only [rsOf] at hr
      split at hr
      · rename_i rs' h1
        obtain rfl := Option.some.inj hr
        refine step h1 he fun x hx => ?_
        simp only [resX] at hx
        obtain rfl := Option.some.inj hx
        exact ⟨_, tmp_sound h t, by simp [readRes]⟩
      · simp at hr
    | cell t ty =>
      simp only [rsOf] at hr
      split at hr
      · rename_i s rs' h0 h1
        obtain rfl := Option.some.inj hr
        refine step h1 he fun x hx => ?_
        simp only [resX] at hx
        obtain ⟨u, b1, b2⟩ := loadV_sound (Qw := Ext w) (fun _ h => h) h h0 (tmp_sound h t) hx
        exact ⟨u, b2, loadAt_spec (b1 w (Ext.refl w))⟩
      · simp at hr

theorem results_run {fn : Func} {tmps : Array Value} {us : List Value} (key : (List.mapM (readRes tmps) fn.results.toList).run P w = .ok us w) : (results fn tmps).run P w = .ok (resVal us) w := by
  have h : fn.results = fn.results.toList.toArray := by simp
  unfold results
  rw [h]
  rw [List.mapM_toArray]
  simp only [Sem.run_bind, Sem.run_map]
  have key' : ∀ f : ResultVar → Sem Value, f = readRes tmps → (List.mapM f fn.results.toList).run P w = .ok us w := fun f hf => hf ▸ key
  rw [key' _ (by funext r; cases r <;> rfl)]
  simp only [Result.andThen_ok, Sem.run_pure]
  cases us with
  | nil => rfl
  | cons r rs => cases rs with
    | nil => rfl
    | cons r' rs => simp [resVal]

theorem resD_sound {ds : List D} {us : List Value} {φ : Nat → Nat → Prop} (h : RepVs w X ds us φ) : RepV w X (resD ds) (resVal us) (AllF ds.length φ) := by
  obtain ⟨h1, h2, h3⟩ := h
  have tup : us.length = ds.length → RepV w X (.tup ds) (.tuple us.toArray) (AllF ds.length φ) := fun hl =>
    .tup ds us.toArray φ _ (fun b => Iff.rfl) h2 (by simp [hl]) fun i d v q1 q2 => h3 i d v q1 (by simpa using q2)
  cases ds with
  | nil => obtain rfl := List.eq_nil_of_length_eq_zero (by simpa using h1); exact tup rfl
  | cons d ds =>
    obtain ⟨u, us, rfl⟩ := List.exists_cons_of_ne_nil (l := us) (by rintro rfl; simp at h1)
    cases ds with
    | nil =>
      obtain rfl := List.eq_nil_of_length_eq_zero (l := us) (by simpa using h1)
      refine (h3 0 d u rfl rfl).congr fun b => ?_
      constructor
      · rintro ⟨i, hi, hb⟩
        obtain rfl : i = 0 := by simpa using hi
        exact hb
      · intro hb; exact ⟨0, by simp, hb⟩
    | cons d' ds =>
      obtain ⟨u', us, rfl⟩ := List.exists_cons_of_ne_nil (l := us) (by rintro rfl; simp at h1)
      exact tup h1

open Classical in
theorem callFn_sound {C : Cx} (hC : CSound P C) (hwide : P.follows .mixedOrders = true) {f : FuncId} {vc : Vc} {nt : Nat} {rs : List (Nat × Option (Option Nat))} (hf : IsFn P C.own f vc nt rs) :
    SoundFn P C.gl (C.own f) f (fun ds => if (C.own f).length ≤ nt then callFn C (C.own f) vc nt rs ds else none) := by
  intro w X ds vs fs φ d outs hflat hr hF hXs hgl hnf he
  simp only at he
  split at he
  · rename_i hlen
    obtain ⟨A, A1, A2, B, fn, c, h1, h2, h3, h4, h5, h6⟩ := hf.ex
    obtain ⟨r1, r2, r3⟩ := hr
    -- what is not tracked
    let U : Nat → Prop := fun i => (∃ sz, ds[i]? = some (.ow sz [])) ∧ ∃ a, fs[i]? = some (.slice a 0 0)
    let ψ : Nat → Nat → Prop := fun i b => φ i b ∧ ¬ U i
    have hψ : ∀ b, AllF ds.length ψ b → AllF ds.length φ b := fun b ⟨i, hi, hb⟩ => ⟨i, hi, hb.1⟩
    have hrψ : RepVs w (fun k b => k = .fresh ∨ X b) ds fs ψ := by
      refine ⟨r1, fun i j b hi hj q1 q2 => r2 i j b hi hj q1.1 q2.1, fun i d v q1 q2 => ?_⟩
      have hd := (r3 i d v q1 q2).nf (X' := fun k b => k = .fresh ∨ X b) (fun b _ q => q.resolve_left (by simp)) (nfL_get hnf q1)
      by_cases hU : U i
      · obtain ⟨⟨sz, e1⟩, a, e2⟩ := hU
        rw [q1] at e1; rw [q2] at e2
        obtain rfl := Option.some.inj e1
        obtain rfl := Option.some.inj e2
        exact .own sz a _ fun b hb => absurd ⟨⟨sz, q1⟩, a, q2⟩ hb.2
      · exact hd.congr fun b => ⟨fun q => q.1, fun q => ⟨q, hU⟩⟩
    unfold callFn at he
    split at he
    · rename_i fr hargs
      refine calls_of_wp h1 h2 ?_
      rw [h4]
      have e0 : ∀ b, (X b ∧ ¬ AllF ds.length ψ b) ∨ AllF ds.length ψ b → X b := fun b hb => hb.elim (fun q => q.1) fun q => hF b (hψ b q)
      have hXX : ∀ k b, b < w.heap.size → XX w (fun b => (X b ∧ ¬ AllF ds.length ψ b) ∨ AllF ds.length ψ b) [] (fun _ => none) k b → (k = .fresh ∨ X b) := fun k b _ hx => by
        rcases hx with hx | hx | ⟨b', B, k', h1, _, _⟩
        · exact .inr (e0 b hx)
        · exact .inl hx.1
        · simp [look] at h1
      have h0 : FR C.gl w (AllF ds.length ψ) (fun b => (X b ∧ ¬ AllF ds.length ψ b) ∨ AllF ds.length ψ b) w (vs.toArray ++ Array.replicate (nt - vs.toArray.size) undef) ⟨[], [], nt⟩ (fun _ => none) := by
        refine ⟨Chg.refl _ _, fun b hb => hXs b (e0 b hb), fun b B hb => by simp [look] at hb, fun b b' B B' g k k' hb => by simp [look] at hb, fun b B g k hb => by simp [look] at hb, fun b B g k hb => by simp [look] at hb, fun t x hx => by simp [look] at hx, ?_, fun g cs hg => ?_⟩
        · simp [hflat.len.1]; omega
        · obtain ⟨g1, g2⟩ := hgl g cs hg
          exact g2.nf (fun b hb q => (hXX .lent b hb q).resolve_left (by simp)) (by simpa only [nf] using g1)
      obtain ⟨ρ, a1, a2, a3, a5, a6, a4⟩ := argsFr_sound (w := w) (C.own f) (i := 0) (ds := ds) (Xb := fun b => X b ∧ ¬ AllF ds.length ψ b) (Z := fun k b => k = .fresh ∨ X b) (vs := vs) (us := fs) (φ := ψ) hflat h0 (fun b hb => ⟨fun hx => hx.2 hb, .inl hb⟩) hrψ hXX
        (fun j u hj => by
          have hj' : j < vs.length := (List.getElem?_eq_some_iff.1 hj).1
          simp only [Nat.zero_add]
          rw [Array.getD_eq_getD_getElem?, Array.getElem?_append_left (by simpa using hj')]
          simp [hj]) hargs
      split at he
      · simp at he
      · rename_i ex fr1 hne hvx
        refine vx_sound hC rfl hwide (fr' := fr1) c h3 (a := { tmps := vs.toArray ++ Array.replicate (nt - vs.toArray.size) undef, defers := [] }) a1 (by rw [a3]; exact hf.nt) hvx ?_
        rintro a' w' ⟨ρ', b1, b2, b3, b4⟩
        unfold finD at he
        split at he
        · rename_i xs hxs
          obtain ⟨us', u1, u2, u3⟩ := resXs_sound b1 h5 hxs
          cases ht : takeT fr1.heap xs with
          | mk rd p =>
            obtain ⟨H2, f2⟩ := p
            simp only [ht] at he
            obtain ⟨θ, t1, t2, t3⟩ := takeT_sound b1 u1 u2 ht
            cases ho : outsD H2 (idsOf 0 (C.own f) ds) ds with
            | mk os p2 =>
              obtain ⟨H3, f3⟩ := p2
              simp only [ho] at he
              obtain ⟨rfl, rfl⟩ := by simpa using he
              have hA : ∀ (j : Nat) (d : D) (u : Value) (b : Nat), ds[j]? = some d → fs[j]? = some u → (idsOf 0 (C.own f) ds)[j]? = some b → ArgOk w' H2 ρ' b d u (ψ j) := fun j d u b q1 q2 q3 =>
                have hbig := a6 b (List.mem_of_getElem? q3)
                ((a4 j d u b q1 q2 q3).keep hbig b4 b1.chg.own).keep hbig (Keep.of_htr t1.2.2.1) (fun _ _ h => h)
              obtain ⟨χ, o1, o2, o3, o4⟩ := outsD_sound ds (bs := idsOf 0 (C.own f) ds) (us := fs) (φ := ψ) (fr := { fr1 with heap := H2 }) t1.1 r1 a5 a6 hA ho
              obtain ⟨m1, m2⟩ := t1.trans o1
              simp only [t1.2.1] at o2
              have hvl : fs.length = ds.length := r1
              let W : Nat → Prop := fun i => U i ∧ ∃ sz els, os[i]? = some (.ow sz els)
              let κ : Nat → Nat → Prop := fun i b => χ i b ∨ (W i ∧ φ i b)
              -- blocks that were handed over, yet not tracked, are left alone
              have hWX : ∀ i b, U i → i < ds.length → φ i b → X b ∧ ¬ AllF ds.length ψ b := fun i b hU hi hb => ⟨hF b ⟨i, hi, hb⟩, fun ⟨j, hj, hq⟩ => by
                have := r2 i j b hi hj hb hq.1
                subst this
                exact hq.2 hU⟩
              have hR : ∀ b, AllF rd.length θ b → ¬ (X b ∧ ¬ AllF ds.length ψ b) ∧ (AllF ds.length ψ b ∨ w.heap.size ≤ b) := fun b hb => by
                obtain ⟨q1, q2⟩ := t1.2.2.2 b hb
                exact ⟨q1, q2.imp (fun q => q.2) id⟩
              have hχ : ∀ b, AllF os.length χ b → ¬ (X b ∧ ¬ AllF ds.length ψ b) ∧ ¬ AllF rd.length θ b ∧ (AllF ds.length ψ b ∨ w.heap.size ≤ b) := fun b hb => by
                obtain ⟨q1, q2⟩ := o1.2.2.2 b hb
                exact ⟨fun q => q1 (.inl q), fun q => q1 (.inr q), q2.imp (fun q => q.2) id⟩
              have hκ : ∀ b, AllF os.length κ b → AllF os.length χ b ∨ ∃ i, i < ds.length ∧ U i ∧ φ i b := by
                rintro b ⟨i, hi, hb | hb⟩
                · exact .inl ⟨i, hi, hb⟩
                · exact .inr ⟨i, by omega, hb.1.1, hb.2⟩
              have hsub : ∀ k b, b < w'.heap.size → XR w X (AllF ds.length φ) (fun b => AllF rd.length θ b ∨ AllF os.length κ b) k b → XX w (fun b => X b ∧ ¬ AllF ds.length ψ b) fr1.heap ρ' k b := by
                intro k b _ hx
                rcases hx with hx | hx | hx | hx
                · exact .inr (.inl hx)
                · exact .inl ⟨hx.1, fun q => hx.2 (hψ b q)⟩
                · rw [← t1.2.1]; exact .inl (.inr hx)
                · rcases hκ b hx with hx | ⟨i, hi, hU, hb⟩
                  · rw [← t1.2.1]
                    have := o1.2.1
                    simp only at this
                    rw [← this]
                    exact .inl (.inr hx)
                  · exact .inl (hWX i b hU hi hb)
              have hst : Stay w' w' (XX w (fun b => X b ∧ ¬ AllF ds.length ψ b) fr1.heap ρ') (XR w X (AllF ds.length φ) (fun b => AllF rd.length θ b ∨ AllF os.length κ b)) := ⟨fun _ _ _ _ => rfl, hsub⟩
              have hsz := b1.chg.size
              have hpost : a'.defers = [] ∧ ∃ v, (results fn a'.tmps).run P w' = .ok v w' ∧ ∃ v' R χ', Ending.returned v = .returned v' ∧ Chg w w' (AllF ds.length φ) ∧
                  RepV w' (XR w X (AllF ds.length φ) (fun b => R b ∨ AllF os.length χ' b)) (resD rd) v' R ∧ RepVs w' (XR w X (AllF ds.length φ) (fun b => R b ∨ AllF os.length χ' b)) os fs χ' ∧
                  (∀ b, R b → ¬ AllF os.length χ' b) ∧ (∀ b, R b ∨ AllF os.length χ' b → AllF ds.length φ b ∨ w.heap.size ≤ b) ∧
                  (∀ (i sz : Nat) (els : List (List D)) (sz' : Nat) (els' : List (List D)), ds[i]? = some (.ow sz els) → os[i]? = some (.ow sz' els') → ∀ b, φ i b → χ' i b) := by
                refine ⟨b2, _, results_run u3, _, AllF rd.length θ, κ, rfl, b1.chg.mono hψ, (resD_sound t2).stay hst fun _ _ => rfl, ⟨o2.1, fun i j b hi hj q1 q2 => ?_, fun i d v q1 q2 => ?_⟩, fun b hb hb' => ?_, fun b hb => ?_, fun i sz els sz' els' q1 q2 b hb => ?_⟩
                · rcases q1 with q1 | q1 <;> rcases q2 with q2 | q2
                  · exact o2.2.1 i j b hi hj q1 q2
                  · exact absurd (hWX j b q2.1.1 (by omega) q2.2) (hχ b ⟨i, hi, q1⟩).1
                  · exact absurd (hWX i b q1.1.1 (by omega) q1.2) (hχ b ⟨j, hj, q2⟩).1
                  · exact r2 i j b (by omega) (by omega) q1.2 q2.2
                · have hi : i < os.length := (List.getElem?_eq_some_iff.1 q1).1
                  have hb := (o2.2.2 i d v q1 q2).stay hst fun _ _ => rfl
                  by_cases hW : W i
                  · obtain ⟨⟨⟨sz, e1⟩, a, e2⟩, sz', els', e3⟩ := hW
                    rw [q1] at e3; rw [q2] at e2
                    obtain rfl := Option.some.inj e3
                    obtain rfl := Option.some.inj e2
                    have : els' = [] := by
                      generalize hv : Value.slice a 0 0 = v at hb
                      cases hb with
                      | plain _ _ _ _ h => cases h
                      | own => rfl
                      | ow sz els g k c F hFF hcc how hz hh =>
                        simp at hv
                        exact List.eq_nil_of_length_eq_zero hv.2.1.symm
                    subst this
                    refine .own _ _ _ fun b q => ?_
                    rcases q with q | q
                    · exact hb.old b q
                    · exact Nat.lt_of_lt_of_le (hXs b (hF b ⟨i, by omega, q.2⟩)) hsz
                  · exact hb.congr fun b => ⟨fun q => q.elim id fun q => absurd q.1 hW, .inl⟩
                · rcases hκ b hb' with hb' | ⟨i, hi, hU, hb'⟩
                  · exact (hχ b hb').2.1 hb
                  · exact (hR b hb).1 (hWX i b hU hi hb')
                · rcases hb with hb | hb
                  · exact (hR b hb).2.imp (hψ b) id
                  · rcases hκ b hb with hb | ⟨i, hi, hU, hb⟩
                    · exact (hχ b hb).2.2.imp (hψ b) id
                    · exact .inl ⟨i, hi, hb⟩
                · have hi : i < fs.length := by rw [hvl]; exact (List.getElem?_eq_some_iff.1 q1).1
                  by_cases hU : U i
                  · exact .inr ⟨⟨hU, sz', els', q2⟩, hb⟩
                  · rcases o4 i fs[i] sz els sz' els' q1 (List.getElem?_eq_getElem hi) q2 with q | ⟨rfl, rfl, a, q⟩
                    · exact .inl (q b ⟨hb, hU⟩)
                    · exact absurd ⟨⟨sz, q1⟩, a, by rw [List.getElem?_eq_getElem hi, q]⟩ hU
              cases ex with
              | normal => exact hpost
              | ret => exact hpost
              | exit id => exact (hne id rfl).elim
        · simp at he
      · simp at he
    · simp at he
  · simp at he
end
end Go.Proofs.YtclhghlpokdiiaaDoor.Wm
set_option linter.unusedSimpArgs false
set_option linter.unusedVariables false
namespace Go.Proofs.YtclhghlpokdiiaaDoor.Wm
open Go

/-- The functions of a program, in the machine's own form. -/
structure Tab where
  own : FuncId → List Nat
  fn : FuncId → Option (Vc × Nat × List (Nat × Option (Option Nat)))
  ext : FuncId → Option (List D → Option (D × List D))
  gl : Nat → Option (List D)

/-- What a function yields, its calls carried out to a depth. -/
noncomputable def lev (T : Tab) : Nat → FuncId → List D → Option (D × List D)
  | 0, _, _ => none
  | n + 1, f, ds => match T.ext f with
    | some F => F ds
    | none => match T.fn f with
      | some (vc, nt, rs) => if (T.own f).length ≤ nt then callFn ⟨T.own, lev T n, T.gl⟩ (T.own f) vc nt rs ds else none
      | none => none

structure TabOk (P : Program) (T : Tab) : Prop where
  wide : P.follows .mixedOrders = true
  fn : ∀ f vc nt rs, T.fn f = some (vc, nt, rs) → IsFn P T.own f vc nt rs
  ext : ∀ f F, T.ext f = some F → SoundFn P T.gl (T.own f) f F ∧ okFn P f
  nf : ∀ g cs, T.gl g = some cs → nfL cs = true

theorem lev_sound {P : Program} {T : Tab} (hT : TabOk P T) : ∀ n, CSound P ⟨T.own, lev T n, T.gl⟩
  | 0 => ⟨fun f ds r h => by simp [lev] at h, fun f w X ds vs fs φ d outs _ _ _ _ _ _ h => by simp [lev] at h, hT.nf⟩
  | n + 1 => by
    have ih := lev_sound hT n
    refine ⟨fun f ds r h => ?_, fun f => ?_, hT.nf⟩
    · simp only [lev] at h
      split at h
      · rename_i F hF; exact (hT.ext f F hF).2
      · split at h
        · rename_i vc nt rs hf
          obtain ⟨A, A1, A2, B, fn, c, h1, h2, h3, h4, h5, h6⟩ := (hT.fn f vc nt rs hf).ex
          exact ⟨fn, h1, by simp [h2], h6⟩
        · simp at h
    · intro w X ds vs fs φ d outs hfl hr hX0 hX hg hn h
      simp only [lev] at h
      split at h
      · rename_i F hF; exact (hT.ext f F hF).1 w X ds vs fs φ d outs hfl hr hX0 hX hg hn h
      · split at h
        · rename_i vc nt rs hf
          exact callFn_sound ih hT.wide (hT.fn f vc nt rs hf) w X ds vs fs φ d outs hfl hr hX0 hX hg hn h
        · simp at h
end Go.Proofs.YtclhghlpokdiiaaDoor.Wm
set_option linter.unusedSimpArgs false
set_option linter.unusedVariables false
namespace Go.Proofs.YtclhghlpokdiiaaDoor.Wm
open Go

/-! Walking: code before what comes behind it -/
inductive Kont (β : Type) where
  | seq (c : Vc)
  | block (id : Nat)
  | fin (k : Ex → Fr → Option β)

noncomputable def plug {β : Type} (C : Cx) : List (Kont β) → Ex → Fr → Option β
  | [], _, _ => none
  | .fin k :: _, e, fr => k e fr
  | .seq b :: K, .normal, fr => (vx C b fr).bind fun r => plug C K r.1 r.2
  | .seq _ :: K, e, fr => plug C K e fr
  | .block id :: K, .exit j, fr => if j = id then plug C K .normal fr else plug C K (.exit j) fr
  | .block _ :: K, e, fr => plug C K e fr
noncomputable def run {β : Type} (C : Cx) (K : List (Kont β)) (c : Vc) (fr : Fr) : Option β := (vx C c fr).bind fun r => plug C K r.1 r.2

/-- In the middle of a region. -/
noncomputable def runR {β : Type} (C : Cx) (K : List (Kont β)) (h : Option Hint) (l : List Vop) (fr : Fr) : Option β := (steps C fr l).bind fun fr1 => (tidyO h fr1).bind fun fr2 => plug C K .normal fr2
noncomputable def contV {β : Type} (C : Cx) (K : List (Kont β)) (h : Option Hint) (l : List Vop) (d : Option Nat) (fr : Fr) (r : Option V) : Option β := r.bind fun y => (putV fr d y).bind fun fr1 => runR C K h l fr1
noncomputable def contH {β : Type} (C : Cx) (K : List (Kont β)) (h : Option Hint) (l : List Vop) (d : Option Nat) (fr : Fr) (r : Option (V × Heap)) : Option β := r.bind fun p => (putV { fr with heap := p.2 } d p.1).bind fun fr1 => runR C K h l fr1
noncomputable def contF {β : Type} (C : Cx) (K : List (Kont β)) (r : Option Fr) : Option β := r.bind fun fr2 => plug C K .normal fr2
noncomputable def contT {β : Type} (C : Cx) (K : List (Kont β)) (c : Vc) (r : Option Fr) : Option β := r.bind fun fr1 => run C K c fr1
def condR {β : Type} (v : V) (x y : Option β) : Option β := match v with
  | .val (.bool t) => if t = true then x else y
  | _ => none

section
variable {β : Type} {C : Cx} {K : List (Kont β)} {c a b : Vc} {fr : Fr} {id j : Nat} {h : Option Hint} {l : List Vop} {d : Option Nat} {e : Ex}

theorem run_skip : run C K .skip fr = plug C K .normal fr := rfl
theorem run_exit : run C K (.exit id) fr = plug C K (.exit id) fr := rfl
theorem run_ret : run C K .ret fr = plug C K .ret fr := rfl
theorem run_seq : run C K (.seq a b) fr = run C (.seq b :: K) a fr := by
  unfold run
  simp only [vx]
  cases vx C a fr with
  | none => rfl
  | some r => obtain ⟨e, fr1⟩ := r; cases e <;> rfl
theorem contT_some : contT C K c (some fr) = run C K c fr := rfl
theorem run_cond {c : Od} {ha hb : Option Hint} : run C K (.cond c ha hb a b) fr = condR (oval C.gl fr.env c) (contT C K a (tidyO ha fr)) (contT C K b (tidyO hb fr)) := by
  unfold run condR contT
  simp only [vx]
  generalize oval C.gl fr.env c = v
  cases v with
  | val d => cases d with
    | bool t => cases t with
      | true => simp only [if_true, run]; cases tidyO ha fr <;> rfl
      | false => simp only [Bool.false_eq_true, if_false, run]; cases tidyO hb fr <;> rfl
    | _ => rfl
  | _ => rfl
theorem run_block : run C K (.block id c) fr = run C (.block id :: K) c fr := by
  unfold run
  simp only [vx]
  cases vx C c fr with
  | none => rfl
  | some r =>
    obtain ⟨e, fr1⟩ := r
    cases e with
    | exit j =>
      simp only [plug, Option.bind_some]
      split <;> rfl
    | _ => rfl
theorem run_region {main : List Vop} : run C K (.region main [] h) fr = runR C K h main fr := by
  unfold run runR
  simp only [vx]
  cases steps C fr main with
  | none => rfl
  | some fr1 =>
    simp only [Option.bind_some]
    cases tidyO h fr1 <;> rfl
theorem plug_fin {k : Ex → Fr → Option β} : plug C (.fin k :: K) e fr = k e fr := by cases e <;> rfl
theorem plug_seq : plug C (.seq b :: K) .normal fr = run C K b fr := rfl
theorem plug_seq_exit : plug C (.seq b :: K) (.exit j) fr = plug C K (.exit j) fr := rfl
theorem plug_seq_ret : plug C (.seq b :: K) .ret fr = plug C K .ret fr := rfl
theorem plug_block : plug C (.block id :: K) (.exit j) fr = if j = id then plug C K .normal fr else plug C K (.exit j) fr := rfl
theorem plug_block_normal : plug C (.block id :: K) .normal fr = plug C K .normal fr := rfl
theorem plug_block_ret : plug C (.block id :: K) .ret fr = plug C K .ret fr := rfl

theorem runR_nil : runR C K h [] fr = contF C K (tidyO h fr) := rfl
theorem contF_some : contF C K (some fr) = plug C K .normal fr := rfl

theorem contV_some {y : V} {env : List (Nat × V)} {H : Heap} {nt t : Nat} (ht : t < nt) : contV C K h l (some t) ⟨env, H, nt⟩ (some y) = runR C K h l ⟨(t, y) :: env, H, nt⟩ := by
  unfold contV putV
  simp [ht]
theorem contV_none_dst {y : V} : contV C K h l none fr (some y) = runR C K h l fr := rfl
theorem contV_none : contV C K h l d fr none = none := rfl
theorem contV_bind {α : Type} {r : Option α} {f : α → Option V} : contV C K h l d fr (r.bind f) = r.bind fun x => contV C K h l d fr (f x) := by cases r <;> rfl
theorem contV_map {α : Type} {r : Option α} {f : α → V} : contV C K h l d fr (r.map f) = r.bind fun x => contV C K h l d fr (some (f x)) := by cases r <;> rfl
theorem contV_ite {p : Prop} [Decidable p] {x y : Option V} : contV C K h l d fr (if p then x else y) = if p then contV C K h l d fr x else contV C K h l d fr y := by split <;> rfl
theorem contH_some {y : V} {env : List (Nat × V)} {H H' : Heap} {nt t : Nat} (ht : t < nt) : contH C K h l (some t) ⟨env, H, nt⟩ (some (y, H')) = runR C K h l ⟨(t, y) :: env, H', nt⟩ := by
  unfold contH putV
  simp [ht]
theorem contH_none_dst {y : V} {env : List (Nat × V)} {H H' : Heap} {nt : Nat} : contH C K h l none ⟨env, H, nt⟩ (some (y, H')) = runR C K h l ⟨env, H', nt⟩ := rfl
theorem contH_none : contH C K h l d fr none = none := rfl
theorem contH_bind {α : Type} {r : Option α} {f : α → Option (V × Heap)} : contH C K h l d fr (r.bind f) = r.bind fun x => contH C K h l d fr (f x) := by cases r <;> rfl
theorem contH_ite {p : Prop} [Decidable p] {x y : Option (V × Heap)} : contH C K h l d fr (if p then x else y) = if p then contH C K h l d fr x else contH C K h l d fr y := by split <;> rfl

theorem condR_bool {t : Bool} {x y : Option β} : condR (.val (.bool t)) x y = if t = true then x else y := rfl

theorem runR_quiet {i : I} (hq : heavy i = false) : runR C K h (⟨d, i, none⟩ :: l) fr = contV C K h l d fr (evq fr.heap (oval C.gl fr.env) i) := by
  unfold runR contV
  simp only [steps, stepO, step1, eff_quiet hq]
  cases evq fr.heap (oval C.gl fr.env) i with
  | none => rfl
  | some y =>
    simp only [putR, Option.bind_some]
    have : ({ fr with heap := fr.heap } : Fr) = fr := rfl
    cases putV fr d y <;> rfl
theorem runR_heavy {i : I} : runR C K h (⟨d, i, none⟩ :: l) fr = contH C K h l d fr (eff C (oval C.gl fr.env) fr.heap (d.getD 99999) i) := by
  unfold runR contH
  simp only [steps, stepO, step1]
  cases eff C (oval C.gl fr.env) fr.heap (d.getD 99999) i with
  | none => rfl
  | some p =>
    obtain ⟨y, H⟩ := p
    simp only [putR, Option.bind_some]
    cases putV { fr with heap := H } d y <;> rfl

theorem oval_hit {gl : Nat → Option (List D)} {t : Nat} {x : V} {env : List (Nat × V)} : oval gl ((t, x) :: env) (.tmp t) = x := by simp [oval, look]
theorem oval_miss {gl : Nat → Option (List D)} {s t : Nat} {x : V} {env : List (Nat × V)} (h : s ≠ t) : oval gl ((s, x) :: env) (.tmp t) = oval gl env (.tmp t) := by simp [oval, look, h]
theorem oval_cst {gl : Nat → Option (List D)} {v : D} {env : List (Nat × V)} : oval gl env (.cst v) = .val v := rfl
theorem oval_emp {gl : Nat → Option (List D)} {sz : Nat} {env : List (Nat × V)} : oval gl env (.emp sz) = .emp sz := rfl
theorem look_hit {α : Type} {t : Nat} {x : α} {l : List (Nat × α)} : look t ((t, x) :: l) = some x := by simp [look]
theorem look_miss {α : Type} {s t : Nat} {x : α} {l : List (Nat × α)} (h : s ≠ t) : look t ((s, x) :: l) = look t l := by simp [look, h]
theorem look_nil {α : Type} {t : Nat} : look t ([] : List (Nat × α)) = none := rfl
end
end Go.Proofs.YtclhghlpokdiiaaDoor.Wm
set_option linter.unusedSimpArgs false
set_option linter.unusedVariables false
namespace Go.Proofs.YtclhghlpokdiiaaDoor.Wm
open Go
section
variable {β : Type} {C : Cx} {K : List (Kont β)} {env : List (Nat × V)} {H : Heap} {nt : Nat} {h : Option Hint} {l : List Vop} {d : Option Nat} {x y c a b : Od} {op : BinOp} {s : Option Nat} {k n o sz : Nat}


theorem w_mov : runR C K h (⟨d, .mov x, none⟩ :: l) ⟨env, H, nt⟩ = contV C K h l d ⟨env, H, nt⟩ (some ((oval C.gl env) x)) := runR_quiet rfl
def pickV (c a b : V) : Option V := match c with
  | .val (.bool t) => if t = true then some a else some b
  | _ => none
theorem w_pick : runR C K h (⟨d, .pick c a b, none⟩ :: l) ⟨env, H, nt⟩ = contV C K h l d ⟨env, H, nt⟩ (pickV ((oval C.gl env) c) ((oval C.gl env) a) ((oval C.gl env) b)) := by
  rw [runR_quiet rfl]
  congr 1
  simp only [evq, pickV]
  generalize oval C.gl env c = v
  cases v with
  | val d => cases d with
    | bool t => cases t <;> rfl
    | _ => rfl
  | _ => rfl
theorem w_ld : runR C K h (⟨d, .ld s x, none⟩ :: l) ⟨env, H, nt⟩ = contV C K h l d ⟨env, H, nt⟩ (loadV H s ((oval C.gl env) x)) := runR_quiet rfl
theorem w_fad : runR C K h (⟨d, .fad k x, none⟩ :: l) ⟨env, H, nt⟩ = contV C K h l d ⟨env, H, nt⟩ (fadV H k ((oval C.gl env) x)) := runR_quiet rfl
def fldV (o : Nat) (s : Option Nat) (x : V) : Option V := match aggCells x with
  | some vs => partV s o vs
  | none => none
theorem w_fld : runR C K h (⟨d, .fld o s x, none⟩ :: l) ⟨env, H, nt⟩ = contV C K h l d ⟨env, H, nt⟩ (fldV o s ((oval C.gl env) x)) := runR_quiet rfl
def nchkV (H : Heap) (x : V) : Option V := match x with
    | .pt b o => match look b H with
      | some (.var _ _) => some (.pt b o)
      | _ => none
    | .ep b i o => match look b H with
      | some (.row _ _ _) => some (.ep b i o)
      | _ => none
    | .val (.ptr cs) => some (.val (.ptr cs))
    | _ => none
theorem w_nchk : runR C K h (⟨d, .nchk x, none⟩ :: l) ⟨env, H, nt⟩ = contV C K h l d ⟨env, H, nt⟩ (nchkV H ((oval C.gl env) x)) := runR_quiet rfl
def extV (i : Nat) (x : V) : Option V := match tupCells x with
  | some vs => vs[i]?
  | none => none
theorem w_ext : runR C K h (⟨d, .ext k x, none⟩ :: l) ⟨env, H, nt⟩ = contV C K h l d ⟨env, H, nt⟩ (extV k ((oval C.gl env) x)) := runR_quiet rfl
theorem w_iad : runR C K h (⟨d, .iad sz x y, none⟩ :: l) ⟨env, H, nt⟩ = contV C K h l d ⟨env, H, nt⟩ (iadV H sz ((oval C.gl env) x) ((oval C.gl env) y)) := runR_quiet rfl
theorem w_iada : runR C K h (⟨d, .iada n sz x y, none⟩ :: l) ⟨env, H, nt⟩ = contV C K h l d ⟨env, H, nt⟩ (iadaV H n sz ((oval C.gl env) x) ((oval C.gl env) y)) := runR_quiet rfl
theorem w_idx : runR C K h (⟨d, .idx n sz s x y, none⟩ :: l) ⟨env, H, nt⟩ = contV C K h l d ⟨env, H, nt⟩ (idxV n sz s ((oval C.gl env) x) ((oval C.gl env) y)) := runR_quiet rfl
theorem w_sidx : runR C K h (⟨d, .sidx x y, none⟩ :: l) ⟨env, H, nt⟩ = contV C K h l d ⟨env, H, nt⟩ (sidxV ((oval C.gl env) x) ((oval C.gl env) y)) := runR_quiet rfl
theorem w_sli {lo hi mx : Option Od} : runR C K h (⟨d, .sli sz x lo hi mx, none⟩ :: l) ⟨env, H, nt⟩ = contV C K h l d ⟨env, H, nt⟩ (sliV H sz ((oval C.gl env) x) (lo.map (oval C.gl env)) (hi.map (oval C.gl env)) (mx.map (oval C.gl env))) := runR_quiet rfl
theorem w_ssl {lo hi : Option Od} : runR C K h (⟨d, .ssl x lo hi, none⟩ :: l) ⟨env, H, nt⟩ = contV C K h l d ⟨env, H, nt⟩ (sslV ((oval C.gl env) x) (lo.map (oval C.gl env)) (hi.map (oval C.gl env))) := runR_quiet rfl
theorem w_bin : runR C K h (⟨d, .bin op x y, none⟩ :: l) ⟨env, H, nt⟩ = contV C K h l d ⟨env, H, nt⟩ (binV op ((oval C.gl env) x) ((oval C.gl env) y)) := runR_quiet rfl
theorem w_binb : runR C K h (⟨d, .binb op x y, none⟩ :: l) ⟨env, H, nt⟩ = contV C K h l d ⟨env, H, nt⟩ (binbV op ((oval C.gl env) x) ((oval C.gl env) y)) := runR_quiet rfl
theorem w_bine : runR C K h (⟨d, .bine op x y, none⟩ :: l) ⟨env, H, nt⟩ = contV C K h l d ⟨env, H, nt⟩ (bineV op ((oval C.gl env) x) ((oval C.gl env) y)) := runR_quiet rfl
theorem w_un {op : UnOp} : runR C K h (⟨d, .un op x, none⟩ :: l) ⟨env, H, nt⟩ = contV C K h l d ⟨env, H, nt⟩ (unV op ((oval C.gl env) x)) := runR_quiet rfl
theorem w_cvi {k : IntKind} : runR C K h (⟨d, .cvi k x, none⟩ :: l) ⟨env, H, nt⟩ = contV C K h l d ⟨env, H, nt⟩ (cviV k ((oval C.gl env) x)) := runR_quiet rfl
theorem w_cvs : runR C K h (⟨d, .cvs x, none⟩ :: l) ⟨env, H, nt⟩ = contV C K h l d ⟨env, H, nt⟩ (cvsV H ((oval C.gl env) x)) := runR_quiet rfl
def bldV (r : Od → V) (zs : List V) (ps : List Part) : Option V := match fillV r zs ps with
  | some cs => some (.agg cs)
  | none => none
theorem w_bld {zs : List V} {ps : List Part} : runR C K h (⟨d, .bld zs ps, none⟩ :: l) ⟨env, H, nt⟩ = contV C K h l d ⟨env, H, nt⟩ (bldV (oval C.gl env) zs ps) := runR_quiet rfl
theorem w_mkf {f : FuncId} {cap : List Od} : runR C K h (⟨d, .mkf f cap, none⟩ :: l) ⟨env, H, nt⟩ = contV C K h l d ⟨env, H, nt⟩ (some (.fn f (cap.map (oval C.gl env)))) := runR_quiet rfl
theorem w_len : runR C K h (⟨d, .len x, none⟩ :: l) ⟨env, H, nt⟩ = contV C K h l d ⟨env, H, nt⟩ (lenV H ((oval C.gl env) x)) := runR_quiet rfl
theorem w_lens : runR C K h (⟨d, .lens x, none⟩ :: l) ⟨env, H, nt⟩ = contV C K h l d ⟨env, H, nt⟩ (lensV ((oval C.gl env) x)) := runR_quiet rfl
theorem w_lena : runR C K h (⟨d, .lena n, none⟩ :: l) ⟨env, H, nt⟩ = contV C K h l d ⟨env, H, nt⟩ (some (.val (.int .i64 n))) := runR_quiet rfl
theorem w_mm {mx : Bool} {xs : List Od} : runR C K h (⟨d, .mm mx xs, none⟩ :: l) ⟨env, H, nt⟩ = contV C K h l d ⟨env, H, nt⟩ (minMax mx (xs.map (oval C.gl env))) := runR_quiet rfl
theorem w_box : runR C K h (⟨d, .box s x, none⟩ :: l) ⟨env, H, nt⟩ = contH C K h l d ⟨env, H, nt⟩ (evm (oval C.gl env) H (d.getD 99999) (.box s x)) := runR_heavy
theorem w_alc {zs : List V} : runR C K h (⟨d, .alc zs, none⟩ :: l) ⟨env, H, nt⟩ = contH C K h l d ⟨env, H, nt⟩ (evm (oval C.gl env) H (d.getD 99999) (.alc zs)) := runR_heavy
theorem w_bsl {zs : List D} {ps : List Part} : runR C K h (⟨d, .bsl sz zs n ps, none⟩ :: l) ⟨env, H, nt⟩ = contH C K h l d ⟨env, H, nt⟩ (evm (oval C.gl env) H (d.getD 99999) (.bsl sz zs n ps)) := runR_heavy
theorem w_msl {zs : List D} {by_ : Nat} : runR C K h (⟨d, .msl sz by_ zs x y, none⟩ :: l) ⟨env, H, nt⟩ = contH C K h l d ⟨env, H, nt⟩ (evm (oval C.gl env) H (d.getD 99999) (.msl sz by_ zs x y)) := runR_heavy
def stR (r : Option Heap) : Option (V × Heap) := match r with
  | some H => some (.dead, H)
  | none => none
theorem w_st : runR C K h (⟨d, .st s a x, none⟩ :: l) ⟨env, H, nt⟩ = contH C K h l d ⟨env, H, nt⟩ (stR (evs (oval C.gl env) H (.st s a x))) := runR_heavy
theorem w_app {by_ : Nat} : runR C K h (⟨d, .app sz by_ a x, none⟩ :: l) ⟨env, H, nt⟩ = contH C K h l d ⟨env, H, nt⟩ (eva (oval C.gl env) H (d.getD 99999) (.app sz by_ a x)) := runR_heavy
/-- A call: its function, what is handed on. -/
def callR (C : Cx) (H : Heap) (d : Nat) (r : Option (FuncId × List V)) : Option (V × Heap) := match r with
  | some (g, ys) => evcG C H d g ys
  | none => none
theorem w_call {f : Od} {xs : List Od} : runR C K h (⟨d, .call f xs, none⟩ :: l) ⟨env, H, nt⟩ = contH C K h l d ⟨env, H, nt⟩ (callR C H (d.getD 99999) (callV (oval C.gl env) f xs)) := runR_heavy
/-- Under a condition. -/
theorem w_guard {i : I} {t : Nat} {want : Bool} {fr : Fr} : runR C K h (⟨d, i, some (t, want)⟩ :: l) fr = (condV (oval C.gl fr.env (.tmp t)) want).bind fun c => if c = true then runR C K h (⟨d, i, none⟩ :: l) fr else contV C K h l d fr (some (.tup [])) := by
  unfold runR contV
  simp only [steps, stepO]
  cases condV (oval C.gl fr.env (.tmp t)) want with
  | none => rfl
  | some c =>
    cases c with
    | true => rfl
    | false =>
      simp only [Option.bind_some, Bool.false_eq_true, if_false]
      cases putV fr d (.tup []) <;> rfl
theorem condV_true {b : Bool} : condV (.val (.bool b)) true = some b := by cases b <;> rfl
theorem condV_false {b : Bool} : condV (.val (.bool b)) false = some (!b) := by cases b <;> rfl
theorem condV_undef {want : Bool} : condV (.tup []) want = some false := rfl
end
end Go.Proofs.YtclhghlpokdiiaaDoor.Wm
set_option linter.unusedSimpArgs false
set_option linter.unusedVariables false
namespace Go.Proofs.YtclhghlpokdiiaaDoor.Wm
open Go

attribute [go_sem] run_skip run_exit run_ret run_seq run_block run_region plug_fin plug_seq plug_seq_exit plug_seq_ret plug_block plug_block_normal plug_block_ret runR_nil contF_some contT_some contV_some contV_none_dst contV_none contV_bind contV_map contV_ite contH_some contH_none_dst contH_none contH_bind contH_ite
attribute [go_sem] oval_hit oval_miss oval_cst oval_emp look_hit look_miss look_nil
attribute [go_sem] w_mov w_pick w_ld w_fad w_fld w_nchk w_ext w_iad w_iada w_idx w_sidx w_sli w_ssl w_bin w_binb w_bine w_un w_cvi w_cvs w_bld w_mkf w_len w_lens w_lena w_mm w_box w_alc w_bsl w_msl w_st w_app w_call
attribute [go_sem] tidyO tidy freezeT voidT voidC voids2 oldB okRen renF renH renA renP keepE renV renL rmap renB List.nil_append inN
attribute [go_sem] ne_eq not_false_eq_true if_true if_false Option.map_some Option.map_none Option.bind_some Option.bind_none Option.getD_some Option.getD_none
attribute [go_sem] pickV fldV nchkV extV iadaV idxV aggCells tupCells partV binV intOp shiftOp strOp binbV bineV unV cviV bldV fillV cellsV isCell callR callV bid
attribute [go_sem] List.drop_zero List.take_zero List.drop_succ_cons List.take_succ_cons List.cons_append List.length_cons List.length_nil Nat.zero_add List.map_cons List.map_nil List.all_cons List.all_nil Bool.and_true Bool.true_and
end Go.Proofs.YtclhghlpokdiiaaDoor.Wm
set_option linter.unusedSimpArgs false
set_option linter.unusedVariables false
namespace Go.Proofs.YtclhghlpokdiiaaDoor.Wm
open Go

/-! Loops of plain values -/
def iterO {σ τ : Type} (step : σ → Option (σ ⊕ τ)) : Nat → σ → Option τ
  | 0, _ => none
  | n + 1, s => match step s with
    | some (.inl s') => iterO step n s'
    | some (.inr t) => some t
    | none => none
theorem iterO_more {σ τ : Type} {step : σ → Option (σ ⊕ τ)} : ∀ {n : Nat} {s : σ} {r : τ}, iterO step n s = some r → iterO step (n + 1) s = some r
  | 0, s, r, h => by simp [iterO] at h
  | n + 1, s, r, h => by
    rw [iterO] at h ⊢
    split at h
    · exact iterO_more h
    · exact h
    · simp at h
theorem iterO_le {σ τ : Type} {step : σ → Option (σ ⊕ τ)} {n m : Nat} {s : σ} {r : τ} (hnm : n ≤ m) (h : iterO step n s = some r) : iterO step m s = some r := by
  induction hnm with
  | refl => exact h
  | step _ ih => exact iterO_more ih
open Classical in
noncomputable def loopO {σ τ : Type} (step : σ → Option (σ ⊕ τ)) (s : σ) : Option τ :=
  if h : ∃ n r, iterO step n s = some r then iterO step h.choose s else none
theorem loopO_iff {σ τ : Type} {step : σ → Option (σ ⊕ τ)} {s : σ} {r : τ} : loopO step s = some r ↔ ∃ n, iterO step n s = some r := by
  unfold loopO
  constructor
  · intro h
    split at h
    · rename_i hh; exact ⟨_, h⟩
    · simp at h
  · rintro ⟨n, hn⟩
    have hh : ∃ n r, iterO step n s = some r := ⟨n, r, hn⟩
    rw [dif_pos hh]
    obtain ⟨r', hr'⟩ := hh.choose_spec
    rw [hr']
    have a1 := iterO_le (Nat.le_max_left n hh.choose) hn
    have a2 := iterO_le (Nat.le_max_right n hh.choose) hr'
    rw [a1] at a2
    exact a2.symm
theorem loopO_eq {σ τ : Type} (step : σ → Option (σ ⊕ τ)) (s : σ) : loopO step s = match step s with
    | some (.inl s') => loopO step s'
    | some (.inr t) => some t
    | none => none := by
  apply Option.ext
  intro r
  rw [loopO_iff]
  constructor
  · rintro ⟨n, hn⟩
    cases n with
    | zero => simp [iterO] at hn
    | succ n =>
      rw [iterO] at hn
      split at hn
      · exact loopO_iff.2 ⟨n, hn⟩
      · exact hn
      · simp at hn
  · intro h
    split at h
    · obtain ⟨n, hn⟩ := loopO_iff.1 h
      rename_i h1
      exact ⟨n + 1, by rw [iterO, h1]; exact hn⟩
    · rename_i h1
      exact ⟨1, by rw [iterO, h1]; exact h⟩
    · simp at h

/-- A round of a loop, what comes behind it told apart. -/
noncomputable def loopK {β : Type} (C : Cx) (K : List (Kont β)) (k : Fr → Option β) : Ex → Fr → Option β
  | .normal, fr => k fr
  | e, fr => plug C K e fr

section
variable {β : Type} {C : Cx} {K : List (Kont β)}
theorem loopK_normal {k : Fr → Option β} {fr : Fr} : loopK C K k .normal fr = k fr := rfl
theorem loopK_exit {k : Fr → Option β} {fr : Fr} {j : Nat} : loopK C K k (.exit j) fr = plug C K (.exit j) fr := rfl
theorem loopK_ret {k : Fr → Option β} {fr : Fr} : loopK C K k .ret fr = plug C K .ret fr := rfl

/-- A loop, once. -/
theorem loop_once {c : Vc} {fr : Fr} : run C K (.loop c) fr = run C [.fin (loopK C K (fun f => run C K (.loop c) f))] c fr := by
  unfold run
  simp only [vx]
  rw [vloop_eq]
  cases vx C c fr with
  | none => rfl
  | some r => obtain ⟨e, fr1⟩ := r; cases e <;> rfl
theorem loop_run {σ τ : Type} {c : Vc} (step : σ → Option (σ ⊕ τ)) (F : σ → Fr) (fin : τ → Option β)
    (h : ∀ (k : Fr → Option β) (s : σ), run C [.fin (loopK C K k)] c (F s) = (step s).bind fun r => match r with | .inl s' => k (F s') | .inr t => fin t) (s : σ) :
    run C K (.loop c) (F s) = (loopO step s).bind fin := by
  have one : ∀ (k : Fr → Option β) (fr : Fr), run C [.fin (loopK C K k)] c fr = (vx C c fr).bind fun r => match r.1 with | .normal => k r.2 | e => plug C K e r.2 := fun k fr => by
    unfold run
    cases vx C c fr with
    | none => rfl
    | some r => obtain ⟨e, fr1⟩ := r; cases e <;> rfl
  have key : ∀ n s, (iter (vx C c) n (F s)).bind (fun r => plug C K r.1 r.2) = (iterO step n s).bind fin := by
    intro n
    induction n with
    | zero => intro s; rfl
    | succ n ih =>
      intro s
      have h1 := h (fun fr => (iter (vx C c) n fr).bind (fun r => plug C K r.1 r.2)) s
      rw [one] at h1
      have l : (iter (vx C c) (n + 1) (F s)).bind (fun r => plug C K r.1 r.2) = (vx C c (F s)).bind fun r => match r.1 with | .normal => (iter (vx C c) n r.2).bind (fun r => plug C K r.1 r.2) | e => plug C K e r.2 := by
        rw [iter]
        cases vx C c (F s) with
        | none => rfl
        | some r => obtain ⟨e, fr1⟩ := r; cases e <;> rfl
      rw [l, h1, iterO]
      cases step s with
      | none => rfl
      | some r => cases r with
        | inl s' => exact ih s'
        | inr t => rfl
  unfold run
  simp only [vx]
  apply Option.ext
  intro r
  constructor
  · intro hr
    obtain ⟨x, hx, hp⟩ := Option.bind_eq_some_iff.1 hr
    obtain ⟨n, hn⟩ := vloop_iff.1 hx
    have := key n s
    rw [hn] at this
    simp only [Option.bind_some] at this
    rw [hp] at this
    obtain ⟨t, ht, hf⟩ := Option.bind_eq_some_iff.1 this.symm
    exact Option.bind_eq_some_iff.2 ⟨t, loopO_iff.2 ⟨n, ht⟩, hf⟩
  · intro hr
    obtain ⟨t, ht, hf⟩ := Option.bind_eq_some_iff.1 hr
    obtain ⟨n, hn⟩ := loopO_iff.1 ht
    have := key n s
    rw [hn] at this
    simp only [Option.bind_some] at this
    rw [hf] at this
    obtain ⟨x, hx, hp⟩ := Option.bind_eq_some_iff.1 this
    exact Option.bind_eq_some_iff.2 ⟨x, vloop_iff.2 ⟨n, hx⟩, hp⟩

/-! Functions -/
def finK (gl : Nat → Option (List D)) (rs : List (Nat × Option (Option Nat))) (bs : List Nat) (ds : List D) : Ex → Fr → Option (D × List D)
  | .exit _, _ => none
  | _, fr => finD gl rs bs ds fr
theorem finK_ret {gl : Nat → Option (List D)} {rs : List (Nat × Option (Option Nat))} {bs : List Nat} {ds : List D} {fr : Fr} : finK gl rs bs ds .ret fr = finD gl rs bs ds fr := rfl
theorem finK_normal {gl : Nat → Option (List D)} {rs : List (Nat × Option (Option Nat))} {bs : List Nat} {ds : List D} {fr : Fr} : finK gl rs bs ds .normal fr = finD gl rs bs ds fr := rfl

theorem lev_fn {T : Tab} {n : Nat} {f : FuncId} {vc : Vc} {nt : Nat} {rs : List (Nat × Option (Option Nat))} {ds : List D} (he : T.ext f = none) (hf : T.fn f = some (vc, nt, rs)) (hl : (T.own f).length ≤ nt) :
    lev T (n + 1) f ds = (argsFr 0 (T.own f) ds ⟨[], [], nt⟩).bind fun fr => run ⟨T.own, lev T n, T.gl⟩ [.fin (finK T.gl rs (idsOf 0 (T.own f) ds) ds)] vc fr := by
  simp only [lev, he, hf, if_pos hl, callFn]
  cases argsFr 0 (T.own f) ds ⟨[], [], nt⟩ with
  | none => rfl
  | some fr =>
    simp only [Option.bind_some, run]
    cases vx ⟨T.own, lev T n, T.gl⟩ vc fr with
    | none => rfl
    | some r => obtain ⟨e, fr1⟩ := r; cases e <;> simp only [Option.bind_some, plug_fin] <;> rfl

theorem evc_eq {ms : List Nat} {H : Heap} {dst : Nat} {f : FuncId} {xs : List V} : evc C ms H dst f xs = (takes H ms xs).bind fun p => (lends p.2.1 ms xs p.1).bind fun ds => (C.fn f ds).bind fun r =>
    if (!usesL ms xs || (clean r.1 && cleanL r.2)) = true then (backs p.2.2 (bid dst + 100) p.2.1 ms xs r.2).bind fun H2 => (inst p.2.2 (bid dst) H2 r.1).bind fun q => some (q.1, q.2.1) else none := by
  unfold evc
  cases takes H ms xs with
  | none => rfl
  | some p =>
    obtain ⟨os, H1, fl⟩ := p
    simp only [Option.bind_some]
    cases lends H1 ms xs os with
    | none => rfl
    | some ds =>
      simp only [Option.bind_some]
      cases C.fn f ds with
      | none => rfl
      | some r =>
        obtain ⟨res, outs⟩ := r
        simp only [Option.bind_some]
        have : (usesL ms xs = true → (clean res && cleanL outs) = true) ↔ (!usesL ms xs || (clean res && cleanL outs)) = true := by
          cases usesL ms xs <;> simp
        simp only [this]
        split
        · cases backs fl (bid dst + 100) H1 ms xs outs with
          | none => rfl
          | some H2 =>
            simp only [Option.bind_some]
            cases inst fl (bid dst) H2 res with
            | none => rfl
            | some q => rfl
        · rfl
end

theorem bind_map' {α β γ : Type} {o : Option α} {f : α → β} {g : β → Option γ} : (o.map f).bind g = o.bind fun x => g (f x) := by cases o <;> rfl
theorem bind_assoc' {α β γ : Type} {o : Option α} {f : α → Option β} {g : β → Option γ} : (o.bind f).bind g = o.bind fun x => (f x).bind g := by cases o <;> rfl
theorem map_bind' {α β γ : Type} {o : Option α} {f : α → Option β} {g : β → γ} : (o.bind f).map g = o.bind fun x => (f x).map g := by cases o <;> rfl
theorem map_map' {α β γ : Type} {o : Option α} {f : α → β} {g : β → γ} : (o.map f).map g = o.map fun x => g (f x) := by cases o <;> rfl
theorem ite_bind' {α β : Type} {p : Prop} [Decidable p] {x y : Option α} {g : α → Option β} : (if p then x else y).bind g = if p then x.bind g else y.bind g := by split <;> rfl
theorem ite_map' {α β : Type} {p : Prop} [Decidable p] {x y : Option α} {g : α → β} : (if p then x else y).map g = if p then x.map g else y.map g := by split <;> rfl

/-! Rows of what they stand for -/
def rowE {α : Type} (f : α → List D) (xs : List α) : List (List D) := xs.map f
def eI (k : IntKind) (n : Int) : List D := [.int k n]
def eB (b : Bool) : List D := [.bool b]
def eS (s : List UInt8) : List D := [.str s]
def eL {α : Type} (k : K) (sz : Nat) (f : α → List D) (xs : List α) : List D := [.sh k sz (rowE f xs)]

section
variable {α : Type} {f : α → List D} {xs ys : List α} {H : Heap} {sz : Nat} {k : K}
theorem rowE_len : (rowE f xs).length = xs.length := by simp [rowE]
theorem rowE_take_len : (rowE f xs).take xs.length = rowE f xs := by
  rw [← rowE_len (f := f) (xs := xs)]; exact List.take_length
theorem rowE_drop {n : Nat} : (rowE f xs).drop n = rowE f (xs.drop n) := by simp [rowE]
theorem rowE_take {n : Nat} : (rowE f xs).take n = rowE f (xs.take n) := by simp [rowE]
theorem rowE_app : rowE f xs ++ rowE f ys = rowE f (xs ++ ys) := by simp [rowE]
theorem rowE_get {i : Nat} : (rowE f xs)[i]? = xs[i]?.map f := by simp [rowE]
theorem rowE_getI {i : Int} : getI (rowE f xs) i = (getI xs i).map f := by unfold getI; split <;> simp [rowE]
theorem rowE_int {k : IntKind} {a : Int} : ([[D.int k a]] : List (List D)) = rowE (eI k) [a] := rfl
theorem rowE_int_cons {k : IntKind} {a : Int} {l : List Int} : ([D.int k a] :: rowE (eI k) l : List (List D)) = rowE (eI k) (a :: l) := rfl
theorem rowE_bool {a : Bool} : ([[D.bool a]] : List (List D)) = rowE eB [a] := rfl
theorem rowE_bool_cons {a : Bool} {l : List Bool} : ([D.bool a] :: rowE eB l : List (List D)) = rowE eB (a :: l) := rfl
theorem rowE_str {a : List UInt8} : ([[D.str a]] : List (List D)) = rowE eS [a] := rfl
theorem rowE_str_cons {a : List UInt8} {l : List (List UInt8)} : ([D.str a] :: rowE eS l : List (List D)) = rowE eS (a :: l) := rfl
theorem rowE_rep {n : Nat} {k : IntKind} {a : Int} : List.replicate n [D.int k a] = rowE (eI k) (List.replicate n a) := by simp [rowE, eI]
theorem rowE_set_int {k : IntKind} {a : Int} {l : List Int} {i : Nat} : (rowE (eI k) l).set i [D.int k a] = rowE (eI k) (l.set i a) := by simp [rowE, eI, List.map_set]
theorem rowE_set_bool {a : Bool} {l : List Bool} {i : Nat} : (rowE eB l).set i [D.bool a] = rowE eB (l.set i a) := by simp [rowE, eB, List.map_set]
theorem rowE_set_str {a : List UInt8} {l : List (List UInt8)} {i : Nat} : (rowE eS l).set i [D.str a] = rowE eS (l.set i a) := by simp [rowE, eS, List.map_set]
theorem lentE_row (h : ∀ x, lentL (f x) = f x) : lentE (rowE f xs) = rowE f xs := by
  rw [lentE_map]; unfold rowE; rw [List.map_map]; exact List.map_congr_left fun x _ => h x
theorem lentE_int {k : IntKind} {xs : List Int} : lentE (rowE (eI k) xs) = rowE (eI k) xs := lentE_row fun _ => rfl
theorem lentE_bool {xs : List Bool} : lentE (rowE eB xs) = rowE eB xs := lentE_row fun _ => rfl
theorem lentE_str {xs : List (List UInt8)} : lentE (rowE eS xs) = rowE eS xs := lentE_row fun _ => rfl
theorem cleanE_row (h : ∀ x, cleanL (f x) = true) : cleanE (rowE f xs) = true := by
  induction xs with
  | nil => rfl
  | cons x xs ih => simp only [rowE, List.map_cons, cleanE, Bool.and_eq_true]; exact ⟨h x, ih⟩
theorem cleanE_int {k : IntKind} {xs : List Int} : cleanE (rowE (eI k) xs) = true := cleanE_row fun _ => rfl
theorem cleanE_bool {xs : List Bool} : cleanE (rowE eB xs) = true := cleanE_row fun _ => rfl
theorem cleanE_str {xs : List (List UInt8)} : cleanE (rowE eS xs) = true := cleanE_row fun _ => rfl
theorem allCell_row (h : ∀ x, cellL (f x) = true) : allCell (rowE f xs) = true := by
  induction xs with
  | nil => rfl
  | cons x xs ih => simp only [rowE, List.map_cons, allCell, Bool.and_eq_true]; exact ⟨h x, ih⟩
theorem allCell_int {k : IntKind} {xs : List Int} : allCell (rowE (eI k) xs) = true := allCell_row fun _ => rfl
theorem allCell_bool {xs : List Bool} : allCell (rowE eB xs) = true := allCell_row fun _ => rfl
theorem allCell_str {xs : List (List UInt8)} : allCell (rowE eS xs) = true := allCell_row fun _ => rfl

theorem iad_sh {j : IntKind} {i : Int} : iadV H sz (.val (.sh k sz (rowE f xs))) (.val (.int j i)) = (getI xs i).map fun x => .val (.ptr (f x)) := by
  simp only [iadV, if_true, rowE_getI]
  cases getI xs i <;> rfl
def iadR (b : Nat) (sz : Nat) (o n : Nat) (i : Int) : Option Blk → Option V
  | some (.row _ sz' els) => if sz' = sz then (match getI ((els.drop o).take n) i with
        | some _ => some (.ep b (o + i.toNat) 0)
        | none => none) else none
  | _ => none
theorem iad_sl {j : IntKind} {i : Int} {b o n : Nat} : iadV H sz (.sl b o n) (.val (.int j i)) = iadR b sz o n i (look b H) := by
  simp only [iadV, iadR]
  cases look b H with
  | none => rfl
  | some B => cases B <;> rfl
theorem iadR_full {b : Nat} {i : Int} {old : Bool} : iadR b sz 0 xs.length i (some (.row old sz (rowE f xs))) = (getI xs i).bind fun _ => some (.ep b i.toNat 0) := by
  simp only [iadR, if_true, List.drop_zero, rowE_take_len, rowE_getI, Nat.zero_add]
  cases getI xs i <;> rfl
end
end Go.Proofs.YtclhghlpokdiiaaDoor.Wm
set_option linter.unusedSimpArgs false
set_option linter.unusedVariables false
namespace Go.Proofs.YtclhghlpokdiiaaDoor.Wm
open Go
attribute [go_sem] condV_true condV_false condV_undef loopK_normal loopK_exit loopK_ret finK_ret finK_normal bind_map' bind_assoc' map_bind' map_map' ite_bind' ite_map'
attribute [go_sem] inst1 inst instT instC instL free base finD resXs resX takeT takeV takeC takeL eD eE outsD outA resD Bool.false_eq_true Bool.not_true Bool.not_false Bool.false_and Bool.true_or Bool.false_or Bool.or_true Bool.or_false Bool.and_false Bool.and_self Bool.or_self
attribute [go_sem] takes takeA lends lendE lendV lendP lendC lentD lentL usesL usesB clean cleanL backs updB List.any_cons List.any_nil beq_iff_eq
attribute [go_sem] rowE_len rowE_take_len rowE_drop rowE_take rowE_app rowE_get rowE_getI rowE_int rowE_int_cons rowE_bool rowE_bool_cons rowE_str rowE_str_cons rowE_rep lentE_int lentE_bool lentE_str cleanE_int cleanE_bool cleanE_str allCell_int allCell_bool allCell_str iad_sh iad_sl iadR_full
attribute [go_sem] eI eB eS List.getElem?_cons_zero List.getElem?_cons_succ lenV lensV bslEls plainL plainV List.replicate_succ List.replicate_zero List.set_cons_zero List.set_cons_succ
attribute [go_sem] decide_true decide_false rowE_set_int rowE_set_bool rowE_set_str splice and_true true_and and_self
/-- Under a condition, it is known. -/
theorem ite_cong {β : Type} {c : Bool} {x y u v : Option β} (h1 : c = true → x = u) (h2 : c = false → y = v) : (if c = true then x else y) = if c = true then u else v := by
  cases c with
  | true => simpa using h1 rfl
  | false => simpa using h2 rfl
end Go.Proofs.YtclhghlpokdiiaaDoor.Wm
set_option linter.unusedSimpArgs false
set_option linter.unusedVariables false
namespace Go.Proofs.YtclhghlpokdiiaaDoor.Wm
open Go
theorem ite_cong2 {β : Type} {c c' : Bool} {x y u v : Option β} (h0 : c = c') (h1 : c' = true → x = u) (h2 : c' = false → y = v) : (if c = true then x else y) = if c' = true then u else v := by
  subst h0; exact ite_cong h1 h2
theorem some_ite' {α : Type} {p : Prop} [Decidable p] {x y : α} : some (if p then x else y) = if p then some x else some y := by split <;> rfl
theorem ite_not' {α : Type} {b : Bool} {x y : α} : (if (!b) = true then x else y) = if b = true then y else x := by cases b <;> rfl
theorem sum_bind {α β γ δ : Type} {f : α → Option γ} {g : β → Option γ} {h : γ → Option δ} {x : α ⊕ β} : (Sum.elim f g x).bind h = Sum.elim (fun y => (f y).bind h) (fun y => (g y).bind h) x := by cases x <;> rfl
theorem sum_map {α β γ δ : Type} {f : α → Option γ} {g : β → Option γ} {h : γ → δ} {x : α ⊕ β} : (Sum.elim f g x).map h = Sum.elim (fun y => (f y).map h) (fun y => (g y).map h) x := by cases x <;> rfl
theorem sum_some {α β γ : Type} {f : α → γ} {g : β → γ} {x : α ⊕ β} : some (Sum.elim f g x) = Sum.elim (fun y => some (f y)) (fun y => some (g y)) x := by cases x <;> rfl
attribute [go_sem] some_ite' sum_bind sum_map sum_some Sum.elim_inl Sum.elim_inr

def ldP (s : Option Nat) (o : Nat) : Option Blk → Option V
  | some (.var _ cs) => match s with
      | some n => if o + n ≤ cs.length then some (.agg ((cs.drop o).take n)) else none
      | none => cs[o]?
  | _ => none
def ldC (s : Option Nat) (o : Nat) (el : List D) : Option V := match s with
  | some n => if o + n ≤ el.length then some (.agg (((el.drop o).take n).map .val)) else none
  | none => match el[o]? with
    | some d => some (.val d)
    | none => none
def ldR (s : Option Nat) (i o : Nat) : Option Blk → Option V
  | some (.row _ _ els) => els[i]?.bind (ldC s o)
  | _ => none
section
variable {H : Heap} {s : Option Nat} {b o i n : Nat} {cs : List V} {ds : List D} {old : Bool} {sz : Nat} {α : Type} {f : α → List D} {xs : List α}
theorem loadV_pt : loadV H s (.pt b o) = ldP s o (look b H) := by
  simp only [loadV, ldP]
  cases look b H with
  | none => rfl
  | some B => cases B <;> rfl
theorem loadV_ep : loadV H s (.ep b i o) = ldR s i o (look b H) := by
  simp only [loadV, ldR]
  cases look b H with
  | none => rfl
  | some B =>
    cases B with
    | row old sz els => simp only []; cases els[i]? <;> rfl
    | _ => rfl
theorem loadV_ptr1 {d : D} : loadV H none (.val (.ptr (d :: ds))) = some (.val d) := rfl
theorem loadV_ptrn : loadV H (some n) (.val (.ptr ds)) = if n ≤ ds.length then some (.agg ((ds.take n).map .val)) else none := rfl
theorem ldP_var : ldP none o (some (.var old cs)) = cs[o]? := rfl
theorem ldP_varn : ldP (some n) o (some (.var old cs)) = if o + n ≤ cs.length then some (.agg ((cs.drop o).take n)) else none := rfl
theorem ldR_row : ldR s i o (some (.row old sz (rowE f xs))) = xs[i]?.bind fun x => ldC s o (f x) := by
  simp only [ldR, rowE_get]; cases xs[i]? <;> rfl
end
attribute [go_sem] loadV_pt loadV_ep loadV_ptr1 ldP_var ldP_varn ldR_row ldC Nat.zero_le Nat.le_refl
end Go.Proofs.YtclhghlpokdiiaaDoor.Wm
set_option linter.unusedSimpArgs false
set_option linter.unusedVariables false
namespace Go.Proofs.YtclhghlpokdiiaaDoor.Wm
open Go
/-! Made and appended slices -/
def okMake (by_ : Nat) (l : Int) : Bool := decide (0 ≤ l ∧ (by_ : Int) * l ≤ 281474976710656 ∧ l ≤ 9223372036854775807)
def okApp (by_ n : Nat) : Bool := decide (n * by_ ≤ 140737488355328)
def mslF (H : Heap) (id sz : Nat) (zs : List D) (l : Int) : Bool → Option (V × Heap)
  | true => some (.sl id 0 l.toNat, (id, .row false sz (List.replicate l.toNat zs)) :: H)
  | false => none
def mslV (H : Heap) (id sz by_ : Nat) (zs : List D) (l c : V) : Option (V × Heap) := match l, c with
  | .val (.int _ l), .val (.int _ c) => if l = c then (if okMake by_ l = true then mslF H id sz zs l (free id H) else none) else none
  | _, _ => none
section
variable {β : Type} {C : Cx} {K : List (Kont β)} {env : List (Nat × V)} {H : Heap} {nt : Nat} {h : Option Hint} {l : List Vop} {d : Option Nat} {x y c a b : Od} {k n o sz by_ id : Nat} {α : Type} {f : α → List D} {xs ys : List α} {old : Bool} {bb : Nat}
theorem evm_msl {ρ : Od → V} {dst : Nat} {zs : List D} : evm ρ H dst (.msl sz by_ zs x y) = mslV H (bid dst) sz by_ zs (ρ x) (ρ y) := by
  simp only [evm, mslV]
  generalize ρ x = u
  generalize ρ y = v
  cases u with
  | val d => cases d with
    | int k l => cases v with
      | val d => cases d with
        | int k' c =>
          simp only [okMake, decide_eq_true_eq]
          by_cases h1 : l = c
          · subst h1
            simp only [true_and, if_true]
            cases hf : free (bid dst) H with
            | true => simp only [mslF, and_true]; 
            | false => simp [mslF]
          · simp [h1]
        | _ => rfl
      | _ => rfl
    | _ => rfl
  | _ => rfl
theorem mslV_int {zs : List D} {k : IntKind} {l : Int} : mslV H id sz by_ zs (.val (.int k l)) (.val (.int k l)) = if okMake by_ l = true then mslF H id sz zs l (free id H) else none := by simp [mslV]
theorem mslF_int {k : IntKind} {z : Int} {l : Int} : mslF H id sz [.int k z] l true = some (.sl id 0 (List.replicate l.toNat z).length, (id, .row false sz (rowE (eI k) (List.replicate l.toNat z))) :: H) := by
  simp [mslF, rowE_rep]
theorem mslF_bool {z : Bool} {l : Int} : mslF H id sz [.bool z] l true = some (.sl id 0 (List.replicate l.toNat z).length, (id, .row false sz (rowE eB (List.replicate l.toNat z))) :: H) := by
  simp [mslF, rowE, eB]

def elsR (o n : Nat) : Option Blk → Option (Nat × List (List D))
  | some (.row _ sz els) => some (sz, (els.drop o).take n)
  | _ => none
theorem elsOf_sl {b o n : Nat} : elsOf H (.sl b o n) = elsR o n (look b H) := by
  simp only [elsOf, elsR]
  cases look b H with
  | none => rfl
  | some B => cases B <;> rfl
theorem elsOf_sh {k : Wm.K} {els : List (List D)} : elsOf H (.val (.sh k sz els)) = some (sz, els) := rfl
theorem elsOf_emp : elsOf H (.emp sz) = some (sz, []) := rfl
theorem elsR_row {els : List (List D)} : elsR o n (some (.row old sz els)) = some (sz, (els.drop o).take n) := rfl

def appC (id sz by_ : Nat) (old : Bool) (els : List (List D)) (H1 : Heap) : Bool → Option (V × Heap)
  | true => if okApp by_ els.length = true then some (.sl id 0 els.length, (id, .row old sz els) :: H1) else none
  | false => none
def appR (H : Heap) (id sz by_ b o n : Nat) (r : Option Blk) (e : Option (Nat × List (List D))) : Option (V × Heap) := match r, e with
  | some (.row old sz' els), some (sz2, ds) => if sz' = sz then (if sz2 = sz then (if allCell ds = true then appC id sz by_ old ((els.drop o).take n ++ ds) (updB b .gone H) (free id (updB b .gone H)) else none) else none) else none
  | _, _ => none
def appV (H : Heap) (id sz by_ : Nat) (s : V) (e : Option (Nat × List (List D))) : Option (V × Heap) := match s with
  | .sl b o n => appR H id sz by_ b o n (look b H) e
  | .emp _ => match e with
    | some (sz2, ds) => if sz2 = sz then (if allCell ds = true then appC id sz by_ false ds H (free id H) else none) else none
    | none => none
  | _ => none
theorem eva_app {ρ : Od → V} {dst : Nat} : eva ρ H dst (.app sz by_ x y) = appV H (bid dst) sz by_ (ρ x) (elsOf H (ρ y)) := by
  simp only [eva]
  generalize elsOf H (ρ y) = e
  generalize ρ x = s
  cases e with
  | none =>
    cases s <;> first | rfl | skip
    simp only [appV, appR]; split <;> simp_all
  | some p =>
    obtain ⟨sz2, ds⟩ := p
    have key : ∀ (cs : List (List D)) (old : Bool) (H1 : Heap), (if sz2 = sz ∧ allCell ds = true ∧ (cs.length + ds.length) * by_ ≤ 140737488355328 ∧ free (bid dst) H1 = true then some (V.sl (bid dst) 0 (cs.length + ds.length), (bid dst, Blk.row old sz (cs ++ ds)) :: H1) else none) =
        if sz2 = sz then (if allCell ds = true then appC (bid dst) sz by_ old (cs ++ ds) H1 (free (bid dst) H1) else none) else none := by
      intro cs old H1
      by_cases h1 : sz2 = sz
      · by_cases h2 : allCell ds = true
        · cases h3 : free (bid dst) H1 with
          | true => simp [h1, h2, appC, okApp]
          | false => simp [appC]
        · simp [h1, h2]
      · simp [h1]
    cases s with
    | sl b o n =>
      simp only [baseOf, appV, appR]
      cases look b H with
      | none => rfl
      | some B =>
        cases B with
        | row old sz' els =>
          simp only []
          by_cases h : sz' = sz
          · simp only [h, if_true]; exact key _ _ _
          · simp only [h, if_false]
        | _ => rfl
    | emp sz' =>
      simp only [baseOf, appV]
      have := key [] false H
      simpa using this
    | _ => rfl
theorem appC_row : appC id sz by_ old (rowE f xs) H true = if okApp by_ xs.length = true then some (.sl id 0 xs.length, (id, .row old sz (rowE f xs)) :: H) else none := by
  simp only [appC, rowE_len]
theorem rowE_nil : rowE f [] = [] := rfl
end
end Go.Proofs.YtclhghlpokdiiaaDoor.Wm
