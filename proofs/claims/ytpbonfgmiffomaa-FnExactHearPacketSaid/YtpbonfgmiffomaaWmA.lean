/- Part of a machine that runs a Go function on plain values, with the proof that what it yields is what the function yields. -/
import Derived.Calls
import Derived.Below
import Derived.Tactics
import Derived.Laws.Cells
import Derived.Laws.BytesArg
import Derived.Laws.Tables
import Derived.Laws.Strings
import Derived.ChangeKeysEq
import Derived.Laws.StructEq
import Derived.Laws.AppendOwn
import Derived.Laws.MakeOwn
import Derived.Laws.CopyRow
import Derived.Laws.Append
set_option linter.unusedSimpArgs false
set_option linter.unusedVariables false
namespace Go.Proofs.Ytpbonfgmiffomaa.Wm
open Go
inductive K where
  | fresh
  | lent
  | own
  deriving DecidableEq
inductive D where
  | int (k : IntKind) (n : Int)
  | bool (b : Bool)
  | str (s : List UInt8)
  | err (none : Bool)
  | fn (f : FuncId) (cap : List D)
  | sh (k : K) (sz : Nat) (els : List (List D))
  | ow (sz : Nat) (els : List (List D))
  | emp (sz : Nat)
  | ptr (cs : List D)
  | op (o : Nat) (cs : List D)
  | agg (cs : List D)
  | tup (cs : List D)
  | gone
def OwnBlk (w : World) (b m : Nat) : Prop := ∃ c ty, w.heap[b]? = some (.cells c ty (0, 0)) ∧ m ≤ c.size
inductive RepS (w : World) (X : K → Nat → Prop) : D → Value → Prop
  | int (k n) : RepS w X (.int k n) (.int k n)
  | bool (b) : RepS w X (.bool b) (.bool b)
  | str (s) : RepS w X (.str s) (.string ⟨s.toArray⟩)
  | err0 : RepS w X (.err true) .nilIface
  | err1 (t v) : RepS w X (.err false) (.iface t v)
  | fn (f cap) (vs : Array Value) (hs : vs.size = cap.length) (h : ∀ (i : Nat) (d : D) (v : Value), cap[i]? = some d → vs[i]? = some v → RepS w X d v) : RepS w X (.fn f cap) (.func (.func f) #[] vs)
  | sh (k sz els) (A : Addr) (c : Nat) (vf : Nat → Nat → Value) (hk : k ≠ .own) (hc : els.length ≤ c) (hz : ∀ el ∈ els, el.length = sz)
      (hm : ∀ (i j : Nat) (el : List D) (d : D), els[i]? = some el → el[j]? = some d → A.spot = none ∧ ¬ X k A.block ∧ w.cell? ⟨A.block, A.off + i * sz + j, none⟩ = some (vf i j))
      (h : ∀ (i j : Nat) (el : List D) (d : D), els[i]? = some el → el[j]? = some d → RepS w X d (vf i j)) : RepS w X (.sh k sz els) (.slice (some A) els.length c)
  | shn (k sz) (hk : k ≠ .own) : RepS w X (.sh k sz []) (.slice none 0 0)
  | emp (sz a) : RepS w X (.emp sz) (.slice a 0 0)
  | ptr (cs) (A : Addr) (vf : Nat → Value) (hm : ∀ (j : Nat) (d : D), cs[j]? = some d → A.spot = none ∧ ¬ X .lent A.block ∧ w.cell? ⟨A.block, A.off + j, none⟩ = some (vf j))
      (h : ∀ (j : Nat) (d : D), cs[j]? = some d → RepS w X d (vf j)) : RepS w X (.ptr cs) (.pointer (some A))
  | agg (cs) (vs : Array Value) (hs : vs.size = cs.length) (h : ∀ (i : Nat) (d : D) (v : Value), cs[i]? = some d → vs[i]? = some v → RepS w X d v) : RepS w X (.agg cs) (.agg vs)
  | tup (cs) (vs : Array Value) (hs : vs.size = cs.length) (h : ∀ (i : Nat) (d : D) (v : Value), cs[i]? = some d → vs[i]? = some v → RepS w X d v) : RepS w X (.tup cs) (.tuple vs)
  | gone (v) : RepS w X .gone v
theorem cell_lt {w : World} {a : Addr} {v : Value} (h : w.cell? a = some v) : a.block < w.heap.size := by
  unfold World.cell? at h
  rcases Nat.lt_or_ge a.block w.heap.size with h' | h'
  · exact h'
  · rw [Array.getElem?_eq_none h'] at h; simp at h
theorem cell_lt' {w : World} {b o : Nat} {v : Value} (h : w.cell? ⟨b, o, none⟩ = some v) : b < w.heap.size := cell_lt h
theorem cell_same {w w' : World} {a : Addr} {v : Value} (e : w'.heap[a.block]? = w.heap[a.block]?) (h : w.cell? a = some v) : w'.cell? a = some v := by
  unfold World.cell? at h ⊢; rw [e]; exact h
theorem OwnBlk.lt {w : World} {b m : Nat} (h : OwnBlk w b m) : b < w.heap.size := by
  obtain ⟨c, ty, h, _⟩ := h
  exact (Array.getElem?_eq_some_iff.1 h).1
theorem OwnBlk.same {w w' : World} {b m : Nat} (h : OwnBlk w b m) (e : w'.heap[b]? = w.heap[b]?) : OwnBlk w' b m := by
  obtain ⟨c, ty, h, hm⟩ := h
  exact ⟨c, ty, e.trans h, hm⟩
theorem OwnBlk.le {w : World} {b m m' : Nat} (h : OwnBlk w b m) (e : m' ≤ m) : OwnBlk w b m' := by
  obtain ⟨c, ty, h, hm⟩ := h
  exact ⟨c, ty, h, Nat.le_trans e hm⟩
structure Stay (w w' : World) (X X' : K → Nat → Prop) : Prop where
  heap : ∀ k b, b < w.heap.size → ¬ X k b → w'.heap[b]? = w.heap[b]?
  off : ∀ k b, b < w.heap.size → X' k b → X k b
theorem RepS.stay {w w' : World} {X X' : K → Nat → Prop} (s : Stay w w' X X') {d : D} {v : Value} (h : RepS w X d v) : RepS w' X' d v := by
  induction h with
  | int k n => exact .int k n
  | bool b => exact .bool b
  | str s => exact .str s
  | err0 => exact .err0
  | err1 t v => exact .err1 t v
  | fn f cap vs hs h ih => exact .fn f cap vs hs ih
  | sh k sz els A c vf hk hc hz hm h ih =>
    refine .sh k sz els A c vf hk hc hz (fun i j el d h1 h2 => ?_) ih
    obtain ⟨a, b, e⟩ := hm i j el d h1 h2
    exact ⟨a, fun hx => b (s.off k _ (cell_lt' e) hx), cell_same (s.heap k _ (cell_lt' e) b) e⟩
  | shn k sz hk => exact .shn k sz hk
  | emp sz a => exact .emp sz a
  | ptr cs A vf hm h ih =>
    refine .ptr cs A vf (fun j d h1 => ?_) ih
    obtain ⟨a, b, e⟩ := hm j d h1
    exact ⟨a, fun hx => b (s.off _ _ (cell_lt' e) hx), cell_same (s.heap _ _ (cell_lt' e) b) e⟩
  | agg cs vs hs h ih => exact .agg cs vs hs ih
  | tup cs vs hs h ih => exact .tup cs vs hs ih
  | gone v => exact .gone v
mutual
def lentD : D → D
  | .fn f cap => .fn f (lentL cap)
  | .sh _ sz els => .sh .lent sz (lentE els)
  | .ow sz els => .ow sz (lentE els)
  | .ptr cs => .ptr (lentL cs)
  | .op o cs => .op o (lentL cs)
  | .agg cs => .agg (lentL cs)
  | .tup cs => .tup (lentL cs)
  | d => d
def lentL : List D → List D
  | [] => []
  | d :: ds => lentD d :: lentL ds
def lentE : List (List D) → List (List D)
  | [] => []
  | e :: es => lentL e :: lentE es
end
theorem lentL_map : ∀ cs, lentL cs = cs.map lentD
  | [] => rfl
  | d :: ds => by simp [lentL, lentL_map ds]
theorem lentE_map : ∀ es, lentE es = es.map lentL
  | [] => rfl
  | d :: ds => by simp [lentE, lentE_map ds]
theorem lentL_get {cs : List D} {i : Nat} {d : D} (h : (lentL cs)[i]? = some d) : ∃ d0, cs[i]? = some d0 ∧ d = lentD d0 := by
  rw [lentL_map, List.getElem?_map, Option.map_eq_some_iff] at h
  obtain ⟨d0, h1, h2⟩ := h
  exact ⟨d0, h1, h2.symm⟩
theorem lentE_get {es : List (List D)} {i : Nat} {e : List D} (h : (lentE es)[i]? = some e) : ∃ e0, es[i]? = some e0 ∧ e = lentL e0 := by
  rw [lentE_map, List.getElem?_map, Option.map_eq_some_iff] at h
  obtain ⟨d0, h1, h2⟩ := h
  exact ⟨d0, h1, h2.symm⟩
theorem lentL_len (cs : List D) : (lentL cs).length = cs.length := by simp [lentL_map]
theorem lentE_len (cs : List (List D)) : (lentE cs).length = cs.length := by simp [lentE_map]
theorem RepS.lent {w : World} {X X' : K → Nat → Prop} (hX : ∀ k b, b < w.heap.size → X' .lent b → X k b) {d : D} {v : Value} (h : RepS w X d v) : RepS w X' (lentD d) v := by
  induction h with
  | int k n => exact .int k n
  | bool b => exact .bool b
  | str s => exact .str s
  | err0 => exact .err0
  | err1 t v => exact .err1 t v
  | fn f cap vs hs h ih =>
    refine .fn f _ vs (by rw [lentL_len]; exact hs) fun i d v h1 h2 => ?_
    obtain ⟨d0, h0, rfl⟩ := lentL_get h1
    exact ih i d0 v h0 h2
  | sh k sz els A c vf hk hc hz hm h ih =>
    simp only [lentD]
    rw [← lentE_len els]
    refine .sh .lent sz _ A c vf (by simp) (by rw [lentE_len]; exact hc) (fun el hel => ?_) (fun i j el d h1 h2 => ?_) fun i j el d h1 h2 => ?_
    · rw [lentE_map] at hel
      obtain ⟨e0, he0, rfl⟩ := List.mem_map.1 hel
      rw [lentL_len]; exact hz e0 he0
    · obtain ⟨e0, g1, rfl⟩ := lentE_get h1
      obtain ⟨d0, g2, rfl⟩ := lentL_get h2
      obtain ⟨a, b, e⟩ := hm i j e0 d0 g1 g2
      exact ⟨a, fun hx => b (hX k _ (cell_lt' e) hx), e⟩
    · obtain ⟨e0, g1, rfl⟩ := lentE_get h1
      obtain ⟨d0, g2, rfl⟩ := lentL_get h2
      exact ih i j e0 d0 g1 g2
  | shn k sz hk => exact .shn _ sz (by simp)
  | emp sz a => exact .emp sz a
  | ptr cs A vf hm h ih =>
    refine .ptr _ A vf (fun j d h1 => ?_) fun j d h1 => ?_
    · obtain ⟨d0, g1, rfl⟩ := lentL_get h1
      obtain ⟨a, b, e⟩ := hm j d0 g1
      exact ⟨a, fun hx => b (hX _ _ (cell_lt' e) hx), e⟩
    · obtain ⟨d0, g1, rfl⟩ := lentL_get h1
      exact ih j d0 g1
  | agg cs vs hs h ih =>
    refine .agg _ vs (by rw [lentL_len]; exact hs) fun i d v h1 h2 => ?_
    obtain ⟨d0, h0, rfl⟩ := lentL_get h1
    exact ih i d0 v h0 h2
  | tup cs vs hs h ih =>
    refine .tup _ vs (by rw [lentL_len]; exact hs) fun i d v h1 h2 => ?_
    obtain ⟨d0, h0, rfl⟩ := lentL_get h1
    exact ih i d0 v h0 h2
  | gone v => exact .gone v
def InR (els : List (List D)) (i j : Nat) : Prop := ∃ el d, els[i]? = some el ∧ el[j]? = some d
def RowD (els : List (List D)) (φ : Nat → Nat → Nat → Prop) : Prop := ∀ i j i' j' b, InR els i j → InR els i' j' → φ i j b → φ i' j' b → i = i' ∧ j = j'
inductive RepC (w : World) (X : K → Nat → Prop) : D → Value → (Nat → Prop) → Prop
  | plain (d v) (F : Nat → Prop) (hF : ∀ b, F b → b < w.heap.size) (h : RepS w X d v) : RepC w X d v F
  | own0 (sz a) (F : Nat → Prop) (hF : ∀ b, F b → b < w.heap.size) : RepC w X (.sh .own sz []) (.slice a 0 0) F
  | own (sz els) (g k c : Nat) (φ : Nat → Nat → Nat → Prop) (F : Nat → Prop) (hF : ∀ b, F b → b < w.heap.size) (hg : F g) (hs : ∀ i j b, InR els i j → φ i j b → F b ∧ b ≠ g) (hd : RowD els φ) (hc : els.length ≤ c) (ho : OwnBlk w g (k + c * sz)) (hz : ∀ el ∈ els, el.length = sz)
      (vf : Nat → Nat → Value) (hm : ∀ (i j : Nat) (el : List D) (d : D), els[i]? = some el → el[j]? = some d → w.cell? ⟨g, k + i * sz + j, none⟩ = some (vf i j))
      (h : ∀ (i j : Nat) (el : List D) (d : D), els[i]? = some el → el[j]? = some d → RepC w X d (vf i j) (φ i j)) : RepC w X (.sh .own sz els) (.slice (some ⟨g, k, none⟩) els.length c) F
def ownD : D → Bool
  | .sh .own _ _ => true
  | _ => false
theorem RepC.toS {w : World} {X : K → Nat → Prop} {d : D} {v : Value} {F : Nat → Prop} (h : RepC w X d v F) (hd : ownD d = false) : RepS w X d v := by
  cases h with
  | plain d v F hF h => exact h
  | own0 => simp [ownD] at hd
  | own => simp [ownD] at hd
theorem RepC.ofS {w : World} {X : K → Nat → Prop} {d : D} {v : Value} (h : RepS w X d v) : RepC w X d v (fun _ => False) := .plain d v _ (fun _ hb => hb.elim) h
theorem RepC.old {w : World} {X : K → Nat → Prop} {d : D} {v : Value} {F : Nat → Prop} (h : RepC w X d v F) : ∀ b, F b → b < w.heap.size := by
  cases h with
  | plain d v F hF h => exact hF
  | own0 sz a F hF => exact hF
  | own sz els g k c φ F hF => exact hF
theorem RepC.mono {w : World} {X : K → Nat → Prop} {d : D} {v : Value} {F F' : Nat → Prop} (h : RepC w X d v F) (hF' : ∀ b, F' b → b < w.heap.size) (hs : ∀ b, F b → F' b) : RepC w X d v F' := by
  cases h with
  | plain d v F hF h => exact .plain d v F' hF' h
  | own0 sz a F hF => exact .own0 sz a F' hF'
  | own sz els g k c φ F hF hg h1 hd hc ho hz vf hm h => exact .own sz els g k c φ F' hF' (hs g hg) (fun i j b q1 q2 => ⟨hs b (h1 i j b q1 q2).1, (h1 i j b q1 q2).2⟩) hd hc ho hz vf hm h
theorem heap_lt {w w' : World} {b : Nat} (h : b < w.heap.size) (e : w'.heap[b]? = w.heap[b]?) : b < w'.heap.size := by
  rcases Nat.lt_or_ge b w'.heap.size with q | q
  · exact q
  · rw [Array.getElem?_eq_none q, Array.getElem?_eq_getElem h] at e; simp at e
theorem RepC.stay {w w' : World} {X X' : K → Nat → Prop} (s : Stay w w' X X') {d : D} {v : Value} {F : Nat → Prop} (h : RepC w X d v F) (hk : ∀ b, F b → w'.heap[b]? = w.heap[b]?) : RepC w' X' d v F := by
  induction h with
  | plain d v F hF h => exact .plain d v F (fun b hb => heap_lt (hF b hb) (hk b hb)) (h.stay s)
  | own0 sz a F hF => exact .own0 sz a F (fun b hb => heap_lt (hF b hb) (hk b hb))
  | own sz els g k c φ F hF hg h1 hd hc ho hz vf hm h ih =>
    have e := hk g hg
    exact .own sz els g k c φ F (fun b hb => heap_lt (hF b hb) (hk b hb)) hg h1 hd hc (ho.same e) hz vf (fun i j el d q1 q2 => cell_same e (hm i j el d q1 q2)) fun i j el d q1 q2 => ih i j el d q1 q2 fun b hb => hk b (h1 i j b ⟨el, d, q1, q2⟩ hb).1
theorem RepC.lent {w : World} {X X' : K → Nat → Prop} (hX : ∀ k b, b < w.heap.size → X' .lent b → X k b) {d : D} {v : Value} {F : Nat → Prop} (h : RepC w X d v F) (hF : ownD d = true → ∀ b, F b → ¬ X' .lent b) : RepS w X' (lentD d) v := by
  induction h with
  | plain d v F hF' h => exact h.lent hX
  | own0 sz a F hF' =>
    simp only [lentD, lentE]
    cases a with
    | none => exact .shn _ _ (by simp)
    | some A => exact .sh .lent sz [] A 0 (fun _ _ => undef) (by simp) (by simp) (by simp) (fun i j el d q => by simp at q) fun i j el d q => by simp at q
  | own sz els g k c φ F hF' hg h1 hd hc ho hz vf hm h ih =>
    have hF := hF rfl
    simp only [lentD]
    rw [← lentE_len els]
    refine .sh .lent sz _ ⟨g, k, none⟩ c vf (by simp) (by rw [lentE_len]; exact hc) (fun el hel => ?_) (fun i j el d q1 q2 => ?_) fun i j el d q1 q2 => ?_
    · rw [lentE_map] at hel
      obtain ⟨e0, he0, rfl⟩ := List.mem_map.1 hel
      rw [lentL_len]; exact hz e0 he0
    · obtain ⟨e0, g1, rfl⟩ := lentE_get q1
      obtain ⟨d0, g2, rfl⟩ := lentL_get q2
      exact ⟨rfl, hF g hg, hm i j e0 d0 g1 g2⟩
    · obtain ⟨e0, g1, rfl⟩ := lentE_get q1
      obtain ⟨d0, g2, rfl⟩ := lentL_get q2
      exact ih i j e0 d0 g1 g2 fun _ b hb => hF b (h1 i j b ⟨e0, d0, g1, g2⟩ hb).1
inductive V where
  | val (d : D)
  | emp (sz : Nat)
  | sl (b o n : Nat)
  | pt (b o : Nat)
  | ep (b i o : Nat)
  | agg (vs : List V)
  | tup (vs : List V)
  | fn (f : FuncId) (cap : List V)
  | dead
  | anyb
inductive Blk where
  | row (old : Bool) (sz : Nat) (els : List (List D))
  | hole (old : Bool) (sz : Nat) (els : List (List D)) (i j b n : Nat)
  | var (old : Bool) (cs : List V)
  | gone
  | awayR (sz len : Nat)
  | awayV
inductive Sh where
  | row (sz len : Nat)
  | var
  | gone
def Blk.sh : Blk → Sh
  | .row _ sz els => .row sz els.length
  | .hole _ sz els _ _ _ _ => .row sz els.length
  | .var _ _ => .var
  | .gone => .gone
  | .awayR sz len => .row sz len
  | .awayV => .var
def Blk.old : Blk → Bool
  | .row o _ _ => o
  | .hole o _ _ _ _ _ _ => o
  | .var o _ => o
  | _ => true
def Blk.live : Blk → Bool
  | .row .. => true
  | .hole .. => true
  | .var .. => true
  | _ => false
def look {α : Type} (t : Nat) : List (Nat × α) → Option α
  | [] => none
  | (s, x) :: l => if s = t then some x else look t l
structure Fr where
  env : List (Nat × V)
  heap : List (Nat × Blk)
  nt : Nat
abbrev Heap := List (Nat × Blk)
structure Place where
  at_ : Nat → Option (Nat × Nat)
  sub : Nat → Nat → Prop
instance : CoeFun Place (fun _ => Nat → Option (Nat × Nat)) := ⟨Place.at_⟩
def Blks (ρ : Place) (b g : Nat) : Prop := (∃ k, ρ b = some (g, k)) ∨ ρ.sub b g
def SlOk (w : World) (p : Option (Nat × Nat)) : Sh → Nat → Nat → Value → Prop
  | .row sz len, o, n, v => o + n ≤ len ∧ ∃ A c, v = .slice A n c ∧ n ≤ c ∧ (c = 0 ∨ ∃ g k, p = some (g, k) ∧ A = some ⟨g, k + o * sz, none⟩ ∧ OwnBlk w g (k + o * sz + c * sz))
  | .var, _, _, _ => False
  | .gone, _, _, v => ∃ A n c, v = .slice A n c
def PtOk (p : Option (Nat × Nat)) : Sh → Nat → Value → Prop
  | .var, o, v => ∃ g k, p = some (g, k) ∧ v = .pointer (some ⟨g, k + o, none⟩)
  | .row .., _, _ => False
  | .gone, _, v => ∃ a, v = .pointer a
def EpOk (p : Option (Nat × Nat)) : Sh → Nat → Nat → Value → Prop
  | .row sz _, i, o, v => ∃ g k, p = some (g, k) ∧ v = .pointer (some ⟨g, k + i * sz + o, none⟩)
  | .var, _, _, _ => False
  | .gone, _, _, v => ∃ a, v = .pointer a
inductive RepE (w : World) (X : K → Nat → Prop) (H : Heap) (ρ : Place) : V → Value → Prop
  | val (d v) (h : RepS w X d v) : RepE w X H ρ (.val d) v
  | emp (sz a) : RepE w X H ρ (.emp sz) (.slice a 0 0)
  | sl (b o n v B) (hb : look b H = some B) (h : SlOk w (ρ b) B.sh o n v) : RepE w X H ρ (.sl b o n) v
  | pt (b o v B) (hb : look b H = some B) (h : PtOk (ρ b) B.sh o v) : RepE w X H ρ (.pt b o) v
  | ep (b i o v B) (hb : look b H = some B) (h : EpOk (ρ b) B.sh i o v) : RepE w X H ρ (.ep b i o) v
  | agg (vs) (us : Array Value) (hs : us.size = vs.length) (h : ∀ (i : Nat) (x : V) (u : Value), vs[i]? = some x → us[i]? = some u → RepE w X H ρ x u) : RepE w X H ρ (.agg vs) (.agg us)
  | tup (vs) (us : Array Value) (hs : us.size = vs.length) (h : ∀ (i : Nat) (x : V) (u : Value), vs[i]? = some x → us[i]? = some u → RepE w X H ρ x u) : RepE w X H ρ (.tup vs) (.tuple us)
  | fn (f vs) (us : Array Value) (hs : us.size = vs.length) (h : ∀ (i : Nat) (x : V) (u : Value), vs[i]? = some x → us[i]? = some u → RepE w X H ρ x u) : RepE w X H ρ (.fn f vs) (.func (.func f) #[] us)
  | dead (v) : RepE w X H ρ .dead v
  | anyb (b) : RepE w X H ρ .anyb (.bool b)
def RowC' (w : World) (p : Option (Nat × Nat)) (S : Nat → Prop) (sz : Nat) (els : List (List D)) (φ : Nat → Nat → Nat → Prop) (R : Nat → Nat → D → Value → Prop) : Prop :=
  (∀ el ∈ els, el.length = sz) ∧ (els = [] ∨ p ≠ none) ∧ (∀ x, S x → x < w.heap.size) ∧ RowD els φ ∧ (∀ i j x, InR els i j → φ i j x → S x) ∧
    ∀ g k, p = some (g, k) → ¬ S g ∧ OwnBlk w g (k + els.length * sz) ∧ ∀ (i j : Nat) (el : List D) (d : D), els[i]? = some el → el[j]? = some d → ∃ u, w.cell? ⟨g, k + i * sz + j, none⟩ = some u ∧ R i j d u
def RepB (w : World) (X : K → Nat → Prop) (H : Heap) (ρ : Place) (p : Option (Nat × Nat)) (S : Nat → Prop) : Blk → Prop
  | .row _ sz els => ∃ φ, RowC' w p S sz els φ fun i j d u => RepC w X d u (φ i j)
  | .hole _ sz els i0 j0 b n => ∃ φ, (InR els i0 j0 ∧ RowC' w p S sz els φ fun i j d u => if i = i0 ∧ j = j0 then RepE w X H ρ (.sl b 0 n) u else RepC w X d u (φ i j))
  | .var _ cs => (∀ x, ¬ S x) ∧ ∃ g k, p = some (g, k) ∧ OwnBlk w g (k + cs.length) ∧ ∀ (j : Nat) (x : V), cs[j]? = some x → ∃ u, w.cell? ⟨g, k + j, none⟩ = some u ∧ RepE w X H ρ x u
  | _ => True
def Held (H : Heap) (ρ : Place) (g : Nat) : Prop := ∃ b B, look b H = some B ∧ B.live = true ∧ Blks ρ b g
def XX (w0 : World) (X0 : Nat → Prop) (H : Heap) (ρ : Place) : K → Nat → Prop := fun k g => X0 g ∨ (k = .fresh ∧ g < w0.heap.size) ∨ Held H ρ g
structure Chg (w w' : World) (Z : Nat → Prop) : Prop where
  os : w'.os = w.os
  tape : w'.tape = w.tape
  output : w'.output = w.output
  size : w.heap.size ≤ w'.heap.size
  keep : ∀ b, b < w.heap.size → ¬ Z b → w'.heap[b]? = w.heap[b]?
  own : ∀ g m, OwnBlk w g m → OwnBlk w' g m
theorem Chg.refl (w : World) (Z : Nat → Prop) : Chg w w Z := ⟨rfl, rfl, rfl, Nat.le_refl _, fun _ _ _ => rfl, fun _ _ h => h⟩
theorem Chg.trans {w w1 w2 : World} {Z Z1 : Nat → Prop} (h : Chg w w1 Z) (k : Chg w1 w2 Z1) (hz : ∀ b, Z1 b → Z b ∨ w.heap.size ≤ b) : Chg w w2 Z :=
  ⟨k.os.trans h.os, k.tape.trans h.tape, k.output.trans h.output, Nat.le_trans h.size k.size, fun b hb hn =>
    (k.keep b (Nat.lt_of_lt_of_le hb h.size) (fun hz' => (hz b hz').elim hn (by omega))).trans (h.keep b hb hn), fun g m hg => k.own g m (h.own g m hg)⟩
theorem Chg.mono {w w' : World} {Z Z' : Nat → Prop} (h : Chg w w' Z) (hz : ∀ b, Z b → Z' b) : Chg w w' Z' := ⟨h.os, h.tape, h.output, h.size, fun b hb hn => h.keep b hb fun hz' => hn (hz b hz'), h.own⟩
def E : Nat → Prop := fun _ => False
def gAddr (g : Nat) : Value := .pointer (some ⟨g, 0, none⟩)
def SZ (w : World) (g : Nat) (cs : List D) : Prop := cs ≠ [] → ∃ vs a b, w.heap[g]? = some (.cells vs a b) ∧ vs.size = cs.length
def GlS (w : World) (X : K → Nat → Prop) (g : Nat) (cs : List D) : Prop := RepS w X (.ptr cs) (gAddr g) ∧ SZ w g cs
theorem GlS.stay {w w' : World} {X X' : K → Nat → Prop} {g : Nat} {cs : List D} (s : Stay w w' X X') (h : GlS w X g cs) : GlS w' X' g cs := ⟨h.1.stay s, fun hne => by
  obtain ⟨vs, a, b, e, hs⟩ := h.2 hne
  obtain ⟨d, ds, rfl⟩ := List.exists_cons_of_ne_nil hne
  have h1 := h.1
  unfold gAddr at h1
  cases h1 with
  | ptr _ A vf hm hh =>
    obtain ⟨p1, p2, p3⟩ := hm 0 d rfl
    exact ⟨vs, a, b, (s.heap .lent g (Array.getElem?_eq_some_iff.1 e).1 p2).trans e, hs⟩⟩
structure FR (G : Nat → Option (List D)) (w0 : World) (L X0 : Nat → Prop) (w : World) (tm : Array Value) (fr : Fr) (ρ : Place) : Prop where
  chg : Chg w0 w L
  x0 : ∀ b, X0 b → b < w.heap.size
  blk : ∀ b B, look b fr.heap = some B → RepB w (XX w0 X0 fr.heap ρ) fr.heap ρ (ρ b) (ρ.sub b) B
  sep : ∀ b b' B B' g, look b fr.heap = some B → look b' fr.heap = some B' → B.live = true → B'.live = true → Blks ρ b g → Blks ρ b' g → b = b'
  new : ∀ b B g, look b fr.heap = some B → B.live = true → Blks ρ b g → (B.old = true ∧ L g) ∨ w0.heap.size ≤ g
  out : ∀ b B g, look b fr.heap = some B → B.live = true → Blks ρ b g → ¬ X0 g
  env : ∀ t x, look t fr.env = some x → RepE w (XX w0 X0 fr.heap ρ) fr.heap ρ x (tm.getD t undef)
  nt : tm.size = fr.nt
  gl : ∀ g cs, G g = some cs → GlS w (XX w0 X0 fr.heap ρ) g cs
end Go.Proofs.Ytpbonfgmiffomaa.Wm
set_option linter.unusedSimpArgs false
set_option linter.unusedVariables false
namespace Go.Proofs.Ytpbonfgmiffomaa.Wm
open Go
def Shape (B B' : Blk) : Prop := B'.sh = .gone ∨ B'.sh = B.sh
theorem Shape.refl (B : Blk) : Shape B B := .inr rfl
structure HTr (w w' : World) (H H' : Heap) (ρ ρ' : Place) : Prop where
  own : ∀ g m, OwnBlk w g m → OwnBlk w' g m
  blk : ∀ b B, look b H = some B → ∃ B', look b H' = some B' ∧ (B'.sh = .gone ∨ (ρ' b = ρ b ∧ B'.sh = B.sh))
theorem SlOk.gone {w : World} {p p' : Option (Nat × Nat)} {B : Sh} {o n : Nat} {v : Value} (h : SlOk w p B o n v) {w' : World} : SlOk w' p' .gone o n v := by
  cases B with
  | row => obtain ⟨_, A, c, rfl, _⟩ := h; exact ⟨_, _, _, rfl⟩
  | var => exact h.elim
  | gone => exact h
theorem PtOk.gone {p p' : Option (Nat × Nat)} {B : Sh} {o : Nat} {v : Value} (h : PtOk p B o v) : PtOk p' .gone o v := by
  cases B with
  | var => obtain ⟨_, _, _, rfl⟩ := h; exact ⟨_, rfl⟩
  | row => exact h.elim
  | gone => exact h
theorem EpOk.gone {p p' : Option (Nat × Nat)} {B : Sh} {i o : Nat} {v : Value} (h : EpOk p B i o v) : EpOk p' .gone i o v := by
  cases B with
  | row => obtain ⟨_, _, _, rfl⟩ := h; exact ⟨_, rfl⟩
  | var => exact h.elim
  | gone => exact h
theorem SlOk.tr {w w' : World} (ho : ∀ g m, OwnBlk w g m → OwnBlk w' g m) {p : Option (Nat × Nat)} {B : Sh} {o n : Nat} {v : Value} (h : SlOk w p B o n v) : SlOk w' p B o n v := by
  cases B with
  | gone => exact h
  | row sz len =>
    obtain ⟨h1, A, c, h2, h3, h4⟩ := h
    exact ⟨h1, A, c, h2, h3, h4.imp id fun ⟨g, k, q1, q2, q3⟩ => ⟨g, k, q1, q2, ho _ _ q3⟩⟩
  | var => exact h
theorem RepE.tr {w w' : World} {X X' : K → Nat → Prop} {H H' : Heap} {ρ ρ' : Place} (s : Stay w w' X X') (t : HTr w w' H H' ρ ρ') {x : V} {v : Value} (h : RepE w X H ρ x v) : RepE w' X' H' ρ' x v := by
  induction h with
  | val d v h => exact .val d v (h.stay s)
  | emp sz a => exact .emp sz a
  | sl b o n v B hb h =>
    obtain ⟨B', h1, h2⟩ := t.blk b B hb
    refine .sl b o n v B' h1 ?_
    rcases h2 with h2 | ⟨h2, h3⟩
    · rw [h2]; exact h.gone
    · rw [h2, h3]; exact h.tr t.own
  | pt b o v B hb h =>
    obtain ⟨B', h1, h2⟩ := t.blk b B hb
    refine .pt b o v B' h1 ?_
    rcases h2 with h2 | ⟨h2, h3⟩
    · rw [h2]; exact h.gone
    · rw [h2, h3]; exact h
  | ep b i o v B hb h =>
    obtain ⟨B', h1, h2⟩ := t.blk b B hb
    refine .ep b i o v B' h1 ?_
    rcases h2 with h2 | ⟨h2, h3⟩
    · rw [h2]; exact h.gone
    · rw [h2, h3]; exact h
  | agg vs us hs h ih => exact .agg vs us hs ih
  | tup vs us hs h ih => exact .tup vs us hs ih
  | fn f vs us hs h ih => exact .fn f vs us hs ih
  | dead v => exact .dead v
  | anyb b => exact .anyb b
theorem RowC'.tr {w w' : World} {p : Option (Nat × Nat)} {S : Nat → Prop} {sz : Nat} {els : List (List D)} {φ : Nat → Nat → Nat → Prop} {R R' : Nat → Nat → D → Value → Prop} (h : RowC' w p S sz els φ R)
    (hg : ∀ g, ((∃ k, p = some (g, k)) ∨ S g) → w'.heap[g]? = w.heap[g]?) (hR : ∀ i j d u, InR els i j → R i j d u → R' i j d u) : RowC' w' p S sz els φ R' := by
  obtain ⟨h1, h2, h3, h4, h5, h6⟩ := h
  refine ⟨h1, h2, fun x hx => heap_lt (h3 x hx) (hg x (.inr hx)), h4, h5, fun g k hp => ?_⟩
  obtain ⟨q0, q1, q2⟩ := h6 g k hp
  have e := hg g (.inl ⟨k, hp⟩)
  refine ⟨q0, q1.same e, fun i j el d r1 r2 => ?_⟩
  obtain ⟨u, r3, r4⟩ := q2 i j el d r1 r2
  exact ⟨u, cell_same e r3, hR i j d u ⟨el, d, r1, r2⟩ r4⟩
theorem RepB.tr {w w' : World} {X X' : K → Nat → Prop} {H H' : Heap} {ρ ρ' : Place} (s : Stay w w' X X') (t : HTr w w' H H' ρ ρ') {p : Option (Nat × Nat)} {S : Nat → Prop} {B : Blk}
    (hg : B.live = true → ∀ g, ((∃ k, p = some (g, k)) ∨ S g) → w'.heap[g]? = w.heap[g]?) (h : RepB w X H ρ p S B) : RepB w' X' H' ρ' p S B := by
  cases B with
  | row o sz els =>
    simp only [RepB] at h ⊢
    obtain ⟨φ, h⟩ := h
    exact ⟨φ, h.tr (hg rfl) fun i j d u hin q => q.stay s fun b hb => hg rfl b (.inr (h.2.2.2.2.1 i j b hin hb))⟩
  | hole o sz els i0 j0 b n =>
    simp only [RepB] at h ⊢
    obtain ⟨φ, hi, h⟩ := h
    refine ⟨φ, hi, h.tr (hg rfl) fun i j d u hin q => ?_⟩
    split
    · rename_i hij
      rw [if_pos hij] at q
      exact q.tr s t
    · rename_i hij
      rw [if_neg hij] at q
      exact q.stay s fun b hb => hg rfl b (.inr (h.2.2.2.2.1 i j b hin hb))
  | var o cs =>
    simp only [RepB] at h ⊢
    obtain ⟨hS, g, k, hp, h1, h2⟩ := h
    have e := hg rfl g (.inl ⟨k, hp⟩)
    refine ⟨hS, g, k, hp, h1.same e, fun j x r1 => ?_⟩
    obtain ⟨u, r3, r4⟩ := h2 j x r1
    exact ⟨u, cell_same e r3, r4.tr s t⟩
  | _ => trivial
theorem RepB.lt {w : World} {X : K → Nat → Prop} {H : Heap} {ρ : Place} {p : Option (Nat × Nat)} {S : Nat → Prop} {B : Blk} (h : RepB w X H ρ p S B) (hl : B.live = true) {g : Nat} (hp : (∃ k, p = some (g, k)) ∨ S g) : g < w.heap.size := by
  cases B with
  | row o sz els =>
    obtain ⟨φ, h⟩ := h
    rcases hp with ⟨k, hp⟩ | hp
    · exact (h.2.2.2.2.2 g k hp).2.1.lt
    · exact h.2.2.1 g hp
  | hole o sz els i0 j0 b n =>
    obtain ⟨φ, _, h⟩ := h
    rcases hp with ⟨k, hp⟩ | hp
    · exact (h.2.2.2.2.2 g k hp).2.1.lt
    · exact h.2.2.1 g hp
  | var o cs =>
    obtain ⟨hS, g', k', hp', h1, _⟩ := h
    rcases hp with ⟨k, hp⟩ | hp
    · rw [hp] at hp'; obtain ⟨rfl, rfl⟩ : g = g' ∧ k = k' := by simpa using hp'
      exact h1.lt
    · exact absurd hp (hS g)
  | _ => simp [Blk.live] at hl
section
variable {G : Nat → Option (List D)} {w0 : World} {L X0 X1 : Nat → Prop} {w w' : World} {tm : Array Value} {fr : Fr} {ρ ρ' : Place}
theorem FR.held_lt (h : FR G w0 L X0 w tm fr ρ) {g : Nat} (hg : Held fr.heap ρ g) : g < w.heap.size := by
  obtain ⟨b, B, h1, h2, h3⟩ := hg
  exact (h.blk b B h1).lt h2 h3
theorem FR.XX_lt (h : FR G w0 L X0 w tm fr ρ) {k : K} {g : Nat} (hg : XX w0 X0 fr.heap ρ k g) : g < w.heap.size := by
  rcases hg with hg | ⟨_, hg⟩ | hg
  · exact h.x0 g hg
  · exact Nat.lt_of_lt_of_le hg h.chg.size
  · exact h.held_lt hg
theorem FR.put (h : FR G w0 L X0 w tm fr ρ) {t : Nat} (ht : t < fr.nt) {x : V} {v : Value} (hx : RepE w (XX w0 X0 fr.heap ρ) fr.heap ρ x v) :
    FR G w0 L X0 w (tm.setIfInBounds t v) { fr with env := (t, x) :: fr.env } ρ where
  chg := h.chg
  x0 := h.x0
  blk := h.blk
  sep := h.sep
  new := h.new
  out := h.out
  gl := h.gl
  nt := by simpa using h.nt
  env := by
    intro s y hy
    simp only [look] at hy
    by_cases hst : t = s
    · subst hst
      rw [if_pos rfl] at hy
      obtain rfl : x = y := by simpa using hy
      have : t < tm.size := by rw [h.nt]; exact ht
      simpa [Array.getElem?_setIfInBounds_self, this] using hx
    · rw [if_neg hst] at hy
      have := h.env s y hy
      simpa [Array.getElem?_setIfInBounds_ne hst] using this
theorem FR.re (h : FR G w0 L X0 w tm fr ρ) {H' : Heap} (hc : Chg w0 w' L) (x0 : ∀ b, X1 b → b < w'.heap.size) (st : Stay w w' (XX w0 X0 fr.heap ρ) (XX w0 X1 H' ρ')) (t : HTr w w' fr.heap H' ρ ρ')
    (hb : ∀ b B, look b H' = some B → B.live = true → (look b fr.heap = some B ∧ ρ' b = ρ b ∧ ρ'.sub b = ρ.sub b ∧ ∀ g, Blks ρ b g → w'.heap[g]? = w.heap[g]?) ∨ RepB w' (XX w0 X1 H' ρ') H' ρ' (ρ' b) (ρ'.sub b) B)
    (sep : ∀ b b' B B' g, look b H' = some B → look b' H' = some B' → B.live = true → B'.live = true → Blks ρ' b g → Blks ρ' b' g → b = b')
    (new : ∀ b B g, look b H' = some B → B.live = true → Blks ρ' b g → (B.old = true ∧ L g) ∨ w0.heap.size ≤ g)
    (out : ∀ b B g, look b H' = some B → B.live = true → Blks ρ' b g → ¬ X1 g) :
    FR G w0 L X1 w' tm { fr with heap := H' } ρ' where
  chg := hc
  x0 := x0
  blk := fun b B hB => by
    cases hl : B.live with
    | false => cases B <;> simp [Blk.live] at hl <;> trivial
    | true =>
      rcases hb b B hB hl with ⟨q1, q2, q2', q3⟩ | q
      · rw [q2, q2']; exact (h.blk b B q1).tr st t (fun _ g hp => q3 g hp)
      · exact q
  sep := sep
  new := new
  out := out
  env := fun s x hx => (h.env s x hx).tr st t
  nt := h.nt
  gl := fun g cs hg => (h.gl g cs hg).stay st
theorem HTr.same {H : Heap} (ho : ∀ g m, OwnBlk w g m → OwnBlk w' g m) : HTr w w' H H ρ ρ := ⟨ho, fun b B hb => ⟨B, hb, .inr ⟨rfl, rfl⟩⟩⟩
theorem FR.turn (h : FR G w0 L X0 w tm fr ρ) {M : Nat → Prop} (hc : Chg w w' M) (hM : ∀ b, M b → X0 b) (hL : ∀ b, M b → L b ∨ w0.heap.size ≤ b) :
    FR G w0 L (fun b => X0 b ∨ (w.heap.size ≤ b ∧ b < w'.heap.size)) w' tm fr ρ ∧
      Stay w w' (XX w0 X0 fr.heap ρ) (XX w0 (fun b => X0 b ∨ (w.heap.size ≤ b ∧ b < w'.heap.size)) fr.heap ρ) ∧ HTr w w' fr.heap fr.heap ρ ρ := by
  have st : Stay w w' (XX w0 X0 fr.heap ρ) (XX w0 (fun b => X0 b ∨ (w.heap.size ≤ b ∧ b < w'.heap.size)) fr.heap ρ) := by
    refine ⟨fun k b hb hx => hc.keep b hb fun hm => hx (.inl (hM b hm)), fun k b hb hx => ?_⟩
    rcases hx with (hx | hx) | hx
    · exact .inl hx
    · omega
    · exact .inr hx
  have t : HTr w w' fr.heap fr.heap ρ ρ := HTr.same hc.own
  have hold : ∀ b B g, look b fr.heap = some B → B.live = true → Blks ρ b g → ¬ X0 g ∧ g < w.heap.size := fun b B g h1 h2 h3 => ⟨h.out b B g h1 h2 h3, h.held_lt ⟨b, B, h1, h2, h3⟩⟩
  refine ⟨h.re (h.chg.trans hc fun b hb => hL b hb) (fun b hb => ?_) st t (fun b B hB hl => .inl ⟨hB, rfl, rfl, fun g hg => ?_⟩) h.sep h.new (fun b B g h1 h2 h3 hx => ?_), st, t⟩
  · rcases hb with hb | hb
    · exact Nat.lt_of_lt_of_le (h.x0 b hb) hc.size
    · exact hb.2
  · obtain ⟨q1, q2⟩ := hold b B g hB hl hg
    exact hc.keep g q2 fun hm => q1 (hM g hm)
  · obtain ⟨q1, q2⟩ := hold b B g h1 h2 h3
    rcases hx with hx | hx
    · exact q1 hx
    · omega
theorem FR.less (h : FR G w0 L X0 w tm fr ρ) (hX : ∀ b, X1 b → X0 b) : FR G w0 L X1 w tm fr ρ ∧ Stay w w (XX w0 X0 fr.heap ρ) (XX w0 X1 fr.heap ρ) := by
  have st : Stay w w (XX w0 X0 fr.heap ρ) (XX w0 X1 fr.heap ρ) := ⟨fun _ _ _ _ => rfl, fun k b _ hx => hx.imp (hX b) id⟩
  exact ⟨h.re h.chg (fun b hb => h.x0 b (hX b hb)) st (HTr.same fun _ _ h => h) (fun b B hB hl => .inl ⟨hB, rfl, rfl, fun _ _ => rfl⟩) h.sep h.new (fun b B g h1 h2 h3 hx => h.out b B g h1 h2 h3 (hX g hx)), st⟩
def updB (b : Nat) (B : Blk) : Heap → Heap
  | [] => []
  | (s, x) :: l => if s = b then (s, B) :: l else (s, x) :: updB b B l
theorem look_updB_self {b : Nat} {B B0 : Blk} : ∀ {H : Heap}, look b H = some B0 → look b (updB b B H) = some B
  | (s, x) :: l, h => by
    simp only [look, updB] at h ⊢
    by_cases hs : s = b
    · simp [hs, look]
    · rw [if_neg hs] at h; simp only [if_neg hs, look]; exact look_updB_self h
theorem look_updB_ne {b b' : Nat} {B : Blk} (hne : b' ≠ b) : ∀ {H : Heap}, look b' (updB b B H) = look b' H
  | [] => rfl
  | (s, x) :: l => by
    simp only [look, updB]
    by_cases hs : s = b
    · rw [if_pos hs]; simp only [look]; rw [if_neg (by omega), if_neg (by omega)]
    · rw [if_neg hs]; simp only [look]; rw [look_updB_ne hne]
theorem FR.kill' (h : FR G w0 L X0 w tm fr ρ) {b : Nat} {B C : Blk} (hb : look b fr.heap = some B) (hl : B.live = true) (hC : C.live = false) (hs : Shape B C) :
    FR G w0 L (fun g => X0 g ∨ Blks ρ b g) w tm { fr with heap := updB b C fr.heap } ρ ∧
      XX w0 (fun g => X0 g ∨ Blks ρ b g) (updB b C fr.heap) ρ = XX w0 X0 fr.heap ρ ∧ HTr w w fr.heap (updB b C fr.heap) ρ ρ := by
  have live : ∀ b' B', look b' (updB b C fr.heap) = some B' → B'.live = true → b' ≠ b ∧ look b' fr.heap = some B' := fun b' B' h1 h2 => by
    by_cases hbb : b' = b
    · subst hbb
      rw [look_updB_self hb] at h1
      obtain rfl := Option.some.inj h1
      rw [hC] at h2; simp at h2
    · rw [look_updB_ne hbb] at h1; exact ⟨hbb, h1⟩
  have e : XX w0 (fun g => X0 g ∨ Blks ρ b g) (updB b C fr.heap) ρ = XX w0 X0 fr.heap ρ := by
    funext k g
    apply propext
    constructor
    · rintro ((hx | hx) | hx | ⟨b', B', h1, h2, h3⟩)
      · exact .inl hx
      · exact .inr (.inr ⟨b, B, hb, hl, hx⟩)
      · exact .inr (.inl hx)
      · exact .inr (.inr ⟨b', B', (live b' B' h1 h2).2, h2, h3⟩)
    · rintro (hx | hx | ⟨b', B', h1, h2, h3⟩)
      · exact .inl (.inl hx)
      · exact .inr (.inl hx)
      · by_cases hbb : b' = b
        · subst hbb; exact .inl (.inr h3)
        · exact .inr (.inr ⟨b', B', by rw [look_updB_ne hbb]; exact h1, h2, h3⟩)
  have t : HTr w w fr.heap (updB b C fr.heap) ρ ρ := by
    refine ⟨fun _ _ h => h, fun b' B' h1 => ?_⟩
    by_cases hbb : b' = b
    · subst hbb; rw [hb] at h1; obtain rfl := Option.some.inj h1; exact ⟨C, look_updB_self hb, hs.imp id fun e => ⟨rfl, e⟩⟩
    · exact ⟨B', by rw [look_updB_ne hbb]; exact h1, .inr ⟨rfl, rfl⟩⟩
  refine ⟨h.re h.chg (fun g hg => ?_) ⟨fun _ _ _ _ => rfl, fun k g _ hx => by rw [e] at hx; exact hx⟩ t (fun b' B' h1 h2 => .inl ⟨(live b' B' h1 h2).2, rfl, rfl, fun _ _ => rfl⟩) (fun b1 b2 B1 B2 g h1 h2 l1 l2 => h.sep b1 b2 B1 B2 g (live b1 B1 h1 l1).2 (live b2 B2 h2 l2).2 l1 l2)
    (fun b' B' g h1 h2 => h.new b' B' g (live b' B' h1 h2).2 h2) (fun b' B' g h1 h2 h3 hx => ?_), e, t⟩
  · rcases hg with hg | hg
    · exact h.x0 g hg
    · exact h.held_lt ⟨b, B, hb, hl, hg⟩
  · obtain ⟨q1, q2⟩ := live b' B' h1 h2
    rcases hx with hx | hx
    · exact h.out b' B' g q2 h2 h3 hx
    · exact q1 (h.sep b' b B' B g q2 hb h2 hl h3 hx)
theorem FR.kill (h : FR G w0 L X0 w tm fr ρ) {b : Nat} {B : Blk} (hb : look b fr.heap = some B) (hl : B.live = true) :
    FR G w0 L (fun g => X0 g ∨ Blks ρ b g) w tm { fr with heap := updB b .gone fr.heap } ρ ∧
      XX w0 (fun g => X0 g ∨ Blks ρ b g) (updB b .gone fr.heap) ρ = XX w0 X0 fr.heap ρ ∧ HTr w w fr.heap (updB b .gone fr.heap) ρ ρ := h.kill' hb hl rfl (.inl rfl)
def setP (b : Nat) (p : Option (Nat × Nat)) (S : Nat → Prop) (ρ : Place) : Place := ⟨fun s => if s = b then p else ρ s, fun s => if s = b then S else ρ.sub s⟩
theorem setP_self (b : Nat) (p : Option (Nat × Nat)) (S : Nat → Prop) (ρ : Place) : setP b p S ρ b = p := by simp [setP]
theorem setP_ne {b s : Nat} (h : s ≠ b) (p : Option (Nat × Nat)) (S : Nat → Prop) (ρ : Place) : setP b p S ρ s = ρ s := by simp [setP, h]
theorem setP_sub (b : Nat) (p : Option (Nat × Nat)) (S : Nat → Prop) (ρ : Place) : (setP b p S ρ).sub b = S := by simp [setP]
theorem setP_sub_ne {b s : Nat} (h : s ≠ b) (p : Option (Nat × Nat)) (S : Nat → Prop) (ρ : Place) : (setP b p S ρ).sub s = ρ.sub s := by simp [setP, h]
theorem setP_blks {b g : Nat} {p : Option (Nat × Nat)} {S : Nat → Prop} {ρ : Place} : Blks (setP b p S ρ) b g ↔ (∃ k, p = some (g, k)) ∨ S g := by unfold Blks; rw [setP_self, setP_sub]
theorem setP_blks_ne {b s g : Nat} (h : s ≠ b) {p : Option (Nat × Nat)} {S : Nat → Prop} {ρ : Place} : Blks (setP b p S ρ) s g ↔ Blks ρ s g := by unfold Blks; rw [setP_ne h, setP_sub_ne h]
theorem FR.add (h : FR G w0 L X0 w tm fr ρ) {b : Nat} {B : Blk} {p : Option (Nat × Nat)} {S : Nat → Prop} (hb : look b fr.heap = none) (hX : ∀ g, X1 g → X0 g) (hp : ∀ g, ((∃ k, p = some (g, k)) ∨ S g) → X0 g ∧ ¬ X1 g ∧ ((B.old = true ∧ L g) ∨ w0.heap.size ≤ g))
    (hB : RepB w (XX w0 X1 ((b, B) :: fr.heap) (setP b p S ρ)) ((b, B) :: fr.heap) (setP b p S ρ) p S B) :
    FR G w0 L X1 w tm { fr with heap := (b, B) :: fr.heap } (setP b p S ρ) ∧ Stay w w (XX w0 X0 fr.heap ρ) (XX w0 X1 ((b, B) :: fr.heap) (setP b p S ρ)) ∧ HTr w w fr.heap ((b, B) :: fr.heap) ρ (setP b p S ρ) := by
  have lk : ∀ b' B', look b' ((b, B) :: fr.heap) = some B' → (b' = b ∧ B' = B) ∨ (b' ≠ b ∧ look b' fr.heap = some B') := fun b' B' h1 => by
    simp only [look] at h1
    split at h1
    · rename_i hs; exact .inl ⟨hs.symm, (Option.some.inj h1).symm⟩
    · rename_i hs; exact .inr ⟨fun e => hs e.symm, h1⟩
  have hne : ∀ b' B', look b' fr.heap = some B' → b' ≠ b := fun b' B' h1 e => by subst e; rw [hb] at h1; simp at h1
  have sub : ∀ k g, XX w0 X1 ((b, B) :: fr.heap) (setP b p S ρ) k g → XX w0 X0 fr.heap ρ k g := by
    rintro k g (hx | hx | ⟨b', B', h1, h2, h3⟩)
    · exact .inl (hX g hx)
    · exact .inr (.inl hx)
    · rcases lk b' B' h1 with ⟨rfl, rfl⟩ | ⟨q1, q2⟩
      · rw [setP_blks] at h3; exact .inl (hp g h3).1
      · rw [setP_blks_ne q1] at h3; exact .inr (.inr ⟨b', B', q2, h2, h3⟩)
  have st : Stay w w (XX w0 X0 fr.heap ρ) (XX w0 X1 ((b, B) :: fr.heap) (setP b p S ρ)) := ⟨fun _ _ _ _ => rfl, fun k g _ hx => sub k g hx⟩
  have t : HTr w w fr.heap ((b, B) :: fr.heap) ρ (setP b p S ρ) := ⟨fun _ _ h => h, fun b' B' h1 => ⟨B', by simp only [look]; rw [if_neg (Ne.symm (hne b' B' h1))]; exact h1, .inr ⟨setP_ne (hne b' B' h1) p S ρ, rfl⟩⟩⟩
  refine ⟨h.re h.chg (fun g hg => h.x0 g (hX g hg)) st t (fun b' B' h1 h2 => ?_) (fun b1 b2 B1 B2 g h1 h2 l1 l2 p1 p2 => ?_) (fun b' B' g h1 h2 h3 => ?_) (fun b' B' g h1 h2 h3 hx => ?_), st, t⟩
  · rcases lk b' B' h1 with ⟨rfl, rfl⟩ | ⟨q1, q2⟩
    · right; rw [setP_self, setP_sub]; exact hB
    · exact .inl ⟨q2, setP_ne q1 p S ρ, setP_sub_ne q1 p S ρ, fun _ _ => rfl⟩
  · rcases lk b1 B1 h1 with ⟨e1, e1'⟩ | ⟨q1, q2⟩ <;> rcases lk b2 B2 h2 with ⟨e2, e2'⟩ | ⟨r1, r2⟩
    · rw [e1, e2]
    · subst e1; rw [setP_blks] at p1; rw [setP_blks_ne r1] at p2
      exact absurd (hp g p1).1 (h.out b2 B2 g r2 l2 p2)
    · subst e2; rw [setP_blks] at p2; rw [setP_blks_ne q1] at p1
      exact absurd (hp g p2).1 (h.out b1 B1 g q2 l1 p1)
    · rw [setP_blks_ne q1] at p1; rw [setP_blks_ne r1] at p2
      exact h.sep b1 b2 B1 B2 g q2 r2 l1 l2 p1 p2
  · rcases lk b' B' h1 with ⟨rfl, rfl⟩ | ⟨q1, q2⟩
    · rw [setP_blks] at h3; exact (hp g h3).2.2
    · rw [setP_blks_ne q1] at h3; exact h.new b' B' g q2 h2 h3
  · rcases lk b' B' h1 with ⟨rfl, rfl⟩ | ⟨q1, q2⟩
    · rw [setP_blks] at h3; exact (hp g h3).2.1 hx
    · rw [setP_blks_ne q1] at h3; exact h.out b' B' g q2 h2 h3 (hX g hx)
theorem FR.set (h : FR G w0 L X0 w tm fr ρ) {b g k : Nat} {B B' : Blk} (hb : look b fr.heap = some B) (hl : B.live = true) (hl' : B'.live = true) (hold : B'.old = B.old) (hs : B'.sh = B.sh) (hp : ρ b = some (g, k)) (hc : Chg w w' (fun x => x = g))
    (hB : ∀ X H, Stay w w' (XX w0 X0 fr.heap ρ) X → HTr w w' fr.heap H ρ ρ → (∀ x, ρ.sub b x → w'.heap[x]? = w.heap[x]?) → RepB w' X H ρ (some (g, k)) (ρ.sub b) B') (hg : ¬ ρ.sub b g) :
    FR G w0 L X0 w' tm { fr with heap := updB b B' fr.heap } ρ ∧ Stay w w' (XX w0 X0 fr.heap ρ) (XX w0 X0 (updB b B' fr.heap) ρ) ∧ HTr w w' fr.heap (updB b B' fr.heap) ρ ρ := by
  have lk : ∀ b' C, look b' (updB b B' fr.heap) = some C → (b' = b ∧ C = B') ∨ (b' ≠ b ∧ look b' fr.heap = some C) := fun b' C h1 => by
    by_cases hbb : b' = b
    · subst hbb; rw [look_updB_self hb] at h1; exact .inl ⟨rfl, (Option.some.inj h1).symm⟩
    · rw [look_updB_ne hbb] at h1; exact .inr ⟨hbb, h1⟩
  have back : ∀ b' C, look b' (updB b B' fr.heap) = some C → C.live = true → ∃ C0, look b' fr.heap = some C0 ∧ C0.live = true ∧ C0.old = C.old := fun b' C h1 h2 => by
    rcases lk b' C h1 with ⟨rfl, rfl⟩ | ⟨_, q⟩
    · exact ⟨B, hb, hl, hold.symm⟩
    · exact ⟨C, q, h2, rfl⟩
  have e : ∀ k' x, XX w0 X0 (updB b B' fr.heap) ρ k' x → XX w0 X0 fr.heap ρ k' x := by
    rintro k' x (hx | hx | ⟨b', C, h1, h2, h3⟩)
    · exact .inl hx
    · exact .inr (.inl hx)
    · obtain ⟨C0, r1, r2, _⟩ := back b' C h1 h2; exact .inr (.inr ⟨b', C0, r1, r2, h3⟩)
  have hgX : ∀ k', XX w0 X0 fr.heap ρ k' g := fun k' => .inr (.inr ⟨b, B, hb, hl, .inl ⟨k, hp⟩⟩)
  have st : Stay w w' (XX w0 X0 fr.heap ρ) (XX w0 X0 (updB b B' fr.heap) ρ) := ⟨fun k' x hx hn => hc.keep x hx fun e => hn (by subst e; exact hgX k'), fun k' x _ hx => e k' x hx⟩
  have t : HTr w w' fr.heap (updB b B' fr.heap) ρ ρ := by
    refine ⟨hc.own, fun b' C h1 => ?_⟩
    by_cases hbb : b' = b
    · subst hbb; rw [hb] at h1; obtain rfl := Option.some.inj h1; exact ⟨B', look_updB_self hb, .inr ⟨rfl, hs⟩⟩
    · exact ⟨C, by rw [look_updB_ne hbb]; exact h1, .inr ⟨rfl, rfl⟩⟩
  refine ⟨h.re (h.chg.trans hc fun x hx => ?_) (fun x hx => Nat.lt_of_lt_of_le (h.x0 x hx) hc.size) st t (fun b' C h1 h2 => ?_)
    (fun b1 b2 B1 B2 x h1 h2 l1 l2 p1 p2 => ?_) (fun b' C x h1 h2 h3 => ?_) (fun b' C x h1 h2 h3 => ?_), st, t⟩
  · subst hx; exact (h.new b B x hb hl (.inl ⟨k, hp⟩)).imp (·.2) id
  · rcases lk b' C h1 with ⟨rfl, rfl⟩ | ⟨q1, q2⟩
    · right; rw [hp]; exact hB _ _ st t fun x hx => hc.keep x (h.held_lt ⟨b', B, hb, hl, .inr hx⟩) fun e => hg (by rw [← e]; exact hx)
    · refine .inl ⟨q2, rfl, rfl, fun x hx => hc.keep x (h.held_lt ⟨b', C, q2, h2, hx⟩) fun e => ?_⟩
      subst e
      exact q1 (h.sep b' b C B x q2 hb h2 hl hx (.inl ⟨k, hp⟩))
  · obtain ⟨C1, r1, r2, _⟩ := back b1 B1 h1 l1
    obtain ⟨C2, s1, s2, _⟩ := back b2 B2 h2 l2
    exact h.sep b1 b2 C1 C2 x r1 s1 r2 s2 p1 p2
  · obtain ⟨C0, r1, r2, r3⟩ := back b' C h1 h2
    rw [← r3]; exact h.new b' C0 x r1 r2 h3
  · obtain ⟨C0, r1, r2, r3⟩ := back b' C h1 h2
    exact h.out b' C0 x r1 r2 h3
end
end Go.Proofs.Ytpbonfgmiffomaa.Wm
set_option linter.unusedSimpArgs false
set_option linter.unusedVariables false
namespace Go.Proofs.Ytpbonfgmiffomaa.Wm
open Go
inductive Od where
  | tmp (t : Nat)
  | cst (d : D)
  | emp (sz : Nat)
  | gl (g : Nat)
structure Part where
  at_ : Nat
  s : Option Nat
  x : Od
inductive EqK where
  | int
  | bool
  | str
inductive I where
  | mov (x : Od)
  | pick (c a b : Od)
  | ld (s : Option Nat) (x : Od)
  | fad (k : Nat) (x : Od)
  | fld (o : Nat) (s : Option Nat) (x : Od)
  | nchk (x : Od)
  | ext (i : Nat) (x : Od)
  | iad (sz : Nat) (x i : Od)
  | iada (n sz : Nat) (x i : Od)
  | idx (n sz : Nat) (s : Option Nat) (x i : Od)
  | sidx (x i : Od)
  | sli (sz : Nat) (x : Od) (lo hi mx : Option Od)
  | ssl (x : Od) (lo hi : Option Od)
  | bin (op : BinOp) (x y : Od)
  | binb (op : BinOp) (x y : Od)
  | bine (op : BinOp) (x y : Od)
  | bina (op : BinOp) (ks : List EqK) (x y : Od)
  | un (op : UnOp) (x : Od)
  | cvi (k : IntKind) (x : Od)
  | cvs (x : Od)
  | bld (zs : List V) (ps : List Part)
  | mkf (f : FuncId) (cap : List Od)
  | len (x : Od)
  | lens (x : Od)
  | capv (x : Od)
  | lena (n : Nat)
  | mm (mx : Bool) (xs : List Od)
  | isnl (ne : Bool) (x : Od)
  | box (s : Option Nat) (x : Od)
  | alc (zs : List V)
  | bsl (sz : Nat) (zs : List D) (len : Nat) (ps : List Part)
  | msl (sz by_ : Nat) (zs : List D) (l c : Od)
  | st (s : Option Nat) (a x : Od)
  | app (sz by_ : Nat) (s x : Od)
  | cpy (sz : Nat) (d s : Od)
  | call (f : Od) (xs : List Od)
  | own (i : I)
  | bad
  | lds (s : Option Nat) (x : Od)
  | sla (n : Nat) (x : Od)
def aggN (P : Program) (t : TypeId) : Option (Option Nat) := match P.underlying t with
  | some (.struct _) => some (some (P.cellsOf t))
  | some (.array _ _) => some (some (P.cellsOf t))
  | some _ => some none
  | none => none
def elemSz (P : Program) (t : TypeId) : Option Nat := match P.underlying t with
  | some (.slice e) => if P.cellsOf e = 0 then none else some (P.cellsOf e)
  | _ => none
def od (P : Program) (t : TypeId) : Operand → Option Od
  | .tmp t => some (.tmp t)
  | .func f => some (.cst (.fn f []))
  | .global g => some (.gl g)
  | .const (.int k n) => some (.cst (.int k n))
  | .const (.bool b) => some (.cst (.bool b))
  | .const (.string s) => some (.cst (.str s.data.toList))
  | .const (.slice none 0 0) => match elemSz P t with
    | some sz => some (.emp sz)
    | none => none
  | .const .nilIface => some (.cst (.err true))
  | .const (.pointer none) => some (.cst .gone)
  | _ => none
def odL (P : Program) : List TypeId → List Operand → Option (List Od)
  | t :: ts, x :: xs => match od P t x with
    | some y => match odL P ts xs with
      | some ys => some (y :: ys)
      | none => none
    | none => none
  | _, [] => some []
  | [], _ :: _ => none
def fieldOff (P : Program) (t : TypeId) (f : Nat) : Option (Nat × TypeId) := match P.underlying t with
  | some (.struct fs) => match fs[f]? with
    | some fd => if P.cellsOf fd.type = 0 then none else some (fd.offset, fd.type)
    | none => none
  | _ => none
def zeroT (P : Program) : Nat → TypeId → List V
  | 0, _ => [.dead]
  | n + 1, t => match P.underlying t with
    | some (.struct fs) => fs.toList.flatMap fun f => zeroT P n f.type
    | some (.array k e) => (List.replicate k (zeroT P n e)).flatten
    | some (.slice e) => if P.cellsOf e = 0 then [.dead] else [.emp (P.cellsOf e)]
    | some (.int k) => [.val (.int k 0)]
    | some .bool => [.val (.bool false)]
    | some .string => [.val (.str [])]
    | some (.interface ..) => [.val (.err true)]
    | _ => [.dead]
def zOk : V → Value → Bool
  | .val (.int k n), .int k' n' => k == k' && n == n'
  | .val (.bool b), .bool b' => b == b'
  | .val (.str []), .string s => s.data.toList.isEmpty
  | .val (.err true), .nilIface => true
  | .emp _, .slice none 0 0 => true
  | .dead, _ => true
  | _, _ => false
def zOkL : List V → List Value → Bool
  | [], [] => true
  | x :: xs, v :: vs => zOk x v && zOkL xs vs
  | _, _ => false
def zeros (P : Program) (t : TypeId) : Option (List V) := match P.info? t with
  | some i => match i.zero with
    | some z => if zOkL (zeroT P 20 t) z.cells.toList = true then some (zeroT P 20 t) else none
    | none => none
  | none => none
def plainZ : V → Option D
  | .val d => some d
  | .emp sz => some (.sh .fresh sz [])
  | _ => none
def plainZs : List V → Option (List D)
  | [] => some []
  | x :: xs => match plainZ x with
    | some d => match plainZs xs with
      | some ds => some (d :: ds)
      | none => none
    | none => none
def part1 (P : Program) (off : Nat) (t : TypeId) (x : Operand) : Option Part := match aggN P t with
  | some s => match od P t x with
    | some y => if P.cellsOf t = s.getD 1 ∧ P.cellsOf t ≠ 0 then some ⟨off, s, y⟩ else none
    | none => none
  | none => none
def partsS (P : Program) (fs : Array Field) : List (Nat × Operand) → Option (List Part)
  | [] => some []
  | (i, x) :: ps => match fs[i]? with
    | some f => match part1 P f.offset f.type x with
      | some p => match partsS P fs ps with
        | some r => some (p :: r)
        | none => none
      | none => none
    | none => none
def partsA (P : Program) (e : TypeId) : List (Nat × Operand) → Option (List Part)
  | [] => some []
  | (i, x) :: ps => match part1 P i e x with
    | some p => match partsA P e ps with
      | some r => some (p :: r)
      | none => none
    | none => none
def isIface (P : Program) (t : TypeId) : Bool := match P.underlying t with
  | some (.interface ..) => true
  | _ => false
def isNilC : Operand → Bool
  | .const .nilIface => true
  | _ => false
def isBoolT (P : Program) (t : TypeId) : Bool := match P.underlying t with
  | some .bool => true
  | _ => false
def isByteT (P : Program) (t : TypeId) : Bool := match P.underlying t with
  | some (.int .u8) => true
  | _ => false
def eqF (P : Program) (sh : TypeId → Option (List EqK)) : List Field → Nat → Option (List EqK)
  | [], _ => some []
  | f :: fs, o => match sh f.type with
    | some k => if f.offset = o ∧ k.length = P.cellsOf f.type ∧ f.name ≠ "_" then (match eqF P sh fs (o + k.length) with
      | some r => some (k ++ r)
      | none => none) else none
    | none => none
def eqT (P : Program) : Nat → TypeId → Option (List EqK)
  | 0, _ => none
  | n + 1, t => match P.underlying t with
    | some (.int _) => some [.int]
    | some .bool => some [.bool]
    | some .string => some [.str]
    | some (.struct fs) => if P.stoodInHeld t = false then (match eqF P (eqT P n) fs.toList 0 with
      | some k => if k.length = P.cellsOf t then some k else none
      | none => none) else none
    | _ => none
def isSliceT (P : Program) (t : TypeId) : Bool := match P.underlying t with
  | some (.slice _) => true
  | _ => false
def isNilS : Operand → Bool
  | .const (.slice none 0 0) => true
  | _ => false
def isAggT (P : Program) (t : TypeId) : Bool := match P.underlying t with
  | some (.struct _) => true
  | _ => false
def cmpOp : BinOp → Bool
  | .eql => true
  | .neq => true
  | _ => false
def convLen (P : Program) : List TypeId → List Operand → Option I
  | [t], [x] => match od P t x, P.underlying t with
    | some x, some (.slice _) => some (.len x)
    | some x, some .string => some (.lens x)
    | some _, some (.array n _) => some (.lena n)
    | _, _ => none
  | _, _ => none
def convCap (P : Program) : List TypeId → List Operand → Option I
  | [t], [x] => match od P t x, P.underlying t with
    | some x, some (.slice _) => some (.capv x)
    | _, _ => none
  | _, _ => none
def convApp (P : Program) : List TypeId → List Operand → Option I
  | [t, t'], [s, x] => if t = t' then (match P.underlying t with
      | some (.slice e) => match P.info? e, od P t s, od P t x with
        | some i, some s, some x => match i.zero with
          | some z => if z.cells.size = i.size ∧ i.size ≠ 0 then some (.app i.size (max 1 i.bytes) s x) else none
          | none => none
        | _, _, _ => none
      | _ => none) else none
  | _, _ => none
def convCpy (P : Program) : List TypeId → List Operand → Option I
  | [t, t'], [s, x] => if t = t' then (match P.underlying t with
      | some (.slice e) => match od P t s, od P t x with
        | some s, some x => if P.cellsOf e = 0 then none else some (.cpy (P.cellsOf e) s x)
        | _, _ => none
      | _ => none) else none
  | _, _ => none
def conv1 (P : Program) (o : Oper) : Option I := match o.op with
  | .move x => (od P o.type x).map .mov
  | .assign x => (od P o.type x).map .mov
  | .pick c a b => match od P o.type c, od P o.type a, od P o.type b with
    | some c, some a, some b => some (.pick c a b)
    | _, _, _ => none
  | .load t x => match aggN P t, od P t x with
    | some s, some x => if P.cellsOf t = s.getD 1 then some (.ld s x) else none
    | _, _ => none
  | .fieldAddr t x f => match fieldOff P t f, od P t x with
    | some (k, _), some x => some (.fad k x)
    | _, _ => none
  | .field t x f => match fieldOff P t f, od P t x with
    | some (k, u), some x => match aggN P u with
      | some s => if P.cellsOf u = s.getD 1 then some (.fld k s x) else none
      | none => none
    | _, _ => none
  | .nilCheck x => (od P o.type x).map .nchk
  | .extract x i => (od P o.type x).map (.ext i)
  | .indexAddr t x i => match od P t x, od P t i with
    | some x, some i => match P.underlying t with
      | some (.slice e) => if P.cellsOf e = 0 then none else some (.iad (P.cellsOf e) x i)
      | some (.array n e) => if P.cellsOf e = 0 then none else some (.iada n (P.cellsOf e) x i)
      | _ => none
    | _, _ => none
  | .index t x i => match od P t x, od P t i with
    | some x, some i => match P.underlying t with
      | some .string => some (.sidx x i)
      | some (.array n e) => match aggN P e with
        | some s => if P.cellsOf e = s.getD 1 ∧ P.cellsOf e ≠ 0 then some (.idx n (P.cellsOf e) s x i) else none
        | none => none
      | _ => none
    | _, _ => none
  | .slice t x lo hi mx => match od P t x, odL P (lo.toList.map fun _ => t) lo.toList, odL P (hi.toList.map fun _ => t) hi.toList, odL P (mx.toList.map fun _ => t) mx.toList with
    | some x, some lo, some hi, some mx => match P.underlying t with
      | some (.slice e) => if P.cellsOf e = 0 then none else some (.sli (P.cellsOf e) x lo[0]? hi[0]? mx[0]?)
      | some .string => if mx.isEmpty then some (.ssl x lo[0]? hi[0]?) else none
      | some (.array n e) => if (P.cellsOf e = 1 ∧ 0 < n) ∧ lo = [] ∧ hi = [] ∧ mx = [] then some (.sla n x) else none
      | _ => none
    | _, _, _, _ => none
  | .binOp b t x oy _ => match od P t x, od P t oy with
    | some x, some y => if isBoolT P t = true then (if cmpOp b = true then some (.binb b x y) else none)
      else if isIface P t = true then (if (cmpOp b && isNilC oy) = true then some (.bine b x y) else none)
      else if isAggT P t = true then (match eqT P 20 t with
        | some ks => if (cmpOp b && !(P.eqGuardType P.depth t)) = true then some (.bina b ks x y) else none
        | none => none) else if isSliceT P t = true then (if (cmpOp b && isNilS oy) = true then some (.isnl (decide (b = .neq)) x) else none) else some (.bin b x y)
    | _, _ => none
  | .unOp b _ x => (od P o.type x).map (.un b)
  | .convert s d x => match P.underlying s, P.underlying d, od P s x with
    | some (.int _), some (.int k), some x => some (.cvi k x)
    | some (.slice e), some .string, some x => if isByteT P e = true then some (.cvs x) else none
    | _, _, _ => none
  | .build t parts => match zeros P t with
    | some zs => match P.underlying t with
      | some (.struct fs) => if fs.toList.all (fun f => P.cellsOf f.type != 0) = true then (partsS P fs parts.toList).map (.bld zs) else none
      | some (.array _ e) => match partsA P e parts.toList with
        | some ps => if P.cellsOf e ≠ 0 then some (.bld zs (ps.map fun p => ⟨p.at_ * P.cellsOf e, p.s, p.x⟩)) else none
        | none => none
      | _ => none
    | none => none
  | .makeFunc (.func f) first cap => if first = #[] then (odL P (cap.toList.map fun _ => 0) cap.toList).map (.mkf f) else none
  | .call ⟨.builtin b, args, ts⟩ => match b with
    | .len => convLen P ts.toList args.toList
    | .cap => convCap P ts.toList args.toList
    | .max => (odL P ts.toList args.toList).map (.mm true)
    | .min => (odL P ts.toList args.toList).map (.mm false)
    | .append => convApp P ts.toList args.toList
    | .copy => convCpy P ts.toList args.toList
    | _ => none
  | .call ⟨.value f, args, ts⟩ => match od P 0 f, odL P ts.toList args.toList with
    | some f, some xs => some (.call f xs)
    | _, _ => none
  | .box t x => match aggN P t, od P t x with
    | some s, some x => if P.cellsOf t = s.getD 1 then some (.box s x) else none
    | _, _ => none
  | .alloc t => (zeros P t).map .alc
  | .buildSlice t len parts => match P.underlying t with
    | some (.slice e) => match zeros P e, partsA P e parts.toList with
      | some zs, some ps => match plainZs zs with
        | some ds => if len * P.cellsOf e ≤ 16777216 ∧ P.cellsOf e ≠ 0 ∧ ds.length = P.cellsOf e then some (.bsl (P.cellsOf e) ds len ps) else none
        | none => none
      | _, _ => none
    | _ => none
  | .makeSlice t l c => match P.underlying t with
    | some (.slice e) => match zeros P e, od P t l, od P t c, P.info? e with
      | some zs, some l, some c, some i => match plainZs zs with
        | some ds => if P.cellsOf e ≠ 0 ∧ ds.length = P.cellsOf e then some (.msl (P.cellsOf e) i.bytes ds l c) else none
        | none => none
      | _, _, _, _ => none
    | _ => none
  | .store t a x => match aggN P t, od P t a, od P t x with
    | some s, some a, some x => if P.cellsOf t = s.getD 1 ∧ P.cellsOf t ≠ 0 then some (.st s a x) else none
    | _, _, _ => none
  | .panic _ => some .bad
  | .makeInterface .. => some .bad
  | _ => none
structure Cx where
  own : FuncId → List Nat
  fn : FuncId → List D → Option (D × List D)
  gl : Nat → Option (List D)
def oval (gl : Nat → Option (List D)) (env : List (Nat × V)) : Od → V
  | .tmp t => match look t env with
    | some x => x
    | none => .dead
  | .cst d => .val d
  | .emp sz => .emp sz
  | .gl g => match gl g with
    | some cs => .val (.ptr cs)
    | none => .dead
def getI {α : Type} (l : List α) (i : Int) : Option α := if 0 ≤ i then l[i.toNat]? else none
def noOwn : List D → Bool
  | [] => true
  | d :: ds => !(ownD d) && noOwn ds
theorem noOwn_get : ∀ {ds : List D} {i : Nat} {d : D}, noOwn ds = true → ds[i]? = some d → ownD d = false
  | d :: ds, 0, d', h, e => by simp [noOwn] at h; simp at e; subst e; exact h.1
  | d :: ds, i + 1, d', h, e => by simp [noOwn] at h; exact noOwn_get h.2 (by simpa using e)
def noOwnE : List (List D) → Bool
  | [] => true
  | e :: es => noOwn e && noOwnE es
theorem noOwnE_get : ∀ {es : List (List D)} {i : Nat} {e : List D}, noOwnE es = true → es[i]? = some e → noOwn e = true
  | d :: ds, 0, d', h, e => by simp [noOwnE] at h; simp at e; subst e; exact h.1
  | d :: ds, i + 1, d', h, e => by simp [noOwnE] at h; exact noOwnE_get h.2 (by simpa using e)
def loadV (H : Heap) (s : Option Nat) : V → Option V
  | .pt b o => match look b H with
    | some (.var _ cs) => match s with
      | some n => if o + n ≤ cs.length then some (.agg ((cs.drop o).take n)) else none
      | none => cs[o]?
    | _ => none
  | .ep b i o => match look b H with
    | some (.row _ _ els) => match els[i]? with
      | some el => match s with
        | some n => if o + n ≤ el.length ∧ noOwn ((el.drop o).take n) = true then some (.agg (((el.drop o).take n).map .val)) else none
        | none => match el[o]? with
          | some d => if ownD d = true then none else some (.val d)
          | none => none
      | none => none
    | _ => none
  | .val (.ptr cs) => match s with
    | some n => if n ≤ cs.length then some (.agg ((cs.take n).map .val)) else none
    | none => match cs[0]? with
      | some d => some (.val d)
      | none => none
  | _ => none
def fadV (H : Heap) (k : Nat) : V → Option V
  | .pt b o => match look b H with
    | some (.var _ _) => some (.pt b (o + k))
    | _ => none
  | .ep b i o => match look b H with
    | some (.row _ _ _) => some (.ep b i (o + k))
    | _ => none
  | .val (.ptr cs) => if k < cs.length then some (.val (.ptr (cs.drop k))) else none
  | _ => none
def partV (s : Option Nat) (o : Nat) (vs : List V) : Option V := match s with
  | some n => if o + n ≤ vs.length then some (.agg ((vs.drop o).take n)) else none
  | none => vs[o]?
def iadV (H : Heap) (sz : Nat) (x i : V) : Option V := match i with
  | .val (.int _ i) => match x with
    | .sl b o n => match look b H with
      | some (.row _ sz' els) => if sz' = sz then (match getI ((els.drop o).take n) i with
        | some _ => some (.ep b (o + i.toNat) 0)
        | none => none) else none
      | _ => none
    | .val (.sh _ sz' els) => if sz' = sz then (match getI els i with
      | some el => some (.val (.ptr el))
      | none => none) else none
    | _ => none
  | _ => none
def iadaV (H : Heap) (n sz : Nat) (x i : V) : Option V := match i with
  | .val (.int _ i) => if 0 ≤ i ∧ i < (n : Int) then fadV H (i.toNat * sz) x else none
  | _ => none
def aggCells : V → Option (List V)
  | .agg vs => some vs
  | .val (.agg cs) => some (cs.map .val)
  | _ => none
def tupCells : V → Option (List V)
  | .tup vs => some vs
  | .val (.tup cs) => some (cs.map .val)
  | _ => none
def idxV (n sz : Nat) (s : Option Nat) (x i : V) : Option V := match i with
  | .val (.int _ i) => if 0 ≤ i ∧ i < (n : Int) then (match aggCells x with
    | some vs => partV s (i.toNat * sz) vs
    | none => none) else none
  | _ => none
def sidxV (x i : V) : Option V := match i with
  | .val (.int _ i) => match x with
    | .val (.str s) => match getI s i with
      | some b => some (.val (.int .u8 b.toNat))
      | none => none
    | _ => none
  | _ => none
def bnd (n d : Nat) : Option V → Option Nat
  | none => some d
  | some (.val (.int _ i)) => if 0 ≤ i ∧ i ≤ (n : Int) then some i.toNat else none
  | _ => none
def cut (n : Nat) (lo hi : Option V) : Option (Nat × Nat) := match bnd n n hi with
  | some h => match bnd h 0 lo with
    | some l => some (l, h)
    | none => none
  | none => none
def isZ : Option V → Bool
  | some (.val (.int _ 0)) => true
  | _ => false
def sliV (H : Heap) (sz : Nat) (x : V) (lo hi mx : Option V) : Option V := match mx with
  | none => match x with
    | .sl b o n => match look b H with
      | some (.row _ sz' els) => if sz' = sz then (match cut n lo hi with
        | some (l, h) => some (.sl b (o + l) (h - l))
        | none => none) else none
      | _ => none
    | .val (.sh k sz' els) => if sz' = sz then (match cut els.length lo hi with
      | some (l, h) => some (.val (.sh k sz ((els.drop l).take (h - l))))
      | none => none) else none
    | .emp sz' => match cut 0 lo hi with
      | some _ => some (.emp sz')
      | none => none
    | _ => none
  | some m => if lo.isNone && isZ hi && isZ (some m) then (match x with
    | .sl b o n => match look b H with
      | some (.row _ _ _) => some (.emp sz)
      | _ => none
    | .val (.sh _ _ _) => some (.emp sz)
    | .emp _ => some (.emp sz)
    | _ => none) else none
def slaV (n : Nat) : V → Option V
  | .val (.ptr cs) => if cs.length = n then some (.val (.sh .lent 1 (cs.map fun d => [d]))) else none
  | _ => none
def sslV (x : V) (lo hi : Option V) : Option V := match x with
  | .val (.str s) => match cut s.length lo hi with
    | some (l, h) => some (.val (.str ((s.drop l).take (h - l))))
    | none => none
  | _ => none
def intOp (op : BinOp) (k : IntKind) (x y : Int) : Option D := match op with
  | .add => some (.int k (k.wrap (x + y)))
  | .sub => some (.int k (k.wrap (x - y)))
  | .mul => some (.int k (k.wrap (x * y)))
  | .quo => if y = 0 then none else some (.int k (k.wrap (x.tdiv y)))
  | .rem => if y = 0 then none else some (.int k (x.tmod y))
  | .and => some (.int k (k.wrap (BitVec.ofInt k.bits x &&& BitVec.ofInt k.bits y).toNat))
  | .or => some (.int k (k.wrap (BitVec.ofInt k.bits x ||| BitVec.ofInt k.bits y).toNat))
  | .xor => some (.int k (k.wrap (BitVec.ofInt k.bits x ^^^ BitVec.ofInt k.bits y).toNat))
  | .andNot => some (.int k (k.wrap (BitVec.ofInt k.bits x &&& ~~~ BitVec.ofInt k.bits y).toNat))
  | .eql => some (.bool (x == y))
  | .neq => some (.bool (x != y))
  | .lss => some (.bool (decide (x < y)))
  | .leq => some (.bool (decide (x ≤ y)))
  | .gtr => some (.bool (decide (x > y)))
  | .geq => some (.bool (decide (x ≥ y)))
  | _ => none
def shiftOp (op : BinOp) (k : IntKind) (x y : Int) : Option D := if y < 0 then none else match op with
  | .shl => some (.int k (k.wrap (x * 2 ^ (min y.toNat k.bits))))
  | .shr => some (.int k (x.fdiv (2 ^ (min y.toNat k.bits))))
  | _ => none
def strOp (op : BinOp) (a b : List UInt8) : Option D := match op with
  | .eql => some (.bool (a == b))
  | .neq => some (.bool (!(a == b)))
  | .add => if a.length + b.length ≤ 9223372036854775807 then some (.str (a ++ b)) else none
  | _ => none
def binV (op : BinOp) (x y : V) : Option V := match x, y with
  | .val (.int k a), .val (.int k' b) => match op with
    | .shl => (shiftOp .shl k a b).map .val
    | .shr => (shiftOp .shr k a b).map .val
    | op => if k = k' then (intOp op k a b).map .val else none
  | .val (.str a), .val (.str b) => (strOp op a b).map .val
  | _, _ => none
def binbV (op : BinOp) (x y : V) : Option V := match x, y with
  | .val (.bool a), .val (.bool b) => match op with
    | .eql => some (.val (.bool (a == b)))
    | .neq => some (.val (.bool (!(a == b))))
    | _ => none
  | _, _ => none
def bineV (op : BinOp) (x y : V) : Option V := match x, y with
  | .val (.err a), .val (.err true) => match op with
    | .eql => some (.val (.bool a))
    | .neq => some (.val (.bool (!a)))
    | _ => none
  | _, _ => none
def eq1 : EqK → V → V → Option Bool
  | .int, .val (.int k a), .val (.int k' b) => if k = k' then some (a == b) else none
  | .bool, .val (.bool a), .val (.bool b) => some (a == b)
  | .str, .val (.str a), .val (.str b) => some (a == b)
  | _, _, _ => none
def eqC : List EqK → List V → List V → Option Bool
  | [], [], [] => some true
  | k :: ks, x :: xs, y :: ys => match eq1 k x y, eqC ks xs ys with
    | some p, some q => some (p && q)
    | _, _ => none
  | _, _, _ => none
def binaV (op : BinOp) (ks : List EqK) (x y : V) : Option V := match aggCells x, aggCells y with
  | some a, some b => match eqC ks a b, op with
    | some r, .eql => some (.val (.bool r))
    | some r, .neq => some (.val (.bool (!r)))
    | _, _ => none
  | _, _ => none
def unV (op : UnOp) (x : V) : Option V := match op, x with
  | .neg, .val (.int k n) => some (.val (.int k (k.wrap (0 - n))))
  | .not, .val (.bool b) => some (.val (.bool (!b)))
  | .xor, .val (.int k n) => some (.val (.int k (k.wrap (BitVec.ofInt k.bits (if k.signed then -1 else k.max) ^^^ BitVec.ofInt k.bits n).toNat)))
  | _, _ => none
def cviV (k : IntKind) : V → Option V
  | .val (.int _ n) => some (.val (.int k (k.wrap n)))
  | _ => none
def byteOf : List D → Option UInt8
  | [.int .u8 n] => some (UInt8.ofNat n.toNat)
  | _ => none
def bytesOf : List (List D) → Option (List UInt8)
  | [] => some []
  | e :: es => match byteOf e with
    | some b => match bytesOf es with
      | some bs => some (b :: bs)
      | none => none
    | none => none
def elsOf (H : Heap) : V → Option (Nat × List (List D))
  | .sl b o n => match look b H with
    | some (.row _ sz els) => some (sz, (els.drop o).take n)
    | _ => none
  | .val (.sh _ sz els) => some (sz, els)
  | .emp sz => some (sz, [])
  | _ => none
def cvsV (H : Heap) (x : V) : Option V := match elsOf H x with
  | some (sz, els) => match bytesOf els with
    | some s => some (.val (.str s))
    | none => none
  | none => none
def isCell : V → Bool
  | .val (.agg _) => false
  | .val (.tup _) => false
  | .val (.op _ _) => false
  | .val (.ow _ _) => false
  | .val .gone => false
  | .val (.emp _) => false
  | .val (.sh .own _ _) => false
  | .agg _ => false
  | .tup _ => false
  | .dead => false
  | _ => true
def cellsV (s : Option Nat) (x : V) : Option (List V) := match s with
  | some n => match aggCells x with
    | some vs => if vs.length = n then some vs else none
    | none => none
  | none => if isCell x = true then some [x] else none
def fillV (ρ : Od → V) (cells : List V) : List Part → Option (List V)
  | [] => some cells
  | p :: ps => match cellsV p.s (ρ p.x) with
    | some xs => if p.at_ + xs.length ≤ cells.length then fillV ρ (cells.take p.at_ ++ xs ++ cells.drop (p.at_ + xs.length)) ps else none
    | none => none
def lenV (H : Heap) (x : V) : Option V := match x with
  | .sl b _ n => match look b H with
    | some (.row ..) => some (.val (.int .i64 n))
    | _ => none
  | .val (.sh _ _ els) => some (.val (.int .i64 els.length))
  | .emp _ => some (.val (.int .i64 0))
  | _ => none
def lensV : V → Option V
  | .val (.str s) => some (.val (.int .i64 s.length))
  | _ => none
def minMax (mx : Bool) : List V → Option V
  | [] => none
  | x :: xs => match xs with
    | [] => match x with
      | .val (.int _ _) => some x
      | _ => none
    | y :: l => match x, y with
      | .val (.int k a), .val (.int k' b) => minMax mx (.val (.int k (if mx then (if a < b then b else a) else (if b < a then b else a))) :: l)
      | _, _ => none
  termination_by l => l.length
def nilV (H : Heap) (ne : Bool) : V → Option V
  | .emp _ => some .anyb
  | .sl b _ n => match look b H with
    | some (.row _ _ _) => some (if n = 0 then .anyb else .val (.bool ne))
    | _ => none
  | .val (.sh _ _ els) => some (if els.isEmpty = true then .anyb else .val (.bool ne))
  | _ => none
def evq (H : Heap) (ρ : Od → V) : I → Option V
  | .mov x => some (ρ x)
  | .pick c a b => match ρ c with
    | .val (.bool t) => some (if t = true then ρ a else ρ b)
    | _ => none
  | .ld s x => loadV H s (ρ x)
  | .fad k x => fadV H k (ρ x)
  | .fld o s x => match aggCells (ρ x) with
    | some vs => partV s o vs
    | none => none
  | .nchk x => match ρ x with
    | .pt b o => match look b H with
      | some (.var _ _) => some (.pt b o)
      | _ => none
    | .ep b i o => match look b H with
      | some (.row _ _ _) => some (.ep b i o)
      | _ => none
    | .val (.ptr cs) => some (.val (.ptr cs))
    | _ => none
  | .ext i x => match tupCells (ρ x) with
    | some vs => vs[i]?
    | none => none
  | .iad sz x i => iadV H sz (ρ x) (ρ i)
  | .iada n sz x i => iadaV H n sz (ρ x) (ρ i)
  | .idx n sz s x i => idxV n sz s (ρ x) (ρ i)
  | .sidx x i => sidxV (ρ x) (ρ i)
  | .sli sz x lo hi mx => sliV H sz (ρ x) (lo.map ρ) (hi.map ρ) (mx.map ρ)
  | .ssl x lo hi => sslV (ρ x) (lo.map ρ) (hi.map ρ)
  | .sla n x => slaV n (ρ x)
  | .bin op x y => binV op (ρ x) (ρ y)
  | .binb op x y => binbV op (ρ x) (ρ y)
  | .bine op x y => bineV op (ρ x) (ρ y)
  | .bina op ks x y => binaV op ks (ρ x) (ρ y)
  | .un op x => unV op (ρ x)
  | .cvi k x => cviV k (ρ x)
  | .cvs x => cvsV H (ρ x)
  | .bld zs ps => match fillV ρ zs ps with
    | some cs => some (.agg cs)
    | none => none
  | .mkf f cap => some (.fn f (cap.map ρ))
  | .len x => lenV H (ρ x)
  | .lens x => lensV (ρ x)
  | .lena n => some (.val (.int .i64 n))
  | .capv x => match ρ x with
    | .emp _ => some (.val (.int .i64 0))
    | _ => none
  | .mm mx xs => minMax mx (xs.map ρ)
  | .isnl ne x => nilV H ne (ρ x)
  | .lds s x => match ρ x with
    | .val (.ptr cs) => loadV H s (.val (.ptr cs))
    | _ => none
  | _ => none
def heavy : I → Bool
  | .box .. => true
  | .alc .. => true
  | .bsl .. => true
  | .msl .. => true
  | .st .. => true
  | .app .. => true
  | .cpy .. => true
  | .call .. => true
  | .own _ => true
  | _ => false
def I.base : I → I
  | .own (.own i) => i
  | .own i => i
  | .lds s x => .ld s x
  | i => i
end Go.Proofs.Ytpbonfgmiffomaa.Wm
set_option linter.unusedSimpArgs false
set_option linter.unusedVariables false
namespace Go.Proofs.Ytpbonfgmiffomaa.Wm
open Go
def Ext (w w' : World) : Prop := ∀ b, b < w.heap.size → w'.heap[b]? = w.heap[b]?
theorem Ext.refl (w : World) : Ext w w := fun _ _ => rfl
theorem Ext.cell {w w' : World} (h : Ext w w') {a : Addr} {u : Value} (hu : w.cell? a = some u) : w'.cell? a = some u := cell_same (h _ (cell_lt hu)) hu
section
variable {P : Program} {w w' : World}
theorem info_of_underlying {t : TypeId} {d : TypeDesc} (h : P.underlying t = some d) : ∃ i, P.info? t = some i := by
  unfold Program.underlying at h
  cases hi : P.info? t with
  | none => simp [hi] at h
  | some i => exact ⟨i, rfl⟩
theorem info_of_cells {t : TypeId} (h : P.cellsOf t ≠ 0) : ∃ i, P.info? t = some i := by
  unfold Program.cellsOf at h
  cases hi : P.info? t with
  | none => simp [hi] at h
  | some i => exact ⟨i, rfl⟩
theorem r_sizeOf {t : TypeId} (h : ∃ i, P.info? t = some i) : (Go.sizeOf t).run P w = .ok (P.cellsOf t) w := by
  obtain ⟨i, hi⟩ := h
  simp [Go.sizeOf, typeInfo, hi, Program.cellsOf]
theorem aggN_spec {t : TypeId} {s : Option Nat} (h : aggN P t = some s) : (∃ i, P.info? t = some i) ∧ (isAgg t).run P w = .ok s.isSome w ∧ (∀ n, s = some n → n = P.cellsOf t) := by
  unfold aggN at h
  cases hu : P.underlying t with
  | none => simp [hu] at h
  | some d =>
    rw [hu] at h
    refine ⟨info_of_underlying hu, ?_, ?_⟩
    · unfold isAgg
      simp only [Sem.run_bind, run_underlying hu, Result.andThen_ok]
      cases d <;> simp at h <;> subst h <;> simp
    · intro n hn
      cases d <;> simp at h <;> subst h <;> simp at hn <;> exact hn.symm
theorem addr_add (g k j : Nat) : (⟨g, k, none⟩ : Addr).add j = ⟨g, k + j, none⟩ := by
  unfold Addr.add; split <;> simp_all
theorem r_loadVar {t : TypeId} {n g k : Nat} (ha : aggN P t = some (some n)) (us : List Value) (hl : us.length = n) (h : ∀ (j : Nat) (u : Value), us[j]? = some u → w.cell? ⟨g, k + j, none⟩ = some u) :
    (loadVar t ⟨g, k, none⟩).run P w = .ok (.agg us.toArray) w := by
  obtain ⟨h1, h2, h3⟩ := aggN_spec (w := w) ha
  unfold loadVar
  simp only [Sem.run_bind, h2, Result.andThen_ok, Option.isSome_some, if_true, r_sizeOf h1]
  rw [← h3 n rfl, ← hl, run_loadCells_list w ⟨g, k, none⟩ us (fun j u hu => by rw [addr_add]; exact h j u hu)]
  simp
theorem r_loadVar1 {t : TypeId} {g k : Nat} {u : Value} (ha : aggN P t = some none) (h : w.cell? ⟨g, k, none⟩ = some u) :
    (loadVar t ⟨g, k, none⟩).run P w = .ok u w := by
  obtain ⟨h1, h2, h3⟩ := aggN_spec (w := w) ha
  unfold loadVar
  simp [h2, h]
theorem range_map_get {α : Type} {f : Nat → α} {n j : Nat} {u : α} (h : ((List.range n).map f)[j]? = some u) : j < n ∧ u = f j := by
  have hj : j < n := by simpa using (List.getElem?_eq_some_iff.1 h).1
  simp [hj] at h
  exact ⟨hj, h.symm⟩
theorem fieldOff_spec {t : TypeId} {f k : Nat} {u : TypeId} (h : fieldOff P t f = some (k, u)) : ∃ fs fd, P.underlying t = some (.struct fs) ∧ fs[f]? = some fd ∧ P.cellsOf fd.type ≠ 0 ∧ fd.offset = k ∧ fd.type = u := by
  unfold fieldOff at h
  split at h
  · rename_i fs hu
    split at h
    · rename_i fd hf
      split at h
      · simp at h
      · rename_i hz
        simp at h
        exact ⟨fs, fd, hu, hf, hz, h.1, h.2⟩
    · simp at h
  · simp at h
theorem r_fieldAt {t : TypeId} {f k g o : Nat} {u : TypeId} (h : fieldOff P t f = some (k, u)) : (Instr.fieldAt t (.pointer (some ⟨g, o, none⟩)) f).run P w = .ok (.pointer (some ⟨g, o + k, none⟩)) w := by
  obtain ⟨fs, fd, hu, hf, hz, rfl, rfl⟩ := fieldOff_spec h
  unfold Instr.fieldAt
  simp only [Sem.run_bind, run_underlying hu, Result.andThen_ok, hf, Instr.sureAddr, Sem.run_pure, fieldPlace, r_sizeOf (info_of_cells hz), if_neg hz, addr_add]
theorem r_indexAt_sl {t e : TypeId} {k : IntKind} {i : Int} {n c g o : Nat} (hu : P.underlying t = some (.slice e)) (hz : P.cellsOf e ≠ 0) (h0 : 0 ≤ i) (h1 : i < n) :
    (Instr.indexAt t (.slice (some ⟨g, o, none⟩) n c) (.int k i)).run P w = .ok (.pointer (some ⟨g, o + i.toNat * P.cellsOf e, none⟩)) w := by
  unfold Instr.indexAt
  simp [asIntOf, run_underlying hu, h0, h1, r_sizeOf (info_of_cells hz), addr_add]
theorem r_indexAt_arr {t e : TypeId} {k : IntKind} {i : Int} {n g o : Nat} (hu : P.underlying t = some (.array n e)) (hz : P.cellsOf e ≠ 0) (h0 : 0 ≤ i) (h1 : i < n) :
    (Instr.indexAt t (.pointer (some ⟨g, o, none⟩)) (.int k i)).run P w = .ok (.pointer (some ⟨g, o + i.toNat * P.cellsOf e, none⟩)) w := by
  unfold Instr.indexAt
  simp [asIntOf, run_underlying hu, h0, h1, r_sizeOf (info_of_cells hz), addr_add, Instr.sureAddr]
def HiOk (n h : Nat) (hi : Option Value) : Prop := (hi = none ∧ h = n) ∨ ∃ kd i, hi = some (.int kd i) ∧ 0 ≤ i ∧ i ≤ (n : Int) ∧ h = i.toNat
def LoOk (h l : Nat) (lo : Option Value) : Prop := (lo = none ∧ l = 0) ∨ ∃ kd i, lo = some (.int kd i) ∧ 0 ≤ i ∧ i ≤ (h : Int) ∧ l = i.toNat
theorem HiOk.le {n h : Nat} {hi : Option Value} (hh : HiOk n h hi) : h ≤ n := by
  rcases hh with ⟨_, rfl⟩ | ⟨_, i, _, h0, h1, rfl⟩ <;> omega
theorem LoOk.le {l h : Nat} {lo : Option Value} (hl : LoOk h l lo) : l ≤ h := by
  rcases hl with ⟨_, rfl⟩ | ⟨_, i, _, h0, h1, rfl⟩ <;> omega
theorem r_bounds {isS : Bool} {n c h l : Nat} {hi lo : Option Value} (hn : n ≤ c) (hh : HiOk n h hi) (hl : LoOk h l lo) :
    (Instr.sliceBounds isS n c lo hi none).run P w = .ok (l, h, c) w := by
  unfold Instr.sliceBounds
  rcases hh with ⟨rfl, rfl⟩ | ⟨kd, i, rfl, h0, h1, rfl⟩ <;> rcases hl with ⟨rfl, rfl⟩ | ⟨kd', i', rfl, h0', h1', rfl⟩
  · simp
  · simp [Instr.sliceBound, asIntOf, h0', h1']
  · simp [Instr.sliceBound, asIntOf, h0, show i ≤ (c : Int) by omega]
  · simp [Instr.sliceBound, asIntOf, h0, show i ≤ (c : Int) by omega, h0', h1', show i' ≤ max i 0 by omega]
theorem r_slice_sl {t e : TypeId} {A : Option Addr} {n c h l : Nat} {hi lo : Option Value} (hu : P.underlying t = some (.slice e)) (hz : P.cellsOf e ≠ 0) (hn : n ≤ c) (hh : HiOk n h hi) (hl : LoOk h l lo) :
    (Instr.sliceAt t (.slice A n c) lo hi none).run P w = .ok (.slice (if c = l then A else A.map (·.add (l * P.cellsOf e))) (h - l) (c - l)) w := by
  unfold Instr.sliceAt Instr.slice
  simp only [Sem.run_bind, run_underlying hu, Result.andThen_ok, r_bounds (P := P) (w := w) hn hh hl, r_sizeOf (info_of_cells hz), Sem.run_pure]
theorem r_slice_z {t e : TypeId} {A : Option Addr} {n c : Nat} {k1 k2 : IntKind} (hu : P.underlying t = some (.slice e)) (hz : P.cellsOf e ≠ 0) :
    ∃ A', (Instr.sliceAt t (.slice A n c) none (some (.int k1 0)) (some (.int k2 0))).run P w = .ok (.slice A' 0 0) w := by
  refine ⟨A, ?_⟩
  unfold Instr.sliceAt Instr.slice Instr.sliceBounds
  simp [run_underlying hu, Instr.sliceBound, asIntOf, r_sizeOf (info_of_cells hz)]
theorem r_slice_arr {t e : TypeId} {A : Addr} {n : Nat} (hu : P.underlying t = some (.array n e)) (hz : P.cellsOf e ≠ 0) (hn : 0 < n) (hs : A.spot = none) :
    (Instr.sliceAt t (.pointer (some A)) none none none).run P w = .ok (.slice (some A) n n) w := by
  obtain ⟨g, o, sp⟩ := A
  simp only at hs
  subst hs
  unfold Instr.sliceAt Instr.slice Instr.sliceBounds
  simp [run_underlying hu, r_sizeOf (info_of_cells hz), Instr.sureAddr, addr_add, show n ≠ 0 by omega]
theorem r_slice_str {t : TypeId} {s : ByteArray} {h l : Nat} {hi lo : Option Value} (hu : P.underlying t = some .string) (hh : HiOk s.size h hi) (hl : LoOk h l lo) :
    (Instr.sliceAt t (.string s) lo hi none).run P w = .ok (.string (s.extract l h)) w := by
  unfold Instr.sliceAt Instr.slice
  simp [run_underlying hu, r_bounds (P := P) (w := w) (Nat.le_refl s.size) hh hl]
theorem binOp_same {op : BinOp} {k : IntKind} {a b : Int} (hs : op ≠ .shl) (hs' : op ≠ .shr) (t : TypeId) : binOp op t (.int k a) (.int k b) = (match op with
    | .add | .sub | .mul => Op.intArith op k a b
    | .quo | .rem => Op.intDiv op k a b
    | .and | .or | .xor | .andNot => Op.intBits op k a b
    | _ => Op.intCmp op a b) := by
  cases op <;> simp [binOp] at hs hs' ⊢
theorem guard_pure {op : BinOp} {t : TypeId} {x y : Operand} {a b : Value} (h : (match a, b with | .nilIface, .nilIface => False | .agg _, .agg _ => False | _, _ => True)) : (eqGuard op t x y a b).run P w = .ok () w := by
  cases op
  case eql => cases a <;> cases b <;> first | rfl | exact h.elim
  case neq => cases a <;> cases b <;> first | rfl | exact h.elim
  all_goals rfl
theorem r_equal_bool {t : TypeId} {a b : Bool} (hu : P.underlying t = some .bool) : (Op.equal t (.bool a) (.bool b)).run P w = .ok (a == b) w := by
  unfold Op.equal Op.maxDepth Op.equalIn
  simp only [Sem.run_bind, run_underlying hu, Result.andThen_ok]
  rfl
end
end Go.Proofs.Ytpbonfgmiffomaa.Wm
set_option linter.unusedSimpArgs false
set_option linter.unusedVariables false
namespace Go.Proofs.Ytpbonfgmiffomaa.Wm
open Go
section
variable {P : Program} {G : Nat → Option (List D)} {w0 : World} {L X0 : Nat → Prop} {w : World} {tm : Array Value} {fr : Fr} {ρ : Place} {X : K → Nat → Prop} {H : Heap} {Qw : World → Prop}
theorem getI_spec {α : Type} {l : List α} {i : Int} {x : α} (h : getI l i = some x) : 0 ≤ i ∧ i < (l.length : Int) ∧ l[i.toNat]? = some x := by
  unfold getI at h
  split at h
  · rename_i h0
    have := (List.getElem?_eq_some_iff.1 h).1
    exact ⟨h0, by omega, h⟩
  · simp at h
theorem sl_open {b o n : Nat} {v : Value} {ol : Bool} {sz : Nat} {els : List (List D)} (hx : RepE w X H ρ (.sl b o n) v) (hb : look b H = some (.row ol sz els)) :
    o + n ≤ els.length ∧ ∃ A c, v = .slice A n c ∧ n ≤ c ∧ (c = 0 ∨ ∃ g k, ρ b = some (g, k) ∧ A = some ⟨g, k + o * sz, none⟩ ∧ OwnBlk w g (k + o * sz + c * sz)) := by
  cases hx with
  | sl b o n v B hB h => rw [hb] at hB; obtain rfl := Option.some.inj hB; exact h
theorem pt_open {b o : Nat} {v : Value} {ol : Bool} {cs : List V} (hx : RepE w X H ρ (.pt b o) v) (hb : look b H = some (.var ol cs)) : ∃ g k, ρ b = some (g, k) ∧ v = .pointer (some ⟨g, k + o, none⟩) := by
  cases hx with
  | pt b o v B hB h => rw [hb] at hB; obtain rfl := Option.some.inj hB; exact h
theorem ep_open {b i o : Nat} {v : Value} {ol : Bool} {sz : Nat} {els : List (List D)} (hx : RepE w X H ρ (.ep b i o) v) (hb : look b H = some (.row ol sz els)) : ∃ g k, ρ b = some (g, k) ∧ v = .pointer (some ⟨g, k + i * sz + o, none⟩) := by
  cases hx with
  | ep b i o v B hB h => rw [hb] at hB; obtain rfl := Option.some.inj hB; exact h
theorem elsOf_sound (h : FR G w0 L X0 w tm fr ρ) {x : V} {v : Value} {sz : Nat} {els : List (List D)} (hx : RepE w (XX w0 X0 fr.heap ρ) fr.heap ρ x v) (he : elsOf fr.heap x = some (sz, els)) :
    ∃ A c, v = .slice A els.length c ∧ els.length ≤ c ∧ (∀ el ∈ els, el.length = sz) ∧ ∀ (i j : Nat) (el : List D) (d : D), els[i]? = some el → el[j]? = some d →
      ∃ g k u F, A = some ⟨g, k, none⟩ ∧ w.cell? ⟨g, k + i * sz + j, none⟩ = some u ∧ RepC w (XX w0 X0 fr.heap ρ) d u F := by
  cases x with
  | sl b o n =>
    simp only [elsOf] at he
    split at he
    · rename_i ol sz' els' hb
      obtain ⟨rfl, rfl⟩ : sz' = sz ∧ (els'.drop o).take n = els := by simpa using he
      obtain ⟨h1, A, c, rfl, h3, h4⟩ := sl_open hx hb
      have hlen : ((els'.drop o).take n).length = n := by simp; omega
      obtain ⟨φ, hrow⟩ := h.blk b _ hb
      refine ⟨A, c, by rw [hlen], by rw [hlen]; exact h3, fun el hel => hrow.1 el (List.mem_of_mem_drop (List.mem_of_mem_take hel)), fun i j el d hi hj => ?_⟩
      have hin : i < n := by rw [← hlen]; exact (List.getElem?_eq_some_iff.1 hi).1
      rw [List.getElem?_take, if_pos hin, List.getElem?_drop] at hi
      rcases h4 with rfl | ⟨g, k, q1, q2, q3⟩
      · omega
      · obtain ⟨u, r1, r2⟩ := (hrow.2.2.2.2.2 g k q1).2.2 (o + i) j el d hi hj
        refine ⟨g, k + o * sz', u, _, q2, ?_, r2⟩
        rw [Nat.add_mul, ← Nat.add_assoc k] at r1
        exact r1
    · simp at he
  | val d =>
    cases d <;> simp [elsOf] at he
    rename_i k sz' els'
    obtain ⟨rfl, rfl⟩ := he
    cases hx with
    | val d v hx =>
      cases hx with
      | sh k sz els A c vf hk hc hz hm hh =>
        refine ⟨some A, c, rfl, hc, hz, fun i j el d hi hj => ?_⟩
        obtain ⟨a, b, e⟩ := hm i j el d hi hj
        obtain ⟨g, o, sp⟩ := A
        simp only at a; subst a
        exact ⟨g, o, _, _, rfl, e, .ofS (hh i j el d hi hj)⟩
      | shn k sz hk => exact ⟨none, 0, rfl, Nat.le_refl _, by simp, fun i j el d hi => by simp at hi⟩
  | emp sz' =>
    simp only [elsOf, Option.some.injEq, Prod.mk.injEq] at he
    obtain ⟨rfl, rfl⟩ := he
    cases hx with
    | emp sz a => exact ⟨a, 0, rfl, Nat.le_refl _, by simp, fun i j el d hi => by simp at hi⟩
  | _ => simp [elsOf] at he
abbrev Goes (Qw : World → Prop) (P : Program) (s : Sem Value) (u : Value) : Prop := ∀ w', Qw w' → s.run P w' = .ok u w'
theorem rep_agg {vs : List V} (us : Nat → Value) (h : ∀ j x, vs[j]? = some x → RepE w X H ρ x (us j)) :
    RepE w X H ρ (.agg vs) (.agg ((List.range vs.length).map us).toArray) := by
  refine .agg vs _ (by simp) fun i x u hx hu => ?_
  have hi : i < vs.length := (List.getElem?_eq_some_iff.1 hx).1
  simp [hi] at hu
  subst hu
  exact h i x hx
theorem load_cells (hQ : ∀ w', Qw w' → Ext w w') {t : TypeId} {s : Option Nat} (ha : aggN P t = some s) {g k : Nat} {vs : List V} {y : V} (hy : (match s with | some n => if vs.length = n then some (V.agg vs) else none | none => vs[0]?) = some y) (hn : s = none → vs.length = 1)
    (hc : ∀ (j : Nat) (x : V), vs[j]? = some x → ∃ u, w.cell? ⟨g, k + j, none⟩ = some u ∧ RepE w X H ρ x u) : ∃ u, Goes Qw P (Instr.loadAt t (.pointer (some ⟨g, k, none⟩))) u ∧ RepE w X H ρ y u := by
  cases s with
  | none =>
    simp only at hy
    obtain ⟨u, hu, hr⟩ := hc 0 y hy
    refine ⟨u, fun w' hw => ?_, hr⟩
    simp only [Nat.add_zero] at hu
    simp [Instr.loadAt, Instr.sureAddr, r_loadVar1 ha ((hQ _ hw).cell hu)]
  | some n =>
    simp only at hy
    split at hy
    · rename_i hl
      obtain rfl := Option.some.inj hy
      have key : ∀ j, j < vs.length → ∃ u, w.cell? ⟨g, k + j, none⟩ = some u ∧ ∀ x, vs[j]? = some x → RepE w X H ρ x u := fun j hj => by
        obtain ⟨u, hu, hr⟩ := hc j vs[j] (List.getElem?_eq_getElem hj)
        refine ⟨u, hu, fun x hx => ?_⟩
        rw [List.getElem?_eq_getElem hj] at hx
        obtain rfl := Option.some.inj hx
        exact hr
      refine ⟨.agg ((List.range vs.length).map fun j => (w.cell? ⟨g, k + j, none⟩).getD undef).toArray, fun w' hw => ?_, rep_agg _ fun j x hx => ?_⟩
      · simp only [Instr.loadAt, Instr.sureAddr, Sem.run_bind, Sem.run_pure, Result.andThen_ok]
        refine r_loadVar ha _ (by simpa using hl) fun j u hu => ?_
        obtain ⟨hj, rfl⟩ := range_map_get hu
        obtain ⟨u, hu, _⟩ := key j hj
        rw [(hQ _ hw).cell hu, hu]; rfl
      · obtain ⟨u, hu, hr⟩ := key j (List.getElem?_eq_some_iff.1 hx).1
        rw [hu]; exact hr x hx
    · simp at hy
theorem load_cells2 {t : TypeId} {s : Option Nat} (ha : aggN P t = some s) {g k : Nat} {vs : List V} {y : V} (hy : (match s with | some n => if vs.length = n then some (V.agg vs) else none | none => vs[0]?) = some y) (hn : s = none → vs.length = 1)
    (hc : ∀ (j : Nat) (x : V), vs[j]? = some x → ∃ u, w.cell? ⟨g, k + j, none⟩ = some u ∧ (∀ w', Qw w' → w'.cell? ⟨g, k + j, none⟩ = some u) ∧ RepE w X H ρ x u) : ∃ u, Goes Qw P (Instr.loadAt t (.pointer (some ⟨g, k, none⟩))) u ∧ RepE w X H ρ y u := by
  cases s with
  | none =>
    simp only at hy
    obtain ⟨u, _, hu, hr⟩ := hc 0 y hy
    refine ⟨u, fun w' hw => ?_, hr⟩
    simp only [Nat.add_zero] at hu
    simp [Instr.loadAt, Instr.sureAddr, r_loadVar1 ha (hu _ hw)]
  | some n =>
    simp only at hy
    split at hy
    · rename_i hl
      obtain rfl := Option.some.inj hy
      have key : ∀ j, j < vs.length → ∃ u, w.cell? ⟨g, k + j, none⟩ = some u ∧ (∀ w', Qw w' → w'.cell? ⟨g, k + j, none⟩ = some u) ∧ ∀ x, vs[j]? = some x → RepE w X H ρ x u := fun j hj => by
        obtain ⟨u, h0, hu, hr⟩ := hc j vs[j] (List.getElem?_eq_getElem hj)
        refine ⟨u, h0, hu, fun x hx => ?_⟩
        rw [List.getElem?_eq_getElem hj] at hx
        obtain rfl := Option.some.inj hx
        exact hr
      refine ⟨.agg ((List.range vs.length).map fun j => (w.cell? ⟨g, k + j, none⟩).getD undef).toArray, fun w' hw => ?_, rep_agg _ fun j x hx => ?_⟩
      · simp only [Instr.loadAt, Instr.sureAddr, Sem.run_bind, Sem.run_pure, Result.andThen_ok]
        refine r_loadVar ha _ (by simpa using hl) fun j u hu => ?_
        obtain ⟨hj, rfl⟩ := range_map_get hu
        obtain ⟨u, h0, hu, _⟩ := key j hj
        rw [hu _ hw, h0]; rfl
      · obtain ⟨u, h0, hu, hr⟩ := key j (List.getElem?_eq_some_iff.1 hx).1
        rw [h0]; exact hr x hx
    · simp at hy
theorem loadS_sound (hQ : ∀ w', Qw w' → ∀ b, b < w.heap.size → ¬ X .lent b → w'.heap[b]? = w.heap[b]?) {t : TypeId} {s : Option Nat} (ha : aggN P t = some s) {cs : List D} {y : V} {v : Value} (hx : RepE w X H ρ (.val (.ptr cs)) v) (he : loadV H s (.val (.ptr cs)) = some y) :
    ∃ u, Goes Qw P (Instr.loadAt t v) u ∧ RepE w X H ρ y u := by
  simp only [loadV] at he
  cases hx with
  | val d v hx =>
    cases hx with
    | ptr cs A vf hm hh =>
      have cell : ∀ (j : Nat) (d : D), cs[j]? = some d → A.spot = none ∧ ∃ u, w.cell? ⟨A.block, A.off + j, none⟩ = some u ∧ (∀ w', Qw w' → w'.cell? ⟨A.block, A.off + j, none⟩ = some u) ∧ RepE w X H ρ (.val d) u := fun j d hj => by
        obtain ⟨a, b, e⟩ := hm j d hj
        exact ⟨a, _, e, fun w' hw => cell_same (hQ w' hw _ (cell_lt' e) b) e, .val d _ (hh j d hj)⟩
      obtain ⟨g, k, sp⟩ := A
      cases s with
      | none =>
        simp only at he
        split at he
        · rename_i d hd
          obtain rfl := Option.some.inj he
          obtain rfl : sp = none := (cell 0 d hd).1
          refine load_cells2 (s := none) ha (vs := [.val d]) rfl (fun _ => rfl) fun j z hz => ?_
          cases j with
          | zero => simp at hz; subst hz; simpa using (cell 0 d hd).2
          | succ j => simp at hz
        · simp at he
      | some n =>
        simp only at he
        split at he
        · rename_i hl
          obtain rfl := Option.some.inj he
          rcases Nat.eq_zero_or_pos n with rfl | hn
          · have : ∃ u, Goes Qw P (Instr.loadAt t (.pointer (some ⟨g, k, sp⟩))) u ∧ RepE w X H ρ (.agg []) u := by
              refine ⟨.agg #[], fun w' hw => ?_, .agg [] #[] rfl (by simp)⟩
              obtain ⟨h1, h2, h3⟩ := aggN_spec (w := w') ha
              simp only [Instr.loadAt, Instr.sureAddr, Sem.run_bind, Sem.run_pure, Result.andThen_ok]
              unfold loadVar
              simp only [Sem.run_bind, h2, Result.andThen_ok, Option.isSome_some, if_true, r_sizeOf h1, ← h3 0 rfl]
              simp [loadCells, loadCellsFrom]
            simpa using this
          · obtain rfl : sp = none := (cell 0 cs[0] (List.getElem?_eq_getElem (by omega))).1
            refine load_cells2 (s := some n) ha (vs := (cs.take n).map .val) (by simp; omega) (by simp) fun j z hz => ?_
            rw [List.getElem?_map, Option.map_eq_some_iff] at hz
            obtain ⟨d, hd, rfl⟩ := hz
            rw [List.getElem?_take] at hd
            split at hd
            · exact (cell j d hd).2
            · simp at hd
        · simp at he
theorem loadV_sound (hQ : ∀ w', Qw w' → Ext w w') (h : FR G w0 L X0 w tm fr ρ) {t : TypeId} {s : Option Nat} (ha : aggN P t = some s) {x y : V} {v : Value} (hx : RepE w (XX w0 X0 fr.heap ρ) fr.heap ρ x v) (he : loadV fr.heap s x = some y) :
    ∃ u, Goes Qw P (Instr.loadAt t v) u ∧ RepE w (XX w0 X0 fr.heap ρ) fr.heap ρ y u := by
  cases x with
  | pt b o =>
    simp only [loadV] at he
    split at he
    · rename_i ol cs hb
      obtain ⟨g, k, q1, rfl⟩ := pt_open hx hb
      obtain ⟨_, g', k', p1, _, p3⟩ := h.blk b _ hb
      rw [q1] at p1; obtain ⟨rfl, rfl⟩ : g = g' ∧ k = k' := by simpa using p1
      cases s with
      | none =>
        simp only at he
        refine load_cells hQ (s := none) ha (vs := [y]) rfl (fun _ => rfl) fun j z hz => ?_
        cases j with
        | zero => simp at hz; subst hz; simpa using p3 o y he
        | succ j => simp at hz
      | some n =>
        simp only at he
        split at he
        · rename_i hl
          obtain rfl := Option.some.inj he
          refine load_cells hQ (s := some n) ha (vs := (cs.drop o).take n) (by simp; omega) (by simp) fun j z hz => ?_
          rw [List.getElem?_take] at hz
          split at hz
          · rw [List.getElem?_drop] at hz
            have := p3 (o + j) z hz
            rwa [← Nat.add_assoc] at this
          · simp at hz
        · simp at he
    · simp at he
  | ep b i o =>
    simp only [loadV] at he
    split at he
    · rename_i ol sz els hb
      split at he
      · rename_i el hel
        obtain ⟨g, k, q1, rfl⟩ := ep_open hx hb
        obtain ⟨φ, hrow⟩ := h.blk b _ hb
        obtain ⟨_, _, p2⟩ := hrow.2.2.2.2.2 g k q1
        have cell : ∀ (j : Nat) (d : D), el[j]? = some d → ownD d = false → ∃ u, w.cell? ⟨g, k + i * sz + j, none⟩ = some u ∧ RepE w (XX w0 X0 fr.heap ρ) fr.heap ρ (.val d) u := fun j d hj hd => by
          obtain ⟨u, r1, r2⟩ := p2 i j el d hel hj
          exact ⟨u, r1, .val d u (r2.toS hd)⟩
        cases s with
        | none =>
          simp only at he
          split at he
          · rename_i d hd
            split at he
            · simp at he
            · rename_i hnd
              obtain rfl := Option.some.inj he
              refine load_cells hQ (s := none) ha (vs := [.val d]) rfl (fun _ => rfl) fun j z hz => ?_
              cases j with
              | zero => simp at hz; subst hz; simpa using cell o d hd (by simpa using hnd)
              | succ j => simp at hz
          · simp at he
        | some n =>
          simp only at he
          split at he
          · rename_i hl
            obtain rfl := Option.some.inj he
            obtain ⟨hl, hno⟩ := hl
            refine load_cells hQ (s := some n) ha (vs := ((el.drop o).take n).map .val) (by simp; omega) (by simp) fun j z hz => ?_
            rw [List.getElem?_map, Option.map_eq_some_iff] at hz
            obtain ⟨d, hd, rfl⟩ := hz
            have hnd := noOwn_get hno hd
            rw [List.getElem?_take] at hd
            split at hd
            · rw [List.getElem?_drop] at hd
              have := cell (o + j) d hd hnd
              rwa [← Nat.add_assoc] at this
            · simp at hd
          · simp at he
      · simp at he
    · simp at he
  | val d =>
    cases d <;> simp [loadV] at he
    rename_i cs
    cases hx with
    | val d v hx =>
      cases hx with
      | ptr cs A vf hm hh =>
        have cell : ∀ (j : Nat) (d : D), cs[j]? = some d → A.spot = none ∧ ∃ u, w.cell? ⟨A.block, A.off + j, none⟩ = some u ∧ RepE w (XX w0 X0 fr.heap ρ) fr.heap ρ (.val d) u := fun j d hj => by
          obtain ⟨a, b, e⟩ := hm j d hj
          exact ⟨a, _, e, .val d _ (hh j d hj)⟩
        obtain ⟨g, k, sp⟩ := A
        cases s with
        | none =>
          simp only at he
          split at he
          · rename_i d hd
            obtain rfl := Option.some.inj he
            obtain rfl : sp = none := (cell 0 d hd).1
            refine load_cells hQ (s := none) ha (vs := [.val d]) rfl (fun _ => rfl) fun j z hz => ?_
            cases j with
            | zero => simp at hz; subst hz; simpa using (cell 0 d hd).2
            | succ j => simp at hz
          · simp at he
        | some n =>
          simp only at he
          split at he
          · rename_i hl
            obtain rfl := Option.some.inj he
            rcases Nat.eq_zero_or_pos n with rfl | hn
            · -- a struct without cells
              have : ∃ u, Goes Qw P (Instr.loadAt t (.pointer (some ⟨g, k, sp⟩))) u ∧ RepE w (XX w0 X0 fr.heap ρ) fr.heap ρ (.agg []) u := by
                refine ⟨.agg #[], fun w' hw => ?_, .agg [] #[] rfl (by simp)⟩
                obtain ⟨h1, h2, h3⟩ := aggN_spec (w := w') ha
                simp only [Instr.loadAt, Instr.sureAddr, Sem.run_bind, Sem.run_pure, Result.andThen_ok]
                unfold loadVar
                simp only [Sem.run_bind, h2, Result.andThen_ok, Option.isSome_some, if_true, r_sizeOf h1, ← h3 0 rfl]
                simp [loadCells, loadCellsFrom]
              simpa using this
            · obtain rfl : sp = none := (cell 0 cs[0] (List.getElem?_eq_getElem (by omega))).1
              refine load_cells hQ (s := some n) ha (vs := (cs.take n).map .val) (by simp; omega) (by simp) fun j z hz => ?_
              rw [List.getElem?_map, Option.map_eq_some_iff] at hz
              obtain ⟨d, hd, rfl⟩ := hz
              rw [List.getElem?_take] at hd
              split at hd
              · exact (cell j d hd).2
              · simp at hd
          · simp at he
  | _ => simp [loadV] at he
theorem ptr_drop {cs : List D} {A : Addr} (k : Nat) (hc : cs.drop k ≠ []) (h : RepS w X (.ptr cs) (.pointer (some A))) : A.spot = none ∧ RepS w X (.ptr (cs.drop k)) (.pointer (some ⟨A.block, A.off + k, none⟩)) := by
  cases h with
  | ptr cs A vf hm hh =>
    have hlt : k < cs.length := by
      rcases Nat.lt_or_ge k cs.length with h | h
      · exact h
      · exact absurd (List.drop_eq_nil_of_le h) hc
    refine ⟨(hm k cs[k] (List.getElem?_eq_getElem hlt)).1, .ptr _ _ (fun j => vf (k + j)) (fun j d hj => ?_) fun j d hj => ?_⟩
    · rw [List.getElem?_drop] at hj
      obtain ⟨a, b, e⟩ := hm _ d hj
      exact ⟨rfl, b, by rw [Nat.add_assoc]; exact e⟩
    · rw [List.getElem?_drop] at hj
      exact hh _ d hj
end
end Go.Proofs.Ytpbonfgmiffomaa.Wm
set_option linter.unusedSimpArgs false
set_option linter.unusedVariables false
namespace Go.Proofs.Ytpbonfgmiffomaa.Wm
open Go
section
variable {P : Program} {G : Nat → Option (List D)} {w0 : World} {L X0 : Nat → Prop} {w : World} {tm : Array Value} {fr : Fr} {ρ : Place} {X : K → Nat → Prop} {H : Heap} {Qw : World → Prop}
theorem fadV_open {k : Nat} {x y : V} {v : Value} (hx : RepE w X H ρ x v) (he : fadV H k x = some y) : ∃ g o, v = .pointer (some ⟨g, o, none⟩) ∧ RepE w X H ρ y (.pointer (some ⟨g, o + k, none⟩)) := by
  cases x with
  | pt b o =>
    simp only [fadV] at he
    split at he
    · rename_i ol cs hb
      obtain rfl := Option.some.inj he
      obtain ⟨g, k', q1, rfl⟩ := pt_open hx hb
      exact ⟨_, _, rfl, .pt b _ _ _ hb ⟨g, k', q1, by rw [Nat.add_assoc]⟩⟩
    · simp at he
  | ep b i o =>
    simp only [fadV] at he
    split at he
    · rename_i ol sz els hb
      obtain rfl := Option.some.inj he
      obtain ⟨g, k', q1, rfl⟩ := ep_open hx hb
      exact ⟨_, _, rfl, .ep b i _ _ _ hb ⟨g, k', q1, by rw [Nat.add_assoc]⟩⟩
    · simp at he
  | val d =>
    cases d <;> simp [fadV] at he
    rename_i cs
    obtain ⟨hk, rfl⟩ := he
    cases hx with
    | val d v hx =>
      cases hx with
      | ptr cs A vf hm hh =>
        obtain ⟨q1, q2⟩ := ptr_drop k (by intro e; rw [List.drop_eq_nil_iff] at e; omega) (.ptr cs A vf hm hh)
        obtain ⟨g, o, sp⟩ := A
        simp only at q1; subst q1
        exact ⟨g, o, rfl, .val _ _ q2⟩
  | _ => simp [fadV] at he
theorem aggCells_sound {x : V} {v : Value} {vs : List V} (hx : RepE w X H ρ x v) (he : aggCells x = some vs) : ∃ us : Array Value, v = .agg us ∧ us.size = vs.length ∧ ∀ (i : Nat) (x : V) (u : Value), vs[i]? = some x → us[i]? = some u → RepE w X H ρ x u := by
  cases x with
  | agg l =>
    obtain rfl : l = vs := by simpa [aggCells] using he
    cases hx with
    | agg vs us hs h => exact ⟨us, rfl, hs, h⟩
  | val d =>
    cases d <;> simp [aggCells] at he
    subst he
    cases hx with
    | val d v hx =>
      cases hx with
      | agg cs us hs h =>
        refine ⟨us, rfl, by simpa using hs, fun i x u hx hu => ?_⟩
        rw [List.getElem?_map, Option.map_eq_some_iff] at hx
        obtain ⟨d, hd, rfl⟩ := hx
        exact .val _ _ (h i d u hd hu)
  | _ => simp [aggCells] at he
theorem tupCells_sound {x : V} {v : Value} {vs : List V} (hx : RepE w X H ρ x v) (he : tupCells x = some vs) : ∃ us : Array Value, v = .tuple us ∧ us.size = vs.length ∧ ∀ (i : Nat) (x : V) (u : Value), vs[i]? = some x → us[i]? = some u → RepE w X H ρ x u := by
  cases x with
  | tup l =>
    obtain rfl : l = vs := by simpa [tupCells] using he
    cases hx with
    | tup vs us hs h => exact ⟨us, rfl, hs, h⟩
  | val d =>
    cases d <;> simp [tupCells] at he
    subst he
    cases hx with
    | val d v hx =>
      cases hx with
      | tup cs us hs h =>
        refine ⟨us, rfl, by simpa using hs, fun i x u hx hu => ?_⟩
        rw [List.getElem?_map, Option.map_eq_some_iff] at hx
        obtain ⟨d, hd, rfl⟩ := hx
        exact .val _ _ (h i d u hd hu)
  | _ => simp [tupCells] at he
theorem partV_sound {t : TypeId} {s : Option Nat} {vs : List V} {us : Array Value} {o : Nat} {y : V} (ha : aggN P t = some s) (hs : us.size = vs.length) (hc : ∀ (i : Nat) (x : V) (u : Value), vs[i]? = some x → us[i]? = some u → RepE w X H ρ x u)
    (he : partV s o vs = some y) : ∃ u, Goes Qw P (part t us o) u ∧ RepE w X H ρ y u := by
  cases s with
  | some n =>
    simp only [partV] at he
    split at he
    · rename_i hle
      obtain rfl := Option.some.inj he
      refine ⟨_, fun w' _ => ?_, .agg _ (us.extract o (o + n)) ?_ fun i x u hx hu => ?_⟩
      · obtain ⟨h1, h2, h3⟩ := aggN_spec (w := w') ha
        unfold part
        rw [h3 n rfl]
        simp [h2, r_sizeOf h1]
      · simp [hs]; omega
      · rw [List.getElem?_take] at hx
        split at hx
        · rename_i hi
          rw [List.getElem?_drop] at hx
          refine hc (o + i) x u hx ?_
          rw [Array.getElem?_extract] at hu
          split at hu
          · exact hu
          · simp at hu
        · simp at hx
    · simp at he
  | none =>
    simp only [partV] at he
    have ho : o < us.size := by rw [hs]; exact (List.getElem?_eq_some_iff.1 he).1
    refine ⟨us[o], fun w' _ => ?_, hc o y us[o] he (by simp [ho])⟩
    obtain ⟨h1, h2, h3⟩ := aggN_spec (w := w') ha
    unfold part
    simp [h2, ho]
theorem fld_sound {t u : TypeId} {f k : Nat} {s : Option Nat} {x y : V} {v : Value} (hf : fieldOff P t f = some (k, u)) (ha : aggN P u = some s) (hx : RepE w X H ρ x v)
    (he : (match aggCells x with | some vs => partV s k vs | none => none) = some y) : ∃ z, Goes Qw P (Instr.field t v f) z ∧ RepE w X H ρ y z := by
  split at he
  · rename_i vs hv
    obtain ⟨us, rfl, hs, hc⟩ := aggCells_sound hx hv
    obtain ⟨fs, fd, hu, hg, hz, rfl, rfl⟩ := fieldOff_spec hf
    obtain ⟨z, hz1, hz2⟩ := partV_sound (Qw := Qw) ha hs hc he
    exact ⟨z, fun w' hw => by simp [Instr.field, run_underlying hu, hg, asAgg, hz1 w' hw], hz2⟩
  · simp at he
theorem ext_sound {i : Nat} {x y : V} {v : Value} (hx : RepE w X H ρ x v) (he : (match tupCells x with | some vs => vs[i]? | none => none) = some y) :
    ∃ u, Goes Qw P (Instr.extract v i) u ∧ RepE w X H ρ y u := by
  split at he
  · rename_i vs hv
    obtain ⟨us, rfl, hs, hc⟩ := tupCells_sound hx hv
    have ho : i < us.size := by rw [hs]; exact (List.getElem?_eq_some_iff.1 he).1
    exact ⟨us[i], fun _ _ => by simp [Instr.extract, ho], hc i y us[i] he (by simp [ho])⟩
  · simp at he
theorem rep_int {k : IntKind} {n : Int} {v : Value} (h : RepE w X H ρ (.val (.int k n)) v) : v = .int k n := by
  cases h with
  | val d v h => cases h; rfl
theorem rep_bool {b : Bool} {v : Value} (h : RepE w X H ρ (.val (.bool b)) v) : v = .bool b := by
  cases h with
  | val d v h => cases h; rfl
theorem rep_str {s : List UInt8} {v : Value} (h : RepE w X H ρ (.val (.str s)) v) : v = .string ⟨s.toArray⟩ := by
  cases h with
  | val d v h => cases h; rfl
theorem mk_int (k : IntKind) (n : Int) : RepE w X H ρ (.val (.int k n)) (.int k n) := .val _ _ (.int k n)
theorem mk_bool (b : Bool) : RepE w X H ρ (.val (.bool b)) (.bool b) := .val _ _ (.bool b)
theorem mk_str (s : List UInt8) : RepE w X H ρ (.val (.str s)) (.string ⟨s.toArray⟩) := .val _ _ (.str s)
theorem XX_kind {k : K} {g : Nat} (hx : XX w0 X0 H ρ .lent g) : XX w0 X0 H ρ k g := by
  rcases hx with hx | ⟨hx, _⟩ | hx
  · exact .inl hx
  · simp at hx
  · exact .inr (.inr hx)
theorem iadV_sound (h : FR G w0 L X0 w tm fr ρ) {t e : TypeId} (hu : P.underlying t = some (.slice e)) (hz : P.cellsOf e ≠ 0) {x i y : V} {v vi : Value} (hx : RepE w (XX w0 X0 fr.heap ρ) fr.heap ρ x v)
    (hi : RepE w (XX w0 X0 fr.heap ρ) fr.heap ρ i vi) (he : iadV fr.heap (P.cellsOf e) x i = some y) : ∃ u, Goes Qw P (Instr.indexAt t v vi) u ∧ RepE w (XX w0 X0 fr.heap ρ) fr.heap ρ y u := by
  unfold iadV at he
  split at he
  · rename_i k i
    obtain rfl := rep_int hi
    split at he
    · rename_i b o n
      split at he
      · rename_i ol sz' els hb
        split at he
        · rename_i hs
          subst hs
          split at he
          · rename_i el hg
            obtain rfl := Option.some.inj he
            obtain ⟨g1, g2, g3⟩ := getI_spec hg
            obtain ⟨q1, A, c, rfl, q3, q4⟩ := sl_open hx hb
            have hn : i < (n : Int) := by
              have : ((els.drop o).take n).length = n := by simp; omega
              omega
            rcases q4 with rfl | ⟨g, k', r1, rfl, r3⟩
            · omega
            · refine ⟨_, fun _ _ => r_indexAt_sl hu hz g1 hn, .ep b _ 0 _ _ hb ⟨g, k', r1, ?_⟩⟩
              rw [Nat.add_mul]; simp [Nat.add_assoc]
          · simp at he
        · simp at he
      · simp at he
    · rename_i k' sz' els
      split at he
      · rename_i hs
        subst hs
        split at he
        · rename_i el hg
          obtain rfl := Option.some.inj he
          obtain ⟨g1, g2, g3⟩ := getI_spec hg
          cases hx with
          | val d v hx =>
            cases hx with
            | sh k sz els A c vf hk hc hzz hm hh =>
              have hpos : 0 < el.length := by rw [hzz el (List.mem_of_getElem? g3)]; omega
              obtain ⟨a, b, q⟩ := hm i.toNat 0 el el[0] g3 (List.getElem?_eq_getElem hpos)
              obtain ⟨g, o, sp⟩ := A
              simp only at a; subst a
              refine ⟨_, fun _ _ => r_indexAt_sl hu hz g1 g2, .val _ _ (.ptr el _ (vf i.toNat) (fun j d hj => ?_) fun j d hj => hh _ j el d g3 hj)⟩
              obtain ⟨a', b', q'⟩ := hm i.toNat j el d g3 hj
              exact ⟨rfl, fun hx => b' (XX_kind hx), q'⟩
            | shn k sz hk => exact absurd (List.mem_of_getElem? g3) (by simp)
        · simp at he
      · simp at he
    · simp at he
  · simp at he
end
end Go.Proofs.Ytpbonfgmiffomaa.Wm
set_option linter.unusedSimpArgs false
set_option linter.unusedVariables false
namespace Go.Proofs.Ytpbonfgmiffomaa.Wm
open Go
section
variable {P : Program} {G : Nat → Option (List D)} {w0 : World} {L X0 : Nat → Prop} {w : World} {tm : Array Value} {fr : Fr} {ρ : Place} {X : K → Nat → Prop} {H : Heap} {Qw : World → Prop}
theorem iadaV_sound {t e : TypeId} {n : Nat} (hu : P.underlying t = some (.array n e)) (hz : P.cellsOf e ≠ 0) {x i y : V} {v vi : Value} (hx : RepE w X H ρ x v) (hi : RepE w X H ρ i vi) (he : iadaV H n (P.cellsOf e) x i = some y) :
    ∃ u, Goes Qw P (Instr.indexAt t v vi) u ∧ RepE w X H ρ y u := by
  unfold iadaV at he
  split at he
  · rename_i k i
    obtain rfl := rep_int hi
    split at he
    · rename_i hb
      obtain ⟨g, o, rfl, hr⟩ := fadV_open hx he
      exact ⟨_, fun _ _ => r_indexAt_arr hu hz hb.1 hb.2, hr⟩
    · simp at he
  · simp at he
theorem idxV_sound {t e : TypeId} {n : Nat} {s : Option Nat} (hu : P.underlying t = some (.array n e)) (hz : P.cellsOf e ≠ 0) (ha : aggN P e = some s) {x i y : V} {v vi : Value} (hx : RepE w X H ρ x v) (hi : RepE w X H ρ i vi)
    (he : idxV n (P.cellsOf e) s x i = some y) : ∃ u, Goes Qw P (Instr.index t v vi) u ∧ RepE w X H ρ y u := by
  unfold idxV at he
  split at he
  · rename_i k i
    obtain rfl := rep_int hi
    split at he
    · rename_i hb
      split at he
      · rename_i vs hv
        obtain ⟨us, rfl, hs, hc⟩ := aggCells_sound hx hv
        obtain ⟨u, hu', hr⟩ := partV_sound (Qw := Qw) ha hs hc he
        exact ⟨u, fun w' hw => by unfold Instr.index; simp [asIntOf, run_underlying hu, hb.1, hb.2, r_sizeOf (info_of_cells hz), hu' w' hw], hr⟩
      · simp at he
    · simp at he
  · simp at he
theorem sidxV_sound {t : TypeId} (hu : P.underlying t = some .string) {x i y : V} {v vi : Value} (hx : RepE w X H ρ x v) (hi : RepE w X H ρ i vi) (he : sidxV x i = some y) : ∃ u, Goes Qw P (Instr.index t v vi) u ∧ RepE w X H ρ y u := by
  unfold sidxV at he
  split at he
  · rename_i k i
    obtain rfl := rep_int hi
    split at he
    · rename_i s
      obtain rfl := rep_str hx
      split at he
      · rename_i b hb
        obtain rfl := Option.some.inj he
        obtain ⟨g1, g2, g3⟩ := getI_spec hb
        refine ⟨.int .u8 b.toNat, fun w' _ => ?_, mk_int _ _⟩
        have hq : (if 0 ≤ i then (⟨s.toArray⟩ : ByteArray)[i.toNat]? else none) = some b := by
          rw [if_pos g1]
          have hlt : i.toNat < s.length := (List.getElem?_eq_some_iff.1 g3).1
          have : (⟨s.toArray⟩ : ByteArray)[i.toNat]? = s[i.toNat]? := by
            have hs : (⟨s.toArray⟩ : ByteArray).size = s.length := by simp [ByteArray.size]
            rw [getElem?_pos (⟨s.toArray⟩ : ByteArray) i.toNat (by rw [hs]; exact hlt), List.getElem?_eq_getElem hlt]
            rfl
          rw [this]; exact g3
        unfold Instr.index
        simp only [asIntOf, Sem.run_bind, Sem.run_pure, Result.andThen_ok, run_underlying hu, hq]
      · simp at he
    · simp at he
  · simp at he
theorem bnd_spec {n d k : Nat} {b : Option V} {bv : Option Value} (hb : ∀ x, b = some x → ∃ u, bv = some u ∧ RepE w X H ρ x u) (hn : b = none → bv = none) (h : bnd n d b = some k) :
    (bv = none ∧ k = d) ∨ ∃ kd i, bv = some (.int kd i) ∧ 0 ≤ i ∧ i ≤ (n : Int) ∧ k = i.toNat := by
  unfold bnd at h
  split at h
  · exact .inl ⟨hn rfl, (Option.some.inj h).symm⟩
  · rename_i kd i
    obtain ⟨u, hu, hx⟩ := hb _ rfl
    split at h
    · rename_i hc
      exact .inr ⟨kd, i, by rw [hu, rep_int hx], hc.1, hc.2, (Option.some.inj h).symm⟩
    · simp at h
  · simp at h
theorem cut_spec {n : Nat} {hi lo : Option V} {hv lv : Option Value} {l h : Nat}
    (hhi : ∀ x, hi = some x → ∃ u, hv = some u ∧ RepE w X H ρ x u) (hhn : hi = none → hv = none) (hlo : ∀ x, lo = some x → ∃ u, lv = some u ∧ RepE w X H ρ x u) (hln : lo = none → lv = none)
    (hc : cut n lo hi = some (l, h)) : HiOk n h hv ∧ LoOk h l lv := by
  unfold cut at hc
  split at hc
  · rename_i h' h1
    split at hc
    · rename_i l' h2
      obtain ⟨rfl, rfl⟩ : l' = l ∧ h' = h := by simpa using hc
      exact ⟨bnd_spec hhi hhn h1, bnd_spec hlo hln h2⟩
    · simp at hc
  · simp at hc
theorem slice_zero {A : Option Addr} {n c l : Nat} {s : Nat} (hn : n ≤ c) : ∃ A', (Value.slice (if c = l then A else A.map (·.add s)) n c) = .slice A' n c := ⟨_, rfl⟩
theorem sliV_sound (h : FR G w0 L X0 w tm fr ρ) {t e : TypeId} (hu : P.underlying t = some (.slice e)) (hz : P.cellsOf e ≠ 0) {x y : V} {v : Value} {hi lo mx : Option V} {hv lv mv : Option Value} (hx : RepE w (XX w0 X0 fr.heap ρ) fr.heap ρ x v)
    (hhi : ∀ x, hi = some x → ∃ u, hv = some u ∧ RepE w (XX w0 X0 fr.heap ρ) fr.heap ρ x u) (hhn : hi = none → hv = none)
    (hlo : ∀ x, lo = some x → ∃ u, lv = some u ∧ RepE w (XX w0 X0 fr.heap ρ) fr.heap ρ x u) (hln : lo = none → lv = none)
    (hmo : ∀ x, mx = some x → ∃ u, mv = some u ∧ RepE w (XX w0 X0 fr.heap ρ) fr.heap ρ x u) (hmn : mx = none → mv = none)
    (he : sliV fr.heap (P.cellsOf e) x lo hi mx = some y) : ∃ u, Goes Qw P (Instr.sliceAt t v lv hv mv) u ∧ RepE w (XX w0 X0 fr.heap ρ) fr.heap ρ y u := by
  unfold sliV at he
  split at he
  · obtain rfl := hmn rfl
    split at he
    · rename_i b o n
      split at he
      · rename_i ol sz' els hb
        split at he
        · rename_i hs
          subst hs
          split at he
          · rename_i l hh hcut
            obtain rfl := Option.some.inj he
            obtain ⟨c1, c2⟩ := cut_spec hhi hhn hlo hln hcut
            obtain ⟨q1, A, c, rfl, q3, q4⟩ := sl_open hx hb
            have l1 := c1.le
            have l2 := c2.le
            refine ⟨_, fun _ _ => r_slice_sl hu hz q3 c1 c2, .sl b _ _ _ _ hb ⟨by omega, _, _, rfl, by omega, ?_⟩⟩
            by_cases hcl : c = l
            · left; omega
            · rcases q4 with rfl | ⟨g, k, r1, rfl, r3⟩
              · left; omega
              · right
                refine ⟨g, k, r1, ?_, r3.le ?_⟩
                · simp only [if_neg hcl, Option.map_some, addr_add]
                  rw [Nat.add_mul]; simp [Nat.add_assoc]
                · have : (o + l) * P.cellsOf e + (c - l) * P.cellsOf e = o * P.cellsOf e + c * P.cellsOf e := by
                    rw [← Nat.add_mul, ← Nat.add_mul]; congr 1; omega
                  omega
          · simp at he
        · simp at he
      · simp at he
    · rename_i k sz' els
      split at he
      · rename_i hs
        subst hs
        split at he
        · rename_i l hh hcut
          obtain rfl := Option.some.inj he
          obtain ⟨c1, c2⟩ := cut_spec hhi hhn hlo hln hcut
          have l1 := c1.le
          have l2 := c2.le
          have hlen : ((els.drop l).take (hh - l)).length = hh - l := by simp; omega
          cases hx with
          | val d v hx =>
            cases hx with
            | sh k sz els A c vf hk hc hzz hm hr =>
              refine ⟨_, fun _ _ => r_slice_sl hu hz hc c1 c2, ?_⟩
              by_cases hcl : c = l
              · have h0 : hh - l = 0 := by omega
                have hc0 : c - l = 0 := by omega
                have e0 : (els.drop l).take (hh - l) = [] := by rw [h0]; simp
                rw [e0, h0, hc0, if_pos hcl]
                exact .val _ _ (.sh k _ [] A 0 (fun _ _ => undef) hk (by simp) (by simp) (fun i j el d q => by simp at q) fun i j el d q => by simp at q)
              · rw [if_neg hcl]
                have key : ∀ (i j : Nat) (el : List D) (d : D), ((els.drop l).take (hh - l))[i]? = some el → el[j]? = some d → els[l + i]? = some el := fun i j el d q _ => by
                  rw [List.getElem?_take] at q
                  split at q
                  · rwa [List.getElem?_drop] at q
                  · simp at q
                have goal : RepS w (XX w0 X0 fr.heap ρ) (.sh k (P.cellsOf e) ((els.drop l).take (hh - l))) (.slice (some (A.add (l * P.cellsOf e))) ((els.drop l).take (hh - l)).length (c - l)) := by
                  refine .sh k _ _ _ _ (fun i j => vf (l + i) j) hk (by omega) (fun el hel => hzz el (List.mem_of_mem_drop (List.mem_of_mem_take hel))) (fun i j el d q1 q2 => ?_) fun i j el d q1 q2 => hr _ _ _ _ (key i j el d q1 q2) q2
                  obtain ⟨a, b, q⟩ := hm _ _ _ _ (key i j el d q1 q2) q2
                  obtain ⟨g, o, sp⟩ := A
                  simp only at a; subst a
                  rw [addr_add]
                  refine ⟨rfl, b, ?_⟩
                  simp only at q ⊢
                  rw [Nat.add_mul, ← Nat.add_assoc o] at q
                  exact q
                rw [hlen] at goal
                exact .val _ _ goal
            | shn k sz hk =>
              have e0 : hh = 0 := by simpa using l1
              have e1 : l = 0 := by omega
              subst e0 e1
              refine ⟨_, fun _ _ => r_slice_sl hu hz (Nat.le_refl 0) c1 c2, ?_⟩
              simpa using RepE.val _ _ (.shn k _ hk)
        · simp at he
      · simp at he
    · rename_i sz'
      split at he
      · rename_i p hcut
        obtain ⟨l, hh⟩ := p
        obtain rfl := Option.some.inj he
        obtain ⟨c1, c2⟩ := cut_spec hhi hhn hlo hln hcut
        have l1 := c1.le
        have l2 := c2.le
        have e0 : hh = 0 := by omega
        have e1 : l = 0 := by omega
        subst e0 e1
        cases hx with
        | emp sz a => exact ⟨_, fun _ _ => r_slice_sl hu hz (Nat.le_refl 0) c1 c2, .emp _ _⟩
      · simp at he
    · simp at he
  · rename_i m
    split at he
    · rename_i hz0
      simp only [Bool.and_eq_true, Option.isNone_iff_eq_none] at hz0
      obtain ⟨⟨hz1, hz2⟩, hz3⟩ := hz0
      obtain rfl := hln hz1
      have isz : ∀ {b : Option V} {bv : Option Value}, isZ b = true → (∀ x, b = some x → ∃ u, bv = some u ∧ RepE w (XX w0 X0 fr.heap ρ) fr.heap ρ x u) → ∃ k, bv = some (.int k 0) := fun {b bv} hb hh => by
        unfold isZ at hb
        split at hb
        · rename_i k
          obtain ⟨u, hu, hr⟩ := hh _ rfl
          exact ⟨k, by rw [hu, rep_int hr]⟩
        · simp at hb
      obtain ⟨k1, rfl⟩ := isz hz2 hhi
      obtain ⟨k2, rfl⟩ := isz hz3 hmo
      have go : ∀ A n c, v = .slice A n c → ∃ u, Goes Qw P (Instr.sliceAt t v none (some (.int k1 0)) (some (.int k2 0))) u ∧ RepE w (XX w0 X0 fr.heap ρ) fr.heap ρ (.emp (P.cellsOf e)) u := fun A n c hv => by
        subst hv
        have : ∀ w', (Instr.sliceAt t (.slice A n c) none (some (.int k1 0)) (some (.int k2 0))).run P w' = .ok (.slice A 0 0) w' := fun w' => by
          unfold Instr.sliceAt Instr.slice Instr.sliceBounds
          simp [run_underlying hu, Instr.sliceBound, asIntOf, r_sizeOf (info_of_cells hz)]
        exact ⟨_, fun w' _ => this w', .emp _ _⟩
      split at he
      · rename_i b o n
        split at he
        · rename_i ol sz' els hb
          obtain rfl := Option.some.inj he
          obtain ⟨q1, A, c, q2, q3, q4⟩ := sl_open hx hb
          exact go A n c q2
        · simp at he
      · obtain rfl := Option.some.inj he
        cases hx with
        | val d v hx =>
          cases hx with
          | sh k sz els A c vf hk hc hzz hm hr => exact go _ _ _ rfl
          | shn k sz hk => exact go _ _ _ rfl
      · obtain rfl := Option.some.inj he
        cases hx with
        | emp sz a => exact go _ _ _ rfl
      · simp at he
    · simp at he
theorem slaV_sound (h : FR G w0 L X0 w tm fr ρ) {t e : TypeId} {n : Nat} (hu : P.underlying t = some (.array n e)) (hz : P.cellsOf e = 1) (hn : 0 < n) {x y : V} {v : Value} (hx : RepE w (XX w0 X0 fr.heap ρ) fr.heap ρ x v)
    (he : slaV n x = some y) : ∃ u, Goes Qw P (Instr.sliceAt t v none none none) u ∧ RepE w (XX w0 X0 fr.heap ρ) fr.heap ρ y u := by
  unfold slaV at he
  split at he
  · rename_i cs
    split at he
    · rename_i hl
      obtain rfl := Option.some.inj he
      cases hx with
      | val _ _ hx =>
        cases hx with
        | ptr _ A vf hm hh =>
          obtain ⟨d, hd⟩ : ∃ d, cs[0]? = some d := ⟨cs[0]'(by omega), by rw [List.getElem?_eq_getElem (by omega)]⟩
          have hs := (hm 0 d hd).1
          refine ⟨.slice (some A) n n, fun _ _ => r_slice_arr hu (by omega) hn hs, .val _ _ ?_⟩
          have hlen : (cs.map fun d => [d]).length = n := by simpa using hl
          have hget : ∀ (i j : Nat) (el : List D) (d : D), (cs.map fun d => [d])[i]? = some el → el[j]? = some d → cs[i]? = some d ∧ j = 0 := fun i j el d q1 q2 => by
            simp only [List.getElem?_map, Option.map_eq_some_iff] at q1
            obtain ⟨z, hz, rfl⟩ := q1
            rcases j with _ | j
            · simp at q2; subst q2; exact ⟨hz, rfl⟩
            · simp at q2
          rw [show Value.slice (some A) n n = Value.slice (some A) (cs.map fun d => [d]).length n by rw [hlen]]
          refine .sh .lent 1 _ A n (fun i j => vf i) (by simp) (by rw [hlen]; exact Nat.le_refl _) (fun el hel => by
            simp only [List.mem_map] at hel
            obtain ⟨z, _, rfl⟩ := hel; rfl) (fun i j el d q1 q2 => ?_) (fun i j el d q1 q2 => ?_)
          · obtain ⟨q, rfl⟩ := hget i j el d q1 q2
            rw [Nat.mul_one, Nat.add_zero]
            exact hm i d q
          · obtain ⟨q, rfl⟩ := hget i j el d q1 q2
            exact hh i d q
    · simp at he
  · simp at he
theorem sslV_sound {t : TypeId} (hu : P.underlying t = some .string) {x y : V} {v : Value} {hi lo : Option V} {hv lv : Option Value} (hx : RepE w X H ρ x v)
    (hhi : ∀ x, hi = some x → ∃ u, hv = some u ∧ RepE w X H ρ x u) (hhn : hi = none → hv = none) (hlo : ∀ x, lo = some x → ∃ u, lv = some u ∧ RepE w X H ρ x u) (hln : lo = none → lv = none)
    (he : sslV x lo hi = some y) : ∃ u, Goes Qw P (Instr.sliceAt t v lv hv none) u ∧ RepE w X H ρ y u := by
  unfold sslV at he
  split at he
  · rename_i s
    obtain rfl := rep_str hx
    split at he
    · rename_i l hh hcut
      obtain rfl := Option.some.inj he
      obtain ⟨c1, c2⟩ := cut_spec hhi hhn hlo hln hcut
      have hs : (⟨s.toArray⟩ : ByteArray).size = s.length := by simp [ByteArray.size]
      refine ⟨.string ((⟨s.toArray⟩ : ByteArray).extract l hh), fun _ _ => r_slice_str hu (by rw [hs]; exact c1) c2, ?_⟩
      have : (⟨s.toArray⟩ : ByteArray).extract l hh = ⟨((s.drop l).take (hh - l)).toArray⟩ := by
        have l1 := c1.le
        have l2 := c2.le
        apply ByteArray.ext
        rw [ByteArray.data_extract]
        apply Array.ext'
        simp [List.extract_eq_take_drop]
      rw [this]; exact mk_str _
    · simp at he
  · simp at he
theorem intOp_run {op : BinOp} {k : IntKind} {a b : Int} {d : D} (hs : op ≠ .shl) (hs' : op ≠ .shr) (h : intOp op k a b = some d) (t : TypeId) : ∃ u, Goes Qw P (binOp op t (.int k a) (.int k b)) u ∧ RepE w X H ρ (.val d) u := by
  unfold Goes
  rw [binOp_same hs hs']
  cases op <;> simp only [intOp] at h
  case quo => split at h; · simp at h
              · rename_i h0; obtain rfl := Option.some.inj h; exact ⟨_, fun _ _ => by simp [Op.intDiv, h0], mk_int _ _⟩
  case rem => split at h; · simp at h
              · rename_i h0; obtain rfl := Option.some.inj h; exact ⟨_, fun _ _ => by simp [Op.intDiv, h0], mk_int _ _⟩
  case shl => simp at hs
  case shr => simp at hs'
  all_goals (first | (obtain rfl := Option.some.inj h; first | exact ⟨_, fun _ _ => rfl, mk_int _ _⟩ | exact ⟨_, fun _ _ => rfl, mk_bool _⟩) | simp at h)
theorem shiftOp_run {op : BinOp} {k k' : IntKind} {a b : Int} {d : D} (hs : op = .shl ∨ op = .shr) (h : shiftOp op k a b = some d) (t : TypeId) : ∃ u, Goes Qw P (binOp op t (.int k a) (.int k' b)) u ∧ RepE w X H ρ (.val d) u := by
  unfold shiftOp at h
  split at h
  · simp at h
  · rename_i hb
    rcases hs with rfl | rfl
    · simp at h; subst h; exact ⟨_, fun _ _ => by simp [binOp, Op.shift, hb], mk_int ..⟩
    · simp at h; subst h; exact ⟨_, fun _ _ => by simp [binOp, Op.shift, hb], mk_int ..⟩
def NoCmp : Value → Value → Prop
  | .nilIface, .nilIface => False
  | .agg _, .agg _ => False
  | _, _ => True
theorem guard_pure' {op : BinOp} {t : TypeId} {x y : Operand} {a b : Value} (h : NoCmp a b) : (eqGuard op t x y a b).run P w = .ok () w := by
  apply guard_pure
  cases a <;> cases b <;> first | trivial | exact h.elim
theorem binV_sound {op : BinOp} {t : TypeId} {x y z : V} {vx vy : Value} (ox oy : Operand) (hx : RepE w X H ρ x vx) (hy : RepE w X H ρ y vy) (he : binV op x y = some z) :
    ∃ u, Goes Qw P (do eqGuard op t ox oy vx vy; binOp op t vx vy) u ∧ RepE w X H ρ z u := by
  have lift : ∀ {u : Value}, NoCmp vx vy → Goes Qw P (binOp op t vx vy) u → Goes Qw P (do eqGuard op t ox oy vx vy; binOp op t vx vy) u := fun hg h w' hw => by
    simp only [Sem.run_bind, guard_pure' hg, Result.andThen_ok, h w' hw]
  unfold binV at he
  split at he
  · rename_i k a k' b
    obtain rfl := rep_int hx
    obtain rfl := rep_int hy
    split at he
    · obtain ⟨d, hd, rfl⟩ := Option.map_eq_some_iff.1 he
      obtain ⟨u, h1, h2⟩ := shiftOp_run (.inl rfl) hd t
      exact ⟨u, lift trivial h1, h2⟩
    · obtain ⟨d, hd, rfl⟩ := Option.map_eq_some_iff.1 he
      obtain ⟨u, h1, h2⟩ := shiftOp_run (.inr rfl) hd t
      exact ⟨u, lift trivial h1, h2⟩
    · rename_i hs hs'
      split at he
      · rename_i hk
        subst hk
        obtain ⟨d, hd, rfl⟩ := Option.map_eq_some_iff.1 he
        obtain ⟨u, h1, h2⟩ := intOp_run (fun e => hs e) (fun e => hs' e) hd t
        exact ⟨u, lift trivial h1, h2⟩
      · simp at he
  · rename_i a b
    obtain rfl := rep_str hx
    obtain rfl := rep_str hy
    obtain ⟨d, hd, rfl⟩ := Option.map_eq_some_iff.1 he
    have el : ∀ s : List UInt8, (⟨s.toArray⟩ : ByteArray).toList = s := fun s => by rw [ByteArray.toList_eq]
    unfold strOp at hd
    split at hd
    · obtain rfl := Option.some.inj hd
      exact ⟨_, lift trivial fun _ _ => by simp [binOp, Op.stringOp, el], mk_bool _⟩
    · obtain rfl := Option.some.inj hd
      exact ⟨_, lift trivial fun _ _ => by simp [binOp, Op.stringOp, el], mk_bool _⟩
    · split at hd
      · rename_i hl
        obtain rfl := Option.some.inj hd
        have hsz : ∀ s : List UInt8, (⟨s.toArray⟩ : ByteArray).size = s.length := fun s => by simp [ByteArray.size]
        have hm : ¬ ((((⟨a.toArray⟩ : ByteArray).size + (⟨b.toArray⟩ : ByteArray).size : Nat) : Int) > IntKind.i64.max) := by
          have : IntKind.i64.max = 9223372036854775807 := by decide
          rw [this, hsz, hsz]; omega
        have happ : (⟨a.toArray⟩ : ByteArray) ++ (⟨b.toArray⟩ : ByteArray) = ⟨(a ++ b).toArray⟩ := by
          apply ByteArray.ext
          simp
        refine ⟨.string ((⟨a.toArray⟩ : ByteArray) ++ (⟨b.toArray⟩ : ByteArray)), lift trivial fun w' _ => ?_, by rw [happ]; exact mk_str _⟩
        unfold binOp Op.stringOp
        simp only [Sem.run_ite, if_neg hm, Sem.run_pure]
      · simp at hd
    · simp at hd
  · simp at he
theorem binbV_sound {op : BinOp} {t : TypeId} (hu : P.underlying t = some .bool) {x y z : V} {vx vy : Value} (ox oy : Operand) (hx : RepE w X H ρ x vx) (hy : RepE w X H ρ y vy) (he : binbV op x y = some z) :
    ∃ u, Goes Qw P (do eqGuard op t ox oy vx vy; binOp op t vx vy) u ∧ RepE w X H ρ z u := by
  unfold binbV at he
  split at he
  · rename_i a b
    obtain rfl := rep_bool hx
    obtain rfl := rep_bool hy
    have lift : ∀ {u : Value}, Goes Qw P (binOp op t (.bool a) (.bool b)) u → Goes Qw P (do eqGuard op t ox oy (.bool a) (.bool b); binOp op t (.bool a) (.bool b)) u := fun h w' hw => by
      simp only [Sem.run_bind, guard_pure (P := P) (op := op) (t := t) (x := ox) (y := oy) (a := .bool a) (b := .bool b) trivial, Result.andThen_ok, h w' hw]
    split at he
    · obtain rfl := Option.some.inj he
      exact ⟨_, lift fun _ _ => by simp only [binOp, Sem.run_bind, r_equal_bool hu, Result.andThen_ok, Sem.run_pure], mk_bool _⟩
    · obtain rfl := Option.some.inj he
      exact ⟨_, lift fun _ _ => by simp only [binOp, Sem.run_bind, r_equal_bool hu, Result.andThen_ok, Sem.run_pure], mk_bool _⟩
    · simp at he
  · simp at he
theorem unV_sound {op : UnOp} {x z : V} {v : Value} (hx : RepE w X H ρ x v) (he : unV op x = some z) : ∃ u, Goes Qw P (Op.unary op v) u ∧ RepE w X H ρ z u := by
  unfold unV at he
  split at he
  · obtain rfl := rep_int hx
    obtain rfl := (Option.some.inj he)
    exact ⟨_, fun _ _ => rfl, mk_int _ _⟩
  · obtain rfl := rep_bool hx
    obtain rfl := (Option.some.inj he)
    exact ⟨_, fun _ _ => rfl, mk_bool _⟩
  · obtain rfl := rep_int hx
    obtain rfl := (Option.some.inj he)
    exact ⟨_, fun _ _ => rfl, mk_int _ _⟩
  · simp at he
theorem cviV_sound {s d : TypeId} {ks k : IntKind} (hs : P.underlying s = some (.int ks)) (hd : P.underlying d = some (.int k)) {x z : V} {v : Value} (hx : RepE w X H ρ x v) (he : cviV k x = some z) : ∃ u, Goes Qw P (convert s d v) u ∧ RepE w X H ρ z u := by
  unfold cviV at he
  split at he
  · obtain rfl := rep_int hx
    obtain rfl := (Option.some.inj he)
    exact ⟨_, fun _ _ => by simp [convert, run_underlying hs, run_underlying hd, Conv.intToInt], mk_int _ _⟩
  · simp at he
theorem byteOf_spec {el : List D} {b : UInt8} (h : byteOf el = some b) : ∃ n : Int, el = [.int .u8 n] ∧ b = UInt8.ofNat n.toNat := by
  unfold byteOf at h
  split at h
  · rename_i n; exact ⟨n, rfl, (Option.some.inj h).symm⟩
  · simp at h
theorem bytesOf_spec : ∀ {els : List (List D)} {bs : List UInt8}, bytesOf els = some bs → ∃ ns : List Int, els = ns.map (fun n => [.int .u8 n]) ∧ bs = ns.map (fun n => UInt8.ofNat n.toNat)
  | [], bs, h => by simp only [bytesOf] at h; obtain rfl := Option.some.inj h; exact ⟨[], rfl, rfl⟩
  | e :: es, bs, h => by
    simp only [bytesOf] at h
    split at h
    · rename_i b hb
      split at h
      · rename_i bs' hbs
        obtain rfl := Option.some.inj h
        obtain ⟨n, rfl, rfl⟩ := byteOf_spec hb
        obtain ⟨ns, rfl, rfl⟩ := bytesOf_spec hbs
        exact ⟨n :: ns, rfl, rfl⟩
      · simp at h
    · simp at h
theorem cvsV_sound (hQ : ∀ w', Qw w' → Ext w w') (h : FR G w0 L X0 w tm fr ρ) {s d e : TypeId} (hs : P.underlying s = some (.slice e)) (hd : P.underlying d = some .string) (hu : P.underlying e = some (.int .u8)) {x z : V} {v : Value}
    (hx : RepE w (XX w0 X0 fr.heap ρ) fr.heap ρ x v) (he : cvsV fr.heap x = some z) : ∃ u, Goes Qw P (convert s d v) u ∧ RepE w (XX w0 X0 fr.heap ρ) fr.heap ρ z u := by
  unfold cvsV at he
  split at he
  · rename_i sz els hels
    split at he
    · rename_i bs hbs
      obtain rfl := Option.some.inj he
      obtain ⟨ns, rfl, rfl⟩ := bytesOf_spec hbs
      obtain ⟨A, c, rfl, hc, hzz, hcell⟩ := elsOf_sound h hx hels
      have hstr : (⟨(ns.map fun n => UInt8.ofNat n.toNat).toArray⟩ : ByteArray) = strOfNums ns := rfl
      cases ns with
      | nil =>
        refine ⟨.string (strOfNums []), fun w' _ => ?_, mk_str []⟩
        cases A with
        | none => exact run_convert_bytes_nil w' s e hs hu _ _ d hd
        | some A =>
          simp only [List.map_nil, List.length_nil]
          rw [run_convert_bytes_string w' s d e _ 0 c hs hu hd]
          simp [Conv.bytesToString, loadCells, loadCellsFrom, strOfNums, ByteArray.empty, ByteArray.emptyWithCapacity]
          try rfl
      | cons n0 ns0 =>
        obtain rfl : 1 = sz := hzz _ (List.mem_cons_self ..)
        obtain ⟨g, k, u, _, rfl, hu0, _⟩ := hcell 0 0 [.int .u8 n0] (.int .u8 n0) rfl rfl
        refine ⟨_, fun w' hw => run_convert_bytes_arg w' s e hs hu g k _ c (n0 :: ns0) (by simp) (fun i hi => ?_) d hd, by rw [← hstr]; exact mk_str _⟩
        have hi' : i < (n0 :: ns0).length := by simpa using hi
        obtain ⟨g', k', u', _, hA, hu', hr⟩ := hcell i 0 [.int .u8 (n0 :: ns0)[i]] (.int .u8 (n0 :: ns0)[i]) (by rw [List.getElem?_map, List.getElem?_eq_getElem hi']; rfl) rfl
        obtain ⟨rfl, rfl⟩ : g = g' ∧ k = k' := by simpa using hA
        have hr := hr.toS rfl
        cases hr
        simp only [Nat.mul_one, Nat.add_zero] at hu'
        rw [(hQ _ hw).cell hu']
        simp only [List.getD, List.getElem?_eq_getElem hi', Option.getD_some]
    · simp at he
  · simp at he
end
end Go.Proofs.Ytpbonfgmiffomaa.Wm
set_option linter.unusedSimpArgs false
set_option linter.unusedVariables false
namespace Go.Proofs.Ytpbonfgmiffomaa.Wm
open Go
section
variable {P : Program} {G : Nat → Option (List D)} {w0 : World} {L X0 : Nat → Prop} {w : World} {tm : Array Value} {fr : Fr} {ρ : Place} {X : K → Nat → Prop} {H : Heap} {Qw : World → Prop}
def Cells (w : World) (X : K → Nat → Prop) (H : Heap) (ρ : Place) (vs : List V) (us : Array Value) : Prop :=
  us.size = vs.length ∧ ∀ (i : Nat) (x : V) (u : Value), vs[i]? = some x → us[i]? = some u → RepE w X H ρ x u
theorem fold_set (off : Nat) : ∀ (l : List Value) (k : Nat) (us : Array Value), off + k + l.length ≤ us.size →
    ((l.zipIdx k).foldl (fun cs p => cs.setIfInBounds (off + p.2) p.1) us).size = us.size ∧
    ∀ i, ((l.zipIdx k).foldl (fun cs p => cs.setIfInBounds (off + p.2) p.1) us)[i]? = if off + k ≤ i ∧ i < off + k + l.length then l[i - (off + k)]? else us[i]?
  | [], k, us, h => by simp; intro i h1 h2; omega
  | x :: l, k, us, h => by
    simp only [List.zipIdx_cons, List.foldl_cons, List.length_cons] at h ⊢
    obtain ⟨h1, h2⟩ := fold_set off l (k + 1) (us.setIfInBounds (off + k) x) (by simp; omega)
    refine ⟨by rw [h1]; simp, fun i => ?_⟩
    rw [h2 i]
    by_cases hi : i = off + k
    · subst hi
      rw [if_neg (by omega), if_pos (by omega)]
      have : off + k < us.size := by omega
      simp [this]
    · by_cases hj : off + k ≤ i ∧ i < off + k + (l.length + 1)
      · rw [if_pos (by omega), if_pos hj]
        rw [show i - (off + k) = i - (off + (k + 1)) + 1 by omega]
        simp
      · rw [if_neg (by omega), if_neg hj, Array.getElem?_setIfInBounds_ne (by omega)]
theorem cell_one {x : V} {v : Value} (hc : isCell x = true) (h : RepE w X H ρ x v) : v.cells = #[v] ∧ v.oneCell' = true := by
  cases h with
  | val d v h =>
    cases h with
    | agg => simp [isCell] at hc
    | tup => simp [isCell] at hc
    | gone => simp [isCell] at hc
    | emp => exact ⟨rfl, rfl⟩
    | _ => exact ⟨rfl, rfl⟩
  | emp => exact ⟨rfl, rfl⟩
  | sl b o n v B hb h => obtain ⟨A, n, c, rfl⟩ := h.gone (p' := none) (w' := w); exact ⟨rfl, rfl⟩
  | pt b o v B hb h => obtain ⟨a, rfl⟩ := h.gone (p' := none); exact ⟨rfl, rfl⟩
  | ep b i o v B hb h => obtain ⟨a, rfl⟩ := h.gone (p' := none); exact ⟨rfl, rfl⟩
  | agg => simp [isCell] at hc
  | tup => simp [isCell] at hc
  | fn => exact ⟨rfl, rfl⟩
  | dead => simp [isCell] at hc
  | anyb b => exact ⟨rfl, rfl⟩
theorem cellsV_sound {s : Option Nat} {x : V} {v : Value} {vs : List V} (h : RepE w X H ρ x v) (he : cellsV s x = some vs) : Cells w X H ρ vs v.cells ∧ (∀ n, s = some n → vs.length = n) ∧ (s = none → vs.length = 1) := by
  unfold cellsV at he
  cases s with
  | some n =>
    simp only at he
    split at he
    · rename_i l ha
      split at he
      · rename_i hl
        obtain rfl := Option.some.inj he
        obtain ⟨us, rfl, hs, hc⟩ := aggCells_sound h ha
        exact ⟨⟨hs, hc⟩, fun m hm => by rw [hl]; exact Option.some.inj hm, by simp⟩
      · simp at he
    · simp at he
  | none =>
    simp only at he
    split at he
    · rename_i hc
      obtain rfl := Option.some.inj he
      rw [(cell_one hc h).1]
      refine ⟨⟨rfl, fun i y u hy hu => ?_⟩, by simp, fun _ => rfl⟩
      cases i with
      | zero => simp at hy hu; subst hy; subst hu; exact h
      | succ i => simp at hy
    · simp at he
theorem fill_sound {f : Od → V} {place : Nat → Option (Nat × Nat)} : ∀ (ps : List Part) (qs : List (Nat × Value)) {vs vs' : List V} {us : Array Value}, Cells w X H ρ vs us → ps.length = qs.length →
    (∀ (j : Nat) (p : Part) (q : Nat × Value), ps[j]? = some p → qs[j]? = some q → place q.1 = some (p.at_, p.s.getD 1) ∧ RepE w X H ρ (f p.x) q.2) → fillV f vs ps = some vs' →
    ∃ us', Instr.fill place us qs = some us' ∧ Cells w X H ρ vs' us' ∧ vs'.length = vs.length
  | [], qs, vs, vs', us, hc, hl, hp, he => by
    obtain rfl : qs = [] := List.eq_nil_of_length_eq_zero hl.symm
    obtain rfl : vs = vs' := by simpa [fillV] using he
    exact ⟨us, rfl, hc, rfl⟩
  | p :: ps, qs, vs, vs', us, hc, hl, hp, he => by
    cases qs with
    | nil => simp at hl
    | cons q qs =>
      obtain ⟨i', v⟩ := q
      obtain ⟨hpl, hx⟩ : place i' = some (p.at_, p.s.getD 1) ∧ RepE w X H ρ (f p.x) v := hp 0 p (i', v) rfl rfl
      obtain ⟨off, s, x⟩ := p
      simp only [fillV] at he hpl hx
      split at he
      · rename_i xs hxs
        split at he
        · rename_i hle
          obtain ⟨hv, hsome, hnone⟩ := cellsV_sound hx hxs
          have hlen : xs.length = s.getD 1 := by
            cases s with
            | none => simpa using hnone rfl
            | some n => simpa using hsome n rfl
          have hsz : v.cells.size = xs.length := hv.1
          obtain ⟨f1, f2⟩ := fold_set off v.cells.toList 0 us (by simp [hsz, hc.1]; exact hle)
          have hcells : Cells w X H ρ (vs.take off ++ xs ++ vs.drop (off + xs.length)) ((v.cells.toList.zipIdx 0).foldl (fun cs p => cs.setIfInBounds (off + p.2) p.1) us) := by
            refine ⟨by rw [f1, hc.1]; simp; omega, fun j y u hy hu => ?_⟩
            rw [f2 j] at hu
            simp only [Array.length_toList, hsz, Nat.add_zero] at hu
            by_cases hj : off ≤ j ∧ j < off + xs.length
            · rw [if_pos hj] at hu
              have : (vs.take off ++ xs ++ vs.drop (off + xs.length))[j]? = xs[j - off]? := by
                have ho : (vs.take off).length = off := by simp; omega
                rw [List.append_assoc, List.getElem?_append_right (by omega), ho, List.getElem?_append_left (by omega)]
              rw [this] at hy
              exact hv.2 (j - off) y u hy (by simpa using hu)
            · rw [if_neg hj] at hu
              have ho : (vs.take off).length = off := by simp; omega
              have : (vs.take off ++ xs ++ vs.drop (off + xs.length))[j]? = vs[j]? := by
                by_cases hjo : j < off
                · rw [List.append_assoc, List.getElem?_append_left (by omega), List.getElem?_take, if_pos hjo]
                · rw [List.getElem?_append_right (by simp; omega), List.getElem?_drop]
                  congr 1
                  simp; omega
              rw [this] at hy
              exact hc.2 j y u hy hu
          obtain ⟨us', g1, g2, g3⟩ := fill_sound ps qs hcells (by simpa using hl) (fun j p q hp' hq' => hp (j + 1) p q (by simpa using hp') (by simpa using hq')) he
          refine ⟨us', ?_, g2, by rw [g3]; simp; omega⟩
          unfold Instr.fill
          simp only [hpl, hsz, hlen]
          rw [if_neg (by simp [hc.1]; omega)]
          first
            | exact g1
            | (simp only [← Array.foldl_toList, Array.toList_zipIdx] at g1 ⊢; exact g1)
        · simp at he
      · simp at he
theorem zOk_sound {x : V} {v : Value} (h : zOk x v = true) : RepE w X H ρ x v := by
  unfold zOk at h
  split at h
  · simp only [Bool.and_eq_true, beq_iff_eq] at h
    obtain ⟨rfl, rfl⟩ := h
    exact mk_int _ _
  · simp only [beq_iff_eq] at h; subst h; exact mk_bool _
  · rename_i s
    have : s = ⟨([] : List UInt8).toArray⟩ := by
      apply ByteArray.ext
      apply Array.ext'
      simpa using h
    rw [this]; exact mk_str []
  · exact .val _ _ .err0
  · exact .emp _ _
  · exact .dead _
  · simp at h
theorem zOkL_sound : ∀ {xs : List V} {vs : List Value}, zOkL xs vs = true → vs.length = xs.length ∧ ∀ (i : Nat) (x : V) (u : Value), xs[i]? = some x → vs[i]? = some u → RepE w X H ρ x u
  | [], [], _ => ⟨rfl, fun i x u hx => by simp at hx⟩
  | [], _ :: _, h => by simp [zOkL] at h
  | _ :: _, [], h => by simp [zOkL] at h
  | x :: xs, v :: vs, h => by
    simp only [zOkL, Bool.and_eq_true] at h
    obtain ⟨h1, h2⟩ := zOkL_sound h.2
    refine ⟨by simp [h1], fun i y u hy hu => ?_⟩
    cases i with
    | zero => simp at hy hu; subst hy; subst hu; exact zOk_sound h.1
    | succ i => exact h2 i y u (by simpa using hy) (by simpa using hu)
theorem zeros_spec {t : TypeId} {zs : List V} (h : zeros P t = some zs) : ∃ i z, P.info? t = some i ∧ i.zero = some z ∧ Cells w X H ρ zs z.cells := by
  unfold zeros at h
  split at h
  · rename_i i hi
    split at h
    · rename_i z hz
      split at h
      · rename_i hok
        obtain rfl := Option.some.inj h
        obtain ⟨h1, h2⟩ := zOkL_sound (w := w) (X := X) (H := H) (ρ := ρ) hok
        exact ⟨i, z, hi, hz, by simpa using h1, fun i x u hx hu => h2 i x u hx (by simpa using hu)⟩
      · simp at h
    · simp at h
  · simp at h
theorem places_map : ∀ (fs : List Field), (∀ f ∈ fs, P.cellsOf f.type ≠ 0) → fs.mapM (fun f => (P.info? f.type).map fun i => (f.offset, i.size)) = some (fs.map fun f => (f.offset, P.cellsOf f.type))
  | [], _ => by simp
  | f :: fs, h => by
    obtain ⟨i, hi⟩ := info_of_cells (h f (by simp))
    have := places_map fs (fun g hg => h g (by simp [hg]))
    simp only [List.mapM_cons, Option.bind_eq_bind, Option.pure_def, hi, Option.map_some, Option.bind_some, this, List.map_cons]
    simp [Program.cellsOf, hi]
theorem part1_spec {off : Nat} {t : TypeId} {x : Operand} {p : Part} (h : part1 P off t x = some p) : p.at_ = off ∧ P.cellsOf t = p.s.getD 1 ∧ P.cellsOf t ≠ 0 ∧ od P t x = some p.x ∧ aggN P t = some p.s := by
  unfold part1 at h
  split at h
  · rename_i s hs
    split at h
    · rename_i y hy
      split at h
      · rename_i hc
        obtain rfl := Option.some.inj h
        exact ⟨rfl, hc.1, hc.2, hy, hs⟩
      · simp at h
    · simp at h
  · simp at h
theorem partsS_spec {fs : Array Field} : ∀ {qs : List (Nat × Operand)} {ps : List Part}, partsS P fs qs = some ps → ps.length = qs.length ∧ ∀ (j : Nat) (p : Part) (q : Nat × Operand), ps[j]? = some p → qs[j]? = some q →
    ∃ f, fs[q.1]? = some f ∧ p.at_ = f.offset ∧ P.cellsOf f.type = p.s.getD 1 ∧ od P f.type q.2 = some p.x
  | [], ps, h => by simp only [partsS] at h; obtain rfl := Option.some.inj h; exact ⟨rfl, fun j p q hp => by simp at hp⟩
  | (i, x) :: qs, ps, h => by
    simp only [partsS] at h
    split at h
    · rename_i f hf
      split at h
      · rename_i p hp
        split at h
        · rename_i r hr
          obtain rfl := Option.some.inj h
          obtain ⟨k1, k2⟩ := partsS_spec hr
          obtain ⟨a, b, c, d, e⟩ := part1_spec hp
          refine ⟨by simp [k1], fun j p' q hp' hq => ?_⟩
          cases j with
          | zero => simp at hp' hq; subst hp'; subst hq; exact ⟨f, hf, a, b, d⟩
          | succ j => exact k2 j p' q (by simpa using hp') (by simpa using hq)
        · simp at h
      · simp at h
    · simp at h
theorem partsA_spec {e : TypeId} : ∀ {qs : List (Nat × Operand)} {ps : List Part}, partsA P e qs = some ps → ps.length = qs.length ∧ ∀ (j : Nat) (p : Part) (q : Nat × Operand), ps[j]? = some p → qs[j]? = some q →
    p.at_ = q.1 ∧ P.cellsOf e = p.s.getD 1 ∧ od P e q.2 = some p.x
  | [], ps, h => by simp only [partsA] at h; obtain rfl := Option.some.inj h; exact ⟨rfl, fun j p q hp => by simp at hp⟩
  | (i, x) :: qs, ps, h => by
    simp only [partsA] at h
    split at h
    · rename_i p hp
      split at h
      · rename_i r hr
        obtain rfl := Option.some.inj h
        obtain ⟨k1, k2⟩ := partsA_spec hr
        obtain ⟨a, b, c, d, e⟩ := part1_spec hp
        refine ⟨by simp [k1], fun j p' q hp' hq => ?_⟩
        cases j with
        | zero => simp at hp' hq; subst hp'; subst hq; exact ⟨a, b, d⟩
        | succ j => exact k2 j p' q (by simpa using hp') (by simpa using hq)
      · simp at h
    · simp at h
theorem minMax_sound {mx : Bool} : ∀ (n : Nat) {xs : List V} {us : List Value} {y : V}, xs.length = n → us.length = xs.length → (∀ (j : Nat) (x : V) (u : Value), xs[j]? = some x → us[j]? = some u → RepE w X H ρ x u) → minMax mx xs = some y →
    ∃ u, (∀ w', Qw w' → (match us with | [] => stuck "" | x :: rest => rest.foldlM (if mx then Builtin.max2 else Builtin.min2) x : Sem Value).run P w' = .ok u w') ∧ RepE w X H ρ y u := by
  intro n
  induction n with
  | zero => intro xs us y hn hl hx he; obtain rfl := List.eq_nil_of_length_eq_zero hn; unfold minMax at he; simp at he
  | succ n ih =>
    intro xs us y hn hl hx he
    unfold minMax at he
    split at he
    · simp at he
    · rename_i x xs
      split at he
      · split at he
        · rename_i k a
          obtain rfl := Option.some.inj he
          obtain ⟨u, rfl⟩ : ∃ u, us = [u] := by
            cases us with
            | nil => simp at hl
            | cons u us => cases us with
              | nil => exact ⟨u, rfl⟩
              | cons _ _ => simp at hl
          exact ⟨u, fun _ _ => by simp, hx 0 _ u rfl rfl⟩
        · simp at he
      · rename_i y' l
        split at he
        · rename_i k a k' b
          obtain ⟨u, u', us', rfl⟩ : ∃ u u' us', us = u :: u' :: us' := by
            cases us with
            | nil => simp at hl
            | cons u us => cases us with
              | nil => simp at hl
              | cons u' us' => exact ⟨u, u', us', rfl⟩
          obtain rfl := rep_int (hx 0 _ u rfl rfl)
          obtain rfl := rep_int (hx 1 _ u' rfl rfl)
          obtain ⟨v, hv, hr⟩ := ih (us := Value.int k (if mx = true then if a < b then b else a else if b < a then b else a) :: us') (by simpa using hn) (by simpa using hl) (fun j p q hp hq => by
            cases j with
            | zero => simp at hp hq; subst hp; subst hq; exact mk_int _ _
            | succ j => exact hx (j + 2) p q (by simpa using hp) (by simpa using hq)) he
          refine ⟨v, ?_, hr⟩
          intro w' hw
          replace hv := hv w' hw
          simp only [List.foldlM_cons, Sem.run_bind] at hv ⊢
          cases mx with
          | true => simpa [Builtin.max2] using hv
          | false => simpa [Builtin.min2] using hv
        · simp at he
end
end Go.Proofs.Ytpbonfgmiffomaa.Wm
set_option linter.unusedSimpArgs false
set_option linter.unusedVariables false
namespace Go.Proofs.Ytpbonfgmiffomaa.Wm
open Go
section
variable {P : Program} {w w1 : World} {X : K → Nat → Prop} {H : Heap} {ρ : Place} {Qw : World → Prop}
def CellsRep (w : World) (X : K → Nat → Prop) (H : Heap) (ρ : Place) (xs : Array Value) (off : Nat) (as : List V) : Prop := ∀ (i : Nat) (x : V), as[i]? = some x → ∃ v, xs[off + i]? = some v ∧ RepE w X H ρ x v
theorem eqC_len : ∀ {ks : List EqK} {a b : List V} {r : Bool}, eqC ks a b = some r → a.length = ks.length ∧ b.length = ks.length
  | [], [], [], r, h => ⟨rfl, rfl⟩
  | k :: ks, x :: a, y :: b, r, h => by
    simp only [eqC] at h
    split at h
    · rename_i p q _ h2; obtain ⟨e1, e2⟩ := eqC_len h2; simp [e1, e2]
    · simp at h
  | [], [], _ :: _, r, h => by simp [eqC] at h
  | [], _ :: _, [], r, h => by simp [eqC] at h
  | [], _ :: _, _ :: _, r, h => by simp [eqC] at h
  | _ :: _, [], [], r, h => by simp [eqC] at h
  | _ :: _, [], _ :: _, r, h => by simp [eqC] at h
  | _ :: _, _ :: _, [], r, h => by simp [eqC] at h
theorem eqC_split : ∀ {k1 k2 : List EqK} {a b : List V} {r : Bool}, eqC (k1 ++ k2) a b = some r → ∃ p q, eqC k1 (a.take k1.length) (b.take k1.length) = some p ∧ eqC k2 (a.drop k1.length) (b.drop k1.length) = some q ∧ r = (p && q)
  | [], k2, a, b, r, h => ⟨true, r, by simp [eqC], by simpa using h, by simp⟩
  | k :: k1, k2, x :: a, y :: b, r, h => by
    simp only [List.cons_append, eqC] at h
    split at h
    · rename_i p q h1 h2
      obtain rfl := Option.some.inj h
      obtain ⟨p', q', e1, e2, rfl⟩ := eqC_split h2
      exact ⟨p && p', q', by simp [eqC, h1, e1], by simpa using e2, by rw [Bool.and_assoc]⟩
    · simp at h
  | k :: k1, k2, [], [], r, h => by simp [eqC] at h
  | k :: k1, k2, [], _ :: _, r, h => by simp [eqC] at h
  | k :: k1, k2, _ :: _, [], r, h => by simp [eqC] at h
theorem CellsRep.take {xs : Array Value} {off n : Nat} {as : List V} (h : CellsRep w X H ρ xs off as) : CellsRep w X H ρ xs off (as.take n) := fun i x hx => by
  rw [List.getElem?_take] at hx
  split at hx
  · exact h i x hx
  · simp at hx
theorem CellsRep.drop {xs : Array Value} {off n : Nat} {as : List V} (h : CellsRep w X H ρ xs off as) : CellsRep w X H ρ xs (off + n) (as.drop n) := fun i x hx => by
  rw [List.getElem?_drop] at hx
  rw [Nat.add_assoc]
  exact h (n + i) x hx
theorem CellsRep.extract {xs : Array Value} {off k : Nat} {as : List V} (h : CellsRep w X H ρ xs off as) (hk : as.length ≤ k) : CellsRep w X H ρ (xs.extract off (off + k)) 0 as := fun i x hx => by
  obtain ⟨v, h1, h2⟩ := h i x hx
  have hi : i < as.length := (List.getElem?_eq_some_iff.1 hx).1
  refine ⟨v, ?_, h2⟩
  rw [Nat.zero_add, Array.getElem?_extract]
  have hlt : off + i < xs.size := (Array.getElem?_eq_some_iff.1 h1).1
  rw [if_pos (by omega)]
  exact h1
theorem single {k : EqK} {a b : List V} {r : Bool} (h : eqC [k] a b = some r) : ∃ x y, a = [x] ∧ b = [y] ∧ eq1 k x y = some r := by
  obtain ⟨h1, h2⟩ := eqC_len h
  obtain ⟨x, rfl⟩ : ∃ x, a = [x] := List.length_eq_one_iff.1 h1
  obtain ⟨y, rfl⟩ : ∃ y, b = [y] := List.length_eq_one_iff.1 h2
  refine ⟨x, y, rfl, rfl, ?_⟩
  simp only [eqC] at h
  split at h
  · rename_i p q h3 h4; simp at h4; subst h4; rw [h3]; simpa using h
  · simp at h
theorem fields_eq {d : Nat} {sh : TypeId → Option (List EqK)} {xs ys : Array Value}
    (ih : ∀ {t : TypeId} {ks : List EqK} {off : Nat} {as bs : List V} {r : Bool}, sh t = some ks → CellsRep w X H ρ xs off as → CellsRep w X H ρ ys off bs → eqC ks as bs = some r → ks.length = P.cellsOf t →
      ∃ a b, (part t xs off).run P w1 = .ok a w1 ∧ (part t ys off).run P w1 = .ok b w1 ∧ (Op.equalIn d t a b).run P w1 = .ok r w1) :
    ∀ {fs : List Field} {o : Nat} {ks : List EqK} {as bs : List V} {r : Bool}, eqF P sh fs o = some ks → CellsRep w X H ρ xs o as → CellsRep w X H ρ ys o bs → eqC ks as bs = some r → (Op.eqFields d xs ys fs).run P w1 = .ok r w1
  | [], o, ks, as, bs, r, h, ha, hb, he => by
    simp only [eqF] at h
    obtain rfl := Option.some.inj h
    obtain ⟨h1, h2⟩ := eqC_len he
    simp at h1 h2
    subst h1; subst h2
    simp [eqC] at he
    subst he
    simp [Op.eqFields]
  | f :: fs, o, ks, as, bs, r, h, ha, hb, he => by
    simp only [eqF] at h
    split at h
    · rename_i k hk
      split at h
      · rename_i hc
        obtain ⟨c1, c2, c3⟩ := hc
        split at h
        · rename_i r' hr
          obtain rfl := Option.some.inj h
          obtain ⟨p, q, e1, e2, rfl⟩ := eqC_split he
          obtain ⟨a, b, p1, p2, p3⟩ := ih (off := f.offset) hk (by rw [c1]; exact ha.take) (by rw [c1]; exact hb.take) e1 c2
          have rest := fields_eq (d := d) ih hr ha.drop hb.drop e2
          simp only [Op.eqFields, c3, ne_eq, not_false_eq_true, if_true, Sem.run_bind, p1, p2, p3, Result.andThen_ok]
          cases p with
          | false => simp
          | true => simpa using rest
        · simp at h
      · simp at h
    · simp at h
theorem eqT_sound : ∀ (n : Nat) {d : Nat} {t : TypeId} {ks : List EqK} {xs ys : Array Value} {off : Nat} {as bs : List V} {r : Bool}, n ≤ d → eqT P n t = some ks → CellsRep w X H ρ xs off as → CellsRep w X H ρ ys off bs → eqC ks as bs = some r → ks.length = P.cellsOf t →
    ∃ a b, (part t xs off).run P w1 = .ok a w1 ∧ (part t ys off).run P w1 = .ok b w1 ∧ (Op.equalIn d t a b).run P w1 = .ok r w1
  | 0, d, t, ks, xs, ys, off, as, bs, r, hd, h, ha, hb, he, hc => by simp [eqT] at h
  | n + 1, 0, t, ks, xs, ys, off, as, bs, r, hd, h, ha, hb, he, hc => by omega
  | n + 1, d + 1, t, ks, xs, ys, off, as, bs, r, hd, h, ha, hb, he, hc => by
    simp only [eqT] at h
    have one : ∀ {k : EqK}, some [k] = some ks → P.plainKey t = true → ∃ x y u v, eq1 k x y = some r ∧ RepE w X H ρ x u ∧ RepE w X H ρ y v ∧ (part t xs off).run P w1 = .ok u w1 ∧ (part t ys off).run P w1 = .ok v w1 := fun e hp => by
      obtain rfl := Option.some.inj e
      obtain ⟨x, y, rfl, rfl, h1⟩ := single he
      obtain ⟨u, u1, u2⟩ := ha 0 x rfl
      obtain ⟨v, v1, v2⟩ := hb 0 y rfl
      exact ⟨x, y, u, v, h1, u2, v2, run_part_plain w1 hp u1, run_part_plain w1 hp v1⟩
    split at h
    · rename_i k hk
      obtain ⟨x, y, u, v, h1, h2, h3, h4, h5⟩ := one h (by simp [Program.plainKey, hk])
      refine ⟨u, v, h4, h5, ?_⟩
      cases x with
      | val dx => cases y with
        | val dy =>
          cases dx <;> cases dy <;> simp [eq1] at h1
          obtain ⟨e, h1⟩ := h1
          subst e
          obtain rfl := rep_int h2; obtain rfl := rep_int h3
          rw [run_equalIn_int w1 d t _ _ _ _ hk]; simp [← h1]
        | _ => cases dx <;> simp [eq1] at h1
      | _ => simp [eq1] at h1
    · rename_i hk
      obtain ⟨x, y, u, v, h1, h2, h3, h4, h5⟩ := one h (by simp [Program.plainKey, hk])
      refine ⟨u, v, h4, h5, ?_⟩
      cases x with
      | val dx => cases y with
        | val dy =>
          cases dx <;> cases dy <;> simp [eq1] at h1
          obtain rfl := rep_bool h2; obtain rfl := rep_bool h3
          rw [run_equalIn_bool w1 d t _ _ hk]; simp [← h1]
        | _ => cases dx <;> simp [eq1] at h1
      | _ => simp [eq1] at h1
    · rename_i hk
      obtain ⟨x, y, u, v, h1, h2, h3, h4, h5⟩ := one h (by simp [Program.plainKey, hk])
      refine ⟨u, v, h4, h5, ?_⟩
      cases x with
      | val dx => cases y with
        | val dy =>
          cases dx <;> cases dy <;> simp [eq1] at h1
          obtain rfl := rep_str h2; obtain rfl := rep_str h3
          rw [run_equalIn_string w1 d t _ _ hk]; simp [← h1, ByteArray.toList_eq]
        | _ => cases dx <;> simp [eq1] at h1
      | _ => simp [eq1] at h1
    · rename_i fs hk
      split at h
      · rename_i hst
        split at h
        · rename_i k hf
          split at h
          · rename_i hl
            obtain rfl := Option.some.inj h
            obtain ⟨i, hi⟩ := info_of_underlying hk
            obtain ⟨l1, l2⟩ := eqC_len he
            have pr : ∀ zs : Array Value, (part t zs off).run P w1 = .ok (.agg (zs.extract off (off + P.cellsOf t))) w1 := fun zs => by simp [part, isAgg, run_underlying hk, run_sizeOf w1 hi]
            refine ⟨_, _, pr xs, pr ys, ?_⟩
            have hfo : P.fieldsOf t = fs := by simp [Program.fieldsOf, hk]
            rw [run_equalIn_struct w1 d t _ _ (by rw [hfo]; exact hk) hst, hfo]
            refine fields_eq (sh := eqT P n) (fun {t' ks' off' as' bs' r'} q1 q2 q3 q4 q5 => eqT_sound n (by omega) q1 q2 q3 q4 q5) hf (ha.extract (by omega)) (hb.extract (by omega)) he
          · simp at h
        · simp at h
      · simp at h
    · simp at h
theorem binaV_sound' {n : Nat} (hn : n ≤ 9999) {op : BinOp} {t : TypeId} {ks : List EqK} (hg : P.eqGuardType P.depth t = false) (hk : eqT P (n + 1) t = some ks) (hag : isAggT P t = true) {x y z : V} {vx vy : Value} (ox oy : Operand) (hx : RepE w X H ρ x vx) (hy : RepE w X H ρ y vy) (he : binaV op ks x y = some z) :
    ∃ u, (do eqGuard op t ox oy vx vy; binOp op t vx vy : Sem Value).run P w1 = .ok u w1 ∧ RepE w X H ρ z u := by
  obtain ⟨fs, hu⟩ : ∃ fs, P.underlying t = some (.struct fs) := by
    unfold isAggT at hag
    split at hag
    · rename_i fs h; exact ⟨fs, h⟩
    · simp at hag
  unfold binaV at he
  split at he
  · rename_i as bs ha hb
    obtain ⟨us, rfl, s1, c1⟩ := aggCells_sound hx ha
    obtain ⟨vs, rfl, s2, c2⟩ := aggCells_sound hy hb
    have key : ∀ r, eqC ks as bs = some r → (Op.equal t (.agg us) (.agg vs)).run P w1 = .ok r w1 := fun r hr => by
      obtain ⟨l1, l2⟩ := eqC_len hr
      simp only [eqT, hu] at hk
      split at hk
      · rename_i hst
        split at hk
        · rename_i k hf
          split at hk
          · rename_i hl
            obtain rfl := Option.some.inj hk
            have hfo : P.fieldsOf t = fs := by simp [Program.fieldsOf, hu]
            have rep : ∀ {ws : Array Value} {cs : List V}, ws.size = cs.length → (∀ (i : Nat) (x : V) (u : Value), cs[i]? = some x → ws[i]? = some u → RepE w X H ρ x u) → CellsRep w X H ρ ws 0 cs := fun {ws cs} hs hc i x hx => by
              have hi : i < cs.length := (List.getElem?_eq_some_iff.1 hx).1
              refine ⟨_, ?_, hc i x _ hx (Array.getElem?_eq_getElem (by omega))⟩
              rw [Nat.zero_add]; exact Array.getElem?_eq_getElem (by omega)
            show (Op.equalIn (9999 + 1) t (.agg us) (.agg vs)).run P w1 = .ok r w1
            rw [run_equalIn_struct w1 9999 t _ _ (by rw [hfo]; exact hu) hst, hfo]
            exact fields_eq (sh := eqT P n) (fun {t' ks' off' as' bs' r'} q1 q2 q3 q4 q5 => eqT_sound n (by omega) q1 q2 q3 q4 q5) hf (rep s1 c1) (rep s2 c2) hr
          · simp at hk
        · simp at hk
      · simp at hk
    split at he
    · rename_i r hr
      obtain rfl := Option.some.inj he
      refine ⟨.bool r, ?_, mk_bool _⟩
      have e1 : (Op.equal t (.agg us) (.agg vs)).run P w1 = .ok r w1 := key r hr
      have eg : ∀ o, (eqGuard o t ox oy (.agg us) (.agg vs)).run P w1 = .ok () w1 := fun o => by cases o <;> simp [eqGuard, run_program, hg]
      simp only [Sem.run_bind, eg, Result.andThen_ok, binOp, e1, Sem.run_pure]
    · rename_i r hr
      obtain rfl := Option.some.inj he
      refine ⟨.bool (!r), ?_, mk_bool _⟩
      have e1 : (Op.equal t (.agg us) (.agg vs)).run P w1 = .ok r w1 := key r hr
      have eg : ∀ o, (eqGuard o t ox oy (.agg us) (.agg vs)).run P w1 = .ok () w1 := fun o => by cases o <;> simp [eqGuard, run_program, hg]
      simp only [Sem.run_bind, eg, Result.andThen_ok, binOp, e1, Sem.run_pure]
    · simp at he
  · simp at he
theorem binaV_sound {op : BinOp} {t : TypeId} {ks : List EqK} (hg : P.eqGuardType P.depth t = false) (hk : eqT P 20 t = some ks) (hag : isAggT P t = true) {x y z : V} {vx vy : Value} (ox oy : Operand) (hx : RepE w X H ρ x vx) (hy : RepE w X H ρ y vy) (he : binaV op ks x y = some z) :
    ∃ u, (do eqGuard op t ox oy vx vy; binOp op t vx vy : Sem Value).run P w1 = .ok u w1 ∧ RepE w X H ρ z u := binaV_sound' (n := 19) (by omega) hg hk hag ox oy hx hy he
theorem binaV_goes {op : BinOp} {t : TypeId} {ks : List EqK} (hg : P.eqGuardType P.depth t = false) (hk : eqT P 20 t = some ks) (hag : isAggT P t = true) {x y z : V} {vx vy : Value} (ox oy : Operand) (hx : RepE w X H ρ x vx) (hy : RepE w X H ρ y vy) (he : binaV op ks x y = some z) :
    ∃ u, Goes Qw P (do eqGuard op t ox oy vx vy; binOp op t vx vy) u ∧ RepE w X H ρ z u := by
  have key : ∃ r, z = .val (.bool r) := by
    unfold binaV at he
    split at he
    · split at he
      · exact ⟨_, (Option.some.inj he).symm⟩
      · exact ⟨_, (Option.some.inj he).symm⟩
      · simp at he
    · simp at he
  obtain ⟨r, rfl⟩ := key
  refine ⟨.bool r, fun w1 _ => ?_, mk_bool _⟩
  obtain ⟨u, h1, h2⟩ := binaV_sound (w1 := w1) hg hk hag ox oy hx hy he
  obtain rfl := rep_bool h2
  exact h1
end
end Go.Proofs.Ytpbonfgmiffomaa.Wm
set_option linter.unusedSimpArgs false
set_option linter.unusedVariables false
namespace Go.Proofs.Ytpbonfgmiffomaa.Wm
open Go
section
variable {P : Program} {G : Nat → Option (List D)} {w0 : World} {L X0 : Nat → Prop} {w : World} {tm : Array Value} {fr : Fr} {ρ : Place} {X : K → Nat → Prop} {H : Heap} {Qw : World → Prop}
theorem od_sound {a : Act} (h : FR G w0 L X0 w a.tmps fr ρ) {t : TypeId} {x : Operand} {y : Od} (he : od P t x = some y) : RepE w (XX w0 X0 fr.heap ρ) fr.heap ρ (oval G fr.env y) (a.eval x) := by
  unfold od at he
  split at he
  · obtain rfl := Option.some.inj he
    simp only [oval]
    split
    · rename_i z hz; exact h.env _ z hz
    · exact .dead _
  · rename_i f
    obtain rfl := Option.some.inj he
    exact .val _ _ (.fn f [] #[] rfl (by simp))
  · rename_i g
    obtain rfl := Option.some.inj he
    simp only [oval]
    split
    · rename_i cs hcs; exact .val _ _ (h.gl g cs hcs).1
    · exact .dead _
  · obtain rfl := Option.some.inj he; exact mk_int _ _
  · obtain rfl := Option.some.inj he; exact mk_bool _
  · rename_i s
    obtain rfl := Option.some.inj he
    have : RepE w (XX w0 X0 fr.heap ρ) fr.heap ρ (.val (.str s.data.toList)) (.string ⟨s.data.toList.toArray⟩) := mk_str _
    exact this
  · split at he
    · obtain rfl := Option.some.inj he; exact .emp _ _
    · simp at he
  · obtain rfl := Option.some.inj he; exact .val _ _ .err0
  · obtain rfl := Option.some.inj he; exact .val _ _ (.gone _)
  · simp at he
theorem odL_sound {a : Act} (h : FR G w0 L X0 w a.tmps fr ρ) : ∀ {ts : List TypeId} {xs : List Operand} {ys : List Od}, odL P ts xs = some ys → ys.length = xs.length ∧ ∀ (i : Nat) (y : Od) (x : Operand), ys[i]? = some y → xs[i]? = some x → RepE w (XX w0 X0 fr.heap ρ) fr.heap ρ (oval G fr.env y) (a.eval x)
  | t :: ts, x :: xs, ys, he => by
    simp only [odL] at he
    split at he
    · rename_i y hy
      split at he
      · rename_i ys' hys
        obtain rfl := Option.some.inj he
        obtain ⟨k1, k2⟩ := odL_sound h hys
        refine ⟨by simp [k1], fun i y' x' h1 h2 => ?_⟩
        cases i with
        | zero => simp at h1 h2; subst h1; subst h2; exact od_sound h hy
        | succ i => exact k2 i y' x' (by simpa using h1) (by simpa using h2)
      · simp at he
    · simp at he
  | [], [], ys, he => by simp only [odL] at he; obtain rfl := Option.some.inj he; exact ⟨rfl, fun i y x h1 => by simp at h1⟩
  | t :: ts, [], ys, he => by simp only [odL] at he; obtain rfl := Option.some.inj he; exact ⟨rfl, fun i y x h1 => by simp at h1⟩
  | [], x :: xs, ys, he => by simp [odL] at he
theorem optArg {a : Act} (h : FR G w0 L X0 w a.tmps fr ρ) {t : TypeId} {x : Option Operand} {ys : List Od} (he : odL P (x.toList.map fun _ => t) x.toList = some ys) :
    (∀ y, (ys[0]?).map (oval G fr.env) = some y → ∃ u, x.map a.eval = some u ∧ RepE w (XX w0 X0 fr.heap ρ) fr.heap ρ y u) ∧ ((ys[0]?).map (oval G fr.env) = none → x.map a.eval = none) := by
  obtain ⟨k1, k2⟩ := odL_sound h he
  cases x with
  | none =>
    simp at k1
    subst k1
    simp
  | some x =>
    obtain ⟨y, rfl⟩ : ∃ y, ys = [y] := by
      cases ys with
      | nil => simp at k1
      | cons y l => cases l with
        | nil => exact ⟨y, rfl⟩
        | cons _ _ => simp at k1
    have := k2 0 y x rfl rfl
    refine ⟨fun z hz => ?_, by simp⟩
    simp at hz
    subst hz
    exact ⟨_, rfl, this⟩
theorem lenV_sound (h : FR G w0 L X0 w tm fr ρ) {t e ty : TypeId} (hu : P.underlying t = some (.slice e)) {x y : V} {v : Value} (hx : RepE w (XX w0 X0 fr.heap ρ) fr.heap ρ x v) (he : lenV fr.heap x = some y) :
    ∃ u, Goes Qw P (Builtin.len_ #[t] ty #[v]) u ∧ RepE w (XX w0 X0 fr.heap ρ) fr.heap ρ y u := by
  have go : ∀ A (n : Nat) c, v = .slice A n c → ∃ u, Goes Qw P (Builtin.len_ #[t] ty #[v]) u ∧ RepE w (XX w0 X0 fr.heap ρ) fr.heap ρ (.val (.int .i64 n)) u := fun A n c hv => by
    subst hv
    exact ⟨_, fun _ _ => by simp [Builtin.len_, run_underlying hu, goInt], mk_int _ _⟩
  unfold lenV at he
  split at he
  · split at he
    · rename_i hb
      obtain rfl := Option.some.inj he
      obtain ⟨_, A, c, hv, _⟩ := sl_open hx hb
      exact go _ _ _ hv
    · simp at he
  · obtain rfl := Option.some.inj he
    cases hx with
    | val d v hx =>
      cases hx with
      | sh k sz els A c vf hk hc hz hm hh => exact go _ _ _ rfl
      | shn k sz hk => exact go _ _ _ rfl
  · obtain rfl := Option.some.inj he
    cases hx with
    | emp sz a => exact go _ _ _ rfl
  · simp at he
theorem bineV_sound {op : BinOp} {t : TypeId} (hu : isIface P t = true) {x y z : V} {vx vy : Value} (ox oy : Operand) (hn : isNilC oy = true) (hx : RepE w X H ρ x vx) (hy : RepE w X H ρ y vy) (he : bineV op x y = some z) :
    ∃ u, Goes Qw P (do eqGuard op t ox oy vx vy; binOp op t vx vy) u ∧ RepE w X H ρ z u := by
  unfold isIface at hu
  split at hu
  · rename_i ms hu'
    have hoy : oy = .const .nilIface := by
      unfold isNilC at hn
      split at hn
      · rfl
      · simp at hn
    subst hoy
    have g : ∀ w', (eqGuard op t ox (.const .nilIface) vx .nilIface).run P w' = .ok () w' := fun w' => by
      cases op
      case eql => cases vx <;> simp [eqGuard]
      case neq => cases vx <;> simp [eqGuard]
      all_goals rfl
    unfold bineV at he
    split at he
    · rename_i a
      obtain rfl : vy = .nilIface := by
        cases hy with
        | val d v h => cases h; rfl
      have eq : ∀ w', (Op.equal t vx .nilIface).run P w' = .ok a w' := fun w' => by
        cases hx with
        | val d v h =>
          unfold Op.equal Op.maxDepth Op.equalIn
          simp only [Sem.run_bind, run_underlying hu', Result.andThen_ok]
          cases h <;> rfl
      have nb : ∀ w', (binOp .eql t vx .nilIface).run P w' = .ok (.bool a) w' ∧ (binOp .neq t vx .nilIface).run P w' = .ok (.bool (!a)) w' := fun w' => by
        have hv : vx = .nilIface ∨ ∃ t v, vx = .iface t v := by
          cases hx with
          | val d v h =>
            cases h with
            | err0 => exact .inl rfl
            | err1 t v => exact .inr ⟨t, v, rfl⟩
        rcases hv with rfl | ⟨t', v', rfl⟩ <;> simp [binOp, eq w']
      split at he
      · obtain rfl := Option.some.inj he
        exact ⟨_, fun w' _ => by simp only [Sem.run_bind, g w', Result.andThen_ok, (nb w').1], mk_bool _⟩
      · obtain rfl := Option.some.inj he
        exact ⟨_, fun w' _ => by simp only [Sem.run_bind, g w', Result.andThen_ok, (nb w').2], mk_bool _⟩
      · simp at he
    · simp at he
  · simp at hu
theorem nilV_sound (h : FR G w0 L X0 w tm fr ρ) {op : BinOp} {t : TypeId} (hu : isSliceT P t = true) (hop : cmpOp op = true) {x z : V} {vx vy : Value} (ox oy : Operand) (hn : isNilS oy = true) (hx : RepE w (XX w0 X0 fr.heap ρ) fr.heap ρ x vx) (hy : ∀ (c : Value), oy = .const c → vy = c)
    (he : nilV fr.heap (decide (op = .neq)) x = some z) :
    ∃ u, Goes Qw P (do eqGuard op t ox oy vx vy; binOp op t vx vy) u ∧ RepE w (XX w0 X0 fr.heap ρ) fr.heap ρ z u := by
  unfold isSliceT at hu
  split at hu
  · rename_i e hu'
    have hoy : oy = .const (.slice none 0 0) := by
      unfold isNilS at hn
      split at hn
      · rfl
      · simp at hn
    obtain rfl := hy _ hoy
    have eq : ∀ {A : Option Addr} {n c : Nat} (w' : World), (Op.equal t (.slice A n c) (.slice none 0 0)).run P w' = .ok A.isNone w' := fun {A n c} w' => by
      unfold Op.equal Op.maxDepth Op.equalIn
      simp only [Sem.run_bind, run_underlying hu', Result.andThen_ok]
      cases A <;> rfl
    have key : ∀ {A : Option Addr} {n c : Nat}, vx = .slice A n c → Goes Qw P (do eqGuard op t ox oy vx (.slice none 0 0); binOp op t vx (.slice none 0 0)) (.bool (A.isNone != decide (op = .neq))) := fun {A n c} e w' _ => by
      subst e
      simp only [Sem.run_bind, guard_pure (P := P) (op := op) (t := t) (x := ox) (y := oy) (a := .slice A n c) (b := .slice none 0 0) trivial, Result.andThen_ok]
      cases op <;> simp [cmpOp] at hop <;> simp [binOp, eq w']
    have some_ : ∀ {A : Addr} {n c : Nat}, vx = .slice (some A) n c → Goes Qw P (do eqGuard op t ox oy vx (.slice none 0 0); binOp op t vx (.slice none 0 0)) (.bool (decide (op = .neq))) := fun {A n c} e => by
      have := key e
      simpa using this
    unfold nilV at he
    split at he
    · obtain rfl := Option.some.inj he
      cases hx with
      | emp sz a => exact ⟨_, key rfl, .anyb _⟩
    · rename_i b o n
      split at he
      · rename_i old sz els hb
        obtain ⟨s1, A, c, rfl, s3, s4⟩ := sl_open hx hb
        split at he
        · obtain rfl := Option.some.inj he
          exact ⟨_, key rfl, .anyb _⟩
        · rename_i hn0
          obtain rfl := Option.some.inj he
          rcases s4 with rfl | ⟨g, k, _, rfl, _⟩
          · omega
          · exact ⟨_, some_ rfl, mk_bool _⟩
      · simp at he
    · split at he
      · obtain rfl := Option.some.inj he
        cases hx with
        | val d v hd =>
          cases hd with
          | sh k sz els A c vf hk hc hz hm hh => exact ⟨_, key rfl, .anyb _⟩
          | shn k sz hk => exact ⟨_, key rfl, .anyb _⟩
      · rename_i hne
        obtain rfl := Option.some.inj he
        cases hx with
        | val d v hd =>
          cases hd with
          | sh k sz els A c vf hk hc hz hm hh => exact ⟨_, some_ rfl, mk_bool _⟩
          | shn k sz hk => simp at hne
    · simp at he
  · simp at hu
theorem buildS_sound {t : TypeId} {fs : Array Field} {zs : List V} {ps : List Part} {parts : Array (Nat × Operand)} {f : Od → V} {ev : Operand → Value} (hz : zeros P t = some zs) (hu : P.underlying t = some (.struct fs)) (hall : fs.toList.all (fun f => P.cellsOf f.type != 0) = true)
    (hp : partsS P fs parts.toList = some ps) (hr : ∀ (t : TypeId) (x : Operand) (y : Od), od P t x = some y → RepE w X H ρ (f y) (ev x)) {cs : List V} (he : fillV f zs ps = some cs) :
    ∃ u, Goes Qw P (Instr.build t (parts.map fun p => (p.1, ev p.2))) u ∧ RepE w X H ρ (.agg cs) u := by
  obtain ⟨i, z, hi, hzz, hc0⟩ := zeros_spec (w := w) (X := X) (H := H) (ρ := ρ) hz
  obtain ⟨k1, k2⟩ := partsS_spec hp
  obtain ⟨us', g1, g2, _⟩ := fill_sound (place := fun i => match fs[i]? with | some f => some (f.offset, P.cellsOf f.type) | none => none) ps (parts.map fun p => (p.1, ev p.2)).toList hc0 (by simpa using k1) (fun j p q hp' hq' => by
    simp only [Array.toList_map, List.getElem?_map, Option.map_eq_some_iff] at hq'
    obtain ⟨q0, hq0, rfl⟩ := hq'
    obtain ⟨fd, b1, b2, b3, b4⟩ := k2 j p q0 hp' hq0
    simp only [b1]
    exact ⟨by rw [b2, b3], hr _ _ _ b4⟩) he
  refine ⟨.agg us', fun w' _ => run_build w' t _ us' ?_, .agg _ _ g2.1 g2.2⟩
  unfold Program.built
  have hall' : ∀ f ∈ fs.toList, P.cellsOf f.type ≠ 0 := fun f hf => by
    have := List.all_eq_true.1 hall f hf
    simpa using this
  simp only [hi, hu, hzz, places_map fs.toList hall']
  have e : (fun x : Nat => (fs.toList.map fun f : Field => (f.offset, P.cellsOf f.type)).toArray[x]?) = fun i => match fs[i]? with | some f => some (f.offset, P.cellsOf f.type) | none => none := by
    funext i
    simp only [List.getElem?_toArray, List.getElem?_map, Array.getElem?_toList]
    cases fs[i]? <;> rfl
  rw [e]; exact g1
theorem buildA_sound {t e : TypeId} {n : Nat} {zs : List V} {ps : List Part} {parts : Array (Nat × Operand)} {f : Od → V} {ev : Operand → Value} (hz : zeros P t = some zs) (hu : P.underlying t = some (.array n e)) (hne : P.cellsOf e ≠ 0)
    (hp : partsA P e parts.toList = some ps) (hr : ∀ (t : TypeId) (x : Operand) (y : Od), od P t x = some y → RepE w X H ρ (f y) (ev x)) {cs : List V} (he : fillV f zs (ps.map fun p => ⟨p.at_ * P.cellsOf e, p.s, p.x⟩) = some cs) :
    ∃ u, Goes Qw P (Instr.build t (parts.map fun p => (p.1, ev p.2))) u ∧ RepE w X H ρ (.agg cs) u := by
  obtain ⟨i, z, hi, hzz, hc0⟩ := zeros_spec (w := w) (X := X) (H := H) (ρ := ρ) hz
  obtain ⟨k1, k2⟩ := partsA_spec hp
  obtain ⟨us', g1, g2, _⟩ := fill_sound (place := fun i => some (i * P.cellsOf e, P.cellsOf e)) (ps.map fun p => ⟨p.at_ * P.cellsOf e, p.s, p.x⟩) (parts.map fun p => (p.1, ev p.2)).toList hc0 (by simpa using k1) (fun j p q hp' hq' => by
    simp only [Array.toList_map, List.getElem?_map, Option.map_eq_some_iff] at hq' hp'
    obtain ⟨q0, hq0, rfl⟩ := hq'
    obtain ⟨p0, hp0, rfl⟩ := hp'
    obtain ⟨b2, b3, b4⟩ := k2 j p0 q0 hp0 hq0
    exact ⟨by rw [b2, b3], hr _ _ _ b4⟩) he
  refine ⟨.agg us', fun w' _ => run_build w' t _ us' ?_, .agg _ _ g2.1 g2.2⟩
  obtain ⟨ie, hie⟩ := info_of_cells hne
  have hs : P.cellsOf e = ie.size := by simp [Program.cellsOf, hie]
  unfold Program.built
  simp only [hi, hu, hzz, hie]
  rw [hs] at g1; exact g1
def reads : I → Bool
  | .ld .. => true
  | .cvs .. => true
  | _ => false
theorem evq_sound' {a : Act} (h : FR G w0 L X0 w a.tmps fr ρ) {o : Oper} {i : I} {y : V} (hc : conv1 P o = some i) (he : evq fr.heap (oval G fr.env) i = some y) (hQ : reads i = true → ∀ w', Qw w' → Ext w w') :
    ∃ u, (∀ w', Qw w' → (execOp a.eval o).run P w' = .ok (.value u) w') ∧ RepE w (XX w0 X0 fr.heap ρ) fr.heap ρ y u := by
  have lift : ∀ {s : Sem Value}, (∃ u, Goes Qw P s u ∧ RepE w (XX w0 X0 fr.heap ρ) fr.heap ρ y u) → ∃ u, (∀ w', Qw w' → (do pure (.value (← s)) : Sem Next).run P w' = .ok (.value u) w') ∧ RepE w (XX w0 X0 fr.heap ρ) fr.heap ρ y u := by
    rintro s ⟨u, hu, hr⟩
    exact ⟨u, fun w' hw => by simp [hu w' hw], hr⟩
  have od1 : ∀ {t : TypeId} {x : Operand} {z : Od}, od P t x = some z → RepE w (XX w0 X0 fr.heap ρ) fr.heap ρ (oval G fr.env z) (a.eval x) := fun hz => od_sound h hz
  obtain ⟨dst, op, type, pos, after, guard⟩ := o
  cases op <;> simp only [conv1] at hc
  case move x =>
    obtain ⟨z, hz, rfl⟩ := Option.map_eq_some_iff.1 hc
    simp only [evq] at he
    obtain rfl := Option.some.inj he
    exact ⟨_, fun _ _ => rfl, od1 hz⟩
  case assign x =>
    obtain ⟨z, hz, rfl⟩ := Option.map_eq_some_iff.1 hc
    simp only [evq] at he
    obtain rfl := Option.some.inj he
    exact ⟨_, fun _ _ => rfl, od1 hz⟩
  case pick c x z =>
    split at hc
    · rename_i c' x' z' h1 h2 h3
      obtain rfl := Option.some.inj hc
      simp only [evq] at he
      split at he
      · rename_i t ht
        obtain rfl := Option.some.inj he
        have hv : a.eval c = .bool t := by have := od1 h1; rw [ht] at this; exact rep_bool this
        refine ⟨if t then a.eval x else a.eval z, fun w' _ => ?_, ?_⟩
        · unfold execOp
          simp [hv, asBool]
        · cases t
          · exact od1 h3
          · exact od1 h2
      · simp at he
    · simp at hc
  case load t x =>
    split at hc
    · rename_i s x' h1 h2
      split at hc
      · obtain rfl := Option.some.inj hc
        exact lift (loadV_sound (hQ rfl) h h1 (od1 h2) he)
      · simp at hc
    · simp at hc
  case fieldAddr t x f =>
    split at hc
    · rename_i k u x' h1 h2
      obtain rfl := Option.some.inj hc
      simp only [evq] at he
      obtain ⟨g, o, hv, hr⟩ := fadV_open (od1 h2) he
      exact lift ⟨_, fun w' _ => by rw [hv]; exact r_fieldAt h1, hr⟩
    · simp at hc
  case field t x f =>
    split at hc
    · rename_i k u x' h1 h2
      split at hc
      · rename_i s h3
        split at hc
        · obtain rfl := Option.some.inj hc
          exact lift (fld_sound h1 h3 (od1 h2) he)
        · simp at hc
      · simp at hc
    · simp at hc
  case nilCheck x =>
    obtain ⟨z, hz, rfl⟩ := Option.map_eq_some_iff.1 hc
    have hx := od1 hz
    simp only [evq] at he
    have fin : ∀ A, a.eval x = .pointer (some A) → RepE w (XX w0 X0 fr.heap ρ) fr.heap ρ y (a.eval x) → ∃ u, (∀ w', Qw w' → (execOp a.eval ⟨dst, .nilCheck x, type, pos, after, guard⟩).run P w' = .ok (.value u) w') ∧ RepE w (XX w0 X0 fr.heap ρ) fr.heap ρ y u := fun A hA hr =>
      ⟨_, fun w' _ => by simp [execOp, hA], hr⟩
    split at he
    · rename_i b o hv
      split at he
      · rename_i ol cs hb
        obtain rfl := Option.some.inj he
        rw [hv] at hx
        obtain ⟨g, k, _, hs⟩ := pt_open hx hb
        exact fin _ hs hx
      · simp at he
    · rename_i b i o hv
      split at he
      · rename_i ol sz els hb
        obtain rfl := Option.some.inj he
        rw [hv] at hx
        obtain ⟨g, k, _, hs⟩ := ep_open hx hb
        exact fin _ hs hx
      · simp at he
    · rename_i cs hv
      obtain rfl := Option.some.inj he
      rw [hv] at hx
      have : ∃ A, a.eval x = .pointer (some A) := by
        generalize a.eval x = q at hx
        cases hx with
        | val d v hx => cases hx with
          | ptr cs A vf hm hh => exact ⟨A, rfl⟩
      obtain ⟨A, hA⟩ := this
      exact fin A hA hx
    · simp at he
  case extract x i =>
    obtain ⟨z, hz, rfl⟩ := Option.map_eq_some_iff.1 hc
    exact lift (ext_sound (od1 hz) he)
  case indexAddr t x i =>
    split at hc
    · rename_i x' i' h1 h2
      split at hc
      · rename_i e hu
        split at hc
        · simp at hc
        · rename_i hz
          obtain rfl := Option.some.inj hc
          exact lift (iadV_sound h hu hz (od1 h1) (od1 h2) he)
      · rename_i n e hu
        split at hc
        · simp at hc
        · rename_i hz
          obtain rfl := Option.some.inj hc
          exact lift (iadaV_sound hu hz (od1 h1) (od1 h2) he)
      · simp at hc
    · simp at hc
  case index t x i =>
    split at hc
    · rename_i x' i' h1 h2
      split at hc
      · rename_i hu
        obtain rfl := Option.some.inj hc
        exact lift (sidxV_sound hu (od1 h1) (od1 h2) he)
      · rename_i n e hu
        split at hc
        · rename_i s hs
          split at hc
          · rename_i hcond
            obtain rfl := Option.some.inj hc
            exact lift (idxV_sound hu hcond.2 hs (od1 h1) (od1 h2) he)
          · simp at hc
        · simp at hc
      · simp at hc
    · simp at hc
  case slice t x lo hi mx =>
    split at hc
    · rename_i x' lo' hi' mx' h1 h2 h3 h4
      obtain ⟨l1, l2⟩ := optArg h h2
      obtain ⟨i1, i2⟩ := optArg h h3
      obtain ⟨m1, m2⟩ := optArg h h4
      split at hc
      · rename_i e hu
        split at hc
        · simp at hc
        · rename_i hz
          obtain rfl := Option.some.inj hc
          exact lift (sliV_sound h hu hz (od1 h1) i1 i2 l1 l2 m1 m2 he)
      · rename_i hu
        split at hc
        · rename_i hm
          obtain rfl := Option.some.inj hc
          have hmx : mx = none := by
            cases mx with
            | none => rfl
            | some m =>
              obtain ⟨k1, _⟩ := odL_sound h h4
              simp at hm
              rw [hm] at k1; simp at k1
          subst hmx
          exact lift (sslV_sound hu (od1 h1) i1 i2 l1 l2 he)
        · simp at hc
      · rename_i n e hu
        split at hc
        · rename_i hm
          obtain ⟨⟨hz, hn⟩, rfl, rfl, rfl⟩ := hm
          obtain rfl := Option.some.inj hc
          have none_of : ∀ {o : Option Operand}, odL P (o.toList.map fun _ => t) o.toList = some [] → o = none := fun {o} q => by
            cases o with
            | none => rfl
            | some m =>
              obtain ⟨k1, _⟩ := odL_sound h q
              simp at k1
          obtain rfl := none_of h2
          obtain rfl := none_of h3
          obtain rfl := none_of h4
          exact lift (slaV_sound h hu hz hn (od1 h1) he)
        · simp at hc
      · simp at hc
    · simp at hc
  case binOp b t x z tz =>
    split at hc
    · rename_i x' z' h1 h2
      split at hc
      · rename_i hb
        have hu : P.underlying t = some .bool := by
          unfold isBoolT at hb
          split at hb
          · assumption
          · simp at hb
        split at hc
        · obtain rfl := Option.some.inj hc
          exact lift (binbV_sound hu x z (od1 h1) (od1 h2) he)
        · simp at hc
      · split at hc
        · rename_i hif
          split at hc
          · rename_i hcmp
            simp only [Bool.and_eq_true] at hcmp
            obtain rfl := Option.some.inj hc
            exact lift (bineV_sound hif x z hcmp.2 (od1 h1) (od1 h2) he)
          · simp at hc
        · split at hc
          · rename_i hag
            split at hc
            · rename_i ks hks
              split at hc
              · rename_i hcc
                simp only [Bool.and_eq_true, Bool.not_eq_true'] at hcc
                obtain rfl := Option.some.inj hc
                exact lift (binaV_goes hcc.2 hks hag x z (od1 h1) (od1 h2) he)
              · simp at hc
            · simp at hc
          · split at hc
            · rename_i hsl
              split at hc
              · rename_i hcc
                simp only [Bool.and_eq_true] at hcc
                obtain rfl := Option.some.inj hc
                exact lift (nilV_sound h hsl hcc.1 x z hcc.2 (od1 h1) (fun c e => by rw [e]; rfl) he)
              · simp at hc
            · obtain rfl := Option.some.inj hc
              exact lift (binV_sound x z (od1 h1) (od1 h2) he)
    · simp at hc
  case unOp b t x =>
    obtain ⟨z, hz, rfl⟩ := Option.map_eq_some_iff.1 hc
    exact lift (unV_sound (od1 hz) he)
  case convert s d x =>
    split at hc
    · rename_i ks k x' h1 h2 h3
      obtain rfl := Option.some.inj hc
      exact lift (cviV_sound h1 h2 (od1 h3) he)
    · rename_i e x' h1 h2 h3
      split at hc
      · rename_i hu
        have hu' : P.underlying e = some (.int .u8) := by
          unfold isByteT at hu
          split at hu
          · assumption
          · simp at hu
        obtain rfl := Option.some.inj hc
        exact lift (cvsV_sound (hQ rfl) h h1 h2 hu' (od1 h3) he)
      · simp at hc
    · simp at hc
  case build t parts =>
    split at hc
    · rename_i zs hz
      split at hc
      · rename_i fs hu
        split at hc
        · rename_i hall
          obtain ⟨ps, hps, rfl⟩ := Option.map_eq_some_iff.1 hc
          simp only [evq] at he
          split at he
          · rename_i cs hcs
            obtain rfl := Option.some.inj he
            exact lift (buildS_sound hz hu hall hps (fun t x y hy => od1 hy) hcs)
          · simp at he
        · simp at hc
      · rename_i n e hu
        split at hc
        · rename_i ps hps
          split at hc
          · rename_i hne
            obtain rfl := Option.some.inj hc
            simp only [evq] at he
            split at he
            · rename_i cs hcs
              obtain rfl := Option.some.inj he
              exact lift (buildA_sound hz hu hne hps (fun t x y hy => od1 hy) hcs)
            · simp at he
          · simp at hc
        · simp at hc
      · simp at hc
    · simp at hc
  case makeFunc fn first cap =>
    cases fn <;> simp only at hc <;> try (simp at hc; done)
    rename_i f
    split at hc
    · rename_i hf
      subst hf
      obtain ⟨zs, hzs, rfl⟩ := Option.map_eq_some_iff.1 hc
      simp only [evq] at he
      obtain rfl := Option.some.inj he
      obtain ⟨k1, k2⟩ := odL_sound h hzs
      refine ⟨.func (.func f) #[] (cap.map a.eval), fun _ _ => by simp [execOp, Instr.makeFunc], .fn f _ _ (by simp [k1]) fun i x u hx hu => ?_⟩
      simp only [List.getElem?_map, Option.map_eq_some_iff, Array.getElem?_map] at hx hu
      obtain ⟨z, hz, rfl⟩ := hx
      obtain ⟨b, hb, rfl⟩ := hu
      exact k2 i z b hz (by simpa using hb)
    · simp at hc
  case call c =>
    obtain ⟨callee, args, ts⟩ := c
    cases callee with
    | builtin b =>
      cases b <;> simp only at hc <;> try (simp at hc; done)
      case len =>
        unfold convLen at hc
        split at hc
        · rename_i t x hts hxs
          have ha : args = #[x] := by simpa using congrArg List.toArray hxs
          have ht : ts = #[t] := by simpa using congrArg List.toArray hts
          subst ha ht
          split at hc
          · rename_i x' e h1 hu
            obtain rfl := Option.some.inj hc
            obtain ⟨u, k1, k2⟩ := lenV_sound (Qw := Qw) (ty := type) h hu (od1 h1) he
            exact ⟨u, fun w' hw => by simp [execOp, resolve, invoke, builtin, k1 w' hw], k2⟩
          · rename_i x' h1 hu
            obtain rfl := Option.some.inj hc
            simp only [evq, lensV] at he
            split at he
            · rename_i s hs
              obtain rfl := Option.some.inj he
              have hv := od1 h1
              rw [hs] at hv
              have hv' := rep_str hv
              have hsz : (⟨s.toArray⟩ : ByteArray).size = s.length := by simp [ByteArray.size]
              exact ⟨.int .i64 s.length, fun w' _ => by simp [execOp, resolve, invoke, builtin, Builtin.len_, run_underlying hu, hv', goInt, hsz], mk_int _ _⟩
            · simp at he
          · rename_i x' n e h1 hu
            obtain rfl := Option.some.inj hc
            simp only [evq] at he
            obtain rfl := Option.some.inj he
            exact ⟨_, fun w' _ => by simp [execOp, resolve, invoke, builtin, Builtin.len_, run_underlying hu, goInt], mk_int _ _⟩
          · simp at hc
        · simp at hc
      case cap =>
        unfold convCap at hc
        split at hc
        · rename_i t x hts hxs
          have ha : args = #[x] := by simpa using congrArg List.toArray hxs
          have ht : ts = #[t] := by simpa using congrArg List.toArray hts
          subst ha ht
          split at hc
          · rename_i x' e h1 hu
            obtain rfl := Option.some.inj hc
            simp only [evq] at he
            split at he
            · rename_i sz hs
              obtain rfl := Option.some.inj he
              have hv := od1 h1
              rw [hs] at hv
              have : ∃ A, a.eval x = .slice A 0 0 := by
                generalize a.eval x = q at hv
                cases hv with
                | emp sz A => exact ⟨A, rfl⟩
              obtain ⟨A, hv'⟩ := this
              exact ⟨_, fun w' _ => by simp [execOp, resolve, invoke, builtin, Builtin.cap_, run_underlying hu, hv', goInt], mk_int _ _⟩
            · simp at he
          · simp at hc
        · simp at hc
      case max =>
        obtain ⟨zs, hzs, rfl⟩ := Option.map_eq_some_iff.1 hc
        obtain ⟨k1, k2⟩ := odL_sound h hzs
        obtain ⟨u, hu, hr⟩ := minMax_sound (P := P) (w := w) (mx := true) _ rfl (us := args.toList.map a.eval) (by simp [k1]) (fun j x u hx hu => by
          simp only [List.getElem?_map, Option.map_eq_some_iff] at hx hu
          obtain ⟨z, hz, rfl⟩ := hx
          obtain ⟨b, hb, rfl⟩ := hu
          exact k2 j z b hz hb) he
        refine ⟨u, ?_, hr⟩
        intro w' hw
        replace hu := hu w' hw
        simp only [execOp, resolve, invoke, builtin, Sem.run_bind, Sem.run_pure, Result.andThen_ok]
        unfold Builtin.max_
        simp only [Array.toList_map]
        cases hl : args.toList with
        | nil => simp [hl] at k1; subst k1; simp [evq, minMax] at he
        | cons a0 l => rw [hl] at hu; simp at hu ⊢; rw [hu]; rfl
      case min =>
        obtain ⟨zs, hzs, rfl⟩ := Option.map_eq_some_iff.1 hc
        obtain ⟨k1, k2⟩ := odL_sound h hzs
        obtain ⟨u, hu, hr⟩ := minMax_sound (P := P) (w := w) (mx := false) _ rfl (us := args.toList.map a.eval) (by simp [k1]) (fun j x u hx hu => by
          simp only [List.getElem?_map, Option.map_eq_some_iff] at hx hu
          obtain ⟨z, hz, rfl⟩ := hx
          obtain ⟨b, hb, rfl⟩ := hu
          exact k2 j z b hz hb) he
        refine ⟨u, ?_, hr⟩
        intro w' hw
        replace hu := hu w' hw
        simp only [execOp, resolve, invoke, builtin, Sem.run_bind, Sem.run_pure, Result.andThen_ok]
        unfold Builtin.min_
        simp only [Array.toList_map]
        cases hl : args.toList with
        | nil => simp [hl] at k1; subst k1; simp [evq, minMax] at he
        | cons a0 l => rw [hl] at hu; simp at hu ⊢; rw [hu]; rfl
      case append =>
        unfold convApp at hc
        split at hc
        · split at hc
          · split at hc
            · split at hc
              · split at hc
                · split at hc
                  · obtain rfl := Option.some.inj hc
                    simp [evq] at he
                  · simp at hc
                · simp at hc
              · simp at hc
            · simp at hc
          · simp at hc
        · simp at hc
      case copy =>
        unfold convCpy at hc
        split at hc
        · split at hc
          · split at hc
            · split at hc
              · split at hc
                · simp at hc
                · obtain rfl := Option.some.inj hc
                  simp [evq] at he
              · simp at hc
            · simp at hc
          · simp at hc
        · simp at hc
    | value f =>
      simp only at hc
      split at hc
      · obtain rfl := Option.some.inj hc
        simp [evq] at he
      · simp at hc
    | _ => simp at hc
  case box t x =>
    split at hc
    · split at hc
      · obtain rfl := Option.some.inj hc; simp [evq] at he
      · simp at hc
    · simp at hc
  case alloc t =>
    obtain ⟨zs, _, rfl⟩ := Option.map_eq_some_iff.1 hc
    simp [evq] at he
  case buildSlice t len parts =>
    split at hc
    · split at hc
      · split at hc
        · split at hc
          · obtain rfl := Option.some.inj hc; simp [evq] at he
          · simp at hc
        · simp at hc
      · simp at hc
    · simp at hc
  case makeSlice t l c =>
    split at hc
    · split at hc
      · split at hc
        · split at hc
          · obtain rfl := Option.some.inj hc; simp [evq] at he
          · simp at hc
        · simp at hc
      · simp at hc
    · simp at hc
  case store t ad x =>
    split at hc
    · split at hc
      · obtain rfl := Option.some.inj hc; simp [evq] at he
      · simp at hc
    · simp at hc
  all_goals first | (simp at hc; done) | (obtain rfl := Option.some.inj hc; simp [evq] at he)
theorem evq_sound {a : Act} (h : FR G w0 L X0 w a.tmps fr ρ) {o : Oper} {i : I} {y : V} (hc : conv1 P o = some i) (he : evq fr.heap (oval G fr.env) i = some y) :
    ∃ u, (∀ w', Ext w w' → (execOp a.eval o).run P w' = .ok (.value u) w') ∧ RepE w (XX w0 X0 fr.heap ρ) fr.heap ρ y u := evq_sound' h hc he fun _ _ h => h
end
end Go.Proofs.Ytpbonfgmiffomaa.Wm
set_option linter.unusedSimpArgs false
set_option linter.unusedVariables false
namespace Go.Proofs.Ytpbonfgmiffomaa.Wm
open Go
def bid (dst : Nat) : Nat := 1000 * (dst + 1)
def plainV (H : Heap) : V → Option (D × Heap)
  | .val d => some (d, H)
  | .emp sz => some (.sh .fresh sz [], H)
  | .fn f [] => some (.fn f [], H)
  | .sl b o n => match look b H with
    | some (.row old sz els) => if noOwnE ((els.drop o).take n) = true then some (.sh (if old = true then .lent else .fresh) sz ((els.drop o).take n), updB b .gone H) else none
    | _ => none
  | _ => none
def plainL (H : Heap) : List V → Option (List D × Heap)
  | [] => some ([], H)
  | x :: xs => match plainV H x with
    | some (d, H1) => match plainL H1 xs with
      | some (ds, H2) => some (d :: ds, H2)
      | none => none
    | none => none
def bslEls (ρ : Od → V) (sz : Nat) (H : Heap) (els : List (List D)) : List Part → Option (List (List D) × Heap)
  | [] => some (els, H)
  | p :: ps => match cellsV p.s (ρ p.x) with
    | some xs => match plainL H xs with
      | some (ds, H1) => if p.at_ < els.length ∧ ds.length = sz then bslEls ρ sz H1 (els.set p.at_ ds) ps else none
      | none => none
    | none => none
def free (id : Nat) (H : Heap) : Bool := match look id H with
  | none => true
  | some _ => false
def evm (ρ : Od → V) (H : Heap) (dst : Nat) : I → Option (V × Heap)
  | .box s x => match cellsV s (ρ x) with
    | some xs => if free (bid dst) H = true then some (.pt (bid dst) 0, (bid dst, .var false xs) :: H) else none
    | none => none
  | .alc zs => if free (bid dst) H = true then some (.pt (bid dst) 0, (bid dst, .var false zs) :: H) else none
  | .bsl sz zs len ps => match bslEls ρ sz H (List.replicate len zs) ps with
    | some (els, H1) => if free (bid dst) H1 = true then some (.sl (bid dst) 0 len, (bid dst, .row false sz els) :: H1) else none
    | none => none
  | .msl sz by_ zs l c => match ρ l, ρ c with
    | .val (.int _ l), .val (.int _ c) => if l = c ∧ 0 ≤ l ∧ (by_ : Int) * l ≤ 281474976710656 ∧ l ≤ 9223372036854775807 ∧ free (bid dst) H = true then some (.sl (bid dst) 0 l.toNat, (bid dst, .row false sz (List.replicate l.toNat zs)) :: H) else none
    | _, _ => none
  | _ => none
section
variable {P : Program} {G : Nat → Option (List D)} {w0 : World} {L X0 X1 : Nat → Prop} {w w' w2 : World} {tm : Array Value} {fr : Fr} {ρ ρ' : Place} {X : K → Nat → Prop} {H : Heap}
theorem Stay.trans {X X' X'' : K → Nat → Prop} (h : Stay w w' X X') (k : Stay w' w2 X' X'') (hs : w.heap.size ≤ w'.heap.size) : Stay w w2 X X'' :=
  ⟨fun q b hb hn => (k.heap q b (Nat.lt_of_lt_of_le hb hs) (fun hx => hn (h.off q b hb hx))).trans (h.heap q b hb hn), fun q b hb hx => h.off q b hb (k.off q b (Nat.lt_of_lt_of_le hb hs) hx)⟩
theorem Stay.refl (w : World) (X : K → Nat → Prop) : Stay w w X X := ⟨fun _ _ _ _ => rfl, fun _ _ _ h => h⟩
theorem HTr.trans {H1 H2 H3 : Heap} {ρ1 ρ2 ρ3 : Place} (h : HTr w w' H1 H2 ρ1 ρ2) (k : HTr w' w2 H2 H3 ρ2 ρ3) : HTr w w2 H1 H3 ρ1 ρ3 := by
  refine ⟨fun g m q => k.own g m (h.own g m q), fun b B hb => ?_⟩
  obtain ⟨B', h1, h2⟩ := h.blk b B hb
  obtain ⟨B'', k1, k2⟩ := k.blk b B' h1
  refine ⟨B'', k1, ?_⟩
  rcases k2 with k2 | ⟨k2, k3⟩
  · exact .inl k2
  · rcases h2 with h2 | ⟨h2, h3⟩
    · exact .inl (k3.trans h2)
    · exact .inr ⟨k2.trans h2, k3.trans h3⟩
theorem chg_alloc (w : World) (o : Obj) : Chg w (w.alloc o) E := by
  refine ⟨rfl, rfl, rfl, by simp, fun b hb _ => heap_alloc_old w o b hb, fun g m hg => ?_⟩
  exact hg.same (heap_alloc_old w o g hg.lt)
def noB : Nat → Prop := fun _ => False
theorem FR.born (h : FR G w0 L X0 w tm fr ρ) (hc : Chg w w' E) {g k : Nat} (hg : w.heap.size ≤ g) (hg' : g < w'.heap.size) {id : Nat} (hid : look id fr.heap = none) {B : Blk}
    (hB : ∀ X' H' ρ', Stay w w' (XX w0 X0 fr.heap ρ) X' → HTr w w' fr.heap H' ρ ρ' → RepB w' X' H' ρ' (some (g, k)) noB B) :
    FR G w0 L X0 w' tm { fr with heap := (id, B) :: fr.heap } (setP id (some (g, k)) noB ρ) ∧ Stay w w' (XX w0 X0 fr.heap ρ) (XX w0 X0 ((id, B) :: fr.heap) (setP id (some (g, k)) noB ρ)) ∧ HTr w w' fr.heap ((id, B) :: fr.heap) ρ (setP id (some (g, k)) noB ρ) := by
  obtain ⟨a1, a2, a3⟩ := h.turn hc (fun b hb => hb.elim) (fun b hb => hb.elim)
  have hn0 : w0.heap.size ≤ g := Nat.le_trans h.chg.size hg
  have hx : ¬ X0 g := fun hx => by have := h.x0 g hx; omega
  have sub : Stay w' w' (XX w0 (fun b => X0 b ∨ (w.heap.size ≤ b ∧ b < w'.heap.size)) fr.heap ρ) (XX w0 X0 ((id, B) :: fr.heap) (setP id (some (g, k)) noB ρ)) := by
    refine ⟨fun _ _ _ _ => rfl, ?_⟩
    rintro q b _ (hx | hx | ⟨b', B', h1, h2, h3⟩)
    · exact .inl (.inl hx)
    · exact .inr (.inl hx)
    · simp only [look] at h1
      split at h1
      · rename_i hs
        subst hs
        rw [setP_blks] at h3
        rcases h3 with ⟨k', h3⟩ | h3
        · obtain ⟨rfl, rfl⟩ : g = b ∧ k = k' := by simpa using h3
          exact .inl (.inr ⟨hg, hg'⟩)
        · exact h3.elim
      · rename_i hs
        rw [setP_blks_ne (fun e => hs e.symm)] at h3
        exact .inr (.inr ⟨b', B', h1, h2, h3⟩)
  have t2 : HTr w' w' fr.heap ((id, B) :: fr.heap) ρ (setP id (some (g, k)) noB ρ) := by
    refine ⟨fun _ _ h => h, fun b' B' h1 => ?_⟩
    have hne : b' ≠ id := fun e => by subst e; rw [hid] at h1; simp at h1
    exact ⟨B', by simp only [look]; rw [if_neg (Ne.symm hne)]; exact h1, .inr ⟨setP_ne hne _ _ ρ, rfl⟩⟩
  have st := a2.trans sub hc.size
  have tt := a3.trans t2
  obtain ⟨b1, b2, b3⟩ := a1.add (X1 := X0) (p := some (g, k)) (S := noB) hid (fun b hb => .inl hb) (fun g' e => by
    rcases e with ⟨k', e⟩ | e
    · obtain ⟨rfl, rfl⟩ : g = g' ∧ k = k' := by simpa using e
      exact ⟨.inr ⟨hg, hg'⟩, hx, .inr hn0⟩
    · exact e.elim) (hB _ _ _ st tt)
  exact ⟨b1, st, tt⟩
theorem plainV_sound (h : FR G w0 L X0 w tm fr ρ) {x : V} {v : Value} {d : D} {H' : Heap} (hx : RepE w (XX w0 X0 fr.heap ρ) fr.heap ρ x v) (he : plainV fr.heap x = some (d, H')) :
    FR G w0 L X0 w tm { fr with heap := H' } ρ ∧ Stay w w (XX w0 X0 fr.heap ρ) (XX w0 X0 H' ρ) ∧ HTr w w fr.heap H' ρ ρ ∧ RepS w (XX w0 X0 H' ρ) d v := by
  cases x with
  | val d' =>
    simp only [plainV] at he
    obtain ⟨rfl, rfl⟩ := by simpa using he
    cases hx with
    | val d v hx => exact ⟨h, Stay.refl _ _, HTr.same fun _ _ h => h, hx⟩
  | emp sz =>
    simp only [plainV] at he
    obtain ⟨rfl, rfl⟩ := by simpa using he
    cases hx with
    | emp sz a =>
      refine ⟨h, Stay.refl _ _, HTr.same fun _ _ h => h, ?_⟩
      cases a with
      | none => exact .shn _ _ (by simp)
      | some A => exact .sh .fresh sz [] A 0 (fun _ _ => undef) (by simp) (by simp) (by simp) (fun i j el d q => by simp at q) fun i j el d q => by simp at q
  | fn f cap =>
    cases cap with
    | nil =>
      simp only [plainV] at he
      obtain ⟨rfl, rfl⟩ := by simpa using he
      cases hx with
      | fn f vs us hs hh => exact ⟨h, Stay.refl _ _, HTr.same fun _ _ h => h, .fn f [] us (by simpa using hs) (by simp)⟩
    | cons a l => simp [plainV] at he
  | sl b o n =>
    simp only [plainV] at he
    split at he
    · rename_i old sz els hb
      split at he
      · rename_i hno
        obtain ⟨rfl, rfl⟩ := by simpa using he
        obtain ⟨a1, a2, a3⟩ := h.kill hb rfl
        obtain ⟨b1, b2⟩ := a1.less (X1 := X0) (fun g hg => .inl hg)
        rw [a2] at b2
        refine ⟨b1, b2, a3, ?_⟩
        obtain ⟨q1, A, c, rfl, q3, q4⟩ := sl_open hx hb
        obtain ⟨φ, r1, r2, _, _, _, r3⟩ := h.blk b _ hb
        have hlen : ((els.drop o).take n).length = n := by simp; omega
        have hkk : (if old = true then K.lent else K.fresh) ≠ .own := by split <;> simp
        rcases q4 with rfl | ⟨g, k, s1, rfl, s3⟩
        · have hn0 : n = 0 := by omega
          subst hn0
          simp only [List.take_zero]
          cases A with
          | none => exact .shn _ _ hkk
          | some A => exact .sh _ sz [] A 0 (fun _ _ => undef) hkk (by simp) (by simp) (fun i j el d q => by simp at q) fun i j el d q => by simp at q
        · obtain ⟨_, t1, t2⟩ := r3 g k s1
          have hX : ¬ XX w0 X0 (updB b .gone fr.heap) ρ (if old = true then .lent else .fresh) g := by
            rintro (hx | ⟨hx, hx'⟩ | ⟨b', B', h1, h2, h3⟩)
            · exact h.out b _ g hb rfl (.inl ⟨k, s1⟩) hx
            · rcases h.new b _ g hb rfl (.inl ⟨k, s1⟩) with ⟨ho, _⟩ | ho
              · simp only [Blk.old] at ho; rw [ho] at hx; simp at hx
              · omega
            · by_cases hbb : b' = b
              · subst hbb; rw [look_updB_self hb] at h1; obtain rfl := Option.some.inj h1; simp [Blk.live] at h2
              · rw [look_updB_ne hbb] at h1
                exact hbb (h.sep b' b B' _ g h1 hb h2 rfl h3 (.inl ⟨k, s1⟩))
          have key : ∀ (i j : Nat) (el : List D) (d : D), ((els.drop o).take n)[i]? = some el → el[j]? = some d → ∃ u, w.cell? ⟨g, k + o * sz + i * sz + j, none⟩ = some u ∧ RepS w (XX w0 X0 fr.heap ρ) d u := fun i j el d h1 h2 => by
            have hnd := noOwn_get (noOwnE_get hno h1) h2
            rw [List.getElem?_take] at h1
            split at h1
            · rw [List.getElem?_drop] at h1
              obtain ⟨u, p1, p2⟩ := t2 (o + i) j el d h1 h2
              rw [Nat.add_mul, ← Nat.add_assoc k] at p1
              exact ⟨u, p1, p2.toS hnd⟩
            · simp at h1
          have goal : RepS w (XX w0 X0 (updB b .gone fr.heap) ρ) (.sh (if old = true then .lent else .fresh) sz ((els.drop o).take n)) (.slice (some ⟨g, k + o * sz, none⟩) ((els.drop o).take n).length c) := by
            refine .sh _ _ _ _ _ (fun i j => (w.cell? ⟨g, k + o * sz + i * sz + j, none⟩).getD undef) hkk (by rw [hlen]; exact q3) (fun el hel => r1 el (List.mem_of_mem_drop (List.mem_of_mem_take hel))) (fun i j el d h1 h2 => ?_) fun i j el d h1 h2 => ?_
            · obtain ⟨u, p1, p2⟩ := key i j el d h1 h2
              exact ⟨rfl, hX, by simp only [p1, Option.getD_some]⟩
            · obtain ⟨u, p1, p2⟩ := key i j el d h1 h2
              rw [p1]
              exact p2.stay b2
          rw [hlen] at goal
          exact goal
      · simp at he
    · simp at he
  | _ => simp [plainV] at he
theorem plainL_sound : ∀ {xs : List V} {us : List Value} {fr : Fr} {ds : List D} {H' : Heap}, FR G w0 L X0 w tm fr ρ → us.length = xs.length →
    (∀ (i : Nat) (x : V) (u : Value), xs[i]? = some x → us[i]? = some u → RepE w (XX w0 X0 fr.heap ρ) fr.heap ρ x u) → plainL fr.heap xs = some (ds, H') →
    FR G w0 L X0 w tm { fr with heap := H' } ρ ∧ Stay w w (XX w0 X0 fr.heap ρ) (XX w0 X0 H' ρ) ∧ HTr w w fr.heap H' ρ ρ ∧ ds.length = xs.length ∧ ∀ (i : Nat) (d : D) (u : Value), ds[i]? = some d → us[i]? = some u → RepS w (XX w0 X0 H' ρ) d u
  | [], us, fr, ds, H', h, hl, hx, he => by
    simp only [plainL] at he
    obtain ⟨rfl, rfl⟩ := by simpa using he
    exact ⟨h, Stay.refl _ _, HTr.same fun _ _ h => h, rfl, fun i d u hd => by simp at hd⟩
  | x :: xs, us, fr, ds, H', h, hl, hx, he => by
    obtain ⟨u, us, rfl⟩ := List.exists_cons_of_ne_nil (l := us) (by rintro rfl; simp at hl)
    simp only [plainL] at he
    split at he
    · rename_i d H1 h1
      split at he
      · rename_i ds' H2 h2
        obtain ⟨rfl, rfl⟩ := by simpa using he
        obtain ⟨a1, a2, a3, a4⟩ := plainV_sound h (hx 0 x u rfl rfl) h1
        obtain ⟨b1, b2, b3, b4, b5⟩ := plainL_sound (us := us) a1 (by simpa using hl) (fun i y v hy hv => (hx (i + 1) y v (by simpa using hy) (by simpa using hv)).tr a2 a3) h2
        refine ⟨b1, a2.trans b2 (Nat.le_refl _), a3.trans b3, by simp [b4], fun i d' u' hd hu => ?_⟩
        cases i with
        | zero => simp at hd hu; subst hd; subst hu; exact a4.stay b2
        | succ i => exact b5 i d' u' (by simpa using hd) (by simpa using hu)
      · simp at he
    · simp at he
end
end Go.Proofs.Ytpbonfgmiffomaa.Wm
set_option linter.unusedSimpArgs false
set_option linter.unusedVariables false
namespace Go.Proofs.Ytpbonfgmiffomaa.Wm
open Go
def Disj (n : Nat) (φ : Nat → Nat → Prop) : Prop := ∀ i j b, i < n → j < n → φ i b → φ j b → i = j
def AllF (n : Nat) (φ : Nat → Nat → Prop) : Nat → Prop := fun b => ∃ i, i < n ∧ φ i b
inductive RepV (w : World) (X : K → Nat → Prop) : D → Value → (Nat → Prop) → Prop
  | plain (d v) (F : Nat → Prop) (hF : ∀ b, ¬ F b) (h : RepS w X d v) : RepV w X d v F
  | ow (sz els) (v) (F : Nat → Prop) (h : RepC w X (.sh .own sz els) v F) : RepV w X (.ow sz els) v F
  | op (o cs) (g k : Nat) (φ : Nat → Nat → Prop) (F : Nat → Prop) (hF : ∀ b, F b ↔ b = g ∨ AllF cs.length φ b) (hd : Disj cs.length φ) (hg : ¬ AllF cs.length φ g) (ho : OwnBlk w g (k + cs.length)) (vf : Nat → Value)
      (hm : ∀ (j : Nat) (d : D), cs[j]? = some d → w.cell? ⟨g, k + j, none⟩ = some (vf j)) (h : ∀ (j : Nat) (d : D), cs[j]? = some d → RepV w X d (vf j) (φ j)) : RepV w X (.op o cs) (.pointer (some ⟨g, k + o, none⟩)) F
  | agg (cs) (vs : Array Value) (φ : Nat → Nat → Prop) (F : Nat → Prop) (hF : ∀ b, F b ↔ AllF cs.length φ b) (hd : Disj cs.length φ) (hs : vs.size = cs.length) (h : ∀ (i : Nat) (d : D) (v : Value), cs[i]? = some d → vs[i]? = some v → RepV w X d v (φ i)) : RepV w X (.agg cs) (.agg vs) F
  | tup (cs) (vs : Array Value) (φ : Nat → Nat → Prop) (F : Nat → Prop) (hF : ∀ b, F b ↔ AllF cs.length φ b) (hd : Disj cs.length φ) (hs : vs.size = cs.length) (h : ∀ (i : Nat) (d : D) (v : Value), cs[i]? = some d → vs[i]? = some v → RepV w X d v (φ i)) : RepV w X (.tup cs) (.tuple vs) F
theorem RepV.congr {w : World} {X : K → Nat → Prop} {d : D} {v : Value} {F F' : Nat → Prop} (h : RepV w X d v F) (hF : ∀ b, F' b ↔ F b) : RepV w X d v F' := by
  have : F' = F := funext fun b => propext (hF b)
  subst this; exact h
def RepVs (w : World) (X : K → Nat → Prop) (ds : List D) (vs : List Value) (φ : Nat → Nat → Prop) : Prop :=
  vs.length = ds.length ∧ Disj ds.length φ ∧ ∀ (i : Nat) (d : D) (v : Value), ds[i]? = some d → vs[i]? = some v → RepV w X d v (φ i)
def consF (F : Nat → Prop) (φ : Nat → Nat → Prop) : Nat → Nat → Prop
  | 0 => F
  | n + 1 => φ n
theorem allF_cons {F : Nat → Prop} {φ : Nat → Nat → Prop} {n b : Nat} : AllF (n + 1) (consF F φ) b ↔ F b ∨ AllF n φ b := by
  constructor
  · rintro ⟨i, hi, hb⟩
    cases i with
    | zero => exact .inl hb
    | succ i => exact .inr ⟨i, by omega, hb⟩
  · rintro (hb | ⟨i, hi, hb⟩)
    · exact ⟨0, by omega, hb⟩
    · exact ⟨i + 1, by omega, hb⟩
theorem disj_cons {F : Nat → Prop} {φ : Nat → Nat → Prop} {n : Nat} (h : Disj n φ) (hF : ∀ b, F b → ¬ AllF n φ b) : Disj (n + 1) (consF F φ) := by
  intro i j b hi hj h1 h2
  cases i with
  | zero => cases j with
    | zero => rfl
    | succ j => exact absurd ⟨j, by omega, h2⟩ (hF b h1)
  | succ i => cases j with
    | zero => exact absurd ⟨i, by omega, h1⟩ (hF b h2)
    | succ j => have := h i j b (by omega) (by omega) h1 h2; omega
theorem repVs_nil {w : World} {X : K → Nat → Prop} {φ : Nat → Nat → Prop} : RepVs w X [] [] φ := ⟨rfl, fun i j b hi => by simp at hi, fun i d v h => by simp at h⟩
theorem RepVs.cons {w : World} {X : K → Nat → Prop} {d : D} {v : Value} {ds : List D} {vs : List Value} {F : Nat → Prop} {φ : Nat → Nat → Prop} (hd : RepV w X d v F) (h : RepVs w X ds vs φ) (hF : ∀ b, F b → ¬ AllF ds.length φ b) : RepVs w X (d :: ds) (v :: vs) (consF F φ) := by
  obtain ⟨h1, h2, h3⟩ := h
  refine ⟨by simp [h1], disj_cons h2 hF, fun i d' v' q1 q2 => ?_⟩
  cases i with
  | zero => simp at q1 q2; subst q1; subst q2; exact hd
  | succ i => exact h3 i d' v' (by simpa using q1) (by simpa using q2)
theorem RepVs.tail {w : World} {X : K → Nat → Prop} {d : D} {v : Value} {ds : List D} {vs : List Value} {φ : Nat → Nat → Prop} (h : RepVs w X (d :: ds) (v :: vs) φ) :
    RepV w X d v (φ 0) ∧ RepVs w X ds vs (fun i => φ (i + 1)) ∧ (∀ b, φ 0 b → ¬ AllF ds.length (fun i => φ (i + 1)) b) ∧ ∀ b, AllF (ds.length + 1) φ b ↔ φ 0 b ∨ AllF ds.length (fun i => φ (i + 1)) b := by
  obtain ⟨h1, h2, h3⟩ := h
  refine ⟨h3 0 d v rfl rfl, ⟨by simpa using h1, fun i j b hi hj q1 q2 => by have := h2 (i + 1) (j + 1) b (by simpa using hi) (by simpa using hj) q1 q2; omega, fun i d' v' q1 q2 => h3 (i + 1) d' v' (by simpa using q1) (by simpa using q2)⟩, ?_, ?_⟩
  · rintro b hb ⟨i, hi, hb'⟩
    have := h2 0 (i + 1) b (by simp) (by simpa using hi) hb hb'
    omega
  · intro b
    constructor
    · rintro ⟨i, hi, hb⟩
      cases i with
      | zero => exact .inl hb
      | succ i => exact .inr ⟨i, by omega, hb⟩
    · rintro (hb | ⟨i, hi, hb⟩)
      · exact ⟨0, by omega, hb⟩
      · exact ⟨i + 1, by omega, hb⟩
theorem RepV.old {w : World} {X : K → Nat → Prop} {d : D} {v : Value} {F : Nat → Prop} (h : RepV w X d v F) : ∀ b, F b → b < w.heap.size := by
  induction h with
  | plain d v F hF h => exact fun b hb => absurd hb (hF b)
  | ow sz els v F h => exact h.old
  | op o cs g k φ F hF hd hg ho vf hm h ih =>
    intro b hb
    rcases (hF b).1 hb with rfl | ⟨i, hi, hb⟩
    · exact ho.lt
    · exact ih i cs[i] (List.getElem?_eq_getElem hi) b hb
  | agg cs vs φ F hF hd hs h ih =>
    intro b hb
    obtain ⟨i, hi, hb⟩ := (hF b).1 hb
    exact ih i cs[i] (vs[i]'(by omega)) (List.getElem?_eq_getElem hi) (by simp [hs, hi]) b hb
  | tup cs vs φ F hF hd hs h ih =>
    intro b hb
    obtain ⟨i, hi, hb⟩ := (hF b).1 hb
    exact ih i cs[i] (vs[i]'(by omega)) (List.getElem?_eq_getElem hi) (by simp [hs, hi]) b hb
theorem RepV.stay {w w' : World} {X X' : K → Nat → Prop} (s : Stay w w' X X') {d : D} {v : Value} {F : Nat → Prop} (h : RepV w X d v F) (hk : ∀ b, F b → w'.heap[b]? = w.heap[b]?) : RepV w' X' d v F := by
  induction h with
  | plain d v F hF h => exact .plain d v F hF (h.stay s)
  | ow sz els v F h => exact .ow sz els v F (h.stay s hk)
  | op o cs g k φ F hF hd hg ho vf hm h ih =>
    have e := hk g ((hF g).2 (.inl rfl))
    exact .op o cs g k φ F hF hd hg (ho.same e) vf (fun j d h1 => cell_same e (hm j d h1)) fun j d h1 => ih j d h1 fun b hb => hk b ((hF b).2 (.inr ⟨j, (List.getElem?_eq_some_iff.1 h1).1, hb⟩))
  | agg cs vs φ F hF hd hs h ih => exact .agg cs vs φ F hF hd hs fun i d v h1 h2 => ih i d v h1 h2 fun b hb => hk b ((hF b).2 ⟨i, (List.getElem?_eq_some_iff.1 h1).1, hb⟩)
  | tup cs vs φ F hF hd hs h ih => exact .tup cs vs φ F hF hd hs fun i d v h1 h2 => ih i d v h1 h2 fun b hb => hk b ((hF b).2 ⟨i, (List.getElem?_eq_some_iff.1 h1).1, hb⟩)
mutual
def eraD : D → D
  | .fn f cap => .fn f (eraL cap)
  | .sh k sz els => .sh (match k with | .own => .own | _ => .lent) sz (eraE els)
  | .ow sz els => .ow sz (eraE els)
  | .ptr cs => .ptr (eraL cs)
  | .op o cs => .op o (eraL cs)
  | .agg cs => .agg (eraL cs)
  | .tup cs => .tup (eraL cs)
  | d => d
def eraL : List D → List D
  | [] => []
  | d :: ds => eraD d :: eraL ds
def eraE : List (List D) → List (List D)
  | [] => []
  | e :: es => eraL e :: eraE es
end
theorem eraL_map : ∀ cs, eraL cs = cs.map eraD
  | [] => rfl
  | d :: ds => by simp [eraL, eraL_map ds]
theorem eraE_map : ∀ es, eraE es = es.map eraL
  | [] => rfl
  | d :: ds => by simp [eraE, eraE_map ds]
theorem eraL_get {cs : List D} {i : Nat} {d : D} (h : (eraL cs)[i]? = some d) : ∃ d0, cs[i]? = some d0 ∧ d = eraD d0 := by
  rw [eraL_map, List.getElem?_map, Option.map_eq_some_iff] at h
  obtain ⟨d0, h1, h2⟩ := h
  exact ⟨d0, h1, h2.symm⟩
theorem eraE_get {es : List (List D)} {i : Nat} {e : List D} (h : (eraE es)[i]? = some e) : ∃ e0, es[i]? = some e0 ∧ e = eraL e0 := by
  rw [eraE_map, List.getElem?_map, Option.map_eq_some_iff] at h
  obtain ⟨d0, h1, h2⟩ := h
  exact ⟨d0, h1, h2.symm⟩
theorem eraL_len (cs : List D) : (eraL cs).length = cs.length := by simp [eraL_map]
theorem eraE_len (cs : List (List D)) : (eraE cs).length = cs.length := by simp [eraE_map]
theorem eraE_inR {els : List (List D)} {i j : Nat} : InR (eraE els) i j ↔ InR els i j := by
  constructor
  · rintro ⟨e, d, h1, h2⟩
    obtain ⟨e0, g1, rfl⟩ := eraE_get h1
    obtain ⟨d0, g2, rfl⟩ := eraL_get h2
    exact ⟨e0, d0, g1, g2⟩
  · rintro ⟨e, d, h1, h2⟩
    exact ⟨eraL e, eraD d, by rw [eraE_map, List.getElem?_map, h1]; rfl, by rw [eraL_map, List.getElem?_map, h2]; rfl⟩
theorem RepS.era {w : World} {X : K → Nat → Prop} (hX : ∀ k b, b < w.heap.size → X .lent b → X k b) {d : D} {v : Value} (h : RepS w X d v) : RepS w X (eraD d) v := by
  induction h with
  | int k n => exact .int k n
  | bool b => exact .bool b
  | str s => exact .str s
  | err0 => exact .err0
  | err1 t v => exact .err1 t v
  | fn f cap vs hs h ih =>
    refine .fn f _ vs (by rw [eraL_len]; exact hs) fun i d v h1 h2 => ?_
    obtain ⟨d0, h0, rfl⟩ := eraL_get h1
    exact ih i d0 v h0 h2
  | sh k sz els A c vf hk hc hz hm h ih =>
    have ek : (match k with | .own => K.own | _ => .lent) = .lent := by cases k <;> simp at hk ⊢
    simp only [eraD, ek]
    rw [← eraE_len els]
    refine .sh .lent sz _ A c vf (by simp) (by rw [eraE_len]; exact hc) (fun el hel => ?_) (fun i j el d h1 h2 => ?_) fun i j el d h1 h2 => ?_
    · rw [eraE_map] at hel
      obtain ⟨e0, he0, rfl⟩ := List.mem_map.1 hel
      rw [eraL_len]; exact hz e0 he0
    · obtain ⟨e0, g1, rfl⟩ := eraE_get h1
      obtain ⟨d0, g2, rfl⟩ := eraL_get h2
      obtain ⟨a, b, e⟩ := hm i j e0 d0 g1 g2
      exact ⟨a, fun hx => b (hX k _ (cell_lt' e) hx), e⟩
    · obtain ⟨e0, g1, rfl⟩ := eraE_get h1
      obtain ⟨d0, g2, rfl⟩ := eraL_get h2
      exact ih i j e0 d0 g1 g2
  | shn k sz hk =>
    have ek : (match k with | .own => K.own | _ => .lent) = .lent := by cases k <;> simp at hk ⊢
    simp only [eraD, ek, eraE]; exact .shn _ sz (by simp)
  | emp sz a => exact .emp sz a
  | ptr cs A vf hm h ih =>
    refine .ptr _ A vf (fun j d h1 => ?_) fun j d h1 => ?_
    · obtain ⟨d0, g1, rfl⟩ := eraL_get h1
      exact hm j d0 g1
    · obtain ⟨d0, g1, rfl⟩ := eraL_get h1
      exact ih j d0 g1
  | agg cs vs hs h ih =>
    refine .agg _ vs (by rw [eraL_len]; exact hs) fun i d v h1 h2 => ?_
    obtain ⟨d0, h0, rfl⟩ := eraL_get h1
    exact ih i d0 v h0 h2
  | tup cs vs hs h ih =>
    refine .tup _ vs (by rw [eraL_len]; exact hs) fun i d v h1 h2 => ?_
    obtain ⟨d0, h0, rfl⟩ := eraL_get h1
    exact ih i d0 v h0 h2
  | gone v => exact .gone v
theorem RepC.era {w : World} {X : K → Nat → Prop} (hX : ∀ k b, b < w.heap.size → X .lent b → X k b) {d : D} {v : Value} {F : Nat → Prop} (h : RepC w X d v F) : RepC w X (eraD d) v F := by
  induction h with
  | plain d v F hF h => exact .plain _ v F hF (h.era hX)
  | own0 sz a F hF => exact .own0 sz a F hF
  | own sz els g k c φ F hF hg h1 hd hc ho hz vf hm h ih =>
    simp only [eraD]
    rw [← eraE_len els]
    refine .own sz _ g k c φ F hF hg (fun i j b q => h1 i j b (eraE_inR.1 q)) (fun i j i' j' b q q' => hd i j i' j' b (eraE_inR.1 q) (eraE_inR.1 q')) (by rw [eraE_len]; exact hc) ho (fun el hel => ?_) vf (fun i j el d q1 q2 => ?_) fun i j el d q1 q2 => ?_
    · rw [eraE_map] at hel
      obtain ⟨e0, he0, rfl⟩ := List.mem_map.1 hel
      rw [eraL_len]; exact hz e0 he0
    · obtain ⟨e0, g1, rfl⟩ := eraE_get q1
      obtain ⟨d0, g2, rfl⟩ := eraL_get q2
      exact hm i j e0 d0 g1 g2
    · obtain ⟨e0, g1, rfl⟩ := eraE_get q1
      obtain ⟨d0, g2, rfl⟩ := eraL_get q2
      exact ih i j e0 d0 g1 g2
def eD (er : Bool) (d : D) : D := if er = true then eraD d else d
def eE (er : Bool) (els : List (List D)) : List (List D) := if er = true then eraE els else els
def takeC (er : Bool) (H : Heap) : V → D × Heap × Bool
  | .val d => (eD er d, H, false)
  | .emp sz => (.ow sz [], H, false)
  | .sl b o n => match look b H with
    | some (.row old sz els) => (.ow sz (eE er ((els.drop o).take n)), updB b .gone H, old)
    | _ => (.gone, H, false)
  | .fn f [] => (.fn f [], H, false)
  | _ => (.gone, H, false)
def takeL (er : Bool) (H : Heap) : List V → List D × Heap × Bool
  | [] => ([], H, false)
  | x :: xs => match takeC er H x with
    | (d, H1, f1) => match takeL er H1 xs with
      | (ds, H2, f2) => (d :: ds, H2, f1 || f2)
def takeV (er : Bool) (H : Heap) : V → D × Heap × Bool
  | .pt b o => match look b H with
    | some (.var old cs) => match takeL er (updB b .gone H) cs with
      | (ds, H1, f) => (.op o ds, H1, old || f)
    | _ => (.gone, H, false)
  | .agg vs => match takeL er H vs with
    | (ds, H1, f) => (.agg ds, H1, f)
  | x => takeC er H x
section
variable {P : Program} {G : Nat → Option (List D)} {w0 : World} {L X0 X1 : Nat → Prop} {w w' w2 : World} {tm : Array Value} {fr : Fr} {ρ ρ' : Place} {X : K → Nat → Prop} {H : Heap}
theorem eD_sound {er : Bool} {d : D} {v : Value} (hX : ∀ k b, b < w.heap.size → X .lent b → X k b) (h : RepS w X d v) : RepS w X (eD er d) v := by
  unfold eD
  split
  · exact h.era hX
  · exact h
theorem eE_len (er : Bool) (els : List (List D)) : (eE er els).length = els.length := by unfold eE; split <;> simp [eraE_len]
theorem eE_own {er : Bool} {sz : Nat} {els : List (List D)} {v : Value} {F : Nat → Prop} (hX : ∀ k b, b < w.heap.size → X .lent b → X k b) (h : RepC w X (.sh .own sz els) v F) : RepC w X (.sh .own sz (eE er els)) v F := by
  unfold eE
  split
  · exact h.era hX
  · exact h
theorem FR.row_own (h : FR G w0 L X0 w tm fr ρ) {b o n : Nat} {v : Value} {old : Bool} {sz : Nat} {els : List (List D)} {H : Heap} (hx : RepE w X H ρ (.sl b o n) v) (hb : look b fr.heap = some (.row old sz els)) (hH : look b H = some (.row old sz els) := by assumption) :
    RepC w (XX w0 X0 fr.heap ρ) (.sh .own sz ((els.drop o).take n)) v (fun g => Blks ρ b g) := by
  have hlt : ∀ g, Blks ρ b g → g < w.heap.size := fun g hg => h.held_lt ⟨b, _, hb, rfl, hg⟩
  obtain ⟨φ, r1, r2, r3, r4, r5, r6⟩ := h.blk b _ hb
  obtain ⟨q1, A, c, rfl, q3, q4⟩ := sl_open hx hH
  have hlen : ((els.drop o).take n).length = n := by simp; omega
  have inr : ∀ i j, InR ((els.drop o).take n) i j → InR els (o + i) j := by
    rintro i j ⟨e, d, h1, h2⟩
    rw [List.getElem?_take] at h1
    split at h1
    · rw [List.getElem?_drop] at h1; exact ⟨e, d, h1, h2⟩
    · simp at h1
  rcases q4 with rfl | ⟨g, k, s1, rfl, s3⟩
  · have hn0 : n = 0 := by omega
    subst hn0
    simp only [List.take_zero]
    exact .own0 _ _ _ hlt
  · obtain ⟨t0, t1, t2⟩ := r6 g k s1
    have goal : RepC w (XX w0 X0 fr.heap ρ) (.sh .own sz ((els.drop o).take n)) (.slice (some ⟨g, k + o * sz, none⟩) ((els.drop o).take n).length c) (fun g => Blks ρ b g) := by
      have key : ∀ (i j : Nat) (el : List D) (d : D), ((els.drop o).take n)[i]? = some el → el[j]? = some d → ∃ u, w.cell? ⟨g, k + o * sz + i * sz + j, none⟩ = some u ∧ RepC w (XX w0 X0 fr.heap ρ) d u (φ (o + i) j) := fun i j el d h1 h2 => by
        rw [List.getElem?_take] at h1
        split at h1
        · rw [List.getElem?_drop] at h1
          obtain ⟨u, p1, p2⟩ := t2 (o + i) j el d h1 h2
          rw [Nat.add_mul, ← Nat.add_assoc k] at p1
          exact ⟨u, p1, p2⟩
        · simp at h1
      refine .own sz _ g _ c (fun i j => φ (o + i) j) _ hlt (.inl ⟨k, s1⟩) (fun i j x hin hx => ?_) (fun i j i' j' x q q' p p' => ?_) (by rw [hlen]; exact q3) s3 (fun el hel => r1 el (List.mem_of_mem_drop (List.mem_of_mem_take hel))) (fun i j => (w.cell? ⟨g, k + o * sz + i * sz + j, none⟩).getD undef) (fun i j el d h1 h2 => ?_) fun i j el d h1 h2 => ?_
      · have hs := r5 _ _ x (inr i j hin) hx
        exact ⟨.inr hs, fun e => t0 (by rw [← e]; exact hs)⟩
      · have := r4 _ _ _ _ x (inr i j q) (inr i' j' q') p p'
        omega
      · obtain ⟨u, p1, p2⟩ := key i j el d h1 h2
        rw [p1]; rfl
      · obtain ⟨u, p1, p2⟩ := key i j el d h1 h2
        simp only [p1, Option.getD_some]; exact p2
    rw [hlen] at goal
    exact goal
def Took (G : Nat → Option (List D)) (w0 : World) (L X0 : Nat → Prop) (w : World) (tm : Array Value) (fr : Fr) (ρ : Place) (H' : Heap) (fl : Bool) (F : Nat → Prop) : Prop :=
  FR G w0 L (fun g => X0 g ∨ F g) w tm { fr with heap := H' } ρ ∧ XX w0 (fun g => X0 g ∨ F g) H' ρ = XX w0 X0 fr.heap ρ ∧ HTr w w fr.heap H' ρ ρ ∧ ∀ b, F b → ¬ X0 b ∧ ((fl = true ∧ L b) ∨ w0.heap.size ≤ b)
theorem Took.none (h : FR G w0 L X0 w tm fr ρ) {F : Nat → Prop} (hF : ∀ b, ¬ F b) : Took G w0 L X0 w tm fr ρ fr.heap false F := by
  have e : (fun g => X0 g ∨ F g) = X0 := by funext g; simp [hF g]
  exact ⟨by rw [e]; exact h, by rw [e], HTr.same fun _ _ h => h, fun b hb => absurd hb (hF b)⟩
theorem Took.trans {H1 H2 : Heap} {f1 f2 : Bool} {F1 F2 : Nat → Prop} (h : Took G w0 L X0 w tm fr ρ H1 f1 F1) (k : Took G w0 L (fun g => X0 g ∨ F1 g) w tm { fr with heap := H1 } ρ H2 f2 F2) :
    Took G w0 L X0 w tm fr ρ H2 (f1 || f2) (fun b => F1 b ∨ F2 b) ∧ ∀ b, F1 b → ¬ F2 b := by
  obtain ⟨a1, a2, a3, a4⟩ := h
  obtain ⟨b1, b2, b3, b4⟩ := k
  have e : (fun g => (X0 g ∨ F1 g) ∨ F2 g) = fun g => X0 g ∨ F1 g ∨ F2 g := by funext g; rw [or_assoc]
  rw [e] at b1 b2
  refine ⟨⟨b1, b2.trans a2, a3.trans b3, fun b hb => ?_⟩, fun b h1 h2 => (b4 b h2).1 (.inr h1)⟩
  rcases hb with hb | hb
  · obtain ⟨q1, q2⟩ := a4 b hb
    exact ⟨q1, q2.imp (fun q => ⟨by simp [q.1], q.2⟩) id⟩
  · obtain ⟨q1, q2⟩ := b4 b hb
    exact ⟨fun hx => q1 (.inl hx), q2.imp (fun q => ⟨by simp [q.1], q.2⟩) id⟩
theorem takeC_sound (er : Bool) (h : FR G w0 L X0 w tm fr ρ) {x : V} {v : Value} {d : D} {H' : Heap} {fl : Bool} (hx : RepE w (XX w0 X0 fr.heap ρ) fr.heap ρ x v) (he : takeC er fr.heap x = (d, H', fl)) :
    ∃ F, Took G w0 L X0 w tm fr ρ H' fl F ∧ RepV w (XX w0 X0 fr.heap ρ) d v F := by
  have hX : ∀ k b, b < w.heap.size → XX w0 X0 fr.heap ρ .lent b → XX w0 X0 fr.heap ρ k b := fun k b _ hx => XX_kind hx
  have gone : d = .gone → H' = fr.heap → fl = false → ∃ F, Took G w0 L X0 w tm fr ρ H' fl F ∧ RepV w (XX w0 X0 fr.heap ρ) d v F := by
    rintro rfl rfl rfl
    exact ⟨E, Took.none h fun b hb => hb, .plain _ _ _ (fun b hb => hb) (.gone v)⟩
  cases x with
  | val d' =>
    simp only [takeC] at he
    obtain ⟨rfl, rfl, rfl⟩ := by simpa using he
    cases hx with
    | val d v hx => exact ⟨E, Took.none h fun b hb => hb, .plain _ _ _ (fun b hb => hb) (eD_sound hX hx)⟩
  | emp sz =>
    simp only [takeC] at he
    obtain ⟨rfl, rfl, rfl⟩ := by simpa using he
    cases hx with
    | emp sz a => exact ⟨E, Took.none h fun b hb => hb, .ow _ _ _ _ (.own0 _ _ _ fun b hb => hb.elim)⟩
  | sl b o n =>
    simp only [takeC] at he
    split at he
    · rename_i old sz els hb
      obtain ⟨rfl, rfl, rfl⟩ := by simpa using he
      obtain ⟨a1, a2, a3⟩ := h.kill hb rfl
      have took : Took G w0 L X0 w tm fr ρ (updB b .gone fr.heap) old (fun g => Blks ρ b g) := ⟨a1, a2, a3, fun g hk => ⟨h.out b _ g hb rfl hk, h.new b _ g hb rfl hk⟩⟩
      exact ⟨fun g => Blks ρ b g, took, .ow _ _ _ _ (eE_own hX (h.row_own hx hb))⟩
    · obtain ⟨rfl, rfl, rfl⟩ := by simpa using he
      exact gone rfl rfl rfl
  | fn f cap =>
    cases cap with
    | nil =>
      simp only [takeC] at he
      obtain ⟨rfl, rfl, rfl⟩ := by simpa using he
      cases hx with
      | fn f vs us hs hh => exact ⟨E, Took.none h fun b hb => hb, .plain _ _ _ (fun b hb => hb) (.fn f [] us (by simpa using hs) (by simp))⟩
    | cons a l =>
      simp only [takeC, Prod.mk.injEq] at he
      exact gone he.1.symm he.2.1.symm he.2.2.symm
  | _ =>
    simp only [takeC, Prod.mk.injEq] at he
    exact gone he.1.symm he.2.1.symm he.2.2.symm
theorem takeL_sound (er : Bool) : ∀ {xs : List V} {us : List Value} {X0 : Nat → Prop} {fr : Fr} {ds : List D} {H' : Heap} {fl : Bool}, FR G w0 L X0 w tm fr ρ → us.length = xs.length →
    (∀ (i : Nat) (x : V) (u : Value), xs[i]? = some x → us[i]? = some u → RepE w (XX w0 X0 fr.heap ρ) fr.heap ρ x u) → takeL er fr.heap xs = (ds, H', fl) →
    ∃ φ, Took G w0 L X0 w tm fr ρ H' fl (AllF ds.length φ) ∧ RepVs w (XX w0 X0 fr.heap ρ) ds us φ ∧ ds.length = xs.length
  | [], us, X0, fr, ds, H', fl, h, hl, hx, he => by
    simp only [takeL] at he
    obtain ⟨rfl, rfl, rfl⟩ := by simpa using he
    obtain rfl := List.eq_nil_of_length_eq_zero (by simpa using hl)
    exact ⟨fun _ => E, Took.none h fun b ⟨_, hi, _⟩ => by simp at hi, repVs_nil, rfl⟩
  | x :: xs, us, X0, fr, ds, H', fl, h, hl, hx, he => by
    obtain ⟨u, us, rfl⟩ := List.exists_cons_of_ne_nil (l := us) (by rintro rfl; simp at hl)
    simp only [takeL] at he
    cases h1 : takeC er fr.heap x with
    | mk d p =>
      obtain ⟨H1, f1⟩ := p
      simp only [h1] at he
      cases h2 : takeL er H1 xs with
      | mk ds' p2 =>
        obtain ⟨H2, f2⟩ := p2
        simp only [h2] at he
        obtain ⟨rfl, rfl, rfl⟩ := by simpa using he
        obtain ⟨F, a1, a2⟩ := takeC_sound er h (hx 0 x u rfl rfl) h1
        have st : Stay w w (XX w0 X0 fr.heap ρ) (XX w0 (fun g => X0 g ∨ F g) H1 ρ) := by rw [a1.2.1]; exact Stay.refl _ _
        obtain ⟨φ, b1, b2, b3⟩ := takeL_sound er (us := us) a1.1 (by simpa using hl) (fun i y v hy hv => (hx (i + 1) y v (by simpa using hy) (by simpa using hv)).tr st a1.2.2.1) h2
        obtain ⟨c1, c2⟩ := a1.trans b1
        simp only [a1.2.1] at b2
        have e : (fun b => F b ∨ AllF ds'.length φ b) = AllF (d :: ds').length (consF F φ) := by funext b; exact propext (allF_cons (n := ds'.length)).symm
        rw [e] at c1
        exact ⟨consF F φ, c1, b2.cons a2 c2, by simp [b3]⟩
theorem takeV_sound (er : Bool) (h : FR G w0 L X0 w tm fr ρ) {x : V} {v : Value} {d : D} {H' : Heap} {fl : Bool} (hx : RepE w (XX w0 X0 fr.heap ρ) fr.heap ρ x v) (he : takeV er fr.heap x = (d, H', fl)) :
    ∃ F, Took G w0 L X0 w tm fr ρ H' fl F ∧ RepV w (XX w0 X0 fr.heap ρ) d v F := by
  cases x with
  | pt b o =>
    simp only [takeV] at he
    split at he
    · rename_i old cs hb
      obtain ⟨g, k, hp, rfl⟩ := pt_open hx hb
      obtain ⟨hS, g', k', hp', hown, hcells⟩ := h.blk b _ hb
      rw [hp] at hp'; obtain ⟨rfl, rfl⟩ : g = g' ∧ k = k' := by simpa using hp'
      obtain ⟨a1, a2, a3⟩ := h.kill hb rfl
      have took : Took G w0 L X0 w tm fr ρ (updB b .gone fr.heap) old (fun g => Blks ρ b g) := ⟨a1, a2, a3, fun g hk => ⟨h.out b _ g hb rfl hk, h.new b _ g hb rfl hk⟩⟩
      cases ht : takeL er (updB b .gone fr.heap) cs with
      | mk ds p =>
        obtain ⟨H1, f1⟩ := p
        simp only [ht] at he
        obtain ⟨rfl, rfl, rfl⟩ := by simpa using he
        have st : Stay w w (XX w0 X0 fr.heap ρ) (XX w0 (fun g => X0 g ∨ Blks ρ b g) (updB b .gone fr.heap) ρ) := by rw [a2]; exact Stay.refl _ _
        obtain ⟨φ, b1, b2, b3⟩ := takeL_sound er (us := (List.range cs.length).map fun j => (w.cell? ⟨g, k + j, none⟩).getD undef) a1 (by simp) (fun i y v hy hv => by
          obtain ⟨hi, rfl⟩ := range_map_get hv
          obtain ⟨u, q1, q2⟩ := hcells i y hy
          rw [q1]; exact q2.tr st a3) ht
        obtain ⟨c1, c2⟩ := took.trans b1
        rw [a2] at b2
        refine ⟨_, c1, .op o ds g k φ _ (fun x => ?_) b2.2.1 (fun hh => c2 g (.inl ⟨k, hp⟩) hh) (by rw [b3]; exact hown) (fun j => (w.cell? ⟨g, k + j, none⟩).getD undef) (fun j d hj => ?_) fun j d hj => b2.2.2 j d _ hj ?_⟩
        · constructor
          · rintro ((⟨k', hk⟩ | hk) | hh)
            · rw [hp] at hk; simp at hk; exact .inl hk.1.symm
            · exact absurd hk (hS x)
            · exact .inr hh
          · rintro (rfl | hh)
            · exact .inl (.inl ⟨k, hp⟩)
            · exact .inr hh
        · have hlt : j < cs.length := by rw [← b3]; exact (List.getElem?_eq_some_iff.1 hj).1
          obtain ⟨u, q1, q2⟩ := hcells j cs[j] (List.getElem?_eq_getElem hlt)
          rw [q1]; rfl
        · have hlt : j < cs.length := by rw [← b3]; exact (List.getElem?_eq_some_iff.1 hj).1
          simp [hlt]
    · obtain ⟨rfl, rfl, rfl⟩ := by simpa using he
      exact ⟨E, Took.none h fun b hb => hb, .plain _ _ _ (fun b hb => hb) (.gone _)⟩
  | agg vs =>
    simp only [takeV] at he
    cases ht : takeL er fr.heap vs with
    | mk ds p =>
      obtain ⟨H1, f1⟩ := p
      simp only [ht] at he
      obtain ⟨rfl, rfl, rfl⟩ := by simpa using he
      cases hx with
      | agg vs us hs hh =>
        obtain ⟨φ, b1, b2, b3⟩ := takeL_sound er (us := us.toList) h (by simpa using hs) (fun i y v hy hv => hh i y v hy (by simpa using hv)) ht
        exact ⟨_, b1, .agg ds us φ _ (fun b => Iff.rfl) b2.2.1 (by rw [hs, b3]) fun i d v h1 h2 => b2.2.2 i d v h1 (by simpa using h2)⟩
  | val d' => exact takeC_sound er h hx he
  | emp sz => exact takeC_sound er h hx he
  | sl b o n => exact takeC_sound er h hx he
  | ep b i o => exact takeC_sound er h hx he
  | tup vs => exact takeC_sound er h hx he
  | fn f cap => exact takeC_sound er h hx he
  | dead => exact takeC_sound er h hx he
  | anyb => exact takeC_sound er h hx he
end
end Go.Proofs.Ytpbonfgmiffomaa.Wm
set_option linter.unusedSimpArgs false
set_option linter.unusedVariables false
namespace Go.Proofs.Ytpbonfgmiffomaa.Wm
open Go
section
variable {P : Program} {G : Nat → Option (List D)} {w0 : World} {L X0 X1 : Nat → Prop} {w w' w2 : World} {tm : Array Value} {fr : Fr} {ρ ρ' : Place} {X : K → Nat → Prop} {H : Heap}
theorem free_spec {id : Nat} (h : free id H = true) : look id H = none := by
  unfold free at h
  split at h
  · assumption
  · simp at h
def RowS (w : World) (X : K → Nat → Prop) (sz : Nat) (els : List (List D)) (us : Array Value) : Prop :=
  us.size = els.length * sz ∧ (∀ el ∈ els, el.length = sz) ∧ ∀ (i j : Nat) (el : List D) (d : D), els[i]? = some el → el[j]? = some d → ∃ u, us[i * sz + j]? = some u ∧ RepS w X d u
theorem idx_lt {i j n sz : Nat} (hi : i < n) (hj : j < sz) : i * sz + j < n * sz := by
  have : (i + 1) * sz ≤ n * sz := Nat.mul_le_mul_right _ hi
  rw [Nat.succ_mul] at this
  omega
theorem idx_inj {i j i' j' sz : Nat} (hj : j < sz) (hj' : j' < sz) (h : i * sz + j = i' * sz + j') : i = i' ∧ j = j' := by
  have h1 : (i * sz + j) / sz = i := by rw [Nat.add_comm, Nat.add_mul_div_right _ _ (by omega), Nat.div_eq_of_lt hj]; omega
  have h2 : (i' * sz + j') / sz = i' := by rw [Nat.add_comm, Nat.add_mul_div_right _ _ (by omega), Nat.div_eq_of_lt hj']; omega
  have : i = i' := by rw [← h1, ← h2, h]
  subst this
  exact ⟨rfl, by omega⟩
theorem bslEls_sound {f : Od → V} {sz : Nat} : ∀ (ps : List Part) (qs : List (Nat × Value)) {fr : Fr} {els els' : List (List D)} {us : Array Value} {H' : Heap}, FR G w0 L X0 w tm fr ρ → RowS w (XX w0 X0 fr.heap ρ) sz els us → ps.length = qs.length →
    (∀ (j : Nat) (p : Part) (q : Nat × Value), ps[j]? = some p → qs[j]? = some q → p.at_ = q.1 ∧ RepE w (XX w0 X0 fr.heap ρ) fr.heap ρ (f p.x) q.2) → bslEls f sz fr.heap els ps = some (els', H') →
    ∃ us', Instr.fill (fun i => some (i * sz, sz)) us qs = some us' ∧ FR G w0 L X0 w tm { fr with heap := H' } ρ ∧ Stay w w (XX w0 X0 fr.heap ρ) (XX w0 X0 H' ρ) ∧ HTr w w fr.heap H' ρ ρ ∧ RowS w (XX w0 X0 H' ρ) sz els' us' ∧ els'.length = els.length
  | [], qs, fr, els, els', us, H', h, hr, hl, hp, he => by
    obtain rfl : qs = [] := List.eq_nil_of_length_eq_zero hl.symm
    simp only [bslEls] at he
    obtain ⟨rfl, rfl⟩ := by simpa using he
    exact ⟨us, rfl, h, Stay.refl _ _, HTr.same fun _ _ h => h, hr, rfl⟩
  | p :: ps, qs, fr, els, els', us, H', h, hr, hl, hp, he => by
    cases qs with
    | nil => simp at hl
    | cons q qs =>
      obtain ⟨i', v⟩ := q
      obtain ⟨hpl, hx⟩ : p.at_ = i' ∧ RepE w (XX w0 X0 fr.heap ρ) fr.heap ρ (f p.x) v := hp 0 p (i', v) rfl rfl
      obtain ⟨off, s, x⟩ := p
      simp only at hpl hx
      subst hpl
      simp only [bslEls] at he
      split at he
      · rename_i xs hxs
        split at he
        · rename_i ds H1 hd
          split at he
          · rename_i hc
            obtain ⟨hlt, hds⟩ := hc
            obtain ⟨hv, _, _⟩ := cellsV_sound hx hxs
            obtain ⟨a1, a2, a3, a4, a5⟩ := plainL_sound (us := v.cells.toList) h (by simpa using hv.1) (fun i y u hy hu => hv.2 i y u hy (by simpa using hu)) hd
            have hsz : v.cells.size = sz := by rw [hv.1, ← a4, hds]
            obtain ⟨r1, r2, r3⟩ := hr
            have hfit : off * sz + sz ≤ us.size := by
              rw [r1]
              have : (off + 1) * sz ≤ els.length * sz := Nat.mul_le_mul_right _ hlt
              rw [Nat.succ_mul] at this; exact this
            obtain ⟨f1, f2⟩ := fold_set (off * sz) v.cells.toList 0 us (by simp [hsz]; exact hfit)
            have hrow : RowS w (XX w0 X0 H1 ρ) sz (els.set off ds) ((v.cells.toList.zipIdx 0).foldl (fun cs p => cs.setIfInBounds (off * sz + p.2) p.1) us) := by
              refine ⟨by rw [f1, r1]; simp, fun el hel => ?_, fun i j el d h1 h2 => ?_⟩
              · rcases List.mem_or_eq_of_mem_set hel with h | h
                · exact r2 el h
                · rw [h]; exact hds
              · by_cases hi : i = off
                · subst hi
                  rw [List.getElem?_set_self hlt] at h1
                  obtain rfl := Option.some.inj h1
                  have hj : j < sz := by rw [← hds]; exact (List.getElem?_eq_some_iff.1 h2).1
                  have hj' : j < v.cells.toList.length := by simpa [hsz] using hj
                  refine ⟨v.cells.toList[j], ?_, a5 j d _ h2 (List.getElem?_eq_getElem hj')⟩
                  rw [f2, if_pos (by simp [hsz]; omega), show i * sz + j - (i * sz + 0) = j by omega, List.getElem?_eq_getElem hj']
                · rw [List.getElem?_set_ne (Ne.symm hi)] at h1
                  obtain ⟨u, q1, q2⟩ := r3 i j el d h1 h2
                  have hj : j < sz := by rw [← r2 el (List.mem_of_getElem? h1)]; exact (List.getElem?_eq_some_iff.1 h2).1
                  refine ⟨u, ?_, q2.stay a2⟩
                  rw [f2, if_neg ?_]
                  · exact q1
                  · simp only [Array.length_toList, hsz, Nat.add_zero]
                    intro hh
                    have := (idx_inj (i := i) (j := j) (i' := off) (j' := i * sz + j - off * sz) hj (by omega) (by omega)).1
                    exact hi this
            obtain ⟨us', g1, g2, g3, g4, g5, g6⟩ := bslEls_sound ps qs a1 hrow (by simpa using hl) (fun j p q hp' hq' => by
              obtain ⟨q1, q2⟩ := hp (j + 1) p q (by simpa using hp') (by simpa using hq')
              exact ⟨q1, q2.tr a2 a3⟩) he
            refine ⟨us', ?_, g2, a2.trans g3 (Nat.le_refl _), a3.trans g4, g5, by rw [g6]; simp⟩
            unfold Instr.fill
            simp only [hsz]
            rw [if_neg (by simp; omega)]
            first
              | exact g1
              | (simp only [← Array.foldl_toList, Array.toList_zipIdx] at g1 ⊢; exact g1)
          · simp at he
        · simp at he
      · simp at he
theorem plainZs_spec : ∀ {zs : List V} {ds : List D}, plainZs zs = some ds → ds.length = zs.length ∧ ∀ (i : Nat) (z : V) (d : D), zs[i]? = some z → ds[i]? = some d → plainZ z = some d
  | [], ds, h => by simp only [plainZs] at h; obtain rfl := Option.some.inj h; exact ⟨rfl, fun i z d hz => by simp at hz⟩
  | z :: zs, ds, h => by
    simp only [plainZs] at h
    split at h
    · rename_i d hd
      split at h
      · rename_i ds' hds
        obtain rfl := Option.some.inj h
        obtain ⟨k1, k2⟩ := plainZs_spec hds
        refine ⟨by simp [k1], fun i z' d' h1 h2 => ?_⟩
        cases i with
        | zero => simp at h1 h2; subst h1; subst h2; exact hd
        | succ i => exact k2 i z' d' (by simpa using h1) (by simpa using h2)
      · simp at h
    · simp at h
theorem plainZ_sound {z : V} {d : D} {v : Value} (h : plainZ z = some d) (hz : RepE w X H ρ z v) : RepS w X d v := by
  unfold plainZ at h
  split at h
  · obtain rfl := Option.some.inj h
    cases hz with
    | val d v h => exact h
  · obtain rfl := Option.some.inj h
    cases hz with
    | emp sz a =>
      cases a with
      | none => exact .shn _ _ (by simp)
      | some A => exact .sh .fresh _ [] A 0 (fun _ _ => undef) (by simp) (by simp) (by simp) (fun i j el d q => by simp at q) fun i j el d q => by simp at q
  · simp at h
theorem zero_rows {t : TypeId} {zs : List V} {ds : List D} {i : TypeInfo} {z : Value} {n : Nat} (hz : zeros P t = some zs) (hd : plainZs zs = some ds) (hi : P.info? t = some i) (hzz : i.zero = some z) (hl : ds.length = P.cellsOf t) :
    z.cells.size = i.size ∧ RowS w X (P.cellsOf t) (List.replicate n ds) (madeCells z.cells (n * i.size)) := by
  obtain ⟨i', z', h1, h2, h3⟩ := zeros_spec (w := w) (X := X) (H := []) (ρ := ⟨fun _ => none, fun _ _ => False⟩) hz
  rw [hi] at h1; obtain rfl := Option.some.inj h1
  rw [hzz] at h2; obtain rfl := Option.some.inj h2
  obtain ⟨k1, k2⟩ := plainZs_spec hd
  have hs : P.cellsOf t = i.size := by simp [Program.cellsOf, hi]
  have hzs : z.cells.size = i.size := by rw [h3.1, ← k1, hl, hs]
  refine ⟨hzs, by rw [size_madeCells, hs]; simp, fun el hel => by rw [List.eq_of_mem_replicate hel]; exact hl, fun q j el d q1 q2 => ?_⟩
  have hq : q < n := by simpa using (List.getElem?_eq_some_iff.1 q1).1
  have : el = ds := by rw [List.getElem?_replicate, if_pos hq] at q1; exact (Option.some.inj q1).symm
  subst this
  have hj : j < i.size := by rw [← hs, ← hl]; exact (List.getElem?_eq_some_iff.1 q2).1
  have hjz : j < zs.length := by rw [← k1, hl, hs]; exact hj
  refine ⟨z.cells[j]'(by rw [hzs]; exact hj), ?_, plainZ_sound (k2 j zs[j] d (List.getElem?_eq_getElem hjz) q2) (h3.2 j zs[j] _ (List.getElem?_eq_getElem hjz) (by simp [hzs, hj]))⟩
  rw [hs]
  have hlt := idx_lt hq hj
  unfold madeCells
  rw [Array.getElem?_map]
  have : (Array.range (n * i.size))[q * i.size + j]? = some (q * i.size + j) := by simp [hlt]
  rw [this]
  have hm : (q * i.size + j) % z.cells.size = j := by rw [hzs, Nat.add_comm, Nat.add_mul_mod_self_right, Nat.mod_eq_of_lt hj]
  have hj' : j < z.cells.size := by rw [hzs]; exact hj
  simp only [Option.map_some, hm, getElem!_pos z.cells j hj']
theorem rowC_ofS {w : World} {X : K → Nat → Prop} {H : Heap} {p : Option (Nat × Nat)} {old : Bool} {sz : Nat} {els : List (List D)} {S : Nat → Prop} (h1 : ∀ el ∈ els, el.length = sz) (h2 : els = [] ∨ p ≠ none) (hS : ∀ x, S x → x < w.heap.size)
    (h3 : ∀ g k, p = some (g, k) → ¬ S g ∧ OwnBlk w g (k + els.length * sz) ∧ ∀ (i j : Nat) (el : List D) (d : D), els[i]? = some el → el[j]? = some d → ∃ u, w.cell? ⟨g, k + i * sz + j, none⟩ = some u ∧ RepS w X d u) : RepB w X H ρ p S (.row old sz els) := by
  refine ⟨fun _ _ _ => False, h1, h2, hS, fun i j i' j' b _ _ hb => hb.elim, fun i j x _ hb => hb.elim, fun g k hp => ?_⟩
  obtain ⟨q0, q1, q2⟩ := h3 g k hp
  refine ⟨q0, q1, fun i j el d r1 r2 => ?_⟩
  obtain ⟨u, r3, r4⟩ := q2 i j el d r1 r2
  exact ⟨u, r3, .ofS r4⟩
theorem row_born {sz : Nat} {els : List (List D)} {c : Array Value} {ty : TypeId} {w : World} (hr : RowS w X sz els c) {X' : K → Nat → Prop} {H' : Heap} (st : Stay w (w.alloc (.cells c ty)) X X') :
    RepB (w.alloc (.cells c ty)) X' H' ρ' (some (w.heap.size, 0)) noB (.row false sz els) := by
  have hg : (w.alloc (.cells c ty)).heap[w.heap.size]? = some (.cells c ty (0, 0)) := heap_alloc_new w _
  refine rowC_ofS hr.2.1 (.inr (by simp)) (fun x hx => hx.elim) fun g k e => ?_
  obtain ⟨rfl, rfl⟩ : w.heap.size = g ∧ 0 = k := by simpa using e
  refine ⟨fun hx => hx.elim, ⟨c, ty, hg, by rw [hr.1]; omega⟩, fun i j el d h1 h2 => ?_⟩
  obtain ⟨u, q1, q2⟩ := hr.2.2 i j el d h1 h2
  exact ⟨u, by unfold World.cell?; rw [hg]; simp [q1], q2.stay st⟩
theorem var_born {cs : List V} {c : Array Value} {ty : TypeId} {w : World} (hr : Cells w X H ρ cs c) {X' : K → Nat → Prop} {H' : Heap} (st : Stay w (w.alloc (.cells c ty)) X X') (t : HTr w (w.alloc (.cells c ty)) H H' ρ ρ') :
    RepB (w.alloc (.cells c ty)) X' H' ρ' (some (w.heap.size, 0)) noB (.var false cs) := by
  have hg : (w.alloc (.cells c ty)).heap[w.heap.size]? = some (.cells c ty (0, 0)) := heap_alloc_new w _
  refine ⟨fun x hx => hx.elim, _, _, rfl, ⟨c, ty, hg, by rw [hr.1]; omega⟩, fun j x hx => ?_⟩
  have hj : j < c.size := by rw [hr.1]; exact (List.getElem?_eq_some_iff.1 hx).1
  exact ⟨c[j], by unfold World.cell?; rw [hg]; simp [hj], (hr.2 j x c[j] hx (by simp [hj])).tr st t⟩
theorem kind_len {l1 : List TypeId} {l2 : List Operand} {i : I} (h : convLen P l1 l2 = some i) : heavy i = false := by
  unfold convLen at h
  repeat' split at h
  all_goals first | (simp at h; done) | (obtain rfl := Option.some.inj h; rfl)
theorem kind_cap {l1 : List TypeId} {l2 : List Operand} {i : I} (h : convCap P l1 l2 = some i) : heavy i = false := by
  unfold convCap at h
  repeat' split at h
  all_goals first | (simp at h; done) | (obtain rfl := Option.some.inj h; rfl)
theorem kind_app {l1 : List TypeId} {l2 : List Operand} {i : I} (h : convApp P l1 l2 = some i) : ∃ a b c d, i = .app a b c d := by
  unfold convApp at h
  repeat' split at h
  all_goals first | (simp at h; done) | (obtain rfl := Option.some.inj h; exact ⟨_, _, _, _, rfl⟩)
theorem kind_cpy {l1 : List TypeId} {l2 : List Operand} {i : I} (h : convCpy P l1 l2 = some i) : ∃ a b c, i = .cpy a b c := by
  unfold convCpy at h
  repeat' split at h
  all_goals first | (simp at h; done) | (obtain rfl := Option.some.inj h; exact ⟨_, _, _, rfl⟩)
def Kind (op : Op) : I → Prop
  | .box .. => ∃ t x, op = .box t x
  | .alc .. => ∃ t, op = .alloc t
  | .bsl .. => ∃ t l ps, op = .buildSlice t l ps
  | .msl .. => ∃ t l c, op = .makeSlice t l c
  | .st .. => ∃ t a x, op = .store t a x
  | .app .. => ∃ args ts, op = .call ⟨.builtin .append, args, ts⟩
  | .cpy .. => ∃ args ts, op = .call ⟨.builtin .copy, args, ts⟩
  | .call .. => ∃ f args ts, op = .call ⟨.value f, args, ts⟩
  | .own _ => False
  | _ => True
theorem Kind.quiet {op : Op} {i : I} (h : heavy i = false) : Kind op i := by
  cases i <;> first | trivial | simp [heavy] at h
theorem kind_of {o : Oper} {i : I} (hc : conv1 P o = some i) : Kind o.op i := by
  obtain ⟨dst, op, type, pos, after, guard⟩ := o
  cases op <;> simp only [conv1] at hc
  case box t x =>
    repeat' split at hc
    all_goals first | (simp at hc; done) | (obtain rfl := Option.some.inj hc; exact ⟨_, _, rfl⟩)
  case alloc t => obtain ⟨z, _, rfl⟩ := Option.map_eq_some_iff.1 hc; exact ⟨_, rfl⟩
  case buildSlice t l ps =>
    repeat' split at hc
    all_goals first | (simp at hc; done) | (obtain rfl := Option.some.inj hc; exact ⟨_, _, _, rfl⟩)
  case makeSlice t l c =>
    repeat' split at hc
    all_goals first | (simp at hc; done) | (obtain rfl := Option.some.inj hc; exact ⟨_, _, _, rfl⟩)
  case store t a x =>
    repeat' split at hc
    all_goals first | (simp at hc; done) | (obtain rfl := Option.some.inj hc; exact ⟨_, _, _, rfl⟩)
  case call c =>
    obtain ⟨callee, args, ts⟩ := c
    cases callee with
    | builtin b =>
      cases b <;> simp only at hc <;> try (simp at hc; done)
      case len => exact .quiet (kind_len hc)
      case cap => exact .quiet (kind_cap hc)
      case max => obtain ⟨z, _, rfl⟩ := Option.map_eq_some_iff.1 hc; trivial
      case min => obtain ⟨z, _, rfl⟩ := Option.map_eq_some_iff.1 hc; trivial
      case append => obtain ⟨_, _, _, _, rfl⟩ := kind_app hc; exact ⟨_, _, rfl⟩
      case copy => obtain ⟨_, _, _, rfl⟩ := kind_cpy hc; exact ⟨_, _, rfl⟩
    | value f =>
      simp only at hc
      split at hc
      · obtain rfl := Option.some.inj hc; exact ⟨_, _, _, rfl⟩
      · simp at hc
    | _ => simp at hc
  case makeFunc fn first cap =>
    cases fn <;> simp only at hc <;> try (simp at hc; done)
    split at hc
    · obtain ⟨z, _, rfl⟩ := Option.map_eq_some_iff.1 hc; trivial
    · simp at hc
  all_goals first
    | (simp at hc; done)
    | (obtain ⟨z, _, rfl⟩ := Option.map_eq_some_iff.1 hc; trivial)
    | (repeat' split at hc
       all_goals first | (simp at hc; done) | (obtain rfl := Option.some.inj hc; trivial) | (obtain ⟨z, _, rfl⟩ := Option.map_eq_some_iff.1 hc; trivial))
def notLds : I → Bool
  | .lds .. => false
  | _ => true
theorem conv1_lds {o : Oper} {s : Option Nat} {x : Od} (hc : conv1 P o = some (.lds s x)) : False := by
  have len : ∀ {l1 : List TypeId} {l2 : List Operand} {i : I}, convLen P l1 l2 = some i → notLds i = true := fun h => by
    unfold convLen at h
    repeat' split at h
    all_goals first | (simp at h; done) | (obtain rfl := Option.some.inj h; rfl)
  have cap : ∀ {l1 : List TypeId} {l2 : List Operand} {i : I}, convCap P l1 l2 = some i → notLds i = true := fun h => by
    unfold convCap at h
    repeat' split at h
    all_goals first | (simp at h; done) | (obtain rfl := Option.some.inj h; rfl)
  have key : ∀ i, conv1 P o = some i → notLds i = true := by
    clear hc
    intro i hc
    obtain ⟨dst, op, type, pos, after, guard⟩ := o
    cases op <;> simp only [conv1] at hc
    case call c =>
      obtain ⟨callee, args, ts⟩ := c
      cases callee with
      | builtin b =>
        cases b <;> simp only at hc <;> try (simp at hc; done)
        case len => exact len hc
        case cap => exact cap hc
        case max => obtain ⟨z, _, rfl⟩ := Option.map_eq_some_iff.1 hc; rfl
        case min => obtain ⟨z, _, rfl⟩ := Option.map_eq_some_iff.1 hc; rfl
        case append => obtain ⟨_, _, _, _, rfl⟩ := kind_app hc; rfl
        case copy => obtain ⟨_, _, _, rfl⟩ := kind_cpy hc; rfl
      | value f =>
        simp only at hc
        split at hc
        · obtain rfl := Option.some.inj hc; rfl
        · simp at hc
      | _ => simp at hc
    case makeFunc fn first cap =>
      cases fn <;> simp only at hc <;> try (simp at hc; done)
      split at hc
      · obtain ⟨z, _, rfl⟩ := Option.map_eq_some_iff.1 hc; rfl
      · simp at hc
    all_goals first
      | (simp at hc; done)
      | (obtain ⟨z, _, rfl⟩ := Option.map_eq_some_iff.1 hc; rfl)
      | (repeat' split at hc
         all_goals first | (simp at hc; done) | (obtain rfl := Option.some.inj hc; rfl) | (obtain ⟨z, _, rfl⟩ := Option.map_eq_some_iff.1 hc; rfl))
  have := key _ hc
  simp [notLds] at this
theorem conv1_own {o : Oper} {i : I} (hc : conv1 P o = some (.own i)) : False := kind_of hc
theorem evm_sound {a : Act} (h : FR G w0 L X0 w a.tmps fr ρ) {o : Oper} {i : I} {dst : Nat} {y : V} {H' : Heap} (hc : conv1 P o = some i) (he : evm (oval G fr.env) fr.heap dst i = some (y, H')) :
    ∃ u w' ρ', (execOp a.eval o).run P w = .ok (.value u) w' ∧ FR G w0 L X0 w' a.tmps { fr with heap := H' } ρ' ∧ RepE w' (XX w0 X0 H' ρ') H' ρ' y u ∧ Chg w w' E ∧ (∀ s, s ≠ bid dst → ρ' s = ρ s) ∧ Stay w w' (XX w0 X0 fr.heap ρ) (XX w0 X0 H' ρ') := by
  have od1 : ∀ {t : TypeId} {x : Operand} {z : Od}, od P t x = some z → RepE w (XX w0 X0 fr.heap ρ) fr.heap ρ (oval G fr.env z) (a.eval x) := fun hz => od_sound h hz
  have var : ∀ {cs : List V} {c : Array Value} {ty : TypeId}, Cells w (XX w0 X0 fr.heap ρ) fr.heap ρ cs c → (execOp a.eval o).run P w = .ok (.value (.pointer (some ⟨w.heap.size, 0, none⟩))) (w.alloc (.cells c ty)) →
      (if free (bid dst) fr.heap = true then some (V.pt (bid dst) 0, (bid dst, Blk.var false cs) :: fr.heap) else none) = some (y, H') →
      ∃ u w' ρ', (execOp a.eval o).run P w = .ok (.value u) w' ∧ FR G w0 L X0 w' a.tmps { fr with heap := H' } ρ' ∧ RepE w' (XX w0 X0 H' ρ') H' ρ' y u ∧ Chg w w' E ∧ (∀ s, s ≠ bid dst → ρ' s = ρ s) ∧ Stay w w' (XX w0 X0 fr.heap ρ) (XX w0 X0 H' ρ') := by
    intro cs c ty hcs hrun hif
    split at hif
    · rename_i hfree
      obtain ⟨rfl, rfl⟩ := by simpa using hif
      obtain ⟨b1, b2, b3⟩ := h.born (chg_alloc w (.cells c ty)) (g := w.heap.size) (k := 0) (Nat.le_refl _) (by simp) (free_spec hfree) (B := .var false cs) (fun X' H' ρ' st t => var_born hcs st t)
      exact ⟨_, _, _, hrun, b1, .pt _ _ _ (.var false cs) (by simp [look]) ⟨w.heap.size, 0, setP_self _ _ _ _, rfl⟩, chg_alloc w _, fun s hs => setP_ne hs _ _ _, b2⟩
    · simp at hif
  have row : ∀ {fr2 : Fr} {sz n : Nat} {els : List (List D)} {c : Array Value} {ty : TypeId}, FR G w0 L X0 w a.tmps fr2 ρ → fr2.env = fr.env → fr2.nt = fr.nt → Stay w w (XX w0 X0 fr.heap ρ) (XX w0 X0 fr2.heap ρ) → RowS w (XX w0 X0 fr2.heap ρ) sz els c → els.length = n → (execOp a.eval o).run P w = .ok (.value (.slice (some ⟨w.heap.size, 0, none⟩) n n)) (w.alloc (.cells c ty)) →
      free (bid dst) fr2.heap = true → y = .sl (bid dst) 0 n → H' = (bid dst, .row false sz els) :: fr2.heap →
      ∃ u w' ρ', (execOp a.eval o).run P w = .ok (.value u) w' ∧ FR G w0 L X0 w' a.tmps { fr with heap := H' } ρ' ∧ RepE w' (XX w0 X0 H' ρ') H' ρ' y u ∧ Chg w w' E ∧ (∀ s, s ≠ bid dst → ρ' s = ρ s) ∧ Stay w w' (XX w0 X0 fr.heap ρ) (XX w0 X0 H' ρ') := by
    intro fr2 sz n els c ty h2 he1 he2 hst hcs hlen hrun hfree hy hH
    subst hy hH
    obtain ⟨b1, b2, b3⟩ := h2.born (chg_alloc w (.cells c ty)) (g := w.heap.size) (k := 0) (Nat.le_refl _) (by simp) (free_spec hfree) (B := .row false sz els) (fun X' H' ρ' st t => row_born hcs st)
    have e : ({ fr2 with heap := (bid dst, Blk.row false sz els) :: fr2.heap } : Fr) = { fr with heap := (bid dst, Blk.row false sz els) :: fr2.heap } := by rw [he1, he2]
    rw [e] at b1
    refine ⟨_, _, _, hrun, b1, .sl _ _ _ _ (.row false sz els) (by simp [look]) ⟨by omega, _, n, rfl, Nat.le_refl _, .inr ⟨w.heap.size, 0, setP_self _ _ _ _, by simp, ?_⟩⟩, chg_alloc w _, fun s hs => setP_ne hs _ _ _, hst.trans b2 (Nat.le_refl _)⟩
    refine ⟨c, ty, heap_alloc_new w _, ?_⟩
    rw [hcs.1, hlen]; omega
  have hk := kind_of hc
  obtain ⟨odst, op, otype, pos, after, guard⟩ := o
  cases i <;> simp only [evm] at he <;> try (simp at he; done)
  case box s x =>
    obtain ⟨t, x0, rfl⟩ := hk
    simp only [conv1] at hc
    split at hc
    · rename_i s' x' h1 h2
      split at hc
      · obtain ⟨rfl, rfl⟩ := by simpa using hc
        split at he
        · rename_i xs hxs
          exact var (cellsV_sound (od1 h2) hxs).1 (ty := t) (by simp [execOp, Instr.box, newVar, newRow]) he
        · simp at he
      · simp at hc
    · simp at hc
  case alc zs =>
    obtain ⟨t, rfl⟩ := hk
    simp only [conv1] at hc
    obtain ⟨z', hz, e⟩ := Option.map_eq_some_iff.1 hc
    obtain rfl : z' = zs := by simpa using e
    obtain ⟨i, z, hi, hzz, hcs⟩ := zeros_spec (w := w) (X := XX w0 X0 fr.heap ρ) (H := fr.heap) (ρ := ρ) hz
    exact var hcs (ty := t) (by simp [execOp, Instr.alloc, newVar, newRow, zeroValue, typeInfo, hi, hzz]) he
  case bsl sz zs len ps =>
    obtain ⟨t, l, parts, rfl⟩ := hk
    simp only [conv1] at hc
    split at hc
    · rename_i e hu
      split at hc
      · rename_i zv ps' h1 h2
        split at hc
        · rename_i ds h3
          split at hc
          · rename_i hcond
            obtain ⟨rfl, rfl, rfl, rfl⟩ := by simpa using hc
            split at he
            · rename_i els H1 hels
              split at he
              · rename_i hfree
                obtain ⟨rfl, rfl⟩ := by simpa using he
                obtain ⟨i, z, hi, hzz, _⟩ := zeros_spec (w := w) (X := XX w0 X0 fr.heap ρ) (H := fr.heap) (ρ := ρ) h1
                obtain ⟨q1, q2⟩ := zero_rows (w := w) (X := XX w0 X0 fr.heap ρ) (n := l) h1 h3 hi hzz hcond.2.2
                obtain ⟨k1, k2⟩ := partsA_spec h2
                have hs : P.cellsOf e = i.size := by simp [Program.cellsOf, hi]
                obtain ⟨us', g1, g2, g3, g4, g5, g6⟩ := bslEls_sound ps' (parts.map fun p => (p.1, a.eval p.2)).toList h q2 (by simpa using k1) (fun j p q hp' hq' => by
                  simp only [Array.toList_map, List.getElem?_map, Option.map_eq_some_iff] at hq'
                  obtain ⟨q0, hq0, rfl⟩ := hq'
                  obtain ⟨b2, b3, b4⟩ := k2 j p q0 hp' hq0
                  exact ⟨b2, od1 b4⟩) hels
                refine row (fr2 := { fr with heap := H1 }) g2 rfl rfl g3 g5 (by rw [g6]; simp) (ty := e) ?_ hfree rfl rfl
                rw [hs] at g1 hcond
                have hns : ¬ l * i.size > 2 ^ 24 := by have := hcond.1; omega
                by_cases h0 : l * i.size = 0
                · have e0 : madeCells z.cells (l * i.size) = #[] := by rw [h0]; simp [madeCells]
                  rw [e0] at g1
                  simp at g1
                  simp [execOp, Instr.buildSlice, run_underlying hu, Go.sizeOf, typeInfo, hi, h0, newRow, Array.range_zero', g1]
                · simp at g1
                  unfold madeCells at g1
                  simp [execOp, Instr.buildSlice, run_underlying hu, Go.sizeOf, typeInfo, zeroValue, hi, hzz, hns, h0, newRow, g1]
              · simp at he
            · simp at he
          · simp at hc
        · simp at hc
      · simp at hc
    · simp at hc
  case msl sz by_ zs l c =>
    obtain ⟨t, l0, c0, rfl⟩ := hk
    simp only [conv1] at hc
    split at hc
    · rename_i e hu
      split at hc
      · rename_i zv l' c' i h1 h2 h3 hi
        split at hc
        · rename_i ds h4
          split at hc
          · rename_i hcond
            obtain ⟨rfl, rfl, rfl, rfl, rfl⟩ := by simpa using hc
            split at he
            · rename_i kl n kc n' hl hcv
              split at he
              · rename_i hh
                obtain ⟨rfl, hn0, hb, h63, hfree⟩ := hh
                obtain ⟨rfl, rfl⟩ := by simpa using he
                obtain ⟨i', z, hi', hzz, _⟩ := zeros_spec (w := w) (X := XX w0 X0 fr.heap ρ) (H := fr.heap) (ρ := ρ) h1
                rw [hi] at hi'; obtain rfl := Option.some.inj hi'
                obtain ⟨q1, q2⟩ := zero_rows (w := w) (X := XX w0 X0 fr.heap ρ) (n := n.toNat) h1 h4 hi hzz hcond.2
                have el : Act.eval a l0 = .int kl n := by have := od1 h2; rw [hl] at this; exact rep_int this
                have ec : Act.eval a c0 = .int kc n := by have := od1 h3; rw [hcv] at this; exact rep_int this
                refine row (fr2 := fr) h rfl rfl (Stay.refl _ _) q2 (by simp) (ty := e) ?_ hfree rfl rfl
                simp only [execOp, el, ec, Sem.run_bind, run_make w t e i z hu hi hzz kl kc n n hn0 (Int.le_refl _) hb h63, Result.andThen_ok, Sem.run_pure]
              · simp at he
            · simp at he
          · simp at hc
        · simp at hc
      · simp at hc
    · simp at hc
end
end Go.Proofs.Ytpbonfgmiffomaa.Wm
set_option linter.unusedSimpArgs false
set_option linter.unusedVariables false
namespace Go.Proofs.Ytpbonfgmiffomaa.Wm
open Go
def splice {α : Type} (cs xs : List α) (o : Nat) : List α := cs.take o ++ (xs ++ cs.drop (o + xs.length))
def evs (ρ : Od → V) (H : Heap) : I → Option Heap
  | .st s a x => match cellsV s (ρ x) with
    | some xs => if xs.all isCell = true then match ρ a with
      | .pt b o => match look b H with
        | some (.var old cs) => if o + xs.length ≤ cs.length then some (updB b (.var old (splice cs xs o)) H) else none
        | _ => none
      | .ep b i o => match plainL H xs with
        | some (ds, H1) => match look b H1 with
          | some (.row old sz els) => match els[i]? with
            | some el => if o + ds.length ≤ el.length then some (updB b (.row old sz (els.set i (splice el ds o))) H1) else none
            | none => none
          | _ => none
        | none => none
      | _ => none else none
    | none => none
  | _ => none
section
variable {P : Program} {G : Nat → Option (List D)} {w0 : World} {L X0 X1 : Nat → Prop} {w w' w2 : World} {tm : Array Value} {fr : Fr} {ρ ρ' : Place} {X : K → Nat → Prop} {H : Heap}
theorem splice_len {α : Type} {cs xs : List α} {o : Nat} (h : o + xs.length ≤ cs.length) : (splice cs xs o).length = cs.length := by
  simp [splice]; omega
theorem splice_get {α : Type} {cs xs : List α} {o j : Nat} (h : o + xs.length ≤ cs.length) : (splice cs xs o)[j]? = if o ≤ j ∧ j < o + xs.length then xs[j - o]? else cs[j]? := by
  have ho : (cs.take o).length = o := by simp; omega
  unfold splice
  by_cases h1 : j < o
  · rw [List.getElem?_append_left (by omega), List.getElem?_take, if_pos h1, if_neg (by omega)]
  · rw [List.getElem?_append_right (by omega), ho]
    by_cases h2 : j - o < xs.length
    · rw [List.getElem?_append_left h2, if_pos (by omega)]
    · rw [List.getElem?_append_right (by omega), List.getElem?_drop, if_neg (by omega)]
      congr 1; omega
theorem chg_setRow {g : Nat} {c c' : Array Value} {ty : TypeId} (hg : w.heap[g]? = some (.cells c ty (0, 0))) (hs : c'.size = c.size) : Chg w (w.setRow g c') (fun b => b = g) := by
  have hrow := setRow_heap w g c c' ty _ hg
  refine ⟨rfl, rfl, rfl, by simp [World.setRow], fun b hb hne => setRow_other w g b _ hne, fun b m ho => ?_⟩
  by_cases hb : b = g
  · subst hb
    obtain ⟨c0, t0, h0, hm⟩ := ho
    rw [hg] at h0
    obtain ⟨rfl, rfl⟩ : c = c0 ∧ ty = t0 := by simpa using h0
    exact ⟨c', ty, hrow, by omega⟩
  · exact ho.same (setRow_other w g b _ hb)
theorem store_row {g o : Nat} {us : List Value} {m : Nat} (hb : OwnBlk w g m) (hl : o + us.length ≤ m) (h1 : ∀ u ∈ us, u.oneCell' = true) :
    ∃ w', (storeCells ⟨g, o, none⟩ us 0).run P w = .ok () w' ∧ Chg w w' (fun b => b = g) ∧ ∀ (j : Nat) (v : Value), w.cell? ⟨g, j, none⟩ = some v → w'.cell? ⟨g, j, none⟩ = if o ≤ j ∧ j < o + us.length then us[j - o]? else some v := by
  obtain ⟨c, ty, hg, hc⟩ := hb
  have hst := run_storeCells_at P g o ty us 0 c w hg (by omega) h1
  simp only [Nat.add_zero] at hst
  have hsz : (c.toList.take o ++ us ++ c.toList.drop (o + us.length)).toArray.size = c.size := by simp; omega
  have hrow := setRow_heap w g c (c.toList.take o ++ us ++ c.toList.drop (o + us.length)).toArray ty _ hg
  refine ⟨_, hst, chg_setRow hg hsz, fun j v hj => ?_⟩
  unfold World.cell? at hj ⊢
  rw [hg] at hj
  rw [hrow]
  simp only at hj ⊢
  have hs := splice_get (cs := c.toList) (xs := us) (o := o) (j := j) (by simpa using (by omega : o + us.length ≤ c.size))
  unfold splice at hs
  rw [← List.append_assoc] at hs
  simp only [List.getElem?_toArray]
  simp only [Option.isSome_none, Bool.false_eq_true, if_false] at hj ⊢
  rw [hs]
  by_cases hc : o ≤ j ∧ j < o + us.length
  · rw [if_pos hc, if_pos hc]
  · rw [if_neg hc, if_neg hc]; simpa using hj
theorem cells_ones {s : Option Nat} {x : V} {v : Value} {xs : List V} (hx : RepE w X H ρ x v) (hxs : cellsV s x = some xs) (hp : ∀ (i : Nat) (y : V), xs[i]? = some y → isCell y = true) : ∀ u ∈ v.cells.toList, u.oneCell' = true := by
  obtain ⟨hv, _, _⟩ := cellsV_sound hx hxs
  intro u hu
  obtain ⟨j, hj⟩ := List.getElem?_of_mem hu
  have hlt : j < xs.length := by rw [← hv.1]; simpa using (List.getElem?_eq_some_iff.1 hj).1
  exact (cell_one (hp j xs[j] (List.getElem?_eq_getElem hlt)) (hv.2 j xs[j] u (List.getElem?_eq_getElem hlt) (by simpa using hj))).2
theorem r_storeAt {t : TypeId} {s : Option Nat} {g o : Nat} {v : Value} (ha : aggN P t = some s) (hs : v.cells.size = P.cellsOf t) (hr : (storeCells ⟨g, o, none⟩ v.cells.toList 0).run P w = .ok () w') :
    (Instr.storeAt t (.pointer (some ⟨g, o, none⟩)) v).run P w = .ok () w' := by
  obtain ⟨h1, _, _⟩ := aggN_spec (w := w) ha
  simp only [Instr.storeAt, Instr.sureAddr, storeVar, Sem.run_bind, Sem.run_pure, Result.andThen_ok, r_sizeOf h1, hs, ne_eq, not_true_eq_false, if_false, hr]
theorem evs_sound {a : Act} (h : FR G w0 L X0 w a.tmps fr ρ) {o : Oper} {i : I} {H' : Heap} (hc : conv1 P o = some i) (he : evs (oval G fr.env) fr.heap i = some H') :
    ∃ w', (execOp a.eval o).run P w = .ok .skip w' ∧ FR G w0 L X0 w' a.tmps { fr with heap := H' } ρ ∧ Stay w w' (XX w0 X0 fr.heap ρ) (XX w0 X0 H' ρ) ∧ HTr w w' fr.heap H' ρ ρ := by
  have hk := kind_of hc
  obtain ⟨odst, op, otype, pos, after, guard⟩ := o
  cases i <;> simp only [evs] at he <;> try (simp at he; done)
  rename_i s ad x
  obtain ⟨t, a0, x0, rfl⟩ := hk
  simp only [conv1] at hc
  split at hc
  · rename_i s' a' x' h1 h2 h3
    split at hc
    · rename_i hcond
      obtain ⟨rfl, rfl, rfl⟩ := by simpa using hc
      have hx := od_sound h h3
      have ha := od_sound h h2
      have fin : ∀ w', (Instr.storeAt t (a.eval a0) (a.eval x0)).run P w = .ok () w' → (execOp a.eval ⟨odst, .store t a0 x0, otype, pos, after, guard⟩).run P w = .ok .skip w' := fun w' hr => by simp [execOp, hr]
      split at he
      · rename_i xs hxs
        split at he
        · rename_i hall
          obtain ⟨hv, hv1, hv2⟩ := cellsV_sound hx hxs
          have hones := cells_ones hx hxs (fun i y hy => List.all_eq_true.1 hall y (List.mem_of_getElem? hy))
          have hsz : (a.eval x0).cells.size = P.cellsOf t := by
            rw [hv.1, hcond.1]
            cases s' with
            | none => simpa using hv2 rfl
            | some n => simpa using hv1 n rfl
          split at he
          · rename_i b o hpt
            rw [hpt] at ha
            split at he
            · rename_i old cs hb
              split at he
              · rename_i hfit
                obtain rfl := Option.some.inj he
                obtain ⟨g, k, hp, hva⟩ := pt_open ha hb
                obtain ⟨hS, g', k', hp', hown, hcells⟩ := h.blk b _ hb
                rw [hp] at hp'; obtain ⟨rfl, rfl⟩ : g = g' ∧ k = k' := by simpa using hp'
                obtain ⟨w', r1, r2, r3⟩ := store_row (o := k + o) (us := (a.eval x0).cells.toList) hown (by simp [hv.1]; omega) hones
                obtain ⟨b1, b2, b3⟩ := h.set (B' := .var old (splice cs xs o)) hb rfl rfl rfl rfl hp r2 (fun X' H' st tt _ => by
                  refine ⟨hS, g, k, rfl, by rw [splice_len hfit]; exact r2.own _ _ hown, fun j y hy => ?_⟩
                  rw [splice_get hfit] at hy
                  split at hy
                  · rename_i hj
                    have hlt : j - o < (a.eval x0).cells.size := by rw [hv.1]; omega
                    have hjc : j < cs.length := by omega
                    obtain ⟨u0, e0, _⟩ := hcells j cs[j] (List.getElem?_eq_getElem hjc)
                    refine ⟨(a.eval x0).cells[j - o], ?_, (hv.2 (j - o) y _ hy (by simp [hlt])).tr st tt⟩
                    rw [r3 _ _ e0, if_pos (by simp [hv.1]; omega)]
                    rw [show k + j - (k + o) = j - o by omega]
                    simp [hlt]
                  · rename_i hj
                    obtain ⟨u0, e0, e1⟩ := hcells j y hy
                    refine ⟨u0, ?_, e1.tr st tt⟩
                    rw [r3 _ _ e0, if_neg (by simp [hv.1]; omega)]) (hS g)
                exact ⟨w', fin w' (by rw [hva]; exact r_storeAt h1 hsz r1), b1, b2, b3⟩
              · simp at he
            · simp at he
          · rename_i b i o hep
            rw [hep] at ha
            split at he
            · rename_i ds H1 hds
              obtain ⟨p1, p2, p3, p4, p5⟩ := plainL_sound (us := (a.eval x0).cells.toList) h (by simpa using hv.1) (fun i y u hy hu => hv.2 i y u hy (by simpa using hu)) hds
              split at he
              · rename_i old sz els hb
                split at he
                · rename_i el hel
                  split at he
                  · rename_i hfit
                    obtain rfl := Option.some.inj he
                    have ha' := ha.tr p2 p3
                    obtain ⟨g, k, hp, hva⟩ := ep_open ha' hb
                    obtain ⟨φ, q1, q2, q4, q5, q6, q3⟩ := p1.blk b _ hb
                    obtain ⟨hng, hown, hcells⟩ := q3 g k hp
                    have hel' : el.length = sz := q1 el (List.mem_of_getElem? hel)
                    have hi : i < els.length := (List.getElem?_eq_some_iff.1 hel).1
                    have hbnd : i * sz + sz ≤ els.length * sz := by
                      have : (i + 1) * sz ≤ els.length * sz := Nat.mul_le_mul_right _ hi
                      rw [Nat.succ_mul] at this; exact this
                    have hvl : (a.eval x0).cells.toList.length = ds.length := by rw [p4]; simpa using hv.1
                    obtain ⟨w', r1, r2, r3⟩ := store_row (o := k + i * sz + o) (us := (a.eval x0).cells.toList) hown (by rw [hvl]; omega) hones
                    have hin : ∀ i2 j2, InR (els.set i (splice el ds o)) i2 j2 → InR els i2 j2 := by
                      rintro i2 j2 ⟨e2, d2, h1, h2⟩
                      by_cases hii : i2 = i
                      · subst hii
                        rw [List.getElem?_set_self hi] at h1
                        obtain rfl := Option.some.inj h1
                        have hj2 : j2 < el.length := by rw [← splice_len hfit]; exact (List.getElem?_eq_some_iff.1 h2).1
                        exact ⟨el, el[j2], hel, List.getElem?_eq_getElem hj2⟩
                      · rw [List.getElem?_set_ne (Ne.symm hii)] at h1
                        exact ⟨e2, d2, h1, h2⟩
                    obtain ⟨b1, b2, b3⟩ := p1.set (B' := .row old sz (els.set i (splice el ds o))) hb rfl rfl rfl (by simp [Blk.sh]) hp r2 (fun X' H' st tt hkp => by
                      refine ⟨fun i2 j2 x => φ i2 j2 x ∧ ¬ (i2 = i ∧ o ≤ j2 ∧ j2 < o + ds.length), fun e he => ?_, .inr (by simp), fun x hx => heap_lt (q4 x hx) (hkp x hx), fun i2 j2 i3 j3 x h1 h2 h3 h4 => q5 i2 j2 i3 j3 x (hin _ _ h1) (hin _ _ h2) h3.1 h4.1, fun i2 j2 x h1 h2 => q6 i2 j2 x (hin _ _ h1) h2.1, fun g2 k2 e => ?_⟩
                      · rcases List.mem_or_eq_of_mem_set he with hh | hh
                        · exact q1 e hh
                        · rw [hh, splice_len hfit]; exact hel'
                      · obtain ⟨rfl, rfl⟩ : g = g2 ∧ k = k2 := by simpa using e
                        refine ⟨hng, by simpa using r2.own _ _ hown, fun i2 j2 e2 d2 h1 h2 => ?_⟩
                        by_cases hii : i2 = i
                        · subst hii
                          rw [List.getElem?_set_self hi] at h1
                          obtain rfl := Option.some.inj h1
                          rw [splice_get hfit] at h2
                          have hj2 : j2 < el.length := by
                            rcases Nat.lt_or_ge j2 el.length with hh | hh
                            · exact hh
                            · split at h2
                              · omega
                              · rw [List.getElem?_eq_none hh] at h2; simp at h2
                          obtain ⟨u0, e0, f0⟩ := hcells i2 j2 el el[j2] hel (List.getElem?_eq_getElem hj2)
                          split at h2
                          · rename_i hj
                            have hlt : j2 - o < (a.eval x0).cells.toList.length := by rw [hvl]; omega
                            refine ⟨(a.eval x0).cells.toList[j2 - o], ?_, .plain _ _ _ (fun x hx => absurd ⟨rfl, hj⟩ hx.2) ((p5 (j2 - o) d2 _ h2 (List.getElem?_eq_getElem hlt)).stay st)⟩
                            rw [r3 _ _ e0, if_pos (by rw [hvl]; omega), show k + i2 * sz + j2 - (k + i2 * sz + o) = j2 - o by omega, List.getElem?_eq_getElem hlt]
                          · rename_i hj
                            rw [List.getElem?_eq_getElem hj2] at h2
                            obtain rfl := Option.some.inj h2
                            have eφ : (fun x => φ i2 j2 x ∧ ¬ (i2 = i2 ∧ o ≤ j2 ∧ j2 < o + ds.length)) = φ i2 j2 := by funext x; apply propext; exact ⟨fun q => q.1, fun q => ⟨q, fun hh => hj hh.2⟩⟩
                            refine ⟨u0, ?_, ?_⟩
                            · rw [r3 _ _ e0, if_neg (by rw [hvl]; omega)]
                            · show RepC w' X' _ u0 (fun x => φ i2 j2 x ∧ ¬ (i2 = i2 ∧ o ≤ j2 ∧ j2 < o + ds.length))
                              rw [eφ]; exact f0.stay st fun x hx => hkp x (q6 _ _ x ⟨el, el[j2], hel, List.getElem?_eq_getElem hj2⟩ hx)
                        · rw [List.getElem?_set_ne (Ne.symm hii)] at h1
                          obtain ⟨u0, e0, f0⟩ := hcells i2 j2 e2 d2 h1 h2
                          have hj2 : j2 < sz := by rw [← q1 e2 (List.mem_of_getElem? h1)]; exact (List.getElem?_eq_some_iff.1 h2).1
                          have eφ : (fun x => φ i2 j2 x ∧ ¬ (i2 = i ∧ o ≤ j2 ∧ j2 < o + ds.length)) = φ i2 j2 := by funext x; apply propext; exact ⟨fun q => q.1, fun q => ⟨q, fun hh => hii hh.1⟩⟩
                          refine ⟨u0, ?_, ?_⟩
                          · rw [r3 _ _ e0, if_neg]
                            rw [hvl]
                            intro hh
                            exact hii (idx_inj (i := i2) (j := j2) (i' := i) (j' := i2 * sz + j2 - i * sz) hj2 (by omega) (by omega)).1
                          · show RepC w' X' _ u0 (fun x => φ i2 j2 x ∧ ¬ (i2 = i ∧ o ≤ j2 ∧ j2 < o + ds.length))
                            rw [eφ]; exact f0.stay st fun x hx => hkp x (q6 _ _ x ⟨e2, d2, h1, h2⟩ hx)) hng
                    exact ⟨w', fin w' (by rw [hva]; exact r_storeAt h1 hsz r1), b1, p2.trans b2 (Nat.le_refl _), p3.trans b3⟩
                  · simp at he
                · simp at he
              · simp at he
            · simp at he
          · simp at he
        · simp at he
      · simp at he
    · simp at hc
  · simp at hc
end
end Go.Proofs.Ytpbonfgmiffomaa.Wm
set_option linter.unusedSimpArgs false
set_option linter.unusedVariables false
namespace Go.Proofs.Ytpbonfgmiffomaa.Wm
open Go
section
variable {P : Program} {w : World}
theorem append_law (t ty e : TypeId) (i : TypeInfo) (z : Value) (ht : P.underlying t = some (.slice e)) (hi : P.info? e = some i) (hz : i.zero = some z) (hzs : z.cells.size = i.size)
    {vs vx : Value} {n m : Nat} {olds news : List Value} (hso : olds.length = n * i.size) (hsn : news.length = m * i.size)
    (hs : (∃ A, vs = .slice A 0 0 ∧ n = 0) ∨ ∃ g o cap, vs = .slice (some ⟨g, o, none⟩) n cap ∧ n ≤ cap ∧ OwnBlk w g (o + cap * i.size) ∧ ∀ (j : Nat) (u : Value), olds[j]? = some u → w.cell? ⟨g, o + j, none⟩ = some u)
    (hx : (vx = .slice none 0 0 ∧ m = 0) ∨ ∃ A c, vx = .slice (some A) m c ∧ (news = [] ∨ A.spot = none) ∧ ∀ (j : Nat) (u : Value), news[j]? = some u → w.cell? ⟨A.block, A.off + j, none⟩ = some u)
    (h1 : ∀ u ∈ news, u.oneCell' = true) (h47 : (n + m) * max 1 i.bytes ≤ 140737488355328) :
    (n = 0 ∧ m = 0 ∧ ∃ A, (Builtin.append_ #[t, t] ty #[vs, vx]).run P w = .ok (.slice A 0 0) w) ∨ ∃ w' g' o' cap', (Builtin.append_ #[t, t] ty #[vs, vx]).run P w = .ok (.slice (some ⟨g', o', none⟩) (n + m) cap') w' ∧ n + m ≤ cap' ∧ OwnBlk w' g' (o' + cap' * i.size) ∧
      (∀ (j : Nat) (u : Value), (olds ++ news)[j]? = some u → w'.cell? ⟨g', o' + j, none⟩ = some u) ∧
      ((∃ o cap, vs = .slice (some ⟨g', o, none⟩) n cap ∧ 0 < cap ∧ Chg w w' (fun b => b = g')) ∨ (g' = w.heap.size ∧ g' < w'.heap.size ∧ Chg w w' E)) := by
  have hb1 : n + m ≤ 140737488355328 := Nat.le_trans (Nat.le_mul_of_pos_right _ (by omega)) h47
  have hb2 : (n + m) * i.bytes ≤ 140737488355328 := Nat.le_trans (Nat.mul_le_mul_left _ (by omega)) h47
  have hfirst : ∀ w1 : World, w1.heap = w.heap → (Builtin.firstCells i.size m vx).run P w1 = .ok news.toArray w1 := by
    intro w1 hw1
    rcases hx with ⟨rfl, rfl⟩ | ⟨A, c, rfl, hA, hn⟩
    · have : news = [] := List.eq_nil_of_length_eq_zero (by simpa using hsn)
      subst this
      exact run_firstCells_none w1 _ _ _ _
    · refine run_firstCells_some w1 _ _ A m c news hsn fun j v hj => ?_
      have hsp : A.spot = none := hA.resolve_left (by rintro rfl; simp at hj)
      have := hn j v hj
      obtain ⟨b, of, sp⟩ := A
      simp only at hsp; subst hsp
      rw [addr_add]
      simpa [World.cell?, hw1] using this
  have hlen : ∀ w1 : World, (Builtin.lenOf vx).run P w1 = .ok m w1 := by
    intro w1
    rcases hx with ⟨rfl, rfl⟩ | ⟨A, c, rfl, _⟩ <;> rfl
  have hzeros : ∀ w1 : World, ((do pure ((← underlying t) matches .int _) : Sem Bool)).run P w1 = .ok false w1 := by
    intro w1
    simp [run_underlying ht]
  have grown : ∀ (w1 : World) (cells : Array Value) (cap' : Nat), w1.heap = w.heap → w1.os = w.os → w1.tape = w.tape → w1.output = w.output → n + m ≤ cap' → (cells.size = cap' * i.size) → (∀ (j : Nat) (u : Value), (olds ++ news)[j]? = some u → cells[j]? = some u) →
      n + m ≤ cap' ∧ OwnBlk (w1.alloc (.cells cells e)) w.heap.size (0 + cap' * i.size) ∧ (∀ (j : Nat) (u : Value), (olds ++ news)[j]? = some u → (w1.alloc (.cells cells e)).cell? ⟨w.heap.size, 0 + j, none⟩ = some u) ∧
      (w.heap.size = w.heap.size ∧ w.heap.size < (w1.alloc (.cells cells e)).heap.size ∧ Chg w (w1.alloc (.cells cells e)) E) := by
    intro w1 cells cap' hh1 hh2 hh3 hh4 hcap hcs hcells
    have hnew : (w1.alloc (.cells cells e)).heap[w.heap.size]? = some (.cells cells e (0, 0)) := by rw [← hh1]; exact heap_alloc_new w1 _
    refine ⟨hcap, ⟨cells, e, hnew, by omega⟩, fun j u hj => ?_, rfl, by simp [hh1], ⟨hh2, hh3, hh4, by simp [hh1], fun b hb _ => ?_, fun b m hb => ?_⟩⟩
    · unfold World.cell?; rw [hnew]; simp [hcells j u hj]
    · rw [← hh1]; exact heap_alloc_old w1 _ b (by rw [hh1]; exact hb)
    · exact hb.same (by rw [← hh1]; exact heap_alloc_old w1 _ b (by rw [hh1]; exact hb.lt))
  replace hs : (∃ A, vs = .slice A 0 0 ∧ n = 0) ∨ ∃ g o cap, 0 < cap ∧ vs = .slice (some ⟨g, o, none⟩) n cap ∧ n ≤ cap ∧ OwnBlk w g (o + cap * i.size) ∧ ∀ (j : Nat) (u : Value), olds[j]? = some u → w.cell? ⟨g, o + j, none⟩ = some u := by
    rcases hs with h | ⟨g, o, cap, h1, h2, h3⟩
    · exact .inl h
    · rcases Nat.eq_zero_or_pos cap with h0 | h0
      · subst h0
        obtain rfl : n = 0 := by omega
        exact .inl ⟨_, h1, rfl⟩
      · exact .inr ⟨g, o, cap, h0, h1, h2, h3⟩
  rcases hs with ⟨A0, rfl, rfl⟩ | ⟨g, o, cap, hcap0, rfl, hcap, hown, hold⟩
  · have ho : olds = [] := List.eq_nil_of_length_eq_zero (by simpa using hso)
    subst ho
    have hf0 : ∀ w1 : World, (Builtin.firstCells i.size 0 (.slice A0 0 0)).run P w1 = .ok #[] w1 := fun w1 => by
      cases A0 with
      | none => exact run_firstCells_none w1 _ _ _ _
      | some A => exact run_firstCells_some w1 _ _ A 0 0 [] (by simp) (by simp)
    rcases Nat.eq_zero_or_pos m with hm0 | hm
    · subst hm0
      left
      refine ⟨rfl, rfl, A0, ?_⟩
      have hnews : news = [] := List.eq_nil_of_length_eq_zero (by simpa using hsn)
      subst hnews
      have hf := hfirst w rfl
      cases A0 with
      | none => simp [Builtin.append_, run_underlying ht, Go.sizeOf, typeInfo, hi, hlen, hf]
      | some A => simp [Builtin.append_, run_underlying ht, Go.sizeOf, typeInfo, hi, hlen, hf, storeCells]
    · right
      have hge := grownCap_ge w m 0 e
      have hr : (Builtin.append_ #[t, t] ty #[.slice A0 0 0, vx]).run P w =
        .ok (.slice (some ⟨w.heap.size, 0, none⟩) (0 + m) (grownCap w m 0 e)) (w.drew.alloc (.cells (news.toArray ++ Builtin.zeroCells z.cells (grownCap w m 0 e - m)) e)) := by
        have hn : m ≠ 0 := by omega
        have h63' : ¬ (9223372036854775807 < (m : Int)) := by omega
        have h48' : ¬ (281474976710656 < Builtin.nextslicecap m 0 * i.bytes) := by rw [nextslicecap_zero hm]; simp only [Nat.zero_add] at hb2; omega
        have hf := hfirst w.drew rfl
        simp [Builtin.append_, run_underlying ht, Go.sizeOf, typeInfo, zeroValue, hi, hz, hlen, hn, h63', h48', Question.forced, hf0, hf, newRow, grownCap]
      refine ⟨_, _, _, _, hr, ?_⟩
      obtain ⟨a1, a2, a3, a4⟩ := grown w.drew (news.toArray ++ Builtin.zeroCells z.cells (grownCap w m 0 e - m)) (grownCap w m 0 e) rfl rfl rfl rfl (by omega) (by
        simp only [Array.size_append, List.size_toArray, size_zeroCells, hzs, hsn, ← Nat.add_mul]; congr 1; omega) (fun j u hj => by
        simp only [List.nil_append] at hj
        have hlt : j < news.length := (List.getElem?_eq_some_iff.1 hj).1
        rw [Array.getElem?_append_left (by simpa using hlt)]; simpa using hj)
      exact ⟨a1, a2, a3, .inr a4⟩
  · right
    by_cases hroom : n + m ≤ cap
    · obtain ⟨c, bty, hg, hc⟩ := hown
      have hfit : o + n * i.size + 0 + news.length ≤ c.size := by
        have : n * i.size + m * i.size ≤ cap * i.size := by rw [← Nat.add_mul]; exact Nat.mul_le_mul_right _ hroom
        omega
      have hst := run_storeCells_at P g (o + n * i.size) bty news 0 c w hg hfit h1
      have hf := hfirst w rfl
      have hr : (Builtin.append_ #[t, t] ty #[.slice (some ⟨g, o, none⟩) n cap, vx]).run P w =
        .ok (.slice (some ⟨g, o, none⟩) (n + m) cap) (w.setRow g (c.toList.take (o + n * i.size + 0) ++ news ++ c.toList.drop (o + n * i.size + 0 + news.length)).toArray) := by
          simp [Builtin.append_, run_underlying ht, Go.sizeOf, typeInfo, hi, hlen, hroom, hf, addr_add, hst]
      have hrow := setRow_heap w g c (c.toList.take (o + n * i.size + 0) ++ news ++ c.toList.drop (o + n * i.size + 0 + news.length)).toArray bty _ hg
      have hsz : (c.toList.take (o + n * i.size + 0) ++ news ++ c.toList.drop (o + n * i.size + 0 + news.length)).toArray.size = c.size := by simp; omega
      refine ⟨_, g, o, cap, hr, hroom, ⟨_, bty, hrow, by rw [hsz]; exact hc⟩, fun j u hj => ?_, .inl ⟨o, cap, rfl, hcap0, chg_setRow hg hsz⟩⟩
      unfold World.cell?
      rw [hrow]
      have hs := splice_get (cs := c.toList) (xs := news) (o := o + n * i.size + 0) (j := o + j) (by simpa using hfit)
      unfold splice at hs
      rw [← List.append_assoc] at hs
      simp only [List.getElem?_toArray, Option.isSome_none, Bool.false_eq_true, if_false]
      rw [hs]
      by_cases hlt : j < olds.length
      · rw [List.getElem?_append_left hlt] at hj
        have := hold j u hj
        unfold World.cell? at this
        rw [hg] at this
        rw [if_neg (by rw [hso] at hlt; omega)]
        simpa using this
      · rw [List.getElem?_append_right (by omega)] at hj
        have hlt2 : j - olds.length < news.length := (List.getElem?_eq_some_iff.1 hj).1
        rw [if_pos (by omega), show o + j - (o + n * i.size + 0) = j - olds.length by omega]
        exact hj
    · have hge := grownCap_ge w (n + m) cap e
      have hold' : ∀ j v, olds[j]? = some v → w.cell? ((⟨g, o, none⟩ : Addr).add j) = some v := fun j v hj => by rw [addr_add]; exact hold j v hj
      have hn : ¬ (n + m ≤ cap) := hroom
      have h63' : ¬ (9223372036854775807 < ((n : Int) + (m : Int))) := by omega
      have h48' : ¬ (281474976710656 < Builtin.nextslicecap (n + m) cap * i.bytes) := by have := growslice_fits (need := n + m) (old := cap) (by omega) hb2; omega
      have hf := hfirst w.drew rfl
      have hfo := run_firstCells_some (P := P) w.drew i.size n ⟨g, o, none⟩ n cap olds hso (by simpa using hold')
      have hr : (Builtin.append_ #[t, t] ty #[.slice (some ⟨g, o, none⟩) n cap, vx]).run P w =
        .ok (.slice (some ⟨w.heap.size, 0, none⟩) (n + m) (grownCap w (n + m) cap e)) (w.drew.alloc (.cells (olds.toArray ++ news.toArray ++ Builtin.zeroCells z.cells (grownCap w (n + m) cap e - (n + m))) e)) := by
        simp [Builtin.append_, run_underlying ht, Go.sizeOf, typeInfo, zeroValue, hi, hz, hlen, hn, h63', h48', Question.forced, hf, hfo, newRow, grownCap]
        congr 2
        apply Array.ext'
        simp [List.append_assoc]
      refine ⟨_, _, _, _, hr, ?_⟩
      obtain ⟨a1, a2, a3, a4⟩ := grown w.drew (olds.toArray ++ news.toArray ++ Builtin.zeroCells z.cells (grownCap w (n + m) cap e - (n + m))) (grownCap w (n + m) cap e) rfl rfl rfl rfl hge (by
        simp only [Array.size_append, List.size_toArray, size_zeroCells, hzs, hso, hsn, ← Nat.add_mul]; congr 1; omega) (fun j u hj => by
        have hlt : j < (olds ++ news).length := (List.getElem?_eq_some_iff.1 hj).1
        rw [Array.getElem?_append_left (by simpa using hlt)]
        simpa using hj)
      exact ⟨a1, a2, a3, .inr a4⟩
end
end Go.Proofs.Ytpbonfgmiffomaa.Wm
