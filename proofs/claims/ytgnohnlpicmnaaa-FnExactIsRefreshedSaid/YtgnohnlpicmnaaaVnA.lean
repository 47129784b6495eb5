/- Part of a machine that runs a Go function on plain values, with the proof that what it yields is what the function yields. -/
import Derived.Calls
import Derived.Below
import Derived.Tactics
import Derived.Laws.Cells
import Derived.Laws.BytesArg
namespace Go.Proofs.Ytgnohnlpicmnaaa.Vm
open Go

inductive D where
  | int (k : IntKind) (n : Int)
  | bool (b : Bool)
  | str (s : ByteArray)
  | nil
  | sl (own : Bool) (sz n : Nat) (cs : List D)
  | ptr (own : Bool) (cs : List D)
  | agg (cs : List D)
  | tup (cs : List D)
  | fn (f : FuncId) (cap : List D)
  | gone

/-- Block b is a row of at least m cells, none frozen. -/
def OwnBlk (w : World) (b m : Nat) : Prop := ∃ c ty, w.heap[b]? = some (.cells c ty (0, 0)) ∧ m ≤ c.size

def memCv (w : World) (g o : Nat) : Nat → Option Value := fun j => w.cell? ⟨g, o + j, none⟩

def Disj (n : Nat) (φ : Nat → Nat → Prop) : Prop := ∀ i j b, i < n → j < n → φ i b → φ j b → i = j

mutual
def RepV (w : World) (X : Nat → Prop) : D → Value → (Nat → Prop) → Prop
  | .int k n, v, F => v = .int k n ∧ ∀ b, ¬ F b
  | .bool x, v, F => v = .bool x ∧ ∀ b, ¬ F b
  | .str s, v, F => v = .string s ∧ ∀ b, ¬ F b
  | .nil, v, F => v = .slice none 0 0 ∧ ∀ b, ¬ F b
  | .sl true sz n cs, v, F => ∃ g o cap φ, v = .slice (some ⟨g, o, none⟩) n cap ∧ cs.length = n * sz ∧ n ≤ cap ∧ OwnBlk w g (o + cap * sz) ∧
      RepCs w X cs (memCv w g o) 0 φ ∧ Disj cs.length φ ∧ (∀ i, i < cs.length → ¬ φ i g) ∧ (∀ b, F b ↔ b = g ∨ ∃ i, i < cs.length ∧ φ i b)
  | .sl false sz n cs, v, F => ∃ A cap, v = .slice (some A) n cap ∧ cs.length = n * sz ∧ n ≤ cap ∧ (cs = [] ∨ (A.spot = none ∧ ¬ X A.block)) ∧
      RepCs w X cs (memCv w A.block A.off) 0 (fun _ _ => False) ∧ ∀ b, ¬ F b
  | .ptr true cs, v, F => ∃ g φ, v = .pointer (some ⟨g, 0, none⟩) ∧ OwnBlk w g cs.length ∧
      RepCs w X cs (memCv w g 0) 0 φ ∧ Disj cs.length φ ∧ (∀ i, i < cs.length → ¬ φ i g) ∧ (∀ b, F b ↔ b = g ∨ ∃ i, i < cs.length ∧ φ i b)
  | .ptr false cs, v, F => ∃ A, v = .pointer (some A) ∧ A.spot = none ∧ (cs = [] ∨ ¬ X A.block) ∧ RepCs w X cs (memCv w A.block A.off) 0 (fun _ _ => False) ∧ ∀ b, ¬ F b
  | .agg cs, v, F => ∃ vs φ, v = .agg vs ∧ vs.size = cs.length ∧ RepCs w X cs (fun j => vs[j]?) 0 φ ∧ Disj cs.length φ ∧ (∀ b, F b ↔ ∃ i, i < cs.length ∧ φ i b)
  | .tup cs, v, F => ∃ vs φ, v = .tuple vs ∧ vs.size = cs.length ∧ RepCs w X cs (fun j => vs[j]?) 0 φ ∧ Disj cs.length φ ∧ (∀ b, F b ↔ ∃ i, i < cs.length ∧ φ i b)
  | .fn f cap, v, F => ∃ vs φ, v = .func (.func f) #[] vs ∧ vs.size = cap.length ∧ RepCs w X cap (fun j => vs[j]?) 0 φ ∧ Disj cap.length φ ∧ (∀ b, F b ↔ ∃ i, i < cap.length ∧ φ i b)
  | .gone, _, F => ∀ b, ¬ F b
def RepCs (w : World) (X : Nat → Prop) : List D → (Nat → Option Value) → Nat → (Nat → Nat → Prop) → Prop
  | [], _, _, _ => True
  | d :: ds, cv, k, φ => (∃ v, cv k = some v ∧ RepV w X d v (φ k)) ∧ RepCs w X ds cv (k + 1) φ
end

theorem repCs_iff {w : World} {X : Nat → Prop} {cv : Nat → Option Value} {φ : Nat → Nat → Prop} : ∀ {cs : List D} {k : Nat},
    RepCs w X cs cv k φ ↔ ∀ i d, cs[i]? = some d → ∃ v, cv (k + i) = some v ∧ RepV w X d v (φ (k + i))
  | [], k => by simp [RepCs]
  | d :: ds, k => by
    simp only [RepCs, repCs_iff (cs := ds)]
    constructor
    · rintro ⟨h, h'⟩ i e he
      cases i with
      | zero => simp at he; subst he; simpa using h
      | succ i => simp at he; have := h' i e he; rw [show k + (i + 1) = k + 1 + i by omega]; exact this
    · intro h
      refine ⟨by simpa using h 0 d (by simp), fun i e he => ?_⟩
      have := h (i + 1) e (by simpa using he)
      rwa [show k + (i + 1) = k + 1 + i by omega] at this

theorem cell_lt {w : World} {a : Addr} {v : Value} (h : w.cell? a = some v) : a.block < w.heap.size := by
  unfold World.cell? at h
  rcases Nat.lt_or_ge a.block w.heap.size with h' | h'
  · exact h'
  · rw [Array.getElem?_eq_none h'] at h; simp at h

theorem OwnBlk.lt {w : World} {b m : Nat} (h : OwnBlk w b m) : b < w.heap.size := by
  obtain ⟨c, ty, h, _⟩ := h
  exact (Array.getElem?_eq_some_iff.1 h).1

theorem OwnBlk.same {w w' : World} {b m : Nat} (h : OwnBlk w b m) (e : w'.heap[b]? = w.heap[b]?) : OwnBlk w' b m := by
  obtain ⟨c, ty, h, hm⟩ := h
  exact ⟨c, ty, e.trans h, hm⟩

theorem memCv_same {w w' : World} {g o : Nat} (e : w'.heap[g]? = w.heap[g]?) : memCv w' g o = memCv w g o := by
  funext j; simp only [memCv, World.cell?, e]

/-- From w to w' no block has turned that is in F or may be read as shared; what is excluded behind it was excluded before. -/
def Stay (w w' : World) (X X' F : Nat → Prop) : Prop :=
  (∀ b, b < w.heap.size → (F b ∨ ¬ X b) → w'.heap[b]? = w.heap[b]?) ∧ ∀ b, b < w.heap.size → X' b → X b

theorem Stay.weaken {w w' : World} {X X' F F' : Nat → Prop} (h : Stay w w' X X' F) (hf : ∀ b, F' b → F b) : Stay w w' X X' F' :=
  ⟨fun b hb hx => h.1 b hb (hx.imp (hf b) id), h.2⟩

theorem repCs_cv {w : World} {X : Nat → Prop} {φ : Nat → Nat → Prop} : ∀ {cs : List D} {k : Nat} {cv cv' : Nat → Option Value},
    (∀ i, i < cs.length → cv' (k + i) = cv (k + i)) → RepCs w X cs cv k φ → RepCs w X cs cv' k φ := by
  intro cs k cv cv' he h
  rw [repCs_iff] at *
  intro i d hd
  obtain ⟨v, hv, hr⟩ := h i d hd
  exact ⟨v, by rw [he i (List.getElem?_eq_some_iff.1 hd).1]; exact hv, hr⟩

mutual
theorem RepV.stay {w w' : World} {X X' : Nat → Prop} : ∀ (d : D) {v : Value} {F : Nat → Prop}, Stay w w' X X' F → RepV w X d v F → RepV w' X' d v F
  | .int .., _, _, _, h => by simpa only [RepV] using h
  | .bool .., _, _, _, h => by simpa only [RepV] using h
  | .str .., _, _, _, h => by simpa only [RepV] using h
  | .nil, _, _, _, h => by simpa only [RepV] using h
  | .gone, _, _, _, h => by simpa only [RepV] using h
  | .sl true sz n cs, v, F, s, h => by
    simp only [RepV] at h ⊢
    obtain ⟨g, o, cap, φ, h1, h2, h3, h4, h5, h6, h7, h8⟩ := h
    have hg : w'.heap[g]? = w.heap[g]? := s.1 g h4.lt (.inl ((h8 g).2 (.inl rfl)))
    refine ⟨g, o, cap, φ, h1, h2, h3, h4.same hg, ?_, h6, h7, h8⟩
    rw [memCv_same hg]
    exact RepCs.stay cs (fun i hi => s.weaken fun b hb => (h8 b).2 (.inr ⟨i, by simpa using hi, by simpa using hb⟩)) h5
  | .sl false sz n cs, v, F, s, h => by
    simp only [RepV] at h ⊢
    obtain ⟨A, cap, h1, h2, h3, h4, h5, h6⟩ := h
    refine ⟨A, cap, h1, h2, h3, ?_, ?_, h6⟩
    · rcases h4 with h4 | ⟨h4, h4'⟩
      · exact .inl h4
      · by_cases hc : cs = []
        · exact .inl hc
        · obtain ⟨d, ds, rfl⟩ := List.exists_cons_of_ne_nil hc
          obtain ⟨⟨u, hu, _⟩, _⟩ : (∃ v, _ ∧ _) ∧ _ := by simpa only [RepCs] using h5
          exact .inr ⟨h4, fun hx => h4' (s.2 _ (by simpa using cell_lt hu) hx)⟩
    · by_cases hc : cs = []
      · subst hc; simp [RepCs]
      · obtain ⟨d, ds, rfl⟩ := List.exists_cons_of_ne_nil hc
        obtain ⟨⟨u, hu, _⟩, _⟩ : (∃ v, _ ∧ _) ∧ _ := by simpa only [RepCs] using h5
        have hg : w'.heap[A.block]? = w.heap[A.block]? := s.1 _ (by simpa using cell_lt hu) (.inr (h4.resolve_left (by simp)).2)
        rw [memCv_same hg]
        exact RepCs.stay _ (fun i hi => s.weaken fun b hb => hb.elim) h5
  | .ptr true cs, v, F, s, h => by
    simp only [RepV] at h ⊢
    obtain ⟨g, φ, h1, h4, h5, h6, h7, h8⟩ := h
    have hg : w'.heap[g]? = w.heap[g]? := s.1 g h4.lt (.inl ((h8 g).2 (.inl rfl)))
    refine ⟨g, φ, h1, h4.same hg, ?_, h6, h7, h8⟩
    rw [memCv_same hg]
    exact RepCs.stay cs (fun i hi => s.weaken fun b hb => (h8 b).2 (.inr ⟨i, by simpa using hi, by simpa using hb⟩)) h5
  | .ptr false cs, v, F, s, h => by
    simp only [RepV] at h ⊢
    obtain ⟨A, h1, h2, h4, h5, h6⟩ := h
    refine ⟨A, h1, h2, ?_, ?_, h6⟩
    · rcases h4 with h4 | h4
      · exact .inl h4
      · by_cases hc : cs = []
        · exact .inl hc
        · obtain ⟨d, ds, rfl⟩ := List.exists_cons_of_ne_nil hc
          obtain ⟨⟨u, hu, _⟩, _⟩ : (∃ v, _ ∧ _) ∧ _ := by simpa only [RepCs] using h5
          exact .inr fun hx => h4 (s.2 _ (by simpa using cell_lt hu) hx)
    · by_cases hc : cs = []
      · subst hc; simp [RepCs]
      · obtain ⟨d, ds, rfl⟩ := List.exists_cons_of_ne_nil hc
        obtain ⟨⟨u, hu, _⟩, _⟩ : (∃ v, _ ∧ _) ∧ _ := by simpa only [RepCs] using h5
        have hg : w'.heap[A.block]? = w.heap[A.block]? := s.1 _ (by simpa using cell_lt hu) (.inr (h4.resolve_left (by simp)))
        rw [memCv_same hg]
        exact RepCs.stay _ (fun i hi => s.weaken fun b hb => hb.elim) h5
  | .agg cs, v, F, s, h => by
    simp only [RepV] at h ⊢
    obtain ⟨vs, φ, h1, h2, h3, h4, h5⟩ := h
    exact ⟨vs, φ, h1, h2, RepCs.stay cs (fun i hi => s.weaken fun b hb => (h5 b).2 ⟨i, by simpa using hi, by simpa using hb⟩) h3, h4, h5⟩
  | .tup cs, v, F, s, h => by
    simp only [RepV] at h ⊢
    obtain ⟨vs, φ, h1, h2, h3, h4, h5⟩ := h
    exact ⟨vs, φ, h1, h2, RepCs.stay cs (fun i hi => s.weaken fun b hb => (h5 b).2 ⟨i, by simpa using hi, by simpa using hb⟩) h3, h4, h5⟩
  | .fn f cs, v, F, s, h => by
    simp only [RepV] at h ⊢
    obtain ⟨vs, φ, h1, h2, h3, h4, h5⟩ := h
    exact ⟨vs, φ, h1, h2, RepCs.stay cs (fun i hi => s.weaken fun b hb => (h5 b).2 ⟨i, by simpa using hi, by simpa using hb⟩) h3, h4, h5⟩
theorem RepCs.stay {w w' : World} {X X' : Nat → Prop} : ∀ (cs : List D) {cv : Nat → Option Value} {k : Nat} {φ : Nat → Nat → Prop},
    (∀ i, i < cs.length → Stay w w' X X' (φ (k + i))) → RepCs w X cs cv k φ → RepCs w' X' cs cv k φ
  | [], _, _, _, _, _ => by simp only [RepCs]
  | d :: ds, cv, k, φ, s, h => by
    simp only [RepCs] at h ⊢
    obtain ⟨⟨v, hv, hr⟩, h'⟩ := h
    exact ⟨⟨v, hv, RepV.stay d (by simpa using s 0 (by simp)) hr⟩, RepCs.stay ds (fun i hi => by rw [show k + 1 + i = k + (i + 1) by omega]; exact s (i + 1) (by simpa using hi)) h'⟩
end

mutual
/-- What is owned lies in memory. -/
theorem RepV.old {w : World} {X : Nat → Prop} : ∀ (d : D) {v : Value} {F : Nat → Prop}, RepV w X d v F → ∀ b, F b → b < w.heap.size
  | .int .., _, _, h, b, hb => by simp only [RepV] at h; exact (h.2 b hb).elim
  | .bool .., _, _, h, b, hb => by simp only [RepV] at h; exact (h.2 b hb).elim
  | .str .., _, _, h, b, hb => by simp only [RepV] at h; exact (h.2 b hb).elim
  | .nil, _, _, h, b, hb => by simp only [RepV] at h; exact (h.2 b hb).elim
  | .gone, _, _, h, b, hb => by simp only [RepV] at h; exact (h b hb).elim
  | .sl true sz n cs, v, F, h, b, hb => by
    simp only [RepV] at h
    obtain ⟨g, o, cap, φ, h1, h2, h3, h4, h5, h6, h7, h8⟩ := h
    rcases (h8 b).1 hb with rfl | ⟨i, hi, hb⟩
    · exact h4.lt
    · exact RepCs.old cs h5 i b hi (by simpa using hb)
  | .sl false sz n cs, v, F, h, b, hb => by
    simp only [RepV] at h
    obtain ⟨A, cap, h1, h2, h3, h4, h5, h6⟩ := h
    exact (h6 b hb).elim
  | .ptr true cs, v, F, h, b, hb => by
    simp only [RepV] at h
    obtain ⟨g, φ, h1, h4, h5, h6, h7, h8⟩ := h
    rcases (h8 b).1 hb with rfl | ⟨i, hi, hb⟩
    · exact h4.lt
    · exact RepCs.old cs h5 i b hi (by simpa using hb)
  | .ptr false cs, v, F, h, b, hb => by
    simp only [RepV] at h
    obtain ⟨A, h1, h2, h4, h5, h6⟩ := h
    exact (h6 b hb).elim
  | .agg cs, v, F, h, b, hb => by
    simp only [RepV] at h
    obtain ⟨vs, φ, h1, h2, h3, h4, h5⟩ := h
    obtain ⟨i, hi, hb⟩ := (h5 b).1 hb
    exact RepCs.old cs h3 i b hi (by simpa using hb)
  | .tup cs, v, F, h, b, hb => by
    simp only [RepV] at h
    obtain ⟨vs, φ, h1, h2, h3, h4, h5⟩ := h
    obtain ⟨i, hi, hb⟩ := (h5 b).1 hb
    exact RepCs.old cs h3 i b hi (by simpa using hb)
  | .fn f cs, v, F, h, b, hb => by
    simp only [RepV] at h
    obtain ⟨vs, φ, h1, h2, h3, h4, h5⟩ := h
    obtain ⟨i, hi, hb⟩ := (h5 b).1 hb
    exact RepCs.old cs h3 i b hi (by simpa using hb)
theorem RepCs.old {w : World} {X : Nat → Prop} : ∀ (cs : List D) {cv : Nat → Option Value} {k : Nat} {φ : Nat → Nat → Prop},
    RepCs w X cs cv k φ → ∀ i b, i < cs.length → φ (k + i) b → b < w.heap.size
  | [], _, _, _, _, i, _, hi, _ => by simp at hi
  | d :: ds, cv, k, φ, h, i, b, hi, hb => by
    simp only [RepCs] at h
    obtain ⟨⟨v, hv, hr⟩, h'⟩ := h
    cases i with
    | zero => exact RepV.old d hr b (by simpa using hb)
    | succ i => exact RepCs.old ds h' i b (by simpa using hi) (by rw [show k + 1 + i = k + (i + 1) by omega]; exact hb)
end

mutual
def erase : D → D
  | .sl _ sz n cs => .sl false sz n (eraseL cs)
  | .ptr _ cs => .ptr false (eraseL cs)
  | .agg cs => .agg (eraseL cs)
  | .tup cs => .tup (eraseL cs)
  | .fn f cs => .fn f (eraseL cs)
  | d => d
def eraseL : List D → List D
  | [] => []
  | d :: ds => erase d :: eraseL ds
end
theorem eraseL_map : ∀ cs, eraseL cs = cs.map erase
  | [] => rfl
  | d :: ds => by simp [eraseL, eraseL_map ds]

theorem eraseL_length (cs : List D) : (eraseL cs).length = cs.length := by simp [eraseL_map]
theorem eraseL_nil {cs : List D} : eraseL cs = [] ↔ cs = [] := by simp [eraseL_map]

mutual
/-- What was owned reads on as shared, if its blocks are excluded no more. -/
theorem RepV.erase {w : World} {X X' : Nat → Prop} : ∀ (d : D) {v : Value} {F : Nat → Prop}, (∀ b, b < w.heap.size → X' b → X b ∧ ¬ F b) → RepV w X d v F → RepV w X' (erase d) v (fun _ => False)
  | .int .., _, _, s, h => by simp only [RepV, Vm.erase] at h ⊢; exact ⟨h.1, fun _ => id⟩
  | .bool .., _, _, s, h => by simp only [RepV, Vm.erase] at h ⊢; exact ⟨h.1, fun _ => id⟩
  | .str .., _, _, s, h => by simp only [RepV, Vm.erase] at h ⊢; exact ⟨h.1, fun _ => id⟩
  | .nil, _, _, s, h => by simp only [RepV, Vm.erase] at h ⊢; exact ⟨h.1, fun _ => id⟩
  | .gone, _, _, s, h => by simp only [RepV, Vm.erase] at h ⊢; exact fun _ => id
  | .sl true sz n cs, v, F, s, h => by
    simp only [RepV, Vm.erase] at h ⊢
    obtain ⟨g, o, cap, φ, h1, h2, h3, h4, h5, h6, h7, h8⟩ := h
    refine ⟨⟨g, o, none⟩, cap, h1, by rw [eraseL_length]; exact h2, h3, .inr ⟨rfl, fun hx => (s g h4.lt hx).2 ((h8 g).2 (.inl rfl))⟩, ?_, fun _ => id⟩
    exact RepCs.erase cs (fun i hi b hb hx => ⟨(s b hb hx).1, fun hf => (s b hb hx).2 ((h8 b).2 (.inr ⟨i, by simpa using hi, by simpa using hf⟩))⟩) h5
  | .sl false sz n cs, v, F, s, h => by
    simp only [RepV, Vm.erase] at h ⊢
    obtain ⟨A, cap, h1, h2, h3, h4, h5, h6⟩ := h
    refine ⟨A, cap, h1, by rw [eraseL_length]; exact h2, h3, ?_, ?_, fun _ => id⟩
    · rcases h4 with h4 | ⟨h4, h4'⟩
      · exact .inl (eraseL_nil.2 h4)
      · by_cases hc : cs = []
        · exact .inl (eraseL_nil.2 hc)
        · obtain ⟨d, ds, rfl⟩ := List.exists_cons_of_ne_nil hc
          obtain ⟨⟨u, hu, _⟩, _⟩ : (∃ v, _ ∧ _) ∧ _ := by simpa only [RepCs] using h5
          exact .inr ⟨h4, fun hx => h4' (s _ (by simpa using cell_lt hu) hx).1⟩
    · exact RepCs.erase cs (fun i hi b hb hx => ⟨(s b hb hx).1, id⟩) h5
  | .ptr true cs, v, F, s, h => by
    simp only [RepV, Vm.erase] at h ⊢
    obtain ⟨g, φ, h1, h4, h5, h6, h7, h8⟩ := h
    refine ⟨⟨g, 0, none⟩, h1, rfl, .inr fun hx => (s g h4.lt hx).2 ((h8 g).2 (.inl rfl)), ?_, fun _ => id⟩
    exact RepCs.erase cs (fun i hi b hb hx => ⟨(s b hb hx).1, fun hf => (s b hb hx).2 ((h8 b).2 (.inr ⟨i, by simpa using hi, by simpa using hf⟩))⟩) h5
  | .ptr false cs, v, F, s, h => by
    simp only [RepV, Vm.erase] at h ⊢
    obtain ⟨A, h1, h2, h4, h5, h6⟩ := h
    refine ⟨A, h1, h2, ?_, ?_, fun _ => id⟩
    · rcases h4 with h4 | h4
      · exact .inl (eraseL_nil.2 h4)
      · by_cases hc : cs = []
        · exact .inl (eraseL_nil.2 hc)
        · obtain ⟨d, ds, rfl⟩ := List.exists_cons_of_ne_nil hc
          obtain ⟨⟨u, hu, _⟩, _⟩ : (∃ v, _ ∧ _) ∧ _ := by simpa only [RepCs] using h5
          exact .inr fun hx => h4 (s _ (by simpa using cell_lt hu) hx).1
    · exact RepCs.erase cs (fun i hi b hb hx => ⟨(s b hb hx).1, id⟩) h5
  | .agg cs, v, F, s, h => by
    simp only [RepV, Vm.erase] at h ⊢
    obtain ⟨vs, φ, h1, h2, h3, h4, h5⟩ := h
    exact ⟨vs, fun _ _ => False, h1, by rw [eraseL_length]; exact h2, RepCs.erase cs (fun i hi b hb hx => ⟨(s b hb hx).1, fun hf => (s b hb hx).2 ((h5 b).2 ⟨i, by simpa using hi, by simpa using hf⟩)⟩) h3, fun _ _ _ _ _ h => h.elim, fun b => by simp⟩
  | .tup cs, v, F, s, h => by
    simp only [RepV, Vm.erase] at h ⊢
    obtain ⟨vs, φ, h1, h2, h3, h4, h5⟩ := h
    exact ⟨vs, fun _ _ => False, h1, by rw [eraseL_length]; exact h2, RepCs.erase cs (fun i hi b hb hx => ⟨(s b hb hx).1, fun hf => (s b hb hx).2 ((h5 b).2 ⟨i, by simpa using hi, by simpa using hf⟩)⟩) h3, fun _ _ _ _ _ h => h.elim, fun b => by simp⟩
  | .fn f cs, v, F, s, h => by
    simp only [RepV, Vm.erase] at h ⊢
    obtain ⟨vs, φ, h1, h2, h3, h4, h5⟩ := h
    exact ⟨vs, fun _ _ => False, h1, by rw [eraseL_length]; exact h2, RepCs.erase cs (fun i hi b hb hx => ⟨(s b hb hx).1, fun hf => (s b hb hx).2 ((h5 b).2 ⟨i, by simpa using hi, by simpa using hf⟩)⟩) h3, fun _ _ _ _ _ h => h.elim, fun b => by simp⟩
theorem RepCs.erase {w : World} {X X' : Nat → Prop} : ∀ (cs : List D) {cv : Nat → Option Value} {k : Nat} {φ : Nat → Nat → Prop},
    (∀ i, i < cs.length → ∀ b, b < w.heap.size → X' b → X b ∧ ¬ φ (k + i) b) → RepCs w X cs cv k φ → RepCs w X' (eraseL cs) cv k (fun _ _ => False)
  | [], _, _, _, _, _ => by simp only [RepCs, eraseL]
  | d :: ds, cv, k, φ, s, h => by
    simp only [RepCs, eraseL] at h ⊢
    obtain ⟨⟨v, hv, hr⟩, h'⟩ := h
    exact ⟨⟨v, hv, RepV.erase d (by simpa using s 0 (by simp)) hr⟩, RepCs.erase ds (fun i hi => by rw [show k + 1 + i = k + (i + 1) by omega]; exact s (i + 1) (by simpa using hi)) h'⟩
end
end Go.Proofs.Ytgnohnlpicmnaaa.Vm
namespace Go.Proofs.Ytgnohnlpicmnaaa.Vm
open Go

inductive Bk where
  | mem (g o : Nat)
  | vals (vs : Array Value)

def cvB (w : World) : Bk → Nat → Option Value
  | .mem g o => memCv w g o
  | .vals vs => fun j => vs[j]?

/-- The row of cells behind a value. -/
def rowB : Value → Option Bk
  | .slice (some ⟨g, o, none⟩) _ _ => some (.mem g o)
  | .pointer (some ⟨g, o, none⟩) => some (.mem g o)
  | .agg vs => some (.vals vs)
  | _ => none

def nav (w : World) : Value → List Nat → Option Bk
  | v, [] => rowB v
  | v, i :: p => match rowB v with
    | some b => match cvB w b i with
      | some u => nav w u p
      | none => none
    | none => none

def D.row : D → Option (List D)
  | .sl true _ _ cs => some cs
  | .ptr true cs => some cs
  | .agg cs => some cs
  | _ => none

def D.setRow : D → List D → D
  | .sl o sz n _, cs => .sl o sz n cs
  | .ptr o _, cs => .ptr o cs
  | .agg _, cs => .agg cs
  | d, _ => d

def D.isOwn : D → Bool
  | .sl true _ _ _ => true
  | _ => false

def D.rowAt : D → List Nat → Option (List D)
  | d, [] => d.row
  | d, i :: p => match d.row with
    | some cs => match cs[i]? with
      | some (.sl true sz n ds) => (D.sl true sz n ds).rowAt p
      | _ => none
    | none => none

def D.setAt : D → List Nat → Nat → D → D
  | d, [], o, x => match d.row with
    | some cs => d.setRow (cs.set o x)
    | none => d
  | d, i :: p, o, x => match d.row with
    | some cs => match cs[i]? with
      | some e => d.setRow (cs.set i (e.setAt p o x))
      | none => d
    | none => d

/-- Nothing has turned but one cell, which lies in an owned block. -/
structure Put (w w' : World) (g k : Nat) (u : Value) : Prop where
  size : w.heap.size ≤ w'.heap.size
  other : ∀ b, b < w.heap.size → b ≠ g → w'.heap[b]? = w.heap[b]?
  own : ∀ m, OwnBlk w g m → OwnBlk w' g m
  cell : ∀ j, w'.cell? ⟨g, j, none⟩ = if j = k then some u else w.cell? ⟨g, j, none⟩

theorem update_cs {w w' : World} {X X' : Nat → Prop} {cs : List D} {cv cv' : Nat → Option Value} {φ : Nat → Nat → Prop} {i : Nat} {e' : D} {u' : Value} {Fe' : Nat → Prop}
    (h : RepCs w X cs cv 0 φ) (hi : i < cs.length) (hcv : ∀ j, j < cs.length → cv' j = if j = i then some u' else cv j)
    (hs : ∀ j, j < cs.length → j ≠ i → Stay w w' X X' (φ j)) (he : RepV w' X' e' u' Fe') :
    RepCs w' X' (cs.set i e') cv' 0 (fun j => if j = i then Fe' else φ j) := by
  rw [repCs_iff] at *
  intro j d hd
  have hj : j < cs.length := by simpa using (List.getElem?_eq_some_iff.1 hd).1
  simp only [Nat.zero_add] at *
  rw [hcv j hj]
  by_cases hji : j = i
  · subst hji
    rw [List.getElem?_set_self hj] at hd
    obtain rfl : e' = d := by simpa using hd
    exact ⟨u', by simp, by simpa using he⟩
  · rw [List.getElem?_set_ne (Ne.symm hji)] at hd
    obtain ⟨v, hv, hr⟩ := h j d hd
    simp only [if_neg hji]
    exact ⟨v, hv, RepV.stay d (hs j hj hji) hr⟩

theorem disj_update {n i : Nat} {φ : Nat → Nat → Prop} {F' : Nat → Prop} (h : Disj n φ) (hd : ∀ b j, j < n → j ≠ i → φ j b → ¬ F' b) :
    Disj n (fun j => if j = i then F' else φ j) := by
  intro a b x ha hb hx hy
  by_cases h1 : a = i <;> by_cases h2 : b = i
  · exact h1.trans h2.symm
  · simp only [if_pos h1, if_neg h2] at hx hy; exact (hd x b hb h2 hy hx).elim
  · simp only [if_neg h1, if_pos h2] at hx hy; exact (hd x a ha h1 hx hy).elim
  · simp only [if_neg h1, if_neg h2] at hx hy; exact h a b x ha hb hx hy

/-- What an update of one cell owes: the cell's old parts Fe go, Fe' come. -/
def Upd (F Fe Fe' : Nat → Prop) : Nat → Prop := fun b => (F b ∧ ¬ Fe b) ∨ Fe' b

theorem one_level {w : World} {X : Nat → Prop} {d e : D} {v : Value} {F : Nat → Prop} {cs : List D} {i : Nat} (h : RepV w X d v F) (hr : d.row = some cs) (hi : cs[i]? = some e) (hX : ∀ b, F b → X b) :
    ∃ bk u Fe, rowB v = some bk ∧ cvB w bk i = some u ∧ RepV w X e u Fe ∧ (∀ b, Fe b → F b) ∧
      (∀ g o, bk = .mem g o → F g ∧ ¬ Fe g ∧ OwnBlk w g (o + cs.length)) ∧
      (∀ w' X' e' Fe', Stay w w' X X' (fun b => F b ∧ ¬ Fe b) → RepV w' X' e' u Fe' → (∀ b, Fe' b → F b → Fe b) →
        RepV w' X' (d.setRow (cs.set i e')) v (Upd F Fe Fe')) ∧
      (∀ w' X' e' u' Fe' g o, bk = .mem g o → Put w w' g (o + i) u' → (∀ b, b < w.heap.size → X' b → X b) → RepV w' X' e' u' Fe' → (∀ b, Fe' b → F b → Fe b) →
        RepV w' X' (d.setRow (cs.set i e')) v (Upd F Fe Fe')) := by
  have hlt : i < cs.length := (List.getElem?_eq_some_iff.1 hi).1
  -- the cells of a row, whatever stands around it
  have key : ∀ {cv : Nat → Option Value} {φ : Nat → Nat → Prop}, RepCs w X cs cv 0 φ → ∃ u, cv i = some u ∧ RepV w X e u (φ i) := by
    intro cv φ hc
    rw [repCs_iff] at hc
    simpa using hc i e hi
  have mem : ∀ {g o : Nat} {φ : Nat → Nat → Prop}, RepCs w X cs (memCv w g o) 0 φ → Disj cs.length φ → (∀ i, i < cs.length → ¬ φ i g) → (∀ b, F b ↔ b = g ∨ ∃ i, i < cs.length ∧ φ i b) →
      ∀ u, memCv w g o i = some u → RepV w X e u (φ i) →
      (∀ w' X' e' Fe', Stay w w' X X' (fun b => F b ∧ ¬ φ i b) → RepV w' X' e' u Fe' → (∀ b, Fe' b → F b → φ i b) →
        w'.heap[g]? = w.heap[g]? → ∃ ψ, RepCs w' X' (cs.set i e') (memCv w' g o) 0 ψ ∧ Disj (cs.set i e').length ψ ∧ (∀ j, j < (cs.set i e').length → ¬ ψ j g) ∧ (∀ b, Upd F (φ i) Fe' b ↔ b = g ∨ ∃ j, j < (cs.set i e').length ∧ ψ j b)) ∧
      (∀ w' X' e' u' Fe', Put w w' g (o + i) u' → (∀ b, b < w.heap.size → X' b → X b) → RepV w' X' e' u' Fe' → (∀ b, Fe' b → F b → φ i b) →
        ∃ ψ, RepCs w' X' (cs.set i e') (memCv w' g o) 0 ψ ∧ Disj (cs.set i e').length ψ ∧ (∀ j, j < (cs.set i e').length → ¬ ψ j g) ∧ (∀ b, Upd F (φ i) Fe' b ↔ b = g ∨ ∃ j, j < (cs.set i e').length ∧ ψ j b)) := by
    intro g o φ hc hd hg hF u hu hru
    have common : ∀ Fe' : Nat → Prop, (∀ b, Fe' b → F b → φ i b) → Disj (cs.set i e).length (fun j => if j = i then Fe' else φ j) ∧ (∀ j, j < cs.length → ¬ (if j = i then Fe' else φ j) g) ∧ (∀ b, Upd F (φ i) Fe' b ↔ b = g ∨ ∃ j, j < cs.length ∧ (if j = i then Fe' else φ j) b) := by
      intro Fe' hn
      have hgF : F g := (hF g).2 (.inl rfl)
      refine ⟨?_, ?_, ?_⟩
      · rw [List.length_set]
        refine disj_update hd fun b j hj hji hb hb' => hji (hd j i b hj hlt hb (hn b hb' ((hF b).2 (.inr ⟨j, hj, hb⟩))))
      · intro j hj hb
        by_cases hji : j = i
        · simp only [if_pos hji] at hb; exact hg i hlt (hn g hb hgF)
        · simp only [if_neg hji] at hb; exact hg j hj hb
      · intro b
        constructor
        · rintro (⟨hb, hnb⟩ | hb)
          · rcases (hF b).1 hb with rfl | ⟨j, hj, hb'⟩
            · exact .inl rfl
            · by_cases hji : j = i
              · subst hji; exact (hnb hb').elim
              · exact .inr ⟨j, hj, by simpa only [if_neg hji] using hb'⟩
          · exact .inr ⟨i, hlt, by simpa using hb⟩
        · rintro (rfl | ⟨j, hj, hb⟩)
          · exact .inl ⟨hgF, hg i hlt⟩
          · by_cases hji : j = i
            · exact .inr (by simpa only [if_pos hji] using hb)
            · simp only [if_neg hji] at hb
              exact .inl ⟨(hF b).2 (.inr ⟨j, hj, hb⟩), fun hb' => hji (hd j i b hj hlt hb hb')⟩
    refine ⟨?_, ?_⟩
    · intro w' X' e' Fe' hs he hn hgs
      obtain ⟨c1, c2, c3⟩ := common Fe' hn
      refine ⟨_, update_cs (cv' := memCv w' g o) (u' := u) hc hlt (fun j hj => ?_) (fun j hj hji => ?_) he, by simpa using c1, by simpa using c2, by simpa using c3⟩
      · rw [memCv_same hgs]; by_cases hji : j = i
        · subst hji; simp [hu]
        · simp [hji]
      · exact hs.weaken fun b hb => ⟨(hF b).2 (.inr ⟨j, hj, hb⟩), fun hb' => hji (hd j i b hj hlt hb hb')⟩
    · intro w' X' e' u' Fe' hp hx he hn
      obtain ⟨c1, c2, c3⟩ := common Fe' hn
      refine ⟨_, update_cs (cv' := memCv w' g o) (u' := u') hc hlt (fun j hj => ?_) (fun j hj hji => ?_) he, by simpa using c1, by simpa using c2, by simpa using c3⟩
      · simp only [memCv, hp.cell]
        by_cases hji : j = i
        · simp [hji]
        · rw [if_neg (by omega), if_neg hji]
      · refine ⟨fun b hb hb' => hp.other b hb ?_, hx⟩
        rintro rfl
        rcases hb' with hb' | hb'
        · exact hg j hj hb'
        · exact hb' (hX _ ((hF _).2 (.inl rfl)))
  cases d with
  | sl own sz n ds =>
    cases own with
    | false => simp [D.row] at hr
    | true =>
      obtain rfl : ds = cs := by simpa [D.row] using hr
      simp only [RepV] at h
      obtain ⟨g, o, cap, φ, h1, h2, h3, h4, h5, h6, h7, h8⟩ := h
      obtain ⟨u, hu, hru⟩ := key h5
      obtain ⟨m1, m2⟩ := mem h5 h6 h7 h8 u hu hru
      have hown : OwnBlk w g (o + ds.length) := by
        obtain ⟨c, ty, hc, hm⟩ := h4
        exact ⟨c, ty, hc, Nat.le_trans (Nat.add_le_add_left (by rw [h2]; exact Nat.mul_le_mul_right _ h3) _) hm⟩
      refine ⟨.mem g o, u, φ i, by simp [h1, rowB], hu, hru, fun b hb => (h8 b).2 (.inr ⟨i, hlt, hb⟩), ?_, ?_, ?_⟩
      · rintro g' o' ⟨⟩; exact ⟨(h8 g).2 (.inl rfl), h7 i hlt, hown⟩
      · intro w' X' e' Fe' hs he hn
        have hgs : w'.heap[g]? = w.heap[g]? := hs.1 g h4.lt (.inl ⟨(h8 g).2 (.inl rfl), h7 i hlt⟩)
        obtain ⟨ψ, q1, q2, q3, q4⟩ := m1 w' X' e' Fe' hs he hn hgs
        simp only [D.setRow, RepV]
        exact ⟨g, o, cap, ψ, h1, by simpa using h2, h3, h4.same hgs, q1, q2, q3, q4⟩
      · rintro w' X' e' u' Fe' g' o' ⟨⟩ hp hx he hn
        obtain ⟨ψ, q1, q2, q3, q4⟩ := m2 w' X' e' u' Fe' hp hx he hn
        simp only [D.setRow, RepV]
        exact ⟨g, o, cap, ψ, h1, by simpa using h2, h3, hp.own _ h4, q1, q2, q3, q4⟩
  | ptr own ds =>
    cases own with
    | false => simp [D.row] at hr
    | true =>
      obtain rfl : ds = cs := by simpa [D.row] using hr
      simp only [RepV] at h
      obtain ⟨g, φ, h1, h4, h5, h6, h7, h8⟩ := h
      obtain ⟨u, hu, hru⟩ := key h5
      obtain ⟨m1, m2⟩ := mem h5 h6 h7 h8 u hu hru
      refine ⟨.mem g 0, u, φ i, by simp [h1, rowB], hu, hru, fun b hb => (h8 b).2 (.inr ⟨i, hlt, hb⟩), ?_, ?_, ?_⟩
      · rintro g' o' ⟨⟩; exact ⟨(h8 g).2 (.inl rfl), h7 i hlt, by simpa using h4⟩
      · intro w' X' e' Fe' hs he hn
        have hgs : w'.heap[g]? = w.heap[g]? := hs.1 g h4.lt (.inl ⟨(h8 g).2 (.inl rfl), h7 i hlt⟩)
        obtain ⟨ψ, q1, q2, q3, q4⟩ := m1 w' X' e' Fe' hs he hn hgs
        simp only [D.setRow, RepV]
        exact ⟨g, ψ, h1, by simpa using h4.same hgs, q1, q2, q3, q4⟩
      · rintro w' X' e' u' Fe' g' o' ⟨⟩ hp hx he hn
        obtain ⟨ψ, q1, q2, q3, q4⟩ := m2 w' X' e' u' Fe' hp hx he hn
        simp only [D.setRow, RepV]
        exact ⟨g, ψ, h1, by simpa using hp.own _ h4, q1, q2, q3, q4⟩
  | agg ds =>
    obtain rfl : ds = cs := by simpa [D.row] using hr
    simp only [RepV] at h
    obtain ⟨vs, φ, h1, h2, h3, h4, h5⟩ := h
    obtain ⟨u, hu, hru⟩ := key h3
    refine ⟨.vals vs, u, φ i, by simp [h1, rowB], hu, hru, fun b hb => (h5 b).2 ⟨i, hlt, hb⟩, fun g o hh => by simp at hh, ?_, fun w' X' e' u' Fe' g o hh => by simp at hh⟩
    intro w' X' e' Fe' hs he hn
    simp only [D.setRow, RepV]
    refine ⟨vs, fun j => if j = i then Fe' else φ j, h1, by simpa using h2, update_cs (u' := u) h3 hlt (fun j hj => ?_) (fun j hj hji => ?_) he, ?_, ?_⟩
    · by_cases hji : j = i
      · subst hji; simp [hu]
      · simp [hji]
    · exact hs.weaken fun b hb => ⟨(h5 b).2 ⟨j, hj, hb⟩, fun hb' => hji (h4 j i b hj hlt hb hb')⟩
    · rw [List.length_set]
      exact disj_update h4 fun b j hj hji hb hb' => hji (h4 j i b hj hlt hb (hn b hb' ((h5 b).2 ⟨j, hj, hb⟩)))
    · intro b
      rw [List.length_set]
      constructor
      · rintro (⟨hb, hnb⟩ | hb)
        · obtain ⟨j, hj, hb'⟩ := (h5 b).1 hb
          by_cases hji : j = i
          · subst hji; exact (hnb hb').elim
          · exact ⟨j, hj, by simpa only [if_neg hji] using hb'⟩
        · exact ⟨i, hlt, by simpa using hb⟩
      · rintro ⟨j, hj, hb⟩
        by_cases hji : j = i
        · exact .inr (by simpa only [if_pos hji] using hb)
        · simp only [if_neg hji] at hb
          exact .inl ⟨(h5 b).2 ⟨j, hj, hb⟩, fun hb' => hji (h4 j i b hj hlt hb hb')⟩
  | _ => simp [D.row] at hr
end Go.Proofs.Ytgnohnlpicmnaaa.Vm
namespace Go.Proofs.Ytgnohnlpicmnaaa.Vm
open Go
theorem RepV.congr {w : World} {X : Nat → Prop} {d : D} {v : Value} {F F' : Nat → Prop} (h : RepV w X d v F) (e : ∀ b, F b ↔ F' b) : RepV w X d v F' := by
  have : F = F' := funext fun b => propext (e b)
  exact this ▸ h

theorem upd_upd {F F1 Fe Fe' : Nat → Prop} (h1 : ∀ b, F1 b → F b) (he : ∀ b, Fe b → F1 b) (b : Nat) : Upd F F1 (Upd F1 Fe Fe') b ↔ Upd F Fe Fe' b := by
  unfold Upd
  have := h1 b; have := he b
  by_cases F b <;> by_cases F1 b <;> by_cases Fe b <;> by_cases Fe' b <;> simp_all

theorem focus {w : World} {X : Nat → Prop} {row : List D} {e : D} {o : Nat} : ∀ (p : List Nat) {d : D} {v : Value} {F : Nat → Prop}, RepV w X d v F → d.rowAt p = some row → row[o]? = some e → (∀ b, F b → X b) →
    ∃ bk u Fe, nav w v p = some bk ∧ cvB w bk o = some u ∧ RepV w X e u Fe ∧ (∀ b, Fe b → F b) ∧ (∀ g k, bk = .mem g k → F g ∧ ¬ Fe g ∧ OwnBlk w g (k + row.length)) ∧
      (∀ w' X' e' Fe', Stay w w' X X' (fun b => F b ∧ ¬ Fe b) → RepV w' X' e' u Fe' → (∀ b, Fe' b → F b → Fe b) → RepV w' X' (d.setAt p o e') v (Upd F Fe Fe')) ∧
      (∀ w' X' e' u' Fe' g k, bk = .mem g k → Put w w' g (k + o) u' → (∀ b, b < w.heap.size → X' b → X b) → RepV w' X' e' u' Fe' → (∀ b, Fe' b → F b → Fe b) →
        RepV w' X' (d.setAt p o e') v (Upd F Fe Fe')) ∧
      (∀ (w' : World) (g k : Nat), bk = .mem g k → (∀ b, b < w.heap.size → b ≠ g → F b → w'.heap[b]? = w.heap[b]?) → nav w' v p = some bk) := by
  intro p
  induction p with
  | nil =>
    intro d v F h hr he hX
    have hr' : d.row = some row := by simpa [D.rowAt] using hr
    obtain ⟨bk, u, Fe, q1, q2, q3, q4, q5, q6, q7⟩ := one_level h hr' he hX
    refine ⟨bk, u, Fe, by simpa [nav] using q1, q2, q3, q4, q5, ?_, ?_, fun w' g k hg hs => by simpa [nav] using q1⟩
    · intro w' X' e' Fe' a b c; have := q6 w' X' e' Fe' a b c; simpa only [D.setAt, hr'] using this
    · intro w' X' e' u' Fe' g k a b c d1 e1; have := q7 w' X' e' u' Fe' g k a b c d1 e1; simpa only [D.setAt, hr'] using this
  | cons i p ih =>
    intro d v F h hr he hX
    cases hd : d.row with
    | none => simp [D.rowAt, hd] at hr
    | some cs =>
      cases hc : cs[i]? with
      | none => simp [D.rowAt, hd, hc] at hr
      | some e1 =>
        have hsl : e1.rowAt p = some row := by
          cases e1 with
          | sl own sz n ds =>
            cases own with
            | true => simpa only [D.rowAt, hd, hc] using hr
            | false => simp [D.rowAt, hd, hc] at hr
          | _ => simp [D.rowAt, hd, hc] at hr
        obtain ⟨bk1, u1, F1, q1, q2, q3, q4, q5, q6, q7⟩ := one_level h hd hc hX
        obtain ⟨bk, u, Fe, r1, r2, r3, r4, r5, r6, r7, r8⟩ := ih q3 hsl he (fun b hb => hX b (q4 b hb))
        have hset : ∀ e', d.setAt (i :: p) o e' = d.setRow (cs.set i (e1.setAt p o e')) := fun e' => by simp only [D.setAt, hd, hc]
        refine ⟨bk, u, Fe, by simp only [nav, q1, q2, r1], r2, r3, fun b hb => q4 b (r4 b hb), fun g k hg => ⟨q4 g (r5 g k hg).1, (r5 g k hg).2⟩, ?_, ?_, ?_⟩
        · intro w' X' e' Fe' hs hre hn
          rw [hset]
          have a := r6 w' X' e' Fe' (hs.weaken fun b hb => ⟨q4 b hb.1, hb.2⟩) hre (fun b hb hb' => hn b hb (q4 b hb'))
          refine (q6 w' X' _ _ (hs.weaken fun b hb => ⟨hb.1, fun hb' => hb.2 (r4 b hb')⟩) a ?_).congr (upd_upd q4 r4)
          rintro b (hb | hb) hF
          · exact hb.1
          · exact r4 b (hn b hb hF)
        · intro w' X' e' u' Fe' g k hg hp hx hre hn
          rw [hset]
          have a := r7 w' X' e' u' Fe' g k hg hp hx hre (fun b hb hb' => hn b hb (q4 b hb'))
          have hgF := (r5 g k hg).1
          refine (q6 w' X' _ _ ⟨fun b hb hb' => hp.other b hb ?_, hx⟩ a ?_).congr (upd_upd q4 r4)
          · rintro rfl
            rcases hb' with hb' | hb'
            · exact hb'.2 hgF
            · exact hb' (hX _ (q4 _ hgF))
          · rintro b (hb | hb) hF
            · exact hb.1
            · exact r4 b (hn b hb hF)
        · intro w' g k hg hs
          have hc' : cvB w' bk1 i = some u1 := by
            cases bk1 with
            | vals vs => exact q2
            | mem g1 k1 =>
              obtain ⟨hF, hnF, hown⟩ := q5 g1 k1 rfl
              have hne : g1 ≠ g := fun e => hnF (e ▸ (r5 g k hg).1)
              simp only [cvB, memCv_same (hs g1 hown.lt hne hF)]
              exact q2
          simp only [nav, q1, hc']
          exact r8 w' g k hg (fun b hb hne hF => hs b hb hne (q4 b hF))
end Go.Proofs.Ytgnohnlpicmnaaa.Vm
namespace Go.Proofs.Ytgnohnlpicmnaaa.Vm
open Go

inductive V where
  | val (d : D)
  | ref (r : Nat) (p : List Nat) (o : Nat)
  | win (r : Nat) (p : List Nat) (o sz lo n : Nat)
  | addr (r : Nat) (p : List Nat) (o : Nat)
  | agg (vs : List V)
  | tup (vs : List V)
  | fn (f : FuncId) (cap : List V)
  | guard (b : Bool) (v : V)
  | dead

def look {α : Type} (t : Nat) : List (Nat × α) → Option α
  | [] => none
  | (s, x) :: l => if s = t then some x else look t l

structure Fr where
  env : List (Nat × V)
  roots : List (Nat × D)
  nt : Nat

def E : Nat → Prop := fun _ => False

mutual
def RepE (w : World) (X : Nat → Prop) (R : List (Nat × D)) (rv : Nat → Value) : V → Value → Prop
  | .val d, v => RepV w X d v E
  | .ref r p o, v => ∃ d row bk, look r R = some d ∧ d.rowAt p = some row ∧ o < row.length ∧ nav w (rv r) p = some bk ∧ cvB w bk o = some v ∧ ∃ g k n c, v = .slice (some ⟨g, k, none⟩) n c
  | .win r p o sz lo n, v => ∃ d row bk A N c A' c', look r R = some d ∧ d.rowAt p = some row ∧ o < row.length ∧ nav w (rv r) p = some bk ∧
      cvB w bk o = some (.slice (some A) N c) ∧ A.spot = none ∧ lo + n ≤ N ∧ v = .slice (some A') n c' ∧ n ≤ c' ∧ (n = 0 ∨ A' = ⟨A.block, A.off + lo * sz, none⟩)
  | .addr r p o, v => ∃ d g k, look r R = some d ∧ ((p = [] → rv r = .pointer (some ⟨g, k, none⟩)) ∧ (p = [] ∨ ∃ row, d.rowAt p = some row)) ∧ nav w (rv r) p = some (.mem g k) ∧ v = .pointer (some ⟨g, k + o, none⟩)
  | .agg vs, v => ∃ us : Array Value, v = .agg us ∧ us.size = vs.length ∧ RepEs w X R rv vs us.toList
  | .tup vs, v => ∃ us : Array Value, v = .tuple us ∧ us.size = vs.length ∧ RepEs w X R rv vs us.toList
  | .fn f vs, v => ∃ us : Array Value, v = .func (.func f) #[] us ∧ us.size = vs.length ∧ RepEs w X R rv vs us.toList
  | .guard b x, v => (b = true → RepE w X R rv x v) ∧ (b = false → v = undef)
  | .dead, _ => True
def RepEs (w : World) (X : Nat → Prop) (R : List (Nat × D)) (rv : Nat → Value) : List V → List Value → Prop
  | [], us => us = []
  | x :: xs, us => ∃ u us', us = u :: us' ∧ RepE w X R rv x u ∧ RepEs w X R rv xs us'
end

/-- What shared values keep off: the outer ones and all that the roots own. -/
def XX (X0 : Nat → Prop) (R : List (Nat × D)) (fp : Nat → Nat → Prop) : Nat → Prop := fun b => X0 b ∨ ∃ r d, look r R = some d ∧ fp r b

structure FR (w0 : World) (L X0 : Nat → Prop) (w : World) (tm : Array Value) (fr : Fr) (rv : Nat → Value) (fp : Nat → Nat → Prop) : Prop where
  os : w.os = w0.os
  tape : w.tape = w0.tape
  output : w.output = w0.output
  size : w0.heap.size ≤ w.heap.size
  x0 : ∀ b, X0 b → b < w.heap.size
  keep : ∀ b, b < w0.heap.size → ¬ L b → w.heap[b]? = w0.heap[b]?
  root : ∀ r d, look r fr.roots = some d → RepV w (XX X0 fr.roots fp) d (rv r) (fp r)
  sep : ∀ r r' d d' b, look r fr.roots = some d → look r' fr.roots = some d' → fp r b → fp r' b → r = r'
  new : ∀ r d b, look r fr.roots = some d → fp r b → L b ∨ w0.heap.size ≤ b
  out : ∀ r d b, look r fr.roots = some d → fp r b → ¬ X0 b
  env : ∀ t x, look t fr.env = some x → RepE w (XX X0 fr.roots fp) fr.roots rv x (tm.getD t undef)
  nt : tm.size = fr.nt

section
variable {w0 : World} {L X0 : Nat → Prop} {w : World} {tm : Array Value} {fr : Fr} {rv : Nat → Value} {fp : Nat → Nat → Prop}

theorem FR.put (h : FR w0 L X0 w tm fr rv fp) {t : Nat} (ht : t < fr.nt) {x : V} {v : Value} (hx : RepE w (XX X0 fr.roots fp) fr.roots rv x v) :
    FR w0 L X0 w (tm.setIfInBounds t v) { fr with env := (t, x) :: fr.env } rv fp where
  os := h.os
  tape := h.tape
  output := h.output
  size := h.size
  x0 := h.x0
  keep := h.keep
  root := h.root
  sep := h.sep
  new := h.new
  out := h.out
  nt := by simpa using h.nt
  env := by
    intro s y hy
    simp only [look] at hy
    by_cases hst : t = s
    · subst hst
      rw [if_pos rfl] at hy
      obtain rfl : x = y := by simpa using hy
      have : t < tm.size := by rw [h.nt]; exact ht
      simpa [Array.getElem?_setIfInBounds_self, this] using hx
    · rw [if_neg hst] at hy
      have := h.env s y hy
      simpa [Array.getElem?_setIfInBounds_ne hst] using this

theorem FR.sub (h : FR w0 L X0 w tm fr rv fp) {env' : List (Nat × V)} (he : ∀ t x, look t env' = some x → look t fr.env = some x ∨ x = .dead) :
    FR w0 L X0 w tm { fr with env := env' } rv fp where
  os := h.os
  tape := h.tape
  output := h.output
  size := h.size
  x0 := h.x0
  keep := h.keep
  root := h.root
  sep := h.sep
  new := h.new
  out := h.out
  nt := h.nt
  env := by
    intro t x hx
    rcases he t x hx with h' | rfl
    · exact h.env t x h'
    · simp only [RepE]
end

theorem repEs_iff {w : World} {X : Nat → Prop} {R : List (Nat × D)} {rv : Nat → Value} : ∀ {vs : List V} {us : List Value},
    RepEs w X R rv vs us ↔ us.length = vs.length ∧ ∀ (i : Nat) (x : V) (u : Value), vs[i]? = some x → us[i]? = some u → RepE w X R rv x u
  | [], us => by
    simp only [RepEs]
    constructor
    · rintro rfl; simp
    · rintro ⟨h, _⟩; exact List.eq_nil_of_length_eq_zero (by simpa using h)
  | x :: xs, us => by
    simp only [RepEs, repEs_iff (vs := xs)]
    constructor
    · rintro ⟨u, us', rfl, hx, hl, hr⟩
      refine ⟨by simp [hl], fun i y v hy hv => ?_⟩
      cases i with
      | zero => simp at hy hv; subst hy; subst hv; exact hx
      | succ i => exact hr i y v (by simpa using hy) (by simpa using hv)
    · rintro ⟨hl, hr⟩
      cases us with
      | nil => simp at hl
      | cons u us' => exact ⟨u, us', rfl, hr 0 x u (by simp) (by simp), by simpa using hl, fun i y v hy hv => hr (i + 1) y v (by simpa using hy) (by simpa using hv)⟩

/-- The row that a place's path leads to, in the roots' contents. -/
def rowOf (R : List (Nat × D)) (r : Nat) (p : List Nat) : Option (List D) := match look r R with
  | some d => d.rowAt p
  | none => none

/-- What a cell yields to whoever reads it. -/
def cellV (r : Nat) (p : List Nat) (o : Nat) : D → V
  | .sl true _ _ _ => .ref r p o
  | .gone => .dead
  | .ptr true _ => .dead
  | .agg _ => .dead
  | .tup _ => .dead
  | .fn f [] => .val (.fn f [])
  | .fn _ (_ :: _) => .dead
  | d => .val d

/-- A cell read through a row that is shared. -/
def cellS : D → V := fun d => .val d

theorem read_cell {w0 : World} {L X0 : Nat → Prop} {w : World} {tm : Array Value} {fr : Fr} {rv : Nat → Value} {fp : Nat → Nat → Prop} (h : FR w0 L X0 w tm fr rv fp)
    {r : Nat} {p : List Nat} {o : Nat} {row : List D} {e : D} (hr : rowOf fr.roots r p = some row) (he : row[o]? = some e) :
    ∃ d bk u Fe, look r fr.roots = some d ∧ d.rowAt p = some row ∧ nav w (rv r) p = some bk ∧ cvB w bk o = some u ∧ RepV w (XX X0 fr.roots fp) e u Fe ∧ (∀ g k, bk = .mem g k → fp r g ∧ OwnBlk w g (k + row.length)) := by
  unfold rowOf at hr
  cases hd : look r fr.roots with
  | none => simp [hd] at hr
  | some d =>
    simp only [hd] at hr
    obtain ⟨bk, u, Fe, h1, h2, h3, h4, h5, _⟩ := focus p (h.root r d hd) hr he (fun b hb => .inr ⟨r, d, hd, hb⟩)
    exact ⟨d, bk, u, Fe, rfl, hr, h1, h2, h3, fun g k hg => ⟨(h5 g k hg).1, (h5 g k hg).2.2⟩⟩

def D.plain : D → Bool
  | .int .. | .bool .. | .str .. | .nil | .sl false _ _ _ | .ptr false _ | .fn _ [] => true
  | _ => false

/-- Nothing is owned inside. -/
theorem plain_fp {w : World} {X : Nat → Prop} {d : D} {v : Value} {F : Nat → Prop} (h : RepV w X d v F) (hp : d.plain = true) : RepV w X d v E := by
  refine h.congr fun b => ⟨fun hb => ?_, fun hb => hb.elim⟩
  cases d with
  | sl own sz n cs => cases own <;> simp [D.plain] at hp; simp only [RepV] at h; obtain ⟨A, cap, _, _, _, _, _, h6⟩ := h; exact h6 b hb
  | ptr own cs => cases own <;> simp [D.plain] at hp; simp only [RepV] at h; obtain ⟨A, _, _, _, _, h6⟩ := h; exact h6 b hb
  | int k n => simp only [RepV] at h; exact h.2 b hb
  | bool k => simp only [RepV] at h; exact h.2 b hb
  | str k => simp only [RepV] at h; exact h.2 b hb
  | nil => simp only [RepV] at h; exact h.2 b hb
  | fn f cap =>
    cases cap with
    | nil => simp only [RepV] at h; obtain ⟨vs, φ, _, _, _, _, h6⟩ := h; obtain ⟨i, hi, _⟩ := (h6 b).1 hb; simp at hi
    | cons a l => simp [D.plain] at hp
  | _ => simp [D.plain] at hp

theorem cell_rep {w : World} {X : Nat → Prop} {R : List (Nat × D)} {rv : Nat → Value} {r : Nat} {p : List Nat} {o : Nat} {row : List D} {d e : D} {bk : Bk} {u : Value} {F : Nat → Prop}
    (hd : look r R = some d) (hr : d.rowAt p = some row) (he : row[o]? = some e) (hn : nav w (rv r) p = some bk) (hu : cvB w bk o = some u) (h : RepV w X e u F) :
    RepE w X R rv (cellV r p o e) u := by
  cases e with
  | sl own sz n cs =>
    cases own with
    | true =>
      simp only [cellV, RepE]
      simp only [RepV] at h
      obtain ⟨g, k, cap, φ, h1, _⟩ := h
      exact ⟨d, row, bk, hd, hr, (List.getElem?_eq_some_iff.1 he).1, hn, hu, g, k, n, cap, h1⟩
    | false => simp only [cellV, RepE]; exact plain_fp h rfl
  | ptr own cs =>
    cases own with
    | true => simp only [cellV, RepE]
    | false => simp only [cellV, RepE]; exact plain_fp h rfl
  | fn f cap =>
    cases cap with
    | nil => simp only [cellV, RepE]; exact plain_fp h rfl
    | cons a l => simp only [cellV, RepE]
  | int k n => simp only [cellV, RepE]; exact plain_fp h rfl
  | bool k => simp only [cellV, RepE]; exact plain_fp h rfl
  | str k => simp only [cellV, RepE]; exact plain_fp h rfl
  | nil => simp only [cellV, RepE]; exact plain_fp h rfl
  | _ => simp only [cellV, RepE]
end Go.Proofs.Ytgnohnlpicmnaaa.Vm
namespace Go.Proofs.Ytgnohnlpicmnaaa.Vm
open Go

def constV : Value → V
  | .int k n => .val (.int k n)
  | .bool b => .val (.bool b)
  | .string s => .val (.str s)
  | .slice none 0 0 => .val .nil
  | _ => .dead

def opV (env : List (Nat × V)) : Operand → V
  | .tmp t => match look t env with
    | some x => x
    | none => .dead
  | .const v => constV v
  | .func f => .fn f []
  | .global _ => .dead

/-- A value that is computed under the condition c, out of one that holds under the condition g. -/
def strip (c : Bool) : V → V
  | .guard g x => if (!c || g) = true then x else .dead
  | x => x

def mkG (c : Bool) (x : V) : V := if c = true then x else .guard c x

def loadCs (f : Nat → D → V) (row : List D) (o : Nat) : Nat → Option (List V)
  | 0 => some []
  | s + 1 => match row[o]? with
    | some d => match loadCs f row (o + 1) s with
      | some l => some (f o d :: l)
      | none => none
    | none => none

def aggT (P : Program) (t : TypeId) : Option Bool := match P.underlying t with
  | some (.struct _) => some true
  | some (.array _ _) => some true
  | some _ => some false
  | none => none

def loadV (P : Program) (R : List (Nat × D)) (t : TypeId) : V → Option V
  | .addr r p o => match rowOf R r p with
    | some row => match aggT P t with
      | some true => match loadCs (fun j d => cellV r p j d) row o (P.cellsOf t) with
        | some l => some (.agg l)
        | none => none
      | some false => match row[o]? with
        | some d => some (cellV r p o d)
        | none => none
      | none => none
    | none => none
  | .val (.ptr false cs) => match aggT P t with
    | some true => match loadCs (fun _ d => .val d) cs 0 (P.cellsOf t) with
      | some l => some (.agg l)
      | none => none
    | some false => match cs[0]? with
      | some d => some (.val d)
      | none => none
    | none => none
  | _ => none

def fieldOff (P : Program) (t : TypeId) (f : Nat) : Option (Nat × TypeId) := match P.underlying t with
  | some (.struct fs) => match fs[f]? with
    | some fd => if P.cellsOf fd.type = 0 then none else some (fd.offset, fd.type)
    | none => none
  | _ => none

def fieldAddrV (P : Program) (t : TypeId) (f : Nat) : V → Option V
  | .addr r p o => match fieldOff P t f with
    | some (k, _) => some (.addr r p (o + k))
    | none => none
  | .val (.ptr false cs) => match fieldOff P t f with
    | some (k, _) => some (.val (.ptr false (cs.drop k)))
    | none => none
  | _ => none

def partV (P : Program) (t : TypeId) (vs : List V) (o : Nat) : Option V := match aggT P t with
  | some true => if o + P.cellsOf t ≤ vs.length then some (.agg ((vs.drop o).take (P.cellsOf t))) else none
  | some false => vs[o]?
  | none => none

/-- The cells of a struct's value, whatever it is told as. -/
def aggCells : V → Option (List V)
  | .agg vs => some vs
  | .val (.agg cs) => some (cs.map .val)
  | _ => none

def tupCells : V → Option (List V)
  | .tup vs => some vs
  | .val (.tup cs) => some (cs.map .val)
  | _ => none

/-- What an owned slice holds. -/
def refD (R : List (Nat × D)) (r : Nat) (p : List Nat) (o : Nat) : Option D := match rowOf R r p with
  | some row => row[o]?
  | none => none

def inB (i : Int) (n : Nat) : Bool := decide (0 ≤ i) && decide (i < (n : Int))

def indexAddrV (P : Program) (R : List (Nat × D)) (t : TypeId) (x i : V) : Option V := match i with
  | .val (.int _ i) => match P.underlying t with
    | some (.slice e) => match x with
      | .ref r p o => match refD R r p o with
        | some (.sl true sz n _) => if sz = P.cellsOf e ∧ sz ≠ 0 then (if inB i n = true then some (.addr r (p ++ [o]) (i.toNat * sz)) else none) else none
        | _ => none
      | .win r p o sz lo n => match refD R r p o with
        | some (.sl true sz' _ _) => if sz = P.cellsOf e ∧ sz ≠ 0 ∧ sz' = sz then (if inB i n = true then some (.addr r (p ++ [o]) ((lo + i.toNat) * sz)) else none) else none
        | _ => none
      | .val (.sl false sz n cs) => if sz = P.cellsOf e ∧ sz ≠ 0 then (if inB i n = true then some (.val (.ptr false (cs.drop (i.toNat * sz)))) else none) else none
      | _ => none
    | some (.array n e) => if P.cellsOf e = 0 then none else match x with
      | .addr r p o => if inB i n = true then some (.addr r p (o + i.toNat * P.cellsOf e)) else none
      | .val (.ptr false cs) => if inB i n = true then some (.val (.ptr false (cs.drop (i.toNat * P.cellsOf e)))) else none
      | _ => none
    | _ => none
  | _ => none

def indexV (P : Program) (t : TypeId) (x i : V) : Option V := match i with
  | .val (.int _ i) => match P.underlying t with
    | some .string => match x with
      | .val (.str s) => match (if 0 ≤ i then s[i.toNat]? else none) with
        | some b => some (.val (.int .u8 b.toNat))
        | none => none
      | _ => none
    | some (.array n e) => if P.cellsOf e = 0 then none else match aggCells x with
      | some vs => if inB i n = true then partV P e vs (i.toNat * P.cellsOf e) else none
      | none => none
    | _ => none
  | _ => none

def lenV (R : List (Nat × D)) : V → Option Nat
  | .ref r p o => match refD R r p o with
    | some (.sl true _ n _) => some n
    | _ => none
  | .win _ _ _ _ _ n => some n
  | .val (.sl false _ n _) => some n
  | .val .nil => some 0
  | _ => none

def bound (n : Nat) (d : Nat) : Option V → Option Nat
  | none => some d
  | some (.val (.int _ i)) => if 0 ≤ i ∧ i ≤ (n : Int) then some i.toNat else none
  | _ => none

def sliceV (P : Program) (R : List (Nat × D)) (t : TypeId) (x : V) (lo hi : Option V) : Option V := match P.underlying t with
  | some (.slice e) => match x with
    | .ref r p o => match refD R r p o with
      | some (.sl true sz n _) => if sz = P.cellsOf e ∧ sz ≠ 0 then (match bound n n hi with
        | some h => match bound h 0 lo with
          | some l => some (.win r p o sz l (h - l))
          | none => none
        | none => none) else none
      | _ => none
    | .win r p o sz lo0 n => match refD R r p o with
      | some (.sl true sz' _ _) => if sz = P.cellsOf e ∧ sz ≠ 0 ∧ sz' = sz then (match bound n n hi with
        | some h => match bound h 0 lo with
          | some l => some (.win r p o sz (lo0 + l) (h - l))
          | none => none
        | none => none) else none
      | _ => none
    | .val (.sl false sz n cs) => if sz = P.cellsOf e ∧ sz ≠ 0 then (match bound n n hi with
        | some h => match bound h 0 lo with
          | some l => some (.val (.sl false sz (h - l) ((cs.drop (l * sz)).take ((h - l) * sz))))
          | none => none
        | none => none) else none
    | .val .nil => if P.cellsOf e ≠ 0 then (match bound 0 0 hi with
        | some h => match bound h 0 lo with
          | some _ => some (.val .nil)
          | none => none
        | none => none) else none
    | _ => none
  | some .string => match x with
    | .val (.str s) => match bound s.size s.size hi with
        | some h => match bound h 0 lo with
          | some l => some (.val (.str (s.extract l h)))
          | none => none
        | none => none
    | _ => none
  | _ => none

def intOp (op : BinOp) (k : IntKind) (x y : Int) : Option D := match op with
  | .add => some (.int k (k.wrap (x + y)))
  | .sub => some (.int k (k.wrap (x - y)))
  | .mul => some (.int k (k.wrap (x * y)))
  | .quo => if y = 0 then none else some (.int k (k.wrap (x.tdiv y)))
  | .rem => if y = 0 then none else some (.int k (x.tmod y))
  | .and => some (.int k (k.wrap (BitVec.ofInt k.bits x &&& BitVec.ofInt k.bits y).toNat))
  | .or => some (.int k (k.wrap (BitVec.ofInt k.bits x ||| BitVec.ofInt k.bits y).toNat))
  | .xor => some (.int k (k.wrap (BitVec.ofInt k.bits x ^^^ BitVec.ofInt k.bits y).toNat))
  | .andNot => some (.int k (k.wrap (BitVec.ofInt k.bits x &&& ~~~ BitVec.ofInt k.bits y).toNat))
  | .eql => some (.bool (x == y))
  | .neq => some (.bool (x != y))
  | .lss => some (.bool (decide (x < y)))
  | .leq => some (.bool (decide (x ≤ y)))
  | .gtr => some (.bool (decide (x > y)))
  | .geq => some (.bool (decide (x ≥ y)))
  | _ => none

def shiftOp (op : BinOp) (k : IntKind) (x y : Int) : Option D := if y < 0 then none else match op with
  | .shl => some (.int k (k.wrap (x * 2 ^ (min y.toNat k.bits))))
  | .shr => some (.int k (x.fdiv (2 ^ (min y.toNat k.bits))))
  | _ => none

def isNilV (R : List (Nat × D)) : V → Option Bool
  | .val .nil => some true
  | .val (.sl false _ _ _) => some false
  | .ref r p o => match refD R r p o with
    | some (.sl true _ _ _) => some false
    | _ => none
  | .win .. => some false
  | _ => none

def binV (P : Program) (R : List (Nat × D)) (op : BinOp) (t : TypeId) (x y : V) : Option V := match x, y with
  | .val (.int k a), .val (.int k' b) => match op with
    | .shl | .shr => (shiftOp op k a b).map .val
    | _ => if k = k' then (intOp op k a b).map .val else none
  | .val (.bool a), .val (.bool b) => match P.underlying t with
    | some .bool => match op with
      | .eql => some (.val (.bool (a == b)))
      | .neq => some (.val (.bool (!(a == b))))
      | _ => none
    | _ => none
  | .val (.str a), .val (.str b) => match op with
    | .eql => some (.val (.bool (a.toList == b.toList)))
    | .neq => some (.val (.bool (!(a.toList == b.toList))))
    | .add => if a.size + b.size ≤ 9223372036854775807 then some (.val (.str (a ++ b))) else none
    | .lss => some (.val (.bool (Op.bytesLess a.toList b.toList)))
    | .geq => some (.val (.bool (!(Op.bytesLess a.toList b.toList))))
    | _ => none
  | x, .val .nil => match P.underlying t with
    | some (.slice _) => match isNilV R x with
      | some n => match op with
        | .eql => some (.val (.bool n))
        | .neq => some (.val (.bool (!n)))
        | _ => none
      | none => none
    | _ => none
  | _, _ => none

def unV (op : UnOp) (x : V) : Option V := match op, x with
  | .neg, .val (.int k n) => some (.val (.int k (k.wrap (0 - n))))
  | .not, .val (.bool b) => some (.val (.bool (!b)))
  | .xor, .val (.int k n) => some (.val (.int k (k.wrap (BitVec.ofInt k.bits (if k.signed then -1 else k.max) ^^^ BitVec.ofInt k.bits n).toNat)))
  | _, _ => none

def isByte : D → Bool
  | .int .u8 _ => true
  | _ => false
def byteOfD : D → UInt8
  | .int _ n => UInt8.ofNat n.toNat
  | _ => 0
def strOfDs (cs : List D) : Option D := if cs.all isByte = true then some (.str ⟨(cs.map byteOfD).toArray⟩) else none

/-- What a slice value holds, cell by cell. -/
def holds (R : List (Nat × D)) : V → Option (Nat × Nat × List D)   -- cells an element, elements, cells
  | .ref r p o => match refD R r p o with
    | some (.sl true sz n cs) => some (sz, n, cs)
    | _ => none
  | .win r p o sz lo n => match refD R r p o with
    | some (.sl true sz' _ cs) => if sz' = sz then some (sz, n, (cs.drop (lo * sz)).take (n * sz)) else none
    | _ => none
  | .val (.sl false sz n cs) => some (sz, n, cs)
  | _ => none

def convV (P : Program) (R : List (Nat × D)) (src dst : TypeId) (x : V) : Option V := match P.underlying src, P.underlying dst, x with
  | some (.int _), some (.int k), .val (.int _ n) => some (.val (.int k (k.wrap n)))
  | some .string, some .string, .val (.str s) => some (.val (.str s))
  | some (.slice e), some .string, x => match P.underlying e with
    | some (.int .u8) => match x with
      | .val .nil => some (.val (.str .empty))
      | x => match holds R x with
        | some (sz, _, cs) => if sz = 1 then (strOfDs cs).map .val else none
        | none => none
    | _ => none
  | _, _, _ => none

/-- A value of one cell. -/
def isCellV : V → Bool
  | .val (.int ..) | .val (.bool _) | .val (.str _) | .val .nil | .val (.sl false _ _ _) | .val (.ptr false _) | .val (.fn ..) => true
  | .ref .. | .win .. | .addr .. | .fn .. => true
  | _ => false

/-- The cells that a value fills. -/
def cellsV (x : V) : Option (List V) := match aggCells x with
  | some vs => some vs
  | none => if isCellV x = true then some [x] else none

def fillV (place : Nat → Option (Nat × Nat)) (cells : List V) : List (Nat × V) → Option (List V)
  | [] => some cells
  | (i, x) :: rest => match place i with
    | some (off, size) => match cellsV x with
      | some xs => if xs.length = size ∧ off + size ≤ cells.length then fillV place (cells.take off ++ xs ++ cells.drop (off + size)) rest else none
      | none => none
    | none => none

def zeroCs (P : Program) (t : TypeId) : Option (List V) := match P.info? t with
  | some i => match i.zero with
    | some z => some (z.cells.toList.map constV)
    | none => none
  | none => none

def buildV (P : Program) (t : TypeId) (parts : List (Nat × V)) : Option V := match zeroCs P t with
  | some zs => match P.underlying t with
    | some (.struct fs) => if fs.toList.all (fun f => P.cellsOf f.type != 0) = true then (match fillV (fun i => match fs[i]? with | some f => some (f.offset, P.cellsOf f.type) | none => none) zs parts with
      | some cs => some (.agg cs)
      | none => none) else none
    | some (.array _ e) => if P.cellsOf e = 0 then none else match fillV (fun i => some (i * P.cellsOf e, P.cellsOf e)) zs parts with
      | some cs => some (.agg cs)
      | none => none
    | _ => none
  | none => none

def mergeV (t : Bool) (a b : V) : V := match a, b with
  | .val (.bool x), .val (.bool y) => .val (.bool (if t then x else y))
  | .val (.int k x), .val (.int k' y) => if k = k' then .val (.int k (if t then x else y)) else if t then a else b
  | a, b => if t then a else b

def minMax (mx : Bool) : List V → Option V
  | [.val (.int k x)] => some (.val (.int k x))
  | .val (.int k x) :: .val (.int _ y) :: l => minMax mx (.val (.int k (if mx then (if x < y then y else x) else (if y < x then y else x))) :: l)
  | _ => none
  termination_by l => l.length

/-- The quiet operations: what they yield, out of their operands and of what the roots hold. -/
def evq (P : Program) (R : List (Nat × D)) (op : Op) (ρ : Operand → V) : Option V := match op with
  | .move x | .assign x => some (ρ x)
  | .load t x => loadV P R t (ρ x)
  | .fieldAddr t x f => fieldAddrV P t f (ρ x)
  | .field t x f => match aggCells (ρ x) with
    | some vs => match fieldOff P t f with
      | some (o, u) => partV P u vs o
      | none => none
    | none => none
  | .nilCheck x => match ρ x with
    | .addr r p o => some (.addr r p o)
    | .val (.ptr false cs) => some (.val (.ptr false cs))
    | _ => none
  | .extract x i => match tupCells (ρ x) with
    | some vs => vs[i]?
    | none => none
  | .indexAddr t x i => indexAddrV P R t (ρ x) (ρ i)
  | .index t x i => indexV P t (ρ x) (ρ i)
  | .slice t x lo hi none => sliceV P R t (ρ x) (lo.map ρ) (hi.map ρ)
  | .binOp b t x y _ => binV P R b t (ρ x) (ρ y)
  | .unOp b _ x => unV b (ρ x)
  | .convert s d x => convV P R s d (ρ x)
  | .build t parts => buildV P t (parts.toList.map fun q => (q.1, ρ q.2))
  | .makeFunc (.func f) first cap => if first = #[] then some (.fn f (cap.toList.map ρ)) else none
  | .call c => match c.callee with
    | .builtin .len => match c.args.toList.map ρ, c.argTypes.toList with
      | [x], [t] => match P.underlying t with
        | some (.slice _) => match lenV R x with
          | some n => some (.val (.int .i64 ((n : Nat) : Int)))
          | none => none
        | some .string => match x with
          | .val (.str s) => some (.val (.int .i64 ((s.size : Nat) : Int)))
          | _ => none
        | some (.array n _) => some (.val (.int .i64 ((n : Nat) : Int)))
        | _ => none
      | _, _ => none
    | .builtin .min => minMax false (c.args.toList.map ρ)
    | .builtin .max => minMax true (c.args.toList.map ρ)
    | _ => none
  | _ => none
end Go.Proofs.Ytgnohnlpicmnaaa.Vm
set_option linter.unusedSimpArgs false
set_option linter.unusedVariables false
namespace Go.Proofs.Ytgnohnlpicmnaaa.Vm
open Go

/-- The blocks that stood are as they were. -/
def Ext (w w' : World) : Prop := ∀ b, b < w.heap.size → w'.heap[b]? = w.heap[b]?
theorem Ext.refl (w : World) : Ext w w := fun _ _ => rfl
theorem Ext.cell {w w' : World} (h : Ext w w') {a : Addr} {u : Value} (hu : w.cell? a = some u) : w'.cell? a = some u := by
  have := h _ (cell_lt hu)
  unfold World.cell? at hu ⊢
  rw [this]; exact hu

theorem info_of_underlying {P : Program} {t : TypeId} {d : TypeDesc} (h : P.underlying t = some d) : ∃ i, P.info? t = some i := by
  unfold Program.underlying at h
  cases hi : P.info? t with
  | none => simp [hi] at h
  | some i => exact ⟨i, rfl⟩
theorem info_of_cells {P : Program} {t : TypeId} (h : P.cellsOf t ≠ 0) : ∃ i, P.info? t = some i := by
  unfold Program.cellsOf at h
  cases hi : P.info? t with
  | none => simp [hi] at h
  | some i => exact ⟨i, rfl⟩
theorem r_sizeOf {P : Program} {t : TypeId} {w : World} (h : ∃ i, P.info? t = some i) : (Go.sizeOf t).run P w = .ok (P.cellsOf t) w := by
  obtain ⟨i, hi⟩ := h
  simp [Go.sizeOf, typeInfo, hi, Program.cellsOf]
theorem r_isAgg {P : Program} {t : TypeId} {b : Bool} {w : World} (h : aggT P t = some b) : (isAgg t).run P w = .ok b w := by
  unfold aggT at h
  cases hu : P.underlying t with
  | none => simp [hu] at h
  | some d =>
    rw [hu] at h
    unfold isAgg
    simp only [Sem.run_bind, run_underlying hu, Result.andThen_ok]
    cases d <;> simp at h <;> subst h <;> simp
theorem info_of_agg {P : Program} {t : TypeId} {b : Bool} (h : aggT P t = some b) : ∃ i, P.info? t = some i := by
  unfold aggT at h
  cases hu : P.underlying t with
  | none => simp [hu] at h
  | some d => exact info_of_underlying hu

theorem range_map_get {α : Type} {f : Nat → α} {n j : Nat} {u : α} (h : ((List.range n).map f)[j]? = some u) : j < n ∧ u = f j := by
  have hj : j < n := by simpa using (List.getElem?_eq_some_iff.1 h).1
  simp [hj] at h
  exact ⟨hj, h.symm⟩

theorem addr_add (g k j : Nat) : (⟨g, k, none⟩ : Addr).add j = ⟨g, k + j, none⟩ := by
  unfold Addr.add; split <;> simp_all

/-- A variable read out of a row of memory. -/
theorem r_loadVar {P : Program} {t : TypeId} {w : World} {g k : Nat} (ha : aggT P t = some true) (us : List Value) (hl : us.length = P.cellsOf t) (h : ∀ (j : Nat) (u : Value), us[j]? = some u → w.cell? ⟨g, k + j, none⟩ = some u) :
    (loadVar t ⟨g, k, none⟩).run P w = .ok (.agg us.toArray) w := by
  unfold loadVar
  simp only [Sem.run_bind, r_isAgg ha, Result.andThen_ok, if_true, r_sizeOf (info_of_agg ha)]
  rw [← hl, run_loadCells_list w ⟨g, k, none⟩ us (fun j u hu => by rw [addr_add]; exact h j u hu)]
  simp
theorem r_loadVar1 {P : Program} {t : TypeId} {w : World} {g k : Nat} {u : Value} (ha : aggT P t = some false) (h : w.cell? ⟨g, k, none⟩ = some u) :
    (loadVar t ⟨g, k, none⟩).run P w = .ok u w := by
  unfold loadVar
  simp [r_isAgg ha, h]

theorem loadCs_spec {f : Nat → D → V} {row : List D} : ∀ {s o : Nat} {l : List V}, loadCs f row o s = some l → l.length = s ∧ ∀ j x, l[j]? = some x → ∃ d, row[o + j]? = some d ∧ x = f (o + j) d
  | 0, o, l, h => by simp [loadCs] at h; subst h; simp
  | s + 1, o, l, h => by
    simp only [loadCs] at h
    cases hd : row[o]? with
    | none => simp [hd] at h
    | some d =>
      simp only [hd] at h
      cases hl : loadCs f row (o + 1) s with
      | none => simp [hl] at h
      | some l' =>
        simp only [hl] at h
        obtain rfl : f o d :: l' = l := by simpa using h
        obtain ⟨h1, h2⟩ := loadCs_spec hl
        refine ⟨by simp [h1], fun j x hx => ?_⟩
        cases j with
        | zero => simp at hx; exact ⟨d, by simpa using hd, by simpa using hx.symm⟩
        | succ j =>
          obtain ⟨e, he, hx'⟩ := h2 j x (by simpa using hx)
          exact ⟨e, by rw [show o + (j + 1) = o + 1 + j by omega]; exact he, by rw [show o + (j + 1) = o + 1 + j by omega]; exact hx'⟩

section
variable {P : Program} {w0 : World} {L X0 : Nat → Prop} {w : World} {tm : Array Value} {fr : Fr} {rv : Nat → Value} {fp : Nat → Nat → Prop}

theorem getD_list {us : List Value} {n : Nat} (h : us.length = n) : ∀ j, j < n → us[j]? = some (us.getD j undef) := fun j hj => by
  simp [List.getD, List.getElem?_eq_getElem (show j < us.length by omega)]

theorem rep_agg {X : Nat → Prop} {R : List (Nat × D)} {vs : List V} (us : Nat → Value) (h : ∀ j x, vs[j]? = some x → RepE w X R rv x (us j)) :
    RepE w X R rv (.agg vs) (.agg ((List.range vs.length).map us).toArray) := by
  simp only [RepE]
  refine ⟨_, rfl, by simp, ?_⟩
  rw [repEs_iff]
  refine ⟨by simp, fun i x u hx hu => ?_⟩
  have hi : i < vs.length := (List.getElem?_eq_some_iff.1 hx).1
  simp [hi] at hu
  subst hu
  exact h i x hx

theorem loadV_sound (h : FR w0 L X0 w tm fr rv fp) {t : TypeId} {x y : V} {v : Value} (hx : RepE w (XX X0 fr.roots fp) fr.roots rv x v) (he : loadV P fr.roots t x = some y) :
    ∃ u, (∀ w', Ext w w' → (Instr.loadAt t v).run P w' = .ok u w') ∧ RepE w (XX X0 fr.roots fp) fr.roots rv y u := by
  cases x with
  | addr r p o =>
    simp only [loadV] at he
    simp only [RepE] at hx
    obtain ⟨d, g, k, hd, _, hn, rfl⟩ := hx
    cases hro : rowOf fr.roots r p with
    | none => simp [hro] at he
    | some row =>
    have hr : d.rowAt p = some row := by simpa [rowOf, hd] using hro
    rw [hro] at he
    simp only at he
    cases ha : aggT P t with
    | none => simp [ha] at he
    | some b =>
      rw [ha] at he
      have cell : ∀ j e, row[j]? = some e → ∃ u, w.cell? ⟨g, k + j, none⟩ = some u ∧ RepE w (XX X0 fr.roots fp) fr.roots rv (cellV r p j e) u := by
        intro j e hj
        obtain ⟨d', bk, u, Fe, h1, h2, h3, h4, h5, _⟩ := read_cell h hro hj
        rw [hd] at h1; obtain rfl : d = d' := by simpa using h1
        rw [hn] at h3; obtain rfl : Bk.mem g k = bk := by simpa using h3
        exact ⟨u, h4, cell_rep hd hr hj hn h4 h5⟩
      cases b with
      | false =>
        simp only at he
        cases hc : row[o]? with
        | none => simp [hc] at he
        | some e =>
          rw [hc] at he
          obtain rfl : cellV r p o e = y := by simpa using he
          obtain ⟨u, hu, hr'⟩ := cell o e hc
          exact ⟨u, fun w' hw => by simp [Instr.loadAt, Instr.sureAddr, r_loadVar1 ha (hw.cell hu)], hr'⟩
      | true =>
        simp only at he
        cases hl : loadCs (fun j d => cellV r p j d) row o (P.cellsOf t) with
        | none => simp [hl] at he
        | some l =>
          rw [hl] at he
          obtain rfl : V.agg l = y := by simpa using he
          obtain ⟨h1, h2⟩ := loadCs_spec hl
          have hcell : ∀ j, j < l.length → ∃ u, w.cell? ⟨g, k + o + j, none⟩ = some u ∧ ∀ x, l[j]? = some x → RepE w (XX X0 fr.roots fp) fr.roots rv x u := by
            intro j hj
            obtain ⟨e, he', hx'⟩ := h2 j l[j] (List.getElem?_eq_getElem hj)
            obtain ⟨u, hu, hr'⟩ := cell (o + j) e he'
            refine ⟨u, by rw [Nat.add_assoc]; exact hu, fun x hx => ?_⟩
            rw [List.getElem?_eq_getElem hj] at hx
            obtain rfl : l[j] = x := by simpa using hx
            rw [hx']; exact hr'
          refine ⟨.agg ((List.range l.length).map fun j => (w.cell? ⟨g, k + o + j, none⟩).getD undef).toArray, ?_, rep_agg _ fun j x hx => ?_⟩
          · intro w' hw; simp only [Instr.loadAt, Instr.sureAddr, Sem.run_bind, Sem.run_pure, Result.andThen_ok]
            refine r_loadVar ha _ (by simpa using h1) fun j u hu => ?_
            obtain ⟨hj, rfl⟩ := range_map_get hu
            obtain ⟨u, hu, _⟩ := hcell j hj
            rw [hw.cell hu, hu]; rfl
          · obtain ⟨u, hu, hr'⟩ := hcell j (List.getElem?_eq_some_iff.1 hx).1
            rw [hu]; exact hr' x hx
  | val d =>
    cases d with
    | ptr own cs =>
      cases own with
      | true => simp [loadV] at he
      | false =>
        simp only [loadV] at he
        simp only [RepE, RepV] at hx
        obtain ⟨⟨g, k, sp⟩, rfl, hsp, _, hc, _⟩ := hx
        obtain rfl : sp = none := hsp
        rw [repCs_iff] at hc
        simp only [Nat.zero_add, memCv] at hc
        cases ha : aggT P t with
        | none => simp [ha] at he
        | some b =>
          rw [ha] at he
          cases b with
          | false =>
            simp only at he
            cases hd : cs[0]? with
            | none => simp [hd] at he
            | some e =>
              rw [hd] at he
              obtain rfl : V.val e = y := by simpa using he
              obtain ⟨u, hu, hr'⟩ := hc 0 e hd
              exact ⟨u, fun w' hw => by simp only [Nat.add_zero] at hu; simp [Instr.loadAt, Instr.sureAddr, r_loadVar1 ha (hw.cell hu)], by simp only [RepE]; exact hr'⟩
          | true =>
            simp only at he
            cases hl : loadCs (fun _ d => V.val d) cs 0 (P.cellsOf t) with
            | none => simp [hl] at he
            | some l =>
              rw [hl] at he
              obtain rfl : V.agg l = y := by simpa using he
              obtain ⟨h1, h2⟩ := loadCs_spec hl
              have hcell : ∀ j, j < l.length → ∃ u, w.cell? ⟨g, k + j, none⟩ = some u ∧ ∀ x, l[j]? = some x → RepE w (XX X0 fr.roots fp) fr.roots rv x u := by
                intro j hj
                obtain ⟨e, he', hx'⟩ := h2 j l[j] (List.getElem?_eq_getElem hj)
                rw [Nat.zero_add] at he'
                obtain ⟨u, hu, hr'⟩ := hc j e he'
                refine ⟨u, hu, fun x hx => ?_⟩
                rw [List.getElem?_eq_getElem hj] at hx
                obtain rfl : l[j] = x := by simpa using hx
                rw [hx']; simp only [RepE]; exact hr'
              refine ⟨.agg ((List.range l.length).map fun j => (w.cell? ⟨g, k + j, none⟩).getD undef).toArray, ?_, rep_agg _ fun j x hx => ?_⟩
              · intro w' hw; simp only [Instr.loadAt, Instr.sureAddr, Sem.run_bind, Sem.run_pure, Result.andThen_ok]
                refine r_loadVar ha _ (by simpa using h1) fun j u hu => ?_
                obtain ⟨hj, rfl⟩ := range_map_get hu
                obtain ⟨u, hu, _⟩ := hcell j hj
                rw [hw.cell hu, hu]; rfl
              · obtain ⟨u, hu, hr'⟩ := hcell j (List.getElem?_eq_some_iff.1 hx).1
                rw [hu]; exact hr' x hx
    | _ => simp [loadV] at he
  | _ => simp [loadV] at he
end
end Go.Proofs.Ytgnohnlpicmnaaa.Vm
set_option linter.unusedSimpArgs false
set_option linter.unusedVariables false
namespace Go.Proofs.Ytgnohnlpicmnaaa.Vm
open Go
section
variable {P : Program} {w0 : World} {L X0 : Nat → Prop} {w : World} {tm : Array Value} {fr : Fr} {rv : Nat → Value} {fp : Nat → Nat → Prop} {X : Nat → Prop} {R : List (Nat × D)}

theorem repCs_drop {cs : List D} {g o : Nat} (k : Nat) (h : RepCs w X cs (memCv w g o) 0 (fun _ _ => False)) : RepCs w X (cs.drop k) (memCv w g (o + k)) 0 (fun _ _ => False) := by
  rw [repCs_iff] at *
  intro i d hd
  rw [List.getElem?_drop] at hd
  obtain ⟨v, hv, hr⟩ := h (k + i) d hd
  refine ⟨v, ?_, hr⟩
  simp only [memCv, Nat.zero_add] at hv ⊢
  rw [Nat.add_assoc]; exact hv
theorem repCs_take {cs : List D} {cv : Nat → Option Value} {φ : Nat → Nat → Prop} (k : Nat) (h : RepCs w X cs cv 0 φ) : RepCs w X (cs.take k) cv 0 φ := by
  rw [repCs_iff] at *
  intro i d hd
  refine h i d ?_
  rw [List.getElem?_take] at hd
  split at hd
  · exact hd
  · simp at hd

theorem ptr_drop {cs : List D} {v : Value} (k : Nat) (h : RepV w X (.ptr false cs) v E) : ∃ g o, v = .pointer (some ⟨g, o, none⟩) ∧ RepV w X (.ptr false (cs.drop k)) (.pointer (some ⟨g, o + k, none⟩)) E := by
  simp only [RepV] at h
  obtain ⟨⟨g, o, sp⟩, rfl, hsp, hx, hc, _⟩ := h
  obtain rfl : sp = none := hsp
  refine ⟨g, o, rfl, ?_⟩
  simp only [RepV]
  exact ⟨⟨g, o + k, none⟩, rfl, rfl, hx.imp (fun h => by rw [h]; simp) id, repCs_drop k hc, fun _ => id⟩

theorem fieldOff_spec {t : TypeId} {f k : Nat} {u : TypeId} (h : fieldOff P t f = some (k, u)) : ∃ fs fd, P.underlying t = some (.struct fs) ∧ fs[f]? = some fd ∧ P.cellsOf fd.type ≠ 0 ∧ fd.offset = k ∧ fd.type = u := by
  unfold fieldOff at h
  split at h
  · rename_i fs hu
    split at h
    · rename_i fd hf
      split at h
      · simp at h
      · rename_i hz
        simp at h
        exact ⟨fs, fd, hu, hf, hz, h.1, h.2⟩
    · simp at h
  · simp at h

theorem r_fieldAt {t : TypeId} {f k g o : Nat} {u : TypeId} (h : fieldOff P t f = some (k, u)) : (Instr.fieldAt t (.pointer (some ⟨g, o, none⟩)) f).run P w = .ok (.pointer (some ⟨g, o + k, none⟩)) w := by
  obtain ⟨fs, fd, hu, hf, hz, rfl, rfl⟩ := fieldOff_spec h
  unfold Instr.fieldAt
  simp only [Sem.run_bind, run_underlying hu, Result.andThen_ok, hf, Instr.sureAddr, Sem.run_pure, fieldPlace, r_sizeOf (info_of_cells hz), if_neg hz, addr_add]

theorem fieldAddrV_sound {t : TypeId} {f : Nat} {x y : V} {v : Value} (hx : RepE w X R rv x v) (he : fieldAddrV P t f x = some y) :
    ∃ u, (∀ w', Ext w w' → (Instr.fieldAt t v f).run P w' = .ok u w') ∧ RepE w X R rv y u := by
  cases x with
  | addr r p o =>
    simp only [fieldAddrV] at he
    cases hf : fieldOff P t f with
    | none => simp [hf] at he
    | some q =>
      obtain ⟨k, u⟩ := q
      rw [hf] at he
      obtain rfl : V.addr r p (o + k) = y := by simpa using he
      simp only [RepE] at hx ⊢
      obtain ⟨d, g, j, h1, h2, h3, rfl⟩ := hx
      exact ⟨_, fun _ _ => r_fieldAt hf, d, g, j, h1, h2, h3, by rw [Nat.add_assoc]⟩
  | val d =>
    cases d with
    | ptr own cs =>
      cases own with
      | true => simp [fieldAddrV] at he
      | false =>
        simp only [fieldAddrV] at he
        cases hf : fieldOff P t f with
        | none => simp [hf] at he
        | some q =>
          obtain ⟨k, u⟩ := q
          rw [hf] at he
          obtain rfl : V.val (.ptr false (cs.drop k)) = y := by simpa using he
          simp only [RepE] at hx ⊢
          obtain ⟨g, o, rfl, hr⟩ := ptr_drop k hx
          exact ⟨_, fun _ _ => r_fieldAt hf, hr⟩
    | _ => simp [fieldAddrV] at he
  | _ => simp [fieldAddrV] at he

/-- Cells of a struct's value. -/
def Cells (w : World) (X : Nat → Prop) (R : List (Nat × D)) (rv : Nat → Value) (vs : List V) (us : Array Value) : Prop :=
  us.size = vs.length ∧ ∀ (i : Nat) (x : V) (u : Value), vs[i]? = some x → us[i]? = some u → RepE w X R rv x u

theorem cells_of {cs : List D} {us : Array Value} {φ : Nat → Nat → Prop} (hs : us.size = cs.length) (h : RepCs w X cs (fun j => us[j]?) 0 φ) (hf : ∀ b, E b ↔ ∃ i, i < cs.length ∧ φ i b) : Cells w X R rv (cs.map .val) us := by
  refine ⟨by simpa using hs, fun i x u hx hu => ?_⟩
  rw [repCs_iff] at h
  simp only [List.getElem?_map, Option.map_eq_some_iff] at hx
  obtain ⟨d, hd, rfl⟩ := hx
  obtain ⟨v, hv, hr⟩ := h i d hd
  simp only [Nat.zero_add] at hv hr
  rw [hu] at hv
  obtain rfl : u = v := by simpa using hv
  simp only [RepE]
  exact hr.congr fun b => ⟨fun hb => (hf b).2 ⟨i, (List.getElem?_eq_some_iff.1 hd).1, hb⟩, fun hb => hb.elim⟩

theorem aggCells_sound {x : V} {v : Value} {vs : List V} (hx : RepE w X R rv x v) (he : aggCells x = some vs) : ∃ us, v = .agg us ∧ Cells w X R rv vs us := by
  cases x with
  | agg l =>
    obtain rfl : l = vs := by simpa [aggCells] using he
    simp only [RepE] at hx
    obtain ⟨us, rfl, hs, hr⟩ := hx
    rw [repEs_iff] at hr
    exact ⟨us, rfl, hs, fun i x u hx hu => hr.2 i x u hx (by simpa using hu)⟩
  | val d =>
    cases d with
    | agg cs =>
      obtain rfl : cs.map .val = vs := by simpa [aggCells] using he
      simp only [RepE, RepV] at hx
      obtain ⟨us, φ, rfl, hs, hc, _, hf⟩ := hx
      exact ⟨us, rfl, cells_of hs hc hf⟩
    | _ => simp [aggCells] at he
  | _ => simp [aggCells] at he

theorem tupCells_sound {x : V} {v : Value} {vs : List V} (hx : RepE w X R rv x v) (he : tupCells x = some vs) : ∃ us, v = .tuple us ∧ Cells w X R rv vs us := by
  cases x with
  | tup l =>
    obtain rfl : l = vs := by simpa [tupCells] using he
    simp only [RepE] at hx
    obtain ⟨us, rfl, hs, hr⟩ := hx
    rw [repEs_iff] at hr
    exact ⟨us, rfl, hs, fun i x u hx hu => hr.2 i x u hx (by simpa using hu)⟩
  | val d =>
    cases d with
    | tup cs =>
      obtain rfl : cs.map .val = vs := by simpa [tupCells] using he
      simp only [RepE, RepV] at hx
      obtain ⟨us, φ, rfl, hs, hc, _, hf⟩ := hx
      exact ⟨us, rfl, cells_of hs hc hf⟩
    | _ => simp [tupCells] at he
  | _ => simp [tupCells] at he

theorem repE_agg {vs : List V} {us : Array Value} (h : Cells w X R rv vs us) : RepE w X R rv (.agg vs) (.agg us) := by
  simp only [RepE]
  refine ⟨us, rfl, h.1, ?_⟩
  rw [repEs_iff]
  exact ⟨by simpa using h.1, fun i x u hx hu => h.2 i x u hx (by simpa using hu)⟩
theorem repE_tup {vs : List V} {us : Array Value} (h : Cells w X R rv vs us) : RepE w X R rv (.tup vs) (.tuple us) := by
  simp only [RepE]
  refine ⟨us, rfl, h.1, ?_⟩
  rw [repEs_iff]
  exact ⟨by simpa using h.1, fun i x u hx hu => h.2 i x u hx (by simpa using hu)⟩

theorem partV_sound {t : TypeId} {vs : List V} {us : Array Value} {o : Nat} {y : V} (hc : Cells w X R rv vs us) (he : partV P t vs o = some y) :
    ∃ u, (∀ w', Ext w w' → (part t us o).run P w' = .ok u w') ∧ RepE w X R rv y u := by
  unfold partV at he
  cases ha : aggT P t with
  | none => simp [ha] at he
  | some b =>
    rw [ha] at he
    unfold part
    simp only [Sem.run_bind, r_isAgg ha, Result.andThen_ok]
    cases b with
    | true =>
      simp only at he
      split at he
      · rename_i hle
        obtain rfl : V.agg ((vs.drop o).take (P.cellsOf t)) = y := by simpa using he
        refine ⟨_, fun _ _ => by simp [r_sizeOf (info_of_agg ha)]; rfl, repE_agg ⟨?_, fun i x u hx hu => ?_⟩⟩
        · simp [hc.1]; omega
        · rw [List.getElem?_take] at hx
          split at hx
          · rename_i hi
            rw [List.getElem?_drop] at hx
            refine hc.2 (o + i) x u hx ?_
            rw [Array.getElem?_extract] at hu
            split at hu
            · exact hu
            · simp at hu
          · simp at hx
      · simp at he
    | false =>
      simp only at he
      have ho : o < us.size := by rw [hc.1]; exact (List.getElem?_eq_some_iff.1 he).1
      refine ⟨us[o], fun _ _ => by simp [ho], hc.2 o y us[o] he (by simp [ho])⟩

theorem field_sound {t : TypeId} {f : Nat} {x y : V} {v : Value} (hx : RepE w X R rv x v)
    (he : (match aggCells x with | some vs => (match fieldOff P t f with | some (o, u) => partV P u vs o | none => none) | none => none) = some y) :
    ∃ u, (∀ w', Ext w w' → (Instr.field t v f).run P w' = .ok u w') ∧ RepE w X R rv y u := by
  cases ha : aggCells x with
  | none => simp [ha] at he
  | some vs =>
    rw [ha] at he
    simp only at he
    cases hf : fieldOff P t f with
    | none => simp [hf] at he
    | some q =>
      obtain ⟨o, u⟩ := q
      rw [hf] at he
      obtain ⟨us, rfl, hc⟩ := aggCells_sound hx ha
      obtain ⟨fs, fd, hu, hg, hz, rfl, rfl⟩ := fieldOff_spec hf
      obtain ⟨z, hz1, hz2⟩ := partV_sound hc he
      exact ⟨z, fun w' hw => by simp [Instr.field, run_underlying hu, hg, asAgg, hz1 w' hw], hz2⟩

theorem extract_sound {i : Nat} {x y : V} {v : Value} (hx : RepE w X R rv x v) (he : (match tupCells x with | some vs => vs[i]? | none => none) = some y) :
    ∃ u, (∀ w', Ext w w' → (Instr.extract v i).run P w' = .ok u w') ∧ RepE w X R rv y u := by
  cases ha : tupCells x with
  | none => simp [ha] at he
  | some vs =>
    rw [ha] at he
    obtain ⟨us, rfl, hc⟩ := tupCells_sound hx ha
    simp only at he
    have ho : i < us.size := by rw [hc.1]; exact (List.getElem?_eq_some_iff.1 he).1
    exact ⟨us[i], fun _ _ => by simp [Instr.extract, ho], hc.2 i y us[i] he (by simp [ho])⟩

/-! paths -/
theorem rowAt_append {sz n : Nat} {cs row : List D} {o : Nat} : ∀ {p : List Nat} {d : D}, d.rowAt p = some row → row[o]? = some (.sl true sz n cs) → d.rowAt (p ++ [o]) = some cs
  | [], d, h, ho => by
    have h' : d.row = some row := by simpa [D.rowAt] using h
    simp only [D.rowAt, List.nil_append, h', ho]
    rfl
  | i :: p, d, h, ho => by
    simp only [D.rowAt, List.cons_append] at h ⊢
    cases hd : d.row with
    | none => simp [hd] at h
    | some cs' =>
      rw [hd] at h
      simp only at h ⊢
      split at h
      · rename_i sz' n' ds hc
        exact rowAt_append h ho
      · simp at h

theorem nav_append {o : Nat} {bk bk' : Bk} {u : Value} : ∀ {p : List Nat} {v : Value}, nav w v p = some bk → cvB w bk o = some u → rowB u = some bk' → nav w v (p ++ [o]) = some bk'
  | [], v, h, hu, hb => by
    simp only [nav] at h
    simp [nav, h, hu, hb]
  | i :: p, v, h, hu, hb => by
    simp only [nav, List.cons_append] at h ⊢
    split at h
    · rename_i b hb'
      split at h
      · rename_i u' hu'
        exact nav_append h hu hb
      · simp at h
    · simp at h

theorem refD_spec {r : Nat} {p : List Nat} {o : Nat} {d : D} (h : refD R r p o = some d) : ∃ row, rowOf R r p = some row ∧ row[o]? = some d := by
  unfold refD at h
  cases hr : rowOf R r p with
  | none => simp [hr] at h
  | some row => rw [hr] at h; exact ⟨row, rfl, h⟩

/-- An owned slice, met by its place: its header, its row. -/
theorem ref_open (h : FR w0 L X0 w tm fr rv fp) {r : Nat} {p : List Nat} {o sz n : Nat} {cs : List D} (hd : refD fr.roots r p o = some (.sl true sz n cs)) :
    ∃ d row bk g k c, look r fr.roots = some d ∧ d.rowAt p = some row ∧ row[o]? = some (.sl true sz n cs) ∧ nav w (rv r) p = some bk ∧ cvB w bk o = some (.slice (some ⟨g, k, none⟩) n c) ∧ cs.length = n * sz ∧ n ≤ c ∧ d.rowAt (p ++ [o]) = some cs ∧
      nav w (rv r) (p ++ [o]) = some (.mem g k) ∧ OwnBlk w g (k + c * sz) ∧ fp r g := by
  obtain ⟨row, hr, ho⟩ := refD_spec hd
  have hr0 := hr
  unfold rowOf at hr
  cases hl : look r fr.roots with
  | none => simp [hl] at hr
  | some d =>
    simp only [hl] at hr
    obtain ⟨bk, u, Fe, h1, h2, h3, h4, _⟩ := focus p (h.root r d hl) hr ho (fun b hb => .inr ⟨r, d, hl, hb⟩)
    simp only [RepV] at h3
    obtain ⟨g, k, c, φ, rfl, q2, q3, q4, _, _, _, q8⟩ := h3
    exact ⟨d, row, bk, g, k, c, rfl, hr, ho, h1, h2, q2, q3, rowAt_append hr ho, nav_append h1 h2 (by simp [rowB]), q4, h4 g ((q8 g).2 (.inl rfl))⟩

theorem inB_spec {i : Int} {n : Nat} (h : inB i n = true) : 0 ≤ i ∧ i < n := by simpa [inB] using h

theorem r_indexAt_sl {t e : TypeId} {k : IntKind} {i : Int} {n c g o : Nat} (hu : P.underlying t = some (.slice e)) (hz : P.cellsOf e ≠ 0) (h0 : 0 ≤ i) (h1 : i < n) :
    (Instr.indexAt t (.slice (some ⟨g, o, none⟩) n c) (.int k i)).run P w = .ok (.pointer (some ⟨g, o + i.toNat * P.cellsOf e, none⟩)) w := by
  unfold Instr.indexAt
  simp [asIntOf, run_underlying hu, h0, h1, r_sizeOf (info_of_cells hz), addr_add]

theorem r_indexAt_arr {t e : TypeId} {k : IntKind} {i : Int} {n g o : Nat} (hu : P.underlying t = some (.array n e)) (hz : P.cellsOf e ≠ 0) (h0 : 0 ≤ i) (h1 : i < n) :
    (Instr.indexAt t (.pointer (some ⟨g, o, none⟩)) (.int k i)).run P w = .ok (.pointer (some ⟨g, o + i.toNat * P.cellsOf e, none⟩)) w := by
  unfold Instr.indexAt
  simp [asIntOf, run_underlying hu, h0, h1, r_sizeOf (info_of_cells hz), addr_add, Instr.sureAddr]

theorem shr_slice {sz n : Nat} {cs : List D} {v : Value} (h : RepV w X (.sl false sz n cs) v E) : ∃ A c, v = .slice (some A) n c ∧ cs.length = n * sz ∧ n ≤ c ∧ (cs = [] ∨ (A.spot = none ∧ ¬ X A.block)) ∧ RepCs w X cs (memCv w A.block A.off) 0 (fun _ _ => False) := by
  simp only [RepV] at h
  obtain ⟨A, c, h1, h2, h3, h4, h5, _⟩ := h
  exact ⟨A, c, h1, h2, h3, h4, h5⟩

theorem indexAddrV_sound (h : FR w0 L X0 w tm fr rv fp) {t : TypeId} {x i y : V} {v vi : Value} (hx : RepE w (XX X0 fr.roots fp) fr.roots rv x v) (hi : RepE w (XX X0 fr.roots fp) fr.roots rv i vi)
    (he : indexAddrV P fr.roots t x i = some y) : ∃ u, (∀ w', Ext w w' → (Instr.indexAt t v vi).run P w' = .ok u w') ∧ RepE w (XX X0 fr.roots fp) fr.roots rv y u := by
  cases i with
  | val di =>
    cases di with
    | int k i =>
      obtain rfl : vi = .int k i := by simp only [RepE, RepV] at hi; exact hi.1
      simp only [indexAddrV] at he
      cases hu : P.underlying t with
      | none => simp [hu] at he
      | some du =>
        rw [hu] at he
        cases du with
        | slice e =>
          simp only at he
          cases x with
          | ref r p o =>
            simp only at he
            split at he
            · rename_i sz n cs hd
              split at he
              · rename_i hc
                split at he
                · rename_i hb
                  obtain rfl : V.addr r (p ++ [o]) (i.toNat * sz) = y := by simpa using he
                  obtain ⟨h0, h1⟩ := inB_spec hb
                  obtain ⟨d, row, bk, g, o', c, q1, q2, q3, q4, q5, q6, q7, q8, q9, q10, q11⟩ := ref_open h hd
                  simp only [RepE] at hx ⊢
                  obtain ⟨d', row', bk', a1, a2, a3, a4, a5, a6⟩ := hx
                  rw [q1] at a1; obtain rfl : d = d' := by simpa using a1
                  rw [q4] at a4; obtain rfl : bk = bk' := by simpa using a4
                  rw [q5] at a5; obtain rfl : Value.slice (some ⟨g, o', none⟩) n c = v := by simpa using a5
                  obtain ⟨rfl, hz⟩ := hc
                  exact ⟨_, fun _ _ => r_indexAt_sl hu hz h0 h1, d, g, o', q1, ⟨fun hh => by simp at hh, .inr ⟨cs, q8⟩⟩, q9, rfl⟩
                · simp at he
              · simp at he
            · simp at he
          | win r p o sz lo n =>
            simp only at he
            split at he
            · rename_i sz' n' cs hd
              split at he
              · rename_i hc
                split at he
                · rename_i hb
                  obtain rfl : V.addr r (p ++ [o]) ((lo + i.toNat) * sz) = y := by simpa using he
                  obtain ⟨h0, h1⟩ := inB_spec hb
                  obtain ⟨d, row, bk, g, o', c, q1, q2, q3, q4, q5, q6, q7, q8, q9, q10, q11⟩ := ref_open h hd
                  simp only [RepE] at hx ⊢
                  obtain ⟨d', row', bk', A, N, c0, A', c', a1, a2, a3, a4, a5, a6, a7, rfl, a9, a10⟩ := hx
                  rw [q1] at a1; obtain rfl : d = d' := by simpa using a1
                  rw [q4] at a4; obtain rfl : bk = bk' := by simpa using a4
                  rw [q5] at a5
                  obtain ⟨rfl, rfl, rfl⟩ : (⟨g, o', none⟩ : Addr) = A ∧ n' = N ∧ c = c0 := by simpa using a5
                  obtain ⟨rfl, hz, rfl⟩ := hc
                  have hn : n ≠ 0 := by omega
                  obtain rfl := a10.resolve_left hn
                  refine ⟨_, fun _ _ => r_indexAt_sl hu hz h0 h1, d, g, o', q1, ⟨fun hh => by simp at hh, .inr ⟨cs, q8⟩⟩, q9, ?_⟩
                  rw [Nat.add_mul, Nat.add_assoc]
                · simp at he
              · simp at he
            · simp at he
          | val d =>
            cases d with
            | sl own sz n cs =>
              cases own with
              | true => simp at he
              | false =>
                simp only at he
                split at he
                · rename_i hc
                  split at he
                  · rename_i hb
                    obtain rfl : V.val (.ptr false (cs.drop (i.toNat * sz))) = y := by simpa using he
                    obtain ⟨h0, h1⟩ := inB_spec hb
                    obtain ⟨rfl, hz⟩ := hc
                    simp only [RepE] at hx ⊢
                    obtain ⟨⟨g, o, sp⟩, c, rfl, q1, q2, q3, q4⟩ := shr_slice hx
                    have hne : cs ≠ [] := by
                      intro hnil
                      rw [hnil] at q1
                      have : 0 < n * P.cellsOf e := Nat.mul_pos (by omega) (by omega)
                      simp at q1
                      omega
                    obtain ⟨rfl, hX⟩ : sp = none ∧ _ := q3.resolve_left hne
                    refine ⟨_, fun _ _ => r_indexAt_sl hu hz h0 h1, ?_⟩
                    simp only [RepV]
                    exact ⟨⟨g, o + i.toNat * P.cellsOf e, none⟩, rfl, rfl, .inr hX, repCs_drop _ q4, fun _ => id⟩
                  · simp at he
                · simp at he
            | _ => simp at he
          | _ => simp at he
        | array n e =>
          simp only at he
          split at he
          · simp at he
          · rename_i hz
            cases x with
            | addr r p o =>
              simp only at he
              split at he
              · rename_i hb
                obtain rfl : V.addr r p (o + i.toNat * P.cellsOf e) = y := by simpa using he
                obtain ⟨h0, h1⟩ := inB_spec hb
                simp only [RepE] at hx ⊢
                obtain ⟨d, g, o', q1, q2, q3, rfl⟩ := hx
                exact ⟨_, fun _ _ => r_indexAt_arr hu hz h0 h1, d, g, o', q1, q2, q3, by rw [Nat.add_assoc]⟩
              · simp at he
            | val d =>
              cases d with
              | ptr own cs =>
                cases own with
                | true => simp at he
                | false =>
                  simp only at he
                  split at he
                  · rename_i hb
                    obtain rfl : V.val (.ptr false (cs.drop (i.toNat * P.cellsOf e))) = y := by simpa using he
                    obtain ⟨h0, h1⟩ := inB_spec hb
                    simp only [RepE] at hx ⊢
                    obtain ⟨g, o, rfl, hr⟩ := ptr_drop (i.toNat * P.cellsOf e) hx
                    exact ⟨_, fun _ _ => r_indexAt_arr hu hz h0 h1, hr⟩
                  · simp at he
              | _ => simp at he
            | _ => simp at he
        | _ => simp at he
    | _ => simp [indexAddrV] at he
  | _ => simp [indexAddrV] at he
end
end Go.Proofs.Ytgnohnlpicmnaaa.Vm
set_option linter.unusedSimpArgs false
set_option linter.unusedVariables false
namespace Go.Proofs.Ytgnohnlpicmnaaa.Vm
open Go
section
variable {P : Program} {w0 : World} {L X0 : Nat → Prop} {w : World} {tm : Array Value} {fr : Fr} {rv : Nat → Value} {fp : Nat → Nat → Prop} {X : Nat → Prop} {R : List (Nat × D)}

theorem indexV_sound {t : TypeId} {x i y : V} {v vi : Value} (hx : RepE w X R rv x v) (hi : RepE w X R rv i vi) (he : indexV P t x i = some y) :
    ∃ u, (∀ w', Ext w w' → (Instr.index t v vi).run P w' = .ok u w') ∧ RepE w X R rv y u := by
  cases i with
  | val di =>
    cases di with
    | int k i =>
      obtain rfl : vi = .int k i := by simp only [RepE, RepV] at hi; exact hi.1
      simp only [indexV] at he
      cases hu : P.underlying t with
      | none => simp [hu] at he
      | some du =>
        rw [hu] at he
        cases du with
        | string =>
          simp only at he
          cases x with
          | val d =>
            cases d with
            | str s =>
              simp only at he
              obtain rfl : v = .string s := by simp only [RepE, RepV] at hx; exact hx.1
              cases hb : (if 0 ≤ i then s[i.toNat]? else none) with
              | none => rw [hb] at he; simp at he
              | some b =>
                rw [hb] at he
                obtain rfl : V.val (.int .u8 b.toNat) = y := by simpa using he
                refine ⟨.int .u8 b.toNat, ?_, by simp only [RepE, RepV]; exact ⟨trivial, fun _ => id⟩⟩
                intro w' _
                unfold Instr.index
                simp only [asIntOf, Sem.run_bind, Sem.run_pure, Result.andThen_ok, run_underlying hu, hb]
            | _ => simp at he
          | _ => simp at he
        | array n e =>
          simp only at he
          split at he
          · simp at he
          · rename_i hz
            split at he
            · rename_i vs ha
              split at he
              · rename_i hb
                obtain ⟨h0, h1⟩ := inB_spec hb
                obtain ⟨us, rfl, hc⟩ := aggCells_sound hx ha
                obtain ⟨u, hu', hr⟩ := partV_sound hc he
                exact ⟨u, fun w' hw => by unfold Instr.index; simp [asIntOf, run_underlying hu, h0, h1, r_sizeOf (info_of_cells hz), hu' w' hw], hr⟩
              · simp at he
            · simp at he
        | _ => simp at he
    | _ => simp [indexV] at he
  | _ => simp [indexV] at he

/-- A slice value's header. -/
theorem lenV_sound (h : FR w0 L X0 w tm fr rv fp) {x : V} {v : Value} {n : Nat} (hx : RepE w (XX X0 fr.roots fp) fr.roots rv x v) (he : lenV fr.roots x = some n) :
    ∃ A c, v = .slice A n c := by
  cases x with
  | ref r p o =>
    simp only [lenV] at he
    split at he
    · rename_i sz m cs hd
      obtain rfl : m = n := by simpa using he
      obtain ⟨d, row, bk, g, o', c, q1, q2, q3, q4, q5, _⟩ := ref_open h hd
      simp only [RepE] at hx
      obtain ⟨d', row', bk', a1, a2, a3, a4, a5, a6⟩ := hx
      rw [q1] at a1; obtain rfl : d = d' := by simpa using a1
      rw [q4] at a4; obtain rfl : bk = bk' := by simpa using a4
      rw [q5] at a5; obtain rfl : Value.slice (some ⟨g, o', none⟩) m c = v := by simpa using a5
      exact ⟨_, _, rfl⟩
    · simp at he
  | win r p o sz lo m =>
    obtain rfl : m = n := by simpa [lenV] using he
    simp only [RepE] at hx
    obtain ⟨d', row', bk', A, N, c0, A', c', a1, a2, a3, a4, a5, a6, a7, rfl, a9, a10⟩ := hx
    exact ⟨_, _, rfl⟩
  | val d =>
    cases d with
    | sl own sz m cs =>
      cases own with
      | true => simp [lenV] at he
      | false =>
        obtain rfl : m = n := by simpa [lenV] using he
        simp only [RepE] at hx
        obtain ⟨A, c, rfl, _⟩ := shr_slice hx
        exact ⟨_, _, rfl⟩
    | nil =>
      obtain rfl : 0 = n := by simpa [lenV] using he
      simp only [RepE, RepV] at hx
      exact ⟨_, _, hx.1⟩
    | _ => simp [lenV] at he
  | _ => simp [lenV] at he

theorem bound_spec {n d k : Nat} {b : Option V} {bv : Option Value} (hb : ∀ x, b = some x → ∃ u, bv = some u ∧ RepE w X R rv x u) (hn : b = none → bv = none) (h : bound n d b = some k) :
    (b = none ∧ bv = none ∧ k = d) ∨ ∃ kd i, bv = some (.int kd i) ∧ 0 ≤ i ∧ i ≤ (n : Int) ∧ k = i.toNat := by
  cases b with
  | none => exact .inl ⟨rfl, hn rfl, by simpa [bound] using h.symm⟩
  | some x =>
    obtain ⟨u, rfl, hx⟩ := hb x rfl
    cases x with
    | val dd =>
      cases dd with
      | int kd i =>
        simp only [bound] at h
        split at h
        · rename_i hc
          simp only [RepE, RepV] at hx
          exact .inr ⟨kd, i, by rw [hx.1], hc.1, hc.2, by simpa using h.symm⟩
        · simp at h
      | _ => simp [bound] at h
    | _ => simp [bound] at h

/-- The bounds of a cut, as the machine asks them. -/
theorem r_bounds {isS : Bool} {n c h l : Nat} {hi lo : Option Value} (hn : n ≤ c)
    (hh : (hi = none ∧ h = n) ∨ ∃ kd i, hi = some (.int kd i) ∧ 0 ≤ i ∧ i ≤ (n : Int) ∧ h = i.toNat)
    (hl : (lo = none ∧ l = 0) ∨ ∃ kd i, lo = some (.int kd i) ∧ 0 ≤ i ∧ i ≤ (h : Int) ∧ l = i.toNat) :
    (Instr.sliceBounds isS n c lo hi none).run P w = .ok (l, h, c) w := by
  unfold Instr.sliceBounds
  rcases hh with ⟨rfl, rfl⟩ | ⟨kd, i, rfl, h0, h1, rfl⟩ <;> rcases hl with ⟨rfl, rfl⟩ | ⟨kd', i', rfl, h0', h1', rfl⟩
  · simp
  · simp [Instr.sliceBound, asIntOf, h0', h1']
  · simp [Instr.sliceBound, asIntOf, h0, show i ≤ (c : Int) by omega]
  · simp [Instr.sliceBound, asIntOf, h0, show i ≤ (c : Int) by omega, h0', h1', show i' ≤ max i 0 by omega]

theorem add_none (g o k : Nat) : (if k = 0 then (⟨g, o, none⟩ : Addr) else ⟨g, o + k, none⟩) = ⟨g, o + k, none⟩ := by
  split <;> simp_all

theorem r_slice_sl {t e : TypeId} {A : Option Addr} {n c h l : Nat} {hi lo : Option Value} (hu : P.underlying t = some (.slice e)) (hz : P.cellsOf e ≠ 0) (hn : n ≤ c)
    (hh : (hi = none ∧ h = n) ∨ ∃ kd i, hi = some (.int kd i) ∧ 0 ≤ i ∧ i ≤ (n : Int) ∧ h = i.toNat)
    (hl : (lo = none ∧ l = 0) ∨ ∃ kd i, lo = some (.int kd i) ∧ 0 ≤ i ∧ i ≤ (h : Int) ∧ l = i.toNat) :
    (Instr.sliceAt t (.slice A n c) lo hi none).run P w = .ok (.slice (if c = l then A else A.map (·.add (l * P.cellsOf e))) (h - l) (c - l)) w := by
  unfold Instr.sliceAt Instr.slice
  simp only [Sem.run_bind, run_underlying hu, Result.andThen_ok, r_bounds (P := P) (w := w) hn hh hl, r_sizeOf (info_of_cells hz), Sem.run_pure]

theorem r_slice_str {t : TypeId} {s : ByteArray} {h l : Nat} {hi lo : Option Value} (hu : P.underlying t = some .string)
    (hh : (hi = none ∧ h = s.size) ∨ ∃ kd i, hi = some (.int kd i) ∧ 0 ≤ i ∧ i ≤ (s.size : Int) ∧ h = i.toNat)
    (hl : (lo = none ∧ l = 0) ∨ ∃ kd i, lo = some (.int kd i) ∧ 0 ≤ i ∧ i ≤ (h : Int) ∧ l = i.toNat) :
    (Instr.sliceAt t (.string s) lo hi none).run P w = .ok (.string (s.extract l h)) w := by
  unfold Instr.sliceAt Instr.slice
  simp [run_underlying hu, r_bounds (P := P) (w := w) (Nat.le_refl s.size) hh hl]

def LeB (h n : Nat) : Prop := h ≤ n

theorem hi_le {n h : Nat} {hi : Option Value} (hh : (hi = none ∧ h = n) ∨ ∃ kd i, hi = some (.int kd i) ∧ 0 ≤ i ∧ i ≤ (n : Int) ∧ h = i.toNat) : h ≤ n := by
  rcases hh with ⟨_, rfl⟩ | ⟨_, i, _, h0, h1, rfl⟩ <;> omega
theorem lo_le {l h : Nat} {lo : Option Value} (hl : (lo = none ∧ l = 0) ∨ ∃ kd i, lo = some (.int kd i) ∧ 0 ≤ i ∧ i ≤ (h : Int) ∧ l = i.toNat) : l ≤ h := by
  rcases hl with ⟨_, rfl⟩ | ⟨_, i, _, h0, h1, rfl⟩ <;> omega

theorem cutB {n : Nat} {hi lo : Option V} {hv lv : Option Value} {h l : Nat}
    (hhi : ∀ x, hi = some x → ∃ u, hv = some u ∧ RepE w X R rv x u) (hhn : hi = none → hv = none) (hlo : ∀ x, lo = some x → ∃ u, lv = some u ∧ RepE w X R rv x u) (hln : lo = none → lv = none)
    (h1 : bound n n hi = some h) (h2 : bound h 0 lo = some l) :
    ((hv = none ∧ h = n) ∨ ∃ kd i, hv = some (.int kd i) ∧ 0 ≤ i ∧ i ≤ (n : Int) ∧ h = i.toNat) ∧ ((lv = none ∧ l = 0) ∨ ∃ kd i, lv = some (.int kd i) ∧ 0 ≤ i ∧ i ≤ (h : Int) ∧ l = i.toNat) := by
  refine ⟨?_, ?_⟩
  · rcases bound_spec hhi hhn h1 with ⟨_, a, b⟩ | h
    · exact .inl ⟨a, b⟩
    · exact .inr h
  · rcases bound_spec hlo hln h2 with ⟨_, a, b⟩ | h
    · exact .inl ⟨a, b⟩
    · exact .inr h

theorem sliceV_sound (h : FR w0 L X0 w tm fr rv fp) {t : TypeId} {x y : V} {v : Value} {hi lo : Option V} {hv lv : Option Value} (hx : RepE w (XX X0 fr.roots fp) fr.roots rv x v)
    (hhi : ∀ x, hi = some x → ∃ u, hv = some u ∧ RepE w (XX X0 fr.roots fp) fr.roots rv x u) (hhn : hi = none → hv = none)
    (hlo : ∀ x, lo = some x → ∃ u, lv = some u ∧ RepE w (XX X0 fr.roots fp) fr.roots rv x u) (hln : lo = none → lv = none)
    (he : sliceV P fr.roots t x lo hi = some y) : ∃ u, (∀ w', Ext w w' → (Instr.sliceAt t v lv hv none).run P w' = .ok u w') ∧ RepE w (XX X0 fr.roots fp) fr.roots rv y u := by
  unfold sliceV at he
  split at he
  · rename_i e hu
    split at he
    · rename_i r p o
      split at he
      · rename_i sz n cs hd
        split at he
        · rename_i hc
          obtain ⟨rfl, hz⟩ := hc
          split at he
          · rename_i hh hb1
            split at he
            · rename_i ll hb2
              obtain rfl : V.win r p o (P.cellsOf e) ll (hh - ll) = y := by simpa using he
              obtain ⟨k1, k2⟩ := cutB hhi hhn hlo hln hb1 hb2
              obtain ⟨d, row, bk, g, o', c, q1, q2, q3, q4, q5, q6, q7, q8, q9, q10, q11⟩ := ref_open h hd
              simp only [RepE] at hx ⊢
              obtain ⟨d', row', bk', a1, a2, a3, a4, a5, a6⟩ := hx
              rw [q1] at a1; obtain rfl : d = d' := by simpa using a1
              rw [q2] at a2; obtain rfl : row = row' := by simpa using a2
              rw [q4] at a4; obtain rfl : bk = bk' := by simpa using a4
              rw [q5] at a5; obtain rfl : Value.slice (some ⟨g, o', none⟩) n c = v := by simpa using a5
              have g1 := hi_le k1
              have g2 := lo_le k2
              refine ⟨_, fun _ _ => r_slice_sl hu hz q7 k1 k2, d, row, bk, ⟨g, o', none⟩, n, c, ?_⟩
              by_cases hcl : c = ll
              · exact ⟨⟨g, o', none⟩, c - ll, q1, q2, a3, q4, q5, rfl, by omega, by simp [hcl], by omega, .inl (by omega)⟩
              · exact ⟨⟨g, o' + ll * P.cellsOf e, none⟩, c - ll, q1, q2, a3, q4, q5, rfl, by omega, by simp [hcl, addr_add], by omega, .inr rfl⟩
            · simp at he
          · simp at he
        · simp at he
      · simp at he
    · rename_i r p o sz lo0 n
      split at he
      · rename_i sz' n' cs hd
        split at he
        · rename_i hc
          obtain ⟨rfl, hz, rfl⟩ := hc
          split at he
          · rename_i hh hb1
            split at he
            · rename_i ll hb2
              obtain rfl : V.win r p o (P.cellsOf e) (lo0 + ll) (hh - ll) = y := by simpa using he
              obtain ⟨k1, k2⟩ := cutB hhi hhn hlo hln hb1 hb2
              simp only [RepE] at hx ⊢
              obtain ⟨d', row', bk', A, N, c0, A', c', a1, a2, a3, a4, a5, a6, a7, rfl, a9, a10⟩ := hx
              have g1 := hi_le k1
              have g2 := lo_le k2
              refine ⟨_, fun _ _ => r_slice_sl hu hz a9 k1 k2, d', row', bk', A, N, c0, ?_⟩
              by_cases hcl : c' = ll
              · exact ⟨A', c' - ll, a1, a2, a3, a4, a5, a6, by omega, by simp [hcl], by omega, .inl (by omega)⟩
              · obtain rfl | hn := a10
                · exact ⟨A'.add (ll * P.cellsOf e), c' - ll, a1, a2, a3, a4, a5, a6, by omega, by simp [hcl], by omega, .inl (by omega)⟩
                · subst hn
                  exact ⟨⟨A.block, A.off + (lo0 + ll) * P.cellsOf e, none⟩, c' - ll, a1, a2, a3, a4, a5, a6, by omega, by simp [hcl, addr_add, Nat.add_mul, Nat.add_assoc], by omega, .inr rfl⟩
            · simp at he
          · simp at he
        · simp at he
      · simp at he
    · rename_i sz n cs
      split at he
      · rename_i hc
        obtain ⟨rfl, hz⟩ := hc
        split at he
        · rename_i hh hb1
          split at he
          · rename_i ll hb2
            obtain rfl : V.val (.sl false (P.cellsOf e) (hh - ll) ((cs.drop (ll * P.cellsOf e)).take ((hh - ll) * P.cellsOf e))) = y := by simpa using he
            obtain ⟨k1, k2⟩ := cutB hhi hhn hlo hln hb1 hb2
            simp only [RepE] at hx ⊢
            obtain ⟨⟨g, o, sp⟩, c, rfl, q1, q2, q3, q4⟩ := shr_slice hx
            have g1 := hi_le k1
            have g2 := lo_le k2
            have hlen : ((cs.drop (ll * P.cellsOf e)).take ((hh - ll) * P.cellsOf e)).length = (hh - ll) * P.cellsOf e := by
              have : hh * P.cellsOf e ≤ n * P.cellsOf e := Nat.mul_le_mul_right _ g1
              have h2 : ll * P.cellsOf e + (hh - ll) * P.cellsOf e = hh * P.cellsOf e := by rw [← Nat.add_mul]; congr 1; omega
              simp [q1]; omega
            refine ⟨_, fun _ _ => r_slice_sl hu hz q2 k1 k2, ?_⟩
            simp only [RepV]
            by_cases hcl : c = ll
            · have h0 : hh - ll = 0 := by omega
              refine ⟨⟨g, o, sp⟩, c - ll, by simp [hcl], hlen, by omega, .inl ?_, ?_, fun _ => id⟩
              · rw [h0]; simp
              · rw [h0]; simp [RepCs]
            · by_cases hne : cs = []
              · subst hne
                refine ⟨(⟨g, o, sp⟩ : Addr).add (ll * P.cellsOf e), c - ll, by simp [hcl], hlen, by omega, .inl (by simp), by simp [RepCs], fun _ => id⟩
              · obtain ⟨rfl, hX⟩ : sp = none ∧ _ := q3.resolve_left hne
                exact ⟨⟨g, o + ll * P.cellsOf e, none⟩, c - ll, by simp [hcl, addr_add], hlen, by omega, .inr ⟨rfl, hX⟩, repCs_take _ (repCs_drop _ q4), fun _ => id⟩
          · simp at he
        · simp at he
      · simp at he
    · split at he
      · rename_i hz
        split at he
        · rename_i hh hb1
          split at he
          · rename_i ll hb2
            obtain rfl : V.val .nil = y := by simpa using he
            obtain ⟨k1, k2⟩ := cutB hhi hhn hlo hln hb1 hb2
            simp only [RepE, RepV] at hx ⊢
            obtain ⟨rfl, _⟩ := hx
            have g1 := hi_le k1
            have g2 := lo_le k2
            obtain rfl : hh = 0 := by omega
            obtain rfl : ll = 0 := by omega
            exact ⟨.slice none 0 0, fun w' _ => by simpa using r_slice_sl (P := P) (w := w') (A := none) hu hz (Nat.le_refl 0) k1 k2, rfl, fun _ => id⟩
          · simp at he
        · simp at he
      · simp at he
    · simp at he
  · rename_i hu
    split at he
    · rename_i s
      split at he
      · rename_i hh hb1
        split at he
        · rename_i ll hb2
          obtain rfl : V.val (.str (s.extract ll hh)) = y := by simpa using he
          obtain ⟨k1, k2⟩ := cutB hhi hhn hlo hln hb1 hb2
          simp only [RepE, RepV] at hx ⊢
          obtain ⟨rfl, _⟩ := hx
          exact ⟨_, fun _ _ => r_slice_str hu k1 k2, rfl, fun _ => id⟩
        · simp at he
      · simp at he
    · simp at he
  · simp at he
end
end Go.Proofs.Ytgnohnlpicmnaaa.Vm
set_option linter.unusedSimpArgs false
set_option linter.unusedVariables false
namespace Go.Proofs.Ytgnohnlpicmnaaa.Vm
open Go
section
variable {P : Program} {w0 : World} {L X0 : Nat → Prop} {w : World} {tm : Array Value} {fr : Fr} {rv : Nat → Value} {fp : Nat → Nat → Prop} {X : Nat → Prop} {R : List (Nat × D)}

theorem holds_sound (h : FR w0 L X0 w tm fr rv fp) {x : V} {v : Value} {sz n : Nat} {cs : List D} (hx : RepE w (XX X0 fr.roots fp) fr.roots rv x v) (he : holds fr.roots x = some (sz, n, cs)) :
    ∃ A c, v = .slice (some A) n c ∧ n ≤ c ∧ cs.length = n * sz ∧ (cs = [] ∨ A.spot = none) ∧ ∀ (j : Nat) (d : D), cs[j]? = some d → ∃ u F, memCv w A.block A.off j = some u ∧ RepV w (XX X0 fr.roots fp) d u F := by
  cases x with
  | ref r p o =>
    simp only [holds] at he
    split at he
    · rename_i sz' n' cs' hd
      obtain ⟨rfl, rfl, rfl⟩ : sz' = sz ∧ n' = n ∧ cs' = cs := by simpa using he
      obtain ⟨d, row, bk, g, o', c, q1, q2, q3, q4, q5, q6, q7, q8, q9, q10, q11⟩ := ref_open h hd
      simp only [RepE] at hx
      obtain ⟨d', row', bk', a1, a2, a3, a4, a5, a6⟩ := hx
      rw [q1] at a1; obtain rfl : d = d' := by simpa using a1
      rw [q4] at a4; obtain rfl : bk = bk' := by simpa using a4
      rw [q5] at a5; obtain rfl : Value.slice (some ⟨g, o', none⟩) n' c = v := by simpa using a5
      refine ⟨⟨g, o', none⟩, c, rfl, q7, q6, .inr rfl, fun j e hj => ?_⟩
      obtain ⟨bk2, u, Fe, h1, h2, h3, _⟩ := focus (p ++ [o]) (h.root r d q1) q8 hj (fun b hb => .inr ⟨r, d, q1, hb⟩)
      rw [q9] at h1; obtain rfl : Bk.mem g o' = bk2 := by simpa using h1
      exact ⟨u, Fe, h2, h3⟩
    · simp at he
  | win r p o sz' lo m =>
    simp only [holds] at he
    split at he
    · rename_i sz2 n' cs' hd
      split at he
      · rename_i hs
        subst hs
        obtain ⟨rfl, rfl, rfl⟩ : sz2 = sz ∧ m = n ∧ (cs'.drop (lo * sz2)).take (m * sz2) = cs := by simpa using he
        obtain ⟨d, row, bk, g, o', c, q1, q2, q3, q4, q5, q6, q7, q8, q9, q10, q11⟩ := ref_open h hd
        simp only [RepE] at hx
        obtain ⟨d', row', bk', A, N, c0, A', c', a1, a2, a3, a4, a5, a6, a7, rfl, a9, a10⟩ := hx
        rw [q1] at a1; obtain rfl : d = d' := by simpa using a1
        rw [q4] at a4; obtain rfl : bk = bk' := by simpa using a4
        rw [q5] at a5
        obtain ⟨rfl, rfl, rfl⟩ : (⟨g, o', none⟩ : Addr) = A ∧ n' = N ∧ c = c0 := by simpa using a5
        have hlen : ((cs'.drop (lo * sz2)).take (m * sz2)).length = m * sz2 := by
          have h1 : (lo + m) * sz2 ≤ n' * sz2 := Nat.mul_le_mul_right _ a7
          rw [Nat.add_mul] at h1
          simp [q6]; omega
        refine ⟨A', c', rfl, a9, hlen, ?_, fun j e hj => ?_⟩
        · rcases a10 with rfl | rfl
          · exact .inl (by simp)
          · exact .inr rfl
        · have hjl : j < m * sz2 := by rw [← hlen]; exact (List.getElem?_eq_some_iff.1 hj).1
          have hm : m ≠ 0 := by rintro rfl; simp at hjl
          obtain rfl := a10.resolve_left hm
          rw [List.getElem?_take, if_pos hjl, List.getElem?_drop] at hj
          obtain ⟨bk2, u, Fe, h1, h2, h3, _⟩ := focus (p ++ [o]) (h.root r d q1) q8 hj (fun b hb => .inr ⟨r, d, q1, hb⟩)
          rw [q9] at h1; obtain rfl : Bk.mem g o' = bk2 := by simpa using h1
          refine ⟨u, Fe, ?_, h3⟩
          simp only [cvB, memCv] at h2 ⊢
          rw [Nat.add_assoc]; exact h2
      · simp at he
    · simp at he
  | val d =>
    cases d with
    | sl own sz' n' cs' =>
      cases own with
      | true => simp [holds] at he
      | false =>
        obtain ⟨rfl, rfl, rfl⟩ : sz' = sz ∧ n' = n ∧ cs' = cs := by simpa [holds] using he
        simp only [RepE] at hx
        obtain ⟨A, c, rfl, q1, q2, q3, q4⟩ := shr_slice hx
        refine ⟨A, c, rfl, q2, q1, q3.imp id (·.1), fun j e hj => ?_⟩
        rw [repCs_iff] at q4
        obtain ⟨u, hu, hr⟩ := q4 j e hj
        exact ⟨u, _, by simpa using hu, hr⟩
    | _ => simp [holds] at he
  | _ => simp [holds] at he

theorem repV_int {k : IntKind} {n : Int} {v : Value} {F : Nat → Prop} (h : RepV w X (.int k n) v F) : v = .int k n := by simp only [RepV] at h; exact h.1
theorem repV_bool {b : Bool} {v : Value} {F : Nat → Prop} (h : RepV w X (.bool b) v F) : v = .bool b := by simp only [RepV] at h; exact h.1
theorem repV_str {s : ByteArray} {v : Value} {F : Nat → Prop} (h : RepV w X (.str s) v F) : v = .string s := by simp only [RepV] at h; exact h.1
theorem repV_nil {v : Value} {F : Nat → Prop} (h : RepV w X .nil v F) : v = .slice none 0 0 := by simp only [RepV] at h; exact h.1
theorem mk_int (k : IntKind) (n : Int) : RepE w X R rv (.val (.int k n)) (.int k n) := by simp only [RepE, RepV]; exact ⟨trivial, fun _ => id⟩
theorem mk_bool (b : Bool) : RepE w X R rv (.val (.bool b)) (.bool b) := by simp only [RepE, RepV]; exact ⟨trivial, fun _ => id⟩
theorem mk_str (s : ByteArray) : RepE w X R rv (.val (.str s)) (.string s) := by simp only [RepE, RepV]; exact ⟨trivial, fun _ => id⟩
theorem mk_nil : RepE w X R rv (.val .nil) (.slice none 0 0) := by simp only [RepE, RepV]; exact ⟨trivial, fun _ => id⟩

theorem binOp_same {op : BinOp} {k : IntKind} {a b : Int} (hs : op ≠ .shl) (hs' : op ≠ .shr) (t : TypeId) : binOp op t (.int k a) (.int k b) = (match op with
    | .add | .sub | .mul => Op.intArith op k a b
    | .quo | .rem => Op.intDiv op k a b
    | .and | .or | .xor | .andNot => Op.intBits op k a b
    | _ => Op.intCmp op a b) := by
  cases op <;> simp [binOp] at hs hs' ⊢

theorem intOp_run {op : BinOp} {k : IntKind} {a b : Int} {d : D} (hs : op ≠ .shl) (hs' : op ≠ .shr) (h : intOp op k a b = some d) (t : TypeId) :
    ∃ u, (∀ w', Ext w w' → (binOp op t (.int k a) (.int k b)).run P w' = .ok u w') ∧ RepE w X R rv (.val d) u := by
  rw [binOp_same hs hs']
  cases op <;> simp only [intOp] at h
  case quo => split at h; · simp at h
              · rename_i h0; obtain rfl := Option.some.inj h; exact ⟨_, fun _ _ => by simp [Op.intDiv, h0], mk_int _ _⟩
  case rem => split at h; · simp at h
              · rename_i h0; obtain rfl := Option.some.inj h; exact ⟨_, fun _ _ => by simp [Op.intDiv, h0], mk_int _ _⟩
  case shl => simp at hs
  case shr => simp at hs'
  all_goals (first | (obtain rfl := Option.some.inj h; first | exact ⟨_, fun _ _ => rfl, mk_int _ _⟩ | exact ⟨_, fun _ _ => rfl, mk_bool _⟩) | simp at h)

theorem shiftOp_run {op : BinOp} {k k' : IntKind} {a b : Int} {d : D} (hs : op = .shl ∨ op = .shr) (h : shiftOp op k a b = some d) (t : TypeId) :
    ∃ u, (∀ w', Ext w w' → (binOp op t (.int k a) (.int k' b)).run P w' = .ok u w') ∧ RepE w X R rv (.val d) u := by
  unfold shiftOp at h
  split at h
  · simp at h
  · rename_i hb
    rcases hs with rfl | rfl
    · simp at h; subst h; exact ⟨_, fun _ _ => by simp [binOp, Op.shift, hb], mk_int ..⟩
    · simp at h; subst h; exact ⟨_, fun _ _ => by simp [binOp, Op.shift, hb], mk_int ..⟩

theorem guard_pure {op : BinOp} {t : TypeId} {x y : Operand} {a b : Value} (h : (match a, b with | .nilIface, .nilIface => False | .agg _, .agg _ => False | _, _ => True)) : (eqGuard op t x y a b).run P w = .ok () w := by
  cases op
  case eql => cases a <;> cases b <;> first | rfl | exact h.elim
  case neq => cases a <;> cases b <;> first | rfl | exact h.elim
  all_goals rfl

theorem isNilV_sound (h : FR w0 L X0 w tm fr rv fp) {x : V} {v : Value} {b : Bool} (hx : RepE w (XX X0 fr.roots fp) fr.roots rv x v) (he : isNilV fr.roots x = some b) :
    ∃ A n c, v = .slice A n c ∧ A.isNone = b := by
  cases x with
  | ref r p o =>
    simp only [isNilV] at he
    split at he
    · rename_i sz m cs hd
      obtain rfl : false = b := by simpa using he
      obtain ⟨d, row, bk, g, o', c, q1, q2, q3, q4, q5, _⟩ := ref_open h hd
      simp only [RepE] at hx
      obtain ⟨d', row', bk', a1, a2, a3, a4, a5, a6⟩ := hx
      rw [q1] at a1; obtain rfl : d = d' := by simpa using a1
      rw [q4] at a4; obtain rfl : bk = bk' := by simpa using a4
      rw [q5] at a5; obtain rfl : Value.slice (some ⟨g, o', none⟩) m c = v := by simpa using a5
      exact ⟨_, _, _, rfl, rfl⟩
    · simp at he
  | win r p o sz lo m =>
    obtain rfl : false = b := by simpa [isNilV] using he
    simp only [RepE] at hx
    obtain ⟨d', row', bk', A, N, c0, A', c', a1, a2, a3, a4, a5, a6, a7, rfl, a9, a10⟩ := hx
    exact ⟨_, _, _, rfl, rfl⟩
  | val d =>
    cases d with
    | sl own sz m cs =>
      cases own with
      | true => simp [isNilV] at he
      | false =>
        obtain rfl : false = b := by simpa [isNilV] using he
        simp only [RepE] at hx
        obtain ⟨A, c, rfl, _⟩ := shr_slice hx
        exact ⟨_, _, _, rfl, rfl⟩
    | nil =>
      obtain rfl : true = b := by simpa [isNilV] using he
      simp only [RepE] at hx
      exact ⟨_, _, _, repV_nil hx, rfl⟩
    | _ => simp [isNilV] at he
  | _ => simp [isNilV] at he

theorem r_equal_slice {t e : TypeId} {A : Option Addr} {n c : Nat} (hu : P.underlying t = some (.slice e)) : (Op.equal t (.slice A n c) (.slice none 0 0)).run P w = .ok A.isNone w := by
  unfold Op.equal Op.maxDepth Op.equalIn
  simp only [Sem.run_bind, run_underlying hu, Result.andThen_ok]
  cases A <;> rfl
theorem r_equal_bool {t : TypeId} {a b : Bool} (hu : P.underlying t = some .bool) : (Op.equal t (.bool a) (.bool b)).run P w = .ok (a == b) w := by
  unfold Op.equal Op.maxDepth Op.equalIn
  simp only [Sem.run_bind, run_underlying hu, Result.andThen_ok]
  rfl

theorem binV_sound (h : FR w0 L X0 w tm fr rv fp) {op : BinOp} {t : TypeId} {x y z : V} {vx vy : Value} (ox oy : Operand) (hx : RepE w (XX X0 fr.roots fp) fr.roots rv x vx) (hy : RepE w (XX X0 fr.roots fp) fr.roots rv y vy)
    (he : binV P fr.roots op t x y = some z) : ∃ u, (∀ w', Ext w w' → (do eqGuard op t ox oy vx vy; binOp op t vx vy : Sem Value).run P w' = .ok u w') ∧ RepE w (XX X0 fr.roots fp) fr.roots rv z u := by
  unfold binV at he
  split at he
  · rename_i k a k' b
    simp only [RepE] at hx hy
    obtain rfl := repV_int hx
    obtain rfl := repV_int hy
    simp only [Sem.run_bind, guard_pure (P := P) (op := op) (t := t) (x := ox) (y := oy) (a := .int k a) (b := .int k' b) trivial, Result.andThen_ok]
    split at he
    · obtain ⟨d, hd, rfl⟩ := Option.map_eq_some_iff.1 he
      exact shiftOp_run (.inl rfl) hd t
    · obtain ⟨d, hd, rfl⟩ := Option.map_eq_some_iff.1 he
      exact shiftOp_run (.inr rfl) hd t
    · rename_i hs hs'
      split at he
      · rename_i hk
        subst hk
        obtain ⟨d, hd, rfl⟩ := Option.map_eq_some_iff.1 he
        exact intOp_run (fun e => hs e) (fun e => hs' e) hd t
      · simp at he
  · rename_i a b
    simp only [RepE] at hx hy
    obtain rfl := repV_bool hx
    obtain rfl := repV_bool hy
    simp only [Sem.run_bind, guard_pure (P := P) (op := op) (t := t) (x := ox) (y := oy) (a := .bool a) (b := .bool b) trivial, Result.andThen_ok]
    split at he
    · rename_i hu
      split at he
      · obtain rfl : V.val (.bool (a == b)) = z := by simpa using he
        exact ⟨_, fun _ _ => by simp only [binOp, Sem.run_bind, r_equal_bool hu, Result.andThen_ok, Sem.run_pure], mk_bool _⟩
      · obtain rfl : V.val (.bool (!(a == b))) = z := by simpa using he
        exact ⟨_, fun _ _ => by simp only [binOp, Sem.run_bind, r_equal_bool hu, Result.andThen_ok, Sem.run_pure], mk_bool _⟩
      · simp at he
    · simp at he
  · rename_i a b
    simp only [RepE] at hx hy
    obtain rfl := repV_str hx
    obtain rfl := repV_str hy
    simp only [Sem.run_bind, guard_pure (P := P) (op := op) (t := t) (x := ox) (y := oy) (a := .string a) (b := .string b) trivial, Result.andThen_ok]
    split at he
    · obtain rfl : V.val (.bool (a.toList == b.toList)) = z := by simpa using he
      exact ⟨_, fun _ _ => by simp [binOp, Op.stringOp], mk_bool _⟩
    · obtain rfl : V.val (.bool (!(a.toList == b.toList))) = z := by simpa using he
      exact ⟨_, fun _ _ => by simp [binOp, Op.stringOp], mk_bool _⟩
    · split at he
      · rename_i hs
        obtain rfl : V.val (.str (a ++ b)) = z := by simpa using he
        have hm : ¬ (((a.size + b.size : Nat) : Int) > IntKind.i64.max) := by
          have : IntKind.i64.max = 9223372036854775807 := by decide
          rw [this]; omega
        refine ⟨.string (a ++ b), ?_, mk_str _⟩
        intro w' _
        unfold binOp Op.stringOp
        simp only [Sem.run_ite, if_neg hm, Sem.run_pure]
      · simp at he
    · obtain rfl : V.val (.bool (Op.bytesLess a.toList b.toList)) = z := by simpa using he
      exact ⟨_, fun _ _ => by simp [binOp, Op.stringOp], mk_bool _⟩
    · obtain rfl : V.val (.bool (!(Op.bytesLess a.toList b.toList))) = z := by simpa using he
      exact ⟨_, fun _ _ => by simp [binOp, Op.stringOp], mk_bool _⟩
    · simp at he
  · split at he
    · rename_i e hu
      split at he
      · rename_i nb hn
        obtain ⟨A, n, c, rfl, hA⟩ := isNilV_sound h hx hn
        simp only [RepE] at hy
        obtain rfl := repV_nil hy
        simp only [Sem.run_bind, guard_pure (P := P) (op := op) (t := t) (x := ox) (y := oy) (a := .slice A n c) (b := .slice none 0 0) trivial, Result.andThen_ok]
        split at he
        · obtain rfl : V.val (.bool nb) = z := by simpa using he
          exact ⟨_, fun _ _ => by simp only [binOp, Sem.run_bind, r_equal_slice hu, Result.andThen_ok, Sem.run_pure, hA], mk_bool _⟩
        · obtain rfl : V.val (.bool (!nb)) = z := by simpa using he
          exact ⟨_, fun _ _ => by simp only [binOp, Sem.run_bind, r_equal_slice hu, Result.andThen_ok, Sem.run_pure, hA], mk_bool _⟩
        · simp at he
      · simp at he
    · simp at he
  · simp at he

theorem unV_sound {op : UnOp} {x z : V} {v : Value} (hx : RepE w X R rv x v) (he : unV op x = some z) : ∃ u, (∀ w', Ext w w' → (Op.unary op v).run P w' = .ok u w') ∧ RepE w X R rv z u := by
  unfold unV at he
  split at he
  · rename_i k n
    simp only [RepE] at hx
    obtain rfl := repV_int hx
    obtain rfl := (Option.some.inj he)
    exact ⟨_, fun _ _ => rfl, mk_int _ _⟩
  · rename_i b
    simp only [RepE] at hx
    obtain rfl := repV_bool hx
    obtain rfl := (Option.some.inj he)
    exact ⟨_, fun _ _ => rfl, mk_bool _⟩
  · rename_i k n
    simp only [RepE] at hx
    obtain rfl := repV_int hx
    obtain rfl := (Option.some.inj he)
    exact ⟨_, fun _ _ => rfl, mk_int _ _⟩
  · simp at he

def numOfD : D → Int
  | .int _ n => n
  | _ => 0
theorem byteOfD_num {d : D} (h : isByte d = true) : byteOfD d = UInt8.ofNat (numOfD d).toNat := by
  cases d <;> simp [isByte] at h; rfl

theorem convV_sound (h : FR w0 L X0 w tm fr rv fp) {src dst : TypeId} {x z : V} {v : Value} (hx : RepE w (XX X0 fr.roots fp) fr.roots rv x v) (he : convV P fr.roots src dst x = some z) :
    ∃ u, (∀ w', Ext w w' → (convert src dst v).run P w' = .ok u w') ∧ RepE w (XX X0 fr.roots fp) fr.roots rv z u := by
  unfold convV at he
  split at he
  · rename_i k k' k'' n hs hd
    simp only [RepE] at hx
    obtain rfl := repV_int hx
    obtain rfl := (Option.some.inj he)
    exact ⟨_, fun _ _ => by simp [convert, run_underlying hs, run_underlying hd, Conv.intToInt], mk_int _ _⟩
  · rename_i s hs hd
    simp only [RepE] at hx
    obtain rfl := repV_str hx
    obtain rfl := (Option.some.inj he)
    exact ⟨_, fun _ _ => by simp [convert, run_underlying hs, run_underlying hd], mk_str _⟩
  · rename_i e hs hd
    split at he
    · rename_i hu
      split at he
      · simp only [RepE] at hx
        obtain rfl := repV_nil hx
        obtain rfl := (Option.some.inj he)
        exact ⟨_, fun w' _ => run_convert_bytes_nil w' src e hs hu 0 0 dst hd, mk_str _⟩
      · split at he
        · rename_i sz n cs hh
          split at he
          · rename_i h1
            subst h1
            obtain ⟨d, hd', rfl⟩ := Option.map_eq_some_iff.1 he
            unfold strOfDs at hd'
            split at hd'
            · rename_i hall
              obtain rfl := (Option.some.inj hd')
              obtain ⟨A, c, rfl, hc, hl, hsp, hcell⟩ := holds_sound h hx hh
              have hall' : ∀ d ∈ cs, isByte d = true := by simpa using hall
              have hstr : (⟨(cs.map byteOfD).toArray⟩ : ByteArray) = strOfNums (cs.map numOfD) := by
                unfold strOfNums
                congr 2
                rw [List.map_map]
                exact List.map_congr_left fun d hd => byteOfD_num (hall' d hd)
              rw [hstr]
              by_cases hne : cs = []
              · subst hne
                obtain rfl : n = 0 := by simpa using hl.symm
                refine ⟨.string (strOfNums []), ?_, mk_str _⟩
                intro w' _
                rw [run_convert_bytes_string w' src dst e _ 0 c hs hu hd]
                simp [Conv.bytesToString, loadCells, loadCellsFrom, strOfNums, ByteArray.empty, ByteArray.emptyWithCapacity]
                try rfl
              · obtain ⟨g, o, sp⟩ := A
                obtain rfl : sp = none := hsp.resolve_left hne
                refine ⟨_, fun w' hw => run_convert_bytes_arg w' src e hs hu g o n c (cs.map numOfD) (by simp [hl]) (fun i hi => ?_) dst hd, mk_str _⟩
                have hi' : i < cs.length := by rw [hl]; omega
                obtain ⟨u, F, hu', hr⟩ := hcell i cs[i] (List.getElem?_eq_getElem hi')
                have hb := hall' cs[i] (List.getElem_mem hi')
                generalize hq : cs[i] = q at hb hr
                cases q with
                | int k m =>
                  cases k <;> simp [isByte] at hb
                  obtain rfl := repV_int hr
                  simp only [memCv] at hu'
                  rw [hw.cell hu']
                  simp [List.getD, hi', hq, numOfD]
                | _ => simp [isByte] at hb
            · simp at hd'
          · simp at he
        · simp at he
    · simp at he
  · simp at he
end
end Go.Proofs.Ytgnohnlpicmnaaa.Vm
