/- Part of a machine that runs a Go function on plain values, with the proof that what it yields is what the function yields. -/
import Derived.Test.YtpbonfgmiffomaaWmA
import Derived.Orders
import Derived.OrdersHeld
set_option linter.unusedSimpArgs false
set_option linter.unusedVariables false
namespace Go.Proofs.Ytpbonfgmiffomaa.Wm
open Go
def cellL : List D → Bool
  | [] => true
  | d :: ds => isCell (.val d) && cellL ds
def allCell : List (List D) → Bool
  | [] => true
  | e :: es => cellL e && allCell es
def baseOf (H : Heap) (sz : Nat) : V → Option (List (List D) × Bool × Heap)
  | .sl b o n => match look b H with
    | some (.row old sz' els) => if sz' = sz then some ((els.drop o).take n, old, updB b .gone H) else none
    | _ => none
  | .emp _ => some ([], false, H)
  | _ => none
def eva (ρ : Od → V) (H : Heap) (dst : Nat) : I → Option (V × Heap)
  | .app sz by_ s x => match elsOf H (ρ x) with
    | some (sz', ds) => match baseOf H sz (ρ s) with
      | some (cs, old, H1) => if sz' = sz ∧ allCell ds = true ∧ (cs.length + ds.length) * by_ ≤ 140737488355328 ∧ free (bid dst) H1 = true then some (.sl (bid dst) 0 (cs.length + ds.length), (bid dst, .row old sz (cs ++ ds)) :: H1) else none
      | none => none
    | none => none
  | _ => none
def cellO (d : D) : Bool := isCell (.val d) || ownD d
def cellLO : List D → Bool
  | [] => true
  | d :: ds => cellO d && cellLO ds
def allCellO : List (List D) → Bool
  | [] => true
  | e :: es => cellLO e && allCellO es
def evaO (ρ : Od → V) (H : Heap) (dst : Nat) : I → Option (V × Heap)
  | .app sz by_ s x => match baseOf H sz (ρ x) with
    | some (ds, old2, H1) => match baseOf H1 sz (ρ s) with
      | some (cs, old, H2) => if allCellO ds = true ∧ (cs.length + ds.length) * by_ ≤ 140737488355328 ∧ free (bid dst) H2 = true then some (.sl (bid dst) 0 (cs.length + ds.length), (bid dst, .row (old2 || old) sz (cs ++ ds)) :: H2) else none
      | none => none
    | none => none
  | _ => none
section
variable {P : Program} {G : Nat → Option (List D)} {w0 : World} {L X0 X1 : Nat → Prop} {w w' w2 : World} {tm : Array Value} {fr : Fr} {ρ ρ' : Place} {X : K → Nat → Prop} {H : Heap}
theorem els_vals {R : Nat → Nat → D → Value → Prop} {sz : Nat} {els : List (List D)} {g k : Nat} (hz : ∀ el ∈ els, el.length = sz) (h : ∀ (i j : Nat) (el : List D) (d : D), els[i]? = some el → el[j]? = some d → ∃ u, w.cell? ⟨g, k + i * sz + j, none⟩ = some u ∧ R i j d u) :
    ∃ us : List Value, us.length = els.length * sz ∧ (∀ (j : Nat) (u : Value), us[j]? = some u → w.cell? ⟨g, k + j, none⟩ = some u) ∧ ∀ (i j : Nat) (el : List D) (d : D), els[i]? = some el → el[j]? = some d → ∃ u, us[i * sz + j]? = some u ∧ R i j d u := by
  have div : ∀ q, q < els.length * sz → ∃ i j el d, els[i]? = some el ∧ el[j]? = some d ∧ q = i * sz + j ∧ j < sz := fun q hq => by
    have hsz : 0 < sz := by rcases Nat.eq_zero_or_pos sz with h0 | h0; · simp [h0] at hq
                            · exact h0
    have hi : q / sz < els.length := Nat.div_lt_of_lt_mul (by rw [Nat.mul_comm]; exact hq)
    have hj : q % sz < sz := Nat.mod_lt _ hsz
    have he := List.getElem?_eq_getElem hi
    have hl : (els[q / sz]).length = sz := hz _ (List.getElem_mem hi)
    exact ⟨q / sz, q % sz, els[q / sz], (els[q / sz])[q % sz]'(by omega), he, List.getElem?_eq_getElem (by omega), by rw [Nat.mul_comm]; exact (Nat.div_add_mod q sz).symm, hj⟩
  refine ⟨(List.range (els.length * sz)).map fun j => (w.cell? ⟨g, k + j, none⟩).getD undef, by simp, fun q u hu => ?_, fun i j el d h1 h2 => ?_⟩
  · obtain ⟨hq, rfl⟩ := range_map_get hu
    obtain ⟨i, j, el, d, e1, e2, rfl, _⟩ := div q hq
    obtain ⟨u, hu, _⟩ := h i j el d e1 e2
    rw [← Nat.add_assoc, hu]; rfl
  · obtain ⟨u, hu, hr⟩ := h i j el d h1 h2
    have hi : i < els.length := (List.getElem?_eq_some_iff.1 h1).1
    have hj : j < sz := by rw [← hz el (List.mem_of_getElem? h1)]; exact (List.getElem?_eq_some_iff.1 h2).1
    have hlt := idx_lt hi hj
    refine ⟨u, ?_, hr⟩
    simp only [List.getElem?_map]
    rw [List.getElem?_range hlt]
    simp only [Option.map_some, ← Nat.add_assoc, hu, Option.getD_some]
theorem repC_one {d : D} {v : Value} {F : Nat → Prop} (h : RepC w X d v F) (hd : cellO d = true) : v.oneCell' = true := by
  cases h with
  | plain d v F hF h =>
    unfold cellO at hd
    rw [Bool.or_eq_true] at hd
    rcases hd with hd | hd
    · exact (cell_one (H := []) (ρ := ⟨fun _ => none, fun _ _ => False⟩) hd (.val d v h)).2
    · unfold ownD at hd
      split at hd
      · cases h with
        | sh k sz els A c vf hk => exact absurd rfl hk
        | shn k sz hk => exact absurd rfl hk
      · simp at hd
  | own0 => rfl
  | own => rfl
theorem cellLO_spec : ∀ {el : List D}, cellLO el = true → ∀ d ∈ el, cellO d = true
  | [], _, d, hd => by simp at hd
  | e :: es, h, d, hd => by
    simp only [cellLO, Bool.and_eq_true] at h
    rcases List.mem_cons.1 hd with rfl | hd
    · exact h.1
    · exact cellLO_spec h.2 d hd
theorem allCellO_spec : ∀ {els : List (List D)}, allCellO els = true → ∀ el ∈ els, ∀ d ∈ el, cellO d = true
  | [], _, d, hd => by simp at hd
  | e :: es, h, d, hd => by
    simp only [allCellO, Bool.and_eq_true] at h
    rcases List.mem_cons.1 hd with rfl | hd
    · exact cellLO_spec h.1
    · exact allCellO_spec h.2 d hd
theorem cellL_spec : ∀ {el : List D}, cellL el = true → ∀ d ∈ el, isCell (.val d) = true
  | [], _, d, hd => by simp at hd
  | e :: es, h, d, hd => by
    simp only [cellL, Bool.and_eq_true] at h
    rcases List.mem_cons.1 hd with rfl | hd
    · exact h.1
    · exact cellL_spec h.2 d hd
theorem allCell_spec : ∀ {els : List (List D)}, allCell els = true → ∀ el ∈ els, ∀ d ∈ el, isCell (.val d) = true
  | [], _, d, hd => by simp at hd
  | e :: es, h, d, hd => by
    simp only [allCell, Bool.and_eq_true] at h
    rcases List.mem_cons.1 hd with rfl | hd
    · exact cellL_spec h.1
    · exact allCell_spec h.2 d hd
theorem isCell_notOwn {d : D} (h : isCell (.val d) = true) : ownD d = false := by
  cases d <;> first | rfl | skip
  rename_i k sz els
  cases k <;> first | rfl | simp [isCell] at h
theorem vals_ones {sz : Nat} {els : List (List D)} {us : List Value} {φ : Nat → Nat → Nat → Prop} (hz : ∀ el ∈ els, el.length = sz) (hl : us.length = els.length * sz) (hc : ∀ el ∈ els, ∀ d ∈ el, cellO d = true) (h : ∀ (i j : Nat) (el : List D) (d : D), els[i]? = some el → el[j]? = some d → ∃ u, us[i * sz + j]? = some u ∧ RepC w X d u (φ i j)) :
    ∀ u ∈ us, u.oneCell' = true := by
  intro u hu
  obtain ⟨q, hq⟩ := List.getElem?_of_mem hu
  have hlt : q < els.length * sz := by rw [← hl]; exact (List.getElem?_eq_some_iff.1 hq).1
  have hsz : 0 < sz := by rcases Nat.eq_zero_or_pos sz with h0 | h0; · simp [h0] at hlt
                          · exact h0
  have hi : q / sz < els.length := Nat.div_lt_of_lt_mul (by rw [Nat.mul_comm]; exact hlt)
  have hj : q % sz < sz := Nat.mod_lt _ hsz
  have hll : (els[q / sz]).length = sz := hz _ (List.getElem_mem hi)
  obtain ⟨u', h1, h2⟩ := h (q / sz) (q % sz) els[q / sz] ((els[q / sz])[q % sz]'(by omega)) (List.getElem?_eq_getElem hi) (List.getElem?_eq_getElem (by omega))
  have e : q / sz * sz + q % sz = q := by rw [Nat.mul_comm]; exact Nat.div_add_mod q sz
  rw [e, hq] at h1
  obtain rfl := Option.some.inj h1
  exact repC_one h2 (hc _ (List.getElem_mem hi) _ (List.getElem_mem _))
theorem baseOf_sound (h : FR G w0 L X0 w tm fr ρ) {x : V} {v : Value} {sz : Nat} {cs : List (List D)} {old : Bool} {H1 : Heap} (hx : RepE w (XX w0 X0 fr.heap ρ) fr.heap ρ x v) (he : baseOf fr.heap sz x = some (cs, old, H1)) :
    ∃ M, Took G w0 L X0 w tm fr ρ H1 old M ∧ RepC w (XX w0 X0 fr.heap ρ) (.sh .own sz cs) v M := by
  unfold baseOf at he
  split at he
  · rename_i b o n
    split at he
    · rename_i old' sz' els hlk
      split at he
      · rename_i hsz
        subst hsz
        obtain ⟨rfl, rfl, rfl⟩ := by simpa using he
        obtain ⟨a1, a2, a3⟩ := h.kill hlk rfl
        exact ⟨fun g => Blks ρ b g, ⟨a1, a2, a3, fun g hk => ⟨h.out b _ g hlk rfl hk, h.new b _ g hlk rfl hk⟩⟩, h.row_own hx hlk⟩
      · simp at he
    · simp at he
  · rename_i sz'
    obtain ⟨rfl, rfl, rfl⟩ := by simpa using he
    refine ⟨E, Took.none h fun b hb => hb, ?_⟩
    cases hx with
    | emp sz A => exact .own0 _ _ _ fun b hb => hb.elim
  · simp at he
def News (w : World) (X : K → Nat → Prop) (sz : Nat) (ds : List (List D)) (v : Value) (T : Nat → Prop) : Prop :=
  (∀ el ∈ ds, el.length = sz) ∧ ∃ (news : List Value) (ψ : Nat → Nat → Nat → Prop), news.length = ds.length * sz ∧ (∀ u ∈ news, u.oneCell' = true) ∧ RowD ds ψ ∧ (∀ i j x, InR ds i j → ψ i j x → T x) ∧
    (∀ (i j : Nat) (el : List D) (d : D), ds[i]? = some el → el[j]? = some d → ∃ u, news[i * sz + j]? = some u ∧ RepC w X d u (ψ i j)) ∧
    ((v = .slice none 0 0 ∧ ds.length = 0) ∨ ∃ A c, v = .slice (some A) ds.length c ∧ (news = [] ∨ A.spot = none) ∧ ∀ (j : Nat) (u : Value), news[j]? = some u → w.cell? ⟨A.block, A.off + j, none⟩ = some u)
theorem app_core0 {a : Act} {Y : K → Nat → Prop} {dst : Nat} {t ty e : TypeId} {ti : TypeInfo} {z : Value} (hu : P.underlying t = some (.slice e)) (hi : P.info? e = some ti) (hz : ti.zero = some z) (hzs : z.cells.size = ti.size)
    {vs vx : Value} {cs ds : List (List D)} {old : Bool} {H1 : Heap} {M T : Nat → Prop} (b1 : FR G w0 L (fun g => X0 g ∨ M g ∨ T g) w a.tmps { fr with heap := H1 } ρ) (b2 : XX w0 (fun g => X0 g ∨ M g ∨ T g) H1 ρ = Y) (b7 : ∀ b, (M b ∨ T b) → ¬ X0 b ∧ ((old = true ∧ L b) ∨ w0.heap.size ≤ b)) (hMT : ∀ g, M g → ¬ T g) (hcs : RepC w Y (.sh .own ti.size cs) vs M)
    (hn : News w Y ti.size ds vx T) (hTl : ∀ g, T g → g < w.heap.size) (hroom : (cs.length + ds.length) * max 1 ti.bytes ≤ 140737488355328) (hfree : free (bid dst) H1 = true) :
    ∃ u w' p S, (Builtin.append_ #[t, t] ty #[vs, vx]).run P w = .ok u w' ∧ FR G w0 L X0 w' a.tmps { fr with heap := (bid dst, .row old ti.size (cs ++ ds)) :: H1 } (setP (bid dst) p S ρ) ∧
      RepE w' (XX w0 X0 ((bid dst, .row old ti.size (cs ++ ds)) :: H1) (setP (bid dst) p S ρ)) ((bid dst, .row old ti.size (cs ++ ds)) :: H1) (setP (bid dst) p S ρ) (.sl (bid dst) 0 (cs.length + ds.length)) u ∧
      Stay w w' Y (XX w0 X0 ((bid dst, .row old ti.size (cs ++ ds)) :: H1) (setP (bid dst) p S ρ)) ∧ (∀ x, x < w.heap.size → ¬ M x → w'.heap[x]? = w.heap[x]?) ∧ w.heap.size ≤ w'.heap.size := by
  obtain ⟨hdz, news, ψ, n1, n2, nd, ns, n3, n4⟩ := hn
  have hb : ∃ (olds : List Value) (φ : Nat → Nat → Nat → Prop), olds.length = cs.length * ti.size ∧ (∀ el ∈ cs, el.length = ti.size) ∧ RowD cs φ ∧ (∀ i j x, InR cs i j → φ i j x → M x) ∧
      (∀ (i j : Nat) (el : List D) (d : D), cs[i]? = some el → el[j]? = some d → ∃ u, olds[i * ti.size + j]? = some u ∧ RepC w Y d u (φ i j)) ∧
      ((∃ A, vs = .slice A 0 0 ∧ cs.length = 0) ∨ ∃ g o cap, vs = .slice (some ⟨g, o, none⟩) cs.length cap ∧ cs.length ≤ cap ∧ OwnBlk w g (o + cap * ti.size) ∧ M g ∧ (∀ i j x, InR cs i j → φ i j x → x ≠ g) ∧ ∀ (j : Nat) (u : Value), olds[j]? = some u → w.cell? ⟨g, o + j, none⟩ = some u) := by
    cases hcs with
    | plain d v F hF h =>
      cases h with
      | sh k sz els A c vf hk => exact absurd rfl hk
      | shn k sz hk => exact absurd rfl hk
    | own0 sz a F hF => exact ⟨[], fun _ _ _ => False, by simp, by simp, fun _ _ _ _ _ _ _ q => q.elim, fun _ _ _ _ q => q.elim, fun i j el d q => by simp at q, .inl ⟨_, rfl, rfl⟩⟩
    | own sz els g k c φ F hF hg hs hd hc ho hz' vf hm hh =>
      obtain ⟨us, u1, u2, u3⟩ := els_vals (w := w) (R := fun i j d u => RepC w Y d u (φ i j)) (g := g) (k := k) hz' (fun i j el d q1 q2 => ⟨_, hm i j el d q1 q2, hh i j el d q1 q2⟩)
      exact ⟨us, φ, u1, hz', hd, fun i j x q1 q2 => (hs i j x q1 q2).1, u3, .inr ⟨g, k, c, rfl, hc, ho, hg, fun i j x q1 q2 => (hs i j x q1 q2).2, u2⟩⟩
  obtain ⟨olds, φ, b4, b5, bd, bs, b6, b8⟩ := hb
  have hrow : ∀ el ∈ cs ++ ds, el.length = ti.size := fun el hel => by
    rcases List.mem_append.1 hel with hh | hh
    · exact b5 el hh
    · exact hdz el hh
  rcases append_law (w := w) t ty e ti z hu hi hz hzs (vs := vs) (vx := vx) (n := cs.length) (m := ds.length) (olds := olds) (news := news) b4 n1
    (b8.imp id fun ⟨g, o, cap, e1, e2, e3, _, _, e5⟩ => ⟨g, o, cap, e1, e2, e3, e5⟩) n4 n2 hroom with ⟨hn0, hm0, A, hrun⟩ | ⟨w', g', o', cap', hrun, c1, c2, c3, c4⟩
  · -- nothing to nothing
    have hc0 : cs = [] := List.eq_nil_of_length_eq_zero hn0
    have hd0 : ds = [] := List.eq_nil_of_length_eq_zero hm0
    subst hc0 hd0
    obtain ⟨d1, d2, d3⟩ := b1.add (X1 := X0) (p := none) (S := noB) (free_spec hfree) (B := .row old ti.size []) (fun g hg => .inl hg) (fun g e => by rcases e with ⟨k, e⟩ | e <;> first | (simp at e; done) | exact e.elim) (rowC_ofS (by simp) (.inl rfl) (fun x hx => hx.elim) fun g k e => by simp at e)
    exact ⟨_, w, _, _, hrun, d1, .sl _ _ _ _ (.row old ti.size []) (by simp [look]) ⟨by simp, A, 0, by simp, by simp, .inl rfl⟩, b2 ▸ d2, fun _ _ _ => rfl, Nat.le_refl _⟩
  · have hchg : ∃ M' : Nat → Prop, Chg w w' M' ∧ (∀ b, M' b → M b) ∧ (∀ i j x, InR cs i j → φ i j x → ¬ M' x) ∧ (∀ x, T x → ¬ M' x) ∧ (M g' ∨ (w.heap.size ≤ g' ∧ g' < w'.heap.size)) ∧ (∀ i j x, InR cs i j → φ i j x → x ≠ g') := by
      rcases c4 with ⟨o, cap, hv, hpos, hch⟩ | ⟨rfl, q2, hch⟩
      · rcases b8 with ⟨A, hv', _⟩ | ⟨g, o2, cap2, hv', _, _, hMg, hne, _⟩
        · rw [hv] at hv'
          have h0 : cap = 0 := by
            have := hv'
            simp at this
            exact this.2.2
          omega
        · rw [hv] at hv'
          have : g' = g := by simp at hv'; exact hv'.1.1
          subst this
          exact ⟨_, hch, fun b hb => by subst hb; exact hMg, fun i j x q1 q2 q3 => hne i j x q1 q2 q3, fun x hx e => by subst e; exact hMT _ hMg hx, .inl hMg, hne⟩
      · refine ⟨E, hch, fun b hb => hb.elim, fun i j x _ _ q => q.elim, fun x _ q => q.elim, .inr ⟨Nat.le_refl _, q2⟩, fun i j x q1 q2 e => ?_⟩
        obtain ⟨el, d, e1, e2⟩ := q1
        obtain ⟨u, _, hr⟩ := b6 i j el d e1 e2
        have := hr.old x q2
        omega
    obtain ⟨M', hch, hM', hφ', hT', hg', hφg⟩ := hchg
    obtain ⟨d1, d2, d3⟩ := b1.turn hch (fun b hb => .inr (.inl (hM' b hb))) (fun b hb => ((b7 b (.inl (hM' b hb))).2.imp (·.2) id))
    rw [b2] at d2
    have hTg : ∀ x, T x → x ≠ g' := fun x hx e => by
      subst e
      rcases hg' with q | q
      · exact hMT _ q hx
      · have := hTl _ hx; omega
    have hMl : ∀ x, M x → x < w.heap.size := hcs.old
    have hgo : ∀ x, (x = g' ∨ M x ∨ T x) → ¬ X0 x ∧ ((old = true ∧ L x) ∨ w0.heap.size ≤ x) := fun x hx => by
      rcases hx with rfl | hx
      · rcases hg' with hg' | ⟨hg', _⟩
        · exact b7 _ (.inl hg')
        · exact ⟨fun hx => by have := b1.x0 _ (.inl hx); omega, .inr (Nat.le_trans b1.chg.size hg')⟩
      · exact b7 x hx
    have hgx : ∀ x, (x = g' ∨ M x ∨ T x) → (X0 x ∨ M x ∨ T x) ∨ (w.heap.size ≤ x ∧ x < w'.heap.size) := fun x hx => by
      rcases hx with rfl | hx
      · rcases hg' with hg' | hg'
        · exact .inl (.inr (.inl hg'))
        · exact .inr hg'
      · exact .inl (.inr hx)
    have inL : ∀ i j, InR (cs ++ ds) i j → i < cs.length → InR cs i j := by
      rintro i j ⟨el, d, e1, e2⟩ hlt
      rw [List.getElem?_append_left hlt] at e1; exact ⟨el, d, e1, e2⟩
    have inRt : ∀ i j, InR (cs ++ ds) i j → ¬ i < cs.length → InR ds (i - cs.length) j := by
      rintro i j ⟨el, d, e1, e2⟩ hlt
      rw [List.getElem?_append_right (by omega)] at e1; exact ⟨el, d, e1, e2⟩
    have hrep : ∀ (X' : K → Nat → Prop) (H' : Heap) (ρ' : Place), Stay w' w' (XX w0 (fun b => (X0 b ∨ M b ∨ T b) ∨ (w.heap.size ≤ b ∧ b < w'.heap.size)) H1 ρ) X' → RepB w' X' H' ρ' (some (g', o')) (fun x => (M x ∨ T x) ∧ x ≠ g') (.row old ti.size (cs ++ ds)) := by
      intro X' H' ρ' st'
      have st : Stay w w' (Y) X' := d2.trans st' hch.size
      refine ⟨fun i j => if i < cs.length then φ i j else ψ (i - cs.length) j, hrow, .inr (by simp), fun x hx => ?_, fun i j i' j' x q q' p p' => ?_, fun i j x q p => ?_, fun g k e => ?_⟩
      · exact Nat.lt_of_lt_of_le (hx.1.elim (hMl x) (hTl x)) hch.size
      · by_cases hi : i < cs.length <;> by_cases hi' : i' < cs.length
        · simp only [if_pos hi] at p; simp only [if_pos hi'] at p'
          exact bd _ _ _ _ x (inL _ _ q hi) (inL _ _ q' hi') p p'
        · simp only [if_pos hi] at p; simp only [if_neg hi'] at p'
          exact absurd (ns _ _ x (inRt _ _ q' hi') p') (hMT x (bs _ _ x (inL _ _ q hi) p))
        · simp only [if_neg hi] at p; simp only [if_pos hi'] at p'
          exact absurd (ns _ _ x (inRt _ _ q hi) p) (hMT x (bs _ _ x (inL _ _ q' hi') p'))
        · simp only [if_neg hi] at p; simp only [if_neg hi'] at p'
          have := nd _ _ _ _ x (inRt _ _ q hi) (inRt _ _ q' hi') p p'
          omega
      · by_cases hi : i < cs.length
        · simp only [if_pos hi] at p
          exact ⟨.inl (bs _ _ x (inL _ _ q hi) p), hφg _ _ x (inL _ _ q hi) p⟩
        · simp only [if_neg hi] at p
          exact ⟨.inr (ns _ _ x (inRt _ _ q hi) p), hTg x (ns _ _ x (inRt _ _ q hi) p)⟩
      · obtain ⟨rfl, rfl⟩ : g' = g ∧ o' = k := by simpa using e
        refine ⟨fun hx => hx.2 rfl, c2.le ?_, fun i j el d h1 h2 => ?_⟩
        · have : (cs ++ ds).length * ti.size ≤ cap' * ti.size := Nat.mul_le_mul_right _ (by simpa using c1)
          omega
        · have hj : j < ti.size := by rw [← hrow el (List.mem_of_getElem? h1)]; exact (List.getElem?_eq_some_iff.1 h2).1
          rcases Nat.lt_or_ge i cs.length with hi' | hi'
          · have hin := inL i j ⟨el, d, h1, h2⟩ hi'
            rw [List.getElem?_append_left hi'] at h1
            obtain ⟨u, q1, q2⟩ := b6 i j el d h1 h2
            simp only [if_pos hi']
            refine ⟨u, ?_, q2.stay st fun x hx => hch.keep x (hMl x (bs i j x hin hx)) (hφ' i j x hin hx)⟩
            rw [Nat.add_assoc]
            exact c3 _ u (by rw [List.getElem?_append_left (by rw [b4]; exact idx_lt hi' hj)]; exact q1)
          · have hin := inRt i j ⟨el, d, h1, h2⟩ (by omega)
            rw [List.getElem?_append_right hi'] at h1
            obtain ⟨u, q1, q2⟩ := n3 _ j el d h1 h2
            simp only [if_neg (show ¬ i < cs.length by omega)]
            refine ⟨u, ?_, q2.stay st fun x hx => hch.keep x (hTl x (ns _ j x hin hx)) (hT' x (ns _ j x hin hx))⟩
            rw [Nat.add_assoc]
            refine c3 _ u ?_
            have e1 : i * ti.size + j = cs.length * ti.size + ((i - cs.length) * ti.size + j) := by
              rw [← Nat.add_assoc, ← Nat.add_mul]; congr 2; omega
            rw [e1, List.getElem?_append_right (by rw [b4]; omega), b4, Nat.add_sub_cancel_left]
            exact q1
    have hpp : ∀ x, ((∃ k, some (g', o') = some (x, k)) ∨ (M x ∨ T x) ∧ x ≠ g') → x = g' ∨ M x ∨ T x := by
      rintro x (⟨k, e⟩ | hx)
      · left; simp at e; exact e.1.symm
      · exact .inr hx.1
    obtain ⟨f1, f2, f3⟩ := d1.add (X1 := X0) (p := some (g', o')) (S := fun x => (M x ∨ T x) ∧ x ≠ g') (free_spec hfree) (B := .row old ti.size (cs ++ ds)) (fun g hg => .inl (.inl hg)) (fun x hx => ⟨hgx x (hpp x hx), hgo x (hpp x hx)⟩)
      (hrep _ _ _ ⟨fun _ _ _ _ => rfl, by
        rintro q b _ (hx | hx | ⟨b', B', h1, h2, h3⟩)
        · exact .inl (.inl (.inl hx))
        · exact .inr (.inl hx)
        · simp only [look] at h1
          split at h1
          · rename_i hs
            subst hs
            rw [setP_blks] at h3
            exact .inl (hgx b (hpp b h3))
          · rename_i hs
            rw [setP_blks_ne (fun e => hs e.symm)] at h3
            exact .inr (.inr ⟨b', B', h1, h2, h3⟩)⟩)
    exact ⟨_, w', _, _, hrun, f1, .sl _ _ _ _ (.row old ti.size (cs ++ ds)) (by simp [look]) ⟨by simp, _, cap', rfl, c1, .inr ⟨g', o', setP_self _ _ _ _, by simp, by simpa using c2⟩⟩, d2.trans f2 hch.size, fun x hx hm => hch.keep x hx fun q => hm (hM' x q), hch.size⟩
theorem app_core {a : Act} (h : FR G w0 L X0 w a.tmps fr ρ) {dst : Nat} {t ty e : TypeId} {ti : TypeInfo} {z : Value} (hu : P.underlying t = some (.slice e)) (hi : P.info? e = some ti) (hz : ti.zero = some z) (hzs : z.cells.size = ti.size)
    {vs vx : Value} {cs ds : List (List D)} {old : Bool} {H1 : Heap} {M T : Nat → Prop} (hT : Took G w0 L X0 w a.tmps fr ρ H1 old (fun g => M g ∨ T g)) (hMT : ∀ g, M g → ¬ T g) (hcs : RepC w (XX w0 X0 fr.heap ρ) (.sh .own ti.size cs) vs M)
    (hn : News w (XX w0 X0 fr.heap ρ) ti.size ds vx T) (hTl : ∀ g, T g → g < w.heap.size) (hroom : (cs.length + ds.length) * max 1 ti.bytes ≤ 140737488355328) (hfree : free (bid dst) H1 = true) :
    ∃ u w' ρ', (Builtin.append_ #[t, t] ty #[vs, vx]).run P w = .ok u w' ∧ FR G w0 L X0 w' a.tmps { fr with heap := (bid dst, .row old ti.size (cs ++ ds)) :: H1 } ρ' ∧
      RepE w' (XX w0 X0 ((bid dst, .row old ti.size (cs ++ ds)) :: H1) ρ') ((bid dst, .row old ti.size (cs ++ ds)) :: H1) ρ' (.sl (bid dst) 0 (cs.length + ds.length)) u ∧ (∀ s, s ≠ bid dst → ρ' s = ρ s) := by
  obtain ⟨b1, b2, b3, b7⟩ := hT
  obtain ⟨u, w', p, S, r1, r2, r3, _⟩ := app_core0 (dst := dst) (t := t) (ty := ty) hu hi hz hzs b1 b2 b7 hMT hcs hn hTl hroom hfree
  exact ⟨u, w', _, r1, r2, r3, fun s hs => setP_ne hs _ _ _⟩
theorem app_conv {o : Oper} {sz by_ : Nat} {s x : Od} (hc : conv1 P o = some (.app sz by_ s x)) : ∃ t e ti z s0 x0, o.op = .call ⟨.builtin .append, #[s0, x0], #[t, t]⟩ ∧ P.underlying t = some (.slice e) ∧ P.info? e = some ti ∧ ti.zero = some z ∧ z.cells.size = ti.size ∧ ti.size ≠ 0 ∧ sz = ti.size ∧ by_ = max 1 ti.bytes ∧ od P t s0 = some s ∧ od P t x0 = some x := by
  obtain ⟨args, ts, hop⟩ := kind_of hc
  obtain ⟨odst, op, otype, pos, after, guard⟩ := o
  simp only at hop
  subst hop
  simp only [conv1] at hc
  unfold convApp at hc
  split at hc
  · rename_i t t' s0 x0 hts hargs
    split at hc
    · rename_i htt
      subst htt
      split at hc
      · rename_i e hu
        split at hc
        · rename_i ti s' x' hi h1 h2
          split at hc
          · rename_i z hz
            split at hc
            · rename_i hcond
              obtain ⟨hzs, hs0⟩ := hcond
              obtain ⟨rfl, rfl, rfl, rfl⟩ := by simpa using hc
              have hargs' : args = #[s0, x0] := by simpa using congrArg List.toArray hargs
              have hts' : ts = #[t, t] := by simpa using congrArg List.toArray hts
              subst hargs' hts'
              exact ⟨t, e, ti, z, s0, x0, rfl, hu, hi, hz, hzs, hs0, rfl, rfl, h1, h2⟩
            · simp at hc
          · simp at hc
        · simp at hc
      · simp at hc
    · simp at hc
  · simp at hc
theorem app_exec {a : Act} {o : Oper} {s0 x0 : Operand} {t : TypeId} (hop : o.op = .call ⟨.builtin .append, #[s0, x0], #[t, t]⟩) {w' : World} {u : Value} (hr : (Builtin.append_ #[t, t] o.type #[a.eval s0, a.eval x0]).run P w = .ok u w') : (execOp a.eval o).run P w = .ok (.value u) w' := by
  obtain ⟨odst, op, otype, pos, after, guard⟩ := o
  simp only at hop
  subst hop
  simp only at hr
  simp [execOp, resolve, invoke, builtin, hr]
theorem eva_sound {a : Act} (h : FR G w0 L X0 w a.tmps fr ρ) {o : Oper} {i : I} {dst : Nat} {y : V} {H' : Heap} (hc : conv1 P o = some i) (he : eva (oval G fr.env) fr.heap dst i = some (y, H')) :
    ∃ u w' ρ', (execOp a.eval o).run P w = .ok (.value u) w' ∧ FR G w0 L X0 w' a.tmps { fr with heap := H' } ρ' ∧ RepE w' (XX w0 X0 H' ρ') H' ρ' y u ∧ (∀ s, s ≠ bid dst → ρ' s = ρ s) := by
  cases i <;> simp only [eva] at he <;> try (simp at he; done)
  rename_i sz by_ s x
  obtain ⟨t, e, ti, z, s0, x0, hop, hu, hi, hz, hzs, hs0, rfl, rfl, h1, h2⟩ := app_conv hc
  have hs := od_sound h h1
  have hx := od_sound h h2
  split at he
  · rename_i sz' ds hels
    split at he
    · rename_i cs old H1 hbase
      split at he
      · rename_i hcc
        obtain ⟨rfl, hall, hroom, hfree⟩ := hcc
        obtain ⟨rfl, rfl⟩ := by simpa using he
        obtain ⟨A, c, hxv, hc1, hdz, hdcell⟩ := elsOf_sound h hx hels
        have hdS : ∀ (i j : Nat) (el : List D) (d : D), ds[i]? = some el → el[j]? = some d → ∃ g k u, A = some ⟨g, k, none⟩ ∧ w.cell? ⟨g, k + i * ti.size + j, none⟩ = some u ∧ RepS w (XX w0 X0 fr.heap ρ) d u := fun i j el d q1 q2 => by
          obtain ⟨g, k, u, F, e1, e2, e3⟩ := hdcell i j el d q1 q2
          exact ⟨g, k, u, e1, e2, e3.toS (isCell_notOwn (allCell_spec hall el (List.mem_of_getElem? q1) d (List.mem_of_getElem? q2)))⟩
        have hnews : News w (XX w0 X0 fr.heap ρ) ti.size ds (a.eval x0) E := by
          refine ⟨hdz, ?_⟩
          rcases Nat.eq_zero_or_pos ds.length with h0 | hpos
          · have hd0 : ds = [] := List.eq_nil_of_length_eq_zero h0
            subst hd0
            refine ⟨[], fun _ _ _ => False, by simp, by simp, fun _ _ _ _ _ _ _ q => q.elim, fun _ _ _ _ q => q.elim, fun i j el d q => by simp at q, ?_⟩
            cases A with
            | none =>
              left
              refine ⟨?_, rfl⟩
              have : c = 0 := by
                rw [hxv] at hx
                clear hxv
                generalize oval G fr.env x = qq at hx hels
                cases hx with
                | val d v hx =>
                  cases hx with
                  | shn => rfl
                  | _ => simp [elsOf] at hels
                | emp => rfl
                | sl b o n v B hb hsl =>
                  cases B with
                  | row ol sz els =>
                    obtain ⟨_, A', c', e, _, q⟩ := hsl
                    obtain ⟨rfl, _, rfl⟩ : none = A' ∧ _ ∧ c = c' := by simpa using e
                    rcases q with q | ⟨g, k, _, q, _⟩
                    · exact q
                    · simp at q
                  | _ => simp [elsOf, hb] at hels
                | _ => simp [elsOf] at hels
              rw [hxv, this]; rfl
            | some A => exact .inr ⟨A, c, hxv, .inl rfl, fun j u q => by simp at q⟩
          · obtain ⟨el0, hel0⟩ : ∃ el0, ds[0]? = some el0 := ⟨ds[0], List.getElem?_eq_getElem hpos⟩
            have hl0 : 0 < el0.length := by rw [hdz el0 (List.mem_of_getElem? hel0)]; omega
            obtain ⟨g, k, u0, rfl, _, _⟩ := hdS 0 0 el0 el0[0] hel0 (List.getElem?_eq_getElem hl0)
            obtain ⟨us, u1, u2, u3⟩ := els_vals (w := w) (R := fun i j d u => RepC w (XX w0 X0 fr.heap ρ) d u fun _ => False) (g := g) (k := k) hdz (fun i j el d q1 q2 => by
              obtain ⟨g', k', u, e, q3, q4⟩ := hdS i j el d q1 q2
              obtain ⟨rfl, rfl⟩ : g = g' ∧ k = k' := by simpa using e
              exact ⟨u, q3, .ofS q4⟩)
            exact ⟨us, fun _ _ _ => False, u1, vals_ones (φ := fun _ _ _ => False) hdz u1 (fun el hel d hd => by unfold cellO; rw [allCell_spec hall el hel d hd]; rfl) u3, fun _ _ _ _ _ _ _ q => q.elim, fun _ _ _ _ q => q.elim, u3, .inr ⟨⟨g, k, none⟩, c, hxv, .inr rfl, u2⟩⟩
        obtain ⟨M, m1, m2⟩ := baseOf_sound h hs hbase
        have eM : M = fun g => M g ∨ E g := by funext g; simp [E]
        have m1' : Took G w0 L X0 w a.tmps fr ρ H1 old (fun g => M g ∨ E g) := by rw [← eM]; exact m1
        obtain ⟨u, w', ρ', r1, r2, r3, r4⟩ := app_core (dst := dst) (ty := o.type) h hu hi hz hzs m1' (fun g _ q => q) m2 hnews (fun g q => q.elim) hroom hfree
        exact ⟨u, w', ρ', app_exec hop r1, r2, r3, r4⟩
      · simp at he
    · simp at he
  · simp at he
theorem evaO_sound {a : Act} (h : FR G w0 L X0 w a.tmps fr ρ) {o : Oper} {i : I} {dst : Nat} {y : V} {H' : Heap} (hc : conv1 P o = some i) (he : evaO (oval G fr.env) fr.heap dst i = some (y, H')) :
    ∃ u w' ρ', (execOp a.eval o).run P w = .ok (.value u) w' ∧ FR G w0 L X0 w' a.tmps { fr with heap := H' } ρ' ∧ RepE w' (XX w0 X0 H' ρ') H' ρ' y u ∧ (∀ s, s ≠ bid dst → ρ' s = ρ s) := by
  cases i <;> simp only [evaO] at he <;> try (simp at he; done)
  rename_i sz by_ s x
  obtain ⟨t, e, ti, z, s0, x0, hop, hu, hi, hz, hzs, hs0, rfl, rfl, h1, h2⟩ := app_conv hc
  have hs := od_sound h h1
  have hx := od_sound h h2
  split at he
  · rename_i ds old2 H1 hy
    split at he
    · rename_i cs old H2 hbase
      split at he
      · rename_i hcc
        obtain ⟨hall, hroom, hfree⟩ := hcc
        obtain ⟨rfl, rfl⟩ := by simpa using he
        obtain ⟨T, t1, t2⟩ := baseOf_sound h hx hy
        have st : Stay w w (XX w0 X0 fr.heap ρ) (XX w0 (fun g => X0 g ∨ T g) H1 ρ) := by rw [t1.2.1]; exact Stay.refl _ _
        obtain ⟨M, m1, m2⟩ := baseOf_sound (fr := { fr with heap := H1 }) t1.1 (hs.tr st t1.2.2.1) hbase
        obtain ⟨c1, c2⟩ := t1.trans m1
        rw [t1.2.1] at m2
        have c1' : Took G w0 L X0 w a.tmps fr ρ H2 (old2 || old) (fun g => M g ∨ T g) := by
          have : (fun g => M g ∨ T g) = fun b => T b ∨ M b := by funext g; rw [or_comm]
          rw [this]; exact c1
        have hnews : News w (XX w0 X0 fr.heap ρ) ti.size ds (a.eval x0) T := by
          clear hx
          generalize a.eval x0 = qq at t2
          cases t2 with
          | plain d v F hF h =>
            cases h with
            | sh k sz els A c vf hk => exact absurd rfl hk
            | shn k sz hk => exact absurd rfl hk
          | own0 sz A F hF =>
            refine ⟨by simp, [], fun _ _ _ => False, by simp, by simp, fun _ _ _ _ _ _ _ q => q.elim, fun _ _ _ _ q => q.elim, fun i j el d q => by simp at q, ?_⟩
            cases A with
            | none => exact .inl ⟨rfl, rfl⟩
            | some A => exact .inr ⟨A, 0, rfl, .inl rfl, fun j u q => by simp at q⟩
          | own sz els g k c φ F hF hg hs' hd hc ho hz' vf hm hh =>
            obtain ⟨us, u1, u2, u3⟩ := els_vals (w := w) (R := fun i j d u => RepC w (XX w0 X0 fr.heap ρ) d u (φ i j)) (g := g) (k := k) hz' (fun i j el d q1 q2 => ⟨_, hm i j el d q1 q2, hh i j el d q1 q2⟩)
            exact ⟨hz', us, φ, u1, vals_ones hz' u1 (allCellO_spec hall) u3, hd, fun i j x q1 q2 => (hs' i j x q1 q2).1, u3, .inr ⟨⟨g, k, none⟩, c, rfl, .inr rfl, u2⟩⟩
        obtain ⟨u, w', ρ', r1, r2, r3, r4⟩ := app_core (dst := dst) (ty := o.type) h hu hi hz hzs c1' (fun g q q' => c2 g q' q) m2 hnews t2.old hroom hfree
        exact ⟨u, w', ρ', app_exec hop r1, r2, r3, r4⟩
      · simp at he
    · simp at he
  · simp at he
end
end Go.Proofs.Ytpbonfgmiffomaa.Wm

set_option linter.unusedSimpArgs false
set_option linter.unusedVariables false
namespace Go.Proofs.Ytpbonfgmiffomaa.Wm
open Go
def instC (fl : Bool) (id : Nat) (H : Heap) : D → Option (V × Heap × Nat)
  | .ow sz els => if free id H = true then some (.sl id 0 els.length, (id, .row fl sz els) :: H, id + 1) else none
  | .emp sz => some (.emp sz, H, id)
  | .op _ _ => none
  | .agg _ => none
  | .tup _ => none
  | d => some (.val d, H, id)
def instL (fl : Bool) (id : Nat) (H : Heap) : List D → Option (List V × Heap × Nat)
  | [] => some ([], H, id)
  | d :: ds => match instC fl id H d with
    | some (x, H1, n1) => match instL fl n1 H1 ds with
      | some (xs, H2, n2) => some (x :: xs, H2, n2)
      | none => none
    | none => none
def subId (id : Nat) : Nat := if 1000000000 ≤ id then id - 499999999 else id + 1
def inst1 (fl : Bool) (id : Nat) (H : Heap) : D → Option (V × Heap × Nat)
  | .op o cs => match instL fl (subId id) H cs with
    | some (vs, H1, n) => if free id H1 = true then some (.pt id o, (id, .var fl vs) :: H1, n) else none
    | none => none
  | .agg cs => match instL fl id H cs with
    | some (vs, H1, n) => some (.agg vs, H1, n)
    | none => none
  | d => instC fl id H d
def instT (fl : Bool) (id : Nat) (H : Heap) : List D → Option (List V × Heap × Nat)
  | [] => some ([], H, id)
  | d :: ds => match inst1 fl id H d with
    | some (x, H1, n1) => match instT fl n1 H1 ds with
      | some (xs, H2, n2) => some (x :: xs, H2, n2)
      | none => none
    | none => none
def inst (fl : Bool) (id : Nat) (H : Heap) : D → Option (V × Heap × Nat)
  | .tup ds => match instT fl id H ds with
    | some (vs, H1, n) => some (.tup vs, H1, n)
    | none => none
  | d => inst1 fl id H d
section
variable {P : Program} {G : Nat → Option (List D)} {w0 : World} {L X0 X1 : Nat → Prop} {w w' w2 : World} {tm : Array Value} {fr : Fr} {ρ ρ' : Place} {X : K → Nat → Prop} {H : Heap}
def Puts (G : Nat → Option (List D)) (w0 : World) (L X0 : Nat → Prop) (w : World) (tm : Array Value) (fr : Fr) (ρ : Place) (F : Nat → Prop) (H' : Heap) (ρ' : Place) : Prop :=
  FR G w0 L X0 w tm { fr with heap := H' } ρ' ∧ Stay w w (XX w0 (fun b => X0 b ∨ F b) fr.heap ρ) (XX w0 X0 H' ρ') ∧ HTr w w fr.heap H' ρ ρ' ∧ ∀ s, look s fr.heap ≠ none → look s H' ≠ none ∧ ρ' s = ρ s
theorem Puts.nil {F : Nat → Prop} (h : FR G w0 L (fun b => X0 b ∨ F b) w tm fr ρ) : Puts G w0 L X0 w tm fr ρ F fr.heap ρ := by
  obtain ⟨a1, a2⟩ := h.less (X1 := X0) (fun b hb => .inl hb)
  exact ⟨a1, a2, HTr.same fun _ _ h => h, fun s hs => ⟨hs, rfl⟩⟩
theorem Puts.trans {F1 F2 : Nat → Prop} {H1 H2 : Heap} {ρ1 ρ2 : Place} (h : Puts G w0 L (fun b => X0 b ∨ F2 b) w tm fr ρ F1 H1 ρ1) (k : Puts G w0 L X0 w tm { fr with heap := H1 } ρ1 F2 H2 ρ2) :
    Puts G w0 L X0 w tm fr ρ (fun b => F1 b ∨ F2 b) H2 ρ2 := by
  obtain ⟨a1, a2, a3, a4⟩ := h
  obtain ⟨b1, b2, b3, b4⟩ := k
  refine ⟨b1, ?_, a3.trans b3, fun s hs => ?_⟩
  · refine ⟨fun _ _ _ _ => rfl, fun q b hb hx => ?_⟩
    rcases a2.off q b hb (b2.off q b hb hx) with hx | hx
    · left
      rcases hx with (hx | hx) | hx
      · exact .inl hx
      · exact .inr (.inr hx)
      · exact .inr (.inl hx)
    · exact .inr hx
  · obtain ⟨q1, q2⟩ := a4 s hs
    obtain ⟨r1, r2⟩ := b4 s q1
    exact ⟨r1, r2.trans q2⟩
theorem Puts.add {F : Nat → Prop} (h : FR G w0 L (fun b => X0 b ∨ F b) w tm fr ρ) {id : Nat} {B : Blk} {p : Option (Nat × Nat)} {S : Nat → Prop} (hid : look id fr.heap = none) (hF : ∀ b, F b → ¬ X0 b ∧ ((B.old = true ∧ L b) ∨ w0.heap.size ≤ b)) (hp : ∀ g, ((∃ k, p = some (g, k)) ∨ S g) → F g)
    (hB : ∀ X' H' ρ', Stay w w (XX w0 (fun b => X0 b ∨ F b) fr.heap ρ) X' → HTr w w fr.heap H' ρ ρ' → RepB w X' H' ρ' p S B) :
    Puts G w0 L X0 w tm fr ρ F ((id, B) :: fr.heap) (setP id p S ρ) := by
  have sub : ∀ k g, XX w0 X0 ((id, B) :: fr.heap) (setP id p S ρ) k g → XX w0 (fun b => X0 b ∨ F b) fr.heap ρ k g := by
    rintro k g (hx | hx | ⟨b', B', h1, h2, h3⟩)
    · exact .inl (.inl hx)
    · exact .inr (.inl hx)
    · simp only [look] at h1
      split at h1
      · rename_i hs
        subst hs
        rw [setP_blks] at h3
        exact .inl (.inr (hp g h3))
      · rename_i hs
        rw [setP_blks_ne (fun e => hs e.symm)] at h3
        exact .inr (.inr ⟨b', B', h1, h2, h3⟩)
  have st : Stay w w (XX w0 (fun b => X0 b ∨ F b) fr.heap ρ) (XX w0 X0 ((id, B) :: fr.heap) (setP id p S ρ)) := ⟨fun _ _ _ _ => rfl, fun k g _ hx => sub k g hx⟩
  have t : HTr w w fr.heap ((id, B) :: fr.heap) ρ (setP id p S ρ) := ⟨fun _ _ h => h, fun b' B' h1 => ⟨B', by
    have hne : id ≠ b' := fun e => by subst e; rw [hid] at h1; simp at h1
    simp only [look]; rw [if_neg hne]; exact h1, .inr ⟨setP_ne (fun e => by subst e; rw [hid] at h1; simp at h1) p S ρ, rfl⟩⟩⟩
  obtain ⟨b1, b2, b3⟩ := h.add (X1 := X0) (b := id) (B := B) (p := p) (S := S) hid (fun b hb => .inl hb) (fun g e => ⟨.inr (hp g e), hF g (hp g e)⟩) (hB _ _ _ st t)
  refine ⟨b1, st, t, fun s hs => ?_⟩
  have hne : s ≠ id := fun e => by subst e; exact hs hid
  exact ⟨by simp only [look]; rw [if_neg (Ne.symm hne)]; exact hs, setP_ne hne _ _ _⟩
theorem row_ofC {sz : Nat} {els : List (List D)} {v : Value} {F : Nat → Prop} {Z : K → Nat → Prop} {fl : Bool} (hr : RepC w Z (.sh .own sz els) v F) :
    ∃ (p : Option (Nat × Nat)) (S : Nat → Prop), (∀ g, ((∃ k, p = some (g, k)) ∨ S g) → F g) ∧ (∀ X' H' ρ', Stay w w Z X' → RepB w X' H' ρ' p S (.row fl sz els)) ∧ SlOk w p (Blk.row fl sz els).sh 0 els.length v := by
  cases hr with
  | plain d v F hF h =>
    cases h with
    | sh k sz els A c vf hk => exact absurd rfl hk
    | shn k sz hk => exact absurd rfl hk
  | own0 sz a F hF =>
    refine ⟨none, noB, fun g e => by rcases e with ⟨k, e⟩ | e <;> first | (simp at e; done) | exact e.elim, fun X' H' ρ' _ => rowC_ofS (by simp) (.inl rfl) (fun x hx => hx.elim) fun g k e => by simp at e, ⟨by simp, _, 0, rfl, by simp, .inl rfl⟩⟩
  | own sz els g k c φ F hF hg hs hd hc ho hz vf hm hh =>
    refine ⟨some (g, k), fun x => F x ∧ x ≠ g, fun g' e => ?_, fun X' H' ρ' st => ?_, ⟨by omega, _, c, rfl, hc, .inr ⟨g, k, rfl, by simp, by simpa using ho⟩⟩⟩
    · rcases e with ⟨k', e⟩ | e
      · obtain ⟨rfl, rfl⟩ : g = g' ∧ k = k' := by simpa using e
        exact hg
      · exact e.1
    · refine ⟨φ, hz, .inr (by simp), fun x hx => hF x hx.1, hd, fun i j x q p => hs i j x q p, fun g' k' e => ?_⟩
      obtain ⟨rfl, rfl⟩ : g = g' ∧ k = k' := by simpa using e
      refine ⟨fun hx => hx.2 rfl, ho.le (Nat.add_le_add_left (Nat.mul_le_mul_right _ hc) _), fun i j el d h1 h2 => ⟨_, hm i j el d h1 h2, (hh i j el d h1 h2).stay st fun _ _ => rfl⟩⟩
theorem instC_sound {fl : Bool} {F : Nat → Prop} {Z : K → Nat → Prop} (h : FR G w0 L (fun b => X0 b ∨ F b) w tm fr ρ) (hF : ∀ b, F b → ¬ X0 b ∧ ((fl = true ∧ L b) ∨ w0.heap.size ≤ b)) {d : D} {v : Value} (hr : RepV w Z d v F)
    (hZ : ∀ k b, b < w.heap.size → XX w0 (fun b => X0 b ∨ F b) fr.heap ρ k b → Z k b) {id n : Nat} {y : V} {H' : Heap} (he : instC fl id fr.heap d = some (y, H', n)) :
    ∃ ρ', Puts G w0 L X0 w tm fr ρ F H' ρ' ∧ RepE w (XX w0 X0 H' ρ') H' ρ' y v := by
  have zst : Stay w w Z (XX w0 (fun b => X0 b ∨ F b) fr.heap ρ) := ⟨fun _ _ _ _ => rfl, hZ⟩
  have plain : ∀ {d}, RepV w Z d v F → (∀ sz els, d ≠ .ow sz els) → (∀ o cs, d ≠ .op o cs) → (∀ cs, d ≠ .agg cs) → (∀ cs, d ≠ .tup cs) → RepS w Z d v := by
    intro d hr h1 h2 h3 h4
    cases hr with
    | plain d v F hF h => exact h
    | ow => exact absurd rfl (h1 _ _)
    | op => exact absurd rfl (h2 _ _)
    | agg => exact absurd rfl (h3 _)
    | tup => exact absurd rfl (h4 _)
  have shared : ∀ {d}, RepS w Z d v → ∃ ρ', Puts G w0 L X0 w tm fr ρ F fr.heap ρ' ∧ RepE w (XX w0 X0 fr.heap ρ') fr.heap ρ' (.val d) v := by
    intro d hs
    have p := Puts.nil (X0 := X0) h
    exact ⟨ρ, p, .val _ _ ((hs.stay zst).stay p.2.1)⟩
  cases d with
  | ow sz els =>
    simp only [instC] at he
    split at he
    · rename_i hfree
      obtain ⟨rfl, rfl, rfl⟩ := by simpa using he
      cases hr with
      | plain d v F hF h => cases h
      | ow sz els v F hr =>
        obtain ⟨p, S, q1, q2, q3⟩ := row_ofC hr
        have pp := Puts.add (X0 := X0) h (free_spec hfree) (B := .row fl sz els) (p := p) (S := S) hF q1 (fun X' H' ρ' st t => q2 X' H' ρ' (zst.trans st (Nat.le_refl _)))
        exact ⟨_, pp, .sl _ _ _ _ (.row fl sz els) (by simp [look]) (by rw [setP_self]; exact q3)⟩
    · simp at he
  | emp sz =>
    simp only [instC] at he
    obtain ⟨rfl, rfl, rfl⟩ := by simpa using he
    have p := Puts.nil (X0 := X0) h
    refine ⟨ρ, p, ?_⟩
    have := plain hr (by simp) (by simp) (by simp) (by simp)
    cases this
    exact .emp _ _
  | op o cs => simp [instC] at he
  | agg cs => simp [instC] at he
  | tup cs => simp [instC] at he
  | _ =>
    simp only [instC] at he
    obtain ⟨rfl, rfl, rfl⟩ := by simpa using he
    exact shared (plain hr (by simp) (by simp) (by simp) (by simp))
theorem instL_sound {fl : Bool} : ∀ {ds : List D} {us : List Value} {X0 : Nat → Prop} {φ : Nat → Nat → Prop} {Z : K → Nat → Prop} {fr : Fr} {ρ : Place} {id n : Nat} {ys : List V} {H' : Heap}, FR G w0 L (fun b => X0 b ∨ AllF ds.length φ b) w tm fr ρ →
    (∀ b, AllF ds.length φ b → ¬ X0 b ∧ ((fl = true ∧ L b) ∨ w0.heap.size ≤ b)) → RepVs w Z ds us φ → (∀ k b, b < w.heap.size → XX w0 (fun b => X0 b ∨ AllF ds.length φ b) fr.heap ρ k b → Z k b) → instL fl id fr.heap ds = some (ys, H', n) →
    ∃ ρ', Puts G w0 L X0 w tm fr ρ (AllF ds.length φ) H' ρ' ∧ ys.length = ds.length ∧ ∀ (i : Nat) (y : V) (u : Value), ys[i]? = some y → us[i]? = some u → RepE w (XX w0 X0 H' ρ') H' ρ' y u
  | [], us, X0, φ, Z, fr, ρ, id, n, ys, H', h, hF, hr, hZ, he => by
    simp only [instL] at he
    obtain ⟨rfl, rfl, rfl⟩ := by simpa using he
    exact ⟨ρ, Puts.nil h, rfl, fun i y u hy => by simp at hy⟩
  | d :: ds, us, X0, φ, Z, fr, ρ, id, n, ys, H', h, hF, hr, hZ, he => by
    obtain ⟨u, us, rfl⟩ := List.exists_cons_of_ne_nil (l := us) (by rintro rfl; simp [RepVs] at hr)
    obtain ⟨r1, r2, r3, r4⟩ := hr.tail
    simp only [instL] at he
    split at he
    · rename_i x H1 n1 h1
      split at he
      · rename_i xs H2 n2 h2
        obtain ⟨rfl, rfl, rfl⟩ := by simpa using he
        have e : (fun b => X0 b ∨ AllF (d :: ds).length φ b) = fun b => (X0 b ∨ AllF ds.length (fun i => φ (i + 1)) b) ∨ φ 0 b := by
          funext b
          rw [List.length_cons, r4 b]
          apply propext
          constructor
          · rintro (h | h | h)
            · exact .inl (.inl h)
            · exact .inr h
            · exact .inl (.inr h)
          · rintro ((h | h) | h)
            · exact .inl h
            · exact .inr (.inr h)
            · exact .inr (.inl h)
        rw [e] at h hZ
        obtain ⟨ρ1, a1, a2⟩ := instC_sound (fl := fl) h (fun b hb => by
          have q := hF b ((r4 b).2 (.inl hb))
          exact ⟨fun hx => hx.elim q.1 (fun hx => r3 b hb hx), q.2⟩) r1 hZ h1
        obtain ⟨ρ2, b1, b2, b3⟩ := instL_sound (fl := fl) (us := us) a1.1 (fun b hb => hF b ((r4 b).2 (.inr hb))) r2 (fun k b hb hx => hZ k b hb (a1.2.1.off k b hb hx)) h2
        have c := a1.trans b1
        have e2 : (fun b => φ 0 b ∨ AllF ds.length (fun i => φ (i + 1)) b) = AllF (d :: ds).length φ := by funext b; exact propext (r4 b).symm
        rw [e2] at c
        refine ⟨ρ2, c, by simp [b2], fun i y u' hy hu => ?_⟩
        cases i with
        | zero =>
          simp at hy hu; subst hy; subst hu
          have st : Stay w w (XX w0 (fun b => X0 b ∨ AllF ds.length (fun i => φ (i + 1)) b) H1 ρ1) (XX w0 X0 H2 ρ2) := b1.2.1
          exact a2.tr st b1.2.2.1
        | succ i => exact b3 i y u' (by simpa using hy) (by simpa using hu)
      · simp at he
    · simp at he
theorem inst1_sound {fl : Bool} {F : Nat → Prop} {Z : K → Nat → Prop} (h : FR G w0 L (fun b => X0 b ∨ F b) w tm fr ρ) (hF : ∀ b, F b → ¬ X0 b ∧ ((fl = true ∧ L b) ∨ w0.heap.size ≤ b)) {d : D} {v : Value} (hr : RepV w Z d v F)
    (hZ : ∀ k b, b < w.heap.size → XX w0 (fun b => X0 b ∨ F b) fr.heap ρ k b → Z k b) {id n : Nat} {y : V} {H' : Heap} (he : inst1 fl id fr.heap d = some (y, H', n)) :
    ∃ ρ', Puts G w0 L X0 w tm fr ρ F H' ρ' ∧ RepE w (XX w0 X0 H' ρ') H' ρ' y v := by
  cases d with
  | op o cs =>
    simp only [inst1] at he
    split at he
    · rename_i vs H1 n1 h1
      split at he
      · rename_i hfree
        obtain ⟨rfl, rfl, rfl⟩ := by simpa using he
        cases hr with
        | plain d v F hF h => cases h
        | op o cs g k φ F hFg hd hg ho vf hm hh =>
          have e : (fun b => X0 b ∨ F b) = fun b => (X0 b ∨ b = g) ∨ AllF cs.length φ b := by funext b; rw [or_assoc]; congr 1; exact propext (hFg b)
          rw [e] at h hZ
          obtain ⟨ρ1, a1, a2, a3⟩ := instL_sound (fl := fl) (us := (List.range cs.length).map vf) h (fun b hb => by
            have q := hF b ((hFg b).2 (.inr hb))
            exact ⟨fun hx => hx.elim q.1 (fun hx => by subst hx; exact hg hb), q.2⟩) ⟨by simp, hd, fun i d v q1 q2 => by
              obtain ⟨hi, rfl⟩ := range_map_get q2
              exact hh i d q1⟩ hZ h1
          have p := Puts.add (X0 := X0) (F := fun b => b = g) a1.1 (free_spec hfree) (B := .var fl vs) (p := some (g, k)) (S := noB) (fun b hb => by subst hb; exact hF b ((hFg b).2 (.inl rfl))) (fun g' e => by
            rcases e with ⟨k', e⟩ | e
            · obtain ⟨rfl, rfl⟩ : g = g' ∧ k = k' := by simpa using e
              rfl
            · exact e.elim) (fun X' H' ρ' st t => by
              refine ⟨fun x hx => hx.elim, g, k, rfl, by rw [a2]; exact ho, fun j x hx => ?_⟩
              have hj : j < cs.length := by rw [← a2]; exact (List.getElem?_eq_some_iff.1 hx).1
              exact ⟨vf j, hm j cs[j] (List.getElem?_eq_getElem hj), (a3 j x (vf j) hx (by simp [hj])).tr st t⟩)
          have c := Puts.trans (X0 := X0) (F1 := AllF cs.length φ) (F2 := fun b => b = g) a1 p
          have e2 : (fun b => AllF cs.length φ b ∨ b = g) = F := by funext b; rw [or_comm]; exact propext (hFg b).symm
          rw [e2] at c
          exact ⟨_, c, .pt _ _ _ (.var fl vs) (by simp [look]) ⟨g, k, setP_self _ _ _ _, rfl⟩⟩
      · simp at he
    · simp at he
  | agg cs =>
    simp only [inst1] at he
    split at he
    · rename_i vs H1 n1 h1
      obtain ⟨rfl, rfl, rfl⟩ := by simpa using he
      cases hr with
      | plain d v F hFe h' =>
        cases h' with
        | agg cs us hs hh =>
          have eF : F = AllF cs.length (fun _ => E) := by funext b; apply propext; exact ⟨fun hb => absurd hb (hFe b), fun ⟨_, _, hb⟩ => hb.elim⟩
          subst eF
          obtain ⟨ρ1, a1, a2, a3⟩ := instL_sound (fl := fl) (us := us.toList) h hF ⟨by simpa using hs, fun i j b hi hj hb => hb.elim, fun i d v q1 q2 => .plain _ _ _ (fun b hb => hb) (hh i d v q1 (by simpa using q2))⟩ hZ h1
          exact ⟨ρ1, a1, .agg vs us (by rw [hs, a2]) fun i x u hx hu => a3 i x u hx (by simpa using hu)⟩
      | agg cs us φ F hFg hd hs hh =>
        have eF : F = AllF cs.length φ := funext fun b => propext (hFg b)
        subst eF
        obtain ⟨ρ1, a1, a2, a3⟩ := instL_sound (fl := fl) (us := us.toList) h hF ⟨by simpa using hs, hd, fun i d v q1 q2 => hh i d v q1 (by simpa using q2)⟩ hZ h1
        exact ⟨ρ1, a1, .agg vs us (by rw [hs, a2]) fun i x u hx hu => a3 i x u hx (by simpa using hu)⟩
    · simp at he
  | ow sz els => exact instC_sound (fl := fl) (id := id) h hF hr hZ he
  | tup cs => exact instC_sound (fl := fl) (id := id) h hF hr hZ he
  | int k m => exact instC_sound (fl := fl) (id := id) h hF hr hZ he
  | bool b => exact instC_sound (fl := fl) (id := id) h hF hr hZ he
  | str s => exact instC_sound (fl := fl) (id := id) h hF hr hZ he
  | err b => exact instC_sound (fl := fl) (id := id) h hF hr hZ he
  | fn f cap => exact instC_sound (fl := fl) (id := id) h hF hr hZ he
  | sh k sz els => exact instC_sound (fl := fl) (id := id) h hF hr hZ he
  | emp sz => exact instC_sound (fl := fl) (id := id) h hF hr hZ he
  | ptr cs => exact instC_sound (fl := fl) (id := id) h hF hr hZ he
  | gone => exact instC_sound (fl := fl) (id := id) h hF hr hZ he
theorem instT_sound {fl : Bool} : ∀ {ds : List D} {us : List Value} {X0 : Nat → Prop} {φ : Nat → Nat → Prop} {Z : K → Nat → Prop} {fr : Fr} {ρ : Place} {id n : Nat} {ys : List V} {H' : Heap}, FR G w0 L (fun b => X0 b ∨ AllF ds.length φ b) w tm fr ρ →
    (∀ b, AllF ds.length φ b → ¬ X0 b ∧ ((fl = true ∧ L b) ∨ w0.heap.size ≤ b)) → RepVs w Z ds us φ → (∀ k b, b < w.heap.size → XX w0 (fun b => X0 b ∨ AllF ds.length φ b) fr.heap ρ k b → Z k b) → instT fl id fr.heap ds = some (ys, H', n) →
    ∃ ρ', Puts G w0 L X0 w tm fr ρ (AllF ds.length φ) H' ρ' ∧ ys.length = ds.length ∧ ∀ (i : Nat) (y : V) (u : Value), ys[i]? = some y → us[i]? = some u → RepE w (XX w0 X0 H' ρ') H' ρ' y u
  | [], us, X0, φ, Z, fr, ρ, id, n, ys, H', h, hF, hr, hZ, he => by
    simp only [instT] at he
    obtain ⟨rfl, rfl, rfl⟩ := by simpa using he
    exact ⟨ρ, Puts.nil h, rfl, fun i y u hy => by simp at hy⟩
  | d :: ds, us, X0, φ, Z, fr, ρ, id, n, ys, H', h, hF, hr, hZ, he => by
    obtain ⟨u, us, rfl⟩ := List.exists_cons_of_ne_nil (l := us) (by rintro rfl; simp [RepVs] at hr)
    obtain ⟨r1, r2, r3, r4⟩ := hr.tail
    simp only [instT] at he
    split at he
    · rename_i x H1 n1 h1
      split at he
      · rename_i xs H2 n2 h2
        obtain ⟨rfl, rfl, rfl⟩ := by simpa using he
        have e : (fun b => X0 b ∨ AllF (d :: ds).length φ b) = fun b => (X0 b ∨ AllF ds.length (fun i => φ (i + 1)) b) ∨ φ 0 b := by
          funext b
          rw [List.length_cons, r4 b]
          apply propext
          constructor
          · rintro (h | h | h)
            · exact .inl (.inl h)
            · exact .inr h
            · exact .inl (.inr h)
          · rintro ((h | h) | h)
            · exact .inl h
            · exact .inr (.inr h)
            · exact .inr (.inl h)
        rw [e] at h hZ
        obtain ⟨ρ1, a1, a2⟩ := inst1_sound (fl := fl) h (fun b hb => by
          have q := hF b ((r4 b).2 (.inl hb))
          exact ⟨fun hx => hx.elim q.1 (fun hx => r3 b hb hx), q.2⟩) r1 hZ h1
        obtain ⟨ρ2, b1, b2, b3⟩ := instT_sound (fl := fl) (us := us) a1.1 (fun b hb => hF b ((r4 b).2 (.inr hb))) r2 (fun k b hb hx => hZ k b hb (a1.2.1.off k b hb hx)) h2
        have c := a1.trans b1
        have e2 : (fun b => φ 0 b ∨ AllF ds.length (fun i => φ (i + 1)) b) = AllF (d :: ds).length φ := by funext b; exact propext (r4 b).symm
        rw [e2] at c
        refine ⟨ρ2, c, by simp [b2], fun i y u' hy hu => ?_⟩
        cases i with
        | zero =>
          simp at hy hu; subst hy; subst hu
          exact a2.tr b1.2.1 b1.2.2.1
        | succ i => exact b3 i y u' (by simpa using hy) (by simpa using hu)
      · simp at he
    · simp at he
theorem inst_sound {fl : Bool} {F : Nat → Prop} {Z : K → Nat → Prop} (h : FR G w0 L (fun b => X0 b ∨ F b) w tm fr ρ) (hF : ∀ b, F b → ¬ X0 b ∧ ((fl = true ∧ L b) ∨ w0.heap.size ≤ b)) {d : D} {v : Value} (hr : RepV w Z d v F)
    (hZ : ∀ k b, b < w.heap.size → XX w0 (fun b => X0 b ∨ F b) fr.heap ρ k b → Z k b) {id n : Nat} {y : V} {H' : Heap} (he : inst fl id fr.heap d = some (y, H', n)) :
    ∃ ρ', Puts G w0 L X0 w tm fr ρ F H' ρ' ∧ RepE w (XX w0 X0 H' ρ') H' ρ' y v := by
  cases d with
  | tup cs =>
    simp only [inst] at he
    split at he
    · rename_i vs H1 n1 h1
      obtain ⟨rfl, rfl, rfl⟩ := by simpa using he
      cases hr with
      | plain d v F hFe h' =>
        cases h' with
        | tup cs us hs hh =>
          have eF : F = AllF cs.length (fun _ => E) := by funext b; apply propext; exact ⟨fun hb => absurd hb (hFe b), fun ⟨_, _, hb⟩ => hb.elim⟩
          subst eF
          obtain ⟨ρ1, a1, a2, a3⟩ := instT_sound (fl := fl) (us := us.toList) h hF ⟨by simpa using hs, fun i j b hi hj hb => hb.elim, fun i d v q1 q2 => .plain _ _ _ (fun b hb => hb) (hh i d v q1 (by simpa using q2))⟩ hZ h1
          exact ⟨ρ1, a1, .tup vs us (by rw [hs, a2]) fun i x u hx hu => a3 i x u hx (by simpa using hu)⟩
      | tup cs us φ F hFg hd hs hh =>
        have eF : F = AllF cs.length φ := funext fun b => propext (hFg b)
        subst eF
        obtain ⟨ρ1, a1, a2, a3⟩ := instT_sound (fl := fl) (us := us.toList) h hF ⟨by simpa using hs, hd, fun i d v q1 q2 => hh i d v q1 (by simpa using q2)⟩ hZ h1
        exact ⟨ρ1, a1, .tup vs us (by rw [hs, a2]) fun i x u hx hu => a3 i x u hx (by simpa using hu)⟩
    · simp at he
  | op o cs => exact inst1_sound (fl := fl) (id := id) h hF hr hZ he
  | agg cs => exact inst1_sound (fl := fl) (id := id) h hF hr hZ he
  | ow sz els => exact inst1_sound (fl := fl) (id := id) h hF hr hZ he
  | int k m => exact inst1_sound (fl := fl) (id := id) h hF hr hZ he
  | bool b => exact inst1_sound (fl := fl) (id := id) h hF hr hZ he
  | str s => exact inst1_sound (fl := fl) (id := id) h hF hr hZ he
  | err b => exact inst1_sound (fl := fl) (id := id) h hF hr hZ he
  | fn f cap => exact inst1_sound (fl := fl) (id := id) h hF hr hZ he
  | sh k sz els => exact inst1_sound (fl := fl) (id := id) h hF hr hZ he
  | emp sz => exact inst1_sound (fl := fl) (id := id) h hF hr hZ he
  | ptr cs => exact inst1_sound (fl := fl) (id := id) h hF hr hZ he
  | gone => exact inst1_sound (fl := fl) (id := id) h hF hr hZ he
end
end Go.Proofs.Ytpbonfgmiffomaa.Wm
set_option linter.unusedSimpArgs false
set_option linter.unusedVariables false
namespace Go.Proofs.Ytpbonfgmiffomaa.Wm
open Go
def kClean : K → Bool
  | .lent => false
  | _ => true
def kNf : K → Bool
  | .fresh => false
  | _ => true
mutual
def clean : D → Bool
  | .fn _ cap => cleanL cap
  | .sh k _ els => kClean k && cleanE els
  | .ow _ els => cleanE els
  | .ptr cs => cs.isEmpty
  | .op _ cs => cleanL cs
  | .agg cs => cleanL cs
  | .tup cs => cleanL cs
  | _ => true
def cleanL : List D → Bool
  | [] => true
  | d :: ds => clean d && cleanL ds
def cleanE : List (List D) → Bool
  | [] => true
  | e :: es => cleanL e && cleanE es
end
theorem cleanL_get : ∀ {cs : List D} {i : Nat} {d : D}, cleanL cs = true → cs[i]? = some d → clean d = true
  | c :: cs, 0, d, h, hd => by simp only [cleanL, Bool.and_eq_true] at h; simp at hd; subst hd; exact h.1
  | c :: cs, i + 1, d, h, hd => by simp only [cleanL, Bool.and_eq_true] at h; exact cleanL_get h.2 (by simpa using hd)
theorem cleanE_get : ∀ {es : List (List D)} {i : Nat} {e : List D}, cleanE es = true → es[i]? = some e → cleanL e = true
  | c :: cs, 0, d, h, hd => by simp only [cleanE, Bool.and_eq_true] at h; simp at hd; subst hd; exact h.1
  | c :: cs, i + 1, d, h, hd => by simp only [cleanE, Bool.and_eq_true] at h; exact cleanE_get h.2 (by simpa using hd)
theorem RepS.clean {w : World} {X X' : K → Nat → Prop} (hX : ∀ b, b < w.heap.size → X' .fresh b → X .fresh b) {d : D} {v : Value} (h : RepS w X d v) (hc : Wm.clean d = true) : RepS w X' d v := by
  induction h with
  | int k n => exact .int k n
  | bool b => exact .bool b
  | str s => exact .str s
  | err0 => exact .err0
  | err1 t v => exact .err1 t v
  | fn f cap vs hs h ih => simp only [Wm.clean] at hc; exact .fn f cap vs hs fun i d v h1 h2 => ih i d v h1 h2 (cleanL_get hc h1)
  | sh k sz els A c vf hk hcc hz hm h ih =>
    simp only [Wm.clean, Bool.and_eq_true] at hc
    obtain ⟨hkc, hc⟩ := hc
    obtain rfl : k = .fresh := by cases k <;> simp [kClean] at hkc hk ⊢
    refine .sh _ sz els A c vf hk hcc hz (fun i j el d h1 h2 => ?_) fun i j el d h1 h2 => ih i j el d h1 h2 (cleanL_get (cleanE_get hc h1) h2)
    obtain ⟨a, b, e⟩ := hm i j el d h1 h2
    exact ⟨a, fun hx => b (hX _ (cell_lt' e) hx), e⟩
  | shn k sz hk => exact .shn k sz hk
  | emp sz a => exact .emp sz a
  | ptr cs A vf hm h ih =>
    simp only [Wm.clean, List.isEmpty_iff] at hc
    subst hc
    exact .ptr [] A vf (fun j d h1 => by simp at h1) fun j d h1 => by simp at h1
  | agg cs vs hs h ih => simp only [Wm.clean] at hc; exact .agg cs vs hs fun i d v h1 h2 => ih i d v h1 h2 (cleanL_get hc h1)
  | tup cs vs hs h ih => simp only [Wm.clean] at hc; exact .tup cs vs hs fun i d v h1 h2 => ih i d v h1 h2 (cleanL_get hc h1)
  | gone v => exact .gone v
theorem RepC.clean {w : World} {X X' : K → Nat → Prop} (hX : ∀ b, b < w.heap.size → X' .fresh b → X .fresh b) {d : D} {v : Value} {F : Nat → Prop} (h : RepC w X d v F) (hc : Wm.clean d = true) : RepC w X' d v F := by
  induction h with
  | plain d v F hF h => exact .plain d v F hF (h.clean hX hc)
  | own0 sz a F hF => exact .own0 sz a F hF
  | own sz els g k c φ F hF hg h1 hd hcc ho hz vf hm h ih =>
    simp only [Wm.clean, kClean, Bool.true_and] at hc
    exact .own sz els g k c φ F hF hg h1 hd hcc ho hz vf hm fun i j el d q1 q2 => ih i j el d q1 q2 (cleanL_get (cleanE_get hc q1) q2)
theorem RepV.clean {w : World} {X X' : K → Nat → Prop} (hX : ∀ b, b < w.heap.size → X' .fresh b → X .fresh b) {d : D} {v : Value} {F : Nat → Prop} (h : RepV w X d v F) (hc : Wm.clean d = true) : RepV w X' d v F := by
  induction h with
  | plain d v F hF h => exact .plain d v F hF (h.clean hX hc)
  | ow sz els v F h => exact .ow sz els v F (h.clean hX (by simp only [Wm.clean] at hc ⊢; rw [hc]; rfl))
  | op o cs g k φ F hF hd hg ho vf hm h ih => simp only [Wm.clean] at hc; exact .op o cs g k φ F hF hd hg ho vf hm fun j d h1 => ih j d h1 (cleanL_get hc h1)
  | agg cs vs φ F hF hd hs h ih => simp only [Wm.clean] at hc; exact .agg cs vs φ F hF hd hs fun i d v h1 h2 => ih i d v h1 h2 (cleanL_get hc h1)
  | tup cs vs φ F hF hd hs h ih => simp only [Wm.clean] at hc; exact .tup cs vs φ F hF hd hs fun i d v h1 h2 => ih i d v h1 h2 (cleanL_get hc h1)
mutual
def nf : D → Bool
  | .fn _ cap => nfL cap
  | .sh k _ els => kNf k && nfE els
  | .ow _ els => nfE els
  | .ptr cs => nfL cs
  | .op _ cs => nfL cs
  | .agg cs => nfL cs
  | .tup cs => nfL cs
  | _ => true
def nfL : List D → Bool
  | [] => true
  | d :: ds => nf d && nfL ds
def nfE : List (List D) → Bool
  | [] => true
  | e :: es => nfL e && nfE es
end
theorem nfL_get : ∀ {cs : List D} {i : Nat} {d : D}, nfL cs = true → cs[i]? = some d → nf d = true
  | c :: cs, 0, d, h, hd => by simp only [nfL, Bool.and_eq_true] at h; simp at hd; subst hd; exact h.1
  | c :: cs, i + 1, d, h, hd => by simp only [nfL, Bool.and_eq_true] at h; exact nfL_get h.2 (by simpa using hd)
theorem nfE_get : ∀ {es : List (List D)} {i : Nat} {e : List D}, nfE es = true → es[i]? = some e → nfL e = true
  | c :: cs, 0, d, h, hd => by simp only [nfE, Bool.and_eq_true] at h; simp at hd; subst hd; exact h.1
  | c :: cs, i + 1, d, h, hd => by simp only [nfE, Bool.and_eq_true] at h; exact nfE_get h.2 (by simpa using hd)
theorem nfL_all : ∀ {cs : List D}, (∀ d ∈ cs, nf d = true) → nfL cs = true
  | [], _ => rfl
  | c :: cs, h => by simp only [nfL, Bool.and_eq_true]; exact ⟨h c (by simp), nfL_all fun d hd => h d (by simp [hd])⟩
mutual
theorem lentD_nf : ∀ d, nf (lentD d) = true
  | .fn _ cap => by simp only [lentD, nf]; exact lentL_nf cap
  | .sh _ _ els => by simp only [lentD, nf, kNf, Bool.true_and]; exact lentE_nf els
  | .ow _ els => by simp only [lentD, nf]; exact lentE_nf els
  | .ptr cs => by simp only [lentD, nf]; exact lentL_nf cs
  | .op _ cs => by simp only [lentD, nf]; exact lentL_nf cs
  | .agg cs => by simp only [lentD, nf]; exact lentL_nf cs
  | .tup cs => by simp only [lentD, nf]; exact lentL_nf cs
  | .int _ _ => rfl
  | .bool _ => rfl
  | .str _ => rfl
  | .err _ => rfl
  | .emp _ => rfl
  | .gone => rfl
theorem lentL_nf : ∀ cs, nfL (lentL cs) = true
  | [] => rfl
  | d :: ds => by simp only [lentL, nfL, Bool.and_eq_true]; exact ⟨lentD_nf d, lentL_nf ds⟩
theorem lentE_nf : ∀ es, nfE (lentE es) = true
  | [] => rfl
  | e :: es => by simp only [lentE, nfE, Bool.and_eq_true]; exact ⟨lentL_nf e, lentE_nf es⟩
end
mutual
theorem eraD_nf : ∀ d, nf (eraD d) = true
  | .fn _ cap => by simp only [eraD, nf]; exact eraL_nf cap
  | .sh k _ els => by
    simp only [eraD, nf, Bool.and_eq_true]
    exact ⟨by cases k <;> rfl, eraE_nf els⟩
  | .ow _ els => by simp only [eraD, nf]; exact eraE_nf els
  | .ptr cs => by simp only [eraD, nf]; exact eraL_nf cs
  | .op _ cs => by simp only [eraD, nf]; exact eraL_nf cs
  | .agg cs => by simp only [eraD, nf]; exact eraL_nf cs
  | .tup cs => by simp only [eraD, nf]; exact eraL_nf cs
  | .int _ _ => rfl
  | .bool _ => rfl
  | .str _ => rfl
  | .err _ => rfl
  | .emp _ => rfl
  | .gone => rfl
theorem eraL_nf : ∀ cs, nfL (eraL cs) = true
  | [] => rfl
  | d :: ds => by simp only [eraL, nfL, Bool.and_eq_true]; exact ⟨eraD_nf d, eraL_nf ds⟩
theorem eraE_nf : ∀ es, nfE (eraE es) = true
  | [] => rfl
  | e :: es => by simp only [eraE, nfE, Bool.and_eq_true]; exact ⟨eraL_nf e, eraE_nf es⟩
end
theorem RepS.nf {w : World} {X X' : K → Nat → Prop} (hX : ∀ b, b < w.heap.size → X' .lent b → X .lent b) {d : D} {v : Value} (h : RepS w X d v) (hc : Wm.nf d = true) : RepS w X' d v := by
  induction h with
  | int k n => exact .int k n
  | bool b => exact .bool b
  | str s => exact .str s
  | err0 => exact .err0
  | err1 t v => exact .err1 t v
  | fn f cap vs hs h ih => simp only [Wm.nf] at hc; exact .fn f cap vs hs fun i d v h1 h2 => ih i d v h1 h2 (nfL_get hc h1)
  | sh k sz els A c vf hk hcc hz hm h ih =>
    simp only [Wm.nf, Bool.and_eq_true] at hc
    obtain ⟨hkc, hc⟩ := hc
    obtain rfl : k = .lent := by cases k <;> simp [kNf] at hkc hk ⊢
    refine .sh _ sz els A c vf hk hcc hz (fun i j el d h1 h2 => ?_) fun i j el d h1 h2 => ih i j el d h1 h2 (nfL_get (nfE_get hc h1) h2)
    obtain ⟨a, b, e⟩ := hm i j el d h1 h2
    exact ⟨a, fun hx => b (hX _ (cell_lt' e) hx), e⟩
  | shn k sz hk => exact .shn k sz hk
  | emp sz a => exact .emp sz a
  | ptr cs A vf hm h ih =>
    simp only [Wm.nf] at hc
    refine .ptr cs A vf (fun j d h1 => ?_) fun j d h1 => ih j d h1 (nfL_get hc h1)
    obtain ⟨a, b, e⟩ := hm j d h1
    exact ⟨a, fun hx => b (hX _ (cell_lt' e) hx), e⟩
  | agg cs vs hs h ih => simp only [Wm.nf] at hc; exact .agg cs vs hs fun i d v h1 h2 => ih i d v h1 h2 (nfL_get hc h1)
  | tup cs vs hs h ih => simp only [Wm.nf] at hc; exact .tup cs vs hs fun i d v h1 h2 => ih i d v h1 h2 (nfL_get hc h1)
  | gone v => exact .gone v
theorem RepC.nf {w : World} {X X' : K → Nat → Prop} (hX : ∀ b, b < w.heap.size → X' .lent b → X .lent b) {d : D} {v : Value} {F : Nat → Prop} (h : RepC w X d v F) (hc : Wm.nf d = true) : RepC w X' d v F := by
  induction h with
  | plain d v F hF h => exact .plain d v F hF (h.nf hX hc)
  | own0 sz a F hF => exact .own0 sz a F hF
  | own sz els g k c φ F hF hg h1 hd hcc ho hz vf hm h ih =>
    simp only [Wm.nf, kNf, Bool.true_and] at hc
    exact .own sz els g k c φ F hF hg h1 hd hcc ho hz vf hm fun i j el d q1 q2 => ih i j el d q1 q2 (nfL_get (nfE_get hc q1) q2)
theorem RepV.nf {w : World} {X X' : K → Nat → Prop} (hX : ∀ b, b < w.heap.size → X' .lent b → X .lent b) {d : D} {v : Value} {F : Nat → Prop} (h : RepV w X d v F) (hc : Wm.nf d = true) : RepV w X' d v F := by
  induction h with
  | plain d v F hF h => exact .plain d v F hF (h.nf hX hc)
  | ow sz els v F h => exact .ow sz els v F (h.nf hX (by simp only [Wm.nf] at hc ⊢; rw [hc]; rfl))
  | op o cs g k φ F hF hd hg ho vf hm h ih => simp only [Wm.nf] at hc; exact .op o cs g k φ F hF hd hg ho vf hm fun j d h1 => ih j d h1 (nfL_get hc h1)
  | agg cs vs φ F hF hd hs h ih => simp only [Wm.nf] at hc; exact .agg cs vs φ F hF hd hs fun i d v h1 h2 => ih i d v h1 h2 (nfL_get hc h1)
  | tup cs vs φ F hF hd hs h ih => simp only [Wm.nf] at hc; exact .tup cs vs φ F hF hd hs fun i d v h1 h2 => ih i d v h1 h2 (nfL_get hc h1)
def lendC (H : Heap) : V → D
  | .val d => lentD d
  | .emp sz => .sh .lent sz []
  | .sl b o n => match look b H with
    | some (.row _ sz els) => .sh .lent sz (lentE ((els.drop o).take n))
    | _ => .gone
  | .fn f [] => .fn f []
  | _ => .gone
def lendP (H : Heap) : V → D
  | .pt b o => match look b H with
    | some (.var _ cs) => .ptr ((cs.map (lendC H)).drop o)
    | _ => .gone
  | .ep b i o => match look b H with
    | some (.row _ _ els) => match els[i]? with
      | some el => .ptr (lentL (el.drop o))
      | none => .gone
    | _ => .gone
  | x => lendC H x
def lendV (H : Heap) : V → D
  | .agg vs => .agg (vs.map (lendC H))
  | .fn f cap => .fn f (cap.map (lendP H))
  | x => lendP H x
def usesB : V → Bool
  | .val _ => false
  | .emp _ => false
  | .dead => false
  | .agg vs => vs.any fun x => match x with
    | .val _ => false
    | .emp _ => false
    | _ => true
  | .fn _ cap => !cap.isEmpty
  | _ => true
theorem lendC_nf (H : Heap) : ∀ x, nf (lendC H x) = true := by
  intro x
  cases x with
  | val d => exact lentD_nf d
  | sl b o n =>
    simp only [lendC]
    split
    · simp only [nf, kNf, Bool.true_and]; exact lentE_nf _
    · rfl
  | fn f cap => cases cap <;> rfl
  | _ => rfl
theorem lendP_nf (H : Heap) : ∀ x, nf (lendP H x) = true := by
  intro x
  cases x with
  | pt b o =>
    simp only [lendP]
    split
    · simp only [nf]
      refine nfL_all fun d hd => ?_
      obtain ⟨y, _, rfl⟩ := List.mem_map.1 (List.mem_of_mem_drop hd)
      exact lendC_nf H y
    · rfl
  | ep b i o =>
    simp only [lendP]
    split
    · split
      · simp only [nf]; exact lentL_nf _
      · rfl
    · rfl
  | _ => simp only [lendP]; exact lendC_nf H _
theorem lendV_nf (H : Heap) : ∀ x, nf (lendV H x) = true := by
  intro x
  cases x with
  | agg vs =>
    simp only [lendV, nf]
    refine nfL_all fun d hd => ?_
    obtain ⟨y, _, rfl⟩ := List.mem_map.1 hd
    exact lendC_nf H y
  | fn f cap =>
    simp only [lendV, nf]
    refine nfL_all fun d hd => ?_
    obtain ⟨y, _, rfl⟩ := List.mem_map.1 hd
    exact lendP_nf H y
  | _ => simp only [lendV]; exact lendP_nf H _
section
variable {P : Program} {G : Nat → Option (List D)} {w0 : World} {L X0 X1 : Nat → Prop} {w w' w2 : World} {tm : Array Value} {fr : Fr} {ρ ρ' : Place} {X : K → Nat → Prop} {H : Heap}
theorem lendC_sound (h : FR G w0 L X0 w tm fr ρ) {X' : K → Nat → Prop} (hX : ∀ k b, b < w.heap.size → X' .lent b → XX w0 X0 fr.heap ρ k b) {x : V} {v : Value} (hU : usesB x = true → ∀ g, Held fr.heap ρ g → ¬ X' .lent g)
    (hx : RepE w (XX w0 X0 fr.heap ρ) fr.heap ρ x v) : RepS w X' (lendC fr.heap x) v := by
  cases x with
  | val d =>
    cases hx with
    | val d v hx => exact hx.lent hX
  | emp sz =>
    cases hx with
    | emp sz a =>
      cases a with
      | none => exact .shn _ _ (by simp)
      | some A => exact .sh .lent sz [] A 0 (fun _ _ => undef) (by simp) (by simp) (by simp) (fun i j el d q => by simp at q) fun i j el d q => by simp at q
  | sl b o n =>
    simp only [lendC]
    split
    · rename_i old sz els hb
      have hr := h.row_own hx hb
      exact (hr.lent (X' := X') hX fun _ g hg => hU rfl g ⟨b, _, hb, rfl, hg⟩)
    · exact .gone _
  | fn f cap =>
    cases cap with
    | nil =>
      cases hx with
      | fn f vs us hs hh => exact .fn f [] us (by simpa using hs) (by simp)
    | cons a l => exact .gone _
  | _ => exact .gone _
theorem lendP_sound (h : FR G w0 L X0 w tm fr ρ) {X' : K → Nat → Prop} (hX : ∀ k b, b < w.heap.size → X' .lent b → XX w0 X0 fr.heap ρ k b) {x : V} {v : Value} (hU : usesB x = true → ∀ g, Held fr.heap ρ g → ¬ X' .lent g)
    (hx : RepE w (XX w0 X0 fr.heap ρ) fr.heap ρ x v) : RepS w X' (lendP fr.heap x) v := by
  cases x with
  | pt b o =>
    simp only [lendP]
    split
    · rename_i old cs hb
      obtain ⟨g, k, hp, rfl⟩ := pt_open hx hb
      obtain ⟨_, g', k', hp', hown, hcells⟩ := h.blk b _ hb
      rw [hp] at hp'; obtain ⟨rfl, rfl⟩ : g = g' ∧ k = k' := by simpa using hp'
      have hU' := hU rfl
      have hg := hU' g ⟨b, _, hb, rfl, .inl ⟨k, hp⟩⟩
      have key : ∀ (j : Nat) (d : D), ((cs.map (lendC fr.heap)).drop o)[j]? = some d → ∃ u, w.cell? ⟨g, k + o + j, none⟩ = some u ∧ RepS w X' d u := fun j d hj => by
        rw [List.getElem?_drop, List.getElem?_map, Option.map_eq_some_iff] at hj
        obtain ⟨x, hx, rfl⟩ := hj
        obtain ⟨u, q1, q2⟩ := hcells _ x hx
        exact ⟨u, by rw [Nat.add_assoc]; exact q1, lendC_sound h hX (fun _ => hU') q2⟩
      refine .ptr _ _ (fun j => (w.cell? ⟨g, k + o + j, none⟩).getD undef) (fun j d hj => ?_) fun j d hj => ?_
      · obtain ⟨u, q1, q2⟩ := key j d hj
        exact ⟨rfl, hg, by simp only [q1, Option.getD_some]⟩
      · obtain ⟨u, q1, q2⟩ := key j d hj
        rw [q1]; exact q2
    · exact .gone _
  | ep b i o =>
    simp only [lendP]
    split
    · rename_i old sz els hb
      split
      · rename_i el hel
        obtain ⟨g, k, hp, rfl⟩ := ep_open hx hb
        obtain ⟨φ, r1, r2, _, _, r5, r3⟩ := h.blk b _ hb
        obtain ⟨_, t1, t2⟩ := r3 g k hp
        have hg := hU rfl g ⟨b, _, hb, rfl, .inl ⟨k, hp⟩⟩
        have key : ∀ (j : Nat) (d : D), (lentL (el.drop o))[j]? = some d → ∃ u, w.cell? ⟨g, k + i * sz + o + j, none⟩ = some u ∧ RepS w X' d u := fun j d hj => by
          obtain ⟨d0, hj0, rfl⟩ := lentL_get hj
          rw [List.getElem?_drop] at hj0
          obtain ⟨u, q1, q2⟩ := t2 i _ el d0 hel hj0
          exact ⟨u, by rw [Nat.add_assoc]; exact q1, q2.lent hX fun _ x hx => hU rfl x ⟨b, _, hb, rfl, .inr (r5 _ _ x ⟨el, d0, hel, hj0⟩ hx)⟩⟩
        refine .ptr _ _ (fun j => (w.cell? ⟨g, k + i * sz + o + j, none⟩).getD undef) (fun j d hj => ?_) fun j d hj => ?_
        · obtain ⟨u, q1, q2⟩ := key j d hj
          exact ⟨rfl, hg, by simp only [q1, Option.getD_some]⟩
        · obtain ⟨u, q1, q2⟩ := key j d hj
          rw [q1]; exact q2
      · exact .gone _
    · exact .gone _
  | val d => exact lendC_sound h hX hU hx
  | emp sz => exact lendC_sound h hX hU hx
  | sl b o n => exact lendC_sound h hX hU hx
  | agg vs => exact lendC_sound h hX hU hx
  | tup vs => exact lendC_sound h hX hU hx
  | fn f cap => exact lendC_sound h hX hU hx
  | dead => exact lendC_sound h hX hU hx
  | anyb => exact lendC_sound h hX hU hx
theorem lendV_sound (h : FR G w0 L X0 w tm fr ρ) {X' : K → Nat → Prop} (hX : ∀ k b, b < w.heap.size → X' .lent b → XX w0 X0 fr.heap ρ k b) {x : V} {v : Value} (hU : usesB x = true → ∀ g, Held fr.heap ρ g → ¬ X' .lent g)
    (hx : RepE w (XX w0 X0 fr.heap ρ) fr.heap ρ x v) : RepS w X' (lendV fr.heap x) v := by
  cases x with
  | agg vs =>
    cases hx with
    | agg vs us hs hh =>
      refine .agg _ us (by simpa using hs) fun i d v h1 h2 => ?_
      rw [List.getElem?_map, Option.map_eq_some_iff] at h1
      obtain ⟨x, hx, rfl⟩ := h1
      refine lendC_sound h hX (fun hu => hU ?_) (hh i x v hx h2)
      simp only [usesB, List.any_eq_true]
      refine ⟨x, List.mem_of_getElem? hx, ?_⟩
      cases x <;> first | rfl | simp [usesB] at hu
      
  | fn f cap =>
    cases hx with
    | fn f vs us hs hh =>
      refine .fn f _ us (by simpa using hs) fun i d v h1 h2 => ?_
      rw [List.getElem?_map, Option.map_eq_some_iff] at h1
      obtain ⟨x, hx, rfl⟩ := h1
      refine lendP_sound h hX (fun hu => hU ?_) (hh i x v hx h2)
      cases cap with
      | nil => simp at hx
      | cons a l => rfl
  | val d => exact lendP_sound h hX hU hx
  | emp sz => exact lendP_sound h hX hU hx
  | sl b o n => exact lendP_sound h hX hU hx
  | pt b o => exact lendP_sound h hX hU hx
  | ep b i o => exact lendP_sound h hX hU hx
  | tup vs => exact lendP_sound h hX hU hx
  | dead => exact lendP_sound h hX hU hx
  | anyb => exact lendP_sound h hX hU hx
end
end Go.Proofs.Ytpbonfgmiffomaa.Wm
set_option linter.unusedSimpArgs false
set_option linter.unusedVariables false
namespace Go.Proofs.Ytpbonfgmiffomaa.Wm
open Go
def takeA (H : Heap) : V → Option (D × Heap × Bool)
  | .pt b o => match look b H with
    | some (.var old cs) => match takeL true (updB b .awayV H) cs with
      | (ds, H1, f) => some (.op o ds, H1, old || f)
    | _ => none
  | .sl b o n => match look b H with
    | some (.row old sz els) => if o = 0 ∧ n = els.length then some (.ow sz (eraE els), updB b (.awayR sz els.length) H, old) else none
    | _ => none
  | .emp sz => some (.ow sz [], H, false)
  | .val d => some (eraD d, H, false)
  | _ => none
def takes (H : Heap) : List Nat → List V → Option (List (Option D) × Heap × Bool)
  | m :: ms, x :: xs => if m = 1 then (match takeA H x with
      | some (d, H1, f1) => match takes H1 ms xs with
        | some (os, H2, f2) => some (some d :: os, H2, f1 || f2)
        | none => none
      | none => none) else (match takes H ms xs with
      | some (os, H2, f2) => some (none :: os, H2, f2)
      | none => none)
  | [], [] => some ([], H, false)
  | _, _ => none
def lendEp (o i : Nat) : Option Blk → Option D
  | some (.row _ _ els) => match els[i]? with
    | some el => some (.ptr (lentL (el.drop o)))
    | none => none
  | _ => none
def lendE (H : Heap) (m : Nat) (x : V) : Option D := if m = 2 then (match x with
  | .emp sz => some (.emp sz)
  | _ => none) else (match x with
  | .ep b i o => lendEp o i (look b H)
  | x => some (lendV H x))
theorem lendE_spec {H : Heap} {m : Nat} {x : V} {d : D} (hm : m ≠ 2) (h : lendE H m x = some d) : d = lendV H x := by
  unfold lendE at h
  rw [if_neg hm] at h
  split at h
  · rename_i b i o
    have key : ∀ B : Option Blk, lendEp o i B = some d → d = (match B with
        | some (.row _ _ els) => match els[i]? with
          | some el => .ptr (lentL (el.drop o))
          | none => .gone
        | _ => .gone : D) := by
      intro B hB
      cases B with
      | none => simp [lendEp] at hB
      | some B =>
        cases B with
        | row old sz els =>
          unfold lendEp at hB
          cases he : els[i]? with
          | none => simp [he] at hB
          | some el => simpa [he, eq_comm] using hB
        | _ => simp [lendEp] at hB
    exact key _ h
  · exact (Option.some.inj h).symm
def lends (H : Heap) : List Nat → List V → List (Option D) → Option (List D)
  | m :: ms, x :: xs, o :: os => match lends H ms xs os with
    | some ds => match o with
      | some d => some (d :: ds)
      | none => match lendE H m x with
        | some d => some (d :: ds)
        | none => none
    | none => none
  | [], [], [] => some []
  | _, _, _ => none
def usesL : List Nat → List V → Bool
  | m :: ms, x :: xs => (!(m == 1) && usesB x) || usesL ms xs
  | _, _ => false
def backs (fl : Bool) (id : Nat) (H : Heap) : List Nat → List V → List D → Option Heap
  | m :: ms, x :: xs, d :: ds => if m = 1 then (match x with
      | .pt b o => match d with
        | .op o' cs => if o' = o then (match instL fl id H cs with
          | some (vs, H1, _) => match look b H1 with
            | some .awayV => backs fl (id + 100) (updB b (.var fl vs) H1) ms xs ds
            | _ => none
          | none => none) else none
        | .gone => backs fl id H ms xs ds
        | _ => none
      | .sl b _ _ => match d with
        | .gone => backs fl id H ms xs ds
        | .ow sz els => match look b H with
          | some (.awayR sz' len) => if sz' = sz ∧ len = els.length then backs fl (id + 100) (updB b (.row fl sz els) H) ms xs ds else none
          | _ => none
        | _ => none
      | .emp _ => backs fl id H ms xs ds
      | .val _ => backs fl id H ms xs ds
      | _ => none) else backs fl id H ms xs ds
  | [], [], [] => some H
  | _, _, _ => none
def GlOk (G : Nat → Option (List D)) (w : World) (X : Nat → Prop) : Prop := ∀ g cs, G g = some cs → nfL cs = true ∧ GlS w (fun _ => X) g cs
def XR (w : World) (X A R : Nat → Prop) : K → Nat → Prop := fun k b => (k = .fresh ∧ b < w.heap.size) ∨ (X b ∧ ¬ A b) ∨ R b
def flatM : List Nat → List Nat
  | [] => []
  | m :: ms => if 100 ≤ m then List.replicate (m - 100) 1 ++ flatM ms else m :: flatM ms
inductive Flat : List Nat → List Value → List Value → Prop
  | nil : Flat [] [] []
  | one (m ms v vs fs) (h : m < 100) (t : Flat ms vs fs) : Flat (m :: ms) (v :: vs) (v :: fs)
  | agg (m ms) (us : Array Value) (vs fs) (h : 100 ≤ m) (hs : us.size = m - 100) (t : Flat ms vs fs) : Flat (m :: ms) (.agg us :: vs) (us.toList ++ fs)
def flatV : List Nat → List V → Option (List V)
  | m :: ms, x :: xs => if 100 ≤ m then (match x with
      | .agg vs => if vs.length = m - 100 then (flatV ms xs).map (vs ++ ·) else none
      | _ => none) else (flatV ms xs).map (x :: ·)
  | [], [] => some []
  | _, _ => none
theorem Flat.len {ms : List Nat} {vs fs : List Value} (h : Flat ms vs fs) : vs.length = ms.length ∧ fs.length = (flatM ms).length := by
  induction h with
  | nil => exact ⟨rfl, rfl⟩
  | one m ms v vs fs h t ih =>
    simp only [flatM]; rw [if_neg (by omega)]
    exact ⟨by simp [ih.1], by simp [ih.2]⟩
  | agg m ms us vs fs h hs t ih =>
    simp only [flatM]; rw [if_pos h]
    exact ⟨by simp [ih.1], by simp [ih.2, hs]⟩
theorem flatV_sound {w : World} {X : K → Nat → Prop} {H : Heap} {ρ : Place} : ∀ {ms : List Nat} {xs : List V} {us : List Value} {ys : List V}, us.length = xs.length →
    (∀ (i : Nat) (x : V) (u : Value), xs[i]? = some x → us[i]? = some u → RepE w X H ρ x u) → flatV ms xs = some ys →
    ∃ fs, Flat ms us fs ∧ fs.length = ys.length ∧ ∀ (i : Nat) (y : V) (u : Value), ys[i]? = some y → fs[i]? = some u → RepE w X H ρ y u
  | [], [], us, ys, hl, hx, he => by
    simp only [flatV] at he
    obtain rfl := Option.some.inj he
    obtain rfl := List.eq_nil_of_length_eq_zero (by simpa using hl)
    exact ⟨[], .nil, rfl, fun i y u q => by simp at q⟩
  | m :: ms, x :: xs, us, ys, hl, hx, he => by
    obtain ⟨u, us, rfl⟩ := List.exists_cons_of_ne_nil (l := us) (by rintro rfl; simp at hl)
    have tl : ∀ (i : Nat) (y : V) (v : Value), xs[i]? = some y → us[i]? = some v → RepE w X H ρ y v := fun i y v q1 q2 => hx (i + 1) y v (by simpa using q1) (by simpa using q2)
    simp only [flatV] at he
    split at he
    · rename_i hm
      split at he
      · rename_i vs
        split at he
        · rename_i hvl
          obtain ⟨zs, hz, rfl⟩ := Option.map_eq_some_iff.1 he
          obtain ⟨fs, a1, a2, a3⟩ := flatV_sound (us := us) (by simpa using hl) tl hz
          cases hx 0 _ u rfl rfl with
          | agg vs us0 hs hh =>
            refine ⟨us0.toList ++ fs, .agg m ms us0 us fs hm (by omega) a1, by simp [a2, hs], fun i y v q1 q2 => ?_⟩
            rcases Nat.lt_or_ge i vs.length with hi | hi
            · rw [List.getElem?_append_left hi] at q1
              rw [List.getElem?_append_left (by simpa [hs] using hi)] at q2
              exact hh i y v q1 (by simpa using q2)
            · rw [List.getElem?_append_right hi] at q1
              rw [List.getElem?_append_right (by simpa [hs] using hi)] at q2
              exact a3 _ y v q1 (by simpa [hs] using q2)
        · simp at he
      · simp at he
    · rename_i hm
      obtain ⟨zs, hz, rfl⟩ := Option.map_eq_some_iff.1 he
      obtain ⟨fs, a1, a2, a3⟩ := flatV_sound (us := us) (by simpa using hl) tl hz
      refine ⟨u :: fs, .one m ms u us fs (by omega) a1, by simp [a2], fun i y v q1 q2 => ?_⟩
      cases i with
      | zero => simp at q1 q2; subst q1; subst q2; exact hx 0 x u rfl rfl
      | succ i => exact a3 i y v (by simpa using q1) (by simpa using q2)
  | [], _ :: _, us, ys, hl, hx, he => by simp [flatV] at he
  | _ :: _, [], us, ys, hl, hx, he => by simp [flatV] at he
def MainV (v : Value) (F : Nat → Prop) (g : Nat) : Prop := ((∃ a, v = .slice a 0 0) ∧ F g) ∨ ∃ k n c, v = .slice (some ⟨g, k, none⟩) n c ∧ 0 < c
def SoundFn (P : Program) (G : Nat → Option (List D)) (own : List Nat) (f : FuncId) (F : List D → Option (D × List D)) : Prop :=
  ∀ (w : World) (X : Nat → Prop) (ds : List D) (vs fs : List Value) (φ : Nat → Nat → Prop) (d : D) (outs : List D),
    Flat own vs fs → RepVs w (fun _ => X) ds fs φ → (∀ b, AllF ds.length φ b → X b) → (∀ b, X b → b < w.heap.size) → GlOk G w X → nfL ds = true → F ds = some (d, outs) →
    Calls P f vs.toArray w fun e w' => ∃ v R χ, e = .returned v ∧ Chg w w' (AllF ds.length φ) ∧
      RepV w' (XR w X (AllF ds.length φ) (fun b => R b ∨ AllF outs.length χ b)) d v R ∧ RepVs w' (XR w X (AllF ds.length φ) (fun b => R b ∨ AllF outs.length χ b)) outs fs χ ∧
      (∀ b, R b → ¬ AllF outs.length χ b) ∧ (∀ b, R b ∨ AllF outs.length χ b → AllF ds.length φ b ∨ w.heap.size ≤ b) ∧
      (∀ (i sz : Nat) (els : List (List D)) (sz' : Nat) (els' : List (List D)) (u : Value), ds[i]? = some (.ow sz els) → outs[i]? = some (.ow sz' els') → fs[i]? = some u → ∀ b, MainV u (φ i) b → χ i b)
def evc (C : Cx) (ms : List Nat) (H : Heap) (dst : Nat) (f : FuncId) (xs : List V) : Option (V × Heap) :=
  match takes H ms xs with
  | some (os, H1, fl) => match lends H1 ms xs os with
    | some ds => match C.fn f ds with
      | some (res, outs) => if usesL ms xs = true → (clean res && cleanL outs) = true then (match backs fl (bid dst + 100) H1 ms xs outs with
        | some H2 => match inst fl (bid dst) H2 res with
          | some (y, H3, _) => some (y, H3)
          | none => none
        | none => none) else none
      | none => none
    | none => none
  | none => none
section
variable {P : Program} {G : Nat → Option (List D)} {w0 : World} {L X0 X1 : Nat → Prop} {w w' w2 : World} {tm : Array Value} {fr : Fr} {ρ ρ' : Place} {X : K → Nat → Prop} {H : Heap}
def setS (b : Nat) (S : Nat → Prop) (ρ : Place) : Place := ⟨ρ.at_, fun s => if s = b then S else ρ.sub s⟩
theorem setS_at (b : Nat) (S : Nat → Prop) (ρ : Place) (s : Nat) : setS b S ρ s = ρ s := rfl
theorem setS_sub (b : Nat) (S : Nat → Prop) (ρ : Place) : (setS b S ρ).sub b = S := by simp [setS]
theorem setS_sub_ne {b s : Nat} (h : s ≠ b) (S : Nat → Prop) (ρ : Place) : (setS b S ρ).sub s = ρ.sub s := by simp [setS, h]
theorem setS_blks {b g : Nat} {S : Nat → Prop} {ρ : Place} : Blks (setS b S ρ) b g ↔ (∃ k, ρ b = some (g, k)) ∨ S g := by unfold Blks; rw [setS_sub, setS_at]
theorem setS_blks_ne {b s g : Nat} (h : s ≠ b) {S : Nat → Prop} {ρ : Place} : Blks (setS b S ρ) s g ↔ Blks ρ s g := by unfold Blks; rw [setS_sub_ne h, setS_at]
theorem Puts.revive {F : Nat → Prop} (h : FR G w0 L (fun b => X0 b ∨ F b) w tm fr ρ) {b : Nat} {B B' : Blk} {S : Nat → Prop} (hb : look b fr.heap = some B) (hl : B.live = false) (hs : B'.sh = B.sh) (hF : ∀ b, F b → ¬ X0 b ∧ ((B'.old = true ∧ L b) ∨ w0.heap.size ≤ b)) (hp : ∀ g, ((∃ k, ρ b = some (g, k)) ∨ S g) → F g)
    (hB : ∀ X' H' ρ', Stay w w (XX w0 (fun b => X0 b ∨ F b) fr.heap ρ) X' → HTr w w fr.heap H' ρ ρ' → RepB w X' H' ρ' (ρ b) S B') :
    Puts G w0 L X0 w tm fr ρ F (updB b B' fr.heap) (setS b S ρ) := by
  have lk : ∀ b' C, look b' (updB b B' fr.heap) = some C → (b' = b ∧ C = B') ∨ (b' ≠ b ∧ look b' fr.heap = some C) := fun b' C h1 => by
    by_cases hbb : b' = b
    · subst hbb; rw [look_updB_self hb] at h1; exact .inl ⟨rfl, (Option.some.inj h1).symm⟩
    · rw [look_updB_ne hbb] at h1; exact .inr ⟨hbb, h1⟩
  have sub : ∀ k g, XX w0 X0 (updB b B' fr.heap) (setS b S ρ) k g → XX w0 (fun b => X0 b ∨ F b) fr.heap ρ k g := by
    rintro k g (hx | hx | ⟨b', C, h1, h2, h3⟩)
    · exact .inl (.inl hx)
    · exact .inr (.inl hx)
    · rcases lk b' C h1 with ⟨rfl, rfl⟩ | ⟨hne, q⟩
      · rw [setS_blks] at h3; exact .inl (.inr (hp g h3))
      · rw [setS_blks_ne hne] at h3; exact .inr (.inr ⟨b', C, q, h2, h3⟩)
  have st : Stay w w (XX w0 (fun b => X0 b ∨ F b) fr.heap ρ) (XX w0 X0 (updB b B' fr.heap) (setS b S ρ)) := ⟨fun _ _ _ _ => rfl, fun k g _ hx => sub k g hx⟩
  have t : HTr w w fr.heap (updB b B' fr.heap) ρ (setS b S ρ) := by
    refine ⟨fun _ _ h => h, fun b' C h1 => ?_⟩
    by_cases hbb : b' = b
    · subst hbb; rw [hb] at h1; obtain rfl := Option.some.inj h1; exact ⟨B', look_updB_self hb, .inr ⟨rfl, hs⟩⟩
    · exact ⟨C, by rw [look_updB_ne hbb]; exact h1, .inr ⟨rfl, rfl⟩⟩
  refine ⟨h.re h.chg (fun g hg => h.x0 g (.inl hg)) st t (fun b' C h1 h2 => ?_) (fun b1 b2 B1 B2 g h1 h2 l1 l2 p1 p2 => ?_) (fun b' C g h1 h2 h3 => ?_) (fun b' C g h1 h2 h3 hx => ?_), st, t, fun s hs => ⟨?_, rfl⟩⟩
  · rcases lk b' C h1 with ⟨rfl, rfl⟩ | ⟨hne, q⟩
    · right; rw [setS_sub]; exact hB _ _ _ st t
    · exact .inl ⟨q, rfl, setS_sub_ne hne S ρ, fun _ _ => rfl⟩
  · rcases lk b1 B1 h1 with ⟨e1, _⟩ | ⟨q1, q2⟩ <;> rcases lk b2 B2 h2 with ⟨e2, _⟩ | ⟨r1, r2⟩
    · rw [e1, e2]
    · subst e1; rw [setS_blks] at p1; rw [setS_blks_ne r1] at p2; exact absurd (.inr (hp g p1)) (h.out b2 B2 g r2 l2 p2)
    · subst e2; rw [setS_blks] at p2; rw [setS_blks_ne q1] at p1; exact absurd (.inr (hp g p2)) (h.out b1 B1 g q2 l1 p1)
    · rw [setS_blks_ne q1] at p1; rw [setS_blks_ne r1] at p2; exact h.sep b1 b2 B1 B2 g q2 r2 l1 l2 p1 p2
  · rcases lk b' C h1 with ⟨rfl, rfl⟩ | ⟨hne, q⟩
    · rw [setS_blks] at h3; exact (hF g (hp g h3)).2
    · rw [setS_blks_ne hne] at h3; exact h.new b' C g q h2 h3
  · rcases lk b' C h1 with ⟨rfl, rfl⟩ | ⟨hne, q⟩
    · rw [setS_blks] at h3; exact (hF g (hp g h3)).1 hx
    · rw [setS_blks_ne hne] at h3; exact h.out b' C g q h2 h3 (.inl hx)
  · by_cases hbb : s = b
    · subst hbb; rw [look_updB_self hb]; simp
    · rw [look_updB_ne hbb]; exact hs
theorem takeA_sound (h : FR G w0 L X0 w tm fr ρ) {x : V} {v : Value} {d : D} {H' : Heap} {fl : Bool} (hx : RepE w (XX w0 X0 fr.heap ρ) fr.heap ρ x v) (he : takeA fr.heap x = some (d, H', fl)) :
    ∃ F, Took G w0 L X0 w tm fr ρ H' fl F ∧ RepV w (XX w0 X0 fr.heap ρ) d v F ∧ ∀ b o n g k, x = .sl b o n → ρ b = some (g, k) → F g ∧ OwnBlk w g k ∧ MainV v F g := by
  have hX : ∀ k b, b < w.heap.size → XX w0 X0 fr.heap ρ .lent b → XX w0 X0 fr.heap ρ k b := fun k b _ hx => XX_kind hx
  unfold takeA at he
  split at he
  · rename_i b o
    split at he
    · rename_i old cs hb
      obtain ⟨g, k, hp, rfl⟩ := pt_open hx hb
      obtain ⟨hS, g', k', hp', hown, hcells⟩ := h.blk b _ hb
      rw [hp] at hp'; obtain ⟨rfl, rfl⟩ : g = g' ∧ k = k' := by simpa using hp'
      obtain ⟨a1, a2, a3⟩ := h.kill' (C := .awayV) hb rfl rfl (.inr rfl)
      have took : Took G w0 L X0 w tm fr ρ (updB b .awayV fr.heap) old (fun g => Blks ρ b g) := ⟨a1, a2, a3, fun g hk => ⟨h.out b _ g hb rfl hk, h.new b _ g hb rfl hk⟩⟩
      cases ht : takeL true (updB b .awayV fr.heap) cs with
      | mk ds p =>
        obtain ⟨H1, f1⟩ := p
        simp only [ht] at he
        obtain ⟨rfl, rfl, rfl⟩ := by simpa using he
        have st : Stay w w (XX w0 X0 fr.heap ρ) (XX w0 (fun g => X0 g ∨ Blks ρ b g) (updB b .awayV fr.heap) ρ) := by rw [a2]; exact Stay.refl _ _
        obtain ⟨φ, b1, b2, b3⟩ := takeL_sound true (us := (List.range cs.length).map fun j => (w.cell? ⟨g, k + j, none⟩).getD undef) a1 (by simp) (fun i y v hy hv => by
          obtain ⟨hi, rfl⟩ := range_map_get hv
          obtain ⟨u, q1, q2⟩ := hcells i y hy
          rw [q1]; exact q2.tr st a3) ht
        obtain ⟨c1, c2⟩ := took.trans b1
        rw [a2] at b2
        refine ⟨_, c1, .op o ds g k φ _ (fun x => ?_) b2.2.1 (fun hh => c2 g (.inl ⟨k, hp⟩) hh) (by rw [b3]; exact hown) (fun j => (w.cell? ⟨g, k + j, none⟩).getD undef) (fun j d hj => ?_) fun j d hj => b2.2.2 j d _ hj ?_, fun b o n g k e => by simp at e⟩
        · constructor
          · rintro ((⟨k', hk⟩ | hk) | hh)
            · rw [hp] at hk; simp at hk; exact .inl hk.1.symm
            · exact absurd hk (hS x)
            · exact .inr hh
          · rintro (rfl | hh)
            · exact .inl (.inl ⟨k, hp⟩)
            · exact .inr hh
        · have hlt : j < cs.length := by rw [← b3]; exact (List.getElem?_eq_some_iff.1 hj).1
          obtain ⟨u, q1, q2⟩ := hcells j cs[j] (List.getElem?_eq_getElem hlt)
          rw [q1]; rfl
        · have hlt : j < cs.length := by rw [← b3]; exact (List.getElem?_eq_some_iff.1 hj).1
          simp [hlt]
    · simp at he
  · rename_i b o n
    split at he
    · rename_i old sz els hb
      split at he
      · rename_i hc
        obtain ⟨rfl, rfl⟩ := hc
        obtain ⟨rfl, rfl, rfl⟩ := by simpa using he
        obtain ⟨a1, a2, a3⟩ := h.kill' (C := .awayR sz els.length) hb rfl rfl (.inr rfl)
        have hr := h.row_own hx hb
        simp only [List.drop_zero, List.take_length] at hr
        refine ⟨fun g => Blks ρ b g, ⟨a1, a2, a3, fun g hk => ⟨h.out b _ g hb rfl hk, h.new b _ g hb rfl hk⟩⟩, .ow _ _ _ _ (hr.era hX), fun b' o' n' g k e hg => ?_⟩
        obtain ⟨rfl, _, _⟩ : b = b' ∧ _ ∧ _ := by simpa using e
        obtain ⟨φ, _, _, _, _, _, r3⟩ := h.blk b _ hb
        refine ⟨.inl ⟨k, hg⟩, (r3 g k hg).2.1.le (by omega), ?_⟩
        obtain ⟨q1, A, c, rfl, q3, q4⟩ := sl_open hx hb
        rcases Nat.eq_zero_or_pos c with rfl | hc
        · have h0 : els.length = 0 := by omega
          exact .inl ⟨⟨A, by rw [h0]⟩, .inl ⟨k, hg⟩⟩
        · rcases q4 with q4 | ⟨g', k', s1, rfl, s3⟩
          · omega
          · rw [hg] at s1
            obtain ⟨rfl, rfl⟩ : g = g' ∧ k = k' := by simpa using s1
            exact .inr ⟨_, _, _, rfl, hc⟩
      · simp at he
    · simp at he
  · obtain ⟨rfl, rfl, rfl⟩ := by simpa using he
    cases hx with
    | emp sz a => exact ⟨E, Took.none h fun b hb => hb, .ow _ _ _ _ (.own0 _ _ _ fun b hb => hb.elim), fun b o n g k e => by simp at e⟩
  · obtain ⟨rfl, rfl, rfl⟩ := by simpa using he
    cases hx with
    | val d v hx => exact ⟨E, Took.none h fun b hb => hb, .plain _ _ _ (fun b hb => hb) (by have := eD_sound (er := true) hX hx; simpa [eD] using this), fun b o n g k e => by simp at e⟩
  · simp at he
theorem takes_sound : ∀ {ms : List Nat} {xs : List V} {us : List Value} {X0 : Nat → Prop} {fr : Fr} {os : List (Option D)} {H' : Heap} {fl : Bool}, FR G w0 L X0 w tm fr ρ → us.length = xs.length →
    (∀ (i : Nat) (x : V) (u : Value), xs[i]? = some x → us[i]? = some u → RepE w (XX w0 X0 fr.heap ρ) fr.heap ρ x u) → takes fr.heap ms xs = some (os, H', fl) →
    ∃ ψ, Took G w0 L X0 w tm fr ρ H' fl (AllF os.length ψ) ∧ os.length = xs.length ∧ Disj os.length ψ ∧ (∀ (i : Nat) (d : D) (u : Value), os[i]? = some (some d) → us[i]? = some u → RepV w (XX w0 X0 fr.heap ρ) d u (ψ i)) ∧
      (∀ (i : Nat), os[i]? = some none → ∀ b, ¬ ψ i b) ∧ (∀ (i : Nat) (b o n g k : Nat) (u : Value), xs[i]? = some (.sl b o n) → us[i]? = some u → ms[i]? = some 1 → ρ b = some (g, k) → ψ i g ∧ OwnBlk w g k ∧ MainV u (ψ i) g) ∧ (∀ (i : Nat), ms[i]? = some 1 → ∃ d : D, os[i]? = some (some d))
  | [], [], us, X0, fr, os, H', fl, h, hl, hx, he => by
    simp only [takes] at he
    obtain ⟨rfl, rfl, rfl⟩ := by simpa using he
    exact ⟨fun _ => E, Took.none h fun b ⟨_, hi, _⟩ => by simp at hi, rfl, fun i j b hi => by simp at hi, fun i d u hd => by simp at hd, fun i hd => by simp at hd, fun i b o n g k u hd => by simp at hd, fun i hd => by simp at hd⟩
  | m :: ms, x :: xs, us, X0, fr, os, H', fl, h, hl, hx, he => by
    obtain ⟨u, us, rfl⟩ := List.exists_cons_of_ne_nil (l := us) (by rintro rfl; simp at hl)
    simp only [takes] at he
    split at he
    · rename_i hm
      split at he
      · rename_i d H1 f1 h1
        split at he
        · rename_i os' H2 f2 h2
          obtain ⟨rfl, rfl, rfl⟩ := by simpa using he
          obtain ⟨F, a1, a2, a3⟩ := takeA_sound h (hx 0 x u rfl rfl) h1
          have st : Stay w w (XX w0 X0 fr.heap ρ) (XX w0 (fun g => X0 g ∨ F g) H1 ρ) := by rw [a1.2.1]; exact Stay.refl _ _
          obtain ⟨ψ, b1, b2, b3, b4, b5, b6, b7⟩ := takes_sound (us := us) a1.1 (by simpa using hl) (fun i y v hy hv => (hx (i + 1) y v (by simpa using hy) (by simpa using hv)).tr st a1.2.2.1) h2
          obtain ⟨c1, c2⟩ := a1.trans b1
          simp only [a1.2.1] at b4
          have e : (fun b => F b ∨ AllF os'.length ψ b) = AllF (some d :: os').length (consF F ψ) := by funext b; exact propext (allF_cons (n := os'.length)).symm
          rw [e] at c1
          refine ⟨consF F ψ, c1, by simp [b2], disj_cons b3 c2, fun i d' u' h1 h2 => ?_, fun i h1 => ?_, fun i b o n g k u' h1 hu h2 h3 => ?_, fun i h1 => ?_⟩
          · cases i with
            | zero => simp at h1 h2; subst h1; subst h2; exact a2
            | succ i => exact b4 i d' u' (by simpa using h1) (by simpa using h2)
          · cases i with
            | zero => simp at h1
            | succ i => exact b5 i (by simpa using h1)
          · cases i with
            | zero => simp at h1 hu; subst hu; exact a3 b o n g k h1 h3
            | succ i => exact b6 i b o n g k u' (by simpa using h1) (by simpa using hu) (by simpa using h2) h3
          · cases i with
            | zero => exact ⟨d, rfl⟩
            | succ i => exact b7 i (by simpa using h1)
        · simp at he
      · simp at he
    · rename_i hm
      split at he
      · rename_i os' H2 f2 h2
        obtain ⟨rfl, rfl, rfl⟩ := by simpa using he
        obtain ⟨ψ, b1, b2, b3, b4, b5, b6, b7⟩ := takes_sound (us := us) h (by simpa using hl) (fun i y v hy hv => hx (i + 1) y v (by simpa using hy) (by simpa using hv)) h2
        have e : AllF os'.length ψ = AllF ((none : Option D) :: os').length (consF E ψ) := by
          funext b
          refine propext ((allF_cons (F := E) (n := os'.length)).trans ?_).symm
          exact ⟨fun h => h.resolve_left (fun h => h), .inr⟩
        rw [e] at b1
        refine ⟨consF E ψ, b1, by simp [b2], disj_cons b3 (fun b hb => hb.elim), fun i d' u' h1 h2 => ?_, fun i h1 => ?_, fun i b o n g k u' h1 hu h2 h3 => ?_, fun i h1 => ?_⟩
        · cases i with
          | zero => simp at h1
          | succ i => exact b4 i d' u' (by simpa using h1) (by simpa using h2)
        · cases i with
          | zero => exact fun b hb => hb
          | succ i => exact b5 i (by simpa using h1)
        · cases i with
          | zero => simp at h2; exact absurd h2 hm
          | succ i => exact b6 i b o n g k u' (by simpa using h1) (by simpa using hu) (by simpa using h2) h3
        · cases i with
          | zero => simp at h1; exact absurd h1 hm
          | succ i => exact b7 i (by simpa using h1)
      · simp at he
  | [], _ :: _, us, X0, fr, os, H', fl, h, hl, hx, he => by simp [takes] at he
  | _ :: _, [], us, X0, fr, os, H', fl, h, hl, hx, he => by simp [takes] at he
end
end Go.Proofs.Ytpbonfgmiffomaa.Wm
set_option linter.unusedSimpArgs false
set_option linter.unusedVariables false
namespace Go.Proofs.Ytpbonfgmiffomaa.Wm
open Go
section
variable {P : Program} {G : Nat → Option (List D)} {w0 : World} {L X0 X1 : Nat → Prop} {w w' w2 : World} {tm : Array Value} {fr : Fr} {ρ ρ' : Place} {X : K → Nat → Prop} {H : Heap}
theorem lends_sound (h : FR G w0 L X0 w tm fr ρ) {Xc : Nat → Prop} (hX : ∀ k b, b < w.heap.size → Xc b → XX w0 X0 fr.heap ρ k b) :
    ∀ {ms : List Nat} {xs : List V} {us : List Value} {os : List (Option D)} {ds : List D} {ψ : Nat → Nat → Prop}, us.length = xs.length →
    (∀ (i : Nat) (x : V) (u : Value), xs[i]? = some x → us[i]? = some u → RepE w (XX w0 X0 fr.heap ρ) fr.heap ρ x u) → Disj os.length ψ →
    (∀ (i : Nat) (d : D) (u : Value), os[i]? = some (some d) → us[i]? = some u → RepV w (XX w0 X0 fr.heap ρ) d u (ψ i)) → (∀ (i : Nat), os[i]? = some none → ∀ b, ¬ ψ i b) →
    (∀ (i : Nat), ms[i]? = some 1 → ∃ d : D, os[i]? = some (some d)) → (usesL ms xs = true → ∀ g, Held fr.heap ρ g → ¬ Xc g) → lends fr.heap ms xs os = some ds →
    RepVs w (fun _ => Xc) ds us ψ ∧ ds.length = os.length ∧ ∀ (i : Nat) (d : D), os[i]? = some (some d) → ds[i]? = some d
  | [], [], us, [], ds, ψ, hl, hx, hd, ho, hn, hm, hU, he => by
    simp only [lends] at he
    obtain rfl := Option.some.inj he
    obtain rfl := List.eq_nil_of_length_eq_zero (by simpa using hl)
    exact ⟨repVs_nil, rfl, fun i d h => by simp at h⟩
  | m :: ms, x :: xs, us, o :: os, ds, ψ, hl, hx, hd, ho, hn, hm, hU, he => by
    obtain ⟨u, us, rfl⟩ := List.exists_cons_of_ne_nil (l := us) (by rintro rfl; simp at hl)
    simp only [lends] at he
    split at he
    · rename_i ds' h1
      have zst : Stay w w (XX w0 X0 fr.heap ρ) (fun _ => Xc) := ⟨fun _ _ _ _ => rfl, hX⟩
      have hU' : usesL ms xs = true → ∀ g, Held fr.heap ρ g → ¬ Xc g := fun q => hU (by simp [usesL, q])
      obtain ⟨a1, a2, a3⟩ := lends_sound h hX (us := us) (ψ := fun i => ψ (i + 1)) (by simpa using hl) (fun i y v hy hv => hx (i + 1) y v (by simpa using hy) (by simpa using hv))
        (fun i j b hi hj q1 q2 => by have := hd (i + 1) (j + 1) b (by simpa using hi) (by simpa using hj) q1 q2; omega)
        (fun i d v q1 q2 => ho (i + 1) d v (by simpa using q1) (by simpa using q2)) (fun i q1 => hn (i + 1) (by simpa using q1)) (fun i q1 => by simpa using hm (i + 1) (by simpa using q1)) hU' h1
      have fin : ∀ d, RepV w (fun _ => Xc) d u (ψ 0) → RepVs w (fun _ => Xc) (d :: ds') (u :: us) ψ := fun d hd0 => by
        have := RepVs.cons hd0 a1 (fun b hb ⟨i, hi, hb'⟩ => by
          have := hd 0 (i + 1) b (by simp) (by simpa [a2] using hi) hb hb'
          omega)
        refine ⟨this.1, fun i j b hi hj q1 q2 => hd i j b (by simpa [a2] using hi) (by simpa [a2] using hj) q1 q2, fun i d' v' q1 q2 => ?_⟩
        cases i with
        | zero => exact this.2.2 0 d' v' q1 q2
        | succ i => exact this.2.2 (i + 1) d' v' q1 q2
      split at he
      · rename_i d
        obtain rfl := Option.some.inj he
        refine ⟨fin d ((ho 0 d u rfl rfl).stay zst fun _ _ => rfl), by simp [a2], fun i d' q => ?_⟩
        cases i with
        | zero => simpa using q
        | succ i => exact a3 i d' (by simpa using q)
      · split at he
        · rename_i d hle
          obtain rfl := Option.some.inj he
          have hm1 : m ≠ 1 := fun e => by
            obtain ⟨d, hd⟩ := hm 0 (by simp [e])
            simp at hd
          refine ⟨fin d (.plain d u _ (hn 0 rfl) ?_), by simp [a2], fun i d' q => ?_⟩
          · by_cases hm2 : m = 2
            · unfold lendE at hle
              rw [if_pos hm2] at hle
              split at hle
              · obtain rfl := Option.some.inj hle
                have := hx 0 _ u rfl rfl
                cases this with
                | emp _ a => exact .emp _ a
              · simp at hle
            · obtain rfl := lendE_spec hm2 hle
              exact lendV_sound h (fun k b hb q => hX k b hb q) (fun hu => hU (by simp [usesL, hm1, hu])) (hx 0 x u rfl rfl)
          · cases i with
            | zero => simp at q
            | succ i => exact a3 i d' (by simpa using q)
        · simp at he
    · simp at he
  | [], _ :: _, us, os, ds, ψ, hl, hx, hd, ho, hn, hm, hU, he => by simp [lends] at he
  | _ :: _, [], us, os, ds, ψ, hl, hx, hd, ho, hn, hm, hU, he => by simp [lends] at he
  | _ :: _, _ :: _, us, [], ds, ψ, hl, hx, hd, ho, hn, hm, hU, he => by simp [lends] at he
  | [], [], us, _ :: _, ds, ψ, hl, hx, hd, ho, hn, hm, hU, he => by simp [lends] at he
theorem takeC_nf {H H' : Heap} {x : V} {d : D} {fl : Bool} (h : takeC true H x = (d, H', fl)) : nf d = true := by
  unfold takeC at h
  split at h
  · obtain ⟨rfl, _⟩ := by simpa using h
    exact eraD_nf _
  · obtain ⟨rfl, _⟩ := by simpa using h
    rfl
  · split at h
    · obtain ⟨rfl, _⟩ := by simpa using h
      simp only [nf]; exact eraE_nf _
    · obtain ⟨rfl, _⟩ := by simpa using h
      rfl
  · obtain ⟨rfl, _⟩ := by simpa using h
    rfl
  · obtain ⟨rfl, _⟩ := by simpa using h
    rfl
theorem takeL_nf : ∀ {xs : List V} {H H' : Heap} {ds : List D} {fl : Bool}, takeL true H xs = (ds, H', fl) → nfL ds = true
  | [], H, H', ds, fl, h => by
    simp only [takeL] at h
    obtain ⟨rfl, _⟩ := by simpa using h
    rfl
  | x :: xs, H, H', ds, fl, h => by
    simp only [takeL] at h
    cases h1 : takeC true H x with
    | mk d p =>
      obtain ⟨H1, f1⟩ := p
      simp only [h1] at h
      cases h2 : takeL true H1 xs with
      | mk ds' p2 =>
        obtain ⟨H2, f2⟩ := p2
        simp only [h2] at h
        obtain ⟨rfl, _⟩ := by simpa using h
        simp only [nfL, Bool.and_eq_true]
        exact ⟨takeC_nf h1, takeL_nf h2⟩
theorem takeA_nf {H H' : Heap} {x : V} {d : D} {fl : Bool} (h : takeA H x = some (d, H', fl)) : nf d = true := by
  unfold takeA at h
  split at h
  · rename_i b o
    split at h
    · rename_i old cs _
      cases h1 : takeL true (updB b .awayV H) cs with
      | mk ds p =>
        obtain ⟨H1, f1⟩ := p
        simp only [h1] at h
        obtain ⟨rfl, _⟩ := by simpa using h
        simp only [nf]; exact takeL_nf h1
    · simp at h
  · split at h
    · split at h
      · obtain ⟨rfl, _⟩ := by simpa using h
        simp only [nf]; exact eraE_nf _
      · simp at h
    · simp at h
  · obtain ⟨rfl, _⟩ := by simpa using h
    rfl
  · obtain ⟨rfl, _⟩ := by simpa using h
    exact eraD_nf _
  · simp at h
theorem takes_nf : ∀ {ms : List Nat} {xs : List V} {H H' : Heap} {os : List (Option D)} {fl : Bool}, takes H ms xs = some (os, H', fl) → ∀ d, some d ∈ os → nf d = true
  | [], [], H, H', os, fl, he, d, hd => by simp [takes] at he; obtain ⟨rfl, _, _⟩ := he; simp at hd
  | m :: ms, x :: xs, H, H', os, fl, he, d, hd => by
    simp only [takes] at he
    split at he
    · split at he
      · rename_i h1
        split at he
        · rename_i h2
          obtain ⟨rfl, rfl, rfl⟩ := by simpa using he
          rcases List.mem_cons.1 hd with e | hd
          · obtain rfl := Option.some.inj e
            exact takeA_nf h1
          · exact takes_nf h2 d hd
        · simp at he
      · simp at he
    · split at he
      · rename_i h2
        obtain ⟨rfl, rfl, rfl⟩ := by simpa using he
        rcases List.mem_cons.1 hd with e | hd
        · simp at e
        · exact takes_nf h2 d hd
      · simp at he
  | [], _ :: _, H, H', os, fl, he, d, hd => by simp [takes] at he
  | _ :: _, [], H, H', os, fl, he, d, hd => by simp [takes] at he
theorem lends_nf : ∀ {ms : List Nat} {xs : List V} {os : List (Option D)} {ds : List D}, lends H ms xs os = some ds → (∀ d, some d ∈ os → nf d = true) → nfL ds = true
  | [], [], [], ds, he, hn => by simp only [lends] at he; obtain rfl := Option.some.inj he; rfl
  | m :: ms, x :: xs, o :: os, ds, he, hn => by
    simp only [lends] at he
    split at he
    · rename_i ds' h1
      have ih := lends_nf h1 fun d hd => hn d (List.mem_cons_of_mem _ hd)
      split at he
      · rename_i d
        obtain rfl := Option.some.inj he
        simp only [nfL, Bool.and_eq_true]
        exact ⟨hn d (by simp), ih⟩
      · split at he
        · rename_i d hle
          obtain rfl := Option.some.inj he
          simp only [nfL, Bool.and_eq_true]
          refine ⟨?_, ih⟩
          by_cases hm2 : m = 2
          · unfold lendE at hle
            rw [if_pos hm2] at hle
            split at hle
            · obtain rfl := Option.some.inj hle; rfl
            · simp at hle
          · obtain rfl := lendE_spec hm2 hle
            exact lendV_nf _ _
        · simp at he
    · simp at he
  | [], _ :: _, os, ds, he, hn => by simp [lends] at he
  | _ :: _, [], os, ds, he, hn => by simp [lends] at he
  | _ :: _, _ :: _, [], ds, he, hn => by simp [lends] at he
  | [], [], _ :: _, ds, he, hn => by simp [lends] at he
theorem backs_sound {fl : Bool} {Z : K → Nat → Prop} : ∀ {ms : List Nat} {xs : List V} {us : List Value} {ds : List D} {χ : Nat → Nat → Prop} {fr : Fr} {ρ : Place} {id : Nat} {H' : Heap},
    FR G w0 L (fun b => X0 b ∨ AllF ds.length χ b) w tm fr ρ → (∀ b, AllF ds.length χ b → ¬ X0 b ∧ ((fl = true ∧ L b) ∨ w0.heap.size ≤ b)) → RepVs w Z ds us χ →
    (∀ k b, b < w.heap.size → XX w0 (fun b => X0 b ∨ AllF ds.length χ b) fr.heap ρ k b → Z k b) →
    (∀ (i : Nat) (x : V) (u : Value), xs[i]? = some x → us[i]? = some u → ∃ X, RepE w X fr.heap ρ x u) →
    (∀ (i : Nat) (b o n g k sz : Nat) (els : List (List D)), xs[i]? = some (.sl b o n) → ms[i]? = some 1 → ds[i]? = some (.ow sz els) → ρ b = some (g, k) → χ i g ∧ OwnBlk w g k) →
    backs fl id fr.heap ms xs ds = some H' → ∃ ρ', Puts G w0 L X0 w tm fr ρ (AllF ds.length χ) H' ρ'
  | [], [], us, [], χ, fr, ρ, id, H', h, hF, hr, hZ, hx, hsl, he => by
    simp only [backs] at he
    obtain rfl := Option.some.inj he
    exact ⟨ρ, Puts.nil h⟩
  | m :: ms, x :: xs, us, d :: ds, χ, fr, ρ, id, H', h, hF, hr, hZ, hx, hsl, he => by
    obtain ⟨u, us, rfl⟩ := List.exists_cons_of_ne_nil (l := us) (by rintro rfl; have := hr.1; simp at this)
    obtain ⟨t1, t2, t3, t4⟩ := hr.tail
    have hlen : (d :: ds).length = ds.length + 1 := rfl
    have e1 : AllF (d :: ds).length χ = fun b => χ 0 b ∨ AllF ds.length (fun i => χ (i + 1)) b := by funext b; exact propext (t4 b)
    have h1 : FR G w0 L (fun b => (X0 b ∨ AllF ds.length (fun i => χ (i + 1)) b) ∨ χ 0 b) w tm fr ρ := by
      have : (fun b => X0 b ∨ AllF (d :: ds).length χ b) = fun b => (X0 b ∨ AllF ds.length (fun i => χ (i + 1)) b) ∨ χ 0 b := by
        rw [e1]; funext b; simp only [or_assoc, or_comm, or_left_comm]
      rw [← this]; exact h
    have hF0 : ∀ b, χ 0 b → ¬ (X0 b ∨ AllF ds.length (fun i => χ (i + 1)) b) ∧ ((fl = true ∧ L b) ∨ w0.heap.size ≤ b) := fun b hb => by
      obtain ⟨q1, q2⟩ := hF b ((t4 b).2 (.inl hb))
      exact ⟨fun q => q.elim q1 (t3 b hb), q2⟩
    have hFt : ∀ b, AllF ds.length (fun i => χ (i + 1)) b → ¬ X0 b ∧ ((fl = true ∧ L b) ∨ w0.heap.size ≤ b) := fun b hb => hF b ((t4 b).2 (.inr hb))
    have hZ1 : ∀ k b, b < w.heap.size → XX w0 (fun b => (X0 b ∨ AllF ds.length (fun i => χ (i + 1)) b) ∨ χ 0 b) fr.heap ρ k b → Z k b := fun k b hb q => by
      refine hZ k b hb ?_
      rcases q with (q | q) | q
      · rcases q with q | q
        · exact .inl (.inl q)
        · exact .inl (.inr ((t4 b).2 (.inr q)))
      · exact .inl (.inr ((t4 b).2 (.inl q)))
      · exact .inr q
    have go : ∀ {H1 : Heap} {id : Nat}, (∃ ρ1, Puts G w0 L (fun b => X0 b ∨ AllF ds.length (fun i => χ (i + 1)) b) w tm fr ρ (χ 0) H1 ρ1) → backs fl id H1 ms xs ds = some H' → ∃ ρ', Puts G w0 L X0 w tm fr ρ (AllF (d :: ds).length χ) H' ρ' := by
      intro H1 id hp hb
      obtain ⟨ρ1, p1, p2, p3, p4⟩ := hp
      have hsl' : ∀ (i : Nat) (b o n g k sz : Nat) (els : List (List D)), xs[i]? = some (.sl b o n) → ms[i]? = some 1 → ds[i]? = some (.ow sz els) → ρ1 b = some (g, k) → χ (i + 1) g ∧ OwnBlk w g k := fun i b o n g k sz els q1 q2 q4 q3 => by
        have hul : us.length = ds.length := by have := hr.1; simpa using this
        rcases Nat.lt_or_ge i us.length with hi | hi
        · obtain ⟨X, hxx⟩ := hx (i + 1) _ us[i] (by simpa using q1) (by simp [hi])
          have : look b fr.heap ≠ none := by
            cases hxx with
            | sl b o n v B hb h => rw [hb]; simp
          rw [(p4 b this).2] at q3
          exact hsl (i + 1) b o n g k sz els (by simpa using q1) (by simpa using q2) (by simpa using q4) q3
        · exfalso
          have : ∀ {id : Nat} {H1 : Heap} {ms : List Nat} {xs : List V} {ds : List D}, backs fl id H1 ms xs ds = some H' → xs.length = ds.length := by
            intro id H1 ms
            induction ms generalizing id H1 with
            | nil => intro xs ds hb; cases xs <;> cases ds <;> simp [backs] at hb ⊢
            | cons m ms ih =>
              intro xs ds hb
              cases xs with
              | nil => simp [backs] at hb
              | cons x xs => cases ds with
                | nil => simp [backs] at hb
                | cons d ds =>
                  simp only [backs] at hb
                  simp only [List.length_cons, Nat.add_right_cancel_iff]
                  (repeat' split at hb) <;> first | exact ih hb | (simp at hb; done)
          have := this hb
          have : i < xs.length := (List.getElem?_eq_some_iff.1 q1).1
          omega
      obtain ⟨ρ', r1⟩ := backs_sound (us := us) (ds := ds) (χ := fun i => χ (i + 1)) (Z := Z) p1 hFt t2 (fun k b hb q => hZ1 k b hb (by
          have := p2.off k b hb
          rcases q with (q | q) | q
          · exact this (.inl (.inl q))
          · exact this (.inl (.inr q))
          · exact this (.inr q))) (fun i y v hy hv => by
            obtain ⟨X, q⟩ := hx (i + 1) y v (by simpa using hy) (by simpa using hv)
            exact ⟨_, q.tr (Stay.refl _ _) p3⟩) hsl' hb
      exact ⟨ρ', by rw [e1]; exact Puts.trans ⟨p1, p2, p3, p4⟩ r1⟩
    have skip : ∀ {id : Nat}, backs fl id fr.heap ms xs ds = some H' → ∃ ρ', Puts G w0 L X0 w tm fr ρ (AllF (d :: ds).length χ) H' ρ' := fun hb => go ⟨ρ, Puts.nil h1⟩ hb
    simp only [backs] at he
    split at he
    · rename_i hm
      subst hm
      split at he
      · rename_i b o
        split at he
        · rename_i o' cs
          split at he
          · rename_i ho
            subst ho
            split at he
            · rename_i vs H1 n hin
              split at he
              · rename_i hlk
                refine go ?_ he
                cases t1 with
                | plain _ _ _ hF h => cases h
                | op o cs g k φ F hFF hdj hg how vf hm hh =>
                have eF : χ 0 = fun x => AllF cs.length φ x ∨ x = g := by funext x; exact propext ((hFF x).trans or_comm)
                have gF : χ 0 g := (hFF g).2 (.inl rfl)
                have us' : RepVs w Z cs ((List.range cs.length).map vf) φ := ⟨by simp, hdj, fun i d v q1 q2 => by obtain ⟨_, rfl⟩ := range_map_get q2; exact hh i d q1⟩
                obtain ⟨ρ1, p, r2, r3⟩ := instL_sound (fl := fl) (X0 := fun b => (X0 b ∨ AllF ds.length (fun i => χ (i + 1)) b) ∨ b = g) (φ := φ) (Z := Z) (ds := cs) (us := (List.range cs.length).map vf) (fr := fr) (ρ := ρ) (w := w) (w0 := w0) (tm := tm) (G := G) (L := L)
                  (by
                    have : (fun b => (X0 b ∨ AllF ds.length (fun i => χ (i + 1)) b) ∨ χ 0 b) = fun b => ((X0 b ∨ AllF ds.length (fun i => χ (i + 1)) b) ∨ b = g) ∨ AllF cs.length φ b := by
                      rw [eF]; funext b; simp only [or_assoc, or_comm, or_left_comm]
                    rw [← this]; exact h1)
                  (fun b hb => by
                    obtain ⟨q1, q2⟩ := hF0 b ((hFF b).2 (.inr hb))
                    exact ⟨fun q => q.elim q1 fun e => hg (by rw [← e]; exact hb), q2⟩)
                  us' (fun k b hb q => hZ1 k b hb (by
                    rcases q with (q | q) | q
                    · rcases q with q | q
                      · exact .inl (.inl q)
                      · exact .inl (.inr (by rw [q]; exact gF))
                    · exact .inl (.inr ((hFF b).2 (.inr q)))
                    · exact .inr q)) hin
                obtain ⟨X, hxx⟩ := hx 0 _ _ rfl rfl
                have hx1 := hxx.tr (Stay.refl _ _) p.2.2.1
                have hpb : ρ1 b = some (g, k) := by
                  cases hx1 with
                  | pt _ _ _ B hb hpt =>
                    rw [hlk] at hb
                    obtain rfl := Option.some.inj hb
                    obtain ⟨g', k', q1, q2⟩ := hpt
                    simp at q2
                    obtain ⟨rfl, q3⟩ := q2
                    obtain rfl : k = k' := by omega
                    exact q1
                have p2 := Puts.revive (X0 := fun b => X0 b ∨ AllF ds.length (fun i => χ (i + 1)) b) (F := fun x => x = g) (B' := .var fl vs) (S := noB) p.1 hlk rfl rfl (fun x hx => by subst hx; exact hF0 x gF) (fun g' e => by
                    rcases e with ⟨k', e⟩ | e
                    · rw [hpb] at e; simp at e; exact e.1.symm
                    · exact e.elim)
                  (fun X' H' ρ' st t => ⟨fun x hx => hx.elim, g, k, hpb, by rw [r2]; exact how, fun j x hj => by
                    have hlt : j < cs.length := by rw [← r2]; exact (List.getElem?_eq_some_iff.1 hj).1
                    exact ⟨vf j, hm j cs[j] (List.getElem?_eq_getElem hlt), (r3 j x (vf j) hj (by simp [hlt])).tr st t⟩⟩)
                rw [eF]
                exact ⟨_, Puts.trans p p2⟩
              · simp at he
            · simp at he
          · simp at he
        · exact skip he
        · simp at he
      · rename_i b o n
        split at he
        · exact skip he
        · rename_i sz els
          split at he
          · rename_i sz' len hlk
            split at he
            · rename_i hc
              obtain ⟨rfl, rfl⟩ := hc
              refine go ?_ he
              obtain ⟨X, hxx⟩ := hx 0 _ _ rfl rfl
              have hpl : ∀ g k, ρ b = some (g, k) → χ 0 g ∧ OwnBlk w g k := fun g k e => hsl 0 b o n g k _ _ rfl rfl rfl e
              have nilB : els = [] → ∃ ρ1, Puts G w0 L (fun b => X0 b ∨ AllF ds.length (fun i => χ (i + 1)) b) w tm fr ρ (χ 0) (updB b (.row fl sz' els) fr.heap) ρ1 := by
                rintro rfl
                refine ⟨_, Puts.revive (S := noB) h1 hlk rfl rfl (fun x hx => hF0 x hx) (fun g e => by
                  rcases e with ⟨k, e⟩ | e
                  · exact (hpl g k e).1
                  · exact e.elim) fun X' H' ρ' st t => rowC_ofS (by simp) (.inl rfl) (fun x hx => hx.elim) fun g k e => ⟨fun hx => hx.elim, by simpa using (hpl g k e).2, fun i j el d hi => by simp at hi⟩⟩
              cases t1 with
              | plain _ _ _ hF h => cases h
              | ow sz els v F hr =>
                cases hr with
                | plain d v F hF h =>
                  cases h with
                  | sh k sz els A c vf hk => exact absurd rfl hk
                  | shn k sz hk => exact absurd rfl hk
                | own0 sz a F hF => exact nilB rfl
                | own sz els g k c φ F hF hg hs hd hcc how hz vf hm hh =>
                  cases hxx with
                  | sl _ _ _ _ B hb hsl =>
                    rw [hlk] at hb
                    obtain rfl := Option.some.inj hb
                    obtain ⟨q1, A, c', q2, q3, q4⟩ := hsl
                    simp at q2
                    obtain ⟨rfl, rfl, rfl⟩ := q2
                    rcases q4 with rfl | ⟨g', k', s1, s2, s3⟩
                    · exact nilB (List.eq_nil_of_length_eq_zero (by omega))
                    · simp at s2
                      obtain ⟨rfl, s2⟩ := s2
                      have ho : o = 0 := by omega
                      subst ho
                      simp at s2
                      subst s2
                      refine ⟨_, Puts.revive (S := fun x => χ 0 x ∧ x ≠ g) h1 hlk rfl rfl (fun x hx => hF0 x hx) (fun x e => by
                        rcases e with ⟨k', e⟩ | e
                        · rw [s1] at e; simp at e; obtain ⟨rfl, rfl⟩ := e; exact hg
                        · exact e.1) fun X' H' ρ' st t => ?_⟩
                      refine ⟨φ, hz, .inr (by rw [s1]; simp), fun x hx => hF x hx.1, hd, fun i j x q p => hs i j x q p, fun g2 k2 e => ?_⟩
                      rw [s1] at e
                      simp at e
                      obtain ⟨rfl, rfl⟩ := e
                      refine ⟨fun hx => hx.2 rfl, how.le (by have := Nat.mul_le_mul_right sz' hcc; omega), fun i j el d h1 h2 => ⟨_, hm i j el d h1 h2, (hh i j el d h1 h2).stay ⟨fun _ _ _ _ => rfl, fun k b hb q => hZ1 k b hb (st.off k b hb q)⟩ fun _ _ => rfl⟩⟩
            · simp at he
          · simp at he
        · simp at he
      · exact skip he
      · exact skip he
      · simp at he
    · exact skip he
  | [], _ :: _, us, ds, χ, fr, ρ, id, H', h, hF, hr, hZ, hx, hsl, he => by simp [backs] at he
  | _ :: _, [], us, ds, χ, fr, ρ, id, H', h, hF, hr, hZ, hx, hsl, he => by simp [backs] at he
  | _ :: _, _ :: _, us, [], χ, fr, ρ, id, H', h, hF, hr, hZ, hx, hsl, he => by simp [backs] at he
  | [], [], us, _ :: _, χ, fr, ρ, id, H', h, hF, hr, hZ, hx, hsl, he => by simp [backs] at he
end
end Go.Proofs.Ytpbonfgmiffomaa.Wm
set_option linter.unusedSimpArgs false
set_option linter.unusedVariables false
namespace Go.Proofs.Ytpbonfgmiffomaa.Wm
open Go
section
variable {P : Program} {G : Nat → Option (List D)} {w0 : World} {L X0 X1 : Nat → Prop} {w w' w2 : World} {tm : Array Value} {fr : Fr} {ρ ρ' : Place} {X : K → Nat → Prop} {H : Heap}
theorem repVs_iff {Z Z' : K → Nat → Prop} {ds : List D} {us : List Value} {χ : Nat → Nat → Prop} (h : RepVs w Z ds us χ) (hh : ∀ (i : Nat) (d : D) (v : Value), ds[i]? = some d → RepV w Z d v (χ i) → RepV w Z' d v (χ i)) : RepVs w Z' ds us χ :=
  ⟨h.1, h.2.1, fun i d v q1 q2 => hh i d v q1 (h.2.2 i d v q1 q2)⟩
theorem takes_none : ∀ {ms : List Nat} {xs : List V} {H H' : Heap} {os : List (Option D)} {fl : Bool}, ms.contains 1 = false → takes H ms xs = some (os, H', fl) → ∀ (i : Nat) (o : Option D), os[i]? = some o → o = none
  | [], [], H, H', os, fl, hm, he, i, o, hi => by simp [takes] at he; obtain ⟨rfl, _, _⟩ := he; simp at hi
  | m :: ms, x :: xs, H, H', os, fl, hm, he, i, o, hi => by
    have hm1 : m ≠ 1 := fun e => by subst e; simp at hm
    have hms : ms.contains 1 = false := by simp at hm ⊢; exact hm.2
    simp only [takes, if_neg hm1] at he
    split at he
    · rename_i os' H2 f2 h2
      obtain ⟨rfl, rfl, rfl⟩ := by simpa using he
      cases i with
      | zero => simp at hi; exact hi.symm
      | succ i => exact takes_none hms h2 i o (by simpa using hi)
    · simp at he
  | [], _ :: _, H, H', os, fl, hm, he, i, o, hi => by simp [takes] at he
  | _ :: _, [], H, H', os, fl, hm, he, i, o, hi => by simp [takes] at he
theorem evc_sound {C : Cx} {ms : List Nat} {dst : Nat} {f : FuncId} {xs : List V} {us vs : List Value} {y : V} {H' : Heap} (hfl : Flat (C.own f) vs us) (hG : C.gl = G) (hN : ∀ g cs, G g = some cs → nfL cs = true) (hS : SoundFn P G (C.own f) f (C.fn f)) (h : FR G w0 L X0 w tm fr ρ) (hl : us.length = xs.length)
    (hx : ∀ (i : Nat) (x : V) (u : Value), xs[i]? = some x → us[i]? = some u → RepE w (XX w0 X0 fr.heap ρ) fr.heap ρ x u) (he : evc C ms fr.heap dst f xs = some (y, H')) :
    Calls P f vs.toArray w fun e w' => ∃ v ρ', e = .returned v ∧ FR G w0 L X0 w' tm { fr with heap := H' } ρ' ∧ RepE w' (XX w0 X0 H' ρ') H' ρ' y v ∧ HTr w w' fr.heap H' ρ ρ' ∧ (ms.contains 1 = false → Chg w w' E) := by
  unfold evc at he
  split at he
  · rename_i os H1 fl ht
    split at he
    · rename_i ds hle
      split at he
      · rename_i res outs hfn
        split at he
        · rename_i hcl
          split at he
          · rename_i H2 hba
            split at he
            · rename_i y' H3 n hin
              obtain ⟨rfl, rfl⟩ := by simpa using he
              obtain ⟨ψ, a1, a2, a3, a4, a5, a6, a7⟩ := takes_sound h hl hx ht
              obtain ⟨b1, b2, b3, b4⟩ := a1
              have hx1 : ∀ (i : Nat) (x : V) (u : Value), xs[i]? = some x → us[i]? = some u → RepE w (XX w0 (fun g => X0 g ∨ AllF os.length ψ g) H1 ρ) H1 ρ x u := fun i x u q1 q2 => by
                rw [b2]; exact (hx i x u q1 q2).tr (Stay.refl _ _) b3
              let Xc : Nat → Prop := fun g => (X0 g ∨ AllF os.length ψ g) ∨ (usesL ms xs = false ∧ Held H1 ρ g)
              have hXc : ∀ k b, Xc b → XX w0 (fun g => X0 g ∨ AllF os.length ψ g) H1 ρ k b := fun k b q => q.elim (fun q => .inl q) fun q => .inr (.inr q.2)
              obtain ⟨c1, c2, c3⟩ := lends_sound b1 (Xc := Xc) (fun k b _ q => hXc k b q) hl hx1 a3 (fun i d u q1 q2 => by rw [b2]; exact a4 i d u q1 q2) a5 a7
                (fun hu g hg q => by
                  obtain ⟨b, B, q1, q2, q3⟩ := hg
                  rcases q with q | q
                  · exact b1.out b B g q1 q2 q3 q
                  · rw [hu] at q; simp at q) hle
              have hlt : ∀ b, Xc b → b < w.heap.size := fun b q => b1.XX_lt (hXc .lent b q)
              have eF : AllF ds.length ψ = AllF os.length ψ := by rw [c2]
              refine (hS w Xc ds vs us ψ res outs hfl c1 (fun b hb => .inl (.inr (by rw [← eF]; exact hb))) hlt (fun g cs hg => ⟨hN g cs hg, (b1.gl g cs hg).stay ⟨fun _ _ _ _ => rfl, fun k b _ q => hXc k b q⟩⟩) (lends_nf hle (takes_nf ht)) hfn).mono ?_
              rintro e w' ⟨v, R, χ, rfl, d1, d2, d3, d4, d5, d6⟩
              rw [eF] at d1 d2 d3 d5
              obtain ⟨e1, e2, e3⟩ := b1.turn d1 (fun b hb => .inr hb) (fun b hb => (b4 b hb).2.imp (fun q => q.2) id)
              have hsz := d1.size
              have newlt : ∀ b, R b ∨ AllF outs.length χ b → b < w'.heap.size := fun b hb => by
                rcases hb with hb | ⟨i, hi, hb⟩
                · exact d2.old b hb
                · exact (d3.2.2 i outs[i] (us[i]'(by have := d3.1; omega)) (List.getElem?_eq_getElem hi) (by simp)).old b hb
              obtain ⟨f1, f2⟩ := e1.less (X1 := fun b => (X0 b ∨ R b) ∨ AllF outs.length χ b) (fun b hb => by
                have go : R b ∨ AllF outs.length χ b → (X0 b ∨ AllF os.length ψ b) ∨ w.heap.size ≤ b ∧ b < w'.heap.size := fun hb => (d5 b hb).elim (fun q => .inl (.inr q)) fun q => .inr ⟨q, newlt b hb⟩
                rcases hb with (hb | hb) | hb
                · exact .inl (.inl hb)
                · exact go (.inl hb)
                · exact go (.inr hb))
              have put : ∀ b, R b ∨ AllF outs.length χ b → ¬ X0 b ∧ ((fl = true ∧ L b) ∨ w0.heap.size ≤ b) := fun b hb => by
                rcases d5 b hb with q | q
                · exact b4 b q
                · exact ⟨fun hx0 => by have := h.x0 b hx0; omega, .inr (Nat.le_trans h.chg.size q)⟩
              obtain ⟨Z, g1, g2, g3⟩ : ∃ Z : K → Nat → Prop, RepV w' Z res v R ∧ RepVs w' Z outs us χ ∧ ∀ k b, b < w'.heap.size → XX w0 (fun b => (X0 b ∨ R b) ∨ AllF outs.length χ b) H1 ρ k b → Z k b := by
                cases hu : usesL ms xs with
                | true =>
                  have hc := hcl hu
                  simp only [Bool.and_eq_true] at hc
                  refine ⟨fun _ b => b < w.heap.size ∨ R b ∨ AllF outs.length χ b, d2.clean (fun b _ q => q.elim (fun q => .inl ⟨rfl, q⟩) fun q => .inr (.inr q)) hc.1,
                    repVs_iff d3 fun i d v q1 q2 => q2.clean (fun b _ q => q.elim (fun q => .inl ⟨rfl, q⟩) fun q => .inr (.inr q)) (cleanL_get hc.2 q1), fun k b _ q => ?_⟩
                  rcases q with (q | q) | q
                  · rcases q with q | q
                    · exact .inl (h.x0 b q)
                    · exact .inr (.inl q)
                  · exact .inr (.inr q)
                  · exact .inl (q.elim (fun q => Nat.lt_of_lt_of_le q.2 h.chg.size) fun q => b1.held_lt q)
                | false =>
                  refine ⟨_, d2, d3, fun k b _ q => ?_⟩
                  have hx0 : X0 b → XR w Xc (AllF os.length ψ) (fun b => R b ∨ AllF outs.length χ b) k b := fun q => .inr (.inl ⟨.inl (.inl q), fun q' => (b4 b q').1 q⟩)
                  rcases q with (q | q) | q
                  · rcases q with q | q
                    · exact hx0 q
                    · exact .inr (.inr (.inl q))
                  · exact .inr (.inr (.inr q))
                  · rcases q with q | q
                    · exact .inl ⟨q.1, Nat.lt_of_lt_of_le q.2 h.chg.size⟩
                    · refine .inr (.inl ⟨.inr ⟨hu, q⟩, fun q' => ?_⟩)
                      obtain ⟨b', B, q1, q2, q3⟩ := q
                      exact b1.out b' B b q1 q2 q3 (.inr q')
              have hx2 : ∀ (i : Nat) (x : V) (u : Value), xs[i]? = some x → us[i]? = some u → ∃ X, RepE w' X H1 ρ x u := fun i x u q1 q2 => ⟨_, (hx1 i x u q1 q2).tr e2 e3⟩
              obtain ⟨ρ2, p1, p2, p3, p4⟩ := backs_sound (X0 := fun b => X0 b ∨ R b) (Z := Z) f1 (fun b hb => by
                  obtain ⟨q1, q2⟩ := put b (.inr hb)
                  exact ⟨fun q => q.elim q1 fun q => d4 b q hb, q2⟩) g2 g3 hx2 (fun i b o n g k sz0 els0 q1 q2 q4 q3 => by
                  have hul : i < us.length := by rw [hl]; exact (List.getElem?_eq_some_iff.1 q1).1
                  obtain ⟨r1, r2, r3⟩ := a6 i b o n g k us[i] q1 (List.getElem?_eq_getElem hul) q2 q3
                  obtain ⟨d, hd⟩ := a7 i q2
                  have hdi := c3 i d hd
                  refine ⟨?_, d1.own _ _ r2⟩
                  have hmem := hdi
                  cases hd' : d with
                  | ow sz els => subst hd'; exact d6 i sz els sz0 els0 us[i] hdi q4 (List.getElem?_eq_getElem hul) g r3
                  | _ =>
                    exfalso
                    have : ∀ {ms : List Nat} {xs : List V} {H H' : Heap} {os : List (Option D)} {fl : Bool} {i b o n : Nat} {d : D}, takes H ms xs = some (os, H', fl) → xs[i]? = some (.sl b o n) → os[i]? = some (some d) → ∃ sz els, d = .ow sz els := by
                      intro ms
                      induction ms with
                      | nil => intro xs H H' os fl i b o n d he hi hd; cases xs <;> simp [takes] at he; obtain ⟨rfl, _, _⟩ := he; simp at hd
                      | cons m ms ih =>
                        intro xs H H' os fl i b o n d he hi hd
                        cases xs with
                        | nil => simp [takes] at he
                        | cons x xs =>
                          simp only [takes] at he
                          split at he
                          · split at he
                            · rename_i hta
                              split at he
                              · rename_i h2
                                obtain ⟨rfl, rfl, rfl⟩ := by simpa using he
                                cases i with
                                | zero =>
                                  simp at hi hd
                                  subst hi; subst hd
                                  simp only [takeA] at hta
                                  split at hta
                                  · split at hta
                                    · simp at hta; exact ⟨_, _, hta.1.symm⟩
                                    · simp at hta
                                  · simp at hta
                                | succ i => exact ih h2 (by simpa using hi) (by simpa using hd)
                              · simp at he
                            · simp at he
                          · split at he
                            · rename_i h2
                              obtain ⟨rfl, rfl, rfl⟩ := by simpa using he
                              cases i with
                              | zero => simp at hd
                              | succ i => exact ih h2 (by simpa using hi) (by simpa using hd)
                            · simp at he
                    obtain ⟨sz, els, e⟩ := this ht q1 hd
                    rw [hd'] at e
                    cases e) hba
              obtain ⟨ρ3, r1, r2⟩ := inst_sound (X0 := X0) (F := R) (Z := Z) (fr := { fr with heap := H2 }) p1 (fun b hb => put b (.inl hb)) g1 (fun k b hb q => g3 k b hb (by
                have := p2.off k b hb
                rcases q with (q | q) | q
                · exact this (.inl (.inl q))
                · exact this (.inl (.inr q))
                · exact this (.inr q))) hin
              refine ⟨v, ρ3, rfl, r1.1, r2, ((b3.trans e3).trans p3).trans r1.2.2.1, fun hno => d1.mono fun b hb => ?_⟩
              obtain ⟨i, hi, hb⟩ := hb
              have := takes_none hno ht i os[i] (List.getElem?_eq_getElem hi)
              exact a5 i (by rw [List.getElem?_eq_getElem hi, this]) b hb
            · simp at he
          · simp at he
        · simp at he
      · simp at he
    · simp at he
  · simp at he
end
end Go.Proofs.Ytpbonfgmiffomaa.Wm
set_option linter.unusedSimpArgs false
set_option linter.unusedVariables false
namespace Go.Proofs.Ytpbonfgmiffomaa.Wm
open Go
def gives (H : Heap) : List Nat → List V → Option (List V × Heap)
  | m :: ms, x :: xs => if m = 3 then (match plainV H x with
      | some (d, H1) => match gives H1 ms xs with
        | some (ys, H2) => some (.val d :: ys, H2)
        | none => none
      | none => none) else (match gives H ms xs with
      | some (ys, H2) => some (x :: ys, H2)
      | none => none)
  | [], [] => some ([], H)
  | _, _ => none
def evcG (C : Cx) (H : Heap) (dst : Nat) (f : FuncId) (xs : List V) : Option (V × Heap) := match flatV (C.own f) xs with
  | some zs => (match gives H (flatM (C.own f)) zs with
    | some (ys, H1) => evc C (flatM (C.own f)) H1 dst f ys
    | none => none)
  | none => none
section
variable {P : Program} {G : Nat → Option (List D)} {w0 : World} {L X0 X1 : Nat → Prop} {w w' w2 : World} {tm : Array Value} {fr : Fr} {ρ ρ' : Place} {X : K → Nat → Prop} {H : Heap}
theorem gives_sound : ∀ {ms : List Nat} {xs : List V} {us : List Value} {fr : Fr} {ys : List V} {H' : Heap}, FR G w0 L X0 w tm fr ρ → us.length = xs.length →
    (∀ (i : Nat) (x : V) (u : Value), xs[i]? = some x → us[i]? = some u → RepE w (XX w0 X0 fr.heap ρ) fr.heap ρ x u) → gives fr.heap ms xs = some (ys, H') →
    FR G w0 L X0 w tm { fr with heap := H' } ρ ∧ Stay w w (XX w0 X0 fr.heap ρ) (XX w0 X0 H' ρ) ∧ HTr w w fr.heap H' ρ ρ ∧ ys.length = xs.length ∧
      ∀ (i : Nat) (y : V) (u : Value), ys[i]? = some y → us[i]? = some u → RepE w (XX w0 X0 H' ρ) H' ρ y u
  | [], [], us, fr, ys, H', h, hl, hx, he => by
    simp only [gives] at he
    obtain ⟨rfl, rfl⟩ := by simpa using he
    exact ⟨h, Stay.refl _ _, HTr.same fun _ _ h => h, rfl, fun i y u hy => by simp at hy⟩
  | m :: ms, x :: xs, us, fr, ys, H', h, hl, hx, he => by
    obtain ⟨u, us, rfl⟩ := List.exists_cons_of_ne_nil (l := us) (by rintro rfl; simp at hl)
    simp only [gives] at he
    split at he
    · split at he
      · rename_i d H1 h1
        split at he
        · rename_i ys' H2 h2
          obtain ⟨rfl, rfl⟩ := by simpa using he
          obtain ⟨a1, a2, a3, a4⟩ := plainV_sound h (hx 0 x u rfl rfl) h1
          obtain ⟨b1, b2, b3, b4, b5⟩ := gives_sound (us := us) (fr := { fr with heap := H1 }) a1 (by simpa using hl) (fun i y v hy hv => (hx (i + 1) y v (by simpa using hy) (by simpa using hv)).tr a2 a3) h2
          refine ⟨b1, Stay.trans a2 b2 (Nat.le_refl _), HTr.trans a3 b3, by simp [b4], fun i y v hy hv => ?_⟩
          cases i with
          | zero => simp at hy hv; subst hy; subst hv; exact .val _ _ (a4.stay b2)
          | succ i => exact b5 i y v (by simpa using hy) (by simpa using hv)
        · simp at he
      · simp at he
    · split at he
      · rename_i ys' H2 h2
        obtain ⟨rfl, rfl⟩ := by simpa using he
        obtain ⟨b1, b2, b3, b4, b5⟩ := gives_sound (us := us) h (by simpa using hl) (fun i y v hy hv => hx (i + 1) y v (by simpa using hy) (by simpa using hv)) h2
        refine ⟨b1, b2, b3, by simp [b4], fun i y v hy hv => ?_⟩
        cases i with
        | zero => simp at hy hv; subst hy; subst hv; exact (hx 0 x u rfl rfl).tr b2 b3
        | succ i => exact b5 i y v (by simpa using hy) (by simpa using hv)
      · simp at he
  | [], _ :: _, us, fr, ys, H', h, hl, hx, he => by simp [gives] at he
  | _ :: _, [], us, fr, ys, H', h, hl, hx, he => by simp [gives] at he
theorem evcG_sound {C : Cx} {dst : Nat} {f : FuncId} {xs : List V} {us : List Value} {y : V} {H' : Heap} (hG : C.gl = G) (hN : ∀ g cs, G g = some cs → nfL cs = true) (hS : SoundFn P G (C.own f) f (C.fn f)) (h : FR G w0 L X0 w tm fr ρ) (hl : us.length = xs.length)
    (hx : ∀ (i : Nat) (x : V) (u : Value), xs[i]? = some x → us[i]? = some u → RepE w (XX w0 X0 fr.heap ρ) fr.heap ρ x u) (he : evcG C fr.heap dst f xs = some (y, H')) :
    Calls P f us.toArray w fun e w' => ∃ v ρ', e = .returned v ∧ FR G w0 L X0 w' tm { fr with heap := H' } ρ' ∧ RepE w' (XX w0 X0 H' ρ') H' ρ' y v ∧ HTr w w' fr.heap H' ρ ρ' ∧ ((flatM (C.own f)).contains 1 = false → Chg w w' E) := by
  unfold evcG at he
  split at he
  · rename_i zs hz
    split at he
    · rename_i ys H1 hg
      obtain ⟨fs, z1, z2, z3⟩ := flatV_sound hl hx hz
      obtain ⟨b1, b2, b3, b4, b5⟩ := gives_sound h z2 z3 hg
      refine (evc_sound (fr := { fr with heap := H1 }) z1 hG hN hS b1 (by rw [z2, b4]) b5 he).mono ?_
      rintro e w' ⟨v, ρ', rfl, c1, c2, c3, c4⟩
      exact ⟨v, ρ', rfl, c1, c2, HTr.trans b3 c3, c4⟩
    · simp at he
  · simp at he
end
end Go.Proofs.Ytpbonfgmiffomaa.Wm
set_option linter.unusedSimpArgs false
set_option linter.unusedVariables false
namespace Go.Proofs.Ytpbonfgmiffomaa.Wm
open Go
def goneL (l : List D) : List D := l.map fun _ => .gone
def restW (els : List (List D)) (o n : Nat) : List (List D) := els.take o ++ (((els.drop o).take n).map goneL ++ els.drop (o + n))
def partB (H : Heap) (sz : Nat) : V → Option (List (List D) × Bool × Heap)
  | .sl b o n => match look b H with
    | some (.row old sz' els) => if sz' = sz then some ((els.drop o).take n, old, updB b (.row old sz (restW els o n)) H) else none
    | _ => none
  | _ => none
def evaP (ρ : Od → V) (H : Heap) (dst : Nat) : I → Option (V × Heap)
  | .app sz by_ s x => match baseOf H sz (ρ s) with
    | some (cs, old, H1) => match partB H1 sz (ρ x) with
      | some (ds, old2, H2) => if allCellO ds = true ∧ (cs.length + ds.length) * by_ ≤ 140737488355328 ∧ free (bid dst) H2 = true then some (.sl (bid dst) 0 (cs.length + ds.length), (bid dst, .row (old2 || old) sz (cs ++ ds)) :: H2) else none
      | none => none
    | none => none
  | _ => none
theorem updB_updB {b : Nat} {B C : Blk} : ∀ {H : Heap}, updB b B (updB b C H) = updB b B H
  | [] => rfl
  | (s, x) :: l => by
    simp only [updB]
    by_cases hs : s = b
    · rw [if_pos hs, if_pos hs]; simp only [updB]; rw [if_pos hs]
    · rw [if_neg hs, if_neg hs]; simp only [updB]; rw [if_neg hs, updB_updB]
theorem restW_len (els : List (List D)) (o n : Nat) : (restW els o n).length = els.length := by simp [restW]; omega
theorem restW_drop (els : List (List D)) (n : Nat) : (restW els 0 n).drop n = els.drop n := by
  simp only [restW, List.take_zero, List.nil_append, List.drop_zero, Nat.zero_add]
  rw [List.drop_append]
  rcases Nat.le_total n els.length with h | h
  · have e : ((els.take n).map goneL).length = n := by simp; omega
    rw [List.drop_of_length_le (by omega), e, Nat.sub_self, List.drop_zero, List.nil_append]
  · rw [List.drop_of_length_le (by simp; omega), List.drop_of_length_le (l := els.drop n) (by simp; omega), List.drop_of_length_le h, List.nil_append]
theorem restW_get {els : List (List D)} {o n i : Nat} {el : List D} (h : (restW els o n)[i]? = some el) : ∃ e0, els[i]? = some e0 ∧ ((o ≤ i ∧ i < o + n ∧ el = goneL e0) ∨ (¬ (o ≤ i ∧ i < o + n) ∧ el = e0)) := by
  unfold restW at h
  rw [List.getElem?_append] at h
  split at h
  · rename_i h1
    rw [List.getElem?_take] at h
    split at h
    · exact ⟨el, h, .inr ⟨by omega, rfl⟩⟩
    · simp at h
  · rename_i h1
    have hl : (els.take o).length = min o els.length := by simp
    rw [List.getElem?_append] at h
    split at h
    · rename_i h2
      simp only [List.length_map, List.length_take, List.length_drop] at h1 h2 h
      rw [List.getElem?_map, List.getElem?_take, List.getElem?_drop] at h
      have ho : o ≤ els.length := by omega
      have e1 : min o els.length = o := by omega
      rw [e1] at h h1 h2
      rw [if_pos (by omega)] at h
      have e2 : o + (i - o) = i := by omega
      rw [e2] at h
      cases he : els[i]? with
      | none => rw [he] at h; simp at h
      | some e0 => rw [he] at h; simp at h; exact ⟨e0, rfl, .inl ⟨by omega, by omega, h.symm⟩⟩
    · rename_i h2
      simp only [List.length_map, List.length_take, List.length_drop] at h1 h2 h
      rw [List.getElem?_drop] at h
      have hi := (List.getElem?_eq_some_iff.1 h).1
      have e : o + n + (i - min o els.length - min n (els.length - o)) = i := by omega
      rw [e] at h
      exact ⟨el, h, .inr ⟨by omega, rfl⟩⟩
section
variable {P : Program} {G : Nat → Option (List D)} {w0 : World} {L X0 X1 : Nat → Prop} {w w' w2 : World} {tm : Array Value} {fr : Fr} {ρ ρ' : Place} {X : K → Nat → Prop} {H : Heap}
theorem evaP_sound {a : Act} (h : FR G w0 L X0 w a.tmps fr ρ) {o : Oper} {i : I} {dst : Nat} {y : V} {H' : Heap} (hc : conv1 P o = some i) (he : evaP (oval G fr.env) fr.heap dst i = some (y, H')) :
    ∃ u w' ρ', (execOp a.eval o).run P w = .ok (.value u) w' ∧ FR G w0 L X0 w' a.tmps { fr with heap := H' } ρ' ∧ RepE w' (XX w0 X0 H' ρ') H' ρ' y u ∧ (∀ s, s ≠ bid dst → ρ' s = ρ s) := by
  classical
  cases i <;> simp only [evaP] at he <;> try (simp at he; done)
  rename_i sz by_ s x
  obtain ⟨t, e, ti, z, s0, x0, hop, hu, hi, hz, hzs, hs0, rfl, rfl, h1, h2⟩ := app_conv hc
  have hs := od_sound h h1
  have hx := od_sound h h2
  split at he
  case h_2 => simp at he
  rename_i cs old H1 hbase
  split at he
  case h_2 => simp at he
  rename_i ds old2 H2 hpart
  split at he
  case isFalse => simp at he
  rename_i hcc
  obtain ⟨hall, hroom, hfree⟩ := hcc
  obtain ⟨rfl, rfl⟩ := by simpa using he
  obtain ⟨M, m1, m2⟩ := baseOf_sound h hs hbase
  obtain ⟨g1, g2, g3, g4⟩ := m1
  have st1 : Stay w w (XX w0 X0 fr.heap ρ) (XX w0 (fun g => X0 g ∨ M g) H1 ρ) := by rw [g2]; exact Stay.refl _ _
  have hx1 := hx.tr st1 g3
  generalize oval G fr.env x = xx at hpart hx1
  generalize hvx : a.eval x0 = vx at hx1
  unfold partB at hpart
  split at hpart
  case h_2 => simp at hpart
  rename_i b q n
  split at hpart
  case h_2 => simp at hpart
  rename_i old' sz' els hb
  split at hpart
  case isFalse => simp at hpart
  rename_i hsz
  subst hsz
  obtain ⟨rfl, rfl, rfl⟩ := by simpa using hpart
  obtain ⟨φ, r1, r2, r3, r4, r5, r6⟩ := g1.blk b _ hb
  obtain ⟨s1, A, c, rfl, s3, s4⟩ := sl_open hx1 hb
  obtain ⟨k1, k2, k3⟩ := g1.kill' (C := .awayR ti.size els.length) hb rfl rfl (.inr rfl)
  have hb2 : look b (updB b (.row old' ti.size (restW els q n)) H1) = some (.row old' ti.size (restW els q n)) := look_updB_self hb
  have hne : bid dst ≠ b := fun e => by have := free_spec hfree; rw [e, hb2] at this; simp at this
  have hfr : look (bid dst) H1 = none := by have := free_spec hfree; rw [look_updB_ne hne] at this; exact this
  have hlen : ((els.drop q).take n).length = n := by simp; omega
  have inr : ∀ i j, InR ((els.drop q).take n) i j → InR els (q + i) j ∧ i < n := by
    rintro i j ⟨e, d, h1, h2⟩
    rw [List.getElem?_take] at h1
    split at h1
    · rw [List.getElem?_drop] at h1; exact ⟨⟨e, d, h1, h2⟩, ‹_›⟩
    · simp at h1
  let T : Nat → Prop := fun x => ∃ i j, q ≤ i ∧ i < q + n ∧ InR els i j ∧ φ i j x
  let R : Nat → Prop := fun x => Blks ρ b x ∧ ¬ T x
  have hTs : ∀ x, T x → ρ.sub b x := fun x ⟨i, j, _, _, h3, h4⟩ => r5 i j x h3 h4
  have hTb : ∀ x, T x → Blks ρ b x := fun x hx => .inr (hTs x hx)
  have hout : ∀ x, Blks ρ b x → ¬ (X0 x ∨ M x) := fun x hx => g1.out b _ x hb rfl hx
  have hnew : ∀ x, Blks ρ b x → (old' = true ∧ L x) ∨ w0.heap.size ≤ x := fun x hx => g1.new b _ x hb rfl hx
  have hlt : ∀ x, Blks ρ b x → x < w.heap.size := fun x hx => g1.held_lt ⟨b, _, hb, rfl, hx⟩
  have e1 : (fun g => (X0 g ∨ M g) ∨ Blks ρ b g) = fun g => (X0 g ∨ R g) ∨ M g ∨ T g := by
    funext g
    apply propext
    constructor
    · rintro ((hx | hx) | hx)
      · exact .inl (.inl hx)
      · exact .inr (.inl hx)
      · by_cases ht : T g
        · exact .inr (.inr ht)
        · exact .inl (.inr ⟨hx, ht⟩)
    · rintro ((hx | hx) | hx | hx)
      · exact .inl (.inl hx)
      · exact .inr hx.1
      · exact .inl (.inr hx)
      · exact .inr (hTb g hx)
  have b2 : XX w0 (fun g => (X0 g ∨ R g) ∨ M g ∨ T g) (updB b (.awayR ti.size els.length) H1) ρ = XX w0 X0 fr.heap ρ := by rw [← e1]; exact k2.trans g2
  rw [e1] at k1
  have hfree' : free (bid dst) (updB b (.awayR ti.size els.length) H1) = true := by unfold free; rw [look_updB_ne hne, hfr]
  have hnews : News w (XX w0 X0 fr.heap ρ) ti.size ((els.drop q).take n) (.slice A n c) T := by
    have hz' : ∀ el ∈ (els.drop q).take n, el.length = ti.size := fun el hel => r1 el (List.mem_of_mem_drop (List.mem_of_mem_take hel))
    rcases s4 with rfl | ⟨g, k, t1, rfl, t3⟩
    · have hn0 : n = 0 := by omega
      subst hn0
      refine ⟨hz', [], fun _ _ _ => False, by simp, by simp, fun _ _ _ _ _ _ _ q => q.elim, fun _ _ _ _ q => q.elim, fun i j el d q => by simp at q, ?_⟩
      cases A with
      | none => exact .inl ⟨rfl, by simp⟩
      | some A => exact .inr ⟨A, 0, by simp, .inl rfl, fun j u q => by simp at q⟩
    · obtain ⟨u0, u1, u2⟩ := r6 g k t1
      rw [g2] at u2
      obtain ⟨us, v1, v2, v3⟩ := els_vals (w := w) (R := fun i j d u => RepC w (XX w0 X0 fr.heap ρ) d u (φ (q + i) j)) (g := g) (k := k + q * ti.size) hz' (fun i j el d h1 h2 => by
        rw [List.getElem?_take] at h1
        split at h1
        · rw [List.getElem?_drop] at h1
          obtain ⟨u, p1, p2⟩ := u2 (q + i) j el d h1 h2
          rw [Nat.add_mul, ← Nat.add_assoc k] at p1
          exact ⟨u, p1, p2⟩
        · simp at h1)
      refine ⟨hz', us, fun i j => φ (q + i) j, v1, vals_ones hz' v1 (allCellO_spec hall) v3, fun i j i' j' x z1 z2 p p' => ?_, fun i j x z1 p => ?_, v3, .inr ⟨⟨g, k + q * ti.size, none⟩, c, by rw [hlen], .inr rfl, v2⟩⟩
      · have := r4 _ _ _ _ x (inr i j z1).1 (inr i' j' z2).1 p p'
        omega
      · have := (inr i j z1).2
        exact ⟨q + i, j, by omega, by omega, (inr i j z1).1, p⟩
  obtain ⟨u, w', p, S, y1, y2, y3, y4, y5, y6⟩ := app_core0 (fr := fr) (X0 := fun g => X0 g ∨ R g) (old := old' || old) (dst := dst) (t := t) (ty := o.type) hu hi hz hzs k1 b2
    (fun x hx => by
      rcases hx with hx | hx
      · refine ⟨fun z => z.elim (g4 x hx).1 fun z => hout x z.1 (.inr hx), (g4 x hx).2.imp (fun z => ⟨by simp [z.1], z.2⟩) id⟩
      · exact ⟨fun z => z.elim (fun z => hout x (hTb x hx) (.inl z)) fun z => z.2 hx, (hnew x (hTb x hx)).imp (fun z => ⟨by simp [z.1], z.2⟩) id⟩)
    (fun x hm ht => hout x (hTb x ht) (.inr hm)) m2 hnews (fun x hx => hlt x (hTb x hx)) hroom hfree'
  have hMb : ∀ x, Blks ρ b x → ¬ M x := fun x hx hm => hout x hx (.inr hm)
  have hbl : look b ((bid dst, Blk.row (old' || old) ti.size (cs ++ (els.drop q).take n)) :: updB b (.awayR ti.size els.length) H1) = some (.awayR ti.size els.length) := by
    simp only [look]; rw [if_neg hne]; exact look_updB_self hb
  obtain ⟨d1, d2, d3, d4⟩ := Puts.revive (X0 := X0) (F := R) (fr := { fr with heap := (bid dst, Blk.row (old' || old) ti.size (cs ++ (els.drop q).take n)) :: updB b (.awayR ti.size els.length) H1 }) y2 (b := b) (B := .awayR ti.size els.length) (B' := .row old' ti.size (restW els q n)) (S := fun x => ρ.sub b x ∧ ¬ T x) hbl rfl (by simp [Blk.sh, restW_len])
    (fun x hx => ⟨fun z => hout x hx.1 (.inl z), hnew x hx.1⟩)
    (fun g hg => by
      rcases hg with ⟨k, hg⟩ | hg
      · rw [setP_ne (Ne.symm hne)] at hg
        exact ⟨.inl ⟨k, hg⟩, fun ht => (r6 g k hg).1 (hTs g ht)⟩
      · exact ⟨.inr hg.1, hg.2⟩)
    (fun X' H' ρ' st tt => by
      have stt : Stay w w' (XX w0 X0 fr.heap ρ) X' := Stay.trans y4 st y6
      rw [setP_ne (Ne.symm hne)]
      have inw : ∀ i j, InR (restW els q n) i j → InR els i j := by
        rintro i j ⟨el, d, h1, h2⟩
        obtain ⟨e0, h3, h4⟩ := restW_get h1
        rcases h4 with ⟨_, _, rfl⟩ | ⟨_, rfl⟩
        · have hj : j < e0.length := by simpa [goneL] using (List.getElem?_eq_some_iff.1 h2).1
          exact ⟨e0, e0[j], h3, List.getElem?_eq_getElem hj⟩
        · exact ⟨el, d, h3, h2⟩
      refine ⟨fun i j x => φ i j x ∧ ¬ (q ≤ i ∧ i < q + n), fun e he => ?_, ?_, fun x hx => Nat.lt_of_lt_of_le (r3 x hx.1) y6, fun i j i' j' x z1 z2 p p' => r4 i j i' j' x (inw _ _ z1) (inw _ _ z2) p.1 p'.1, fun i j x z1 p => ⟨r5 i j x (inw _ _ z1) p.1, fun ⟨i2, j2, h1, h2, h3, h4⟩ => ?_⟩, fun g k e => ?_⟩
      · obtain ⟨i, hi⟩ := List.getElem?_of_mem he
        obtain ⟨e0, h3, h4⟩ := restW_get hi
        have := r1 e0 (List.mem_of_getElem? h3)
        rcases h4 with ⟨_, _, rfl⟩ | ⟨_, rfl⟩
        · simpa [goneL] using this
        · exact this
      · rcases r2 with r2 | r2
        · left; rw [r2]; simp [restW]
        · exact .inr r2
      · obtain ⟨rfl, rfl⟩ := r4 _ _ _ _ x (inw _ _ z1) h3 p.1 h4
        exact p.2 ⟨h1, h2⟩
      · obtain ⟨u0, u1, u2⟩ := r6 g k e
        rw [g2] at u2
        have hg : Blks ρ b g := .inl ⟨k, e⟩
        have eg := y5 g (hlt g hg) (hMb g hg)
        refine ⟨fun z => u0 z.1, by rw [restW_len]; exact u1.same eg, fun i j el d h1 h2 => ?_⟩
        obtain ⟨e0, h3, h4⟩ := restW_get h1
        rcases h4 with ⟨v1, v2, rfl⟩ | ⟨v1, rfl⟩
        · have hj : j < e0.length := by simpa [goneL] using (List.getElem?_eq_some_iff.1 h2).1
          have hd : d = .gone := by simp [goneL, hj] at h2; exact h2.symm
          subst hd
          obtain ⟨v, p1, _⟩ := u2 i j e0 e0[j] h3 (List.getElem?_eq_getElem hj)
          exact ⟨v, cell_same eg p1, .plain _ _ _ (fun x hx => absurd ⟨v1, v2⟩ hx.2) (.gone v)⟩
        · obtain ⟨v, p1, p2⟩ := u2 i j el d h3 h2
          have hin : InR els i j := ⟨el, d, h3, h2⟩
          refine ⟨v, cell_same eg p1, (p2.stay stt fun x hx => y5 x (r3 x (r5 i j x hin hx)) (hMb x (.inr (r5 i j x hin hx)))).mono (fun x hx => Nat.lt_of_lt_of_le (r3 x (r5 i j x hin hx.1)) y6) fun x hx => ⟨hx, v1⟩⟩)
  have eH : updB b (.row old' ti.size (restW els q n)) ((bid dst, Blk.row (old' || old) ti.size (cs ++ (els.drop q).take n)) :: updB b (.awayR ti.size els.length) H1) = (bid dst, Blk.row (old' || old) ti.size (cs ++ (els.drop q).take n)) :: updB b (.row old' ti.size (restW els q n)) H1 := by
    simp only [updB]
    rw [if_neg hne, updB_updB]
  rw [eH] at d1 d2 d3
  exact ⟨u, w', _, app_exec hop (by rw [hvx]; exact y1), d1, y3.tr d2 d3, fun s hs => by rw [setS_at, setP_ne hs]⟩
end
end Go.Proofs.Ytpbonfgmiffomaa.Wm
set_option linter.unusedSimpArgs false
set_option linter.unusedVariables false
namespace Go.Proofs.Ytpbonfgmiffomaa.Wm
open Go
def ownZ : D → D
  | .sh .fresh sz [] => .sh .own sz []
  | d => d
def ownZs : List D → List D
  | [] => []
  | d :: ds => ownZ d :: ownZs ds
def cellD : D → Option D
  | .ow sz els => some (.sh .own sz els)
  | .op _ _ => none
  | .agg _ => none
  | .tup _ => none
  | .gone => none
  | d => some d
def cellDs : List D → Option (List D)
  | [] => some []
  | d :: ds => match cellD d with
    | some c => match cellDs ds with
      | some cs => some (c :: cs)
      | none => none
    | none => none
def ldO (H : Heap) (dst : Nat) : V → Option (V × Heap)
  | .ep b i o => match look b H with
    | some (.row old sz els) => match els[i]? with
      | some el => match el[o]? with
        | some (.sh .own sz' es) => if free (bid dst) H = true then some (.sl (bid dst) 0 es.length, (bid dst, .row old sz' es) :: updB b (.hole old sz els i o (bid dst) es.length) H) else none
        | _ => none
      | none => none
    | _ => none
  | _ => none
def stO (H : Heap) (xs : List V) : V → Option Heap
  | .ep b i o => match takeL false H xs with
    | (ds, H1, fl) => match cellDs ds with
      | some cs => match look b H1 with
        | some (.row old sz els) => match els[i]? with
          | some el => if o + cs.length ≤ el.length ∧ (fl = true → old = true) then some (updB b (.row old sz (els.set i (splice el cs o))) H1) else none
          | none => none
        | _ => none
      | none => none
  | _ => none
def bslElsO (ρ : Od → V) (sz : Nat) (H : Heap) (fl : Bool) (els : List (List D)) : List Part → Option (List (List D) × Heap × Bool)
  | [] => some (els, H, fl)
  | p :: ps => match cellsV p.s (ρ p.x) with
    | some xs => match takeL false H xs with
      | (ds, H1, f1) => match cellDs ds with
        | some cs => if p.at_ < els.length ∧ cs.length = sz ∧ xs.all isCell = true then bslElsO ρ sz H1 (fl || f1) (els.set p.at_ cs) ps else none
        | none => none
    | none => none
def bslO (ρ : Od → V) (H : Heap) (dst sz : Nat) (zs : List D) (len : Nat) (ps : List Part) : Option (V × Heap) := match bslElsO ρ sz H false (List.replicate len (ownZs zs)) ps with
  | some (els, H1, fl) => if free (bid dst) H1 = true then some (.sl (bid dst) 0 len, (bid dst, .row fl sz els) :: H1) else none
  | none => none
def effO (ρ : Od → V) (H : Heap) (dst : Nat) : I → Option (V × Heap)
  | .ld none x => ldO H dst (ρ x)
  | .st s a x => match cellsV s (ρ x) with
    | some xs => if xs.all isCell = true then (match stO H xs (ρ a) with
      | some H1 => some (.dead, H1)
      | none => none) else none
    | none => none
  | .msl sz by_ zs l c => evm ρ H dst (.msl sz by_ (ownZs zs) l c)
  | .app sz by_ s x => evaO ρ H dst (.app sz by_ s x)
  | .bsl sz zs l ps => bslO ρ H dst sz zs l ps
  | .own i => evaP ρ H dst i
  | _ => none
section
variable {P : Program} {G : Nat → Option (List D)} {w0 : World} {L X0 X1 : Nat → Prop} {w w' w2 : World} {tm : Array Value} {fr : Fr} {ρ ρ' : Place} {X : K → Nat → Prop} {H : Heap}
theorem look_updB_none {b s : Nat} {B : Blk} : ∀ {H : Heap}, look s H = none → look s (updB b B H) = none
  | [], h => h
  | (t, x) :: l, h => by
    simp only [look] at h
    split at h
    · simp at h
    · rename_i hts
      simp only [updB]
      split
      · simp only [look]; rw [if_neg hts]; exact h
      · simp only [look]; rw [if_neg hts]; exact look_updB_none h
theorem cellDs_spec : ∀ {ds cs : List D}, cellDs ds = some cs → cs.length = ds.length ∧ ∀ (i : Nat) (c : D), cs[i]? = some c → ∃ d, ds[i]? = some d ∧ cellD d = some c
  | [], cs, h => by simp only [cellDs] at h; obtain rfl := Option.some.inj h; exact ⟨rfl, fun i c hi => by simp at hi⟩
  | d :: ds, cs, h => by
    simp only [cellDs] at h
    split at h
    · rename_i c hc
      split at h
      · rename_i cs' hcs
        obtain rfl := Option.some.inj h
        obtain ⟨k1, k2⟩ := cellDs_spec hcs
        refine ⟨by simp [k1], fun i c' hi => ?_⟩
        cases i with
        | zero => simp at hi; subst hi; exact ⟨d, rfl, hc⟩
        | succ i => simpa using k2 i c' (by simpa using hi)
      · simp at h
    · simp at h
theorem repV_cell {d c : D} {v : Value} {F : Nat → Prop} (h : RepV w X d v F) (hc : cellD d = some c) : RepC w X c v F := by
  cases h with
  | plain d v F hF hs =>
    refine .plain _ _ _ (fun b hb => absurd hb (hF b)) ?_
    unfold cellD at hc
    split at hc
    · cases hs
    · simp at hc
    · simp at hc
    · simp at hc
    · simp at hc
    · obtain rfl := Option.some.inj hc; exact hs
  | ow sz els v F h =>
    simp only [cellD] at hc
    obtain rfl := Option.some.inj hc
    exact h
  | op o cs g k φ F hF hd hg ho vf hm h => simp [cellD] at hc
  | agg cs vs φ F hF hd hs h => simp [cellD] at hc
  | tup cs vs φ F hF hd hs h => simp [cellD] at hc
def notLd : I → Bool
  | .ld .. => false
  | _ => true
theorem notLd_len {l1 : List TypeId} {l2 : List Operand} {i : I} (h : convLen P l1 l2 = some i) : notLd i = true := by
  unfold convLen at h
  repeat' split at h
  all_goals first | (simp at h; done) | (obtain rfl := Option.some.inj h; rfl)
theorem notLd_cap {l1 : List TypeId} {l2 : List Operand} {i : I} (h : convCap P l1 l2 = some i) : notLd i = true := by
  unfold convCap at h
  repeat' split at h
  all_goals first | (simp at h; done) | (obtain rfl := Option.some.inj h; rfl)
theorem ld_conv {o : Oper} {s : Option Nat} {x : Od} (hc : conv1 P o = some (.ld s x)) : ∃ t x0, o.op = .load t x0 ∧ aggN P t = some s ∧ ∃ t', od P t' x0 = some x := by
  obtain ⟨dst, op, type, pos, after, guard⟩ := o
  cases op <;> simp only [conv1] at hc
  case load t x0 =>
    split at hc
    · rename_i s' x' h1 h2
      split at hc
      · obtain ⟨rfl, rfl⟩ := by simpa using hc
        exact ⟨t, x0, rfl, h1, _, h2⟩
      · simp at hc
    · simp at hc
  case call c =>
    exfalso
    obtain ⟨callee, args, ts⟩ := c
    cases callee with
    | builtin b =>
      cases b <;> simp only at hc <;> try (simp at hc; done)
      case len => exact absurd (notLd_len hc) (by simp [notLd])
      case cap => exact absurd (notLd_cap hc) (by simp [notLd])
      case append => obtain ⟨_, _, _, _, e⟩ := kind_app hc; simp at e
      case copy => obtain ⟨_, _, _, e⟩ := kind_cpy hc; simp at e
    | value f =>
      simp only at hc
      split at hc
      · simp at hc
      · simp at hc
    | _ => simp at hc
  case makeFunc fn first cap =>
    exfalso
    cases fn <;> simp only at hc <;> try (simp at hc; done)
  all_goals exfalso
  all_goals first
    | (simp at hc; done)
    | (obtain ⟨z, _, e⟩ := Option.map_eq_some_iff.1 hc; simp at e; done)
    | (repeat' split at hc
       all_goals first | (simp at hc; done) | (obtain ⟨z, _, e⟩ := Option.map_eq_some_iff.1 hc; simp at e; done))
theorem ldO_sound {a : Act} (h : FR G w0 L X0 w a.tmps fr ρ) {o : Oper} {x : Od} {dst : Nat} {y : V} {H' : Heap} (hc : conv1 P o = some (.ld none x)) (he : ldO fr.heap dst (oval G fr.env x) = some (y, H')) :
    ∃ u ρ', (execOp a.eval o).run P w = .ok (.value u) w ∧ FR G w0 L X0 w a.tmps { fr with heap := H' } ρ' ∧ RepE w (XX w0 X0 H' ρ') H' ρ' y u ∧ (∀ s, s ≠ bid dst → ρ' s = ρ s) := by
  obtain ⟨t, x0, hop, h1, t', h2⟩ := ld_conv hc
  obtain ⟨odst, op, otype, pos, after, guard⟩ := o
  simp only at hop
  subst hop
  have ha := od_sound h h2
  unfold ldO at he
  split at he
  · rename_i b i oo hep
    rw [hep] at ha
    split at he
    · rename_i old sz els hb
      split at he
      · rename_i el hel
        split at he
        · rename_i sz' es hd
          split at he
          · rename_i hfree
            obtain ⟨rfl, rfl⟩ := by simpa using he
            obtain ⟨g, k, hp, hva⟩ := ep_open ha hb
            obtain ⟨φ, q1, q2, q4, q5, q6, q3⟩ := h.blk b _ hb
            obtain ⟨hng, hown, hcells⟩ := q3 g k hp
            obtain ⟨u, hu, hru⟩ := hcells i oo el _ hel hd
            have hnew : ∀ x, Blks ρ b x → (old = true ∧ L x) ∨ w0.heap.size ≤ x := fun x hx => h.new b _ x hb rfl hx
            have hFs : ∀ x, φ i oo x → ρ.sub b x := fun x hx => q6 i oo x ⟨el, _, hel, hd⟩ hx
            obtain ⟨a1, a2, a3⟩ := h.kill' (C := .awayR sz els.length) hb rfl rfl (.inr rfl)
            have e1 : (fun x => X0 x ∨ Blks ρ b x) = fun x => (X0 x ∨ (Blks ρ b x ∧ ¬ φ i oo x)) ∨ φ i oo x := by
              funext x
              apply propext
              constructor
              · rintro (hx | hx)
                · exact .inl (.inl hx)
                · by_cases hf : φ i oo x
                  · exact .inr hf
                  · exact .inl (.inr ⟨hx, hf⟩)
              · rintro ((hx | hx) | hx)
                · exact .inl hx
                · exact .inr hx.1
                · exact .inr (.inr (hFs x hx))
            have hbne : bid dst ≠ b := fun e => by subst e; rw [free_spec hfree] at hb; simp at hb
            have hst0 : Stay w w (XX w0 X0 fr.heap ρ) (XX w0 (fun x => X0 x ∨ Blks ρ b x) (updB b (.awayR sz els.length) fr.heap) ρ) := by rw [a2]; exact Stay.refl _ _
            rw [e1] at a1 hst0
            obtain ⟨p, S, r1, r2, r3⟩ := row_ofC (w := w) (fl := old) hru
            obtain ⟨b1, b2, b3, b4⟩ := Puts.add (X0 := fun x => X0 x ∨ (Blks ρ b x ∧ ¬ φ i oo x)) (F := φ i oo) a1 (id := bid dst) (B := .row old sz' es) (p := p) (S := S) (look_updB_none (free_spec hfree))
              (fun x hx => ⟨fun q => q.elim (fun q => h.out b _ x hb rfl (.inr (hFs x hx)) q) fun q => q.2 hx, hnew x (.inr (hFs x hx))⟩) r1
              (fun X' H' ρ' st tt => r2 X' H' ρ' (hst0.trans st (Nat.le_refl _)))
            have hlkb : look b ((bid dst, Blk.row old sz' es) :: updB b (.awayR sz els.length) fr.heap) = some (.awayR sz els.length) := by
              simp only [look]; rw [if_neg hbne]; exact look_updB_self hb
            have hpb : setP (bid dst) p S ρ b = ρ b := setP_ne (Ne.symm hbne) p S ρ
            have hsl : RepE w (XX w0 (fun x => X0 x ∨ (Blks ρ b x ∧ ¬ φ i oo x)) ((bid dst, Blk.row old sz' es) :: updB b (.awayR sz els.length) fr.heap) (setP (bid dst) p S ρ)) ((bid dst, Blk.row old sz' es) :: updB b (.awayR sz els.length) fr.heap) (setP (bid dst) p S ρ) (.sl (bid dst) 0 es.length) u :=
              .sl _ _ _ _ (.row old sz' es) (by simp [look]) (by rw [setP_self]; exact r3)
            obtain ⟨c1, c2, c3, c4⟩ := Puts.revive (X0 := X0) (F := fun x => Blks ρ b x ∧ ¬ φ i oo x) b1 (b := b) (B := .awayR sz els.length) (B' := .hole old sz els i oo (bid dst) es.length) (S := fun x => ρ.sub b x ∧ ¬ φ i oo x) hlkb rfl rfl
              (fun x hx => ⟨h.out b _ x hb rfl hx.1, hnew x hx.1⟩)
              (fun x hx => by
                rw [hpb] at hx
                rcases hx with ⟨k', hk'⟩ | hx
                · refine ⟨.inl ⟨k', hk'⟩, fun hf => ?_⟩
                  rw [hp] at hk'
                  obtain ⟨rfl, rfl⟩ : g = x ∧ k = k' := by simpa using hk'
                  exact hng (hFs _ hf)
                · exact ⟨.inr hx.1, hx.2⟩)
              (fun X' H' ρ' st tt => by
                rw [hpb]
                refine ⟨fun i' j' x => φ i' j' x ∧ ¬ (i' = i ∧ j' = oo), ⟨el, _, hel, hd⟩, q1, q2, fun x hx => q4 x hx.1, fun i1 j1 i2 j2 x z1 z2 z3 z4 => q5 i1 j1 i2 j2 x z1 z2 z3.1 z4.1, fun i1 j1 x z1 z2 => ⟨q6 i1 j1 x z1 z2.1, fun hf => ?_⟩, fun g' k' e => ?_⟩
                · have := q5 i1 j1 i oo x z1 ⟨el, _, hel, hd⟩ z2.1 hf
                  exact z2.2 this
                · obtain ⟨rfl, rfl⟩ : g = g' ∧ k = k' := by rw [hp] at e; simpa using e
                  refine ⟨fun hx => hng hx.1, hown, fun i1 j1 el1 d1 z1 z2 => ?_⟩
                  obtain ⟨u1, y1, y2⟩ := hcells i1 j1 el1 d1 z1 z2
                  refine ⟨u1, y1, ?_⟩
                  show if i1 = i ∧ j1 = oo then RepE w X' H' ρ' (.sl (bid dst) 0 es.length) u1 else RepC w X' d1 u1 (fun x => φ i1 j1 x ∧ ¬ (i1 = i ∧ j1 = oo))
                  split
                  · rename_i hij
                    obtain ⟨rfl, rfl⟩ := hij
                    rw [hel] at z1; obtain rfl := Option.some.inj z1
                    rw [y1] at hu
                    obtain rfl := Option.some.inj hu
                    exact hsl.tr st tt
                  · rename_i hij
                    have eφ : (fun x => φ i1 j1 x ∧ ¬ (i1 = i ∧ j1 = oo)) = φ i1 j1 := by funext x; apply propext; exact ⟨fun q => q.1, fun q => ⟨q, hij⟩⟩
                    show RepC w X' d1 u1 (fun x => φ i1 j1 x ∧ ¬ (i1 = i ∧ j1 = oo))
                    rw [eφ]
                    exact y2.stay ((hst0.trans b2 (Nat.le_refl _)).trans st (Nat.le_refl _)) fun _ _ => rfl)
            have eH : updB b (.hole old sz els i oo (bid dst) es.length) ((bid dst, Blk.row old sz' es) :: updB b (.awayR sz els.length) fr.heap) = (bid dst, Blk.row old sz' es) :: updB b (.hole old sz els i oo (bid dst) es.length) fr.heap := by
              simp only [updB]; rw [if_neg hbne, updB_updB]
            have hsl2 := hsl.tr c2 c3
            rw [eH] at c1 hsl2
            have hex : (execOp a.eval ⟨odst, .load t x0, otype, pos, after, guard⟩).run P w = .ok (.value u) w := by
              have hv := r_loadVar1 (P := P) h1 hu
              simp [execOp, hva, Instr.loadAt, Instr.sureAddr, ← Nat.add_assoc, hv]
            exact ⟨u, _, hex, c1, hsl2, fun s hs => by rw [setS_at]; exact setP_ne hs p S ρ⟩
          · simp at he
        · simp at he
      · simp at he
    · simp at he
  · simp at he
theorem stO_sound {a : Act} (h : FR G w0 L X0 w a.tmps fr ρ) {o : Oper} {s : Option Nat} {ad x : Od} {xs : List V} {H' : Heap} (hc : conv1 P o = some (.st s ad x)) (hxs : cellsV s (oval G fr.env x) = some xs) (hall : xs.all isCell = true) (he : stO fr.heap xs (oval G fr.env ad) = some H') :
    ∃ w' ρ', (execOp a.eval o).run P w = .ok .skip w' ∧ FR G w0 L X0 w' a.tmps { fr with heap := H' } ρ' ∧ HTr w w' fr.heap H' ρ ρ' := by
  have hk := kind_of hc
  obtain ⟨odst, op, otype, pos, after, guard⟩ := o
  obtain ⟨t, a0, x0, hop⟩ := hk
  simp only at hop
  subst hop
  simp only [conv1] at hc
  split at hc
  case h_2 => simp at hc
  rename_i s' a' x' h1 h2 h3
  split at hc
  case isFalse => simp at hc
  rename_i hcond
  obtain ⟨rfl, rfl, rfl⟩ := by simpa using hc
  have hx := od_sound h h3
  have ha := od_sound h h2
  have fin : ∀ w', (Instr.storeAt t (a.eval a0) (a.eval x0)).run P w = .ok () w' → (execOp a.eval ⟨odst, .store t a0 x0, otype, pos, after, guard⟩).run P w = .ok .skip w' := fun w' hr => by simp [execOp, hr]
  obtain ⟨hv, hv1, hv2⟩ := cellsV_sound hx hxs
  have hones := cells_ones hx hxs (fun i y hy => List.all_eq_true.1 hall y (List.mem_of_getElem? hy))
  have hsz : (a.eval x0).cells.size = P.cellsOf t := by
    rw [hv.1, hcond.1]
    cases s' with
    | none => simpa using hv2 rfl
    | some n => simpa using hv1 n rfl
  unfold stO at he
  split at he
  case h_2 => simp at he
  rename_i b i oo hep
  rw [hep] at ha
  cases ht : takeL false fr.heap xs with
  | mk ds pp =>
    obtain ⟨H1, fl⟩ := pp
    simp only [ht] at he
    split at he
    case h_2 => simp at he
    rename_i cs hcs
    split at he
    case h_2 => simp at he
    rename_i old sz els hb
    split at he
    case h_2 => simp at he
    rename_i el hel
    split at he
    case isFalse => simp at he
    rename_i hfit
    obtain ⟨hfit, hfl⟩ := hfit
    obtain rfl := Option.some.inj he
    obtain ⟨φ, t1, t2, t3⟩ := takeL_sound false (us := (a.eval x0).cells.toList) h (by simpa using hv.1) (fun i y u hy hu => hv.2 i y u hy (by simpa using hu)) ht
    obtain ⟨d1, d2⟩ := cellDs_spec hcs
    have p1 := t1.1
    have st1 : Stay w w (XX w0 X0 fr.heap ρ) (XX w0 (fun g => X0 g ∨ AllF ds.length φ g) H1 ρ) := by rw [t1.2.1]; exact Stay.refl _ _
    have ha' := ha.tr st1 t1.2.2.1
    obtain ⟨g, k, hp, hva⟩ := ep_open ha' hb
    obtain ⟨ψ, q1, q2, q4, q5, q6, q3⟩ := p1.blk b _ hb
    obtain ⟨hng, hown, hcells⟩ := q3 g k hp
    have hel' : el.length = sz := q1 el (List.mem_of_getElem? hel)
    have hi : i < els.length := (List.getElem?_eq_some_iff.1 hel).1
    have hbnd : i * sz + sz ≤ els.length * sz := by
      have : (i + 1) * sz ≤ els.length * sz := Nat.mul_le_mul_right _ hi
      rw [Nat.succ_mul] at this; exact this
    have hvl : (a.eval x0).cells.toList.length = cs.length := by rw [d1, t3]; simpa using hv.1
    obtain ⟨w', r1, r2, r3⟩ := store_row (o := k + i * sz + oo) (us := (a.eval x0).cells.toList) hown (by rw [hvl]; omega) hones
    have hgB : Blks ρ b g := .inl ⟨k, hp⟩
    have hTB : ∀ x, AllF ds.length φ x → ¬ Blks ρ b x := fun x hx hb' => p1.out b _ x hb rfl hb' (.inr hx)
    have hnew : ∀ x, Blks ρ b x → (old = true ∧ L x) ∨ w0.heap.size ≤ x := fun x hx => p1.new b _ x hb rfl hx
    have hTl : ∀ x, AllF ds.length φ x → x < w.heap.size := fun x hx => p1.x0 x (.inr hx)
    obtain ⟨a1, a2, a3⟩ := p1.kill' (C := .awayR sz els.length) hb rfl rfl (.inr rfl)
    obtain ⟨b1, b2, b3⟩ := a1.turn r2 (fun x hx => by subst hx; exact .inr hgB) (fun x hx => by subst hx; exact (hnew _ hgB).imp (·.2) id)
    obtain ⟨c1, c2⟩ := b1.less (X1 := fun x => X0 x ∨ (AllF ds.length φ x ∨ Blks ρ b x)) (fun x hx => by
      rcases hx with hx | hx | hx
      · exact .inl (.inl (.inl hx))
      · exact .inl (.inl (.inr hx))
      · exact .inl (.inr hx))
    have hst : Stay w w' (XX w0 X0 fr.heap ρ) (XX w0 (fun x => X0 x ∨ (AllF ds.length φ x ∨ Blks ρ b x)) (updB b (.awayR sz els.length) H1) ρ) := by
      have s2 := Stay.trans b2 c2 r2.size
      rw [a2, t1.2.1] at s2
      exact s2
    have hin : ∀ i2 j2, InR (els.set i (splice el cs oo)) i2 j2 → InR els i2 j2 := by
      rintro i2 j2 ⟨e2, d2, h1, h2⟩
      by_cases hii : i2 = i
      · subst hii
        rw [List.getElem?_set_self hi] at h1
        obtain rfl := Option.some.inj h1
        have hj2 : j2 < el.length := by rw [← splice_len hfit]; exact (List.getElem?_eq_some_iff.1 h2).1
        exact ⟨el, el[j2], hel, List.getElem?_eq_getElem hj2⟩
      · rw [List.getElem?_set_ne (Ne.symm hii)] at h1
        exact ⟨e2, d2, h1, h2⟩
    have hφT : ∀ j x, j < cs.length → φ j x → AllF ds.length φ x := fun j x hj hx => ⟨j, by omega, hx⟩
    obtain ⟨e1, e2, e3, e4⟩ := Puts.revive (X0 := X0) (F := fun x => AllF ds.length φ x ∨ Blks ρ b x) c1 (b := b) (B := .awayR sz els.length) (B' := .row old sz (els.set i (splice el cs oo))) (S := fun x => AllF ds.length φ x ∨ ρ.sub b x) (look_updB_self hb) rfl (by simp [Blk.sh])
      (fun x hx => by
        rcases hx with hx | hx
        · obtain ⟨z1, z2⟩ := t1.2.2.2 x hx
          exact ⟨z1, z2.imp (fun z => ⟨hfl z.1, z.2⟩) id⟩
        · exact ⟨fun hX => p1.out b _ x hb rfl hx (.inl hX), hnew x hx⟩)
      (fun x hx => by
        rcases hx with hx | hx | hx
        · exact .inr (.inl hx)
        · exact .inl hx
        · exact .inr (.inr hx))
      (fun X' H' ρ' st tt => by
        have stt : Stay w w' (XX w0 X0 fr.heap ρ) X' := Stay.trans hst st r2.size
        have keepT : ∀ x, AllF ds.length φ x → w'.heap[x]? = w.heap[x]? := fun x hx => r2.keep x (hTl x hx) fun e => by subst e; exact hTB _ hx hgB
        have keepS : ∀ x, ρ.sub b x → w'.heap[x]? = w.heap[x]? := fun x hx => r2.keep x (q4 x hx) fun e => by subst e; exact hng hx
        refine ⟨fun i2 j2 x => if i2 = i ∧ oo ≤ j2 ∧ j2 < oo + cs.length then φ (j2 - oo) x else ψ i2 j2 x, fun e he => ?_, .inr (by rw [hp]; simp), fun x hx => ?_, fun i2 j2 i3 j3 x h1 h2 h3 h4 => ?_, fun i2 j2 x h1 h2 => ?_, fun g2 k2 e => ?_⟩
        · rcases List.mem_or_eq_of_mem_set he with hh | hh
          · exact q1 e hh
          · rw [hh, splice_len hfit]; exact hel'
        · rcases hx with hx | hx
          · exact heap_lt (hTl x hx) (keepT x hx)
          · exact heap_lt (q4 x hx) (keepS x hx)
        · change (if i2 = i ∧ oo ≤ j2 ∧ j2 < oo + cs.length then φ (j2 - oo) x else ψ i2 j2 x) at h3
          change (if i3 = i ∧ oo ≤ j3 ∧ j3 < oo + cs.length then φ (j3 - oo) x else ψ i3 j3 x) at h4
          by_cases hc2 : i2 = i ∧ oo ≤ j2 ∧ j2 < oo + cs.length <;> by_cases hc3 : i3 = i ∧ oo ≤ j3 ∧ j3 < oo + cs.length
          · rw [if_pos hc2] at h3; rw [if_pos hc3] at h4
            have := t2.2.1 (j2 - oo) (j3 - oo) x (by omega) (by omega) h3 h4
            omega
          · rw [if_pos hc2] at h3; rw [if_neg hc3] at h4
            exact absurd (.inr (q6 _ _ x (hin _ _ h2) h4)) (hTB x (hφT _ x (by omega) h3))
          · rw [if_neg hc2] at h3; rw [if_pos hc3] at h4
            exact absurd (.inr (q6 _ _ x (hin _ _ h1) h3)) (hTB x (hφT _ x (by omega) h4))
          · rw [if_neg hc2] at h3; rw [if_neg hc3] at h4
            exact q5 i2 j2 i3 j3 x (hin _ _ h1) (hin _ _ h2) h3 h4
        · change (if i2 = i ∧ oo ≤ j2 ∧ j2 < oo + cs.length then φ (j2 - oo) x else ψ i2 j2 x) at h2
          split at h2
          · exact .inl (hφT _ x (by omega) h2)
          · exact .inr (q6 i2 j2 x (hin _ _ h1) h2)
        · obtain ⟨rfl, rfl⟩ : g = g2 ∧ k = k2 := by rw [hp] at e; simpa using e
          refine ⟨fun hx => hx.elim (fun hx => hTB _ hx hgB) hng, by simpa using r2.own _ _ hown, fun i2 j2 e2 dd h1 h2 => ?_⟩
          show ∃ u, w'.cell? ⟨g, k + i2 * sz + j2, none⟩ = some u ∧ RepC w' X' dd u (fun x => if i2 = i ∧ oo ≤ j2 ∧ j2 < oo + cs.length then φ (j2 - oo) x else ψ i2 j2 x)
          by_cases hcc : i2 = i ∧ oo ≤ j2 ∧ j2 < oo + cs.length
          · have eφ : (fun x => if i2 = i ∧ oo ≤ j2 ∧ j2 < oo + cs.length then φ (j2 - oo) x else ψ i2 j2 x) = φ (j2 - oo) := by funext x; rw [if_pos hcc]
            rw [eφ]
            obtain ⟨rfl, hj⟩ := hcc
            rw [List.getElem?_set_self hi] at h1
            obtain rfl := Option.some.inj h1
            rw [splice_get hfit, if_pos hj] at h2
            obtain ⟨d0, z1, z2⟩ := d2 (j2 - oo) dd h2
            have hj2 : j2 < el.length := by omega
            obtain ⟨u0, e0, f0⟩ := hcells i2 j2 el el[j2] hel (List.getElem?_eq_getElem hj2)
            have hlt : j2 - oo < (a.eval x0).cells.toList.length := by rw [hvl]; omega
            refine ⟨(a.eval x0).cells.toList[j2 - oo], ?_, (repV_cell (t2.2.2 (j2 - oo) d0 _ z1 (List.getElem?_eq_getElem hlt)) z2).stay stt fun x hx => keepT x (hφT _ x (by omega) hx)⟩
            rw [r3 _ _ e0, if_pos (by rw [hvl]; omega), show k + i2 * sz + j2 - (k + i2 * sz + oo) = j2 - oo by omega, List.getElem?_eq_getElem hlt]
          · have eφ : (fun x => if i2 = i ∧ oo ≤ j2 ∧ j2 < oo + cs.length then φ (j2 - oo) x else ψ i2 j2 x) = ψ i2 j2 := by funext x; rw [if_neg hcc]
            rw [eφ]
            have hin' := hin i2 j2 ⟨e2, dd, h1, h2⟩
            have hold : ∃ e3, els[i2]? = some e3 ∧ e3[j2]? = some dd := by
              by_cases hii : i2 = i
              · subst hii
                rw [List.getElem?_set_self hi] at h1
                obtain rfl := Option.some.inj h1
                rw [splice_get hfit, if_neg (fun hj => hcc ⟨rfl, hj⟩)] at h2
                exact ⟨el, hel, h2⟩
              · rw [List.getElem?_set_ne (Ne.symm hii)] at h1
                exact ⟨e2, h1, h2⟩
            obtain ⟨e3, h1', h2'⟩ := hold
            obtain ⟨u0, e0, f0⟩ := hcells i2 j2 e3 dd h1' h2'
            rw [t1.2.1] at f0
            have hj2 : j2 < sz := by rw [← q1 e3 (List.mem_of_getElem? h1')]; exact (List.getElem?_eq_some_iff.1 h2').1
            refine ⟨u0, ?_, f0.stay stt fun x hx => keepS x (q6 _ _ x hin' hx)⟩
            rw [r3 _ _ e0, if_neg]
            rw [hvl]
            intro hh
            have := (idx_inj (i := i2) (j := j2) (i' := i) (j' := i2 * sz + j2 - i * sz) hj2 (by omega) (by omega)).1
            subst this
            exact hcc ⟨rfl, by omega, by omega⟩)
    rw [updB_updB] at e1 e3
    exact ⟨w', _, fin w' (by rw [hva]; exact r_storeAt h1 hsz r1), e1, ((t1.2.2.1.trans a3).trans b3).trans e3⟩
theorem ownZs_len : ∀ ds, (ownZs ds).length = ds.length
  | [] => rfl
  | d :: ds => by simp [ownZs, ownZs_len ds]
theorem ownZs_get : ∀ {ds : List D} {j : Nat} {d : D}, (ownZs ds)[j]? = some d → ∃ d0, ds[j]? = some d0 ∧ d = ownZ d0
  | [], j, d, h => by simp [ownZs] at h
  | e :: ds, 0, d, h => by simp [ownZs] at h; exact ⟨e, rfl, h.symm⟩
  | e :: ds, j + 1, d, h => by simp [ownZs] at h; simpa using ownZs_get h
theorem zOkL_get : ∀ {xs : List V} {vs : List Value} {j : Nat} {x : V}, zOkL xs vs = true → xs[j]? = some x → ∃ v, zOk x v = true
  | x :: xs, v :: vs, 0, x', h, hj => by
    simp only [zOkL, Bool.and_eq_true] at h
    simp at hj; subst hj; exact ⟨v, h.1⟩
  | x :: xs, v :: vs, j + 1, x', h, hj => by
    simp only [zOkL, Bool.and_eq_true] at h
    exact zOkL_get h.2 (by simpa using hj)
  | [], _, j, x', h, hj => by simp at hj
  | _ :: _, [], j, x', h, hj => by simp [zOkL] at h
theorem zOk_own {x : V} {v : Value} (h : zOk x v = true) {d : D} (hx : x = .val d) : ownZ d = d := by
  subst hx
  cases d <;> first | rfl | skip
  simp [zOk] at h
theorem own_zero {z : V} {v : Value} {d : D} (hd : plainZ z = some d) (hz : RepE w X H ρ z v) (ho : ∃ v', zOk z v' = true) : RepC w X (ownZ d) v (fun _ => False) := by
  have hS := plainZ_sound hd hz
  obtain ⟨v', ho⟩ := ho
  cases z with
  | val d' =>
    simp only [plainZ] at hd
    obtain rfl := Option.some.inj hd
    rw [zOk_own ho rfl]; exact .ofS hS
  | emp sz =>
    simp only [plainZ] at hd
    obtain rfl := Option.some.inj hd
    cases hz with
    | emp sz A => exact .own0 _ _ _ fun b hb => hb.elim
  | _ => simp [plainZ] at hd
theorem zero_rowsO {t : TypeId} {zs : List V} {ds : List D} {i : TypeInfo} {z : Value} {n : Nat} (hz : zeros P t = some zs) (hd : plainZs zs = some ds) (hi : P.info? t = some i) (hzz : i.zero = some z) (hl : ds.length = P.cellsOf t) :
    (madeCells z.cells (n * i.size)).size = n * P.cellsOf t ∧ (∀ el ∈ List.replicate n (ownZs ds), el.length = P.cellsOf t) ∧
      ∀ (q j : Nat) (el : List D) (d : D), (List.replicate n (ownZs ds))[q]? = some el → el[j]? = some d → ∃ u, (madeCells z.cells (n * i.size))[q * P.cellsOf t + j]? = some u ∧ RepC w X d u (fun _ => False) := by
  have hzo : ∀ (j : Nat) (x : V), zs[j]? = some x → ∃ v, zOk x v = true := fun j x hj => by
    unfold zeros at hz
    rw [hi] at hz
    simp only [hzz] at hz
    split at hz
    · rename_i hok
      obtain rfl := Option.some.inj hz
      exact zOkL_get hok hj
    · simp at hz
  obtain ⟨i', z', h1, h2, h3⟩ := zeros_spec (w := w) (X := X) (H := []) (ρ := ⟨fun _ => none, fun _ _ => False⟩) hz
  rw [hi] at h1; obtain rfl := Option.some.inj h1
  rw [hzz] at h2; obtain rfl := Option.some.inj h2
  obtain ⟨k1, k2⟩ := plainZs_spec hd
  have hs : P.cellsOf t = i.size := by simp [Program.cellsOf, hi]
  have hzs : z.cells.size = i.size := by rw [h3.1, ← k1, hl, hs]
  refine ⟨by rw [size_madeCells, hs], fun el hel => by rw [List.eq_of_mem_replicate hel, ownZs_len]; exact hl, fun q j el d q1 q2 => ?_⟩
  have hq : q < n := by simpa using (List.getElem?_eq_some_iff.1 q1).1
  have : el = ownZs ds := by rw [List.getElem?_replicate, if_pos hq] at q1; exact (Option.some.inj q1).symm
  subst this
  obtain ⟨d0, q2', rfl⟩ := ownZs_get q2
  have hj : j < i.size := by rw [← hs, ← hl]; exact (List.getElem?_eq_some_iff.1 q2').1
  have hjz : j < zs.length := by rw [← k1, hl, hs]; exact hj
  refine ⟨z.cells[j]'(by rw [hzs]; exact hj), ?_, own_zero (k2 j zs[j] d0 (List.getElem?_eq_getElem hjz) q2') (h3.2 j zs[j] _ (List.getElem?_eq_getElem hjz) (by simp [hzs, hj])) (hzo j _ (List.getElem?_eq_getElem hjz))⟩
  rw [hs]
  have hlt := idx_lt hq hj
  unfold madeCells
  rw [Array.getElem?_map]
  have : (Array.range (n * i.size))[q * i.size + j]? = some (q * i.size + j) := by simp [hlt]
  rw [this]
  have hm : (q * i.size + j) % z.cells.size = j := by rw [hzs, Nat.add_comm, Nat.add_mul_mod_self_right, Nat.mod_eq_of_lt hj]
  have hj' : j < z.cells.size := by rw [hzs]; exact hj
  simp only [Option.map_some, hm, getElem!_pos z.cells j hj']
theorem mslO_sound {a : Act} (h : FR G w0 L X0 w a.tmps fr ρ) {o : Oper} {sz by_ : Nat} {zs : List D} {l c : Od} {dst : Nat} {y : V} {H' : Heap} (hc : conv1 P o = some (.msl sz by_ zs l c)) (he : evm (oval G fr.env) fr.heap dst (.msl sz by_ (ownZs zs) l c) = some (y, H')) :
    ∃ u w' ρ', (execOp a.eval o).run P w = .ok (.value u) w' ∧ FR G w0 L X0 w' a.tmps { fr with heap := H' } ρ' ∧ RepE w' (XX w0 X0 H' ρ') H' ρ' y u ∧ (∀ s, s ≠ bid dst → ρ' s = ρ s) := by
  have od1 : ∀ {t : TypeId} {x : Operand} {z : Od}, od P t x = some z → RepE w (XX w0 X0 fr.heap ρ) fr.heap ρ (oval G fr.env z) (a.eval x) := fun hz => od_sound h hz
  have hk := kind_of hc
  obtain ⟨odst, op, otype, pos, after, guard⟩ := o
  obtain ⟨t, l0, c0, hop⟩ := hk
  simp only at hop
  subst hop
  simp only [evm] at he
  simp only [conv1] at hc
  split at hc
  · rename_i e hu
    split at hc
    · rename_i zv l' c' i h1 h2 h3 hi
      split at hc
      · rename_i ds h4
        split at hc
        · rename_i hcond
          obtain ⟨rfl, rfl, rfl, rfl, rfl⟩ := by simpa using hc
          split at he
          · rename_i kl n kc n' hl hcv
            split at he
            · rename_i hh
              obtain ⟨rfl, hn0, hb, h63, hfree⟩ := hh
              obtain ⟨rfl, rfl⟩ := by simpa using he
              obtain ⟨i', z, hi', hzz, _⟩ := zeros_spec (w := w) (X := XX w0 X0 fr.heap ρ) (H := fr.heap) (ρ := ρ) h1
              rw [hi] at hi'; obtain rfl := Option.some.inj hi'
              obtain ⟨q1, _⟩ := zero_rows (w := w) (X := XX w0 X0 fr.heap ρ) (n := n.toNat) h1 h4 hi hzz hcond.2
              obtain ⟨o1, o2, o3⟩ := zero_rowsO (w := w) (X := XX w0 X0 fr.heap ρ) (n := n.toNat) h1 h4 hi hzz hcond.2
              have el : Act.eval a l0 = .int kl n := by have := od1 h2; rw [hl] at this; exact rep_int this
              have ec : Act.eval a c0 = .int kc n := by have := od1 h3; rw [hcv] at this; exact rep_int this
              have hg : (w.alloc (.cells (madeCells z.cells (n.toNat * i.size)) e)).heap[w.heap.size]? = some (.cells (madeCells z.cells (n.toNat * i.size)) e (0, 0)) := heap_alloc_new w _
              obtain ⟨b1, b2, b3⟩ := h.born (chg_alloc w (.cells (madeCells z.cells (n.toNat * i.size)) e)) (g := w.heap.size) (k := 0) (Nat.le_refl _) (by simp) (free_spec hfree) (B := .row false (P.cellsOf e) (List.replicate n.toNat (ownZs ds))) (fun X' H' ρ' st tt => by
                refine ⟨fun _ _ _ => False, o2, .inr (by simp), fun x hx => hx.elim, fun i1 j1 i2 j2 b _ _ hb => hb.elim, fun i1 j1 x _ hb => hb.elim, fun g k e => ?_⟩
                obtain ⟨rfl, rfl⟩ : w.heap.size = g ∧ 0 = k := by simpa using e
                refine ⟨fun hx => hx.elim, ⟨_, _, hg, by rw [o1]; simp⟩, fun i1 j1 el1 d1 z1 z2 => ?_⟩
                obtain ⟨u, y1, y2⟩ := o3 i1 j1 el1 d1 z1 z2
                exact ⟨u, by unfold World.cell?; rw [hg]; simp [y1], y2.stay st fun _ hx => hx.elim⟩)
              refine ⟨_, _, _, ?_, b1, .sl _ _ _ _ (.row false (P.cellsOf e) (List.replicate n.toNat (ownZs ds))) (by simp [look]) ⟨by simp, some ⟨w.heap.size, 0, none⟩, n.toNat, rfl, Nat.le_refl _, .inr ⟨w.heap.size, 0, setP_self _ _ _ _, by simp, ⟨_, _, hg, by rw [o1]; simp⟩⟩⟩, fun s hs => setP_ne hs _ _ _⟩
              simp only [execOp, el, ec, Sem.run_bind, run_make w t e i z hu hi hzz kl kc n n hn0 (Int.le_refl _) hb h63, Result.andThen_ok, Sem.run_pure]
            · simp at he
          · simp at he
        · simp at hc
      · simp at hc
    · simp at hc
  · simp at hc
end
end Go.Proofs.Ytpbonfgmiffomaa.Wm
set_option linter.unusedSimpArgs false
set_option linter.unusedVariables false
namespace Go.Proofs.Ytpbonfgmiffomaa.Wm
open Go
section
variable {P : Program} {G : Nat → Option (List D)} {w0 : World} {L X0 X1 : Nat → Prop} {w w' w2 : World} {tm : Array Value} {fr : Fr} {ρ ρ' : Place} {X : K → Nat → Prop} {H : Heap}
def RowO (w : World) (X : K → Nat → Prop) (sz : Nat) (els : List (List D)) (us : Array Value) (φ : Nat → Nat → Nat → Prop) (T : Nat → Prop) : Prop :=
  us.size = els.length * sz ∧ (∀ el ∈ els, el.length = sz) ∧ RowD els φ ∧ (∀ i j x, InR els i j → φ i j x → T x) ∧
    ∀ (i j : Nat) (el : List D) (d : D), els[i]? = some el → el[j]? = some d → ∃ u, us[i * sz + j]? = some u ∧ RepC w X d u (φ i j)
theorem bslElsO_sound {f : Od → V} {sz : Nat} (h0 : FR G w0 L X0 w tm fr ρ) : ∀ (ps : List Part) (qs : List (Nat × Value)) {H : Heap} {fl fl' : Bool} {T : Nat → Prop} {φ : Nat → Nat → Nat → Prop} {els els' : List (List D)} {us : Array Value} {H' : Heap},
    Took G w0 L X0 w tm fr ρ H fl T → RowO w (XX w0 X0 fr.heap ρ) sz els us φ T → ps.length = qs.length →
    (∀ (j : Nat) (p : Part) (q : Nat × Value), ps[j]? = some p → qs[j]? = some q → p.at_ = q.1 ∧ RepE w (XX w0 X0 fr.heap ρ) fr.heap ρ (f p.x) q.2) → bslElsO f sz H fl els ps = some (els', H', fl') →
    ∃ us' φ' T', Instr.fill (fun i => some (i * sz, sz)) us qs = some us' ∧ Took G w0 L X0 w tm fr ρ H' fl' T' ∧ RowO w (XX w0 X0 fr.heap ρ) sz els' us' φ' T' ∧ els'.length = els.length
  | [], qs, H, fl, fl', T, φ, els, els', us, H', h, hr, hl, hp, he => by
    obtain rfl : qs = [] := List.eq_nil_of_length_eq_zero hl.symm
    simp only [bslElsO] at he
    obtain ⟨rfl, rfl, rfl⟩ := by simpa using he
    exact ⟨us, φ, T, rfl, h, hr, rfl⟩
  | p :: ps, qs, H, fl, fl', T, φ, els, els', us, H', h, hr, hl, hp, he => by
    cases qs with
    | nil => simp at hl
    | cons q qs =>
      obtain ⟨i', v⟩ := q
      obtain ⟨hpl, hx⟩ : p.at_ = i' ∧ RepE w (XX w0 X0 fr.heap ρ) fr.heap ρ (f p.x) v := hp 0 p (i', v) rfl rfl
      obtain ⟨off, s, x⟩ := p
      simp only at hpl hx
      subst hpl
      simp only [bslElsO] at he
      split at he
      case h_2 => simp at he
      rename_i xs hxs
      cases ht : takeL false H xs with
      | mk ds pp =>
        obtain ⟨H1, f1⟩ := pp
        simp only [ht] at he
        split at he
        case h_2 => simp at he
        rename_i cs hcs
        split at he
        case isFalse => simp at he
        rename_i hc
        obtain ⟨hlt, hds, hall⟩ := hc
        obtain ⟨hv, _, _⟩ := cellsV_sound hx hxs
        have st0 : Stay w w (XX w0 X0 fr.heap ρ) (XX w0 (fun g => X0 g ∨ T g) H ρ) := by rw [h.2.1]; exact Stay.refl _ _
        obtain ⟨ψ, t1, t2, t3⟩ := takeL_sound false (us := v.cells.toList) (fr := { fr with heap := H }) h.1 (by simpa using hv.1) (fun i y u hy hu => (hv.2 i y u hy (by simpa using hu)).tr st0 h.2.2.1) ht
        obtain ⟨d1, d2⟩ := cellDs_spec hcs
        obtain ⟨c1, c2⟩ := h.trans t1
        simp only [h.2.1] at t2
        have hsz : v.cells.size = sz := by rw [hv.1, ← t3, ← d1, hds]
        obtain ⟨r1, r2, r4, r5, r3⟩ := hr
        have hfit : off * sz + sz ≤ us.size := by
          rw [r1]
          have : (off + 1) * sz ≤ els.length * sz := Nat.mul_le_mul_right _ hlt
          rw [Nat.succ_mul] at this; exact this
        obtain ⟨f1', f2⟩ := fold_set (off * sz) v.cells.toList 0 us (by simp [hsz]; exact hfit)
        have hin : ∀ i j, i ≠ off → InR (els.set off cs) i j → InR els i j := by
          rintro i j hi ⟨el, d, q1, q2⟩
          rw [List.getElem?_set_ne (Ne.symm hi)] at q1
          exact ⟨el, d, q1, q2⟩
        have hlen : ∀ j, InR (els.set off cs) off j → j < ds.length := by
          rintro j ⟨el, d, q1, q2⟩
          rw [List.getElem?_set_self hlt] at q1
          obtain rfl := Option.some.inj q1
          rw [← d1]; exact (List.getElem?_eq_some_iff.1 q2).1
        have hrow : RowO w (XX w0 X0 fr.heap ρ) sz (els.set off cs) ((v.cells.toList.zipIdx 0).foldl (fun cs p => cs.setIfInBounds (off * sz + p.2) p.1) us) (fun i j x => if i = off then ψ j x else φ i j x) (fun b => T b ∨ AllF ds.length ψ b) := by
          refine ⟨by rw [f1', r1]; simp, fun el hel => ?_, fun i j i2 j2 b g1 g2 g3 g4 => ?_, fun i j x g1 g2 => ?_, fun i j el d h1 h2 => ?_⟩
          · rcases List.mem_or_eq_of_mem_set hel with h | h
            · exact r2 el h
            · rw [h]; exact hds
          · simp only at g3 g4
            by_cases e1 : i = off <;> by_cases e2 : i2 = off
            · subst e1; subst e2
              rw [if_pos rfl] at g3 g4
              exact ⟨rfl, t2.2.1 j j2 b (hlen _ g1) (hlen _ g2) g3 g4⟩
            · rw [if_pos e1] at g3; rw [if_neg e2] at g4
              subst e1
              exact absurd ⟨j, hlen _ g1, g3⟩ (c2 b (r5 _ _ b (hin _ _ e2 g2) g4))
            · rw [if_neg e1] at g3; rw [if_pos e2] at g4
              subst e2
              exact absurd ⟨j2, hlen _ g2, g4⟩ (c2 b (r5 _ _ b (hin _ _ e1 g1) g3))
            · rw [if_neg e1] at g3; rw [if_neg e2] at g4
              exact r4 i j i2 j2 b (hin _ _ e1 g1) (hin _ _ e2 g2) g3 g4
          · simp only at g2
            by_cases e1 : i = off
            · rw [if_pos e1] at g2; subst e1
              exact .inr ⟨j, hlen _ g1, g2⟩
            · rw [if_neg e1] at g2
              exact .inl (r5 i j x (hin _ _ e1 g1) g2)
          · by_cases hi : i = off
            · subst hi
              have eφ : (fun x => if i = i then ψ j x else φ i j x) = ψ j := by funext x; simp
              show ∃ u, _ ∧ RepC w _ d u (fun x => if i = i then ψ j x else φ i j x)
              rw [eφ]
              rw [List.getElem?_set_self hlt] at h1
              obtain rfl := Option.some.inj h1
              have hj : j < sz := by rw [← hds]; exact (List.getElem?_eq_some_iff.1 h2).1
              have hj' : j < v.cells.toList.length := by simpa [hsz] using hj
              obtain ⟨d0, z1, z2⟩ := d2 j d h2
              refine ⟨v.cells.toList[j], ?_, repV_cell (t2.2.2 j d0 _ z1 (List.getElem?_eq_getElem hj')) z2⟩
              rw [f2, if_pos (by simp [hsz]; omega), show i * sz + j - (i * sz + 0) = j by omega, List.getElem?_eq_getElem hj']
            · have eφ : (fun x => if i = off then ψ j x else φ i j x) = φ i j := by funext x; rw [if_neg hi]
              show ∃ u, _ ∧ RepC w _ d u (fun x => if i = off then ψ j x else φ i j x)
              rw [eφ]
              rw [List.getElem?_set_ne (Ne.symm hi)] at h1
              obtain ⟨u, q1, q2⟩ := r3 i j el d h1 h2
              have hj : j < sz := by rw [← r2 el (List.mem_of_getElem? h1)]; exact (List.getElem?_eq_some_iff.1 h2).1
              refine ⟨u, ?_, q2⟩
              rw [f2, if_neg ?_]
              · exact q1
              · simp only [Array.length_toList, hsz, Nat.add_zero]
                intro hh
                have := (idx_inj (i := i) (j := j) (i' := off) (j' := i * sz + j - off * sz) hj (by omega) (by omega)).1
                exact hi this
        obtain ⟨us', φ', T', g1, g2, g3, g4⟩ := bslElsO_sound h0 ps qs c1 hrow (by simpa using hl) (fun j p q hp' hq' => hp (j + 1) p q (by simpa using hp') (by simpa using hq')) he
        refine ⟨us', φ', T', ?_, g2, g3, by rw [g4]; simp⟩
        unfold Instr.fill
        simp only [hsz]
        rw [if_neg (by simp; omega)]
        first
          | exact g1
          | (simp only [← Array.foldl_toList, Array.toList_zipIdx] at g1 ⊢; exact g1)
theorem bslO_sound {a : Act} (h : FR G w0 L X0 w a.tmps fr ρ) {o : Oper} {sz len : Nat} {zs : List D} {ps : List Part} {dst : Nat} {y : V} {H' : Heap} (hc : conv1 P o = some (.bsl sz zs len ps)) (he : bslO (oval G fr.env) fr.heap dst sz zs len ps = some (y, H')) :
    ∃ u w' ρ', (execOp a.eval o).run P w = .ok (.value u) w' ∧ FR G w0 L X0 w' a.tmps { fr with heap := H' } ρ' ∧ RepE w' (XX w0 X0 H' ρ') H' ρ' y u ∧ HTr w w' fr.heap H' ρ ρ' ∧ Chg w w' E := by
  have od1 : ∀ {t : TypeId} {x : Operand} {z : Od}, od P t x = some z → RepE w (XX w0 X0 fr.heap ρ) fr.heap ρ (oval G fr.env z) (a.eval x) := fun hz => od_sound h hz
  have hk := kind_of hc
  obtain ⟨odst, op, otype, pos, after, guard⟩ := o
  obtain ⟨t, l, parts, hop⟩ := hk
  simp only at hop
  subst hop
  simp only [conv1] at hc
  split at hc
  case h_2 => simp at hc
  rename_i e hu
  split at hc
  case h_2 => simp at hc
  rename_i zv ps' h1 h2
  split at hc
  case h_2 => simp at hc
  rename_i ds h3
  split at hc
  case isFalse => simp at hc
  rename_i hcond
  obtain ⟨rfl, rfl, rfl, rfl⟩ := by simpa using hc
  unfold bslO at he
  split at he
  case h_2 => simp at he
  rename_i els H1 fl hels
  split at he
  case isFalse => simp at he
  rename_i hfree
  obtain ⟨rfl, rfl⟩ := by simpa using he
  obtain ⟨i, z, hi, hzz, _⟩ := zeros_spec (w := w) (X := XX w0 X0 fr.heap ρ) (H := fr.heap) (ρ := ρ) h1
  obtain ⟨q1, q2, q3⟩ := zero_rowsO (w := w) (X := XX w0 X0 fr.heap ρ) (n := l) h1 h3 hi hzz hcond.2.2
  obtain ⟨k1, k2⟩ := partsA_spec h2
  have hs : P.cellsOf e = i.size := by simp [Program.cellsOf, hi]
  obtain ⟨us', φ, T, g1, g2, g3, g6⟩ := bslElsO_sound h ps' (parts.map fun p => (p.1, a.eval p.2)).toList (us := madeCells z.cells (l * i.size)) (φ := fun _ _ => E) (T := E) (Took.none h fun b hb => hb)
    ⟨by rw [q1]; simp, q2, fun _ _ _ _ _ _ _ q => q.elim, fun _ _ _ _ q => q.elim, q3⟩ (by simpa using k1) (fun j p q hp' hq' => by
    simp only [Array.toList_map, List.getElem?_map, Option.map_eq_some_iff] at hq'
    obtain ⟨q0, hq0, rfl⟩ := hq'
    obtain ⟨b2, b3, b4⟩ := k2 j p q0 hp' hq0
    exact ⟨b2, od1 b4⟩) hels
  have hel : els.length = l := by rw [g6]; simp
  have hrun : (execOp a.eval ⟨odst, .buildSlice t l parts, otype, pos, after, guard⟩).run P w = .ok (.value (.slice (some ⟨w.heap.size, 0, none⟩) l l)) (w.alloc (.cells us' e)) := by
    rw [hs] at g1 hcond
    have hns : ¬ l * i.size > 2 ^ 24 := by have := hcond.1; omega
    by_cases h0 : l * i.size = 0
    · have e0 : madeCells z.cells (l * i.size) = #[] := by rw [h0]; simp [madeCells]
      rw [e0] at g1
      simp at g1
      simp [execOp, Instr.buildSlice, run_underlying hu, Go.sizeOf, typeInfo, hi, h0, newRow, Array.range_zero', g1]
    · simp at g1
      unfold madeCells at g1
      simp [execOp, Instr.buildSlice, run_underlying hu, Go.sizeOf, typeInfo, zeroValue, hi, hzz, hns, h0, newRow, g1]
  obtain ⟨r1, r2, r4, r5, r3⟩ := g3
  obtain ⟨t1, t2, t3, t4⟩ := g2
  have hca := chg_alloc w (.cells us' e)
  obtain ⟨a1, a2, a3⟩ := t1.turn hca (fun _ q => q.elim) (fun _ q => q.elim)
  have hnew : (w.alloc (.cells us' e)).heap[w.heap.size]? = some (.cells us' e (0, 0)) := heap_alloc_new w _
  have hTl : ∀ x, T x → x < w.heap.size := fun x hx => t1.x0 x (.inr hx)
  have hst : Stay w (w.alloc (.cells us' e)) (XX w0 X0 fr.heap ρ) (XX w0 (fun b => (X0 b ∨ T b) ∨ (w.heap.size ≤ b ∧ b < (w.alloc (.cells us' e)).heap.size)) H1 ρ) := by
    rw [← t2]; exact a2
  have hsz1 : w.heap.size < (w.alloc (.cells us' e)).heap.size := (Array.getElem?_eq_some_iff.1 hnew).1
  have w0s : w0.heap.size ≤ w.heap.size := h.chg.size
  obtain ⟨f1, f2, f3⟩ := a1.add (X1 := X0) (b := bid dst) (B := .row fl (P.cellsOf e) els) (p := some (w.heap.size, 0)) (S := T) (free_spec hfree) (fun g hg => .inl (.inl hg)) (fun g hg => by
      rcases hg with ⟨k, e'⟩ | hg
      · obtain ⟨rfl, rfl⟩ : w.heap.size = g ∧ 0 = k := by simpa using e'
        exact ⟨.inr ⟨Nat.le_refl _, hsz1⟩, fun hx => by have := h.x0 _ hx; omega, .inr w0s⟩
      · exact ⟨.inl (.inr hg), (t4 g hg).1, (t4 g hg).2⟩) (by
      have hs2 : Stay w (w.alloc (.cells us' e)) (XX w0 X0 fr.heap ρ) (XX w0 X0 ((bid dst, .row fl (P.cellsOf e) els) :: H1) (setP (bid dst) (some (w.heap.size, 0)) T ρ)) := by
        refine ⟨hst.heap, fun q b hb hx => ?_⟩
        refine hst.off q b hb ?_
        rcases hx with hx | hx | ⟨b', B', h1', h2', h3'⟩
        · exact .inl (.inl (.inl hx))
        · exact .inr (.inl hx)
        · simp only [look] at h1'
          split at h1'
          · rename_i hbb
            subst hbb
            rw [setP_blks] at h3'
            rcases h3' with ⟨k, e'⟩ | h3'
            · obtain ⟨rfl, rfl⟩ : w.heap.size = b ∧ 0 = k := by simpa using e'
              omega
            · exact .inl (.inl (.inr h3'))
          · rename_i hbb
            rw [setP_blks_ne (fun e => hbb e.symm)] at h3'
            exact .inr (.inr ⟨b', B', h1', h2', h3'⟩)
      refine ⟨φ, r2, .inr (by simp), fun x hx => Nat.lt_of_lt_of_le (hTl x hx) hca.size, r4, r5, fun g k e' => ?_⟩
      obtain ⟨rfl, rfl⟩ : w.heap.size = g ∧ 0 = k := by simpa using e'
      refine ⟨fun hx => by have := hTl _ hx; omega, ⟨_, _, hnew, by rw [r1]; omega⟩, fun i j el d z1 z2 => ?_⟩
      obtain ⟨u, y1, y2⟩ := r3 i j el d z1 z2
      refine ⟨u, ?_, y2.stay hs2 fun x hx => hca.keep x (hTl x (r5 i j x ⟨el, d, z1, z2⟩ hx)) fun q => q.elim⟩
      unfold World.cell?
      rw [hnew]
      simp [y1])
  refine ⟨_, _, _, hrun, f1, .sl _ _ _ _ (.row fl (P.cellsOf e) els) (by simp [look]) ⟨by omega, _, l, rfl, Nat.le_refl _, .inr ⟨w.heap.size, 0, setP_self _ _ _ _, by simp, ⟨_, _, hnew, by rw [r1, hel]; omega⟩⟩⟩, (t3.trans a3).trans f3, hca⟩
end
end Go.Proofs.Ytpbonfgmiffomaa.Wm
set_option linter.unusedSimpArgs false
set_option linter.unusedVariables false
namespace Go.Proofs.Ytpbonfgmiffomaa.Wm
open Go
def attach1 (H : Heap) (b : Nat) : Option Heap := match look b H with
  | some (.hole old sz els i j b2 n) => match look b2 H with
    | some (.row old2 sz2 els2) => match els[i]? with
      | some el => if j < el.length ∧ els2.length = n ∧ (old2 = true → old = true) then some (updB b (.row old sz (els.set i (el.set j (.sh .own sz2 els2)))) (updB b2 .gone H)) else none
      | none => none
    | _ => none
  | _ => none
def attachs (H : Heap) : List Nat → Option Heap
  | [] => some H
  | b :: bs => match attach1 H b with
    | some H1 => attachs H1 bs
    | none => none
section
variable {P : Program} {G : Nat → Option (List D)} {w0 : World} {L X0 X1 : Nat → Prop} {w w' w2 : World} {tm : Array Value} {fr : Fr} {ρ ρ' : Place} {X : K → Nat → Prop} {H : Heap}
theorem attach1_sound (h : FR G w0 L X0 w tm fr ρ) {b : Nat} {H' : Heap} (he : attach1 fr.heap b = some H') : ∃ ρ', FR G w0 L X0 w tm { fr with heap := H' } ρ' ∧ HTr w w fr.heap H' ρ ρ' := by
  unfold attach1 at he
  split at he
  case h_2 => simp at he
  rename_i old sz els i j b2 n hb
  split at he
  case h_2 => simp at he
  rename_i old2 sz2 els2 hb2
  split at he
  case h_2 => simp at he
  rename_i el hel
  split at he
  case isFalse => simp at he
  rename_i hcond
  obtain ⟨hj, hn, hold⟩ := hcond
  obtain rfl := Option.some.inj he
  have hne : b2 ≠ b := fun e => by subst e; rw [hb] at hb2; simp at hb2
  obtain ⟨φ, hin, q1, q2, q4, q5, q6, q3⟩ := h.blk b _ hb
  have hp : ∃ g k, ρ b = some (g, k) := by
    rcases q2 with q2 | q2
    · subst q2; simp at hel
    · cases hq : ρ b with
      | none => exact absurd hq q2
      | some gk => exact ⟨gk.1, gk.2, rfl⟩
  obtain ⟨g, k, hp⟩ := hp
  obtain ⟨hng, hown, hcells⟩ := q3 g k hp
  obtain ⟨u, hu, hru⟩ := hcells i j el el[j] hel (List.getElem?_eq_getElem hj)
  replace hru : if i = i ∧ j = j then RepE w (XX w0 X0 fr.heap ρ) fr.heap ρ (.sl b2 0 n) u else RepC w (XX w0 X0 fr.heap ρ) el[j] u (φ i j) := hru
  rw [if_pos ⟨rfl, rfl⟩] at hru
  have hown2 := h.row_own hru hb2
  rw [List.drop_zero, ← hn, List.take_length] at hown2
  have hsep : ∀ x, Blks ρ b2 x → ¬ Blks ρ b x := fun x h1 h2 => hne (h.sep b2 b _ _ x hb2 hb rfl rfl h1 h2)
  have hnew : ∀ x, Blks ρ b x → (old = true ∧ L x) ∨ w0.heap.size ≤ x := fun x hx => h.new b _ x hb rfl hx
  have hnew2 : ∀ x, Blks ρ b2 x → (old2 = true ∧ L x) ∨ w0.heap.size ≤ x := fun x hx => h.new b2 _ x hb2 rfl hx
  have hlt2 : ∀ x, Blks ρ b2 x → x < w.heap.size := fun x hx => h.held_lt ⟨b2, _, hb2, rfl, hx⟩
  obtain ⟨a1, a2, a3⟩ := h.kill hb2 rfl
  have hb' : look b (updB b2 .gone fr.heap) = some (.hole old sz els i j b2 n) := by rw [look_updB_ne (Ne.symm hne)]; exact hb
  obtain ⟨c1, c2, c3⟩ := a1.kill' (C := .awayR sz els.length) hb' rfl rfl (.inr rfl)
  have e1 : (fun x => (X0 x ∨ Blks ρ b2 x) ∨ Blks ρ b x) = fun x => X0 x ∨ (Blks ρ b2 x ∨ Blks ρ b x) := by funext x; rw [or_assoc]
  have hst : Stay w w (XX w0 X0 fr.heap ρ) (XX w0 (fun x => (X0 x ∨ Blks ρ b2 x) ∨ Blks ρ b x) (updB b (.awayR sz els.length) (updB b2 .gone fr.heap)) ρ) := by
    rw [c2, a2]; exact Stay.refl _ _
  rw [e1] at c1 hst
  have hinS : ∀ i2 j2, InR (els.set i (el.set j (.sh .own sz2 els2))) i2 j2 → InR els i2 j2 := by
    rintro i2 j2 ⟨e2, d2, h1, h2⟩
    by_cases hii : i2 = i
    · subst hii
      rw [List.getElem?_set_self (List.getElem?_eq_some_iff.1 hel).1] at h1
      obtain rfl := Option.some.inj h1
      have hj2 : j2 < el.length := by simpa using (List.getElem?_eq_some_iff.1 h2).1
      exact ⟨el, el[j2], hel, List.getElem?_eq_getElem hj2⟩
    · rw [List.getElem?_set_ne (Ne.symm hii)] at h1
      exact ⟨e2, d2, h1, h2⟩
  obtain ⟨d1, d2, d3, d4⟩ := Puts.revive (X0 := X0) (F := fun x => Blks ρ b2 x ∨ Blks ρ b x) c1 (b := b) (B := .awayR sz els.length) (B' := .row old sz (els.set i (el.set j (.sh .own sz2 els2)))) (S := fun x => Blks ρ b2 x ∨ ρ.sub b x) (look_updB_self hb') rfl (by simp [Blk.sh])
    (fun x hx => by
      rcases hx with hx | hx
      · exact ⟨h.out b2 _ x hb2 rfl hx, (hnew2 x hx).imp (fun z => ⟨hold z.1, z.2⟩) id⟩
      · exact ⟨h.out b _ x hb rfl hx, hnew x hx⟩)
    (fun x hx => by
      rcases hx with hx | hx | hx
      · exact .inr (.inl hx)
      · exact .inl hx
      · exact .inr (.inr hx))
    (fun X' H' ρ' st tt => by
      have stt : Stay w w (XX w0 X0 fr.heap ρ) X' := Stay.trans hst st (Nat.le_refl _)
      refine ⟨fun i2 j2 x => if i2 = i ∧ j2 = j then Blks ρ b2 x else φ i2 j2 x, fun e he => ?_, .inr (by rw [hp]; simp), fun x hx => hx.elim (hlt2 x) (q4 x), fun i2 j2 i3 j3 x h1 h2 h3 h4 => ?_, fun i2 j2 x h1 h2 => ?_, fun g2 k2 e => ?_⟩
      · rcases List.mem_or_eq_of_mem_set he with hh | hh
        · exact q1 e hh
        · rw [hh, List.length_set]; exact q1 el (List.mem_of_getElem? hel)
      · change (if i2 = i ∧ j2 = j then Blks ρ b2 x else φ i2 j2 x) at h3
        change (if i3 = i ∧ j3 = j then Blks ρ b2 x else φ i3 j3 x) at h4
        by_cases hc2 : i2 = i ∧ j2 = j <;> by_cases hc3 : i3 = i ∧ j3 = j
        · exact ⟨hc2.1.trans hc3.1.symm, hc2.2.trans hc3.2.symm⟩
        · rw [if_pos hc2] at h3; rw [if_neg hc3] at h4
          exact absurd (.inr (q6 _ _ x (hinS _ _ h2) h4)) (hsep x h3)
        · rw [if_neg hc2] at h3; rw [if_pos hc3] at h4
          exact absurd (.inr (q6 _ _ x (hinS _ _ h1) h3)) (hsep x h4)
        · rw [if_neg hc2] at h3; rw [if_neg hc3] at h4
          exact q5 i2 j2 i3 j3 x (hinS _ _ h1) (hinS _ _ h2) h3 h4
      · change (if i2 = i ∧ j2 = j then Blks ρ b2 x else φ i2 j2 x) at h2
        split at h2
        · exact .inl h2
        · exact .inr (q6 i2 j2 x (hinS _ _ h1) h2)
      · obtain ⟨rfl, rfl⟩ : g = g2 ∧ k = k2 := by rw [hp] at e; simpa using e
        refine ⟨fun hx => hx.elim (fun hx => hsep _ hx (.inl ⟨k, hp⟩)) hng, by simpa using hown, fun i2 j2 e2 dd h1 h2 => ?_⟩
        show ∃ u, w.cell? ⟨g, k + i2 * sz + j2, none⟩ = some u ∧ RepC w X' dd u (fun x => if i2 = i ∧ j2 = j then Blks ρ b2 x else φ i2 j2 x)
        by_cases hcc : i2 = i ∧ j2 = j
        · have eφ : (fun x => if i2 = i ∧ j2 = j then Blks ρ b2 x else φ i2 j2 x) = fun x => Blks ρ b2 x := by funext x; rw [if_pos hcc]
          rw [eφ]
          obtain ⟨rfl, rfl⟩ := hcc
          rw [List.getElem?_set_self (List.getElem?_eq_some_iff.1 hel).1] at h1
          obtain rfl := Option.some.inj h1
          rw [List.getElem?_set_self hj] at h2
          obtain rfl := Option.some.inj h2
          exact ⟨u, hu, hown2.stay stt fun _ _ => rfl⟩
        · have eφ : (fun x => if i2 = i ∧ j2 = j then Blks ρ b2 x else φ i2 j2 x) = φ i2 j2 := by funext x; rw [if_neg hcc]
          rw [eφ]
          have hold : ∃ e3, els[i2]? = some e3 ∧ e3[j2]? = some dd := by
            by_cases hii : i2 = i
            · subst hii
              rw [List.getElem?_set_self (List.getElem?_eq_some_iff.1 hel).1] at h1
              obtain rfl := Option.some.inj h1
              rw [List.getElem?_set_ne (fun e => hcc ⟨rfl, e.symm⟩)] at h2
              exact ⟨el, hel, h2⟩
            · rw [List.getElem?_set_ne (Ne.symm hii)] at h1
              exact ⟨e2, h1, h2⟩
          obtain ⟨e3, h1', h2'⟩ := hold
          obtain ⟨u0, e0, f0⟩ := hcells i2 j2 e3 dd h1' h2'
          replace f0 : if i2 = i ∧ j2 = j then RepE w (XX w0 X0 fr.heap ρ) fr.heap ρ (.sl b2 0 n) u0 else RepC w (XX w0 X0 fr.heap ρ) dd u0 (φ i2 j2) := f0
          rw [if_neg hcc] at f0
          exact ⟨u0, e0, f0.stay stt fun _ _ => rfl⟩)
  rw [updB_updB] at d1 d3
  exact ⟨_, d1, (a3.trans c3).trans d3⟩
theorem attachs_sound : ∀ {bs : List Nat} {fr : Fr} {ρ : Place} {H' : Heap}, FR G w0 L X0 w tm fr ρ → attachs fr.heap bs = some H' → ∃ ρ', FR G w0 L X0 w tm { fr with heap := H' } ρ' ∧ HTr w w fr.heap H' ρ ρ'
  | [], fr, ρ, H', h, he => by
    simp only [attachs] at he
    obtain rfl := Option.some.inj he
    exact ⟨ρ, h, HTr.same fun _ _ h => h⟩
  | b :: bs, fr, ρ, H', h, he => by
    simp only [attachs] at he
    split at he
    · rename_i H1 h1
      obtain ⟨ρ1, a1, a2⟩ := attach1_sound h h1
      obtain ⟨ρ2, b1, b2⟩ := attachs_sound (fr := { fr with heap := H1 }) a1 he
      exact ⟨ρ2, b1, a2.trans b2⟩
    · simp at he
end
end Go.Proofs.Ytpbonfgmiffomaa.Wm
set_option linter.unusedSimpArgs false
set_option linter.unusedVariables false
namespace Go.Proofs.Ytpbonfgmiffomaa.Wm
open Go
structure Vop where
  dst : Option Nat
  i : I
  g : Option (Nat × Bool)
def putV (fr : Fr) (dst : Option Nat) (y : V) : Option Fr := match dst with
  | some d => if d < fr.nt then some { fr with env := (d, y) :: fr.env } else none
  | none => some fr
def putR (fr : Fr) (dst : Option Nat) (r : Option (V × Heap)) : Option Fr := match r with
  | some (y, H) => putV { fr with heap := H } dst y
  | none => none
def callV (ρ : Od → V) (f : Od) (xs : List Od) : Option (FuncId × List V) := match ρ f with
  | .fn g caps => some (g, xs.map ρ ++ caps)
  | .val (.fn g cs) => some (g, xs.map ρ ++ cs.map .val)
  | _ => none
def eff (C : Cx) (ρ : Od → V) (H : Heap) (d : Nat) (i : I) : Option (V × Heap) := match i with
  | .st s a x => match evs ρ H (.st s a x) with
    | some H1 => some (.dead, H1)
    | none => none
  | .app sz by_ s x => eva ρ H d (.app sz by_ s x)
  | .call f xs => match callV ρ f xs with
    | some (g, ys) => evcG C H d g ys
    | none => none
  | .cpy .. => none
  | .box s x => evm ρ H d (.box s x)
  | .alc zs => evm ρ H d (.alc zs)
  | .bsl sz zs l ps => evm ρ H d (.bsl sz zs l ps)
  | .msl sz b zs l c => evm ρ H d (.msl sz b zs l c)
  | .own i => effO ρ H d i
  | i => match evq H ρ i with
    | some y => some (y, H)
    | none => none
def step1 (C : Cx) (fr : Fr) (dst : Option Nat) (i : I) : Option Fr := putR fr dst (eff C (oval C.gl fr.env) fr.heap (dst.getD 99999) i)
def condV (v : V) (want : Bool) : Option Bool := match v with
  | .val (.bool b) => some (b == want)
  | .tup [] => some false
  | _ => none
def stepO (C : Cx) (fr : Fr) (o : Vop) : Option Fr := match o.g with
  | none => step1 C fr o.dst o.i
  | some (t, want) => match condV (oval C.gl fr.env (.tmp t)) want with
    | some true => step1 C fr o.dst o.i
    | some false => putV fr o.dst (.tup [])
    | none => none
def steps (C : Cx) : Fr → List Vop → Option Fr
  | fr, [] => some fr
  | fr, o :: l => match stepO C fr o with
    | some fr1 => steps C fr1 l
    | none => none
def vopOf (P : Program) (ops : Array Oper) (o : Oper) (v : Vop) : Prop :=
  v.dst = o.dst ∧ conv1 P o = some v.i.base ∧ ((o.guard = none ∧ v.g = none) ∨ ∃ j want t, o.guard = some (j, want) ∧ (ops[j]?).bind (·.dst) = some t ∧ v.g = some (t, want))
def okFn (P : Program) (f : FuncId) : Prop := ∃ fn, P.funcs[f]? = some fn ∧ fn.body.isNone = false ∧ (fn.name == "runtime.NumGoroutine") = false
structure CSound (P : Program) (C : Cx) : Prop where
  ok : ∀ f ds r, C.fn f ds = some r → okFn P f
  sound : ∀ f, SoundFn P C.gl (C.own f) f (C.fn f)
  nf : ∀ g cs, C.gl g = some cs → nfL cs = true
def isMut (own : FuncId → List Nat) : I → Bool
  | .st .. => true
  | .app .. => true
  | .cpy .. => true
  | .call (.cst (.fn g [])) _ => (flatM (own g)).contains 1
  | .call .. => true
  | .own (.bsl ..) => false
  | .own _ => true
  | _ => false
def isWild : I → Bool
  | .app .. => true
  | .cpy .. => true
  | .call .. => true
  | .own _ => true
  | _ => false
def ExtS (w w' : World) : Prop := Ext w w' ∧ w.heap.size ≤ w'.heap.size
theorem ExtS.refl (w : World) : ExtS w w := ⟨Ext.refl w, Nat.le_refl _⟩
theorem ExtS.of_chg {w w' : World} (h : Chg w w' E) : ExtS w w' := ⟨fun b hb => h.keep b hb fun h => h, h.size⟩
def Keep (H H' : Heap) (ρ ρ' : Place) : Prop := ∀ s B, 1000000000 ≤ s → look s H = some B → ∃ B', look s H' = some B' ∧ (B'.sh = .gone ∨ (ρ' s = ρ s ∧ B'.sh = B.sh))
theorem Keep.refl (H : Heap) (ρ : Place) : Keep H H ρ ρ := fun s B _ h => ⟨B, h, .inr ⟨rfl, rfl⟩⟩
theorem Keep.trans {H1 H2 H3 : Heap} {ρ1 ρ2 ρ3 : Place} (h : Keep H1 H2 ρ1 ρ2) (k : Keep H2 H3 ρ2 ρ3) : Keep H1 H3 ρ1 ρ3 := fun s B hs hb => by
  obtain ⟨B2, h2, q2⟩ := h s B hs hb
  obtain ⟨B3, h3, q3⟩ := k s B2 hs h2
  refine ⟨B3, h3, ?_⟩
  rcases q3 with q3 | ⟨q3, q4⟩
  · exact .inl q3
  · rcases q2 with q2 | ⟨q2, q5⟩
    · exact .inl (q4.trans q2)
    · exact .inr ⟨q3.trans q2, q4.trans q5⟩
theorem Keep.of_htr {w w' : World} {H H' : Heap} {ρ ρ' : Place} (h : HTr w w' H H' ρ ρ') : Keep H H' ρ ρ' := fun s B _ hb => h.blk s B hb
def Gr (H H' : Heap) : Prop := ∀ s B, look s H = some B → ∃ B', look s H' = some B' ∧ (B'.sh = .gone ∨ B'.sh = B.sh)
theorem Gr.refl (H : Heap) : Gr H H := fun s B h => ⟨B, h, .inr rfl⟩
theorem Gr.trans {H1 H2 H3 : Heap} (h : Gr H1 H2) (k : Gr H2 H3) : Gr H1 H3 := fun s B hb => by
  obtain ⟨B2, h2, q2⟩ := h s B hb
  obtain ⟨B3, h3, q3⟩ := k s B2 h2
  refine ⟨B3, h3, ?_⟩
  rcases q3 with q3 | q3
  · exact .inl q3
  · exact q2.imp (fun q => q3.trans q) fun q => q3.trans q
theorem Gr.add {H : Heap} {id : Nat} {B : Blk} (h : free id H = true) : Gr H ((id, B) :: H) := fun s C hc => ⟨C, by
  have hne : id ≠ s := fun e => by subst e; rw [free_spec h] at hc; simp at hc
  simp only [look]; rw [if_neg hne]; exact hc, .inr rfl⟩
theorem Gr.gone (H : Heap) (b : Nat) : Gr H (updB b .gone H) := fun s C hc => by
  by_cases h : s = b
  · subst h; exact ⟨.gone, look_updB_self hc, .inl rfl⟩
  · exact ⟨C, by rw [look_updB_ne h]; exact hc, .inr rfl⟩
theorem Gr.keep {H H' : Heap} {ρ ρ' : Place} {b : Nat} (h : Gr H H') (hp : ∀ s, s ≠ b → ρ' s = ρ s) (hb : b < 1000000000) : Keep H H' ρ ρ' := fun s B hs hB => by
  obtain ⟨B', h1, h2⟩ := h s B hB
  exact ⟨B', h1, h2.imp id fun q => ⟨hp s (by omega), q⟩⟩
theorem plainV_gr {H H' : Heap} {x : V} {d : D} (h : plainV H x = some (d, H')) : Gr H H' := by
  unfold plainV at h
  split at h
  · obtain ⟨_, rfl⟩ := by simpa using h
    exact Gr.refl _
  · obtain ⟨_, rfl⟩ := by simpa using h
    exact Gr.refl _
  · obtain ⟨_, rfl⟩ := by simpa using h
    exact Gr.refl _
  · split at h
    · split at h
      · obtain ⟨_, rfl⟩ := by simpa using h
        exact Gr.gone _ _
      · simp at h
    · simp at h
  · simp at h
theorem plainL_gr : ∀ {xs : List V} {H H' : Heap} {ds : List D}, plainL H xs = some (ds, H') → Gr H H'
  | [], H, H', ds, h => by
    simp only [plainL] at h
    obtain ⟨_, rfl⟩ := by simpa using h
    exact Gr.refl _
  | x :: xs, H, H', ds, h => by
    simp only [plainL] at h
    split at h
    · rename_i h1
      split at h
      · rename_i h2
        obtain ⟨_, rfl⟩ := by simpa using h
        exact (plainV_gr h1).trans (plainL_gr h2)
      · simp at h
    · simp at h
theorem bslEls_gr {ρ : Od → V} {sz : Nat} : ∀ {ps : List Part} {H H' : Heap} {els els' : List (List D)}, bslEls ρ sz H els ps = some (els', H') → Gr H H'
  | [], H, H', els, els', h => by
    simp only [bslEls] at h
    obtain ⟨_, rfl⟩ := by simpa using h
    exact Gr.refl _
  | p :: ps, H, H', els, els', h => by
    simp only [bslEls] at h
    split at h
    · split at h
      · rename_i h1
        split at h
        · exact (plainL_gr h1).trans (bslEls_gr h)
        · simp at h
      · simp at h
    · simp at h
theorem evm_gr {ρ : Od → V} {H H' : Heap} {dst : Nat} {i : I} {y : V} (h : evm ρ H dst i = some (y, H')) : Gr H H' := by
  unfold evm at h
  split at h
  · split at h
    · split at h
      · rename_i hf
        obtain ⟨_, rfl⟩ := by simpa using h
        exact Gr.add hf
      · simp at h
    · simp at h
  · split at h
    · rename_i hf
      obtain ⟨_, rfl⟩ := by simpa using h
      exact Gr.add hf
    · simp at h
  · split at h
    · rename_i h1
      split at h
      · rename_i hf
        obtain ⟨_, rfl⟩ := by simpa using h
        exact (bslEls_gr h1).trans (Gr.add hf)
      · simp at h
    · simp at h
  · split at h
    · split at h
      · rename_i hf
        obtain ⟨_, rfl⟩ := by simpa using h
        exact Gr.add hf.2.2.2.2
      · simp at h
    · simp at h
  · simp at h
theorem eva_gr {ρ : Od → V} {H H' : Heap} {dst : Nat} {i : I} {y : V} (h : eva ρ H dst i = some (y, H')) : Gr H H' := by
  unfold eva at h
  split at h
  · split at h
    · split at h
      · rename_i hb
        split at h
        · rename_i hf
          obtain ⟨_, rfl⟩ := by simpa using h
          refine Gr.trans ?_ (Gr.add hf.2.2.2)
          unfold baseOf at hb
          split at hb
          · split at hb
            · split at hb
              · obtain ⟨_, _, rfl⟩ := by simpa using hb
                exact Gr.gone _ _
              · simp at hb
            · simp at hb
          · obtain ⟨_, _, rfl⟩ := by simpa using hb
            exact Gr.refl _
          · simp at hb
        · simp at h
      · simp at h
    · simp at h
  · simp at h
theorem ldO_gr {H H' : Heap} {dst : Nat} {x y : V} (h : ldO H dst x = some (y, H')) : Gr H H' := by
  unfold ldO at h
  split at h
  · rename_i b i o
    split at h
    · rename_i old sz els hb
      split at h
      · split at h
        · split at h
          · rename_i hf
            obtain ⟨_, rfl⟩ := by simpa using h
            intro s B hs
            have hne : bid dst ≠ s := fun e => by subst e; rw [free_spec hf] at hs; simp at hs
            simp only [look]; rw [if_neg hne]
            by_cases hsb : s = b
            · subst hsb; rw [hb] at hs; obtain rfl := Option.some.inj hs; exact ⟨_, look_updB_self hb, .inr rfl⟩
            · exact ⟨B, by rw [look_updB_ne hsb]; exact hs, .inr rfl⟩
          · simp at h
        · simp at h
      · simp at h
    · simp at h
  · simp at h
end Go.Proofs.Ytpbonfgmiffomaa.Wm
set_option linter.unusedSimpArgs false
set_option linter.unusedVariables false
namespace Go.Proofs.Ytpbonfgmiffomaa.Wm
open Go
section
variable {P : Program} {G : Nat → Option (List D)} {w0 : World} {L X0 X1 : Nat → Prop} {w w' w2 : World} {tm : Array Value} {fr : Fr} {ρ ρ' : Place} {X : K → Nat → Prop} {H : Heap}
def After (G : Nat → Option (List D)) (w0 : World) (L X0 : Nat → Prop) (a a' : Act) (w' : World) (H : Heap) (ρ : Place) (fr' : Fr) : Prop :=
  ∃ ρ', FR G w0 L X0 w' a'.tmps fr' ρ' ∧ a'.defers = a.defers ∧ a'.tmps.size = a.tmps.size ∧ Keep H fr'.heap ρ ρ'
theorem put_after {a : Act} {fr1 fr' : Fr} {ρ' : Place} {dst : Option Nat} {y : V} {v : Value} (h : FR G w0 L X0 w' a.tmps fr1 ρ') (hy : RepE w' (XX w0 X0 fr1.heap ρ') fr1.heap ρ' y v)
    (hp : Keep H fr1.heap ρ ρ') (he : putV fr1 dst y = some fr') : After G w0 L X0 a (a.put dst v) w' H ρ fr' := by
  unfold putV at he
  cases dst with
  | none =>
    obtain rfl := Option.some.inj he
    exact ⟨ρ', h, rfl, rfl, hp⟩
  | some d =>
    simp only at he
    split at he
    · rename_i hd
      obtain rfl := Option.some.inj he
      exact ⟨ρ', h.put hd hy, rfl, by simp [Act.put], hp⟩
    · simp at he
def AfterS (i : I) (G : Nat → Option (List D)) (w0 : World) (L X0 : Nat → Prop) (w : World) (a a' : Act) (w' : World) (H : Heap) (ρ : Place) (fr' : Fr) : Prop :=
  ∃ ρ', FR G w0 L X0 w' a'.tmps fr' ρ' ∧ a'.defers = a.defers ∧ a'.tmps.size = a.tmps.size ∧ Keep H fr'.heap ρ ρ' ∧ (isWild i = false → Stay w w' (XX w0 X0 H ρ) (XX w0 X0 fr'.heap ρ'))
theorem put_afterS {i : I} {a : Act} {fr1 fr' : Fr} {ρ' : Place} {dst : Option Nat} {y : V} {v : Value} (h : FR G w0 L X0 w' a.tmps fr1 ρ') (hy : RepE w' (XX w0 X0 fr1.heap ρ') fr1.heap ρ' y v)
    (hp : Keep H fr1.heap ρ ρ') (hst : isWild i = false → Stay w w' (XX w0 X0 H ρ) (XX w0 X0 fr1.heap ρ')) (he : putV fr1 dst y = some fr') : AfterS i G w0 L X0 w a (a.put dst v) w' H ρ fr' := by
  unfold putV at he
  cases dst with
  | none =>
    obtain rfl := Option.some.inj he
    exact ⟨ρ', h, rfl, rfl, hp, hst⟩
  | some d =>
    simp only at he
    split at he
    · rename_i hd
      obtain rfl := Option.some.inj he
      exact ⟨ρ', h.put hd hy, rfl, by simp [Act.put], hp, hst⟩
    · simp at he
theorem bid_lt {fr fr1 fr2 : Fr} {dst : Option Nat} {y : V} (h : putV fr1 dst y = some fr2) (hn : fr1.nt = fr.nt) (hnt : fr.nt ≤ 99999) : bid (dst.getD 99999) < 1000000000 := by
  unfold putV at h
  unfold bid
  cases dst with
  | none => simp
  | some d =>
    simp only at h
    split at h
    · simp; omega
    · simp at h
theorem evc_fn {C : Cx} {ms : List Nat} {H : Heap} {dst : Nat} {f : FuncId} {xs : List V} {r : V × Heap} (he : evc C ms H dst f xs = some r) : ∃ ds r, C.fn f ds = some r := by
  unfold evc at he
  split at he
  · split at he
    · split at he
      · rename_i hfn
        exact ⟨_, _, hfn⟩
      · simp at he
    · simp at he
  · simp at he
theorem evcG_fn {C : Cx} {H : Heap} {dst : Nat} {f : FuncId} {xs : List V} {r : V × Heap} (he : evcG C H dst f xs = some r) : ∃ ds r, C.fn f ds = some r := by
  unfold evcG at he
  split at he
  · split at he
    · exact evc_fn he
    · simp at he
  · simp at he
theorem odL_spec : ∀ {ts : List TypeId} {xs : List Operand} {ys : List Od}, odL P ts xs = some ys → ys.length = xs.length ∧ ∀ (i : Nat) (y : Od) (x : Operand), ys[i]? = some y → xs[i]? = some x → ∃ t, od P t x = some y
  | [], [], ys, h => by simp [odL] at h; subst h; exact ⟨rfl, fun i y x q => by simp at q⟩
  | t :: ts, [], ys, h => by simp [odL] at h; subst h; exact ⟨rfl, fun i y x q => by simp at q⟩
  | [], x :: xs, ys, h => by simp [odL] at h
  | t :: ts, x :: xs, ys, h => by
    simp only [odL] at h
    split at h
    · rename_i y hy
      split at h
      · rename_i ys' hys
        obtain rfl := Option.some.inj h
        obtain ⟨a1, a2⟩ := odL_spec hys
        refine ⟨by simp [a1], fun i y' x' q1 q2 => ?_⟩
        cases i with
        | zero => simp at q1 q2; subst q1; subst q2; exact ⟨t, hy⟩
        | succ i => exact a2 i y' x' (by simpa using q1) (by simpa using q2)
      · simp at h
    · simp at h
theorem callV_sound {a : Act} (h : FR G w0 L X0 w a.tmps fr ρ) {f : Operand} {args : Array Operand} {ts : Array TypeId} {o : Oper} {g : FuncId} {ys : List V} {f' : Od} {xs' : List Od} (ho : o.op = .call ⟨.value f, args, ts⟩) (hg : okFn P g) (hf' : od P 0 f = some f') (hxs : odL P ts.toList args.toList = some xs')
    (he : callV (oval G fr.env) f' xs' = some (g, ys)) : ∃ us : List Value, us.length = ys.length ∧ (∀ (i : Nat) (x : V) (u : Value), ys[i]? = some x → us[i]? = some u → RepE w (XX w0 X0 fr.heap ρ) fr.heap ρ x u) ∧ (execOp a.eval o).run P w = .ok (.enter g us.toArray) w := by
  obtain ⟨k1, k2⟩ := odL_spec hxs
  have hargs : ∀ (i : Nat) (x : V) (u : Value), (xs'.map (oval G fr.env))[i]? = some x → (args.toList.map a.eval)[i]? = some u → RepE w (XX w0 X0 fr.heap ρ) fr.heap ρ x u := fun i x u q1 q2 => by
    rw [List.getElem?_map, Option.map_eq_some_iff] at q1 q2
    obtain ⟨y, q1, rfl⟩ := q1
    obtain ⟨z, q2, rfl⟩ := q2
    obtain ⟨t, ht⟩ := k2 i y z q1 q2
    exact od_sound h ht
  have hf := od_sound h hf'
  have run : ∀ cs : Array Value, a.eval f = .func (.func g) #[] cs → (execOp a.eval o).run P w = .ok (.enter g (args.toList.map a.eval ++ cs.toList).toArray) w := by
    intro cs hv
    obtain ⟨fn, h1, h2, h3⟩ := hg
    have h2' : fn.body ≠ none := by intro hh; simp [hh] at h2
    have h3' : fn.name ≠ "runtime.NumGoroutine" := by simpa using h3
    unfold execOp
    rw [ho]
    simp [resolve, hv, Deferred.ofValue, invoke, callFunc, h1, h2', h3']
  have fin : ∀ {caps : List V} {cs : List Value}, cs.length = caps.length → (∀ (i : Nat) (x : V) (u : Value), caps[i]? = some x → cs[i]? = some u → RepE w (XX w0 X0 fr.heap ρ) fr.heap ρ x u) →
      ∀ (i : Nat) (x : V) (u : Value), (xs'.map (oval G fr.env) ++ caps)[i]? = some x → (args.toList.map a.eval ++ cs)[i]? = some u → RepE w (XX w0 X0 fr.heap ρ) fr.heap ρ x u := by
    intro caps cs hl hh i x u q1 q2
    have e : (xs'.map (oval G fr.env)).length = (args.toList.map a.eval).length := by simp [k1]
    rw [List.getElem?_append] at q1 q2
    rw [e] at q1
    split at q1
    · rename_i hi
      rw [if_pos hi] at q2
      exact hargs i x u q1 q2
    · rename_i hi
      rw [if_neg hi] at q2
      exact hh _ x u q1 q2
  unfold callV at he
  split at he
  · rename_i g' caps hv
    obtain ⟨rfl, rfl⟩ := by simpa using he
    rw [hv] at hf
    generalize hfe : a.eval f = fv at hf
    cases hf with
    | fn _ _ us hs hh =>
      exact ⟨_, by simp [k1, hs], fin (by simpa using hs) (fun i x u q1 q2 => hh i x u q1 (by simpa using q2)), run us hfe⟩
  · rename_i g' cs hv
    obtain ⟨rfl, rfl⟩ := by simpa using he
    rw [hv] at hf
    generalize hfe : a.eval f = fv at hf
    cases hf with
    | val _ _ hf =>
      cases hf with
      | fn _ _ us hs hh =>
        exact ⟨_, by simp [k1, hs], fin (caps := cs.map .val) (by simpa using hs) (fun i x u q1 q2 => by
          rw [List.getElem?_map, Option.map_eq_some_iff] at q1
          obtain ⟨d, q1, rfl⟩ := q1
          exact .val d u (hh i d u q1 (by simpa using q2))), run us hfe⟩
  · simp at he
theorem eff_quiet {C : Cx} {r : Od → V} {d : Nat} {i : I} (h : heavy i = false) : eff C r H d i = match evq H r i with
    | some y => some (y, H)
    | none => none := by
  cases i <;> first | rfl | (simp [heavy] at h; done)
theorem evaO_gr {ρ : Od → V} {H H' : Heap} {dst : Nat} {i : I} {y : V} (h : evaO ρ H dst i = some (y, H')) : Gr H H' := by
  have base : ∀ {H H1 : Heap} {sz : Nat} {x : V} {cs : List (List D)} {old : Bool}, baseOf H sz x = some (cs, old, H1) → Gr H H1 := by
    intro H H1 sz x cs old hb
    unfold baseOf at hb
    split at hb
    · split at hb
      · split at hb
        · obtain ⟨_, _, rfl⟩ := by simpa using hb
          exact Gr.gone _ _
        · simp at hb
      · simp at hb
    · obtain ⟨_, _, rfl⟩ := by simpa using hb
      exact Gr.refl _
    · simp at hb
  unfold evaO at h
  split at h
  · split at h
    · rename_i h1
      split at h
      · rename_i h2
        split at h
        · rename_i hf
          obtain ⟨_, rfl⟩ := by simpa using h
          exact ((base h1).trans (base h2)).trans (Gr.add hf.2.2)
        · simp at h
      · simp at h
    · simp at h
  · simp at h
theorem evaP_gr {ρ : Od → V} {H H' : Heap} {dst : Nat} {i : I} {y : V} (h : evaP ρ H dst i = some (y, H')) : Gr H H' := by
  have base : ∀ {H H1 : Heap} {sz : Nat} {x : V} {cs : List (List D)} {old : Bool}, baseOf H sz x = some (cs, old, H1) → Gr H H1 := by
    intro H H1 sz x cs old hb
    unfold baseOf at hb
    split at hb
    · split at hb
      · split at hb
        · obtain ⟨_, _, rfl⟩ := by simpa using hb
          exact Gr.gone _ _
        · simp at hb
      · simp at hb
    · obtain ⟨_, _, rfl⟩ := by simpa using hb
      exact Gr.refl _
    · simp at hb
  have part : ∀ {H H1 : Heap} {sz : Nat} {x : V} {cs : List (List D)} {old : Bool}, partB H sz x = some (cs, old, H1) → Gr H H1 := by
    intro H H1 sz x cs old hb
    unfold partB at hb
    split at hb
    · split at hb
      · rename_i b o n _ old' sz' els hl
        split at hb
        · obtain ⟨_, _, rfl⟩ := by simpa using hb
          intro s B hs
          by_cases hsb : s = b
          · subst hsb; rw [hl] at hs; obtain rfl := Option.some.inj hs; exact ⟨_, look_updB_self hl, .inr (by simp [Blk.sh, restW_len]; omega)⟩
          · exact ⟨B, by rw [look_updB_ne hsb]; exact hs, .inr rfl⟩
        · simp at hb
      · simp at hb
    · simp at hb
  unfold evaP at h
  split at h
  · split at h
    · rename_i h1
      split at h
      · rename_i h2
        split at h
        · rename_i hf
          obtain ⟨_, rfl⟩ := by simpa using h
          exact ((base h1).trans (part h2)).trans (Gr.add hf.2.2)
        · simp at h
      · simp at h
    · simp at h
  · simp at h
theorem step1_sound {C : Cx} (hC : CSound P C) (hG : C.gl = G) {a : Act} (h : FR G w0 L X0 w a.tmps fr ρ) (hnt : fr.nt ≤ 99999) {o : Oper} {i : I} (hc0 : conv1 P o = some i.base) {fr' : Fr} (he0 : step1 C fr o.dst i = some fr')
    {K : Act → World → Prop} {Q : Exit → Act → World → Prop} (hK : ∀ a' w', AfterS i G w0 L X0 w a a' w' fr.heap ρ fr' → (isMut C.own i = false → ExtS w w') → K a' w') : o.wp P a w K Q := by
  unfold step1 at he0
  rw [hG] at he0
  have fin : ∀ {r : Option (V × Heap)}, putR fr o.dst r = some fr' → ∃ y H1, r = some (y, H1) ∧ putV { fr with heap := H1 } o.dst y = some fr' := by
    intro r hr
    unfold putR at hr
    split at hr
    · exact ⟨_, _, rfl, hr⟩
    · simp at hr
  obtain ⟨y, H1, he, hp⟩ := fin he0
  have hb : bid (o.dst.getD 99999) < 1000000000 := bid_lt hp rfl hnt
  have quiet : conv1 P o = some i → evq fr.heap (oval G fr.env) i = some y → H1 = fr.heap → o.wp P a w K Q := by
    intro hc hq hH
    subst hH
    obtain ⟨u, b1, b2⟩ := evq_sound h hc hq
    unfold Oper.wp
    rw [b1 w (Ext.refl w), Oper.upon_value]
    exact hK _ _ (put_afterS h b2 (Keep.refl _ _) (fun _ => Stay.refl _ _) hp) (fun _ => ExtS.refl w)
  have make : conv1 P o = some i → evm (oval G fr.env) fr.heap (o.dst.getD 99999) i = some (y, H1) → o.wp P a w K Q := by
    intro hc hm
    obtain ⟨u, w', ρ', b1, b2, b3, b4, b5, b6⟩ := evm_sound h hc hm
    unfold Oper.wp
    rw [b1, Oper.upon_value]
    exact hK _ _ (put_afterS b2 b3 ((evm_gr hm).keep b5 hb) (fun _ => b6) hp) (fun _ => ExtS.of_chg b4)
  have qs : ∀ {r : Option V}, (match r with | some y => some (y, fr.heap) | none => none) = some (y, H1) → r = some y ∧ H1 = fr.heap := by
    intro r hr
    cases r with
    | none => simp at hr
    | some z => simp at hr; obtain ⟨rfl, rfl⟩ := hr; exact ⟨rfl, rfl⟩
  by_cases hown : ∃ j, i = .own j
  · obtain ⟨j, rfl⟩ := hown
    clear quiet make
    simp only [eff] at he
    have val : ∀ {u : Value} {w' : World} {ρ' : Place}, (execOp a.eval o).run P w = .ok (.value u) w' → FR G w0 L X0 w' a.tmps { fr with heap := H1 } ρ' → RepE w' (XX w0 X0 H1 ρ') H1 ρ' y u → Keep fr.heap H1 ρ ρ' → (isMut C.own (.own j) = false → ExtS w w') → o.wp P a w K Q := by
      intro u w' ρ' b1 b2 b3 b4 b5
      unfold Oper.wp
      rw [b1, Oper.upon_value]
      exact hK _ _ (put_afterS b2 b3 b4 (fun hm => by simp [isWild] at hm) hp) b5
    by_cases hoo : ∃ k, j = .own k
    · obtain ⟨k, rfl⟩ := hoo
      change conv1 P o = some k at hc0
      simp only [effO] at he
      obtain ⟨u, w', ρ', b1, b2, b3, b4⟩ := evaP_sound h hc0 he
      exact val b1 b2 b3 ((evaP_gr he).keep b4 hb) (fun hm => by simp [isMut] at hm)
    have hc0 : conv1 P o = some j := by cases j <;> first | exact hc0 | exact absurd ⟨_, rfl⟩ hoo
    unfold effO at he
    split at he
    · obtain ⟨u, ρ', b1, b2, b3, b4⟩ := ldO_sound h hc0 he
      exact val b1 b2 b3 ((ldO_gr he).keep b4 hb) (fun hm => by simp [isMut] at hm)
    · split at he
      · rename_i xs hxs
        split at he
        · rename_i hall
          split at he
          · rename_i H2 hs
            obtain ⟨rfl, rfl⟩ := by simpa using he
            obtain ⟨w', ρ', b1, b2, b3⟩ := stO_sound h hc0 hxs hall hs
            unfold Oper.wp
            rw [b1, Oper.upon_skip]
            exact hK _ _ (put_afterS b2 (.dead _) (Keep.of_htr b3) (fun hm => by simp [isWild] at hm) hp) (fun hm => by simp [isMut] at hm)
          · simp at he
        · simp at he
      · simp at he
    · obtain ⟨u, w', ρ', b1, b2, b3, b4⟩ := mslO_sound h hc0 he
      exact val b1 b2 b3 ((evm_gr he).keep b4 hb) (fun hm => by simp [isMut] at hm)
    · obtain ⟨u, w', ρ', b1, b2, b3, b4⟩ := evaO_sound h hc0 he
      exact val b1 b2 b3 ((evaO_gr he).keep b4 hb) (fun hm => by simp [isMut] at hm)
    · obtain ⟨u, w', ρ', b1, b2, b3, b4, b5⟩ := bslO_sound h hc0 he
      exact val b1 b2 b3 (Keep.of_htr b4) (fun _ => ExtS.of_chg b5)
    · exact absurd ⟨_, rfl⟩ hoo
    · simp at he
  by_cases hlds : ∃ s x, i = .lds s x
  · obtain ⟨s, x, rfl⟩ := hlds
    clear quiet make
    change conv1 P o = some (.ld s x) at hc0
    have e1 : eff C (oval G fr.env) fr.heap (o.dst.getD 99999) (.lds s x) = match evq fr.heap (oval G fr.env) (.lds s x) with
      | some y => some (y, fr.heap)
      | none => none := rfl
    rw [e1] at he
    obtain ⟨e2, e3⟩ := qs he
    subst e3
    have e4 : evq fr.heap (oval G fr.env) (.ld s x) = some y := by
      simp only [evq] at e2 ⊢
      split at e2
      · rename_i cs hcs; rw [hcs]; exact e2
      · simp at e2
    obtain ⟨u, b1, b2⟩ := evq_sound h hc0 e4
    unfold Oper.wp
    rw [b1 w (Ext.refl w), Oper.upon_value]
    exact hK _ _ (put_afterS h b2 (Keep.refl _ _) (fun _ => Stay.refl _ _) hp) (fun _ => ExtS.refl w)
  have hc : conv1 P o = some i := by
    have e : i.base = i := by cases i <;> first | rfl | exact absurd ⟨_, rfl⟩ hown | exact absurd ⟨_, _, rfl⟩ hlds
    rw [e] at hc0; exact hc0
  have quiet := quiet hc
  have make := make hc
  by_cases hh : heavy i = false
  · rw [eff_quiet hh] at he
    obtain ⟨e1, e2⟩ := qs he
    exact quiet e1 e2
  cases i <;> first | (exact absurd rfl hh) | (exact absurd ⟨_, rfl⟩ hown) | (exact absurd ⟨_, _, rfl⟩ hlds) | skip
  case box => exact make he
  case alc => exact make he
  case bsl => exact make he
  case msl => exact make he
  all_goals simp only [eff] at he
  case st s ad x =>
    split at he
    · rename_i H2 hs
      obtain ⟨rfl, rfl⟩ := by simpa using he
      obtain ⟨w', b1, b2, b3, b4⟩ := evs_sound (P := P) (a := a) h hc hs
      unfold Oper.wp
      rw [b1, Oper.upon_skip]
      exact hK _ _ (put_afterS b2 (.dead _) (Keep.of_htr b4) (fun _ => b3) hp) (fun hm => by simp [isMut] at hm)
    · simp at he
  case app sz by_ s x =>
    obtain ⟨u, w', ρ', b1, b2, b3, b4⟩ := eva_sound h hc he
    unfold Oper.wp
    rw [b1, Oper.upon_value]
    exact hK _ _ (put_afterS b2 b3 ((eva_gr he).keep b4 hb) (fun hm => by simp [isWild] at hm) hp) (fun hm => by simp [isMut] at hm)
  case cpy sz d s => simp at he
  case call f xs =>
    split at he
    · rename_i g ys hcall
      have hk := kind_of hc
      have ⟨f0, args, ts, hop⟩ : ∃ f0 args ts, o.op = .call ⟨.value f0, args, ts⟩ := hk
      obtain ⟨odst, op, otype, pos, after, guard⟩ := o
      simp only at hop
      subst hop
      simp only [conv1] at hc
      split at hc
      · rename_i f1 xs1 h1 h2
        obtain ⟨rfl, rfl⟩ := by simpa using hc
        have hg : okFn P g := by
          obtain ⟨ds, r, hr⟩ := evcG_fn he
          exact hC.ok g ds r hr
        obtain ⟨us, c1, c2, c3⟩ := callV_sound (o := ⟨odst, .call ⟨.value f0, args, ts⟩, otype, pos, after, guard⟩) h rfl hg h1 h2 hcall
        unfold Oper.wp
        rw [c3, Oper.upon_enter]
        refine (evcG_sound hG (by rw [← hG]; exact hC.nf) (by rw [← hG]; exact hC.sound g) h c1 c2 he).mono ?_
        rintro e w' ⟨v, ρ', rfl, b1, b2, b3, b4⟩
        exact hK _ _ (put_afterS b1 b2 (Keep.of_htr b3) (fun hm => by simp [isWild] at hm) hp) (fun hm => ExtS.of_chg (b4 (by
          have hfv : ∃ g' , f1 = .cst (.fn g' []) ∧ (flatM (C.own g')).contains 1 = false := by
            cases f1 with
            | cst d => cases d with
              | fn g' cap => cases cap with
                | nil => exact ⟨g', rfl, by simpa [isMut] using hm⟩
                | cons => simp [isMut] at hm
              | _ => simp [isMut] at hm
            | _ => simp [isMut] at hm
          obtain ⟨g', rfl, hg'⟩ := hfv
          simp only [callV, oval] at hcall
          simp at hcall
          rw [← hcall.1]; exact hg')))
      · simp at hc
    · simp at he
end
end Go.Proofs.Ytpbonfgmiffomaa.Wm
set_option linter.unusedSimpArgs false
set_option linter.unusedVariables false
namespace Go.Proofs.Ytpbonfgmiffomaa.Wm
open Go
section
variable {P : Program} {ops : Array Oper} {Q : Exit → Act → World → Prop}
def wpAnyM (P : Program) (ops : Array Oper) (Q : Exit → Act → World → Prop) (mu : Bool → Nat → Bool) : Nat → (Bool → World → Prop) → Array Bool → Act → World → Prop
  | 0, _, listed, a, w => Region.ready .any ops listed = [] ∧ Q .normal a w
  | fuel + 1, W, listed, a, w => (Region.ready .any ops listed = [] → Q .normal a w) ∧
    ∀ i ∈ Region.ready .any ops listed, wpOp P ops Q i (fun a' w' => (∀ b, mu b i = false → W b w') ∧ wpAnyM P ops Q mu fuel (fun b => if mu b i = true then fun _ => True else W b) (listed.setIfInBounds i true) a' w') a w
theorem wpAny_of_M {mu : Bool → Nat → Bool} : ∀ (fuel : Nat) {W : Bool → World → Prop} (listed : Array Bool) (a : Act) (w : World), wpAnyM P ops Q mu fuel W listed a w → wpAny P .any ops Q fuel listed a w
  | 0, _, _, _, _, h => h
  | fuel + 1, _, _, _, _, h => ⟨h.1, fun i hi => wpOp_mono (fun a' w' h' => wpAny_of_M fuel _ a' w' h'.2) (h.2 i hi)⟩
theorem wpAnyM_mono {mu : Bool → Nat → Bool} : ∀ (fuel : Nat) {W W' : Bool → World → Prop} (hs : ∀ b w, W b w → W' b w) (listed : Array Bool) (a : Act) (w : World), wpAnyM P ops Q mu fuel W listed a w → wpAnyM P ops Q mu fuel W' listed a w
  | 0, _, _, _, _, _, _, h => h
  | fuel + 1, W, W', hs, _, _, _, h => ⟨h.1, fun i hi => wpOp_mono (fun a' w' h' => ⟨fun b hb => hs b w' (h'.1 b hb), wpAnyM_mono fuel (fun b w q => by
      by_cases hm : mu b i = true
      · simp only [hm, if_true] at q ⊢
      · simp only [hm, if_false] at q ⊢; exact hs b w q) _ a' w' h'.2⟩) (h.2 i hi)⟩
structure Cert (ops : Array Oper) (i : Nat) (L : Nat → Bool) : Prop where
  out : L i = false
  closed : ∀ (j : Nat) (o : Oper), ops[j]? = some o → L j = false → j ≠ i → ∃ e ∈ o.after, Region.binds .any e = true ∧ L e.on = false
theorem wpAnyM_first {mu : Bool → Nat → Bool} {i : Nat} {oi : Oper} {v : Value} {L : Nat → Bool} {U : World → Prop} {b : Bool} (hi : ops[i]? = some oi) (hmu : ∀ b, mu b i = false) (hsel : ∀ (j : Nat) (o : Oper) cs b, ops[j]? = some o → o.op ≠ .select cs b)
    (hQ : ∀ c a w, Q (.panic c) (a.put oi.dst v) w → Q (.panic c) a w) (hL : Cert ops i L) :
    ∀ (fuel : Nat) {W : Bool → World → Prop} (listed : Array Bool) (a : Act) (w : World),
      (∀ j, listed.getD j false = true → L j = true) → (∀ j oj, ops[j]? = some oj → L j = true → listed.getD j true = false → ((∀ w, U w) ∨ mu b j = false) ∧ oi.apart ops oj = true) →
      i ∈ Region.ready .any ops listed → YieldsIf P ops U oi v a → (∀ b, W b w) → ((∀ w, U w) ∨ W b = U) →
      wpAnyM P ops Q mu fuel W (listed.setIfInBounds i true) (a.put oi.dst v) w → wpAnyM P ops Q mu (fuel + 1) W listed a w := by
  have same : ∀ (W : Bool → World → Prop), (fun b => if mu b i = true then fun _ => True else W b) = W := fun W => by funext b; rw [hmu b]; rfl
  intro fuel
  induction fuel with
  | zero =>
    intro W listed a w hin hfree hr hy hW hU H
    have hu : U w := hU.elim (fun q => q w) fun q => by rw [← q]; exact hW b
    refine ⟨fun h => (by rw [h] at hr; cases hr), fun j hj => ?_⟩
    by_cases hji : j = i
    · subst hji; exact hy.wpOp hi hu ⟨fun b _ => hW b, by rw [same]; exact H⟩
    · have := ready_mono hj hji
      rw [H.1] at this
      cases this
  | succ fuel ih =>
    intro W listed a w hin hfree hr hy hW hU H
    have hu : U w := hU.elim (fun q => q w) fun q => by rw [← q]; exact hW b
    refine ⟨fun h => (by rw [h] at hr; cases hr), fun j hj => ?_⟩
    by_cases hji : j = i
    · subst hji; exact hy.wpOp hi hu ⟨fun b _ => hW b, by rw [same]; exact H⟩
    · have h1 := H.2 j (ready_mono hj hji)
      obtain ⟨hjun, oj, hoj, hall⟩ := mem_ready.1 hj
      have hLj : L j = true := by
        cases hq : L j with
        | true => rfl
        | false =>
          obtain ⟨e, he, hb, hf⟩ := hL.closed j oj hoj hq hji
          have := hin e.on (hall e he hb)
          rw [hf] at this; cases this
      obtain ⟨hmj, hap⟩ := hfree j oj hoj hLj hjun
      have h2 := wpOp_putIf hoj hap (fun cs b => hsel i oi cs b hi) (fun cs b => hsel j oj cs b hoj) hQ hy h1
      refine wpOp_mono (fun a' w' h3 => ?_) h2
      obtain ⟨h3, h4, h5⟩ := h3
      have hU' : (∀ w, U w) ∨ (fun b => if mu b j = true then fun _ => True else W b) b = U := by
        rcases hU with hU | hU
        · exact .inl hU
        · rcases hmj with hmj | hmj
          · exact .inl hmj
          · right; simp only [hmj, Bool.false_eq_true, if_false]; exact hU
      refine ⟨h4, ih (listed.setIfInBounds j true) a' w' ?_ ?_ (ready_mono hr (Ne.symm hji)) h3 (fun b => ?_) hU' ?_⟩
      · intro k hk
        by_cases hjk : j = k
        · subst hjk; exact hLj
        · rw [getD_set_ne false hjk] at hk; exact hin k hk
      · intro k ok hk hLk hun
        refine hfree k ok hk hLk ?_
        by_cases hjk : j = k
        · subst hjk; exact hjun
        · rw [getD_set_ne true hjk] at hun; exact hun
      · cases hm : mu b j with
        | true => simp only [if_true]
        | false => simp only [Bool.false_eq_true, if_false]; exact h4 b hm
      · rw [Array.setIfInBounds_comm _ _ hji]
        exact h5
end
inductive Tr where
  | done
  | take (i : Nat) (t : Tr)
  | fork (t : Tr)
  | alt (i : Nat) (t rest : Tr)
  | nil
def Tr.heads : Tr → List Nat
  | .alt i _ r => i :: r.heads
  | _ => []
def Tr.paths : Tr → List (List Nat)
  | .done => [[]]
  | .take i t => t.paths.map (i :: ·)
  | .fork t => t.paths
  | .alt i t r => t.paths.map (i :: ·) ++ r.paths
  | .nil => []
def Tr.isL : Tr → Bool
  | .alt .. => true
  | .nil => true
  | _ => false
def mutAt (own : FuncId → List Nat) (vs : List Vop) (i : Nat) : Bool := match vs[i]? with
  | some v => isMut own v.i
  | none => false
def wildAt (vs : List Vop) (i : Nat) : Bool := match vs[i]? with
  | some v => isWild v.i
  | none => false
def muAt (own : FuncId → List Nat) (vs : List Vop) (b : Bool) (i : Nat) : Bool := if b = true then wildAt vs i else mutAt own vs i
def sharedLd : I → Bool
  | .lds .. => true
  | _ => false
def awayOf (ops : Array Oper) (i : Nat) : Array Bool :=
  (List.range ops.size).foldl (fun acc j => acc.push (!(j == i) && match ops[j]? with
    | some o => o.after.all fun e => !Region.binds .any e || acc.getD e.on true
    | none => true)) #[]
def certB (own : FuncId → List Nat) (ops : Array Oper) (vs : List Vop) (listed : Array Bool) (i : Nat) (oi : Oper) (rd sh : Bool) : Bool :=
  let L := awayOf ops i
  (L.getD i true == false) &&
  ((List.range ops.size).all fun j => L.getD j true || j == i || match ops[j]? with
    | some o => o.after.any fun e => Region.binds .any e && !L.getD e.on true
    | none => true) &&
  ((List.range ops.size).all fun j => !listed.getD j false || L.getD j true) &&
  ((List.range ops.size).all fun j => !L.getD j true || listed.getD j true || match ops[j]? with
    | some oj => (!rd || !mutAt own vs j) && (!sh || !wildAt vs j) && oi.apart ops oj
    | none => true)
def okT (own : FuncId → List Nat) (ops : Array Oper) (vs : List Vop) : Nat → Array Bool → Tr → Bool
  | 0, listed, .done => (Region.ready .any ops listed).isEmpty
  | n + 1, listed, .take i t => (match ops[i]?, vs[i]? with
    | some o, some v => if heavy v.i = true then (Region.ready .any ops listed == [i]) else (Region.ready .any ops listed).contains i && certB own ops vs listed i o (reads v.i) (sharedLd v.i)
    | _, _ => false) && !t.isL && okT own ops vs n (listed.setIfInBounds i true) t
  | n + 1, listed, .fork t => t.isL && (Region.ready .any ops listed != []) && (Region.ready .any ops listed).all (fun j => t.heads.contains j) && okT own ops vs (n + 1) listed t
  | n + 1, listed, .alt i t r => !t.isL && r.isL && decide (i < ops.size) && okT own ops vs n (listed.setIfInBounds i true) t && okT own ops vs (n + 1) listed r
  | _, _, .nil => true
  | _, _, _ => false
def stepsI (C : Cx) (vs : List Vop) : Fr → List Nat → Option Fr
  | fr, [] => some fr
  | fr, i :: l => match vs[i]? with
    | some v => match stepO C fr v with
      | some fr1 => stepsI C vs fr1 l
      | none => none
    | none => none
end Go.Proofs.Ytpbonfgmiffomaa.Wm
set_option linter.unusedSimpArgs false
set_option linter.unusedVariables false
namespace Go.Proofs.Ytpbonfgmiffomaa.Wm
open Go
section
variable {P : Program} {G : Nat → Option (List D)} {w0 : World} {L X0 X1 : Nat → Prop} {w w' w2 : World} {tm : Array Value} {fr : Fr} {ρ ρ' : Place} {X : K → Nat → Prop} {H : Heap}
theorem cond_sound {ops : Array Oper} {j t : Nat} {want c : Bool} {v : V} {tmps : Array Value} {o : Oper} (ho : o.guard = some (j, want)) (hj : (ops[j]?).bind (·.dst) = some t) (hv : RepE w X H ρ v (tmps.getD t undef)) (he : condV v want = some c) :
    Region.wanted o (yielded ops tmps) = c := by
  unfold Region.wanted yielded
  simp only [ho, hj, Option.bind_some]
  generalize hq : tmps.getD t undef = q at hv
  unfold condV at he
  split at he
  · rename_i b
    obtain rfl := Option.some.inj he
    have hb := rep_bool hv
    subst hb
    have isb : tmps[t]? = some (.bool b) := by
      rw [Array.getD_eq_getD_getElem?] at hq
      cases hp : tmps[t]? with
      | none => rw [hp] at hq; simp [undef] at hq
      | some p => rw [hp] at hq; simpa using hq
    rw [isb]
    cases b <;> cases want <;> rfl
  · obtain rfl := Option.some.inj he
    cases hv with
    | tup _ us hs _ =>
      have hus : us = #[] := Array.eq_empty_of_size_eq_zero (by simpa using hs)
      subst hus
      cases hp : tmps[t]? with
      | none => simp
      | some p =>
        rw [Array.getD_eq_getD_getElem?, hp] at hq
        simp at hq
        subst hq
        simp
  · simp at he
theorem After.trans {a a1 a2 : Act} {H1 : Heap} {ρ1 : Place} {fr2 : Fr} (h1 : a1.defers = a.defers ∧ a1.tmps.size = a.tmps.size ∧ Keep H H1 ρ ρ1) (h2 : After G w0 L X0 a1 a2 w2 H1 ρ1 fr2) : After G w0 L X0 a a2 w2 H ρ fr2 := by
  obtain ⟨ρ', b1, b2, b3, b4⟩ := h2
  exact ⟨ρ', b1, b2.trans h1.1, b3.trans h1.2.1, h1.2.2.trans b4⟩
theorem After.start {a : Act} (h : FR G w0 L X0 w a.tmps fr ρ) : After G w0 L X0 a a w fr.heap ρ fr := ⟨ρ, h, rfl, rfl, Keep.refl _ _⟩
theorem rep_undef : RepE w X H ρ (.tup []) undef := .tup [] #[] rfl (by simp)
theorem stepO_sound {C : Cx} (hC : CSound P C) (hG : C.gl = G) {a : Act} (h : FR G w0 L X0 w a.tmps fr ρ) (hnt : fr.nt ≤ 99999) {ops : Array Oper} {i : Nat} {o : Oper} {v : Vop} {fr' : Fr} (hi : ops[i]? = some o) (hv : vopOf P ops o v) (he : stepO C fr v = some fr')
    {K : Act → World → Prop} {Q : Exit → Act → World → Prop} (hK : ∀ a' w', AfterS v.i G w0 L X0 w a a' w' fr.heap ρ fr' → (isMut C.own v.i = false → ExtS w w') → K a' w') : wpOp P ops Q i K a w := by
  obtain ⟨v1, v2, v3⟩ := hv
  unfold stepO at he
  unfold wpOp
  simp only [hi]
  rcases v3 with ⟨hg, hvg⟩ | ⟨j, want, t, hg, hj, hvg⟩
  · rw [hvg] at he
    simp only at he
    rw [v1] at he
    have hw : Region.wanted o (yielded ops a.tmps) = true := by simp [Region.wanted, hg]
    rw [if_pos hw]
    exact .inl (step1_sound hC hG h hnt v2 he hK)
  · rw [hvg] at he
    simp only at he
    have hrt : RepE w (XX w0 X0 fr.heap ρ) fr.heap ρ (oval C.gl fr.env (.tmp t)) (a.tmps.getD t undef) := by
      rw [hG]
      simp only [oval]
      split
      · rename_i x hx; exact h.env t x hx
      · exact .dead _
    split at he
    · rename_i hc
      have hw := cond_sound hg hj hrt hc
      rw [if_pos hw]
      rw [v1] at he
      exact .inl (step1_sound hC hG h hnt v2 he hK)
    · rename_i hc
      have hw := cond_sound hg hj hrt hc
      rw [if_neg (by rw [hw]; simp)]
      rw [v1] at he
      exact hK _ _ (put_afterS h rep_undef (Keep.refl _ _) (fun _ => Stay.refl _ _) he) (fun _ => ExtS.refl w)
    · simp at he
theorem base_quiet {i : I} (h : heavy i = false) (hl : sharedLd i = false) : i.base = i := by cases i <;> first | rfl | (simp [heavy] at h; done) | (simp [sharedLd] at hl; done)
def Far (w0 : World) (X0 : Nat → Prop) (H : Heap) (ρ : Place) (w w' : World) : Prop := ∀ b, b < w.heap.size → ¬ XX w0 X0 H ρ .lent b → w'.heap[b]? = w.heap[b]?
theorem put_same {a : Act} {fr1 fr' : Fr} {dst : Option Nat} {y : V} {v : Value} (h : FR G w0 L X0 w a.tmps fr1 ρ) (hy : RepE w (XX w0 X0 fr1.heap ρ) fr1.heap ρ y v) (he : putV fr1 dst y = some fr') :
    FR G w0 L X0 w (a.put dst v).tmps fr' ρ ∧ (a.put dst v).defers = a.defers ∧ (a.put dst v).tmps.size = a.tmps.size ∧ fr'.heap = fr1.heap := by
  unfold putV at he
  cases dst with
  | none =>
    obtain rfl := Option.some.inj he
    exact ⟨h, rfl, rfl, rfl⟩
  | some d =>
    simp only at he
    split at he
    · rename_i hd
      obtain rfl := Option.some.inj he
      exact ⟨h.put hd hy, rfl, by simp [Act.put], rfl⟩
    · simp at he
theorem stepO_quiet {C : Cx} (hG : C.gl = G) {a : Act} (h : FR G w0 L X0 w a.tmps fr ρ) {ops : Array Oper} {o : Oper} {v : Vop} {fr' : Fr} (hv : vopOf P ops o v) (hq : heavy v.i = false) (he : stepO C fr v = some fr') {Qw : World → Prop} (hQ : reads v.i = true → ∀ w', Qw w' → Ext w w') (hS : sharedLd v.i = true → ∀ w', Qw w' → Far w0 X0 fr.heap ρ w w') :
    ∃ u, YieldsIf P ops Qw o u a ∧ FR G w0 L X0 w (a.put o.dst u).tmps fr' ρ ∧ (a.put o.dst u).defers = a.defers ∧ (a.put o.dst u).tmps.size = a.tmps.size ∧ fr'.heap = fr.heap := by
  obtain ⟨v1, v2, v3⟩ := hv
  have one : step1 C fr v.dst v.i = some fr' → ∃ u, (∀ w', Qw w' → (execOp a.eval o).run P w' = .ok (.value u) w') ∧ FR G w0 L X0 w (a.put o.dst u).tmps fr' ρ ∧ (a.put o.dst u).defers = a.defers ∧ (a.put o.dst u).tmps.size = a.tmps.size ∧ fr'.heap = fr.heap := by
    intro he
    unfold step1 at he
    rw [eff_quiet hq, hG, v1] at he
    cases hy : evq fr.heap (oval G fr.env) v.i with
    | none => rw [hy] at he; simp [putR] at he
    | some y =>
      rw [hy] at he
      simp only [putR] at he
      cases hsl : sharedLd v.i with
      | false =>
        obtain ⟨u, b1, b2⟩ := evq_sound' h (by rw [base_quiet hq hsl] at v2; exact v2) hy hQ
        exact ⟨u, b1, put_same h b2 he⟩
      | true =>
        have hS' := hS hsl
        have hv : ∃ s x, v.i = .lds s x := by cases hvi : v.i <;> rw [hvi] at hsl <;> first | (simp [sharedLd] at hsl; done) | exact ⟨_, _, rfl⟩
        obtain ⟨s, x, hvi⟩ := hv
        rw [hvi] at hy v2
        obtain ⟨t, x0, hop, ha, t', hx0⟩ := ld_conv (show conv1 P o = some (.ld s x) from v2)
        have hx := od_sound h hx0
        simp only [evq] at hy
        split at hy
        · rename_i cs hcs
          rw [hcs] at hx
          obtain ⟨u, b1, b2⟩ := loadS_sound (P := P) (Qw := Qw) hS' ha hx hy
          refine ⟨u, fun w' hw => ?_, put_same h b2 he⟩
          obtain ⟨odst, op, otype, pos, after, guard⟩ := o
          simp only at hop
          subst hop
          simp [execOp, b1 w' hw]
        · simp at hy
  unfold stepO at he
  rcases v3 with ⟨hg, hvg⟩ | ⟨j, want, t, hg, hj, hvg⟩
  · rw [hvg] at he
    simp only at he
    obtain ⟨u, b1, b2⟩ := one he
    exact ⟨u, .inl ⟨by simp [Region.wanted, hg], b1⟩, b2⟩
  · rw [hvg] at he
    simp only at he
    have hrt : RepE w (XX w0 X0 fr.heap ρ) fr.heap ρ (oval C.gl fr.env (.tmp t)) (a.tmps.getD t undef) := by
      rw [hG]
      simp only [oval]
      split
      · rename_i x hx; exact h.env t x hx
      · exact .dead _
    split at he
    · rename_i hc
      have hw := cond_sound hg hj hrt hc
      obtain ⟨u, b1, b2⟩ := one he
      exact ⟨u, .inl ⟨hw, b1⟩, b2⟩
    · rename_i hc
      have hw := cond_sound hg hj hrt hc
      rw [v1] at he
      exact ⟨undef, .inr ⟨hw, rfl⟩, put_same h rep_undef he⟩
    · simp at he
theorem certB_spec {own : FuncId → List Nat} {ops : Array Oper} {vs : List Vop} {listed : Array Bool} {i : Nat} {oi : Oper} {rd sh : Bool} (h : certB own ops vs listed i oi rd sh = true) :
    Cert ops i (fun j => (awayOf ops i).getD j true) ∧ (∀ j, listed.getD j false = true → j < ops.size → (awayOf ops i).getD j true = true) ∧
      (∀ (j : Nat) (oj : Oper), ops[j]? = some oj → (awayOf ops i).getD j true = true → listed.getD j true = false → ((rd = true → mutAt own vs j = false) ∧ (sh = true → wildAt vs j = false)) ∧ oi.apart ops oj = true) := by
  simp only [certB, Bool.and_eq_true, List.all_eq_true, List.mem_range, beq_iff_eq] at h
  obtain ⟨⟨⟨h1, h2⟩, h3⟩, h4⟩ := h
  refine ⟨⟨h1, fun j o ho hL hji => ?_⟩, fun j hj hlt => ?_, fun j oj hoj hL hun => ?_⟩
  · have := h2 j (Array.getElem?_eq_some_iff.1 ho).1
    simp only [ho] at this
    have hL' : (awayOf ops i).getD j true = false := hL
    simp only [hL', Bool.false_or, Bool.or_eq_true, beq_iff_eq, hji, false_or] at this
    obtain ⟨e, he, hb⟩ := Array.any_eq_true'.1 this
    simp only [Bool.and_eq_true, Bool.not_eq_true'] at hb
    exact ⟨e, he, hb.1, hb.2⟩
  · have := h3 j hlt
    simp only [hj, Bool.not_true, Bool.false_or] at this
    exact this
  · have := h4 j (Array.getElem?_eq_some_iff.1 hoj).1
    simp only [hoj, hL, hun, Bool.not_true, Bool.false_or, Bool.and_eq_true] at this
    exact ⟨⟨fun hr => by simpa [hr] using this.1.1, fun hr => by simpa [hr] using this.1.2⟩, this.2⟩
def TrSem (P : Program) (ops : Array Oper) (Q : Exit → Act → World → Prop) (mu : Bool → Nat → Bool) (n : Nat) (W : Bool → World → Prop) (listed : Array Bool) (a : Act) (w : World) (t : Tr) : Prop :=
  if t.isL = true then ∀ i ∈ t.heads, ∃ m, n = m + 1 ∧ wpOp P ops Q i (fun a' w' => (∀ b, mu b i = false → W b w') ∧ wpAnyM P ops Q mu m (fun b => if mu b i = true then fun _ => True else W b) (listed.setIfInBounds i true) a' w') a w
  else wpAnyM P ops Q mu n W listed a w
def WOk (w0 : World) (X0 : Nat → Prop) (w : World) (H : Heap) (ρ : Place) (W : Bool → World → Prop) : Prop := (∀ w', Ext w w' → W false w') ∧ ∀ w', Far w0 X0 H ρ w w' → W true w'
theorem tree_sound {C : Cx} (hC : CSound P C) (hG : C.gl = G) {ops : Array Oper} {vs : List Vop} (hvs : ∀ (i : Nat) (o : Oper), ops[i]? = some o → ∃ v, vs[i]? = some v ∧ vopOf P ops o v) (hsel : Region.noSelect ops = true) {R : Act → World → Prop} : ∀ (t : Tr) (n : Nat) {listed : Array Bool} {W : Bool → World → Prop} {w : World} {a : Act} {fr : Fr} {ρ : Place},
    listed.size = ops.size → okT C.own ops vs n listed t = true → FR G w0 L X0 w a.tmps fr ρ → fr.nt ≤ 99999 → WOk w0 X0 w fr.heap ρ W → (∀ p ∈ t.paths, ∃ fr', stepsI C vs fr p = some fr' ∧ ∀ a' w', After G w0 L X0 a a' w' fr.heap ρ fr' → R a' w') →
    TrSem P ops (fun e a w => e = .normal ∧ R a w) (muAt C.own vs) n W listed a w t := by
  have stepH : ∀ (i : Nat) (t : Tr) (n : Nat) {listed : Array Bool} {W : Bool → World → Prop} {w : World} {a : Act} {fr : Fr} {ρ : Place} {o : Oper} {v : Vop}, ops[i]? = some o → vs[i]? = some v →
      (∀ {W : Bool → World → Prop} {w1 : World} {a1 : Act} {fr1 : Fr} {ρ1 : Place}, FR G w0 L X0 w1 a1.tmps fr1 ρ1 → fr1.nt ≤ 99999 → WOk w0 X0 w1 fr1.heap ρ1 W → (∀ p ∈ t.paths, ∃ fr', stepsI C vs fr1 p = some fr' ∧ ∀ a' w', After G w0 L X0 a1 a' w' fr1.heap ρ1 fr' → R a' w') →
        wpAnyM P ops (fun e a w => e = .normal ∧ R a w) (muAt C.own vs) n W (listed.setIfInBounds i true) a1 w1) →
      t.paths ≠ [] → FR G w0 L X0 w a.tmps fr ρ → fr.nt ≤ 99999 → WOk w0 X0 w fr.heap ρ W → (∀ p ∈ t.paths, ∃ fr', stepsI C vs fr (i :: p) = some fr' ∧ ∀ a' w', After G w0 L X0 a a' w' fr.heap ρ fr' → R a' w') →
      wpOp P ops (fun e a w => e = .normal ∧ R a w) i (fun a' w' => (∀ b, muAt C.own vs b i = false → W b w') ∧ wpAnyM P ops (fun e a w => e = .normal ∧ R a w) (muAt C.own vs) n (fun b => if muAt C.own vs b i = true then fun _ => True else W b) (listed.setIfInBounds i true) a' w') a w := by
    intro i t n listed W w a fr ρ o v ho hv ih hne h hnt hW hp
    obtain ⟨v', hv', hvo⟩ := hvs i o ho
    rw [hv] at hv'; obtain rfl := Option.some.inj hv'
    have hmu : mutAt C.own vs i = isMut C.own v.i := by simp [mutAt, hv]
    have hwi : wildAt vs i = isWild v.i := by simp [wildAt, hv]
    obtain ⟨p0, hp0⟩ := List.exists_mem_of_ne_nil _ hne
    obtain ⟨fr0, hs0, _⟩ := hp p0 hp0
    simp only [stepsI, hv] at hs0
    split at hs0
    · rename_i fr1 h1
      refine stepO_sound hC hG h hnt ho hvo h1 fun a1 w1 ⟨ρ1, b1, b2, b3, b4, b5⟩ hext => ?_
      have hW0 : muAt C.own vs false i = false → ∀ w', Ext w1 w' → W false w' := fun hm w' hw' => by
        have hx := hext (by rw [← hmu]; simpa [muAt] using hm)
        exact hW.1 w' fun b hb => (hw' b (Nat.lt_of_lt_of_le hb hx.2)).trans (hx.1 b hb)
      have hW1 : muAt C.own vs true i = false → ∀ w', Far w0 X0 fr1.heap ρ1 w1 w' → W true w' := fun hm w' hw' => by
        have hst := b5 (by rw [← hwi]; simpa [muAt] using hm)
        refine hW.2 w' fun b hb hx => ?_
        have e := hst.heap .lent b hb hx
        exact (hw' b (heap_lt hb e) fun hx1 => hx (hst.off .lent b hb hx1)).trans e
      refine ⟨fun b hb => ?_, ih b1 (by rw [← b1.nt, b3, h.nt]; exact hnt) ⟨?_, ?_⟩ fun p hpp => ?_⟩
      · cases b with
        | false => exact hW0 hb w1 (Ext.refl w1)
        | true => exact hW1 hb w1 fun _ _ _ => rfl
      · intro w' hw'
        show (if muAt C.own vs false i = true then (fun _ => True) else W false) w'
        cases hm : muAt C.own vs false i with
        | true => trivial
        | false => exact hW0 hm w' hw'
      · intro w' hw'
        show (if muAt C.own vs true i = true then (fun _ => True) else W true) w'
        cases hm : muAt C.own vs true i with
        | true => trivial
        | false => exact hW1 hm w' hw'
      · obtain ⟨fr', q1, q2⟩ := hp p hpp
        simp only [stepsI, hv, h1] at q1
        exact ⟨fr', q1, fun a' w' h2 => q2 _ _ (h2.trans ⟨b2, b3, b4⟩)⟩
    · simp at hs0
  have pne : ∀ (t : Tr) (n : Nat) (listed : Array Bool), okT C.own ops vs n listed t = true → t ≠ .nil → t.paths ≠ [] := by
    intro t
    induction t with
    | done => intro n listed h hn; simp [Tr.paths]
    | take i t ih =>
      intro n listed h hn
      cases n with
      | zero => simp [okT] at h
      | succ n =>
        simp only [okT, Bool.and_eq_true, Bool.not_eq_true'] at h
        have := ih n _ h.2 (by rintro rfl; simp [Tr.isL] at h)
        simpa [Tr.paths] using this
    | fork t ih =>
      intro n listed h hn
      cases n with
      | zero => simp [okT] at h
      | succ n =>
        simp only [okT, Bool.and_eq_true] at h
        obtain ⟨⟨⟨h1, h2⟩, h3⟩, h4⟩ := h
        refine ih _ _ h4 ?_
        rintro rfl
        simp only [Tr.heads, List.contains_nil, List.all_eq_true, Bool.false_eq_true, imp_false] at h3
        have : Region.ready .any ops listed = [] := List.eq_nil_iff_forall_not_mem.2 h3
        simp [this] at h2
    | alt i t r ih1 ih2 =>
      intro n listed h hn
      cases n with
      | zero => simp [okT] at h
      | succ n =>
        simp only [okT, Bool.and_eq_true, Bool.not_eq_true'] at h
        have := ih1 n _ h.1.2 (by rintro rfl; simp [Tr.isL] at h)
        simp [Tr.paths, this]
    | nil => intro n listed h hn; exact absurd rfl hn
  intro t
  induction t with
  | done =>
    intro n listed W w a fr ρ hsz hok h hnt hW hp
    cases n with
    | zero =>
      simp only [okT, List.isEmpty_iff] at hok
      obtain ⟨fr', q1, q2⟩ := hp [] (by simp [Tr.paths])
      simp only [stepsI] at q1
      obtain rfl := Option.some.inj q1
      simp only [TrSem, Tr.isL, Bool.false_eq_true, if_false]
      exact ⟨hok, rfl, q2 _ _ (After.start h)⟩
    | succ n => simp [okT] at hok
  | take i t ih =>
    intro n listed W w a fr ρ hsz hok h hnt hW hp
    cases n with
    | zero => simp [okT] at hok
    | succ n =>
      simp only [okT, Bool.and_eq_true, Bool.not_eq_true'] at hok
      obtain ⟨⟨hk, hl⟩, hok⟩ := hok
      have hne : t.paths ≠ [] := pne t n _ hok (by rintro rfl; simp [Tr.isL] at hl)
      have ih' : ∀ {W : Bool → World → Prop} {w1 : World} {a1 : Act} {fr1 : Fr} {ρ1 : Place}, FR G w0 L X0 w1 a1.tmps fr1 ρ1 → fr1.nt ≤ 99999 → WOk w0 X0 w1 fr1.heap ρ1 W → (∀ p ∈ t.paths, ∃ fr', stepsI C vs fr1 p = some fr' ∧ ∀ a' w', After G w0 L X0 a1 a' w' fr1.heap ρ1 fr' → R a' w') →
        wpAnyM P ops (fun e a w => e = .normal ∧ R a w) (muAt C.own vs) n W (listed.setIfInBounds i true) a1 w1 := fun q1 q2 q3 q4 => by
          have := ih n (listed := listed.setIfInBounds i true) (by simpa using hsz) hok q1 q2 q3 q4
          simpa only [TrSem, hl, Bool.false_eq_true, if_false] using this
      have hp' : ∀ p ∈ t.paths, ∃ fr', stepsI C vs fr (i :: p) = some fr' ∧ ∀ a' w', After G w0 L X0 a a' w' fr.heap ρ fr' → R a' w' := fun p hpp => hp (i :: p) (by simp [Tr.paths, hpp])
      simp only [TrSem, Tr.isL, Bool.false_eq_true, if_false]
      split at hk
      · rename_i o v ho hv
        split at hk
        · have hrd : Region.ready .any ops listed = [i] := by simpa using hk
          refine ⟨fun h0 => by rw [hrd] at h0; simp at h0, fun j hj => ?_⟩
          rw [hrd] at hj
          obtain rfl : j = i := by simpa using hj
          exact stepH j t n ho hv ih' hne h hnt hW hp'
        · rename_i hq
          have hq' : heavy v.i = false := by simpa using hq
          simp only [Bool.and_eq_true] at hk
          obtain ⟨v', hv', hvo⟩ := hvs i o ho
          rw [hv] at hv'; obtain rfl := Option.some.inj hv'
          obtain ⟨k1, k2, k3⟩ := certB_spec hk.2
          have hrd : i ∈ Region.ready .any ops listed := by simpa using hk.1
          have hin : ∀ j, listed.getD j false = true → (awayOf ops i).getD j true = true := fun j hj => by
            refine k2 j hj ?_
            rw [← hsz]
            rcases Nat.lt_or_ge j listed.size with hlt | hge
            · exact hlt
            · rw [Array.getD_eq_getD_getElem?, Array.getElem?_eq_none hge] at hj; simp at hj
          have hmut : ∀ b, muAt C.own vs b i = false := by
            intro b
            cases b <;> simp only [muAt, mutAt, wildAt, hv, if_true, Bool.false_eq_true, if_false] <;> (cases hvi : v.i <;> rw [hvi] at hq' <;> first | rfl | (simp [heavy] at hq'))
          obtain ⟨p0, hp0⟩ := List.exists_mem_of_ne_nil _ hne
          obtain ⟨fr0, hs0, _⟩ := hp' p0 hp0
          simp only [stepsI, hv] at hs0
          split at hs0
          · rename_i fr1 h1
            let W0 : Bool → World → Prop := fun b => if b = true then Far w0 X0 fr.heap ρ w else Ext w
            have hW0 : ∀ b w', W0 b w' → W b w' := fun b w' q => by
              cases b with
              | false => exact hW.1 w' (by simpa [W0] using q)
              | true => exact hW.2 w' (by simpa [W0] using q)
            have hW0w : ∀ b, W0 b w := fun b => by
              cases b with
              | false => simpa [W0] using Ext.refl w
              | true => show Far w0 X0 fr.heap ρ w w; exact fun _ _ _ => rfl
            have rest : ∀ {u : Value}, FR G w0 L X0 w (a.put o.dst u).tmps fr1 ρ ∧ (a.put o.dst u).defers = a.defers ∧ (a.put o.dst u).tmps.size = a.tmps.size ∧ fr1.heap = fr.heap → wpAnyM P ops (fun e a w => e = .normal ∧ R a w) (muAt C.own vs) n W0 (listed.setIfInBounds i true) (a.put o.dst u) w := by
              rintro u ⟨b1, b2, b3, b4⟩
              refine ih' b1 (by rw [← b1.nt, b3, h.nt]; exact hnt) ⟨fun w' q => by simpa [W0] using q, fun w' q => by rw [b4] at q; simpa [W0] using q⟩ fun p hpp => ?_
              obtain ⟨fr', q1, q2⟩ := hp' p hpp
              simp only [stepsI, hv, h1] at q1
              exact ⟨fr', q1, fun a' w' h2 => q2 _ _ (h2.trans ⟨b2, b3, by rw [b4]; exact Keep.refl _ _⟩)⟩
            cases hrdv : reads v.i with
            | true =>
              obtain ⟨u, hy, hA⟩ := stepO_quiet hG h hvo hq' h1 (Qw := Ext w) (fun _ _ h => h) (fun hh => by cases hvi : v.i <;> rw [hvi] at hh hrdv <;> first | (simp [sharedLd] at hh; done) | (simp [reads] at hrdv; done))
              exact wpAnyM_mono _ hW0 _ _ _ (wpAnyM_first (U := Ext w) (b := false) ho hmut (Region.noSelect_spec hsel) (fun c a w hh => by simp at hh) k1 n listed a w hin (fun j oj q1 q2 q3 => ⟨.inr (by simpa [muAt] using (k3 j oj q1 q2 q3).1.1 hrdv), (k3 j oj q1 q2 q3).2⟩) hrd hy hW0w (.inr rfl) (rest hA))
            | false =>
              cases hsl : sharedLd v.i with
              | true =>
                obtain ⟨u, hy, hA⟩ := stepO_quiet hG h hvo hq' h1 (Qw := Far w0 X0 fr.heap ρ w) (fun hh => by rw [hrdv] at hh; simp at hh) (fun _ _ h => h)
                exact wpAnyM_mono _ hW0 _ _ _ (wpAnyM_first (U := Far w0 X0 fr.heap ρ w) (b := true) ho hmut (Region.noSelect_spec hsel) (fun c a w hh => by simp at hh) k1 n listed a w hin (fun j oj q1 q2 q3 => ⟨.inr (by simpa [muAt] using (k3 j oj q1 q2 q3).1.2 hsl), (k3 j oj q1 q2 q3).2⟩) hrd hy hW0w (.inr rfl) (rest hA))
              | false =>
                obtain ⟨u, hy, hA⟩ := stepO_quiet hG h hvo hq' h1 (Qw := fun _ => True) (fun hh => by rw [hrdv] at hh; simp at hh) (fun hh => by rw [hsl] at hh; simp at hh)
                exact wpAnyM_mono _ hW0 _ _ _ (wpAnyM_first (U := fun _ => True) (b := false) ho hmut (Region.noSelect_spec hsel) (fun c a w hh => by simp at hh) k1 n listed a w hin (fun j oj q1 q2 q3 => ⟨.inl fun _ => trivial, (k3 j oj q1 q2 q3).2⟩) hrd hy hW0w (.inl fun _ => trivial) (rest hA))
          · simp at hs0
      · simp at hk
  | fork t ih =>
    intro n listed W w a fr ρ hsz hok h hnt hW hp
    cases n with
    | zero => simp [okT] at hok
    | succ n =>
      simp only [okT, Bool.and_eq_true] at hok
      obtain ⟨⟨⟨h1, h2⟩, h3⟩, h4⟩ := hok
      have := ih (n + 1) hsz h4 h hnt hW hp
      simp only [TrSem, h1, if_true] at this
      simp only [TrSem, Tr.isL, Bool.false_eq_true, if_false]
      refine ⟨fun h0 => by rw [h0] at h2; simp at h2, fun j hj => ?_⟩
      obtain ⟨m, hm, hw⟩ := this j (by simpa using List.all_eq_true.1 h3 j hj)
      obtain rfl : n = m := by omega
      exact hw
  | alt i t r ih1 ih2 =>
    intro n listed W w a fr ρ hsz hok h hnt hW hp
    cases n with
    | zero => simp [okT] at hok
    | succ n =>
      simp only [okT, Bool.and_eq_true, Bool.not_eq_true', decide_eq_true_eq] at hok
      obtain ⟨⟨⟨⟨h1, h2⟩, hlt⟩, h3⟩, h4⟩ := hok
      have k2 := ih2 (n + 1) hsz h4 h hnt hW fun p hpp => hp p (by simp [Tr.paths, hpp])
      simp only [TrSem, h2, if_true] at k2
      simp only [TrSem, Tr.isL, if_true, Tr.heads]
      intro j hj
      rcases List.mem_cons.1 hj with rfl | hj
      · refine ⟨n, rfl, ?_⟩
        have hne : t.paths ≠ [] := pne t n _ h3 (by rintro rfl; simp [Tr.isL] at h1)
        have hp' : ∀ p ∈ t.paths, ∃ fr', stepsI C vs fr (j :: p) = some fr' ∧ ∀ a' w', After G w0 L X0 a a' w' fr.heap ρ fr' → R a' w' := fun p hpp => hp (j :: p) (by simp [Tr.paths, hpp])
        have hex : ∃ o v, ops[j]? = some o ∧ vs[j]? = some v := by
          obtain ⟨p0, hp0⟩ := List.exists_mem_of_ne_nil _ hne
          obtain ⟨fr0, hs0, _⟩ := hp' p0 hp0
          simp only [stepsI] at hs0
          split at hs0
          · rename_i v hv
            exact ⟨ops[j], v, by simp [hlt], hv⟩
          · simp at hs0
        obtain ⟨o, v, ho, hv⟩ := hex
        exact stepH j t n ho hv (fun q1 q2 q3 q4 => by
          have := ih1 n (listed := listed.setIfInBounds j true) (by simpa using hsz) h3 q1 q2 q3 q4
          simpa only [TrSem, h1, Bool.false_eq_true, if_false] using this) hne h hnt hW hp'
      · exact k2 j hj
  | nil =>
    intro n listed W w a fr ρ hsz hok h hnt hW hp
    simp only [TrSem, Tr.isL, if_true, Tr.heads]
    intro i hi
    simp at hi
end
end Go.Proofs.Ytpbonfgmiffomaa.Wm
set_option linter.unusedSimpArgs false
set_option linter.unusedVariables false
namespace Go.Proofs.Ytpbonfgmiffomaa.Wm
open Go
mutual
def renV (r : Nat → Option Nat) : V → V
  | .sl b o n => match r b with
    | some b' => .sl b' o n
    | none => .dead
  | .pt b o => match r b with
    | some b' => .pt b' o
    | none => .dead
  | .ep b i o => match r b with
    | some b' => .ep b' i o
    | none => .dead
  | .agg vs => .agg (renL r vs)
  | .tup vs => .tup (renL r vs)
  | .fn f vs => .fn f (renL r vs)
  | .val d => .val d
  | .emp sz => .emp sz
  | .dead => .dead
  | .anyb => .anyb
def renL (r : Nat → Option Nat) : List V → List V
  | [] => []
  | x :: xs => renV r x :: renL r xs
end
theorem renL_map (r : Nat → Option Nat) : ∀ xs, renL r xs = xs.map (renV r)
  | [] => rfl
  | x :: xs => by simp [renL, renL_map r xs]
def renB (r : Nat → Option Nat) : Blk → Blk
  | .var old cs => .var old (renL r cs)
  | .hole .. => .gone
  | B => B
def rmap (ren : List (Nat × Nat)) (b : Nat) : Option Nat := if 1000000000 ≤ b then some b else look b ren
def renC (r : Nat → Option Nat) (n : Nat) (rest : Heap) : Option Blk → Heap
  | some B => (n, renB r B) :: rest
  | none => rest
def renA (r : Nat → Option Nat) (H : Heap) : List (Nat × Nat) → Heap
  | [] => []
  | (o, n) :: l => renC r n (renA r H l) (look o H)
def renP (r : Nat → Option Nat) : Heap → Heap
  | [] => []
  | (b, B) :: l => if 1000000000 ≤ b then (b, renB r B) :: renP r l else renP r l
def renH (ren : List (Nat × Nat)) (H : Heap) : Heap := renA (rmap ren) H ren ++ renP (rmap ren) H
def keepC (r : Nat → Option Nat) (t : Nat) (rest : List (Nat × V)) : Option V → List (Nat × V)
  | some x => (t, renV r x) :: rest
  | none => rest
def keepE (r : Nat → Option Nat) (env : List (Nat × V)) : List Nat → List (Nat × V)
  | [] => []
  | t :: ts => keepC r t (keepE r env ts) (look t env)
def inN (n : Nat) : List Nat → Bool
  | [] => false
  | m :: l => if m = n then true else inN n l
def okRen : List (Nat × Nat) → Bool
  | [] => true
  | (o, n) :: l => decide (o < 1000000000) && decide (n < 1000000000) && !inN o (l.map (·.1)) && !inN n (l.map (·.2)) && okRen l
structure Hint where
  pre : List Nat
  keep : List Nat
  ren : List (Nat × Nat)
  voids : List (Nat × Nat × Nat)
  cells : List (Nat × Nat × Nat × Nat)
  olds : List Nat
  att : List Nat
  own : List Nat
def freezeT (fr : Fr) : List Nat → Option Fr
  | [] => some fr
  | t :: ts => match look t fr.env with
    | some x => match plainV fr.heap x with
      | some (d, H) => freezeT { fr with env := (t, .val d) :: fr.env, heap := H } ts
      | none => none
    | none => none
def voidT (fr : Fr) : List (Nat × Nat × Nat) → Option Fr
  | [] => some fr
  | (t, id, sz) :: l => match look t fr.env with
    | some (.emp sz') => if sz' = sz ∧ free id fr.heap = true ∧ id < 1000000000 then voidT { fr with env := (t, .sl id 0 0) :: fr.env, heap := (id, .row false sz []) :: fr.heap } l else none
    | _ => voidT fr l
def voidC (fr : Fr) : List (Nat × Nat × Nat × Nat) → Option Fr
  | [] => some fr
  | (b, j, id, sz) :: l => match look b fr.heap with
    | some (.var old cs) => match cs[j]? with
      | some (.emp sz') => if sz' = sz ∧ free id fr.heap = true ∧ id < 1000000000 then voidC { fr with heap := updB b (.var old (cs.set j (.sl id 0 0))) ((id, .row false sz []) :: fr.heap) } l else none
      | _ => voidC fr l
    | _ => voidC fr l
def oldB (fr : Fr) : List Nat → Fr
  | [] => fr
  | b :: l => match look b fr.heap with
    | some (.row _ sz els) => oldB { fr with heap := updB b (.row true sz els) fr.heap } l
    | some (.var _ cs) => oldB { fr with heap := updB b (.var true cs) fr.heap } l
    | _ => oldB fr l
def voids2 (fr : Fr) (h : Hint) : Option Fr := match voidC fr h.cells with
  | some fr1 => (voidT fr1 h.voids).map fun fr2 => oldB fr2 h.olds
  | none => none
def renF (keep : List Nat) (ren : List (Nat × Nat)) (fr : Fr) : Fr := ⟨keepE (rmap ren) fr.env keep, renH ren fr.heap, fr.nt⟩
def tidyA (h : Hint) (fr : Fr) : Option Fr := match freezeT fr h.pre with
  | some fr1 => match voids2 fr1 h with
    | some fr2 => if okRen h.ren = true then some (renF h.keep h.ren fr2) else none
    | none => none
  | none => none
def tidy (h : Hint) (fr : Fr) : Option Fr := match attachs fr.heap h.att with
  | some H0 => tidyA h { fr with heap := H0 }
  | none => none
def tidyO (h : Option Hint) (fr : Fr) : Option Fr := match h with
  | some h => tidy h fr
  | none => some fr
section
variable {P : Program} {G : Nat → Option (List D)} {w0 : World} {L X0 X1 : Nat → Prop} {w w' w2 : World} {tm : Array Value} {fr : Fr} {ρ ρ' : Place} {X : K → Nat → Prop} {H : Heap}
theorem FR.putTm (h : FR G w0 L X0 w tm fr ρ) {t : Nat} {x : V} (hx : RepE w (XX w0 X0 fr.heap ρ) fr.heap ρ x (tm.getD t undef)) : FR G w0 L X0 w tm { fr with env := (t, x) :: fr.env } ρ :=
  ⟨h.chg, h.x0, h.blk, h.sep, h.new, h.out, fun s y hy => by
    simp only [look] at hy
    split at hy
    · rename_i hs; subst hs; obtain rfl := Option.some.inj hy; exact hx
    · exact h.env s y hy, h.nt, h.gl⟩
theorem freezeT_sound : ∀ {ts : List Nat} {fr fr' : Fr}, FR G w0 L X0 w tm fr ρ → freezeT fr ts = some fr' → FR G w0 L X0 w tm fr' ρ ∧ Keep fr.heap fr'.heap ρ ρ
  | [], fr, fr', h, he => by
    simp only [freezeT] at he
    obtain rfl := Option.some.inj he
    exact ⟨h, Keep.refl _ _⟩
  | t :: ts, fr, fr', h, he => by
    simp only [freezeT] at he
    split at he
    · rename_i x hx
      split at he
      · rename_i d H1 hp
        obtain ⟨a1, a2, a3, a4⟩ := plainV_sound h (h.env t x hx) hp
        obtain ⟨b1, b2⟩ := freezeT_sound (a1.putTm (t := t) (x := .val d) (.val d _ a4)) he
        exact ⟨b1, (Keep.of_htr a3).trans b2⟩
      · simp at he
    · simp at he
theorem voidT_sound : ∀ {l : List (Nat × Nat × Nat)} {fr fr' : Fr} {ρ : Place}, FR G w0 L X0 w tm fr ρ → voidT fr l = some fr' → ∃ ρ', FR G w0 L X0 w tm fr' ρ' ∧ Keep fr.heap fr'.heap ρ ρ'
  | [], fr, fr', ρ, h, he => by
    simp only [voidT] at he
    obtain rfl := Option.some.inj he
    exact ⟨ρ, h, Keep.refl _ _⟩
  | (t, id, sz) :: l, fr, fr', ρ, h, he => by
    simp only [voidT] at he
    split at he
    · rename_i sz' hx
      split at he
      · rename_i hc
        obtain ⟨rfl, hf, hid⟩ := hc
        have hE : FR G w0 L (fun b => X0 b ∨ E b) w tm fr ρ := by
          have e : (fun b => X0 b ∨ E b) = X0 := by funext b; simp [E]
          rw [e]; exact h
        obtain ⟨p1, p2, p3, p4⟩ := Puts.add (F := E) hE (id := id) (B := .row false sz' []) (p := none) (S := noB) (free_spec hf) (fun b hb => hb.elim) (fun g e => by rcases e with ⟨k, e⟩ | e <;> first | (simp at e; done) | exact e.elim) (fun X' H' ρ' _ _ => rowC_ofS (by simp) (.inl rfl) (fun x hx => hx.elim) fun g k e => by simp at e)
        have hv := h.env t _ hx
        generalize tm.getD t undef = v at hv
        have hx' : RepE w (XX w0 X0 ((id, .row false sz' []) :: fr.heap) (setP id none noB ρ)) ((id, .row false sz' []) :: fr.heap) (setP id none noB ρ) (.sl id 0 0) (tm.getD t undef) := by
          have hv := h.env t _ hx
          generalize tm.getD t undef = v at hv
          cases hv with
          | emp _ a => exact .sl _ _ _ _ (.row false sz' []) (by simp [look]) ⟨by simp, a, 0, rfl, by simp, .inl rfl⟩
        obtain ⟨ρ2, b1, b2⟩ := voidT_sound (p1.putTm (t := t) hx') he
        exact ⟨ρ2, b1, (Keep.of_htr p3).trans b2⟩
      · simp at he
    · exact voidT_sound h he
theorem FR.recell (h : FR G w0 L X0 w tm fr ρ) {b : Nat} {old : Bool} {cs cs' : List V} (hb : look b fr.heap = some (.var old cs)) (hl : cs'.length = cs.length)
    (hc : ∀ g k, ρ b = some (g, k) → ∀ (j : Nat) (x : V), cs'[j]? = some x → ∃ u, w.cell? ⟨g, k + j, none⟩ = some u ∧ RepE w (XX w0 X0 fr.heap ρ) fr.heap ρ x u) :
    FR G w0 L X0 w tm { fr with heap := updB b (.var old cs') fr.heap } ρ ∧ HTr w w fr.heap (updB b (.var old cs') fr.heap) ρ ρ := by
  have lk : ∀ b' B', look b' (updB b (.var old cs') fr.heap) = some B' → (b' = b ∧ B' = .var old cs') ∨ (b' ≠ b ∧ look b' fr.heap = some B') := fun b' B' h1 => by
    by_cases hbb : b' = b
    · subst hbb; rw [look_updB_self hb] at h1; exact .inl ⟨rfl, (Option.some.inj h1).symm⟩
    · rw [look_updB_ne hbb] at h1; exact .inr ⟨hbb, h1⟩
  have e : XX w0 X0 (updB b (.var old cs') fr.heap) ρ = XX w0 X0 fr.heap ρ := by
    funext k g
    apply propext
    constructor
    · rintro (hx | hx | ⟨b', B', h1, h2, h3⟩)
      · exact .inl hx
      · exact .inr (.inl hx)
      · rcases lk b' B' h1 with ⟨rfl, rfl⟩ | ⟨_, q⟩
        · exact .inr (.inr ⟨b', _, hb, rfl, h3⟩)
        · exact .inr (.inr ⟨b', B', q, h2, h3⟩)
    · rintro (hx | hx | ⟨b', B', h1, h2, h3⟩)
      · exact .inl hx
      · exact .inr (.inl hx)
      · by_cases hbb : b' = b
        · subst hbb; exact .inr (.inr ⟨b', _, look_updB_self hb, rfl, h3⟩)
        · exact .inr (.inr ⟨b', B', by rw [look_updB_ne hbb]; exact h1, h2, h3⟩)
  have st : Stay w w (XX w0 X0 fr.heap ρ) (XX w0 X0 (updB b (.var old cs') fr.heap) ρ) := by rw [e]; exact Stay.refl _ _
  have t : HTr w w fr.heap (updB b (.var old cs') fr.heap) ρ ρ := by
    refine ⟨fun _ _ h => h, fun b' B' h1 => ?_⟩
    by_cases hbb : b' = b
    · subst hbb; rw [hb] at h1; obtain rfl := Option.some.inj h1; exact ⟨_, look_updB_self hb, .inr ⟨rfl, rfl⟩⟩
    · exact ⟨B', by rw [look_updB_ne hbb]; exact h1, .inr ⟨rfl, rfl⟩⟩
  refine ⟨h.re h.chg h.x0 st t (fun b' B' h1 h2 => ?_) (fun b1 b2 B1 B2 g h1 h2 l1 l2 p1 p2 => ?_) (fun b' B' g h1 h2 h3 => ?_) (fun b' B' g h1 h2 h3 => ?_), t⟩
  · rcases lk b' B' h1 with ⟨rfl, rfl⟩ | ⟨_, q⟩
    · right
      obtain ⟨hS, g, k, q1, q2, q3⟩ := h.blk b' _ hb
      refine ⟨hS, g, k, q1, by rw [hl]; exact q2, fun j x hx => ?_⟩
      obtain ⟨u, r1, r2⟩ := hc g k q1 j x hx
      exact ⟨u, r1, r2.tr st t⟩
    · exact .inl ⟨q, rfl, rfl, fun _ _ => rfl⟩
  · rcases lk b1 B1 h1 with ⟨e1, _⟩ | ⟨_, q1⟩ <;> rcases lk b2 B2 h2 with ⟨e2, _⟩ | ⟨_, q2⟩
    · rw [e1, e2]
    · subst e1; exact h.sep b1 b2 _ B2 g hb q2 rfl l2 p1 p2
    · subst e2; exact h.sep b1 b2 B1 _ g q1 hb l1 rfl p1 p2
    · exact h.sep b1 b2 B1 B2 g q1 q2 l1 l2 p1 p2
  · rcases lk b' B' h1 with ⟨rfl, rfl⟩ | ⟨_, q⟩
    · have q := h.new b' (.var old cs) g hb rfl h3
      exact q
    · exact h.new b' B' g q h2 h3
  · rcases lk b' B' h1 with ⟨rfl, rfl⟩ | ⟨_, q⟩
    · exact h.out b' (.var old cs) g hb rfl h3
    · exact h.out b' B' g q h2 h3
theorem FR.reold (h : FR G w0 L X0 w tm fr ρ) {b : Nat} {B B' : Blk} (hb : look b fr.heap = some B) (hl : B.live = true) (hl' : B'.live = true) (hs : B'.sh = B.sh) (ho : B'.old = true)
    (hB : ∀ X H ρ p S, RepB w X H ρ p S B → RepB w X H ρ p S B') : FR G w0 L X0 w tm { fr with heap := updB b B' fr.heap } ρ ∧ HTr w w fr.heap (updB b B' fr.heap) ρ ρ := by
  have lk : ∀ b' C, look b' (updB b B' fr.heap) = some C → (b' = b ∧ C = B') ∨ (b' ≠ b ∧ look b' fr.heap = some C) := fun b' C h1 => by
    by_cases hbb : b' = b
    · subst hbb; rw [look_updB_self hb] at h1; exact .inl ⟨rfl, (Option.some.inj h1).symm⟩
    · rw [look_updB_ne hbb] at h1; exact .inr ⟨hbb, h1⟩
  have e : XX w0 X0 (updB b B' fr.heap) ρ = XX w0 X0 fr.heap ρ := by
    funext k g
    apply propext
    constructor
    · rintro (hx | hx | ⟨b', C, h1, h2, h3⟩)
      · exact .inl hx
      · exact .inr (.inl hx)
      · rcases lk b' C h1 with ⟨e1, _⟩ | ⟨_, q⟩
        · subst e1; exact .inr (.inr ⟨b', B, hb, hl, h3⟩)
        · exact .inr (.inr ⟨b', C, q, h2, h3⟩)
    · rintro (hx | hx | ⟨b', C, h1, h2, h3⟩)
      · exact .inl hx
      · exact .inr (.inl hx)
      · by_cases hbb : b' = b
        · subst hbb; exact .inr (.inr ⟨b', B', look_updB_self hb, hl', h3⟩)
        · exact .inr (.inr ⟨b', C, by rw [look_updB_ne hbb]; exact h1, h2, h3⟩)
  have st : Stay w w (XX w0 X0 fr.heap ρ) (XX w0 X0 (updB b B' fr.heap) ρ) := by rw [e]; exact Stay.refl _ _
  have t : HTr w w fr.heap (updB b B' fr.heap) ρ ρ := by
    refine ⟨fun _ _ h => h, fun b' C h1 => ?_⟩
    by_cases hbb : b' = b
    · subst hbb; rw [hb] at h1; obtain rfl := Option.some.inj h1; exact ⟨B', look_updB_self hb, .inr ⟨rfl, hs⟩⟩
    · exact ⟨C, by rw [look_updB_ne hbb]; exact h1, .inr ⟨rfl, rfl⟩⟩
  refine ⟨h.re h.chg h.x0 st t (fun b' C h1 h2 => ?_) (fun b1 b2 B1 B2 g h1 h2 l1 l2 p1 p2 => ?_) (fun b' C g h1 h2 h3 => ?_) (fun b' C g h1 h2 h3 => ?_), t⟩
  · rcases lk b' C h1 with ⟨e1, e2⟩ | ⟨_, q⟩
    · subst e1; subst e2
      exact .inr (hB _ _ _ _ _ ((h.blk b' B hb).tr st t (fun _ _ _ => rfl)))
    · exact .inl ⟨q, rfl, rfl, fun _ _ => rfl⟩
  · rcases lk b1 B1 h1 with ⟨e1, _⟩ | ⟨_, q1⟩ <;> rcases lk b2 B2 h2 with ⟨e2, _⟩ | ⟨_, q2⟩
    · rw [e1, e2]
    · subst e1; exact h.sep b1 b2 B B2 g hb q2 hl l2 p1 p2
    · subst e2; exact h.sep b1 b2 B1 B g q1 hb l1 hl p1 p2
    · exact h.sep b1 b2 B1 B2 g q1 q2 l1 l2 p1 p2
  · rcases lk b' C h1 with ⟨e1, e2⟩ | ⟨_, q⟩
    · subst e1; subst e2
      rcases h.new b' B g hb hl h3 with q | q
      · exact .inl ⟨ho, q.2⟩
      · exact .inr q
    · exact h.new b' C g q h2 h3
  · rcases lk b' C h1 with ⟨e1, e2⟩ | ⟨_, q⟩
    · subst e1; exact h.out b' B g hb hl h3
    · exact h.out b' C g q h2 h3
theorem oldB_sound : ∀ {l : List Nat} {fr : Fr}, FR G w0 L X0 w tm fr ρ → FR G w0 L X0 w tm (oldB fr l) ρ ∧ Keep fr.heap (oldB fr l).heap ρ ρ
  | [], fr, h => ⟨h, Keep.refl _ _⟩
  | b :: l, fr, h => by
    simp only [oldB]
    split
    · rename_i old sz els hb
      obtain ⟨a1, a2⟩ := h.reold (B' := .row true sz els) hb rfl rfl rfl rfl (fun X H ρ p S q => q)
      obtain ⟨b1, b2⟩ := oldB_sound (l := l) a1
      exact ⟨b1, (Keep.of_htr a2).trans b2⟩
    · rename_i old cs hb
      obtain ⟨a1, a2⟩ := h.reold (B' := .var true cs) hb rfl rfl rfl rfl (fun X H ρ p S q => q)
      obtain ⟨b1, b2⟩ := oldB_sound (l := l) a1
      exact ⟨b1, (Keep.of_htr a2).trans b2⟩
    · exact oldB_sound h
theorem voidC_sound : ∀ {l : List (Nat × Nat × Nat × Nat)} {fr fr' : Fr} {ρ : Place}, FR G w0 L X0 w tm fr ρ → voidC fr l = some fr' → ∃ ρ', FR G w0 L X0 w tm fr' ρ' ∧ Keep fr.heap fr'.heap ρ ρ'
  | [], fr, fr', ρ, h, he => by
    simp only [voidC] at he
    obtain rfl := Option.some.inj he
    exact ⟨ρ, h, Keep.refl _ _⟩
  | (b, j, id, sz) :: l, fr, fr', ρ, h, he => by
    simp only [voidC] at he
    split at he
    · rename_i old cs hb
      split at he
      · rename_i sz' hj
        split at he
        · rename_i hcond
          obtain ⟨rfl, hf, hid⟩ := hcond
          have hE : FR G w0 L (fun b => X0 b ∨ E b) w tm fr ρ := by
            have e : (fun b => X0 b ∨ E b) = X0 := by funext b; simp [E]
            rw [e]; exact h
          obtain ⟨p1, p2, p3, p4⟩ := Puts.add (F := E) hE (id := id) (B := .row false sz' []) (p := none) (S := noB) (free_spec hf) (fun b hb => hb.elim) (fun g e => by rcases e with ⟨k, e⟩ | e <;> first | (simp at e; done) | exact e.elim) (fun X' H' ρ' _ _ => rowC_ofS (by simp) (.inl rfl) (fun x hx => hx.elim) fun g k e => by simp at e)
          have hbne : id ≠ b := fun e => by subst e; have := free_spec hf; rw [this] at hb; simp at hb
          have hb' : look b ((id, Blk.row false sz' []) :: fr.heap) = some (.var old cs) := by simp only [look]; rw [if_neg hbne]; exact hb
          have hρ : ∀ s, s ≠ id → setP id none noB ρ s = ρ s := fun s hs => by simp [setP, hs]
          obtain ⟨c1, c2⟩ := FR.recell (cs' := cs.set j (.sl id 0 0)) p1 hb' (by simp) (fun g k hg i x hx => by
            obtain ⟨_, g', k', q1, q2, q3⟩ := p1.blk b _ hb'
            rw [q1] at hg
            obtain ⟨rfl, rfl⟩ : g' = g ∧ k' = k := by simpa using hg
            rw [List.getElem?_set] at hx
            split at hx
            · rename_i hji
              subst hji
              split at hx
              · obtain rfl := Option.some.inj hx
                obtain ⟨u, r1, r2⟩ := q3 j _ hj
                refine ⟨u, r1, ?_⟩
                cases r2 with
                | emp _ a => exact .sl _ _ _ _ (.row false sz' []) (by simp [look]) ⟨by simp, a, 0, rfl, by simp, .inl rfl⟩
              · simp at hx
            · exact q3 i x hx)
          obtain ⟨ρ2, b1, b2⟩ := voidC_sound c1 he
          exact ⟨ρ2, b1, ((Keep.of_htr p3).trans (Keep.of_htr c2)).trans b2⟩
        · simp at he
      · exact voidC_sound h he
    · exact voidC_sound h he
theorem voids2_sound {hi : Hint} {fr fr' : Fr} {ρ : Place} (h : FR G w0 L X0 w tm fr ρ) (he : voids2 fr hi = some fr') : ∃ ρ', FR G w0 L X0 w tm fr' ρ' ∧ Keep fr.heap fr'.heap ρ ρ' := by
  unfold voids2 at he
  split at he
  · rename_i fr1 h1
    obtain ⟨ρ1, a1, a2⟩ := voidC_sound h h1
    obtain ⟨fr2, h2, rfl⟩ := Option.map_eq_some_iff.1 he
    obtain ⟨ρ2, b1, b2⟩ := voidT_sound a1 h2
    obtain ⟨c1, c2⟩ := oldB_sound (l := hi.olds) b1
    exact ⟨ρ2, c1, (a2.trans b2).trans c2⟩
  · simp at he
theorem inN_mem {n : Nat} : ∀ {l : List Nat}, inN n l = true ↔ n ∈ l
  | [] => by simp [inN]
  | m :: l => by
    simp only [inN, List.mem_cons]
    by_cases h : m = n
    · simp [h]
    · rw [if_neg h, inN_mem]
      constructor
      · exact .inr
      · rintro (e | e)
        · exact absurd e.symm h
        · exact e
theorem look_mem {α : Type} {t : Nat} {x : α} : ∀ {l : List (Nat × α)}, look t l = some x → (t, x) ∈ l
  | (s, y) :: l, h => by
    simp only [look] at h
    split at h
    · rename_i hs; subst hs; obtain rfl := Option.some.inj h; simp
    · exact List.mem_cons_of_mem _ (look_mem h)
theorem okRen_spec : ∀ {ren : List (Nat × Nat)}, okRen ren = true → (∀ o n, (o, n) ∈ ren → o < 1000000000 ∧ n < 1000000000 ∧ look o ren = some n) ∧ (∀ o o' n, (o, n) ∈ ren → (o', n) ∈ ren → o = o')
  | [], h => ⟨fun o n hm => by simp at hm, fun o o' n hm => by simp at hm⟩
  | (o, n) :: l, h => by
    simp only [okRen, Bool.and_eq_true, decide_eq_true_eq, Bool.not_eq_true'] at h
    obtain ⟨⟨⟨⟨h1, h2⟩, h3⟩, h4⟩, h5⟩ := h
    obtain ⟨i1, i2⟩ := okRen_spec h5
    have no : ∀ n', (o, n') ∉ l := fun n' hm => by
      have : inN o (l.map (·.1)) = true := inN_mem.2 (List.mem_map.2 ⟨_, hm, rfl⟩)
      rw [h3] at this; simp at this
    have nn : ∀ o', (o', n) ∉ l := fun o' hm => by
      have : inN n (l.map (·.2)) = true := inN_mem.2 (List.mem_map.2 ⟨_, hm, rfl⟩)
      rw [h4] at this; simp at this
    refine ⟨fun o' n' hm => ?_, fun o1 o2 n' m1 m2 => ?_⟩
    · rcases List.mem_cons.1 hm with e | hm
      · obtain ⟨rfl, rfl⟩ := by simpa using e
        exact ⟨h1, h2, by simp [look]⟩
      · obtain ⟨k1, k2, k3⟩ := i1 o' n' hm
        have hne : o ≠ o' := fun e => by subst e; exact no n' hm
        exact ⟨k1, k2, by simp only [look]; rw [if_neg hne]; exact k3⟩
    · rcases List.mem_cons.1 m1 with e1 | m1 <;> rcases List.mem_cons.1 m2 with e2 | m2
      · simp at e1 e2; rw [e1.1, e2.1]
      · simp at e1; rw [e1.2] at m2; exact absurd m2 (nn o2)
      · simp at e2; rw [e2.2] at m1; exact absurd m1 (nn o1)
      · exact i2 o1 o2 n' m1 m2
theorem look_renA {r : Nat → Option Nat} {n : Nat} {B' : Blk} : ∀ {l : List (Nat × Nat)}, look n (renA r H l) = some B' → ∃ o B, (o, n) ∈ l ∧ look o H = some B ∧ B' = renB r B
  | (o, m) :: l, h => by
    simp only [renA] at h
    unfold renC at h
    split at h
    · rename_i B hB
      simp only [look] at h
      split at h
      · rename_i hm; subst hm; exact ⟨o, B, by simp, hB, (Option.some.inj h).symm⟩
      · obtain ⟨o', B2, q1, q2⟩ := look_renA h
        exact ⟨o', B2, List.mem_cons_of_mem _ q1, q2⟩
    · obtain ⟨o', B2, q1, q2⟩ := look_renA h
      exact ⟨o', B2, List.mem_cons_of_mem _ q1, q2⟩
theorem look_renA_none {r : Nat → Option Nat} {n : Nat} : ∀ {l : List (Nat × Nat)}, (∀ o, (o, n) ∈ l → look o H = none) → look n (renA r H l) = none
  | [], h => rfl
  | (o, m) :: l, h => by
    simp only [renA]
    unfold renC
    have ih := look_renA_none (r := r) (l := l) fun o' hm => h o' (List.mem_cons_of_mem _ hm)
    split
    · rename_i B hB
      simp only [look]
      split
      · rename_i hm; subst hm; have := h o (by simp); rw [hB] at this; simp at this
      · exact ih
    · exact ih
theorem look_append {α : Type} {t : Nat} : ∀ {l m : List (Nat × α)}, look t (l ++ m) = match look t l with | some x => some x | none => look t m
  | [], m => rfl
  | (s, x) :: l, m => by
    simp only [List.cons_append, look]
    split
    · rfl
    · exact look_append
theorem look_renP {r : Nat → Option Nat} {n : Nat} : ∀ {H : Heap}, look n (renP r H) = if 1000000000 ≤ n then (look n H).map (renB r) else none
  | [] => by simp [renP, look]
  | (b, B) :: l => by
    simp only [renP]
    have ih := look_renP (r := r) (n := n) (H := l)
    by_cases hb : 1000000000 ≤ b
    · rw [if_pos hb]
      simp only [look]
      by_cases hbn : b = n
      · subst hbn; rw [if_pos rfl, if_pos rfl, if_pos hb]; rfl
      · rw [if_neg hbn, if_neg hbn]; exact ih
    · rw [if_neg hb, ih]
      by_cases hn : 1000000000 ≤ n
      · rw [if_pos hn, if_pos hn]
        have hbn : b ≠ n := by omega
        simp only [look]; rw [if_neg hbn]
      · rw [if_neg hn, if_neg hn]
def renN (ren : List (Nat × Nat)) (n : Nat) : Nat := match look n (ren.map fun p => (p.2, p.1)) with
  | some o => o
  | none => n
def renPl (ren : List (Nat × Nat)) (ρ : Place) : Place := ⟨fun n => ρ (renN ren n), fun n => ρ.sub (renN ren n)⟩
theorem renH_sub {ren : List (Nat × Nat)} (hok : okRen ren = true) {n : Nat} {B' : Blk} (h : look n (renH ren H) = some B') : ∃ o B, rmap ren o = some n ∧ look o H = some B ∧ B' = renB (rmap ren) B := by
  obtain ⟨k1, k2⟩ := okRen_spec hok
  unfold renH at h
  rw [look_append] at h
  split at h
  · rename_i B1 h1
    obtain rfl := Option.some.inj h
    obtain ⟨o, B, q1, q2, q3⟩ := look_renA h1
    obtain ⟨q4, q5, q6⟩ := k1 o n q1
    exact ⟨o, B, by unfold rmap; rw [if_neg (by omega)]; exact q6, q2, q3⟩
  · rw [look_renP] at h
    split at h
    · rename_i hn
      obtain ⟨B, hB, rfl⟩ := Option.map_eq_some_iff.1 h
      exact ⟨n, B, by unfold rmap; rw [if_pos hn], hB, rfl⟩
    · simp at h
theorem rmap_inj {ren : List (Nat × Nat)} (hok : okRen ren = true) {o o' n : Nat} (h : rmap ren o = some n) (h' : rmap ren o' = some n) : o = o' := by
  obtain ⟨k1, k2⟩ := okRen_spec hok
  unfold rmap at h h'
  split at h <;> split at h'
  · simp at h h'; omega
  · simp at h; have := (k1 o' n (look_mem h')).2.1; omega
  · simp at h'; have := (k1 o n (look_mem h)).2.1; omega
  · exact k2 o o' n (look_mem h) (look_mem h')
theorem renN_at {ren : List (Nat × Nat)} (hok : okRen ren = true) {o n : Nat} (h : rmap ren o = some n) : renN ren n = o := by
  obtain ⟨k1, k2⟩ := okRen_spec hok
  unfold renN
  split
  · rename_i o' ho'
    have := look_mem ho'
    obtain ⟨p, hp, e⟩ := List.mem_map.1 this
    obtain ⟨p1, p2⟩ := p
    obtain ⟨rfl, rfl⟩ := by simpa using e
    obtain ⟨q1, q2, q3⟩ := k1 _ _ hp
    have : rmap ren p1 = some p2 := by unfold rmap; rw [if_neg (by omega)]; exact q3
    exact (rmap_inj hok h this).symm
  · rename_i hn
    unfold rmap at h
    split at h
    · simp at h; exact h.symm
    · exfalso
      have hm := look_mem h
      have : ∀ {l : List (Nat × Nat)}, (o, n) ∈ l → look n (l.map fun p => (p.2, p.1)) ≠ none := by
        intro l
        induction l with
        | nil => intro h; simp at h
        | cons p l ih =>
          intro h
          simp only [List.map_cons, look]
          split
          · simp
          · rename_i hne
            rcases List.mem_cons.1 h with e | h
            · subst e; exact absurd rfl hne
            · exact ih h
      exact this hm hn
theorem renPl_at {ren : List (Nat × Nat)} (hok : okRen ren = true) {o n : Nat} (h : rmap ren o = some n) : renPl ren ρ n = ρ o := by
  simp only [renPl, renN_at hok h]
theorem renPl_sub {ren : List (Nat × Nat)} (hok : okRen ren = true) {o n : Nat} (h : rmap ren o = some n) : (renPl ren ρ).sub n = ρ.sub o := by
  simp only [renPl, renN_at hok h]
theorem renPl_blks {ren : List (Nat × Nat)} (hok : okRen ren = true) {o n g : Nat} (h : rmap ren o = some n) : Blks (renPl ren ρ) n g ↔ Blks ρ o g := by
  unfold Blks; rw [renPl_at hok h, renPl_sub hok h]
theorem renH_look {ren : List (Nat × Nat)} (hok : okRen ren = true) {o n : Nat} {B : Blk} (h : rmap ren o = some n) (hB : look o H = some B) : look n (renH ren H) = some (renB (rmap ren) B) := by
  have hne : look n (renH ren H) ≠ none := by
    obtain ⟨k1, k2⟩ := okRen_spec hok
    unfold renH
    rw [look_append]
    unfold rmap at h
    split at h
    · rename_i ho
      simp at h; subst h
      split
      · simp
      · rw [look_renP, if_pos ho, hB]; simp
    · have hm := look_mem h
      have : ∀ {l : List (Nat × Nat)} {r : Nat → Option Nat}, (o, n) ∈ l → look n (renA r H l) ≠ none := by
        intro l r
        induction l with
        | nil => intro h; simp at h
        | cons p l ih =>
          obtain ⟨p1, p2⟩ := p
          intro h
          simp only [renA]
          unfold renC
          split
          · simp only [look]
            split
            · simp
            · rename_i hne
              rcases List.mem_cons.1 h with e | h
              · simp at e; exact absurd e.2.symm hne
              · exact ih h
          · rename_i hn
            rcases List.mem_cons.1 h with e | h
            · simp at e; rw [← e.1, hB] at hn; simp at hn
            · exact ih h
      have := this (r := rmap ren) hm
      split
      · simp
      · rename_i h2
        exact absurd h2 this
  obtain ⟨B', hB'⟩ := Option.ne_none_iff_exists'.1 hne
  obtain ⟨o', B2, q1, q2, q3⟩ := renH_sub hok hB'
  obtain rfl := rmap_inj hok h q1
  rw [hB] at q2
  obtain rfl := Option.some.inj q2
  rw [hB', q3]
theorem renB_sh (r : Nat → Option Nat) (B : Blk) : (renB r B).sh = .gone ∨ (renB r B).sh = B.sh := by cases B <;> first | exact .inr rfl | exact .inl rfl
theorem renB_old (r : Nat → Option Nat) (B : Blk) (h : (renB r B).live = true) : (renB r B).old = B.old := by cases B <;> first | rfl | simp [renB, Blk.live] at h
theorem renB_live (r : Nat → Option Nat) (B : Blk) (h : (renB r B).live = true) : B.live = true := by cases B <;> first | rfl | simp [renB, Blk.live] at h
theorem renE {ren : List (Nat × Nat)} (hok : okRen ren = true) {X' : K → Nat → Prop} (st : Stay w w X X') {x : V} {v : Value} (h : RepE w X H ρ x v) : RepE w X' (renH ren H) (renPl ren ρ) (renV (rmap ren) x) v := by
  have blk : ∀ {b b' : Nat} {B : Blk}, rmap ren b = some b' → look b H = some B → ∃ B', look b' (renH ren H) = some B' ∧ (B'.sh = .gone ∨ B'.sh = B.sh) ∧ renPl ren ρ b' = ρ b := fun h1 h2 => ⟨_, renH_look hok h1 h2, renB_sh _ _, renPl_at hok h1⟩
  induction h with
  | val d v h => simp only [renV]; exact .val d v (h.stay st)
  | emp sz a => simp only [renV]; exact .emp sz a
  | sl b o n v B hb h =>
    simp only [renV]
    split
    · rename_i b' hr
      obtain ⟨B', q1, q2, q3⟩ := blk hr hb
      rcases q2 with q2 | q2
      · exact .sl b' o n v B' q1 (by rw [q2]; exact h.gone)
      · exact .sl b' o n v B' q1 (by rw [q2, q3]; exact h)
    · exact .dead v
  | pt b o v B hb h =>
    simp only [renV]
    split
    · rename_i b' hr
      obtain ⟨B', q1, q2, q3⟩ := blk hr hb
      rcases q2 with q2 | q2
      · exact .pt b' o v B' q1 (by rw [q2]; exact h.gone)
      · exact .pt b' o v B' q1 (by rw [q2, q3]; exact h)
    · exact .dead v
  | ep b i o v B hb h =>
    simp only [renV]
    split
    · rename_i b' hr
      obtain ⟨B', q1, q2, q3⟩ := blk hr hb
      rcases q2 with q2 | q2
      · exact .ep b' i o v B' q1 (by rw [q2]; exact h.gone)
      · exact .ep b' i o v B' q1 (by rw [q2, q3]; exact h)
    · exact .dead v
  | agg vs us hs h ih =>
    simp only [renV, renL_map]
    refine .agg _ us (by simpa using hs) fun i x u h1 h2 => ?_
    rw [List.getElem?_map, Option.map_eq_some_iff] at h1
    obtain ⟨y, hy, rfl⟩ := h1
    exact ih i y u hy h2
  | tup vs us hs h ih =>
    simp only [renV, renL_map]
    refine .tup _ us (by simpa using hs) fun i x u h1 h2 => ?_
    rw [List.getElem?_map, Option.map_eq_some_iff] at h1
    obtain ⟨y, hy, rfl⟩ := h1
    exact ih i y u hy h2
  | fn f vs us hs h ih =>
    simp only [renV, renL_map]
    refine .fn f _ us (by simpa using hs) fun i x u h1 h2 => ?_
    rw [List.getElem?_map, Option.map_eq_some_iff] at h1
    obtain ⟨y, hy, rfl⟩ := h1
    exact ih i y u hy h2
  | dead v => simp only [renV]; exact .dead v
  | anyb b => simp only [renV]; exact .anyb b
theorem renF_sound (h : FR G w0 L X0 w tm fr ρ) {keep : List Nat} {ren : List (Nat × Nat)} (hok : okRen ren = true) : FR G w0 L X0 w tm (renF keep ren fr) (renPl ren ρ) ∧ Keep fr.heap (renF keep ren fr).heap ρ (renPl ren ρ) := by
  have sub : ∀ n B', look n (renH ren fr.heap) = some B' → ∃ o B, rmap ren o = some n ∧ look o fr.heap = some B ∧ B' = renB (rmap ren) B ∧ rmap ren o = some n := fun n B' hn => by
    obtain ⟨o, B, q1, q2, q3⟩ := renH_sub hok hn
    exact ⟨o, B, q1, q2, q3, q1⟩
  have st : Stay w w (XX w0 X0 fr.heap ρ) (XX w0 X0 (renH ren fr.heap) (renPl ren ρ)) := by
    refine ⟨fun _ _ _ _ => rfl, fun k b _ hx => hx.imp id (Or.imp id ?_)⟩
    rintro ⟨n, B', h1, h2, h3⟩
    obtain ⟨o, B, q1, q2, q3, q4⟩ := sub n B' h1
    subst q3
    replace h2 := renB_live _ _ h2
    rw [renPl_blks hok q4] at h3
    exact ⟨o, B, q2, h2, h3⟩
  refine ⟨⟨h.chg, h.x0, fun n B' hn => ?_, fun b b' B B' g h1 h2 l1 l2 p1 p2 => ?_, fun b B g h1 l1 p1 => ?_, fun b B g h1 l1 p1 => ?_, fun t x hx => ?_, h.nt, fun g cs hg => (h.gl g cs hg).stay st⟩, fun s B hs hB => ?_⟩
  · obtain ⟨o, B, q1, q2, q3, q4⟩ := sub n B' hn
    subst q3
    have hb := h.blk o B q2
    rw [renPl_at hok q4, renPl_sub hok q4]
    cases B with
    | row old sz els =>
      obtain ⟨φ, hb⟩ := hb
      exact ⟨φ, hb.tr (fun _ _ => rfl) fun i j d u _ q => q.stay st fun _ _ => rfl⟩
    | hole old sz els i j b n => trivial
    | var old cs =>
      obtain ⟨hS, g, k, r1, r2, r3⟩ := hb
      refine ⟨hS, g, k, r1, by simpa [renL_map] using r2, fun j x hx => ?_⟩
      rw [renL_map, List.getElem?_map, Option.map_eq_some_iff] at hx
      obtain ⟨y, hy, rfl⟩ := hx
      obtain ⟨u, u1, u2⟩ := r3 j y hy
      exact ⟨u, u1, renE hok st u2⟩
    | gone => trivial
    | awayR sz len => trivial
    | awayV => trivial
  · obtain ⟨o, C, q1, q2, q3, q4⟩ := sub b B h1
    obtain ⟨o', C', r1, r2, r3, r4⟩ := sub b' B' h2
    subst q3; subst r3
    rw [renPl_blks hok q4] at p1; rw [renPl_blks hok r4] at p2
    have := h.sep o o' C C' g q2 r2 (renB_live _ _ l1) (renB_live _ _ l2) p1 p2
    subst this
    rw [q1] at r1; exact Option.some.inj r1
  · obtain ⟨o, C, q1, q2, q3, q4⟩ := sub b B h1
    subst q3
    rw [renPl_blks hok q4] at p1
    rw [renB_old _ _ l1]
    exact h.new o C g q2 (renB_live _ _ l1) p1
  · obtain ⟨o, C, q1, q2, q3, q4⟩ := sub b B h1
    subst q3
    rw [renPl_blks hok q4] at p1
    exact h.out o C g q2 (renB_live _ _ l1) p1
  · have : ∀ {l : List Nat}, look t (keepE (rmap ren) fr.env l) = some x → ∃ y, look t fr.env = some y ∧ x = renV (rmap ren) y := by
      intro l
      induction l with
      | nil => intro h; simp [keepE, look] at h
      | cons s l ih =>
        intro h
        simp only [keepE] at h
        unfold keepC at h
        split at h
        · rename_i y hy
          simp only [look] at h
          split at h
          · rename_i hs; subst hs; exact ⟨y, hy, (Option.some.inj h).symm⟩
          · exact ih h
        · exact ih h
    obtain ⟨y, hy, rfl⟩ := this hx
    exact renE hok st (h.env t y hy)
  · have hr : rmap ren s = some s := by unfold rmap; rw [if_pos hs]
    exact ⟨_, renH_look hok hr hB, (renB_sh _ _).imp id fun e => ⟨renPl_at hok hr, e⟩⟩
theorem tidyA_sound {hi : Hint} {fr fr' : Fr} {ρ : Place} (h : FR G w0 L X0 w tm fr ρ) (he : tidyA hi fr = some fr') : ∃ ρ', FR G w0 L X0 w tm fr' ρ' ∧ Keep fr.heap fr'.heap ρ ρ' := by
  simp only [tidyA] at he
  split at he
  · rename_i fr1 h1
    obtain ⟨a1, a2⟩ := freezeT_sound h h1
    split at he
    · rename_i fr2 h2
      obtain ⟨ρ2, b1, b2⟩ := voids2_sound a1 h2
      split at he
      · rename_i hok
        obtain rfl := Option.some.inj he
        obtain ⟨c1, c2⟩ := renF_sound b1 (keep := hi.keep) hok
        exact ⟨_, c1, (a2.trans b2).trans c2⟩
      · simp at he
    · simp at he
  · simp at he
theorem tidy_sound (h : FR G w0 L X0 w tm fr ρ) {hi : Option Hint} {fr' : Fr} (he : tidyO hi fr = some fr') : ∃ ρ', FR G w0 L X0 w tm fr' ρ' ∧ Keep fr.heap fr'.heap ρ ρ' := by
  cases hi with
  | none =>
    simp only [tidyO] at he
    obtain rfl := Option.some.inj he
    exact ⟨ρ, h, Keep.refl _ _⟩
  | some hi =>
    simp only [tidyO, tidy] at he
    split at he
    · rename_i H0 h0
      obtain ⟨ρ0, z1, z2⟩ := attachs_sound h h0
      obtain ⟨ρ2, b1, b2⟩ := tidyA_sound z1 he
      exact ⟨ρ2, b1, (Keep.of_htr z2).trans b2⟩
    · simp at he
end
end Go.Proofs.Ytpbonfgmiffomaa.Wm
