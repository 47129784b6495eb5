/- Part of a machine that runs a Go function on plain values, with the proof that what it yields is what the function yields. -/
import Derived.Test.YtgnohnlpicmnaaaVnA
import Derived.Laws.Tables
set_option linter.unusedSimpArgs false
set_option linter.unusedVariables false
namespace Go.Proofs.Ytgnohnlpicmnaaa.Vm
open Go
section
variable {P : Program} {w0 : World} {L X0 : Nat → Prop} {w : World} {tm : Array Value} {fr : Fr} {rv : Nat → Value} {fp : Nat → Nat → Prop} {X : Nat → Prop} {R : List (Nat × D)}

theorem fold_set (off : Nat) : ∀ (l : List Value) (k : Nat) (us : Array Value), off + k + l.length ≤ us.size →
    ((l.zipIdx k).foldl (fun cs p => cs.setIfInBounds (off + p.2) p.1) us).size = us.size ∧
    ∀ i, ((l.zipIdx k).foldl (fun cs p => cs.setIfInBounds (off + p.2) p.1) us)[i]? = if off + k ≤ i ∧ i < off + k + l.length then l[i - (off + k)]? else us[i]?
  | [], k, us, h => by simp; intro i h1 h2; omega
  | x :: l, k, us, h => by
    simp only [List.zipIdx_cons, List.foldl_cons, List.length_cons] at h ⊢
    obtain ⟨h1, h2⟩ := fold_set off l (k + 1) (us.setIfInBounds (off + k) x) (by simp; omega)
    refine ⟨by rw [h1]; simp, fun i => ?_⟩
    rw [h2 i]
    by_cases hi : i = off + k
    · subst hi
      rw [if_neg (by omega), if_pos (by omega)]
      have : off + k < us.size := by omega
      simp [this]
    · by_cases hj : off + k ≤ i ∧ i < off + k + (l.length + 1)
      · rw [if_pos (by omega), if_pos hj]
        rw [show i - (off + k) = i - (off + (k + 1)) + 1 by omega]
        simp
      · rw [if_neg (by omega), if_neg hj, Array.getElem?_setIfInBounds_ne (by omega)]

theorem cells_one {x : V} {v : Value} (hc : isCellV x = true) (h : RepE w X R rv x v) : v.cells = #[v] := by
  cases x with
  | val d =>
    simp only [RepE] at h
    cases d with
    | int k n => rw [repV_int h]; rfl
    | bool b => rw [repV_bool h]; rfl
    | str s => rw [repV_str h]; rfl
    | nil => rw [repV_nil h]; rfl
    | sl own sz n cs => cases own <;> simp [isCellV] at hc; obtain ⟨A, c, rfl, _⟩ := shr_slice h; rfl
    | ptr own cs => cases own <;> simp [isCellV] at hc; simp only [RepV] at h; obtain ⟨A, rfl, _⟩ := h; rfl
    | fn f cap => simp only [RepV] at h; obtain ⟨vs, φ, rfl, _⟩ := h; rfl
    | _ => simp [isCellV] at hc
  | ref r p o =>
    simp only [RepE] at h
    obtain ⟨d, row, bk, h1, h2, h3, h4, h5, g, k, n, c, rfl⟩ := h
    rfl
  | win r p o sz lo n =>
    simp only [RepE] at h
    obtain ⟨d', row', bk', A, N, c0, A', c', a1, a2, a3, a4, a5, a6, a7, rfl, a9, a10⟩ := h
    rfl
  | addr r p o =>
    simp only [RepE] at h
    obtain ⟨d, g, k, h1, h2, h3, rfl⟩ := h
    rfl
  | fn f vs =>
    simp only [RepE] at h
    obtain ⟨us, rfl, _⟩ := h
    rfl
  | _ => simp [isCellV] at hc

theorem cellsV_sound {x : V} {v : Value} {vs : List V} (h : RepE w X R rv x v) (he : cellsV x = some vs) : Cells w X R rv vs v.cells := by
  unfold cellsV at he
  split at he
  · rename_i l ha
    obtain rfl := Option.some.inj he
    obtain ⟨us, rfl, hc⟩ := aggCells_sound h ha
    exact hc
  · split at he
    · rename_i hc
      obtain rfl := Option.some.inj he
      rw [cells_one hc h]
      refine ⟨rfl, fun i y u hy hu => ?_⟩
      cases i with
      | zero => simp at hy hu; subst hy; subst hu; exact h
      | succ i => simp at hy
    · simp at he

/-- The parts that are laid in, one beside the other. -/
theorem fill_sound {place : Nat → Option (Nat × Nat)} : ∀ (ps : List (Nat × V)) (qs : List (Nat × Value)) {vs vs' : List V} {us : Array Value}, Cells w X R rv vs us → ps.length = qs.length →
    (∀ (j : Nat) (p : Nat × V) (q : Nat × Value), ps[j]? = some p → qs[j]? = some q → p.1 = q.1 ∧ RepE w X R rv p.2 q.2) → fillV place vs ps = some vs' →
    ∃ us', Instr.fill place us qs = some us' ∧ Cells w X R rv vs' us'
  | [], qs, vs, vs', us, hc, hl, hp, he => by
    obtain rfl : qs = [] := List.eq_nil_of_length_eq_zero hl.symm
    obtain rfl : vs = vs' := by simpa [fillV] using he
    exact ⟨us, rfl, hc⟩
  | (i, x) :: ps, qs, vs, vs', us, hc, hl, hp, he => by
    cases qs with
    | nil => simp at hl
    | cons q qs =>
      obtain ⟨i', v⟩ := q
      obtain ⟨rfl, hx⟩ : i = i' ∧ RepE w X R rv x v := hp 0 (i, x) (i', v) rfl rfl
      simp only [fillV] at he
      split at he
      · rename_i off size hpl
        split at he
        · rename_i xs hxs
          split at he
          · rename_i hle
            obtain ⟨rfl, hle⟩ := hle
            have hv := cellsV_sound hx hxs
            have hsz : v.cells.size = xs.length := hv.1
            obtain ⟨f1, f2⟩ := fold_set off v.cells.toList 0 us (by simp [hsz, hc.1]; exact hle)
            have hcells : Cells w X R rv (vs.take off ++ xs ++ vs.drop (off + xs.length)) ((v.cells.toList.zipIdx 0).foldl (fun cs p => cs.setIfInBounds (off + p.2) p.1) us) := by
              refine ⟨by rw [f1, hc.1]; simp; omega, fun j y u hy hu => ?_⟩
              rw [f2 j] at hu
              simp only [Array.length_toList, hsz, Nat.add_zero] at hu
              by_cases hj : off ≤ j ∧ j < off + xs.length
              · rw [if_pos hj] at hu
                have : (vs.take off ++ xs ++ vs.drop (off + xs.length))[j]? = xs[j - off]? := by
                  have ho : (vs.take off).length = off := by simp; omega
                  rw [List.append_assoc, List.getElem?_append_right (by omega), ho, List.getElem?_append_left (by omega)]
                rw [this] at hy
                exact hv.2 (j - off) y u hy (by simpa using hu)
              · rw [if_neg hj] at hu
                have ho : (vs.take off).length = off := by simp; omega
                have : (vs.take off ++ xs ++ vs.drop (off + xs.length))[j]? = vs[j]? := by
                  by_cases hjo : j < off
                  · rw [List.append_assoc, List.getElem?_append_left (by omega), List.getElem?_take, if_pos hjo]
                  · rw [List.getElem?_append_right (by simp; omega), List.getElem?_drop]
                    congr 1
                    simp; omega
                rw [this] at hy
                exact hc.2 j y u hy hu
            obtain ⟨us', g1, g2⟩ := fill_sound ps qs hcells (by simpa using hl) (fun j p q hp' hq' => hp (j + 1) p q (by simpa using hp') (by simpa using hq')) he
            refine ⟨us', ?_, g2⟩
            unfold Instr.fill
            simp only [hpl, hsz]
            rw [if_neg (by simp [hc.1]; exact hle)]
            have e : (v.cells.zipIdx.foldl (fun cs (x : Value × Nat) => match x with | (c, j) => cs.setIfInBounds (off + j) c) us) = ((v.cells.toList.zipIdx 0).foldl (fun cs p => cs.setIfInBounds (off + p.2) p.1) us) := by
              rw [← Array.foldl_toList]
              simp
            first
              | (rw [e]; exact g1)
              | (simp only [← Array.foldl_toList, Array.toList_zipIdx] at g1 ⊢; exact g1)
          · simp at he
        · simp at he
      · simp at he

theorem constV_sound {c : Value} : RepE w X R rv (constV c) c := by
  unfold constV
  split
  · exact mk_int _ _
  · exact mk_bool _
  · exact mk_str _
  · exact mk_nil
  · simp only [RepE]

theorem places_map : ∀ (fs : List Field), (∀ f ∈ fs, P.cellsOf f.type ≠ 0) → fs.mapM (fun f => (P.info? f.type).map fun i => (f.offset, i.size)) = some (fs.map fun f => (f.offset, P.cellsOf f.type))
  | [], _ => by simp
  | f :: fs, h => by
    obtain ⟨i, hi⟩ := info_of_cells (h f (by simp))
    have := places_map fs (fun g hg => h g (by simp [hg]))
    simp only [List.mapM_cons, Option.bind_eq_bind, Option.pure_def, hi, Option.map_some, Option.bind_some, this, List.map_cons]
    simp [Program.cellsOf, hi]

theorem buildV_sound {t : TypeId} {ps : List (Nat × V)} {qs : Array (Nat × Value)} {y : V} (hl : ps.length = qs.size)
    (hp : ∀ (j : Nat) (p : Nat × V) (q : Nat × Value), ps[j]? = some p → qs[j]? = some q → p.1 = q.1 ∧ RepE w X R rv p.2 q.2) (he : buildV P t ps = some y) :
    ∃ u, (∀ w', Ext w w' → (Instr.build t qs).run P w' = .ok u w') ∧ RepE w X R rv y u := by
  unfold buildV at he
  split at he
  · rename_i zs hz
    unfold zeroCs at hz
    split at hz
    · rename_i it hit
      split at hz
      · rename_i z hzz
        obtain rfl := Option.some.inj hz
        have hc0 : Cells w X R rv (z.cells.toList.map constV) z.cells := by
          refine ⟨by simp, fun i x u hx hu => ?_⟩
          simp only [List.getElem?_map, Option.map_eq_some_iff] at hx
          obtain ⟨c, hc, rfl⟩ := hx
          rw [Array.getElem?_toList, hu] at hc
          obtain rfl := Option.some.inj hc
          exact constV_sound
        have go : ∀ {place : Nat → Option (Nat × Nat)} {cs : List V}, fillV place (z.cells.toList.map constV) ps = some cs → ∃ us', Instr.fill place z.cells qs.toList = some us' ∧ Cells w X R rv cs us' :=
          fun h => fill_sound ps qs.toList hc0 (by simpa using hl) (fun j p q h1 h2 => hp j p q h1 (by simpa using h2)) h
        split at he
        · rename_i fs hu
          split at he
          · rename_i hall
            split at he
            · rename_i cs hf
              obtain rfl := Option.some.inj he
              obtain ⟨us', g1, g2⟩ := go hf
              refine ⟨.agg us', fun w' _ => run_build w' t qs us' ?_, repE_agg g2⟩
              unfold Program.built
              have hall' : ∀ f ∈ fs.toList, P.cellsOf f.type ≠ 0 := fun f hf => by
                have := List.all_eq_true.1 hall f hf
                simpa using this
              simp only [hit, hu, hzz, places_map fs.toList hall']
              have e : (fun x : Nat => (fs.toList.map fun f : Field => (f.offset, P.cellsOf f.type)).toArray[x]?) = fun i => match fs[i]? with | some f => some (f.offset, P.cellsOf f.type) | none => none := by
                funext i
                simp only [List.getElem?_toArray, List.getElem?_map, Array.getElem?_toList]
                cases fs[i]? <;> rfl
              rw [e]; exact g1
            · simp at he
          · simp at he
        · rename_i n e hu
          split at he
          · simp at he
          · rename_i hne
            split at he
            · rename_i cs hf
              obtain rfl := Option.some.inj he
              obtain ⟨us', g1, g2⟩ := go hf
              refine ⟨.agg us', fun w' _ => run_build w' t qs us' ?_, repE_agg g2⟩
              obtain ⟨ie, hie⟩ := info_of_cells hne
              have hs : P.cellsOf e = ie.size := by simp [Program.cellsOf, hie]
              unfold Program.built
              simp only [hit, hu, hzz, hie]
              rw [hs] at g1; exact g1
            · simp at he
        · simp at he
      · simp at hz
    · simp at hz
  · simp at he

theorem minMax_sound {mx : Bool} : ∀ (n : Nat) {xs : List V} {us : List Value} {y : V}, xs.length = n → us.length = xs.length → (∀ (j : Nat) (x : V) (u : Value), xs[j]? = some x → us[j]? = some u → RepE w X R rv x u) → minMax mx xs = some y →
    ∃ u, (∀ w', Ext w w' → (match us with | [] => stuck "" | x :: rest => rest.foldlM (if mx then Builtin.max2 else Builtin.min2) x : Sem Value).run P w' = .ok u w') ∧ RepE w X R rv y u := by
  intro n
  induction n with
  | zero => intro xs us y hn hl hx he; obtain rfl := List.eq_nil_of_length_eq_zero hn; unfold minMax at he; simp at he
  | succ n ih =>
    intro xs us y hn hl hx he
    unfold minMax at he
    split at he
    · rename_i k x
      obtain rfl := Option.some.inj he
      obtain ⟨u, rfl⟩ : ∃ u, us = [u] := by
        cases us with
        | nil => simp at hl
        | cons u us => cases us with
          | nil => exact ⟨u, rfl⟩
          | cons _ _ => simp at hl
      have := hx 0 _ u rfl rfl
      exact ⟨u, fun _ _ => by simp, this⟩
    · rename_i k x k' z l
      obtain ⟨u, u', us', rfl⟩ : ∃ u u' us', us = u :: u' :: us' := by
        cases us with
        | nil => simp at hl
        | cons u us => cases us with
          | nil => simp at hl
          | cons u' us' => exact ⟨u, u', us', rfl⟩
      have h0 := hx 0 _ u rfl rfl
      have h1 := hx 1 _ u' rfl rfl
      simp only [RepE] at h0 h1
      obtain rfl := repV_int h0
      obtain rfl := repV_int h1
      obtain ⟨v, hv, hr⟩ := ih (us := Value.int k (if mx = true then if x < z then z else x else if z < x then z else x) :: us') (by simpa using hn) (by simpa using hl) (fun j a b ha hb => by
        cases j with
        | zero => simp at ha hb; subst ha; subst hb; exact mk_int _ _
        | succ j => exact hx (j + 2) a b (by simpa using ha) (by simpa using hb)) he
      refine ⟨v, ?_, hr⟩
      intro w' hw
      replace hv := hv w' hw
      simp only [List.foldlM_cons, Sem.run_bind] at hv ⊢
      cases mx with
      | true => simpa [Builtin.max2] using hv
      | false => simpa [Builtin.min2] using hv
    · simp at he

theorem mergeV_sound {t : Bool} {a b : V} {u v : Value} (ha : t = true → RepE w X R rv a u) (hb : t = false → RepE w X R rv b v) : RepE w X R rv (mergeV t a b) (if t then u else v) := by
  cases t with
  | true =>
    have := ha rfl
    unfold mergeV
    split
    · simpa using this
    · split
      · simpa using this
      · simpa using this
    · simpa using this
  | false =>
    have := hb rfl
    unfold mergeV
    split
    · simpa using this
    · split
      · rename_i hk; subst hk; simpa using this
      · simpa using this
    · simpa using this
end
end Go.Proofs.Ytgnohnlpicmnaaa.Vm
set_option linter.unusedSimpArgs false
set_option linter.unusedVariables false
namespace Go.Proofs.Ytgnohnlpicmnaaa.Vm
open Go
section
variable {P : Program} {w0 : World} {L X0 : Nat → Prop} {w : World} {tm : Array Value} {fr : Fr} {rv : Nat → Value} {fp : Nat → Nat → Prop} {X : Nat → Prop} {R : List (Nat × D)}

theorem map_get {ρ : Operand → V} {σ : Operand → Value} (hρ : ∀ x, RepE w X R rv (ρ x) (σ x)) (l : List Operand) :
    ∀ (i : Nat) (x : V) (u : Value), (l.map ρ)[i]? = some x → (l.map σ)[i]? = some u → RepE w X R rv x u := by
  intro i x u hx hu
  simp only [List.getElem?_map, Option.map_eq_some_iff] at hx hu
  obtain ⟨a, ha, rfl⟩ := hx
  obtain ⟨b, hb, rfl⟩ := hu
  rw [ha] at hb
  obtain rfl := Option.some.inj hb
  exact hρ a

theorem evq_sound (h : FR w0 L X0 w tm fr rv fp) {o : Oper} {ρ : Operand → V} {σ : Operand → Value} {y : V} (hρ : ∀ x, RepE w (XX X0 fr.roots fp) fr.roots rv (ρ x) (σ x)) (he : evq P fr.roots o.op ρ = some y) :
    ∃ u, (∀ w', Ext w w' → (execOp σ o).run P w' = .ok (.value u) w') ∧ RepE w (XX X0 fr.roots fp) fr.roots rv y u := by
  have lift : ∀ {s : Sem Value}, (∃ u, (∀ w', Ext w w' → s.run P w' = .ok u w') ∧ RepE w (XX X0 fr.roots fp) fr.roots rv y u) → ∃ u, (∀ w', Ext w w' → (do pure (.value (← s)) : Sem Next).run P w' = .ok (.value u) w') ∧ RepE w (XX X0 fr.roots fp) fr.roots rv y u := by
    rintro s ⟨u, hu, hr⟩
    exact ⟨u, fun w' hw => by simp [hu w' hw], hr⟩
  obtain ⟨dst, op, type, pos, after, guard⟩ := o
  cases op with
  | move x =>
    obtain rfl : ρ x = y := by simpa [evq] using he
    exact ⟨σ x, fun _ _ => rfl, hρ x⟩
  | assign x =>
    obtain rfl : ρ x = y := by simpa [evq] using he
    exact ⟨σ x, fun _ _ => rfl, hρ x⟩
  | load t x => exact lift (loadV_sound h (hρ x) he)
  | fieldAddr t x f => exact lift (fieldAddrV_sound (hρ x) he)
  | field t x f => exact lift (field_sound (hρ x) he)
  | nilCheck x =>
    simp only [evq] at he
    have hx := hρ x
    split at he
    · rename_i r p k hv
      obtain rfl := Option.some.inj he
      rw [hv] at hx
      refine ⟨σ x, ?_, hx⟩
      intro w' _
      simp only [RepE] at hx
      obtain ⟨d, g, j, _, _, _, hs⟩ := hx
      simp [execOp, hs]
    · rename_i cs hv
      obtain rfl := Option.some.inj he
      rw [hv] at hx
      refine ⟨σ x, ?_, hx⟩
      intro w' _
      simp only [RepE, RepV] at hx
      obtain ⟨A, hs, _⟩ := hx
      simp [execOp, hs]
    · simp at he
  | extract x i => exact lift (extract_sound (hρ x) he)
  | indexAddr t x i => exact lift (indexAddrV_sound h (hρ x) (hρ i) he)
  | index t x i => exact lift (indexV_sound (hρ x) (hρ i) he)
  | slice t x lo hi mx =>
    cases mx with
    | some m => simp [evq] at he
    | none =>
      exact lift (sliceV_sound h (hρ x) (hv := hi.map σ) (lv := lo.map σ)
        (fun z hz => by obtain ⟨a, rfl, rfl⟩ := Option.map_eq_some_iff.1 hz; exact ⟨σ a, rfl, hρ a⟩) (fun hz => by simpa using hz)
        (fun z hz => by obtain ⟨a, rfl, rfl⟩ := Option.map_eq_some_iff.1 hz; exact ⟨σ a, rfl, hρ a⟩) (fun hz => by simpa using hz) he)
  | binOp b t x z tz => exact lift (binV_sound h x z (hρ x) (hρ z) he)
  | unOp b t x => exact lift (unV_sound (hρ x) he)
  | convert s d x => exact lift (convV_sound h (hρ x) he)
  | build t parts =>
    have he' : buildV P t (parts.toList.map fun q => (q.1, ρ q.2)) = some y := he
    refine lift (buildV_sound (ps := parts.toList.map fun q => (q.1, ρ q.2)) (by simp) (fun j p q hp hq => ?_) he')
    simp only [List.getElem?_map, Option.map_eq_some_iff] at hp
    obtain ⟨a, ha, rfl⟩ := hp
    simp only [Array.getElem?_map, Option.map_eq_some_iff] at hq
    obtain ⟨b, hb, rfl⟩ := hq
    rw [Array.getElem?_toList, hb] at ha
    obtain rfl := Option.some.inj ha
    exact ⟨rfl, hρ _⟩
  | makeFunc fn first cap =>
    cases fn with
    | func f =>
      simp only [evq] at he
      split at he
      · rename_i hf
        subst hf
        obtain rfl := Option.some.inj he
        refine ⟨_, fun _ _ => rfl, ?_⟩
        simp only [RepE]
        refine ⟨cap.map σ, by simp, by simp, ?_⟩
        rw [repEs_iff]
        exact ⟨by simp, by simpa using map_get hρ cap.toList⟩
      · simp at he
    | _ => simp [evq] at he
  | call c =>
    obtain ⟨callee, args, argTypes⟩ := c
    simp only [evq] at he
    cases callee with
    | builtin b =>
      cases b <;> simp only at he <;> try (simp at he; done)
      case len =>
        split at he
        · rename_i x t hx ht
          obtain ⟨a, ha⟩ : ∃ a, args.toList = [a] := by
            cases hl : args.toList with
            | nil => simp [hl] at hx
            | cons a l => cases l with
              | nil => exact ⟨a, rfl⟩
              | cons _ _ => simp [hl] at hx
          have hargs : args = #[a] := by simpa using congrArg List.toArray ha
          have htys : argTypes = #[t] := by simpa using congrArg List.toArray ht
          subst hargs htys
          obtain rfl : ρ a = x := by simpa using hx
          have ha' := hρ a
          refine lift ?_
          split at he
          · rename_i e hu
            split at he
            · rename_i n hn
              obtain rfl := Option.some.inj he
              obtain ⟨A, c, hv⟩ := lenV_sound h ha' hn
              exact ⟨_, fun _ _ => by simp [Builtin.len_, run_underlying hu, hv, goInt], mk_int _ _⟩
            · simp at he
          · rename_i hu
            split at he
            · rename_i s hs
              obtain rfl := Option.some.inj he
              rw [hs] at ha'
              simp only [RepE] at ha'
              exact ⟨_, fun _ _ => by simp [Builtin.len_, run_underlying hu, repV_str ha', goInt], mk_int _ _⟩
            · simp at he
          · rename_i n e hu
            obtain rfl := Option.some.inj he
            exact ⟨_, fun _ _ => by simp [Builtin.len_, run_underlying hu, goInt], mk_int _ _⟩
          · simp at he
        · simp at he
      case max =>
        obtain ⟨u, hu, hr⟩ := minMax_sound (P := P) (w := w) (mx := true) _ rfl (us := args.toList.map σ) (by simp) (map_get hρ args.toList) he
        refine lift ⟨u, ?_, hr⟩
        intro w' hw
        replace hu := hu w' hw
        unfold Builtin.max_
        simp only [Array.toList_map]
        cases hl : args.toList with
        | nil => rw [hl] at he; simp [minMax] at he
        | cons a l => rw [hl] at hu; simpa using hu
      case min =>
        obtain ⟨u, hu, hr⟩ := minMax_sound (P := P) (w := w) (mx := false) _ rfl (us := args.toList.map σ) (by simp) (map_get hρ args.toList) he
        refine lift ⟨u, ?_, hr⟩
        intro w' hw
        replace hu := hu w' hw
        unfold Builtin.min_
        simp only [Array.toList_map]
        cases hl : args.toList with
        | nil => rw [hl] at he; simp [minMax] at he
        | cons a l => rw [hl] at hu; simpa using hu
    | _ => simp at he
  | _ => simp [evq] at he
end
end Go.Proofs.Ytgnohnlpicmnaaa.Vm
set_option linter.unusedSimpArgs false
set_option linter.unusedVariables false
namespace Go.Proofs.Ytgnohnlpicmnaaa.Vm
open Go

mutual
/-- The places that a value leads to. -/
def leaves : V → List V
  | .val _ => []
  | .dead => []
  | .agg vs => leavesL vs
  | .tup vs => leavesL vs
  | .fn _ vs => leavesL vs
  | .guard _ x => leaves x
  | .ref r p o => [.ref r p o]
  | .win r p o sz lo n => [.win r p o sz lo n]
  | .addr r p o => [.addr r p o]
def leavesL : List V → List V
  | [] => []
  | x :: xs => leaves x ++ leavesL xs
end

mutual
theorem RepE.move {w w' : World} {X X' : Nat → Prop} {R R' : List (Nat × D)} {rv rv' : Nat → Value} (hs : Stay w w' X X' E) :
    ∀ (x : V) {v : Value}, (∀ y ∈ leaves x, ∀ u, RepE w X R rv y u → RepE w' X' R' rv' y u) → RepE w X R rv x v → RepE w' X' R' rv' x v
  | .val d, v, _, h => by simp only [RepE] at h ⊢; exact RepV.stay d hs h
  | .dead, v, _, h => by simp only [RepE]
  | .ref r p o, v, hl, h => hl _ (by simp [leaves]) v h
  | .win r p o sz lo n, v, hl, h => hl _ (by simp [leaves]) v h
  | .addr r p o, v, hl, h => hl _ (by simp [leaves]) v h
  | .agg vs, v, hl, h => by
    simp only [RepE] at h ⊢
    obtain ⟨us, h1, h2, h3⟩ := h
    exact ⟨us, h1, h2, RepEs.move hs vs (fun y hy => hl y (by simpa only [leaves] using hy)) h3⟩
  | .tup vs, v, hl, h => by
    simp only [RepE] at h ⊢
    obtain ⟨us, h1, h2, h3⟩ := h
    exact ⟨us, h1, h2, RepEs.move hs vs (fun y hy => hl y (by simpa only [leaves] using hy)) h3⟩
  | .fn f vs, v, hl, h => by
    simp only [RepE] at h ⊢
    obtain ⟨us, h1, h2, h3⟩ := h
    exact ⟨us, h1, h2, RepEs.move hs vs (fun y hy => hl y (by simpa only [leaves] using hy)) h3⟩
  | .guard b x, v, hl, h => by
    simp only [RepE] at h ⊢
    exact ⟨fun hb => RepE.move hs x (fun y hy => hl y (by simpa only [leaves] using hy)) (h.1 hb), h.2⟩
theorem RepEs.move {w w' : World} {X X' : Nat → Prop} {R R' : List (Nat × D)} {rv rv' : Nat → Value} (hs : Stay w w' X X' E) :
    ∀ (xs : List V) {us : List Value}, (∀ y ∈ leavesL xs, ∀ u, RepE w X R rv y u → RepE w' X' R' rv' y u) → RepEs w X R rv xs us → RepEs w' X' R' rv' xs us
  | [], us, _, h => by simpa only [RepEs] using h
  | x :: xs, us, hl, h => by
    simp only [RepEs] at h ⊢
    obtain ⟨u, us', h1, h2, h3⟩ := h
    exact ⟨u, us', h1, RepE.move hs x (fun y hy => hl y (by simp only [leavesL]; exact List.mem_append_left _ hy)) h2, RepEs.move hs xs (fun y hy => hl y (by simp only [leavesL]; exact List.mem_append_right _ hy)) h3⟩
end

theorem nav_same {w w' : World} {X : Nat → Prop} : ∀ (p : List Nat) {d : D} {v : Value} {F : Nat → Prop} {row : List D} {bk : Bk}, RepV w X d v F → (∀ b, F b → X b) → (∀ b, F b → w'.heap[b]? = w.heap[b]?) →
    d.rowAt p = some row → nav w v p = some bk → nav w' v p = some bk ∧ ∀ o, o < row.length → cvB w' bk o = cvB w bk o
  | [], d, v, F, row, bk, h, hX, hs, hr, hn => by
    refine ⟨by simpa [nav] using hn, fun o ho => ?_⟩
    have hr' : d.row = some row := by simpa [D.rowAt] using hr
    obtain ⟨bk1, u, Fe, q1, q2, q3, q4, q5, _⟩ := one_level h hr' (List.getElem?_eq_getElem ho) hX
    have : rowB v = some bk := by simpa [nav] using hn
    rw [this] at q1
    obtain rfl := Option.some.inj q1
    cases bk with
    | vals vs => rfl
    | mem g k => simp only [cvB, memCv_same (hs g (q5 g k rfl).1)]
  | i :: p, d, v, F, row, bk, h, hX, hs, hr, hn => by
    cases hd : d.row with
    | none => simp [D.rowAt, hd] at hr
    | some cs =>
      cases hc : cs[i]? with
      | none => simp [D.rowAt, hd, hc] at hr
      | some e1 =>
        have hsl : e1.rowAt p = some row := by
          cases e1 with
          | sl own sz n ds =>
            cases own with
            | true => simpa only [D.rowAt, hd, hc] using hr
            | false => simp [D.rowAt, hd, hc] at hr
          | _ => simp [D.rowAt, hd, hc] at hr
        obtain ⟨bk1, u, Fe, q1, q2, q3, q4, q5, _⟩ := one_level h hd hc hX
        simp only [nav, q1, q2] at hn ⊢
        have : cvB w' bk1 i = some u := by
          cases bk1 with
          | vals vs => exact q2
          | mem g k => simp only [cvB, memCv_same (hs g (q5 g k rfl).1)]; exact q2
        simp only [this]
        exact nav_same p q3 (fun b hb => hX b (q4 b hb)) (fun b hb => hs b (q4 b hb)) hsl hn

/-- The world has turned in Z and in new blocks alone. -/
structure Chg (w w' : World) (Z : Nat → Prop) : Prop where
  os : w'.os = w.os
  tape : w'.tape = w.tape
  output : w'.output = w.output
  size : w.heap.size ≤ w'.heap.size
  keep : ∀ b, b < w.heap.size → ¬ Z b → w'.heap[b]? = w.heap[b]?

theorem Chg.refl (w : World) (Z : Nat → Prop) : Chg w w Z := ⟨rfl, rfl, rfl, Nat.le_refl _, fun _ _ _ => rfl⟩
theorem Chg.trans {w w1 w2 : World} {Z : Nat → Prop} (h : Chg w w1 Z) (k : Chg w1 w2 (fun b => Z b ∨ (w.heap.size ≤ b))) : Chg w w2 Z :=
  ⟨k.os.trans h.os, k.tape.trans h.tape, k.output.trans h.output, Nat.le_trans h.size k.size, fun b hb hz =>
    (k.keep b (Nat.lt_of_lt_of_le hb h.size) (fun hz' => hz'.elim hz (by omega))).trans (h.keep b hb hz)⟩
theorem Chg.mono {w w' : World} {Z Z' : Nat → Prop} (h : Chg w w' Z) (hz : ∀ b, Z b → Z' b) : Chg w w' Z' := ⟨h.os, h.tape, h.output, h.size, fun b hb hn => h.keep b hb fun hz' => hn (hz b hz')⟩

/-- A leaf lives on where its root is as it was. -/
theorem leaf_same {w w' : World} {X X' : Nat → Prop} {R R' : List (Nat × D)} {rv rv' : Nat → Value} {F : Nat → Prop} {r : Nat} {d : D}
    (hd : look r R = some d) (hd' : look r R' = some d) (hv : rv' r = rv r) (h : RepV w X d (rv r) F) (hX : ∀ b, F b → X b) (hs : ∀ b, F b → w'.heap[b]? = w.heap[b]?) :
    (∀ p o u, RepE w X R rv (.ref r p o) u → RepE w' X' R' rv' (.ref r p o) u) ∧ (∀ p o sz lo n u, RepE w X R rv (.win r p o sz lo n) u → RepE w' X' R' rv' (.win r p o sz lo n) u) ∧
    (∀ p o u, RepE w X R rv (.addr r p o) u → RepE w' X' R' rv' (.addr r p o) u) := by
  refine ⟨fun p o u hu => ?_, fun p o sz lo n u hu => ?_, fun p o u hu => ?_⟩
  · simp only [RepE] at hu ⊢
    obtain ⟨d', row, bk, a1, a2, a3, a4, a5, a6⟩ := hu
    rw [hd] at a1; obtain rfl := Option.some.inj a1
    obtain ⟨n1, n2⟩ := nav_same p h hX hs a2 a4
    exact ⟨d, row, bk, hd', a2, a3, by rw [hv]; exact n1, by rw [n2 o a3]; exact a5, a6⟩
  · simp only [RepE] at hu ⊢
    obtain ⟨d', row, bk, A, N, c, A', c', a1, a2, a3, a4, a5, a6⟩ := hu
    rw [hd] at a1; obtain rfl := Option.some.inj a1
    obtain ⟨n1, n2⟩ := nav_same p h hX hs a2 a4
    exact ⟨d, row, bk, A, N, c, A', c', hd', a2, a3, by rw [hv]; exact n1, by rw [n2 o a3]; exact a5, a6⟩
  · simp only [RepE] at hu ⊢
    obtain ⟨d', g, k, a1, a2, a3, a4⟩ := hu
    rw [hd] at a1; obtain rfl := Option.some.inj a1
    refine ⟨d, g, k, hd', ⟨fun hp => by rw [hv]; exact a2.1 hp, a2.2⟩, ?_, a4⟩
    rw [hv]
    rcases a2.2 with rfl | ⟨row, a2⟩
    · simpa [nav] using a3
    · exact (nav_same p h hX hs a2 a3).1

section
variable {P : Program} {w0 : World} {L X0 X1 : Nat → Prop} {w w' : World} {tm : Array Value} {fr : Fr} {rv : Nat → Value} {fp : Nat → Nat → Prop}

theorem FR.fp_lt (h : FR w0 L X0 w tm fr rv fp) {r : Nat} {d : D} (hd : look r fr.roots = some d) {b : Nat} (hb : fp r b) : b < w.heap.size := RepV.old d (h.root r d hd) b hb
theorem FR.fp_X (h : FR w0 L X0 w tm fr rv fp) {r : Nat} {d : D} (hd : look r fr.roots = some d) {b : Nat} (hb : fp r b) : XX X0 fr.roots fp b := .inr ⟨r, d, hd, hb⟩
theorem FR.XX_lt (h : FR w0 L X0 w tm fr rv fp) {b : Nat} (hb : XX X0 fr.roots fp b) : b < w.heap.size := by
  rcases hb with hb | ⟨r, d, hd, hb⟩
  · exact h.x0 b hb
  · exact h.fp_lt hd hb

def IsLeaf (y : V) : Prop := (∃ r p o, y = .ref r p o) ∨ (∃ r p o sz lo n, y = .win r p o sz lo n) ∨ ∃ r p o, y = .addr r p o

mutual
theorem leaf_root {y : V} : ∀ (x : V), y ∈ leaves x → IsLeaf y
  | .val d, hy => by simp [leaves] at hy
  | .dead, hy => by simp [leaves] at hy
  | .ref r p o, hy => by simp [leaves] at hy; exact .inl ⟨r, p, o, hy⟩
  | .win r p o sz lo n, hy => by simp [leaves] at hy; exact .inr (.inl ⟨r, p, o, sz, lo, n, hy⟩)
  | .addr r p o, hy => by simp [leaves] at hy; exact .inr (.inr ⟨r, p, o, hy⟩)
  | .agg vs, hy => leafL_root vs (by simpa only [leaves] using hy)
  | .tup vs, hy => leafL_root vs (by simpa only [leaves] using hy)
  | .fn f vs, hy => leafL_root vs (by simpa only [leaves] using hy)
  | .guard b x, hy => leaf_root x (by simpa only [leaves] using hy)
theorem leafL_root {y : V} : ∀ (xs : List V), y ∈ leavesL xs → IsLeaf y
  | [], hy => by simp [leavesL] at hy
  | x :: xs, hy => by
    simp only [leavesL, List.mem_append] at hy
    exact hy.elim (leaf_root x) (leafL_root xs)
end

def leafRoot : V → Nat
  | .ref r _ _ => r
  | .win r _ _ _ _ _ => r
  | .addr r _ _ => r
  | _ => 0

/-- One leaf, its root as it was. -/
theorem leaf_keep (h : FR w0 L X0 w tm fr rv fp) {X' : Nat → Prop} {R' : List (Nat × D)} {rv' : Nat → Value} {y : V} (hy : IsLeaf y) (hr : look (leafRoot y) R' = look (leafRoot y) fr.roots) (hv : rv' (leafRoot y) = rv (leafRoot y))
    (hs : ∀ d b, look (leafRoot y) fr.roots = some d → fp (leafRoot y) b → w'.heap[b]? = w.heap[b]?) :
    ∀ u, RepE w (XX X0 fr.roots fp) fr.roots rv y u → RepE w' X' R' rv' y u := by
  intro u hu
  rcases hy with ⟨r, p, o, rfl⟩ | ⟨r, p, o, sz, lo, n, rfl⟩ | ⟨r, p, o, rfl⟩ <;> simp only [leafRoot] at hr hv hs
  · have hu' := hu
    simp only [RepE] at hu'
    obtain ⟨d, row, bk, a1, _⟩ := hu'
    exact (leaf_same a1 (hr.trans a1) hv (h.root r d a1) (fun b hb => h.fp_X a1 hb) (fun b hb => hs d b a1 hb)).1 p o u hu
  · have hu' := hu
    simp only [RepE] at hu'
    obtain ⟨d, row, bk, A, N, c, A', c', a1, _⟩ := hu'
    exact (leaf_same a1 (hr.trans a1) hv (h.root r d a1) (fun b hb => h.fp_X a1 hb) (fun b hb => hs d b a1 hb)).2.1 p o sz lo n u hu
  · have hu' := hu
    simp only [RepE] at hu'
    obtain ⟨d, g, k, a1, _⟩ := hu'
    exact (leaf_same a1 (hr.trans a1) hv (h.root r d a1) (fun b hb => h.fp_X a1 hb) (fun b hb => hs d b a1 hb)).2.2 p o u hu

/-- The excluded ones behind a turn of the world: the new blocks are kept off, too. -/
def Off (X0 : Nat → Prop) (w w' : World) : Nat → Prop := fun b => X0 b ∨ (w.heap.size ≤ b ∧ b < w'.heap.size)

theorem FR.stayE (h : FR w0 L X0 w tm fr rv fp) {Z : Nat → Prop} (hc : Chg w w' Z) (hZ : ∀ b, Z b → X0 b) : Stay w w' (XX X0 fr.roots fp) (XX (Off X0 w w') fr.roots fp) E := by
  refine ⟨fun b hb hx => hc.keep b hb fun hz => ?_, fun b hb hx => ?_⟩
  · rcases hx with hx | hx
    · exact hx
    · exact hx (.inl (hZ b hz))
  · rcases hx with (hx | hx) | hx
    · exact .inl hx
    · omega
    · exact .inr hx

/-- What lies outside the frame turns: the frame lives on. -/
theorem FR.chg (h : FR w0 L X0 w tm fr rv fp) {Z : Nat → Prop} (hc : Chg w w' Z) (hZ : ∀ b, Z b → X0 b) (hL : ∀ b, Z b → L b ∨ w0.heap.size ≤ b) :
    FR w0 L (Off X0 w w') w' tm fr rv fp ∧ ∀ x v, RepE w (XX X0 fr.roots fp) fr.roots rv x v → RepE w' (XX (Off X0 w w') fr.roots fp) fr.roots rv x v := by
  have hfp : ∀ r d b, look r fr.roots = some d → fp r b → w'.heap[b]? = w.heap[b]? := fun r d b hd hb => hc.keep b (h.fp_lt hd hb) fun hz => h.out r d b hd hb (hZ b hz)
  have tr : ∀ x v, RepE w (XX X0 fr.roots fp) fr.roots rv x v → RepE w' (XX (Off X0 w w') fr.roots fp) fr.roots rv x v := fun x v hx =>
    RepE.move (h.stayE hc hZ) x (fun y hy => leaf_keep h (leaf_root x hy) rfl rfl (fun d b hd hb => hfp _ d b hd hb)) hx
  refine ⟨⟨hc.os.trans h.os, hc.tape.trans h.tape, hc.output.trans h.output, Nat.le_trans h.size hc.size, ?_, ?_, ?_, h.sep, h.new, ?_, fun t x hx => tr x _ (h.env t x hx), h.nt⟩, tr⟩
  · rintro b (hb | hb)
    · exact Nat.lt_of_lt_of_le (h.x0 b hb) hc.size
    · exact hb.2
  · intro b hb hl
    rw [hc.keep b (Nat.lt_of_lt_of_le hb h.size) (fun hz => (hL b hz).elim hl (by omega))]
    exact h.keep b hb hl
  · intro r d hd
    refine RepV.stay d ⟨fun b hb hx => ?_, (h.stayE hc hZ).2⟩ (h.root r d hd)
    rcases hx with hx | hx
    · exact hfp r d b hd hx
    · exact (h.stayE hc hZ).1 b hb (.inr hx)
  · rintro r d b hd hb (hx | hx)
    · exact h.out r d b hd hb hx
    · exact absurd (h.fp_lt hd hb) (by omega)

/-- Fewer are excluded from outside. -/
theorem FR.less (h : FR w0 L X1 w tm fr rv fp) (hs : ∀ b, X0 b → X1 b) :
    FR w0 L X0 w tm fr rv fp ∧ ∀ x v, RepE w (XX X1 fr.roots fp) fr.roots rv x v → RepE w (XX X0 fr.roots fp) fr.roots rv x v := by
  have hX : ∀ b, XX X0 fr.roots fp b → XX X1 fr.roots fp b := fun b hb => hb.imp (hs b) id
  have tr : ∀ x v, RepE w (XX X1 fr.roots fp) fr.roots rv x v → RepE w (XX X0 fr.roots fp) fr.roots rv x v := fun x v hx =>
    RepE.move ⟨fun _ _ _ => rfl, fun b _ hb => hX b hb⟩ x (fun y hy => leaf_keep h (leaf_root x hy) rfl rfl (fun _ _ _ _ => rfl)) hx
  exact ⟨⟨h.os, h.tape, h.output, h.size, fun b hb => h.x0 b (hs b hb), h.keep, fun r d hd => RepV.stay d ⟨fun _ _ _ => rfl, fun b _ hb => hX b hb⟩ (h.root r d hd), h.sep, h.new,
    fun r d b hd hb hx => h.out r d b hd hb (hs b hx), fun t x hx => tr x _ (h.env t x hx), h.nt⟩, tr⟩
end
end Go.Proofs.Ytgnohnlpicmnaaa.Vm
set_option linter.unusedSimpArgs false
set_option linter.unusedVariables false
namespace Go.Proofs.Ytgnohnlpicmnaaa.Vm
open Go

def updR (r : Nat) (d : D) : List (Nat × D) → List (Nat × D)
  | [] => []
  | (s, x) :: l => if s = r then (s, d) :: l else (s, x) :: updR r d l

theorem look_updR {r : Nat} {d d0 : D} : ∀ {R : List (Nat × D)}, look r R = some d0 → look r (updR r d R) = some d
  | [], h => by simp [look] at h
  | (s, x) :: l, h => by
    simp only [look] at h
    by_cases hs : s = r
    · simp [updR, hs, look]
    · simp only [updR, if_neg hs, look]; rw [if_neg hs] at h; exact look_updR h
theorem look_updR_ne {r s : Nat} {d : D} (hne : s ≠ r) : ∀ {R : List (Nat × D)}, look s (updR r d R) = look s R
  | [] => rfl
  | (q, x) :: l => by
    simp only [updR]
    by_cases hq : q = r
    · rw [if_pos hq]; simp only [look]; rw [if_neg (by rintro rfl; exact hne hq), if_neg (by rintro rfl; exact hne hq)]
    · rw [if_neg hq]; simp only [look, look_updR_ne hne]

/-- Leaves that a change inside root r, at path p, may leave without sense. -/
def badT (r : Nat) (p : List Nat) : V → Bool
  | .ref r' p' _ => r' == r && !(p' == p || p' == [])
  | .win r' p' _ _ _ _ => r' == r && !(p' == p || p' == [])
  | .addr r' p' _ => r' == r && !(p' == p || p' == [])
  | _ => false
/-- The same where the cell itself is written. -/
def badS (r : Nat) (p : List Nat) (o : Nat) : V → Bool
  | .ref r' p' o' => r' == r && (!(p' == p || p' == []) || (p' == p && o' == o))
  | .win r' p' o' _ _ _ => r' == r && (!(p' == p || p' == []) || (p' == p && o' == o))
  | .addr r' p' _ => r' == r && !(p' == p || p' == [])
  | _ => false
def killV (q : V → Bool) (x : V) : V := if (leaves x).any q = true then .dead else x
def killE (q : V → Bool) (env : List (Nat × V)) : List (Nat × V) := env.map fun e => (e.1, killV q e.2)

theorem look_killE {q : V → Bool} {t : Nat} {x : V} : ∀ {env : List (Nat × V)}, look t (killE q env) = some x → ∃ y, look t env = some y ∧ x = killV q y
  | [], h => by simp [killE, look] at h
  | (s, y) :: l, h => by
    simp only [killE, List.map_cons, look] at h
    by_cases hs : s = t
    · rw [if_pos hs] at h; obtain rfl := Option.some.inj h; exact ⟨y, by simp [look, hs], rfl⟩
    · rw [if_neg hs] at h
      obtain ⟨z, hz, hx⟩ := look_killE (env := l) h
      exact ⟨z, by simp [look, hs, hz], hx⟩

theorem not_any {q : V → Bool} {x : V} (h : ¬ (leaves x).any q = true) : ∀ y ∈ leaves x, q y = false := by
  intro y hy
  cases hq : q y with
  | false => rfl
  | true => exact absurd (List.any_eq_true.2 ⟨y, hy, hq⟩) h

theorem setRow_row {d : D} {cs cs' : List D} (h : d.row = some cs) : (d.setRow cs').row = some cs' := by
  cases d with
  | sl own sz n ds => cases own <;> simp [D.row] at h; rfl
  | ptr own ds => cases own <;> simp [D.row] at h; rfl
  | agg ds => rfl
  | _ => simp [D.row] at h

theorem setRow_sl {sz n : Nat} {ds cs : List D} : (D.sl true sz n ds).setRow cs = .sl true sz n cs := rfl

/-- The row that was changed, and the root's own row, have the length that they had. -/
theorem setAt_rowAt {o : Nat} {x : D} : ∀ {p : List Nat} {d : D} {row : List D}, d.rowAt p = some row → o < row.length → (d.setAt p o x).rowAt p = some (row.set o x)
  | [], d, row, h, ho => by
    have h' : d.row = some row := by simpa [D.rowAt] using h
    simp only [D.setAt, h', D.rowAt]
    exact setRow_row h'
  | i :: p, d, row, h, ho => by
    cases hd : d.row with
    | none => simp [D.rowAt, hd] at h
    | some cs =>
      cases hc : cs[i]? with
      | none => simp [D.rowAt, hd, hc] at h
      | some e1 =>
        have hi : i < cs.length := (List.getElem?_eq_some_iff.1 hc).1
        cases e1 with
        | sl own sz n ds =>
          cases own with
          | true =>
            have hr : (D.sl true sz n ds).rowAt p = some row := by simpa only [D.rowAt, hd, hc] using h
            have ih := setAt_rowAt (x := x) hr ho
            have hs : ∃ ds', (D.sl true sz n ds).setAt p o x = .sl true sz n ds' := by
              cases p with
              | nil => exact ⟨_, rfl⟩
              | cons j p =>
                simp only [D.setAt, D.row]
                split
                · exact ⟨_, rfl⟩
                · exact ⟨_, rfl⟩
            obtain ⟨ds', hs⟩ := hs
            simp only [D.setAt, hd, hc, D.rowAt, setRow_row hd, List.getElem?_set_self hi, hs]
            rw [hs] at ih; exact ih
          | false => simp [D.rowAt, hd, hc] at h
        | _ => simp [D.rowAt, hd, hc] at h

theorem setAt_root {o : Nat} {x : D} {p : List Nat} {d : D} {row cs : List D} (h : d.rowAt p = some row) (hd : d.row = some cs) : ∃ cs', (d.setAt p o x).row = some cs' ∧ cs'.length = cs.length := by
  cases p with
  | nil => simp only [D.setAt, hd]; exact ⟨_, setRow_row hd, by simp⟩
  | cons i p =>
    simp only [D.setAt, hd]
    split
    · exact ⟨_, setRow_row hd, by simp⟩
    · exact ⟨cs, hd, rfl⟩

section
variable {P : Program} {w0 : World} {L X0 X1 : Nat → Prop} {w w' : World} {tm : Array Value} {fr : Fr} {rv : Nat → Value} {fp : Nat → Nat → Prop}

theorem rowAt_some {d : D} {p : List Nat} {row : List D} (h : d.rowAt p = some row) : ∃ cs, d.row = some cs := by
  cases hd : d.row with
  | some cs => exact ⟨cs, rfl⟩
  | none => cases p <;> simp [D.rowAt, hd] at h

/-- A leaf that is not bad lives on in a root whose content has been changed at (p, o). -/
theorem leaf_in {X' : Nat → Prop} {R R' : List (Nat × D)} {X : Nat → Prop} {rv' : Nat → Value} {r o : Nat} {p : List Nat} {d d' : D} {row : List D} {y : V} (hd : look r R = some d) (hd' : look r R' = some d') (hv : rv' r = rv r) (hr : d.rowAt p = some row) (ho : o < row.length)
    (hrow : ∃ row', d'.rowAt p = some row' ∧ row'.length = row.length) (hroot : ∀ cs, d.row = some cs → ∃ cs', d'.row = some cs' ∧ cs'.length = cs.length)
    (hnav : ∀ bk, nav w (rv r) p = some bk → nav w' (rv r) p = some bk) (q : V → Bool)
    (hp : ∀ (p' : List Nat) (o' : Nat) (row1 : List D) (bk : Bk) (u : Value), (p' = p ∨ p' = []) → d.rowAt p' = some row1 → o' < row1.length → nav w (rv r) p' = some bk → cvB w bk o' = some u → q (.ref r p' o') = false → cvB w' bk o' = some u)
    (hqr : ∀ p' o', q (.ref r p' o') = false → p' = p ∨ p' = []) (hqa : ∀ p' o', q (.addr r p' o') = false → p' = p ∨ p' = []) (hqw : ∀ p' o' sz lo n, q (.win r p' o' sz lo n) = false → q (.ref r p' o') = false)
    (hy : IsLeaf y) (hyr : leafRoot y = r) (hq : q y = false) : ∀ u, RepE w X R rv y u → RepE w' X' R' rv' y u := by
  intro u hu
  have rowOf' : ∀ {p' : List Nat} {row1 : List D}, (p' = p ∨ p' = []) → d.rowAt p' = some row1 → ∃ row2, d'.rowAt p' = some row2 ∧ row2.length = row1.length := by
    rintro p' row1 (rfl | rfl) h1
    · rw [hr] at h1; obtain rfl := Option.some.inj h1; exact hrow
    · have h1' : d.row = some row1 := by simpa [D.rowAt] using h1
      obtain ⟨cs', a, b⟩ := hroot row1 h1'
      exact ⟨cs', by simpa [D.rowAt] using a, b⟩
  have navOf : ∀ {p' : List Nat} {bk : Bk}, (p' = p ∨ p' = []) → nav w (rv r) p' = some bk → nav w' (rv r) p' = some bk := by
    rintro p' bk (rfl | rfl) h1
    · exact hnav bk h1
    · simpa [nav] using h1
  rcases hy with ⟨r', p', o', rfl⟩ | ⟨r', p', o', sz, lo, n, rfl⟩ | ⟨r', p', o', rfl⟩ <;> simp only [leafRoot] at hyr <;> subst hyr
  · simp only [RepE] at hu ⊢
    obtain ⟨d1, row1, bk, a1, a2, a3, a4, a5, a6⟩ := hu
    rw [hd] at a1; obtain rfl := Option.some.inj a1
    have hpp := hqr p' o' hq
    obtain ⟨row2, b1, b2⟩ := rowOf' hpp a2
    exact ⟨d', row2, bk, hd', b1, by omega, by rw [hv]; exact navOf hpp a4, hp p' o' row1 bk u hpp a2 a3 a4 a5 hq, a6⟩
  · simp only [RepE] at hu ⊢
    obtain ⟨d1, row1, bk, A, N, c, A', c', a1, a2, a3, a4, a5, a6⟩ := hu
    rw [hd] at a1; obtain rfl := Option.some.inj a1
    have hq' := hqw p' o' sz lo n hq
    have hpp := hqr p' o' hq'
    obtain ⟨row2, b1, b2⟩ := rowOf' hpp a2
    exact ⟨d', row2, bk, A, N, c, A', c', hd', b1, by omega, by rw [hv]; exact navOf hpp a4, hp p' o' row1 bk _ hpp a2 a3 a4 a5 hq', a6⟩
  · simp only [RepE] at hu ⊢
    obtain ⟨d1, g, k, a1, a2, a3, a4⟩ := hu
    rw [hd] at a1; obtain rfl := Option.some.inj a1
    have hpp := hqa p' o' hq
    refine ⟨d', g, k, hd', ⟨fun hp => by rw [hv]; exact a2.1 hp, ?_⟩, by rw [hv]; exact navOf hpp a3, a4⟩
    rcases a2.2 with a2 | ⟨row1, a2⟩
    · exact .inl a2
    · obtain ⟨row2, b1, _⟩ := rowOf' hpp a2
      exact .inr ⟨row2, b1⟩

theorem badT_spec {r : Nat} {p : List Nat} : (∀ p' o', badT r p (.ref r p' o') = false → p' = p ∨ p' = []) ∧ (∀ p' o', badT r p (.addr r p' o') = false → p' = p ∨ p' = []) ∧
    (∀ p' o' sz lo n, badT r p (.win r p' o' sz lo n) = false → badT r p (.ref r p' o') = false) := by
  refine ⟨fun p' o' h => ?_, fun p' o' h => ?_, fun p' o' sz lo n h => h⟩
  · simp only [badT, beq_self_eq_true, Bool.true_and, Bool.not_eq_false', Bool.or_eq_true, beq_iff_eq] at h; exact h
  · simp only [badT, beq_self_eq_true, Bool.true_and, Bool.not_eq_false', Bool.or_eq_true, beq_iff_eq] at h; exact h

/-- The content of one cell is told anew; the world is as it was. -/
theorem FR.replace (h : FR w0 L X0 w tm fr rv fp) {r o : Nat} {p : List Nat} {d e e' : D} {row : List D} (hd : look r fr.roots = some d) (hr : d.rowAt p = some row) (he : row[o]? = some e) {bk : Bk} {u : Value} {Fe Fe' : Nat → Prop}
    (hfo : ∀ X' e' Fe', Stay w w (XX X0 fr.roots fp) X' (fun b => fp r b ∧ ¬ Fe b) → RepV w X' e' u Fe' → (∀ b, Fe' b → fp r b → Fe b) → RepV w X' (d.setAt p o e') (rv r) (Upd (fp r) Fe Fe'))
    (hX1 : ∀ b, X1 b → b < w.heap.size)
    (hsub : ∀ b, X1 b ∨ Fe' b → XX X0 fr.roots fp b)
    (hrep : RepV w (XX X1 (updR r (d.setAt p o e') fr.roots) (fun s b => if s = r then Upd (fp r) Fe Fe' b else fp s b)) e' u Fe')
    (hdis : ∀ s d' b, look s fr.roots = some d' → Fe' b → fp s b → s = r ∧ Fe b)
    (hout : ∀ s d' b, look s fr.roots = some d' → fp s b → ¬ (s = r ∧ Fe b) → ¬ X1 b) (hout' : ∀ b, Fe' b → ¬ X1 b) (hnew : ∀ b, Fe' b → L b ∨ w0.heap.size ≤ b) :
    FR w0 L X1 w tm { fr with roots := updR r (d.setAt p o e') fr.roots, env := killE (badT r p) fr.env } rv (fun s b => if s = r then Upd (fp r) Fe Fe' b else fp s b) ∧
    ∀ x v, (leaves x).any (badT r p) = false → RepE w (XX X0 fr.roots fp) fr.roots rv x v → RepE w (XX X1 (updR r (d.setAt p o e') fr.roots) (fun s b => if s = r then Upd (fp r) Fe Fe' b else fp s b)) (updR r (d.setAt p o e') fr.roots) rv x v := by
  have ho : o < row.length := (List.getElem?_eq_some_iff.1 he).1
  have hXX : ∀ b, XX X1 (updR r (d.setAt p o e') fr.roots) (fun s b => if s = r then Upd (fp r) Fe Fe' b else fp s b) b → XX X0 fr.roots fp b := by
    rintro b (hb | ⟨s, d', hs, hb⟩)
    · exact hsub b (.inl hb)
    · by_cases hsr : s = r
      · subst hsr
        simp only [if_true] at hb
        rcases hb with hb | hb
        · exact .inr ⟨s, d, hd, hb.1⟩
        · exact hsub b (.inr hb)
      · simp only [if_neg hsr] at hb
        rw [look_updR_ne hsr] at hs
        exact .inr ⟨s, d', hs, hb⟩
  have hstay : ∀ F, Stay w w (XX X0 fr.roots fp) (XX X1 (updR r (d.setAt p o e') fr.roots) (fun s b => if s = r then Upd (fp r) Fe Fe' b else fp s b)) F := fun F => ⟨fun _ _ _ => rfl, fun b _ hb => hXX b hb⟩
  have tr : ∀ x v, (leaves x).any (badT r p) = false → RepE w (XX X0 fr.roots fp) fr.roots rv x v → RepE w (XX X1 (updR r (d.setAt p o e') fr.roots) (fun s b => if s = r then Upd (fp r) Fe Fe' b else fp s b)) (updR r (d.setAt p o e') fr.roots) rv x v := by
    intro x v hk hx
    refine RepE.move (hstay _) x (fun y hy u' hu' => ?_) hx
    have hq := not_any (by rw [hk]; simp) y hy
    by_cases hyr : leafRoot y = r
    · exact leaf_in hd (look_updR hd) rfl hr ho ⟨_, setAt_rowAt hr ho, by simp⟩ (fun cs hcs => setAt_root hr hcs) (fun bk hb => hb) (badT r p) (fun _ _ _ _ _ _ _ _ _ h _ => h)
        badT_spec.1 badT_spec.2.1 badT_spec.2.2 (leaf_root x hy) hyr hq u' hu'
    · exact leaf_keep h (leaf_root x hy) (look_updR_ne hyr) rfl (fun _ _ _ _ => rfl) u' hu'
  refine ⟨⟨h.os, h.tape, h.output, h.size, hX1, h.keep, ?_, ?_, ?_, ?_, ?_, h.nt⟩, tr⟩
  · intro s d' hs
    by_cases hsr : s = r
    · subst hsr
      rw [look_updR hd] at hs
      obtain rfl := Option.some.inj hs
      simp only [if_true]
      exact hfo _ e' Fe' (hstay _) hrep (fun b hb hb' => (hdis s d b hd hb hb').2)
    · rw [look_updR_ne hsr] at hs
      simp only [if_neg hsr]
      exact RepV.stay d' (hstay _) (h.root s d' hs)
  · intro s s' d1 d2 b hs hs' hb hb'
    by_cases hsr : s = r <;> by_cases hsr' : s' = r
    · exact hsr.trans hsr'.symm
    · subst hsr
      rw [look_updR_ne hsr'] at hs'
      simp only [if_true, if_neg hsr'] at hb hb'
      rcases hb with hb | hb
      · exact h.sep s s' d d2 b hd hs' hb.1 hb'
      · exact absurd (hdis s' d2 b hs' hb hb').1 hsr'
    · subst hsr'
      rw [look_updR_ne hsr] at hs
      simp only [if_true, if_neg hsr] at hb hb'
      rcases hb' with hb' | hb'
      · exact h.sep s s' d1 d b hs hd hb hb'.1
      · exact absurd (hdis s d1 b hs hb' hb).1 hsr
    · rw [look_updR_ne hsr] at hs
      rw [look_updR_ne hsr'] at hs'
      simp only [if_neg hsr, if_neg hsr'] at hb hb'
      exact h.sep s s' d1 d2 b hs hs' hb hb'
  · intro s d' b hs hb
    by_cases hsr : s = r
    · subst hsr
      simp only [if_true] at hb
      rcases hb with hb | hb
      · exact h.new s d b hd hb.1
      · exact hnew b hb
    · rw [look_updR_ne hsr] at hs
      simp only [if_neg hsr] at hb
      exact h.new s d' b hs hb
  · intro s d' b hs hb
    by_cases hsr : s = r
    · subst hsr
      simp only [if_true] at hb
      rcases hb with hb | hb
      · exact hout s d b hd hb.1 (fun hh => hb.2 hh.2)
      · exact hout' b hb
    · rw [look_updR_ne hsr] at hs
      simp only [if_neg hsr] at hb
      exact hout s d' b hs hb (fun hh => hsr hh.1)
  · intro t x hx
    obtain ⟨y, hy, rfl⟩ := look_killE hx
    unfold killV
    split
    · simp only [RepE]
    · rename_i hk
      exact tr y _ (by simpa using hk) (h.env t y hy)
end
end Go.Proofs.Ytgnohnlpicmnaaa.Vm
set_option linter.unusedSimpArgs false
set_option linter.unusedVariables false
namespace Go.Proofs.Ytgnohnlpicmnaaa.Vm
open Go
section
variable {P : Program} {w0 : World} {L X0 X1 : Nat → Prop} {w w' : World} {tm : Array Value} {fr : Fr} {rv : Nat → Value} {fp : Nat → Nat → Prop}

def setFp (r : Nat) (F : Nat → Prop) (fp : Nat → Nat → Prop) : Nat → Nat → Prop := fun s b => if s = r then F b else fp s b
theorem setFp_self (r : Nat) (F : Nat → Prop) (fp : Nat → Nat → Prop) : setFp r F fp r = F := by funext b; simp [setFp]
theorem setFp_ne {r s : Nat} (h : s ≠ r) (F : Nat → Prop) (fp : Nat → Nat → Prop) : setFp r F fp s = fp s := by funext b; simp [setFp, h]

/-- What a cell owns is taken out; the cell is told as gone. -/
theorem FR.take (h : FR w0 L X0 w tm fr rv fp) {r o : Nat} {p : List Nat} {d e : D} {row : List D} (hd : look r fr.roots = some d) (hr : d.rowAt p = some row) (he : row[o]? = some e) :
    ∃ bk u Fe, nav w (rv r) p = some bk ∧ cvB w bk o = some u ∧ RepV w (XX X0 fr.roots fp) e u Fe ∧ (∀ b, Fe b → ¬ X0 b ∧ (L b ∨ w0.heap.size ≤ b) ∧ b < w.heap.size) ∧
      FR w0 L (fun b => X0 b ∨ Fe b) w tm { fr with roots := updR r (d.setAt p o .gone) fr.roots, env := killE (badT r p) fr.env } rv (setFp r (Upd (fp r) Fe E) fp) ∧
      (∀ x v, (leaves x).any (badT r p) = false → RepE w (XX X0 fr.roots fp) fr.roots rv x v →
        RepE w (XX (fun b => X0 b ∨ Fe b) (updR r (d.setAt p o .gone) fr.roots) (setFp r (Upd (fp r) Fe E) fp)) (updR r (d.setAt p o .gone) fr.roots) rv x v) ∧
      (∀ b, Fe b → fp r b) := by
  obtain ⟨bk, u, Fe, h1, h2, h3, h4, h5, h6, h7, h8⟩ := focus p (h.root r d hd) hr he (fun b hb => h.fp_X hd hb)
  have hFe : ∀ b, Fe b → ¬ X0 b ∧ (L b ∨ w0.heap.size ≤ b) ∧ b < w.heap.size := fun b hb => ⟨h.out r d b hd (h4 b hb), h.new r d b hd (h4 b hb), h.fp_lt hd (h4 b hb)⟩
  obtain ⟨g1, g2⟩ := h.replace (X1 := fun b => X0 b ∨ Fe b) hd hr he (e' := .gone) (Fe' := E) (bk := bk) (u := u) (fun X' e' Fe' a b c => h6 w X' e' Fe' a b c)
    (fun b hb => hb.elim (h.x0 b) (fun hb => (hFe b hb).2.2)) (fun b hb => by
      rcases hb with (hb | hb) | hb
      · exact .inl hb
      · exact h.fp_X hd (h4 b hb)
      · exact hb.elim) (by simp only [RepV]; exact fun b => id) (fun s d' b hs hb => hb.elim)
    (fun s d' b hs hb hn hx => by
      rcases hx with hx | hx
      · exact h.out s d' b hs hb hx
      · exact hn ⟨h.sep s r d' d b hs hd hb (h4 b hx), hx⟩) (fun b hb => hb.elim) (fun b hb => hb.elim)
  exact ⟨bk, u, Fe, h1, h2, h3, hFe, g1, g2, h4⟩

/-- The footprint of what owns nothing. -/
theorem bare_fp {w : World} {X : Nat → Prop} {d : D} {v : Value} {F : Nat → Prop} (h : RepV w X d v F) (hp : d.plain = true ∨ d = .gone) : ∀ b, ¬ F b := by
  intro b hb
  rcases hp with hp | rfl
  · cases d with
    | sl own sz n cs => cases own <;> simp [D.plain] at hp; simp only [RepV] at h; obtain ⟨A, cap, _, _, _, _, _, h6⟩ := h; exact h6 b hb
    | ptr own cs => cases own <;> simp [D.plain] at hp; simp only [RepV] at h; obtain ⟨A, _, _, _, _, h6⟩ := h; exact h6 b hb
    | int k n => simp only [RepV] at h; exact h.2 b hb
    | bool k => simp only [RepV] at h; exact h.2 b hb
    | str k => simp only [RepV] at h; exact h.2 b hb
    | nil => simp only [RepV] at h; exact h.2 b hb
    | fn f cap =>
      cases cap with
      | nil => simp only [RepV] at h; obtain ⟨vs, φ, _, _, _, _, h6⟩ := h; obtain ⟨i, hi, _⟩ := (h6 b).1 hb; simp at hi
      | cons a l => simp [D.plain] at hp
    | _ => simp [D.plain] at hp
  · simp only [RepV] at h; exact h b hb

/-- What was taken out, or what comes in its place under the same head, is put back. -/
theorem FR.back (h : FR w0 L X0 w tm fr rv fp) {r o : Nat} {p : List Nat} {d e e' : D} {row : List D} (hd : look r fr.roots = some d) (hr : d.rowAt p = some row) (he : row[o]? = some e) (hg : e.plain = true ∨ e = .gone)
    {bk : Bk} {u : Value} {Fe' : Nat → Prop} (hn : nav w (rv r) p = some bk) (hu : cvB w bk o = some u) (hX : ∀ b, X1 b → X0 b) (hF : ∀ b, Fe' b → X0 b ∧ ¬ X1 b ∧ (L b ∨ w0.heap.size ≤ b))
    {Xe : Nat → Prop} (hXe : ∀ b, b < w.heap.size → (X1 b ∨ Fe' b ∨ ∃ s d', look s fr.roots = some d' ∧ fp s b) → Xe b) (hrep : RepV w Xe e' u Fe') :
    FR w0 L X1 w tm { fr with roots := updR r (d.setAt p o e') fr.roots, env := killE (badT r p) fr.env } rv (setFp r (Upd (fp r) E Fe') fp) ∧
      (∀ x v, (leaves x).any (badT r p) = false → RepE w (XX X0 fr.roots fp) fr.roots rv x v →
        RepE w (XX X1 (updR r (d.setAt p o e') fr.roots) (setFp r (Upd (fp r) E Fe') fp)) (updR r (d.setAt p o e') fr.roots) rv x v) := by
  obtain ⟨bk', u', Fe, h1, h2, h3, h4, h5, h6, h7, h8⟩ := focus p (h.root r d hd) hr he (fun b hb => h.fp_X hd hb)
  rw [hn] at h1; obtain rfl := Option.some.inj h1
  rw [hu] at h2; obtain rfl := Option.some.inj h2
  have hFe : Fe = E := funext fun b => propext ⟨fun hb => bare_fp h3 hg b hb, fun hb => hb.elim⟩
  subst hFe
  exact h.replace (X1 := X1) hd hr he (e' := e') (Fe' := Fe') (bk := bk) (u := u) (fun X' e' Fe' a b c => h6 w X' e' Fe' a b c) (fun b hb => h.x0 b (hX b hb))
    (fun b hb => hb.elim (fun hb => .inl (hX b hb)) (fun hb => .inl (hF b hb).1))
    (RepV.stay e' ⟨fun _ _ _ => rfl, fun b hb hx => hXe b hb (by
      rcases hx with hx | ⟨s, d', hs, hx⟩
      · exact .inl hx
      · by_cases hsr : s = r
        · subst hsr
          simp only [if_true] at hx
          rcases hx with hx | hx
          · exact .inr (.inr ⟨s, d, hd, hx.1⟩)
          · exact .inr (.inl hx)
        · simp only [if_neg hsr] at hx
          rw [look_updR_ne hsr] at hs
          exact .inr (.inr ⟨s, d', hs, hx⟩))⟩ hrep)
    (fun s d' b hs hb hb' => absurd (hF b hb).1 (h.out s d' b hs hb')) (fun s d' b hs hb hn hx => h.out s d' b hs hb (hX b hx)) (fun b hb => (hF b hb).2.1) (fun b hb => (hF b hb).2.2)

theorem put_setCell {w : World} {g k : Nat} {u : Value} (hcell : (w.cell? ⟨g, k, none⟩).isSome = true) : Put w (w.setCell ⟨g, k, none⟩ u) g k u where
  size := by simp [World.setCell]
  other := fun b hb hne => Go.RowKit.Below.heap_setCell w ⟨g, k, none⟩ u b hne
  own := fun m ⟨c, ty, hc, hm⟩ => by
    refine ⟨c.setIfInBounds k u, ty, ?_, by simpa using hm⟩
    simp [World.setCell, Array.getElem?_modify, hc]
  cell := fun j => by
    unfold World.cell? at hcell ⊢
    cases hc : w.heap[g]? with
    | none => simp [hc] at hcell
    | some o =>
      rw [hc] at hcell
      cases o with
      | cells c ty frz =>
        simp at hcell
        simp only [World.setCell, Array.getElem?_modify, hc]
        by_cases hj : j = k
        · subst hj; simp [hcell]
        · simp [hj, Array.getElem?_setIfInBounds_ne (Ne.symm hj)]
      | _ => simp at hcell

theorem badS_spec {r o : Nat} {p : List Nat} : (∀ p' o', badS r p o (.ref r p' o') = false → (p' = p ∨ p' = []) ∧ ¬ (p' = p ∧ o' = o)) ∧ (∀ p' o', badS r p o (.addr r p' o') = false → p' = p ∨ p' = []) ∧
    (∀ p' o' sz lo n, badS r p o (.win r p' o' sz lo n) = false → badS r p o (.ref r p' o') = false) := by
  refine ⟨fun p' o' h => ?_, fun p' o' h => ?_, fun p' o' sz lo n h => h⟩
  · simp only [badS, beq_self_eq_true, Bool.true_and, Bool.or_eq_false_iff, Bool.not_eq_false', Bool.or_eq_true, beq_iff_eq, Bool.and_eq_false_imp] at h
    exact ⟨h.1, fun hh => by simpa [hh.2] using h.2 hh.1⟩
  · simp only [badS, beq_self_eq_true, Bool.true_and, Bool.not_eq_false', Bool.or_eq_true, beq_iff_eq] at h; exact h

/-- A cell of an owned row of memory is written. -/
theorem FR.write (h : FR w0 L X0 w tm fr rv fp) {r o : Nat} {p : List Nat} {d e e' : D} {row : List D} (hd : look r fr.roots = some d) (hr : d.rowAt p = some row) (he : row[o]? = some e) (hg : e.plain = true ∨ e = .gone)
    {g k : Nat} {u' : Value} {Fe' : Nat → Prop} (hn : nav w (rv r) p = some (.mem g k)) (hX : ∀ b, X1 b → X0 b) (hF : ∀ b, Fe' b → X0 b ∧ ¬ X1 b ∧ (L b ∨ w0.heap.size ≤ b))
    {Xe : Nat → Prop} (hXe : ∀ b, b < w.heap.size → (X1 b ∨ Fe' b ∨ ∃ s d', look s fr.roots = some d' ∧ fp s b) → Xe b) (hrep : RepV w Xe e' u' Fe') :
    (w.cell? ⟨g, k + o, none⟩).isSome = true ∧ w.frozen? ⟨g, k + o, none⟩ = false ∧
    FR w0 L X1 (w.setCell ⟨g, k + o, none⟩ u') tm { fr with roots := updR r (d.setAt p o e') fr.roots, env := killE (badS r p o) fr.env } rv (setFp r (Upd (fp r) E Fe') fp) ∧
      (∀ x v, (leaves x).any (badS r p o) = false → RepE w (XX X0 fr.roots fp) fr.roots rv x v →
        RepE (w.setCell ⟨g, k + o, none⟩ u') (XX X1 (updR r (d.setAt p o e') fr.roots) (setFp r (Upd (fp r) E Fe') fp)) (updR r (d.setAt p o e') fr.roots) rv x v) ∧
      (∀ d0 v0 F0, (∀ b, F0 b → X0 b) → RepV w (XX X0 fr.roots fp) d0 v0 F0 → RepV (w.setCell ⟨g, k + o, none⟩ u') (XX X0 fr.roots fp) d0 v0 F0) ∧
      (∀ b, XX X1 (updR r (d.setAt p o e') fr.roots) (setFp r (Upd (fp r) E Fe') fp) b → XX X0 fr.roots fp b) := by
  have ho : o < row.length := (List.getElem?_eq_some_iff.1 he).1
  obtain ⟨bk', u, Fe, h1, h2, h3, h4, h5, h6, h7, h8⟩ := focus p (h.root r d hd) hr he (fun b hb => h.fp_X hd hb)
  rw [hn] at h1; obtain rfl := Option.some.inj h1
  have hFe : Fe = E := funext fun b => propext ⟨fun hb => bare_fp h3 hg b hb, fun hb => hb.elim⟩
  subst hFe
  obtain ⟨hgF, _, hown⟩ := h5 g k rfl
  have hgX : XX X0 fr.roots fp g := h.fp_X hd hgF
  have hcell : (w.cell? ⟨g, k + o, none⟩).isSome = true := by
    simp only [cvB, memCv] at h2; rw [h2]; rfl
  have hfr : w.frozen? ⟨g, k + o, none⟩ = false := by
    obtain ⟨c, ty, hc, _⟩ := hown
    simp [World.frozen?, hc]
  have hput := put_setCell (u := u') hcell
  have hsz : (w.setCell ⟨g, k + o, none⟩ u').heap.size = w.heap.size := by simp [World.setCell]
  -- whoever keeps off block g is as it was
  have hoff : ∀ (F X : Nat → Prop), (∀ b, F b → b ≠ g) → (∀ b, X b → XX X0 fr.roots fp b) → Stay w (w.setCell ⟨g, k + o, none⟩ u') (XX X0 fr.roots fp) X F := fun F X hF' hX' =>
    ⟨fun b hb hx => hput.other b hb (by rintro rfl; exact hx.elim (fun hx => hF' _ hx rfl) (fun hx => hx hgX)), fun b _ hb => hX' b hb⟩
  have hXX : ∀ b, XX X1 (updR r (d.setAt p o e') fr.roots) (setFp r (Upd (fp r) E Fe') fp) b → XX X0 fr.roots fp b := by
    rintro b (hb | ⟨s, d', hs, hb⟩)
    · exact .inl (hX b hb)
    · by_cases hsr : s = r
      · subst hsr
        simp only [setFp, if_true] at hb
        rcases hb with hb | hb
        · exact .inr ⟨s, d, hd, hb.1⟩
        · exact .inl (hF b hb).1
      · simp only [setFp, if_neg hsr] at hb
        rw [look_updR_ne hsr] at hs
        exact .inr ⟨s, d', hs, hb⟩
  have hFg : ∀ b, Fe' b → b ≠ g := by
    rintro b hb rfl
    exact h.out r d b hd hgF (hF b hb).1
  have hrep' : RepV (w.setCell ⟨g, k + o, none⟩ u') (XX X1 (updR r (d.setAt p o e') fr.roots) (setFp r (Upd (fp r) E Fe') fp)) e' u' Fe' := by
    refine RepV.stay e' ⟨fun b hb hx => hput.other b hb ?_, fun b hb hx => ?_⟩ hrep
    · rintro rfl
      rcases hx with hx | hx
      · exact hFg _ hx rfl
      · exact hx (hXe _ hb (.inr (.inr ⟨r, d, hd, hgF⟩)))
    · refine hXe b hb ?_
      rcases hx with hx | ⟨s, d', hs, hx⟩
      · exact .inl hx
      · by_cases hsr : s = r
        · subst hsr
          simp only [setFp, if_true] at hx
          rcases hx with hx | hx
          · exact .inr (.inr ⟨s, d, hd, hx.1⟩)
          · exact .inr (.inl hx)
        · simp only [setFp, if_neg hsr] at hx
          rw [look_updR_ne hsr] at hs
          exact .inr (.inr ⟨s, d', hs, hx⟩)
  have hroot := h7 _ _ e' u' Fe' g k rfl hput (fun b _ hb => hXX b hb) hrep' (fun b hb hb' => absurd (hF b hb).1 (h.out r d b hd hb'))
  have tr : ∀ x v, (leaves x).any (badS r p o) = false → RepE w (XX X0 fr.roots fp) fr.roots rv x v →
      RepE (w.setCell ⟨g, k + o, none⟩ u') (XX X1 (updR r (d.setAt p o e') fr.roots) (setFp r (Upd (fp r) E Fe') fp)) (updR r (d.setAt p o e') fr.roots) rv x v := by
    intro x v hk hx
    refine RepE.move (hoff E _ (fun b hb => hb.elim) hXX) x (fun y hy u1 hu1 => ?_) hx
    have hq := not_any (by rw [hk]; simp) y hy
    by_cases hyr : leafRoot y = r
    · refine leaf_in hd (look_updR hd) rfl hr ho ⟨_, setAt_rowAt hr ho, by simp⟩ (fun cs hcs => setAt_root hr hcs) (fun bk hb => ?_) (badS r p o) ?_
        (fun p' o' hh => (badS_spec.1 p' o' hh).1) badS_spec.2.1 badS_spec.2.2 (leaf_root x hy) hyr hq u1 hu1
      · rw [hn] at hb; obtain rfl := Option.some.inj hb
        exact h8 _ g k rfl (fun b hb hne _ => hput.other b hb hne)
      · intro p' o' row1 bk u2 hpp hr1 ho1 hn1 hc1 hq1
        obtain ⟨_, hne⟩ := badS_spec.1 p' o' hq1
        cases bk with
        | vals vs => exact hc1
        | mem g' k' =>
          simp only [cvB, memCv] at hc1 ⊢
          by_cases hg' : g' = g
          · subst hg'
            rw [hput.cell, if_neg ?_]
            · exact hc1
            · -- the same block: the same row, and another cell
              rcases hpp with rfl | rfl
              · rw [hn] at hn1
                have hkk : k = k' := by simpa using hn1
                subst hkk
                intro hh; exact hne ⟨rfl, by omega⟩
              · by_cases hp : p = []
                · subst hp
                  rw [hn] at hn1
                  have hkk : k = k' := by simpa using hn1
                  subst hkk
                  intro hh; exact hne ⟨rfl, by omega⟩
                · exfalso
                  obtain ⟨i, q, rfl⟩ := List.exists_cons_of_ne_nil hp
                  obtain ⟨cs, hcs⟩ := rowAt_some hr
                  have hr1' : d.row = some row1 := by simpa [D.rowAt] using hr1
                  rw [hcs] at hr1'; obtain rfl := Option.some.inj hr1'
                  simp only [D.rowAt, hcs] at hr
                  split at hr
                  · rename_i sz n ds hci
                    obtain ⟨bk1, u1', F1, q1, q2, q3, q4, q5, _⟩ := one_level (h.root r d hd) hcs hci (fun b hb => h.fp_X hd hb)
                    have hb1 : rowB (rv r) = some (.mem g' k') := by simpa [nav] using hn1
                    rw [hb1] at q1; obtain rfl := Option.some.inj q1
                    have hno := (q5 g' k' rfl).2.1
                    simp only [nav, hb1, q2] at hn
                    have hq3 : D.rowAt (.sl true sz n ds) q = some row := hr
                    obtain ⟨bk2, u2', F2, p1, p2, p3, p4, p5, _⟩ := focus q q3 hq3 he (fun b hb => h.fp_X hd (q4 b hb))
                    rw [hn] at p1; obtain rfl := Option.some.inj p1
                    exact hno (p5 g' k rfl).1
                  · simp at hr
          · have hblk : fp r g' := by
              obtain ⟨bk3, u3, F3, p1, p2, p3, p4, p5, _⟩ := focus p' (h.root r d hd) hr1 (List.getElem?_eq_getElem ho1) (fun b hb => h.fp_X hd hb)
              rw [hn1] at p1; obtain rfl := Option.some.inj p1
              exact (p5 g' k' rfl).1
            have := hput.other g' (h.fp_lt hd hblk) hg'
            simp only [World.cell?, this] at hc1 ⊢
            exact hc1
    · refine leaf_keep h (leaf_root x hy) (look_updR_ne hyr) rfl (fun d' b hd' hb => hput.other b (h.fp_lt hd' hb) ?_) u1 hu1
      rintro rfl
      exact hyr (h.sep _ _ d' d _ hd' hd hb hgF)
  refine ⟨hcell, hfr, ⟨h.os, h.tape, h.output, by rw [hsz]; exact h.size, fun b hb => by rw [hsz]; exact h.x0 b (hX b hb), ?_, ?_, ?_, ?_, ?_, ?_, h.nt⟩, tr, ?_, hXX⟩
  · intro b hb hl
    rw [hput.other b (Nat.lt_of_lt_of_le hb h.size) ?_]
    · exact h.keep b hb hl
    · rintro rfl
      exact (h.new r d _ hd hgF).elim hl (by omega)
  · intro s d' hs
    by_cases hsr : s = r
    · subst hsr
      rw [look_updR hd] at hs
      obtain rfl := Option.some.inj hs
      rw [setFp_self]
      exact hroot
    · rw [look_updR_ne hsr] at hs
      have hst := RepV.stay d' (hoff (fp s) _ (fun b hb => by rintro rfl; exact hsr (h.sep _ _ d' d _ hs hd hb hgF)) hXX) (h.root s d' hs)
      have e1 : setFp r (Upd (fp r) E Fe') fp s = fp s := setFp_ne hsr _ _
      rw [← e1] at hst
      exact hst
  · intro s s' d1 d2 b hs hs' hb hb'
    simp only [setFp] at hb hb'
    by_cases hsr : s = r <;> by_cases hsr' : s' = r
    · exact hsr.trans hsr'.symm
    · subst hsr
      rw [look_updR_ne hsr'] at hs'
      simp only [if_true, if_neg hsr'] at hb hb'
      rcases hb with hb | hb
      · exact h.sep s s' d d2 b hd hs' hb.1 hb'
      · exact absurd (hF b hb).1 (h.out s' d2 b hs' hb')
    · subst hsr'
      rw [look_updR_ne hsr] at hs
      simp only [if_true, if_neg hsr] at hb hb'
      rcases hb' with hb' | hb'
      · exact h.sep s s' d1 d b hs hd hb hb'.1
      · exact absurd (hF b hb').1 (h.out s d1 b hs hb)
    · rw [look_updR_ne hsr] at hs
      rw [look_updR_ne hsr'] at hs'
      simp only [if_neg hsr, if_neg hsr'] at hb hb'
      exact h.sep s s' d1 d2 b hs hs' hb hb'
  · intro s d' b hs hb
    simp only [setFp] at hb
    by_cases hsr : s = r
    · subst hsr
      simp only [if_true] at hb
      rcases hb with hb | hb
      · exact h.new s d b hd hb.1
      · exact (hF b hb).2.2
    · rw [look_updR_ne hsr] at hs
      simp only [if_neg hsr] at hb
      exact h.new s d' b hs hb
  · intro s d' b hs hb hx
    simp only [setFp] at hb
    by_cases hsr : s = r
    · subst hsr
      simp only [if_true] at hb
      rcases hb with hb | hb
      · exact h.out s d b hd hb.1 (hX b hx)
      · exact (hF b hb).2.1 hx
    · rw [look_updR_ne hsr] at hs
      simp only [if_neg hsr] at hb
      exact h.out s d' b hs hb (hX b hx)
  · intro t x hx
    obtain ⟨y, hy, rfl⟩ := look_killE hx
    unfold killV
    split
    · simp only [RepE]
    · rename_i hk
      exact tr y _ (by simpa using hk) (h.env t y hy)
  · intro d0 v0 F0 hF0 hr0
    refine RepV.stay d0 (hoff F0 _ (fun b hb => ?_) (fun b hb => hb)) hr0
    rintro rfl
    exact h.out r d _ hd hgF (hF0 _ hb)
end
end Go.Proofs.Ytgnohnlpicmnaaa.Vm
set_option linter.unusedSimpArgs false
set_option linter.unusedVariables false
namespace Go.Proofs.Ytgnohnlpicmnaaa.Vm
open Go
section
variable {P : Program} {w0 : World} {L X0 X1 : Nat → Prop} {w w' : World} {tm : Array Value} {fr : Fr} {rv : Nat → Value} {fp : Nat → Nat → Prop}

def setRv (r : Nat) (u : Value) (rv : Nat → Value) : Nat → Value := fun s => if s = r then u else rv s
theorem setRv_self (r : Nat) (u : Value) (rv : Nat → Value) : setRv r u rv r = u := by simp [setRv]
theorem setRv_ne {r s : Nat} (h : s ≠ r) (u : Value) (rv : Nat → Value) : setRv r u rv s = rv s := by simp [setRv, h]

theorem look_root_of_leaf {X : Nat → Prop} {R : List (Nat × D)} {y : V} (hy : IsLeaf y) {u : Value} (h : RepE w X R rv y u) : ∃ d, look (leafRoot y) R = some d := by
  rcases hy with ⟨r, p, o, rfl⟩ | ⟨r, p, o, sz, lo, n, rfl⟩ | ⟨r, p, o, rfl⟩ <;> simp only [RepE] at h <;> simp only [leafRoot]
  · obtain ⟨d, _, _, hd, _⟩ := h; exact ⟨d, hd⟩
  · obtain ⟨d, _, _, _, _, _, _, _, hd, _⟩ := h; exact ⟨d, hd⟩
  · obtain ⟨d, _, _, hd, _⟩ := h; exact ⟨d, hd⟩

/-- A new root. -/
theorem FR.add (h : FR w0 L X0 w tm fr rv fp) {r0 : Nat} (hr0 : look r0 fr.roots = none) {d0 : D} {u0 : Value} {F0 : Nat → Prop} (hX : ∀ b, X1 b → X0 b) (hF : ∀ b, F0 b → X0 b ∧ ¬ X1 b ∧ (L b ∨ w0.heap.size ≤ b))
    {Xe : Nat → Prop} (hXe : ∀ b, b < w.heap.size → (X1 b ∨ F0 b ∨ ∃ s d', look s fr.roots = some d' ∧ fp s b) → Xe b) (hrep : RepV w Xe d0 u0 F0) :
    FR w0 L X1 w tm { fr with roots := (r0, d0) :: fr.roots } (setRv r0 u0 rv) (setFp r0 F0 fp) ∧
      (∀ x v, RepE w (XX X0 fr.roots fp) fr.roots rv x v → RepE w (XX X1 ((r0, d0) :: fr.roots) (setFp r0 F0 fp)) ((r0, d0) :: fr.roots) (setRv r0 u0 rv) x v) := by
  have lk : ∀ s, s ≠ r0 → look s ((r0, d0) :: fr.roots) = look s fr.roots := fun s hs => by simp only [look]; rw [if_neg (Ne.symm hs)]
  have lk0 : look r0 ((r0, d0) :: fr.roots) = some d0 := by simp [look]
  have hne : ∀ s d', look s fr.roots = some d' → s ≠ r0 := by rintro s d' hs rfl; rw [hr0] at hs; simp at hs
  have hXX : ∀ b, XX X1 ((r0, d0) :: fr.roots) (setFp r0 F0 fp) b → X1 b ∨ F0 b ∨ ∃ s d', look s fr.roots = some d' ∧ fp s b := by
    rintro b (hb | ⟨s, d', hs, hb⟩)
    · exact .inl hb
    · by_cases hsr : s = r0
      · subst hsr; rw [setFp_self] at hb; exact .inr (.inl hb)
      · rw [setFp_ne hsr] at hb; rw [lk s hsr] at hs; exact .inr (.inr ⟨s, d', hs, hb⟩)
  have hXX' : ∀ b, XX X1 ((r0, d0) :: fr.roots) (setFp r0 F0 fp) b → XX X0 fr.roots fp b := fun b hb => by
    rcases hXX b hb with hb | hb | hb
    · exact .inl (hX b hb)
    · exact .inl (hF b hb).1
    · exact .inr hb
  have hst : ∀ F, Stay w w (XX X0 fr.roots fp) (XX X1 ((r0, d0) :: fr.roots) (setFp r0 F0 fp)) F := fun F => ⟨fun _ _ _ => rfl, fun b _ hb => hXX' b hb⟩
  have tr : ∀ x v, RepE w (XX X0 fr.roots fp) fr.roots rv x v → RepE w (XX X1 ((r0, d0) :: fr.roots) (setFp r0 F0 fp)) ((r0, d0) :: fr.roots) (setRv r0 u0 rv) x v := by
    intro x v hx
    refine RepE.move (hst E) x (fun y hy u hu => ?_) hx
    obtain ⟨d', hd'⟩ := look_root_of_leaf (leaf_root x hy) hu
    have hn := hne _ _ hd'
    exact leaf_keep h (leaf_root x hy) (lk _ hn) (setRv_ne hn _ _) (fun _ _ _ _ => rfl) u hu
  refine ⟨⟨h.os, h.tape, h.output, h.size, fun b hb => h.x0 b (hX b hb), h.keep, ?_, ?_, ?_, ?_, fun t x hx => tr x _ (h.env t x hx), h.nt⟩, tr⟩
  · intro s d' hs
    by_cases hsr : s = r0
    · subst hsr
      rw [lk0] at hs
      obtain rfl := Option.some.inj hs
      rw [setFp_self, setRv_self]
      exact RepV.stay d0 ⟨fun _ _ _ => rfl, fun b hb hx => hXe b hb (hXX b hx)⟩ hrep
    · rw [lk s hsr] at hs
      have := RepV.stay d' (hst (fp s)) (h.root s d' hs)
      have e1 : setFp r0 F0 fp s = fp s := setFp_ne hsr _ _
      have e2 : setRv r0 u0 rv s = rv s := setRv_ne hsr _ _
      rw [← e2] at this
      simpa only [e1] using this
  · intro s s' d1 d2 b hs hs' hb hb'
    by_cases hsr : s = r0 <;> by_cases hsr' : s' = r0
    · exact hsr.trans hsr'.symm
    · subst hsr
      rw [lk s' hsr'] at hs'
      rw [setFp_self] at hb; rw [setFp_ne hsr'] at hb'
      exact absurd (hF b hb).1 (h.out s' d2 b hs' hb')
    · subst hsr'
      rw [lk s hsr] at hs
      rw [setFp_self] at hb'; rw [setFp_ne hsr] at hb
      exact absurd (hF b hb').1 (h.out s d1 b hs hb)
    · rw [lk s hsr] at hs; rw [lk s' hsr'] at hs'
      rw [setFp_ne hsr] at hb; rw [setFp_ne hsr'] at hb'
      exact h.sep s s' d1 d2 b hs hs' hb hb'
  · intro s d' b hs hb
    by_cases hsr : s = r0
    · subst hsr; rw [setFp_self] at hb; exact (hF b hb).2.2
    · rw [lk s hsr] at hs; rw [setFp_ne hsr] at hb; exact h.new s d' b hs hb
  · intro s d' b hs hb hx
    by_cases hsr : s = r0
    · subst hsr; rw [setFp_self] at hb; exact (hF b hb).2.1 hx
    · rw [lk s hsr] at hs; rw [setFp_ne hsr] at hb; exact h.out s d' b hs hb (hX b hx)

/-- Leaves that need what the root holds. -/
def badR (r : Nat) : V → Bool
  | .ref r' _ _ => r' == r
  | .win r' _ _ _ _ _ => r' == r
  | .addr r' p' _ => r' == r && !(p' == [])
  | _ => false

/-- All that a root holds is told anew; its own value is as it was. -/
theorem FR.whole (h : FR w0 L X0 w tm fr rv fp) {r : Nat} {d e' : D} (hd : look r fr.roots = some d) {F' : Nat → Prop}
    (hX1 : ∀ b, X1 b → b < w.heap.size) (hsub : ∀ b, X1 b ∨ F' b → XX X0 fr.roots fp b)
    (hrep : RepV w (XX X1 (updR r e' fr.roots) (setFp r F' fp)) e' (rv r) F') (hdis : ∀ s d' b, look s fr.roots = some d' → F' b → fp s b → s = r)
    (hout : ∀ s d' b, look s fr.roots = some d' → s ≠ r → fp s b → ¬ X1 b) (hout' : ∀ b, F' b → ¬ X1 b) (hnew : ∀ b, F' b → L b ∨ w0.heap.size ≤ b) :
    FR w0 L X1 w tm { fr with roots := updR r e' fr.roots, env := killE (badR r) fr.env } rv (setFp r F' fp) ∧
    ∀ x v, (leaves x).any (badR r) = false → RepE w (XX X0 fr.roots fp) fr.roots rv x v → RepE w (XX X1 (updR r e' fr.roots) (setFp r F' fp)) (updR r e' fr.roots) rv x v := by
  have hXX : ∀ b, XX X1 (updR r e' fr.roots) (setFp r F' fp) b → XX X0 fr.roots fp b := by
    rintro b (hb | ⟨s, d', hs, hb⟩)
    · exact hsub b (.inl hb)
    · by_cases hsr : s = r
      · subst hsr; rw [setFp_self] at hb; exact hsub b (.inr hb)
      · rw [setFp_ne hsr] at hb; rw [look_updR_ne hsr] at hs; exact .inr ⟨s, d', hs, hb⟩
  have hst : ∀ F, Stay w w (XX X0 fr.roots fp) (XX X1 (updR r e' fr.roots) (setFp r F' fp)) F := fun F => ⟨fun _ _ _ => rfl, fun b _ hb => hXX b hb⟩
  have tr : ∀ x v, (leaves x).any (badR r) = false → RepE w (XX X0 fr.roots fp) fr.roots rv x v → RepE w (XX X1 (updR r e' fr.roots) (setFp r F' fp)) (updR r e' fr.roots) rv x v := by
    intro x v hk hx
    refine RepE.move (hst E) x (fun y hy u hu => ?_) hx
    have hq := not_any (by rw [hk]; simp) y hy
    by_cases hyr : leafRoot y = r
    · rcases leaf_root x hy with ⟨r', p', o', rfl⟩ | ⟨r', p', o', sz, lo, n, rfl⟩ | ⟨r', p', o', rfl⟩ <;> simp only [leafRoot] at hyr <;> subst hyr <;> simp [badR] at hq
      subst hq
      simp only [RepE] at hu ⊢
      obtain ⟨d1, g, k, a1, a2, a3, a4⟩ := hu
      exact ⟨e', g, k, look_updR hd, ⟨fun _ => a2.1 trivial, .inl trivial⟩, by simpa [nav] using a3, a4⟩
    · exact leaf_keep h (leaf_root x hy) (look_updR_ne hyr) rfl (fun _ _ _ _ => rfl) u hu
  refine ⟨⟨h.os, h.tape, h.output, h.size, hX1, h.keep, ?_, ?_, ?_, ?_, ?_, h.nt⟩, tr⟩
  · intro s d' hs
    by_cases hsr : s = r
    · subst hsr
      rw [look_updR hd] at hs
      obtain rfl := Option.some.inj hs
      rw [setFp_self] at *
      exact hrep
    · rw [look_updR_ne hsr] at hs
      have := RepV.stay d' (hst (fp s)) (h.root s d' hs)
      have e1 : setFp r F' fp s = fp s := setFp_ne hsr _ _
      simpa only [e1] using this
  · intro s s' d1 d2 b hs hs' hb hb'
    by_cases hsr : s = r <;> by_cases hsr' : s' = r
    · exact hsr.trans hsr'.symm
    · subst hsr
      rw [look_updR_ne hsr'] at hs'
      rw [setFp_self] at hb; rw [setFp_ne hsr'] at hb'
      exact (hdis s' d2 b hs' hb hb').symm
    · subst hsr'
      rw [look_updR_ne hsr] at hs
      rw [setFp_self] at hb'; rw [setFp_ne hsr] at hb
      exact hdis s d1 b hs hb' hb
    · rw [look_updR_ne hsr] at hs; rw [look_updR_ne hsr'] at hs'
      rw [setFp_ne hsr] at hb; rw [setFp_ne hsr'] at hb'
      exact h.sep s s' d1 d2 b hs hs' hb hb'
  · intro s d' b hs hb
    by_cases hsr : s = r
    · subst hsr; rw [setFp_self] at hb; exact hnew b hb
    · rw [look_updR_ne hsr] at hs; rw [setFp_ne hsr] at hb; exact h.new s d' b hs hb
  · intro s d' b hs hb hx
    by_cases hsr : s = r
    · subst hsr; rw [setFp_self] at hb; exact hout' b hb hx
    · rw [look_updR_ne hsr] at hs; rw [setFp_ne hsr] at hb; exact hout s d' b hs hsr hb hx
  · intro t x hx
    obtain ⟨y, hy, rfl⟩ := look_killE hx
    unfold killV
    split
    · simp only [RepE]
    · rename_i hk
      exact tr y _ (by simpa using hk) (h.env t y hy)

/-- All that a root holds is taken out. -/
theorem FR.takeAll (h : FR w0 L X0 w tm fr rv fp) {r : Nat} {d : D} (hd : look r fr.roots = some d) :
    RepV w (XX X0 fr.roots fp) d (rv r) (fp r) ∧ (∀ b, fp r b → ¬ X0 b ∧ (L b ∨ w0.heap.size ≤ b) ∧ b < w.heap.size) ∧
    FR w0 L (fun b => X0 b ∨ fp r b) w tm { fr with roots := updR r .gone fr.roots, env := killE (badR r) fr.env } rv (setFp r E fp) ∧
    (∀ x v, (leaves x).any (badR r) = false → RepE w (XX X0 fr.roots fp) fr.roots rv x v → RepE w (XX (fun b => X0 b ∨ fp r b) (updR r .gone fr.roots) (setFp r E fp)) (updR r .gone fr.roots) rv x v) ∧
    (∀ b, XX X0 fr.roots fp b → XX (fun b => X0 b ∨ fp r b) (updR r .gone fr.roots) (setFp r E fp) b) := by
  obtain ⟨g1, g2⟩ := h.whole (X1 := fun b => X0 b ∨ fp r b) hd (e' := .gone) (F' := E) (fun b hb => hb.elim (h.x0 b) (h.fp_lt hd)) (fun b hb => by
      rcases hb with (hb | hb) | hb
      · exact .inl hb
      · exact h.fp_X hd hb
      · exact hb.elim) (by simp only [RepV]; exact fun b => id) (fun s d' b hs hb => hb.elim) (fun s d' b hs hsr hb hx => hx.elim (h.out s d' b hs hb) (fun hx => hsr (h.sep s r d' d b hs hd hb hx))) (fun b hb => hb.elim) (fun b hb => hb.elim)
  refine ⟨h.root r d hd, fun b hb => ⟨h.out r d b hd hb, h.new r d b hd hb, h.fp_lt hd hb⟩, g1, g2, fun b hb => ?_⟩
  rcases hb with hb | ⟨s, d', hs, hb⟩
  · exact .inl (.inl hb)
  · by_cases hsr : s = r
    · subst hsr; exact .inl (.inr hb)
    · exact .inr ⟨s, d', by rw [look_updR_ne hsr]; exact hs, by rw [setFp_ne hsr]; exact hb⟩

/-- A root that holds nothing gets something to hold. -/
theorem FR.backAll (h : FR w0 L X0 w tm fr rv fp) {r : Nat} {e' : D} (hd : look r fr.roots = some .gone) {F' : Nat → Prop} (hX : ∀ b, X1 b → X0 b) (hF : ∀ b, F' b → X0 b ∧ ¬ X1 b ∧ (L b ∨ w0.heap.size ≤ b))
    {Xe : Nat → Prop} (hXe : ∀ b, b < w.heap.size → (X1 b ∨ F' b ∨ ∃ s d', look s fr.roots = some d' ∧ fp s b) → Xe b) (hrep : RepV w Xe e' (rv r) F') :
    FR w0 L X1 w tm { fr with roots := updR r e' fr.roots, env := killE (badR r) fr.env } rv (setFp r F' fp) ∧
    (∀ x v, (leaves x).any (badR r) = false → RepE w (XX X0 fr.roots fp) fr.roots rv x v → RepE w (XX X1 (updR r e' fr.roots) (setFp r F' fp)) (updR r e' fr.roots) rv x v) :=
  h.whole (X1 := X1) hd (e' := e') (F' := F') (fun b hb => h.x0 b (hX b hb)) (fun b hb => hb.elim (fun hb => .inl (hX b hb)) (fun hb => .inl (hF b hb).1))
    (RepV.stay e' ⟨fun _ _ _ => rfl, fun b hb hx => hXe b hb (by
      rcases hx with hx | ⟨s, d', hs, hx⟩
      · exact .inl hx
      · by_cases hsr : s = r
        · subst hsr; rw [setFp_self] at hx; exact .inr (.inl hx)
        · rw [setFp_ne hsr] at hx; rw [look_updR_ne hsr] at hs; exact .inr (.inr ⟨s, d', hs, hx⟩))⟩ hrep)
    (fun s d' b hs hb hb' => absurd (hF b hb).1 (h.out s d' b hs hb')) (fun s d' b hs _ hb hx => h.out s d' b hs hb (hX b hx)) (fun b hb => (hF b hb).2.1) (fun b hb => (hF b hb).2.2)

/-- Roots that nothing leads to any more are dropped. -/
def leadsTo (keep : List Nat) : V → Bool
  | .ref r _ _ => !(keep.contains r)
  | .win r _ _ _ _ _ => !(keep.contains r)
  | .addr r _ _ => !(keep.contains r)
  | _ => false
def keepR (keep : List Nat) (R : List (Nat × D)) : List (Nat × D) := R.filter fun e => keep.contains e.1
theorem look_keepR {keep : List Nat} {r : Nat} : ∀ {R : List (Nat × D)}, look r (keepR keep R) = if keep.contains r = true then look r R else none
  | [] => by simp [keepR, look]
  | (s, d) :: l => by
    have ih := look_keepR (keep := keep) (r := r) (R := l)
    unfold keepR at ih ⊢
    simp only [List.filter_cons]
    by_cases hs : keep.contains s = true
    · rw [if_pos hs]
      simp only [look]
      by_cases hsr : s = r
      · subst hsr; rw [if_pos rfl, if_pos rfl, if_pos hs]
      · rw [if_neg hsr, if_neg hsr]; exact ih
    · rw [if_neg hs, ih]
      simp only [look]
      by_cases hsr : s = r
      · subst hsr; rw [if_neg hs, if_neg hs]
      · rw [if_neg hsr]

theorem FR.drop (h : FR w0 L X0 w tm fr rv fp) (keep : List Nat) :
    FR w0 L X0 w tm { fr with roots := keepR keep fr.roots, env := killE (leadsTo keep) fr.env } rv fp ∧
    (∀ x v, (leaves x).any (leadsTo keep) = false → RepE w (XX X0 fr.roots fp) fr.roots rv x v → RepE w (XX X0 (keepR keep fr.roots) fp) (keepR keep fr.roots) rv x v) := by
  have sub : ∀ r d, look r (keepR keep fr.roots) = some d → look r fr.roots = some d := fun r d hd => by
    rw [look_keepR] at hd
    split at hd
    · exact hd
    · simp at hd
  have hXX : ∀ b, XX X0 (keepR keep fr.roots) fp b → XX X0 fr.roots fp b := by
    rintro b (hb | ⟨s, d', hs, hb⟩)
    · exact .inl hb
    · exact .inr ⟨s, d', sub s d' hs, hb⟩
  have hst : ∀ F, Stay w w (XX X0 fr.roots fp) (XX X0 (keepR keep fr.roots) fp) F := fun F => ⟨fun _ _ _ => rfl, fun b _ hb => hXX b hb⟩
  have tr : ∀ x v, (leaves x).any (leadsTo keep) = false → RepE w (XX X0 fr.roots fp) fr.roots rv x v → RepE w (XX X0 (keepR keep fr.roots) fp) (keepR keep fr.roots) rv x v := by
    intro x v hk hx
    refine RepE.move (hst E) x (fun y hy u hu => ?_) hx
    have hq := not_any (by rw [hk]; simp) y hy
    have hkk : keep.contains (leafRoot y) = true := by
      rcases leaf_root x hy with ⟨r', p', o', rfl⟩ | ⟨r', p', o', sz, lo, n, rfl⟩ | ⟨r', p', o', rfl⟩ <;> simp only [leadsTo, Bool.not_eq_false'] at hq <;> simpa only [leafRoot] using hq
    exact leaf_keep h (leaf_root x hy) (by rw [look_keepR, if_pos hkk]) rfl (fun _ _ _ _ => rfl) u hu
  refine ⟨⟨h.os, h.tape, h.output, h.size, h.x0, h.keep, fun r d hd => RepV.stay d (hst _) (h.root r d (sub r d hd)), fun s s' d1 d2 b hs hs' hb hb' => h.sep s s' d1 d2 b (sub _ _ hs) (sub _ _ hs') hb hb',
    fun s d b hs hb => h.new s d b (sub _ _ hs) hb, fun s d b hs hb => h.out s d b (sub _ _ hs) hb, ?_, h.nt⟩, tr⟩
  intro t x hx
  obtain ⟨y, hy, rfl⟩ := look_killE hx
  unfold killV
  split
  · simp only [RepE]
  · rename_i hk
    exact tr y _ (by simpa using hk) (h.env t y hy)
end
end Go.Proofs.Ytgnohnlpicmnaaa.Vm
set_option linter.unusedSimpArgs false
set_option linter.unusedVariables false
namespace Go.Proofs.Ytgnohnlpicmnaaa.Vm
open Go
section
variable {P : Program} {w0 : World} {L X0 X1 : Nat → Prop} {w w' : World} {tm : Array Value} {fr : Fr} {rv : Nat → Value} {fp : Nat → Nat → Prop}

def never : V → Bool := fun _ => false
theorem any_never (l : List V) : l.any never = false := by simp [never]
theorem killV_never (x : V) : killV never x = x := by simp [killV, any_never]

theorem XX_upd {r : Nat} {d d' : D} {Fe : Nat → Prop} (hd : look r fr.roots = some d) (hF : ∀ b, Fe b → fp r b) :
    XX (fun b => X0 b ∨ Fe b) (updR r d' fr.roots) (setFp r (Upd (fp r) Fe E) fp) = XX X0 fr.roots fp := by
  funext b
  apply propext
  constructor
  · rintro ((hb | hb) | ⟨s, e, hs, hb⟩)
    · exact .inl hb
    · exact .inr ⟨r, d, hd, hF b hb⟩
    · by_cases hsr : s = r
      · subst hsr
        rw [setFp_self] at hb
        rcases hb with hb | hb
        · exact .inr ⟨s, d, hd, hb.1⟩
        · exact hb.elim
      · rw [setFp_ne hsr] at hb; rw [look_updR_ne hsr] at hs; exact .inr ⟨s, e, hs, hb⟩
  · rintro (hb | ⟨s, e, hs, hb⟩)
    · exact .inl (.inl hb)
    · by_cases hsr : s = r
      · subst hsr
        by_cases hF' : Fe b
        · exact .inl (.inr hF')
        · exact .inr ⟨s, d', look_updR hd, by rw [setFp_self]; exact .inl ⟨hb, hF'⟩⟩
      · exact .inr ⟨s, e, by rw [look_updR_ne hsr]; exact hs, by rw [setFp_ne hsr]; exact hb⟩

/-- What a cell's value holds is handed over: what it owned is gone from where it lay. -/
def moveC (fr : Fr) : V → Option (D × Fr × (V → Bool))
  | .val d => if d.plain = true then some (d, fr, never) else none
  | .fn f [] => some (.fn f [], fr, never)
  | .ref r p o => match look r fr.roots with
    | some d => match d.rowAt p with
      | some row => match row[o]? with
        | some (.sl true sz n cs) => some (.sl true sz n cs, { fr with roots := updR r (d.setAt p o .gone) fr.roots, env := killE (badT r p) fr.env }, badT r p)
        | _ => none
      | none => none
    | none => none
  | .addr r [] 0 => match look r fr.roots with
    | some (.ptr true cs) => some (.ptr true cs, { fr with roots := updR r .gone fr.roots, env := killE (badR r) fr.env }, badR r)
    | _ => none
  | _ => none

/-- What one step of handing over yields. -/
def Moved (w0 : World) (L X0 : Nat → Prop) (w : World) (tm : Array Value) (fr : Fr) (rv : Nat → Value) (fp : Nat → Nat → Prop) (fr' : Fr) (bad : V → Bool) (F : Nat → Prop) (fp' : Nat → Nat → Prop) : Prop :=
  FR w0 L (fun b => X0 b ∨ F b) w tm fr' rv fp' ∧ (∀ b, F b → ¬ X0 b ∧ (L b ∨ w0.heap.size ≤ b) ∧ b < w.heap.size) ∧
  XX (fun b => X0 b ∨ F b) fr'.roots fp' = XX X0 fr.roots fp ∧
  ∀ y u, RepE w (XX X0 fr.roots fp) fr.roots rv y u → RepE w (XX X0 fr.roots fp) fr'.roots rv (killV bad y) u

theorem orE (X0 : Nat → Prop) : (fun b => X0 b ∨ E b) = X0 := by funext b; simp [E]

theorem Moved.none (h : FR w0 L X0 w tm fr rv fp) : Moved w0 L X0 w tm fr rv fp fr never E fp := by
  refine ⟨by rw [orE]; exact h, fun b hb => hb.elim, by rw [orE], fun y u hy => by rw [killV_never]; exact hy⟩

theorem killV_rep {w' : World} {X' : Nat → Prop} {R' : List (Nat × D)} {rv' : Nat → Value} {q : V → Bool} {y : V} {u : Value}
    (h : (leaves y).any q = false → RepE w' X' R' rv' y u) : RepE w' X' R' rv' (killV q y) u := by
  unfold killV
  split
  · simp only [RepE]
  · rename_i hk
    exact h (by simpa using hk)

theorem updE_E {F : Nat → Prop} : Upd F F E = E := by funext b; simp [Upd, E]

theorem moveC_sound (h : FR w0 L X0 w tm fr rv fp) {x : V} {v : Value} {d : D} {fr' : Fr} {bad : V → Bool} (hx : RepE w (XX X0 fr.roots fp) fr.roots rv x v) (he : moveC fr x = some (d, fr', bad)) :
    ∃ F fp', RepV w (XX X0 fr.roots fp) d v F ∧ Moved w0 L X0 w tm fr rv fp fr' bad F fp' := by
  unfold moveC at he
  split at he
  · -- a plain value
    split at he
    · obtain ⟨rfl, rfl, rfl⟩ := by simpa using he
      exact ⟨E, fp, hx, Moved.none h⟩
    · simp at he
  · obtain ⟨rfl, rfl, rfl⟩ := by simpa using he
    refine ⟨E, fp, ?_, Moved.none h⟩
    simp only [RepE] at hx
    obtain ⟨us, h1, h2, h3⟩ := hx
    simp only [RepV]
    exact ⟨us, fun _ _ => False, h1, h2, by simp [RepCs], fun _ _ _ hi => by simp at hi, fun b => by simp [E]⟩
  · rename_i r p o
    cases hd : look r fr.roots with
    | none => simp [hd] at he
    | some d0 =>
      simp only [hd] at he
      cases hr : d0.rowAt p with
      | none => simp [hr] at he
      | some row =>
        simp only [hr] at he
        split at he
        · rename_i sz n cs hro
          obtain ⟨rfl, rfl, rfl⟩ := by simpa using he
          obtain ⟨bk, u, Fe, h1, h2, h3, h4, h5, h6, hF⟩ := h.take hd hr hro
          have hv : v = u := by
            simp only [RepE] at hx
            obtain ⟨d1, row1, bk1, a1, a2, a3, a4, a5, _⟩ := hx
            rw [hd] at a1; obtain rfl := Option.some.inj a1
            rw [h1] at a4; obtain rfl := Option.some.inj a4
            rw [h2] at a5; exact (Option.some.inj a5).symm
          subst hv
          refine ⟨Fe, _, h3, h5, h4, XX_upd hd hF, fun y u' hy => killV_rep fun hk => ?_⟩
          have := h6 y u' hk hy
          rw [XX_upd hd hF] at this
          exact this
        · simp at he
  · rename_i r
    split at he
    · rename_i cs hd
      obtain ⟨rfl, rfl, rfl⟩ := by simpa using he
      obtain ⟨h1, h2, h3, h4, h5⟩ := h.takeAll hd
      have hX : XX (fun b => X0 b ∨ fp r b) (updR r .gone fr.roots) (setFp r E fp) = XX X0 fr.roots fp := by
        have := XX_upd (X0 := X0) (d' := .gone) hd (Fe := fp r) (fun b hb => hb)
        rwa [updE_E] at this
      have hv : v = rv r := by
        simp only [RepE] at hx
        obtain ⟨d1, g, k, a1, a2, a3, a4⟩ := hx
        simp only [RepV] at h1
        obtain ⟨g', φ, b1, _⟩ := h1
        simp only [nav, b1, rowB] at a3
        rw [b1, a4]
        simp at a3
        obtain ⟨rfl, rfl⟩ := a3
        rfl
      subst hv
      refine ⟨fp r, _, h1, h3, h2, hX, fun y u' hy => killV_rep fun hk => ?_⟩
      have := h4 y u' hk hy
      rw [hX] at this
      exact this
    · simp at he
  · simp at he
end
end Go.Proofs.Ytgnohnlpicmnaaa.Vm
set_option linter.unusedSimpArgs false
set_option linter.unusedVariables false
namespace Go.Proofs.Ytgnohnlpicmnaaa.Vm
open Go
section
variable {P : Program} {w0 : World} {L X0 X1 : Nat → Prop} {w w' : World} {tm : Array Value} {fr : Fr} {rv : Nat → Value} {fp : Nat → Nat → Prop}

def moveAll (fr : Fr) : List V → List V → Option (List D × Fr × List V)
  | [], q => some ([], fr, q)
  | x :: xs, q => match moveC fr x with
    | some (d, fr1, bad) => match moveAll fr1 (xs.map (killV bad)) (q.map (killV bad)) with
      | some (ds, fr2, q') => some (d :: ds, fr2, q')
      | none => none
    | none => none
  termination_by xs => xs.length

/-- All that a list of parts owns. -/
def AllF (n : Nat) (φ : Nat → Nat → Prop) : Nat → Prop := fun b => ∃ i, i < n ∧ φ i b

def consF (F : Nat → Prop) (φ : Nat → Nat → Prop) : Nat → Nat → Prop
  | 0 => F
  | j + 1 => φ j

theorem allF_cons (F : Nat → Prop) (φ : Nat → Nat → Prop) (n : Nat) (b : Nat) : AllF (n + 1) (consF F φ) b ↔ F b ∨ AllF n φ b := by
  constructor
  · rintro ⟨i, hi, hb⟩
    cases i with
    | zero => exact .inl hb
    | succ i => exact .inr ⟨i, by omega, hb⟩
  · rintro (hb | ⟨i, hi, hb⟩)
    · exact ⟨0, by omega, hb⟩
    · exact ⟨i + 1, by omega, hb⟩

theorem repCs_shift {w : World} {X : Nat → Prop} {cv : Nat → Option Value} {φ : Nat → Nat → Prop} {cs : List D} (h : RepCs w X cs (fun j => cv (j + 1)) 0 φ) (F : Nat → Prop) : RepCs w X cs cv 1 (consF F φ) := by
  rw [repCs_iff] at *
  intro i d hd
  obtain ⟨v, hv, hr⟩ := h i d hd
  refine ⟨v, by simpa [Nat.add_comm] using hv, ?_⟩
  have : consF F φ (1 + i) = φ (0 + i) := by rw [Nat.add_comm 1 i]; simp [consF]
  rw [this]; exact hr

theorem disj_cons {n : Nat} {F : Nat → Prop} {φ : Nat → Nat → Prop} (h : Disj n φ) (hF : ∀ b, F b → ¬ AllF n φ b) : Disj (n + 1) (consF F φ) := by
  intro i j b hi hj hb hb'
  cases i <;> cases j
  · rfl
  · exact absurd ⟨_, by omega, hb'⟩ (hF b hb)
  · exact absurd ⟨_, by omega, hb⟩ (hF b hb')
  · rw [h _ _ b (by omega) (by omega) hb hb']

theorem repEs_kill {w : World} {X X' : Nat → Prop} {R R' : List (Nat × D)} {rv : Nat → Value} {bad : V → Bool} (h : ∀ y u, RepE w X R rv y u → RepE w X' R' rv (killV bad y) u) :
    ∀ {q : List V} {us : List Value}, RepEs w X R rv q us → RepEs w X' R' rv (q.map (killV bad)) us
  | [], us, hq => by simp only [RepEs, List.map_nil] at hq ⊢; exact hq
  | x :: xs, us, hq => by
    simp only [RepEs, List.map_cons] at hq ⊢
    obtain ⟨u, us', rfl, hx, hr⟩ := hq
    exact ⟨u, us', rfl, h x u hx, repEs_kill h hr⟩

theorem moveAll_sound : ∀ (n : Nat) {X0 : Nat → Prop} {fr : Fr} {fp : Nat → Nat → Prop} {xs q : List V} {us vs : List Value} {ds : List D} {fr' : Fr} {q' : List V}, xs.length = n →
    FR w0 L X0 w tm fr rv fp → RepEs w (XX X0 fr.roots fp) fr.roots rv xs us → RepEs w (XX X0 fr.roots fp) fr.roots rv q vs → moveAll fr xs q = some (ds, fr', q') →
    ∃ φ fp', ds.length = n ∧ RepCs w (XX X0 fr.roots fp) ds (fun j => us[j]?) 0 φ ∧ Disj n φ ∧ FR w0 L (fun b => X0 b ∨ AllF n φ b) w tm fr' rv fp' ∧
      (∀ b, AllF n φ b → ¬ X0 b ∧ (L b ∨ w0.heap.size ≤ b) ∧ b < w.heap.size) ∧ XX (fun b => X0 b ∨ AllF n φ b) fr'.roots fp' = XX X0 fr.roots fp ∧
      RepEs w (XX X0 fr.roots fp) fr'.roots rv q' vs
  | 0, X0, fr, fp, xs, q, us, vs, ds, fr', q', hn, h, hx, hq, he => by
    obtain rfl := List.eq_nil_of_length_eq_zero hn
    simp only [moveAll] at he
    obtain ⟨rfl, rfl, rfl⟩ := by simpa using he
    have e0 : (fun b => X0 b ∨ AllF 0 (fun _ _ => False) b) = X0 := by funext b; simp [AllF]
    exact ⟨fun _ _ => False, fp, rfl, by simp [RepCs], fun i j b hi => by omega, by rw [e0]; exact h, fun b hb => by simp [AllF] at hb, by rw [e0], hq⟩
  | n + 1, X0, fr, fp, xs, q, us, vs, ds, fr', q', hn, h, hx, hq, he => by
    obtain ⟨x, xs, rfl⟩ := List.exists_cons_of_ne_nil (l := xs) (by rintro rfl; simp at hn)
    simp only [RepEs] at hx
    obtain ⟨u, us', rfl, hx, hxs⟩ := hx
    rw [moveAll] at he
    cases hm : moveC fr x with
    | none => simp [hm] at he
    | some m =>
      obtain ⟨d, fr1, bad⟩ := m
      simp only [hm] at he
      cases hm2 : moveAll fr1 (xs.map (killV bad)) (q.map (killV bad)) with
      | none => simp [hm2] at he
      | some m2 =>
        obtain ⟨ds2, fr2, q2⟩ := m2
        simp only [hm2] at he
        obtain ⟨rfl, rfl, rfl⟩ := by simpa using he
        obtain ⟨F, fp1, a1, a2, a3, a4, a5⟩ := moveC_sound h hx hm
        have b1 := repEs_kill a5 hxs
        have b2 := repEs_kill a5 hq
        rw [← a4] at b1 b2
        obtain ⟨φ, fp2, c1, c2, c3, c4, c5, c6, c7⟩ := moveAll_sound n (by simpa using hn) a2 b1 b2 hm2
        have e1 : (fun b => X0 b ∨ AllF (n + 1) (consF F φ) b) = fun b => (X0 b ∨ F b) ∨ AllF n φ b := by
          funext b; rw [allF_cons, or_assoc]
        refine ⟨consF F φ, fp2, by simp [c1], ?_, disj_cons c3 fun b hb hb' => (c5 b hb').1 (.inr hb), by rw [e1]; exact c4, ?_, by rw [e1, c6, a4], by rw [← a4]; exact c7⟩
        · simp only [RepCs]
          refine ⟨⟨u, rfl, a1⟩, repCs_shift ?_ F⟩
          rw [a4] at c2
          simpa using c2
        · intro b hb
          rw [allF_cons] at hb
          rcases hb with hb | hb
          · exact a3 b hb
          · exact ⟨fun hx => (c5 b hb).1 (.inl hx), (c5 b hb).2⟩
end
end Go.Proofs.Ytgnohnlpicmnaaa.Vm
set_option linter.unusedSimpArgs false
set_option linter.unusedVariables false
namespace Go.Proofs.Ytgnohnlpicmnaaa.Vm
open Go
section
variable {P : Program} {w0 : World} {L X0 X1 : Nat → Prop} {w w' : World} {tm : Array Value} {fr : Fr} {rv : Nat → Value} {fp : Nat → Nat → Prop}

/-- Leaves in a root. -/
def inR (r : Nat) : V → Bool
  | .ref r' _ _ => r' == r
  | .win r' _ _ _ _ _ => r' == r
  | .addr r' _ _ => r' == r
  | _ => false
def cutR (r : Nat) : List (Nat × D) → List (Nat × D)
  | [] => []
  | (s, d) :: l => if s = r then cutR r l else (s, d) :: cutR r l
theorem look_cutR_self {r : Nat} : ∀ {R : List (Nat × D)}, look r (cutR r R) = none
  | [] => rfl
  | (s, d) :: l => by
    simp only [cutR]
    by_cases hs : s = r
    · rw [if_pos hs]; exact look_cutR_self
    · rw [if_neg hs]; simp only [look]; rw [if_neg hs]; exact look_cutR_self
theorem look_cutR_ne {r s : Nat} (h : s ≠ r) : ∀ {R : List (Nat × D)}, look s (cutR r R) = look s R
  | [] => rfl
  | (q, d) :: l => by
    simp only [cutR]
    by_cases hq : q = r
    · rw [if_pos hq]; simp only [look]; rw [if_neg (by rintro rfl; exact h hq)]; exact look_cutR_ne h
    · rw [if_neg hq]; simp only [look, look_cutR_ne h]
theorem look_cutR_some {r s : Nat} {d : D} {R : List (Nat × D)} (h : look s (cutR r R) = some d) : s ≠ r ∧ look s R = some d := by
  have hs : s ≠ r := by rintro rfl; rw [look_cutR_self] at h; simp at h
  exact ⟨hs, by rwa [look_cutR_ne hs] at h⟩

def dropR (fr : Fr) (r : Nat) : Fr := { fr with roots := cutR r fr.roots, env := killE (inR r) fr.env }

theorem FR.cut (h : FR w0 L X0 w tm fr rv fp) (r : Nat) :
    FR w0 L X0 w tm (dropR fr r) rv fp ∧ ∀ x v, RepE w (XX X0 fr.roots fp) fr.roots rv x v → RepE w (XX X0 (dropR fr r).roots fp) (dropR fr r).roots rv (killV (inR r) x) v := by
  have hXX : ∀ b, XX X0 (cutR r fr.roots) fp b → XX X0 fr.roots fp b := by
    rintro b (hb | ⟨s, d', hs, hb⟩)
    · exact .inl hb
    · exact .inr ⟨s, d', (look_cutR_some hs).2, hb⟩
  have hst : ∀ F, Stay w w (XX X0 fr.roots fp) (XX X0 (cutR r fr.roots) fp) F := fun F => ⟨fun _ _ _ => rfl, fun b _ hb => hXX b hb⟩
  have tr : ∀ x v, RepE w (XX X0 fr.roots fp) fr.roots rv x v → RepE w (XX X0 (cutR r fr.roots) fp) (cutR r fr.roots) rv (killV (inR r) x) v := by
    intro x v hx
    refine killV_rep fun hk => RepE.move (hst E) x (fun y hy u hu => ?_) hx
    have hq := not_any (by rw [hk]; simp) y hy
    have hne : leafRoot y ≠ r := by
      rcases leaf_root x hy with ⟨r', p', o', rfl⟩ | ⟨r', p', o', sz, lo, n, rfl⟩ | ⟨r', p', o', rfl⟩ <;> simp only [inR, beq_eq_false_iff_ne] at hq <;> simpa only [leafRoot] using hq
    exact leaf_keep h (leaf_root x hy) (look_cutR_ne hne) rfl (fun _ _ _ _ => rfl) u hu
  refine ⟨⟨h.os, h.tape, h.output, h.size, h.x0, h.keep, fun s d hd => RepV.stay d (hst _) (h.root s d (look_cutR_some hd).2), fun s s' d1 d2 b hs hs' hb hb' => h.sep s s' d1 d2 b (look_cutR_some hs).2 (look_cutR_some hs').2 hb hb',
    fun s d b hs hb => h.new s d b (look_cutR_some hs).2 hb, fun s d b hs hb => h.out s d b (look_cutR_some hs).2 hb, ?_, h.nt⟩, tr⟩
  intro t x hx
  obtain ⟨y, hy, rfl⟩ := look_killE hx
  exact tr y _ (h.env t y hy)

/-- What new memory holds. -/
theorem new_ptr {X : Nat → Prop} {g : Nat} {c : Array Value} {ty : TypeId} {ds : List D} {φ : Nat → Nat → Prop} (hg : w.heap[g]? = some (.cells c ty (0, 0))) (hl : ds.length ≤ c.size)
    (hr : RepCs w X ds (memCv w g 0) 0 φ) (hd : Disj ds.length φ) (hn : ∀ i, i < ds.length → ¬ φ i g) : RepV w X (.ptr true ds) (.pointer (some ⟨g, 0, none⟩)) (fun b => b = g ∨ AllF ds.length φ b) := by
  simp only [RepV]
  exact ⟨g, φ, rfl, ⟨c, ty, hg, hl⟩, hr, hd, hn, fun b => Iff.rfl⟩

theorem new_row {X : Nat → Prop} {g sz n cap : Nat} {c : Array Value} {ty : TypeId} {ds : List D} {φ : Nat → Nat → Prop} (hg : w.heap[g]? = some (.cells c ty (0, 0))) (hl : ds.length = n * sz) (hcap : n ≤ cap) (hc : cap * sz ≤ c.size)
    (hr : RepCs w X ds (memCv w g 0) 0 φ) (hd : Disj ds.length φ) (hn : ∀ i, i < ds.length → ¬ φ i g) :
    RepV w X (.sl true sz n ds) (.slice (some ⟨g, 0, none⟩) n cap) (fun b => b = g ∨ AllF ds.length φ b) := by
  simp only [RepV]
  exact ⟨g, 0, cap, φ, rfl, hl, hcap, ⟨c, ty, hg, by omega⟩, hr, hd, hn, fun b => Iff.rfl⟩

/-- A slice under a name of its own. -/
theorem wrap_row {X : Nat → Prop} {d : D} {u : Value} {F : Nat → Prop} (h : RepV w X d u F) : RepV w X (.agg [d]) (.agg #[u]) F := by
  simp only [RepV]
  refine ⟨#[u], fun _ => F, rfl, rfl, ?_, fun i j b hi hj _ _ => by simp at hi hj; omega, fun b => ⟨fun hb => ⟨0, by simp, hb⟩, fun ⟨_, _, hb⟩ => hb⟩⟩
  simp only [RepCs, and_true]
  exact ⟨u, rfl, h⟩

/-- New memory becomes a root. The parts that it holds were handed over before. -/
theorem FR.born {n : Nat} {φ : Nat → Nat → Prop} {Y : Nat → Prop} (h : FR w0 L (fun b => X0 b ∨ AllF n φ b) w tm fr rv fp) (hm : ∀ b, AllF n φ b → ¬ X0 b ∧ (L b ∨ w0.heap.size ≤ b) ∧ b < w.heap.size)
    (hx0 : ∀ b, X0 b → b < w.heap.size) (hY : Y = XX (fun b => X0 b ∨ AllF n φ b) fr.roots fp)
    (hc : Chg w w' E) {g : Nat} (hg : w.heap.size ≤ g) (hg' : g < w'.heap.size) {r : Nat} (hr : look r fr.roots = none) {d0 : D} {u0 : Value}
    (hrep : ∀ Xe : Nat → Prop, (∀ b, b < w.heap.size → Xe b → Y b) → RepV w' Xe d0 u0 (fun b => b = g ∨ AllF n φ b)) :
    FR w0 L X0 w' tm { fr with roots := (r, d0) :: fr.roots } (setRv r u0 rv) (setFp r (fun b => b = g ∨ AllF n φ b) fp) ∧
    ∀ x v, RepE w Y fr.roots rv x v → RepE w' (XX X0 ((r, d0) :: fr.roots) (setFp r (fun b => b = g ∨ AllF n φ b) fp)) ((r, d0) :: fr.roots) (setRv r u0 rv) x v := by
  obtain ⟨h1, t1⟩ := h.chg hc (fun b hb => hb.elim) (fun b hb => hb.elim)
  have hgY : ∀ b, b = g ∨ AllF n φ b → Off (fun b => X0 b ∨ AllF n φ b) w w' b ∧ ¬ X0 b ∧ (L b ∨ w0.heap.size ≤ b) := by
    rintro b (rfl | hb)
    · exact ⟨.inr ⟨hg, hg'⟩, fun hx => absurd (hx0 _ hx) (by omega), .inr (Nat.le_trans h.size hg)⟩
    · exact ⟨.inl (.inr hb), (hm b hb).1, (hm b hb).2.1⟩
  obtain ⟨h2, t2⟩ := h1.add (X1 := X0) hr (d0 := d0) (u0 := u0) (F0 := fun b => b = g ∨ AllF n φ b) (fun b hb => .inl (.inl hb)) hgY (Xe := fun b => Y b ∨ w.heap.size ≤ b)
    (fun b hb hh => by
      rcases Nat.lt_or_ge b w.heap.size with hlt | hge
      · left
        rw [hY]
        rcases hh with hh | (rfl | hh) | hh
        · exact .inl (.inl hh)
        · omega
        · exact .inl (.inr hh)
        · exact .inr hh
      · exact .inr hge) (hrep _ fun b hb hx => hx.resolve_right (by omega))
  refine ⟨h2, fun x v hx => t2 x v (t1 x v ?_)⟩
  rw [hY] at hx; exact hx

/-- The parts, in new memory. -/
theorem parts_in {φ : Nat → Nat → Prop} {Y Xe : Nat → Prop} {ds : List D} {us : List Value} {g : Nat} {c : Array Value} {ty : TypeId} (hr : RepCs w Y ds (fun j => us[j]?) 0 φ) (hc : Chg w w' E)
    (hg' : w'.heap[g]? = some (.cells c ty (0, 0))) (hcs : ∀ (j : Nat) (u : Value), us[j]? = some u → c[j]? = some u) (hX : ∀ b, b < w.heap.size → Xe b → Y b) : RepCs w' Xe ds (memCv w' g 0) 0 φ := by
  have h1 : RepCs w Y ds (memCv w' g 0) 0 φ := by
    rw [repCs_iff] at hr ⊢
    intro i d hd
    obtain ⟨v, hv, hrv⟩ := hr i d hd
    simp only [Nat.zero_add] at hv hrv ⊢
    refine ⟨v, ?_, hrv⟩
    simp [memCv, World.cell?, hg', hcs i v hv]
  exact RepCs.stay ds (fun i hi => ⟨fun b hb _ => hc.keep b hb (fun hf => hf.elim), hX⟩) h1
end
end Go.Proofs.Ytgnohnlpicmnaaa.Vm
set_option linter.unusedSimpArgs false
set_option linter.unusedVariables false
namespace Go.Proofs.Ytgnohnlpicmnaaa.Vm
open Go
section
variable {P : Program} {w0 : World} {L X0 X1 : Nat → Prop} {w w' : World} {tm : Array Value} {fr : Fr} {rv : Nat → Value} {fp : Nat → Nat → Prop}

def bornV (fr : Fr) (dst : Nat) (d0 : D) : Fr := { dropR fr dst with roots := (dst, d0) :: (dropR fr dst).roots }

theorem repCs_len {X : Nat → Prop} {ds : List D} {c : Array Value} {cv : Nat → Option Value} {φ : Nat → Nat → Prop} (h : RepCs w X ds cv 0 φ) (hc : ∀ (j : Nat) (u : Value), cv j = some u → c[j]? = some u) : ds.length ≤ c.size := by
  rcases Nat.eq_zero_or_pos ds.length with h0 | h0
  · omega
  · rw [repCs_iff] at h
    obtain ⟨v, hv, _⟩ := h (ds.length - 1) _ (List.getElem?_eq_getElem (by omega))
    have := hc _ _ hv
    have := (Array.getElem?_eq_some_iff.1 this).1
    omega

/-- Parts are handed over to new memory. -/
theorem make_core (h : FR w0 L X0 w tm fr rv fp) {xs q : List V} {us vs : List Value} {ds : List D} {fr2 : Fr} {q' : List V} (hx : RepEs w (XX X0 fr.roots fp) fr.roots rv xs us) (hq : RepEs w (XX X0 fr.roots fp) fr.roots rv q vs) (he : moveAll fr xs q = some (ds, fr2, q'))
    (hc : Chg w w' E) {c : Array Value} {ty : TypeId} (hg : w'.heap[w.heap.size]? = some (.cells c ty (0, 0))) (hcs : ∀ (j : Nat) (u : Value), us[j]? = some u → c[j]? = some u) (dst : Nat) {d0 : D} {u0 : Value}
    (hd0 : ∀ (X : Nat → Prop) φ, RepCs w' X ds (memCv w' w.heap.size 0) 0 φ → Disj ds.length φ → (∀ i, i < ds.length → ¬ φ i w.heap.size) → ds.length = xs.length → ds.length ≤ c.size → RepV w' X d0 u0 (fun b => b = w.heap.size ∨ AllF ds.length φ b)) :
    ∃ fp', FR w0 L X0 w' tm (bornV fr2 dst d0) (setRv dst u0 rv) fp' ∧
      RepEs w' (XX X0 (bornV fr2 dst d0).roots fp') (bornV fr2 dst d0).roots (setRv dst u0 rv) (q'.map (killV (inR dst))) vs := by
  obtain ⟨φ, fp2, a1, a2, a3, a4, a5, a6, a7⟩ := moveAll_sound xs.length rfl h hx hq he
  obtain ⟨b1, b2⟩ := a4.cut dst
  have hlt : w.heap.size < w'.heap.size := (Array.getElem?_eq_some_iff.1 hg).1
  have hsub : ∀ b, XX (fun b => X0 b ∨ AllF xs.length φ b) (dropR fr2 dst).roots fp2 b → XX X0 fr.roots fp b := by
    intro b hb
    rw [← a6]
    rcases hb with hb | ⟨s, d', hs, hb⟩
    · exact .inl hb
    · exact .inr ⟨s, d', (look_cutR_some hs).2, hb⟩
  obtain ⟨c1, c2⟩ := FR.born (X0 := X0) (w' := w') (n := xs.length) (φ := φ) (Y := XX (fun b => X0 b ∨ AllF xs.length φ b) (dropR fr2 dst).roots fp2) b1 a5 h.x0 rfl hc (Nat.le_refl _) hlt (r := dst) look_cutR_self (d0 := d0) (u0 := u0) (by
    intro Xe hXe
    have hp := parts_in (w' := w') (Xe := Xe) (g := w.heap.size) a2 hc hg hcs (fun b hb hx => hsub b (hXe b hb hx))
    rw [← a1] at a3 ⊢
    exact hd0 Xe φ hp a3 (fun i hi hf => absurd (a5 _ ⟨i, by omega, hf⟩).2.2 (Nat.lt_irrefl _)) a1 (repCs_len a2 hcs))
  refine ⟨_, c1, ?_⟩
  have e : RepEs w (XX (fun b => X0 b ∨ AllF xs.length φ b) (dropR fr2 dst).roots fp2) (dropR fr2 dst).roots rv (q'.map (killV (inR dst))) vs := by
    rw [← a6] at a7
    exact repEs_kill b2 a7
  revert e
  generalize q'.map (killV (inR dst)) = l
  intro e
  clear hq he a7
  induction l generalizing vs with
  | nil => simp only [RepEs] at e ⊢; exact e
  | cons x l ih =>
    simp only [RepEs] at e ⊢
    obtain ⟨u, us', rfl, e1, e2⟩ := e
    exact ⟨u, us', rfl, c2 x u e1, ih e2⟩

theorem make_ptr (h : FR w0 L X0 w tm fr rv fp) {xs : List V} {us : List Value} {ds : List D} {fr2 : Fr} {q' : List V} (hx : RepEs w (XX X0 fr.roots fp) fr.roots rv xs us) (he : moveAll fr xs [] = some (ds, fr2, q'))
    (hc : Chg w w' E) {c : Array Value} {ty : TypeId} (hg : w'.heap[w.heap.size]? = some (.cells c ty (0, 0))) (hcs : ∀ (j : Nat) (u : Value), us[j]? = some u → c[j]? = some u) (dst : Nat) :
    ∃ rv' fp', FR w0 L X0 w' tm (bornV fr2 dst (.ptr true ds)) rv' fp' ∧
      RepE w' (XX X0 (bornV fr2 dst (.ptr true ds)).roots fp') (bornV fr2 dst (.ptr true ds)).roots rv' (.addr dst [] 0) (.pointer (some ⟨w.heap.size, 0, none⟩)) ∧ (∀ s, s ≠ dst → rv' s = rv s) := by
  obtain ⟨fp', h1, _⟩ := make_core h (q := []) (vs := []) hx (by simp [RepEs]) he hc hg hcs dst (d0 := .ptr true ds) (u0 := .pointer (some ⟨w.heap.size, 0, none⟩)) (fun X φ r1 r2 r3 _ r5 => new_ptr hg r5 r1 r2 r3)
  refine ⟨_, fp', h1, ?_, fun s hs => setRv_ne hs _ _⟩
  simp only [RepE]
  exact ⟨.ptr true ds, w.heap.size, 0, by simp [bornV, look], by simp [setRv_self], by simp [nav, setRv_self, rowB], by simp⟩

theorem make_row (h : FR w0 L X0 w tm fr rv fp) {xs : List V} {us : List Value} {ds : List D} {fr2 : Fr} {q' : List V} {n sz cap : Nat} (hx : RepEs w (XX X0 fr.roots fp) fr.roots rv xs us) (he : moveAll fr xs [] = some (ds, fr2, q'))
    (hc : Chg w w' E) {c : Array Value} {ty : TypeId} (hg : w'.heap[w.heap.size]? = some (.cells c ty (0, 0))) (hcs : ∀ (j : Nat) (u : Value), us[j]? = some u → c[j]? = some u) (hn : xs.length = n * sz) (hcap : n ≤ cap) (hcc : cap * sz ≤ c.size) (dst : Nat) :
    ∃ rv' fp', FR w0 L X0 w' tm (bornV fr2 dst (.agg [.sl true sz n ds])) rv' fp' ∧
      RepE w' (XX X0 (bornV fr2 dst (.agg [.sl true sz n ds])).roots fp') (bornV fr2 dst (.agg [.sl true sz n ds])).roots rv' (.ref dst [] 0) (.slice (some ⟨w.heap.size, 0, none⟩) n cap) ∧ (∀ s, s ≠ dst → rv' s = rv s) := by
  obtain ⟨fp', h1, _⟩ := make_core h (q := []) (vs := []) hx (by simp [RepEs]) he hc hg hcs dst (d0 := .agg [.sl true sz n ds]) (u0 := .agg #[.slice (some ⟨w.heap.size, 0, none⟩) n cap])
    (fun X φ r1 r2 r3 r4 r5 => wrap_row (new_row hg (by omega) hcap hcc r1 r2 r3))
  refine ⟨_, fp', h1, ?_, fun s hs => setRv_ne hs _ _⟩
  simp only [RepE]
  exact ⟨.agg [.sl true sz n ds], [.sl true sz n ds], .vals #[.slice (some ⟨w.heap.size, 0, none⟩) n cap], by simp [bornV, look], by simp [D.rowAt, D.row], by simp, by simp [nav, setRv_self, rowB], by simp [cvB], _, _, _, _, rfl⟩
end
end Go.Proofs.Ytgnohnlpicmnaaa.Vm
set_option linter.unusedSimpArgs false
set_option linter.unusedVariables false
namespace Go.Proofs.Ytgnohnlpicmnaaa.Vm
open Go

/-- The zero cells of many elements. -/
def zerosV (P : Program) (e : TypeId) (n : Nat) : Option (List V) := match zeroCs P e with
  | some zs => if n = 0 then some [] else if zs.length = P.cellsOf e ∧ zs ≠ [] then some ((List.range (n * zs.length)).map fun i => zs.getD (i % zs.length) .dead) else none
  | none => none

/-- What an operation makes in new memory: the values of its cells; of a slice also its length and the cells an element. -/
def madeV (P : Program) (ρ : Operand → V) : Op → Option (List V × Option (Nat × Nat))
  | .box _ x => match cellsV (ρ x) with
    | some xs => some (xs, none)
    | none => none
  | .alloc t => match zeroCs P t with
    | some zs => some (zs, none)
    | none => none
  | .buildSlice t len parts => match P.underlying t with
    | some (.slice e) => match zerosV P e len with
      | some zs => if len * P.cellsOf e ≤ 16777216 ∧ P.cellsOf e ≠ 0 then (match fillV (fun i => some (i * P.cellsOf e, P.cellsOf e)) zs (parts.toList.map fun q => (q.1, ρ q.2)) with
        | some cs => some (cs, some (len, P.cellsOf e))
        | none => none) else none
      | none => none
    | _ => none
  | .makeSlice t l c => match P.underlying t with
    | some (.slice e) => match ρ l, ρ c with
      | .val (.int _ l), .val (.int _ c) => if l = c ∧ 0 ≤ l ∧ ((P.info? e).map (·.bytes)).getD 0 * l ≤ 281474976710656 ∧ l ≤ 9223372036854775807 then (match zeroCs P e with
        | some [z] => if P.cellsOf e = 1 then some (List.replicate l.toNat z, some (l.toNat, 1)) else none
        | _ => none) else none
      | _, _ => none
    | _ => none
  | _ => none

def evm (P : Program) (fr : Fr) (dst : Nat) (op : Op) : Option (V × Fr) := match madeV P (opV fr.env) op with
  | some (xs, none) => match moveAll fr xs [] with
    | some (ds, fr2, _) => some (.addr dst [] 0, bornV fr2 dst (.ptr true ds))
    | none => none
  | some (xs, some (n, sz)) => match moveAll fr xs [] with
    | some (ds, fr2, _) => some (.ref dst [] 0, bornV fr2 dst (.agg [.sl true sz n ds]))
    | none => none
  | none => none

section
variable {P : Program} {w0 : World} {L X0 X1 : Nat → Prop} {w w' : World} {tm : Array Value} {fr : Fr} {rv : Nat → Value} {fp : Nat → Nat → Prop} {X : Nat → Prop} {R : List (Nat × D)}

theorem opV_sound {a : Act} (h : FR w0 L X0 w a.tmps fr rv fp) (x : Operand) : RepE w (XX X0 fr.roots fp) fr.roots rv (opV fr.env x) (Act.eval a x) := by
  cases x with
  | tmp t =>
    simp only [opV]
    split
    · rename_i y hy; exact h.env t y hy
    · simp only [RepE]
  | const v => exact constV_sound
  | func f => simp only [opV, Act.eval, RepE]; exact ⟨#[], rfl, rfl, by simp [RepEs]⟩
  | global g => simp only [opV, RepE]

theorem cells_repEs {vs : List V} {us : Array Value} (h : Cells w X R rv vs us) : RepEs w X R rv vs us.toList := by
  rw [repEs_iff]
  exact ⟨by simpa using h.1, fun i x u hx hu => h.2 i x u hx (by simpa using hu)⟩

theorem zeroCs_spec {t : TypeId} {zs : List V} (h : zeroCs P t = some zs) : ∃ i z, P.info? t = some i ∧ i.zero = some z ∧ zs = z.cells.toList.map constV := by
  unfold zeroCs at h
  split at h
  · rename_i i hi
    split at h
    · rename_i z hz
      exact ⟨i, z, hi, hz, (Option.some.inj h).symm⟩
    · simp at h
  · simp at h

theorem zeroCs_cells {z : Array Value} : Cells w X R rv (z.toList.map constV) z := by
  refine ⟨by simp, fun i x u hx hu => ?_⟩
  simp only [List.getElem?_map, Option.map_eq_some_iff] at hx
  obtain ⟨c, hc, rfl⟩ := hx
  rw [Array.getElem?_toList, hu] at hc
  obtain rfl := Option.some.inj hc
  exact constV_sound

theorem zerosV_cells {e : TypeId} {n : Nat} {zs : List V} {i : TypeInfo} {z : Value} (hi : P.info? e = some i) (hz : i.zero = some z) (h : zerosV P e n = some zs) :
    (n * i.size = 0 ∨ z.cells.size = i.size) ∧ Cells w X R rv zs ((Array.range (n * i.size)).map (z.cells[· % z.cells.size]!)) := by
  unfold zerosV at h
  simp only [zeroCs, hi, hz] at h
  have hcs : P.cellsOf e = i.size := by simp [Program.cellsOf, hi]
  split at h
  · rename_i h0
    obtain rfl := Option.some.inj h
    subst h0
    refine ⟨.inl (by simp), by simp, fun i x u hx => by simp at hx⟩
  · split at h
    · rename_i h1
      obtain rfl := Option.some.inj h
      have hs : z.cells.size = i.size := by have := h1.1; rw [hcs] at this; simpa using this
      refine ⟨.inr hs, by simp [hs], fun j x u hx hu => ?_⟩
      simp only [List.getElem?_map, Option.map_eq_some_iff, Array.getElem?_map] at hx hu
      obtain ⟨a, ha, rfl⟩ := hx
      obtain ⟨b, hb, rfl⟩ := hu
      have hj : j < n * i.size := by
        have := (List.getElem?_eq_some_iff.1 ha).1
        simpa [hs] using this
      have ea : a = j := by
        rw [List.getElem?_range (by simpa [hs] using hj)] at ha; exact (Option.some.inj ha).symm
      have eb : b = j := by
        have := (Array.getElem?_eq_some_iff.1 hb).2; simpa using this.symm
      rw [ea, eb]
      have hpos : 0 < z.cells.size := by
        rcases Nat.eq_zero_or_pos i.size with h0 | h0
        · simp [h0] at hj
        · omega
      have hlt : j % z.cells.size < z.cells.size := Nat.mod_lt _ hpos
      have e1 : (z.cells.toList.map constV).getD (j % (z.cells.toList.map constV).length) .dead = constV (z.cells[j % z.cells.size]!) := by
        simp [List.getD, hlt]
      rw [e1]
      exact constV_sound
    · simp at h

theorem fillV_length {place : Nat → Option (Nat × Nat)} : ∀ {ps : List (Nat × V)} {vs vs' : List V}, fillV place vs ps = some vs' → vs'.length = vs.length
  | [], vs, vs', he => by simp [fillV] at he; rw [he]
  | (i, x) :: ps, vs, vs', he => by
    simp only [fillV] at he
    split at he
    · split at he
      · split at he
        · rename_i hh
          rw [fillV_length he]
          simp only [List.length_append, List.length_take, List.length_drop]
          omega
        · simp at he
      · simp at he
    · simp at he

theorem evm_sound {a : Act} (h : FR w0 L X0 w a.tmps fr rv fp) {o : Oper} {dst : Nat} {y : V} {fr' : Fr} (he : evm P fr dst o.op = some (y, fr')) :
    ∃ u w' rv' fp', (execOp a.eval o).run P w = .ok (.value u) w' ∧ FR w0 L X0 w' a.tmps fr' rv' fp' ∧ RepE w' (XX X0 fr'.roots fp') fr'.roots rv' y u ∧ Chg w w' E ∧ (∀ s, s ≠ dst → rv' s = rv s) := by
  have key : ∀ {xs : List V} {us : Array Value} {m : Option (Nat × Nat)} {c : Array Value} {ty : TypeId}, madeV P (opV fr.env) o.op = some (xs, m) → Cells w (XX X0 fr.roots fp) fr.roots rv xs c →
      (match m with
        | none => (execOp a.eval o).run P w = .ok (.value (.pointer (some ⟨w.heap.size, 0, none⟩))) (w.alloc (.cells c ty))
        | some (n, sz) => xs.length = n * sz ∧ (execOp a.eval o).run P w = .ok (.value (.slice (some ⟨w.heap.size, 0, none⟩) n n)) (w.alloc (.cells c ty))) →
      ∃ u w' rv' fp', (execOp a.eval o).run P w = .ok (.value u) w' ∧ FR w0 L X0 w' a.tmps fr' rv' fp' ∧ RepE w' (XX X0 fr'.roots fp') fr'.roots rv' y u ∧ Chg w w' E ∧ (∀ s, s ≠ dst → rv' s = rv s) := by
    intro xs us m c ty hm hc hr
    have hchg : Chg w (w.alloc (.cells c ty)) E := ⟨rfl, rfl, rfl, by simp, fun b hb _ => heap_alloc_old w _ b hb⟩
    have hg : (w.alloc (.cells c ty)).heap[w.heap.size]? = some (.cells c ty (0, 0)) := heap_alloc_new w _
    unfold evm at he
    rw [hm] at he
    cases m with
    | none =>
      simp only at he hr
      split at he
      · rename_i ds fr2 q hmv
        obtain ⟨rfl, rfl⟩ := by simpa using he
        obtain ⟨rv', fp', a1, a2, a3⟩ := make_ptr h (cells_repEs hc) hmv hchg hg (fun j u hu => by simpa using hu) dst
        exact ⟨_, _, rv', fp', hr, a1, a2, hchg, a3⟩
      · simp at he
    | some p =>
      obtain ⟨n, sz⟩ := p
      simp only at he hr
      split at he
      · rename_i ds fr2 q hmv
        obtain ⟨rfl, rfl⟩ := by simpa using he
        obtain ⟨rv', fp', a1, a2, a3⟩ := make_row h (cells_repEs hc) hmv hchg hg (fun j u hu => by simpa using hu) hr.1 (Nat.le_refl n) (by rw [← hr.1, ← hc.1]; exact Nat.le_refl _) dst
        exact ⟨_, _, rv', fp', hr.2, a1, a2, hchg, a3⟩
      · simp at he
  have hρ : ∀ x, RepE w (XX X0 fr.roots fp) fr.roots rv (opV fr.env x) (a.eval x) := fun x => opV_sound h x
  cases hm : madeV P (opV fr.env) o.op with
  | none => simp [evm, hm] at he
  | some m =>
    obtain ⟨xs, m⟩ := m
    have hm0 := hm
    obtain ⟨odst, op, otype, pos, after, guard⟩ := o
    cases op with
    | box t x =>
      simp only [madeV] at hm
      split at hm
      · rename_i xs' hxs
        obtain ⟨rfl, rfl⟩ := by simpa using hm
        refine key (us := #[]) (c := (a.eval x).cells) (ty := t) (m := none) hm0 (cellsV_sound (hρ x) hxs) ?_
        simp [execOp, Instr.box, newVar, newRow]
      · simp at hm
    | alloc t =>
      simp only [madeV] at hm
      split at hm
      · rename_i xs' hxs
        obtain ⟨rfl, rfl⟩ := by simpa using hm
        obtain ⟨i, z, hi, hz, rfl⟩ := zeroCs_spec hxs
        refine key (us := #[]) (c := z.cells) (ty := t) (m := none) hm0 zeroCs_cells ?_
        simp [execOp, Instr.alloc, newVar, newRow, zeroValue, typeInfo, hi, hz]
      · simp at hm
    | buildSlice t len parts =>
      simp only [madeV] at hm
      split at hm
      · rename_i e hu
        split at hm
        · rename_i zs hzs
          split at hm
          · rename_i hsm
            split at hm
            · rename_i cs hf
              obtain ⟨rfl, rfl⟩ := by simpa using hm
              have hzc : ∃ z0, zeroCs P e = some z0 := by
                unfold zerosV at hzs
                split at hzs
                · rename_i z0 hz0; exact ⟨z0, hz0⟩
                · simp at hzs
              obtain ⟨z0, hz0⟩ := hzc
              obtain ⟨i, z, hi, hz, rfl⟩ := zeroCs_spec hz0
              have hcs : P.cellsOf e = i.size := by simp [Program.cellsOf, hi]
              obtain ⟨hor, hcells⟩ := zerosV_cells (w := w) (X := XX X0 fr.roots fp) (R := fr.roots) (rv := rv) hi hz hzs
              rw [hcs] at hf hsm
              obtain ⟨us', g1, g2⟩ := fill_sound (place := fun j => some (j * i.size, i.size)) _ (parts.map fun q => (q.1, a.eval q.2)).toList hcells (by simp) (fun j p q h1 h2 => by
                simp only [List.getElem?_map, Option.map_eq_some_iff, Array.getElem?_toList, Array.getElem?_map] at h1 h2
                obtain ⟨p', hp', rfl⟩ := h1
                obtain ⟨q', hq', rfl⟩ := h2
                rw [hq'] at hp'
                obtain rfl := Option.some.inj hp'
                exact ⟨rfl, hρ _⟩) hf
              have hlen : cs.length = len * i.size := by
                rw [fillV_length hf, ← hcells.1]; simp
              refine key (us := #[]) (c := us') (ty := e) (m := some (len, P.cellsOf e)) hm0 g2 ⟨by rw [hlen, hcs], ?_⟩
              have hns : ¬ len * i.size > 2 ^ 24 := by have := hsm.1; omega
              by_cases h0 : len * i.size = 0
              · have e0 : ((Array.range (len * i.size)).map (z.cells[· % z.cells.size]!)) = #[] := by rw [h0]; simp
                rw [e0] at g1
                simp [execOp, Instr.buildSlice, run_underlying hu, Go.sizeOf, typeInfo, hi, h0, newRow, Array.range_zero']
                simp at g1
                simp [g1]
              · simp [execOp, Instr.buildSlice, run_underlying hu, Go.sizeOf, typeInfo, zeroValue, hi, hz, hns, h0, newRow]
                simp at g1
                simp [g1]
            · simp at hm
          · simp at hm
        · simp at hm
      · simp at hm
    | makeSlice t l c =>
      simp only [madeV] at hm
      split at hm
      · rename_i e hu
        split at hm
        · rename_i kl l' kc c' hl hc
          split at hm
          · rename_i hcond
            obtain ⟨hlc, h0, hby, h63⟩ := hcond
            subst hlc
            split at hm
            · rename_i z' hz'
              split at hm
              · rename_i hs1
                obtain ⟨rfl, rfl⟩ := by simpa using hm
                obtain ⟨i, z, hi, hz, hzz⟩ := zeroCs_spec hz'
                have hcs : i.size = 1 := by simpa [Program.cellsOf, hi] using hs1
                have hzs : z.cells.size = 1 := by
                  have := congrArg List.length hzz
                  simpa using this.symm
                obtain ⟨z1, hz1⟩ : ∃ z1, z.cells = #[z1] := ⟨z.cells[0], Array.ext (by simp [hzs]) (fun j hj hj' => by simp at hj'; subst hj'; simp)⟩
                have hzv : z' = constV z1 := by simpa [hz1] using hzz
                subst hzv
                have el : Act.eval a l = .int kl l' := by have := hρ l; rw [hl] at this; exact repV_int (by simpa only [RepE] using this)
                have ec : Act.eval a c = .int kc l' := by have := hρ c; rw [hc] at this; exact repV_int (by simpa only [RepE] using this)
                refine key (us := #[]) (c := madeCells z.cells (l'.toNat * i.size)) (ty := e) (m := some (l'.toNat, 1)) hm0 ?_ ⟨by simp, ?_⟩
                · refine ⟨by simp [hcs, size_madeCells], fun j x u hx hu => ?_⟩
                  rw [List.getElem?_replicate] at hx
                  split at hx
                  · rename_i hj
                    obtain rfl := Option.some.inj hx
                    have : u = z1 := by
                      have := (Array.getElem?_eq_some_iff.1 hu).2
                      simp [madeCells, hz1] at this
                      rw [← this]
                      have : j % 1 = 0 := by omega
                      simp [this]
                    subst this
                    exact constV_sound
                  · simp at hx
                · have hb : (i.bytes : Int) * l' ≤ 281474976710656 := by simpa [hi] using hby
                  simp only [execOp, el, ec, Sem.run_bind, run_make w t e i z hu hi hz kl kc l' l' h0 (Int.le_refl _) hb h63, Result.andThen_ok, Sem.run_pure]
              · simp at hm
            · simp at hm
          · simp at hm
        · simp at hm
      · simp at hm
    | _ => simp [madeV] at hm
end
end Go.Proofs.Ytgnohnlpicmnaaa.Vm
