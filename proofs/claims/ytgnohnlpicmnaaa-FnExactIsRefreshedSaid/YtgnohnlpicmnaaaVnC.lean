/- Part of a machine that runs a Go function on plain values, with the proof that what it yields is what the function yields. -/
import Derived.Test.YtgnohnlpicmnaaaVnB
import Derived.Laws.AppendOwn
set_option linter.unusedSimpArgs false
set_option linter.unusedVariables false
namespace Go.Proofs.Ytgnohnlpicmnaaa.Vm
open Go

def D.isCell : D → Bool
  | .int .. | .bool .. | .str .. | .nil | .sl .. | .ptr .. | .fn .. => true
  | _ => false

/-- One cell of an owned row is written. -/
def writeC (fr : Fr) (r : Nat) (p : List Nat) (o : Nat) (x : D) : Option Fr := match look r fr.roots with
  | some d => match d.rowAt p with
    | some row => match row[o]? with
      | some e => match e with
        | .sl true _ _ _ => some { fr with roots := updR r (d.setAt p o x) fr.roots, env := killE (badS r p o) (killE (badT r p) fr.env) }
        | .gone => some { fr with roots := updR r (d.setAt p o x) fr.roots, env := killE (badS r p o) fr.env }
        | e => if e.plain = true then some { fr with roots := updR r (d.setAt p o x) fr.roots, env := killE (badS r p o) fr.env } else none
      | none => none
    | none => none
  | none => none

def writeAll (fr : Fr) (r : Nat) (p : List Nat) (o : Nat) : List D → Option Fr
  | [] => some fr
  | d :: ds => match writeC fr r p o d with
    | some fr1 => writeAll fr1 r p (o + 1) ds
    | none => none

/-- A store. -/
def evs (P : Program) (fr : Fr) (t : TypeId) (ad x : V) : Option Fr := match ad with
  | .addr r p o => match cellsV x with
    | some xs => if xs.length = P.cellsOf t ∧ xs ≠ [] then (match moveAll fr xs [.addr r p o] with
      | some (ds, fr2, [.addr r' p' o']) => writeAll fr2 r' p' o' ds
      | _ => none) else none
    | none => none
  | _ => none

section
variable {P : Program} {w0 : World} {L X0 X1 : Nat → Prop} {w w' : World} {tm : Array Value} {fr : Fr} {rv : Nat → Value} {fp : Nat → Nat → Prop} {X : Nat → Prop} {R : List (Nat × D)}

theorem moveC_cell {x : V} {d : D} {fr' : Fr} {bad : V → Bool} (he : moveC fr x = some (d, fr', bad)) : d.isCell = true := by
  unfold moveC at he
  split at he
  · split at he
    · rename_i d0 hp
      obtain ⟨rfl, rfl, rfl⟩ := by simpa using he
      cases d0 <;> first | rfl | simp [D.plain] at hp
    · simp at he
  · obtain ⟨rfl, rfl, rfl⟩ := by simpa using he
    rfl
  · split at he
    · split at he
      · split at he
        · obtain ⟨rfl, rfl, rfl⟩ := by simpa using he
          rfl
        · simp at he
      · simp at he
    · simp at he
  · split at he
    · obtain ⟨rfl, rfl, rfl⟩ := by simpa using he
      rfl
    · simp at he
  · simp at he

theorem moveAll_cell : ∀ (n : Nat) {fr : Fr} {xs q : List V} {ds : List D} {fr' : Fr} {q' : List V}, xs.length = n → moveAll fr xs q = some (ds, fr', q') → ∀ d ∈ ds, d.isCell = true
  | 0, fr, xs, q, ds, fr', q', hn, he => by
    obtain rfl := List.eq_nil_of_length_eq_zero hn
    simp only [moveAll] at he
    obtain ⟨rfl, rfl, rfl⟩ := by simpa using he
    simp
  | n + 1, fr, xs, q, ds, fr', q', hn, he => by
    obtain ⟨x, xs, rfl⟩ := List.exists_cons_of_ne_nil (l := xs) (by rintro rfl; simp at hn)
    rw [moveAll] at he
    cases hm : moveC fr x with
    | none => simp [hm] at he
    | some m =>
      obtain ⟨d, fr1, bad⟩ := m
      simp only [hm] at he
      cases hm2 : moveAll fr1 (xs.map (killV bad)) (q.map (killV bad)) with
      | none => simp [hm2] at he
      | some m2 =>
        obtain ⟨ds2, fr2, q2⟩ := m2
        simp only [hm2] at he
        obtain ⟨rfl, rfl, rfl⟩ := by simpa using he
        intro d' hd'
        rcases List.mem_cons.1 hd' with rfl | hd'
        · exact moveC_cell hm
        · exact moveAll_cell n (by simpa using hn) hm2 d' hd'

theorem cell_value {X : Nat → Prop} {d : D} {v : Value} {F : Nat → Prop} (h : RepV w X d v F) (hd : d.isCell = true) : v.oneCell' = true ∧ v.cells = #[v] := by
  cases d with
  | int k n => simp only [RepV] at h; rw [h.1]; exact ⟨rfl, rfl⟩
  | bool k => simp only [RepV] at h; rw [h.1]; exact ⟨rfl, rfl⟩
  | str k => simp only [RepV] at h; rw [h.1]; exact ⟨rfl, rfl⟩
  | nil => simp only [RepV] at h; rw [h.1]; exact ⟨rfl, rfl⟩
  | sl own sz n cs =>
    cases own with
    | true => simp only [RepV] at h; obtain ⟨g, o, cap, φ, rfl, _⟩ := h; exact ⟨rfl, rfl⟩
    | false => simp only [RepV] at h; obtain ⟨A, cap, rfl, _⟩ := h; exact ⟨rfl, rfl⟩
  | ptr own cs =>
    cases own with
    | true => simp only [RepV] at h; obtain ⟨g, φ, rfl, _⟩ := h; exact ⟨rfl, rfl⟩
    | false => simp only [RepV] at h; obtain ⟨A, rfl, _⟩ := h; exact ⟨rfl, rfl⟩
  | fn f cap => simp only [RepV] at h; obtain ⟨vs, φ, rfl, _⟩ := h; exact ⟨rfl, rfl⟩
  | _ => simp [D.isCell] at hd

theorem setAt_setAt {o : Nat} {x y : D} : ∀ {p : List Nat} {d : D} {row : List D}, d.rowAt p = some row → o < row.length → (d.setAt p o x).setAt p o y = d.setAt p o y
  | [], d, row, h, ho => by
    have h' : d.row = some row := by simpa [D.rowAt] using h
    simp only [D.setAt, h', setRow_row h']
    cases d with
    | sl own sz n ds => cases own <;> simp [D.row] at h'; simp [D.setRow]
    | ptr own ds => cases own <;> simp [D.row] at h'; simp [D.setRow]
    | agg ds => simp [D.setRow]
    | _ => simp [D.row] at h'
  | i :: p, d, row, h, ho => by
    cases hd : d.row with
    | none => simp [D.rowAt, hd] at h
    | some cs =>
      cases hc : cs[i]? with
      | none => simp [D.rowAt, hd, hc] at h
      | some e1 =>
        have hi : i < cs.length := (List.getElem?_eq_some_iff.1 hc).1
        have hr : e1.rowAt p = some row := by
          cases e1 with
          | sl own sz n ds =>
            cases own with
            | true => simpa only [D.rowAt, hd, hc] using h
            | false => simp [D.rowAt, hd, hc] at h
          | _ => simp [D.rowAt, hd, hc] at h
        have ih := setAt_setAt (x := x) (y := y) hr ho
        simp only [D.setAt, hd, hc, setRow_row hd, List.getElem?_set_self hi, ih]
        cases d with
        | sl own sz n ds => cases own <;> simp [D.row] at hd; simp [D.setRow]
        | ptr own ds => cases own <;> simp [D.row] at hd; simp [D.setRow]
        | agg ds => simp [D.setRow]
        | _ => simp [D.row] at hd

theorem updR_updR {r : Nat} {d d' : D} : ∀ {R : List (Nat × D)}, updR r d (updR r d' R) = updR r d R
  | [] => rfl
  | (s, x) :: l => by
    simp only [updR]
    by_cases hs : s = r
    · simp [hs, updR]
    · simp [hs, updR, updR_updR]

theorem writeC_sound (h : FR w0 L X0 w tm fr rv fp) {r o : Nat} {p : List Nat} {x : D} {fr' : Fr} {g k : Nat} {u : Value} {F : Nat → Prop} (hn : nav w (rv r) p = some (.mem g k)) (hX : ∀ b, X1 b → X0 b)
    (hF : ∀ b, F b → X0 b ∧ ¬ X1 b ∧ (L b ∨ w0.heap.size ≤ b)) (hrep : RepV w (XX X0 fr.roots fp) x u F) (he : writeC fr r p o x = some fr') :
    (w.cell? ⟨g, k + o, none⟩).isSome = true ∧ w.frozen? ⟨g, k + o, none⟩ = false ∧ ∃ fp', FR w0 L X1 (w.setCell ⟨g, k + o, none⟩ u) tm fr' rv fp' ∧
      (∀ y v, (leaves y).any (badT r p) = false → (leaves y).any (badS r p o) = false → RepE w (XX X0 fr.roots fp) fr.roots rv y v → RepE (w.setCell ⟨g, k + o, none⟩ u) (XX X1 fr'.roots fp') fr'.roots rv y v) ∧
      (∀ d0 v0 F0, (∀ b, F0 b → X0 b) → RepV w (XX X0 fr.roots fp) d0 v0 F0 → RepV (w.setCell ⟨g, k + o, none⟩ u) (XX X1 fr'.roots fp') d0 v0 F0) ∧
      (∀ b, XX X1 fr'.roots fp' b → XX X0 fr.roots fp b) := by
  unfold writeC at he
  split at he
  · rename_i d hd
    split at he
    · rename_i row hr
      split at he
      · rename_i e hro
        have ho : o < row.length := (List.getElem?_eq_some_iff.1 hro).1
        have simple : e.plain = true ∨ e = .gone → fr' = { fr with roots := updR r (d.setAt p o x) fr.roots, env := killE (badS r p o) fr.env } → _ := fun hg hfr => by
          subst hfr
          obtain ⟨a1, a2, a3, a4, a5, a6⟩ := h.write (X1 := X1) hd hr hro hg hn hX hF (Xe := XX X0 fr.roots fp) (fun b hb hh => by
            rcases hh with hh | hh | hh
            · exact .inl (hX b hh)
            · exact .inl (hF b hh).1
            · exact .inr hh) hrep
          exact (show (w.cell? ⟨g, k + o, none⟩).isSome = true ∧ w.frozen? ⟨g, k + o, none⟩ = false ∧ ∃ fp', FR w0 L X1 (w.setCell ⟨g, k + o, none⟩ u) tm { fr with roots := updR r (d.setAt p o x) fr.roots, env := killE (badS r p o) fr.env } rv fp' ∧
      (∀ y v, (leaves y).any (badT r p) = false → (leaves y).any (badS r p o) = false → RepE w (XX X0 fr.roots fp) fr.roots rv y v → RepE (w.setCell ⟨g, k + o, none⟩ u) (XX X1 (updR r (d.setAt p o x) fr.roots) fp') (updR r (d.setAt p o x) fr.roots) rv y v) ∧
      (∀ d0 v0 F0, (∀ b, F0 b → X0 b) → RepV w (XX X0 fr.roots fp) d0 v0 F0 → RepV (w.setCell ⟨g, k + o, none⟩ u) (XX X1 (updR r (d.setAt p o x) fr.roots) fp') d0 v0 F0) ∧
      (∀ b, XX X1 (updR r (d.setAt p o x) fr.roots) fp' b → XX X0 fr.roots fp b) from
            ⟨a1, a2, _, a3, fun y v _ hy hyv => a4 y v hy hyv, fun d0 v0 F0 hF0 hr0 => RepV.stay d0 ⟨fun _ _ _ => rfl, fun b _ hb => a6 b hb⟩ (a5 d0 v0 F0 hF0 hr0), a6⟩)
        split at he
        · -- what was owned there goes first
          rename_i sz n cs
          obtain rfl := Option.some.inj he
          obtain ⟨bk, u0, Fe, b1, b2, b3, b4, b5, b6, b7⟩ := h.take hd hr hro
          have hXt := XX_upd (X0 := X0) (d' := d.setAt p o .gone) hd b7
          have hsub : ∀ b, F b → X0 b ∨ Fe b := fun b hb => .inl (hF b hb).1
          obtain ⟨a1, a2, a3, a4, a5, a6⟩ := b5.write (X1 := X1) (r := r) (o := o) (p := p) (e := .gone) (e' := x) (look_updR hd) (setAt_rowAt hr ho) (List.getElem?_set_self ho) (.inr rfl) hn (fun b hb => .inl (hX b hb))
            (fun b hb => ⟨.inl (hF b hb).1, (hF b hb).2⟩) (Xe := XX X0 fr.roots fp) (fun b hb hh => by
              rw [← hXt]
              rcases hh with hh | hh | hh
              · exact .inl (.inl (hX b hh))
              · exact .inl (hsub b hh)
              · exact .inr hh) hrep
          simp only [updR_updR, setAt_setAt hr ho] at a3 a4 a6
          rw [hXt] at a5 a6
          refine ⟨a1, a2, _, a3, fun y v hT hy hyv => a4 y v hy (b6 y v hT hyv), fun d0 v0 F0 hF0 hr0 => RepV.stay d0 ⟨fun _ _ _ => rfl, fun b _ hb => a6 b hb⟩ (a5 d0 v0 F0 (fun b hb => .inl (hF0 b hb)) hr0), a6⟩
        · obtain rfl := Option.some.inj he
          exact simple (.inr rfl) rfl
        · split at he
          · rename_i hp
            obtain rfl := Option.some.inj he
            exact simple (.inl hp) rfl
          · simp at he
      · simp at he
    · simp at he
  · simp at he
end
end Go.Proofs.Ytgnohnlpicmnaaa.Vm
set_option linter.unusedSimpArgs false
set_option linter.unusedVariables false
namespace Go.Proofs.Ytgnohnlpicmnaaa.Vm
open Go
section
variable {P : Program} {w0 : World} {L : Nat → Prop} {tm : Array Value} {rv : Nat → Value}

theorem allF_succ (φ : Nat → Nat → Prop) (n : Nat) (b : Nat) : AllF (n + 1) φ b ↔ φ 0 b ∨ AllF n (fun j => φ (j + 1)) b := by
  constructor
  · rintro ⟨i, hi, hb⟩
    cases i with
    | zero => exact .inl hb
    | succ i => exact .inr ⟨i, by omega, hb⟩
  · rintro (hb | ⟨i, hi, hb⟩)
    · exact ⟨0, by omega, hb⟩
    · exact ⟨i + 1, by omega, hb⟩

theorem repCs_tail {w : World} {X : Nat → Prop} {cv : Nat → Option Value} {φ : Nat → Nat → Prop} {cs : List D} (h : RepCs w X cs cv 1 φ) : RepCs w X cs (fun j => cv (j + 1)) 0 (fun j => φ (j + 1)) := by
  rw [repCs_iff] at *
  intro i d hd
  obtain ⟨v, hv, hr⟩ := h i d hd
  refine ⟨v, by simpa [Nat.add_comm] using hv, ?_⟩
  have : φ (1 + i) = φ (0 + i + 1) := by congr 1; omega
  show RepV w X d v (φ (0 + i + 1))
  rw [← this]; exact hr

theorem addr_lit (g K i : Nat) : (⟨g, K, none⟩ : Addr).add i = ⟨g, K + i, none⟩ := by unfold Addr.add; split <;> simp_all

theorem writeAll_sound : ∀ (ds : List D) {X0 : Nat → Prop} {w : World} {fr : Fr} {fp : Nat → Nat → Prop} {us : List Value} {φ : Nat → Nat → Prop} {r o0 i : Nat} {p : List Nat} {fr' : Fr} {g K : Nat},
    FR w0 L (fun b => X0 b ∨ AllF ds.length φ b) w tm fr rv fp → (∀ b, AllF ds.length φ b → ¬ X0 b ∧ (L b ∨ w0.heap.size ≤ b)) → Disj ds.length φ →
    RepCs w (XX (fun b => X0 b ∨ AllF ds.length φ b) fr.roots fp) ds (fun j => us[j]?) 0 φ → us.length = ds.length → (∀ d ∈ ds, d.isCell = true) →
    RepE w (XX (fun b => X0 b ∨ AllF ds.length φ b) fr.roots fp) fr.roots rv (.addr r p o0) (.pointer (some ⟨g, K, none⟩)) → writeAll fr r p (o0 + i) ds = some fr' →
    ∃ w' fp', (storeCells ⟨g, K, none⟩ us i).run P w = .ok () w' ∧ FR w0 L X0 w' tm fr' rv fp'
  | [], X0, w, fr, fp, us, φ, r, o0, i, p, fr', g, K, h, hF, hD, hr, hl, hc, hA, he => by
    obtain rfl := List.eq_nil_of_length_eq_zero hl
    simp only [writeAll] at he
    obtain rfl := Option.some.inj he
    have e : (fun b => X0 b ∨ AllF ([] : List D).length φ b) = X0 := by funext b; simp [AllF]
    rw [e] at h
    exact ⟨w, fp, rfl, h⟩
  | d :: ds, X0, w, fr, fp, us, φ, r, o0, i, p, fr', g, K, h, hF, hD, hr, hl, hc, hA, he => by
    obtain ⟨u, us, rfl⟩ := List.exists_cons_of_ne_nil (l := us) (by rintro rfl; simp at hl)
    simp only [writeAll] at he
    cases hw : writeC fr r p (o0 + i) d with
    | none => simp [hw] at he
    | some fr1 =>
      simp only [hw] at he
      simp only [RepCs] at hr
      obtain ⟨⟨u', hu', hr0⟩, hrs⟩ := hr
      have : u' = u := by simpa using hu'.symm
      subst this
      have hA' := hA
      simp only [RepE] at hA'
      obtain ⟨d1, g', k', a1, a2, a3, a4⟩ := hA'
      have hg : g = g' ∧ K = k' + o0 := by simpa using a4
      obtain ⟨rfl, rfl⟩ := hg
      have hall := allF_succ φ ds.length
      obtain ⟨b1, b2, fp1, b3, b4, b5, b6⟩ := writeC_sound (X1 := fun b => X0 b ∨ AllF ds.length (fun j => φ (j + 1)) b) (F := φ 0) h a3
        (fun b hb => hb.imp id fun hb => (hall b).2 (.inr hb))
        (fun b hb => ⟨.inr ((hall b).2 (.inl hb)), fun hx => hx.elim (hF b ((hall b).2 (.inl hb))).1 (fun ⟨j, hj, hj'⟩ => by
          have := hD 0 (j + 1) b (by simp) (by simp; omega) hb hj'; omega), (hF b ((hall b).2 (.inl hb))).2⟩) hr0 hw
      have hadd : (⟨g, k' + o0, none⟩ : Addr).add i = ⟨g, k' + (o0 + i), none⟩ := by rw [addr_lit, Nat.add_assoc]
      obtain ⟨cv, hcv⟩ := Option.isSome_iff_exists.1 b1
      have hst : (store ((⟨g, k' + o0, none⟩ : Addr).add i) u').run P w = .ok () (w.setCell ⟨g, k' + (o0 + i), none⟩ u') := by
        rw [hadd, run_store P w _ _ _ (cell_value hr0 (hc d (by simp))).1, hcv]
        simp [b2]
      have hA2 := b4 (.addr r p o0) _ (by simp [leaves, badT]) (by simp [leaves, badS]) hA
      obtain ⟨w', fp', c1, c2⟩ := writeAll_sound ds (i := i + 1) b3 (fun b hb => hF b ((hall b).2 (.inr hb))) (fun i j b hi hj h1 h2 => by have := hD (i + 1) (j + 1) b (by simp; omega) (by simp; omega) h1 h2; omega)
        (by
          have hrs' := repCs_tail hrs
          simp only [List.getElem?_cons_succ] at hrs'
          rw [repCs_iff] at hrs' ⊢
          intro j dj hdj
          obtain ⟨v, hv, hrv⟩ := hrs' j dj hdj
          refine ⟨v, hv, b5 dj v _ (fun b hb => ?_) hrv⟩
          have hj : j < ds.length := (List.getElem?_eq_some_iff.1 hdj).1
          exact .inr ((hall b).2 (.inr ⟨j, hj, by simpa using hb⟩)))
        (by simpa using hl) (fun d' hd' => hc d' (by simp [hd'])) hA2 (by rw [← Nat.add_assoc]; exact he)
      refine ⟨w', fp', ?_, c2⟩
      simp only [storeCells, Sem.run_bind, hst, Result.andThen_ok, c1]

theorem evs_sound {a : Act} {X0 : Nat → Prop} {w : World} {fr fr' : Fr} {fp : Nat → Nat → Prop} (h : FR w0 L X0 w tm fr rv fp) {t : TypeId} {ad x : V} {va vx : Value} (ha : RepE w (XX X0 fr.roots fp) fr.roots rv ad va) (hx : RepE w (XX X0 fr.roots fp) fr.roots rv x vx)
    (he : evs P fr t ad x = some fr') : ∃ w' fp', (Instr.storeAt t va vx).run P w = .ok () w' ∧ FR w0 L X0 w' tm fr' rv fp' := by
  unfold evs at he
  split at he
  · rename_i r p o
    split at he
    · rename_i xs hxs
      split at he
      · rename_i hlen
        split at he
        · rename_i ds fr2 r' p' o' hm
          have hc := cellsV_sound hx hxs
          have hq : RepEs w (XX X0 fr.roots fp) fr.roots rv [.addr r p o] [va] := by simp only [RepEs]; exact ⟨va, [], rfl, ha, rfl⟩
          obtain ⟨φ, fp2, b1, b2, b3, b4, b5, b6, b7⟩ := moveAll_sound xs.length rfl h (cells_repEs hc) hq hm
          simp only [RepEs] at b7
          obtain ⟨u1, us1, e1, b7, _⟩ := b7
          have : va = u1 := by simpa using (List.cons.inj e1).1
          subst this
          have hA := b7
          simp only [RepE] at hA
          obtain ⟨d1, g, k, a1, a2, a3, rfl⟩ := hA
          rw [← b6] at b2 b7
          rw [← b1] at b2 b3 b4 b5 b7
          obtain ⟨w', fp', c1, c2⟩ := writeAll_sound (P := P) (i := 0) ds b4 (fun b hb => ⟨(b5 b hb).1, (b5 b hb).2.1⟩) b3 b2 (by rw [b1, ← hc.1]; simp) (moveAll_cell xs.length rfl hm) b7 he
          refine ⟨w', fp', ?_, c2⟩
          have hne : P.cellsOf t ≠ 0 := by rw [← hlen.1]; intro h0; exact hlen.2 (List.eq_nil_of_length_eq_zero h0)
          have hsz : vx.cells.size = P.cellsOf t := by rw [hc.1, hlen.1]
          simp only [Instr.storeAt, Instr.sureAddr, storeVar, Sem.run_bind, Sem.run_pure, Result.andThen_ok, r_sizeOf (info_of_cells hne), hsz, ne_eq, not_true_eq_false, if_false, c1]
        · simp at he
      · simp at he
    · simp at he
  · simp at he
end
end Go.Proofs.Ytgnohnlpicmnaaa.Vm
set_option linter.unusedSimpArgs false
set_option linter.unusedVariables false
namespace Go.Proofs.Ytgnohnlpicmnaaa.Vm
open Go
section
variable {P : Program} {w : World}

/-- What stands in a row of memory. -/
def rowVals (w : World) (g o n : Nat) : List Value := (List.range n).map fun j => (memCv w g o j).getD undef

theorem rowVals_len (w : World) (g o n : Nat) : (rowVals w g o n).length = n := by simp [rowVals]
theorem rowVals_get {w : World} {X : Nat → Prop} {cs : List D} {g o : Nat} {φ : Nat → Nat → Prop} (h : RepCs w X cs (memCv w g o) 0 φ) :
    RepCs w X cs (fun j => (rowVals w g o cs.length)[j]?) 0 φ ∧ ∀ (j : Nat) (u : Value), (rowVals w g o cs.length)[j]? = some u → memCv w g o j = some u := by
  rw [repCs_iff] at h
  have key : ∀ j, j < cs.length → ∃ v, memCv w g o j = some v ∧ (rowVals w g o cs.length)[j]? = some v := by
    intro j hj
    obtain ⟨v, hv, _⟩ := h j _ (List.getElem?_eq_getElem hj)
    simp only [Nat.zero_add] at hv
    exact ⟨v, hv, by simp [rowVals, hj, hv]⟩
  constructor
  · rw [repCs_iff]
    intro i d hd
    obtain ⟨v, hv, hr⟩ := h i d hd
    have hi : i < cs.length := (List.getElem?_eq_some_iff.1 hd).1
    obtain ⟨v', h1, h2⟩ := key i hi
    simp only [Nat.zero_add] at hv hr ⊢
    rw [hv] at h1; obtain rfl := Option.some.inj h1
    exact ⟨v, h2, hr⟩
  · intro j u hu
    have hj : j < cs.length := by have := (List.getElem?_eq_some_iff.1 hu).1; simpa [rowVals_len] using this
    obtain ⟨v', h1, h2⟩ := key j hj
    rw [h2] at hu; obtain rfl := Option.some.inj hu
    exact h1

theorem append_law (t ty e : TypeId) (i : TypeInfo) (z : Value) (ht : P.underlying t = some (.slice e)) (hi : P.info? e = some i) (hz : i.zero = some z) (hzs : z.cells.size = i.size)
    {vs vx : Value} {n m : Nat} {olds news : List Value} (hso : olds.length = n * i.size) (hsn : news.length = m * i.size)
    (hs : (vs = .slice none 0 0 ∧ n = 0 ∧ 0 < m) ∨ ∃ g o cap, vs = .slice (some ⟨g, o, none⟩) n cap ∧ n ≤ cap ∧ OwnBlk w g (o + cap * i.size) ∧ ∀ (j : Nat) (u : Value), olds[j]? = some u → memCv w g o j = some u)
    (hx : (vx = .slice none 0 0 ∧ m = 0) ∨ ∃ A c, vx = .slice (some A) m c ∧ (news = [] ∨ A.spot = none) ∧ ∀ (j : Nat) (u : Value), news[j]? = some u → memCv w A.block A.off j = some u)
    (h1 : ∀ u ∈ news, u.oneCell' = true) (h47 : (n + m) * max 1 i.bytes ≤ 140737488355328) :
    ∃ w' g' o' cap', (Builtin.append_ #[t, t] ty #[vs, vx]).run P w = .ok (.slice (some ⟨g', o', none⟩) (n + m) cap') w' ∧ n + m ≤ cap' ∧ OwnBlk w' g' (o' + cap' * i.size) ∧
      (∀ (j : Nat) (u : Value), (olds ++ news)[j]? = some u → memCv w' g' o' j = some u) ∧
      ((∃ o cap, vs = .slice (some ⟨g', o, none⟩) n cap ∧ Chg w w' (fun b => b = g')) ∨ (g' = w.heap.size ∧ g' < w'.heap.size ∧ Chg w w' E)) := by
  have hb1 : n + m ≤ 140737488355328 := Nat.le_trans (Nat.le_mul_of_pos_right _ (by omega)) h47
  have hb2 : (n + m) * i.bytes ≤ 140737488355328 := Nat.le_trans (Nat.mul_le_mul_left _ (by omega)) h47
  have hfirst : ∀ w1 : World, w1.heap = w.heap → (Builtin.firstCells i.size m vx).run P w1 = .ok news.toArray w1 := by
    intro w1 hw1
    rcases hx with ⟨rfl, rfl⟩ | ⟨A, c, rfl, hA, hn⟩
    · have : news = [] := List.eq_nil_of_length_eq_zero (by simpa using hsn)
      subst this
      exact run_firstCells_none w1 _ _ _ _
    · refine run_firstCells_some w1 _ _ A m c news hsn fun j v hj => ?_
      have hsp : A.spot = none := hA.resolve_left (by rintro rfl; simp at hj)
      have := hn j v hj
      obtain ⟨b, of, sp⟩ := A
      simp only at hsp; subst hsp
      rw [addr_lit]
      simpa [memCv, World.cell?, hw1] using this
  have hlen : ∀ w1 : World, (Builtin.lenOf vx).run P w1 = .ok m w1 := by
    intro w1
    rcases hx with ⟨rfl, rfl⟩ | ⟨A, c, rfl, _⟩ <;> rfl
  have hzeros : ∀ w1 : World, ((do pure ((← underlying t) matches .int _) : Sem Bool)).run P w1 = .ok false w1 := by
    intro w1
    simp [run_underlying ht]
  -- a new block
  have grown : ∀ (w1 : World) (cells : Array Value) (cap' : Nat), w1.heap = w.heap → w1.os = w.os → w1.tape = w.tape → w1.output = w.output → n + m ≤ cap' → (cells.size = cap' * i.size) → (∀ (j : Nat) (u : Value), (olds ++ news)[j]? = some u → cells[j]? = some u) →
      n + m ≤ cap' ∧ OwnBlk (w1.alloc (.cells cells e)) w.heap.size (0 + cap' * i.size) ∧ (∀ (j : Nat) (u : Value), (olds ++ news)[j]? = some u → memCv (w1.alloc (.cells cells e)) w.heap.size 0 j = some u) ∧
      (w.heap.size = w.heap.size ∧ w.heap.size < (w1.alloc (.cells cells e)).heap.size ∧ Chg w (w1.alloc (.cells cells e)) E) := by
    intro w1 cells cap' hh1 hh2 hh3 hh4 hcap hcs hcells
    have hnew : (w1.alloc (.cells cells e)).heap[w.heap.size]? = some (.cells cells e (0, 0)) := by rw [← hh1]; exact heap_alloc_new w1 _
    refine ⟨hcap, ⟨cells, e, hnew, by omega⟩, fun j u hj => ?_, rfl, by simp [hh1], ⟨hh2, hh3, hh4, by simp [hh1], fun b hb _ => ?_⟩⟩
    · simp [memCv, World.cell?, hnew, hcells j u hj]
    · rw [← hh1]; exact heap_alloc_old w1 _ b (by rw [hh1]; exact hb)
  rcases hs with ⟨rfl, rfl, hm⟩ | ⟨g, o, cap, rfl, hcap, hown, hold⟩
  · have ho : olds = [] := List.eq_nil_of_length_eq_zero (by simpa using hso)
    subst ho
    have hge := grownCap_ge w m 0 e
    have hr : (Builtin.append_ #[t, t] ty #[.slice none 0 0, vx]).run P w =
      .ok (.slice (some ⟨w.heap.size, 0, none⟩) (0 + m) (grownCap w m 0 e)) (w.drew.alloc (.cells (news.toArray ++ Builtin.zeroCells z.cells (grownCap w m 0 e - m)) e)) := by
      have hn : m ≠ 0 := by omega
      have h63' : ¬ (9223372036854775807 < (m : Int)) := by omega
      have h48' : ¬ (281474976710656 < Builtin.nextslicecap m 0 * i.bytes) := by rw [nextslicecap_zero hm]; simp only [Nat.zero_add] at hb2; omega
      have hf := hfirst w.drew rfl
      simp [Builtin.append_, run_underlying ht, Go.sizeOf, typeInfo, zeroValue, hi, hz, hlen, hn, h63', h48', Question.forced, run_firstCells_none, hf, newRow, grownCap]
    refine ⟨_, _, _, _, hr, ?_⟩
    obtain ⟨a1, a2, a3, a4⟩ := grown w.drew (news.toArray ++ Builtin.zeroCells z.cells (grownCap w m 0 e - m)) (grownCap w m 0 e) rfl rfl rfl rfl (by omega) (by
      simp only [Array.size_append, List.size_toArray, size_zeroCells, hzs, hsn, ← Nat.add_mul]; congr 1; omega) (fun j u hj => by
      simp only [List.nil_append] at hj
      have hlt : j < news.length := (List.getElem?_eq_some_iff.1 hj).1
      rw [Array.getElem?_append_left (by simpa using hlt)]; simpa using hj)
    exact ⟨a1, a2, a3, .inr a4⟩
  · by_cases hroom : n + m ≤ cap
    · obtain ⟨c, bty, hg, hc⟩ := hown
      have hfit : o + n * i.size + 0 + news.length ≤ c.size := by
        have : n * i.size + m * i.size ≤ cap * i.size := by rw [← Nat.add_mul]; exact Nat.mul_le_mul_right _ hroom
        omega
      have hst := run_storeCells_at P g (o + n * i.size) bty news 0 c w hg hfit h1
      have hf := hfirst w rfl
      have hr : (Builtin.append_ #[t, t] ty #[.slice (some ⟨g, o, none⟩) n cap, vx]).run P w =
        .ok (.slice (some ⟨g, o, none⟩) (n + m) cap) (w.setRow g (c.toList.take (o + n * i.size + 0) ++ news ++ c.toList.drop (o + n * i.size + 0 + news.length)).toArray) := by
        simp only [Nat.add_zero] at hst ⊢
        simp [Builtin.append_, run_underlying ht, Go.sizeOf, typeInfo, hi, hlen, hroom, hf, addr_lit, hst]
      have hrow := setRow_heap w g c (c.toList.take (o + n * i.size + 0) ++ news ++ c.toList.drop (o + n * i.size + 0 + news.length)).toArray bty _ hg
      refine ⟨_, g, o, cap, hr, hroom, ⟨_, bty, hrow, ?_⟩, fun j u hj => ?_, .inl ⟨o, cap, rfl, rfl, rfl, rfl, by simp [World.setRow], fun b hb hne => setRow_other w g b _ hne⟩⟩
      · simp only [List.size_toArray, List.length_append, List.length_take, List.length_drop, Array.length_toList]; omega
      · simp only [memCv, World.cell?, hrow, List.getElem?_toArray]
        rw [List.append_assoc]
        by_cases hlt : j < olds.length
        · rw [List.getElem?_append_left hlt] at hj
          have := hold j u hj
          simp only [memCv, World.cell?, hg] at this
          rw [List.getElem?_append_left (by simp; rw [hso] at hlt; omega), List.getElem?_take_of_lt (by rw [hso] at hlt; omega)]
          simpa using this
        · rw [List.getElem?_append_right (by omega)] at hj
          have hlt2 : j - olds.length < news.length := (List.getElem?_eq_some_iff.1 hj).1
          have hl1 : (c.toList.take (o + n * i.size + 0)).length = o + n * i.size := by simp; omega
          rw [List.getElem?_append_right (by rw [hl1]; omega), hl1, List.getElem?_append_left (by omega)]
          have e1 : o + j - (o + n * i.size) = j - olds.length := by omega
          rw [e1]; exact hj
    · have hge := grownCap_ge w (n + m) cap e
      have hold' : ∀ j v, olds[j]? = some v → w.cell? ((⟨g, o, none⟩ : Addr).add j) = some v := fun j v hj => by rw [addr_lit]; exact hold j v hj
      have hn : ¬ (n + m ≤ cap) := hroom
      have h63' : ¬ (9223372036854775807 < ((n : Int) + (m : Int))) := by omega
      have h48' : ¬ (281474976710656 < Builtin.nextslicecap (n + m) cap * i.bytes) := by have := growslice_fits (need := n + m) (old := cap) (by omega) hb2; omega
      have hf := hfirst w.drew rfl
      have hfo := run_firstCells_some (P := P) w.drew i.size n ⟨g, o, none⟩ n cap olds hso (by simpa using hold')
      have hr : (Builtin.append_ #[t, t] ty #[.slice (some ⟨g, o, none⟩) n cap, vx]).run P w =
        .ok (.slice (some ⟨w.heap.size, 0, none⟩) (n + m) (grownCap w (n + m) cap e)) (w.drew.alloc (.cells (olds.toArray ++ news.toArray ++ Builtin.zeroCells z.cells (grownCap w (n + m) cap e - (n + m))) e)) := by
        simp [Builtin.append_, run_underlying ht, Go.sizeOf, typeInfo, zeroValue, hi, hz, hlen, hn, h63', h48', Question.forced, hf, hfo, newRow, grownCap]
        congr 2
        apply Array.ext'
        simp [List.append_assoc]
      refine ⟨_, _, _, _, hr, ?_⟩
      obtain ⟨a1, a2, a3, a4⟩ := grown w.drew (olds.toArray ++ news.toArray ++ Builtin.zeroCells z.cells (grownCap w (n + m) cap e - (n + m))) (grownCap w (n + m) cap e) rfl rfl rfl rfl hge (by
        simp only [Array.size_append, List.size_toArray, size_zeroCells, hzs, hso, hsn, ← Nat.add_mul]; congr 1; omega) (fun j u hj => by
        have hlt : j < (olds ++ news).length := (List.getElem?_eq_some_iff.1 hj).1
        rw [Array.getElem?_append_left (by simpa using hlt)]
        simpa using hj)
      exact ⟨a1, a2, a3, .inr a4⟩
end
end Go.Proofs.Ytgnohnlpicmnaaa.Vm
set_option linter.unusedSimpArgs false
set_option linter.unusedVariables false
namespace Go.Proofs.Ytgnohnlpicmnaaa.Vm
open Go

/-- Of a type of slices: the cells an element, and its bytes (one at least). -/
def appInfo (P : Program) (t : TypeId) : Option (Nat × Nat) := match P.underlying t with
  | some (.slice e) => match P.info? e with
    | some i => match i.zero with
      | some z => if z.cells.size = i.size ∧ i.size ≠ 0 then some (i.size, max 1 i.bytes) else none
      | none => none
    | none => none
  | _ => none

def oldOf (fr : Fr) (sz : Nat) (x : V) : Option (Nat × List D × Fr) := match moveC fr x with
  | some (.nil, fr', _) => some (0, [], fr')
  | some (.sl true sz' n cs, fr', _) => if sz' = sz then some (n, cs, fr') else none
  | _ => none

def newsOf (fr : Fr) (sz : Nat) (x : V) : Option (Nat × List D × Fr) := match x with
  | .val .nil => some (0, [], fr)
  | x => match holds fr.roots x with
    | some (sz', m, ds) => if sz' = sz then
        (if ds.all D.plain = true then some (m, ds, fr)
         else match moveC fr x with
          | some (.sl true sz'' m' ds', fr', _) => if sz'' = sz ∧ ds'.all D.isCell = true then some (m', ds', fr') else none
          | _ => none) else none
    | none => none

def isNilC : V → Bool
  | .val .nil => true
  | _ => false

def eva (P : Program) (fr : Fr) (dst : Nat) (t : TypeId) (s x : Operand) : Option (V × Fr) := match appInfo P t with
  | some (sz, by_) => match oldOf fr sz (opV fr.env s) with
    | some (n, cs, fr1) => match newsOf fr1 sz (opV fr1.env x) with
      | some (m, ds, fr2) => if m = 0 ∧ isNilC (opV fr.env s) = true then some (.val .nil, fr2)
        else if (n + m) * by_ ≤ 140737488355328 then some (.ref dst [] 0, bornV fr2 dst (.agg [.sl true sz (n + m) (cs ++ ds)])) else none
      | none => none
    | none => none
  | none => none

section
variable {P : Program} {w0 : World} {L X0 X1 : Nat → Prop} {w w' : World} {tm : Array Value} {fr : Fr} {rv : Nat → Value} {fp : Nat → Nat → Prop} {X : Nat → Prop} {R : List (Nat × D)}

/-- What was handed over comes to be a root, in a world that has turned there alone. -/
theorem FR.reborn {M F0 : Nat → Prop} (h : FR w0 L (fun b => X0 b ∨ M b) w tm fr rv fp) (hm : ∀ b, M b → ¬ X0 b ∧ (L b ∨ w0.heap.size ≤ b)) (hx0 : ∀ b, X0 b → b < w.heap.size)
    (hc : Chg w w' M) (hF0 : ∀ b, F0 b → M b ∨ (w.heap.size ≤ b ∧ b < w'.heap.size)) {r : Nat} (hr : look r fr.roots = none) {d0 : D} {u0 : Value}
    (hrep : ∀ Xe : Nat → Prop, (∀ b, b < w.heap.size → Xe b → XX (fun b => X0 b ∨ M b) fr.roots fp b) → RepV w' Xe d0 u0 F0) :
    FR w0 L X0 w' tm { fr with roots := (r, d0) :: fr.roots } (setRv r u0 rv) (setFp r F0 fp) ∧
    ∀ x v, RepE w (XX (fun b => X0 b ∨ M b) fr.roots fp) fr.roots rv x v → RepE w' (XX X0 ((r, d0) :: fr.roots) (setFp r F0 fp)) ((r, d0) :: fr.roots) (setRv r u0 rv) x v := by
  obtain ⟨h1, t1⟩ := h.chg hc (fun b hb => .inr hb) (fun b hb => (hm b hb).2)
  obtain ⟨h2, t2⟩ := h1.add (X1 := X0) hr (d0 := d0) (u0 := u0) (F0 := F0) (fun b hb => .inl (.inl hb)) (fun b hb => by
      rcases hF0 b hb with hb | ⟨hb, hb'⟩
      · exact ⟨.inl (.inr hb), (hm b hb).1, (hm b hb).2⟩
      · exact ⟨.inr ⟨hb, hb'⟩, fun hx => absurd (hx0 b hx) (by omega), .inr (Nat.le_trans h.size hb)⟩)
    (Xe := fun b => XX (fun b => X0 b ∨ M b) fr.roots fp b ∨ w.heap.size ≤ b)
    (fun b hb hh => by
      rcases Nat.lt_or_ge b w.heap.size with hlt | hge
      · left
        rcases hh with hh | hh | hh
        · exact .inl (.inl hh)
        · rcases hF0 b hh with hh | hh
          · exact .inl (.inr hh)
          · omega
        · exact .inr hh
      · exact .inr hge) (hrep _ fun b hb hx => hx.resolve_right (by omega))
  exact ⟨h2, fun x v hx => t2 x v (t1 x v hx)⟩

def joinF (k : Nat) (φ ψ : Nat → Nat → Prop) : Nat → Nat → Prop := fun j => if j < k then φ j else ψ (j - k)

theorem allF_join {k m : Nat} {φ ψ : Nat → Nat → Prop} (b : Nat) : AllF (k + m) (joinF k φ ψ) b ↔ AllF k φ b ∨ AllF m ψ b := by
  constructor
  · rintro ⟨i, hi, hb⟩
    by_cases h : i < k
    · simp only [joinF, if_pos h] at hb; exact .inl ⟨i, h, hb⟩
    · simp only [joinF, if_neg h] at hb; exact .inr ⟨i - k, by omega, hb⟩
  · rintro (⟨i, hi, hb⟩ | ⟨i, hi, hb⟩)
    · exact ⟨i, by omega, by simpa only [joinF, if_pos hi] using hb⟩
    · exact ⟨k + i, by omega, by have : ¬ k + i < k := by omega
                                 simp only [joinF, if_neg this]; rwa [Nat.add_sub_cancel_left]⟩

theorem disj_join {k m : Nat} {φ ψ : Nat → Nat → Prop} (h1 : Disj k φ) (h2 : Disj m ψ) (h3 : ∀ b, AllF k φ b → ¬ AllF m ψ b) : Disj (k + m) (joinF k φ ψ) := by
  intro i j b hi hj hb hb'
  by_cases c1 : i < k <;> by_cases c2 : j < k
  · simp only [joinF, if_pos c1, if_pos c2] at hb hb'; exact h1 i j b c1 c2 hb hb'
  · simp only [joinF, if_pos c1, if_neg c2] at hb hb'; exact absurd ⟨_, by omega, hb'⟩ (h3 b ⟨i, c1, hb⟩)
  · simp only [joinF, if_neg c1, if_pos c2] at hb hb'; exact absurd ⟨_, by omega, hb⟩ (h3 b ⟨j, c2, hb'⟩)
  · simp only [joinF, if_neg c1, if_neg c2] at hb hb'
    have := h2 (i - k) (j - k) b (by omega) (by omega) hb hb'; omega

theorem repCs_join {Y Xe : Nat → Prop} {cs ds : List D} {us vs : List Value} {φ ψ : Nat → Nat → Prop} {cv : Nat → Option Value} (h1 : RepCs w Y cs (fun j => us[j]?) 0 φ) (h2 : RepCs w Y ds (fun j => vs[j]?) 0 ψ) (hl : us.length = cs.length)
    (hcv : ∀ (j : Nat) (u : Value), (us ++ vs)[j]? = some u → cv j = some u) (hs : ∀ i, i < cs.length → Stay w w' Y Xe (φ i)) (hs' : ∀ i, i < ds.length → Stay w w' Y Xe (ψ i)) :
    RepCs w' Xe (cs ++ ds) cv 0 (joinF cs.length φ ψ) := by
  rw [repCs_iff] at h1 h2 ⊢
  intro i d hd
  simp only [Nat.zero_add] at h1 h2 ⊢
  by_cases hi : i < cs.length
  · rw [List.getElem?_append_left hi] at hd
    obtain ⟨v, hv, hr⟩ := h1 i d hd
    refine ⟨v, hcv i v (by rw [List.getElem?_append_left (by omega)]; exact hv), ?_⟩
    simp only [joinF, if_pos hi]
    exact RepV.stay d (hs i hi) hr
  · rw [List.getElem?_append_right (by omega)] at hd
    obtain ⟨v, hv, hr⟩ := h2 _ d hd
    refine ⟨v, hcv i v (by rw [List.getElem?_append_right (by omega), hl]; exact hv), ?_⟩
    simp only [joinF, if_neg hi]
    exact RepV.stay d (hs' _ (List.getElem?_eq_some_iff.1 hd).1) hr

theorem appInfo_spec {t : TypeId} {sz by_ : Nat} (h : appInfo P t = some (sz, by_)) : ∃ e i z, P.underlying t = some (.slice e) ∧ P.info? e = some i ∧ i.zero = some z ∧ z.cells.size = i.size ∧ sz = i.size ∧ sz ≠ 0 ∧ by_ = max 1 i.bytes := by
  unfold appInfo at h
  split at h
  · rename_i e hu
    split at h
    · rename_i i hi
      split at h
      · rename_i z hz
        split at h
        · rename_i hc
          obtain ⟨rfl, rfl⟩ := by simpa using h
          exact ⟨e, i, z, hu, hi, hz, hc.1, rfl, hc.2, rfl⟩
        · simp at h
      · simp at h
    · simp at h
  · simp at h

theorem orOr (X0 F G : Nat → Prop) : (fun b => (X0 b ∨ F b) ∨ G b) = fun b => X0 b ∨ (F b ∨ G b) := by funext b; rw [or_assoc]

/-- The old part of an append. -/
theorem oldOf_sound (h : FR w0 L X0 w tm fr rv fp) {x : V} {v : Value} {sz n : Nat} {cs : List D} {fr' : Fr} (hx : RepE w (XX X0 fr.roots fp) fr.roots rv x v) (he : oldOf fr sz x = some (n, cs, fr')) :
    ∃ (F : Nat → Prop) (fp' : Nat → Nat → Prop) (olds : List Value) (φ : Nat → Nat → Prop), FR w0 L (fun b => X0 b ∨ F b) w tm fr' rv fp' ∧ (∀ b, F b → ¬ X0 b ∧ (L b ∨ w0.heap.size ≤ b) ∧ b < w.heap.size) ∧ XX (fun b => X0 b ∨ F b) fr'.roots fp' = XX X0 fr.roots fp ∧
      olds.length = cs.length ∧ cs.length = n * sz ∧ RepCs w (XX X0 fr.roots fp) cs (fun j => olds[j]?) 0 φ ∧ Disj cs.length φ ∧ (∀ b, AllF cs.length φ b → F b) ∧
      ((v = .slice none 0 0 ∧ n = 0) ∨ (∃ g o cap, v = .slice (some ⟨g, o, none⟩) n cap ∧ n ≤ cap ∧ OwnBlk w g (o + cap * sz) ∧ F g ∧ ¬ AllF cs.length φ g ∧ ∀ (j : Nat) (u : Value), olds[j]? = some u → memCv w g o j = some u)) := by
  unfold oldOf at he
  split at he
  · rename_i fr1 bad hm
    obtain ⟨rfl, rfl, rfl⟩ := by simpa using he
    obtain ⟨F, fp1, a1, a2, a3, a4, a5⟩ := moveC_sound h hx hm
    exact ⟨F, fp1, [], fun _ _ => False, a2, a3, a4, rfl, by simp, by simp [RepCs], fun i j b hi => by simp at hi, fun b hb => by simp [AllF] at hb, .inl ⟨repV_nil a1, rfl⟩⟩
  · rename_i sz' n' cs' fr1 bad hm
    split at he
    · rename_i hsz
      obtain ⟨rfl, rfl, rfl⟩ := by simpa using he
      subst hsz
      obtain ⟨F, fp1, a1, a2, a3, a4, a5⟩ := moveC_sound h hx hm
      simp only [RepV] at a1
      obtain ⟨g, o, cap, φ, b1, b2, b3, b4, b5, b6, b7, b8⟩ := a1
      obtain ⟨c1, c2⟩ := rowVals_get b5
      exact ⟨F, fp1, rowVals w g o cs'.length, φ, a2, a3, a4, rowVals_len _ _ _ _, b2, c1, b6, fun b hb => (b8 b).2 (.inr hb), .inr ⟨g, o, cap, b1, b3, b4, (b8 g).2 (.inl rfl), fun ⟨i, hi, hb⟩ => b7 i hi hb, c2⟩⟩
    · simp at he
  · simp at he

/-- What is appended. -/
theorem newsOf_sound (h : FR w0 L X0 w tm fr rv fp) {x : V} {v : Value} {sz m : Nat} {ds : List D} {fr' : Fr} (hx : RepE w (XX X0 fr.roots fp) fr.roots rv x v) (he : newsOf fr sz x = some (m, ds, fr')) :
    ∃ (F : Nat → Prop) (fp' : Nat → Nat → Prop) (news : List Value) (φ : Nat → Nat → Prop), FR w0 L (fun b => X0 b ∨ F b) w tm fr' rv fp' ∧ (∀ b, F b → ¬ X0 b ∧ (L b ∨ w0.heap.size ≤ b) ∧ b < w.heap.size) ∧ XX (fun b => X0 b ∨ F b) fr'.roots fp' = XX X0 fr.roots fp ∧
      news.length = ds.length ∧ ds.length = m * sz ∧ RepCs w (XX X0 fr.roots fp) ds (fun j => news[j]?) 0 φ ∧ Disj ds.length φ ∧ (∀ b, AllF ds.length φ b → F b) ∧ (∀ u ∈ news, u.oneCell' = true) ∧
      ((v = .slice none 0 0 ∧ m = 0) ∨ ∃ A c, v = .slice (some A) m c ∧ (news = [] ∨ A.spot = none) ∧ ∀ (j : Nat) (u : Value), news[j]? = some u → memCv w A.block A.off j = some u) := by
  have ones : ∀ {Y : Nat → Prop} {cs : List D} {us : List Value} {φ : Nat → Nat → Prop}, RepCs w Y cs (fun j => us[j]?) 0 φ → us.length = cs.length → (∀ d ∈ cs, d.isCell = true) → ∀ u ∈ us, u.oneCell' = true := by
    intro Y cs us φ hr hl hc u hu
    obtain ⟨j, hj⟩ := List.getElem?_of_mem hu
    have hlt : j < cs.length := by rw [← hl]; exact (List.getElem?_eq_some_iff.1 hj).1
    rw [repCs_iff] at hr
    obtain ⟨v', hv', hrv⟩ := hr j _ (List.getElem?_eq_getElem hlt)
    simp only [Nat.zero_add] at hv'
    rw [hj] at hv'; obtain rfl := Option.some.inj hv'
    exact (cell_value hrv (hc _ (List.getElem_mem hlt))).1
  have eE := orE X0
  unfold newsOf at he
  split at he
  · obtain ⟨rfl, rfl, rfl⟩ := by simpa using he
    refine ⟨E, fp, [], fun _ _ => False, by rw [eE]; exact h, fun b hb => hb.elim, by rw [eE], rfl, by simp, by simp [RepCs], fun i j b hi => by simp at hi, fun b hb => by simp [AllF] at hb, by simp, .inl ⟨repV_nil (by simpa only [RepE] using hx), rfl⟩⟩
  · rename_i x' _
    split at he
    · rename_i sz' m' ds' hh
      split at he
      · rename_i hsz
        subst hsz
        split at he
        · rename_i hall
          obtain ⟨rfl, rfl, rfl⟩ := by simpa using he
          obtain ⟨A, c, rfl, h2, h3, h4, h5⟩ := holds_sound h hx hh
          have hr : RepCs w (XX X0 fr.roots fp) ds' (memCv w A.block A.off) 0 (fun _ _ => False) := by
            rw [repCs_iff]
            intro i d hd
            obtain ⟨u, F, hu, hr⟩ := h5 i d hd
            exact ⟨u, by simpa using hu, plain_fp hr (List.all_eq_true.1 hall d (List.mem_of_getElem? hd))⟩
          obtain ⟨c1, c2⟩ := rowVals_get hr
          have hcell : ∀ d ∈ ds', d.isCell = true := fun d hd => by
            have := List.all_eq_true.1 hall d hd
            cases d <;> first | rfl | simp [D.plain] at this
          refine ⟨E, fp, rowVals w A.block A.off ds'.length, fun _ _ => False, by rw [eE]; exact h, fun b hb => hb.elim, by rw [eE], rowVals_len _ _ _ _, h3, c1, fun i j b _ _ hb => hb.elim, fun b ⟨_, _, hb⟩ => hb.elim,
            ones c1 (rowVals_len _ _ _ _) hcell, .inr ⟨A, c, rfl, h4.imp (fun h0 => by subst h0; rfl) id, c2⟩⟩
        · split at he
          · rename_i sz'' m'' ds'' fr1 bad hm
            split at he
            · rename_i hc
              obtain ⟨rfl, rfl, rfl⟩ := by simpa using he
              obtain ⟨hsz'', hall⟩ := hc
              subst hsz''
              obtain ⟨F, fp1, a1, a2, a3, a4, a5⟩ := moveC_sound h hx hm
              simp only [RepV] at a1
              obtain ⟨g, o, cap, φ, b1, b2, b3, b4, b5, b6, b7, b8⟩ := a1
              obtain ⟨c1, c2⟩ := rowVals_get b5
              exact ⟨F, fp1, rowVals w g o ds''.length, φ, a2, a3, a4, rowVals_len _ _ _ _, b2, c1, b6, fun b hb => (b8 b).2 (.inr hb), ones c1 (rowVals_len _ _ _ _) (fun d hd => List.all_eq_true.1 hall d hd),
                .inr ⟨⟨g, o, none⟩, cap, b1, .inr rfl, c2⟩⟩
            · simp at he
          · simp at he
      · simp at he
    · simp at he
end
end Go.Proofs.Ytgnohnlpicmnaaa.Vm
set_option linter.unusedSimpArgs false
set_option linter.unusedVariables false
namespace Go.Proofs.Ytgnohnlpicmnaaa.Vm
open Go
section
variable {P : Program} {w0 : World} {L X0 X1 : Nat → Prop} {w w' : World} {tm : Array Value} {fr : Fr} {rv : Nat → Value} {fp : Nat → Nat → Prop} {X : Nat → Prop} {R : List (Nat × D)}

theorem isNilC_spec {x : V} (h : isNilC x = true) : x = .val .nil := by
  unfold isNilC at h
  split at h
  · rfl
  · simp at h

theorem eva_sound {a : Act} (h : FR w0 L X0 w a.tmps fr rv fp) {dst : Nat} {t ty : TypeId} {s x : Operand} {y : V} {fr' : Fr} (he : eva P fr dst t s x = some (y, fr')) :
    ∃ u w' rv' fp', (Builtin.append_ #[t, t] ty #[a.eval s, a.eval x]).run P w = .ok u w' ∧ FR w0 L X0 w' a.tmps fr' rv' fp' ∧ RepE w' (XX X0 fr'.roots fp') fr'.roots rv' y u ∧ (∀ s, s ≠ dst → rv' s = rv s) := by
  unfold eva at he
  split at he
  · rename_i sz by_ hinfo
    obtain ⟨e, i, z, hu, hi, hz, hzs, rfl, hsz0, rfl⟩ := appInfo_spec hinfo
    split at he
    · rename_i n cs fr1 hold
      split at he
      · rename_i m ds fr2 hnew
        have hs := opV_sound h s
        obtain ⟨F, fp1, olds, φ, a1, a2, a3, a4, a5, a6, a7, a8, a9⟩ := oldOf_sound h hs hold
        have hx := opV_sound a1 x
        obtain ⟨G, fp2, news, ψ, b1, b2, b3, b4, b5, b6, b7, b8, b8', b9⟩ := newsOf_sound a1 hx hnew
        rw [orOr] at b1 b3
        have hM : ∀ b, F b ∨ G b → ¬ X0 b ∧ (L b ∨ w0.heap.size ≤ b) := fun b hb => by
          rcases hb with hb | hb
          · exact ⟨(a2 b hb).1, (a2 b hb).2.1⟩
          · exact ⟨fun hx0 => (b2 b hb).1 (.inl hx0), (b2 b hb).2.1⟩
        have hXX : XX (fun b => X0 b ∨ (F b ∨ G b)) fr2.roots fp2 = XX X0 fr.roots fp := by rw [b3, a3]
        split at he
        · rename_i hnil
          obtain ⟨rfl, rfl⟩ := by simpa using he
          obtain ⟨rfl, hnil⟩ := hnil
          have hv := isNilC_spec hnil
          rw [hv] at hs hold
          have hvs : a.eval s = .slice none 0 0 := repV_nil (by simpa only [RepE] using hs)
          have hn0 : n = 0 := by
            simp [oldOf, moveC, D.plain] at hold
            exact hold.1.symm
          subst hn0
          obtain ⟨c1, _⟩ := b1.less (X0 := X0) (fun b hb => .inl hb)
          refine ⟨.slice none 0 0, w, rv, fp2, ?_, c1, by simp only [RepE, RepV]; exact ⟨trivial, fun _ => id⟩, fun _ _ => rfl⟩
          rw [hvs]
          have hnews : news = [] := List.eq_nil_of_length_eq_zero (by rw [b4, b5]; simp)
          rcases b9 with ⟨hvx, _⟩ | ⟨A, c, hvx, _⟩
          · rw [hvx]
            simp [Builtin.append_, run_underlying hu, Go.sizeOf, typeInfo, hi, Builtin.lenOf, run_firstCells_none]
          · rw [hvx]
            have hf := run_firstCells_some (P := P) w i.size 0 A 0 c [] (by simp) (by simp)
            simp [Builtin.append_, run_underlying hu, Go.sizeOf, typeInfo, hi, Builtin.lenOf, hf]
        · rename_i hnn
          split at he
          · rename_i hroom
            obtain ⟨rfl, rfl⟩ := by simpa using he
            have hnn' : m = 0 → a.eval s ≠ .slice none 0 0 ∨ n ≠ 0 := by
              intro hm0
              left
              intro hv
              -- a nil that is not told as nil is none
              rcases a9 with ⟨_, hn⟩ | ⟨g, o, cap, hv', _⟩
              · apply hnn
                refine ⟨hm0, ?_⟩
                unfold oldOf at hold
                split at hold
                · rename_i fr0 bad hmv
                  cases hxs : opV fr.env s with
                  | val d =>
                    rw [hxs] at hmv
                    simp only [moveC] at hmv
                    split at hmv
                    · obtain ⟨rfl, _, _⟩ := by simpa using hmv
                      rfl
                    · simp at hmv
                  | ref r p o => rw [hxs] at hmv; simp only [moveC] at hmv; repeat (first | (split at hmv) | (simp at hmv))
                  | fn f vs => rw [hxs] at hmv; cases vs <;> simp [moveC] at hmv
                  | addr r p o => rw [hxs] at hmv; cases p <;> cases o <;> simp [moveC] at hmv <;> (split at hmv <;> simp at hmv)
                  | _ => rw [hxs] at hmv; simp [moveC] at hmv
                · rename_i sz' n' cs' fr0 bad hmv
                  obtain ⟨F', fp', q1, _⟩ := moveC_sound h hs hmv
                  simp only [RepV] at q1
                  obtain ⟨g, o, cap, φ', q2, _⟩ := q1
                  rw [hv] at q2; simp at q2
                · simp at hold
              · rw [hv] at hv'; simp at hv'
            have hlaw := append_law (w := w) t ty e i z hu hi hz hzs (vs := a.eval s) (vx := a.eval x) (n := n) (m := m) (olds := olds) (news := news) (by rw [a4, a5]) (by rw [b4, b5])
              (by
                rcases a9 with ⟨hv, hn⟩ | ⟨g, o, cap, hv, h1, h2, _, _, h3⟩
                · refine .inl ⟨hv, hn, ?_⟩
                  rcases Nat.eq_zero_or_pos m with hm | hm
                  · rcases hnn' hm with h0 | h0
                    · exact absurd hv h0
                    · exact absurd hn h0
                  · exact hm
                · exact .inr ⟨g, o, cap, hv, h1, h2, h3⟩)
              b9 b8' hroom
            obtain ⟨w', g', o', cap', c1, c2, c3, c4, c5⟩ := hlaw
            -- which block it is
            have hg : (F g' ∧ ¬ AllF cs.length φ g' ∧ ¬ AllF ds.length ψ g' ∧ Chg w w' (fun b => b = g')) ∨ (g' = w.heap.size ∧ g' < w'.heap.size ∧ Chg w w' E) := by
              rcases c5 with ⟨o, cap, hv, hc⟩ | hc
              · left
                rcases a9 with ⟨hv', _⟩ | ⟨g, o2, cap2, hv', _, _, hF, hnF, _⟩
                · rw [hv] at hv'; simp at hv'
                · rw [hv] at hv'
                  have : g' = g := by simp at hv'; exact hv'.1.1
                  subst this
                  refine ⟨hF, hnF, fun hψ => (b2 _ (b8 _ hψ)).1 (.inr hF), hc⟩
              · exact .inr hc
            have hlt : ∀ b, F b ∨ G b → b < w.heap.size := fun b hb => hb.elim (fun hb => (a2 b hb).2.2) (fun hb => (b2 b hb).2.2)
            have hchg : Chg w w' (fun b => F b ∨ G b) := by
              rcases hg with ⟨q1, _, _, q2⟩ | ⟨_, _, q2⟩
              · exact q2.mono fun b hb => by subst hb; exact .inl q1
              · exact q2.mono fun b hb => hb.elim
            obtain ⟨d1, d2⟩ := b1.cut dst
            have hsub : ∀ b, XX (fun b => X0 b ∨ (F b ∨ G b)) (dropR fr2 dst).roots fp2 b → XX X0 fr.roots fp b := by
              intro b hb
              rw [← hXX]
              rcases hb with hb | ⟨r, d', hr, hb⟩
              · exact .inl hb
              · exact .inr ⟨r, d', (look_cutR_some hr).2, hb⟩
            have hkeep : ∀ b, b < w.heap.size → AllF cs.length φ b ∨ AllF ds.length ψ b ∨ ¬ XX X0 fr.roots fp b → w'.heap[b]? = w.heap[b]? := by
              intro b hb hh
              rcases hg with ⟨q1, q2, q3, q4⟩ | ⟨_, _, q4⟩
              · refine q4.keep b hb ?_
                rintro rfl
                rcases hh with hh | hh | hh
                · exact q2 hh
                · exact q3 hh
                · exact hh (by rw [← hXX]; exact .inl (.inr (.inl q1)))
              · exact q4.keep b hb (fun hf => hf.elim)
            have hdisj : ∀ b, AllF cs.length φ b → ¬ AllF ds.length ψ b := fun b hb hb' => (b2 b (b8 b hb')).1 (.inr (a8 b hb))
            rw [a3] at b6
            obtain ⟨e1, e2⟩ := FR.reborn (w' := w') (M := fun b => F b ∨ G b) (F0 := fun b => b = g' ∨ AllF (cs ++ ds).length (joinF cs.length φ ψ) b) d1 hM h.x0 hchg
              (fun b hb => by
                rcases hb with rfl | hb
                · rcases hg with ⟨q1, _⟩ | ⟨q1, q2, _⟩
                  · exact .inl (.inl q1)
                  · exact .inr ⟨by omega, q2⟩
                · rw [List.length_append, allF_join] at hb
                  exact .inl (hb.imp (a8 b) (b8 b)))
              (r := dst) look_cutR_self (d0 := .agg [.sl true i.size (n + m) (cs ++ ds)]) (u0 := .agg #[.slice (some ⟨g', o', none⟩) (n + m) cap'])
              (by
                intro Xe hXe
                apply wrap_row
                simp only [RepV]
                refine ⟨g', o', cap', joinF cs.length φ ψ, rfl, by rw [List.length_append, a5, b5, Nat.add_mul], c2, c3, ?_, by rw [List.length_append]; exact disj_join a7 b7 hdisj, ?_, fun b => Iff.rfl⟩
                · refine repCs_join a6 b6 a4 c4 ?_ ?_
                  · intro k hk
                    exact ⟨fun b hb hh => hkeep b hb (hh.elim (fun hh => .inl ⟨k, hk, hh⟩) (fun hh => .inr (.inr hh))), fun b hb hx => hsub b (hXe b hb hx)⟩
                  · intro k hk
                    exact ⟨fun b hb hh => hkeep b hb (hh.elim (fun hh => .inr (.inl ⟨k, hk, hh⟩)) (fun hh => .inr (.inr hh))), fun b hb hx => hsub b (hXe b hb hx)⟩
                · intro k hk hb
                  have : AllF (cs.length + ds.length) (joinF cs.length φ ψ) g' := ⟨k, by simpa using hk, hb⟩
                  rw [allF_join] at this
                  rcases hg with ⟨_, q2, q3, _⟩ | ⟨q1, _, _⟩
                  · exact this.elim q2 q3
                  · exact absurd (hlt g' (this.imp (a8 g') (b8 g'))) (by omega))
            refine ⟨_, w', _, _, c1, e1, ?_, fun s hs => setRv_ne hs _ _⟩
            simp only [RepE]
            exact ⟨.agg [.sl true i.size (n + m) (cs ++ ds)], [.sl true i.size (n + m) (cs ++ ds)], .vals #[.slice (some ⟨g', o', none⟩) (n + m) cap'], by simp [bornV, look], by simp [D.rowAt, D.row], by simp, by simp [nav, setRv_self, rowB], by simp [cvB], _, _, _, _, rfl⟩
          · simp at he
      · simp at he
    · simp at he
  · simp at he
end
end Go.Proofs.Ytgnohnlpicmnaaa.Vm
set_option linter.unusedSimpArgs false
set_option linter.unusedVariables false
namespace Go.Proofs.Ytgnohnlpicmnaaa.Vm
open Go

mutual
/-- Nothing inside is shared. -/
def noSh : D → Bool
  | .sl own _ _ cs => (own || cs.isEmpty) && noShL cs
  | .ptr own cs => (own || cs.isEmpty) && noShL cs
  | .agg cs => noShL cs
  | .tup cs => noShL cs
  | .fn _ cs => noShL cs
  | _ => true
def noShL : List D → Bool
  | [] => true
  | d :: ds => noSh d && noShL ds
end

mutual
theorem RepV.noSh {w : World} {X X' : Nat → Prop} : ∀ (d : D) {v : Value} {F : Nat → Prop}, Vm.noSh d = true → RepV w X d v F → RepV w X' d v F
  | .int .., _, _, _, h => by simpa only [RepV] using h
  | .bool .., _, _, _, h => by simpa only [RepV] using h
  | .str .., _, _, _, h => by simpa only [RepV] using h
  | .nil, _, _, _, h => by simpa only [RepV] using h
  | .gone, _, _, _, h => by simpa only [RepV] using h
  | .sl true sz n cs, v, F, s, h => by
    simp only [Vm.noSh, Bool.true_or, Bool.true_and] at s
    simp only [RepV] at h ⊢
    obtain ⟨g, o, cap, φ, h1, h2, h3, h4, h5, h6⟩ := h
    exact ⟨g, o, cap, φ, h1, h2, h3, h4, RepCs.noSh cs s h5, h6⟩
  | .sl false sz n cs, v, F, s, h => by
    simp only [Vm.noSh, Bool.false_or, Bool.and_eq_true, List.isEmpty_iff] at s
    simp only [RepV] at h ⊢
    obtain ⟨A, cap, h1, h2, h3, h4, h5, h6⟩ := h
    exact ⟨A, cap, h1, h2, h3, .inl s.1, RepCs.noSh cs s.2 h5, h6⟩
  | .ptr true cs, v, F, s, h => by
    simp only [Vm.noSh, Bool.true_or, Bool.true_and] at s
    simp only [RepV] at h ⊢
    obtain ⟨g, φ, h1, h4, h5, h6⟩ := h
    exact ⟨g, φ, h1, h4, RepCs.noSh cs s h5, h6⟩
  | .ptr false cs, v, F, s, h => by
    simp only [Vm.noSh, Bool.false_or, Bool.and_eq_true, List.isEmpty_iff] at s
    simp only [RepV] at h ⊢
    obtain ⟨A, h1, h2, h4, h5, h6⟩ := h
    exact ⟨A, h1, h2, .inl s.1, RepCs.noSh cs s.2 h5, h6⟩
  | .agg cs, v, F, s, h => by
    simp only [Vm.noSh] at s
    simp only [RepV] at h ⊢
    obtain ⟨vs, φ, h1, h2, h3, h4⟩ := h
    exact ⟨vs, φ, h1, h2, RepCs.noSh cs s h3, h4⟩
  | .tup cs, v, F, s, h => by
    simp only [Vm.noSh] at s
    simp only [RepV] at h ⊢
    obtain ⟨vs, φ, h1, h2, h3, h4⟩ := h
    exact ⟨vs, φ, h1, h2, RepCs.noSh cs s h3, h4⟩
  | .fn f cs, v, F, s, h => by
    simp only [Vm.noSh] at s
    simp only [RepV] at h ⊢
    obtain ⟨vs, φ, h1, h2, h3, h4⟩ := h
    exact ⟨vs, φ, h1, h2, RepCs.noSh cs s h3, h4⟩
theorem RepCs.noSh {w : World} {X X' : Nat → Prop} : ∀ (cs : List D) {cv : Nat → Option Value} {k : Nat} {φ : Nat → Nat → Prop}, noShL cs = true → RepCs w X cs cv k φ → RepCs w X' cs cv k φ
  | [], _, _, _, _, _ => by simp only [RepCs]
  | d :: ds, cv, k, φ, s, h => by
    simp only [noShL, Bool.and_eq_true] at s
    simp only [RepCs] at h ⊢
    obtain ⟨⟨v, hv, hr⟩, h'⟩ := h
    exact ⟨⟨v, hv, RepV.noSh d s.1 hr⟩, RepCs.noSh ds s.2 h'⟩
end

/-- What is lent for reading. -/
def borC (R : List (Nat × D)) : V → Option D
  | .val d => some d
  | .ref r p o => match refD R r p o with
    | some (.sl true sz n cs) => some (.sl false sz n (eraseL cs))
    | _ => none
  | .win r p o sz lo n => match refD R r p o with
    | some (.sl true sz' _ cs) => if sz' = sz then some (.sl false sz n (((eraseL cs).drop (lo * sz)).take (n * sz))) else none
    | _ => none
  | .addr r p o => match rowOf R r p with
    | some row => some (.ptr false ((eraseL row).drop o))
    | none => none
  | _ => none
def borL (R : List (Nat × D)) : List V → Option (List D)
  | [] => some []
  | x :: xs => match borC R x with
    | some d => match borL R xs with
      | some ds => some (d :: ds)
      | none => none
    | none => none
def borV (R : List (Nat × D)) : V → Option D
  | .agg vs => match borL R vs with
    | some ds => some (.agg ds)
    | none => none
  | .fn f vs => match borL R vs with
    | some ds => some (.fn f ds)
    | none => none
  | x => borC R x

section
variable {P : Program} {w0 : World} {L X0 X1 : Nat → Prop} {w w' : World} {tm : Array Value} {fr : Fr} {rv : Nat → Value} {fp : Nat → Nat → Prop} {X : Nat → Prop} {R : List (Nat × D)}

theorem borC_sound (h : FR w0 L X0 w tm fr rv fp) {x : V} {v : Value} {d : D} (hx : RepE w (XX X0 fr.roots fp) fr.roots rv x v) (he : borC fr.roots x = some d) : RepV w X0 d v E := by
  have hsub : ∀ b, X0 b → XX X0 fr.roots fp b := fun b hb => .inl hb
  cases x with
  | val d' =>
    simp only [borC] at he
    obtain rfl := Option.some.inj he
    exact RepV.stay d' ⟨fun _ _ _ => rfl, fun b _ hb => hsub b hb⟩ (by simpa only [RepE] using hx)
  | ref r p o =>
    simp only [borC] at he
    split at he
    · rename_i sz n cs hd
      obtain rfl := Option.some.inj he
      obtain ⟨d1, row, bk, g, o', c, q1, q2, q3, q4, q5, q6, q7, q8, q9, q10, q11⟩ := ref_open h hd
      simp only [RepE] at hx
      obtain ⟨d', row', bk', a1, a2, a3, a4, a5, a6⟩ := hx
      rw [q1] at a1; obtain rfl := Option.some.inj a1
      rw [q2] at a2; obtain rfl := Option.some.inj a2
      obtain ⟨bk2, u, Fe, h1, h2, h3, h4, _⟩ := focus p (h.root r d1 q1) q2 q3 (fun b hb => h.fp_X q1 hb)
      rw [h1] at a4; obtain rfl := Option.some.inj a4
      rw [h2] at a5; obtain rfl := Option.some.inj a5
      have := RepV.erase (.sl true sz n cs) (X' := X0) (fun b _ hb => ⟨hsub b hb, fun hf => h.out r d1 b q1 (h4 b hf) hb⟩) h3
      simp only [erase] at this
      exact this
    · simp at he
  | win r p o sz lo n =>
    simp only [borC] at he
    split at he
    · rename_i sz' n' cs hd
      split at he
      · rename_i hsz
        subst hsz
        obtain rfl := Option.some.inj he
        obtain ⟨d1, row, bk, g, o', c, q1, q2, q3, q4, q5, q6, q7, q8, q9, q10, q11⟩ := ref_open h hd
        simp only [RepE] at hx
        obtain ⟨d', row', bk', A, N, c0, A', c', a1, a2, a3, a4, a5, a6, a7, rfl, a9, a10⟩ := hx
        rw [q1] at a1; obtain rfl := Option.some.inj a1
        rw [q2] at a2; obtain rfl := Option.some.inj a2
        obtain ⟨bk2, u, Fe, h1, h2, h3, h4, _⟩ := focus p (h.root r d1 q1) q2 q3 (fun b hb => h.fp_X q1 hb)
        rw [h1] at a4; obtain rfl := Option.some.inj a4
        rw [h2] at a5; obtain rfl := Option.some.inj a5
        have he := RepV.erase (.sl true sz' n' cs) (X' := X0) (fun b _ hb => ⟨hsub b hb, fun hf => h.out r d1 b q1 (h4 b hf) hb⟩) h3
        simp only [erase, RepV] at he
        obtain ⟨A2, cap2, b1, b2, b3, b4, b5, b6⟩ := he
        have hAA : A2 = A ∧ n' = N ∧ cap2 = c0 := by simp at b1; exact ⟨b1.1.symm, b1.2.1.symm, b1.2.2.symm⟩
        obtain ⟨rfl, rfl, rfl⟩ := hAA
        simp only [RepV]
        have hlen : (((eraseL cs).drop (lo * sz')).take (n * sz')).length = n * sz' := by
          have : lo * sz' + n * sz' ≤ n' * sz' := by rw [← Nat.add_mul]; exact Nat.mul_le_mul_right _ a7
          rw [List.length_take, List.length_drop, b2]; omega
        refine ⟨A', c', rfl, hlen, a9, ?_, ?_, fun _ => id⟩
        · rcases a10 with rfl | rfl
          · left; simp
          · rcases b4 with b4 | b4
            · left; rw [b4]; simp
            · exact .inr ⟨rfl, b4.2⟩
        · rcases a10 with rfl | rfl
          · simp [RepCs]
          · refine repCs_take _ ?_
            exact repCs_drop _ b5
      · simp at he
    · simp at he
  | addr r p o =>
    simp only [borC] at he
    split at he
    · rename_i row hro
      obtain rfl := Option.some.inj he
      simp only [RepE] at hx
      obtain ⟨d1, g, k, a1, a2, a3, rfl⟩ := hx
      have hr : d1.rowAt p = some row := by simpa [rowOf, a1] using hro
      have cell : ∀ j e, row[j]? = some e → ∃ u, memCv w g k j = some u ∧ RepV w X0 (erase e) u E ∧ fp r g := by
        intro j e hj
        obtain ⟨bk2, u, Fe, h1, h2, h3, h4, h5, _⟩ := focus p (h.root r d1 a1) hr hj (fun b hb => h.fp_X a1 hb)
        rw [a3] at h1; obtain rfl := Option.some.inj h1
        exact ⟨u, h2, RepV.erase e (X' := X0) (fun b _ hb => ⟨hsub b hb, fun hf => h.out r d1 b a1 (h4 b hf) hb⟩) h3, (h5 g k rfl).1⟩
      simp only [RepV]
      refine ⟨⟨g, k + o, none⟩, rfl, rfl, ?_, ?_, fun _ => id⟩
      · rcases row with _ | ⟨e, l⟩
        · left; simp [eraseL]
        · right
          obtain ⟨u, _, _, hg⟩ := cell 0 e rfl
          exact fun hx => h.out r d1 g a1 hg hx
      · refine repCs_drop o ?_
        rw [repCs_iff]
        intro j e hj
        rw [eraseL_map, List.getElem?_map, Option.map_eq_some_iff] at hj
        obtain ⟨e', he', rfl⟩ := hj
        obtain ⟨u, h1, h2, _⟩ := cell j e' he'
        exact ⟨u, by simpa using h1, h2⟩
    · simp at he
  | _ => simp [borC] at he

theorem borL_sound (h : FR w0 L X0 w tm fr rv fp) : ∀ {xs : List V} {us : List Value} {ds : List D}, RepEs w (XX X0 fr.roots fp) fr.roots rv xs us → borL fr.roots xs = some ds → ds.length = us.length ∧ RepCs w X0 ds (fun j => us[j]?) 0 (fun _ => E)
  | [], us, ds, hx, he => by
    simp only [RepEs] at hx; subst hx
    simp only [borL] at he; obtain rfl := Option.some.inj he
    exact ⟨rfl, by simp [RepCs]⟩
  | x :: xs, us, ds, hx, he => by
    simp only [RepEs] at hx
    obtain ⟨u, us', rfl, h1, h2⟩ := hx
    simp only [borL] at he
    split at he
    · rename_i d hd
      split at he
      · rename_i ds' hds
        obtain rfl := Option.some.inj he
        obtain ⟨k1, k2⟩ := borL_sound h h2 hds
        refine ⟨by simp [k1], ?_⟩
        simp only [RepCs]
        refine ⟨⟨u, rfl, borC_sound h h1 hd⟩, ?_⟩
        have e : (fun _ => E) = consF E (fun _ => E) := by funext j; cases j <;> rfl
        rw [e]
        exact repCs_shift (cv := fun j => (u :: us')[j]?) (by simpa using k2) E
      · simp at he
    · simp at he

theorem repV_aggE {ds : List D} {us : Array Value} (hl : ds.length = us.toList.length) (h : RepCs w X ds (fun j => us.toList[j]?) 0 (fun _ => E)) : RepV w X (.agg ds) (.agg us) E := by
  simp only [RepV]
  refine ⟨us, fun _ => E, rfl, by simpa using hl.symm, by simpa using h, fun _ _ _ _ _ hb => hb.elim, fun b => ⟨fun hb => hb.elim, fun ⟨_, _, hb⟩ => hb⟩⟩
theorem repV_fnE {f : FuncId} {ds : List D} {us : Array Value} (hl : ds.length = us.toList.length) (h : RepCs w X ds (fun j => us.toList[j]?) 0 (fun _ => E)) : RepV w X (.fn f ds) (.func (.func f) #[] us) E := by
  simp only [RepV]
  refine ⟨us, fun _ => E, rfl, by simpa using hl.symm, by simpa using h, fun _ _ _ _ _ hb => hb.elim, fun b => ⟨fun hb => hb.elim, fun ⟨_, _, hb⟩ => hb⟩⟩

theorem borV_sound (h : FR w0 L X0 w tm fr rv fp) {x : V} {v : Value} {d : D} (hx : RepE w (XX X0 fr.roots fp) fr.roots rv x v) (he : borV fr.roots x = some d) : RepV w X0 d v E := by
  unfold borV at he
  split at he
  · split at he
    · rename_i ds hds
      obtain rfl := Option.some.inj he
      simp only [RepE] at hx
      obtain ⟨us, rfl, _, h3⟩ := hx
      obtain ⟨k1, k2⟩ := borL_sound h h3 hds
      exact repV_aggE k1 k2
    · simp at he
  · split at he
    · rename_i ds hds
      obtain rfl := Option.some.inj he
      simp only [RepE] at hx
      obtain ⟨us, rfl, _, h3⟩ := hx
      obtain ⟨k1, k2⟩ := borL_sound h h3 hds
      exact repV_fnE k1 k2
    · simp at he
  · exact borC_sound h hx he

/-- What leads to no root is lent as it is. -/
theorem borC_free {x : V} {v : Value} {d : D} (hx : RepE w X R rv x v) (hl : leaves x = []) (he : borC R x = some d) : RepV w X d v E := by
  cases x with
  | val d' => simp only [borC] at he; obtain rfl := Option.some.inj he; simpa only [RepE] using hx
  | ref r p o => simp [leaves] at hl
  | win r p o sz lo n => simp [leaves] at hl
  | addr r p o => simp [leaves] at hl
  | _ => simp [borC] at he
theorem borL_free : ∀ {xs : List V} {us : List Value} {ds : List D}, RepEs w X R rv xs us → leavesL xs = [] → borL R xs = some ds → ds.length = us.length ∧ RepCs w X ds (fun j => us[j]?) 0 (fun _ => E)
  | [], us, ds, hx, _, he => by
    simp only [RepEs] at hx; subst hx
    simp only [borL] at he; obtain rfl := Option.some.inj he
    exact ⟨rfl, by simp [RepCs]⟩
  | x :: xs, us, ds, hx, hl, he => by
    simp only [RepEs] at hx
    obtain ⟨u, us', rfl, h1, h2⟩ := hx
    simp only [leavesL, List.append_eq_nil_iff] at hl
    simp only [borL] at he
    split at he
    · rename_i d hd
      split at he
      · rename_i ds' hds
        obtain rfl := Option.some.inj he
        obtain ⟨k1, k2⟩ := borL_free h2 hl.2 hds
        refine ⟨by simp [k1], ?_⟩
        simp only [RepCs]
        refine ⟨⟨u, rfl, borC_free h1 hl.1 hd⟩, ?_⟩
        have e : (fun _ => E) = consF E (fun _ => E) := by funext j; cases j <;> rfl
        rw [e]
        exact repCs_shift (cv := fun j => (u :: us')[j]?) (by simpa using k2) E
      · simp at he
    · simp at he
theorem borV_free {x : V} {v : Value} {d : D} (hx : RepE w X R rv x v) (hl : leaves x = []) (he : borV R x = some d) : RepV w X d v E := by
  unfold borV at he
  split at he
  · split at he
    · rename_i ds hds
      obtain rfl := Option.some.inj he
      simp only [RepE] at hx
      obtain ⟨us, rfl, _, h3⟩ := hx
      obtain ⟨k1, k2⟩ := borL_free h3 (by simpa only [leaves] using hl) hds
      exact repV_aggE k1 k2
    · simp at he
  · split at he
    · rename_i ds hds
      obtain rfl := Option.some.inj he
      simp only [RepE] at hx
      obtain ⟨us, rfl, _, h3⟩ := hx
      obtain ⟨k1, k2⟩ := borL_free h3 (by simpa only [leaves] using hl) hds
      exact repV_fnE k1 k2
    · simp at he
  · exact borC_free hx hl he
end
end Go.Proofs.Ytgnohnlpicmnaaa.Vm
set_option linter.unusedSimpArgs false
set_option linter.unusedVariables false
namespace Go.Proofs.Ytgnohnlpicmnaaa.Vm
open Go

/-- The cells of the arguments that are handed over. -/
def ownCells : List Bool → List V → Option (List V)
  | _, [] => some []
  | b :: bs, x :: xs => match ownCells bs xs with
    | some r => if b = true then (match cellsV x with
      | some cs => some (cs ++ r)
      | none => none) else some r
    | none => none
  | [], _ :: xs => some []

/-- The arguments as the callee gets them: of those that are handed over the parts, of the others what is lent. -/
def asm (R : List (Nat × D)) : List Bool → List V → List V → List D → Option (List D)
  | _, [], [], _ => some []
  | bs, x :: xs, y :: ys, ms => if bs.head? = some true then (match aggCells x with
      | some vs => match asm R bs.tail xs ys (ms.drop vs.length) with
        | some r => some (.agg (ms.take vs.length) :: r)
        | none => none
      | none => if isCellV x = true then (match ms with
        | m :: ms => match asm R bs.tail xs ys ms with
          | some r => some (m :: r)
          | none => none
        | [] => none) else none)
    else match borV R y with
      | some d => match asm R bs.tail xs ys ms with
        | some r => some (d :: r)
        | none => none
      | none => none
  | _, _, _, _ => none

/-- What the callee leaves of the arguments, cell by cell, of those that were handed over. -/
def unasm : List Bool → List V → List D → Option (List D)
  | _, [], [] => some []
  | bs, x :: xs, d :: ds => match unasm bs.tail xs ds with
    | some r => if bs.head? = some true then (match aggCells x with
      | some vs => match d with
        | .agg cs => if cs.length = vs.length then some (cs ++ r) else none
        | _ => none
      | none => if isCellV x = true then some (d :: r) else none) else some r
    | none => none
  | _, _, _ => none

section
variable {P : Program} {w0 : World} {L X0 X1 : Nat → Prop} {w w' : World} {tm : Array Value} {fr : Fr} {rv : Nat → Value} {fp : Nat → Nat → Prop} {X Y : Nat → Prop} {R : List (Nat × D)}

/-- The values of the cells that are handed over. -/
def ownVals : List Bool → List V → List Value → List Value
  | bs, x :: xs, u :: us => if bs.head? = some true then u.cells.toList ++ ownVals bs.tail xs us else ownVals bs.tail xs us
  | _, _, _ => []

theorem repEs_append {xs ys : List V} {us vs : List Value} (h1 : RepEs w X R rv xs us) (h2 : RepEs w X R rv ys vs) : RepEs w X R rv (xs ++ ys) (us ++ vs) := by
  induction xs generalizing us with
  | nil => simp only [RepEs] at h1; subst h1; simpa using h2
  | cons x xs ih =>
    simp only [RepEs] at h1
    obtain ⟨u, us', rfl, a, b⟩ := h1
    simp only [List.cons_append, RepEs]
    exact ⟨u, us' ++ vs, rfl, a, ih b⟩

theorem ownCells_sound : ∀ {bs : List Bool} {xs : List V} {us : List Value} {fl : List V}, bs.length = xs.length → RepEs w X R rv xs us → ownCells bs xs = some fl → RepEs w X R rv fl (ownVals bs xs us)
  | bs, [], us, fl, _, hx, he => by
    simp only [RepEs] at hx; subst hx
    cases bs <;> simp only [ownCells] at he <;> obtain rfl := Option.some.inj he <;> simp [ownVals, RepEs]
  | [], x :: xs, us, fl, hl, hx, he => by simp at hl
  | b :: bs, x :: xs, us, fl, hl, hx, he => by
    simp only [RepEs] at hx
    obtain ⟨u, us', rfl, h1, h2⟩ := hx
    simp only [ownCells] at he
    split at he
    · rename_i r hr
      have ih := ownCells_sound (by simpa using hl) h2 hr
      split at he
      · rename_i hb
        subst hb
        split at he
        · rename_i cs hcs
          obtain rfl := Option.some.inj he
          simp only [ownVals, List.head?_cons, if_true, List.tail_cons]
          exact repEs_append (cells_repEs (cellsV_sound h1 hcs)) ih
        · simp at he
      · rename_i hb
        obtain rfl := Option.some.inj he
        cases b with
        | true => exact absurd rfl hb
        | false => simpa [ownVals] using ih
    · simp at he

theorem repCs_split {cs : List D} {us vs : List Value} {φ : Nat → Nat → Prop} (h : RepCs w X cs (fun j => (us ++ vs)[j]?) 0 φ) (hl : us.length ≤ cs.length) :
    RepCs w X (cs.take us.length) (fun j => us[j]?) 0 φ ∧ RepCs w X (cs.drop us.length) (fun j => vs[j]?) 0 (fun j => φ (us.length + j)) := by
  rw [repCs_iff] at h
  constructor
  · rw [repCs_iff]
    intro i d hd
    rw [List.getElem?_take] at hd
    split at hd
    · rename_i hi
      obtain ⟨v, hv, hr⟩ := h i d hd
      simp only [Nat.zero_add] at hv hr ⊢
      rw [List.getElem?_append_left hi] at hv
      exact ⟨v, hv, hr⟩
    · simp at hd
  · rw [repCs_iff]
    intro i d hd
    rw [List.getElem?_drop] at hd
    obtain ⟨v, hv, hr⟩ := h _ d hd
    simp only [Nat.zero_add] at hv hr ⊢
    rw [List.getElem?_append_right (by omega)] at hv
    rw [Nat.add_sub_cancel_left] at hv
    exact ⟨v, hv, hr⟩

theorem allF_split {n k : Nat} {φ : Nat → Nat → Prop} (hk : k ≤ n) (b : Nat) : AllF n φ b ↔ AllF k φ b ∨ AllF (n - k) (fun j => φ (k + j)) b := by
  constructor
  · rintro ⟨i, hi, hb⟩
    by_cases h : i < k
    · exact .inl ⟨i, h, hb⟩
    · exact .inr ⟨i - k, by omega, by show φ (k + (i - k)) b; rw [show k + (i - k) = i by omega]; exact hb⟩
  · rintro (⟨i, hi, hb⟩ | ⟨i, hi, hb⟩)
    · exact ⟨i, by omega, hb⟩
    · exact ⟨k + i, by omega, hb⟩

theorem disj_take {n k : Nat} {φ : Nat → Nat → Prop} (h : Disj n φ) (hk : k ≤ n) : Disj k φ := fun i j b hi hj => h i j b (by omega) (by omega)
theorem disj_drop {n k : Nat} {φ : Nat → Nat → Prop} (h : Disj n φ) (hk : k ≤ n) : Disj (n - k) (fun j => φ (k + j)) := fun i j b hi hj hb hb' => by
  have := h (k + i) (k + j) b (by omega) (by omega) hb hb'; omega

/-- What the callee gets. -/
theorem asm_sound {R' : List (Nat × D)} : ∀ {bs : List Bool} {xs ys : List V} {us : List Value} {ms ds : List D} {φ : Nat → Nat → Prop}, RepEs w Y R rv xs us → ys.length = xs.length →
    RepCs w X ms (fun j => (ownVals bs xs us)[j]?) 0 φ → Disj ms.length φ → ms.length = (ownVals bs xs us).length →
    (∀ (i : Nat) (y : V) (u : Value) (d : D), ys[i]? = some y → us[i]? = some u → bs[i]? ≠ some true → borV R' y = some d → RepV w X d u E) → asm R' bs xs ys ms = some ds →
    ∃ ψ, ds.length = us.length ∧ RepCs w X ds (fun j => us[j]?) 0 ψ ∧ Disj ds.length ψ ∧ ∀ b, AllF ds.length ψ b ↔ AllF ms.length φ b := by
  intro bs xs
  induction xs generalizing bs with
  | nil =>
    intro ys us ms ds φ hx hl hr hd hml hb he
    obtain rfl := List.eq_nil_of_length_eq_zero hl
    simp only [RepEs] at hx; subst hx
    simp only [asm] at he
    obtain rfl := Option.some.inj he
    have hm : ms = [] := List.eq_nil_of_length_eq_zero (by rw [hml]; simp [ownVals])
    subst hm
    exact ⟨φ, rfl, by simp [RepCs], fun i j b hi => by simp at hi, fun b => by simp [AllF]⟩
  | cons x xs ih =>
    intro ys us ms ds φ hx hl hr hd hml hb he
    obtain ⟨y, ys, rfl⟩ := List.exists_cons_of_ne_nil (l := ys) (by rintro rfl; simp at hl)
    simp only [RepEs] at hx
    obtain ⟨u, us, rfl, h1, h2⟩ := hx
    simp only [asm] at he
    have hb' : ∀ (i : Nat) (y : V) (u : Value) (d : D), ys[i]? = some y → us[i]? = some u → bs.tail[i]? ≠ some true → borV R' y = some d → RepV w X d u E := fun i y' u' d hy hu hbi hd' =>
      hb (i + 1) y' u' d (by simpa using hy) (by simpa using hu) (by simpa using hbi) hd'
    split at he
    · rename_i hh
      simp only [ownVals, if_pos hh] at hr hml
      split at he
      · rename_i vs hvs
        obtain ⟨ua, rfl, hc⟩ := aggCells_sound h1 hvs
        have hk : vs.length = ua.toList.length := by rw [← hc.1]; simp
        have hcells : (Value.agg ua).cells = ua := rfl
        rw [hcells] at hr hml
        rw [hk] at he
        have hkl : ua.toList.length ≤ ms.length := by rw [hml, List.length_append]; omega
        obtain ⟨s1, s2⟩ := repCs_split hr hkl
        split at he
        · rename_i r hr'
          obtain rfl := Option.some.inj he
          obtain ⟨ψ, k1, k2, k3, k4⟩ := ih (bs := bs.tail) (φ := fun j => φ (ua.toList.length + j)) h2 (by simpa using hl) s2 (by rw [List.length_drop]; exact disj_drop hd hkl)
            (by rw [List.length_drop, hml, List.length_append, Nat.add_sub_cancel_left]) hb' hr'
          have htl : (ms.take ua.toList.length).length = ua.toList.length := by rw [List.length_take]; omega
          have hA : RepV w X (.agg (ms.take ua.toList.length)) (.agg ua) (AllF ua.toList.length φ) := by
            simp only [RepV]
            exact ⟨ua, φ, rfl, by rw [htl]; simp, by simpa using s1, by rw [htl]; exact disj_take hd hkl, fun b => by rw [htl]; exact Iff.rfl⟩
          have hsp := fun b => allF_split (φ := φ) hkl b
          refine ⟨consF (AllF ua.toList.length φ) ψ, by simp [k1], ?_, ?_, ?_⟩
          · simp only [RepCs]
            exact ⟨⟨_, rfl, hA⟩, repCs_shift (cv := fun j => (Value.agg ua :: us)[j]?) (by simpa using k2) _⟩
          · refine disj_cons k3 fun b hb1 hb2 => ?_
            rw [k4, List.length_drop] at hb2
            obtain ⟨i, hi, hbi⟩ := hb1
            obtain ⟨j, hj, hbj⟩ := hb2
            have := hd i (ua.toList.length + j) b (by omega) (by omega) hbi hbj
            omega
          · intro b
            rw [List.length_cons, allF_cons, k4, List.length_drop, hsp b]
        · simp at he
      · rename_i hvs
        split at he
        · rename_i hcell
          split at he
          · rename_i m ms'
            split at he
            · rename_i r hr'
              obtain rfl := Option.some.inj he
              have hone : u.cells = #[u] := cells_one hcell h1
              rw [hone] at hr hml
              simp only [List.singleton_append] at hr hml
              simp only [RepCs] at hr
              obtain ⟨⟨v0, hv0, hrv⟩, hrs⟩ := hr
              obtain rfl : u = v0 := by simpa using hv0
              have hrs' := repCs_tail hrs
              simp only [List.getElem?_cons_succ] at hrs'
              obtain ⟨ψ, k1, k2, k3, k4⟩ := ih (bs := bs.tail) (φ := fun j => φ (j + 1)) h2 (by simpa using hl) hrs' (fun i j b hi hj h1 h2 => by have := hd (i + 1) (j + 1) b (by simp; omega) (by simp; omega) h1 h2; omega)
                (by simpa using hml) hb' hr'
              refine ⟨consF (φ 0) ψ, by simp [k1], ?_, disj_cons k3 fun b hb1 hb2 => ?_, fun b => ?_⟩
              · simp only [RepCs]
                exact ⟨⟨_, rfl, hrv⟩, repCs_shift (cv := fun j => (u :: us)[j]?) (by simpa using k2) _⟩
              · rw [k4] at hb2
                obtain ⟨j, hj, hbj⟩ := hb2
                have := hd 0 (j + 1) b (by simp) (by simp; omega) hb1 hbj
                omega
              · rw [List.length_cons, allF_cons, k4, List.length_cons, allF_succ]
            · simp at he
          · simp at he
        · simp at he
    · rename_i hh
      simp only [ownVals, if_neg hh] at hr hml
      split at he
      · rename_i d hdv
        split at he
        · rename_i r hr'
          obtain rfl := Option.some.inj he
          obtain ⟨ψ, k1, k2, k3, k4⟩ := ih (bs := bs.tail) h2 (by simpa using hl) hr hd hml hb' hr'
          have hd0 := hb 0 y u d rfl rfl (by cases bs <;> simp at hh ⊢; exact hh) hdv
          refine ⟨consF E ψ, by simp [k1], ?_, disj_cons k3 fun b hb _ => hb, ?_⟩
          · simp only [RepCs]
            exact ⟨⟨_, rfl, hd0⟩, repCs_shift (cv := fun j => (u :: us)[j]?) (by simpa using k2) _⟩
          · intro b
            rw [List.length_cons, allF_cons, k4]
            simp [E]
        · simp at he
      · simp at he

/-- What the callee has left of what was handed over, cell by cell. -/
theorem unasm_sound : ∀ {xs : List V} {bs : List Bool} {us : List Value} {outs fl : List D} {ψ : Nat → Nat → Prop}, RepEs w Y R rv xs us →
    RepCs w' X outs (fun j => us[j]?) 0 ψ → Disj outs.length ψ → unasm bs xs outs = some fl →
    ∃ φ, RepCs w' X fl (fun j => (ownVals bs xs us)[j]?) 0 φ ∧ Disj fl.length φ ∧ fl.length = (ownVals bs xs us).length ∧ ∀ b, AllF fl.length φ b → AllF outs.length ψ b := by
  intro xs
  induction xs with
  | nil =>
    intro bs us outs fl ψ hx hr hd he
    simp only [RepEs] at hx; subst hx
    cases outs with
    | nil =>
      simp only [unasm] at he
      obtain rfl := Option.some.inj he
      exact ⟨fun _ _ => False, by simp [RepCs], fun _ _ _ _ _ hb => hb.elim, by simp [ownVals], fun b ⟨_, _, hb⟩ => hb.elim⟩
    | cons _ _ => simp [unasm] at he
  | cons x xs ih =>
    intro bs us outs fl ψ hx hr hd he
    simp only [RepEs] at hx
    obtain ⟨u, us, rfl, h1, h2⟩ := hx
    cases outs with
    | nil => simp [unasm] at he
    | cons d outs =>
      simp only [unasm] at he
      simp only [RepCs] at hr
      obtain ⟨⟨v0, hv0, hrv⟩, hrs⟩ := hr
      obtain rfl : u = v0 := by simpa using hv0
      have hrs' := repCs_tail hrs
      simp only [List.getElem?_cons_succ] at hrs'
      split at he
      · rename_i r hr'
        obtain ⟨φ, k1, k2, k3, k4⟩ := ih (bs := bs.tail) (ψ := fun j => ψ (j + 1)) h2 hrs' (fun i j b hi hj a1 a2 => by have := hd (i + 1) (j + 1) b (by simp; omega) (by simp; omega) a1 a2; omega) hr'
        have hup : ∀ b, AllF r.length φ b → AllF (d :: outs).length ψ b := fun b hb => by
          rw [List.length_cons, allF_succ]; exact .inr (k4 b hb)
        have hsep : ∀ b, ψ 0 b → ¬ AllF r.length φ b := fun b hb1 hb2 => by
          obtain ⟨j, hj, hbj⟩ := k4 b hb2
          have := hd 0 (j + 1) b (by simp) (by simp; omega) hb1 hbj
          omega
        split at he
        · rename_i hh
          simp only [ownVals, if_pos hh]
          split at he
          · rename_i vs hvs
            split at he
            · rename_i cs
              split at he
              · rename_i hlen
                obtain rfl := Option.some.inj he
                simp only [RepV] at hrv
                obtain ⟨ua, φ0, rfl, b2, b3, b4, b5⟩ := hrv
                have hcells : (Value.agg ua).cells = ua := rfl
                rw [hcells]
                have hul : ua.toList.length = cs.length := by simp [b2]
                refine ⟨joinF cs.length φ0 φ, ?_, by rw [List.length_append]; exact disj_join b4 k2 (fun b hb => hsep b ((b5 b).2 hb)), by simp [k3, b2], fun b hb => ?_⟩
                · exact repCs_join (w' := w') (Y := X) (us := ua.toList) (by simpa using b3) k1 hul (fun j v hj => hj) (fun _ _ => ⟨fun _ _ _ => rfl, fun _ _ hb => hb⟩) (fun _ _ => ⟨fun _ _ _ => rfl, fun _ _ hb => hb⟩)
                · rw [List.length_append, allF_join] at hb
                  rcases hb with hb | hb
                  · rw [List.length_cons, allF_succ]; exact .inl ((b5 b).2 hb)
                  · exact hup b hb
              · simp at he
            · simp at he
          · split at he
            · rename_i hcell
              obtain rfl := Option.some.inj he
              have hone : u.cells = #[u] := cells_one hcell h1
              rw [hone]
              simp only [List.singleton_append]
              refine ⟨consF (ψ 0) φ, ?_, disj_cons k2 hsep, by simp [k3], fun b hb => ?_⟩
              · simp only [RepCs]
                exact ⟨⟨u, rfl, hrv⟩, repCs_shift (cv := fun j => (u :: ownVals bs.tail xs us)[j]?) (by simpa using k1) _⟩
              · rw [List.length_cons, allF_cons] at hb
                rcases hb with hb | hb
                · rw [List.length_cons, allF_succ]; exact .inl hb
                · exact hup b hb
            · simp at he
        · rename_i hh
          obtain rfl := Option.some.inj he
          simp only [ownVals, if_neg hh]
          exact ⟨φ, k1, k2, k3, hup⟩
      · simp at he

/-- One cell is put back where it was taken from. -/
def backC (fr : Fr) (x : V) (d : D) : Option (Fr × (V → Bool)) := match x with
  | .ref r p o => match d with
    | .gone => some (fr, never)
    | d => match look r fr.roots with
      | some d0 => match d0.rowAt p with
        | some row => match row[o]? with
          | some .gone => some ({ fr with roots := updR r (d0.setAt p o d) fr.roots, env := killE (badT r p) fr.env }, badT r p)
          | _ => none
        | none => none
      | none => none
  | .addr r [] 0 => match d with
    | .gone => some (fr, never)
    | .ptr true cs => match look r fr.roots with
      | some .gone => some ({ fr with roots := updR r (.ptr true cs) fr.roots, env := killE (badR r) fr.env }, badR r)
      | _ => none
    | _ => none
  | _ => some (fr, never)

def backL (fr : Fr) : List V → List D → List V → Option (Fr × List V)
  | [], [], q => some (fr, q)
  | x :: xs, d :: ds, q => match backC fr x d with
    | some (fr1, bad) => backL fr1 (xs.map (killV bad)) ds (q.map (killV bad))
    | none => none
  | _, _, _ => none
  termination_by xs => xs.length
end
end Go.Proofs.Ytgnohnlpicmnaaa.Vm
set_option linter.unusedSimpArgs false
set_option linter.unusedVariables false
namespace Go.Proofs.Ytgnohnlpicmnaaa.Vm
open Go
section
variable {P : Program} {w0 : World} {L : Nat → Prop} {w : World} {tm : Array Value} {rv : Nat → Value}

theorem backC_sound {X0 X1 Z F : Nat → Prop} {fr fr' : Fr} {fp : Nat → Nat → Prop} {x : V} {d : D} {u : Value} {bad : V → Bool} (h : FR w0 L X0 w tm fr rv fp) (hX : ∀ b, X1 b → X0 b) (hF : ∀ b, F b → X0 b ∧ ¬ X1 b ∧ (L b ∨ w0.heap.size ≤ b))
    (hx : RepE w (XX X0 fr.roots fp) fr.roots rv x u) (hrep : RepV w Z d u F) (hZ : ∀ b, b < w.heap.size → XX X0 fr.roots fp b → Z b) (he : backC fr x d = some (fr', bad)) :
    ∃ fp', FR w0 L X1 w tm fr' rv fp' ∧ (∀ y v, RepE w (XX X0 fr.roots fp) fr.roots rv y v → RepE w (XX X1 fr'.roots fp') fr'.roots rv (killV bad y) v) ∧ (∀ b, XX X1 fr'.roots fp' b → XX X0 fr.roots fp b) := by
  have skip : fr' = fr → bad = never → ∃ fp', FR w0 L X1 w tm fr' rv fp' ∧ (∀ y v, RepE w (XX X0 fr.roots fp) fr.roots rv y v → RepE w (XX X1 fr'.roots fp') fr'.roots rv (killV bad y) v) ∧ (∀ b, XX X1 fr'.roots fp' b → XX X0 fr.roots fp b) := by
    rintro rfl rfl
    obtain ⟨a1, a2⟩ := h.less (X0 := X1) hX
    exact ⟨fp, a1, fun y v hy => by rw [killV_never]; exact a2 y v hy, fun b hb => hb.imp (hX b) id⟩
  unfold backC at he
  split at he
  · rename_i r p o
    split at he
    · obtain ⟨rfl, rfl⟩ := by simpa using he
      exact skip rfl rfl
    · split at he
      · rename_i d0 hd0
        split at he
        · rename_i row hr
          split at he
          · rename_i hro
            obtain ⟨rfl, rfl⟩ := by simpa using he
            have hx' := hx
            simp only [RepE] at hx'
            obtain ⟨d1, row1, bk, a1, a2, a3, a4, a5, _⟩ := hx'
            obtain ⟨b1, b2⟩ := h.back (X1 := X1) (e' := d) (Fe' := F) hd0 hr hro (.inr rfl) a4 a5 hX hF (Xe := Z) (fun b hb hh => hZ b hb (by
              rcases hh with hh | hh | hh
              · exact .inl (hX b hh)
              · exact .inl (hF b hh).1
              · exact .inr hh)) hrep
            refine ⟨_, b1, fun y v hy => killV_rep fun hk => b2 y v hk hy, fun b hb => ?_⟩
            rcases hb with hb | ⟨s, e, hs, hb⟩
            · exact .inl (hX b hb)
            · by_cases hsr : s = r
              · subst hsr
                rw [setFp_self] at hb
                rcases hb with hb | hb
                · exact .inr ⟨s, d0, hd0, hb.1⟩
                · exact .inl (hF b hb).1
              · rw [setFp_ne hsr] at hb; rw [look_updR_ne hsr] at hs; exact .inr ⟨s, e, hs, hb⟩
          · simp at he
        · simp at he
      · simp at he
  · rename_i r
    split at he
    · obtain ⟨rfl, rfl⟩ := by simpa using he
      exact skip rfl rfl
    · rename_i cs
      split at he
      · rename_i hd0
        obtain ⟨rfl, rfl⟩ := by simpa using he
        have hx' := hx
        simp only [RepE] at hx'
        obtain ⟨d1, g, k, a1, a2, a3, a4⟩ := hx'
        have hv : rv r = u := by rw [a4]; simpa using a2.1 trivial
        rw [← hv] at hrep
        obtain ⟨b1, b2⟩ := h.backAll (X1 := X1) (e' := .ptr true cs) hd0 hX hF (Xe := Z) (fun b hb hh => hZ b hb (by
          rcases hh with hh | hh | hh
          · exact .inl (hX b hh)
          · exact .inl (hF b hh).1
          · exact .inr hh)) hrep
        refine ⟨_, b1, fun y v hy => killV_rep fun hk => b2 y v hk hy, fun b hb => ?_⟩
        rcases hb with hb | ⟨s, e, hs, hb⟩
        · exact .inl (hX b hb)
        · by_cases hsr : s = r
          · subst hsr
            rw [setFp_self] at hb
            exact .inl (hF b hb).1
          · rw [setFp_ne hsr] at hb; rw [look_updR_ne hsr] at hs; exact .inr ⟨s, e, hs, hb⟩
      · simp at he
    · simp at he
  · obtain ⟨rfl, rfl⟩ := by simpa using he
    exact skip rfl rfl

theorem backL_sound : ∀ (n : Nat) {X0 Z : Nat → Prop} {fr fr' : Fr} {fp : Nat → Nat → Prop} {xs q q' : List V} {us vs : List Value} {ds : List D} {ψ : Nat → Nat → Prop}, xs.length = n →
    FR w0 L (fun b => X0 b ∨ AllF n ψ b) w tm fr rv fp → (∀ b, AllF n ψ b → ¬ X0 b ∧ (L b ∨ w0.heap.size ≤ b)) → Disj n ψ →
    RepEs w (XX (fun b => X0 b ∨ AllF n ψ b) fr.roots fp) fr.roots rv xs us → RepEs w (XX (fun b => X0 b ∨ AllF n ψ b) fr.roots fp) fr.roots rv q vs →
    RepCs w Z ds (fun j => us[j]?) 0 ψ → (∀ b, b < w.heap.size → XX (fun b => X0 b ∨ AllF n ψ b) fr.roots fp b → Z b) → backL fr xs ds q = some (fr', q') →
    ∃ fp', FR w0 L X0 w tm fr' rv fp' ∧ RepEs w (XX X0 fr'.roots fp') fr'.roots rv q' vs ∧ (∀ b, XX X0 fr'.roots fp' b → XX (fun b => X0 b ∨ AllF n ψ b) fr.roots fp b)
  | 0, X0, Z, fr, fr', fp, xs, q, q', us, vs, ds, ψ, hn, h, hF, hD, hx, hq, hr, hZ, he => by
    obtain rfl := List.eq_nil_of_length_eq_zero hn
    have e : (fun b => X0 b ∨ AllF 0 ψ b) = X0 := by funext b; simp [AllF]
    rw [e] at h hq ⊢
    cases ds with
    | nil =>
      rw [backL] at he
      obtain ⟨rfl, rfl⟩ := by simpa using he
      exact ⟨fp, h, hq, fun b hb => hb⟩
    | cons _ _ => simp [backL] at he
  | n + 1, X0, Z, fr, fr', fp, xs, q, q', us, vs, ds, ψ, hn, h, hF, hD, hx, hq, hr, hZ, he => by
    obtain ⟨x, xs, rfl⟩ := List.exists_cons_of_ne_nil (l := xs) (by rintro rfl; simp at hn)
    cases ds with
    | nil => simp [backL] at he
    | cons d ds =>
      rw [backL] at he
      split at he
      · rename_i fr1 bad hb
        simp only [RepEs] at hx
        obtain ⟨u, us, rfl, h1, h2⟩ := hx
        simp only [RepCs] at hr
        obtain ⟨⟨v0, hv0, hrv⟩, hrs⟩ := hr
        obtain rfl : u = v0 := by simpa using hv0
        have hrs' := repCs_tail hrs
        simp only [List.getElem?_cons_succ] at hrs'
        have hall := allF_succ ψ n
        obtain ⟨fp1, a1, a2, a3⟩ := backC_sound (X1 := fun b => X0 b ∨ AllF n (fun j => ψ (j + 1)) b) (F := ψ 0) h (fun b hb => hb.imp id fun hb => (hall b).2 (.inr hb))
          (fun b hb => ⟨.inr ((hall b).2 (.inl hb)), fun hx => hx.elim (hF b ((hall b).2 (.inl hb))).1 (fun ⟨j, hj, hj'⟩ => by
            have := hD 0 (j + 1) b (by omega) (by omega) hb hj'; omega), (hF b ((hall b).2 (.inl hb))).2⟩) h1 hrv hZ hb
        obtain ⟨fp2, b1, b2, b3⟩ := backL_sound n (ψ := fun j => ψ (j + 1)) (by simpa using hn) a1 (fun b hb => hF b ((hall b).2 (.inr hb))) (fun i j b hi hj q1 q2 => by have := hD (i + 1) (j + 1) b (by omega) (by omega) q1 q2; omega)
          (repEs_kill a2 h2) (repEs_kill a2 hq) hrs' (fun b hb hx => hZ b hb (a3 b hx)) he
        exact ⟨fp2, b1, b2, fun b hb => a3 b (b3 b hb)⟩
      · simp at he
end
end Go.Proofs.Ytgnohnlpicmnaaa.Vm
set_option linter.unusedSimpArgs false
set_option linter.unusedVariables false
namespace Go.Proofs.Ytgnohnlpicmnaaa.Vm
open Go

/-- The cells that a part of a result fills. -/
def partCells : D → List D
  | .agg cs => cs
  | d => [d]

/-- The cells of a root's row, as values, from a place on. -/
def rowV (r : Nat) : Nat → List D → List V
  | _, [] => []
  | o, d :: ds => cellV r [] o d :: rowV r (o + 1) ds

/-- The parts of a result, in their row. -/
def partsV (r : Nat) : Nat → List D → List V
  | _, [] => []
  | o, d :: ds => (match d with
    | .agg cs => .agg (rowV r o cs)
    | d => cellV r [] o d) :: partsV r (o + (partCells d).length) ds

/-- What a call yields, and the root that it comes to. -/
def resV (dst : Nat) (d : D) : Option (V × Option D) :=
  if d.plain = true then some (.val d, none) else match d with
    | .sl true sz n cs => some (.ref dst [] 0, some (.agg [.sl true sz n cs]))
    | .ptr true cs => some (.addr dst [] 0, some (.ptr true cs))
    | .agg cs => some (.agg (rowV dst 0 cs), some (.agg cs))
    | .tup ds => if ds.all (fun d => match d with | .tup _ => false | .gone => false | _ => true) = true then some (.tup (partsV dst 0 ds), some (.agg (ds.flatMap partCells))) else none
    | _ => none

section
variable {P : Program} {w0 : World} {L X0 : Nat → Prop} {w : World} {tm : Array Value} {fr : Fr} {rv : Nat → Value} {fp : Nat → Nat → Prop} {X : Nat → Prop} {R : List (Nat × D)}

theorem rowV_len {r : Nat} : ∀ {o : Nat} {ds : List D}, (rowV r o ds).length = ds.length
  | _, [] => rfl
  | o, d :: ds => by simp [rowV, rowV_len (o := o + 1) (ds := ds)]

theorem rowV_sound {r : Nat} {all : List D} {us : Array Value} (hd : look r R = some (.agg all)) (hv : rv r = .agg us) : ∀ {ds : List D} {o : Nat} {vs : List Value} {φ : Nat → Nat → Prop},
    (∀ (j : Nat) (d : D), ds[j]? = some d → all[o + j]? = some d) → (∀ (j : Nat) (v : Value), vs[j]? = some v → us[o + j]? = some v) → vs.length = ds.length → RepCs w X ds (fun j => vs[j]?) 0 φ → RepEs w X R rv (rowV r o ds) vs
  | [], o, vs, φ, _, _, hl, _ => by
    obtain rfl := List.eq_nil_of_length_eq_zero hl
    simp [rowV, RepEs]
  | d :: ds, o, vs, φ, ha, hu, hl, hr => by
    obtain ⟨v, vs, rfl⟩ := List.exists_cons_of_ne_nil (l := vs) (by rintro rfl; simp at hl)
    simp only [RepCs] at hr
    obtain ⟨⟨v0, hv0, hrv⟩, hrs⟩ := hr
    obtain rfl : v = v0 := by simpa using hv0
    have hrs' := repCs_tail hrs
    simp only [List.getElem?_cons_succ] at hrs'
    simp only [rowV, RepEs]
    refine ⟨v, vs, rfl, ?_, rowV_sound hd hv (fun j d' hj => by have := ha (j + 1) d' (by simpa using hj); rwa [show o + (j + 1) = o + 1 + j by omega] at this)
      (fun j v' hj => by have := hu (j + 1) v' (by simpa using hj); rwa [show o + (j + 1) = o + 1 + j by omega] at this) (by simpa using hl) hrs'⟩
    exact cell_rep (d := .agg all) (row := all) (bk := .vals us) hd (by simp [D.rowAt, D.row]) (by simpa using ha 0 d rfl) (by simp [nav, hv, rowB]) (by simpa [cvB] using hu 0 v rfl) hrv

def headVals : D → Value → List Value
  | .agg _, u => u.cells.toList
  | _, u => [u]
theorem headVals_ne {d : D} {u : Value} (h : ∀ cs, d ≠ .agg cs) : headVals d u = [u] := by
  cases d <;> first | rfl | exact absurd rfl (h _)

/-- The values of the parts, laid in a row. -/
def partVals : List D → List Value → List Value
  | d :: ds, u :: us => (headVals d u) ++ partVals ds us
  | _, _ => []

theorem partCells_ne {d : D} (h : ∀ cs, d ≠ .agg cs) : partCells d = [d] := by
  cases d <;> first | rfl | exact absurd rfl (h _)

theorem parts_flat : ∀ {ds : List D} {us : List Value} {φ : Nat → Nat → Prop}, us.length = ds.length → RepCs w X ds (fun j => us[j]?) 0 φ → Disj ds.length φ →
    ∃ ψ, RepCs w X (ds.flatMap partCells) (fun j => (partVals ds us)[j]?) 0 ψ ∧ Disj (ds.flatMap partCells).length ψ ∧ (partVals ds us).length = (ds.flatMap partCells).length ∧ ∀ b, AllF (ds.flatMap partCells).length ψ b ↔ AllF ds.length φ b
  | [], us, φ, hl, hr, hd => ⟨φ, by simp [RepCs], fun i j b hi => by simp at hi, by simp [partVals], fun b => by simp [AllF]⟩
  | d :: ds, us, φ, hl, hr, hd => by
    obtain ⟨u, us, rfl⟩ := List.exists_cons_of_ne_nil (l := us) (by rintro rfl; simp at hl)
    simp only [RepCs] at hr
    obtain ⟨⟨v0, hv0, hrv⟩, hrs⟩ := hr
    obtain rfl : u = v0 := by simpa using hv0
    have hrs' := repCs_tail hrs
    simp only [List.getElem?_cons_succ] at hrs'
    obtain ⟨ψ, k1, k2, k3, k4⟩ := parts_flat (φ := fun j => φ (j + 1)) (by simpa using hl) hrs' (fun i j b hi hj a1 a2 => by have := hd (i + 1) (j + 1) b (by simp; omega) (by simp; omega) a1 a2; omega)
    have hsep : ∀ b, φ 0 b → ¬ AllF (ds.flatMap partCells).length ψ b := fun b hb1 hb2 => by
      obtain ⟨j, hj, hbj⟩ := (k4 b).1 hb2
      have := hd 0 (j + 1) b (by simp) (by simp; omega) hb1 hbj
      omega
    simp only [List.flatMap_cons]
    -- the head, as a row of its own
    have head : ∃ χ, RepCs w X (partCells d) (fun j => (headVals d u)[j]?) 0 χ ∧ Disj (partCells d).length χ ∧ (headVals d u).length = (partCells d).length ∧ ∀ b, AllF (partCells d).length χ b ↔ φ 0 b := by
      have one : (∀ cs, d ≠ .agg cs) → ∃ χ, RepCs w X [d] (fun j => [u][j]?) 0 χ ∧ Disj [d].length χ ∧ [u].length = [d].length ∧ ∀ b, AllF [d].length χ b ↔ φ 0 b := fun _ =>
        ⟨fun _ => φ 0, by simp only [RepCs, and_true]; exact ⟨u, rfl, hrv⟩, fun i j b hi hj _ _ => by simp at hi hj; omega, rfl, fun b => ⟨fun ⟨_, _, hb⟩ => hb, fun hb => ⟨0, by simp, hb⟩⟩⟩
      cases d with
      | agg cs =>
        simp only [RepV] at hrv
        obtain ⟨ua, χ, rfl, b2, b3, b4, b5⟩ := hrv
        exact ⟨χ, by simpa [Value.cells, partCells, headVals] using b3, b4, by simp [Value.cells, partCells, headVals, b2], fun b => (b5 b).symm⟩
      | _ => exact one (by simp)
    obtain ⟨χ, c1, c2, c3, c4⟩ := head
    refine ⟨joinF (partCells d).length χ ψ, ?_, by rw [List.length_append]; exact disj_join c2 k2 (fun b hb => hsep b ((c4 b).1 hb)), by simp only [partVals, List.length_append]; rw [c3, k3], fun b => ?_⟩
    · exact repCs_join (w' := w) (Y := X) c1 k1 c3 (fun j v hj => hj) (fun _ _ => ⟨fun _ _ _ => rfl, fun _ _ hb => hb⟩) (fun _ _ => ⟨fun _ _ _ => rfl, fun _ _ hb => hb⟩)
    · rw [List.length_append, allF_join, List.length_cons, allF_succ, c4, k4]

theorem partsV_sound {r : Nat} {all : List D} {us : Array Value} (hd : look r R = some (.agg all)) (hv : rv r = .agg us) : ∀ {ds : List D} {o : Nat} {vs : List Value} {φ : Nat → Nat → Prop},
    (∀ (j : Nat) (d : D), (ds.flatMap partCells)[j]? = some d → all[o + j]? = some d) → (∀ (j : Nat) (v : Value), (partVals ds vs)[j]? = some v → us[o + j]? = some v) → vs.length = ds.length → RepCs w X ds (fun j => vs[j]?) 0 φ →
    RepEs w X R rv (partsV r o ds) vs
  | [], o, vs, φ, _, _, hl, _ => by
    obtain rfl := List.eq_nil_of_length_eq_zero hl
    simp [partsV, RepEs]
  | d :: ds, o, vs, φ, ha, hu, hl, hr => by
    obtain ⟨v, vs, rfl⟩ := List.exists_cons_of_ne_nil (l := vs) (by rintro rfl; simp at hl)
    simp only [RepCs] at hr
    obtain ⟨⟨v0, hv0, hrv⟩, hrs⟩ := hr
    obtain rfl : v = v0 := by simpa using hv0
    have hrs' := repCs_tail hrs
    simp only [List.getElem?_cons_succ] at hrs'
    simp only [List.flatMap_cons] at ha
    simp only [partVals] at hu
    simp only [partsV, RepEs]
    have hlen : (headVals d v).length = (partCells d).length := by
      cases d with
      | agg cs =>
        simp only [RepV] at hrv
        obtain ⟨ua, χ, rfl, b2, _⟩ := hrv
        simp [Value.cells, partCells, headVals, b2]
      | _ => rfl
    refine ⟨v, vs, rfl, ?_, partsV_sound hd hv (fun j d' hj => by
        have := ha ((partCells d).length + j) d' (by rw [List.getElem?_append_right (by omega), Nat.add_sub_cancel_left]; exact hj)
        rwa [← Nat.add_assoc] at this) (fun j v' hj => by
        have := hu ((partCells d).length + j) v' (by rw [← hlen, List.getElem?_append_right (by omega), Nat.add_sub_cancel_left]; exact hj)
        rwa [← Nat.add_assoc] at this) (by simpa using hl) hrs'⟩
    have cellcase : (∀ cs, d ≠ .agg cs) → RepE w X R rv (cellV r [] o d) v := fun hne => by
      have hp := partCells_ne hne
      refine cell_rep (d := .agg all) (row := all) (bk := .vals us) hd (by simp [D.rowAt, D.row]) (by simpa using ha 0 d (by simp [hp])) (by simp [nav, hv, rowB]) ?_ hrv
      rw [headVals_ne hne] at hu
      simpa [cvB] using hu 0 v (by simp)
    cases d with
    | agg cs =>
      simp only [RepV] at hrv
      obtain ⟨ua, χ, rfl, b2, b3, b4, b5⟩ := hrv
      simp only [RepE]
      refine ⟨ua, rfl, by rw [rowV_len, b2], rowV_sound hd hv (φ := χ) (fun j d' hj => ha j d' (by rw [List.getElem?_append_left (by simpa [partCells] using (List.getElem?_eq_some_iff.1 hj).1)]; exact hj))
        (fun j v' hj => hu j v' (by rw [List.getElem?_append_left (by simpa [headVals, Value.cells] using (List.getElem?_eq_some_iff.1 hj).1)]; exact hj)) (by simp [b2]) (by simpa using b3)⟩
    | _ => exact cellcase (by simp)
end
end Go.Proofs.Ytgnohnlpicmnaaa.Vm
set_option linter.unusedSimpArgs false
set_option linter.unusedVariables false
namespace Go.Proofs.Ytgnohnlpicmnaaa.Vm
open Go

def resFr (fr : Fr) (dst : Nat) : Option D → Fr
  | none => fr
  | some d0 => bornV fr dst d0

section
variable {P : Program} {w0 : World} {L X0 : Nat → Prop} {w : World} {tm : Array Value} {fr : Fr} {rv : Nat → Value} {fp : Nat → Nat → Prop}

theorem resV_sound {G Z : Nat → Prop} (h : FR w0 L (fun b => X0 b ∨ G b) w tm fr rv fp) (hG : ∀ b, G b → ¬ X0 b ∧ (L b ∨ w0.heap.size ≤ b)) {dst : Nat} {res : D} {v : Value} {y : V} {dr : Option D}
    (hrep : RepV w Z res v G) (hZ : ∀ b, b < w.heap.size → XX (fun b => X0 b ∨ G b) fr.roots fp b → Z b) (he : resV dst res = some (y, dr)) :
    ∃ rv' fp', FR w0 L X0 w tm (resFr fr dst dr) rv' fp' ∧ RepE w (XX X0 (resFr fr dst dr).roots fp') (resFr fr dst dr).roots rv' y v ∧ ∀ s, s ≠ dst → rv' s = rv s := by
  obtain ⟨c1, c2⟩ := h.cut dst
  have hsub : ∀ b, XX (fun b => X0 b ∨ G b) (dropR fr dst).roots fp b → XX (fun b => X0 b ∨ G b) fr.roots fp b := by
    rintro b (hb | ⟨s, d', hs, hb⟩)
    · exact .inl hb
    · exact .inr ⟨s, d', (look_cutR_some hs).2, hb⟩
  -- the new root
  have root : ∀ {d0 : D} {u0 : Value}, RepV w Z d0 u0 G → ∃ rv' fp', FR w0 L X0 w tm (bornV fr dst d0) rv' fp' ∧ rv' dst = u0 ∧ (∀ s, s ≠ dst → rv' s = rv s) ∧ (∀ b, b < w.heap.size → XX X0 (bornV fr dst d0).roots fp' b → Z b) := by
    intro d0 u0 hr
    obtain ⟨a1, a2⟩ := c1.add (X1 := X0) (r0 := dst) look_cutR_self (d0 := d0) (u0 := u0) (F0 := G) (fun b hb => .inl hb) (fun b hb => ⟨.inr hb, hG b hb⟩) (Xe := Z) (fun b hb hh => hZ b hb (hsub b (by
      rcases hh with hh | hh | hh
      · exact .inl (.inl hh)
      · exact .inl (.inr hh)
      · exact .inr hh))) hr
    refine ⟨_, _, a1, setRv_self _ _ _, fun s hs => setRv_ne hs _ _, fun b hb hx => ?_⟩
    rcases hx with hx | ⟨s, d', hs, hx⟩
    · exact hZ b hb (.inl (.inl hx))
    · by_cases hsr : s = dst
      · subst hsr; rw [setFp_self] at hx; exact hZ b hb (.inl (.inr hx))
      · rw [setFp_ne hsr] at hx
        simp only [bornV, look] at hs
        rw [if_neg (Ne.symm hsr)] at hs
        exact hZ b hb (hsub b (.inr ⟨s, d', hs, hx⟩))
  unfold resV at he
  split at he
  · rename_i hp
    obtain ⟨rfl, rfl⟩ := by simpa using he
    obtain ⟨a1, a2⟩ := h.less (X0 := X0) (fun b hb => .inl hb)
    refine ⟨rv, fp, a1, ?_, fun _ _ => rfl⟩
    simp only [RepE, resFr]
    exact plain_fp (RepV.stay res ⟨fun _ _ _ => rfl, fun b hb hx => hZ b hb (hx.imp .inl id)⟩ hrep) hp
  · split at he
    · rename_i sz n cs _
      obtain ⟨rfl, rfl⟩ := by simpa using he
      obtain ⟨rv', fp', a1, a2, a3, a4⟩ := root (wrap_row hrep)
      refine ⟨rv', fp', a1, ?_, a3⟩
      simp only [RepV] at hrep
      obtain ⟨g, o, cap, φ, rfl, _⟩ := hrep
      simp only [RepE, resFr]
      exact ⟨.agg [.sl true sz n cs], [.sl true sz n cs], .vals #[.slice (some ⟨g, o, none⟩) n cap], by simp [bornV, look], by simp [D.rowAt, D.row], by simp, by simp [nav, a2, rowB], by simp [cvB], _, _, _, _, rfl⟩
    · rename_i cs _
      obtain ⟨rfl, rfl⟩ := by simpa using he
      obtain ⟨rv', fp', a1, a2, a3, a4⟩ := root hrep
      refine ⟨rv', fp', a1, ?_, a3⟩
      simp only [RepV] at hrep
      obtain ⟨g, φ, rfl, _⟩ := hrep
      simp only [RepE, resFr]
      exact ⟨.ptr true cs, g, 0, by simp [bornV, look], ⟨fun _ => by simp [a2], .inl trivial⟩, by simp [nav, a2, rowB], by simp⟩
    · rename_i cs _
      obtain ⟨rfl, rfl⟩ := by simpa using he
      obtain ⟨rv', fp', a1, a2, a3, a4⟩ := root hrep
      refine ⟨rv', fp', a1, ?_, a3⟩
      have hrep' := RepV.stay (.agg cs) (X' := XX X0 (bornV fr dst (.agg cs)).roots fp') (w' := w) ⟨fun _ _ _ => rfl, fun b hb hx => a4 b hb hx⟩ hrep
      simp only [RepV] at hrep'
      obtain ⟨us, φ, rfl, b2, b3, b4, b5⟩ := hrep'
      simp only [RepE, resFr]
      exact ⟨us, rfl, by rw [rowV_len, b2], rowV_sound (all := cs) (us := us) (φ := φ) (by simp [bornV, look]) a2 (fun j d hj => by simpa using hj) (fun j u hj => by simpa using hj) (by simp [b2]) (by simpa using b3)⟩
    · rename_i ds _
      split at he
      · rename_i hall
        obtain ⟨rfl, rfl⟩ := by simpa using he
        simp only [RepV] at hrep
        obtain ⟨us, φ, rfl, b2, b3, b4, b5⟩ := hrep
        have b3' : RepCs w Z ds (fun j => us.toList[j]?) 0 φ := by simpa using b3
        obtain ⟨ψ, k1, k2, k3, k4⟩ := parts_flat (by simp [b2]) b3' b4
        have hflat : RepV w Z (.agg (ds.flatMap partCells)) (.agg (partVals ds us.toList).toArray) G := by
          simp only [RepV]
          exact ⟨_, ψ, rfl, by simpa using k3, by simpa using k1, k2, fun b => by rw [b5]; exact (k4 b).symm⟩
        obtain ⟨rv', fp', a1, a2, a3, a4⟩ := root hflat
        refine ⟨rv', fp', a1, ?_, a3⟩
        have b3'' := RepCs.stay ds (X' := XX X0 (bornV fr dst (.agg (ds.flatMap partCells))).roots fp') (w' := w) (fun i hi => ⟨fun _ _ _ => rfl, fun b hb hx => a4 b hb hx⟩) b3'
        have hlen : ∀ {r o : Nat} {l : List D}, (partsV r o l).length = l.length := by
          intro r o l
          induction l generalizing o with
          | nil => rfl
          | cons d l ih => simp [partsV, ih]
        simp only [RepE, resFr]
        exact ⟨us, rfl, by rw [hlen, b2], partsV_sound (all := ds.flatMap partCells) (us := (partVals ds us.toList).toArray) (φ := φ) (by simp [bornV, look]) a2 (fun j d hj => by simpa using hj) (fun j u hj => by simpa using hj) (by simp [b2]) b3''⟩
      · simp at he
    · simp at he
end
end Go.Proofs.Ytgnohnlpicmnaaa.Vm
set_option linter.unusedSimpArgs false
set_option linter.unusedVariables false
namespace Go.Proofs.Ytgnohnlpicmnaaa.Vm
open Go

/-- What is known of the functions that are called: which arguments are handed over, and what they yield: the result, and what is left of the arguments. -/
structure Cx where
  own : FuncId → List Bool
  pur : FuncId → Bool
  fn : FuncId → List D → Option (D × List D)

def SoundFn (P : Program) (f : FuncId) (F : List D → Option (D × List D)) : Prop :=
  ∀ (w : World) (X : Nat → Prop) (ds : List D) (vs : List Value) (φ : Nat → Nat → Prop) (d : D) (outs : List D),
    ds.length = vs.length → RepCs w X ds (fun j => vs[j]?) 0 φ → Disj ds.length φ → (∀ b, AllF ds.length φ b → X b) → (∀ b, X b → b < w.heap.size) → F ds = some (d, outs) →
    Calls P f vs.toArray w fun e w' => ∃ v G χ, e = .returned v ∧ outs.length = ds.length ∧ Chg w w' (AllF ds.length φ) ∧
      RepV w' (fun b => (X b ∧ ¬ AllF ds.length φ b) ∨ G b ∨ AllF outs.length χ b) d v G ∧ RepCs w' (fun b => (X b ∧ ¬ AllF ds.length φ b) ∨ G b ∨ AllF outs.length χ b) outs (fun j => vs[j]?) 0 χ ∧ Disj outs.length χ ∧
      (∀ b, G b → ¬ AllF outs.length χ b) ∧ ∀ b, G b ∨ AllF outs.length χ b → AllF ds.length φ b ∨ w.heap.size ≤ b

/-- The blocks that stood are as they were, and none has gone. -/
def ExtS (w w' : World) : Prop := Ext w w' ∧ w.heap.size ≤ w'.heap.size
theorem ExtS.refl (w : World) : ExtS w w := ⟨Ext.refl w, Nat.le_refl _⟩
theorem ExtS.of_chg {w w' : World} (h : Chg w w' E) : ExtS w w' := ⟨fun b hb => h.keep b hb fun hf => hf, h.size⟩
theorem ExtS.trans {w w1 w2 : World} (h : ExtS w w1) (k : ExtS w1 w2) : ExtS w w2 := ⟨fun b hb => (k.1 b (Nat.lt_of_lt_of_le hb h.2)).trans (h.1 b hb), Nat.le_trans h.2 k.2⟩

/-- Something is lent out of the roots. -/
def borrows : List Bool → List V → Bool
  | bs, y :: ys => (!(bs.head? == some true) && !(leaves y).isEmpty) || borrows bs.tail ys
  | _, [] => false

def evc (C : Cx) (fr : Fr) (dst : Nat) (f : FuncId) (xs : List V) : Option (V × Fr) :=
  if (C.own f).length = xs.length then match ownCells (C.own f) xs with
    | some fl => match moveAll fr fl (xs ++ fl) with
      | some (ms, fr1, q) => match asm fr1.roots (C.own f) xs (q.take xs.length) ms with
        | some ds => match C.fn f ds with
          | some (res, outs) => match unasm (C.own f) xs outs with
            | some os => if borrows (C.own f) (q.take xs.length) = true → (noSh res && noShL os) = true then (match backL fr1 (q.drop xs.length) os [] with
              | some (fr2, _) => match resV dst res with
                | some (y, dr) => some (y, resFr fr2 dst dr)
                | none => none
              | none => none) else none
            | none => none
          | none => none
        | none => none
      | none => none
    | none => none
  else none

section
variable {P : Program} {w0 : World} {L X0 : Nat → Prop} {w w' : World} {tm : Array Value} {fr : Fr} {rv : Nat → Value} {fp : Nat → Nat → Prop} {X : Nat → Prop} {R : List (Nat × D)}

theorem repEs_split : ∀ {us vs : List Value} {q : List V}, RepEs w X R rv q (us ++ vs) → RepEs w X R rv (q.take us.length) us ∧ RepEs w X R rv (q.drop us.length) vs
  | [], vs, q, h => by simpa [RepEs] using h
  | u :: us, vs, q, h => by
    cases q with
    | nil => simp only [RepEs, List.cons_append] at h; exact absurd h (by simp)
    | cons x q =>
      simp only [RepEs, List.cons_append] at h
      obtain ⟨u', us', e, h1, h2⟩ := h
      obtain ⟨rfl, rfl⟩ := List.cons.inj e
      obtain ⟨k1, k2⟩ := repEs_split h2
      simp only [List.length_cons, List.take_succ_cons, List.drop_succ_cons, RepEs]
      exact ⟨⟨u, us, rfl, h1, k1⟩, k2⟩

theorem repEs_len {xs : List V} {us : List Value} (h : RepEs w X R rv xs us) : us.length = xs.length := (repEs_iff.1 h).1

theorem repEs_tr {w' : World} {X' : Nat → Prop} {R' : List (Nat × D)} {rv' : Nat → Value} (t : ∀ x v, RepE w X R rv x v → RepE w' X' R' rv' x v) : ∀ {q : List V} {us : List Value}, RepEs w X R rv q us → RepEs w' X' R' rv' q us
  | [], us, h => by simp only [RepEs] at h ⊢; exact h
  | x :: q, us, h => by
    simp only [RepEs] at h ⊢
    obtain ⟨u, us', rfl, h1, h2⟩ := h
    exact ⟨u, us', rfl, t x u h1, repEs_tr t h2⟩

theorem borrows_false : ∀ {ys : List V} {bs : List Bool}, borrows bs ys = false → ∀ (i : Nat) (y : V), ys[i]? = some y → bs[i]? ≠ some true → leaves y = []
  | [], bs, _, i, y, hy, _ => by simp at hy
  | y0 :: ys, bs, h, i, y, hy, hb => by
    simp only [borrows, Bool.or_eq_false_iff, Bool.and_eq_false_imp, Bool.not_eq_true', beq_eq_false_iff_ne, Bool.not_eq_false', List.isEmpty_iff] at h
    cases i with
    | zero =>
      simp at hy; subst hy
      exact h.1 (by cases bs <;> simp at hb ⊢; exact hb)
    | succ i => exact borrows_false h.2 i y (by simpa using hy) (by cases bs <;> simp at hb ⊢; exact hb)

theorem evc_sound {C : Cx} (hC : ∀ f, SoundFn P f (C.fn f)) (h : FR w0 L X0 w tm fr rv fp) {dst : Nat} {f : FuncId} {xs : List V} {us : List Value} {y : V} {fr' : Fr} (hx : RepEs w (XX X0 fr.roots fp) fr.roots rv xs us)
    (he : evc C fr dst f xs = some (y, fr')) :
    Calls P f us.toArray w fun e w' => ∃ v rv' fp', e = .returned v ∧ FR w0 L X0 w' tm fr' rv' fp' ∧ RepE w' (XX X0 fr'.roots fp') fr'.roots rv' y v ∧ (∀ s, s ≠ dst → rv' s = rv s) ∧ (ownCells (C.own f) xs = some [] → ExtS w w') := by
  unfold evc at he
  split at he
  · rename_i hown
    split at he
    · rename_i fl hfl
      have hus := repEs_len hx
      have hflv := ownCells_sound hown hx hfl
      split at he
      · rename_i ms fr1 q hmv
        obtain ⟨φ, fp1, a1, a2, a3, a4, a5, a6, a7⟩ := moveAll_sound fl.length rfl h hflv (repEs_append hx hflv) hmv
        obtain ⟨b1, b2⟩ := repEs_split a7
        rw [hus] at b1 b2
        split at he
        · rename_i ds hasm
          split at he
          · rename_i res outs hfn
            split at he
            · rename_i os hos
              split at he
              · rename_i hsh
                split at he
                · rename_i fr2 q2 hback
                  split at he
                  · rename_i y' dr hres
                    obtain ⟨rfl, rfl⟩ := by simpa using he
                    -- what the callee's shared parts keep off
                    generalize hbor : borrows (C.own f) (q.take xs.length) = shr at hsh
                    have hXc : ∃ Xc : Nat → Prop, (∀ b, Xc b → XX X0 fr.roots fp b) ∧ (∀ b, X0 b ∨ AllF fl.length φ b → Xc b) ∧ (shr = false → Xc = XX X0 fr.roots fp) ∧
                        (∀ (i : Nat) (y : V) (u : Value) (d : D), (q.take xs.length)[i]? = some y → us[i]? = some u → (C.own f)[i]? ≠ some true → borV fr1.roots y = some d → RepV w Xc d u E) := by
                      cases shr with
                      | true =>
                        refine ⟨fun b => X0 b ∨ AllF fl.length φ b, fun b hb => by rw [← a6]; exact .inl hb, fun b hb => hb, by simp, fun i y u d hy hu hb hd => ?_⟩
                        refine borV_sound a4 (v := u) ?_ hd
                        rw [a6]
                        exact (repEs_iff.1 b1).2 i y u hy hu
                      | false =>
                        refine ⟨XX X0 fr.roots fp, fun b hb => hb, fun b hb => by rw [← a6]; exact .inl hb, fun _ => rfl, fun i y u d hy hu hb hd => ?_⟩
                        exact borV_free ((repEs_iff.1 b1).2 i y u hy hu) (borrows_false hbor i y hy hb) hd
                    obtain ⟨Xc, x1, x2, x3, x4⟩ := hXc
                    have hms : RepCs w Xc ms (fun j => (ownVals (C.own f) xs us)[j]?) 0 φ := RepCs.stay ms (fun i hi => ⟨fun _ _ _ => rfl, fun b _ hb => x1 b hb⟩) a2
                    obtain ⟨ψ, c1, c2, c3, c4⟩ := asm_sound (ys := q.take xs.length) hx ((repEs_len b1).symm.trans hus) hms (by rw [a1]; exact a3) (by rw [a1, repEs_len hflv]) x4 hasm
                    have hψ : ∀ b, AllF ds.length ψ b ↔ AllF fl.length φ b := fun b => by rw [c4, a1]
                    have hcall := hC f w Xc ds us ψ res outs c1 c2 c3 (fun b hb => x2 b (.inr ((hψ b).1 hb))) (fun b hb => h.XX_lt (x1 b hb)) hfn
                    refine hcall.mono ?_
                    rintro e w' ⟨v, G, χ, rfl, d1, d2, d3, d4, d5, d6, d7⟩
                    obtain ⟨ω, e1, e2, e3, e4⟩ := unasm_sound hx d4 d5 hos
                    have hlen : os.length = fl.length := by rw [e3, repEs_len hflv]
                    have hnew : ∀ b, G b ∨ AllF os.length ω b → (AllF fl.length φ b ∨ w.heap.size ≤ b) := fun b hb => by
                      rcases d7 b (hb.imp id (e4 b)) with hb | hb
                      · exact .inl ((hψ b).1 hb)
                      · exact .inr hb
                    have hlt : ∀ b, G b ∨ AllF os.length ω b → b < w'.heap.size := fun b hb => by
                      rcases hb with hb | ⟨i, hi, hb⟩
                      · exact RepV.old res d3 b hb
                      · exact RepCs.old os e1 i b hi (by simpa using hb)
                    have hx0 : ∀ b, G b ∨ AllF os.length ω b → ¬ X0 b ∧ (L b ∨ w0.heap.size ≤ b) := fun b hb => by
                      rcases hnew b hb with hb | hb
                      · exact ⟨(a5 b hb).1, (a5 b hb).2.1⟩
                      · exact ⟨fun hx0 => absurd (h.x0 b hx0) (by omega), .inr (Nat.le_trans h.size hb)⟩
                    obtain ⟨f1, t1⟩ := a4.chg d2 (fun b hb => .inr ((hψ b).1 hb)) (fun b hb => (a5 b ((hψ b).1 hb)).2.1)
                    obtain ⟨f2, t2⟩ := f1.less (X0 := fun b => (X0 b ∨ G b) ∨ AllF os.length ω b) (fun b hb => by
                      have : X0 b ∨ (G b ∨ AllF os.length ω b) := by rwa [or_assoc] at hb
                      rcases this with hb | hb
                      · exact .inl (.inl hb)
                      · rcases hnew b hb with hb' | hb'
                        · exact .inl (.inr hb')
                        · exact .inr ⟨hb', hlt b hb⟩)
                    rw [← a6] at b2
                    have b2' := repEs_tr (fun x v hv => t2 x v (t1 x v hv)) b2
                    -- under what the parts are told
                    have hZ : ∃ Z : Nat → Prop, RepV w' Z res v G ∧ RepCs w' Z os (fun j => (ownVals (C.own f) xs us)[j]?) 0 ω ∧ ∀ b, b < w'.heap.size → XX (fun b => (X0 b ∨ G b) ∨ AllF os.length ω b) fr1.roots fp1 b → Z b := by
                      cases shr with
                      | true =>
                        have hn := hsh rfl
                        simp only [Bool.and_eq_true] at hn
                        exact ⟨_, RepV.noSh res hn.1 d3, RepCs.noSh os hn.2 e1, fun b _ hb => hb⟩
                      | false =>
                        refine ⟨_, d3, e1, fun b _ hb => ?_⟩
                        have hx := x3 rfl
                        rcases hb with (((hb | hb) | hb) | ⟨s, d', hs, hb⟩)
                        · exact .inl ⟨x2 b (.inl hb), fun hf => (a5 b ((hψ b).1 hf)).1 hb⟩
                        · exact .inr (.inl hb)
                        · exact .inr (.inr (e4 b hb))
                        · left; exact ⟨by rw [hx, ← a6]; exact .inr ⟨s, d', hs, hb⟩, fun hf => a4.out s d' b hs hb (.inr ((hψ b).1 hf))⟩
                    obtain ⟨Z, z1, z2, z3⟩ := hZ
                    obtain ⟨fp2, g1, g2, g3⟩ := backL_sound os.length (X0 := fun b => X0 b ∨ G b) (ψ := ω) (vs := []) (by rw [← repEs_len b2, hlen, repEs_len hflv]) f2 (fun b hb => ⟨fun hx => hx.elim (hx0 b (.inr hb)).1 (fun hg => d6 b hg (e4 b hb)), (hx0 b (.inr hb)).2⟩) e2 b2' (by simp [RepEs]) z2 z3 hback
                    obtain ⟨rv', fp', k1, k2, k3⟩ := resV_sound g1 (fun b hb => hx0 b (.inl hb)) z1 (fun b hb hx => z3 b hb (g3 b hx)) hres
                    refine ⟨v, rv', fp', rfl, k1, k2, k3, fun hnil => ⟨fun b hb => d2.keep b hb fun hf => ?_, d2.size⟩⟩
                    rw [hfl] at hnil
                    obtain rfl := Option.some.inj hnil
                    have := (hψ b).1 hf
                    simp [AllF] at this
                  · simp at he
                · simp at he
              · simp at he
            · simp at he
          · simp at he
        · simp at he
      · simp at he
    · simp at he
  · simp at he
end
end Go.Proofs.Ytgnohnlpicmnaaa.Vm
