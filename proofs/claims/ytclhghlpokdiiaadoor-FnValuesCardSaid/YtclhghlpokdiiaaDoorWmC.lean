/- Part of a machine that runs a Go function on plain values, with the proof that what it yields is what the function yields. -/
import Derived.Test.YtclhghlpokdiiaaDoorWmB
import Derived.ChangeArms
import Derived.WideShapes
set_option linter.unusedSimpArgs false
set_option linter.unusedVariables false
namespace Go.Proofs.YtclhghlpokdiiaaDoor.Wm
open Go
/-! Stores, slices of slices, strings -/
def bslF (id sz len : Nat) : Option (List (List D) × Heap) → Option (V × Heap)
  | some (els, H1) => if free id H1 = true then some (.sl id 0 len, (id, .row false sz els) :: H1) else none
  | none => none
def boxF (H : Heap) (id : Nat) : Option (List V) → Option (V × Heap)
  | some xs => if free id H = true then some (.pt id 0, (id, .var false xs) :: H) else none
  | none => none
def stP (H : Heap) (b o : Nat) (xs : List V) : Option Blk → Option Heap
  | some (.var old cs) => if o + xs.length ≤ cs.length then some (updB b (.var old (splice cs xs o)) H) else none
  | _ => none
def stE1 (b i o : Nat) (ds : List D) (H1 : Heap) : Option Blk → Option Heap
  | some (.row old sz els) => els[i]?.bind fun el => if o + ds.length ≤ el.length then some (updB b (.row old sz (els.set i (splice el ds o))) H1) else none
  | _ => none
def stE (b i o : Nat) : Option (List D × Heap) → Option Heap
  | some (ds, H1) => stE1 b i o ds H1 (look b H1)
  | none => none
def stA (H : Heap) (xs : List V) : V → Option Heap
  | .pt b o => stP H b o xs (look b H)
  | .ep b i o => stE b i o (plainL H xs)
  | _ => none
def stX (H : Heap) (a : V) : Option (List V) → Option Heap
  | some xs => if xs.all isCell = true then stA H xs a else none
  | none => none
section
variable {β : Type} {C : Cx} {H : Heap} {x y a : Od} {s : Option Nat} {n o sz dst b i len : Nat} {α : Type} {f : α → List D} {xs ys : List α} {old : Bool} {ρ : Od → V} {zs : List D}
theorem evm_box : evm ρ H dst (.box s x) = boxF H (bid dst) (cellsV s (ρ x)) := by
  simp only [evm, boxF]
  cases cellsV s (ρ x) <;> rfl
theorem evm_alc {zs : List V} : evm ρ H dst (.alc zs) = boxF H (bid dst) (some zs) := rfl
theorem evm_bsl {ps : List Part} : evm ρ H dst (.bsl sz zs len ps) = bslF (bid dst) sz len (bslEls ρ sz H (List.replicate len zs) ps) := by
  simp only [evm, bslF]
  cases bslEls ρ sz H (List.replicate len zs) ps <;> rfl
theorem evs_st : evs ρ H (.st s a x) = stX H (ρ a) (cellsV s (ρ x)) := by
  simp only [evs, stX]
  cases cellsV s (ρ x) with
  | none => rfl
  | some xs =>
    simp only []
    split
    · generalize ρ a = v
      cases v with
      | pt b o => 
        simp only [stA, stP]
        cases look b H with
        | none => rfl
        | some B => cases B <;> rfl
      | ep b i o =>
        simp only [stA, stE]
        cases plainL H xs with
        | none => rfl
        | some p =>
          obtain ⟨ds, H1⟩ := p
          simp only [stE1]
          cases look b H1 with
          | none => rfl
          | some B =>
            cases B with
            | row old sz els => simp only []; cases els[i]? <;> rfl
            | _ => rfl
      | _ => rfl
    · rfl
theorem stR_some : stR (some H) = some (.dead, H) := rfl
theorem stR_none : stR none = none := rfl
theorem stR_bind {r : Option α} {g : α → Option Heap} : stR (r.bind g) = r.bind fun x => stR (g x) := by cases r <;> rfl

def cutI (n : Nat) (l h : Int) : Option (Nat × Nat) := if 0 ≤ h ∧ h ≤ (n : Int) then (if 0 ≤ l ∧ l ≤ (h.toNat : Int) then some (l.toNat, h.toNat) else none) else none
def subI (xs : List α) (l h : Int) : Option (List α) := (cutI xs.length l h).map fun p => (xs.drop p.1).take (p.2 - p.1)
theorem cut_oo {j k : IntKind} {l h : Int} : cut n (some (.val (.int j l))) (some (.val (.int k h))) = cutI n l h := by
  simp only [cut, bnd, cutI]
  by_cases h1 : 0 ≤ h ∧ h ≤ (n : Int)
  · simp only [if_pos h1]; split <;> rename_i q <;> split at q <;> simp_all
  · simp only [if_neg h1]
theorem cut_on {j : IntKind} {l : Int} : cut n (some (.val (.int j l))) none = cutI n l n := by
  simp only [cut, bnd, cutI]
  have h1 : (0 : Int) ≤ n ∧ (n : Int) ≤ n := ⟨by omega, by omega⟩
  simp only [if_pos h1, Int.toNat_natCast]
  split <;> rename_i q <;> split at q <;> simp_all
theorem cut_no {k : IntKind} {h : Int} : cut n none (some (.val (.int k h))) = cutI n 0 h := by
  simp only [cut, bnd, cutI]
  by_cases h1 : 0 ≤ h ∧ h ≤ (n : Int)
  · have : (0 : Int) ≤ 0 ∧ (0 : Int) ≤ (h.toNat : Int) := ⟨by omega, by omega⟩
    simp only [if_pos h1, if_pos this]; rfl
  · simp only [if_neg h1]
theorem cut_nn : cut n none none = cutI n 0 n := by
  simp only [cut, bnd, cutI]
  have h1 : (0 : Int) ≤ n ∧ (n : Int) ≤ n := ⟨by omega, by omega⟩
  have h2 : (0 : Int) ≤ 0 ∧ (0 : Int) ≤ ((n : Int).toNat : Int) := ⟨by omega, by omega⟩
  simp only [if_pos h1, if_pos h2]; rfl
def sliR (b sz o : Nat) (c : Option (Nat × Nat)) : Option Blk → Option V
  | some (.row _ sz' els) => if sz' = sz then c.map fun p => .sl b (o + p.1) (p.2 - p.1) else none
  | _ => none
def sliZ (b sz : Nat) : Option Blk → Option V
  | some (.row _ _ els) => some (.emp sz)
  | _ => none
theorem sli_sl {lo hi : Option V} : sliV H sz (.sl b o n) lo hi none = sliR b sz o (cut n lo hi) (look b H) := by
  simp only [sliV, sliR]
  cases look b H with
  | none => rfl
  | some B =>
    cases B with
    | row old sz' els => simp only []; split
                         · cases cut n lo hi <;> rfl
                         · rfl
    | _ => rfl
theorem sliR_row {c : Option (Nat × Nat)} : sliR b sz o c (some (.row old sz (rowE f xs))) = c.map fun p => .sl b (o + p.1) (p.2 - p.1) := by simp [sliR]
theorem sli_sh {k : Wm.K} {lo hi : Option V} : sliV H sz (.val (.sh k sz (rowE f xs))) lo hi none = (cut xs.length lo hi).map fun p => .val (.sh k sz (rowE f ((xs.drop p.1).take (p.2 - p.1)))) := by
  simp only [sliV, if_true, rowE_len]
  cases cut xs.length lo hi with
  | none => rfl
  | some p => simp [rowE]
theorem sli_emp {lo hi : Option V} : sliV H sz (.emp n) lo hi none = (cut 0 lo hi).map fun _ => .emp n := by
  simp only [sliV]
  cases cut 0 lo hi <;> rfl
theorem sliZ_sl {j k : IntKind} : sliV H sz (.sl b o n) none (some (.val (.int j 0))) (some (.val (.int k 0))) = sliZ b sz (look b H) := by
  simp only [sliV, sliZ, isZ, Option.isNone_none, Bool.and_self, if_true]
  cases look b H with
  | none => rfl
  | some B => cases B <;> rfl
theorem sliZ_row {els : List (List D)} : sliZ b sz (some (.row old n els)) = some (.emp sz) := rfl
theorem sliZ_sh {k' : Wm.K} {j k : IntKind} {els : List (List D)} : sliV H sz (.val (.sh k' n els)) none (some (.val (.int j 0))) (some (.val (.int k 0))) = some (.emp sz) := by
  simp [sliV, isZ]
theorem sliZ_emp {j k : IntKind} : sliV H sz (.emp n) none (some (.val (.int j 0))) (some (.val (.int k 0))) = some (.emp sz) := by
  simp [sliV, isZ]
theorem ssl_str {s : List UInt8} {lo hi : Option V} : sslV (.val (.str s)) lo hi = (cut s.length lo hi).map fun p => .val (.str ((s.drop p.1).take (p.2 - p.1))) := by
  simp only [sslV]
  cases cut s.length lo hi <;> rfl
theorem sidx_str {s : List UInt8} {j : IntKind} {i : Int} : sidxV (.val (.str s)) (.val (.int j i)) = (getI s i).map fun b => .val (.int .u8 (b.toNat : Int)) := by
  simp only [sidxV]
  cases getI s i <;> rfl
def bytesI : List Int → Option (List UInt8)
  | [] => some []
  | n :: l => (byteOf [.int .u8 n]).bind fun b => (bytesI l).map fun bs => b :: bs
theorem bytesOf_row {l : List Int} : bytesOf (rowE (eI .u8) l) = bytesI l := by
  induction l with
  | nil => rfl
  | cons n l ih =>
    have : rowE (eI .u8) (n :: l) = [.int .u8 n] :: rowE (eI .u8) l := rfl
    simp only [this, bytesOf, bytesI, ih]
    cases byteOf [.int .u8 n] with
    | none => rfl
    | some b => simp only [Option.bind_some]; cases bytesI l <;> rfl
def cvsR : Option (Nat × List (List D)) → Option V
  | some (_, els) => (bytesOf els).map fun s => .val (.str s)
  | none => none
theorem cvs_eq {v : V} : cvsV H v = cvsR (elsOf H v) := by
  simp only [cvsV, cvsR]
  cases elsOf H v with
  | none => rfl
  | some p => obtain ⟨sz, els⟩ := p; simp only []; cases bytesOf els <;> rfl
theorem cvsR_some {els : List (List D)} : cvsR (some (n, els)) = (bytesOf els).map fun s => .val (.str s) := rfl
end
attribute [go_sem] evm_box evm_alc evm_bsl evm_msl mslV_int mslF_int mslF_bool eva_app elsOf_sl elsOf_sh elsOf_emp elsR_row appV appR appC_row boxF bslF
attribute [go_sem] List.length_set evs_st stX stA stP stE stE1 stR_some stR_none stR_bind rowE_nil List.take_length List.nil_append List.append_nil
attribute [go_sem] cut_oo cut_on cut_no cut_nn sli_sl sliR_row sli_sh sli_emp sliZ_sl sliZ_row sliZ_sh sliZ_emp ssl_str sidx_str cvs_eq cvsR_some bytesOf_row
end Go.Proofs.YtclhghlpokdiiaaDoor.Wm
namespace Go.Proofs.YtclhghlpokdiiaaDoor.Wm
open Go
section
variable {β : Type} {C : Cx} {K : List (Kont β)} {fr : Fr} {h : Option Hint}
/-- Other orders of a region come to the same frame. -/
def altsEq (C : Cx) (h : Option Hint) (m : List Vop) (fr : Fr) : List (List Vop) → Prop
  | [] => True
  | l :: ls => runR (β := Fr) C [.fin fun _ f => some f] h l fr = runR (β := Fr) C [.fin fun _ f => some f] h m fr ∧ altsEq C h m fr ls
theorem runR_fin {l : List Vop} : runR (β := Fr) C [.fin fun _ f => some f] h l fr = (steps C fr l).bind (tidyO h) := by
  unfold runR
  cases steps C fr l with
  | none => rfl
  | some f1 => simp only [Option.bind_some]; cases tidyO h f1 <;> rfl
theorem altsEq_all {m : List Vop} : ∀ {alts : List (List Vop)}, altsEq C h m fr alts → ∀ l ∈ alts, (steps C fr l).bind (tidyO h) = (steps C fr m).bind (tidyO h)
  | a :: alts, hh, l, hl => by
    simp only [altsEq, runR_fin] at hh
    rcases List.mem_cons.1 hl with rfl | hl
    · exact hh.1
    · exact altsEq_all hh.2 l hl
theorem run_alts {m : List Vop} {alts : List (List Vop)} (H : altsEq C h m fr alts) : run C K (.region m alts h) fr = runR C K h m fr := by
  have H' := altsEq_all H
  unfold run runR
  simp only [vx]
  cases hm : steps C fr m with
  | none => rfl
  | some f1 =>
    simp only [Option.bind_some]
    cases ht : tidyO h f1 with
    | none => rfl
    | some f2 =>
      have : altsOk C fr h f2 alts = some (.normal, f2) := by
        unfold altsOk
        split
        · rfl
        · rw [if_pos]
          intro l hl
          have := H' l hl
          rw [hm] at this
          simp only [Option.bind_some, ht] at this
          obtain ⟨f3, q1, q2⟩ := Option.bind_eq_some_iff.1 this
          exact ⟨f3, q1, q2⟩
      simp only [this, Option.bind_some]
end
end Go.Proofs.YtclhghlpokdiiaaDoor.Wm
namespace Go.Proofs.YtclhghlpokdiiaaDoor.Wm
open Go
section
variable {β : Type} {C : Cx} {K : List (Kont β)} {fr fr' : Fr} {h : Option Hint} {l : List Vop} {d : Option Nat}
/-! In stages, and without looking into code again and again -/
noncomputable def guardR (C : Cx) (K : List (Kont β)) (h : Option Hint) (l : List Vop) (d : Option Nat) (i : I) (fr : Fr) (o : Option Bool) : Option β := o.bind fun c => if c = true then runR C K h (⟨d, i, none⟩ :: l) fr else contV C K h l d fr (some (.tup []))
theorem w_guardR {i : I} {t : Nat} {want : Bool} {env : List (Nat × V)} {H : Heap} {nt : Nat} : runR C K h (⟨d, i, some (t, want)⟩ :: l) ⟨env, H, nt⟩ = guardR C K h l d i ⟨env, H, nt⟩ (condV (oval C.gl env (.tmp t)) want) := w_guard
theorem guardR_some {i : I} {c : Bool} : guardR C K h l d i fr (some c) = if c = true then runR C K h (⟨d, i, none⟩ :: l) fr else contV C K h l d fr (some (.tup [])) := rfl
noncomputable def condX (C : Cx) (K : List (Kont β)) (a b : Vc) (ha hb : Option Hint) (fr : Fr) (v : V) : Option β := condR v (contT C K a (tidyO ha fr)) (contT C K b (tidyO hb fr))
theorem run_condX {c : Od} {ha hb : Option Hint} {a b : Vc} {env : List (Nat × V)} {H : Heap} {nt : Nat} : run C K (.cond c ha hb a b) ⟨env, H, nt⟩ = condX C K a b ha hb ⟨env, H, nt⟩ (oval C.gl env c) := run_cond
theorem condX_bool {a b : Vc} {ha hb : Option Hint} {t : Bool} : condX C K a b ha hb fr (.val (.bool t)) = if t = true then contT C K a (tidyO ha fr) else contT C K b (tidyO hb fr) := rfl
theorem run_cg {c : Vc} (e : fr = fr') : run C K c fr = run C K c fr' := by rw [e]
theorem runR_cg (e : fr = fr') : runR C K h l fr = runR C K h l fr' := by rw [e]
theorem plug_cg {x : Ex} (e : fr = fr') : plug C K x fr = plug C K x fr' := by rw [e]
theorem contV_cg {r r' : Option V} (e : r = r') : contV C K h l d fr r = contV C K h l d fr r' := by rw [e]
theorem contH_cg {r r' : Option (V × Heap)} (e : r = r') : contH C K h l d fr r = contH C K h l d fr r' := by rw [e]
theorem contT_cg {c : Vc} {r r' : Option Fr} (e : r = r') : contT C K c r = contT C K c r' := by rw [e]
theorem contF_cg {r r' : Option Fr} (e : r = r') : contF C K r = contF C K r' := by rw [e]
theorem guardR_cg {i : I} {o o' : Option Bool} (e : o = o') : guardR C K h l d i fr o = guardR C K h l d i fr o' := by rw [e]
theorem condX_cg {a b : Vc} {ha hb : Option Hint} {v v' : V} (e : v = v') : condX C K a b ha hb fr v = condX C K a b ha hb fr v' := by rw [e]
end
attribute [go_sem] w_guardR guardR_some run_condX condX_bool
end Go.Proofs.YtclhghlpokdiiaaDoor.Wm
namespace Go.Proofs.YtclhghlpokdiiaaDoor.Wm
open Go
/-! Pointers whose cells go on -/
def dropN : Nat → List D → Option (List D)
  | 0, d :: ds => some (d :: ds)
  | k + 1, _ :: ds => dropN k ds
  | _, [] => none
def takeN : Nat → List D → Option (List D)
  | 0, _ => some []
  | n + 1, d :: ds => (takeN n ds).map (d :: ·)
  | _ + 1, [] => none
theorem dropN_eq : ∀ {k : Nat} {cs : List D}, dropN k cs = if k < cs.length then some (cs.drop k) else none
  | 0, [] => rfl
  | 0, d :: ds => by simp [dropN]
  | k + 1, [] => by simp [dropN]
  | k + 1, d :: ds => by simp [dropN, dropN_eq (k := k) (cs := ds)]
theorem takeN_eq : ∀ {n : Nat} {cs : List D}, takeN n cs = if n ≤ cs.length then some (cs.take n) else none
  | 0, cs => by simp [takeN]
  | n + 1, [] => by simp [takeN]
  | n + 1, d :: ds => by
    simp only [takeN, takeN_eq (n := n) (cs := ds), List.length_cons, Nat.add_le_add_iff_right, List.take_succ_cons]
    split <;> rfl
theorem dropN_zero {d : D} {ds : List D} : dropN 0 (d :: ds) = some (d :: ds) := rfl
theorem dropN_succ {k : Nat} {d : D} {ds : List D} : dropN (k + 1) (d :: ds) = dropN k ds := rfl
theorem takeN_zero {ds : List D} : takeN 0 ds = some [] := by cases ds <;> rfl
theorem takeN_succ {n : Nat} {d : D} {ds : List D} : takeN (n + 1) (d :: ds) = (takeN n ds).map (d :: ·) := rfl
theorem loadV_ptrN {H : Heap} {n : Nat} {ds : List D} : loadV H (some n) (.val (.ptr ds)) = (takeN n ds).map fun l => .agg (l.map .val) := by
  rw [loadV_ptrn, takeN_eq]; split <;> rfl
theorem fad_ptrN {H : Heap} {k : Nat} {cs : List D} : fadV H k (.val (.ptr cs)) = (dropN k cs).map fun l => .val (.ptr l) := by
  simp only [fadV, dropN_eq]; split <;> rfl
def fadP (k b o : Nat) : Option Blk → Option V
  | some (.var _ _) => some (.pt b (o + k))
  | _ => none
def fadE (k b i o : Nat) : Option Blk → Option V
  | some (.row _ _ _) => some (.ep b i (o + k))
  | _ => none
theorem fad_pt {H : Heap} {k b o : Nat} : fadV H k (.pt b o) = fadP k b o (look b H) := by
  simp only [fadV, fadP]
  cases look b H with
  | none => rfl
  | some B => cases B <;> rfl
theorem fad_ep {H : Heap} {k b i o : Nat} : fadV H k (.ep b i o) = fadE k b i o (look b H) := by
  simp only [fadV, fadE]
  cases look b H with
  | none => rfl
  | some B =>
    cases B <;> rfl
attribute [go_sem] dropN_zero dropN_succ takeN_zero takeN_succ loadV_ptrN fad_ptrN fad_pt fad_ep fadP fadE
end Go.Proofs.YtclhghlpokdiiaaDoor.Wm
namespace Go.Proofs.YtclhghlpokdiiaaDoor.Wm
open Go
/-! Calls, in stages -/
section
variable {β : Type} {C : Cx} {ms : List Nat} {H H1 H2 H3 : Heap} {d : Nat} {f : FuncId} {xs : List V} {os : List (Option D)} {fl : Bool} {ds : List D} {res : D} {outs : List D}
def evcF : Option (V × Heap × Nat) → Option (V × Heap)
  | some (y, H3, _) => some (y, H3)
  | none => none
def evcE (d : Nat) (fl : Bool) (res : D) : Option Heap → Option (V × Heap)
  | some H2 => evcF (inst fl (bid d) H2 res)
  | none => none
def evcD (C : Cx) (ms : List Nat) (d : Nat) (f : FuncId) (xs : List V) (H1 : Heap) (fl : Bool) (p : D × List D) : Option (V × Heap) :=
  if (!usesL ms xs || (clean p.1 && cleanL p.2)) = true then evcE d fl p.1 (backs fl (bid d + 100) H1 ms xs p.2) else none
def evcC (C : Cx) (ms : List Nat) (d : Nat) (f : FuncId) (xs : List V) (H1 : Heap) (fl : Bool) (o : Option (D × List D)) : Option (V × Heap) := o.bind (evcD C ms d f xs H1 fl)
def evcB (C : Cx) (ms : List Nat) (d : Nat) (f : FuncId) (xs : List V) (H1 : Heap) (fl : Bool) : Option (List D) → Option (V × Heap)
  | some ds => evcC C ms d f xs H1 fl (C.fn f ds)
  | none => none
def evcA (C : Cx) (ms : List Nat) (d : Nat) (f : FuncId) (xs : List V) : Option (List (Option D) × Heap × Bool) → Option (V × Heap)
  | some (os, H1, fl) => evcB C ms d f xs H1 fl (lends H1 ms xs os)
  | none => none
theorem evc_st : evc C ms H d f xs = evcA C ms d f xs (takes H ms xs) := by
  rw [evc_eq]
  unfold evcA
  cases takes H ms xs with
  | none => rfl
  | some p =>
    obtain ⟨os, H1, fl⟩ := p
    simp only [Option.bind_some, evcB]
    cases lends H1 ms xs os with
    | none => rfl
    | some ds =>
      simp only [Option.bind_some, evcC]
      congr 1
      funext p
      obtain ⟨res, outs⟩ := p
      simp only [evcD]
      split
      · cases backs fl (bid d + 100) H1 ms xs outs with
        | none => rfl
        | some H2 =>
          simp only [Option.bind_some, evcE]
          cases inst fl (bid d) H2 res with
          | none => rfl
          | some q => rfl
      · rfl
theorem evcA_some : evcA C ms d f xs (some (os, H1, fl)) = evcB C ms d f xs H1 fl (lends H1 ms xs os) := rfl
theorem evcB_some : evcB C ms d f xs H1 fl (some ds) = evcC C ms d f xs H1 fl (C.fn f ds) := rfl
theorem evcC_map {α : Type} {o : Option α} {g : α → D × List D} : evcC C ms d f xs H1 fl (o.map g) = o.bind fun x => evcD C ms d f xs H1 fl (g x) := by cases o <;> rfl
theorem evcC_bind {α : Type} {o : Option α} {g : α → Option (D × List D)} : evcC C ms d f xs H1 fl (o.bind g) = o.bind fun x => evcC C ms d f xs H1 fl (g x) := by cases o <;> rfl
theorem evcC_some : evcC C ms d f xs H1 fl (some (res, outs)) = evcD C ms d f xs H1 fl (res, outs) := rfl
theorem evcC_ite {p : Prop} [Decidable p] {x y : Option (D × List D)} : evcC C ms d f xs H1 fl (if p then x else y) = if p then evcC C ms d f xs H1 fl x else evcC C ms d f xs H1 fl y := by split <;> rfl
theorem evcD_mk : evcD C ms d f xs H1 fl (res, outs) = if (!usesL ms xs || (clean res && cleanL outs)) = true then evcE d fl res (backs fl (bid d + 100) H1 ms xs outs) else none := rfl
theorem evcE_some : evcE d fl res (some H2) = evcF (inst fl (bid d) H2 res) := rfl
theorem evcF_some {y : V} {n : Nat} : evcF (some (y, H3, n)) = some (y, H3) := rfl
theorem evcA_cg {o o' : Option (List (Option D) × Heap × Bool)} (e : o = o') : evcA C ms d f xs o = evcA C ms d f xs o' := by rw [e]
theorem evcB_cg {o o' : Option (List D)} (e : o = o') : evcB C ms d f xs H1 fl o = evcB C ms d f xs H1 fl o' := by rw [e]
theorem evcC_cg {o o' : Option (D × List D)} (e : o = o') : evcC C ms d f xs H1 fl o = evcC C ms d f xs H1 fl o' := by rw [e]
theorem evcE_cg {o o' : Option Heap} (e : o = o') : evcE d fl res o = evcE d fl res o' := by rw [e]
noncomputable def levA (T : Tab) (n : Nat) (vc : Vc) (rs : List (Nat × Option (Option Nat))) (bs : List Nat) (ds : List D) (o : Option Fr) : Option (D × List D) := o.bind fun fr => run ⟨T.own, lev T n, T.gl⟩ [.fin (finK T.gl rs bs ds)] vc fr
theorem lev_st {T : Tab} {n : Nat} {f : FuncId} {vc : Vc} {nt : Nat} {rs : List (Nat × Option (Option Nat))} {ds : List D} (he : T.ext f = none) (hf : T.fn f = some (vc, nt, rs)) (hl : (T.own f).length ≤ nt) :
    lev T (n + 1) f ds = levA T n vc rs (idsOf 0 (T.own f) ds) ds (argsFr 0 (T.own f) ds ⟨[], [], nt⟩) := lev_fn he hf hl
theorem levA_some {T : Tab} {n : Nat} {vc : Vc} {rs : List (Nat × Option (Option Nat))} {bs : List Nat} {ds : List D} {fr : Fr} : levA T n vc rs bs ds (some fr) = run ⟨T.own, lev T n, T.gl⟩ [.fin (finK T.gl rs bs ds)] vc fr := rfl
theorem levA_cg {T : Tab} {n : Nat} {vc : Vc} {rs : List (Nat × Option (Option Nat))} {bs : List Nat} {ds : List D} {o o' : Option Fr} (e : o = o') : levA T n vc rs bs ds o = levA T n vc rs bs ds o' := by rw [e]
end
attribute [go_sem] evc_st evcA_some evcB_some evcC_map evcC_bind evcC_some evcC_ite evcE_some evcF_some levA_some
end Go.Proofs.YtclhghlpokdiiaaDoor.Wm
namespace Go.Proofs.YtclhghlpokdiiaaDoor.Wm
open Go
section
variable {α : Type} {f g : α → List D} {xs : List α}
theorem lentE_to (h : ∀ x, lentL (f x) = g x) : lentE (rowE f xs) = rowE g xs := by
  rw [lentE_map]; unfold rowE; rw [List.map_map]; exact List.map_congr_left fun x _ => h x
theorem lentL_eL {k : Wm.K} {sz : Nat} (h : lentE (rowE f xs) = rowE g xs) : lentL (eL k sz f xs) = eL .lent sz g xs := by
  simp only [eL, lentL, lentD, h]
end
end Go.Proofs.YtclhghlpokdiiaaDoor.Wm
namespace Go.Proofs.YtclhghlpokdiiaaDoor.Wm
open Go
/-! Structs compared cell by cell -/
section
variable {β : Type} {C : Cx} {K : List (Kont β)} {env : List (Nat × V)} {H : Heap} {nt : Nat} {h : Option Hint} {l : List Vop} {d : Option Nat} {x y : Od}
theorem w_bina {op : BinOp} {ks : List EqK} : runR C K h (⟨d, .bina op ks x y, none⟩ :: l) ⟨env, H, nt⟩ = contV C K h l d ⟨env, H, nt⟩ (binaV op ks ((oval C.gl env) x) ((oval C.gl env) y)) := runR_quiet rfl
end
attribute [go_sem] w_bina binaV eqC eq1
end Go.Proofs.YtclhghlpokdiiaaDoor.Wm
namespace Go.Proofs.YtclhghlpokdiiaaDoor.Wm
open Go
section
variable {C : Cx} {H H1 : Heap} {d : Nat} {f : FuncId} {xs ys : List V}
/-! Given arguments -/
def evcH (C : Cx) (ms : List Nat) (d : Nat) (f : FuncId) : Option (List V × Heap) → Option (V × Heap)
  | some (ys, H1) => evc C ms H1 d f ys
  | none => none
def evcI (C : Cx) (ms : List Nat) (H : Heap) (d : Nat) (f : FuncId) : Option (List V) → Option (V × Heap)
  | some zs => evcH C ms d f (gives H ms zs)
  | none => none
theorem evcG_st : evcG C H d f xs = evcI C (flatM (C.own f)) H d f (flatV (C.own f) xs) := by
  unfold evcG evcI
  cases flatV (C.own f) xs <;> rfl
theorem evcI_some {ms : List Nat} : evcI C ms H d f (some ys) = evcH C ms d f (gives H ms ys) := rfl
theorem evcH_some {ms : List Nat} : evcH C ms d f (some (ys, H1)) = evc C ms H1 d f ys := rfl
theorem evcH_cg {ms : List Nat} {o o' : Option (List V × Heap)} (e : o = o') : evcH C ms d f o = evcH C ms d f o' := by rw [e]
def appV1 (vs : List V) : Option (List V) → Option (List V)
  | some xs => some (vs ++ xs)
  | none => none
theorem flatV_one {m : Nat} {ms : List Nat} {x : V} {xs : List V} (h : (100 ≤ m) = False) : flatV (m :: ms) (x :: xs) = (flatV ms xs).map (x :: ·) := by
  simp only [flatV]; rw [if_neg (by rw [h]; exact id)]
theorem flatV_agg {m : Nat} {ms : List Nat} {vs xs : List V} (h : (100 ≤ m) = True) (hl : vs.length = m - 100) : flatV (m :: ms) (.agg vs :: xs) = (flatV ms xs).map (vs ++ ·) := by
  simp only [flatV]; rw [if_pos (by rw [h]; trivial), if_pos hl]
theorem flatV_nil : flatV [] [] = some [] := rfl
theorem flatM_one {m : Nat} {ms : List Nat} (h : (100 ≤ m) = False) : flatM (m :: ms) = m :: flatM ms := by
  simp only [flatM]; rw [if_neg (by rw [h]; exact id)]
theorem flatM_agg {m : Nat} {ms : List Nat} (h : (100 ≤ m) = True) : flatM (m :: ms) = List.replicate (m - 100) 1 ++ flatM ms := by
  simp only [flatM]; rw [if_pos (by rw [h]; trivial)]
theorem flatM_nil : flatM [] = [] := rfl
end
section
variable {i m k : Nat} {ms : List Nat} {d : D} {ds : List D} {fr : Fr}
/-! Arguments come in -/
def argX (i : Nat) (ms : List Nat) (ds : List D) (env : List (Nat × V)) (nt : Nat) : Option (V × Heap × Nat) → Option Fr
  | some (y, H, _) => argsFr (i + 1) ms ds ⟨(i, y) :: env, H, nt⟩
  | none => none
def argY (i : Nat) (ms : List Nat) (ds : List D) (env : List (Nat × V)) (nt : Nat) : Option (List V × Heap × Nat) → Option Fr
  | some (ys, H, _) => argsFr (i + 1) ms ds ⟨(i, .agg ys) :: env, H, nt⟩
  | none => none
theorem argsFr_nil : argsFr i [] [] fr = some fr := rfl
theorem argsFr_one {env : List (Nat × V)} {H : Heap} {nt : Nat} (h : (100 ≤ m) = False) : argsFr i (m :: ms) (d :: ds) ⟨env, H, nt⟩ = argX i ms ds env nt (inst1 true (base i) H d) := by
  simp only [argsFr, argM]; rw [if_neg (by rw [h]; exact id)]
  cases inst1 true (base i) H d <;> rfl
theorem argsFr_agg {env : List (Nat × V)} {H : Heap} {nt : Nat} (h : (100 ≤ m) = True) (hk : m - 100 = k) (hl : (k ≤ ds.length) = True) : argsFr i (m :: ms) ds ⟨env, H, nt⟩ = argY i ms (ds.drop k) env nt (instL true (base i) H (ds.take k)) := by
  subst hk
  simp only [argsFr, argM]; rw [if_pos (by rw [h]; trivial), if_pos (by rw [hl]; trivial)]
  cases instL true (base i) H (ds.take (m - 100)) <;> rfl
theorem argX_some {env : List (Nat × V)} {H : Heap} {nt n : Nat} {y : V} : argX i ms ds env nt (some (y, H, n)) = argsFr (i + 1) ms ds ⟨(i, y) :: env, H, nt⟩ := rfl
theorem argY_some {env : List (Nat × V)} {H : Heap} {nt n : Nat} {ys : List V} : argY i ms ds env nt (some (ys, H, n)) = argsFr (i + 1) ms ds ⟨(i, .agg ys) :: env, H, nt⟩ := rfl
theorem idsOf_one (h : (100 ≤ m) = False) : idsOf i (m :: ms) (d :: ds) = base i :: idsOf (i + 1) ms ds := by
  simp only [idsOf, idsM]; rw [if_neg (by rw [h]; exact id)]; rfl
theorem idsOf_agg (h : (100 ≤ m) = True) (hk : m - 100 = k) : idsOf i (m :: ms) ds = idsC (base i) (ds.take k) ++ idsOf (i + 1) ms (ds.drop k) := by
  subst hk
  simp only [idsOf, idsM]; rw [if_pos (by rw [h]; trivial)]
theorem idsOf_nil : idsOf i [] ds = [] := rfl
end
attribute [go_sem] evcG_st evcI_some evcH_some gives flatV_one flatV_agg flatV_nil flatM_one flatM_agg flatM_nil argsFr_nil argsFr_one argsFr_agg argX_some argY_some idsOf_one idsOf_agg idsOf_nil idsC List.replicate_succ List.replicate_zero List.cons_append List.take_succ_cons List.take_zero List.drop_succ_cons List.drop_zero
end Go.Proofs.YtclhghlpokdiiaaDoor.Wm
namespace Go.Proofs.YtclhghlpokdiiaaDoor.Wm
open Go
def mxI (a b : Int) : Int := if a < b then b else a
def mnI (a b : Int) : Int := if b < a then b else a
theorem mm_max {k k' : IntKind} {a b : Int} : minMax true [.val (.int k a), .val (.int k' b)] = some (.val (.int k (mxI a b))) := by simp [minMax, mxI]
theorem mm_min {k k' : IntKind} {a b : Int} : minMax false [.val (.int k a), .val (.int k' b)] = some (.val (.int k (mnI a b))) := by simp [minMax, mnI]
attribute [go_sem] mm_max mm_min
end Go.Proofs.YtclhghlpokdiiaaDoor.Wm
set_option linter.unusedSimpArgs false
set_option linter.unusedVariables false
namespace Go.Proofs.YtclhghlpokdiiaaDoor.Wm
open Go
/-! Slices that may be nil; conditions of which nothing is known; what comes back with another length -/
section
variable {β : Type} {C : Cx} {K : List (Kont β)} {env : List (Nat × V)} {H : Heap} {nt : Nat} {h : Option Hint} {l : List Vop} {d : Option Nat} {x : Od} {α : Type} {f : α → List D} {xs : List α} {fr : Fr}
theorem w_isnl {ne : Bool} : runR C K h (⟨d, .isnl ne x, none⟩ :: l) ⟨env, H, nt⟩ = contV C K h l d ⟨env, H, nt⟩ (nilV H ne ((oval C.gl env) x)) := runR_quiet rfl
theorem nilV_cons {ne : Bool} {k : Wm.K} {sz : Nat} {y : α} : nilV H ne (.val (.sh k sz (rowE f (y :: xs)))) = some (.val (.bool ne)) := rfl
theorem nilV_nil {ne : Bool} {k : Wm.K} {sz : Nat} : nilV H ne (.val (.sh k sz [])) = some .anyb := rfl
theorem nilV_emp {ne : Bool} {sz : Nat} : nilV H ne (.emp sz) = some .anyb := rfl
/-- The exit and the frame. -/
def pairK : Ex → Fr → Option (Ex × Fr) := fun e f => some (e, f)
theorem pairK_eq {e : Ex} : pairK e fr = some (e, fr) := rfl
noncomputable def bothX (C : Cx) (K : List (Kont β)) (r1 r2 : Option (Ex × Fr)) : Option β := (bothE r1 r2).bind fun r => plug C K r.1 r.2
theorem bothX_same {e : Ex} : bothX C K (some (e, fr)) (some (e, fr)) = plug C K e fr := by simp [bothX, bothE]
noncomputable def condJX (C : Cx) (K : List (Kont β)) (ha hb : Option Hint) (a b y : Vc) (fr : Fr) (v : V) : Option β := match v with
  | .val (.bool t) => if t = true then contT C (.seq y :: K) a (tidyO ha fr) else contT C (.seq y :: K) b (tidyO hb fr)
  | .anyb => bothX C K (contT C [.seq y, .fin pairK] a (tidyO ha fr)) (contT C [.seq y, .fin pairK] b (tidyO hb fr))
  | _ => none
theorem plug_pair {r : Option (Ex × Fr)} : (r.bind fun r => plug C [.fin pairK] r.1 r.2) = r := by
  cases r with
  | none => rfl
  | some r => obtain ⟨e, f⟩ := r; simp [plug_fin, pairK]
theorem seqE_plug {γ : Type} {K : List (Kont γ)} {y : Vc} {r : Option (Ex × Fr)} : (seqE (vx C y) r).bind (fun r => plug C K r.1 r.2) = r.bind fun r => plug C (.seq y :: K) r.1 r.2 := by
  cases r with
  | none => rfl
  | some r => obtain ⟨e, f⟩ := r; cases e <;> rfl
theorem way_plug {γ : Type} {K : List (Kont γ)} {a y : Vc} {o : Option Fr} : (o.bind fun fr1 => seqE (vx C y) (vx C a fr1)).bind (fun r => plug C K r.1 r.2) = contT C (.seq y :: K) a o := by
  cases o with
  | none => rfl
  | some f => simp only [Option.bind_some, contT, run]; exact seqE_plug
theorem run_condJ {c : Od} {ha hb : Option Hint} {a b y : Vc} : run C K (.condJ c ha hb a b y) ⟨env, H, nt⟩ = condJX C K ha hb a b y ⟨env, H, nt⟩ (oval C.gl env c) := by
  unfold run condJX
  simp only [vx]
  generalize oval C.gl env c = v
  cases v with
  | val d => cases d with
    | bool t => cases t with
      | true => simp only [if_true]; exact way_plug
      | false => simp only [Bool.false_eq_true, if_false]; exact way_plug
    | _ => rfl
  | anyb =>
    simp only [bothX]
    rw [← way_plug (K := [.fin pairK]) (a := a), ← way_plug (K := [.fin pairK]) (a := b), plug_pair, plug_pair]
  | _ => rfl
theorem condJX_bool {ha hb : Option Hint} {a b y : Vc} {t : Bool} : condJX C K ha hb a b y fr (.val (.bool t)) = if t = true then contT C (.seq y :: K) a (tidyO ha fr) else contT C (.seq y :: K) b (tidyO hb fr) := rfl
theorem condJX_any {ha hb : Option Hint} {a b y : Vc} : condJX C K ha hb a b y fr .anyb = bothX C K (contT C [.seq y, .fin pairK] a (tidyO ha fr)) (contT C [.seq y, .fin pairK] b (tidyO hb fr)) := rfl
theorem condJX_cg {ha hb : Option Hint} {a b y : Vc} {v v' : V} (e : v = v') : condJX C K ha hb a b y fr v = condJX C K ha hb a b y fr v' := by rw [e]
theorem allCell_nil : allCell [] = true := rfl
theorem appC_nil {id sz by_ : Nat} {old : Bool} : appC id sz by_ old [] H true = some (.sl id 0 0, (id, .row old sz []) :: H) := by simp [appC, okApp]
theorem subId_hi {id : Nat} (h : (1000000000 ≤ id) = True) : subId id = id - 499999999 := by unfold subId; rw [if_pos (by rw [h]; trivial)]
theorem subId_lo {id : Nat} (h : (1000000000 ≤ id) = False) : subId id = id + 1 := by unfold subId; rw [if_neg (by rw [h]; exact fun h => h)]
theorem okApp_zero {n : Nat} : okApp n 0 = true := by simp [okApp]
end
section
variable {d : Nat} {fl : Bool} {res : D} {p : Prop} [Decidable p] {x y : Option Heap}
theorem evcE_ite : evcE d fl res (if p then x else y) = if p then evcE d fl res x else evcE d fl res y := by split <;> rfl
theorem evcE_none : evcE d fl res none = none := rfl
end
attribute [go_sem] w_isnl nilV_cons nilV_nil nilV_emp pairK_eq bothX_same run_condJ condJX_bool condJX_any evcE_ite evcE_none subId_hi subId_lo okApp_zero allCell_nil appC_nil List.drop_nil List.take_nil
theorem iadR_len {α : Type} {b sz n : Nat} {i : Int} {old : Bool} {f : α → List D} {xs : List α} (h : xs.length = n) : iadR b sz 0 n i (some (.row old sz (rowE f xs))) = (getI xs i).bind fun _ => some (.ep b i.toNat 0) := by
  subst h; exact iadR_full
attribute [go_sem] iadR_len List.length_set
theorem iadR_win {α : Type} {b sz o n : Nat} {i : Int} {old : Bool} {f : α → List D} {xs : List α} : iadR b sz o n i (some (.row old sz (rowE f xs))) = (getI ((xs.drop o).take n) i).bind fun _ => some (.ep b (o + i.toNat) 0) := by
  simp only [iadR, if_true, rowE_drop, rowE_take, rowE_getI]
  cases getI ((xs.drop o).take n) i <;> rfl
def upI (n : Nat) (h : Int) : Option Nat := if 0 ≤ h ∧ h ≤ n then some h.toNat else none
theorem cutI_up {n : Nat} {h : Int} : cutI n 0 h = (upI n h).map fun k => (0, k) := by
  unfold cutI upI
  by_cases h1 : 0 ≤ h ∧ h ≤ n
  · rw [if_pos h1, if_pos h1, if_pos ⟨Int.le_refl _, by omega⟩]; rfl
  · rw [if_neg h1, if_neg h1]; rfl
attribute [go_sem low] iadR_win
attribute [go_sem] cutI_up Nat.zero_add Nat.sub_zero
/-- Cells that are all numbers of one kind. -/
class IntCells (cs : List V) (k : outParam IntKind) (xs : outParam (List Int)) : Prop where
  eq : cs = xs.map fun x => .val (.int k x)
instance {k : IntKind} {a : Int} : IntCells [.val (.int k a)] k [a] := ⟨rfl⟩
instance {k : IntKind} {a b : Int} {cs : List V} {xs : List Int} [h : IntCells (.val (.int k b) :: cs) k xs] : IntCells (.val (.int k a) :: .val (.int k b) :: cs) k (a :: xs) := ⟨by rw [h.eq]; rfl⟩
theorem get_ints {cs : List V} {k : IntKind} {xs : List Int} [h : IntCells cs k xs] {i : Int} : cs[i.toNat]? = (xs[i.toNat]?).map fun x => V.val (.int k x) := by
  rw [h.eq, List.getElem?_map]
attribute [go_sem] get_ints Nat.mul_one
theorem lentE_nil : lentE [] = [] := rfl
attribute [go_sem] lentE_nil
/-! What comes back, with the lengths that must be as they were gathered. -/
def allEq : List (Nat × Nat) → Bool
  | [] => true
  | (a, b) :: l => decide (a = b) && allEq l
theorem allEq_nil : (allEq [] = true) = True := by simp [allEq]
theorem allEq_one {a b : Nat} : (allEq [(a, b)] = true) = (a = b) := by simp [allEq]
theorem allEq_more {a b : Nat} {c : Nat × Nat} {l : List (Nat × Nat)} : (allEq ((a, b) :: c :: l) = true) = (a = b ∧ allEq (c :: l) = true) := by simp [allEq]
def backsB (fl : Bool) (g : List (Nat × Nat)) (id : Nat) (H : Heap) : List Nat → List V → List D → Option (List (Nat × Nat) × Heap)
  | m :: ms, x :: xs, d :: ds => if m = 1 then (match x with
      | .pt b o => match d with
        | .op o' cs => if o' = o then (match instL fl id H cs with
          | some (vs, H1, _) => match look b H1 with
            | some .awayV => backsB fl g (id + 100) (updB b (.var fl vs) H1) ms xs ds
            | _ => none
          | none => none) else none
        | .gone => backsB fl g id H ms xs ds
        | _ => none
      | .sl b _ _ => match d with
        | .gone => backsB fl g id H ms xs ds
        | .ow sz els => match look b H with
          | some (.awayR sz' len) => if sz' = sz then backsB fl ((len, els.length) :: g) (id + 100) (updB b (.row fl sz els) H) ms xs ds else none
          | _ => none
        | _ => none
      | .emp _ => backsB fl g id H ms xs ds
      | .val _ => backsB fl g id H ms xs ds
      | _ => none) else backsB fl g id H ms xs ds
  | [], [], [] => some (g, H)
  | _, _, _ => none
def fitB : Option (List (Nat × Nat) × Heap) → Option Heap
  | some (g, H) => if allEq g = true then some H else none
  | none => none
theorem backsB_eq {fl : Bool} : ∀ {ms : List Nat} {xs : List V} {ds : List D} {g : List (Nat × Nat)} {id : Nat} {H : Heap}, fitB (backsB fl g id H ms xs ds) = if allEq g = true then backs fl id H ms xs ds else none
  | m :: ms, x :: xs, d :: ds, g, id, H => by
    have ih : ∀ {g : List (Nat × Nat)} {id : Nat} {H : Heap}, fitB (backsB fl g id H ms xs ds) = if allEq g = true then backs fl id H ms xs ds else none := backsB_eq
    have nn : fitB none = (if allEq g = true then none else none : Option Heap) := by simp [fitB]
    unfold backsB backs
    by_cases hm : m = 1
    · rw [if_pos hm, if_pos hm]
      cases x with
      | sl b o n =>
        cases d with
        | gone => exact ih
        | ow sz els =>
          dsimp only
          cases look b H with
          | none => exact nn
          | some B =>
            cases B with
            | awayR sz' len =>
              dsimp only
              by_cases hz : sz' = sz
              · rw [if_pos hz, ih]
                by_cases hl : len = els.length
                · simp [allEq, hl, hz]
                · simp [allEq, hl]
              · rw [if_neg hz]; simp [hz, fitB]
            | _ => exact nn
        | _ => exact nn
      | pt b o =>
        cases d with
        | gone => exact ih
        | op o' cs =>
          dsimp only
          by_cases ho : o' = o
          · rw [if_pos ho, if_pos ho]
            cases instL fl id H cs with
            | none => exact nn
            | some q =>
              obtain ⟨vs, H1, k⟩ := q
              dsimp only
              cases look b H1 with
              | none => exact nn
              | some B =>
                cases B with
                | awayV => exact ih
                | _ => exact nn
          · rw [if_neg ho, if_neg ho]; exact nn
        | _ => exact nn
      | emp sz => exact ih
      | val d' => exact ih
      | _ => exact nn
    · rw [if_neg hm, if_neg hm]; exact ih
  | [], [], [], g, id, H => rfl
  | [], [], _ :: _, g, id, H => by simp [backsB, backs, fitB]
  | [], _ :: _, _, g, id, H => by simp [backsB, backs, fitB]
  | _ :: _, [], _, g, id, H => by simp [backsB, backs, fitB]
  | _ :: _, _ :: _, [], g, id, H => by simp [backsB, backs, fitB]
section
variable {C : Cx} {ms : List Nat} {H1 H2 : Heap} {d : Nat} {f : FuncId} {xs : List V} {fl : Bool} {res : D} {outs : List D}
def evcBk (d : Nat) (fl : Bool) (res : D) : Option (List (Nat × Nat) × Heap) → Option (V × Heap)
  | some (g, H2) => if allEq g = true then evcF (inst fl (bid d) H2 res) else none
  | none => none
theorem evcD_B : evcD C ms d f xs H1 fl (res, outs) = if (!usesL ms xs || (clean res && cleanL outs)) = true then evcBk d fl res (backsB fl [] (bid d + 100) H1 ms xs outs) else none := by
  have := backsB_eq (fl := fl) (ms := ms) (xs := xs) (ds := outs) (g := []) (id := bid d + 100) (H := H1)
  rw [if_pos (show allEq [] = true from rfl)] at this
  rw [evcD_mk, ← this]
  congr 1
  cases backsB fl [] (bid d + 100) H1 ms xs outs with
  | none => rfl
  | some p =>
    obtain ⟨g, H2⟩ := p
    simp only [fitB, evcBk]
    split <;> rfl
theorem evcBk_some {g : List (Nat × Nat)} : evcBk d fl res (some (g, H2)) = if allEq g = true then evcF (inst fl (bid d) H2 res) else none := rfl
end
attribute [go_sem] allEq_nil allEq_one allEq_more backsB evcD_B evcBk_some
theorem bind_ext {α β : Type} {a : Option α} {f g : α → Option β} (h : ∀ x, a = some x → f x = g x) : a.bind f = a.bind g := by
  cases a with
  | none => rfl
  | some x => exact h x rfl
theorem bind_swap {α β γ : Type} {a : Option α} {b : Option β} {f : α → β → Option γ} {g : β → α → Option γ} (h : ∀ x y, a = some x → b = some y → f x y = g y x) : (a.bind fun x => b.bind fun y => f x y) = b.bind fun y => a.bind fun x => g y x := by
  cases a with
  | none => cases b <;> rfl
  | some x => cases b with
    | none => rfl
    | some y => exact h x y rfl rfl
end Go.Proofs.YtclhghlpokdiiaaDoor.Wm
set_option linter.unusedSimpArgs false
set_option linter.unusedVariables false
namespace Go.Proofs.YtclhghlpokdiiaaDoor.Wm
open Go

/-! What the arguments of a law are -/
inductive Ty where
  | int (k : IntKind)
  | bool
  | str
  | sl (sz : Nat) (e : List Ty)

def maxI : Int := 9223372036854775807
mutual
def OkD : Ty → D → Prop
  | .int k, d => ∃ n, d = .int k n ∧ k.min ≤ n ∧ n ≤ k.max
  | .bool, d => ∃ b, d = .bool b
  | .str, d => ∃ s, d = .str s ∧ (s.length : Int) ≤ maxI
  | .sl sz e, d => ∃ els, d = .sh .lent sz els ∧ (els.length : Int) ≤ maxI ∧ ∀ el ∈ els, OkL e el
def OkL : List Ty → List D → Prop
  | [], ds => ds = []
  | t :: ts, ds => ∃ d r, ds = d :: r ∧ OkD t d ∧ OkL ts r
end
theorem OkL.len : ∀ {ts : List Ty} {ds : List D}, OkL ts ds → ds.length = ts.length
  | [], ds, h => by simp only [OkL] at h; simp [h]
  | t :: ts, ds, h => by
    simp only [OkL] at h
    obtain ⟨d, r, rfl, _, h⟩ := h
    simp [h.len]
theorem OkL.app : ∀ {ts us : List Ty} {ds es : List D}, OkL ts ds → OkL us es → OkL (ts ++ us) (ds ++ es)
  | [], us, ds, es, h, k => by simp only [OkL] at h; subst h; exact k
  | t :: ts, us, ds, es, h, k => by
    simp only [OkL] at h
    obtain ⟨d, r, rfl, h1, h⟩ := h
    simp only [List.cons_append, OkL]
    exact ⟨d, _, rfl, h1, h.app k⟩

mutual
theorem OkD.nf : ∀ {t : Ty} {d : D}, OkD t d → nf d = true
  | .int k, d, h => by simp only [OkD] at h; obtain ⟨n, rfl, _⟩ := h; rfl
  | .bool, d, h => by simp only [OkD] at h; obtain ⟨n, rfl⟩ := h; rfl
  | .str, d, h => by simp only [OkD] at h; obtain ⟨n, rfl, _⟩ := h; rfl
  | .sl sz e, d, h => by
    simp only [OkD] at h
    obtain ⟨els, rfl, hl, h⟩ := h
    clear hl
    simp only [Wm.nf, decide_true, Bool.true_and]
    induction els with
    | nil => rfl
    | cons x xs ih => simp only [nfE, Bool.and_eq_true]; exact ⟨OkL.nf (h x (by simp)), ih fun el he => h el (by simp [he])⟩
theorem OkL.nf : ∀ {ts : List Ty} {ds : List D}, OkL ts ds → nfL ds = true
  | [], ds, h => by simp only [OkL] at h; subst h; rfl
  | t :: ts, ds, h => by
    simp only [OkL] at h
    obtain ⟨d, r, rfl, h1, h2⟩ := h
    simp only [nfL, Bool.and_eq_true]
    exact ⟨OkD.nf h1, OkL.nf h2⟩
end

def shapesF (P : Program) (sh : TypeId → Option (List Ty)) : List Field → Nat → Option (List Ty)
  | [], _ => some []
  | f :: fs, o => match sh f.type with
    | some s => if f.offset = o ∧ s.length = P.cellsOf f.type then (match shapesF P sh fs (o + s.length) with
      | some r => some (s ++ r)
      | none => none) else none
    | none => none
def shapes (P : Program) : Nat → TypeId → Option (List Ty)
  | 0, _ => none
  | n + 1, t => match P.underlying t with
    | some (.int k) => some [.int k]
    | some .bool => some [.bool]
    | some .string => some [.str]
    | some (.slice e) => match shapes P n e with
      | some s => if s.length = P.cellsOf e ∧ 0 < s.length then some [.sl (P.cellsOf e) s] else none
      | none => none
    | some (.struct fs) => match shapesF P (shapes P n) fs.toList 0 with
      | some s => if s.length = P.cellsOf t then some s else none
      | none => none
    | _ => none

def RepSs (w : World) (ds : List D) (vs : List Value) : Prop := ds.length = vs.length ∧ ∀ (i : Nat) (d : D) (v : Value), ds[i]? = some d → vs[i]? = some v → RepS w (fun _ _ => False) d v
theorem RepSs.one {w : World} {d : D} {v : Value} (h : RepS w (fun _ _ => False) d v) : RepSs w [d] [v] := ⟨rfl, fun i d' v' h1 h2 => by
  cases i with
  | zero => simp at h1 h2; subst h1; subst h2; exact h
  | succ i => simp at h1⟩
theorem RepSs.app {w : World} {ds es : List D} {vs us : List Value} (h : RepSs w ds vs) (k : RepSs w es us) : RepSs w (ds ++ es) (vs ++ us) := by
  refine ⟨by simp [h.1, k.1], fun i d v h1 h2 => ?_⟩
  rcases Nat.lt_or_ge i ds.length with hi | hi
  · rw [List.getElem?_append_left hi] at h1
    rw [List.getElem?_append_left (by rw [← h.1]; exact hi)] at h2
    exact h.2 i d v h1 h2
  · rw [List.getElem?_append_right hi] at h1
    rw [List.getElem?_append_right (by rw [← h.1]; exact hi), ← h.1] at h2
    exact k.2 _ d v h1 h2

section
variable {H : Type} {enc : TypeId × Value → H} {P : Program} {w : World} {spare : Nat → Bool} {held : Bool}

theorem cells_get {a : Addr} {n : Nat} {cs : List Value} (h : w.cells? 0 a n = some cs) : cs.length = n ∧ ∀ j, j < n → w.cell? (a.add j) = cs[j]? := by
  unfold World.cells? at h
  simp only [Nat.zero_le, if_true] at h
  refine ⟨by simpa using mapM_some_length h, fun j hj => ?_⟩
  have := mapM_some_get h j j (by simp [hj])
  simpa using this
theorem cell_spot {a : Addr} {v : Value} (h : w.cell? a = some v) : a.spot = none := by
  cases hs : a.spot with
  | none => rfl
  | some p =>
    unfold World.cell? at h
    split at h
    · simp [hs] at h
    · simp at h
theorem add_cell {a : Addr} {n m : Nat} {v : Value} (h : w.cell? ((a.add n).add m) = some v) : w.cell? ⟨a.block, a.off + n + m, none⟩ = some v := by
  have hs := cell_spot h
  have e : (a.add n).add m = ⟨a.block, a.off + n + m, none⟩ := by
    obtain ⟨b, o, s⟩ := a
    unfold Addr.add at hs ⊢
    by_cases hn : n = 0
    · by_cases hm : m = 0
      · simp only [hn, hm, if_true] at hs ⊢; simp only [hs, Nat.add_zero]
      · simp [hn, hm]
    · by_cases hm : m = 0
      · simp [hn, hm]
      · simp [hn, hm]
  rw [← e]; exact h
theorem add_spot {a : Addr} {v : Value} (h : w.cell? ((a.add 0).add 0) = some v) : a.spot = none := by
  have := cell_spot h
  unfold Addr.add at this
  simpa using this

theorem fields_open {sh : TypeId → Option (List Ty)} {cs : List Value} : ∀ {fs : List Field} {o : Nat} {ts : List Ty}, shapesF P sh fs o = some ts → o + ts.length ≤ cs.length →
    (∀ f ∈ fs, ∀ s, sh f.type = some s → s.length = P.cellsOf f.type → ∃ ds, OkL s ds ∧ RepSs w ds ((cs.drop f.offset).take (P.cellsOf f.type))) →
    ∃ ds, OkL ts ds ∧ RepSs w ds ((cs.drop o).take ts.length)
  | [], o, ts, h, hl, hf => by
    simp only [shapesF] at h
    obtain rfl := Option.some.inj h
    exact ⟨[], by simp [OkL], by simp [RepSs]⟩
  | f :: fs, o, ts, h, hl, hf => by
    simp only [shapesF] at h
    split at h
    · rename_i s hs
      split at h
      · rename_i hc
        obtain ⟨h1, h2⟩ := hc
        split at h
        · rename_i r hr
          obtain rfl := Option.some.inj h
          simp only [List.length_append] at hl
          obtain ⟨ds, a1, a2⟩ := hf f (by simp) s hs h2
          obtain ⟨es, b1, b2⟩ := fields_open hr (by omega) (fun g hg => hf g (by simp [hg]))
          refine ⟨ds ++ es, a1.app b1, ?_⟩
          rw [h1, ← h2] at a2
          have e : (cs.drop o).take (s ++ r).length = (cs.drop o).take s.length ++ (cs.drop (o + s.length)).take r.length := by
            rw [List.length_append, List.take_add, List.drop_drop]
          rw [e]
          exact a2.app b2
        · simp at h
      · simp at h
    · simp at h

theorem open_cells : ∀ (n : Nat) {t : TypeId} {ts : List Ty} {fuel : Nat} {cs : List Value} {x : DataW H × List MemPlace}, shapes P n t = some ts → DataW.trod enc P w 0 spare held fuel t cs = some x → ∃ ds, OkL ts ds ∧ RepSs w ds cs
  | 0, t, ts, fuel, cs, x, hs, h => by simp [shapes] at hs
  | n + 1, t, ts, fuel, cs, x, hs, h => by
    simp only [shapes] at hs
    split at hs
    · rename_i k hk
      obtain rfl := Option.some.inj hs
      obtain ⟨m, rfl, _, hw⟩ := DataW.trod_int hk h
      simp only [Lit.wf, Bool.and_eq_true, decide_eq_true_eq] at hw
      exact ⟨[.int k m], by simp only [OkL, OkD]; exact ⟨_, _, rfl, ⟨m, rfl, hw⟩, rfl⟩, RepSs.one (.int k m)⟩
    · rename_i hk
      obtain rfl := Option.some.inj hs
      obtain ⟨b, rfl, _⟩ := DataW.trod_bool hk h
      exact ⟨[.bool b], by simp only [OkL, OkD]; exact ⟨_, _, rfl, ⟨b, rfl⟩, rfl⟩, RepSs.one (.bool b)⟩
    · rename_i hk
      obtain rfl := Option.some.inj hs
      obtain ⟨s, rfl, _, hl⟩ := DataW.trod_string hk h
      have hb : ((s.data.toList.length : Nat) : Int) ≤ maxI := by
        have e1 : s.data.toList.length = s.size := by rw [Array.length_toList]; rfl
        rw [e1]
        unfold maxLen at hl
        unfold maxI
        omega
      exact ⟨[.str s.data.toList], by simp only [OkL, OkD]; exact ⟨_, _, rfl, ⟨_, rfl, hb⟩, rfl⟩, RepSs.one (.str s.data.toList)⟩
    · rename_i e hk
      split at hs
      · rename_i s hse
        split at hs
        · rename_i hc
          obtain ⟨hc, hpos⟩ := hc
          obtain rfl := Option.some.inj hs
          rcases DataW.trod_slice hk h with ⟨rfl, _⟩ | ⟨a, len, cap, elems, rest, m, rfl, rfl, _, _, hl, hm, he, hel, _⟩
          · exact ⟨[.sh .lent (P.cellsOf e) []], by simp only [OkL, OkD]; exact ⟨_, _, rfl, ⟨[], rfl, by simp [maxI], by simp⟩, rfl⟩, RepSs.one (.shn _ _)⟩
          · have one : ∀ i, ∃ el, i < len → OkL s el ∧ ∃ cs, w.cells? 0 (a.add (i * P.cellsOf e)) (P.cellsOf e) = some cs ∧ RepSs w el cs := fun i => by
              by_cases hi : i < len
              · have h1 := hel i hi
                rw [List.getElem?_eq_getElem (by omega)] at h1
                obtain ⟨cs, h2, h3⟩ := Option.bind_eq_some_iff.1 h1
                obtain ⟨el, k1, k2⟩ := open_cells n hse h3
                exact ⟨el, fun _ => ⟨k1, cs, h2, k2⟩⟩
              · exact ⟨[], fun h => absurd h hi⟩
            have two : ∀ i, ∃ el, ∃ cs, i < len → OkL s el ∧ w.cells? 0 (a.add (i * P.cellsOf e)) (P.cellsOf e) = some cs ∧ RepSs w el cs := fun i => by
              obtain ⟨el, h1⟩ := one i
              by_cases hi : i < len
              · obtain ⟨a1, cs, a2⟩ := h1 hi; exact ⟨el, cs, fun _ => ⟨a1, a2⟩⟩
              · exact ⟨el, [], fun h => absurd h hi⟩
            let g : Nat → List D := fun i => Classical.choose (two i)
            have hg : ∀ i, i < len → OkL s (g i) ∧ ∃ cs, w.cells? 0 (a.add (i * P.cellsOf e)) (P.cellsOf e) = some cs ∧ RepSs w (g i) cs := fun i hi => by
              obtain ⟨cs, q⟩ := Classical.choose_spec (two i)
              exact ⟨(q hi).1, cs, (q hi).2⟩
            have hlen : ((List.range len).map g).length = len := by simp
            have get : ∀ (i : Nat) (el : List D), ((List.range len).map g)[i]? = some el → i < len ∧ el = g i := fun i el h1 => by
              rw [List.getElem?_map] at h1
              obtain ⟨j, h2, rfl⟩ := Option.map_eq_some_iff.1 h1
              obtain ⟨h3, h4⟩ := List.getElem?_eq_some_iff.1 h2
              simp at h3 h4
              subst h4
              exact ⟨h3, rfl⟩
            have cell : ∀ i j d, i < len → (g i)[j]? = some d → ∃ v, w.cell? ((a.add (i * P.cellsOf e)).add j) = some v ∧ RepS w (fun _ _ => False) d v := fun i j d hi hj => by
              obtain ⟨_, cs, q1, q2⟩ := hg i hi
              obtain ⟨r1, r2⟩ := cells_get q1
              have hjl : j < cs.length := by rw [← q2.1]; exact (List.getElem?_eq_some_iff.1 hj).1
              have hv := List.getElem?_eq_getElem hjl
              exact ⟨cs[j], by rw [r2 j (by omega)]; exact hv, q2.2 j d _ hj hv⟩
            refine ⟨[.sh .lent (P.cellsOf e) ((List.range len).map g)], by
              simp only [OkL, OkD]
              refine ⟨_, _, rfl, ⟨_, rfl, ?_, fun el hel' => ?_⟩, rfl⟩
              · rw [hlen]; unfold maxLen at hm; unfold maxI; omega
              · obtain ⟨i, hi, rfl⟩ := List.mem_map.1 hel'
                exact (hg i (by simpa using hi)).1, RepSs.one ?_⟩
            have key := RepS.sh (w := w) (X := fun _ _ => False) .lent (P.cellsOf e) ((List.range len).map g) a cap (fun i j => (w.cell? ((a.add (i * P.cellsOf e)).add j)).getD .nilFunc) (by rw [hlen]; exact hl) (fun el hel' => by
                obtain ⟨i, hi, rfl⟩ := List.mem_map.1 hel'
                have := (hg i (by simpa using hi)).1.len
                omega) (fun i j el d h1 h2 => by
                obtain ⟨hi, rfl⟩ := get i el h1
                obtain ⟨v, q1, q2⟩ := cell i j d hi h2
                refine ⟨?_, id, ?_⟩
                · have h0 : 0 < (g 0).length := by rw [(hg 0 (by omega)).1.len]; exact hpos
                  obtain ⟨v0, z1, _⟩ := cell 0 0 _ (by omega) (List.getElem?_eq_getElem h0)
                  rw [Nat.zero_mul] at z1
                  exact add_spot z1
                · rw [q1]; exact add_cell q1) (fun i j el d h1 h2 => by
                obtain ⟨hi, rfl⟩ := get i el h1
                obtain ⟨v, q1, q2⟩ := cell i j d hi h2
                rw [q1]; exact q2)
            rw [hlen] at key
            exact key
        · simp at hs
      · simp at hs
    · rename_i fs hk
      split at hs
      · rename_i s hsf
        split at hs
        · rename_i hc
          obtain rfl := Option.some.inj hs
          obtain ⟨xs, m, rfl, _, hl, hx, hg⟩ := DataW.trod_struct hk h
          obtain ⟨ds, a1, a2⟩ := fields_open (w := w) (cs := cs) hsf (by omega) (fun f hf s' hs' hl' => by
            obtain ⟨i, hi⟩ := List.getElem?_of_mem hf
            have hi' : fs[i]? = some f := by simpa using hi
            have h1 := hg i f hi'
            have hlt : i < xs.length := by rw [hx]; exact (Array.getElem?_eq_some_iff.1 hi').1
            rw [List.getElem?_eq_getElem hlt] at h1
            exact open_cells n hs' h1)
          refine ⟨ds, a1, ?_⟩
          simpa [hc, ← hl] using a2
        · simp at hs
      · simp at hs
    · simp at hs

/-- A value of a law's argument: a struct. -/
theorem open_struct {n : Nat} {t : TypeId} {fs : Array Field} {ts : List Ty} {v : Value} {r : Reach} {b0 : Nat} {d : DataW H} {p : List MemPlace} (ht : P.underlying t = some (.struct fs)) (hs : shapes P n t = some ts)
    (hval : Value.okWide P w r b0 t v) (h : DataW.Trod enc P w 0 spare held t v d p) : ∃ ds, OkL ts ds ∧ RepS w (fun _ _ => False) (.agg ds) v := by
  unfold Value.okWide at hval
  simp only [ht] at hval
  obtain ⟨cs, rfl, _⟩ := hval
  obtain ⟨fuel, hf⟩ := h
  obtain ⟨ds, h1, h2⟩ := open_cells n hs hf
  refine ⟨ds, h1, .agg ds cs ?_ fun i d v q1 q2 => h2.2 i d v q1 ?_⟩
  · have := h2.1; simp [Value.cells] at this; omega
  · simp [Value.cells]; exact q2
/-- A value of a law's argument: no struct. -/
theorem open_plain {n : Nat} {t : TypeId} {k : Ty} {v : Value} {r : Reach} {b0 : Nat} {d : DataW H} {p : List MemPlace} (hs : shapes P n t = some [k]) (hn : ∀ fs, P.underlying t ≠ some (.struct fs))
    (hval : Value.okWide P w r b0 t v) (h : DataW.Trod enc P w 0 spare held t v d p) : ∃ d, OkD k d ∧ RepS w (fun _ _ => False) d v := by
  have hv : v.cells = #[v] := by
    cases n with
    | zero => simp [shapes] at hs
    | succ n =>
      simp only [shapes] at hs
      split at hs
      · rename_i q; obtain ⟨m, rfl⟩ := WideShapes.okWide_int q hval; rfl
      · rename_i q
        simp only [Value.okWide, q, Cell.okWide] at hval
        cases v <;> simp_all [Cell.ok, Value.cells]
      · rename_i q; obtain ⟨m, rfl⟩ := WideShapes.okWide_string q hval; rfl
      · rename_i q; obtain ⟨a, l, c, rfl⟩ := WideShapes.okWide_slice q hval; rfl
      · rename_i q; exact absurd q (hn _)
      · simp at hs
  obtain ⟨fuel, hf⟩ := h
  obtain ⟨ds, h1, h2⟩ := open_cells n hs hf
  simp only [OkL] at h1
  obtain ⟨d, _, rfl, h1, rfl⟩ := h1
  exact ⟨d, h1, h2.2 0 d v rfl (by rw [hv]; rfl)⟩

/-- Rows of what they stand for. -/
theorem rows_of {α : Type} {f : α → List D} {W : α → Prop} {e : List Ty} (hf : ∀ el, OkL e el → ∃ a, el = f a ∧ W a) : ∀ {els : List (List D)}, (∀ el ∈ els, OkL e el) → ∃ xs, els = rowE f xs ∧ ∀ x ∈ xs, W x
  | [], _ => ⟨[], rfl, by simp⟩
  | el :: els, h => by
    obtain ⟨a, rfl, ha⟩ := hf el (h el (by simp))
    obtain ⟨xs, rfl, hx⟩ := rows_of hf (els := els) fun el' he => h el' (by simp [he])
    exact ⟨a :: xs, rfl, by simp only [List.mem_cons]; exact fun x hq => hq.elim (fun e => by subst e; exact ha) (hx x)⟩
def WfI (k : IntKind) (n : Int) : Prop := k.min ≤ n ∧ n ≤ k.max
theorem row_int {k : IntKind} {el : List D} (h : OkL [.int k] el) : ∃ a, el = eI k a ∧ WfI k a := by
  simp only [OkL, OkD] at h
  obtain ⟨_, _, rfl, ⟨n, rfl, h1⟩, rfl⟩ := h
  exact ⟨n, rfl, h1⟩
theorem row_bool {el : List D} (h : OkL [.bool] el) : ∃ a, el = eB a ∧ True := by
  simp only [OkL, OkD] at h
  obtain ⟨_, _, rfl, ⟨n, rfl⟩, rfl⟩ := h
  exact ⟨n, rfl, trivial⟩

/-- A table of functions, each in the machine's form. -/
def okTab (P : Program) (own : FuncId → List Nat) : List (Nat × Vc × Nat × List (Nat × Option (Option Nat))) → Prop
  | [] => True
  | (f, vc, nt, rs) :: l => IsFn P own f vc nt rs ∧ okTab P own l
theorem okTab_get {own : FuncId → List Nat} {f : Nat} {vc : Vc} {nt : Nat} {rs : List (Nat × Option (Option Nat))} : ∀ {l : List (Nat × Vc × Nat × List (Nat × Option (Option Nat)))}, okTab P own l → look f l = some (vc, nt, rs) → IsFn P own f vc nt rs
  | [], _, h => by simp [look] at h
  | (g, vc', nt', rs') :: l, hk, h => by
    simp only [look] at h
    split at h
    · rename_i e
      subst e
      simp only [Option.some.injEq, Prod.mk.injEq] at h
      obtain ⟨rfl, rfl, rfl⟩ := h
      exact hk.1
    · exact okTab_get hk.2 h
theorem tabOk_of {own : FuncId → List Nat} {l : List (Nat × Vc × Nat × List (Nat × Option (Option Nat)))} (hw : P.follows .mixedOrders = true) (h : okTab P own l) : TabOk P ⟨own, fun f => look f l, fun _ => none, fun _ => none⟩ :=
  ⟨hw, fun f vc nt rs hf => okTab_get h hf, fun f F hf => by simp at hf, fun g cs hg => by simp at hg⟩

theorem Flat.same : ∀ {ms : List Nat} {vs : List Value}, ms.all (fun m => decide (m < 100)) = true → ms.length = vs.length → Flat ms vs vs
  | [], [], _, _ => .nil
  | m :: ms, v :: vs, h, hl => by
    simp only [List.all_cons, Bool.and_eq_true, decide_eq_true_eq] at h
    exact .one m ms v vs vs h.1 (Flat.same h.2 (by simpa using hl))
/-- What a law's call comes to. -/
theorem call_true {T : Tab} (hT : TabOk P T) {n : Nat} {f : FuncId} {ds outs : List D} {vs : List Value} (hl : lev T n f ds = some (.bool true, outs)) (hg : ∀ g, T.gl g = none) (hnf : nfL ds = true) (ho : (T.own f).all (fun m => decide (m < 100)) = true) (hol : (T.own f).length = ds.length)
    (hr : ds.length = vs.length) (h : ∀ (i : Nat) (d : D) (v : Value), ds[i]? = some d → vs[i]? = some v → RepS w (fun _ _ => False) d v) :
    Calls P f vs.toArray w fun e W' => e = .returned (.bool true) ∧ W'.os = w.os ∧ W'.tape = w.tape ∧ W'.output = w.output ∧ w.heap.size ≤ W'.heap.size ∧ ∀ k, k < w.heap.size → W'.heap[k]? = w.heap[k]? := by
  have hs := (lev_sound hT n).sound f w (fun _ => False) ds vs vs (fun _ _ => False) (.bool true) outs (Flat.same ho (hol.trans hr))
    ⟨hr.symm, fun i j b _ _ hb => hb.elim, fun i d v h1 h2 => .plain d v _ (fun _ hb => hb) (h i d v h1 h2)⟩
    (fun b ⟨_, _, hb⟩ => hb.elim) (fun b hb => hb.elim) (fun g cs hc => by simp [hg] at hc) hnf hl
  refine hs.mono ?_
  rintro e W' ⟨v, R, χ, rfl, hc, hv, _⟩
  have : v = .bool true := by
    cases hv with
    | plain _ _ _ _ h => cases h; rfl
  subst this
  exact ⟨rfl, hc.os, hc.tape, hc.output, hc.size, fun k hk => hc.keep k hk (fun ⟨_, _, hb⟩ => hb)⟩
end
end Go.Proofs.YtclhghlpokdiiaaDoor.Wm
set_option linter.unusedSimpArgs false
set_option linter.unusedVariables false
namespace Go.Proofs.YtclhghlpokdiiaaDoor.Wm
open Go

/-! Plain loops -/
theorem loop_rule {ς τ : Type} {step : ς → Option (ς ⊕ τ)} (I : Nat → ς → Prop) (Q : τ → Prop) (n : Nat)
    (h : ∀ i s, i ≤ n → I i s → (i < n ∧ ∃ s', step s = some (.inl s') ∧ I (i + 1) s') ∨ ∃ t, step s = some (.inr t) ∧ Q t) {s : ς} (h0 : I 0 s) : ∃ t, loopO step s = some t ∧ Q t := by
  have key : ∀ m i s, n - i = m → i ≤ n → I i s → ∃ t, loopO step s = some t ∧ Q t := by
    intro m
    induction m with
    | zero =>
      intro i s hm hi hI
      rcases h i s hi hI with ⟨h1, _⟩ | ⟨t, h1, h2⟩
      · omega
      · exact ⟨t, by rw [loopO_eq, h1], h2⟩
    | succ m ih =>
      intro i s hm hi hI
      rcases h i s hi hI with ⟨h1, s', h2, h3⟩ | ⟨t, h1, h2⟩
      · obtain ⟨t, k1, k2⟩ := ih (i + 1) s' (by omega) (by omega) h3
        exact ⟨t, by rw [loopO_eq, h2]; exact k1, k2⟩
      · exact ⟨t, by rw [loopO_eq, h1], h2⟩
  exact key (n - 0) 0 s rfl (Nat.zero_le _) h0

theorem w64 {n : Int} (h : -9223372036854775808 ≤ n ∧ n ≤ 9223372036854775807) : IntKind.i64.wrap n = n := by rw [IntKind.wrap_i64]; omega
theorem wu64 {n : Int} (h : 0 ≤ n ∧ n ≤ 18446744073709551615) : IntKind.u64.wrap n = n := by
  simp [IntKind.wrap, IntKind.bits, IntKind.signed]; omega
theorem wu32 {n : Int} (h : 0 ≤ n ∧ n ≤ 4294967295) : IntKind.u32.wrap n = n := by
  simp [IntKind.wrap, IntKind.bits, IntKind.signed]; omega
theorem wu8 {n : Int} (h : 0 ≤ n ∧ n ≤ 255) : IntKind.u8.wrap n = n := by
  simp [IntKind.wrap, IntKind.bits, IntKind.signed]; omega
theorem getI_nat {α : Type} {l : List α} {i : Nat} : getI l (i : Int) = l[i]? := by unfold getI; rw [if_pos (by omega), Int.toNat_natCast]
theorem get_lt {α : Type} {l : List α} {i : Nat} (h : i < l.length) : ∃ x, l[i]? = some x ∧ x ∈ l := ⟨l[i], List.getElem?_eq_getElem h, List.getElem_mem h⟩
theorem wfI64 {n : Int} : WfI .i64 n ↔ -9223372036854775808 ≤ n ∧ n ≤ 9223372036854775807 := by
  unfold WfI IntKind.min IntKind.max
  simp [IntKind.signed, IntKind.bits]
theorem okMake_of {by_ : Nat} {l : Int} (h0 : 0 ≤ l) (h : (by_ : Int) * l ≤ 281474976710656) (h2 : l ≤ 9223372036854775807) : okMake by_ l = true := by
  simp [okMake, h0, h, h2]
theorem okApp_of {by_ n : Nat} (h : n * by_ ≤ 140737488355328) : okApp by_ n = true := by simp [okApp, h]
theorem okMake_8 {l : Int} (h0 : 0 ≤ l) (h : l ≤ 35184372088832) : okMake 8 l = true := okMake_of h0 (by simp; omega) (by omega)
theorem okApp_8 {n : Nat} (h : n ≤ 17592186044416) : okApp 8 n = true := okApp_of (by omega)
/-- Two lists of one length, alike at every place. -/
theorem list_ext {α : Type} {l m : List α} (hl : l.length = m.length) (h : ∀ j, j < m.length → l[j]? = m[j]?) : l = m := by
  apply List.ext_getElem? 
  intro j
  rcases Nat.lt_or_ge j m.length with hj | hj
  · exact h j hj
  · rw [List.getElem?_eq_none hj, List.getElem?_eq_none (by omega)]
/-- A search, as Go's library has it. -/
theorem find_loop {l : List Int} (p : Int → Bool) {step : Int → Option (Int ⊕ (Unit ⊕ Int))} (h1 : ∀ (i : Nat) (x : Int), l[i]? = some x → step i = some (if p x = true then .inr (.inr (i : Int)) else .inl (IntKind.i64.wrap ((i : Int) + 1))))
    (h2 : step (l.length : Int) = some (.inr (.inl ()))) (hl : (l.length : Int) ≤ maxI) : ∃ r : Int, ((loopO step 0).bind fun t => (Sum.elim (fun _ => some (-1)) (fun y => some y)) t) = some r ∧ decide (r ≥ 0) = l.any p := by
  unfold maxI at hl
  obtain ⟨t, q1, q2⟩ := loop_rule (step := step) (fun i s => s = (i : Int) ∧ ∀ j x, j < i → l[j]? = some x → p x = false)
      (fun t => (t = .inl () ∧ l.any p = false) ∨ (∃ n : Int, 0 ≤ n ∧ t = .inr n ∧ l.any p = true)) l.length (by
    rintro i s hi ⟨rfl, hj⟩
    rcases Nat.lt_or_ge i l.length with h | h
    · obtain ⟨x, hx, hm⟩ := get_lt h
      rw [h1 i x hx, w64 (by omega)]
      cases hp : p x with
      | false =>
        left
        simp only [Bool.false_eq_true, if_false]
        refine ⟨h, _, rfl, by simp, fun j y hj' hy => ?_⟩
        rcases Nat.lt_or_ge j i with hji | hji
        · exact hj j y hji hy
        · obtain rfl : j = i := by omega
          rw [hx] at hy; obtain rfl := Option.some.inj hy; exact hp
      | true =>
        right
        simp only [if_true]
        exact ⟨_, rfl, .inr ⟨_, by omega, rfl, List.any_eq_true.2 ⟨x, hm, hp⟩⟩⟩
    · obtain rfl : i = l.length := by omega
      right
      rw [h2]
      refine ⟨_, rfl, .inl ⟨rfl, ?_⟩⟩
      rw [List.any_eq_false]
      intro x hx
      obtain ⟨j, hj'⟩ := List.getElem?_of_mem hx
      rw [hj j x (by have := (List.getElem?_eq_some_iff.1 hj').1; omega) hj']; simp) (s := 0) ⟨rfl, fun j x hj => by omega⟩
  rw [q1]
  rcases q2 with ⟨rfl, h⟩ | ⟨n, hn, rfl, h⟩
  · exact ⟨-1, rfl, by rw [h]; decide⟩
  · exact ⟨n, rfl, by rw [h]; exact decide_eq_true hn⟩
/-- Two lists compared place by place. -/
def allSame {α : Type} (q : α → α → Bool) : List α → List α → Bool
  | x :: l, y :: m => q x y && allSame q l m
  | _, _ => true
theorem allSame_iff {α : Type} {q : α → α → Bool} : ∀ {l m : List α}, allSame q l m = true ↔ ∀ (i : Nat) (x y : α), l[i]? = some x → m[i]? = some y → q x y = true
  | [], m => by simp [allSame]
  | x :: l, [] => by simp [allSame]
  | x :: l, y :: m => by
    simp only [allSame, Bool.and_eq_true, allSame_iff (l := l) (m := m)]
    constructor
    · rintro ⟨h1, h2⟩ i a b ha hb
      cases i with
      | zero => simp at ha hb; subst ha; subst hb; exact h1
      | succ i => exact h2 i a b (by simpa using ha) (by simpa using hb)
    · intro h
      exact ⟨h 0 x y rfl rfl, fun i a b ha hb => h (i + 1) a b (by simpa using ha) (by simpa using hb)⟩
theorem allSame_self {α : Type} {q : α → α → Bool} {l : List α} (h : ∀ x ∈ l, q x x = true) : allSame q l l = true := by
  rw [allSame_iff]
  intro i x y hx hy
  rw [hx] at hy
  obtain rfl := Option.some.inj hy
  exact h x (List.mem_of_getElem? hx)
theorem same_loop {α : Type} {l m : List α} (q : α → α → Bool) {step : Int → Option (Int ⊕ (Unit ⊕ Unit))} (hlen : l.length = m.length)
    (h1 : ∀ (i : Nat) (x y : α), l[i]? = some x → m[i]? = some y → step i = some (if q x y = true then .inl (IntKind.i64.wrap ((i : Int) + 1)) else .inr (.inr ())))
    (h2 : step (l.length : Int) = some (.inr (.inl ()))) (hl : (l.length : Int) ≤ maxI) : ((loopO step 0).bind fun t => (Sum.elim (fun _ => some true) (fun _ => some false)) t) = some (allSame q l m) := by
  unfold maxI at hl
  obtain ⟨t, q1, q2⟩ := loop_rule (step := step) (fun i s => s = (i : Int) ∧ ∀ j x y, j < i → l[j]? = some x → m[j]? = some y → q x y = true)
      (fun t => (t = .inl () ∧ allSame q l m = true) ∨ (t = .inr () ∧ allSame q l m = false)) l.length (by
    rintro i s hi ⟨rfl, hj⟩
    rcases Nat.lt_or_ge i l.length with h | h
    · obtain ⟨x, hx, _⟩ := get_lt h
      obtain ⟨y, hy, _⟩ := get_lt (l := m) (i := i) (by omega)
      rw [h1 i x y hx hy, w64 (by omega)]
      cases hp : q x y with
      | true =>
        left
        simp only [if_true]
        refine ⟨h, _, rfl, by simp, fun j a b hj' ha hb => ?_⟩
        rcases Nat.lt_or_ge j i with hji | hji
        · exact hj j a b hji ha hb
        · obtain rfl : j = i := by omega
          rw [hx] at ha; rw [hy] at hb
          obtain rfl := Option.some.inj ha; obtain rfl := Option.some.inj hb; exact hp
      | false =>
        right
        simp only [Bool.false_eq_true, if_false]
        refine ⟨_, rfl, .inr ⟨rfl, ?_⟩⟩
        cases hs : allSame q l m with
        | false => rfl
        | true => rw [allSame_iff.1 hs i x y hx hy] at hp; simp at hp
    · obtain rfl : i = l.length := by omega
      right
      rw [h2]
      exact ⟨_, rfl, .inl ⟨rfl, allSame_iff.2 fun j x y hx hy => hj j x y (List.getElem?_eq_some_iff.1 hx).1 hx hy⟩⟩) (s := 0) ⟨rfl, fun j x y hj => by omega⟩
  rw [q1]
  rcases q2 with ⟨rfl, h⟩ | ⟨rfl, h⟩ <;> rw [h] <;> rfl
theorem allSame_eq {l m : List Int} (hlen : l.length = m.length) : allSame (fun x y => x == y) l m = decide (l = m) := by
  rw [Bool.eq_iff_iff, allSame_iff, decide_eq_true_eq]
  constructor
  · intro h
    apply List.ext_getElem hlen
    intro i h1 h2
    have := h i l[i] m[i] (List.getElem?_eq_getElem h1) (List.getElem?_eq_getElem h2)
    simpa using this
  · rintro rfl i x y hx hy
    rw [hx] at hy; obtain rfl := Option.some.inj hy; simp
theorem bytesI_eq : ∀ {l : List Int}, bytesI l = some (l.map fun n => UInt8.ofNat n.toNat)
  | [] => rfl
  | n :: l => by simp only [bytesI, byteOf, Option.bind_some, bytesI_eq (l := l), Option.map_some, List.map_cons]
theorem bytes_inj : ∀ {l m : List Int}, (∀ x ∈ l, 0 ≤ x ∧ x ≤ 255) → (∀ x ∈ m, 0 ≤ x ∧ x ≤ 255) → ((l.map fun n => UInt8.ofNat n.toNat) = m.map fun n => UInt8.ofNat n.toNat) → l = m
  | [], [], _, _, _ => rfl
  | [], y :: m, _, _, h => by simp at h
  | x :: l, [], _, _, h => by simp at h
  | x :: l, y :: m, h1, h2, h => by
    simp only [List.map_cons, List.cons.injEq] at h
    obtain ⟨ha, hb⟩ := h
    have hx := h1 x (by simp)
    have hy := h2 y (by simp)
    have := congrArg UInt8.toNat ha
    simp only [UInt8.toNat_ofNat'] at this
    have e : x = y := by omega
    rw [e, bytes_inj (fun z hz => h1 z (by simp [hz])) (fun z hz => h2 z (by simp [hz])) hb]
theorem wfU8 {n : Int} : WfI .u8 n ↔ 0 ≤ n ∧ n ≤ 255 := by
  unfold WfI IntKind.min IntKind.max
  simp [IntKind.signed, IntKind.bits]
/-- A list copied place by place. -/
theorem copy_loop {α : Type} {l : List α} {z : α} {step : List α × Int → Option ((List α × Int) ⊕ List α)} (h1 : ∀ (a : List α) (i : Nat) (x y : α), l[i]? = some x → a[i]? = some y → a.length = l.length → step (a, (i : Int)) = some (.inl (a.set i x, IntKind.i64.wrap ((i : Int) + 1))))
    (h2 : ∀ a : List α, step (a, (l.length : Int)) = some (.inr a)) (hl : (l.length : Int) ≤ maxI) : loopO step (List.replicate l.length z, 0) = some l := by
  unfold maxI at hl
  obtain ⟨t, q1, rfl⟩ := loop_rule (step := step) (fun i s => s.2 = i ∧ s.1.length = l.length ∧ ∀ j, j < i → s.1[j]? = l[j]?) (fun t => t = l) l.length (by
    rintro i ⟨a, k⟩ hi ⟨hk, ha, hj⟩
    simp only at hk ha hj
    subst hk
    rcases Nat.lt_or_ge i l.length with h | h
    · left
      obtain ⟨x, hx, _⟩ := get_lt h
      obtain ⟨y, hy, _⟩ := get_lt (l := a) (i := i) (by omega)
      rw [h1 a i x y hx hy ha, w64 (by omega)]
      refine ⟨h, _, rfl, by simp, by simp [ha], fun j hj' => ?_⟩
      simp only [List.getElem?_set]
      split
      · rename_i e; subst e; rw [if_pos (by omega), hx]
      · exact hj j (by omega)
    · right
      obtain rfl : i = l.length := by omega
      exact ⟨a, h2 a, list_ext ha fun j hj' => hj j hj'⟩) (s := (List.replicate l.length z, 0)) ⟨rfl, by simp, fun j hj => by omega⟩
  exact q1
end Go.Proofs.YtclhghlpokdiiaaDoor.Wm
