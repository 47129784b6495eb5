/- What the functions behind FnExactReportFault yield, in the machine's form. -/
import Derived.Test.YtgnohnlpicmnaaaVmD
import Derived.Test.YtgnohnlpicmnaaaRows
set_option linter.unusedVariables false
set_option linter.unusedSimpArgs false
namespace Go.Proofs.Ytgnohnlpicmnaaa.Vm
open Go Go.Proofs
namespace ReportFault
/-- laws.FnExactReportFault -/
def c3 : Vc := (.seq (.region [⟨some 1, (Op.box 23 (Operand.tmp 0)), none⟩,
    ⟨some 2, (Op.assign (Operand.const (Value.bool false))), none⟩] (some [1]))
  (.seq (.region [⟨some 5, (Op.load 23 (Operand.tmp 1)), none⟩,
    ⟨some 6, (Op.call { callee := (Callee.value (Operand.func 16)), args := #[(Operand.tmp 5)], argTypes := #[23] }), none⟩,
    ⟨some 7, (Op.call { callee := (Callee.value (Operand.func 15)), args := #[(Operand.tmp 6)], argTypes := #[25] }), none⟩,
    ⟨some 3, (Op.assign (Operand.tmp 7)), none⟩] (some [1, 3]))
  (.seq (.region [⟨some 8, (Op.load 23 (Operand.tmp 1)), none⟩,
    ⟨some 9, (Op.call { callee := (Callee.value (Operand.func 16)), args := #[(Operand.tmp 8)], argTypes := #[23] }), none⟩,
    ⟨some 10, (Op.call { callee := (Callee.value (Operand.func 17)), args := #[(Operand.tmp 9)], argTypes := #[25] }), none⟩,
    ⟨some 4, (Op.assign (Operand.tmp 10)), none⟩] (some [3, 4]))
  (.seq (.seq (.region [⟨some 11, (Op.move (Operand.tmp 4)), none⟩,
    ⟨some 12, (Op.move (Operand.tmp 3)), none⟩,
    ⟨some 13, (Op.binOp BinOp.neq 2 (Operand.tmp 11) (Operand.tmp 12) 2), none⟩] (some [13]))
  (.cond (Operand.tmp 13)
    (.seq (.region [⟨some 2, (Op.assign (Operand.const (Value.bool false))), none⟩] (some [2]))
    .ret)
    .skip))
  (.seq (.region [⟨some 2, (Op.assign (Operand.const (Value.bool true))), none⟩] (some [2]))
  .ret)))))
def a3 : Nat → Option (List Nat)
  | 0 => some [1]
  | 1 => some [1, 3]
  | 2 => some [3, 4]
  | 3 => some [13]
  | 4 => some [2]
  | 5 => some [2]
  | _ => none
theorem is3 : IsFn Try.prog a3 3 c3 14 [(2, none)] := ⟨⟨Try.f3, _, Try.func3, rfl, by kernel_rfl, rfl, rfl, by decide +kernel⟩, by decide⟩

/-- spec.ReportFault -/
def c15 : Vc := (.seq (.region [⟨some 1, (Op.box 25 (Operand.tmp 0)), none⟩,
    ⟨some 2, (Op.assign (Operand.const (Value.int IntKind.i64 0))), none⟩] (some [1]))
  (.seq (.seq (.region [⟨some 3, (Op.fieldAddr 25 (Operand.tmp 1) 0), none⟩,
    ⟨some 4, (Op.load 2 (Operand.tmp 3)), none⟩,
    ⟨some 5, (Op.call { callee := (Callee.value (Operand.func 56)), args := #[(Operand.tmp 4)], argTypes := #[2] }), none⟩,
    ⟨some 6, (Op.unOp UnOp.not 4 (Operand.tmp 5)), none⟩,
    ⟨some 7, (Op.move (Operand.tmp 6)), none⟩,
    ⟨some 8, (Op.fieldAddr 25 (Operand.tmp 1) 1), some (7, false)⟩,
    ⟨some 9, (Op.load 2 (Operand.tmp 8)), some (7, false)⟩,
    ⟨some 10, (Op.call { callee := (Callee.value (Operand.func 57)), args := #[(Operand.tmp 9), (Operand.const (Value.int IntKind.i64 0)), (Operand.const (Value.int IntKind.i64 3))], argTypes := #[2, 2, 2] }), some (7, false)⟩,
    ⟨some 11, (Op.unOp UnOp.not 4 (Operand.tmp 10)), some (7, false)⟩,
    ⟨some 12, (Op.pick (Operand.tmp 7) (Operand.const (Value.bool true)) (Operand.tmp 11)), none⟩] (some [12]))
  (.cond (Operand.tmp 12)
    (.seq (.region [⟨some 2, (Op.assign (Operand.const (Value.int IntKind.i64 3))), none⟩] (some [2]))
    .ret)
    .skip))
  (.seq (.region [⟨some 2, (Op.assign (Operand.const (Value.int IntKind.i64 0))), none⟩] (some [2]))
  .ret)))
def a15 : Nat → Option (List Nat)
  | 0 => some [1]
  | 1 => some [12]
  | 2 => some [2]
  | 3 => some [2]
  | _ => none
theorem is15 : IsFn Try.prog a15 15 c15 13 [(2, none)] := ⟨⟨Try.f15, _, Try.func15, rfl, by kernel_rfl, rfl, rfl, by decide +kernel⟩, by decide⟩

/-- laws.toReport -/
def c16 : Vc := (.seq (.region [⟨some 1, (Op.box 23 (Operand.tmp 0)), none⟩,
    ⟨some 2, (Op.alloc 25), none⟩] (some [1, 2]))
  (.seq (.region [⟨some 3, (Op.alloc 25), none⟩] (some [1, 2, 3]))
  (.seq (.region [⟨some 4, (Op.fieldAddr 23 (Operand.tmp 1) 0), none⟩,
    ⟨some 5, (Op.load 2 (Operand.tmp 4)), none⟩,
    ⟨some 6, (Op.fieldAddr 25 (Operand.tmp 3) 0), none⟩,
    ⟨none, (Op.store 2 (Operand.tmp 6) (Operand.tmp 5)), none⟩] (some [1, 2, 3]))
  (.seq (.region [⟨some 7, (Op.fieldAddr 23 (Operand.tmp 1) 1), none⟩,
    ⟨some 8, (Op.load 2 (Operand.tmp 7)), none⟩,
    ⟨some 9, (Op.fieldAddr 25 (Operand.tmp 3) 1), none⟩,
    ⟨none, (Op.store 2 (Operand.tmp 9) (Operand.tmp 8)), none⟩] (some [2, 3]))
  (.seq (.region [⟨some 10, (Op.load 25 (Operand.tmp 3)), none⟩,
    ⟨none, (Op.store 25 (Operand.tmp 2) (Operand.tmp 10)), none⟩] (some [2]))
  .ret)))))
def a16 : Nat → Option (List Nat)
  | 0 => some [1, 2]
  | 1 => some [1, 2, 3]
  | 2 => some [1, 2, 3]
  | 3 => some [2, 3]
  | 4 => some [2]
  | _ => none
theorem is16 : IsFn Try.prog a16 16 c16 11 [(2, some 25)] := ⟨⟨Try.f16, _, Try.func16, rfl, by kernel_rfl, rfl, rfl, by decide +kernel⟩, by decide⟩

/-- impl.ReportFault -/
def c17 : Vc := (.seq (.region [⟨some 1, (Op.box 25 (Operand.tmp 0)), none⟩,
    ⟨some 2, (Op.assign (Operand.const (Value.int IntKind.i64 0))), none⟩] (some [1]))
  (.seq (.region [⟨some 3, (Op.fieldAddr 25 (Operand.tmp 1) 0), none⟩,
    ⟨some 4, (Op.load 2 (Operand.tmp 3)), none⟩,
    ⟨some 5, (Op.call { callee := (Callee.value (Operand.func 59)), args := #[(Operand.tmp 4)], argTypes := #[2] }), none⟩,
    ⟨some 6, (Op.unOp UnOp.not 4 (Operand.tmp 5)), none⟩,
    ⟨some 7, (Op.move (Operand.tmp 6)), none⟩,
    ⟨some 8, (Op.fieldAddr 25 (Operand.tmp 1) 1), some (7, false)⟩,
    ⟨some 9, (Op.load 2 (Operand.tmp 8)), some (7, false)⟩,
    ⟨some 10, (Op.call { callee := (Callee.value (Operand.func 60)), args := #[(Operand.tmp 9)], argTypes := #[2] }), some (7, false)⟩,
    ⟨some 11, (Op.unOp UnOp.not 4 (Operand.tmp 10)), some (7, false)⟩,
    ⟨some 12, (Op.pick (Operand.tmp 7) (Operand.const (Value.bool true)) (Operand.tmp 11)), none⟩,
    ⟨some 13, (Op.call { callee := (Callee.value (Operand.func 58)), args := #[(Operand.tmp 12), (Operand.const (Value.int IntKind.i64 3))], argTypes := #[4, 2] }), none⟩,
    ⟨some 2, (Op.assign (Operand.tmp 13)), none⟩] (some [2]))
  .ret))
def a17 : Nat → Option (List Nat)
  | 0 => some [1]
  | 1 => some [2]
  | _ => none
theorem is17 : IsFn Try.prog a17 17 c17 14 [(2, none)] := ⟨⟨Try.f17, _, Try.func17, rfl, by kernel_rfl, rfl, rfl, by decide +kernel⟩, by decide⟩

/-- spec.l14Number -/
def c56 : Vc := (.seq (.region [⟨some 2, (Op.assign (Operand.const (Value.bool false))), none⟩] (some [0]))
  (.seq (.region [⟨some 3, (Op.move (Operand.tmp 0)), none⟩,
    ⟨some 4, (Op.call { callee := (Callee.value (Operand.func 57)), args := #[(Operand.tmp 3), (Operand.const (Value.int IntKind.i64 0)), (Operand.const (Value.int IntKind.i64 9999))], argTypes := #[2, 2, 2] }), none⟩,
    ⟨some 2, (Op.assign (Operand.tmp 4)), none⟩] (some [2]))
  .ret))
def a56 : Nat → Option (List Nat)
  | 0 => some [0]
  | 1 => some [2]
  | _ => none
theorem is56 : IsFn Try.prog a56 56 c56 5 [(2, none)] := ⟨⟨Try.f56, _, Try.func56, rfl, by kernel_rfl, rfl, rfl, by decide +kernel⟩, by decide⟩

/-- spec.l1In -/
def c57 : Vc := (.seq (.region [⟨some 6, (Op.assign (Operand.const (Value.bool false))), none⟩] (some [0, 1, 2]))
  (.seq (.region [⟨some 7, (Op.move (Operand.tmp 0)), none⟩,
    ⟨some 8, (Op.move (Operand.tmp 1)), none⟩,
    ⟨some 9, (Op.binOp BinOp.geq 2 (Operand.tmp 7) (Operand.tmp 8) 2), none⟩,
    ⟨some 10, (Op.move (Operand.tmp 9)), none⟩,
    ⟨some 11, (Op.move (Operand.tmp 0)), some (10, true)⟩,
    ⟨some 12, (Op.move (Operand.tmp 2)), some (10, true)⟩,
    ⟨some 13, (Op.binOp BinOp.leq 2 (Operand.tmp 11) (Operand.tmp 12) 2), some (10, true)⟩,
    ⟨some 14, (Op.pick (Operand.tmp 10) (Operand.tmp 13) (Operand.const (Value.bool false))), none⟩,
    ⟨some 6, (Op.assign (Operand.tmp 14)), none⟩] (some [6]))
  .ret))
def a57 : Nat → Option (List Nat)
  | 0 => some [0, 1, 2]
  | 1 => some [6]
  | _ => none
theorem is57 : IsFn Try.prog a57 57 c57 15 [(6, none)] := ⟨⟨Try.f57, _, Try.func57, rfl, by kernel_rfl, rfl, rfl, by decide +kernel⟩, by decide⟩

/-- impl.codeIf -/
def c58 : Vc := (.seq (.region [⟨some 4, (Op.assign (Operand.const (Value.int IntKind.i64 0))), none⟩] (some [0, 1]))
  (.seq (.seq (.region [⟨some 5, (Op.move (Operand.tmp 0)), none⟩] (some [1, 5]))
  (.cond (Operand.tmp 5)
    (.seq (.region [⟨some 6, (Op.move (Operand.tmp 1)), none⟩,
      ⟨some 4, (Op.assign (Operand.tmp 6)), none⟩] (some [4]))
    .ret)
    .skip))
  (.seq (.region [⟨some 4, (Op.assign (Operand.const (Value.int IntKind.i64 0))), none⟩] (some [4]))
  .ret)))
def a58 : Nat → Option (List Nat)
  | 0 => some [0, 1]
  | 1 => some [1, 5]
  | 2 => some [4]
  | 3 => some [4]
  | _ => none
theorem is58 : IsFn Try.prog a58 58 c58 7 [(4, none)] := ⟨⟨Try.f58, _, Try.func58, rfl, by kernel_rfl, rfl, rfl, by decide +kernel⟩, by decide⟩

/-- impl.isNumber -/
def c59 : Vc := (.seq (.region [⟨some 2, (Op.assign (Operand.const (Value.bool false))), none⟩] (some [0]))
  (.seq (.region [⟨some 3, (Op.move (Operand.tmp 0)), none⟩,
    ⟨some 4, (Op.call { callee := (Callee.value (Operand.func 64)), args := #[(Operand.tmp 3), (Operand.const (Value.int IntKind.i64 0)), (Operand.const (Value.int IntKind.i64 9999))], argTypes := #[2, 2, 2] }), none⟩,
    ⟨some 2, (Op.assign (Operand.tmp 4)), none⟩] (some [2]))
  .ret))
def a59 : Nat → Option (List Nat)
  | 0 => some [0]
  | 1 => some [2]
  | _ => none
theorem is59 : IsFn Try.prog a59 59 c59 5 [(2, none)] := ⟨⟨Try.f59, _, Try.func59, rfl, by kernel_rfl, rfl, rfl, by decide +kernel⟩, by decide⟩

/-- impl.isGot -/
def c60 : Vc := (.seq (.region [⟨some 2, (Op.assign (Operand.const (Value.bool false))), none⟩] (some [0]))
  (.seq (.region [⟨some 3, (Op.move (Operand.tmp 0)), none⟩,
    ⟨some 4, (Op.call { callee := (Callee.value (Operand.func 64)), args := #[(Operand.tmp 3), (Operand.const (Value.int IntKind.i64 0)), (Operand.const (Value.int IntKind.i64 3))], argTypes := #[2, 2, 2] }), none⟩,
    ⟨some 2, (Op.assign (Operand.tmp 4)), none⟩] (some [2]))
  .ret))
def a60 : Nat → Option (List Nat)
  | 0 => some [0]
  | 1 => some [2]
  | _ => none
theorem is60 : IsFn Try.prog a60 60 c60 5 [(2, none)] := ⟨⟨Try.f60, _, Try.func60, rfl, by kernel_rfl, rfl, rfl, by decide +kernel⟩, by decide⟩

/-- impl.inRange -/
def c64 : Vc := (.seq (.region [⟨some 6, (Op.assign (Operand.const (Value.bool false))), none⟩] (some [0, 1, 2]))
  (.seq (.region [⟨some 7, (Op.move (Operand.tmp 1)), none⟩,
    ⟨some 8, (Op.move (Operand.tmp 0)), none⟩,
    ⟨some 9, (Op.binOp BinOp.leq 2 (Operand.tmp 7) (Operand.tmp 8) 2), none⟩,
    ⟨some 10, (Op.move (Operand.tmp 9)), none⟩,
    ⟨some 11, (Op.move (Operand.tmp 0)), some (10, true)⟩,
    ⟨some 12, (Op.move (Operand.tmp 2)), some (10, true)⟩,
    ⟨some 13, (Op.binOp BinOp.leq 2 (Operand.tmp 11) (Operand.tmp 12) 2), some (10, true)⟩,
    ⟨some 14, (Op.pick (Operand.tmp 10) (Operand.tmp 13) (Operand.const (Value.bool false))), none⟩,
    ⟨some 6, (Op.assign (Operand.tmp 14)), none⟩] (some [6]))
  .ret))
def a64 : Nat → Option (List Nat)
  | 0 => some [0, 1, 2]
  | 1 => some [6]
  | _ => none
theorem is64 : IsFn Try.prog a64 64 c64 15 [(6, none)] := ⟨⟨Try.f64, _, Try.func64, rfl, by kernel_rfl, rfl, rfl, by decide +kernel⟩, by decide⟩

def tb : Tab where
  own := fun f => match f with
    | 3 => [false]
    | 15 => [false]
    | 16 => [false]
    | 17 => [false]
    | 56 => [false]
    | 57 => [false, false, false]
    | 58 => [false, false]
    | 59 => [false]
    | 60 => [false]
    | 64 => [false, false, false]
    | _ => []
  pur := fun f => match f with
    | 56 => true
    | 57 => true
    | 58 => true
    | 59 => true
    | 60 => true
    | 64 => true
    | _ => false
  fn := fun f => match f with
    | 3 => some (c3, 14, [(2, none)])
    | 15 => some (c15, 13, [(2, none)])
    | 16 => some (c16, 11, [(2, some 25)])
    | 17 => some (c17, 14, [(2, none)])
    | 56 => some (c56, 5, [(2, none)])
    | 57 => some (c57, 15, [(6, none)])
    | 58 => some (c58, 7, [(4, none)])
    | 59 => some (c59, 5, [(2, none)])
    | 60 => some (c60, 5, [(2, none)])
    | 64 => some (c64, 15, [(6, none)])
    | _ => none
  ext := fun _ => none
@[simp] theorem tb_own3 : tb.own 3 = [false] := rfl
@[simp] theorem tb_pur3 : tb.pur 3 = false := rfl
@[simp] theorem tb_fn3 : tb.fn 3 = some (c3, 14, [(2, none)]) := rfl
@[simp] theorem tb_own15 : tb.own 15 = [false] := rfl
@[simp] theorem tb_pur15 : tb.pur 15 = false := rfl
@[simp] theorem tb_fn15 : tb.fn 15 = some (c15, 13, [(2, none)]) := rfl
@[simp] theorem tb_own16 : tb.own 16 = [false] := rfl
@[simp] theorem tb_pur16 : tb.pur 16 = false := rfl
@[simp] theorem tb_fn16 : tb.fn 16 = some (c16, 11, [(2, some 25)]) := rfl
@[simp] theorem tb_own17 : tb.own 17 = [false] := rfl
@[simp] theorem tb_pur17 : tb.pur 17 = false := rfl
@[simp] theorem tb_fn17 : tb.fn 17 = some (c17, 14, [(2, none)]) := rfl
@[simp] theorem tb_own56 : tb.own 56 = [false] := rfl
@[simp] theorem tb_pur56 : tb.pur 56 = true := rfl
@[simp] theorem tb_fn56 : tb.fn 56 = some (c56, 5, [(2, none)]) := rfl
@[simp] theorem tb_own57 : tb.own 57 = [false, false, false] := rfl
@[simp] theorem tb_pur57 : tb.pur 57 = true := rfl
@[simp] theorem tb_fn57 : tb.fn 57 = some (c57, 15, [(6, none)]) := rfl
@[simp] theorem tb_own58 : tb.own 58 = [false, false] := rfl
@[simp] theorem tb_pur58 : tb.pur 58 = true := rfl
@[simp] theorem tb_fn58 : tb.fn 58 = some (c58, 7, [(4, none)]) := rfl
@[simp] theorem tb_own59 : tb.own 59 = [false] := rfl
@[simp] theorem tb_pur59 : tb.pur 59 = true := rfl
@[simp] theorem tb_fn59 : tb.fn 59 = some (c59, 5, [(2, none)]) := rfl
@[simp] theorem tb_own60 : tb.own 60 = [false] := rfl
@[simp] theorem tb_pur60 : tb.pur 60 = true := rfl
@[simp] theorem tb_fn60 : tb.fn 60 = some (c60, 5, [(2, none)]) := rfl
@[simp] theorem tb_own64 : tb.own 64 = [false, false, false] := rfl
@[simp] theorem tb_pur64 : tb.pur 64 = true := rfl
@[simp] theorem tb_fn64 : tb.fn 64 = some (c64, 15, [(6, none)]) := rfl
@[simp] theorem tb_ext (f : FuncId) : tb.ext f = none := rfl


theorem tbOk : TabOk Try.prog tb := by
  refine ⟨fun f vc nt rs h => ?_, fun f F h => by simp [tb] at h⟩
  simp only [tb] at h
  split at h <;> first | (obtain ⟨rfl, rfl, rfl⟩ := by simpa using h
                          first | exact ⟨_, is3⟩ | exact ⟨_, is15⟩ | exact ⟨_, is16⟩ | exact ⟨_, is17⟩ | exact ⟨_, is56⟩ | exact ⟨_, is57⟩ | exact ⟨_, is58⟩ | exact ⟨_, is59⟩ | exact ⟨_, is60⟩ | exact ⟨_, is64⟩) | simp at h
attribute [local simp] argsOk callFn argsFr resV D.plain resFr vx steps stepO step1 quietV evq putV opV look binV intOp unV condV stepG isHeavy constV mergeV tidyO tidy tidyE tidyR refsOf leaves leavesL leafRoot inL finD resXs resX ownCells cellsV aggCells isCellV moveAll moveC asm outsD outD callV callVG evc putR borrows unasm backL borV borC borL pureV borLV
attribute [local simp] never rowV partsV partCells evm madeV bornV dropR cutR killE killV inR D.row D.rowAt D.setRow D.setAt rowOf loadV loadCs cellV fieldAddrV evs writeAll writeC updR badS badT
theorem strip_same (c : Bool) (x : V) : strip c (.guard c x) = x := by simp [strip]
theorem strip_and (c d : Bool) (x : V) : strip (c && d) (.guard c x) = x := by cases c <;> simp [strip]
theorem strip_val (c : Bool) (d : D) : strip c (.val d) = .val d := rfl
theorem strip_ref (c : Bool) (r : Nat) (p : List Nat) (o : Nat) : strip c (.ref r p o) = .ref r p o := rfl
theorem strip_win (c : Bool) (r : Nat) (p : List Nat) (o sz lo n : Nat) : strip c (.win r p o sz lo n) = .win r p o sz lo n := rfl
theorem strip_addr (c : Bool) (r : Nat) (p : List Nat) (o : Nat) : strip c (.addr r p o) = .addr r p o := rfl
theorem strip_agg (c : Bool) (l : List V) : strip c (.agg l) = .agg l := rfl
theorem strip_tup (c : Bool) (l : List V) : strip c (.tup l) = .tup l := rfl
theorem strip_fn (c : Bool) (f : FuncId) (l : List V) : strip c (.fn f l) = .fn f l := rfl
theorem strip_dead (c : Bool) : strip c .dead = .dead := rfl
attribute [local simp] strip_same strip_and strip_val strip_ref strip_win strip_addr strip_agg strip_tup strip_fn strip_dead
theorem f64 (n : Nat) (a b c : Int) : lev Try.prog tb (n + 1) 64 [.int .i64 a, .int .i64 b, .int .i64 c] = some (.bool (decide (b ≤ a) && decide (a ≤ c)), [.int .i64 a, .int .i64 b, .int .i64 c]) := by
  simp [lev, c64]
theorem f57 (n : Nat) (a b c : Int) : lev Try.prog tb (n + 1) 57 [.int .i64 a, .int .i64 b, .int .i64 c] = some (.bool (decide (b ≤ a) && decide (a ≤ c)), [.int .i64 a, .int .i64 b, .int .i64 c]) := by
  simp [lev, c57]
theorem f58 (n : Nat) (a : Bool) (b : Int) : lev Try.prog tb (n + 1) 58 [.bool a, .int .i64 b] = some (.int .i64 (if a = true then b else 0), [.bool a, .int .i64 b]) := by
  cases a <;> simp [lev, c58]
theorem f59 (n : Nat) (a : Int) : lev Try.prog tb (n + 2) 59 [.int .i64 a] = some (.bool (decide (0 ≤ a) && decide (a ≤ 9999)), [.int .i64 a]) := by
  rw [lev]
  simp [f64, c59]
theorem f60 (n : Nat) (a : Int) : lev Try.prog tb (n + 2) 60 [.int .i64 a] = some (.bool (decide (0 ≤ a) && decide (a ≤ 3)), [.int .i64 a]) := by
  rw [lev]
  simp [f64, c60]
theorem f56 (n : Nat) (a : Int) : lev Try.prog tb (n + 2) 56 [.int .i64 a] = some (.bool (decide (0 ≤ a) && decide (a ≤ 9999)), [.int .i64 a]) := by
  rw [lev]
  simp [f57, c56]
theorem t25_0 : fieldOff Try.prog 25 0 = some (0, 2) := by kernel_rfl
theorem t25_1 : fieldOff Try.prog 25 1 = some (1, 2) := by kernel_rfl
theorem t23_0 : fieldOff Try.prog 23 0 = some (0, 2) := by kernel_rfl
theorem t23_1 : fieldOff Try.prog 23 1 = some (1, 2) := by kernel_rfl
theorem t2 : aggT Try.prog 2 = some false := by kernel_rfl
theorem t25 : aggT Try.prog 25 = some true := by kernel_rfl
theorem t23 : aggT Try.prog 23 = some true := by kernel_rfl
theorem z25 : zeroCs Try.prog 25 = some [.val (.int .i64 0), .val (.int .i64 0)] := by kernel_rfl
theorem s25 : Try.prog.cellsOf 25 = 2 := by kernel_rfl
theorem s23 : Try.prog.cellsOf 23 = 2 := by kernel_rfl
theorem s2 : Try.prog.cellsOf 2 = 1 := by kernel_rfl
attribute [local simp] t25_0 t25_1 t23_0 t23_1 t2 t25 t23 z25 s25 s23 s2
theorem f17 (n : Nat) (a b : Int) : lev Try.prog tb (n + 3) 17 [.agg [.int .i64 a, .int .i64 b]] = some (.int .i64 (if (!(decide (0 ≤ a) && decide (a ≤ 9999)) || !(decide (0 ≤ b) && decide (b ≤ 3))) = true then 3 else 0), [.agg [.int .i64 a, .int .i64 b]]) := by
  rw [lev]
  simp [f58, f59, f60, c17]
theorem f15 (n : Nat) (a b : Int) : lev Try.prog tb (n + 3) 15 [.agg [.int .i64 a, .int .i64 b]] = some (.int .i64 (if (!(decide (0 ≤ a) && decide (a ≤ 9999)) || !(decide (0 ≤ b) && decide (b ≤ 3))) = true then 3 else 0), [.agg [.int .i64 a, .int .i64 b]]) := by
  rw [lev]
  by_cases h : (a < 0 ∨ 9999 < a) ∨ b < 0 ∨ 3 < b <;> simp [f56, f57, c15, h]
theorem f16 (n : Nat) (a b : Int) : lev Try.prog tb (n + 1) 16 [.agg [.int .i64 a, .int .i64 b]] = some (.agg [.int .i64 a, .int .i64 b], [.agg [.int .i64 a, .int .i64 b]]) := by
  rw [lev]
  simp [c16]
theorem f3 (n : Nat) (a b : Int) : lev Try.prog tb (n + 4) 3 [.agg [.int .i64 a, .int .i64 b]] = some (.bool true, [.agg [.int .i64 a, .int .i64 b]]) := by
  rw [lev]
  simp [f15, f16, f17, c3]

end ReportFault
end Go.Proofs.Ytgnohnlpicmnaaa.Vm
