/- What the functions behind FnExactFateFault yield, in the machine's form. -/
import Derived.Test.YtgnohnlpicmnaaaVmD
import Derived.Test.YtgnohnlpicmnaaaRows
set_option linter.unusedVariables false
set_option linter.unusedSimpArgs false
namespace Go.Proofs.Ytgnohnlpicmnaaa.Vm
open Go Go.Proofs
namespace FateFault
/-- laws.FnExactFateFault -/
def c5 : Vc := (.seq (.region [⟨some 1, (Op.box 34 (Operand.tmp 0)), none⟩,
    ⟨some 2, (Op.assign (Operand.const (Value.bool false))), none⟩] (some [1]))
  (.seq (.region [⟨some 5, (Op.load 34 (Operand.tmp 1)), none⟩,
    ⟨some 6, (Op.call { callee := (Callee.value (Operand.func 22)), args := #[(Operand.tmp 5)], argTypes := #[34] }), none⟩,
    ⟨some 7, (Op.call { callee := (Callee.value (Operand.func 21)), args := #[(Operand.tmp 6)], argTypes := #[36] }), none⟩,
    ⟨some 3, (Op.assign (Operand.tmp 7)), none⟩] (some [1, 3]))
  (.seq (.region [⟨some 8, (Op.load 34 (Operand.tmp 1)), none⟩,
    ⟨some 9, (Op.call { callee := (Callee.value (Operand.func 22)), args := #[(Operand.tmp 8)], argTypes := #[34] }), none⟩,
    ⟨some 10, (Op.call { callee := (Callee.value (Operand.func 23)), args := #[(Operand.tmp 9)], argTypes := #[36] }), none⟩,
    ⟨some 4, (Op.assign (Operand.tmp 10)), none⟩] (some [3, 4]))
  (.seq (.seq (.region [⟨some 11, (Op.move (Operand.tmp 4)), none⟩,
    ⟨some 12, (Op.move (Operand.tmp 3)), none⟩,
    ⟨some 13, (Op.binOp BinOp.neq 2 (Operand.tmp 11) (Operand.tmp 12) 2), none⟩] (some [13]))
  (.cond (Operand.tmp 13)
    (.seq (.region [⟨some 2, (Op.assign (Operand.const (Value.bool false))), none⟩] (some [2]))
    .ret)
    .skip))
  (.seq (.region [⟨some 2, (Op.assign (Operand.const (Value.bool true))), none⟩] (some [2]))
  .ret)))))
def a5 : Nat → Option (List Nat)
  | 0 => some [1]
  | 1 => some [1, 3]
  | 2 => some [3, 4]
  | 3 => some [13]
  | 4 => some [2]
  | 5 => some [2]
  | _ => none
theorem is5 : IsFn Try.prog a5 5 c5 14 [(2, none)] := ⟨⟨Try.f5, _, Try.func5, rfl, by kernel_rfl, rfl, rfl, by decide +kernel⟩, by decide⟩

/-- spec.FateFault -/
def c21 : Vc := (.seq (.region [⟨some 1, (Op.box 36 (Operand.tmp 0)), none⟩,
    ⟨some 2, (Op.assign (Operand.const (Value.int IntKind.i64 0))), none⟩] (some [1]))
  (.seq (.region [⟨some 4, (Op.fieldAddr 36 (Operand.tmp 1) 0), none⟩,
    ⟨some 5, (Op.load 2 (Operand.tmp 4)), none⟩,
    ⟨some 6, (Op.binOp BinOp.eql 2 (Operand.tmp 5) (Operand.const (Value.int IntKind.i64 3)) 2), none⟩,
    ⟨some 3, (Op.assign (Operand.tmp 6)), none⟩] (some [1, 3]))
  (.seq (.seq (.region [⟨some 7, (Op.fieldAddr 36 (Operand.tmp 1) 0), none⟩,
    ⟨some 8, (Op.load 2 (Operand.tmp 7)), none⟩,
    ⟨some 9, (Op.call { callee := (Callee.value (Operand.func 57)), args := #[(Operand.tmp 8), (Operand.const (Value.int IntKind.i64 0)), (Operand.const (Value.int IntKind.i64 3))], argTypes := #[2, 2, 2] }), none⟩,
    ⟨some 10, (Op.unOp UnOp.not 4 (Operand.tmp 9)), none⟩,
    ⟨some 11, (Op.move (Operand.tmp 10)), none⟩,
    ⟨some 12, (Op.fieldAddr 36 (Operand.tmp 1) 0), some (11, false)⟩,
    ⟨some 13, (Op.load 2 (Operand.tmp 12)), some (11, false)⟩,
    ⟨some 14, (Op.binOp BinOp.eql 2 (Operand.tmp 13) (Operand.const (Value.int IntKind.i64 0)) 2), some (11, false)⟩,
    ⟨some 15, (Op.move (Operand.tmp 14)), some (11, false)⟩,
    ⟨some 16, (Op.fieldAddr 36 (Operand.tmp 1) 1), some (15, true)⟩,
    ⟨some 17, (Op.load 2 (Operand.tmp 16)), some (15, true)⟩,
    ⟨some 18, (Op.binOp BinOp.neq 2 (Operand.tmp 17) (Operand.const (Value.int IntKind.i64 0)) 2), some (15, true)⟩,
    ⟨some 19, (Op.pick (Operand.tmp 15) (Operand.tmp 18) (Operand.const (Value.bool false))), some (11, false)⟩,
    ⟨some 20, (Op.pick (Operand.tmp 11) (Operand.const (Value.bool true)) (Operand.tmp 19)), none⟩,
    ⟨some 21, (Op.move (Operand.tmp 20)), none⟩,
    ⟨some 22, (Op.move (Operand.tmp 3)), some (21, false)⟩,
    ⟨some 23, (Op.unOp UnOp.not 4 (Operand.tmp 22)), some (21, false)⟩,
    ⟨some 24, (Op.move (Operand.tmp 23)), some (21, false)⟩,
    ⟨some 25, (Op.fieldAddr 36 (Operand.tmp 1) 2), some (24, true)⟩,
    ⟨some 26, (Op.load 2 (Operand.tmp 25)), some (24, true)⟩,
    ⟨some 27, (Op.binOp BinOp.neq 2 (Operand.tmp 26) (Operand.const (Value.int IntKind.i64 0)) 2), some (24, true)⟩,
    ⟨some 28, (Op.move (Operand.tmp 27)), some (24, true)⟩,
    ⟨some 29, (Op.fieldAddr 36 (Operand.tmp 1) 3), some (28, false)⟩,
    ⟨some 30, (Op.load 2 (Operand.tmp 29)), some (28, false)⟩,
    ⟨some 31, (Op.binOp BinOp.neq 2 (Operand.tmp 30) (Operand.const (Value.int IntKind.i64 0)) 2), some (28, false)⟩,
    ⟨some 32, (Op.pick (Operand.tmp 28) (Operand.const (Value.bool true)) (Operand.tmp 31)), some (24, true)⟩,
    ⟨some 33, (Op.pick (Operand.tmp 24) (Operand.tmp 32) (Operand.const (Value.bool false))), some (21, false)⟩,
    ⟨some 34, (Op.pick (Operand.tmp 21) (Operand.const (Value.bool true)) (Operand.tmp 33)), none⟩] (some [1, 3, 34]))
  (.cond (Operand.tmp 34)
    (.seq (.region [⟨some 2, (Op.assign (Operand.const (Value.int IntKind.i64 1))), none⟩] (some [2]))
    .ret)
    .skip))
  (.seq (.seq (.region [⟨some 35, (Op.fieldAddr 36 (Operand.tmp 1) 1), none⟩,
    ⟨some 36, (Op.load 2 (Operand.tmp 35)), none⟩,
    ⟨some 37, (Op.call { callee := (Callee.value (Operand.func 57)), args := #[(Operand.tmp 36), (Operand.const (Value.int IntKind.i64 0)), (Operand.const (Value.int IntKind.i64 6))], argTypes := #[2, 2, 2] }), none⟩,
    ⟨some 38, (Op.unOp UnOp.not 4 (Operand.tmp 37)), none⟩,
    ⟨some 39, (Op.move (Operand.tmp 38)), none⟩,
    ⟨some 40, (Op.move (Operand.tmp 3)), some (39, false)⟩,
    ⟨some 41, (Op.move (Operand.tmp 40)), some (39, false)⟩,
    ⟨some 42, (Op.fieldAddr 36 (Operand.tmp 1) 2), some (41, true)⟩,
    ⟨some 43, (Op.load 2 (Operand.tmp 42)), some (41, true)⟩,
    ⟨some 44, (Op.call { callee := (Callee.value (Operand.func 57)), args := #[(Operand.tmp 43), (Operand.const (Value.int IntKind.i64 0)), (Operand.const (Value.int IntKind.i64 1279))], argTypes := #[2, 2, 2] }), some (41, true)⟩,
    ⟨some 45, (Op.unOp UnOp.not 4 (Operand.tmp 44)), some (41, true)⟩,
    ⟨some 46, (Op.move (Operand.tmp 45)), some (41, true)⟩,
    ⟨some 47, (Op.fieldAddr 36 (Operand.tmp 1) 3), some (46, false)⟩,
    ⟨some 48, (Op.load 2 (Operand.tmp 47)), some (46, false)⟩,
    ⟨some 49, (Op.call { callee := (Callee.value (Operand.func 57)), args := #[(Operand.tmp 48), (Operand.const (Value.int IntKind.i64 1)), (Operand.const (Value.int IntKind.i64 65535))], argTypes := #[2, 2, 2] }), some (46, false)⟩,
    ⟨some 50, (Op.unOp UnOp.not 4 (Operand.tmp 49)), some (46, false)⟩,
    ⟨some 51, (Op.pick (Operand.tmp 46) (Operand.const (Value.bool true)) (Operand.tmp 50)), some (41, true)⟩,
    ⟨some 52, (Op.pick (Operand.tmp 41) (Operand.tmp 51) (Operand.const (Value.bool false))), some (39, false)⟩,
    ⟨some 53, (Op.pick (Operand.tmp 39) (Operand.const (Value.bool true)) (Operand.tmp 52)), none⟩] (some [53]))
  (.cond (Operand.tmp 53)
    (.seq (.region [⟨some 2, (Op.assign (Operand.const (Value.int IntKind.i64 3))), none⟩] (some [2]))
    .ret)
    .skip))
  (.seq (.region [⟨some 2, (Op.assign (Operand.const (Value.int IntKind.i64 0))), none⟩] (some [2]))
  .ret)))))
def a21 : Nat → Option (List Nat)
  | 0 => some [1]
  | 1 => some [1, 3]
  | 2 => some [1, 3, 34]
  | 3 => some [2]
  | 4 => some [53]
  | 5 => some [2]
  | 6 => some [2]
  | _ => none
theorem is21 : IsFn Try.prog a21 21 c21 54 [(2, none)] := ⟨⟨Try.f21, _, Try.func21, rfl, by kernel_rfl, rfl, rfl, by decide +kernel⟩, by decide⟩

/-- laws.toFate -/
def c22 : Vc := (.seq (.region [⟨some 1, (Op.box 34 (Operand.tmp 0)), none⟩,
    ⟨some 2, (Op.alloc 36), none⟩] (some [1, 2]))
  (.seq (.region [⟨some 3, (Op.alloc 36), none⟩] (some [1, 2, 3]))
  (.seq (.region [⟨some 4, (Op.fieldAddr 34 (Operand.tmp 1) 0), none⟩,
    ⟨some 5, (Op.load 2 (Operand.tmp 4)), none⟩,
    ⟨some 6, (Op.fieldAddr 36 (Operand.tmp 3) 0), none⟩,
    ⟨none, (Op.store 2 (Operand.tmp 6) (Operand.tmp 5)), none⟩] (some [1, 2, 3]))
  (.seq (.region [⟨some 7, (Op.fieldAddr 34 (Operand.tmp 1) 1), none⟩,
    ⟨some 8, (Op.load 2 (Operand.tmp 7)), none⟩,
    ⟨some 9, (Op.fieldAddr 36 (Operand.tmp 3) 1), none⟩,
    ⟨none, (Op.store 2 (Operand.tmp 9) (Operand.tmp 8)), none⟩] (some [1, 2, 3]))
  (.seq (.region [⟨some 10, (Op.fieldAddr 34 (Operand.tmp 1) 2), none⟩,
    ⟨some 11, (Op.load 2 (Operand.tmp 10)), none⟩,
    ⟨some 12, (Op.fieldAddr 36 (Operand.tmp 3) 2), none⟩,
    ⟨none, (Op.store 2 (Operand.tmp 12) (Operand.tmp 11)), none⟩] (some [1, 2, 3]))
  (.seq (.region [⟨some 13, (Op.fieldAddr 34 (Operand.tmp 1) 3), none⟩,
    ⟨some 14, (Op.load 2 (Operand.tmp 13)), none⟩,
    ⟨some 15, (Op.fieldAddr 36 (Operand.tmp 3) 3), none⟩,
    ⟨none, (Op.store 2 (Operand.tmp 15) (Operand.tmp 14)), none⟩] (some [2, 3]))
  (.seq (.region [⟨some 16, (Op.load 36 (Operand.tmp 3)), none⟩,
    ⟨none, (Op.store 36 (Operand.tmp 2) (Operand.tmp 16)), none⟩] (some [2]))
  .ret)))))))
def a22 : Nat → Option (List Nat)
  | 0 => some [1, 2]
  | 1 => some [1, 2, 3]
  | 2 => some [1, 2, 3]
  | 3 => some [1, 2, 3]
  | 4 => some [1, 2, 3]
  | 5 => some [2, 3]
  | 6 => some [2]
  | _ => none
theorem is22 : IsFn Try.prog a22 22 c22 17 [(2, some 36)] := ⟨⟨Try.f22, _, Try.func22, rfl, by kernel_rfl, rfl, rfl, by decide +kernel⟩, by decide⟩

/-- impl.FateFault -/
def c23 : Vc := (.seq (.region [⟨some 1, (Op.box 36 (Operand.tmp 0)), none⟩,
    ⟨some 2, (Op.assign (Operand.const (Value.int IntKind.i64 0))), none⟩] (some [1]))
  (.seq (.region [⟨some 5, (Op.fieldAddr 36 (Operand.tmp 1) 0), none⟩,
    ⟨some 6, (Op.load 2 (Operand.tmp 5)), none⟩,
    ⟨some 7, (Op.binOp BinOp.neq 2 (Operand.tmp 6) (Operand.const (Value.int IntKind.i64 3)) 2), none⟩,
    ⟨some 8, (Op.move (Operand.tmp 7)), none⟩,
    ⟨some 9, (Op.fieldAddr 36 (Operand.tmp 1) 2), some (8, true)⟩,
    ⟨some 10, (Op.load 2 (Operand.tmp 9)), some (8, true)⟩,
    ⟨some 11, (Op.binOp BinOp.neq 2 (Operand.tmp 10) (Operand.const (Value.int IntKind.i64 0)) 2), some (8, true)⟩,
    ⟨some 12, (Op.move (Operand.tmp 11)), some (8, true)⟩,
    ⟨some 13, (Op.fieldAddr 36 (Operand.tmp 1) 3), some (12, false)⟩,
    ⟨some 14, (Op.load 2 (Operand.tmp 13)), some (12, false)⟩,
    ⟨some 15, (Op.binOp BinOp.neq 2 (Operand.tmp 14) (Operand.const (Value.int IntKind.i64 0)) 2), some (12, false)⟩,
    ⟨some 16, (Op.pick (Operand.tmp 12) (Operand.const (Value.bool true)) (Operand.tmp 15)), some (8, true)⟩,
    ⟨some 17, (Op.pick (Operand.tmp 8) (Operand.tmp 16) (Operand.const (Value.bool false))), none⟩,
    ⟨some 18, (Op.move (Operand.tmp 17)), none⟩,
    ⟨some 19, (Op.fieldAddr 36 (Operand.tmp 1) 0), some (18, false)⟩,
    ⟨some 20, (Op.load 2 (Operand.tmp 19)), some (18, false)⟩,
    ⟨some 21, (Op.binOp BinOp.eql 2 (Operand.tmp 20) (Operand.const (Value.int IntKind.i64 0)) 2), some (18, false)⟩,
    ⟨some 22, (Op.move (Operand.tmp 21)), some (18, false)⟩,
    ⟨some 23, (Op.fieldAddr 36 (Operand.tmp 1) 1), some (22, true)⟩,
    ⟨some 24, (Op.load 2 (Operand.tmp 23)), some (22, true)⟩,
    ⟨some 25, (Op.binOp BinOp.neq 2 (Operand.tmp 24) (Operand.const (Value.int IntKind.i64 0)) 2), some (22, true)⟩,
    ⟨some 26, (Op.pick (Operand.tmp 22) (Operand.tmp 25) (Operand.const (Value.bool false))), some (18, false)⟩,
    ⟨some 27, (Op.pick (Operand.tmp 18) (Operand.const (Value.bool true)) (Operand.tmp 26)), none⟩,
    ⟨some 3, (Op.assign (Operand.tmp 27)), none⟩] (some [1, 3]))
  (.seq (.region [⟨some 28, (Op.fieldAddr 36 (Operand.tmp 1) 1), none⟩,
    ⟨some 29, (Op.load 2 (Operand.tmp 28)), none⟩,
    ⟨some 30, (Op.call { callee := (Callee.value (Operand.func 64)), args := #[(Operand.tmp 29), (Operand.const (Value.int IntKind.i64 0)), (Operand.const (Value.int IntKind.i64 6))], argTypes := #[2, 2, 2] }), none⟩,
    ⟨some 31, (Op.unOp UnOp.not 4 (Operand.tmp 30)), none⟩,
    ⟨some 32, (Op.move (Operand.tmp 31)), none⟩,
    ⟨some 33, (Op.fieldAddr 36 (Operand.tmp 1) 0), some (32, false)⟩,
    ⟨some 34, (Op.load 2 (Operand.tmp 33)), some (32, false)⟩,
    ⟨some 35, (Op.binOp BinOp.eql 2 (Operand.tmp 34) (Operand.const (Value.int IntKind.i64 3)) 2), some (32, false)⟩,
    ⟨some 36, (Op.move (Operand.tmp 35)), some (32, false)⟩,
    ⟨some 37, (Op.fieldAddr 36 (Operand.tmp 1) 2), some (36, true)⟩,
    ⟨some 38, (Op.load 2 (Operand.tmp 37)), some (36, true)⟩,
    ⟨some 39, (Op.call { callee := (Callee.value (Operand.func 64)), args := #[(Operand.tmp 38), (Operand.const (Value.int IntKind.i64 0)), (Operand.const (Value.int IntKind.i64 1279))], argTypes := #[2, 2, 2] }), some (36, true)⟩,
    ⟨some 40, (Op.unOp UnOp.not 4 (Operand.tmp 39)), some (36, true)⟩,
    ⟨some 41, (Op.move (Operand.tmp 40)), some (36, true)⟩,
    ⟨some 42, (Op.fieldAddr 36 (Operand.tmp 1) 3), some (41, false)⟩,
    ⟨some 43, (Op.load 2 (Operand.tmp 42)), some (41, false)⟩,
    ⟨some 44, (Op.call { callee := (Callee.value (Operand.func 64)), args := #[(Operand.tmp 43), (Operand.const (Value.int IntKind.i64 1)), (Operand.const (Value.int IntKind.i64 65535))], argTypes := #[2, 2, 2] }), some (41, false)⟩,
    ⟨some 45, (Op.unOp UnOp.not 4 (Operand.tmp 44)), some (41, false)⟩,
    ⟨some 46, (Op.pick (Operand.tmp 41) (Operand.const (Value.bool true)) (Operand.tmp 45)), some (36, true)⟩,
    ⟨some 47, (Op.pick (Operand.tmp 36) (Operand.tmp 46) (Operand.const (Value.bool false))), some (32, false)⟩,
    ⟨some 48, (Op.pick (Operand.tmp 32) (Operand.const (Value.bool true)) (Operand.tmp 47)), none⟩,
    ⟨some 4, (Op.assign (Operand.tmp 48)), none⟩] (some [1, 3, 4]))
  (.seq (.region [⟨some 49, (Op.fieldAddr 36 (Operand.tmp 1) 0), none⟩,
    ⟨some 50, (Op.load 2 (Operand.tmp 49)), none⟩,
    ⟨some 51, (Op.call { callee := (Callee.value (Operand.func 64)), args := #[(Operand.tmp 50), (Operand.const (Value.int IntKind.i64 0)), (Operand.const (Value.int IntKind.i64 3))], argTypes := #[2, 2, 2] }), none⟩,
    ⟨some 52, (Op.unOp UnOp.not 4 (Operand.tmp 51)), none⟩,
    ⟨some 53, (Op.move (Operand.tmp 52)), none⟩,
    ⟨some 54, (Op.move (Operand.tmp 3)), some (53, false)⟩,
    ⟨some 55, (Op.pick (Operand.tmp 53) (Operand.const (Value.bool true)) (Operand.tmp 54)), none⟩,
    ⟨some 56, (Op.call { callee := (Callee.value (Operand.func 58)), args := #[(Operand.tmp 55), (Operand.const (Value.int IntKind.i64 1))], argTypes := #[4, 2] }), none⟩,
    ⟨some 57, (Op.move (Operand.tmp 4)), none⟩,
    ⟨some 58, (Op.call { callee := (Callee.value (Operand.func 58)), args := #[(Operand.tmp 57), (Operand.const (Value.int IntKind.i64 3))], argTypes := #[4, 2] }), none⟩,
    ⟨some 59, (Op.buildSlice 44 2 #[(0, (Operand.tmp 56)), (1, (Operand.tmp 58))]), none⟩,
    ⟨some 60, (Op.call { callee := (Callee.value (Operand.func 66)), args := #[(Operand.tmp 59)], argTypes := #[44] }), none⟩,
    ⟨some 2, (Op.assign (Operand.tmp 60)), none⟩] (some [2]))
  .ret))))
def a23 : Nat → Option (List Nat)
  | 0 => some [1]
  | 1 => some [1, 3]
  | 2 => some [1, 3, 4]
  | 3 => some [2]
  | _ => none
theorem is23 : IsFn Try.prog a23 23 c23 61 [(2, none)] := ⟨⟨Try.f23, _, Try.func23, rfl, by kernel_rfl, rfl, rfl, by decide +kernel⟩, by decide⟩

/-- spec.l1In -/
def c57 : Vc := (.seq (.region [⟨some 6, (Op.assign (Operand.const (Value.bool false))), none⟩] (some [0, 1, 2]))
  (.seq (.region [⟨some 7, (Op.move (Operand.tmp 0)), none⟩,
    ⟨some 8, (Op.move (Operand.tmp 1)), none⟩,
    ⟨some 9, (Op.binOp BinOp.geq 2 (Operand.tmp 7) (Operand.tmp 8) 2), none⟩,
    ⟨some 10, (Op.move (Operand.tmp 9)), none⟩,
    ⟨some 11, (Op.move (Operand.tmp 0)), some (10, true)⟩,
    ⟨some 12, (Op.move (Operand.tmp 2)), some (10, true)⟩,
    ⟨some 13, (Op.binOp BinOp.leq 2 (Operand.tmp 11) (Operand.tmp 12) 2), some (10, true)⟩,
    ⟨some 14, (Op.pick (Operand.tmp 10) (Operand.tmp 13) (Operand.const (Value.bool false))), none⟩,
    ⟨some 6, (Op.assign (Operand.tmp 14)), none⟩] (some [6]))
  .ret))
def a57 : Nat → Option (List Nat)
  | 0 => some [0, 1, 2]
  | 1 => some [6]
  | _ => none
theorem is57 : IsFn Try.prog a57 57 c57 15 [(6, none)] := ⟨⟨Try.f57, _, Try.func57, rfl, by kernel_rfl, rfl, rfl, by decide +kernel⟩, by decide⟩

/-- impl.codeIf -/
def c58 : Vc := (.seq (.region [⟨some 4, (Op.assign (Operand.const (Value.int IntKind.i64 0))), none⟩] (some [0, 1]))
  (.seq (.seq (.region [⟨some 5, (Op.move (Operand.tmp 0)), none⟩] (some [1, 5]))
  (.cond (Operand.tmp 5)
    (.seq (.region [⟨some 6, (Op.move (Operand.tmp 1)), none⟩,
      ⟨some 4, (Op.assign (Operand.tmp 6)), none⟩] (some [4]))
    .ret)
    .skip))
  (.seq (.region [⟨some 4, (Op.assign (Operand.const (Value.int IntKind.i64 0))), none⟩] (some [4]))
  .ret)))
def a58 : Nat → Option (List Nat)
  | 0 => some [0, 1]
  | 1 => some [1, 5]
  | 2 => some [4]
  | 3 => some [4]
  | _ => none
theorem is58 : IsFn Try.prog a58 58 c58 7 [(4, none)] := ⟨⟨Try.f58, _, Try.func58, rfl, by kernel_rfl, rfl, rfl, by decide +kernel⟩, by decide⟩

/-- impl.inRange -/
def c64 : Vc := (.seq (.region [⟨some 6, (Op.assign (Operand.const (Value.bool false))), none⟩] (some [0, 1, 2]))
  (.seq (.region [⟨some 7, (Op.move (Operand.tmp 1)), none⟩,
    ⟨some 8, (Op.move (Operand.tmp 0)), none⟩,
    ⟨some 9, (Op.binOp BinOp.leq 2 (Operand.tmp 7) (Operand.tmp 8) 2), none⟩,
    ⟨some 10, (Op.move (Operand.tmp 9)), none⟩,
    ⟨some 11, (Op.move (Operand.tmp 0)), some (10, true)⟩,
    ⟨some 12, (Op.move (Operand.tmp 2)), some (10, true)⟩,
    ⟨some 13, (Op.binOp BinOp.leq 2 (Operand.tmp 11) (Operand.tmp 12) 2), some (10, true)⟩,
    ⟨some 14, (Op.pick (Operand.tmp 10) (Operand.tmp 13) (Operand.const (Value.bool false))), none⟩,
    ⟨some 6, (Op.assign (Operand.tmp 14)), none⟩] (some [6]))
  .ret))
def a64 : Nat → Option (List Nat)
  | 0 => some [0, 1, 2]
  | 1 => some [6]
  | _ => none
theorem is64 : IsFn Try.prog a64 64 c64 15 [(6, none)] := ⟨⟨Try.f64, _, Try.func64, rfl, by kernel_rfl, rfl, rfl, by decide +kernel⟩, by decide⟩

def l66_0 : Vc := (.seq (.region [⟨some 8, (Op.binOp BinOp.lss 3 (Operand.tmp 7) (Operand.tmp 6) 3), none⟩] (some [5, 6, 7, 8]))
  (.seq (.cond (Operand.tmp 8)
    .skip
    (.exit 0))
  (.seq (.block 1 (.seq (.region [⟨some 9, (Op.indexAddr 44 (Operand.tmp 5) (Operand.tmp 7)), none⟩,
    ⟨some 10, (Op.load 2 (Operand.tmp 9)), none⟩,
    ⟨some 4, (Op.assign (Operand.tmp 10)), none⟩] (some [4, 5, 6, 7]))
  (.seq (.region [⟨some 11, (Op.move (Operand.tmp 4)), none⟩,
    ⟨some 12, (Op.binOp BinOp.neq 2 (Operand.tmp 11) (Operand.const (Value.int IntKind.i64 0)) 2), none⟩] (some [4, 5, 6, 7, 12]))
  (.cond (Operand.tmp 12)
    (.seq (.region [⟨some 13, (Op.move (Operand.tmp 4)), none⟩,
      ⟨some 2, (Op.assign (Operand.tmp 13)), none⟩] (some [2]))
    .ret)
    .skip))))
  (.region [⟨some 14, (Op.binOp BinOp.add 3 (Operand.tmp 7) (Operand.const (Value.int IntKind.i64 1)) 3), none⟩,
    ⟨some 7, (Op.move (Operand.tmp 14)), none⟩] (some [5, 6, 7])))))
/-- impl.first -/
def c66 : Vc := (.seq (.region [⟨some 2, (Op.assign (Operand.const (Value.int IntKind.i64 0))), none⟩] (some [0]))
  (.seq (.seq (.region [⟨some 5, (Op.move (Operand.tmp 0)), none⟩,
    ⟨some 6, (Op.call { callee := (Callee.builtin Builtin.len), args := #[(Operand.tmp 5)], argTypes := #[44] }), none⟩,
    ⟨some 7, (Op.move (Operand.const (Value.int IntKind.i64 0))), none⟩] (some [5, 6, 7]))
  (.block 0 (.loop l66_0)))
  (.seq (.region [⟨some 2, (Op.assign (Operand.const (Value.int IntKind.i64 0))), none⟩] (some [2]))
  .ret)))
def a66 : Nat → Option (List Nat)
  | 0 => some [0]
  | 1 => some [5, 6, 7]
  | 2 => some [5, 6, 7, 8]
  | 3 => some [4, 5, 6, 7]
  | 4 => some [4, 5, 6, 7, 12]
  | 5 => some [2]
  | 6 => some [5, 6, 7]
  | 7 => some [2]
  | _ => none
theorem is66 : IsFn Try.prog a66 66 c66 15 [(2, none)] := ⟨⟨Try.f66, _, Try.func66, rfl, by kernel_rfl, rfl, rfl, by decide +kernel⟩, by decide⟩

def tb : Tab where
  own := fun f => match f with
    | 5 => [false]
    | 21 => [false]
    | 22 => [false]
    | 23 => [false]
    | 57 => [false, false, false]
    | 58 => [false, false]
    | 64 => [false, false, false]
    | 66 => [false]
    | _ => []
  pur := fun f => match f with
    | 57 => true
    | 58 => true
    | 64 => true
    | _ => false
  fn := fun f => match f with
    | 5 => some (c5, 14, [(2, none)])
    | 21 => some (c21, 54, [(2, none)])
    | 22 => some (c22, 17, [(2, some 36)])
    | 23 => some (c23, 61, [(2, none)])
    | 57 => some (c57, 15, [(6, none)])
    | 58 => some (c58, 7, [(4, none)])
    | 64 => some (c64, 15, [(6, none)])
    | 66 => some (c66, 15, [(2, none)])
    | _ => none
  ext := fun _ => none
@[simp] theorem tb_own5 : tb.own 5 = [false] := rfl
@[simp] theorem tb_pur5 : tb.pur 5 = false := rfl
@[simp] theorem tb_fn5 : tb.fn 5 = some (c5, 14, [(2, none)]) := rfl
@[simp] theorem tb_own21 : tb.own 21 = [false] := rfl
@[simp] theorem tb_pur21 : tb.pur 21 = false := rfl
@[simp] theorem tb_fn21 : tb.fn 21 = some (c21, 54, [(2, none)]) := rfl
@[simp] theorem tb_own22 : tb.own 22 = [false] := rfl
@[simp] theorem tb_pur22 : tb.pur 22 = false := rfl
@[simp] theorem tb_fn22 : tb.fn 22 = some (c22, 17, [(2, some 36)]) := rfl
@[simp] theorem tb_own23 : tb.own 23 = [false] := rfl
@[simp] theorem tb_pur23 : tb.pur 23 = false := rfl
@[simp] theorem tb_fn23 : tb.fn 23 = some (c23, 61, [(2, none)]) := rfl
@[simp] theorem tb_own57 : tb.own 57 = [false, false, false] := rfl
@[simp] theorem tb_pur57 : tb.pur 57 = true := rfl
@[simp] theorem tb_fn57 : tb.fn 57 = some (c57, 15, [(6, none)]) := rfl
@[simp] theorem tb_own58 : tb.own 58 = [false, false] := rfl
@[simp] theorem tb_pur58 : tb.pur 58 = true := rfl
@[simp] theorem tb_fn58 : tb.fn 58 = some (c58, 7, [(4, none)]) := rfl
@[simp] theorem tb_own64 : tb.own 64 = [false, false, false] := rfl
@[simp] theorem tb_pur64 : tb.pur 64 = true := rfl
@[simp] theorem tb_fn64 : tb.fn 64 = some (c64, 15, [(6, none)]) := rfl
@[simp] theorem tb_own66 : tb.own 66 = [false] := rfl
@[simp] theorem tb_pur66 : tb.pur 66 = false := rfl
@[simp] theorem tb_fn66 : tb.fn 66 = some (c66, 15, [(2, none)]) := rfl
@[simp] theorem tb_ext (f : FuncId) : tb.ext f = none := rfl


theorem tbOk : TabOk Try.prog tb := by
  refine ⟨fun f vc nt rs h => ?_, fun f F h => by simp [tb] at h⟩
  simp only [tb] at h
  split at h <;> first | (obtain ⟨rfl, rfl, rfl⟩ := by simpa using h
                          first | exact ⟨_, is5⟩ | exact ⟨_, is21⟩ | exact ⟨_, is22⟩ | exact ⟨_, is23⟩ | exact ⟨_, is57⟩ | exact ⟨_, is58⟩ | exact ⟨_, is64⟩ | exact ⟨_, is66⟩) | simp at h
attribute [local simp] argsOk callFn argsFr resV D.plain resFr vx steps stepO step1 quietV evq putV opV look binV intOp unV condV stepG isHeavy constV mergeV tidyO tidy tidyE tidyR refsOf leaves leavesL leafRoot inL finD resXs resX ownCells cellsV aggCells isCellV moveAll moveC asm outsD outD callV callVG evc putR borrows unasm backL borV borC borL pureV borLV
attribute [local simp] refD eraseL erase noSh noShL never rowV partsV partCells evm madeV bornV dropR cutR killE killV inR D.row D.rowAt D.setRow D.setAt rowOf loadV loadCs cellV fieldAddrV evs writeAll writeC updR badS badT
theorem strip_same (c : Bool) (x : V) : strip c (.guard c x) = x := by simp [strip]
theorem strip_and (c d : Bool) (x : V) : strip (c && d) (.guard c x) = x := by cases c <;> simp [strip]
theorem strip_val (c : Bool) (d : D) : strip c (.val d) = .val d := rfl
theorem strip_ref (c : Bool) (r : Nat) (p : List Nat) (o : Nat) : strip c (.ref r p o) = .ref r p o := rfl
theorem strip_win (c : Bool) (r : Nat) (p : List Nat) (o sz lo n : Nat) : strip c (.win r p o sz lo n) = .win r p o sz lo n := rfl
theorem strip_addr (c : Bool) (r : Nat) (p : List Nat) (o : Nat) : strip c (.addr r p o) = .addr r p o := rfl
theorem strip_agg (c : Bool) (l : List V) : strip c (.agg l) = .agg l := rfl
theorem strip_tup (c : Bool) (l : List V) : strip c (.tup l) = .tup l := rfl
theorem strip_fn (c : Bool) (f : FuncId) (l : List V) : strip c (.fn f l) = .fn f l := rfl
theorem strip_dead (c : Bool) : strip c .dead = .dead := rfl
attribute [local simp] strip_same strip_and strip_val strip_ref strip_win strip_addr strip_agg strip_tup strip_fn strip_dead
theorem f64 (n : Nat) (a b c : Int) : lev Try.prog tb (n + 1) 64 [.int .i64 a, .int .i64 b, .int .i64 c] = some (.bool (decide (b ≤ a) && decide (a ≤ c)), [.int .i64 a, .int .i64 b, .int .i64 c]) := by
  simp [lev, c64]
theorem f57 (n : Nat) (a b c : Int) : lev Try.prog tb (n + 1) 57 [.int .i64 a, .int .i64 b, .int .i64 c] = some (.bool (decide (b ≤ a) && decide (a ≤ c)), [.int .i64 a, .int .i64 b, .int .i64 c]) := by
  simp [lev, c57]
theorem f58 (n : Nat) (a : Bool) (b : Int) : lev Try.prog tb (n + 1) 58 [.bool a, .int .i64 b] = some (.int .i64 (if a = true then b else 0), [.bool a, .int .i64 b]) := by
  cases a <;> simp [lev, c58]
theorem u44 : Try.prog.underlying 44 = some (.slice 2) := by kernel_rfl
theorem t2 : aggT Try.prog 2 = some false := by kernel_rfl
theorem s2 : Try.prog.cellsOf 2 = 1 := by kernel_rfl
attribute [local simp] u44 t2 s2 indexAddrV inB lenV
def firstOf : List Int → Int
  | [] => 0
  | x :: l => if x = 0 then firstOf l else x
def fr66 (xs : List Int) (k : Int) : Fr := ⟨[(5, .val (.sl false 1 xs.length (xs.map (.int .i64)))), (6, .val (.int .i64 xs.length)), (7, .val (.int .i64 k))], [], 15⟩
theorem wrap_i64 {n : Int} (h : -9223372036854775808 ≤ n) (h' : n ≤ 9223372036854775807) : IntKind.i64.wrap n = n := by
  rw [IntKind.wrap_i64]; omega
theorem l66 (C : Cx) (xs : List Int) (hx : xs.length ≤ 1000000) : ∀ (m k : Nat), k + m = xs.length → vloop (vx Try.prog C l66_0) (fr66 xs k) =
    if firstOf (xs.drop k) = 0 then some (.exit 0, ⟨[(5, .val (.sl false 1 xs.length (xs.map (.int .i64)))), (6, .val (.int .i64 xs.length)), (7, .val (.int .i64 xs.length)), (8, .val (.bool false))], [], 15⟩)
    else some (.ret, ⟨[(2, .val (.int .i64 (firstOf (xs.drop k))))], [], 15⟩) := by
  intro m
  induction m with
  | zero =>
    intro k hk
    have hk' : k = xs.length := by omega
    subst hk'
    rw [vloop_eq]
    simp [l66_0, fr66, firstOf]
  | succ m ih =>
    intro k hk
    have hlt : k < xs.length := by omega
    have hd : xs.drop k = xs[k] :: xs.drop (k + 1) := List.drop_eq_getElem_cons hlt
    have hw : IntKind.i64.wrap ((k : Int) + 1) = ((k + 1 : Nat) : Int) := by rw [wrap_i64 (by omega) (by omega)]; omega
    rw [vloop_eq]
    rw [hd]
    have ih' := ih (k + 1) (by omega)
    by_cases h0 : xs[k] = 0
    · simp [l66_0, fr66, firstOf, hlt, h0, hw]
      simp [l66_0, fr66] at ih'
      exact ih'
    · simp [l66_0, fr66, firstOf, hlt, h0, hw]
theorem f66 (n : Nat) (xs : List Int) (hx : xs.length ≤ 1000000) : lev Try.prog tb (n + 1) 66 [.sl false 1 xs.length (xs.map (.int .i64))] = some (.int .i64 (firstOf xs), [.sl false 1 xs.length (xs.map (.int .i64))]) := by
  have h := l66 ⟨tb.own, tb.pur, lev Try.prog tb n⟩ xs hx xs.length 0 (by omega)
  simp only [fr66, List.drop_zero] at h
  rw [show ((0 : Nat) : Int) = 0 from rfl] at h
  rw [lev]
  by_cases h0 : firstOf xs = 0
  · rw [if_pos h0] at h
    simp [c66, h, h0]
  · rw [if_neg h0] at h
    simp [c66, h, h0]

theorem t36_0 : fieldOff Try.prog 36 0 = some (0, 2) := by kernel_rfl
theorem t36_1 : fieldOff Try.prog 36 1 = some (1, 2) := by kernel_rfl
theorem t36_2 : fieldOff Try.prog 36 2 = some (2, 2) := by kernel_rfl
theorem t36_3 : fieldOff Try.prog 36 3 = some (3, 2) := by kernel_rfl
theorem t34_0 : fieldOff Try.prog 34 0 = some (0, 2) := by kernel_rfl
theorem t34_1 : fieldOff Try.prog 34 1 = some (1, 2) := by kernel_rfl
theorem t34_2 : fieldOff Try.prog 34 2 = some (2, 2) := by kernel_rfl
theorem t34_3 : fieldOff Try.prog 34 3 = some (3, 2) := by kernel_rfl
theorem t36 : aggT Try.prog 36 = some true := by kernel_rfl
theorem t34 : aggT Try.prog 34 = some true := by kernel_rfl
theorem z36 : zeroCs Try.prog 36 = some [.val (.int .i64 0), .val (.int .i64 0), .val (.int .i64 0), .val (.int .i64 0)] := by kernel_rfl
theorem s36 : Try.prog.cellsOf 36 = 4 := by kernel_rfl
theorem s34 : Try.prog.cellsOf 34 = 4 := by kernel_rfl
theorem z2 : zeroCs Try.prog 2 = some [.val (.int .i64 0)] := by kernel_rfl
attribute [local simp] t36_0 t36_1 t36_2 t36_3 t34_0 t34_1 t34_2 t34_3 t36 t34 z36 s36 s34 z2 zerosV fillV
theorem f66' (n : Nat) (a b : Int) : lev Try.prog tb (n + 1) 66 [.sl false 1 2 [.int .i64 a, .int .i64 b]] = some (.int .i64 (if a = 0 then b else a), [.sl false 1 2 [.int .i64 a, .int .i64 b]]) := by
  have h := f66 n [a, b] (by simp)
  simp only [List.length_cons, List.length_nil, List.map_cons, List.map_nil, firstOf] at h
  rw [show (0 + 1 + 1 : Nat) = 2 from rfl] at h
  rw [h]
  by_cases ha : a = 0 <;> by_cases hb : b = 0 <;> simp [ha, hb]
theorem f22 (n : Nat) (a b c d : Int) : lev Try.prog tb (n + 1) 22 [.agg [.int .i64 a, .int .i64 b, .int .i64 c, .int .i64 d]] = some (.agg [.int .i64 a, .int .i64 b, .int .i64 c, .int .i64 d], [.agg [.int .i64 a, .int .i64 b, .int .i64 c, .int .i64 d]]) := by
  rw [lev]
  simp [c22]
def inR3 (a b c : Int) : Bool := decide (b ≤ a) && decide (a ≤ c)
theorem f64' (n : Nat) (a b c : Int) : lev Try.prog tb (n + 1) 64 [.int .i64 a, .int .i64 b, .int .i64 c] = some (.bool (inR3 a b c), [.int .i64 a, .int .i64 b, .int .i64 c]) := f64 n a b c
theorem f57' (n : Nat) (a b c : Int) : lev Try.prog tb (n + 1) 57 [.int .i64 a, .int .i64 b, .int .i64 c] = some (.bool (inR3 a b c), [.int .i64 a, .int .i64 b, .int .i64 c]) := f57 n a b c
theorem range1 : List.range 1 = [0] := rfl
theorem range2 : List.range 2 = [0, 1] := rfl
theorem range3 : List.range 3 = [0, 1, 2] := rfl
attribute [local simp] range1 range2 range3
def bad1 (a b c d : Int) : Bool := !inR3 a 0 3 || (!decide (a = 3) && (!decide (c = 0) || !decide (d = 0)) || decide (a = 0) && b != 0)
def bad2 (a b c d : Int) : Bool := !inR3 b 0 6 || decide (a = 3) && (!inR3 c 0 1279 || !inR3 d 1 65535)
theorem f23 (n : Nat) (a b c d : Int) : lev Try.prog tb (n + 2) 23 [.agg [.int .i64 a, .int .i64 b, .int .i64 c, .int .i64 d]] =
    some (.int .i64 (if bad1 a b c d = true then 1 else if bad2 a b c d = true then 3 else 0), [.agg [.int .i64 a, .int .i64 b, .int .i64 c, .int .i64 d]]) := by
  rw [lev]
  have e : (if bad1 a b c d = true then (1 : Int) else if bad2 a b c d = true then 3 else 0) = if (if bad1 a b c d = true then (1 : Int) else 0) = 0 then (if bad2 a b c d = true then 3 else 0) else (if bad1 a b c d = true then 1 else 0) := by
    by_cases h : bad1 a b c d = true <;> simp [h]
  rw [e]
  simp [f64', f58, f66', c23, bad1, bad2]
theorem f21 (n : Nat) (a b c d : Int) : lev Try.prog tb (n + 2) 21 [.agg [.int .i64 a, .int .i64 b, .int .i64 c, .int .i64 d]] =
    some (.int .i64 (if bad1 a b c d = true then 1 else if bad2 a b c d = true then 3 else 0), [.agg [.int .i64 a, .int .i64 b, .int .i64 c, .int .i64 d]]) := by
  rw [lev]
  by_cases h1 : (inR3 a 0 3 = false ∨ a = 0 ∧ ¬b = 0) ∨ ¬a = 3 ∧ (¬c = 0 ∨ ¬d = 0)
  · have e1 : bad1 a b c d = true := by simp only [bad1]; simp; grind
    simp [f57', c21, h1, e1]
  · have e1 : bad1 a b c d = false := by simp only [bad1]; simp; grind
    by_cases h2 : inR3 b 0 6 = false ∨ a = 3 ∧ (inR3 c 0 1279 = false ∨ inR3 d 1 65535 = false)
    · have e2 : bad2 a b c d = true := by simp only [bad2]; simp; grind
      simp [f57', c21, h1, h2, e1, e2]
    · have e2 : bad2 a b c d = false := by simp only [bad2]; simp; grind
      simp [f57', c21, h1, h2, e1, e2]
theorem f5 (n : Nat) (a b c d : Int) : lev Try.prog tb (n + 3) 5 [.agg [.int .i64 a, .int .i64 b, .int .i64 c, .int .i64 d]] = some (.bool true, [.agg [.int .i64 a, .int .i64 b, .int .i64 c, .int .i64 d]]) := by
  rw [lev]
  simp [f21, f22, f23, c5]

end FateFault
end Go.Proofs.Ytgnohnlpicmnaaa.Vm
