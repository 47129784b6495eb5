/- What the functions behind FnExactIsRefreshed yield, in the machine's form. -/
import Derived.Test.YtgnohnlpicmnaaaVnD
import Derived.Test.YtgnohnlpicmnaaaRows
set_option linter.unusedVariables false
set_option linter.unusedSimpArgs false
namespace Go.Proofs.Ytgnohnlpicmnaaa.Vm
open Go Go.Proofs
namespace IsRefreshed
/-- laws.FnExactIsRefreshed -/
def c7 : Vc := (.seq (.region [⟨some 4, (Op.assign (Operand.const (Value.bool false))), none⟩] (some [0, 1]))
  (.seq (.seq (.region [⟨some 8, (Op.move (Operand.tmp 1)), none⟩,
    ⟨some 9, (Op.call { callee := (Callee.builtin Builtin.len), args := #[(Operand.tmp 8)], argTypes := #[44] }), none⟩,
    ⟨some 10, (Op.binOp BinOp.gtr 3 (Operand.tmp 9) (Operand.const (Value.int IntKind.i64 1048576)) 3), none⟩] (some [0, 1, 10]))
  (.cond (Operand.tmp 10)
    (.seq (.region [⟨some 4, (Op.assign (Operand.const (Value.bool true))), none⟩] (some [4]))
    .ret)
    .skip))
  (.seq (.region [⟨some 11, (Op.move (Operand.tmp 0)), none⟩,
    ⟨some 12, (Op.move (Operand.tmp 1)), none⟩,
    ⟨some 13, (Op.call { callee := (Callee.value (Operand.func 28)), args := #[(Operand.tmp 12)], argTypes := #[44] }), none⟩,
    ⟨some 14, (Op.call { callee := (Callee.value (Operand.func 27)), args := #[(Operand.tmp 11), (Operand.tmp 13)], argTypes := #[2, 44] }), none⟩,
    ⟨some 5, (Op.assign (Operand.tmp 14)), none⟩] (some [0, 1, 5]))
  (.seq (.region [⟨some 15, (Op.move (Operand.tmp 1)), none⟩,
    ⟨some 16, (Op.call { callee := (Callee.value (Operand.func 28)), args := #[(Operand.tmp 15)], argTypes := #[44] }), none⟩,
    ⟨some 6, (Op.assign (Operand.tmp 16)), none⟩] (some [0, 1, 5, 6]))
  (.seq (.region [⟨some 17, (Op.move (Operand.tmp 0)), none⟩,
    ⟨some 18, (Op.move (Operand.tmp 6)), none⟩,
    ⟨some 19, (Op.call { callee := (Callee.value (Operand.func 29)), args := #[(Operand.tmp 17), (Operand.tmp 18)], argTypes := #[2, 44] }), none⟩,
    ⟨some 7, (Op.assign (Operand.tmp 19)), none⟩] (some [1, 5, 6, 7]))
  (.seq (.seq (.region [⟨some 20, (Op.move (Operand.tmp 7)), none⟩,
    ⟨some 21, (Op.move (Operand.tmp 5)), none⟩,
    ⟨some 22, (Op.binOp BinOp.neq 4 (Operand.tmp 20) (Operand.tmp 21) 4), none⟩] (some [1, 6, 22]))
  (.cond (Operand.tmp 22)
    (.seq (.region [⟨some 4, (Op.assign (Operand.const (Value.bool false))), none⟩] (some [4]))
    .ret)
    .skip))
  (.seq (.seq (.region [⟨some 23, (Op.move (Operand.tmp 6)), none⟩,
    ⟨some 24, (Op.move (Operand.tmp 1)), none⟩,
    ⟨some 25, (Op.call { callee := (Callee.value (Operand.func 28)), args := #[(Operand.tmp 24)], argTypes := #[44] }), none⟩,
    ⟨some 26, (Op.call { callee := (Callee.value (Operand.func 30)), args := #[(Operand.tmp 23), (Operand.tmp 25)], argTypes := #[44, 44] }), none⟩,
    ⟨some 27, (Op.unOp UnOp.not 4 (Operand.tmp 26)), none⟩] (some [27]))
  (.cond (Operand.tmp 27)
    (.seq (.region [⟨some 4, (Op.assign (Operand.const (Value.bool false))), none⟩] (some [4]))
    .ret)
    .skip))
  (.seq (.region [⟨some 4, (Op.assign (Operand.const (Value.bool true))), none⟩] (some [4]))
  .ret))))))))
def a7 : Nat → Option (List Nat)
  | 0 => some [0, 1]
  | 1 => some [0, 1, 10]
  | 2 => some [4]
  | 3 => some [0, 1, 5]
  | 4 => some [0, 1, 5, 6]
  | 5 => some [1, 5, 6, 7]
  | 6 => some [1, 6, 22]
  | 7 => some [4]
  | 8 => some [27]
  | 9 => some [4]
  | 10 => some [4]
  | _ => none
def b7 : Nat → List Nat
  | _ => []

def l27_0 : Vc := (.seq (.seq (.region [⟨some 21, (Op.move (Operand.tmp 7)), none⟩,
    ⟨some 22, (Op.move (Operand.tmp 1)), none⟩,
    ⟨some 23, (Op.call { callee := (Callee.builtin Builtin.len), args := #[(Operand.tmp 22)], argTypes := #[44] }), none⟩,
    ⟨some 24, (Op.binOp BinOp.lss 3 (Operand.tmp 21) (Operand.tmp 23) 3), none⟩] (some [0, 1, 5, 6, 7, 24]))
  (.cond (Operand.tmp 24)
    .skip
    (.exit 0)))
  (.seq (.block 1 (.seq (.region [⟨some 27, (Op.move (Operand.tmp 1)), none⟩,
    ⟨some 28, (Op.move (Operand.tmp 7)), none⟩,
    ⟨some 29, (Op.indexAddr 44 (Operand.tmp 27) (Operand.tmp 28)), none⟩,
    ⟨some 30, (Op.load 2 (Operand.tmp 29)), none⟩] (some [0, 1, 5, 6, 7, 30]))
  (.block 2 (.seq (.region [⟨some 41, (Op.binOp BinOp.eql 2 (Operand.tmp 30) (Operand.const (Value.int IntKind.i64 0)) 2), none⟩,
    ⟨some 40, (Op.assign (Operand.tmp 41)), none⟩] (some [0, 1, 5, 6, 7, 30, 40]))
  (.cond (Operand.tmp 40)
    (.seq (.region [⟨some 5, (Op.assign (Operand.const (Value.bool false))), none⟩] (some [0, 1, 5, 7]))
    (.region [⟨some 6, (Op.assign (Operand.const (Value.int IntKind.i64 0))), none⟩] (some [0, 1, 5, 6, 7])))
    (.seq (.region [⟨some 43, (Op.binOp BinOp.eql 2 (Operand.tmp 30) (Operand.const (Value.int IntKind.i64 1)) 2), none⟩,
      ⟨some 42, (Op.assign (Operand.tmp 43)), none⟩] (some [0, 1, 5, 6, 7, 42]))
    (.cond (Operand.tmp 42)
      (.seq (.region [⟨some 5, (Op.assign (Operand.const (Value.bool true))), none⟩] (some [0, 1, 5, 7]))
      (.region [⟨some 6, (Op.assign (Operand.const (Value.int IntKind.i64 0))), none⟩] (some [0, 1, 5, 6, 7])))
      (.seq (.region [⟨some 31, (Op.move (Operand.tmp 6)), none⟩,
        ⟨some 32, (Op.binOp BinOp.add 2 (Operand.tmp 31) (Operand.const (Value.int IntKind.i64 1)) 2), none⟩,
        ⟨some 6, (Op.assign (Operand.tmp 32)), none⟩] (some [0, 1, 5, 6, 7]))
      (.seq (.region [⟨some 33, (Op.move (Operand.tmp 5)), none⟩,
        ⟨some 34, (Op.unOp UnOp.not 4 (Operand.tmp 33)), none⟩,
        ⟨some 35, (Op.move (Operand.tmp 34)), none⟩,
        ⟨some 36, (Op.move (Operand.tmp 6)), some (35, false)⟩,
        ⟨some 37, (Op.move (Operand.tmp 0)), some (35, false)⟩,
        ⟨some 38, (Op.binOp BinOp.geq 2 (Operand.tmp 36) (Operand.tmp 37) 2), some (35, false)⟩,
        ⟨some 39, (Op.pick (Operand.tmp 35) (Operand.const (Value.bool true)) (Operand.tmp 38)), none⟩] (some [0, 1, 5, 6, 7, 39]))
      (.cond (Operand.tmp 39)
        (.seq (.region [⟨some 4, (Op.assign (Operand.const (Value.bool false))), none⟩] (some [4]))
        .ret)
        .skip))))))))))
  (.region [⟨some 25, (Op.move (Operand.tmp 7)), none⟩,
    ⟨some 26, (Op.binOp BinOp.add 3 (Operand.tmp 25) (Operand.const (Value.int IntKind.i64 1)) 3), none⟩,
    ⟨some 7, (Op.assign (Operand.tmp 26)), none⟩] (some [0, 1, 5, 6, 7]))))
/-- spec.IsRefreshed -/
def c27 : Vc := (.seq (.region [⟨some 4, (Op.assign (Operand.const (Value.bool false))), none⟩] (some [0, 1]))
  (.seq (.seq (.region [⟨some 8, (Op.move (Operand.tmp 0)), none⟩,
    ⟨some 9, (Op.call { callee := (Callee.value (Operand.func 57)), args := #[(Operand.tmp 8), (Operand.const (Value.int IntKind.i64 1)), (Operand.const (Value.int IntKind.i64 50))], argTypes := #[2, 2, 2] }), none⟩,
    ⟨some 10, (Op.unOp UnOp.not 4 (Operand.tmp 9)), none⟩,
    ⟨some 11, (Op.move (Operand.tmp 10)), none⟩,
    ⟨some 12, (Op.move (Operand.tmp 1)), some (11, false)⟩,
    ⟨some 13, (Op.call { callee := (Callee.builtin Builtin.len), args := #[(Operand.tmp 12)], argTypes := #[44] }), some (11, false)⟩,
    ⟨some 14, (Op.binOp BinOp.gtr 3 (Operand.tmp 13) (Operand.const (Value.int IntKind.i64 40)) 3), some (11, false)⟩,
    ⟨some 15, (Op.pick (Operand.tmp 11) (Operand.const (Value.bool true)) (Operand.tmp 14)), none⟩,
    ⟨some 16, (Op.move (Operand.tmp 15)), none⟩,
    ⟨some 17, (Op.move (Operand.tmp 1)), some (16, false)⟩,
    ⟨some 18, (Op.call { callee := (Callee.value (Operand.func 70)), args := #[(Operand.tmp 17), (Operand.const (Value.int IntKind.i64 0)), (Operand.const (Value.int IntKind.i64 2))], argTypes := #[44, 2, 2] }), some (16, false)⟩,
    ⟨some 19, (Op.unOp UnOp.not 4 (Operand.tmp 18)), some (16, false)⟩,
    ⟨some 20, (Op.pick (Operand.tmp 16) (Operand.const (Value.bool true)) (Operand.tmp 19)), none⟩] (some [0, 1, 20]))
  (.cond (Operand.tmp 20)
    (.seq (.region [⟨some 4, (Op.assign (Operand.const (Value.bool false))), none⟩] (some [4]))
    .ret)
    .skip))
  (.seq (.region [⟨some 5, (Op.assign (Operand.const (Value.bool false))), none⟩] (some [0, 1, 5]))
  (.seq (.region [⟨some 6, (Op.assign (Operand.const (Value.int IntKind.i64 0))), none⟩] (some [0, 1, 5, 6]))
  (.seq (.seq (.region [⟨some 7, (Op.assign (Operand.const (Value.int IntKind.i64 0))), none⟩] (some [0, 1, 5, 6, 7]))
  (.block 0 (.loop l27_0)))
  (.seq (.region [⟨some 4, (Op.assign (Operand.const (Value.bool true))), none⟩] (some [4]))
  .ret))))))
def a27 : Nat → Option (List Nat)
  | 0 => some [0, 1]
  | 1 => some [0, 1, 20]
  | 2 => some [4]
  | 3 => some [0, 1, 5]
  | 4 => some [0, 1, 5, 6]
  | 5 => some [0, 1, 5, 6, 7]
  | 6 => some [0, 1, 5, 6, 7, 24]
  | 7 => some [0, 1, 5, 6, 7]
  | 8 => some [0, 1, 5, 6, 7, 30]
  | 9 => some [0, 1, 5, 6, 7]
  | 10 => some [0, 1, 5, 6, 7, 39]
  | 11 => some [4]
  | 12 => some [0, 1, 5, 6, 7, 30, 40]
  | 13 => some [0, 1, 5, 7]
  | 14 => some [0, 1, 5, 6, 7]
  | 15 => some [0, 1, 5, 6, 7, 42]
  | 16 => some [0, 1, 5, 7]
  | 17 => some [0, 1, 5, 6, 7]
  | 18 => some [4]
  | _ => none
def b27 : Nat → List Nat
  | _ => []

def l28_0 : Vc := (.seq (.seq (.region [⟨some 8, (Op.move (Operand.tmp 4)), none⟩,
    ⟨some 9, (Op.move (Operand.tmp 0)), none⟩,
    ⟨some 10, (Op.call { callee := (Callee.builtin Builtin.len), args := #[(Operand.tmp 9)], argTypes := #[44] }), none⟩,
    ⟨some 11, (Op.binOp BinOp.lss 3 (Operand.tmp 8) (Operand.tmp 10) 3), none⟩] (some [0, 3, 4, 11]))
  (.cond (Operand.tmp 11)
    .skip
    (.exit 0)))
  (.seq (.block 1 (.region [⟨some 14, (Op.move (Operand.tmp 3)), none⟩,
    ⟨some 15, (Op.move (Operand.tmp 4)), none⟩,
    ⟨some 16, (Op.move (Operand.tmp 0)), none⟩,
    ⟨some 17, (Op.move (Operand.tmp 4)), none⟩,
    ⟨some 18, (Op.indexAddr 44 (Operand.tmp 16) (Operand.tmp 17)), none⟩,
    ⟨some 19, (Op.load 2 (Operand.tmp 18)), none⟩,
    ⟨some 20, (Op.indexAddr 44 (Operand.tmp 14) (Operand.tmp 15)), none⟩,
    ⟨none, (Op.store 2 (Operand.tmp 20) (Operand.tmp 19)), none⟩] (some [0, 3, 4])))
  (.region [⟨some 12, (Op.move (Operand.tmp 4)), none⟩,
    ⟨some 13, (Op.binOp BinOp.add 3 (Operand.tmp 12) (Operand.const (Value.int IntKind.i64 1)) 3), none⟩,
    ⟨some 4, (Op.assign (Operand.tmp 13)), none⟩] (some [0, 3, 4]))))
/-- laws.toInt64S -/
def c28 : Vc := (.seq (.region [⟨some 2, (Op.assign (Operand.const (Value.slice none 0 0))), none⟩] (some [0]))
  (.seq (.region [⟨some 5, (Op.move (Operand.tmp 0)), none⟩,
    ⟨some 6, (Op.call { callee := (Callee.builtin Builtin.len), args := #[(Operand.tmp 5)], argTypes := #[44] }), none⟩,
    ⟨some 7, (Op.makeSlice 44 (Operand.tmp 6) (Operand.tmp 6)), none⟩,
    ⟨some 3, (Op.assign (Operand.tmp 7)), none⟩] (some [0, 3]))
  (.seq (.seq (.region [⟨some 4, (Op.assign (Operand.const (Value.int IntKind.i64 0))), none⟩] (some [0, 3, 4]))
  (.block 0 (.loop l28_0)))
  (.seq (.region [⟨some 21, (Op.move (Operand.tmp 3)), none⟩,
    ⟨some 2, (Op.assign (Operand.tmp 21)), none⟩] (some [2]))
  .ret))))
def a28 : Nat → Option (List Nat)
  | 0 => some [0]
  | 1 => some [0, 3]
  | 2 => some [0, 3, 4]
  | 3 => some [0, 3, 4, 11]
  | 4 => some [0, 3, 4]
  | 5 => some [0, 3, 4]
  | 6 => some [2]
  | _ => none
def b28 : Nat → List Nat
  | _ => []

def l29_0 : Vc := (.seq (.region [⟨some 20, (Op.binOp BinOp.lss 3 (Operand.tmp 19) (Operand.tmp 18) 3), none⟩] (some [0, 5, 6, 17, 18, 19, 20]))
  (.seq (.cond (Operand.tmp 20)
    .skip
    (.exit 0))
  (.seq (.block 1 (.seq (.region [⟨some 21, (Op.indexAddr 44 (Operand.tmp 17) (Operand.tmp 19)), none⟩,
    ⟨some 22, (Op.load 2 (Operand.tmp 21)), none⟩,
    ⟨some 8, (Op.assign (Operand.tmp 22)), none⟩] (some [0, 5, 6, 8, 17, 18, 19]))
  (.seq (.seq (.region [⟨some 23, (Op.move (Operand.tmp 8)), none⟩,
    ⟨some 24, (Op.call { callee := (Callee.value (Operand.func 64)), args := #[(Operand.tmp 23), (Operand.const (Value.int IntKind.i64 0)), (Operand.const (Value.int IntKind.i64 2))], argTypes := #[2, 2, 2] }), none⟩,
    ⟨some 25, (Op.unOp UnOp.not 4 (Operand.tmp 24)), none⟩,
    ⟨some 26, (Op.move (Operand.tmp 25)), none⟩,
    ⟨some 27, (Op.move (Operand.tmp 5)), some (26, false)⟩,
    ⟨some 28, (Op.binOp BinOp.eql 2 (Operand.tmp 27) (Operand.const (Value.int IntKind.i64 0)) 2), some (26, false)⟩,
    ⟨some 29, (Op.move (Operand.tmp 28)), some (26, false)⟩,
    ⟨some 30, (Op.move (Operand.tmp 8)), some (29, true)⟩,
    ⟨some 31, (Op.binOp BinOp.eql 2 (Operand.tmp 30) (Operand.const (Value.int IntKind.i64 2)) 2), some (29, true)⟩,
    ⟨some 32, (Op.pick (Operand.tmp 29) (Operand.tmp 31) (Operand.const (Value.bool false))), some (26, false)⟩,
    ⟨some 33, (Op.pick (Operand.tmp 26) (Operand.const (Value.bool true)) (Operand.tmp 32)), none⟩] (some [0, 6, 8, 17, 18, 19, 33]))
  (.cond (Operand.tmp 33)
    (.seq (.region [⟨some 4, (Op.assign (Operand.const (Value.bool false))), none⟩] (some [4]))
    .ret)
    .skip))
  (.seq (.seq (.region [⟨some 34, (Op.move (Operand.tmp 6)), none⟩,
    ⟨some 35, (Op.binOp BinOp.add 2 (Operand.tmp 34) (Operand.const (Value.int IntKind.i64 1)) 2), none⟩,
    ⟨some 6, (Op.assign (Operand.tmp 35)), none⟩] (some [0, 6, 8, 17, 18, 19]))
  (.seq (.region [⟨some 36, (Op.move (Operand.tmp 8)), none⟩,
    ⟨some 37, (Op.binOp BinOp.neq 2 (Operand.tmp 36) (Operand.const (Value.int IntKind.i64 2)) 2), none⟩] (some [0, 6, 8, 17, 18, 19, 37]))
  (.cond (Operand.tmp 37)
    (.region [⟨some 6, (Op.assign (Operand.const (Value.int IntKind.i64 0))), none⟩] (some [0, 6, 8, 17, 18, 19]))
    .skip)))
  (.seq (.seq (.region [⟨some 38, (Op.move (Operand.tmp 6)), none⟩,
    ⟨some 39, (Op.move (Operand.tmp 0)), none⟩,
    ⟨some 40, (Op.binOp BinOp.geq 2 (Operand.tmp 38) (Operand.tmp 39) 2), none⟩] (some [0, 6, 8, 17, 18, 19, 40]))
  (.cond (Operand.tmp 40)
    (.seq (.region [⟨some 4, (Op.assign (Operand.const (Value.bool false))), none⟩] (some [4]))
    .ret)
    .skip))
  (.region [⟨some 41, (Op.move (Operand.tmp 8)), none⟩,
    ⟨some 5, (Op.assign (Operand.tmp 41)), none⟩] (some [0, 5, 6, 17, 18, 19])))))))
  (.region [⟨some 42, (Op.binOp BinOp.add 3 (Operand.tmp 19) (Operand.const (Value.int IntKind.i64 1)) 3), none⟩,
    ⟨some 19, (Op.move (Operand.tmp 42)), none⟩] (some [0, 5, 6, 17, 18, 19])))))
/-- impl.IsRefreshed -/
def c29 : Vc := (.seq (.region [⟨some 4, (Op.assign (Operand.const (Value.bool false))), none⟩] (some [0, 1]))
  (.seq (.seq (.region [⟨some 9, (Op.move (Operand.tmp 0)), none⟩,
    ⟨some 10, (Op.call { callee := (Callee.value (Operand.func 64)), args := #[(Operand.tmp 9), (Operand.const (Value.int IntKind.i64 1)), (Operand.const (Value.int IntKind.i64 50))], argTypes := #[2, 2, 2] }), none⟩,
    ⟨some 11, (Op.unOp UnOp.not 4 (Operand.tmp 10)), none⟩,
    ⟨some 12, (Op.move (Operand.tmp 11)), none⟩,
    ⟨some 13, (Op.move (Operand.tmp 1)), some (12, false)⟩,
    ⟨some 14, (Op.call { callee := (Callee.builtin Builtin.len), args := #[(Operand.tmp 13)], argTypes := #[44] }), some (12, false)⟩,
    ⟨some 15, (Op.binOp BinOp.gtr 3 (Operand.tmp 14) (Operand.const (Value.int IntKind.i64 40)) 3), some (12, false)⟩,
    ⟨some 16, (Op.pick (Operand.tmp 12) (Operand.const (Value.bool true)) (Operand.tmp 15)), none⟩] (some [0, 1, 16]))
  (.cond (Operand.tmp 16)
    (.seq (.region [⟨some 4, (Op.assign (Operand.const (Value.bool false))), none⟩] (some [4]))
    .ret)
    .skip))
  (.seq (.region [⟨some 5, (Op.assign (Operand.const (Value.int IntKind.i64 0))), none⟩,
    ⟨some 6, (Op.assign (Operand.const (Value.int IntKind.i64 0))), none⟩] (some [0, 1, 5, 6]))
  (.seq (.seq (.region [⟨some 17, (Op.move (Operand.tmp 1)), none⟩,
    ⟨some 18, (Op.call { callee := (Callee.builtin Builtin.len), args := #[(Operand.tmp 17)], argTypes := #[44] }), none⟩,
    ⟨some 19, (Op.move (Operand.const (Value.int IntKind.i64 0))), none⟩] (some [0, 5, 6, 17, 18, 19]))
  (.block 0 (.loop l29_0)))
  (.seq (.region [⟨some 4, (Op.assign (Operand.const (Value.bool true))), none⟩] (some [4]))
  .ret)))))
def a29 : Nat → Option (List Nat)
  | 0 => some [0, 1]
  | 1 => some [0, 1, 16]
  | 2 => some [4]
  | 3 => some [0, 1, 5, 6]
  | 4 => some [0, 5, 6, 17, 18, 19]
  | 5 => some [0, 5, 6, 17, 18, 19, 20]
  | 6 => some [0, 5, 6, 8, 17, 18, 19]
  | 7 => some [0, 6, 8, 17, 18, 19, 33]
  | 8 => some [4]
  | 9 => some [0, 6, 8, 17, 18, 19]
  | 10 => some [0, 6, 8, 17, 18, 19, 37]
  | 11 => some [0, 6, 8, 17, 18, 19]
  | 12 => some [0, 6, 8, 17, 18, 19, 40]
  | 13 => some [4]
  | 14 => some [0, 5, 6, 17, 18, 19]
  | 15 => some [0, 5, 6, 17, 18, 19]
  | 16 => some [4]
  | _ => none
def b29 : Nat → List Nat
  | _ => []

def l30_0 : Vc := (.seq (.seq (.region [⟨some 11, (Op.move (Operand.tmp 5)), none⟩,
    ⟨some 12, (Op.move (Operand.tmp 0)), none⟩,
    ⟨some 13, (Op.call { callee := (Callee.builtin Builtin.len), args := #[(Operand.tmp 12)], argTypes := #[44] }), none⟩,
    ⟨some 14, (Op.binOp BinOp.lss 3 (Operand.tmp 11) (Operand.tmp 13) 3), none⟩] (some [0, 1, 5, 14]))
  (.cond (Operand.tmp 14)
    .skip
    (.exit 0)))
  (.seq (.block 1 (.seq (.region [⟨some 17, (Op.move (Operand.tmp 0)), none⟩,
    ⟨some 18, (Op.move (Operand.tmp 5)), none⟩,
    ⟨some 19, (Op.indexAddr 44 (Operand.tmp 17) (Operand.tmp 18)), none⟩,
    ⟨some 20, (Op.load 2 (Operand.tmp 19)), none⟩,
    ⟨some 21, (Op.move (Operand.tmp 1)), none⟩,
    ⟨some 22, (Op.move (Operand.tmp 5)), none⟩,
    ⟨some 23, (Op.indexAddr 44 (Operand.tmp 21) (Operand.tmp 22)), none⟩,
    ⟨some 24, (Op.load 2 (Operand.tmp 23)), none⟩,
    ⟨some 25, (Op.binOp BinOp.neq 2 (Operand.tmp 20) (Operand.tmp 24) 2), none⟩] (some [0, 1, 5, 25]))
  (.cond (Operand.tmp 25)
    (.seq (.region [⟨some 4, (Op.assign (Operand.const (Value.bool false))), none⟩] (some [4]))
    .ret)
    .skip)))
  (.region [⟨some 15, (Op.move (Operand.tmp 5)), none⟩,
    ⟨some 16, (Op.binOp BinOp.add 3 (Operand.tmp 15) (Operand.const (Value.int IntKind.i64 1)) 3), none⟩,
    ⟨some 5, (Op.assign (Operand.tmp 16)), none⟩] (some [0, 1, 5]))))
/-- laws.eqInt64S -/
def c30 : Vc := (.seq (.region [⟨some 4, (Op.assign (Operand.const (Value.bool false))), none⟩] (some [0, 1]))
  (.seq (.seq (.region [⟨some 6, (Op.move (Operand.tmp 0)), none⟩,
    ⟨some 7, (Op.call { callee := (Callee.builtin Builtin.len), args := #[(Operand.tmp 6)], argTypes := #[44] }), none⟩,
    ⟨some 8, (Op.move (Operand.tmp 1)), none⟩,
    ⟨some 9, (Op.call { callee := (Callee.builtin Builtin.len), args := #[(Operand.tmp 8)], argTypes := #[44] }), none⟩,
    ⟨some 10, (Op.binOp BinOp.neq 3 (Operand.tmp 7) (Operand.tmp 9) 3), none⟩] (some [0, 1, 10]))
  (.cond (Operand.tmp 10)
    (.seq (.region [⟨some 4, (Op.assign (Operand.const (Value.bool false))), none⟩] (some [4]))
    .ret)
    .skip))
  (.seq (.seq (.region [⟨some 5, (Op.assign (Operand.const (Value.int IntKind.i64 0))), none⟩] (some [0, 1, 5]))
  (.block 0 (.loop l30_0)))
  (.seq (.region [⟨some 4, (Op.assign (Operand.const (Value.bool true))), none⟩] (some [4]))
  .ret))))
def a30 : Nat → Option (List Nat)
  | 0 => some [0, 1]
  | 1 => some [0, 1, 10]
  | 2 => some [4]
  | 3 => some [0, 1, 5]
  | 4 => some [0, 1, 5, 14]
  | 5 => some [0, 1, 5]
  | 6 => some [0, 1, 5, 25]
  | 7 => some [4]
  | 8 => some [4]
  | _ => none
def b30 : Nat → List Nat
  | 6 => [0, 1, 2, 3, 4, 5, 6, 7, 8]
  | _ => []

/-- spec.l1In -/
def c57 : Vc := (.seq (.region [⟨some 6, (Op.assign (Operand.const (Value.bool false))), none⟩] (some [0, 1, 2]))
  (.seq (.region [⟨some 7, (Op.move (Operand.tmp 0)), none⟩,
    ⟨some 8, (Op.move (Operand.tmp 1)), none⟩,
    ⟨some 9, (Op.binOp BinOp.geq 2 (Operand.tmp 7) (Operand.tmp 8) 2), none⟩,
    ⟨some 10, (Op.move (Operand.tmp 9)), none⟩,
    ⟨some 11, (Op.move (Operand.tmp 0)), some (10, true)⟩,
    ⟨some 12, (Op.move (Operand.tmp 2)), some (10, true)⟩,
    ⟨some 13, (Op.binOp BinOp.leq 2 (Operand.tmp 11) (Operand.tmp 12) 2), some (10, true)⟩,
    ⟨some 14, (Op.pick (Operand.tmp 10) (Operand.tmp 13) (Operand.const (Value.bool false))), none⟩,
    ⟨some 6, (Op.assign (Operand.tmp 14)), none⟩] (some [6]))
  .ret))
def a57 : Nat → Option (List Nat)
  | 0 => some [0, 1, 2]
  | 1 => some [6]
  | _ => none
def b57 : Nat → List Nat
  | _ => []

/-- impl.inRange -/
def c64 : Vc := (.seq (.region [⟨some 6, (Op.assign (Operand.const (Value.bool false))), none⟩] (some [0, 1, 2]))
  (.seq (.region [⟨some 7, (Op.move (Operand.tmp 1)), none⟩,
    ⟨some 8, (Op.move (Operand.tmp 0)), none⟩,
    ⟨some 9, (Op.binOp BinOp.leq 2 (Operand.tmp 7) (Operand.tmp 8) 2), none⟩,
    ⟨some 10, (Op.move (Operand.tmp 9)), none⟩,
    ⟨some 11, (Op.move (Operand.tmp 0)), some (10, true)⟩,
    ⟨some 12, (Op.move (Operand.tmp 2)), some (10, true)⟩,
    ⟨some 13, (Op.binOp BinOp.leq 2 (Operand.tmp 11) (Operand.tmp 12) 2), some (10, true)⟩,
    ⟨some 14, (Op.pick (Operand.tmp 10) (Operand.tmp 13) (Operand.const (Value.bool false))), none⟩,
    ⟨some 6, (Op.assign (Operand.tmp 14)), none⟩] (some [6]))
  .ret))
def a64 : Nat → Option (List Nat)
  | 0 => some [0, 1, 2]
  | 1 => some [6]
  | _ => none
def b64 : Nat → List Nat
  | _ => []

def l70_0 : Vc := (.seq (.seq (.region [⟨some 8, (Op.move (Operand.tmp 7)), none⟩,
    ⟨some 9, (Op.move (Operand.tmp 0)), none⟩,
    ⟨some 10, (Op.call { callee := (Callee.builtin Builtin.len), args := #[(Operand.tmp 9)], argTypes := #[44] }), none⟩,
    ⟨some 11, (Op.binOp BinOp.lss 3 (Operand.tmp 8) (Operand.tmp 10) 3), none⟩] (some [0, 1, 2, 7, 11]))
  (.cond (Operand.tmp 11)
    .skip
    (.exit 0)))
  (.seq (.block 1 (.seq (.region [⟨some 14, (Op.move (Operand.tmp 0)), none⟩,
    ⟨some 15, (Op.move (Operand.tmp 7)), none⟩,
    ⟨some 16, (Op.indexAddr 44 (Operand.tmp 14) (Operand.tmp 15)), none⟩,
    ⟨some 17, (Op.load 2 (Operand.tmp 16)), none⟩,
    ⟨some 18, (Op.move (Operand.tmp 1)), none⟩,
    ⟨some 19, (Op.move (Operand.tmp 2)), none⟩,
    ⟨some 20, (Op.call { callee := (Callee.value (Operand.func 57)), args := #[(Operand.tmp 17), (Operand.tmp 18), (Operand.tmp 19)], argTypes := #[2, 2, 2] }), none⟩,
    ⟨some 21, (Op.unOp UnOp.not 4 (Operand.tmp 20)), none⟩] (some [0, 1, 2, 7, 21]))
  (.cond (Operand.tmp 21)
    (.seq (.region [⟨some 6, (Op.assign (Operand.const (Value.bool false))), none⟩] (some [6]))
    .ret)
    .skip)))
  (.region [⟨some 12, (Op.move (Operand.tmp 7)), none⟩,
    ⟨some 13, (Op.binOp BinOp.add 3 (Operand.tmp 12) (Operand.const (Value.int IntKind.i64 1)) 3), none⟩,
    ⟨some 7, (Op.assign (Operand.tmp 13)), none⟩] (some [0, 1, 2, 7]))))
/-- spec.l1All -/
def c70 : Vc := (.seq (.region [⟨some 6, (Op.assign (Operand.const (Value.bool false))), none⟩] (some [0, 1, 2]))
  (.seq (.seq (.region [⟨some 7, (Op.assign (Operand.const (Value.int IntKind.i64 0))), none⟩] (some [0, 1, 2, 7]))
  (.block 0 (.loop l70_0)))
  (.seq (.region [⟨some 6, (Op.assign (Operand.const (Value.bool true))), none⟩] (some [6]))
  .ret)))
def a70 : Nat → Option (List Nat)
  | 0 => some [0, 1, 2]
  | 1 => some [0, 1, 2, 7]
  | 2 => some [0, 1, 2, 7, 11]
  | 3 => some [0, 1, 2, 7]
  | 4 => some [0, 1, 2, 7, 21]
  | 5 => some [6]
  | 6 => some [6]
  | _ => none
def b70 : Nat → List Nat
  | _ => []

def tb : Tab where
  own := fun f => match f with
    | 7 => [false, false]
    | 27 => [false, false]
    | 28 => [false]
    | 29 => [false, false]
    | 30 => [false, false]
    | 57 => [false, false, false]
    | 64 => [false, false, false]
    | 70 => [false, false, false]
    | _ => []
  pur := fun f => match f with
    | 7 => true
    | 27 => true
    | 28 => true
    | 29 => true
    | 30 => true
    | 57 => true
    | 64 => true
    | 70 => true
    | _ => false
  fn := fun f => match f with
    | 7 => some (c7, 28, [(4, none)])
    | 27 => some (c27, 44, [(4, none)])
    | 28 => some (c28, 22, [(2, none)])
    | 29 => some (c29, 43, [(4, none)])
    | 30 => some (c30, 26, [(4, none)])
    | 57 => some (c57, 15, [(6, none)])
    | 64 => some (c64, 15, [(6, none)])
    | 70 => some (c70, 22, [(6, none)])
    | _ => none
  ext := fun _ => none
@[simp] theorem tb_own7 : tb.own 7 = [false, false] := rfl
@[simp] theorem tb_pur7 : tb.pur 7 = true := rfl
@[simp] theorem tb_fn7 : tb.fn 7 = some (c7, 28, [(4, none)]) := rfl
@[simp] theorem tb_own27 : tb.own 27 = [false, false] := rfl
@[simp] theorem tb_pur27 : tb.pur 27 = true := rfl
@[simp] theorem tb_fn27 : tb.fn 27 = some (c27, 44, [(4, none)]) := rfl
@[simp] theorem tb_own28 : tb.own 28 = [false] := rfl
@[simp] theorem tb_pur28 : tb.pur 28 = true := rfl
@[simp] theorem tb_fn28 : tb.fn 28 = some (c28, 22, [(2, none)]) := rfl
@[simp] theorem tb_own29 : tb.own 29 = [false, false] := rfl
@[simp] theorem tb_pur29 : tb.pur 29 = true := rfl
@[simp] theorem tb_fn29 : tb.fn 29 = some (c29, 43, [(4, none)]) := rfl
@[simp] theorem tb_own30 : tb.own 30 = [false, false] := rfl
@[simp] theorem tb_pur30 : tb.pur 30 = true := rfl
@[simp] theorem tb_fn30 : tb.fn 30 = some (c30, 26, [(4, none)]) := rfl
@[simp] theorem tb_own57 : tb.own 57 = [false, false, false] := rfl
@[simp] theorem tb_pur57 : tb.pur 57 = true := rfl
@[simp] theorem tb_fn57 : tb.fn 57 = some (c57, 15, [(6, none)]) := rfl
@[simp] theorem tb_own64 : tb.own 64 = [false, false, false] := rfl
@[simp] theorem tb_pur64 : tb.pur 64 = true := rfl
@[simp] theorem tb_fn64 : tb.fn 64 = some (c64, 15, [(6, none)]) := rfl
@[simp] theorem tb_own70 : tb.own 70 = [false, false, false] := rfl
@[simp] theorem tb_pur70 : tb.pur 70 = true := rfl
@[simp] theorem tb_fn70 : tb.fn 70 = some (c70, 22, [(6, none)]) := rfl
theorem is7 : IsFn Try.prog tb.own 7 c7 28 [(4, none)] := ⟨⟨a7, b7, Try.f7, _, Try.func7, rfl, by kernel_rfl, rfl, rfl, by decide +kernel⟩, by decide⟩
theorem is27 : IsFn Try.prog tb.own 27 c27 44 [(4, none)] := ⟨⟨a27, b27, Try.f27, _, Try.func27, rfl, by kernel_rfl, rfl, rfl, by decide +kernel⟩, by decide⟩
theorem is28 : IsFn Try.prog tb.own 28 c28 22 [(2, none)] := ⟨⟨a28, b28, Try.f28, _, Try.func28, rfl, by kernel_rfl, rfl, rfl, by decide +kernel⟩, by decide⟩
theorem is29 : IsFn Try.prog tb.own 29 c29 43 [(4, none)] := ⟨⟨a29, b29, Try.f29, _, Try.func29, rfl, by kernel_rfl, rfl, rfl, by decide +kernel⟩, by decide⟩
theorem is30 : IsFn Try.prog tb.own 30 c30 26 [(4, none)] := ⟨⟨a30, b30, Try.f30, _, Try.func30, rfl, by kernel_rfl, rfl, rfl, by decide +kernel⟩, by decide⟩
theorem is57 : IsFn Try.prog tb.own 57 c57 15 [(6, none)] := ⟨⟨a57, b57, Try.f57, _, Try.func57, rfl, by kernel_rfl, rfl, rfl, by decide +kernel⟩, by decide⟩
theorem is64 : IsFn Try.prog tb.own 64 c64 15 [(6, none)] := ⟨⟨a64, b64, Try.f64, _, Try.func64, rfl, by kernel_rfl, rfl, rfl, by decide +kernel⟩, by decide⟩
theorem is70 : IsFn Try.prog tb.own 70 c70 22 [(6, none)] := ⟨⟨a70, b70, Try.f70, _, Try.func70, rfl, by kernel_rfl, rfl, rfl, by decide +kernel⟩, by decide⟩
@[simp] theorem tb_ext (f : FuncId) : tb.ext f = none := rfl


theorem tbOk : TabOk Try.prog tb := by
  refine ⟨by kernel_rfl, fun f vc nt rs h => ?_, fun f F h => by simp [tb] at h⟩
  simp only [tb] at h
  split at h <;> first | (obtain ⟨rfl, rfl, rfl⟩ := by simpa using h
                          first | exact is7 | exact is27 | exact is28 | exact is29 | exact is30 | exact is57 | exact is64 | exact is70) | simp at h
attribute [local simp] argsOk callFn argsFr resV D.plain resFr vx steps stepO step1 quietV evq putV opV look binV intOp unV condV stepG isHeavy constV mergeV tidyO tidy tidyE tidyR refsOf leaves leavesL leafRoot inL finD resXs resX ownCells cellsV aggCells isCellV moveAll moveC asm outsD outD callV callVG evc putR borrows unasm backL borV borC borL pureV borLV
attribute [local simp] refD eraseL erase noSh noShL never rowV partsV partCells evm madeV bornV dropR cutR killE killV inR D.row D.rowAt D.setRow D.setAt rowOf loadV loadCs cellV fieldAddrV evs writeAll writeC updR badS badT
theorem strip_same (c : Bool) (x : V) : strip c (.guard c x) = x := by simp [strip]
theorem strip_and (c d : Bool) (x : V) : strip (c && d) (.guard c x) = x := by cases c <;> simp [strip]
theorem strip_val (c : Bool) (d : D) : strip c (.val d) = .val d := rfl
theorem strip_ref (c : Bool) (r : Nat) (p : List Nat) (o : Nat) : strip c (.ref r p o) = .ref r p o := rfl
theorem strip_win (c : Bool) (r : Nat) (p : List Nat) (o sz lo n : Nat) : strip c (.win r p o sz lo n) = .win r p o sz lo n := rfl
theorem strip_addr (c : Bool) (r : Nat) (p : List Nat) (o : Nat) : strip c (.addr r p o) = .addr r p o := rfl
theorem strip_agg (c : Bool) (l : List V) : strip c (.agg l) = .agg l := rfl
theorem strip_tup (c : Bool) (l : List V) : strip c (.tup l) = .tup l := rfl
theorem strip_fn (c : Bool) (f : FuncId) (l : List V) : strip c (.fn f l) = .fn f l := rfl
theorem strip_dead (c : Bool) : strip c .dead = .dead := rfl
attribute [local simp] strip_same strip_and strip_val strip_ref strip_win strip_addr strip_agg strip_tup strip_fn strip_dead
theorem u44 : Try.prog.underlying 44 = some (.slice 2) := by kernel_rfl
theorem t2 : aggT Try.prog 2 = some false := by kernel_rfl
theorem s2 : Try.prog.cellsOf 2 = 1 := by kernel_rfl
theorem z2 : zeroCs Try.prog 2 = some [.val (.int .i64 0)] := by kernel_rfl
theorem b2 : ((Try.prog.info? 2).map (·.bytes)).getD 0 = 8 := by kernel_rfl
attribute [local simp] u44 t2 s2 z2 indexAddrV inB lenV
theorem wrap_i64 {n : Int} (h : -9223372036854775808 ≤ n) (h' : n ≤ 9223372036854775807) : IntKind.i64.wrap n = n := by
  rw [IntKind.wrap_i64]; omega
def fr28 (xs ys : List Int) (k : Int) : Fr := ⟨[(0, .val (.sl false 1 xs.length (xs.map (.int .i64)))), (3, .ref 7 [] 0), (4, .val (.int .i64 k))], [(7, .agg [.sl true 1 ys.length (ys.map (.int .i64))])], 22⟩
theorem l28 (C : Cx) (xs : List Int) (hx : xs.length ≤ 1048576) : ∀ (m k : Nat) (ys : List Int), ys.length = xs.length → k + m = xs.length → ∃ env, vloop (vx Try.prog C l28_0) (fr28 xs ys k) =
    some (.exit 0, ⟨(0, .val (.sl false 1 xs.length (xs.map (.int .i64)))) :: (3, .ref 7 [] 0) :: env, [(7, .agg [.sl true 1 ys.length ((ys.take k ++ xs.drop k).map (.int .i64))])], 22⟩) := by
  intro m
  induction m with
  | zero =>
    intro k ys hy hk
    have hk' : k = xs.length := by omega
    subst hk'
    refine ⟨[(4, .val (.int .i64 xs.length)), (11, .val (.bool false))], ?_⟩
    rw [vloop_eq]
    rw [List.take_of_length_le (by omega)]
    simp [l28_0, fr28]
  | succ m ih =>
    intro k ys hy hk
    have hlt : k < xs.length := by omega
    have hlt' : k < ys.length := by omega
    have hw : IntKind.i64.wrap ((k : Int) + 1) = ((k + 1 : Nat) : Int) := by rw [wrap_i64 (by omega) (by omega)]; omega
    obtain ⟨env, h⟩ := ih (k + 1) (ys.set k xs[k]) (by simpa using hy) (by omega)
    refine ⟨env, ?_⟩
    have e : (ys.set k xs[k]).take (k + 1) ++ xs.drop (k + 1) = ys.take k ++ xs.drop k := by
      apply List.ext_getElem?
      intro j
      simp only [List.getElem?_append, List.getElem?_take, List.getElem?_drop, List.length_take, List.length_set, List.getElem?_set]
      grind
    rw [e] at h
    rw [List.length_set] at h
    rw [vloop_eq, ← h]
    simp [l28_0, fr28, hlt, hlt', hw]
theorem moveAll_rep (fr : Fr) (k : IntKind) (z : Int) : ∀ n, moveAll fr (List.replicate n (.val (.int k z))) [] = some (List.replicate n (.int k z), fr, [])
  | 0 => by simp
  | n + 1 => by
    have ih := moveAll_rep fr k z n
    rw [List.replicate_succ, moveAll]
    simp [killV_never, ih]
    simp [List.replicate_succ]
theorem f28 (n : Nat) (xs : List Int) (hx : xs.length ≤ 1048576) : lev Try.prog tb (n + 1) 28 [.sl false 1 xs.length (xs.map (.int .i64))] = some (.sl true 1 xs.length (xs.map (.int .i64)), [.sl false 1 xs.length (xs.map (.int .i64))]) := by
  obtain ⟨env, h⟩ := l28 ⟨tb.own, tb.pur, lev Try.prog tb n⟩ xs hx xs.length 0 (List.replicate xs.length 0) (by simp) (by omega)
  have hb : (8 : Int) * xs.length ≤ 281474976710656 := by omega
  have hc : (xs.length : Int) ≤ 9223372036854775807 := by omega
  simp [fr28] at h
  rw [lev]
  simp [c28, b2, hb, hc, h, moveAll_rep]
theorem f28n (n : Nat) : lev Try.prog tb (n + 1) 28 [.nil] = some (.sl true 1 0 [], [.nil]) := by
  rw [lev]
  simp [c28, b2]
  rw [vloop_eq]
  simp [l28_0]
def fr30 (xs ys : List Int) (k : Int) : Fr := ⟨[(0, .val (.sl false 1 xs.length (xs.map (.int .i64)))), (1, .val (.sl false 1 ys.length (ys.map (.int .i64)))), (5, .val (.int .i64 k))], [], 26⟩
theorem l30 (C : Cx) (xs ys : List Int) (hx : xs.length ≤ 1048576) (hl : ys.length = xs.length) : ∀ (m k : Nat), k + m = xs.length → ∃ env, vloop (vx Try.prog C l30_0) (fr30 xs ys k) =
    if xs.drop k = ys.drop k then some (.exit 0, ⟨env, [], 26⟩) else some (.ret, ⟨[(4, .val (.bool false))], [], 26⟩) := by
  intro m
  induction m with
  | zero =>
    intro k hk
    have hk' : k = xs.length := by omega
    subst hk'
    refine ⟨[(0, .val (.sl false 1 xs.length (xs.map (.int .i64)))), (1, .val (.sl false 1 ys.length (ys.map (.int .i64)))), (5, .val (.int .i64 xs.length)), (14, .val (.bool false))], ?_⟩
    rw [vloop_eq, if_pos (by rw [List.drop_length, ← hl, List.drop_length])]
    simp [l30_0, fr30]
  | succ m ih =>
    intro k hk
    have hlt : k < xs.length := by omega
    have hlt' : k < ys.length := by omega
    have hw : IntKind.i64.wrap ((k : Int) + 1) = ((k + 1 : Nat) : Int) := by rw [wrap_i64 (by omega) (by omega)]; omega
    obtain ⟨env, h⟩ := ih (k + 1) (by omega)
    refine ⟨env, ?_⟩
    rw [List.drop_eq_getElem_cons hlt, List.drop_eq_getElem_cons hlt']
    simp only [List.cons.injEq]
    by_cases h0 : xs[k] = ys[k]
    · simp only [h0, true_and]
      rw [vloop_eq, ← h]
      simp [l30_0, fr30, hlt, hlt', hw, h0]
    · rw [vloop_eq, if_neg (fun hh => h0 hh.1)]
      simp [l30_0, fr30, hlt, hlt', hw, h0]
theorem f30 (n : Nat) (xs ys : List Int) (hx : xs.length ≤ 1048576) : lev Try.prog tb (n + 1) 30 [.sl false 1 xs.length (xs.map (.int .i64)), .sl false 1 ys.length (ys.map (.int .i64))] =
    some (.bool (decide (xs = ys)), [.sl false 1 xs.length (xs.map (.int .i64)), .sl false 1 ys.length (ys.map (.int .i64))]) := by
  rw [lev]
  by_cases hl : ys.length = xs.length
  · obtain ⟨env, h⟩ := l30 ⟨tb.own, tb.pur, lev Try.prog tb n⟩ xs ys hx hl xs.length 0 (by omega)
    simp only [fr30, List.drop_zero] at h
    rw [show ((0 : Nat) : Int) = 0 from rfl] at h
    rw [hl] at h ⊢
    by_cases he : xs = ys
    · rw [if_pos he] at h
      subst he
      simp [c30, h]
    · rw [if_neg he] at h
      simp [c30, h, he]
  · have hne : xs ≠ ys := fun h => hl (by rw [h])
    have hl' : ¬ ((xs.length : Int) = (ys.length : Int)) := by omega
    simp [c30, hne, hl']
def inR3 (a b c : Int) : Bool := decide (b ≤ a) && decide (a ≤ c)
theorem f64 (n : Nat) (a b c : Int) : lev Try.prog tb (n + 1) 64 [.int .i64 a, .int .i64 b, .int .i64 c] = some (.bool (inR3 a b c), [.int .i64 a, .int .i64 b, .int .i64 c]) := by
  simp [lev, c64, inR3]
theorem f57 (n : Nat) (a b c : Int) : lev Try.prog tb (n + 1) 57 [.int .i64 a, .int .i64 b, .int .i64 c] = some (.bool (inR3 a b c), [.int .i64 a, .int .i64 b, .int .i64 c]) := by
  simp [lev, c57, inR3]
def ints (xs : List Int) : D := .sl false 1 xs.length (xs.map (.int .i64))
def fr70 (xs : List Int) (lo hi : Int) (k : Nat) (_ : Unit) : Fr := ⟨[(0, .val (.sl false 1 xs.length (xs.map (.int .i64)))), (1, .val (.int .i64 lo)), (2, .val (.int .i64 hi)), (7, .val (.int .i64 k))], [], 22⟩
def st70 (lo hi : Int) (_ : Unit) (x : Int) : Rd Unit := if inR3 x lo hi = true then .on () else .off (.ret, ⟨[(6, .val (.bool false))], [], 22⟩)
def fi70 (xs : List Int) (lo hi : Int) (_ : Unit) : Ex × Fr := (.exit 0, ⟨[(0, .val (.sl false 1 xs.length (xs.map (.int .i64)))), (1, .val (.int .i64 lo)), (2, .val (.int .i64 hi)), (7, .val (.int .i64 xs.length)), (11, .val (.bool false))], [], 22⟩)
theorem r70 (ys xs : List Int) (lo hi : Int) : runL (st70 lo hi) (fi70 ys lo hi) () xs = if xs.all (fun x => inR3 x lo hi) = true then fi70 ys lo hi () else (.ret, ⟨[(6, .val (.bool false))], [], 22⟩) := by
  induction xs with
  | nil => rfl
  | cons x l ih =>
    by_cases h : inR3 x lo hi = true
    · simp [runL, st70, h]; simpa [st70] using ih
    · simp [runL, st70, h]
theorem f70 (n : Nat) (xs : List Int) (hx : xs.length ≤ 1048576) (lo hi : Int) : lev Try.prog tb (n + 2) 70 [.sl false 1 xs.length (xs.map (.int .i64)), .int .i64 lo, .int .i64 hi] =
    some (.bool (xs.all fun x => inR3 x lo hi), [.sl false 1 xs.length (xs.map (.int .i64)), .int .i64 lo, .int .i64 hi]) := by
  have h := vloop_list (g := vx Try.prog ⟨tb.own, tb.pur, lev Try.prog tb (n + 1)⟩ l70_0) (fr70 xs lo hi) xs (st70 lo hi) (fi70 xs lo hi) (fun _ _ => True)
    (by
      intro k s hk _
      have hw : IntKind.i64.wrap ((k : Int) + 1) = ((k + 1 : Nat) : Int) := by rw [wrap_i64 (by omega) (by omega)]; omega
      by_cases h0 : inR3 xs[k] lo hi = true
      · refine ⟨fun s' hs => ⟨?_, trivial⟩, fun r hr => by simp [st70, h0] at hr⟩
        simp [l70_0, fr70, hk, hw, f57, h0]
      · refine ⟨fun s' hs => by simp [st70, h0] at hs, fun r hr => ?_⟩
        simp [st70, h0] at hr
        subst hr
        simp [l70_0, fr70, hk, hw, f57, h0])
    (by intro s _; simp [l70_0, fr70, fi70]) xs.length 0 () (by omega) trivial
  rw [List.drop_zero, r70] at h
  simp only [fr70] at h
  rw [show ((0 : Nat) : Int) = 0 from rfl] at h
  rw [lev]
  by_cases ha : xs.all (fun x => inR3 x lo hi) = true
  · rw [if_pos ha] at h
    rw [ha]
    simp [c70, h, fi70]
  · rw [if_neg ha] at h
    have ha' : (xs.all fun x => inR3 x lo hi) = false := by simpa using ha
    rw [ha']
    simp [c70, h]
def fr29 (f : Int) (xs : List Int) (k : Nat) (s : Int × Int) : Fr := ⟨[(0, .val (.int .i64 f)), (5, .val (.int .i64 s.1)), (6, .val (.int .i64 s.2)), (17, .val (.sl false 1 xs.length (xs.map (.int .i64)))), (18, .val (.int .i64 xs.length)), (19, .val (.int .i64 k))], [], 43⟩
def no29 : Ex × Fr := (.ret, ⟨[(4, .val (.bool false))], [], 43⟩)
def st29 (f : Int) (s : Int × Int) (x : Int) : Rd (Int × Int) :=
  if (!inR3 x 0 2 || (decide (s.1 = 0) && decide (x = 2))) = true then .off no29
  else if x = 2 then (if f ≤ s.2 + 1 then .off no29 else .on (x, s.2 + 1)) else (if f ≤ 0 then .off no29 else .on (x, 0))
def fi29 (f : Int) (xs : List Int) (s : Int × Int) : Ex × Fr := (.exit 0, ⟨[(0, .val (.int .i64 f)), (5, .val (.int .i64 s.1)), (6, .val (.int .i64 s.2)), (17, .val (.sl false 1 xs.length (xs.map (.int .i64)))), (18, .val (.int .i64 xs.length)), (19, .val (.int .i64 xs.length)), (20, .val (.bool false))], [], 43⟩)
theorem l29 (n : Nat) (f : Int) (xs : List Int) (hx : xs.length ≤ 1048576) : vloop (vx Try.prog ⟨tb.own, tb.pur, lev Try.prog tb (n + 1)⟩ l29_0) (fr29 f xs 0 (0, 0)) = some (runL (st29 f) (fi29 f xs) (0, 0) xs) := by
  have h := vloop_list (g := vx Try.prog ⟨tb.own, tb.pur, lev Try.prog tb (n + 1)⟩ l29_0) (fr29 f xs) xs (st29 f) (fi29 f xs) (fun k s => 0 ≤ s.2 ∧ s.2 ≤ (k : Int))
    (by
      intro k s hk hI
      obtain ⟨b, r⟩ := s
      simp only at hI
      have hw : IntKind.i64.wrap ((k : Int) + 1) = ((k + 1 : Nat) : Int) := by rw [wrap_i64 (by omega) (by omega)]; omega
      have hw2 : IntKind.i64.wrap (r + 1) = r + 1 := wrap_i64 (by omega) (by omega)
      by_cases h0 : inR3 xs[k] 0 2 = false ∨ b = 0 ∧ xs[k] = 2
      · exact rd_off (r0 := no29) (by simp [st29, h0]) ⟨by simp [l29_0, fr29, hk, hw, f64, h0, no29], by simp [no29]⟩
      · have h1 : inR3 xs[k] 0 2 = true := by
          cases hh : inR3 xs[k] 0 2 with
          | true => rfl
          | false => exact absurd (.inl hh) h0
        by_cases h2 : xs[k] = 2
        · have hb : ¬ b = 0 := fun hb => h0 (.inr ⟨hb, h2⟩)
          rw [h2] at h1
          by_cases h3 : f ≤ r + 1
          · exact rd_off (r0 := no29) (by simp [st29, h1, h2, h3, hb]) ⟨by simp [l29_0, fr29, hk, hw, hw2, f64, h1, h2, h3, hb, no29], by simp [no29]⟩
          · exact rd_on (s0 := (2, r + 1)) (by simp [st29, h1, h2, h3, hb]) ⟨by simp [l29_0, fr29, hk, hw, hw2, f64, h1, h2, h3, hb], by simp; omega⟩
        · by_cases h3 : f ≤ 0
          · exact rd_off (r0 := no29) (by simp [st29, h1, h2, h3]) ⟨by simp [l29_0, fr29, hk, hw, hw2, f64, h1, h2, h3, no29], by simp [no29]⟩
          · exact rd_on (s0 := (xs[k], 0)) (by simp [st29, h1, h2, h3]) ⟨by simp [l29_0, fr29, hk, hw, hw2, f64, h1, h2, h3], by simp; omega⟩)
    (by intro s _; simp [l29_0, fr29, fi29]) xs.length 0 (0, 0) (by omega) (by simp)
  rw [List.drop_zero] at h
  exact h
def ok29 (f : Int) : Int × Int → List Int → Bool
  | _, [] => true
  | s, x :: l => match st29 f s x with
    | .on s' => ok29 f s' l
    | .off _ => false
theorem st29_off {f : Int} {s : Int × Int} {x : Int} {r : Ex × Fr} (h : st29 f s x = .off r) : r = no29 := by
  unfold st29 at h
  split at h
  · cases h; rfl
  · split at h
    · split at h
      · cases h; rfl
      · cases h
    · split at h
      · cases h; rfl
      · cases h
theorem r29 (f : Int) (ys : List Int) : ∀ (l : List Int) (s : Int × Int), (ok29 f s l = true → ∃ s', runL (st29 f) (fi29 f ys) s l = fi29 f ys s') ∧ (ok29 f s l = false → runL (st29 f) (fi29 f ys) s l = no29)
  | [], s => ⟨fun _ => ⟨s, rfl⟩, fun h => by simp [ok29] at h⟩
  | x :: l, s => by
    simp only [ok29, runL]
    cases h : st29 f s x with
    | on s' => exact r29 f ys l s'
    | off r => exact ⟨fun h' => by simp at h', fun _ => st29_off h⟩
theorem f29 (n : Nat) (f : Int) (xs : List Int) (hx : xs.length ≤ 1048576) : lev Try.prog tb (n + 2) 29 [.int .i64 f, .sl false 1 xs.length (xs.map (.int .i64))] =
    some (.bool (inR3 f 1 50 && decide ((xs.length : Int) ≤ 40) && ok29 f (0, 0) xs), [.int .i64 f, .sl false 1 xs.length (xs.map (.int .i64))]) := by
  have h := l29 n f xs hx
  obtain ⟨r1, r2⟩ := r29 f xs xs (0, 0)
  simp only [fr29] at h
  rw [show ((0 : Nat) : Int) = 0 from rfl] at h
  rw [lev]
  by_cases ha : inR3 f 1 50 = true
  · by_cases hb : (xs.length : Int) ≤ 40
    · have hb' : ¬ 40 < (xs.length : Int) := by omega
      have hb2 : xs.length ≤ 40 := by omega
      have hb3 : ¬ 40 < xs.length := by omega
      cases hc : ok29 f (0, 0) xs with
      | true =>
        obtain ⟨s', hs'⟩ := r1 hc
        rw [hs'] at h
        simp [c29, f64, ha, hb, hb', hb2, hb3, h, fi29]
      | false =>
        rw [r2 hc] at h
        simp [c29, f64, ha, hb, hb', hb2, hb3, h, no29]
    · have hb' : 40 < (xs.length : Int) := by omega
      have hb3 : 40 < xs.length := by omega
      have hb2 : ¬ xs.length ≤ 40 := by omega
      simp [c29, f64, ha, hb, hb', hb2, hb3]
  · have ha' : inR3 f 1 50 = false := by simpa using ha
    simp [c29, f64, ha']
def fr27 (f : Int) (xs : List Int) (k : Nat) (s : Bool × Int) : Fr := ⟨[(0, .val (.int .i64 f)), (1, .val (.sl false 1 xs.length (xs.map (.int .i64)))), (5, .val (.bool s.1)), (6, .val (.int .i64 s.2)), (7, .val (.int .i64 k))], [], 44⟩
def no27 : Ex × Fr := (.ret, ⟨[(4, .val (.bool false))], [], 44⟩)
def st27 (f : Int) (s : Bool × Int) (x : Int) : Rd (Bool × Int) :=
  if x = 0 then .on (false, 0) else if x = 1 then .on (true, 0) else if (!s.1 || decide (f ≤ s.2 + 1)) = true then .off no27 else .on (s.1, s.2 + 1)
def fi27 (f : Int) (xs : List Int) (s : Bool × Int) : Ex × Fr := (.exit 0, ⟨[(0, .val (.int .i64 f)), (1, .val (.sl false 1 xs.length (xs.map (.int .i64)))), (5, .val (.bool s.1)), (6, .val (.int .i64 s.2)), (7, .val (.int .i64 xs.length)), (24, .val (.bool false))], [], 44⟩)
theorem l27 (n : Nat) (f : Int) (xs : List Int) (hx : xs.length ≤ 1048576) : vloop (vx Try.prog ⟨tb.own, tb.pur, lev Try.prog tb (n + 1)⟩ l27_0) (fr27 f xs 0 (false, 0)) = some (runL (st27 f) (fi27 f xs) (false, 0) xs) := by
  have h := vloop_list (g := vx Try.prog ⟨tb.own, tb.pur, lev Try.prog tb (n + 1)⟩ l27_0) (fr27 f xs) xs (st27 f) (fi27 f xs) (fun k s => 0 ≤ s.2 ∧ s.2 ≤ (k : Int))
    (by
      intro k s hk hI
      obtain ⟨b, r⟩ := s
      simp only at hI
      have hw : IntKind.i64.wrap ((k : Int) + 1) = ((k + 1 : Nat) : Int) := by rw [wrap_i64 (by omega) (by omega)]; omega
      have hw2 : IntKind.i64.wrap (r + 1) = r + 1 := wrap_i64 (by omega) (by omega)
      by_cases h0 : xs[k] = 0
      · exact rd_on (s0 := (false, 0)) (by simp [st27, h0]) ⟨by simp [l27_0, fr27, hk, hw, h0], by simp; omega⟩
      · by_cases h1 : xs[k] = 1
        · exact rd_on (s0 := (true, 0)) (by simp [st27, h1]) ⟨by simp [l27_0, fr27, hk, hw, h1], by simp; omega⟩
        · cases b with
          | false => exact rd_off (r0 := no27) (by simp [st27, h0, h1]) ⟨by simp [l27_0, fr27, hk, hw, hw2, h0, h1, no27], by simp [no27]⟩
          | true =>
            by_cases h3 : f ≤ r + 1
            · exact rd_off (r0 := no27) (by simp [st27, h0, h1, h3]) ⟨by simp [l27_0, fr27, hk, hw, hw2, h0, h1, h3, no27], by simp [no27]⟩
            · exact rd_on (s0 := (true, r + 1)) (by simp [st27, h0, h1, h3]) ⟨by simp [l27_0, fr27, hk, hw, hw2, h0, h1, h3], by simp; omega⟩)
    (by intro s _; simp [l27_0, fr27, fi27]) xs.length 0 (false, 0) (by omega) (by simp)
  rw [List.drop_zero] at h
  exact h
def ok27 (f : Int) : Bool × Int → List Int → Bool
  | _, [] => true
  | s, x :: l => match st27 f s x with
    | .on s' => ok27 f s' l
    | .off _ => false
theorem st27_off {f : Int} {s : Bool × Int} {x : Int} {r : Ex × Fr} (h : st27 f s x = .off r) : r = no27 := by
  unfold st27 at h
  split at h
  · cases h
  · split at h
    · cases h
    · split at h
      · cases h; rfl
      · cases h
theorem r27 (f : Int) (ys : List Int) : ∀ (l : List Int) (s : Bool × Int), (ok27 f s l = true → ∃ s', runL (st27 f) (fi27 f ys) s l = fi27 f ys s') ∧ (ok27 f s l = false → runL (st27 f) (fi27 f ys) s l = no27)
  | [], s => ⟨fun _ => ⟨s, rfl⟩, fun h => by simp [ok27] at h⟩
  | x :: l, s => by
    simp only [ok27, runL]
    cases h : st27 f s x with
    | on s' => exact r27 f ys l s'
    | off r => exact ⟨fun h' => by simp at h', fun _ => st27_off h⟩
/-- The law: both loops say the same. -/
theorem ok_same (f : Int) (hf : 1 ≤ f) : ∀ (l : List Int) (b r : Int) (fresh : Bool), 0 ≤ r → (fresh = true ↔ b ≠ 0) → (l.all fun x => inR3 x 0 2) = true → ok29 f (b, r) l = ok27 f (fresh, r) l
  | [], b, r, fresh, _, _, _ => rfl
  | x :: l, b, r, fresh, hr, hb, ha => by
    simp only [List.all_cons, Bool.and_eq_true] at ha
    have hx : 0 ≤ x ∧ x ≤ 2 := by have := ha.1; simp only [inR3, Bool.and_eq_true, decide_eq_true_eq] at this; omega
    have hx3 : x = 0 ∨ x = 1 ∨ x = 2 := by omega
    have hf0 : ¬ f ≤ 0 := by omega
    rcases hx3 with rfl | rfl | rfl
    · simp only [ok29, ok27, st29, st27, ha.1]
      simp [hf0]
      exact ok_same f hf l 0 0 false (by omega) (by simp) ha.2
    · simp only [ok29, ok27, st29, st27, ha.1]
      simp [hf0]
      exact ok_same f hf l 1 0 true (by omega) (by simp) ha.2
    · simp only [ok29, ok27, st29, st27, ha.1]
      by_cases hb0 : b = 0
      · have hfr : fresh = false := by cases fresh with | false => rfl | true => exact absurd hb0 (hb.1 rfl)
        simp [hb0, hfr]
      · have hfr : fresh = true := hb.2 hb0
        by_cases h3 : f ≤ r + 1
        · simp [hb0, hfr, h3]
        · simp [hb0, hfr, h3]
          exact ok_same f hf l 2 (r + 1) true (by omega) (by simp) ha.2
theorem ok29_out (f : Int) : ∀ (l : List Int) (s : Int × Int), (l.all fun x => inR3 x 0 2) = false → ok29 f s l = false
  | [], s, h => by simp at h
  | x :: l, s, h => by
    simp only [ok29]
    cases hs : st29 f s x with
    | off r => rfl
    | on s' =>
      simp only [List.all_cons, Bool.and_eq_false_iff] at h
      rcases h with h | h
      · exfalso
        simp [st29, h] at hs
      · exact ok29_out f l s' h
theorem f27 (n : Nat) (f : Int) (xs : List Int) (hx : xs.length ≤ 1048576) : lev Try.prog tb (n + 3) 27 [.int .i64 f, .sl false 1 xs.length (xs.map (.int .i64))] =
    some (.bool (inR3 f 1 50 && decide ((xs.length : Int) ≤ 40) && ok29 f (0, 0) xs), [.int .i64 f, .sl false 1 xs.length (xs.map (.int .i64))]) := by
  have h := l27 (n + 1) f xs hx
  obtain ⟨r1, r2⟩ := r27 f xs xs (false, 0)
  simp only [fr27] at h
  rw [show ((0 : Nat) : Int) = 0 from rfl] at h
  have h70 := fun m => f70 m xs hx 0 2
  rw [lev]
  by_cases ha : inR3 f 1 50 = true
  · by_cases hb : (xs.length : Int) ≤ 40
    · have hb' : ¬ 40 < (xs.length : Int) := by omega
      have hb2 : xs.length ≤ 40 := by omega
      have hb3 : ¬ 40 < xs.length := by omega
      cases hd : (xs.all fun x => inR3 x 0 2) with
      | true =>
        have hf : 1 ≤ f := by simp only [inR3, Bool.and_eq_true, decide_eq_true_eq] at ha; exact ha.1
        rw [ok_same f hf xs 0 0 false (by omega) (by simp) hd]
        simp only [hd] at h70
        cases hc : ok27 f (false, 0) xs with
        | true =>
          obtain ⟨s', hs'⟩ := r1 hc
          rw [hs'] at h
          simp [c27, f57, h70, ha, hb, hb', hb2, hb3, h, fi27]
        | false =>
          rw [r2 hc] at h
          simp [c27, f57, h70, ha, hb, hb', hb2, hb3, h, no27]
      | false =>
        rw [ok29_out f xs (0, 0) hd]
        simp only [hd] at h70
        simp [c27, f57, h70, ha, hb, hb', hb2, hb3]
    · have hb' : 40 < (xs.length : Int) := by omega
      have hb3 : 40 < xs.length := by omega
      have hb2 : ¬ xs.length ≤ 40 := by omega
      simp [c27, f57, h70, ha, hb, hb', hb2, hb3]
  · have ha' : inR3 f 1 50 = false := by simpa using ha
    simp [c27, f57, h70, ha']
theorem f7 (n : Nat) (f : Int) (xs : List Int) : lev Try.prog tb (n + 4) 7 [.int .i64 f, .sl false 1 xs.length (xs.map (.int .i64))] = some (.bool true, [.int .i64 f, .sl false 1 xs.length (xs.map (.int .i64))]) := by
  rw [lev]
  by_cases hx : xs.length ≤ 1048576
  · have hb' : ¬ 1048576 < (xs.length : Int) := by omega
    have hb3 : ¬ 1048576 < xs.length := by omega
    have h27 := fun m => f27 m f xs hx
    have h28 := fun m => f28 m xs hx
    have h29 := fun m => f29 m f xs hx
    have h30 := fun m => f30 m xs xs hx
    have e : eraseL (xs.map (.int .i64)) = xs.map (.int .i64) := by
      rw [eraseL_map, List.map_map]; rfl
    simp [c7, hb', hb3, h27, h28, h29, h30, e, hx]
  · have hb' : 1048576 < (xs.length : Int) := by omega
    have hb3 : 1048576 < xs.length := by omega
    simp [c7, hb', hb3]
theorem f7n (n : Nat) (f : Int) : lev Try.prog tb (n + 4) 7 [.int .i64 f, .nil] = some (.bool true, [.int .i64 f, .nil]) := by
  rw [lev]
  have h27 := fun m => f27 m f [] (by simp)
  have h29 := fun m => f29 m f [] (by simp)
  have h30 := fun m => f30 m [] [] (by simp)
  simp only [List.length_nil, List.map_nil] at h27 h29 h30
  simp [c7, h27, f28n, h29, h30]

end IsRefreshed
end Go.Proofs.Ytgnohnlpicmnaaa.Vm
