/- What the functions behind FnFades come to, on plain values: written by a program. -/
import Derived.Test.YtgnohnlpicmnaaaWmB
import Derived.Test.YtgnohnlpicmnaaaRows
set_option linter.unusedSimpArgs false
set_option linter.unusedVariables false
set_option maxRecDepth 100000
set_option maxHeartbeats 20000000
namespace Go.Proofs.Ytgnohnlpicmnaaa.Wm
open Go Go.Proofs
namespace FnFades
noncomputable section
structure Sl1Src where
  Code : List Int
  At : Int
def Sl1Src.cells (k : K) (s : Sl1Src) : List D := [.sh k 1 (rowE (eI .u8) s.Code), .int .i64 s.At]
attribute [go_sem] Sl1Src.cells
theorem Sl1Src.lentL (k : K) (x : Sl1Src) : lentL (Sl1Src.cells k x) = Sl1Src.cells .lent x := by simp only [Sl1Src.cells, lentL, lentD, cleanL, clean, cellL, isCell, go_sem]
@[go_sem] theorem Sl1Src.lentE (k : K) (xs : List Sl1Src) : lentE (rowE (Sl1Src.cells k) xs) = rowE (Sl1Src.cells .lent) xs := lentE_to (Sl1Src.lentL k)
@[go_sem] theorem Sl1Src.cleanE (xs : List Sl1Src) : cleanE (rowE (Sl1Src.cells .fresh) xs) = true := cleanE_row fun x => by simp only [Sl1Src.cells, lentL, lentD, cleanL, clean, cellL, isCell, go_sem]
@[go_sem] theorem Sl1Src.allCell (k : K) (xs : List Sl1Src) : allCell (rowE (Sl1Src.cells k) xs) = true := allCell_row fun x => by simp only [Sl1Src.cells, lentL, lentD, cleanL, clean, cellL, isCell, go_sem]
structure SIntResult where
  Code : Int
  Value : Int
def SIntResult.cells (k : K) (s : SIntResult) : List D := [.int .i64 s.Code, .int .i64 s.Value]
attribute [go_sem] SIntResult.cells
@[go_sem] theorem SIntResult.lentE (xs : List SIntResult) : lentE (rowE (SIntResult.cells .lent) xs) = rowE (SIntResult.cells .lent) xs := lentE_row fun _ => rfl
@[go_sem] theorem SIntResult.cleanE (xs : List SIntResult) : cleanE (rowE (SIntResult.cells .lent) xs) = true := cleanE_row fun _ => rfl
@[go_sem] theorem SIntResult.allCell (xs : List SIntResult) : allCell (rowE (SIntResult.cells .lent) xs) = true := allCell_row fun _ => rfl
def c24 : Vc := (.seq (.region [⟨some 2, .mov (.cst (.bool false)), none⟩] [] (some ⟨[], [0], [], []⟩)) (.seq (.region [⟨some 3, .mov (.tmp 0), none⟩, ⟨some 4, .len (.tmp 3), none⟩, ⟨some 5, .bin .gtr (.tmp 4) (.cst (.int .i64 1048576)), none⟩, ⟨some 2, .mov (.tmp 5), none⟩] [] (some ⟨[], [2], [], []⟩)) .ret))
def c67 : Vc := (.seq (.region [⟨some 2, .mov (.cst (.gone)), none⟩] [] (some ⟨[], [0], [], []⟩)) (.seq (.region [⟨some 3, .mov (.tmp 0), none⟩, ⟨some 4, .bld [.emp 1, .val (.int .i64 0)] [⟨0, none, (.tmp 3)⟩], none⟩, ⟨some 5, .box (some 2) (.tmp 4), none⟩, ⟨some 2, .mov (.tmp 5), none⟩] [] (some ⟨[], [2], [(6000, 200000020)], []⟩)) .ret))
def c97_u1 : Vc := (.cond (.tmp 50) (some ⟨[], [0, 1, 5, 6, 7], [], []⟩) (some ⟨[], [0, 1, 5, 6, 7], [], []⟩) (.region [⟨some 51, .mov (.tmp 7), none⟩, ⟨some 52, .bin .mul (.tmp 51) (.cst (.int .i64 251)), none⟩, ⟨some 53, .mov (.tmp 0), none⟩, ⟨some 54, .nchk (.tmp 53), none⟩, ⟨some 55, .fad 0 (.tmp 54), none⟩, ⟨some 56, .ld none (.tmp 55), none⟩, ⟨some 57, .mov (.tmp 5), none⟩, ⟨some 58, .bin .add (.tmp 57) (.cst (.int .i64 1)), none⟩, ⟨some 59, .mov (.tmp 6), none⟩, ⟨some 60, .bin .rem (.tmp 58) (.tmp 59), none⟩, ⟨some 61, .iad 1 (.tmp 56) (.tmp 60), none⟩, ⟨some 62, .ld none (.tmp 61), none⟩, ⟨some 63, .cvi .i64 (.tmp 62), none⟩, ⟨some 64, .bin .mul (.tmp 63) (.cst (.int .i64 13)), none⟩, ⟨some 65, .bin .add (.tmp 52) (.tmp 64), none⟩, ⟨some 66, .mov (.tmp 5), none⟩, ⟨some 67, .bin .add (.tmp 65) (.tmp 66), none⟩, ⟨some 7, .mov (.tmp 67), none⟩] [] (some ⟨[], [0, 1, 5, 6, 7], [], []⟩)) .skip)
def c97_u2 : Vc := (.cond (.tmp 69) (some ⟨[], [0, 1, 5, 6, 7], [], []⟩) (some ⟨[], [1, 7], [], []⟩) (.region [⟨some 70, .mov (.tmp 7), none⟩, ⟨some 71, .bin .mul (.tmp 70) (.cst (.int .i64 257)), none⟩, ⟨some 72, .mov (.tmp 0), none⟩, ⟨some 73, .nchk (.tmp 72), none⟩, ⟨some 74, .fad 0 (.tmp 73), none⟩, ⟨some 75, .ld none (.tmp 74), none⟩, ⟨some 76, .mov (.tmp 5), none⟩, ⟨some 77, .bin .add (.tmp 76) (.cst (.int .i64 2)), none⟩, ⟨some 78, .mov (.tmp 6), none⟩, ⟨some 79, .bin .rem (.tmp 77) (.tmp 78), none⟩, ⟨some 80, .iad 1 (.tmp 75) (.tmp 79), none⟩, ⟨some 81, .ld none (.tmp 80), none⟩, ⟨some 82, .cvi .i64 (.tmp 81), none⟩, ⟨some 83, .bin .add (.tmp 71) (.tmp 82), none⟩, ⟨some 7, .mov (.tmp 83), none⟩] [] (some ⟨[], [1, 7], [], []⟩)) .skip)
def c97 : Vc := (.seq (.region [⟨some 4, .mov (.cst (.int .i64 0)), none⟩] [] (some ⟨[], [0, 1], [], []⟩)) (.seq (.region [⟨some 8, .mov (.tmp 0), none⟩, ⟨some 9, .mov (.tmp 0), none⟩, ⟨some 10, .nchk (.tmp 9), none⟩, ⟨some 11, .fad 1 (.tmp 10), none⟩, ⟨some 12, .ld none (.tmp 11), none⟩, ⟨some 13, .bin .add (.tmp 12) (.cst (.int .i64 1)), none⟩, ⟨some 14, .nchk (.tmp 8), none⟩, ⟨some 15, .fad 1 (.tmp 14), none⟩, ⟨none, .st none (.tmp 15) (.tmp 13), none⟩] [] (some ⟨[], [0, 1], [], []⟩)) (.seq (.seq (.region [⟨some 16, .mov (.tmp 1), none⟩, ⟨some 17, .bin .lss (.tmp 16) (.cst (.int .i64 1)), none⟩] [] (some ⟨[], [0, 1, 17], [], []⟩)) (.cond (.tmp 17) (some ⟨[], [], [], []⟩) (some ⟨[], [0, 1], [], []⟩) (.seq (.region [⟨some 4, .mov (.cst (.int .i64 0)), none⟩] [] (some ⟨[], [4], [], []⟩)) .ret) .skip)) (.seq (.region [⟨some 18, .mov (.tmp 0), none⟩, ⟨some 19, .nchk (.tmp 18), none⟩, ⟨some 20, .fad 1 (.tmp 19), none⟩, ⟨some 21, .ld none (.tmp 20), none⟩, ⟨some 22, .bin .sub (.tmp 21) (.cst (.int .i64 1)), none⟩, ⟨some 5, .mov (.tmp 22), none⟩] [] (some ⟨[], [0, 1, 5], [], []⟩)) (.seq (.region [⟨some 23, .mov (.tmp 0), none⟩, ⟨some 24, .nchk (.tmp 23), none⟩, ⟨some 25, .fad 0 (.tmp 24), none⟩, ⟨some 26, .ld none (.tmp 25), none⟩, ⟨some 27, .len (.tmp 26), none⟩, ⟨some 6, .mov (.tmp 27), none⟩] [] (some ⟨[], [0, 1, 5, 6], [], []⟩)) (.seq (.seq (.region [⟨some 28, .mov (.tmp 6), none⟩, ⟨some 29, .bin .eql (.tmp 28) (.cst (.int .i64 0)), none⟩] [] (some ⟨[], [0, 1, 5, 6, 29], [], []⟩)) (.cond (.tmp 29) (some ⟨[], [1, 5], [], []⟩) (some ⟨[], [0, 1, 5, 6], [], []⟩) (.seq (.region [⟨some 30, .mov (.tmp 5), none⟩, ⟨some 31, .bin .mul (.tmp 30) (.cst (.int .i64 7)), none⟩, ⟨some 32, .mov (.tmp 1), none⟩, ⟨some 33, .bin .rem (.tmp 31) (.tmp 32), none⟩, ⟨some 4, .mov (.tmp 33), none⟩] [] (some ⟨[], [4], [], []⟩)) .ret) .skip)) (.seq (.region [⟨some 34, .mov (.tmp 0), none⟩, ⟨some 35, .nchk (.tmp 34), none⟩, ⟨some 36, .fad 0 (.tmp 35), none⟩, ⟨some 37, .ld none (.tmp 36), none⟩, ⟨some 38, .mov (.tmp 5), none⟩, ⟨some 39, .mov (.tmp 6), none⟩, ⟨some 40, .bin .rem (.tmp 38) (.tmp 39), none⟩, ⟨some 41, .iad 1 (.tmp 37) (.tmp 40), none⟩, ⟨some 42, .ld none (.tmp 41), none⟩, ⟨some 43, .cvi .i64 (.tmp 42), none⟩, ⟨some 44, .mov (.tmp 5), none⟩, ⟨some 45, .mov (.tmp 6), none⟩, ⟨some 46, .bin .quo (.tmp 44) (.tmp 45), none⟩, ⟨some 47, .bin .mul (.tmp 46) (.cst (.int .i64 37)), none⟩, ⟨some 48, .bin .add (.tmp 43) (.tmp 47), none⟩, ⟨some 7, .mov (.tmp 48), none⟩] [] (some ⟨[], [0, 1, 5, 6, 7], [], []⟩)) (.seq (.seq (.region [⟨some 49, .mov (.tmp 1), none⟩, ⟨some 50, .bin .gtr (.tmp 49) (.cst (.int .i64 200)), none⟩] [] (some ⟨[], [0, 1, 5, 6, 7, 50], [], []⟩)) c97_u1) (.seq (.seq (.region [⟨some 68, .mov (.tmp 1), none⟩, ⟨some 69, .bin .gtr (.tmp 68) (.cst (.int .i64 60000)), none⟩] [] (some ⟨[], [0, 1, 5, 6, 7, 69], [], []⟩)) c97_u2) (.seq (.region [⟨some 84, .mov (.tmp 7), none⟩, ⟨some 85, .mov (.tmp 1), none⟩, ⟨some 86, .bin .rem (.tmp 84) (.tmp 85), none⟩, ⟨some 4, .mov (.tmp 86), none⟩] [] (some ⟨[], [4], [], []⟩)) .ret))))))))))
def c98 : Vc := (.seq (.region [⟨some 4, .mov (.cst (.int .i64 0)), none⟩] [] (some ⟨[], [0, 1], [], []⟩)) (.seq (.region [⟨some 5, .mov (.tmp 0), none⟩, ⟨some 6, .mov (.tmp 1), none⟩, ⟨some 7, .bin .mul (.cst (.int .i64 2)) (.tmp 6), none⟩, ⟨some 8, .bin .add (.tmp 7) (.cst (.int .i64 1)), none⟩, ⟨some 9, .call (.cst (.fn 97 [])) [(.tmp 5), (.tmp 8)], none⟩, ⟨some 10, .mov (.tmp 1), none⟩, ⟨some 11, .bin .sub (.tmp 9) (.tmp 10), none⟩, ⟨some 4, .mov (.tmp 11), none⟩] [] (some ⟨[], [4], [], []⟩)) .ret))
def c68 : Vc := (.seq (.region [⟨some 4, .mov (.cst (.int .i64 0)), none⟩] [] (some ⟨[], [0, 1], [], []⟩)) (.seq (.region [⟨some 5, .mov (.tmp 1), none⟩, ⟨some 6, .mov (.tmp 0), none⟩, ⟨some 7, .mov (.tmp 1), none⟩, ⟨some 8, .len (.tmp 7), none⟩, ⟨some 9, .call (.cst (.fn 97 [])) [(.tmp 6), (.tmp 8)], none⟩, ⟨some 10, .iad 1 (.tmp 5) (.tmp 9), none⟩, ⟨some 11, .ld none (.tmp 10), none⟩, ⟨some 4, .mov (.tmp 11), none⟩] [] (some ⟨[], [4], [], []⟩)) .ret))
def c69 : Vc := (.seq (.region [⟨some 2, .mov (.cst (.int .i64 0)), none⟩] [] (some ⟨[], [0], [], []⟩)) (.seq (.region [⟨some 3, .mov (.tmp 0), none⟩, ⟨some 4, .mov (.tmp 0), none⟩, ⟨some 5, .call (.cst (.fn 98 [])) [(.tmp 4), (.cst (.int .i64 30))], none⟩, ⟨some 6, .mov (.tmp 0), none⟩, ⟨some 7, .call (.cst (.fn 98 [])) [(.tmp 6), (.cst (.int .i64 3000))], none⟩, ⟨some 8, .mov (.tmp 0), none⟩, ⟨some 9, .call (.cst (.fn 98 [])) [(.tmp 8), (.cst (.int .i64 200000))], none⟩, ⟨some 10, .bsl 1 [.int .i64 0] 8 [⟨0, none, (.cst (.int .i64 0))⟩, ⟨1, none, (.cst (.int .i64 1))⟩, ⟨2, none, (.cst (.int .i64 ((-1))))⟩, ⟨3, none, (.tmp 5)⟩, ⟨4, none, (.tmp 7)⟩, ⟨5, none, (.tmp 9)⟩, ⟨6, none, (.cst (.int .i64 16777216))⟩, ⟨7, none, (.cst (.int .i64 ((-16777216))))⟩], none⟩, ⟨some 11, .call (.cst (.fn 68 [])) [(.tmp 3), (.tmp 10)], none⟩, ⟨some 2, .mov (.tmp 11), none⟩] [] (some ⟨[], [2], [], []⟩)) .ret))
def c25 : Vc := (.seq (.region [⟨some 2, .mov (.cst (.int .i64 0)), none⟩, ⟨some 3, .mov (.cst (.int .i64 0)), none⟩] [] (some ⟨[], [0], [], []⟩)) (.seq (.region [⟨some 5, .mov (.tmp 0), none⟩, ⟨some 6, .call (.cst (.fn 67 [])) [(.tmp 5)], none⟩, ⟨some 4, .mov (.tmp 6), none⟩] [] (some ⟨[], [4], [(7000, 200000040)], []⟩)) (.seq (.region [⟨some 7, .mov (.tmp 4), none⟩, ⟨some 8, .mov (.tmp 4), none⟩, ⟨some 9, .call (.cst (.fn 69 [])) [(.tmp 8)], none⟩, ⟨some 10, .mov (.tmp 4), none⟩, ⟨some 11, .call (.cst (.fn 69 [])) [(.tmp 10)], none⟩, ⟨some 12, .bsl 1 [.int .i64 0] 5 [⟨0, none, (.tmp 9)⟩, ⟨1, none, (.tmp 11)⟩, ⟨2, none, (.cst (.int .i64 7))⟩, ⟨3, none, (.cst (.int .i64 ((-7))))⟩, ⟨4, none, (.cst (.int .i64 16777217))⟩], none⟩, ⟨some 13, .call (.cst (.fn 68 [])) [(.tmp 7), (.tmp 12)], none⟩, ⟨some 14, .mov (.tmp 4), none⟩, ⟨some 15, .bsl 1 [.int .i64 0] 8 [⟨0, none, (.cst (.int .i64 1))⟩, ⟨1, none, (.cst (.int .i64 2))⟩, ⟨2, none, (.cst (.int .i64 3))⟩, ⟨3, none, (.cst (.int .i64 4))⟩, ⟨4, none, (.cst (.int .i64 5))⟩, ⟨5, none, (.cst (.int .i64 100))⟩, ⟨6, none, (.cst (.int .i64 101))⟩, ⟨7, none, (.cst (.int .i64 0))⟩], none⟩, ⟨some 16, .call (.cst (.fn 68 [])) [(.tmp 14), (.tmp 15)], none⟩, ⟨some 2, .mov (.tmp 13), none⟩, ⟨some 3, .mov (.tmp 16), none⟩] [] (some ⟨[], [2, 3], [], []⟩)) .ret)))
def c64_u1 : Vc := (.region [⟨some 7, .mov (.tmp 1), none⟩, ⟨some 8, .mov (.tmp 0), none⟩, ⟨some 9, .bin .leq (.tmp 7) (.tmp 8), none⟩, ⟨some 10, .mov (.tmp 9), none⟩, ⟨some 11, .mov (.tmp 0), some (10, true)⟩, ⟨some 12, .mov (.tmp 2), some (10, true)⟩, ⟨some 13, .bin .leq (.tmp 11) (.tmp 12), some (10, true)⟩, ⟨some 14, .pick (.tmp 10) (.tmp 13) (.cst (.bool false)), none⟩, ⟨some 6, .mov (.tmp 14), none⟩] [] (some ⟨[], [6], [], []⟩))
def c64 : Vc := (.seq (.region [⟨some 6, .mov (.cst (.bool false)), none⟩] [] (some ⟨[], [0, 1, 2], [], []⟩)) (.seq c64_u1 .ret))
def c96 : Vc := (.seq (.region [⟨some 4, .mov (.cst (.bool false)), none⟩] [] (some ⟨[], [0, 1], [], []⟩)) (.seq (.region [⟨some 5, .mov (.tmp 0), none⟩, ⟨some 6, .mov (.tmp 1), none⟩, ⟨some 7, .un .neg (.tmp 6), none⟩, ⟨some 8, .mov (.tmp 1), none⟩, ⟨some 9, .call (.cst (.fn 64 [])) [(.tmp 5), (.tmp 7), (.tmp 8)], none⟩, ⟨some 4, .mov (.tmp 9), none⟩] [] (some ⟨[], [4], [], []⟩)) .ret))
def c63 : Vc := (.seq (.region [⟨some 2, .mov (.cst (.bool false)), none⟩] [] (some ⟨[], [0], [], []⟩)) (.seq (.region [⟨some 3, .mov (.tmp 0), none⟩, ⟨some 4, .call (.cst (.fn 96 [])) [(.tmp 3), (.cst (.int .i64 16777216))], none⟩, ⟨some 2, .mov (.tmp 4), none⟩] [] (some ⟨[], [2], [], []⟩)) .ret))
def c65 : Vc := (.seq (.region [⟨some 4, .mov (.cst (.int .i64 0)), none⟩] [] (some ⟨[], [0, 1], [], []⟩)) (.seq (.region [⟨some 5, .mov (.tmp 1), none⟩, ⟨some 6, .bin .sub (.cst (.int .i64 4)) (.tmp 5), none⟩, ⟨some 7, .mm true [(.cst (.int .i64 0)), (.tmp 6)], none⟩, ⟨some 8, .mov (.tmp 0), none⟩, ⟨some 9, .bin .mul (.tmp 7) (.tmp 8), none⟩, ⟨some 10, .bin .quo (.tmp 9) (.cst (.int .i64 4)), none⟩, ⟨some 4, .mov (.tmp 10), none⟩] [] (some ⟨[], [4], [], []⟩)) .ret))
def c19_u1 : Vc := (.region [⟨some 5, .mov (.tmp 0), none⟩, ⟨some 6, .call (.cst (.fn 63 [])) [(.tmp 5)], none⟩, ⟨some 7, .un .not (.tmp 6), none⟩, ⟨some 8, .mov (.tmp 7), none⟩, ⟨some 9, .mov (.tmp 1), some (8, false)⟩, ⟨some 10, .call (.cst (.fn 64 [])) [(.tmp 9), (.cst (.int .i64 1)), (.cst (.int .i64 100))], some (8, false)⟩, ⟨some 11, .un .not (.tmp 10), some (8, false)⟩, ⟨some 12, .pick (.tmp 8) (.cst (.bool true)) (.tmp 11), none⟩] [] (some ⟨[], [0, 1, 4, 12], [(200000040, 200000040)], []⟩))
def c19 : Vc := (.seq (.region [⟨some 4, .alc [.val (.int .i64 0), .val (.int .i64 0)], none⟩] [] (some ⟨[], [0, 1, 4], [(5000, 200000040)], []⟩)) (.seq (.seq c19_u1 (.cond (.tmp 12) (some ⟨[], [4], [(200000040, 200000040)], []⟩) (some ⟨[], [0, 1, 4], [(200000040, 200000040)], []⟩) (.seq (.region [⟨some 13, .bld [.val (.int .i64 0), .val (.int .i64 0)] [⟨0, none, (.cst (.int .i64 3))⟩], none⟩, ⟨none, .st (some 2) (.tmp 4) (.tmp 13), none⟩] [] (some ⟨[], [4], [(200000040, 200000040)], []⟩)) .ret) .skip)) (.seq (.region [⟨some 14, .mov (.tmp 0), none⟩, ⟨some 15, .mov (.tmp 1), none⟩, ⟨some 16, .call (.cst (.fn 65 [])) [(.tmp 14), (.tmp 15)], none⟩, ⟨some 17, .bld [.val (.int .i64 0), .val (.int .i64 0)] [⟨1, none, (.tmp 16)⟩], none⟩, ⟨none, .st (some 2) (.tmp 4) (.tmp 17), none⟩] [] (some ⟨[], [4], [(200000040, 200000040)], []⟩)) .ret)))
def c57_u1 : Vc := (.region [⟨some 7, .mov (.tmp 0), none⟩, ⟨some 8, .mov (.tmp 1), none⟩, ⟨some 9, .bin .geq (.tmp 7) (.tmp 8), none⟩, ⟨some 10, .mov (.tmp 9), none⟩, ⟨some 11, .mov (.tmp 0), some (10, true)⟩, ⟨some 12, .mov (.tmp 2), some (10, true)⟩, ⟨some 13, .bin .leq (.tmp 11) (.tmp 12), some (10, true)⟩, ⟨some 14, .pick (.tmp 10) (.tmp 13) (.cst (.bool false)), none⟩, ⟨some 6, .mov (.tmp 14), none⟩] [] (some ⟨[], [6], [], []⟩))
def c57 : Vc := (.seq (.region [⟨some 6, .mov (.cst (.bool false)), none⟩] [] (some ⟨[], [0, 1, 2], [], []⟩)) (.seq c57_u1 .ret))
def c61 : Vc := (.seq (.region [⟨some 2, .mov (.cst (.bool false)), none⟩] [] (some ⟨[], [0], [], []⟩)) (.seq (.region [⟨some 3, .mov (.tmp 0), none⟩, ⟨some 4, .call (.cst (.fn 57 [])) [(.tmp 3), (.cst (.int .i64 ((-16777216)))), (.cst (.int .i64 16777216))], none⟩, ⟨some 2, .mov (.tmp 4), none⟩] [] (some ⟨[], [2], [], []⟩)) .ret))
def c62 : Vc := (.seq (.region [⟨some 4, .mov (.cst (.int .i64 0)), none⟩] [] (some ⟨[], [0, 1], [], []⟩)) (.seq (.seq (.region [⟨some 5, .mov (.tmp 1), none⟩, ⟨some 6, .bin .geq (.tmp 5) (.cst (.int .i64 4)), none⟩] [] (some ⟨[], [0, 1, 6], [], []⟩)) (.cond (.tmp 6) (some ⟨[], [], [], []⟩) (some ⟨[], [0, 1], [], []⟩) (.seq (.region [⟨some 4, .mov (.cst (.int .i64 0)), none⟩] [] (some ⟨[], [4], [], []⟩)) .ret) .skip)) (.seq (.region [⟨some 7, .mov (.tmp 1), none⟩, ⟨some 8, .bin .sub (.cst (.int .i64 4)) (.tmp 7), none⟩, ⟨some 9, .mov (.tmp 0), none⟩, ⟨some 10, .bin .mul (.tmp 8) (.tmp 9), none⟩, ⟨some 11, .bin .quo (.tmp 10) (.cst (.int .i64 4)), none⟩, ⟨some 4, .mov (.tmp 11), none⟩] [] (some ⟨[], [4], [], []⟩)) .ret)))
def c18_u1 : Vc := (.region [⟨some 5, .mov (.tmp 0), none⟩, ⟨some 6, .call (.cst (.fn 61 [])) [(.tmp 5)], none⟩, ⟨some 7, .un .not (.tmp 6), none⟩, ⟨some 8, .mov (.tmp 7), none⟩, ⟨some 9, .mov (.tmp 1), some (8, false)⟩, ⟨some 10, .call (.cst (.fn 57 [])) [(.tmp 9), (.cst (.int .i64 1)), (.cst (.int .i64 100))], some (8, false)⟩, ⟨some 11, .un .not (.tmp 10), some (8, false)⟩, ⟨some 12, .pick (.tmp 8) (.cst (.bool true)) (.tmp 11), none⟩] [] (some ⟨[], [0, 1, 4, 12], [(200000040, 200000040)], []⟩))
def c18 : Vc := (.seq (.region [⟨some 4, .alc [.val (.int .i64 0), .val (.int .i64 0)], none⟩] [] (some ⟨[], [0, 1, 4], [(5000, 200000040)], []⟩)) (.seq (.seq c18_u1 (.cond (.tmp 12) (some ⟨[], [4], [(200000040, 200000040)], []⟩) (some ⟨[], [0, 1, 4], [(200000040, 200000040)], []⟩) (.seq (.region [⟨some 13, .bld [.val (.int .i64 0), .val (.int .i64 0)] [⟨0, none, (.cst (.int .i64 3))⟩], none⟩, ⟨none, .st (some 2) (.tmp 4) (.tmp 13), none⟩] [] (some ⟨[], [4], [(200000040, 200000040)], []⟩)) .ret) .skip)) (.seq (.region [⟨some 14, .mov (.tmp 0), none⟩, ⟨some 15, .mov (.tmp 1), none⟩, ⟨some 16, .call (.cst (.fn 62 [])) [(.tmp 14), (.tmp 15)], none⟩, ⟨some 17, .bld [.val (.int .i64 0), .val (.int .i64 0)] [⟨1, none, (.tmp 16)⟩], none⟩, ⟨none, .st (some 2) (.tmp 4) (.tmp 17), none⟩] [] (some ⟨[], [4], [(200000040, 200000040)], []⟩)) .ret)))
def c26 : Vc := (.seq (.region [⟨some 2, .mov (.cst (.int .i64 0)), none⟩] [] (some ⟨[], [0], [], []⟩)) (.seq (.seq (.region [⟨some 3, .mov (.tmp 0), none⟩, ⟨some 4, .bin .lss (.tmp 3) (.cst (.int .i64 0)), none⟩] [] (some ⟨[], [0, 4], [], []⟩)) (.cond (.tmp 4) (some ⟨[], [0], [], []⟩) (some ⟨[], [0], [], []⟩) (.seq (.region [⟨some 5, .mov (.tmp 0), none⟩, ⟨some 6, .un .neg (.tmp 5), none⟩, ⟨some 2, .mov (.tmp 6), none⟩] [] (some ⟨[], [2], [], []⟩)) .ret) .skip)) (.seq (.region [⟨some 7, .mov (.tmp 0), none⟩, ⟨some 2, .mov (.tmp 7), none⟩] [] (some ⟨[], [2], [], []⟩)) .ret)))
def c6_u1 : Vc := (.region [⟨some 24, .mov (.tmp 4), none⟩, ⟨some 25, .bin .gtr (.tmp 24) (.cst (.int .i64 1)), none⟩, ⟨some 26, .mov (.tmp 25), none⟩, ⟨some 27, .fad 1 (.tmp 5), some (26, true)⟩, ⟨some 28, .ld none (.tmp 27), some (26, true)⟩, ⟨some 29, .call (.cst (.fn 26 [])) [(.tmp 28)], some (26, true)⟩, ⟨some 30, .mov (.tmp 3), some (26, true)⟩, ⟨some 31, .mov (.tmp 4), some (26, true)⟩, ⟨some 32, .bin .sub (.tmp 31) (.cst (.int .i64 1)), some (26, true)⟩, ⟨some 33, .call (.cst (.fn 19 [])) [(.tmp 30), (.tmp 32)], some (26, true)⟩, ⟨some 34, .fld 1 none (.tmp 33), some (26, true)⟩, ⟨some 35, .call (.cst (.fn 26 [])) [(.tmp 34)], some (26, true)⟩, ⟨some 36, .bin .gtr (.tmp 29) (.tmp 35), some (26, true)⟩, ⟨some 37, .pick (.tmp 26) (.tmp 36) (.cst (.bool false)), none⟩, ⟨some 38, .mov (.tmp 37), none⟩, ⟨some 39, .mov (.tmp 4), some (38, false)⟩, ⟨some 40, .bin .geq (.tmp 39) (.cst (.int .i64 4)), some (38, false)⟩, ⟨some 41, .mov (.tmp 40), some (38, false)⟩, ⟨some 42, .fad 1 (.tmp 5), some (41, true)⟩, ⟨some 43, .ld none (.tmp 42), some (41, true)⟩, ⟨some 44, .bin .neq (.tmp 43) (.cst (.int .i64 0)), some (41, true)⟩, ⟨some 45, .pick (.tmp 41) (.tmp 44) (.cst (.bool false)), some (38, false)⟩, ⟨some 46, .pick (.tmp 38) (.cst (.bool true)) (.tmp 45), none⟩] [] (some ⟨[], [3, 4, 5, 46], [(200000050, 200000050)], []⟩))
def c6_u2 : Vc := (.region [⟨some 47, .fad 1 (.tmp 5), none⟩, ⟨some 48, .ld none (.tmp 47), none⟩, ⟨some 50, .mov (.tmp 3), none⟩, ⟨some 49, .call (.cst (.fn 26 [])) [(.tmp 48)], none⟩, ⟨some 51, .call (.cst (.fn 26 [])) [(.tmp 50)], none⟩, ⟨some 52, .bin .leq (.tmp 49) (.tmp 51), none⟩, ⟨some 53, .mov (.tmp 52), none⟩, ⟨some 54, .mov (.tmp 3), some (53, true)⟩, ⟨some 55, .un .neg (.tmp 54), some (53, true)⟩, ⟨some 56, .mov (.tmp 4), some (53, true)⟩, ⟨some 59, .fad 1 (.tmp 5), some (53, true)⟩, ⟨some 60, .ld none (.tmp 59), some (53, true)⟩, ⟨some 61, .un .neg (.tmp 60), some (53, true)⟩, ⟨some 57, .call (.cst (.fn 19 [])) [(.tmp 55), (.tmp 56)], some (53, true)⟩, ⟨some 58, .fld 1 none (.tmp 57), some (53, true)⟩, ⟨some 62, .bin .eql (.tmp 58) (.tmp 61), some (53, true)⟩, ⟨some 63, .pick (.tmp 53) (.tmp 62) (.cst (.bool false)), none⟩, ⟨some 2, .mov (.tmp 63), none⟩] [] (some ⟨[], [2], [], []⟩))
def c6 : Vc := (.seq (.region [⟨some 2, .mov (.cst (.bool false)), none⟩] [] (some ⟨[], [0], [], []⟩)) (.seq (.seq (.region [⟨some 6, .mov (.tmp 0), none⟩, ⟨some 7, .call (.cst (.fn 24 [])) [(.tmp 6)], none⟩] [] (some ⟨[], [0, 7], [], []⟩)) (.cond (.tmp 7) (some ⟨[], [], [], []⟩) (some ⟨[], [0], [], []⟩) (.seq (.region [⟨some 2, .mov (.cst (.bool true)), none⟩] [] (some ⟨[], [2], [], []⟩)) .ret) .skip)) (.seq (.region [⟨some 9, .mov (.tmp 0), none⟩, ⟨some 10, .call (.cst (.fn 25 [])) [(.tmp 9)], none⟩, ⟨some 8, .mov (.tmp 10), none⟩, ⟨some 11, .ext 0 (.tmp 8), none⟩, ⟨some 12, .ext 1 (.tmp 8), none⟩, ⟨some 3, .mov (.tmp 11), none⟩, ⟨some 4, .mov (.tmp 12), none⟩] [] (some ⟨[], [3, 4], [], []⟩)) (.seq (.region [⟨some 13, .mov (.tmp 3), none⟩, ⟨some 14, .mov (.tmp 4), none⟩, ⟨some 15, .call (.cst (.fn 19 [])) [(.tmp 13), (.tmp 14)], none⟩, ⟨some 5, .alc [.val (.int .i64 0), .val (.int .i64 0)], none⟩, ⟨none, .st (some 2) (.tmp 5) (.tmp 15), none⟩] [] (some ⟨[], [3, 4, 5], [(6000, 200000050)], []⟩)) (.seq (.seq (.region [⟨some 16, .ld (some 2) (.tmp 5), none⟩, ⟨some 17, .mov (.tmp 3), none⟩, ⟨some 18, .mov (.tmp 4), none⟩, ⟨some 19, .call (.cst (.fn 18 [])) [(.tmp 17), (.tmp 18)], none⟩, ⟨some 20, .bina .neq [.int, .int] (.tmp 16) (.tmp 19), none⟩] [] (some ⟨[], [3, 4, 5, 20], [(200000050, 200000050)], []⟩)) (.cond (.tmp 20) (some ⟨[], [], [], []⟩) (some ⟨[], [3, 4, 5], [(200000050, 200000050)], []⟩) (.seq (.region [⟨some 2, .mov (.cst (.bool false)), none⟩] [] (some ⟨[], [2], [], []⟩)) .ret) .skip)) (.seq (.seq (.region [⟨some 21, .fad 0 (.tmp 5), none⟩, ⟨some 22, .ld none (.tmp 21), none⟩, ⟨some 23, .bin .neq (.tmp 22) (.cst (.int .i64 0)), none⟩] [] (some ⟨[], [3, 4, 5, 23], [(200000050, 200000050)], []⟩)) (.cond (.tmp 23) (some ⟨[], [], [], []⟩) (some ⟨[], [3, 4, 5], [(200000050, 200000050)], []⟩) (.seq (.region [⟨some 2, .mov (.cst (.bool true)), none⟩] [] (some ⟨[], [2], [], []⟩)) .ret) .skip)) (.seq (.seq c6_u1 (.cond (.tmp 46) (some ⟨[], [], [], []⟩) (some ⟨[], [3, 4, 5], [(200000050, 200000050)], []⟩) (.seq (.region [⟨some 2, .mov (.cst (.bool false)), none⟩] [] (some ⟨[], [2], [], []⟩)) .ret) .skip)) (.seq c6_u2 .ret))))))))
def tabO : List (Nat × List Nat) := [(24, [0]), (67, [0]), (97, [1, 0]), (98, [1, 0]), (68, [1, 3]), (69, [1]), (25, [0]), (64, [0, 0, 0]), (96, [0, 0]), (63, [0]), (65, [0, 0]), (19, [0, 0]), (57, [0, 0, 0]), (61, [0]), (62, [0, 0]), (18, [0, 0]), (26, [0]), (6, [0])]
def tabL : List (Nat × Vc × Nat × List (Nat × Option (Option Nat))) := [(24, c24, 6, [(2, none)]), (67, c67, 6, [(2, none)]), (97, c97, 87, [(4, none)]), (98, c98, 12, [(4, none)]), (68, c68, 12, [(4, none)]), (69, c69, 12, [(2, none)]), (25, c25, 17, [(2, none), (3, none)]), (64, c64, 15, [(6, none)]), (96, c96, 10, [(4, none)]), (63, c63, 5, [(2, none)]), (65, c65, 11, [(4, none)]), (19, c19, 18, [(4, some (some 2))]), (57, c57, 15, [(6, none)]), (61, c61, 5, [(2, none)]), (62, c62, 12, [(4, none)]), (18, c18, 18, [(4, some (some 2))]), (26, c26, 8, [(2, none)]), (6, c6, 64, [(2, none)])]
def tab : Tab := ⟨fun f => (look f tabO).getD [], fun f => look f tabL, fun _ => none, fun _ => none⟩
@[go_sem] theorem own_24 : tab.own 24 = [0] := rfl
@[go_sem] theorem own_67 : tab.own 67 = [0] := rfl
@[go_sem] theorem own_97 : tab.own 97 = [1, 0] := rfl
@[go_sem] theorem own_98 : tab.own 98 = [1, 0] := rfl
@[go_sem] theorem own_68 : tab.own 68 = [1, 3] := rfl
@[go_sem] theorem own_69 : tab.own 69 = [1] := rfl
@[go_sem] theorem own_25 : tab.own 25 = [0] := rfl
@[go_sem] theorem own_64 : tab.own 64 = [0, 0, 0] := rfl
@[go_sem] theorem own_96 : tab.own 96 = [0, 0] := rfl
@[go_sem] theorem own_63 : tab.own 63 = [0] := rfl
@[go_sem] theorem own_65 : tab.own 65 = [0, 0] := rfl
@[go_sem] theorem own_19 : tab.own 19 = [0, 0] := rfl
@[go_sem] theorem own_57 : tab.own 57 = [0, 0, 0] := rfl
@[go_sem] theorem own_61 : tab.own 61 = [0] := rfl
@[go_sem] theorem own_62 : tab.own 62 = [0, 0] := rfl
@[go_sem] theorem own_18 : tab.own 18 = [0, 0] := rfl
@[go_sem] theorem own_26 : tab.own 26 = [0] := rfl
@[go_sem] theorem own_6 : tab.own 6 = [0] := rfl
theorem is24 : IsFn Try.prog tab.own 24 c24 6 [(2, none)] := ⟨⟨fun i => look i [(0, ⟨[], [0], [], []⟩), (1, ⟨[], [2], [], []⟩)], fun _ => none, fun _ => none, fun _ => .done, Try.f24, Try.f24.body.getD .skip, Try.func24, by kernel_rfl, by kernel_rfl, by kernel_rfl, by kernel_rfl, by kernel_rfl⟩, by decide⟩
theorem is67 : IsFn Try.prog tab.own 67 c67 6 [(2, none)] := ⟨⟨fun i => look i [(0, ⟨[], [0], [], []⟩), (1, ⟨[], [2], [(6000, 200000020)], []⟩)], fun _ => none, fun _ => none, fun _ => .done, Try.f67, Try.f67.body.getD .skip, Try.func67, by kernel_rfl, by kernel_rfl, by kernel_rfl, by kernel_rfl, by kernel_rfl⟩, by decide⟩
theorem is97 : IsFn Try.prog tab.own 97 c97 87 [(4, none)] := ⟨⟨fun i => look i [(0, ⟨[], [0, 1], [], []⟩), (1, ⟨[], [0, 1], [], []⟩), (2, ⟨[], [0, 1, 17], [], []⟩), (3, ⟨[], [4], [], []⟩), (4, ⟨[], [0, 1, 5], [], []⟩), (5, ⟨[], [0, 1, 5, 6], [], []⟩), (6, ⟨[], [0, 1, 5, 6, 29], [], []⟩), (7, ⟨[], [4], [], []⟩), (8, ⟨[], [0, 1, 5, 6, 7], [], []⟩), (9, ⟨[], [0, 1, 5, 6, 7, 50], [], []⟩), (10, ⟨[], [0, 1, 5, 6, 7], [], []⟩), (11, ⟨[], [0, 1, 5, 6, 7, 69], [], []⟩), (12, ⟨[], [1, 7], [], []⟩), (13, ⟨[], [4], [], []⟩)], fun i => look i [(17, ⟨[], [], [], []⟩), (29, ⟨[], [1, 5], [], []⟩), (50, ⟨[], [0, 1, 5, 6, 7], [], []⟩), (69, ⟨[], [0, 1, 5, 6, 7], [], []⟩)], fun i => look i [(17, ⟨[], [0, 1], [], []⟩), (29, ⟨[], [0, 1, 5, 6], [], []⟩), (50, ⟨[], [0, 1, 5, 6, 7], [], []⟩), (69, ⟨[], [1, 7], [], []⟩)], fun i => (look i [(8, (.take 0 (.take 1 (.take 2 (.take 3 (.take 4 (.take 5 (.take 6 (.take 7 (.take 8 (.take 9 (.take 10 (.take 11 (.take 12 (.take 13 (.take 14 (.take 15 .done))))))))))))))))), (10, (.take 0 (.take 1 (.take 2 (.take 3 (.take 4 (.take 5 (.take 6 (.take 7 (.take 8 (.take 9 (.take 10 (.take 11 (.take 12 (.take 13 (.take 14 (.take 15 (.take 16 (.take 17 .done))))))))))))))))))), (12, (.take 0 (.take 1 (.take 2 (.take 3 (.take 4 (.take 5 (.take 6 (.take 7 (.take 8 (.take 9 (.take 10 (.take 11 (.take 12 (.take 13 (.take 14 .done))))))))))))))))]).getD .done, Try.f97, Try.f97.body.getD .skip, Try.func97, by kernel_rfl, by kernel_rfl, by kernel_rfl, by kernel_rfl, by kernel_rfl⟩, by decide⟩
theorem is98 : IsFn Try.prog tab.own 98 c98 12 [(4, none)] := ⟨⟨fun i => look i [(0, ⟨[], [0, 1], [], []⟩), (1, ⟨[], [4], [], []⟩)], fun _ => none, fun _ => none, fun _ => .done, Try.f98, Try.f98.body.getD .skip, Try.func98, by kernel_rfl, by kernel_rfl, by kernel_rfl, by kernel_rfl, by kernel_rfl⟩, by decide⟩
theorem is68 : IsFn Try.prog tab.own 68 c68 12 [(4, none)] := ⟨⟨fun i => look i [(0, ⟨[], [0, 1], [], []⟩), (1, ⟨[], [4], [], []⟩)], fun _ => none, fun _ => none, fun _ => .done, Try.f68, Try.f68.body.getD .skip, Try.func68, by kernel_rfl, by kernel_rfl, by kernel_rfl, by kernel_rfl, by kernel_rfl⟩, by decide⟩
theorem is69 : IsFn Try.prog tab.own 69 c69 12 [(2, none)] := ⟨⟨fun i => look i [(0, ⟨[], [0], [], []⟩), (1, ⟨[], [2], [], []⟩)], fun _ => none, fun _ => none, fun _ => .done, Try.f69, Try.f69.body.getD .skip, Try.func69, by kernel_rfl, by kernel_rfl, by kernel_rfl, by kernel_rfl, by kernel_rfl⟩, by decide⟩
theorem is25 : IsFn Try.prog tab.own 25 c25 17 [(2, none), (3, none)] := ⟨⟨fun i => look i [(0, ⟨[], [0], [], []⟩), (1, ⟨[], [4], [(7000, 200000040)], []⟩), (2, ⟨[], [2, 3], [], []⟩)], fun _ => none, fun _ => none, fun _ => .done, Try.f25, Try.f25.body.getD .skip, Try.func25, by kernel_rfl, by kernel_rfl, by kernel_rfl, by kernel_rfl, by kernel_rfl⟩, by decide⟩
theorem is64 : IsFn Try.prog tab.own 64 c64 15 [(6, none)] := ⟨⟨fun i => look i [(0, ⟨[], [0, 1, 2], [], []⟩), (1, ⟨[], [6], [], []⟩)], fun _ => none, fun _ => none, fun _ => .done, Try.f64, Try.f64.body.getD .skip, Try.func64, by kernel_rfl, by kernel_rfl, by kernel_rfl, by kernel_rfl, by kernel_rfl⟩, by decide⟩
theorem is96 : IsFn Try.prog tab.own 96 c96 10 [(4, none)] := ⟨⟨fun i => look i [(0, ⟨[], [0, 1], [], []⟩), (1, ⟨[], [4], [], []⟩)], fun _ => none, fun _ => none, fun _ => .done, Try.f96, Try.f96.body.getD .skip, Try.func96, by kernel_rfl, by kernel_rfl, by kernel_rfl, by kernel_rfl, by kernel_rfl⟩, by decide⟩
theorem is63 : IsFn Try.prog tab.own 63 c63 5 [(2, none)] := ⟨⟨fun i => look i [(0, ⟨[], [0], [], []⟩), (1, ⟨[], [2], [], []⟩)], fun _ => none, fun _ => none, fun _ => .done, Try.f63, Try.f63.body.getD .skip, Try.func63, by kernel_rfl, by kernel_rfl, by kernel_rfl, by kernel_rfl, by kernel_rfl⟩, by decide⟩
theorem is65 : IsFn Try.prog tab.own 65 c65 11 [(4, none)] := ⟨⟨fun i => look i [(0, ⟨[], [0, 1], [], []⟩), (1, ⟨[], [4], [], []⟩)], fun _ => none, fun _ => none, fun _ => .done, Try.f65, Try.f65.body.getD .skip, Try.func65, by kernel_rfl, by kernel_rfl, by kernel_rfl, by kernel_rfl, by kernel_rfl⟩, by decide⟩
theorem is19 : IsFn Try.prog tab.own 19 c19 18 [(4, some (some 2))] := ⟨⟨fun i => look i [(0, ⟨[], [0, 1, 4], [(5000, 200000040)], []⟩), (1, ⟨[], [0, 1, 4, 12], [(200000040, 200000040)], []⟩), (2, ⟨[], [4], [(200000040, 200000040)], []⟩), (3, ⟨[], [4], [(200000040, 200000040)], []⟩)], fun i => look i [(12, ⟨[], [4], [(200000040, 200000040)], []⟩)], fun i => look i [(12, ⟨[], [0, 1, 4], [(200000040, 200000040)], []⟩)], fun _ => .done, Try.f19, Try.f19.body.getD .skip, Try.func19, by kernel_rfl, by kernel_rfl, by kernel_rfl, by kernel_rfl, by kernel_rfl⟩, by decide⟩
theorem is57 : IsFn Try.prog tab.own 57 c57 15 [(6, none)] := ⟨⟨fun i => look i [(0, ⟨[], [0, 1, 2], [], []⟩), (1, ⟨[], [6], [], []⟩)], fun _ => none, fun _ => none, fun _ => .done, Try.f57, Try.f57.body.getD .skip, Try.func57, by kernel_rfl, by kernel_rfl, by kernel_rfl, by kernel_rfl, by kernel_rfl⟩, by decide⟩
theorem is61 : IsFn Try.prog tab.own 61 c61 5 [(2, none)] := ⟨⟨fun i => look i [(0, ⟨[], [0], [], []⟩), (1, ⟨[], [2], [], []⟩)], fun _ => none, fun _ => none, fun _ => .done, Try.f61, Try.f61.body.getD .skip, Try.func61, by kernel_rfl, by kernel_rfl, by kernel_rfl, by kernel_rfl, by kernel_rfl⟩, by decide⟩
theorem is62 : IsFn Try.prog tab.own 62 c62 12 [(4, none)] := ⟨⟨fun i => look i [(0, ⟨[], [0, 1], [], []⟩), (1, ⟨[], [0, 1, 6], [], []⟩), (2, ⟨[], [4], [], []⟩), (3, ⟨[], [4], [], []⟩)], fun i => look i [(6, ⟨[], [], [], []⟩)], fun i => look i [(6, ⟨[], [0, 1], [], []⟩)], fun _ => .done, Try.f62, Try.f62.body.getD .skip, Try.func62, by kernel_rfl, by kernel_rfl, by kernel_rfl, by kernel_rfl, by kernel_rfl⟩, by decide⟩
theorem is18 : IsFn Try.prog tab.own 18 c18 18 [(4, some (some 2))] := ⟨⟨fun i => look i [(0, ⟨[], [0, 1, 4], [(5000, 200000040)], []⟩), (1, ⟨[], [0, 1, 4, 12], [(200000040, 200000040)], []⟩), (2, ⟨[], [4], [(200000040, 200000040)], []⟩), (3, ⟨[], [4], [(200000040, 200000040)], []⟩)], fun i => look i [(12, ⟨[], [4], [(200000040, 200000040)], []⟩)], fun i => look i [(12, ⟨[], [0, 1, 4], [(200000040, 200000040)], []⟩)], fun _ => .done, Try.f18, Try.f18.body.getD .skip, Try.func18, by kernel_rfl, by kernel_rfl, by kernel_rfl, by kernel_rfl, by kernel_rfl⟩, by decide⟩
theorem is26 : IsFn Try.prog tab.own 26 c26 8 [(2, none)] := ⟨⟨fun i => look i [(0, ⟨[], [0], [], []⟩), (1, ⟨[], [0, 4], [], []⟩), (2, ⟨[], [2], [], []⟩), (3, ⟨[], [2], [], []⟩)], fun i => look i [(4, ⟨[], [0], [], []⟩)], fun i => look i [(4, ⟨[], [0], [], []⟩)], fun _ => .done, Try.f26, Try.f26.body.getD .skip, Try.func26, by kernel_rfl, by kernel_rfl, by kernel_rfl, by kernel_rfl, by kernel_rfl⟩, by decide⟩
theorem is6 : IsFn Try.prog tab.own 6 c6 64 [(2, none)] := ⟨⟨fun i => look i [(0, ⟨[], [0], [], []⟩), (1, ⟨[], [0, 7], [], []⟩), (2, ⟨[], [2], [], []⟩), (3, ⟨[], [3, 4], [], []⟩), (4, ⟨[], [3, 4, 5], [(6000, 200000050)], []⟩), (5, ⟨[], [3, 4, 5, 20], [(200000050, 200000050)], []⟩), (7, ⟨[], [3, 4, 5, 23], [(200000050, 200000050)], []⟩), (8, ⟨[], [2], [], []⟩), (9, ⟨[], [3, 4, 5, 46], [(200000050, 200000050)], []⟩), (10, ⟨[], [2], [], []⟩), (11, ⟨[], [2], [], []⟩), (6, ⟨[], [2], [], []⟩)], fun i => look i [(7, ⟨[], [], [], []⟩), (23, ⟨[], [], [], []⟩), (46, ⟨[], [], [], []⟩), (20, ⟨[], [], [], []⟩)], fun i => look i [(7, ⟨[], [0], [], []⟩), (20, ⟨[], [3, 4, 5], [(200000050, 200000050)], []⟩), (23, ⟨[], [3, 4, 5], [(200000050, 200000050)], []⟩), (46, ⟨[], [3, 4, 5], [(200000050, 200000050)], []⟩)], fun i => (look i [(5, (.take 0 (.take 1 (.take 2 (.take 3 (.take 4 .done)))))), (11, (.take 0 (.take 1 (.take 3 (.take 2 (.take 4 (.take 5 (.take 6 (.take 7 (.take 8 (.take 9 (.take 12 (.take 13 (.take 14 (.take 10 (.take 11 (.take 15 (.take 16 (.take 17 .done)))))))))))))))))))]).getD .done, Try.f6, Try.f6.body.getD .skip, Try.func6, by kernel_rfl, by kernel_rfl, by kernel_rfl, by kernel_rfl, by kernel_rfl⟩, by decide⟩
theorem tabOk : TabOk Try.prog tab := tabOk_of (l := tabL) (by kernel_rfl) ⟨is24, is67, is97, is98, is68, is69, is25, is64, is96, is63, is65, is19, is57, is61, is62, is18, is26, is6, trivial⟩
attribute [local congr] ite_cong2 run_cg runR_cg plug_cg contV_cg contH_cg contT_cg contF_cg guardR_cg condX_cg evcA_cg evcB_cg evcC_cg evcE_cg evcH_cg levA_cg
-- laws.lwBig
def laws_lwBig (p0 : List Int) : Bool :=
  (decide ((p0.length : Int) > 1048576))
@[go_sem] theorem laws_lwBig_ok (n : Nat) (q0_0 : List Int) : lev tab (n + 1) 24 [.sh .lent 1 (rowE (eI .u8) q0_0)] = (some (laws_lwBig q0_0)).map fun r => (.bool r, [.gone]) := by
  rw [lev_st (vc := c24) (nt := 6) (rs := [(2, none)]) rfl rfl (Nat.le_of_ble_eq_true rfl)]
  unfold c24
  simp +contextual -implicitDefEqProofs (maxSteps := 100000000) only [laws_lwBig, go_sem, ↓ite_not', Nat.reduceEqDiff, Nat.reduceLT, Nat.reduceLeDiff, ↓reduceIte, Nat.reduceAdd, Nat.reduceMul, Nat.reduceSub, Int.reduceEq, Int.reduceLT, Int.reduceLE, Int.reduceToNat, Int.cast_ofNat_Int, Nat.reduceBEq]
-- spec.l1Source
def spec_l1Source (p0 : List Int) : Sl1Src :=
  (Sl1Src.mk p0 0)
@[go_sem] theorem spec_l1Source_ok (n : Nat) (q0_0 : List Int) : lev tab (n + 1) 67 [.sh .lent 1 (rowE (eI .u8) q0_0)] = (some (spec_l1Source q0_0)).map fun r => (.op 0 [.sh .lent 1 (rowE (eI .u8) r.Code), .int .i64 r.At], [.gone]) := by
  rw [lev_st (vc := c67) (nt := 6) (rs := [(2, none)]) rfl rfl (Nat.le_of_ble_eq_true rfl)]
  unfold c67
  simp +contextual -implicitDefEqProofs (maxSteps := 100000000) only [spec_l1Source, go_sem, ↓ite_not', Nat.reduceEqDiff, Nat.reduceLT, Nat.reduceLeDiff, ↓reduceIte, Nat.reduceAdd, Nat.reduceMul, Nat.reduceSub, Int.reduceEq, Int.reduceLT, Int.reduceLE, Int.reduceToNat, Int.cast_ofNat_Int, Nat.reduceBEq]
-- spec.l1Next
def spec_l1Next_u1 (a2 : List Int) (a3 : Int) (a4 : Int) (a5 : Int) (a6 : Int) (a7 : Int) (a8 : Bool) : Option (Int) :=
  if a8 = true then if a6 = 0 then none
    else (getI a2 (((IntKind.i64.wrap (a5 + 1))).tmod a6)).bind fun x9 =>
      some ((IntKind.i64.wrap ((IntKind.i64.wrap ((IntKind.i64.wrap (a7 * 251)) + (IntKind.i64.wrap ((IntKind.i64.wrap x9) * 13)))) + a5)))
  else some a7
def spec_l1Next_u2 (a11 : List Int) (a12 : Int) (a13 : Int) (a14 : Int) (a15 : Int) (a16 : Int) (a17 : Bool) : Option (Int) :=
  if a17 = true then if a15 = 0 then none
    else (getI a11 (((IntKind.i64.wrap (a14 + 2))).tmod a15)).bind fun x18 =>
      some ((IntKind.i64.wrap ((IntKind.i64.wrap (a16 * 257)) + (IntKind.i64.wrap x18))))
  else some a16
def spec_l1Next (p0 : Sl1Src) (p1 : Int) : Option (Int × Sl1Src) :=
  if (decide (p1 < 1)) = true then some ((0, (Sl1Src.mk p0.Code ((IntKind.i64.wrap (p0.At + 1))))))
  else if ((p0.Code.length : Int) == 0) = true then if p1 = 0 then none
      else some (((((IntKind.i64.wrap ((IntKind.i64.wrap ((IntKind.i64.wrap (p0.At + 1)) - 1)) * 7))).tmod p1), (Sl1Src.mk p0.Code ((IntKind.i64.wrap (p0.At + 1))))))
    else if (p0.Code.length : Int) = 0 then none
      else (getI p0.Code (((IntKind.i64.wrap ((IntKind.i64.wrap (p0.At + 1)) - 1))).tmod ((p0.Code.length : Int)))).bind fun x1 =>
        if (p0.Code.length : Int) = 0 then none
        else (spec_l1Next_u1 p0.Code ((IntKind.i64.wrap (p0.At + 1))) p1 ((IntKind.i64.wrap ((IntKind.i64.wrap (p0.At + 1)) - 1))) ((p0.Code.length : Int)) ((IntKind.i64.wrap ((IntKind.i64.wrap x1) + (IntKind.i64.wrap ((IntKind.i64.wrap (((IntKind.i64.wrap ((IntKind.i64.wrap (p0.At + 1)) - 1))).tdiv ((p0.Code.length : Int)))) * 37))))) ((decide (p1 > 200)))).bind fun y10 =>
          (spec_l1Next_u2 p0.Code (((IntKind.i64.wrap (p0.At + 1)))) p1 (((IntKind.i64.wrap ((IntKind.i64.wrap (p0.At + 1)) - 1)))) (((p0.Code.length : Int))) y10 ((decide (p1 > 60000)))).bind fun y19 =>
          if p1 = 0 then none
          else some (((y19.tmod p1), (Sl1Src.mk p0.Code ((((IntKind.i64.wrap (p0.At + 1))))))))
@[go_sem] theorem spec_l1Next_u1_ok {β : Type} (n : Nat) (K : List (Kont β)) (a2 : List Int) (a3 : Int) (a4 : Int) (a5 : Int) (a6 : Int) (a7 : Int) (a8 : Bool) : run ⟨tab.own, lev tab n, tab.gl⟩ K c97_u1 ⟨[(0, .pt 1000000000 0), (1, .val (.int .i64 a4)), (5, .val (.int .i64 a5)), (6, .val (.int .i64 a6)), (7, .val (.int .i64 a7)), (50, .val (.bool a8))], [(1000000000, .var true [.val (.sh .lent 1 (rowE (eI .u8) a2)), .val (.int .i64 a3)])], 87⟩ = (spec_l1Next_u1 a2 a3 a4 a5 a6 a7 a8).bind (fun t => plug ⟨tab.own, lev tab n, tab.gl⟩ K .normal ⟨[(0, .pt 1000000000 0), (1, .val (.int .i64 a4)), (5, .val (.int .i64 a5)), (6, .val (.int .i64 a6)), (7, .val (.int .i64 t))], [(1000000000, .var true [.val (.sh .lent 1 (rowE (eI .u8) a2)), .val (.int .i64 a3)])], 87⟩) := by
  unfold c97_u1
  simp +contextual -implicitDefEqProofs (maxSteps := 100000000) only [spec_l1Next_u1, go_sem, ↓ite_not', Nat.reduceEqDiff, Nat.reduceLT, Nat.reduceLeDiff, ↓reduceIte, Nat.reduceAdd, Nat.reduceMul, Nat.reduceSub, Int.reduceEq, Int.reduceLT, Int.reduceLE, Int.reduceToNat, Int.cast_ofNat_Int, Nat.reduceBEq]
@[go_sem] theorem spec_l1Next_u2_ok {β : Type} (n : Nat) (K : List (Kont β)) (a11 : List Int) (a12 : Int) (a13 : Int) (a14 : Int) (a15 : Int) (a16 : Int) (a17 : Bool) : run ⟨tab.own, lev tab n, tab.gl⟩ K c97_u2 ⟨[(0, .pt 1000000000 0), (1, .val (.int .i64 a13)), (5, .val (.int .i64 a14)), (6, .val (.int .i64 a15)), (7, .val (.int .i64 a16)), (69, .val (.bool a17))], [(1000000000, .var true [.val (.sh .lent 1 (rowE (eI .u8) a11)), .val (.int .i64 a12)])], 87⟩ = (spec_l1Next_u2 a11 a12 a13 a14 a15 a16 a17).bind (fun t => plug ⟨tab.own, lev tab n, tab.gl⟩ K .normal ⟨[(1, .val (.int .i64 a13)), (7, .val (.int .i64 t))], [(1000000000, .var true [.val (.sh .lent 1 (rowE (eI .u8) a11)), .val (.int .i64 a12)])], 87⟩) := by
  unfold c97_u2
  simp +contextual -implicitDefEqProofs (maxSteps := 100000000) only [spec_l1Next_u2, go_sem, ↓ite_not', Nat.reduceEqDiff, Nat.reduceLT, Nat.reduceLeDiff, ↓reduceIte, Nat.reduceAdd, Nat.reduceMul, Nat.reduceSub, Int.reduceEq, Int.reduceLT, Int.reduceLE, Int.reduceToNat, Int.cast_ofNat_Int, Nat.reduceBEq]
@[go_sem] theorem spec_l1Next_ok (n : Nat) (q0_0 : List Int) (q0_1 : Int) (q1_0 : Int) : lev tab (n + 1) 97 [.op 0 [.sh .lent 1 (rowE (eI .u8) q0_0), .int .i64 q0_1], .int .i64 q1_0] = (spec_l1Next (Sl1Src.mk q0_0 q0_1) q1_0).map fun r => (.int .i64 r.1, [.op 0 [.sh .lent 1 (rowE (eI .u8) r.2.Code), .int .i64 r.2.At], .gone]) := by
  rw [lev_st (vc := c97) (nt := 87) (rs := [(4, none)]) rfl rfl (Nat.le_of_ble_eq_true rfl)]
  unfold c97
  simp +contextual -implicitDefEqProofs (maxSteps := 100000000) only [spec_l1Next, go_sem, ↓ite_not', Nat.reduceEqDiff, Nat.reduceLT, Nat.reduceLeDiff, ↓reduceIte, Nat.reduceAdd, Nat.reduceMul, Nat.reduceSub, Int.reduceEq, Int.reduceLT, Int.reduceLE, Int.reduceToNat, Int.cast_ofNat_Int, Nat.reduceBEq]
-- spec.l1Signed
def spec_l1Signed (p0 : Sl1Src) (p1 : Int) : Option (Int × Sl1Src) :=
  (spec_l1Next p0 ((IntKind.i64.wrap ((IntKind.i64.wrap (2 * p1)) + 1)))).bind fun r1 =>
  some (((IntKind.i64.wrap (r1.1 - p1)), r1.2))
@[go_sem] theorem spec_l1Signed_ok (n : Nat) (q0_0 : List Int) (q0_1 : Int) (q1_0 : Int) : lev tab (n + 2) 98 [.op 0 [.sh .lent 1 (rowE (eI .u8) q0_0), .int .i64 q0_1], .int .i64 q1_0] = (spec_l1Signed (Sl1Src.mk q0_0 q0_1) q1_0).map fun r => (.int .i64 r.1, [.op 0 [.sh .lent 1 (rowE (eI .u8) r.2.Code), .int .i64 r.2.At], .gone]) := by
  rw [lev_st (vc := c98) (nt := 12) (rs := [(4, none)]) rfl rfl (Nat.le_of_ble_eq_true rfl)]
  unfold c98
  simp +contextual -implicitDefEqProofs (maxSteps := 100000000) only [spec_l1Signed, go_sem, ↓ite_not', Nat.reduceEqDiff, Nat.reduceLT, Nat.reduceLeDiff, ↓reduceIte, Nat.reduceAdd, Nat.reduceMul, Nat.reduceSub, Int.reduceEq, Int.reduceLT, Int.reduceLE, Int.reduceToNat, Int.cast_ofNat_Int, Nat.reduceBEq]
-- spec.l1Pick
def spec_l1Pick (p0 : Sl1Src) (p1 : List Int) : Option (Int × Sl1Src) :=
  (spec_l1Next p0 ((p1.length : Int))).bind fun r1 =>
  (getI p1 r1.1).bind fun x2 =>
  some ((x2, r1.2))
@[go_sem] theorem spec_l1Pick_ok (n : Nat) (q0_0 : List Int) (q0_1 : Int) (q1_0 : List Int) : lev tab (n + 2) 68 [.op 0 [.sh .lent 1 (rowE (eI .u8) q0_0), .int .i64 q0_1], .sh .lent 1 (rowE (eI .i64) q1_0)] = (spec_l1Pick (Sl1Src.mk q0_0 q0_1) q1_0).map fun r => (.int .i64 r.1, [.op 0 [.sh .lent 1 (rowE (eI .u8) r.2.Code), .int .i64 r.2.At], .gone]) := by
  rw [lev_st (vc := c68) (nt := 12) (rs := [(4, none)]) rfl rfl (Nat.le_of_ble_eq_true rfl)]
  unfold c68
  simp +contextual -implicitDefEqProofs (maxSteps := 100000000) only [spec_l1Pick, go_sem, ↓ite_not', Nat.reduceEqDiff, Nat.reduceLT, Nat.reduceLeDiff, ↓reduceIte, Nat.reduceAdd, Nat.reduceMul, Nat.reduceSub, Int.reduceEq, Int.reduceLT, Int.reduceLE, Int.reduceToNat, Int.cast_ofNat_Int, Nat.reduceBEq]
-- spec.l9DrawCoef
def spec_l9DrawCoef (p0 : Sl1Src) : Option (Int × Sl1Src) :=
  (spec_l1Signed p0 30).bind fun r1 =>
  (spec_l1Signed r1.2 3000).bind fun r2 =>
  (spec_l1Signed r2.2 200000).bind fun r3 =>
  (spec_l1Pick r3.2 ([0, 1, (-1), r1.1, r2.1, r3.1, 16777216, (-16777216)])).bind fun r4 =>
  some ((r4.1, r4.2))
@[go_sem] theorem spec_l9DrawCoef_ok (n : Nat) (q0_0 : List Int) (q0_1 : Int) : lev tab (n + 3) 69 [.op 0 [.sh .lent 1 (rowE (eI .u8) q0_0), .int .i64 q0_1]] = (spec_l9DrawCoef (Sl1Src.mk q0_0 q0_1)).map fun r => (.int .i64 r.1, [.op 0 [.sh .lent 1 (rowE (eI .u8) r.2.Code), .int .i64 r.2.At]]) := by
  rw [lev_st (vc := c69) (nt := 12) (rs := [(2, none)]) rfl rfl (Nat.le_of_ble_eq_true rfl)]
  unfold c69
  simp +contextual -implicitDefEqProofs (maxSteps := 100000000) only [spec_l9DrawCoef, go_sem, ↓ite_not', Nat.reduceEqDiff, Nat.reduceLT, Nat.reduceLeDiff, ↓reduceIte, Nat.reduceAdd, Nat.reduceMul, Nat.reduceSub, Int.reduceEq, Int.reduceLT, Int.reduceLE, Int.reduceToNat, Int.cast_ofNat_Int, Nat.reduceBEq]
-- spec.DrawFadeOf
def spec_DrawFadeOf (p0 : List Int) : Option (Int × Int) :=
  (spec_l9DrawCoef (((spec_l1Source p0)))).bind fun r1 =>
  (spec_l9DrawCoef r1.2).bind fun r2 =>
  (spec_l1Pick r2.2 ([r1.1, r2.1, 7, (-7), 16777217])).bind fun r3 =>
  (spec_l1Pick r3.2 ([1, 2, 3, 4, 5, 100, 101, 0])).bind fun r4 =>
  some ((r3.1, r4.1))
@[go_sem] theorem spec_DrawFadeOf_ok (n : Nat) (q0_0 : List Int) : lev tab (n + 4) 25 [.sh .lent 1 (rowE (eI .u8) q0_0)] = (spec_DrawFadeOf q0_0).map fun r => (.tup [.int .i64 r.1, .int .i64 r.2], [.gone]) := by
  rw [lev_st (vc := c25) (nt := 17) (rs := [(2, none), (3, none)]) rfl rfl (Nat.le_of_ble_eq_true rfl)]
  unfold c25
  simp +contextual -implicitDefEqProofs (maxSteps := 100000000) only [spec_DrawFadeOf, go_sem, ↓ite_not', Nat.reduceEqDiff, Nat.reduceLT, Nat.reduceLeDiff, ↓reduceIte, Nat.reduceAdd, Nat.reduceMul, Nat.reduceSub, Int.reduceEq, Int.reduceLT, Int.reduceLE, Int.reduceToNat, Int.cast_ofNat_Int, Nat.reduceBEq]
-- impl.inRange
def impl_inRange_u1 (a1 : Int) (a2 : Int) (a3 : Int) : Bool :=
  if (decide (a2 ≤ a1)) = true then (decide (a1 ≤ a3))
  else false
def impl_inRange (p0 : Int) (p1 : Int) (p2 : Int) : Bool :=
  let y4 := impl_inRange_u1 p0 p1 p2
  y4
@[go_sem] theorem impl_inRange_u1_ok {β : Type} (n : Nat) (K : List (Kont β)) (a1 : Int) (a2 : Int) (a3 : Int) : run ⟨tab.own, lev tab n, tab.gl⟩ K c64_u1 ⟨[(0, .val (.int .i64 a1)), (1, .val (.int .i64 a2)), (2, .val (.int .i64 a3))], [], 15⟩ = (some (impl_inRange_u1 a1 a2 a3)).bind (fun t => plug ⟨tab.own, lev tab n, tab.gl⟩ K .normal ⟨[(6, .val (.bool t))], [], 15⟩) := by
  unfold c64_u1
  simp +contextual -implicitDefEqProofs (maxSteps := 100000000) only [impl_inRange_u1, go_sem, ↓ite_not', Nat.reduceEqDiff, Nat.reduceLT, Nat.reduceLeDiff, ↓reduceIte, Nat.reduceAdd, Nat.reduceMul, Nat.reduceSub, Int.reduceEq, Int.reduceLT, Int.reduceLE, Int.reduceToNat, Int.cast_ofNat_Int, Nat.reduceBEq]
@[go_sem] theorem impl_inRange_ok (n : Nat) (q0_0 : Int) (q1_0 : Int) (q2_0 : Int) : lev tab (n + 1) 64 [.int .i64 q0_0, .int .i64 q1_0, .int .i64 q2_0] = (some (impl_inRange q0_0 q1_0 q2_0)).map fun r => (.bool r, [.gone, .gone, .gone]) := by
  rw [lev_st (vc := c64) (nt := 15) (rs := [(6, none)]) rfl rfl (Nat.le_of_ble_eq_true rfl)]
  unfold c64
  simp +contextual -implicitDefEqProofs (maxSteps := 100000000) only [impl_inRange, go_sem, ↓ite_not', Nat.reduceEqDiff, Nat.reduceLT, Nat.reduceLeDiff, ↓reduceIte, Nat.reduceAdd, Nat.reduceMul, Nat.reduceSub, Int.reduceEq, Int.reduceLT, Int.reduceLE, Int.reduceToNat, Int.cast_ofNat_Int, Nat.reduceBEq]
-- impl.within
def impl_within (p0 : Int) (p1 : Int) : Bool :=
  (impl_inRange p0 ((IntKind.i64.wrap (0 - p1))) p1)
@[go_sem] theorem impl_within_ok (n : Nat) (q0_0 : Int) (q1_0 : Int) : lev tab (n + 2) 96 [.int .i64 q0_0, .int .i64 q1_0] = (some (impl_within q0_0 q1_0)).map fun r => (.bool r, [.gone, .gone]) := by
  rw [lev_st (vc := c96) (nt := 10) (rs := [(4, none)]) rfl rfl (Nat.le_of_ble_eq_true rfl)]
  unfold c96
  simp +contextual -implicitDefEqProofs (maxSteps := 100000000) only [impl_within, go_sem, ↓ite_not', Nat.reduceEqDiff, Nat.reduceLT, Nat.reduceLeDiff, ↓reduceIte, Nat.reduceAdd, Nat.reduceMul, Nat.reduceSub, Int.reduceEq, Int.reduceLT, Int.reduceLE, Int.reduceToNat, Int.cast_ofNat_Int, Nat.reduceBEq]
-- impl.isCoef
def impl_isCoef (p0 : Int) : Bool :=
  (impl_within p0 16777216)
@[go_sem] theorem impl_isCoef_ok (n : Nat) (q0_0 : Int) : lev tab (n + 3) 63 [.int .i64 q0_0] = (some (impl_isCoef q0_0)).map fun r => (.bool r, [.gone]) := by
  rw [lev_st (vc := c63) (nt := 5) (rs := [(2, none)]) rfl rfl (Nat.le_of_ble_eq_true rfl)]
  unfold c63
  simp +contextual -implicitDefEqProofs (maxSteps := 100000000) only [impl_isCoef, go_sem, ↓ite_not', Nat.reduceEqDiff, Nat.reduceLT, Nat.reduceLeDiff, ↓reduceIte, Nat.reduceAdd, Nat.reduceMul, Nat.reduceSub, Int.reduceEq, Int.reduceLT, Int.reduceLE, Int.reduceToNat, Int.cast_ofNat_Int, Nat.reduceBEq]
-- impl.fadeOf
def impl_fadeOf (p0 : Int) (p1 : Int) : Int :=
  (IntKind.i64.wrap (((IntKind.i64.wrap ((if 0 < (IntKind.i64.wrap (4 - p1)) then (IntKind.i64.wrap (4 - p1)) else 0) * p0))).tdiv 4))
@[go_sem] theorem impl_fadeOf_ok (n : Nat) (q0_0 : Int) (q1_0 : Int) : lev tab (n + 1) 65 [.int .i64 q0_0, .int .i64 q1_0] = (some (impl_fadeOf q0_0 q1_0)).map fun r => (.int .i64 r, [.gone, .gone]) := by
  rw [lev_st (vc := c65) (nt := 11) (rs := [(4, none)]) rfl rfl (Nat.le_of_ble_eq_true rfl)]
  unfold c65
  simp +contextual -implicitDefEqProofs (maxSteps := 100000000) only [impl_fadeOf, go_sem, ↓ite_not', Nat.reduceEqDiff, Nat.reduceLT, Nat.reduceLeDiff, ↓reduceIte, Nat.reduceAdd, Nat.reduceMul, Nat.reduceSub, Int.reduceEq, Int.reduceLT, Int.reduceLE, Int.reduceToNat, Int.cast_ofNat_Int, Nat.reduceBEq]
-- impl.FadeOf
def impl_FadeOf_u1 (a1 : Int) (a2 : Int) : Bool :=
  if (impl_isCoef a1) = true then (!(impl_inRange a2 1 100))
  else true
def impl_FadeOf (p0 : Int) (p1 : Int) : SIntResult :=
  let y3 := impl_FadeOf_u1 p0 p1
  if y3 = true then (SIntResult.mk 3 0)
  else (SIntResult.mk 0 ((impl_fadeOf p0 p1)))
@[go_sem] theorem impl_FadeOf_u1_ok {β : Type} (n : Nat) (K : List (Kont β)) (a1 : Int) (a2 : Int) : run ⟨tab.own, lev tab (n + 3), tab.gl⟩ K c19_u1 ⟨[(0, .val (.int .i64 a1)), (1, .val (.int .i64 a2)), (4, .pt 200000040 0)], [(200000040, .var false [.val (.int .i64 0), .val (.int .i64 0)])], 18⟩ = (some (impl_FadeOf_u1 a1 a2)).bind (fun t => plug ⟨tab.own, lev tab (n + 3), tab.gl⟩ K .normal ⟨[(0, .val (.int .i64 a1)), (1, .val (.int .i64 a2)), (4, .pt 200000040 0), (12, .val (.bool t))], [(200000040, .var false [.val (.int .i64 0), .val (.int .i64 0)])], 18⟩) := by
  unfold c19_u1
  simp +contextual -implicitDefEqProofs (maxSteps := 100000000) only [impl_FadeOf_u1, go_sem, ↓ite_not', Nat.reduceEqDiff, Nat.reduceLT, Nat.reduceLeDiff, ↓reduceIte, Nat.reduceAdd, Nat.reduceMul, Nat.reduceSub, Int.reduceEq, Int.reduceLT, Int.reduceLE, Int.reduceToNat, Int.cast_ofNat_Int, Nat.reduceBEq]
@[go_sem] theorem impl_FadeOf_ok (n : Nat) (q0_0 : Int) (q1_0 : Int) : lev tab (n + 4) 19 [.int .i64 q0_0, .int .i64 q1_0] = (some (impl_FadeOf q0_0 q1_0)).map fun r => (.agg [.int .i64 r.Code, .int .i64 r.Value], [.gone, .gone]) := by
  rw [lev_st (vc := c19) (nt := 18) (rs := [(4, some (some 2))]) rfl rfl (Nat.le_of_ble_eq_true rfl)]
  unfold c19
  simp +contextual -implicitDefEqProofs (maxSteps := 100000000) only [impl_FadeOf, go_sem, ↓ite_not', Nat.reduceEqDiff, Nat.reduceLT, Nat.reduceLeDiff, ↓reduceIte, Nat.reduceAdd, Nat.reduceMul, Nat.reduceSub, Int.reduceEq, Int.reduceLT, Int.reduceLE, Int.reduceToNat, Int.cast_ofNat_Int, Nat.reduceBEq]
-- spec.l1In
def spec_l1In_u1 (a1 : Int) (a2 : Int) (a3 : Int) : Bool :=
  if (decide (a1 ≥ a2)) = true then (decide (a1 ≤ a3))
  else false
def spec_l1In (p0 : Int) (p1 : Int) (p2 : Int) : Bool :=
  let y4 := spec_l1In_u1 p0 p1 p2
  y4
@[go_sem] theorem spec_l1In_u1_ok {β : Type} (n : Nat) (K : List (Kont β)) (a1 : Int) (a2 : Int) (a3 : Int) : run ⟨tab.own, lev tab n, tab.gl⟩ K c57_u1 ⟨[(0, .val (.int .i64 a1)), (1, .val (.int .i64 a2)), (2, .val (.int .i64 a3))], [], 15⟩ = (some (spec_l1In_u1 a1 a2 a3)).bind (fun t => plug ⟨tab.own, lev tab n, tab.gl⟩ K .normal ⟨[(6, .val (.bool t))], [], 15⟩) := by
  unfold c57_u1
  simp +contextual -implicitDefEqProofs (maxSteps := 100000000) only [spec_l1In_u1, go_sem, ↓ite_not', Nat.reduceEqDiff, Nat.reduceLT, Nat.reduceLeDiff, ↓reduceIte, Nat.reduceAdd, Nat.reduceMul, Nat.reduceSub, Int.reduceEq, Int.reduceLT, Int.reduceLE, Int.reduceToNat, Int.cast_ofNat_Int, Nat.reduceBEq]
@[go_sem] theorem spec_l1In_ok (n : Nat) (q0_0 : Int) (q1_0 : Int) (q2_0 : Int) : lev tab (n + 1) 57 [.int .i64 q0_0, .int .i64 q1_0, .int .i64 q2_0] = (some (spec_l1In q0_0 q1_0 q2_0)).map fun r => (.bool r, [.gone, .gone, .gone]) := by
  rw [lev_st (vc := c57) (nt := 15) (rs := [(6, none)]) rfl rfl (Nat.le_of_ble_eq_true rfl)]
  unfold c57
  simp +contextual -implicitDefEqProofs (maxSteps := 100000000) only [spec_l1In, go_sem, ↓ite_not', Nat.reduceEqDiff, Nat.reduceLT, Nat.reduceLeDiff, ↓reduceIte, Nat.reduceAdd, Nat.reduceMul, Nat.reduceSub, Int.reduceEq, Int.reduceLT, Int.reduceLE, Int.reduceToNat, Int.cast_ofNat_Int, Nat.reduceBEq]
-- spec.l9Coef
def spec_l9Coef (p0 : Int) : Bool :=
  (spec_l1In p0 ((-16777216)) 16777216)
@[go_sem] theorem spec_l9Coef_ok (n : Nat) (q0_0 : Int) : lev tab (n + 2) 61 [.int .i64 q0_0] = (some (spec_l9Coef q0_0)).map fun r => (.bool r, [.gone]) := by
  rw [lev_st (vc := c61) (nt := 5) (rs := [(2, none)]) rfl rfl (Nat.le_of_ble_eq_true rfl)]
  unfold c61
  simp +contextual -implicitDefEqProofs (maxSteps := 100000000) only [spec_l9Coef, go_sem, ↓ite_not', Nat.reduceEqDiff, Nat.reduceLT, Nat.reduceLeDiff, ↓reduceIte, Nat.reduceAdd, Nat.reduceMul, Nat.reduceSub, Int.reduceEq, Int.reduceLT, Int.reduceLE, Int.reduceToNat, Int.cast_ofNat_Int, Nat.reduceBEq]
-- spec.l18Fade
def spec_l18Fade (p0 : Int) (p1 : Int) : Int :=
  if (decide (p1 ≥ 4)) = true then 0
  else (IntKind.i64.wrap (((IntKind.i64.wrap ((IntKind.i64.wrap (4 - p1)) * p0))).tdiv 4))
@[go_sem] theorem spec_l18Fade_ok (n : Nat) (q0_0 : Int) (q1_0 : Int) : lev tab (n + 1) 62 [.int .i64 q0_0, .int .i64 q1_0] = (some (spec_l18Fade q0_0 q1_0)).map fun r => (.int .i64 r, [.gone, .gone]) := by
  rw [lev_st (vc := c62) (nt := 12) (rs := [(4, none)]) rfl rfl (Nat.le_of_ble_eq_true rfl)]
  unfold c62
  simp +contextual -implicitDefEqProofs (maxSteps := 100000000) only [spec_l18Fade, go_sem, ↓ite_not', Nat.reduceEqDiff, Nat.reduceLT, Nat.reduceLeDiff, ↓reduceIte, Nat.reduceAdd, Nat.reduceMul, Nat.reduceSub, Int.reduceEq, Int.reduceLT, Int.reduceLE, Int.reduceToNat, Int.cast_ofNat_Int, Nat.reduceBEq]
-- spec.FadeOf
def spec_FadeOf_u1 (a1 : Int) (a2 : Int) : Bool :=
  if (spec_l9Coef a1) = true then (!(spec_l1In a2 1 100))
  else true
def spec_FadeOf (p0 : Int) (p1 : Int) : SIntResult :=
  let y3 := spec_FadeOf_u1 p0 p1
  if y3 = true then (SIntResult.mk 3 0)
  else (SIntResult.mk 0 ((spec_l18Fade p0 p1)))
@[go_sem] theorem spec_FadeOf_u1_ok {β : Type} (n : Nat) (K : List (Kont β)) (a1 : Int) (a2 : Int) : run ⟨tab.own, lev tab (n + 2), tab.gl⟩ K c18_u1 ⟨[(0, .val (.int .i64 a1)), (1, .val (.int .i64 a2)), (4, .pt 200000040 0)], [(200000040, .var false [.val (.int .i64 0), .val (.int .i64 0)])], 18⟩ = (some (spec_FadeOf_u1 a1 a2)).bind (fun t => plug ⟨tab.own, lev tab (n + 2), tab.gl⟩ K .normal ⟨[(0, .val (.int .i64 a1)), (1, .val (.int .i64 a2)), (4, .pt 200000040 0), (12, .val (.bool t))], [(200000040, .var false [.val (.int .i64 0), .val (.int .i64 0)])], 18⟩) := by
  unfold c18_u1
  simp +contextual -implicitDefEqProofs (maxSteps := 100000000) only [spec_FadeOf_u1, go_sem, ↓ite_not', Nat.reduceEqDiff, Nat.reduceLT, Nat.reduceLeDiff, ↓reduceIte, Nat.reduceAdd, Nat.reduceMul, Nat.reduceSub, Int.reduceEq, Int.reduceLT, Int.reduceLE, Int.reduceToNat, Int.cast_ofNat_Int, Nat.reduceBEq]
@[go_sem] theorem spec_FadeOf_ok (n : Nat) (q0_0 : Int) (q1_0 : Int) : lev tab (n + 3) 18 [.int .i64 q0_0, .int .i64 q1_0] = (some (spec_FadeOf q0_0 q1_0)).map fun r => (.agg [.int .i64 r.Code, .int .i64 r.Value], [.gone, .gone]) := by
  rw [lev_st (vc := c18) (nt := 18) (rs := [(4, some (some 2))]) rfl rfl (Nat.le_of_ble_eq_true rfl)]
  unfold c18
  simp +contextual -implicitDefEqProofs (maxSteps := 100000000) only [spec_FadeOf, go_sem, ↓ite_not', Nat.reduceEqDiff, Nat.reduceLT, Nat.reduceLeDiff, ↓reduceIte, Nat.reduceAdd, Nat.reduceMul, Nat.reduceSub, Int.reduceEq, Int.reduceLT, Int.reduceLE, Int.reduceToNat, Int.cast_ofNat_Int, Nat.reduceBEq]
-- laws.lwAbs
def laws_lwAbs (p0 : Int) : Int :=
  if (decide (p0 < 0)) = true then (IntKind.i64.wrap (0 - p0))
  else p0
@[go_sem] theorem laws_lwAbs_ok (n : Nat) (q0_0 : Int) : lev tab (n + 1) 26 [.int .i64 q0_0] = (some (laws_lwAbs q0_0)).map fun r => (.int .i64 r, [.gone]) := by
  rw [lev_st (vc := c26) (nt := 8) (rs := [(2, none)]) rfl rfl (Nat.le_of_ble_eq_true rfl)]
  unfold c26
  simp +contextual -implicitDefEqProofs (maxSteps := 100000000) only [laws_lwAbs, go_sem, ↓ite_not', Nat.reduceEqDiff, Nat.reduceLT, Nat.reduceLeDiff, ↓reduceIte, Nat.reduceAdd, Nat.reduceMul, Nat.reduceSub, Int.reduceEq, Int.reduceLT, Int.reduceLE, Int.reduceToNat, Int.cast_ofNat_Int, Nat.reduceBEq]
-- laws.FnFades
def laws_FnFades_u1 (a2 : Int) (a3 : Int) (a4 : Int) (a5 : Int) : Bool :=
  if (decide (a5 > 1)) = true then if (decide ((laws_lwAbs a3) > (laws_lwAbs (((impl_FadeOf a4 ((IntKind.i64.wrap (a5 - 1))))).Value)))) = true then true
    else if (decide (a5 ≥ 4)) = true then (a3 != 0)
      else false
  else if (decide (a5 ≥ 4)) = true then (a3 != 0)
    else false
def laws_FnFades_u2 (a7 : Int) (a8 : Int) (a9 : Int) (a10 : Int) : Bool :=
  if (decide ((laws_lwAbs a8) ≤ (laws_lwAbs a9))) = true then (((impl_FadeOf ((IntKind.i64.wrap (0 - a9))) a10)).Value == (IntKind.i64.wrap (0 - a8)))
  else false
def laws_FnFades (p0 : List Int) : Option (Bool) :=
  if (laws_lwBig p0) = true then some true
  else (spec_DrawFadeOf p0).bind fun r1 =>
    if ((((impl_FadeOf r1.1 r1.2)).Code == ((spec_FadeOf r1.1 r1.2)).Code) && (((impl_FadeOf r1.1 r1.2)).Value == ((spec_FadeOf r1.1 r1.2)).Value)) = true then if (((impl_FadeOf r1.1 r1.2)).Code != 0) = true then some true
      else let y6 := laws_FnFades_u1 (((impl_FadeOf r1.1 r1.2)).Code) (((impl_FadeOf r1.1 r1.2)).Value) r1.1 r1.2
        if y6 = true then some false
        else let y11 := laws_FnFades_u2 ((((impl_FadeOf r1.1 r1.2)).Code)) ((((impl_FadeOf r1.1 r1.2)).Value)) r1.1 r1.2
          some y11
    else some false
@[go_sem] theorem laws_FnFades_u1_ok {β : Type} (n : Nat) (K : List (Kont β)) (a2 : Int) (a3 : Int) (a4 : Int) (a5 : Int) : run ⟨tab.own, lev tab (n + 4), tab.gl⟩ K c6_u1 ⟨[(3, .val (.int .i64 a4)), (4, .val (.int .i64 a5)), (5, .pt 200000050 0)], [(200000050, .var false [.val (.int .i64 a2), .val (.int .i64 a3)])], 64⟩ = (some (laws_FnFades_u1 a2 a3 a4 a5)).bind (fun t => plug ⟨tab.own, lev tab (n + 4), tab.gl⟩ K .normal ⟨[(3, .val (.int .i64 a4)), (4, .val (.int .i64 a5)), (5, .pt 200000050 0), (46, .val (.bool t))], [(200000050, .var false [.val (.int .i64 a2), .val (.int .i64 a3)])], 64⟩) := by
  unfold c6_u1
  simp +contextual -implicitDefEqProofs (maxSteps := 100000000) only [laws_FnFades_u1, go_sem, ↓ite_not', Nat.reduceEqDiff, Nat.reduceLT, Nat.reduceLeDiff, ↓reduceIte, Nat.reduceAdd, Nat.reduceMul, Nat.reduceSub, Int.reduceEq, Int.reduceLT, Int.reduceLE, Int.reduceToNat, Int.cast_ofNat_Int, Nat.reduceBEq]
@[go_sem] theorem laws_FnFades_u2_ok {β : Type} (n : Nat) (K : List (Kont β)) (a7 : Int) (a8 : Int) (a9 : Int) (a10 : Int) : run ⟨tab.own, lev tab (n + 4), tab.gl⟩ K c6_u2 ⟨[(3, .val (.int .i64 a9)), (4, .val (.int .i64 a10)), (5, .pt 200000050 0)], [(200000050, .var false [.val (.int .i64 a7), .val (.int .i64 a8)])], 64⟩ = (some (laws_FnFades_u2 a7 a8 a9 a10)).bind (fun t => plug ⟨tab.own, lev tab (n + 4), tab.gl⟩ K .normal ⟨[(2, .val (.bool t))], [], 64⟩) := by
  unfold c6_u2
  simp +contextual -implicitDefEqProofs (maxSteps := 100000000) only [laws_FnFades_u2, go_sem, ↓ite_not', Nat.reduceEqDiff, Nat.reduceLT, Nat.reduceLeDiff, ↓reduceIte, Nat.reduceAdd, Nat.reduceMul, Nat.reduceSub, Int.reduceEq, Int.reduceLT, Int.reduceLE, Int.reduceToNat, Int.cast_ofNat_Int, Nat.reduceBEq]
@[go_sem] theorem laws_FnFades_ok (n : Nat) (q0_0 : List Int) : lev tab (n + 5) 6 [.sh .lent 1 (rowE (eI .u8) q0_0)] = (laws_FnFades q0_0).map fun r => (.bool r, [.gone]) := by
  rw [lev_st (vc := c6) (nt := 64) (rs := [(2, none)]) rfl rfl (Nat.le_of_ble_eq_true rfl)]
  unfold c6
  simp +contextual -implicitDefEqProofs (maxSteps := 100000000) only [laws_FnFades, go_sem, ↓ite_not', Nat.reduceEqDiff, Nat.reduceLT, Nat.reduceLeDiff, ↓reduceIte, Nat.reduceAdd, Nat.reduceMul, Nat.reduceSub, Int.reduceEq, Int.reduceLT, Int.reduceLE, Int.reduceToNat, Int.cast_ofNat_Int, Nat.reduceBEq]
end
end FnFades
end Go.Proofs.Ytgnohnlpicmnaaa.Wm
