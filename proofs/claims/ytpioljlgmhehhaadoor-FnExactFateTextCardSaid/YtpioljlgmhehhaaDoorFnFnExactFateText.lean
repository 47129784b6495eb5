/- What the functions behind FnExactFateText come to, on plain values: written by a program. -/
import Derived.Test.YtpioljlgmhehhaaDoorWmC
import Derived.Test.YtpioljlgmhehhaaDoorRows
set_option linter.unusedSimpArgs false
set_option linter.unusedVariables false
set_option maxRecDepth 100000
set_option maxHeartbeats 20000000
namespace Go.Proofs.YtpioljlgmhehhaaDoor.Wm
open Go Go.Proofs
namespace FnExactFateText
noncomputable section
structure SFate where
  Kind : Int
  Delay : Int
  At : Int
  Bits : Int
def SFate.cells (k : K) (s : SFate) : List D := [.int .i64 s.Kind, .int .i64 s.Delay, .int .i64 s.At, .int .i64 s.Bits]
attribute [go_sem] SFate.cells
structure STextResult where
  Code : Int
  Text : List UInt8
def STextResult.cells (k : K) (s : STextResult) : List D := [.int .i64 s.Code, .str s.Text]
attribute [go_sem] STextResult.cells
def c14 : Vc := (.seq (.region [ii 1 (.box (some 4) (.tmp 0)), ii 2 (.alc [.val (.int .i64 0), .val (.int .i64 0), .val (.int .i64 0), .val (.int .i64 0)])] [] (sr [1, 2] [(2000, 200000010), (3000, 200000020)])) (.seq (.region [ii 3 (.alc [.val (.int .i64 0), .val (.int .i64 0), .val (.int .i64 0), .val (.int .i64 0)])] [] (sr [1, 2, 3] [(200000010, 200000010), (200000020, 200000020), (4000, 200000030)])) (.seq (.region [ii 4 (.fad 0 (.tmp 1)), ii 5 (.ld none (.tmp 4)), ii 6 (.fad 0 (.tmp 3)), ⟨none, .st none (.tmp 6) (.tmp 5), none⟩] [] (sr [1, 2, 3] [(200000010, 200000010), (200000020, 200000020), (200000030, 200000030)])) (.seq (.region [ii 7 (.fad 1 (.tmp 1)), ii 8 (.ld none (.tmp 7)), ii 9 (.fad 1 (.tmp 3)), ⟨none, .st none (.tmp 9) (.tmp 8), none⟩] [] (sr [1, 2, 3] [(200000010, 200000010), (200000020, 200000020), (200000030, 200000030)])) (.seq (.region [ii 10 (.fad 2 (.tmp 1)), ii 11 (.ld none (.tmp 10)), ii 12 (.fad 2 (.tmp 3)), ⟨none, .st none (.tmp 12) (.tmp 11), none⟩] [] (sr [1, 2, 3] [(200000010, 200000010), (200000020, 200000020), (200000030, 200000030)])) (.seq (.region [ii 13 (.fad 3 (.tmp 1)), ii 14 (.ld none (.tmp 13)), ii 15 (.fad 3 (.tmp 3)), ⟨none, .st none (.tmp 15) (.tmp 14), none⟩] [] (sr [2, 3] [(200000020, 200000020), (200000030, 200000030)])) (.seq (.region [ii 16 (.ld (some 4) (.tmp 3)), ⟨none, .st (some 4) (.tmp 2) (.tmp 16), none⟩] [] (sr [2] [(200000020, 200000020)])) .ret)))))))
def c52_u1 : Vc := (.region [mm 7 0, mm 8 1, ii 9 (.bin .geq (.tmp 7) (.tmp 8)), mm 10 9, ⟨some 11, .mov (.tmp 0), some (10, true)⟩, ⟨some 12, .mov (.tmp 2), some (10, true)⟩, ⟨some 13, .bin .leq (.tmp 11) (.tmp 12), some (10, true)⟩, ii 14 (.pick (.tmp 10) (.tmp 13) (.cst (.bool false))), mm 6 14] [] (sk [6]))
def c52 : Vc := (.seq (.region [ii 6 (.mov (.cst (.bool false)))] [] (sk [0, 1, 2])) (.seq c52_u1 .ret))
def c28_u1 : Vc := (.region [ii 7 (.fad 0 (.tmp 1)), ii 8 (.ld none (.tmp 7)), ii 9 (.call (.cst (.fn 52 [])) [(.tmp 8), (ci 0), (ci 3)]), ii 10 (.un .not (.tmp 9)), mm 11 10, ⟨some 12, .fad 0 (.tmp 1), some (11, false)⟩, ⟨some 13, .ld none (.tmp 12), some (11, false)⟩, ⟨some 14, .bin .eql (.tmp 13) (.cst (.int .i64 0)), some (11, false)⟩, ⟨some 15, .mov (.tmp 14), some (11, false)⟩, ⟨some 16, .fad 1 (.tmp 1), some (15, true)⟩, ⟨some 17, .ld none (.tmp 16), some (15, true)⟩, ⟨some 18, .bin .neq (.tmp 17) (.cst (.int .i64 0)), some (15, true)⟩, ⟨some 19, .pick (.tmp 15) (.tmp 18) (.cst (.bool false)), some (11, false)⟩, ii 20 (.pick (.tmp 11) (.cst (.bool true)) (.tmp 19)), mm 21 20, ⟨some 22, .mov (.tmp 3), some (21, false)⟩, ⟨some 23, .un .not (.tmp 22), some (21, false)⟩, ⟨some 24, .mov (.tmp 23), some (21, false)⟩, ⟨some 25, .fad 2 (.tmp 1), some (24, true)⟩, ⟨some 26, .ld none (.tmp 25), some (24, true)⟩, ⟨some 27, .bin .neq (.tmp 26) (.cst (.int .i64 0)), some (24, true)⟩, ⟨some 28, .mov (.tmp 27), some (24, true)⟩, ⟨some 29, .fad 3 (.tmp 1), some (28, false)⟩, ⟨some 30, .ld none (.tmp 29), some (28, false)⟩, ⟨some 31, .bin .neq (.tmp 30) (.cst (.int .i64 0)), some (28, false)⟩, ⟨some 32, .pick (.tmp 28) (.cst (.bool true)) (.tmp 31), some (24, true)⟩, ⟨some 33, .pick (.tmp 24) (.tmp 32) (.cst (.bool false)), some (21, false)⟩, ii 34 (.pick (.tmp 21) (.cst (.bool true)) (.tmp 33))] [] (sr [1, 3, 34] [(200000010, 200000010)]))
def c28_u2 : Vc := (.region [ii 35 (.fad 1 (.tmp 1)), ii 36 (.ld none (.tmp 35)), ii 37 (.call (.cst (.fn 52 [])) [(.tmp 36), (ci 0), (ci 6)]), ii 38 (.un .not (.tmp 37)), mm 39 38, ⟨some 40, .mov (.tmp 3), some (39, false)⟩, ⟨some 41, .mov (.tmp 40), some (39, false)⟩, ⟨some 42, .fad 2 (.tmp 1), some (41, true)⟩, ⟨some 43, .ld none (.tmp 42), some (41, true)⟩, ⟨some 44, .call (.cst (.fn 52 [])) [(.tmp 43), (.cst (.int .i64 0)), (.cst (.int .i64 1279))], some (41, true)⟩, ⟨some 45, .un .not (.tmp 44), some (41, true)⟩, ⟨some 46, .mov (.tmp 45), some (41, true)⟩, ⟨some 47, .fad 3 (.tmp 1), some (46, false)⟩, ⟨some 48, .ld none (.tmp 47), some (46, false)⟩, ⟨some 49, .call (.cst (.fn 52 [])) [(.tmp 48), (.cst (.int .i64 1)), (.cst (.int .i64 65535))], some (46, false)⟩, ⟨some 50, .un .not (.tmp 49), some (46, false)⟩, ⟨some 51, .pick (.tmp 46) (.cst (.bool true)) (.tmp 50), some (41, true)⟩, ⟨some 52, .pick (.tmp 41) (.tmp 51) (.cst (.bool false)), some (39, false)⟩, ii 53 (.pick (.tmp 39) (.cst (.bool true)) (.tmp 52))] [] (sk [53]))
def c28 : Vc := (.seq (.region [ii 1 (.box (some 4) (.tmp 0)), ii 2 (.mov (ci 0))] [] (sr [1] [(2000, 200000010)])) (.seq (.region [ii 4 (.fad 0 (.tmp 1)), ii 5 (.ld none (.tmp 4)), ii 6 (.bin .eql (.tmp 5) (ci 3)), mm 3 6] [] (sr [1, 3] [(200000010, 200000010)])) (.seq (.seq c28_u1 (.cond (.tmp 34) s0 (sr [1, 3] [(200000010, 200000010)]) (.seq (.region [ii 2 (.mov (ci 1))] [] (sk [2])) .ret) .skip)) (.seq (.seq c28_u2 (.cond (.tmp 53) s0 s0 (.seq (.region [ii 2 (.mov (ci 3))] [] (sk [2])) .ret) .skip)) (.seq (.region [ii 2 (.mov (ci 0))] [] (sk [2])) .ret)))))
def c37_u1 : Vc := (.region [mm 18 0, ii 19 (.bin .quo (.tmp 18) (ci 10)), mm 21 0, ii 22 (.bin .rem (.tmp 21) (ci 10)), ii 23 (.bin .add (ci 48) (.tmp 22)), ii 24 (.cvi .u8 (.tmp 23)), ii 20 (.call (.cst (.fn 37 [])) [(.tmp 19)]), ii 25 (.bsl 1 [.int .u8 0] 1 [⟨0, none, (.tmp 24)⟩]), ii 26 (.cvs (.tmp 25)), ii 27 (.bin .add (.tmp 20) (.tmp 26)), mm 2 27] [[mm 18 0, ii 19 (.bin .quo (.tmp 18) (ci 10)), mm 21 0, ii 22 (.bin .rem (.tmp 21) (ci 10)), ii 23 (.bin .add (ci 48) (.tmp 22)), ii 24 (.cvi .u8 (.tmp 23)), ii 25 (.bsl 1 [.int .u8 0] 1 [⟨0, none, (.tmp 24)⟩]), ii 26 (.cvs (.tmp 25)), ii 20 (.call (.cst (.fn 37 [])) [(.tmp 19)]), ii 27 (.bin .add (.tmp 20) (.tmp 26)), mm 2 27]] (sk [2]))
def c37 : Vc := (.seq (.region [ii 2 (.mov (.cst (.str ([]))))] [] (sk [0])) (.seq (.block 0 (.seq (.region [mm 4 0, ii 5 (.bin .lss (.tmp 4) (ci 0)), mm 3 5] [] (sk [0, 3])) (.cond (.tmp 3) (sk [0]) (sk [0]) (.seq (.region [mm 6 0, ii 7 (.un .neg (.tmp 6)), ii 8 (.call (.cst (.fn 37 [])) [(.tmp 7)]), ii 9 (.bin .add (.cst (.str ([45]))) (.tmp 8)), mm 2 9] [] (sk [2])) .ret) (.seq (.region [mm 11 0, ii 12 (.bin .lss (.tmp 11) (ci 10)), mm 10 12] [] (sk [0, 10])) (.cond (.tmp 10) (sk [0]) (sk [0]) (.seq (.region [mm 13 0, ii 14 (.bin .add (ci 48) (.tmp 13)), ii 15 (.cvi .u8 (.tmp 14)), ii 16 (.bsl 1 [.int .u8 0] 1 [⟨0, none, (.tmp 15)⟩]), ii 17 (.cvs (.tmp 16)), mm 2 17] [] (sk [2])) .ret) .skip))))) (.seq c37_u1 .ret)))
def c34 : Vc := (.seq (.region [ii 1 (.box (some 4) (.tmp 0)), ii 2 (.mov (.cst (.str ([]))))] [] (sr [1] [(2000, 200000010)])) (.seq (.seq (.region [ii 3 (.fad 0 (.tmp 1)), ii 4 (.ld none (.tmp 3))] [] (sr [1, 4] [(200000010, 200000010)])) (.block 0 (.seq (.region [ii 6 (.bin .eql (.tmp 4) (ci 1)), mm 5 6] [] (sr [1, 4, 5] [(200000010, 200000010)])) (.cond (.tmp 5) (sr [1] [(200000010, 200000010)]) (sr [1, 4] [(200000010, 200000010)]) (.seq (.region [ii 7 (.fad 1 (.tmp 1)), ii 8 (.ld none (.tmp 7)), ii 9 (.call (.cst (.fn 37 [])) [(.tmp 8)]), ii 10 (.bin .add (.cst (.str ([99, 111, 109, 101, 115, 58]))) (.tmp 9)), mm 2 10] [] (sk [2])) .ret) (.seq (.region [ii 12 (.bin .eql (.tmp 4) (ci 2)), mm 11 12] [] (sr [1, 4, 11] [(200000010, 200000010)])) (.cond (.tmp 11) (sr [1] [(200000010, 200000010)]) (sr [1, 4] [(200000010, 200000010)]) (.seq (.region [ii 13 (.fad 1 (.tmp 1)), ii 14 (.ld none (.tmp 13)), ii 15 (.call (.cst (.fn 37 [])) [(.tmp 14)]), ii 16 (.bin .add (.cst (.str ([116, 119, 105, 99, 101, 58]))) (.tmp 15)), mm 2 16] [] (sk [2])) .ret) (.seq (.region [ii 18 (.bin .eql (.tmp 4) (ci 3)), mm 17 18] [] (sr [1, 17] [(200000010, 200000010)])) (.cond (.tmp 17) (sr [1] [(200000010, 200000010)]) s0 (.seq (.region [ii 19 (.fad 1 (.tmp 1)), ii 20 (.ld none (.tmp 19)), ii 24 (.fad 2 (.tmp 1)), ii 25 (.ld none (.tmp 24)), ii 29 (.fad 3 (.tmp 1)), ii 30 (.ld none (.tmp 29)), ii 21 (.call (.cst (.fn 37 [])) [(.tmp 20)]), ii 22 (.bin .add (.cst (.str ([116, 117, 114, 110, 101, 100, 58]))) (.tmp 21)), ii 23 (.bin .add (.tmp 22) (.cst (.str ([58])))), ii 26 (.call (.cst (.fn 37 [])) [(.tmp 25)]), ii 27 (.bin .add (.tmp 23) (.tmp 26)), ii 28 (.bin .add (.tmp 27) (.cst (.str ([58])))), ii 31 (.call (.cst (.fn 37 [])) [(.tmp 30)]), ii 32 (.bin .add (.tmp 28) (.tmp 31)), mm 2 32] [] (sk [2])) .ret) .skip)))))))) (.seq (.region [ii 2 (.mov (.cst (.str ([108, 111, 115, 116]))))] [] (sk [2])) .ret)))
def c13 : Vc := (.seq (.region [ii 1 (.box (some 4) (.tmp 0)), ii 2 (.alc [.val (.int .i64 0), .val (.str ([]))])] [] (sr [1, 2] [(2000, 200000010), (3000, 200000020)])) (.seq (.seq (.region [ii 4 (.ld (some 4) (.tmp 1)), ii 5 (.call (.cst (.fn 28 [])) [(.tmp 4)]), mm 3 5] [] (sr [1, 2, 3] [(200000010, 200000010), (200000020, 200000020)])) (.seq (.region [mm 6 3, ii 7 (.bin .neq (.tmp 6) (ci 0))] [] (sr [1, 2, 3, 7] [(200000010, 200000010), (200000020, 200000020)])) (.cond (.tmp 7) (sr [2, 3] [(200000020, 200000020)]) (sr [1, 2] [(200000010, 200000010), (200000020, 200000020)]) (.seq (.region [mm 8 3, ii 9 (.bld [.val (.int .i64 0), .val (.str ([]))] [⟨0, none, (.tmp 8)⟩]), ⟨none, .st (some 2) (.tmp 2) (.tmp 9), none⟩] [] (sr [2] [(200000020, 200000020)])) .ret) .skip))) (.seq (.region [ii 10 (.ld (some 4) (.tmp 1)), ii 11 (.call (.cst (.fn 34 [])) [(.tmp 10)]), ii 12 (.bld [.val (.int .i64 0), .val (.str ([]))] [⟨1, none, (.tmp 11)⟩]), ⟨none, .st (some 2) (.tmp 2) (.tmp 12), none⟩] [] (sr [2] [(200000020, 200000020)])) .ret)))
def c57_u1 : Vc := (.region [mm 7 1, mm 8 0, ii 9 (.bin .leq (.tmp 7) (.tmp 8)), mm 10 9, ⟨some 11, .mov (.tmp 0), some (10, true)⟩, ⟨some 12, .mov (.tmp 2), some (10, true)⟩, ⟨some 13, .bin .leq (.tmp 11) (.tmp 12), some (10, true)⟩, ii 14 (.pick (.tmp 10) (.tmp 13) (.cst (.bool false))), mm 6 14] [] (sk [6]))
def c57 : Vc := (.seq (.region [ii 6 (.mov (.cst (.bool false)))] [] (sk [0, 1, 2])) (.seq c57_u1 .ret))
def c59 : Vc := (.seq (.region [ii 4 (.mov (ci 0))] [] (sk [0, 1])) (.seq (.seq (.region [mm 5 0] [] (sk [1, 5])) (.cond (.tmp 5) (sk [1]) s0 (.seq (.region [mm 6 1, mm 4 6] [] (sk [4])) .ret) .skip)) (.seq (.region [ii 4 (.mov (ci 0))] [] (sk [4])) .ret)))
def c58_u1 : Vc := (.seq (.region [ii 8 (.bin .lss (.tmp 7) (.tmp 6))] [] (sk [5, 6, 7, 8])) (.seq (.cond (.tmp 8) (sk [5, 6, 7]) s0 .skip (.exit 0)) (.seq (.block 1 (.seq (.region [ii 9 (.iad 1 (.tmp 5) (.tmp 7)), ii 10 (.ld none (.tmp 9)), mm 4 10] [] (sk [4, 5, 6, 7])) (.seq (.region [mm 11 4, ii 12 (.bin .neq (.tmp 11) (ci 0))] [] (sk [4, 5, 6, 7, 12])) (.cond (.tmp 12) (sk [4]) (sk [5, 6, 7]) (.seq (.region [mm 13 4, mm 2 13] [] (sk [2])) .ret) .skip)))) (.region [ii 14 (.bin .add (.tmp 7) (ci 1)), mm 7 14] [] (sk [5, 6, 7])))))
def c58 : Vc := (.seq (.region [ii 2 (.mov (ci 0))] [] (sk [0])) (.seq (.seq (.region [mm 5 0, ii 6 (.len (.tmp 5)), ii 7 (.mov (ci 0))] [] (sk [5, 6, 7])) (.block 0 (.loop c58_u1))) (.seq (.region [ii 2 (.mov (ci 0))] [] (sk [2])) .ret)))
def c35_u1 : Vc := (.region [ii 5 (.fad 0 (.tmp 1)), ii 6 (.ld none (.tmp 5)), ii 7 (.bin .neq (.tmp 6) (ci 3)), mm 8 7, ⟨some 9, .fad 2 (.tmp 1), some (8, true)⟩, ⟨some 10, .ld none (.tmp 9), some (8, true)⟩, ⟨some 11, .bin .neq (.tmp 10) (.cst (.int .i64 0)), some (8, true)⟩, ⟨some 12, .mov (.tmp 11), some (8, true)⟩, ⟨some 13, .fad 3 (.tmp 1), some (12, false)⟩, ⟨some 14, .ld none (.tmp 13), some (12, false)⟩, ⟨some 15, .bin .neq (.tmp 14) (.cst (.int .i64 0)), some (12, false)⟩, ⟨some 16, .pick (.tmp 12) (.cst (.bool true)) (.tmp 15), some (8, true)⟩, ii 17 (.pick (.tmp 8) (.tmp 16) (.cst (.bool false))), mm 18 17, ⟨some 19, .fad 0 (.tmp 1), some (18, false)⟩, ⟨some 20, .ld none (.tmp 19), some (18, false)⟩, ⟨some 21, .bin .eql (.tmp 20) (.cst (.int .i64 0)), some (18, false)⟩, ⟨some 22, .mov (.tmp 21), some (18, false)⟩, ⟨some 23, .fad 1 (.tmp 1), some (22, true)⟩, ⟨some 24, .ld none (.tmp 23), some (22, true)⟩, ⟨some 25, .bin .neq (.tmp 24) (.cst (.int .i64 0)), some (22, true)⟩, ⟨some 26, .pick (.tmp 22) (.tmp 25) (.cst (.bool false)), some (18, false)⟩, ii 27 (.pick (.tmp 18) (.cst (.bool true)) (.tmp 26)), mm 3 27] [] (sr [1, 3] [(200000010, 200000010)]))
def c35_u2 : Vc := (.region [ii 28 (.fad 1 (.tmp 1)), ii 29 (.ld none (.tmp 28)), ii 30 (.call (.cst (.fn 57 [])) [(.tmp 29), (ci 0), (ci 6)]), ii 31 (.un .not (.tmp 30)), mm 32 31, ⟨some 33, .fad 0 (.tmp 1), some (32, false)⟩, ⟨some 34, .ld none (.tmp 33), some (32, false)⟩, ⟨some 35, .bin .eql (.tmp 34) (.cst (.int .i64 3)), some (32, false)⟩, ⟨some 36, .mov (.tmp 35), some (32, false)⟩, ⟨some 37, .fad 2 (.tmp 1), some (36, true)⟩, ⟨some 38, .ld none (.tmp 37), some (36, true)⟩, ⟨some 39, .call (.cst (.fn 57 [])) [(.tmp 38), (.cst (.int .i64 0)), (.cst (.int .i64 1279))], some (36, true)⟩, ⟨some 40, .un .not (.tmp 39), some (36, true)⟩, ⟨some 41, .mov (.tmp 40), some (36, true)⟩, ⟨some 42, .fad 3 (.tmp 1), some (41, false)⟩, ⟨some 43, .ld none (.tmp 42), some (41, false)⟩, ⟨some 44, .call (.cst (.fn 57 [])) [(.tmp 43), (.cst (.int .i64 1)), (.cst (.int .i64 65535))], some (41, false)⟩, ⟨some 45, .un .not (.tmp 44), some (41, false)⟩, ⟨some 46, .pick (.tmp 41) (.cst (.bool true)) (.tmp 45), some (36, true)⟩, ⟨some 47, .pick (.tmp 36) (.tmp 46) (.cst (.bool false)), some (32, false)⟩, ii 48 (.pick (.tmp 32) (.cst (.bool true)) (.tmp 47)), mm 4 48] [] (sr [1, 3, 4] [(200000010, 200000010)]))
def c35_u3 : Vc := (.region [ii 49 (.fad 0 (.tmp 1)), ii 50 (.ld none (.tmp 49)), ii 51 (.call (.cst (.fn 57 [])) [(.tmp 50), (ci 0), (ci 3)]), ii 52 (.un .not (.tmp 51)), mm 53 52, ⟨some 54, .mov (.tmp 3), some (53, false)⟩, ii 55 (.pick (.tmp 53) (.cst (.bool true)) (.tmp 54)), ii 56 (.call (.cst (.fn 59 [])) [(.tmp 55), (ci 1)]), mm 57 4, ii 58 (.call (.cst (.fn 59 [])) [(.tmp 57), (ci 3)]), ii 59 (.bsl 1 [.int .i64 0] 2 [⟨0, none, (.tmp 56)⟩, ⟨1, none, (.tmp 58)⟩]), ii 60 (.call (.cst (.fn 58 [])) [(.tmp 59)]), mm 2 60] [] (sk [2]))
def c35 : Vc := (.seq (.region [ii 1 (.box (some 4) (.tmp 0)), ii 2 (.mov (ci 0))] [] (sr [1] [(2000, 200000010)])) (.seq c35_u1 (.seq c35_u2 (.seq c35_u3 .ret))))
def c60 : Vc := (.seq (.region [ii 2 (.mov (.cst (.str ([]))))] [] (sk [0])) (.seq (.region [mm 3 0, ii 4 (.call (.cst (.fn 68 [])) [(.tmp 3), (ci 10)]), mm 2 4] [] (sk [2])) .ret))
def c36_u1 : Vc := (.region [ii 4 (.fad 0 (.tmp 1)), ii 5 (.ld none (.tmp 4)), ii 6 (.iada 4 1 (.gl 0) (.tmp 5)), ii 7 (.ld none (.tmp 6)), mm 3 7] [] (sr [1, 3] [(200000010, 200000010)]))
def c36_u2 : Vc := (.cond (.tmp 10) (sr [1, 3, 9, 10] [(200000010, 200000010)]) (sr [1, 3, 9] [(200000010, 200000010)]) .skip (.region [ii 12 (.bin .eql (.tmp 9) (ci 2)), mm 10 12] [] (sr [1, 3, 9, 10] [(200000010, 200000010)])))
def c36_u3 : Vc := (.cond (.tmp 10) (sr [1, 3, 9, 10] [(200000010, 200000010)]) (sr [1, 3, 9] [(200000010, 200000010)]) (.region [mm 13 3, ii 14 (.fad 1 (.tmp 1)), ii 15 (.ld none (.tmp 14)), ii 16 (.call (.cst (.fn 60 [])) [(.tmp 15)]), ii 17 (.bin .add (.cst (.str ([58]))) (.tmp 16)), ii 18 (.bin .add (.tmp 13) (.tmp 17)), mm 3 18] [] (sk [3])) (.seq (.region [ii 20 (.bin .eql (.tmp 9) (ci 3)), mm 19 20] [] (sr [1, 3, 19] [(200000010, 200000010)])) (.cond (.tmp 19) (sr [1, 3] [(200000010, 200000010)]) (sk [3]) (.region [mm 21 3, ii 22 (.fad 1 (.tmp 1)), ii 23 (.ld none (.tmp 22)), ii 27 (.fad 2 (.tmp 1)), ii 28 (.ld none (.tmp 27)), ii 32 (.fad 3 (.tmp 1)), ii 33 (.ld none (.tmp 32)), ii 24 (.call (.cst (.fn 60 [])) [(.tmp 23)]), ii 25 (.bin .add (.cst (.str ([58]))) (.tmp 24)), ii 26 (.bin .add (.tmp 25) (.cst (.str ([58])))), ii 29 (.call (.cst (.fn 60 [])) [(.tmp 28)]), ii 30 (.bin .add (.tmp 26) (.tmp 29)), ii 31 (.bin .add (.tmp 30) (.cst (.str ([58])))), ii 34 (.call (.cst (.fn 60 [])) [(.tmp 33)]), ii 35 (.bin .add (.tmp 31) (.tmp 34)), ii 36 (.bin .add (.tmp 21) (.tmp 35)), mm 3 36] [] (sk [3])) .skip)))
def c36_u4 : Vc := (.block 0 (.seq (.seq (.region [ii 11 (.bin .eql (.tmp 9) (ci 1)), mm 10 11] [] (sr [1, 3, 9, 10] [(200000010, 200000010)])) c36_u2) c36_u3))
def c36 : Vc := (.seq (.region [ii 1 (.box (some 4) (.tmp 0)), ii 2 (.mov (.cst (.str ([]))))] [] (sr [1] [(2000, 200000010)])) (.seq c36_u1 (.seq (.seq (.region [ii 8 (.fad 0 (.tmp 1)), ii 9 (.ld none (.tmp 8))] [] (sr [1, 3, 9] [(200000010, 200000010)])) c36_u4) (.seq (.region [mm 37 3, mm 2 37] [] (sk [2])) .ret))))
def c15 : Vc := (.seq (.region [ii 1 (.box (some 4) (.tmp 0)), ii 2 (.alc [.val (.int .i64 0), .val (.str ([]))])] [] (sr [1, 2] [(2000, 200000010), (3000, 200000020)])) (.seq (.seq (.region [ii 4 (.ld (some 4) (.tmp 1)), ii 5 (.call (.cst (.fn 35 [])) [(.tmp 4)]), mm 3 5] [] (sr [1, 2, 3] [(200000010, 200000010), (200000020, 200000020)])) (.seq (.region [mm 6 3, ii 7 (.bin .neq (.tmp 6) (ci 0))] [] (sr [1, 2, 3, 7] [(200000010, 200000010), (200000020, 200000020)])) (.cond (.tmp 7) (sr [2, 3] [(200000020, 200000020)]) (sr [1, 2] [(200000010, 200000010), (200000020, 200000020)]) (.seq (.region [mm 8 3, ii 9 (.bld [.val (.int .i64 0), .val (.str ([]))] [⟨0, none, (.tmp 8)⟩]), ⟨none, .st (some 2) (.tmp 2) (.tmp 9), none⟩] [] (sr [2] [(200000020, 200000020)])) .ret) .skip))) (.seq (.region [ii 10 (.ld (some 4) (.tmp 1)), ii 11 (.call (.cst (.fn 36 [])) [(.tmp 10)]), ii 12 (.bld [.val (.int .i64 0), .val (.str ([]))] [⟨1, none, (.tmp 11)⟩]), ⟨none, .st (some 2) (.tmp 2) (.tmp 12), none⟩] [] (sr [2] [(200000020, 200000020)])) .ret)))
def c16 : Vc := (.seq (.region [ii 2 (.box (some 2) (.tmp 0)), ii 3 (.box (some 2) (.tmp 1)), ii 4 (.mov (.cst (.bool false)))] [] (sr [2, 3] [(3000, 200000020), (4000, 200000030)])) (.seq (.seq (.region [ii 5 (.fad 0 (.tmp 2)), ii 6 (.ld none (.tmp 5)), ii 7 (.fad 0 (.tmp 3)), ii 8 (.ld none (.tmp 7)), ii 9 (.bin .neq (.tmp 6) (.tmp 8))] [] (sr [2, 3, 9] [(200000020, 200000020), (200000030, 200000030)])) (.cond (.tmp 9) s0 (sr [2, 3] [(200000020, 200000020), (200000030, 200000030)]) (.seq (.region [ii 4 (.mov (.cst (.bool false)))] [] (sk [4])) .ret) .skip)) (.seq (.seq (.region [ii 10 (.fad 1 (.tmp 2)), ii 11 (.ld none (.tmp 10)), ii 12 (.fad 1 (.tmp 3)), ii 13 (.ld none (.tmp 12)), ii 14 (.bin .neq (.tmp 11) (.tmp 13))] [] (sk [14])) (.cond (.tmp 14) s0 s0 (.seq (.region [ii 4 (.mov (.cst (.bool false)))] [] (sk [4])) .ret) .skip)) (.seq (.region [ii 4 (.mov (.cst (.bool true)))] [] (sk [4])) .ret))))
def c4 : Vc := (.seq (.region [ii 1 (.box (some 4) (.tmp 0)), ii 2 (.mov (.cst (.bool false)))] [] (sr [1] [(2000, 200000010)])) (.seq (.region [ii 5 (.ld (some 4) (.tmp 1)), ii 6 (.call (.cst (.fn 14 [])) [(.tmp 5)]), ii 7 (.call (.cst (.fn 13 [])) [(.tmp 6)]), ii 3 (.alc [.val (.int .i64 0), .val (.str ([]))]), ⟨none, .st (some 2) (.tmp 3) (.tmp 7), none⟩] [] (sr [1, 3] [(200000010, 200000010), (4000, 200000030)])) (.seq (.region [ii 8 (.ld (some 4) (.tmp 1)), ii 9 (.call (.cst (.fn 14 [])) [(.tmp 8)]), ii 10 (.call (.cst (.fn 15 [])) [(.tmp 9)]), ii 4 (.alc [.val (.int .i64 0), .val (.str ([]))]), ⟨none, .st (some 2) (.tmp 4) (.tmp 10), none⟩] [] (sr [3, 4] [(200000030, 200000030), (5000, 200000040)])) (.seq (.seq (.region [ii 11 (.ld (some 2) (.tmp 4)), ii 12 (.ld (some 2) (.tmp 3)), ii 13 (.call (.cst (.fn 16 [])) [(.tmp 11), (.tmp 12)]), ii 14 (.un .not (.tmp 13))] [] (sk [14])) (.cond (.tmp 14) s0 s0 (.seq (.region [ii 2 (.mov (.cst (.bool false)))] [] (sk [2])) .ret) .skip)) (.seq (.region [ii 2 (.mov (.cst (.bool true)))] [] (sk [2])) .ret)))))
def tabO : List (Nat × List Nat) := [(14, [0]), (52, [0, 0, 0]), (28, [0]), (37, [0]), (34, [0]), (13, [0]), (57, [0, 0, 0]), (59, [0, 0]), (58, [0]), (35, [0]), (68, [0, 0]), (60, [0]), (36, [0]), (15, [0]), (16, [0, 0]), (4, [0])]
def tabL : List (Nat × Vc × Nat × List (Nat × Option (Option Nat))) := [(14, c14, 17, [(2, some (some 4))]), (52, c52, 15, [(6, none)]), (28, c28, 54, [(2, none)]), (37, c37, 28, [(2, none)]), (34, c34, 33, [(2, none)]), (13, c13, 13, [(2, some (some 2))]), (57, c57, 15, [(6, none)]), (59, c59, 7, [(4, none)]), (58, c58, 15, [(2, none)]), (35, c35, 61, [(2, none)]), (60, c60, 5, [(2, none)]), (36, c36, 38, [(2, none)]), (15, c15, 13, [(2, some (some 2))]), (16, c16, 15, [(4, none)]), (4, c4, 15, [(2, none)])]
def tabX : List (Nat × (List D → Option (D × List D))) := [(68, itoaF)]
def tabG : List (Nat × List D) := [(0, [.str [108, 111, 115, 116], .str [99, 111, 109, 101, 115], .str [116, 119, 105, 99, 101], .str [116, 117, 114, 110, 101, 100]]), (4, (Lib.pow10Tab.map fun z => D.int .u64 z))]
def tab0 : Tab := ⟨fun f => (look f tabO).getD [], fun f => look f tabL, fun f => look f tabX, fun g => look g tabG⟩
def recR (f : Nat) : Option Nat := look f [(37, 1)]
def tab (fu : Nat) : Tab := recTab tab0 recR fu
theorem tab_ext (fu f : Nat) (h : recR f = none) : (tab fu).ext f = tab0.ext f := by cases fu <;> simp [tab, recTab, recExt, h]
@[go_sem] theorem gl_0 (fu : Nat) : (tab fu).gl 0 = some [.str [108, 111, 115, 116], .str [99, 111, 109, 101, 115], .str [116, 119, 105, 99, 101], .str [116, 117, 114, 110, 101, 100]] := rfl
@[go_sem] theorem own_14 (fu : Nat) : (tab fu).own 14 = [0] := rfl
@[go_sem] theorem own_52 (fu : Nat) : (tab fu).own 52 = [0, 0, 0] := rfl
@[go_sem] theorem own_28 (fu : Nat) : (tab fu).own 28 = [0] := rfl
@[go_sem] theorem own_37 (fu : Nat) : (tab fu).own 37 = [0] := rfl
@[go_sem] theorem own_34 (fu : Nat) : (tab fu).own 34 = [0] := rfl
@[go_sem] theorem own_13 (fu : Nat) : (tab fu).own 13 = [0] := rfl
@[go_sem] theorem own_57 (fu : Nat) : (tab fu).own 57 = [0, 0, 0] := rfl
@[go_sem] theorem own_59 (fu : Nat) : (tab fu).own 59 = [0, 0] := rfl
@[go_sem] theorem own_58 (fu : Nat) : (tab fu).own 58 = [0] := rfl
@[go_sem] theorem own_35 (fu : Nat) : (tab fu).own 35 = [0] := rfl
@[go_sem] theorem own_68 (fu : Nat) : (tab fu).own 68 = [0, 0] := rfl
@[go_sem] theorem own_60 (fu : Nat) : (tab fu).own 60 = [0] := rfl
@[go_sem] theorem own_36 (fu : Nat) : (tab fu).own 36 = [0] := rfl
@[go_sem] theorem own_15 (fu : Nat) : (tab fu).own 15 = [0] := rfl
@[go_sem] theorem own_16 (fu : Nat) : (tab fu).own 16 = [0, 0] := rfl
@[go_sem] theorem own_4 (fu : Nat) : (tab fu).own 4 = [0] := rfl
theorem is14 : IsFn Tryd.prog tab0.own 14 c14 17 [(2, some (some 4))] := isF [(0, hr [1, 2] [(2000, 200000010), (3000, 200000020)]), (1, hr [1, 2, 3] [(200000010, 200000010), (200000020, 200000020), (4000, 200000030)]), (2, hr [1, 2, 3] [(200000010, 200000010), (200000020, 200000020), (200000030, 200000030)]), (3, hr [1, 2, 3] [(200000010, 200000010), (200000020, 200000020), (200000030, 200000030)]), (4, hr [1, 2, 3] [(200000010, 200000010), (200000020, 200000020), (200000030, 200000030)]), (5, hr [2, 3] [(200000020, 200000020), (200000030, 200000030)]), (6, hr [2] [(200000020, 200000020)])] [] [] [] Tryd.func14 (by kernel_rfl)
theorem is52 : IsFn Tryd.prog tab0.own 52 c52 15 [(6, none)] := isF [(0, hk [0, 1, 2]), (1, hk [6])] [] [] [] Tryd.func52 (by kernel_rfl)
theorem is28 : IsFn Tryd.prog tab0.own 28 c28 54 [(2, none)] := isF [(0, hr [1] [(2000, 200000010)]), (1, hr [1, 3] [(200000010, 200000010)]), (2, hr [1, 3, 34] [(200000010, 200000010)]), (3, hk [2]), (4, hk [53]), (5, hk [2]), (6, hk [2])] [(34, hk []), (53, hk [])] [(34, hr [1, 3] [(200000010, 200000010)]), (53, hk [])] [] Tryd.func28 (by kernel_rfl)
theorem is37 : IsFn Tryd.prog tab0.own 37 c37 28 [(2, none)] := isF [(0, hk [0]), (1, hk [0, 3]), (2, hk [2]), (3, hk [0, 10]), (4, hk [2]), (5, hk [2])] [(3, hk [0]), (10, hk [0])] [(3, hk [0]), (10, hk [0])] [(5, (.take 0 (.take 1 (.take 3 (.take 4 (.take 5 (.take 6 (.fork (.alt 2 (.take 7 (.take 8 (.take 9 (.take 10 .done)))) (.alt 7 (.take 8 (.take 2 (.take 9 (.take 10 .done)))) .nil))))))))))] Tryd.func37 (by kernel_rfl)
theorem is34 : IsFn Tryd.prog tab0.own 34 c34 33 [(2, none)] := isF [(0, hr [1] [(2000, 200000010)]), (1, hr [1, 4] [(200000010, 200000010)]), (2, hr [1, 4, 5] [(200000010, 200000010)]), (3, hk [2]), (4, hr [1, 4, 11] [(200000010, 200000010)]), (5, hk [2]), (6, hr [1, 17] [(200000010, 200000010)]), (7, hk [2]), (8, hk [2])] [(5, hr [1] [(200000010, 200000010)]), (11, hr [1] [(200000010, 200000010)]), (17, hr [1] [(200000010, 200000010)])] [(5, hr [1, 4] [(200000010, 200000010)]), (11, hr [1, 4] [(200000010, 200000010)]), (17, hk [])] [(7, (.take 0 (.take 1 (.take 5 (.take 6 (.take 10 (.take 11 (.take 2 (.take 3 (.take 4 (.take 7 (.take 8 (.take 9 (.take 12 (.take 13 (.take 14 .done))))))))))))))))] Tryd.func34 (by kernel_rfl)
theorem is13 : IsFn Tryd.prog tab0.own 13 c13 13 [(2, some (some 2))] := isF [(0, hr [1, 2] [(2000, 200000010), (3000, 200000020)]), (1, hr [1, 2, 3] [(200000010, 200000010), (200000020, 200000020)]), (2, hr [1, 2, 3, 7] [(200000010, 200000010), (200000020, 200000020)]), (3, hr [2] [(200000020, 200000020)]), (4, hr [2] [(200000020, 200000020)])] [(7, hr [2, 3] [(200000020, 200000020)])] [(7, hr [1, 2] [(200000010, 200000010), (200000020, 200000020)])] [] Tryd.func13 (by kernel_rfl)
theorem is57 : IsFn Tryd.prog tab0.own 57 c57 15 [(6, none)] := isF [(0, hk [0, 1, 2]), (1, hk [6])] [] [] [] Tryd.func57 (by kernel_rfl)
theorem is59 : IsFn Tryd.prog tab0.own 59 c59 7 [(4, none)] := isF [(0, hk [0, 1]), (1, hk [1, 5]), (2, hk [4]), (3, hk [4])] [(5, hk [1])] [(5, hk [])] [] Tryd.func59 (by kernel_rfl)
theorem is58 : IsFn Tryd.prog tab0.own 58 c58 15 [(2, none)] := isF [(0, hk [0]), (1, hk [5, 6, 7]), (2, hk [5, 6, 7, 8]), (3, hk [4, 5, 6, 7]), (4, hk [4, 5, 6, 7, 12]), (5, hk [2]), (6, hk [5, 6, 7]), (7, hk [2])] [(8, hk [5, 6, 7]), (12, hk [4])] [(12, hk [5, 6, 7]), (8, hk [])] [] Tryd.func58 (by kernel_rfl)
theorem is35 : IsFn Tryd.prog tab0.own 35 c35 61 [(2, none)] := isF [(0, hr [1] [(2000, 200000010)]), (1, hr [1, 3] [(200000010, 200000010)]), (2, hr [1, 3, 4] [(200000010, 200000010)]), (3, hk [2])] [] [] [] Tryd.func35 (by kernel_rfl)
theorem is60 : IsFn Tryd.prog tab0.own 60 c60 5 [(2, none)] := isF [(0, hk [0]), (1, hk [2])] [] [] [] Tryd.func60 (by kernel_rfl)
theorem is36 : IsFn Tryd.prog tab0.own 36 c36 38 [(2, none)] := isF [(0, hr [1] [(2000, 200000010)]), (1, hr [1, 3] [(200000010, 200000010)]), (2, hr [1, 3, 9] [(200000010, 200000010)]), (3, hr [1, 3, 9, 10] [(200000010, 200000010)]), (4, hr [1, 3, 9, 10] [(200000010, 200000010)]), (5, hk [3]), (6, hr [1, 3, 19] [(200000010, 200000010)]), (7, hk [3]), (8, hk [2])] [(10, hr [1, 3, 9, 10] [(200000010, 200000010)]), (19, hr [1, 3] [(200000010, 200000010)])] [(10, hr [1, 3, 9] [(200000010, 200000010)]), (19, hk [3])] [(7, (.take 0 (.take 1 (.take 2 (.take 6 (.take 7 (.take 11 (.take 12 (.take 3 (.take 4 (.take 5 (.take 8 (.take 9 (.take 10 (.take 13 (.take 14 (.take 15 (.take 16 .done))))))))))))))))))] Tryd.func36 (by kernel_rfl)
theorem is15 : IsFn Tryd.prog tab0.own 15 c15 13 [(2, some (some 2))] := isF [(0, hr [1, 2] [(2000, 200000010), (3000, 200000020)]), (1, hr [1, 2, 3] [(200000010, 200000010), (200000020, 200000020)]), (2, hr [1, 2, 3, 7] [(200000010, 200000010), (200000020, 200000020)]), (3, hr [2] [(200000020, 200000020)]), (4, hr [2] [(200000020, 200000020)])] [(7, hr [2, 3] [(200000020, 200000020)])] [(7, hr [1, 2] [(200000010, 200000010), (200000020, 200000020)])] [] Tryd.func15 (by kernel_rfl)
theorem is16 : IsFn Tryd.prog tab0.own 16 c16 15 [(4, none)] := isF [(0, hr [2, 3] [(3000, 200000020), (4000, 200000030)]), (1, hr [2, 3, 9] [(200000020, 200000020), (200000030, 200000030)]), (2, hk [4]), (3, hk [14]), (5, hk [4]), (4, hk [4])] [(9, hk []), (14, hk [])] [(9, hr [2, 3] [(200000020, 200000020), (200000030, 200000030)]), (14, hk [])] [] Tryd.func16 (by kernel_rfl)
theorem is4 : IsFn Tryd.prog tab0.own 4 c4 15 [(2, none)] := isF [(0, hr [1] [(2000, 200000010)]), (1, hr [1, 3] [(200000010, 200000010), (4000, 200000030)]), (2, hr [3, 4] [(200000030, 200000030), (5000, 200000040)]), (3, hk [14]), (5, hk [2]), (4, hk [2])] [(14, hk [])] [(14, hk [])] [] Tryd.func4 (by kernel_rfl)
theorem recR_fn : ∀ f N, recR f = some N → ∃ p, tab0.fn f = some p := by
  intro f N h
  simp only [recR, look] at h
  repeat (split at h; (rename_i e; subst e; exact ⟨_, rfl⟩))
  simp at h
def x68_ren : Go.Shelf.Ren := ⟨fun | 129 => 104 | 173 => 68 | 246 => 77 | 283 => 89 | 284 => 90 | 285 => 91 | 286 => 92 | 317 => 103 | 318 => 105 | 319 => 106 | 320 => 107 | 337 => 111 | 338 => 112 | n => n, fun | 0 => 0 | 2 => 2 | 3 => 3 | 4 => 4 | 5 => 5 | 9 => 9 | 20 => 20 | 37 => 46 | 46 => 104 | 51 => 127 | 53 => 101 | 171 => 114 | 173 => 117 | 212 => 126 | 213 => 128 | 232 => 142 | 233 => 143 | n => n, fun | 17 => 4 | 18 => 7 | 19 => 8 | n => n⟩
theorem x68_lay : LaysM.n173 Tryd.prog x68_ren where
  mixed := by kernel_rfl
  f129 := Tryd.func104.trans (congrArg some (by kernel_rfl))
  f173 := Tryd.func68.trans (congrArg some (by kernel_rfl))
  f246 := Tryd.func77.trans (congrArg some (by kernel_rfl))
  f283 := Tryd.func89.trans (congrArg some (by kernel_rfl))
  f284 := Tryd.func90.trans (congrArg some (by kernel_rfl))
  f285 := Tryd.func91.trans (congrArg some (by kernel_rfl))
  f286 := Tryd.func92.trans (congrArg some (by kernel_rfl))
  f317 := Tryd.func103.trans (congrArg some (by kernel_rfl))
  f318 := Tryd.func105.trans (congrArg some (by kernel_rfl))
  f319 := Tryd.func106.trans (congrArg some (by kernel_rfl))
  f320 := Tryd.func107.trans (congrArg some (by kernel_rfl))
  f337 := Tryd.func111.trans (congrArg some (by kernel_rfl))
  f338 := Tryd.func112.trans (congrArg some (by kernel_rfl))
  t0 := Tryd.underlying0
  a0 := Tryd.isAgg0
  z0 := Tryd.sizeOf0
  v0 := Tryd.zeroValue0
  t2 := Tryd.underlying2
  a2 := Tryd.isAgg2
  z2 := Tryd.sizeOf2
  v2 := Tryd.zeroValue2
  t3 := Tryd.underlying3
  a3 := Tryd.isAgg3
  z3 := Tryd.sizeOf3
  v3 := Tryd.zeroValue3
  t4 := Tryd.underlying4
  a4 := Tryd.isAgg4
  z4 := Tryd.sizeOf4
  v4 := Tryd.zeroValue4
  t5 := Tryd.underlying5
  a5 := Tryd.isAgg5
  z5 := Tryd.sizeOf5
  v5 := Tryd.zeroValue5
  t9 := Tryd.underlying9
  a9 := Tryd.isAgg9
  z9 := Tryd.sizeOf9
  v9 := Tryd.zeroValue9
  t20 := Tryd.underlying20
  a20 := Tryd.isAgg20
  z20 := Tryd.sizeOf20
  v20 := Tryd.zeroValue20
  t37 := Tryd.underlying46
  a37 := Tryd.isAgg46
  z37 := Tryd.sizeOf46
  v37 := Tryd.zeroValue46
  t46 := Tryd.underlying104
  a46 := Tryd.isAgg104
  z46 := Tryd.sizeOf104
  v46 := Tryd.zeroValue104
  t51 := Tryd.underlying127
  a51 := Tryd.isAgg127
  z51 := Tryd.sizeOf127
  v51 := Tryd.zeroValue127
  t53 := Tryd.underlying101
  a53 := Tryd.isAgg101
  z53 := Tryd.sizeOf101
  v53 := Tryd.zeroValue101
  t171 := Tryd.underlying114
  a171 := Tryd.isAgg114
  z171 := Tryd.sizeOf114
  v171 := Tryd.zeroValue114
  t173 := Tryd.underlying117
  a173 := Tryd.isAgg117
  z173 := Tryd.sizeOf117
  v173 := Tryd.zeroValue117
  t212 := Tryd.underlying126
  a212 := Tryd.isAgg126
  z212 := Tryd.sizeOf126
  v212 := Tryd.zeroValue126
  t213 := Tryd.underlying128
  a213 := Tryd.isAgg128
  z213 := Tryd.sizeOf128
  t232 := Tryd.underlying142
  a232 := Tryd.isAgg142
  z232 := Tryd.sizeOf142
  v232 := Tryd.zeroValue142
  t233 := Tryd.underlying143
  a233 := Tryd.isAgg143
  z233 := Tryd.sizeOf143
  v233 := Tryd.zeroValue143
  g17 := by kernel_rfl
  g18 := by kernel_rfl
  g19 := by kernel_rfl
  i0 := by kernel_rfl
  i2 := by kernel_rfl
  i3 := by kernel_rfl
  i4 := by kernel_rfl
  i5 := by kernel_rfl
  i9 := by kernel_rfl
  i20 := by kernel_rfl
  i37 := by kernel_rfl
  i46 := by kernel_rfl
  i51 := by kernel_rfl
  i53 := by kernel_rfl
  i171 := by kernel_rfl
  i173 := by kernel_rfl
  i212 := by kernel_rfl
  i232 := by kernel_rfl
  i233 := by kernel_rfl
  m17 := by kernel_rfl
  m18 := by kernel_rfl
  m19 := by kernel_rfl
theorem xs68 : SoundFn Tryd.prog (fun g => look g tabG) (tab0.own 68) 68 itoaF ∧ okFn Tryd.prog 68 := ⟨itoa_sound x68_lay (g := 4) (by kernel_rfl) rfl, ⟨Tryd.f68, Tryd.func68, by kernel_rfl, by kernel_rfl⟩⟩
theorem tabOk (fu : Nat) : TabOk Tryd.prog (tab fu) := recTab_ok (tabOk_ofG (l := tabL) (x := tabX) (by kernel_rfl) ⟨is14, is52, is28, is37, is34, is13, is57, is59, is58, is35, is60, is36, is15, is16, is4, trivial⟩ ⟨xs68, trivial⟩ (gs := tabG) (by decide)) recR_fn fu
attribute [local congr] ite_cong2 run_cg runR_cg plug_cg contV_cg contH_cg contT_cg contF_cg guardR_cg condX_cg evcA_cg evcB_cg evcC_cg evcE_cg evcH_cg levA_cg condJX_cg
def laws_toFate (p0 : SFate) : SFate :=
  p0
@[go_sem] theorem laws_toFate_ok (fu n : Nat) (q0_0 q0_1 : Int) (q0_2 q0_3 : Int) : lev (tab fu) (n + 1) 14 [.agg [.int .i64 q0_0, .int .i64 q0_1, .int .i64 q0_2, .int .i64 q0_3]] = (some (laws_toFate (SFate.mk q0_0 q0_1 q0_2 q0_3))).map fun r => (.agg [.int .i64 r.Kind, .int .i64 r.Delay, .int .i64 r.At, .int .i64 r.Bits], [.gone]) := by
  rw [lev_st (vc := c14) (nt := 17) (rs := [(2, some (some 4))]) ((tab_ext _ _ rfl).trans rfl) rfl (Nat.le_of_ble_eq_true rfl)]
  unfold c14
  simp +contextual -implicitDefEqProofs (maxSteps := 99999999) only [laws_toFate, subI, go_sem] <;> rfl
def spec_l1In_u1 (a1 a2 a3 : Int) : Bool :=
  if (decide (a1 ≥ a2)) = true then (decide (a1 ≤ a3))
  else false
def spec_l1In (p0 p1 p2 : Int) : Bool :=
  let y4 := spec_l1In_u1 p0 p1 p2
  y4
@[go_sem] theorem spec_l1In_u1_ok {β : Type} (fu n : Nat) (K : List (Kont β)) (a1 a2 a3 : Int) : run ⟨(tab fu).own, lev (tab fu) n, (tab fu).gl⟩ K c52_u1 ⟨[(0, .val (.int .i64 a1)), (1, .val (.int .i64 a2)), (2, .val (.int .i64 a3))], [], 15⟩ = (some (spec_l1In_u1 a1 a2 a3)).bind (fun t => plug ⟨(tab fu).own, lev (tab fu) n, (tab fu).gl⟩ K .normal ⟨[(6, .val (.bool t))], [], 15⟩) := by
  unfold c52_u1
  simp +contextual -implicitDefEqProofs (maxSteps := 99999999) only [spec_l1In_u1, subI, go_sem] <;> rfl
@[go_sem] theorem spec_l1In_ok (fu n : Nat) (q0_0 q1_0 q2_0 : Int) : lev (tab fu) (n + 1) 52 [.int .i64 q0_0, .int .i64 q1_0, .int .i64 q2_0] = (some (spec_l1In q0_0 q1_0 q2_0)).map fun r => (.bool r, [.gone, .gone, .gone]) := by
  rw [lev_st (vc := c52) (nt := 15) (rs := [(6, none)]) ((tab_ext _ _ rfl).trans rfl) rfl (Nat.le_of_ble_eq_true rfl)]
  unfold c52
  simp +contextual -implicitDefEqProofs (maxSteps := 99999999) only [spec_l1In, subI, go_sem] <;> rfl
def spec_FateFault_u1 (a1 a2 : Int) (a3 a4 : Int) (a5 : Bool) : Bool × Bool :=
  if (spec_l1In a1 0 3) = true then if (a1 == 0) = true then if (a2 != 0) = true then (a5, true)
      else if a5 = true then (true, false)
        else if (a3 != 0) = true then (false, true)
          else (false, (a4 != 0))
    else if a5 = true then (true, false)
      else if (a3 != 0) = true then (false, true)
        else (false, (a4 != 0))
  else (a5, true)
def spec_FateFault_u2 (a7 a8 : Int) (a9 a10 : Int) (a11 : Bool) : Bool :=
  if (spec_l1In a8 0 6) = true then if a11 = true then if (spec_l1In a9 0 1279) = true then (!(spec_l1In a10 1 65535))
      else true
    else false
  else true
def spec_FateFault (p0 : SFate) : Int :=
  let y6 := spec_FateFault_u1 p0.Kind p0.Delay p0.At p0.Bits ((p0.Kind == 3))
  if y6.2 = true then 1
  else let y12 := spec_FateFault_u2 p0.Kind p0.Delay p0.At p0.Bits y6.1
    if y12 = true then 3
    else 0
@[go_sem] theorem spec_FateFault_u1_ok {β : Type} (fu n : Nat) (K : List (Kont β)) (a1 a2 : Int) (a3 a4 : Int) (a5 : Bool) : run ⟨(tab fu).own, lev (tab fu) (n + 1), (tab fu).gl⟩ K c28_u1 ⟨[(1, .pt 200000010 0), (3, .val (.bool a5))], [(200000010, .var false [.val (.int .i64 a1), .val (.int .i64 a2), .val (.int .i64 a3), .val (.int .i64 a4)])], 54⟩ = (some (spec_FateFault_u1 a1 a2 a3 a4 a5)).bind (fun t => plug ⟨(tab fu).own, lev (tab fu) (n + 1), (tab fu).gl⟩ K .normal ⟨[(1, .pt 200000010 0), (3, .val (.bool t.1)), (34, .val (.bool t.2))], [(200000010, .var false [.val (.int .i64 a1), .val (.int .i64 a2), .val (.int .i64 a3), .val (.int .i64 a4)])], 54⟩) := by
  unfold c28_u1
  simp +contextual -implicitDefEqProofs (maxSteps := 99999999) only [spec_FateFault_u1, subI, go_sem] <;> rfl
@[go_sem] theorem spec_FateFault_u2_ok {β : Type} (fu n : Nat) (K : List (Kont β)) (a7 a8 : Int) (a9 a10 : Int) (a11 : Bool) : run ⟨(tab fu).own, lev (tab fu) (n + 1), (tab fu).gl⟩ K c28_u2 ⟨[(1, .pt 200000010 0), (3, .val (.bool a11))], [(200000010, .var false [.val (.int .i64 a7), .val (.int .i64 a8), .val (.int .i64 a9), .val (.int .i64 a10)])], 54⟩ = (some (spec_FateFault_u2 a7 a8 a9 a10 a11)).bind (fun t => plug ⟨(tab fu).own, lev (tab fu) (n + 1), (tab fu).gl⟩ K .normal ⟨[(53, .val (.bool t))], [], 54⟩) := by
  unfold c28_u2
  simp +contextual -implicitDefEqProofs (maxSteps := 99999999) only [spec_FateFault_u2, subI, go_sem] <;> rfl
@[go_sem] theorem spec_FateFault_ok (fu n : Nat) (q0_0 q0_1 : Int) (q0_2 q0_3 : Int) : lev (tab fu) (n + 2) 28 [.agg [.int .i64 q0_0, .int .i64 q0_1, .int .i64 q0_2, .int .i64 q0_3]] = (some (spec_FateFault (SFate.mk q0_0 q0_1 q0_2 q0_3))).map fun r => (.int .i64 r, [.gone]) := by
  rw [lev_st (vc := c28) (nt := 54) (rs := [(2, none)]) ((tab_ext _ _ rfl).trans rfl) rfl (Nat.le_of_ble_eq_true rfl)]
  unfold c28
  simp +contextual -implicitDefEqProofs (maxSteps := 99999999) only [spec_FateFault, subI, go_sem] <;> rfl
def spec_l1Digits_u1 (fu : Nat) (rec_ : Int → Option ((List UInt8))) (a3 : Int) : Option ((List UInt8)) :=
  (rec_ ((IntKind.i64.wrap (a3.tdiv (10 : Int))))).bind fun r4 =>
  (bytesI ([(IntKind.u8.wrap (IntKind.i64.wrap (48 + (a3.tmod (10 : Int)))))])).bind fun x5 =>
  if r4.length + x5.length ≤ 9223372036854775807 then some ((r4 ++ x5))
  else none
def spec_l1Digits_b (fu : Nat) (rec_ : Int → Option ((List UInt8))) (p0 : Int) : Option ((List UInt8)) :=
  if (decide (p0 < 0)) = true then (rec_ ((IntKind.i64.wrap (0 - p0)))).bind fun r1 =>
    if ([45] : List UInt8).length + r1.length ≤ 9223372036854775807 then some ((([45] : List UInt8) ++ r1))
    else none
  else if (decide (p0 < 10)) = true then (bytesI ([(IntKind.u8.wrap (IntKind.i64.wrap (48 + p0)))])).bind fun x2 =>
      some x2
    else (spec_l1Digits_u1 fu rec_ p0).bind fun y6 =>
      some y6
def spec_l1Digits : Nat → Int → Option ((List UInt8))
  | 0, _ => none
  | fu + 1, p0 => spec_l1Digits_b fu (spec_l1Digits fu) p0
class spec_l1DigitsRec (fu : Nat) : Prop where
  h : ∀ (n : Nat) (q0_0 : Int), lev (tab fu) (n + 1) 37 [.int .i64 q0_0] = (spec_l1Digits fu q0_0).map fun r => (.str r, [.gone])
@[go_sem] theorem spec_l1Digits_rec (fu n : Nat) [q : spec_l1DigitsRec fu] (q0_0 : Int) : lev (tab fu) (n + 1) 37 [.int .i64 q0_0] = (spec_l1Digits fu q0_0).map fun r => (.str r, [.gone]) := spec_l1DigitsRec.h n q0_0
@[go_sem] theorem spec_l1Digits_u1_ok {β : Type} (fu n : Nat) [spec_l1DigitsRec fu] (K : List (Kont β)) (a3 : Int) : run ⟨(tab fu).own, lev (tab fu) (n + 1), (tab fu).gl⟩ K c37_u1 ⟨[(0, .val (.int .i64 a3))], [], 28⟩ = (spec_l1Digits_u1 fu (spec_l1Digits fu) a3).bind (fun t => plug ⟨(tab fu).own, lev (tab fu) (n + 1), (tab fu).gl⟩ K .normal ⟨[(2, .val (.str t))], [], 28⟩) := by
  unfold c37_u1
  rw [run_alts]
  · simp +contextual -implicitDefEqProofs (maxSteps := 99999999) only [spec_l1Digits_u1, subI, go_sem] <;> (repeat first | rfl | refine bind_ext fun _ _ => ?_ | refine bind_swap fun _ _ _ _ => ?_)
  · refine ⟨?_, trivial⟩
    · simp +contextual -implicitDefEqProofs (maxSteps := 99999999) only [spec_l1Digits_u1, subI, go_sem] <;> (repeat first | rfl | refine bind_ext fun _ _ => ?_ | refine bind_swap fun _ _ _ _ => ?_)
theorem spec_l1Digits_st (fu n : Nat) (ds : List D) : lev (tab (fu + 1)) (n + 1) 37 ds = levA (tab fu) (0 + 1) c37 [(2, none)] (idsOf 0 ((tab fu).own 37) ds) ds (argsFr 0 ((tab fu).own 37) ds ⟨[], [], 28⟩) := lev_rec_st (T := tab0) (R := recR) rfl rfl (Nat.le_of_ble_eq_true rfl)
theorem spec_l1Digits_all (fu : Nat) : spec_l1DigitsRec fu := by
  induction fu with
  | zero => exact ⟨fun n q0_0 => lev_rec0 (T := tab0) (R := recR) (N := 0 + 1) rfl⟩
  | succ fu ih =>
    refine ⟨fun n q0_0 => ?_⟩
    rw [spec_l1Digits_st]
    unfold spec_l1Digits c37
    simp +contextual -implicitDefEqProofs (maxSteps := 99999999) only [spec_l1Digits_b, subI, go_sem] <;> rfl
instance (fu : Nat) : spec_l1DigitsRec fu := spec_l1Digits_all fu
theorem spec_l1Digits_ok (fu n : Nat) (q0_0 : Int) : lev (tab fu) (n + 1) 37 [.int .i64 q0_0] = (spec_l1Digits fu q0_0).map fun r => (.str r, [.gone]) := spec_l1Digits_rec fu n q0_0
def spec_l22Fate (fu : Nat) (p0 : SFate) : Option ((List UInt8)) :=
  if (p0.Kind == 1) = true then (spec_l1Digits fu p0.Delay).bind fun r1 =>
    if ([99, 111, 109, 101, 115, 58] : List UInt8).length + r1.length ≤ 9223372036854775807 then some ((([99, 111, 109, 101, 115, 58] : List UInt8) ++ r1))
    else none
  else if (p0.Kind == 2) = true then (spec_l1Digits fu p0.Delay).bind fun r2 =>
      if ([116, 119, 105, 99, 101, 58] : List UInt8).length + r2.length ≤ 9223372036854775807 then some ((([116, 119, 105, 99, 101, 58] : List UInt8) ++ r2))
      else none
    else if (p0.Kind == 3) = true then (spec_l1Digits fu p0.Delay).bind fun r3 =>
        if ([116, 117, 114, 110, 101, 100, 58] : List UInt8).length + r3.length ≤ 9223372036854775807 then if ((([116, 117, 114, 110, 101, 100, 58] : List UInt8) ++ r3)).length + ([58] : List UInt8).length ≤ 9223372036854775807 then (spec_l1Digits fu p0.At).bind fun r4 =>
            if ((((([116, 117, 114, 110, 101, 100, 58] : List UInt8) ++ r3)) ++ ([58] : List UInt8))).length + r4.length ≤ 9223372036854775807 then if ((((((([116, 117, 114, 110, 101, 100, 58] : List UInt8) ++ r3)) ++ ([58] : List UInt8))) ++ r4)).length + ([58] : List UInt8).length ≤ 9223372036854775807 then (spec_l1Digits fu p0.Bits).bind fun r5 =>
                if ((((((((([116, 117, 114, 110, 101, 100, 58] : List UInt8) ++ r3)) ++ ([58] : List UInt8))) ++ r4)) ++ ([58] : List UInt8))).length + r5.length ≤ 9223372036854775807 then some ((((((((((([116, 117, 114, 110, 101, 100, 58] : List UInt8) ++ r3)) ++ ([58] : List UInt8))) ++ r4)) ++ ([58] : List UInt8))) ++ r5))
                else none
              else none
            else none
          else none
        else none
      else some ([108, 111, 115, 116])
@[go_sem] theorem spec_l22Fate_ok (fu n : Nat) (q0_0 q0_1 : Int) (q0_2 q0_3 : Int) : lev (tab fu) (n + 2) 34 [.agg [.int .i64 q0_0, .int .i64 q0_1, .int .i64 q0_2, .int .i64 q0_3]] = (spec_l22Fate fu (SFate.mk q0_0 q0_1 q0_2 q0_3)).map fun r => (.str r, [.gone]) := by
  rw [lev_st (vc := c34) (nt := 33) (rs := [(2, none)]) ((tab_ext _ _ rfl).trans rfl) rfl (Nat.le_of_ble_eq_true rfl)]
  unfold c34
  simp +contextual -implicitDefEqProofs (maxSteps := 99999999) only [spec_l22Fate, subI, go_sem] <;> rfl
def spec_FateText (fu : Nat) (p0 : SFate) : Option (STextResult) :=
  if ((spec_FateFault p0) != 0) = true then some ((STextResult.mk ((spec_FateFault p0)) ([])))
  else (spec_l22Fate fu p0).bind fun r1 =>
    some ((STextResult.mk 0 r1))
@[go_sem] theorem spec_FateText_ok (fu n : Nat) (q0_0 q0_1 : Int) (q0_2 q0_3 : Int) : lev (tab fu) (n + 3) 13 [.agg [.int .i64 q0_0, .int .i64 q0_1, .int .i64 q0_2, .int .i64 q0_3]] = (spec_FateText fu (SFate.mk q0_0 q0_1 q0_2 q0_3)).map fun r => (.agg [.int .i64 r.Code, .str r.Text], [.gone]) := by
  rw [lev_st (vc := c13) (nt := 13) (rs := [(2, some (some 2))]) ((tab_ext _ _ rfl).trans rfl) rfl (Nat.le_of_ble_eq_true rfl)]
  unfold c13
  simp +contextual -implicitDefEqProofs (maxSteps := 99999999) only [spec_FateText, subI, go_sem] <;> rfl
def impl_inRange_u1 (a1 a2 a3 : Int) : Bool :=
  if (decide (a2 ≤ a1)) = true then (decide (a1 ≤ a3))
  else false
def impl_inRange (p0 p1 p2 : Int) : Bool :=
  let y4 := impl_inRange_u1 p0 p1 p2
  y4
@[go_sem] theorem impl_inRange_u1_ok {β : Type} (fu n : Nat) (K : List (Kont β)) (a1 a2 a3 : Int) : run ⟨(tab fu).own, lev (tab fu) n, (tab fu).gl⟩ K c57_u1 ⟨[(0, .val (.int .i64 a1)), (1, .val (.int .i64 a2)), (2, .val (.int .i64 a3))], [], 15⟩ = (some (impl_inRange_u1 a1 a2 a3)).bind (fun t => plug ⟨(tab fu).own, lev (tab fu) n, (tab fu).gl⟩ K .normal ⟨[(6, .val (.bool t))], [], 15⟩) := by
  unfold c57_u1
  simp +contextual -implicitDefEqProofs (maxSteps := 99999999) only [impl_inRange_u1, subI, go_sem] <;> rfl
@[go_sem] theorem impl_inRange_ok (fu n : Nat) (q0_0 q1_0 q2_0 : Int) : lev (tab fu) (n + 1) 57 [.int .i64 q0_0, .int .i64 q1_0, .int .i64 q2_0] = (some (impl_inRange q0_0 q1_0 q2_0)).map fun r => (.bool r, [.gone, .gone, .gone]) := by
  rw [lev_st (vc := c57) (nt := 15) (rs := [(6, none)]) ((tab_ext _ _ rfl).trans rfl) rfl (Nat.le_of_ble_eq_true rfl)]
  unfold c57
  simp +contextual -implicitDefEqProofs (maxSteps := 99999999) only [impl_inRange, subI, go_sem] <;> rfl
def impl_codeIf (p0 : Bool) (p1 : Int) : Int :=
  if p0 = true then p1
  else 0
@[go_sem] theorem impl_codeIf_ok (fu n : Nat) (q0_0 : Bool) (q1_0 : Int) : lev (tab fu) (n + 1) 59 [.bool q0_0, .int .i64 q1_0] = (some (impl_codeIf q0_0 q1_0)).map fun r => (.int .i64 r, [.gone, .gone]) := by
  rw [lev_st (vc := c59) (nt := 7) (rs := [(4, none)]) ((tab_ext _ _ rfl).trans rfl) rfl (Nat.le_of_ble_eq_true rfl)]
  unfold c59
  simp +contextual -implicitDefEqProofs (maxSteps := 99999999) only [impl_codeIf, subI, go_sem] <;> rfl
def impl_first_s1 (a5 : List Int) (a6 : Int) : Int → Option ((Int) ⊕ (Unit ⊕ Int)) := fun a7 =>
  if (decide (a7 < a6)) = true then (getI a5 a7).bind fun x8 =>
    if (x8 != 0) = true then some ((.inr ((.inr x8))))
    else some ((.inl ((IntKind.i64.wrap (a7 + 1)))))
  else some ((.inr ((.inl (())))))
def impl_first (p0 : List Int) : Option (Int) :=
  (loopO (impl_first_s1 p0 ((p0.length : Int))) 0).bind fun t => (Sum.elim (fun y9 => some 0)
   (fun y10 => some y10)) t
@[go_sem] theorem impl_first_s1_ok {β : Type} (fu n : Nat) (K : List (Kont β)) (a5 : List Int) (a6 a7 : Int) : run ⟨(tab fu).own, lev (tab fu) n, (tab fu).gl⟩ K (.loop c58_u1) ⟨[(5, .val (.sh .lent 1 (rowE (eI .i64) a5))), (6, .val (.int .i64 a6)), (7, .val (.int .i64 a7))], [], 15⟩ = (loopO (impl_first_s1 a5 a6) a7).bind (fun t => (Sum.elim (fun t => plug ⟨(tab fu).own, lev (tab fu) n, (tab fu).gl⟩ K (.exit 0) ⟨[], [], 15⟩) (fun t => plug ⟨(tab fu).own, lev (tab fu) n, (tab fu).gl⟩ K .ret ⟨[(2, .val (.int .i64 t))], [], 15⟩)) t) := by
  refine loop_run (C := ⟨(tab fu).own, lev (tab fu) n, (tab fu).gl⟩) (K := K) (c := c58_u1) (impl_first_s1 a5 a6) (fun s => ⟨[(5, .val (.sh .lent 1 (rowE (eI .i64) a5))), (6, .val (.int .i64 a6)), (7, .val (.int .i64 s))], [], 15⟩) (fun t => (Sum.elim (fun t => plug ⟨(tab fu).own, lev (tab fu) n, (tab fu).gl⟩ K (.exit 0) ⟨[], [], 15⟩) (fun t => plug ⟨(tab fu).own, lev (tab fu) n, (tab fu).gl⟩ K .ret ⟨[(2, .val (.int .i64 t))], [], 15⟩)) t) (fun k s => ?_) a7
  unfold c58_u1
  simp +contextual -implicitDefEqProofs (maxSteps := 99999999) only [impl_first_s1, subI, go_sem] <;> rfl
@[go_sem] theorem impl_first_ok (fu n : Nat) (q0_0 : List Int) : lev (tab fu) (n + 1) 58 [.sh .lent 1 (rowE (eI .i64) q0_0)] = (impl_first q0_0).map fun r => (.int .i64 r, [.gone]) := by
  rw [lev_st (vc := c58) (nt := 15) (rs := [(2, none)]) ((tab_ext _ _ rfl).trans rfl) rfl (Nat.le_of_ble_eq_true rfl)]
  unfold c58
  simp +contextual -implicitDefEqProofs (maxSteps := 99999999) only [impl_first, subI, go_sem] <;> rfl
def impl_FateFault_u1 (a1 a2 : Int) (a3 a4 : Int) : Bool :=
  if (a1 != 3) = true then if (a3 != 0) = true then true
    else if (a4 != 0) = true then true
      else if (a1 == 0) = true then (a2 != 0)
        else false
  else if (a1 == 0) = true then (a2 != 0)
    else false
def impl_FateFault_u2 (a6 a7 : Int) (a8 a9 : Int) (a10 : Bool) : Bool :=
  if (impl_inRange a7 0 6) = true then if (a6 == 3) = true then if (impl_inRange a8 0 1279) = true then (!(impl_inRange a9 1 65535))
      else true
    else false
  else true
def impl_FateFault_u3 (a12 a13 : Int) (a14 a15 : Int) (a16 a17 : Bool) : Option (Int) :=
  if (impl_inRange a12 0 3) = true then (impl_first ([(impl_codeIf a16 1), (impl_codeIf a17 3)])).bind fun r18 =>
    some r18
  else (impl_first ([(impl_codeIf true 1), (impl_codeIf a17 3)])).bind fun r19 =>
    some r19
def impl_FateFault (p0 : SFate) : Option (Int) :=
  let y5 := impl_FateFault_u1 p0.Kind p0.Delay p0.At p0.Bits
  let y11 := impl_FateFault_u2 p0.Kind p0.Delay p0.At p0.Bits y5
  (impl_FateFault_u3 p0.Kind p0.Delay p0.At p0.Bits y5 y11).bind fun y20 =>
  some y20
@[go_sem] theorem impl_FateFault_u1_ok {β : Type} (fu n : Nat) (K : List (Kont β)) (a1 a2 : Int) (a3 a4 : Int) : run ⟨(tab fu).own, lev (tab fu) (n + 1), (tab fu).gl⟩ K c35_u1 ⟨[(1, .pt 200000010 0)], [(200000010, .var false [.val (.int .i64 a1), .val (.int .i64 a2), .val (.int .i64 a3), .val (.int .i64 a4)])], 61⟩ = (some (impl_FateFault_u1 a1 a2 a3 a4)).bind (fun t => plug ⟨(tab fu).own, lev (tab fu) (n + 1), (tab fu).gl⟩ K .normal ⟨[(1, .pt 200000010 0), (3, .val (.bool t))], [(200000010, .var false [.val (.int .i64 a1), .val (.int .i64 a2), .val (.int .i64 a3), .val (.int .i64 a4)])], 61⟩) := by
  unfold c35_u1
  simp +contextual -implicitDefEqProofs (maxSteps := 99999999) only [impl_FateFault_u1, subI, go_sem] <;> rfl
@[go_sem] theorem impl_FateFault_u2_ok {β : Type} (fu n : Nat) (K : List (Kont β)) (a6 a7 : Int) (a8 a9 : Int) (a10 : Bool) : run ⟨(tab fu).own, lev (tab fu) (n + 1), (tab fu).gl⟩ K c35_u2 ⟨[(1, .pt 200000010 0), (3, .val (.bool a10))], [(200000010, .var false [.val (.int .i64 a6), .val (.int .i64 a7), .val (.int .i64 a8), .val (.int .i64 a9)])], 61⟩ = (some (impl_FateFault_u2 a6 a7 a8 a9 a10)).bind (fun t => plug ⟨(tab fu).own, lev (tab fu) (n + 1), (tab fu).gl⟩ K .normal ⟨[(1, .pt 200000010 0), (3, .val (.bool a10)), (4, .val (.bool t))], [(200000010, .var false [.val (.int .i64 a6), .val (.int .i64 a7), .val (.int .i64 a8), .val (.int .i64 a9)])], 61⟩) := by
  unfold c35_u2
  simp +contextual -implicitDefEqProofs (maxSteps := 99999999) only [impl_FateFault_u2, subI, go_sem] <;> rfl
@[go_sem] theorem impl_FateFault_u3_ok {β : Type} (fu n : Nat) (K : List (Kont β)) (a12 a13 : Int) (a14 a15 : Int) (a16 a17 : Bool) : run ⟨(tab fu).own, lev (tab fu) (n + 1), (tab fu).gl⟩ K c35_u3 ⟨[(1, .pt 200000010 0), (3, .val (.bool a16)), (4, .val (.bool a17))], [(200000010, .var false [.val (.int .i64 a12), .val (.int .i64 a13), .val (.int .i64 a14), .val (.int .i64 a15)])], 61⟩ = (impl_FateFault_u3 a12 a13 a14 a15 a16 a17).bind (fun t => plug ⟨(tab fu).own, lev (tab fu) (n + 1), (tab fu).gl⟩ K .normal ⟨[(2, .val (.int .i64 t))], [], 61⟩) := by
  unfold c35_u3
  simp +contextual -implicitDefEqProofs (maxSteps := 99999999) only [impl_FateFault_u3, subI, go_sem] <;> rfl
@[go_sem] theorem impl_FateFault_ok (fu n : Nat) (q0_0 q0_1 : Int) (q0_2 q0_3 : Int) : lev (tab fu) (n + 2) 35 [.agg [.int .i64 q0_0, .int .i64 q0_1, .int .i64 q0_2, .int .i64 q0_3]] = (impl_FateFault (SFate.mk q0_0 q0_1 q0_2 q0_3)).map fun r => (.int .i64 r, [.gone]) := by
  rw [lev_st (vc := c35) (nt := 61) (rs := [(2, none)]) ((tab_ext _ _ rfl).trans rfl) rfl (Nat.le_of_ble_eq_true rfl)]
  unfold c35
  simp +contextual -implicitDefEqProofs (maxSteps := 99999999) only [impl_FateFault, subI, go_sem] <;> rfl
def strconv_FormatInt (p0 p1 : Int) : Option (List UInt8) := if okI64 p0 = true ∧ p1 = 10 then some (Lib.itoa p0) else none
@[go_sem] theorem strconv_FormatInt_ok (fu n : Nat) (q : Int) : lev (tab fu) (n + 1) 68 [.int .i64 q, .int .i64 10] = (strconv_FormatInt q 10).map fun r => (.str r, [.gone, .gone]) := by
  rw [lev_ext (F := itoaF) ((tab_ext _ _ rfl).trans rfl)]
  unfold itoaF strconv_FormatInt
  simp only []
  split <;> rfl
def impl_decimal (p0 : Int) : Option ((List UInt8)) :=
  (strconv_FormatInt p0 10).bind fun r1 =>
  some r1
@[go_sem] theorem impl_decimal_ok (fu n : Nat) (q0_0 : Int) : lev (tab fu) (n + 2) 60 [.int .i64 q0_0] = (impl_decimal q0_0).map fun r => (.str r, [.gone]) := by
  rw [lev_st (vc := c60) (nt := 5) (rs := [(2, none)]) ((tab_ext _ _ rfl).trans rfl) rfl (Nat.le_of_ble_eq_true rfl)]
  unfold c60
  simp +contextual -implicitDefEqProofs (maxSteps := 99999999) only [impl_decimal, subI, go_sem] <;> rfl
def impl_fateText_u1 (a1 a2 : Int) (a3 a4 : Int) : Option ((List UInt8)) :=
  if (a1 == 0) = true then some ([108, 111, 115, 116])
  else if (a1 == 1) = true then some ([99, 111, 109, 101, 115])
    else if (a1 == 2) = true then some ([116, 119, 105, 99, 101])
      else if (a1 == 3) = true then some ([116, 117, 114, 110, 101, 100])
        else none
def impl_fateText_u2 (a11 a12 : Int) (a13 a14 : Int) (a15 : List UInt8) (a16 : Bool) : Bool :=
  if a16 = true then true
  else (a11 == 2)
def impl_fateText_u3 (a18 a19 : Int) (a20 a21 : Int) (a22 : List UInt8) (a23 : Bool) : Option ((List UInt8)) :=
  if a23 = true then (impl_decimal a19).bind fun r24 =>
    if ([58] : List UInt8).length + r24.length ≤ 9223372036854775807 then if a22.length + ((([58] : List UInt8) ++ r24)).length ≤ 9223372036854775807 then some ((a22 ++ ((([58] : List UInt8) ++ r24))))
      else none
    else none
  else if (a18 == 3) = true then (impl_decimal a19).bind fun r25 =>
      if ([58] : List UInt8).length + r25.length ≤ 9223372036854775807 then if ((([58] : List UInt8) ++ r25)).length + ([58] : List UInt8).length ≤ 9223372036854775807 then (impl_decimal a20).bind fun r26 =>
          if ((((([58] : List UInt8) ++ r25)) ++ ([58] : List UInt8))).length + r26.length ≤ 9223372036854775807 then if ((((((([58] : List UInt8) ++ r25)) ++ ([58] : List UInt8))) ++ r26)).length + ([58] : List UInt8).length ≤ 9223372036854775807 then (impl_decimal a21).bind fun r27 =>
              if ((((((((([58] : List UInt8) ++ r25)) ++ ([58] : List UInt8))) ++ r26)) ++ ([58] : List UInt8))).length + r27.length ≤ 9223372036854775807 then if a22.length + ((((((((((([58] : List UInt8) ++ r25)) ++ ([58] : List UInt8))) ++ r26)) ++ ([58] : List UInt8))) ++ r27)).length ≤ 9223372036854775807 then some ((a22 ++ ((((((((((([58] : List UInt8) ++ r25)) ++ ([58] : List UInt8))) ++ r26)) ++ ([58] : List UInt8))) ++ r27))))
                else none
              else none
            else none
          else none
        else none
      else none
    else some a22
def impl_fateText_u4 (a6 a7 : Int) (a8 a9 : Int) (a10 : List UInt8) : Option ((List UInt8)) :=
  let y17 := impl_fateText_u2 a6 a7 a8 a9 a10 ((a6 == 1))
  (impl_fateText_u3 a6 a7 a8 a9 a10 y17).bind fun y28 =>
  some y28
def impl_fateText (p0 : SFate) : Option ((List UInt8)) :=
  (impl_fateText_u1 p0.Kind p0.Delay p0.At p0.Bits).bind fun y5 =>
  (impl_fateText_u4 p0.Kind p0.Delay p0.At p0.Bits y5).bind fun y29 =>
  some y29
@[go_sem] theorem impl_fateText_u1_ok {β : Type} (fu n : Nat) (K : List (Kont β)) (a1 a2 : Int) (a3 a4 : Int) : run ⟨(tab fu).own, lev (tab fu) (n + 2), (tab fu).gl⟩ K c36_u1 ⟨[(1, .pt 200000010 0)], [(200000010, .var false [.val (.int .i64 a1), .val (.int .i64 a2), .val (.int .i64 a3), .val (.int .i64 a4)])], 38⟩ = (impl_fateText_u1 a1 a2 a3 a4).bind (fun t => plug ⟨(tab fu).own, lev (tab fu) (n + 2), (tab fu).gl⟩ K .normal ⟨[(1, .pt 200000010 0), (3, .val (.str t))], [(200000010, .var false [.val (.int .i64 a1), .val (.int .i64 a2), .val (.int .i64 a3), .val (.int .i64 a4)])], 38⟩) := by
  unfold c36_u1
  simp +contextual -implicitDefEqProofs (maxSteps := 99999999) only [impl_fateText_u1, subI, go_sem] <;> rfl
@[go_sem] theorem impl_fateText_u2_ok {β : Type} (fu n : Nat) (K : List (Kont β)) (a11 a12 : Int) (a13 a14 : Int) (a15 : List UInt8) (a16 : Bool) : run ⟨(tab fu).own, lev (tab fu) (n + 2), (tab fu).gl⟩ K c36_u2 ⟨[(1, .pt 200000010 0), (3, .val (.str a15)), (9, .val (.int .i64 a11)), (10, .val (.bool a16))], [(200000010, .var false [.val (.int .i64 a11), .val (.int .i64 a12), .val (.int .i64 a13), .val (.int .i64 a14)])], 38⟩ = (some (impl_fateText_u2 a11 a12 a13 a14 a15 a16)).bind (fun t => plug ⟨(tab fu).own, lev (tab fu) (n + 2), (tab fu).gl⟩ K .normal ⟨[(1, .pt 200000010 0), (3, .val (.str a15)), (9, .val (.int .i64 a11)), (10, .val (.bool t))], [(200000010, .var false [.val (.int .i64 a11), .val (.int .i64 a12), .val (.int .i64 a13), .val (.int .i64 a14)])], 38⟩) := by
  unfold c36_u2
  simp +contextual -implicitDefEqProofs (maxSteps := 99999999) only [impl_fateText_u2, subI, go_sem] <;> rfl
@[go_sem] theorem impl_fateText_u3_ok {β : Type} (fu n : Nat) (K : List (Kont β)) (a18 a19 : Int) (a20 a21 : Int) (a22 : List UInt8) (a23 : Bool) : run ⟨(tab fu).own, lev (tab fu) (n + 2), (tab fu).gl⟩ K c36_u3 ⟨[(1, .pt 200000010 0), (3, .val (.str a22)), (9, .val (.int .i64 a18)), (10, .val (.bool a23))], [(200000010, .var false [.val (.int .i64 a18), .val (.int .i64 a19), .val (.int .i64 a20), .val (.int .i64 a21)])], 38⟩ = (impl_fateText_u3 a18 a19 a20 a21 a22 a23).bind (fun t => plug ⟨(tab fu).own, lev (tab fu) (n + 2), (tab fu).gl⟩ K .normal ⟨[(3, .val (.str t))], [], 38⟩) := by
  unfold c36_u3
  simp +contextual -implicitDefEqProofs (maxSteps := 99999999) only [impl_fateText_u3, subI, go_sem] <;> rfl
@[go_sem] theorem impl_fateText_u4_ok {β : Type} (fu n : Nat) (K : List (Kont β)) (a6 a7 : Int) (a8 a9 : Int) (a10 : List UInt8) : run ⟨(tab fu).own, lev (tab fu) (n + 2), (tab fu).gl⟩ K c36_u4 ⟨[(1, .pt 200000010 0), (3, .val (.str a10)), (9, .val (.int .i64 a6))], [(200000010, .var false [.val (.int .i64 a6), .val (.int .i64 a7), .val (.int .i64 a8), .val (.int .i64 a9)])], 38⟩ = (impl_fateText_u4 a6 a7 a8 a9 a10).bind (fun t => plug ⟨(tab fu).own, lev (tab fu) (n + 2), (tab fu).gl⟩ K .normal ⟨[(3, .val (.str t))], [], 38⟩) := by
  unfold c36_u4
  simp +contextual -implicitDefEqProofs (maxSteps := 99999999) only [impl_fateText_u4, subI, go_sem] <;> rfl
@[go_sem] theorem impl_fateText_ok (fu n : Nat) (q0_0 q0_1 : Int) (q0_2 q0_3 : Int) : lev (tab fu) (n + 3) 36 [.agg [.int .i64 q0_0, .int .i64 q0_1, .int .i64 q0_2, .int .i64 q0_3]] = (impl_fateText (SFate.mk q0_0 q0_1 q0_2 q0_3)).map fun r => (.str r, [.gone]) := by
  rw [lev_st (vc := c36) (nt := 38) (rs := [(2, none)]) ((tab_ext _ _ rfl).trans rfl) rfl (Nat.le_of_ble_eq_true rfl)]
  unfold c36
  simp +contextual -implicitDefEqProofs (maxSteps := 99999999) only [impl_fateText, subI, go_sem] <;> rfl
def impl_FateText (p0 : SFate) : Option (STextResult) :=
  (impl_FateFault p0).bind fun r1 =>
  if (r1 != 0) = true then some ((STextResult.mk r1 ([])))
  else (impl_fateText p0).bind fun r2 =>
    some ((STextResult.mk 0 r2))
@[go_sem] theorem impl_FateText_ok (fu n : Nat) (q0_0 q0_1 : Int) (q0_2 q0_3 : Int) : lev (tab fu) (n + 4) 15 [.agg [.int .i64 q0_0, .int .i64 q0_1, .int .i64 q0_2, .int .i64 q0_3]] = (impl_FateText (SFate.mk q0_0 q0_1 q0_2 q0_3)).map fun r => (.agg [.int .i64 r.Code, .str r.Text], [.gone]) := by
  rw [lev_st (vc := c15) (nt := 13) (rs := [(2, some (some 2))]) ((tab_ext _ _ rfl).trans rfl) rfl (Nat.le_of_ble_eq_true rfl)]
  unfold c15
  simp +contextual -implicitDefEqProofs (maxSteps := 99999999) only [impl_FateText, subI, go_sem] <;> rfl
def laws_eqTextResult (p0 p1 : STextResult) : Bool :=
  if (p0.Code != p1.Code) = true then false
  else if (p0.Text == p1.Text) = true then true
    else false
@[go_sem] theorem laws_eqTextResult_ok (fu n : Nat) (q0_0 : Int) (q0_1 : List UInt8) (q1_0 : Int) (q1_1 : List UInt8) : lev (tab fu) (n + 1) 16 [.agg [.int .i64 q0_0, .str q0_1], .agg [.int .i64 q1_0, .str q1_1]] = (some (laws_eqTextResult (STextResult.mk q0_0 q0_1) (STextResult.mk q1_0 q1_1))).map fun r => (.bool r, [.gone, .gone]) := by
  rw [lev_st (vc := c16) (nt := 15) (rs := [(4, none)]) ((tab_ext _ _ rfl).trans rfl) rfl (Nat.le_of_ble_eq_true rfl)]
  unfold c16
  simp +contextual -implicitDefEqProofs (maxSteps := 99999999) only [laws_eqTextResult, subI, go_sem] <;> rfl
def laws_FnExactFateText (fu : Nat) (p0 : SFate) : Option (Bool) :=
  (spec_FateText fu (((laws_toFate p0)))).bind fun r1 =>
  (impl_FateText (((laws_toFate p0)))).bind fun r2 =>
  if (laws_eqTextResult r2 r1) = true then some true
  else some false
@[go_sem] theorem laws_FnExactFateText_ok (fu n : Nat) (q0_0 q0_1 : Int) (q0_2 q0_3 : Int) : lev (tab fu) (n + 5) 4 [.agg [.int .i64 q0_0, .int .i64 q0_1, .int .i64 q0_2, .int .i64 q0_3]] = (laws_FnExactFateText fu (SFate.mk q0_0 q0_1 q0_2 q0_3)).map fun r => (.bool r, [.gone]) := by
  rw [lev_st (vc := c4) (nt := 15) (rs := [(2, none)]) ((tab_ext _ _ rfl).trans rfl) rfl (Nat.le_of_ble_eq_true rfl)]
  unfold c4
  simp +contextual -implicitDefEqProofs (maxSteps := 99999999) only [laws_FnExactFateText, subI, go_sem] <;> rfl
def SFate.Wf (s : SFate) : Prop := (WfI .i64 s.Kind) ∧ (WfI .i64 s.Delay) ∧ (WfI .i64 s.At) ∧ (WfI .i64 s.Bits)
theorem SFate.of {ds : List D} (h : OkL [.int .i64, .int .i64, .int .i64, .int .i64] ds) : ∃ s : SFate, ds = s.cells .lent ∧ s.Wf := by
  simp only [OkL, OkD] at h
  obtain ⟨_, _, rfl, ⟨x0, rfl, hx0⟩, ⟨_, _, rfl, ⟨x1, rfl, hx1⟩, ⟨_, _, rfl, ⟨x2, rfl, hx2⟩, ⟨_, _, rfl, ⟨x3, rfl, hx3⟩, rfl⟩⟩⟩⟩ := h
  exact ⟨⟨x0, x1, x2, x3⟩, rfl, ⟨⟨hx0.1, hx0.2⟩, ⟨hx1.1, hx1.2⟩, ⟨hx2.1, hx2.2⟩, ⟨hx3.1, hx3.2⟩⟩⟩
end
end FnExactFateText
end Go.Proofs.YtpioljlgmhehhaaDoor.Wm
