/- What the functions behind FnTellings come to, on plain values: written by a program. -/
import Derived.Test.YtimgmahlbodfiaaDoorWmC
import Derived.Test.YtimgmahlbodfiaaDoorRows
set_option linter.unusedSimpArgs false
set_option linter.unusedVariables false
set_option maxRecDepth 100000
set_option maxHeartbeats 20000000
namespace Go.Proofs.YtimgmahlbodfiaaDoor.Wm
open Go Go.Proofs
namespace FnTellings
noncomputable section
set_option linter.unusedSectionVars false
variable [MX]
structure Sl1Src where
  Code : List Int
  At : Int
def Sl1Src.cells (k : K) (s : Sl1Src) : List D := [.sh k 1 (rowE (eI .u8) s.Code), .int .i64 s.At]
attribute [go_sem] Sl1Src.cells
structure SFate where
  Kind : Int
  Delay : Int
  At : Int
  Bits : Int
def SFate.cells (k : K) (s : SFate) : List D := [.int .i64 s.Kind, .int .i64 s.Delay, .int .i64 s.At, .int .i64 s.Bits]
attribute [go_sem] SFate.cells
structure STextResult where
  Code : Int
  Text : List UInt8
def STextResult.cells (k : K) (s : STextResult) : List D := [.int .i64 s.Code, .str s.Text]
attribute [go_sem] STextResult.cells
structure SFateResult where
  Code : Int
  Fate : SFate
def SFateResult.cells (k : K) (s : SFateResult) : List D := [.int .i64 s.Code, .int .i64 s.Fate.Kind, .int .i64 s.Fate.Delay, .int .i64 s.Fate.At, .int .i64 s.Fate.Bits]
attribute [go_sem] SFateResult.cells
structure SIntResult where
  Code : Int
  Value : Int
def SIntResult.cells (k : K) (s : SIntResult) : List D := [.int .i64 s.Code, .int .i64 s.Value]
attribute [go_sem] SIntResult.cells
structure SStep where
  Frame : List Int
  A : SFate
  B : SFate
  R : SFate
def SStep.cells (k : K) (s : SStep) : List D := [.sh k 1 (rowE (eI .i64) s.Frame), .int .i64 s.A.Kind, .int .i64 s.A.Delay, .int .i64 s.A.At, .int .i64 s.A.Bits, .int .i64 s.B.Kind, .int .i64 s.B.Delay, .int .i64 s.B.At, .int .i64 s.B.Bits, .int .i64 s.R.Kind, .int .i64 s.R.Delay, .int .i64 s.R.At, .int .i64 s.R.Bits]
attribute [go_sem] SStep.cells
structure SWordsResult where
  Code : Int
  Words : List (List UInt8)
def SWordsResult.cells (k : K) (s : SWordsResult) : List D := [.int .i64 s.Code, .sh k 1 (rowE eS s.Words)]
attribute [go_sem] SWordsResult.cells
def c4 : Vc := (.seq (.region [ii 2 (.mov (.cst (.bool false)))] [] (sk [0])) (.seq (.region [mm 3 0, ii 4 (.len (.tmp 3)), ii 5 (.bin .gtr (.tmp 4) (ci 1048576)), mm 2 5] [] (sk [2])) .ret))
def c20 : Vc := (.seq (.region [ii 2 (.mov (.cst (.gone)))] [] (sk [0])) (.seq (.region [mm 3 0, ii 4 (.bld [.emp 1, .val (.int .i64 0)] [⟨0, none, (.tmp 3)⟩]), ii 5 (.box (some 2) (.tmp 4)), mm 2 5] [] (sr [2] [(6000, 200000020)])) .ret))
def c41_u1 : Vc := (.cond (.tmp 50) (sk [0, 1, 5, 6, 7]) (sk [0, 1, 5, 6, 7]) (.region [mm 51 7, ii 52 (.bin .mul (.tmp 51) (ci 251)), mm 53 0, ii 54 (.nchk (.tmp 53)), ii 55 (.fad 0 (.tmp 54)), ii 56 (.ld none (.tmp 55)), mm 57 5, ii 58 (.bin .add (.tmp 57) (ci 1)), mm 59 6, ii 60 (.bin .rem (.tmp 58) (.tmp 59)), ii 61 (.iad 1 (.tmp 56) (.tmp 60)), ii 62 (.ld none (.tmp 61)), ii 63 (.cvi .i64 (.tmp 62)), ii 64 (.bin .mul (.tmp 63) (ci 13)), ii 65 (.bin .add (.tmp 52) (.tmp 64)), mm 66 5, ii 67 (.bin .add (.tmp 65) (.tmp 66)), mm 7 67] [] (sk [0, 1, 5, 6, 7])) .skip)
def c41_u2 : Vc := (.cond (.tmp 69) (sk [0, 1, 5, 6, 7]) (sk [1, 7]) (.region [mm 70 7, ii 71 (.bin .mul (.tmp 70) (ci 257)), mm 72 0, ii 73 (.nchk (.tmp 72)), ii 74 (.fad 0 (.tmp 73)), ii 75 (.ld none (.tmp 74)), mm 76 5, ii 77 (.bin .add (.tmp 76) (ci 2)), mm 78 6, ii 79 (.bin .rem (.tmp 77) (.tmp 78)), ii 80 (.iad 1 (.tmp 75) (.tmp 79)), ii 81 (.ld none (.tmp 80)), ii 82 (.cvi .i64 (.tmp 81)), ii 83 (.bin .add (.tmp 71) (.tmp 82)), mm 7 83] [] (sk [1, 7])) .skip)
def c41 : Vc := (.seq (.region [ii 4 (.mov (ci 0))] [] (sk [0, 1])) (.seq (.region [mm 8 0, mm 9 0, ii 10 (.nchk (.tmp 9)), ii 11 (.fad 1 (.tmp 10)), ii 12 (.ld none (.tmp 11)), ii 13 (.bin .add (.tmp 12) (ci 1)), ii 14 (.nchk (.tmp 8)), ii 15 (.fad 1 (.tmp 14)), ⟨none, .st none (.tmp 15) (.tmp 13), none⟩] [] (sk [0, 1])) (.seq (.seq (.region [mm 16 1, ii 17 (.bin .lss (.tmp 16) (ci 1))] [] (sk [0, 1, 17])) (.cond (.tmp 17) s0 (sk [0, 1]) (.seq (.region [ii 4 (.mov (ci 0))] [] (sk [4])) .ret) .skip)) (.seq (.region [mm 18 0, ii 19 (.nchk (.tmp 18)), ii 20 (.fad 1 (.tmp 19)), ii 21 (.ld none (.tmp 20)), ii 22 (.bin .sub (.tmp 21) (ci 1)), mm 5 22] [] (sk [0, 1, 5])) (.seq (.region [mm 23 0, ii 24 (.nchk (.tmp 23)), ii 25 (.fad 0 (.tmp 24)), ii 26 (.ld none (.tmp 25)), ii 27 (.len (.tmp 26)), mm 6 27] [] (sk [0, 1, 5, 6])) (.seq (.seq (.region [mm 28 6, ii 29 (.bin .eql (.tmp 28) (ci 0))] [] (sk [0, 1, 5, 6, 29])) (.cond (.tmp 29) (sk [1, 5]) (sk [0, 1, 5, 6]) (.seq (.region [mm 30 5, ii 31 (.bin .mul (.tmp 30) (ci 7)), mm 32 1, ii 33 (.bin .rem (.tmp 31) (.tmp 32)), mm 4 33] [] (sk [4])) .ret) .skip)) (.seq (.region [mm 34 0, ii 35 (.nchk (.tmp 34)), ii 36 (.fad 0 (.tmp 35)), ii 37 (.ld none (.tmp 36)), mm 38 5, mm 39 6, ii 40 (.bin .rem (.tmp 38) (.tmp 39)), ii 41 (.iad 1 (.tmp 37) (.tmp 40)), ii 42 (.ld none (.tmp 41)), ii 43 (.cvi .i64 (.tmp 42)), mm 44 5, mm 45 6, ii 46 (.bin .quo (.tmp 44) (.tmp 45)), ii 47 (.bin .mul (.tmp 46) (ci 37)), ii 48 (.bin .add (.tmp 43) (.tmp 47)), mm 7 48] [] (sk [0, 1, 5, 6, 7])) (.seq (.seq (.region [mm 49 1, ii 50 (.bin .gtr (.tmp 49) (ci 200))] [] (sk [0, 1, 5, 6, 7, 50])) c41_u1) (.seq (.seq (.region [mm 68 1, ii 69 (.bin .gtr (.tmp 68) (ci 60000))] [] (sk [0, 1, 5, 6, 7, 69])) c41_u2) (.seq (.region [mm 84 7, mm 85 1, ii 86 (.bin .rem (.tmp 84) (.tmp 85)), mm 4 86] [] (sk [4])) .ret))))))))))
def c29 : Vc := (.seq (.region [ii 4 (.mov (ci 0))] [] (sk [0, 1])) (.seq (.region [mm 5 1, mm 6 0, mm 7 1, ii 8 (.len (.tmp 7)), ii 9 (.call (.cst (.fn 41 [])) [(.tmp 6), (.tmp 8)]), ii 10 (.iad 1 (.tmp 5) (.tmp 9)), ii 11 (.ld none (.tmp 10)), mm 4 11] [] (sk [4])) .ret))
def c24_u1 : Vc := (.cond (.tmp 15) (sr [0, 4, 14, 15] [(200000040, 200000040)]) (sr [0, 4, 14] [(200000040, 200000040)]) .skip (.region [ii 17 (.bin .eql (.tmp 14) (ci 1)), mm 15 17] [] (sr [0, 4, 14, 15] [(200000040, 200000040)])))
def c24 : Vc := (.seq (.region [ii 4 (.alc [.val (.int .i64 0), .val (.int .i64 0), .val (.int .i64 0), .val (.int .i64 0)])] [] (sr [0, 1, 4] [(5000, 200000040)])) (.seq (.seq (.region [mm 5 0, ii 6 (.call (.cst (.fn 41 [])) [(.tmp 5), (ci 10)]), mm 7 1, ii 8 (.bin .lss (.tmp 6) (.tmp 7))] [] (sr [0, 4, 8] [(200000040, 200000040)])) (.cond (.tmp 8) (sr [0, 4] [(200000040, 200000040)]) (sr [0, 4] [(200000040, 200000040)]) (.seq (.region [mm 9 0, ii 10 (.bsl 1 [.int .i64 0] 4 [⟨0, none, (ci 0)⟩, ⟨1, none, (ci 0)⟩, ⟨2, none, (ci 0)⟩, ⟨3, none, (ci 1)⟩]), ii 11 (.call (.cst (.fn 29 [])) [(.tmp 9), (.tmp 10)]), ii 12 (.bld [.val (.int .i64 0), .val (.int .i64 0), .val (.int .i64 0), .val (.int .i64 0)] [⟨0, none, (ci 1)⟩, ⟨1, none, (.tmp 11)⟩]), ⟨none, .st (some 4) (.tmp 4) (.tmp 12), none⟩] [] (sr [4] [(200000040, 200000040)])) .ret) .skip)) (.seq (.seq (.region [mm 13 0, ii 14 (.call (.cst (.fn 41 [])) [(.tmp 13), (ci 5)])] [] (sr [0, 4, 14] [(200000040, 200000040)])) (.block 0 (.seq (.seq (.region [ii 16 (.bin .eql (.tmp 14) (ci 0)), mm 15 16] [] (sr [0, 4, 14, 15] [(200000040, 200000040)])) c24_u1) (.cond (.tmp 15) (sr [0, 4, 14, 15] [(200000040, 200000040)]) (sr [0, 4, 14] [(200000040, 200000040)]) (.seq (.region [ii 18 (.bld [.val (.int .i64 0), .val (.int .i64 0), .val (.int .i64 0), .val (.int .i64 0)] []), ⟨none, .st (some 4) (.tmp 4) (.tmp 18), none⟩] [] (sr [4] [(200000040, 200000040)])) .ret) (.seq (.region [ii 20 (.bin .eql (.tmp 14) (ci 2)), mm 19 20] [] (sr [0, 4, 14, 19] [(200000040, 200000040)])) (.cond (.tmp 19) (sr [0, 4] [(200000040, 200000040)]) (sr [0, 4, 14] [(200000040, 200000040)]) (.seq (.region [mm 21 0, ii 22 (.call (.cst (.fn 41 [])) [(.tmp 21), (ci 7)]), ii 23 (.bld [.val (.int .i64 0), .val (.int .i64 0), .val (.int .i64 0), .val (.int .i64 0)] [⟨0, none, (ci 2)⟩, ⟨1, none, (.tmp 22)⟩]), ⟨none, .st (some 4) (.tmp 4) (.tmp 23), none⟩] [] (sr [4] [(200000040, 200000040)])) .ret) (.seq (.region [ii 25 (.bin .eql (.tmp 14) (ci 3)), mm 24 25] [] (sr [0, 4, 24] [(200000040, 200000040)])) (.cond (.tmp 24) (sr [0, 4] [(200000040, 200000040)]) (sr [0, 4] [(200000040, 200000040)]) (.seq (.region [mm 26 0, ii 27 (.call (.cst (.fn 41 [])) [(.tmp 26), (ci 3)]), mm 28 0, mm 29 0, ii 30 (.call (.cst (.fn 41 [])) [(.tmp 29), (ci 90)]), mm 31 0, ii 32 (.call (.cst (.fn 41 [])) [(.tmp 31), (ci 300)]), ii 33 (.bsl 1 [.int .i64 0] 3 [⟨0, none, (.tmp 30)⟩, ⟨1, none, (.tmp 32)⟩, ⟨2, none, (ci 0)⟩]), ii 34 (.call (.cst (.fn 29 [])) [(.tmp 28), (.tmp 33)]), mm 35 0, mm 36 0, ii 37 (.call (.cst (.fn 41 [])) [(.tmp 36), (ci 65535)]), ii 38 (.bin .add (ci 1) (.tmp 37)), ii 39 (.bsl 1 [.int .i64 0] 4 [⟨0, none, (ci 1)⟩, ⟨1, none, (ci 3)⟩, ⟨2, none, (ci 65535)⟩, ⟨3, none, (.tmp 38)⟩]), ii 40 (.call (.cst (.fn 29 [])) [(.tmp 35), (.tmp 39)]), ii 41 (.bld [.val (.int .i64 0), .val (.int .i64 0), .val (.int .i64 0), .val (.int .i64 0)] [⟨0, none, (ci 3)⟩, ⟨1, none, (.tmp 27)⟩, ⟨2, none, (.tmp 34)⟩, ⟨3, none, (.tmp 40)⟩]), ⟨none, .st (some 4) (.tmp 4) (.tmp 41), none⟩] [] (sr [4] [(200000040, 200000040)])) .ret) .skip)))))))) (.seq (.region [mm 42 0, ii 43 (.call (.cst (.fn 41 [])) [(.tmp 42), (ci 7)]), ii 44 (.bld [.val (.int .i64 0), .val (.int .i64 0), .val (.int .i64 0), .val (.int .i64 0)] [⟨0, none, (ci 1)⟩, ⟨1, none, (.tmp 43)⟩]), ⟨none, .st (some 4) (.tmp 4) (.tmp 44), none⟩] [] (sr [4] [(200000040, 200000040)])) .ret))))
def c23_u1 : Vc := (.cond (.tmp 7) (sr [0, 3, 4] [(200000030, 200000030), (200000040, 200000040)]) (sr [0, 3, 4, 6] [(200000030, 200000030), (200000040, 200000040)]) (.region [mm 9 0, ii 10 (.bsl 1 [.int .i64 0] 4 [⟨0, none, (.cst (.int .i64 ((-1))))⟩, ⟨1, none, (ci 4)⟩, ⟨2, none, (ci 0)⟩, ⟨3, none, (ci 3)⟩]), ii 11 (.call (.cst (.fn 29 [])) [(.tmp 9), (.tmp 10)]), ii 12 (.fad 0 (.tmp 3)), ⟨none, .st none (.tmp 12) (.tmp 11), none⟩] [] (sr [3, 4] [(200000030, 200000030), (200000040, 200000040)])) (.seq (.region [ii 14 (.bin .eql (.tmp 6) (ci 1)), mm 13 14] [] (sr [0, 3, 4, 6, 13] [(200000030, 200000030), (200000040, 200000040)])) (.cond (.tmp 13) (sr [0, 3, 4] [(200000030, 200000030), (200000040, 200000040)]) (sr [0, 3, 4, 6] [(200000030, 200000030), (200000040, 200000040)]) (.region [mm 15 0, ii 16 (.bsl 1 [.int .i64 0] 2 [⟨0, none, (.cst (.int .i64 ((-1))))⟩, ⟨1, none, (ci 7)⟩]), ii 17 (.call (.cst (.fn 29 [])) [(.tmp 15), (.tmp 16)]), ii 18 (.fad 1 (.tmp 3)), ⟨none, .st none (.tmp 18) (.tmp 17), none⟩] [] (sr [3, 4] [(200000030, 200000030), (200000040, 200000040)])) (.seq (.region [ii 20 (.bin .eql (.tmp 6) (ci 2)), mm 19 20] [] (sr [0, 3, 4, 6, 19] [(200000030, 200000030), (200000040, 200000040)])) (.cond (.tmp 19) (sr [0, 3, 4] [(200000030, 200000030), (200000040, 200000040)]) (sr [0, 3, 4, 6] [(200000030, 200000030), (200000040, 200000040)]) (.region [mm 21 0, ii 22 (.bsl 1 [.int .i64 0] 2 [⟨0, none, (ci 65536)⟩, ⟨1, none, (ci 1)⟩]), ii 23 (.call (.cst (.fn 29 [])) [(.tmp 21), (.tmp 22)]), ii 24 (.fad 3 (.tmp 3)), ⟨none, .st none (.tmp 24) (.tmp 23), none⟩] [] (sr [3, 4] [(200000030, 200000030), (200000040, 200000040)])) (.seq (.region [ii 26 (.bin .eql (.tmp 6) (ci 3)), mm 25 26] [] (sr [0, 3, 4, 25] [(200000030, 200000030), (200000040, 200000040)])) (.cond (.tmp 25) (sr [0, 3, 4] [(200000030, 200000030), (200000040, 200000040)]) (sr [3, 4] [(200000030, 200000030), (200000040, 200000040)]) (.region [mm 27 0, ii 28 (.bsl 1 [.int .i64 0] 2 [⟨0, none, (ci 1280)⟩, ⟨1, none, (.cst (.int .i64 ((-1))))⟩]), ii 29 (.call (.cst (.fn 29 [])) [(.tmp 27), (.tmp 28)]), ii 30 (.fad 2 (.tmp 3)), ⟨none, .st none (.tmp 30) (.tmp 29), none⟩] [] (sr [3, 4] [(200000030, 200000030), (200000040, 200000040)])) .skip)))))))
def c23_u2 : Vc := (.block 0 (.seq (.region [ii 8 (.bin .eql (.tmp 6) (ci 0)), mm 7 8] [] (sr [0, 3, 4, 6, 7] [(200000030, 200000030), (200000040, 200000040)])) c23_u1))
def c23 : Vc := (.seq (.region [ii 3 (.box (some 4) (.tmp 1)), ii 4 (.alc [.val (.int .i64 0), .val (.int .i64 0), .val (.int .i64 0), .val (.int .i64 0)])] [] (sr [0, 3, 4] [(4000, 200000030), (5000, 200000040)])) (.seq (.seq (.region [mm 5 0, ii 6 (.call (.cst (.fn 41 [])) [(.tmp 5), (ci 30)])] [] (sr [0, 3, 4, 6] [(200000030, 200000030), (200000040, 200000040)])) c23_u2) (.seq (.region [ii 31 (.ld (some 4) (.tmp 3)), ⟨none, .st (some 4) (.tmp 4) (.tmp 31), none⟩] [] (sr [4] [(200000040, 200000040)])) .ret)))
def c17 : Vc := (.seq (.region [ii 2 (.alc [.val (.int .i64 0), .val (.int .i64 0), .val (.int .i64 0), .val (.int .i64 0)])] [] (sr [0, 2] [(3000, 200000020)])) (.seq (.region [mm 4 0, ii 5 (.call (.cst (.fn 20 [])) [(.tmp 4)]), mm 3 5] [] (sr [2, 3] [(200000020, 200000020), (6000, 200000030)])) (.seq (.region [mm 6 3, mm 7 3, ii 8 (.call (.cst (.fn 24 [])) [(.tmp 7), (ci 4)]), ii 9 (.call (.cst (.fn 23 [])) [(.tmp 6), (.tmp 8)]), ⟨none, .st (some 4) (.tmp 2) (.tmp 9), none⟩] [] (sr [2] [(200000020, 200000020)])) .ret)))
def c5 : Vc := (.seq (.region [ii 2 (.alc [.val (.int .i64 0), .val (.int .i64 0), .val (.int .i64 0), .val (.int .i64 0)])] [] (sr [0, 2] [(3000, 200000020)])) (.seq (.region [mm 3 0, ii 4 (.call (.cst (.fn 17 [])) [(.tmp 3)]), ⟨none, .st (some 4) (.tmp 2) (.tmp 4), none⟩] [] (sr [2] [(200000020, 200000020)])) .ret))
def c37_u1 : Vc := (.region [mm 7 1, mm 8 0, ii 9 (.bin .leq (.tmp 7) (.tmp 8)), mm 10 9, ⟨some 11, .mov (.tmp 0), some (10, true)⟩, ⟨some 12, .mov (.tmp 2), some (10, true)⟩, ⟨some 13, .bin .leq (.tmp 11) (.tmp 12), some (10, true)⟩, ii 14 (.pick (.tmp 10) (.tmp 13) (.cst (.bool false))), mm 6 14] [] (sk [6]))
def c37 : Vc := (.seq (.region [ii 6 (.mov (.cst (.bool false)))] [] (sk [0, 1, 2])) (.seq c37_u1 .ret))
def c39 : Vc := (.seq (.region [ii 4 (.mov (ci 0))] [] (sk [0, 1])) (.seq (.seq (.region [mm 5 0] [] (sk [1, 5])) (.cond (.tmp 5) (sk [1]) s0 (.seq (.region [mm 6 1, mm 4 6] [] (sk [4])) .ret) .skip)) (.seq (.region [ii 4 (.mov (ci 0))] [] (sk [4])) .ret)))
def c38_u1 : Vc := (.seq (.region [ii 8 (.bin .lss (.tmp 7) (.tmp 6))] [] (sk [5, 6, 7, 8])) (.seq (.cond (.tmp 8) (sk [5, 6, 7]) s0 .skip (.exit 0)) (.seq (.block 1 (.seq (.region [ii 9 (.iad 1 (.tmp 5) (.tmp 7)), ii 10 (.ld none (.tmp 9)), mm 4 10] [] (sk [4, 5, 6, 7])) (.seq (.region [mm 11 4, ii 12 (.bin .neq (.tmp 11) (ci 0))] [] (sk [4, 5, 6, 7, 12])) (.cond (.tmp 12) (sk [4]) (sk [5, 6, 7]) (.seq (.region [mm 13 4, mm 2 13] [] (sk [2])) .ret) .skip)))) (.region [ii 14 (.bin .add (.tmp 7) (ci 1)), mm 7 14] [] (sk [5, 6, 7])))))
def c38 : Vc := (.seq (.region [ii 2 (.mov (ci 0))] [] (sk [0])) (.seq (.seq (.region [mm 5 0, ii 6 (.len (.tmp 5)), ii 7 (.mov (ci 0))] [] (sk [5, 6, 7])) (.block 0 (.loop c38_u1))) (.seq (.region [ii 2 (.mov (ci 0))] [] (sk [2])) .ret)))
def c18_u1 : Vc := (.region [ii 5 (.fad 0 (.tmp 1)), ii 6 (.ld none (.tmp 5)), ii 7 (.bin .neq (.tmp 6) (ci 3)), mm 8 7, ⟨some 9, .fad 2 (.tmp 1), some (8, true)⟩, ⟨some 10, .ld none (.tmp 9), some (8, true)⟩, ⟨some 11, .bin .neq (.tmp 10) (.cst (.int .i64 0)), some (8, true)⟩, ⟨some 12, .mov (.tmp 11), some (8, true)⟩, ⟨some 13, .fad 3 (.tmp 1), some (12, false)⟩, ⟨some 14, .ld none (.tmp 13), some (12, false)⟩, ⟨some 15, .bin .neq (.tmp 14) (.cst (.int .i64 0)), some (12, false)⟩, ⟨some 16, .pick (.tmp 12) (.cst (.bool true)) (.tmp 15), some (8, true)⟩, ii 17 (.pick (.tmp 8) (.tmp 16) (.cst (.bool false))), mm 18 17, ⟨some 19, .fad 0 (.tmp 1), some (18, false)⟩, ⟨some 20, .ld none (.tmp 19), some (18, false)⟩, ⟨some 21, .bin .eql (.tmp 20) (.cst (.int .i64 0)), some (18, false)⟩, ⟨some 22, .mov (.tmp 21), some (18, false)⟩, ⟨some 23, .fad 1 (.tmp 1), some (22, true)⟩, ⟨some 24, .ld none (.tmp 23), some (22, true)⟩, ⟨some 25, .bin .neq (.tmp 24) (.cst (.int .i64 0)), some (22, true)⟩, ⟨some 26, .pick (.tmp 22) (.tmp 25) (.cst (.bool false)), some (18, false)⟩, ii 27 (.pick (.tmp 18) (.cst (.bool true)) (.tmp 26)), mm 3 27] [] (sr [1, 3] [(200000010, 200000010)]))
def c18_u2 : Vc := (.region [ii 28 (.fad 1 (.tmp 1)), ii 29 (.ld none (.tmp 28)), ii 30 (.call (.cst (.fn 37 [])) [(.tmp 29), (ci 0), (ci 6)]), ii 31 (.un .not (.tmp 30)), mm 32 31, ⟨some 33, .fad 0 (.tmp 1), some (32, false)⟩, ⟨some 34, .ld none (.tmp 33), some (32, false)⟩, ⟨some 35, .bin .eql (.tmp 34) (.cst (.int .i64 3)), some (32, false)⟩, ⟨some 36, .mov (.tmp 35), some (32, false)⟩, ⟨some 37, .fad 2 (.tmp 1), some (36, true)⟩, ⟨some 38, .ld none (.tmp 37), some (36, true)⟩, ⟨some 39, .call (.cst (.fn 37 [])) [(.tmp 38), (.cst (.int .i64 0)), (.cst (.int .i64 1279))], some (36, true)⟩, ⟨some 40, .un .not (.tmp 39), some (36, true)⟩, ⟨some 41, .mov (.tmp 40), some (36, true)⟩, ⟨some 42, .fad 3 (.tmp 1), some (41, false)⟩, ⟨some 43, .ld none (.tmp 42), some (41, false)⟩, ⟨some 44, .call (.cst (.fn 37 [])) [(.tmp 43), (.cst (.int .i64 1)), (.cst (.int .i64 65535))], some (41, false)⟩, ⟨some 45, .un .not (.tmp 44), some (41, false)⟩, ⟨some 46, .pick (.tmp 41) (.cst (.bool true)) (.tmp 45), some (36, true)⟩, ⟨some 47, .pick (.tmp 36) (.tmp 46) (.cst (.bool false)), some (32, false)⟩, ii 48 (.pick (.tmp 32) (.cst (.bool true)) (.tmp 47)), mm 4 48] [] (sr [1, 3, 4] [(200000010, 200000010)]))
def c18_u3 : Vc := (.region [ii 49 (.fad 0 (.tmp 1)), ii 50 (.ld none (.tmp 49)), ii 51 (.call (.cst (.fn 37 [])) [(.tmp 50), (ci 0), (ci 3)]), ii 52 (.un .not (.tmp 51)), mm 53 52, ⟨some 54, .mov (.tmp 3), some (53, false)⟩, ii 55 (.pick (.tmp 53) (.cst (.bool true)) (.tmp 54)), ii 56 (.call (.cst (.fn 39 [])) [(.tmp 55), (ci 1)]), mm 57 4, ii 58 (.call (.cst (.fn 39 [])) [(.tmp 57), (ci 3)]), ii 59 (.bsl 1 [.int .i64 0] 2 [⟨0, none, (.tmp 56)⟩, ⟨1, none, (.tmp 58)⟩]), ii 60 (.call (.cst (.fn 38 [])) [(.tmp 59)]), mm 2 60] [] (sk [2]))
def c18 : Vc := (.seq (.region [ii 1 (.box (some 4) (.tmp 0)), ii 2 (.mov (ci 0))] [] (sr [1] [(2000, 200000010)])) (.seq c18_u1 (.seq c18_u2 (.seq c18_u3 .ret))))
def c40 : Vc := (.seq (.region [ii 2 (.mov (.cst (.str ([]))))] [] (sk [0])) (.seq (.region [mm 3 0, ii 4 (.call (.cst (.fn 50 [])) [(.tmp 3), (ci 10)]), mm 2 4] [] (sk [2])) .ret))
def c19_u1 : Vc := (.region [ii 4 (.fad 0 (.tmp 1)), ii 5 (.ld none (.tmp 4)), ii 6 (.iada 4 1 (.gl 0) (.tmp 5)), ii 7 (.ld none (.tmp 6)), mm 3 7] [] (sr [1, 3] [(200000010, 200000010)]))
def c19_u2 : Vc := (.cond (.tmp 10) (sr [1, 3, 9, 10] [(200000010, 200000010)]) (sr [1, 3, 9] [(200000010, 200000010)]) .skip (.region [ii 12 (.bin .eql (.tmp 9) (ci 2)), mm 10 12] [] (sr [1, 3, 9, 10] [(200000010, 200000010)])))
def c19_u3 : Vc := (.cond (.tmp 10) (sr [1, 3, 9, 10] [(200000010, 200000010)]) (sr [1, 3, 9] [(200000010, 200000010)]) (.region [mm 13 3, ii 14 (.fad 1 (.tmp 1)), ii 15 (.ld none (.tmp 14)), ii 16 (.call (.cst (.fn 40 [])) [(.tmp 15)]), ii 17 (.bin .add (.cst (.str ([58]))) (.tmp 16)), ii 18 (.bin .add (.tmp 13) (.tmp 17)), mm 3 18] [] (sk [3])) (.seq (.region [ii 20 (.bin .eql (.tmp 9) (ci 3)), mm 19 20] [] (sr [1, 3, 19] [(200000010, 200000010)])) (.cond (.tmp 19) (sr [1, 3] [(200000010, 200000010)]) (sk [3]) (.region [mm 21 3, ii 22 (.fad 1 (.tmp 1)), ii 23 (.ld none (.tmp 22)), ii 27 (.fad 2 (.tmp 1)), ii 28 (.ld none (.tmp 27)), ii 32 (.fad 3 (.tmp 1)), ii 33 (.ld none (.tmp 32)), ii 24 (.call (.cst (.fn 40 [])) [(.tmp 23)]), ii 25 (.bin .add (.cst (.str ([58]))) (.tmp 24)), ii 26 (.bin .add (.tmp 25) (.cst (.str ([58])))), ii 29 (.call (.cst (.fn 40 [])) [(.tmp 28)]), ii 30 (.bin .add (.tmp 26) (.tmp 29)), ii 31 (.bin .add (.tmp 30) (.cst (.str ([58])))), ii 34 (.call (.cst (.fn 40 [])) [(.tmp 33)]), ii 35 (.bin .add (.tmp 31) (.tmp 34)), ii 36 (.bin .add (.tmp 21) (.tmp 35)), mm 3 36] [] (sk [3])) .skip)))
def c19_u4 : Vc := (.block 0 (.seq (.seq (.region [ii 11 (.bin .eql (.tmp 9) (ci 1)), mm 10 11] [] (sr [1, 3, 9, 10] [(200000010, 200000010)])) c19_u2) c19_u3))
def c19 : Vc := (.seq (.region [ii 1 (.box (some 4) (.tmp 0)), ii 2 (.mov (.cst (.str ([]))))] [] (sr [1] [(2000, 200000010)])) (.seq c19_u1 (.seq (.seq (.region [ii 8 (.fad 0 (.tmp 1)), ii 9 (.ld none (.tmp 8))] [] (sr [1, 3, 9] [(200000010, 200000010)])) c19_u4) (.seq (.region [mm 37 3, mm 2 37] [] (sk [2])) .ret))))
def c6 : Vc := (.seq (.region [ii 1 (.box (some 4) (.tmp 0)), ii 2 (.alc [.val (.int .i64 0), .val (.str ([]))])] [] (sr [1, 2] [(2000, 200000010), (3000, 200000020)])) (.seq (.seq (.region [ii 4 (.ld (some 4) (.tmp 1)), ii 5 (.call (.cst (.fn 18 [])) [(.tmp 4)]), mm 3 5] [] (sr [1, 2, 3] [(200000010, 200000010), (200000020, 200000020)])) (.seq (.region [mm 6 3, ii 7 (.bin .neq (.tmp 6) (ci 0))] [] (sr [1, 2, 3, 7] [(200000010, 200000010), (200000020, 200000020)])) (.cond (.tmp 7) (sr [2, 3] [(200000020, 200000020)]) (sr [1, 2] [(200000010, 200000010), (200000020, 200000020)]) (.seq (.region [mm 8 3, ii 9 (.bld [.val (.int .i64 0), .val (.str ([]))] [⟨0, none, (.tmp 8)⟩]), ⟨none, .st (some 2) (.tmp 2) (.tmp 9), none⟩] [] (sr [2] [(200000020, 200000020)])) .ret) .skip))) (.seq (.region [ii 10 (.ld (some 4) (.tmp 1)), ii 11 (.call (.cst (.fn 19 [])) [(.tmp 10)]), ii 12 (.bld [.val (.int .i64 0), .val (.str ([]))] [⟨1, none, (.tmp 11)⟩]), ⟨none, .st (some 2) (.tmp 2) (.tmp 12), none⟩] [] (sr [2] [(200000020, 200000020)])) .ret)))
def c28_u1 : Vc := (.region [mm 18 0, ii 19 (.bin .quo (.tmp 18) (ci 10)), mm 21 0, ii 22 (.bin .rem (.tmp 21) (ci 10)), ii 23 (.bin .add (ci 48) (.tmp 22)), ii 24 (.cvi .u8 (.tmp 23)), ii 20 (.call (.cst (.fn 28 [])) [(.tmp 19)]), ii 25 (.bsl 1 [.int .u8 0] 1 [⟨0, none, (.tmp 24)⟩]), ii 26 (.cvs (.tmp 25)), ii 27 (.bin .add (.tmp 20) (.tmp 26)), mm 2 27] [[mm 18 0, ii 19 (.bin .quo (.tmp 18) (ci 10)), mm 21 0, ii 22 (.bin .rem (.tmp 21) (ci 10)), ii 23 (.bin .add (ci 48) (.tmp 22)), ii 24 (.cvi .u8 (.tmp 23)), ii 25 (.bsl 1 [.int .u8 0] 1 [⟨0, none, (.tmp 24)⟩]), ii 26 (.cvs (.tmp 25)), ii 20 (.call (.cst (.fn 28 [])) [(.tmp 19)]), ii 27 (.bin .add (.tmp 20) (.tmp 26)), mm 2 27]] (sk [2]))
def c28 : Vc := (.seq (.region [ii 2 (.mov (.cst (.str ([]))))] [] (sk [0])) (.seq (.block 0 (.seq (.region [mm 4 0, ii 5 (.bin .lss (.tmp 4) (ci 0)), mm 3 5] [] (sk [0, 3])) (.cond (.tmp 3) (sk [0]) (sk [0]) (.seq (.region [mm 6 0, ii 7 (.un .neg (.tmp 6)), ii 8 (.call (.cst (.fn 28 [])) [(.tmp 7)]), ii 9 (.bin .add (.cst (.str ([45]))) (.tmp 8)), mm 2 9] [] (sk [2])) .ret) (.seq (.region [mm 11 0, ii 12 (.bin .lss (.tmp 11) (ci 10)), mm 10 12] [] (sk [0, 10])) (.cond (.tmp 10) (sk [0]) (sk [0]) (.seq (.region [mm 13 0, ii 14 (.bin .add (ci 48) (.tmp 13)), ii 15 (.cvi .u8 (.tmp 14)), ii 16 (.bsl 1 [.int .u8 0] 1 [⟨0, none, (.tmp 15)⟩]), ii 17 (.cvs (.tmp 16)), mm 2 17] [] (sk [2])) .ret) .skip))))) (.seq c28_u1 .ret)))
def c22 : Vc := (.seq (.region [ii 1 (.box (some 4) (.tmp 0)), ii 2 (.mov (.cst (.str ([]))))] [] (sr [1] [(2000, 200000010)])) (.seq (.seq (.region [ii 3 (.fad 0 (.tmp 1)), ii 4 (.ld none (.tmp 3))] [] (sr [1, 4] [(200000010, 200000010)])) (.block 0 (.seq (.region [ii 6 (.bin .eql (.tmp 4) (ci 1)), mm 5 6] [] (sr [1, 4, 5] [(200000010, 200000010)])) (.cond (.tmp 5) (sr [1] [(200000010, 200000010)]) (sr [1, 4] [(200000010, 200000010)]) (.seq (.region [ii 7 (.fad 1 (.tmp 1)), ii 8 (.ld none (.tmp 7)), ii 9 (.call (.cst (.fn 28 [])) [(.tmp 8)]), ii 10 (.bin .add (.cst (.str ([99, 111, 109, 101, 115, 58]))) (.tmp 9)), mm 2 10] [] (sk [2])) .ret) (.seq (.region [ii 12 (.bin .eql (.tmp 4) (ci 2)), mm 11 12] [] (sr [1, 4, 11] [(200000010, 200000010)])) (.cond (.tmp 11) (sr [1] [(200000010, 200000010)]) (sr [1, 4] [(200000010, 200000010)]) (.seq (.region [ii 13 (.fad 1 (.tmp 1)), ii 14 (.ld none (.tmp 13)), ii 15 (.call (.cst (.fn 28 [])) [(.tmp 14)]), ii 16 (.bin .add (.cst (.str ([116, 119, 105, 99, 101, 58]))) (.tmp 15)), mm 2 16] [] (sk [2])) .ret) (.seq (.region [ii 18 (.bin .eql (.tmp 4) (ci 3)), mm 17 18] [] (sr [1, 17] [(200000010, 200000010)])) (.cond (.tmp 17) (sr [1] [(200000010, 200000010)]) s0 (.seq (.region [ii 19 (.fad 1 (.tmp 1)), ii 20 (.ld none (.tmp 19)), ii 24 (.fad 2 (.tmp 1)), ii 25 (.ld none (.tmp 24)), ii 29 (.fad 3 (.tmp 1)), ii 30 (.ld none (.tmp 29)), ii 21 (.call (.cst (.fn 28 [])) [(.tmp 20)]), ii 22 (.bin .add (.cst (.str ([116, 117, 114, 110, 101, 100, 58]))) (.tmp 21)), ii 23 (.bin .add (.tmp 22) (.cst (.str ([58])))), ii 26 (.call (.cst (.fn 28 [])) [(.tmp 25)]), ii 27 (.bin .add (.tmp 23) (.tmp 26)), ii 28 (.bin .add (.tmp 27) (.cst (.str ([58])))), ii 31 (.call (.cst (.fn 28 [])) [(.tmp 30)]), ii 32 (.bin .add (.tmp 28) (.tmp 31)), mm 2 32] [] (sk [2])) .ret) .skip)))))))) (.seq (.region [ii 2 (.mov (.cst (.str ([108, 111, 115, 116]))))] [] (sk [2])) .ret)))
def c32 : Vc := (.seq (.region [ii 4 (.mov (.cst (.bool false)))] [] (sk [0, 1])) (.seq (.region [mm 5 0, mm 6 1, ii 7 (.call (.cst (.fn 41 [])) [(.tmp 5), (.tmp 6)]), ii 8 (.bin .eql (.tmp 7) (ci 0)), mm 4 8] [] (sk [4])) .ret))
def c21_u1 : Vc := (.region [mm 6 1, ii 7 (.lens (.tmp 6)), ii 8 (.bin .lss (.tmp 7) (ci 1)), mm 9 8, ⟨some 10, .mov (.tmp 0), some (9, false)⟩, ⟨some 11, .call (.cst (.fn 32 [])) [(.tmp 10), (.cst (.int .i64 5))], some (9, false)⟩, ⟨some 12, .un .not (.tmp 11), some (9, false)⟩, ii 13 (.pick (.tmp 9) (.cst (.bool true)) (.tmp 12))] [] (sk [0, 1, 13]))
def c21 : Vc := (.seq (.region [ii 4 (.mov (.cst (.str ([]))))] [] (sk [0, 1])) (.seq (.seq c21_u1 (.cond (.tmp 13) (sk [1]) (sk [0, 1]) (.seq (.region [mm 14 1, mm 4 14] [] (sk [4])) .ret) .skip)) (.seq (.region [mm 15 0, mm 16 1, ii 17 (.lens (.tmp 16)), ii 18 (.call (.cst (.fn 41 [])) [(.tmp 15), (.tmp 17)]), mm 5 18] [] (sk [0, 1, 5])) (.seq (.seq (.region [mm 19 0, ii 20 (.call (.cst (.fn 32 [])) [(.tmp 19), (ci 2)])] [] (sk [0, 1, 5, 20])) (.cond (.tmp 20) (sk [1, 5]) (sk [0, 1, 5]) (.seq (.region [mm 21 1, mm 22 5, ii 23 (.ssl (.tmp 21) none (some (.tmp 22))), mm 24 1, mm 25 5, ii 26 (.bin .add (.tmp 25) (ci 1)), ii 27 (.ssl (.tmp 24) (some (.tmp 26)) none), ii 28 (.bin .add (.tmp 23) (.tmp 27)), mm 4 28] [] (sk [4])) .ret) .skip)) (.seq (.region [mm 29 1, mm 30 5, ii 31 (.ssl (.tmp 29) none (some (.tmp 30))), mm 32 0, mm 39 1, mm 40 5, ii 41 (.ssl (.tmp 39) (some (.tmp 40)) none), ii 33 (.bsl 1 [.int .i64 0] 5 [⟨0, none, (ci 58)⟩, ⟨1, none, (ci 48)⟩, ⟨2, none, (ci 45)⟩, ⟨3, none, (ci 32)⟩, ⟨4, none, (ci 120)⟩]), ii 34 (.call (.cst (.fn 29 [])) [(.tmp 32), (.tmp 33)]), ii 35 (.cvi .u8 (.tmp 34)), ii 36 (.bsl 1 [.int .u8 0] 1 [⟨0, none, (.tmp 35)⟩]), ii 37 (.cvs (.tmp 36)), ii 38 (.bin .add (.tmp 31) (.tmp 37)), ii 42 (.bin .add (.tmp 38) (.tmp 41)), mm 4 42] [] (sk [4])) .ret)))))
def c7 : Vc := (.seq (.region [ii 2 (.mov (.cst (.str ([]))))] [] (sk [0])) (.seq (.region [mm 4 0, ii 5 (.call (.cst (.fn 20 [])) [(.tmp 4)]), mm 3 5] [] (sr [3] [(6000, 200000030)])) (.seq (.region [mm 6 3, mm 7 3, mm 8 3, ii 9 (.call (.cst (.fn 24 [])) [(.tmp 8), (ci 4)]), ii 10 (.call (.cst (.fn 23 [])) [(.tmp 7), (.tmp 9)]), ii 11 (.call (.cst (.fn 22 [])) [(.tmp 10)]), ii 12 (.call (.cst (.fn 21 [])) [(.tmp 6), (.tmp 11)]), mm 2 12] [] (sk [2])) .ret)))
def c26_u1 : Vc := (.seq (.region [ii 9 (.bin .lss (.tmp 8) (.tmp 7))] [] (sk [0, 1, 7, 8, 9])) (.seq (.cond (.tmp 9) (sk [0, 1, 7, 8]) s0 .skip (.exit 0)) (.seq (.block 1 (.seq (.region [mm 10 8, mm 5 10] [] (sk [0, 1, 5, 7, 8])) (.seq (.region [mm 11 1, mm 12 0, mm 13 5, ii 14 (.iad 1 (.tmp 12) (.tmp 13)), ii 15 (.ld none (.tmp 14)), ii 16 (.bin .eql (.tmp 11) (.tmp 15))] [] (sk [0, 1, 5, 7, 8, 16])) (.cond (.tmp 16) (sk [5]) (sk [0, 1, 7, 8]) (.seq (.region [mm 17 5, mm 4 17] [] (sk [4])) .ret) .skip)))) (.region [ii 18 (.bin .add (.tmp 8) (ci 1)), mm 8 18] [] (sk [0, 1, 7, 8])))))
def c26 : Vc := (.seq (.region [ii 4 (.mov (ci 0))] [] (sk [0, 1])) (.seq (.seq (.region [mm 6 0, ii 7 (.len (.tmp 6)), ii 8 (.mov (ci 0))] [] (sk [0, 1, 7, 8])) (.block 0 (.loop c26_u1))) (.seq (.region [ii 4 (.mov (.cst (.int .i64 ((-1)))))] [] (sk [4])) .ret)))
def c70_u1 : Vc := (.region [mm 5 0, ii 6 (.lens (.tmp 5)), mm 7 1, ii 8 (.lens (.tmp 7)), ii 9 (.bin .geq (.tmp 6) (.tmp 8)), mm 10 9, ⟨some 11, .mov (.tmp 0), some (10, true)⟩, ⟨some 12, .mov (.tmp 1), some (10, true)⟩, ⟨some 13, .lens (.tmp 12), some (10, true)⟩, ⟨some 14, .ssl (.tmp 11) none (some (.tmp 13)), some (10, true)⟩, ⟨some 15, .mov (.tmp 1), some (10, true)⟩, ⟨some 16, .bin .eql (.tmp 14) (.tmp 15), some (10, true)⟩, ii 17 (.pick (.tmp 10) (.tmp 16) (.cst (.bool false))), mm 4 17] [] (sk [4]))
def c70 : Vc := (.seq (.region [ii 4 (.mov (.cst (.bool false)))] [] (sk [0, 1])) (.seq c70_u1 .ret))
def c56 : Vc := (.seq (.region [ii 4 (.mov (.cst (.str ([]))))] [] (sk [0, 1])) (.seq (.seq (.region [mm 5 0, mm 6 1, ii 7 (.call (.cst (.fn 70 [])) [(.tmp 5), (.tmp 6)])] [] (sk [0, 1, 7])) (.cond (.tmp 7) (sk [0, 1]) (sk [0]) (.seq (.region [mm 8 0, mm 9 1, ii 10 (.lens (.tmp 9)), ii 11 (.ssl (.tmp 8) (some (.tmp 10)) none), mm 4 11] [] (sk [4])) .ret) .skip)) (.seq (.region [mm 12 0, mm 4 12] [] (sk [4])) .ret)))
def c44 : Vc := (.seq (.region [ii 4 (.mov (.cst (.str ([]))))] [] (sk [0, 1])) (.seq (.region [mm 5 0, mm 6 1, ii 7 (.call (.cst (.fn 56 [])) [(.tmp 5), (.tmp 6)]), mm 4 7] [] (sk [4])) .ret))
def c27_u1 : Vc := (.region [mm 11 4, mm 12 5, ii 13 (.bine .eql (.tmp 12) (.cst (.err true))), mm 14 13, ⟨some 15, .mov (.tmp 4), some (14, true)⟩, ⟨some 16, .call (.cst (.fn 40 [])) [(.tmp 15)], some (14, true)⟩, ⟨some 17, .mov (.tmp 0), some (14, true)⟩, ⟨some 18, .bin .eql (.tmp 16) (.tmp 17), some (14, true)⟩, ii 19 (.pick (.tmp 14) (.tmp 18) (.cst (.bool false))), mm 20 19, ⟨some 21, .mov (.tmp 0), some (20, true)⟩, ⟨some 22, .call (.cst (.fn 44 [])) [(.tmp 21), (.cst (.str ([45])))], some (20, true)⟩, ⟨some 23, .lens (.tmp 22), some (20, true)⟩, ⟨some 24, .bin .leq (.tmp 23) (.cst (.int .i64 7)), some (20, true)⟩, ii 25 (.pick (.tmp 20) (.tmp 24) (.cst (.bool false))), mm 2 11, mm 3 25] [] (sk [2, 3]))
def c27 : Vc := (.seq (.region [ii 2 (.mov (ci 0)), ii 3 (.mov (.cst (.bool false)))] [] (sk [0])) (.seq (.region [mm 7 0, ii 8 (.call (.cst (.fn 43 [])) [(.tmp 7), (ci 10), (ci 64)]), mm 6 8, ii 9 (.ext 0 (.tmp 6)), ii 10 (.ext 1 (.tmp 6)), mm 4 9, mm 5 10] [] (sk [0, 4, 5])) (.seq c27_u1 .ret)))
def c8_u1 : Vc := (.region [ii 10 (.sla 4 (.gl 0)), mm 11 3, ii 12 (.iad 1 (.tmp 11) (ci 0)), ii 13 (.ld none (.tmp 12)), ii 16 (.bld [.val (.int .i64 0), .val (.int .i64 0), .val (.int .i64 0)] []), ii 14 (.call (.cst (.fn 26 [])) [(.tmp 10), (.tmp 13)]), ii 15 (.bld [.val (.int .i64 0), .val (.int .i64 0), .val (.int .i64 0), .val (.int .i64 0)] [⟨0, none, (.tmp 14)⟩]), ii 4 (.alc [.val (.int .i64 0), .val (.int .i64 0), .val (.int .i64 0), .val (.int .i64 0)]), ii 5 (.alc [.val (.int .i64 0), .val (.int .i64 0), .val (.int .i64 0)]), ⟨none, .st (some 4) (.tmp 4) (.tmp 15), none⟩, ⟨none, .st (some 3) (.tmp 5) (.tmp 16), none⟩] [[ii 10 (.sla 4 (.gl 0)), mm 11 3, ii 12 (.iad 1 (.tmp 11) (ci 0)), ii 13 (.ld none (.tmp 12)), ii 16 (.bld [.val (.int .i64 0), .val (.int .i64 0), .val (.int .i64 0)] []), ii 14 (.call (.cst (.fn 26 [])) [(.tmp 10), (.tmp 13)]), ii 15 (.bld [.val (.int .i64 0), .val (.int .i64 0), .val (.int .i64 0), .val (.int .i64 0)] [⟨0, none, (.tmp 14)⟩]), ii 5 (.alc [.val (.int .i64 0), .val (.int .i64 0), .val (.int .i64 0)]), ii 4 (.alc [.val (.int .i64 0), .val (.int .i64 0), .val (.int .i64 0), .val (.int .i64 0)]), ⟨none, .st (some 4) (.tmp 4) (.tmp 15), none⟩, ⟨none, .st (some 3) (.tmp 5) (.tmp 16), none⟩], [ii 10 (.sla 4 (.gl 0)), mm 11 3, ii 12 (.iad 1 (.tmp 11) (ci 0)), ii 13 (.ld none (.tmp 12)), ii 16 (.bld [.val (.int .i64 0), .val (.int .i64 0), .val (.int .i64 0)] []), ii 4 (.alc [.val (.int .i64 0), .val (.int .i64 0), .val (.int .i64 0), .val (.int .i64 0)]), ii 14 (.call (.cst (.fn 26 [])) [(.tmp 10), (.tmp 13)]), ii 15 (.bld [.val (.int .i64 0), .val (.int .i64 0), .val (.int .i64 0), .val (.int .i64 0)] [⟨0, none, (.tmp 14)⟩]), ii 5 (.alc [.val (.int .i64 0), .val (.int .i64 0), .val (.int .i64 0)]), ⟨none, .st (some 4) (.tmp 4) (.tmp 15), none⟩, ⟨none, .st (some 3) (.tmp 5) (.tmp 16), none⟩], [ii 10 (.sla 4 (.gl 0)), mm 11 3, ii 12 (.iad 1 (.tmp 11) (ci 0)), ii 13 (.ld none (.tmp 12)), ii 16 (.bld [.val (.int .i64 0), .val (.int .i64 0), .val (.int .i64 0)] []), ii 4 (.alc [.val (.int .i64 0), .val (.int .i64 0), .val (.int .i64 0), .val (.int .i64 0)]), ii 5 (.alc [.val (.int .i64 0), .val (.int .i64 0), .val (.int .i64 0)]), ii 14 (.call (.cst (.fn 26 [])) [(.tmp 10), (.tmp 13)]), ii 15 (.bld [.val (.int .i64 0), .val (.int .i64 0), .val (.int .i64 0), .val (.int .i64 0)] [⟨0, none, (.tmp 14)⟩]), ⟨none, .st (some 4) (.tmp 4) (.tmp 15), none⟩, ⟨none, .st (some 3) (.tmp 5) (.tmp 16), none⟩], [ii 10 (.sla 4 (.gl 0)), mm 11 3, ii 12 (.iad 1 (.tmp 11) (ci 0)), ii 13 (.ld none (.tmp 12)), ii 16 (.bld [.val (.int .i64 0), .val (.int .i64 0), .val (.int .i64 0)] []), ii 5 (.alc [.val (.int .i64 0), .val (.int .i64 0), .val (.int .i64 0)]), ii 14 (.call (.cst (.fn 26 [])) [(.tmp 10), (.tmp 13)]), ii 15 (.bld [.val (.int .i64 0), .val (.int .i64 0), .val (.int .i64 0), .val (.int .i64 0)] [⟨0, none, (.tmp 14)⟩]), ii 4 (.alc [.val (.int .i64 0), .val (.int .i64 0), .val (.int .i64 0), .val (.int .i64 0)]), ⟨none, .st (some 4) (.tmp 4) (.tmp 15), none⟩, ⟨none, .st (some 3) (.tmp 5) (.tmp 16), none⟩], [ii 10 (.sla 4 (.gl 0)), mm 11 3, ii 12 (.iad 1 (.tmp 11) (ci 0)), ii 13 (.ld none (.tmp 12)), ii 16 (.bld [.val (.int .i64 0), .val (.int .i64 0), .val (.int .i64 0)] []), ii 5 (.alc [.val (.int .i64 0), .val (.int .i64 0), .val (.int .i64 0)]), ii 4 (.alc [.val (.int .i64 0), .val (.int .i64 0), .val (.int .i64 0), .val (.int .i64 0)]), ii 14 (.call (.cst (.fn 26 [])) [(.tmp 10), (.tmp 13)]), ii 15 (.bld [.val (.int .i64 0), .val (.int .i64 0), .val (.int .i64 0), .val (.int .i64 0)] [⟨0, none, (.tmp 14)⟩]), ⟨none, .st (some 4) (.tmp 4) (.tmp 15), none⟩, ⟨none, .st (some 3) (.tmp 5) (.tmp 16), none⟩]] (sr [0, 2, 3, 4, 5] [(200000020, 200000020), (200000030, 200000030), (5000, 200000040), (6000, 200000050)]))
def c8_u4 : Vc := (.cond (.tmp 26) (sr [0, 2, 4, 5, 6, 7, 18, 19, 20] [(200000020, 200000020), (200000040, 200000040), (200000050, 200000050), (200000180, 200000180)]) (sr [0, 2, 4, 5, 18, 19, 20] [(200000020, 200000020), (200000040, 200000040), (200000050, 200000050), (200000180, 200000180)]) (.region [mm 28 6, mm 29 7, ii 30 (.call (.cst (.fn 27 [])) [(.tmp 29)]), mm 27 30, ii 31 (.ext 0 (.tmp 27)), ii 32 (.ext 1 (.tmp 27)), ii 33 (.iada 3 1 (.tmp 5) (.tmp 28)), ⟨none, .st none (.tmp 33) (.tmp 31), none⟩] [] (sr [0, 2, 4, 5, 18, 19, 20] [(200000020, 200000020), (200000040, 200000040), (200000050, 200000050), (200000180, 200000180)])) .skip)
def c8_u5 : Vc := (.block 1 (.seq (.region [mm 22 20, ii 23 (.iad 1 (.tmp 18) (.tmp 20)), ii 24 (.ld none (.tmp 23)), mm 6 22, mm 7 24] [] (sr [0, 2, 4, 5, 6, 7, 18, 19, 20] [(200000020, 200000020), (200000040, 200000040), (200000050, 200000050), (200000180, 200000180)])) (.seq (.region [mm 25 6, ii 26 (.bin .lss (.tmp 25) (ci 3))] [] (sr [0, 2, 4, 5, 6, 7, 18, 19, 20, 26] [(200000020, 200000020), (200000040, 200000040), (200000050, 200000050), (200000180, 200000180)])) c8_u4)))
def c8_u6 : Vc := (.seq (.region [ii 21 (.bin .lss (.tmp 20) (.tmp 19))] [] (sr [0, 2, 4, 5, 18, 19, 20, 21] [(200000020, 200000020), (200000040, 200000040), (200000050, 200000050), (200000180, 200000180)])) (.seq (.cond (.tmp 21) (sr [0, 2, 4, 5, 18, 19, 20] [(200000020, 200000020), (200000040, 200000040), (200000050, 200000050), (200000180, 200000180)]) (sr [0, 2, 4, 5] [(200000020, 200000020), (200000040, 200000040), (200000050, 200000050)]) .skip (.exit 0)) (.seq c8_u5 (.region [ii 34 (.bin .add (.tmp 20) (ci 1)), mm 20 34] [] (sr [0, 2, 4, 5, 18, 19, 20] [(200000020, 200000020), (200000040, 200000040), (200000050, 200000050), (200000180, 200000180)])))))
def c8_u7 : Vc := (.region [ii 35 (.iada 3 1 (.tmp 5) (ci 0)), ii 36 (.ld none (.tmp 35)), ii 37 (.iada 3 1 (.tmp 5) (ci 1)), ii 39 (.iada 3 1 (.tmp 5) (ci 2)), ii 41 (.fad 1 (.tmp 4)), ii 38 (.ld none (.tmp 37)), ii 40 (.ld none (.tmp 39)), ⟨none, .st none (.tmp 41) (.tmp 36), none⟩, ii 42 (.fad 2 (.tmp 4)), ⟨none, .st none (.tmp 42) (.tmp 38), none⟩, ii 43 (.fad 3 (.tmp 4)), ⟨none, .st none (.tmp 43) (.tmp 40), none⟩] [[ii 35 (.iada 3 1 (.tmp 5) (ci 0)), ii 36 (.ld none (.tmp 35)), ii 37 (.iada 3 1 (.tmp 5) (ci 1)), ii 39 (.iada 3 1 (.tmp 5) (ci 2)), ii 41 (.fad 1 (.tmp 4)), ii 38 (.ld none (.tmp 37)), ⟨none, .st none (.tmp 41) (.tmp 36), none⟩, ii 42 (.fad 2 (.tmp 4)), ii 40 (.ld none (.tmp 39)), ⟨none, .st none (.tmp 42) (.tmp 38), none⟩, ii 43 (.fad 3 (.tmp 4)), ⟨none, .st none (.tmp 43) (.tmp 40), none⟩], [ii 35 (.iada 3 1 (.tmp 5) (ci 0)), ii 36 (.ld none (.tmp 35)), ii 37 (.iada 3 1 (.tmp 5) (ci 1)), ii 39 (.iada 3 1 (.tmp 5) (ci 2)), ii 41 (.fad 1 (.tmp 4)), ii 38 (.ld none (.tmp 37)), ⟨none, .st none (.tmp 41) (.tmp 36), none⟩, ii 42 (.fad 2 (.tmp 4)), ⟨none, .st none (.tmp 42) (.tmp 38), none⟩, ii 40 (.ld none (.tmp 39)), ii 43 (.fad 3 (.tmp 4)), ⟨none, .st none (.tmp 43) (.tmp 40), none⟩], [ii 35 (.iada 3 1 (.tmp 5) (ci 0)), ii 36 (.ld none (.tmp 35)), ii 37 (.iada 3 1 (.tmp 5) (ci 1)), ii 39 (.iada 3 1 (.tmp 5) (ci 2)), ii 41 (.fad 1 (.tmp 4)), ii 40 (.ld none (.tmp 39)), ii 38 (.ld none (.tmp 37)), ⟨none, .st none (.tmp 41) (.tmp 36), none⟩, ii 42 (.fad 2 (.tmp 4)), ⟨none, .st none (.tmp 42) (.tmp 38), none⟩, ii 43 (.fad 3 (.tmp 4)), ⟨none, .st none (.tmp 43) (.tmp 40), none⟩], [ii 35 (.iada 3 1 (.tmp 5) (ci 0)), ii 36 (.ld none (.tmp 35)), ii 37 (.iada 3 1 (.tmp 5) (ci 1)), ii 39 (.iada 3 1 (.tmp 5) (ci 2)), ii 41 (.fad 1 (.tmp 4)), ii 40 (.ld none (.tmp 39)), ⟨none, .st none (.tmp 41) (.tmp 36), none⟩, ii 38 (.ld none (.tmp 37)), ii 42 (.fad 2 (.tmp 4)), ⟨none, .st none (.tmp 42) (.tmp 38), none⟩, ii 43 (.fad 3 (.tmp 4)), ⟨none, .st none (.tmp 43) (.tmp 40), none⟩], [ii 35 (.iada 3 1 (.tmp 5) (ci 0)), ii 36 (.ld none (.tmp 35)), ii 37 (.iada 3 1 (.tmp 5) (ci 1)), ii 39 (.iada 3 1 (.tmp 5) (ci 2)), ii 41 (.fad 1 (.tmp 4)), ⟨none, .st none (.tmp 41) (.tmp 36), none⟩, ii 38 (.ld none (.tmp 37)), ii 42 (.fad 2 (.tmp 4)), ii 40 (.ld none (.tmp 39)), ⟨none, .st none (.tmp 42) (.tmp 38), none⟩, ii 43 (.fad 3 (.tmp 4)), ⟨none, .st none (.tmp 43) (.tmp 40), none⟩], [ii 35 (.iada 3 1 (.tmp 5) (ci 0)), ii 36 (.ld none (.tmp 35)), ii 37 (.iada 3 1 (.tmp 5) (ci 1)), ii 39 (.iada 3 1 (.tmp 5) (ci 2)), ii 41 (.fad 1 (.tmp 4)), ⟨none, .st none (.tmp 41) (.tmp 36), none⟩, ii 38 (.ld none (.tmp 37)), ii 42 (.fad 2 (.tmp 4)), ⟨none, .st none (.tmp 42) (.tmp 38), none⟩, ii 40 (.ld none (.tmp 39)), ii 43 (.fad 3 (.tmp 4)), ⟨none, .st none (.tmp 43) (.tmp 40), none⟩]] (sr [0, 2, 4] [(200000020, 200000020), (200000040, 200000040)]))
def c8_u8 : Vc := (.region [ii 44 (.ld (some 4) (.tmp 4)), ii 45 (.call (.cst (.fn 18 [])) [(.tmp 44)]), ii 46 (.bin .neq (.tmp 45) (ci 0)), mm 47 46, ⟨some 48, .ld (some 4) (.tmp 4), some (47, false)⟩, ⟨some 49, .call (.cst (.fn 19 [])) [(.tmp 48)], some (47, false)⟩, ⟨some 50, .mov (.tmp 0), some (47, false)⟩, ⟨some 51, .bin .neq (.tmp 49) (.tmp 50), some (47, false)⟩, ii 52 (.pick (.tmp 47) (.cst (.bool true)) (.tmp 51))] [] (sr [2, 4, 52] [(200000020, 200000020), (200000040, 200000040)]))
def c8 : Vc := (.seq (.region [ii 2 (.alc [.val (.int .i64 0), .val (.int .i64 0), .val (.int .i64 0), .val (.int .i64 0), .val (.int .i64 0)])] [] (sr [0, 2] [(3000, 200000020)])) (.seq (.region [mm 8 0, ii 9 (.call (.cst (.fn 25 [])) [(.tmp 8), (.cst (.str ([58])))]), mm 3 9] [] (sr [0, 2, 3] [(200000020, 200000020), (10000, 200000030)])) (.seq c8_u1 (.seq (.seq (.region [mm 17 3, ii 18 (.sli 1 (.tmp 17) (some (ci 1)) none none), ii 19 (.len (.tmp 18)), ii 20 (.mov (ci 0))] [] (sr [0, 2, 4, 5, 18, 19, 20] [(200000020, 200000020), (200000040, 200000040), (200000050, 200000050), (200000030, 200000180)])) (.block 0 (.loop c8_u6))) (.seq c8_u7 (.seq (.seq c8_u8 (.cond (.tmp 52) (sr [2] [(200000020, 200000020)]) (sr [2, 4] [(200000020, 200000020), (200000040, 200000040)]) (.seq (.region [ii 53 (.bld [.val (.int .i64 0), .val (.int .i64 0), .val (.int .i64 0), .val (.int .i64 0), .val (.int .i64 0)] [⟨0, none, (ci 5)⟩]), ⟨none, .st (some 5) (.tmp 2) (.tmp 53), none⟩] [] (sr [2] [(200000020, 200000020)])) .ret) .skip)) (.seq (.region [ii 54 (.ld (some 4) (.tmp 4)), ii 55 (.bld [.val (.int .i64 0), .val (.int .i64 0), .val (.int .i64 0), .val (.int .i64 0), .val (.int .i64 0)] [⟨1, some 4, (.tmp 54)⟩]), ⟨none, .st (some 5) (.tmp 2) (.tmp 55), none⟩] [] (sr [2] [(200000020, 200000020)])) .ret)))))))
def c30 : Vc := (.seq (.region [ii 4 (.mov (ci 0))] [] (sk [0, 1])) (.seq (.region [mm 5 0, mm 6 1, ii 7 (.bin .mul (ci 2) (.tmp 6)), ii 8 (.bin .add (.tmp 7) (ci 1)), ii 9 (.call (.cst (.fn 41 [])) [(.tmp 5), (.tmp 8)]), mm 10 1, ii 11 (.bin .sub (.tmp 9) (.tmp 10)), mm 4 11] [] (sk [4])) .ret))
def c9 : Vc := (.seq (.region [ii 2 (.mov (.cst (.str ([]))))] [] (sk [0])) (.seq (.region [mm 4 0, ii 5 (.call (.cst (.fn 20 [])) [(.tmp 4)]), mm 3 5] [] (sr [3] [(6000, 200000030)])) (.seq (.region [mm 6 3, mm 7 3, mm 8 3, ii 9 (.call (.cst (.fn 30 [])) [(.tmp 8), (ci 40000)]), mm 10 3, ii 11 (.call (.cst (.fn 30 [])) [(.tmp 10), (ci 40000)]), ii 12 (.bsl 1 [.int .i64 0] 8 [⟨0, none, (ci 0)⟩, ⟨1, none, (ci 7)⟩, ⟨2, none, (.cst (.int .i64 ((-7))))⟩, ⟨3, none, (ci 9999999)⟩, ⟨4, none, (.cst (.int .i64 ((-9999999))))⟩, ⟨5, none, (ci 10000000)⟩, ⟨6, none, (.tmp 9)⟩, ⟨7, none, (.tmp 11)⟩]), ii 13 (.call (.cst (.fn 29 [])) [(.tmp 7), (.tmp 12)]), ii 14 (.call (.cst (.fn 28 [])) [(.tmp 13)]), ii 15 (.call (.cst (.fn 21 [])) [(.tmp 6), (.tmp 14)]), mm 2 15] [] (sk [2])) .ret)))
def c10 : Vc := (.seq (.region [ii 2 (.alc [.val (.int .i64 0), .val (.int .i64 0)])] [] (sr [0, 2] [(3000, 200000020)])) (.seq (.region [mm 6 0, ii 7 (.call (.cst (.fn 27 [])) [(.tmp 6)]), mm 5 7, ii 8 (.ext 0 (.tmp 5)), ii 9 (.ext 1 (.tmp 5)), mm 3 8, mm 4 9] [] (sr [2, 3, 4] [(200000020, 200000020)])) (.seq (.seq (.region [mm 10 4, ii 11 (.un .not (.tmp 10))] [] (sr [2, 3, 11] [(200000020, 200000020)])) (.cond (.tmp 11) (sr [2] [(200000020, 200000020)]) (sr [2, 3] [(200000020, 200000020)]) (.seq (.region [ii 12 (.bld [.val (.int .i64 0), .val (.int .i64 0)] [⟨0, none, (ci 5)⟩]), ⟨none, .st (some 2) (.tmp 2) (.tmp 12), none⟩] [] (sr [2] [(200000020, 200000020)])) .ret) .skip)) (.seq (.region [mm 13 3, ii 14 (.bld [.val (.int .i64 0), .val (.int .i64 0)] [⟨1, none, (.tmp 13)⟩]), ⟨none, .st (some 2) (.tmp 2) (.tmp 14), none⟩] [] (sr [2] [(200000020, 200000020)])) .ret))))
def c71 : Vc := (.seq (.region [ii 2 (.mov (ci 0))] [] (sk [0])) (.seq (.block 0 (.seq (.region [mm 4 0, ii 5 (.bin .lss (.tmp 4) (.cst (.int .i64 ((-32768))))), mm 3 5] [] (sk [0, 3])) (.cond (.tmp 3) s0 (sk [0]) (.seq (.region [ii 2 (.mov (.cst (.int .i64 ((-32768)))))] [] (sk [2])) .ret) (.seq (.region [mm 7 0, ii 8 (.bin .gtr (.tmp 7) (ci 32767)), mm 6 8] [] (sk [0, 6])) (.cond (.tmp 6) s0 (sk [0]) (.seq (.region [ii 2 (.mov (ci 32767))] [] (sk [2])) .ret) .skip))))) (.seq (.region [mm 9 0, mm 2 9] [] (sk [2])) .ret)))
def c57_u3 : Vc := (.cond (.tmp 30) (sr [0, 1, 5, 6, 7, 8, 9] [(200000050, 200000050)]) (sr [0, 1, 5, 6, 7, 8, 9, 10, 29] [(200000050, 200000050)]) (.region [ii 10 (.mov (ci 0))] [] (sr [0, 1, 5, 6, 7, 8, 9, 10] [(200000050, 200000050)])) (.seq (.region [ii 33 (.bin .eql (.tmp 29) (ci 1)), mm 32 33] [] (sr [0, 1, 5, 6, 7, 8, 9, 10, 29, 32] [(200000050, 200000050)])) (.cond (.tmp 32) (sr [0, 1, 5, 6, 7, 8, 9] [(200000050, 200000050)]) (sr [0, 1, 5, 6, 7, 8, 9, 10, 29] [(200000050, 200000050)]) (.region [mm 34 0, ii 35 (.call (.cst (.fn 30 [])) [(.tmp 34), (ci 32767)]), mm 10 35] [] (sr [0, 1, 5, 6, 7, 8, 9, 10] [(200000050, 200000050)])) (.seq (.region [ii 37 (.bin .eql (.tmp 29) (ci 2)), mm 36 37] [] (sr [0, 1, 5, 6, 7, 8, 9, 10, 29, 36] [(200000050, 200000050)])) (.cond (.tmp 36) (sr [0, 1, 5, 6, 7, 8, 9] [(200000050, 200000050)]) (sr [0, 1, 5, 6, 7, 8, 9, 10, 29] [(200000050, 200000050)]) (.region [mm 38 0, ii 39 (.bsl 1 [.int .i64 0] 3 [⟨0, none, (ci 32767)⟩, ⟨1, none, (.cst (.int .i64 ((-32768))))⟩, ⟨2, none, (ci 0)⟩]), ii 40 (.call (.cst (.fn 29 [])) [(.tmp 38), (.tmp 39)]), mm 10 40] [] (sr [0, 1, 5, 6, 7, 8, 9, 10] [(200000050, 200000050)])) (.seq (.region [ii 42 (.bin .eql (.tmp 29) (ci 3)), mm 41 42] [] (sr [0, 1, 5, 6, 7, 8, 9, 10, 41] [(200000050, 200000050)])) (.cond (.tmp 41) (sr [0, 1, 5, 6, 7, 8, 9, 10] [(200000050, 200000050)]) (sr [0, 1, 5, 6, 7, 8, 9, 10] [(200000050, 200000050)]) (.region [mm 43 10, mm 44 0, ii 45 (.call (.cst (.fn 30 [])) [(.tmp 44), (ci 20)]), ii 46 (.bin .add (.tmp 43) (.tmp 45)), mm 10 46] [] (sr [0, 1, 5, 6, 7, 8, 9, 10] [(200000050, 200000050)])) .skip)))))))
def c57_u4 : Vc := (.block 2 (.seq (.region [ii 31 (.bin .eql (.tmp 29) (ci 0)), mm 30 31] [] (sr [0, 1, 5, 6, 7, 8, 9, 10, 29, 30] [(200000050, 200000050)])) c57_u3))
def c57_u5 : Vc := (.seq (.seq (.region [mm 19 9, mm 20 1, ii 21 (.bin .lss (.tmp 19) (.tmp 20))] [] (sr [0, 1, 5, 6, 7, 8, 9, 21] [(200000050, 200000050)])) (.cond (.tmp 21) (sr [0, 1, 5, 6, 7, 8, 9] [(200000050, 200000050)]) (sr [5] [(200000050, 200000050)]) .skip (.exit 0))) (.seq (.block 1 (.seq (.region [mm 24 6, mm 25 7, mm 26 9, ii 27 (.bin .mul (.tmp 25) (.tmp 26)), ii 28 (.bin .add (.tmp 24) (.tmp 27)), mm 10 28] [] (sr [0, 1, 5, 6, 7, 8, 9, 10] [(200000050, 200000050)])) (.seq (.seq (.region [mm 29 8] [] (sr [0, 1, 5, 6, 7, 8, 9, 10, 29] [(200000050, 200000050)])) c57_u4) (.region [mm 47 5, mm 48 10, ii 49 (.call (.cst (.fn 71 [])) [(.tmp 48)]), ii 50 (.bsl 1 [.int .i64 0] 1 [⟨0, none, (.tmp 49)⟩]), ii 51 (.app 1 8 (.tmp 47) (.tmp 50)), mm 5 51] [] (sr [0, 1, 5, 6, 7, 8, 9] [(52000, 200000050)]))))) (.region [mm 22 9, ii 23 (.bin .add (.tmp 22) (ci 1)), mm 9 23] [] (sr [0, 1, 5, 6, 7, 8, 9] [(200000050, 200000050)]))))
def c57 : Vc := (.seq (.region [ii 4 (.mov (.emp 1))] [] (sk [0, 1])) (.seq (.region [ii 11 (.bsl 1 [.int .i64 0] 0 []), mm 5 11] [] (sr [0, 1, 5] [(12000, 200000050)])) (.seq (.region [mm 12 0, ii 13 (.call (.cst (.fn 30 [])) [(.tmp 12), (ci 20000)]), mm 6 13] [] (sr [0, 1, 5, 6] [(200000050, 200000050)])) (.seq (.region [mm 14 0, ii 15 (.bsl 1 [.int .i64 0] 5 [⟨0, none, (ci 0)⟩, ⟨1, none, (ci 1)⟩, ⟨2, none, (ci 50)⟩, ⟨3, none, (ci 700)⟩, ⟨4, none, (.cst (.int .i64 ((-300))))⟩]), ii 16 (.call (.cst (.fn 29 [])) [(.tmp 14), (.tmp 15)]), mm 7 16] [] (sr [0, 1, 5, 6, 7] [(200000050, 200000050)])) (.seq (.region [mm 17 0, ii 18 (.call (.cst (.fn 41 [])) [(.tmp 17), (ci 5)]), mm 8 18] [] (sr [0, 1, 5, 6, 7, 8] [(200000050, 200000050)])) (.seq (.seq (.region [ii 9 (.mov (ci 0))] [] (sr [0, 1, 5, 6, 7, 8, 9] [(200000050, 200000050)])) (.block 0 (.loop c57_u5))) (.seq (.region [mm 52 5, mm 4 52] [] (sr [4] [(200000050, 200000040)])) .ret)))))))
def c58 : Vc := (.seq (.region [ii 2 (.alc [.val (.int .i64 0), .val (.int .i64 0), .val (.int .i64 0), .val (.int .i64 0)])] [] (sr [0, 2] [(3000, 200000020)])) (.seq (.seq (.region [mm 3 0, ii 4 (.call (.cst (.fn 32 [])) [(.tmp 3), (ci 4)])] [] (sr [0, 2, 4] [(200000020, 200000020)])) (.cond (.tmp 4) (sr [2] [(200000020, 200000020)]) (sr [0, 2] [(200000020, 200000020)]) (.seq (.region [ii 5 (.bld [.val (.int .i64 0), .val (.int .i64 0), .val (.int .i64 0), .val (.int .i64 0)] []), ⟨none, .st (some 4) (.tmp 2) (.tmp 5), none⟩] [] (sr [2] [(200000020, 200000020)])) .ret) .skip)) (.seq (.region [mm 6 0, ii 7 (.bsl 1 [.int .i64 0] 4 [⟨0, none, (ci 0)⟩, ⟨1, none, (ci 0)⟩, ⟨2, none, (ci 1)⟩, ⟨3, none, (ci 3)⟩]), ii 8 (.call (.cst (.fn 29 [])) [(.tmp 6), (.tmp 7)]), ii 9 (.bld [.val (.int .i64 0), .val (.int .i64 0), .val (.int .i64 0), .val (.int .i64 0)] [⟨0, none, (ci 1)⟩, ⟨1, none, (.tmp 8)⟩]), ⟨none, .st (some 4) (.tmp 2) (.tmp 9), none⟩] [] (sr [2] [(200000020, 200000020)])) .ret)))
def c45 : Vc := (.seq (.region [ii 6 (.alc [.emp 1, .val (.int .i64 0), .val (.int .i64 0), .val (.int .i64 0), .val (.int .i64 0), .val (.int .i64 0), .val (.int .i64 0), .val (.int .i64 0), .val (.int .i64 0), .val (.int .i64 0), .val (.int .i64 0), .val (.int .i64 0), .val (.int .i64 0)])] [] (sr [0, 1, 2, 6] [(7000, 200000060)])) (.seq (.region [mm 7 0, mm 8 1, ii 9 (.call (.cst (.fn 57 [])) [(.tmp 7), (.tmp 8)]), mm 10 0, mm 11 2, ii 12 (.call (.cst (.fn 24 [])) [(.tmp 10), (.tmp 11)]), mm 13 0, mm 14 2, ii 15 (.call (.cst (.fn 24 [])) [(.tmp 13), (.tmp 14)]), mm 16 0, ii 17 (.call (.cst (.fn 58 [])) [(.tmp 16)]), ii 18 (.bld [.emp 1, .val (.int .i64 0), .val (.int .i64 0), .val (.int .i64 0), .val (.int .i64 0), .val (.int .i64 0), .val (.int .i64 0), .val (.int .i64 0), .val (.int .i64 0), .val (.int .i64 0), .val (.int .i64 0), .val (.int .i64 0), .val (.int .i64 0)] [⟨0, none, (.tmp 9)⟩, ⟨1, some 4, (.tmp 12)⟩, ⟨5, some 4, (.tmp 15)⟩, ⟨9, some 4, (.tmp 17)⟩]), ⟨none, .st (some 13) (.tmp 6) (.tmp 18), none⟩] [] (sr [6] [(200000060, 200000060), (10000, 200000061)])) .ret))
def c46_u2 : Vc := (.cond (.tmp 12) (sk [0, 3, 4]) (sk [0, 3, 4]) (.region [mm 13 3, ii 14 (.bin .add (.tmp 13) (.cst (.str ([32])))), mm 3 14] [] (sk [0, 3, 4])) .skip)
def c46_u3 : Vc := (.seq (.seq (.region [mm 5 4, mm 6 0, ii 7 (.len (.tmp 6)), ii 8 (.bin .lss (.tmp 5) (.tmp 7))] [] (sk [0, 3, 4, 8])) (.cond (.tmp 8) (sk [0, 3, 4]) (sk [3]) .skip (.exit 0))) (.seq (.block 1 (.seq (.seq (.region [mm 11 4, ii 12 (.bin .gtr (.tmp 11) (ci 0))] [] (sk [0, 3, 4, 12])) c46_u2) (.region [mm 15 3, mm 16 0, mm 17 4, ii 18 (.iad 1 (.tmp 16) (.tmp 17)), ii 19 (.ld none (.tmp 18)), ii 20 (.call (.cst (.fn 28 [])) [(.tmp 19)]), ii 21 (.bin .add (.tmp 15) (.tmp 20)), mm 3 21] [] (sk [0, 3, 4])))) (.region [mm 9 4, ii 10 (.bin .add (.tmp 9) (ci 1)), mm 4 10] [] (sk [0, 3, 4]))))
def c46 : Vc := (.seq (.region [ii 2 (.mov (.cst (.str ([]))))] [] (sk [0])) (.seq (.region [ii 3 (.mov (.cst (.str ([]))))] [] (sk [0, 3])) (.seq (.seq (.region [ii 4 (.mov (ci 0))] [] (sk [0, 3, 4])) (.block 0 (.loop c46_u3))) (.seq (.region [mm 22 3, mm 2 22] [] (sk [2])) .ret))))
def c31 : Vc := (.seq (.region [ii 4 (.mov (.cst (.str ([]))))] [] (sk [0, 1])) (.seq (.region [mm 8 0, mm 9 1, mm 10 0, ii 11 (.bsl 1 [.int .i64 0] 2 [⟨0, none, (ci 4)⟩, ⟨1, none, (ci 9)⟩]), ii 12 (.call (.cst (.fn 29 [])) [(.tmp 10), (.tmp 11)]), ii 13 (.call (.cst (.fn 45 [])) [(.tmp 8), (.tmp 9), (.tmp 12)]), ii 5 (.alc [.emp 1, .val (.int .i64 0), .val (.int .i64 0), .val (.int .i64 0), .val (.int .i64 0), .val (.int .i64 0), .val (.int .i64 0), .val (.int .i64 0), .val (.int .i64 0), .val (.int .i64 0), .val (.int .i64 0), .val (.int .i64 0), .val (.int .i64 0)]), ⟨none, .st (some 13) (.tmp 5) (.tmp 13), none⟩] [] (sr [0, 5] [(6000, 200000050), (14000, 200000051)])) (.seq (.region [ii 14 (.bsl 1 [.str ([])] 12 [⟨0, none, (.cst (.str ([116, 105, 99, 107])))⟩, ⟨1, none, (.cst (.str ([110, 101, 120, 116])))⟩, ⟨2, none, (.cst (.str ([110, 117, 109, 98, 101, 114])))⟩, ⟨3, none, (.cst (.str ([102, 108, 121, 105, 110, 103])))⟩, ⟨4, none, (.cst (.str ([108, 111, 115, 115, 101, 115])))⟩, ⟨5, none, (.cst (.str ([112, 108, 97, 110])))⟩, ⟨6, none, (.cst (.str ([])))⟩, ⟨7, none, (.cst (.str ([32, 32])))⟩, ⟨8, none, (.cst (.str ([115, 97, 121])))⟩, ⟨9, none, (.cst (.str ([102, 111, 111])))⟩, ⟨10, none, (.cst (.str ([116, 105, 99, 107, 32, 116, 105, 99, 107])))⟩, ⟨11, none, (.cst (.str ([112, 108, 97, 110, 32, 120])))⟩]), mm 6 14] [] (sr [0, 5, 6] [(200000050, 200000050), (200000051, 200000051), (15000, 200000060)])) (.seq (.seq (.region [mm 15 0, ii 16 (.call (.cst (.fn 32 [])) [(.tmp 15), (ci 3)])] [] (sr [0, 5, 6, 16] [(200000050, 200000050), (200000051, 200000051), (200000060, 200000060)])) (.cond (.tmp 16) (sr [0, 6] [(200000060, 200000060)]) (sr [0, 5] [(200000050, 200000050), (200000051, 200000051)]) (.seq (.region [mm 17 6, mm 18 0, ii 19 (.call (.cst (.fn 41 [])) [(.tmp 18), (ci 12)]), ii 20 (.iad 1 (.tmp 17) (.tmp 19)), ii 21 (.ld none (.tmp 20)), mm 4 21] [] (sk [4])) .ret) .skip)) (.seq (.region [ii 22 (.fad 0 (.tmp 5)), ii 23 (.ld none (.tmp 22)), ii 27 (.fad 1 (.tmp 5)), ii 28 (.ld (some 4) (.tmp 27)), ii 32 (.fad 5 (.tmp 5)), ii 33 (.ld (some 4) (.tmp 32)), ii 37 (.fad 9 (.tmp 5)), ii 38 (.ld (some 4) (.tmp 37)), ii 24 (.call (.cst (.fn 46 [])) [(.tmp 23)]), ii 25 (.bin .add (.cst (.str ([115, 97, 121, 32]))) (.tmp 24)), ii 26 (.bin .add (.tmp 25) (.cst (.str ([32])))), ii 29 (.call (.cst (.fn 22 [])) [(.tmp 28)]), ii 30 (.bin .add (.tmp 26) (.tmp 29)), ii 31 (.bin .add (.tmp 30) (.cst (.str ([32])))), ii 34 (.call (.cst (.fn 22 [])) [(.tmp 33)]), ii 35 (.bin .add (.tmp 31) (.tmp 34)), ii 36 (.bin .add (.tmp 35) (.cst (.str ([32])))), ii 39 (.call (.cst (.fn 22 [])) [(.tmp 38)]), ii 40 (.bin .add (.tmp 36) (.tmp 39)), mm 7 40] [] (sk [0, 7])) (.seq (.region [mm 41 0, mm 42 7, ii 43 (.call (.cst (.fn 21 [])) [(.tmp 41), (.tmp 42)]), mm 4 43] [] (sk [4])) .ret))))))
def c11_u1 : Vc := (.seq (.seq (.region [mm 12 4, ii 13 (.lens (.tmp 12)), mm 14 3, ii 15 (.bsl 1 [.int .i64 0] 2 [⟨0, none, (ci 2000)⟩, ⟨1, none, (ci 2001)⟩]), ii 16 (.call (.cst (.fn 29 [])) [(.tmp 14), (.tmp 15)]), ii 17 (.bin .lss (.tmp 13) (.tmp 16))] [] (sr [3, 4, 17] [(200000030, 200000030)])) (.cond (.tmp 17) (sr [3, 4] [(200000030, 200000030)]) (sk [4]) .skip (.exit 0))) (.block 1 (.region [mm 18 4, ii 19 (.bin .add (.tmp 18) (.cst (.str ([97])))), mm 4 19] [] (sr [3, 4] [(200000030, 200000030)]))))
def c11_u2 : Vc := (.cond (.tmp 11) (sr [3, 4] [(200000030, 200000030)]) (sk [4]) (.block 0 (.loop c11_u1)) .skip)
def c11 : Vc := (.seq (.region [ii 2 (.mov (.cst (.str ([]))))] [] (sk [0])) (.seq (.region [mm 5 0, ii 6 (.call (.cst (.fn 20 [])) [(.tmp 5)]), mm 3 6] [] (sr [3] [(7000, 200000030)])) (.seq (.region [mm 7 3, ii 8 (.call (.cst (.fn 31 [])) [(.tmp 7), (ci 4)]), ii 9 (.bin .add (.cst (.str ([32]))) (.tmp 8)), mm 4 9] [] (sr [3, 4] [(200000030, 200000030)])) (.seq (.seq (.region [mm 10 3, ii 11 (.call (.cst (.fn 32 [])) [(.tmp 10), (ci 20)])] [] (sr [3, 4, 11] [(200000030, 200000030)])) c11_u2) (.seq (.region [mm 20 4, mm 2 20] [] (sk [2])) .ret)))))
def c33 : Vc := (.seq (.region [ii 2 (.mov (.emp 1))] [] (sk [0])) (.seq (.region [mm 3 0, ii 4 (.call (.cst (.fn 25 [])) [(.tmp 3), (.cst (.str ([32])))]), ii 5 (.call (.cst (.fn 47 [])) [(.tmp 4), (.cst (.fn 48 []))]), mm 2 5] [] (sr [2] [(6000, 200000020)])) .ret))
def c12 : Vc := (.seq (.region [ii 2 (.alc [.val (.int .i64 0), .emp 1])] [] (sr [0, 2] [(3000, 200000020)])) (.seq (.seq (.region [mm 3 0, ii 4 (.lens (.tmp 3)), ii 5 (.bin .gtr (.tmp 4) (ci 2000))] [] (sr [0, 2, 5] [(200000020, 200000020)])) (.cond (.tmp 5) (sr [2] [(200000020, 200000020)]) (sr [0, 2] [(200000020, 200000020)]) (.seq (.region [ii 6 (.bld [.val (.int .i64 0), .emp 1] [⟨0, none, (ci 2)⟩]), ⟨none, .st (some 2) (.tmp 2) (.tmp 6), none⟩] [] (sr [2] [(200000020, 200000020)])) .ret) .skip)) (.seq (.region [mm 7 0, ii 8 (.call (.cst (.fn 33 [])) [(.tmp 7)]), ii 9 (.bld [.val (.int .i64 0), .emp 1] [⟨1, none, (.tmp 8)⟩]), ⟨none, .st (some 2) (.tmp 2) (.tmp 9), none⟩] [] (sr [2] [(200000020, 200000020), (9000, 200000021)])) .ret)))
def c34_u1 : Vc := (.region [mm 7 0, mm 8 1, ii 9 (.bin .geq (.tmp 7) (.tmp 8)), mm 10 9, ⟨some 11, .mov (.tmp 0), some (10, true)⟩, ⟨some 12, .mov (.tmp 2), some (10, true)⟩, ⟨some 13, .bin .leq (.tmp 11) (.tmp 12), some (10, true)⟩, ii 14 (.pick (.tmp 10) (.tmp 13) (.cst (.bool false))), mm 6 14] [] (sk [6]))
def c34 : Vc := (.seq (.region [ii 6 (.mov (.cst (.bool false)))] [] (sk [0, 1, 2])) (.seq c34_u1 .ret))
def c13_u1 : Vc := (.region [ii 7 (.fad 0 (.tmp 1)), ii 8 (.ld none (.tmp 7)), ii 9 (.call (.cst (.fn 34 [])) [(.tmp 8), (ci 0), (ci 3)]), ii 10 (.un .not (.tmp 9)), mm 11 10, ⟨some 12, .fad 0 (.tmp 1), some (11, false)⟩, ⟨some 13, .ld none (.tmp 12), some (11, false)⟩, ⟨some 14, .bin .eql (.tmp 13) (.cst (.int .i64 0)), some (11, false)⟩, ⟨some 15, .mov (.tmp 14), some (11, false)⟩, ⟨some 16, .fad 1 (.tmp 1), some (15, true)⟩, ⟨some 17, .ld none (.tmp 16), some (15, true)⟩, ⟨some 18, .bin .neq (.tmp 17) (.cst (.int .i64 0)), some (15, true)⟩, ⟨some 19, .pick (.tmp 15) (.tmp 18) (.cst (.bool false)), some (11, false)⟩, ii 20 (.pick (.tmp 11) (.cst (.bool true)) (.tmp 19)), mm 21 20, ⟨some 22, .mov (.tmp 3), some (21, false)⟩, ⟨some 23, .un .not (.tmp 22), some (21, false)⟩, ⟨some 24, .mov (.tmp 23), some (21, false)⟩, ⟨some 25, .fad 2 (.tmp 1), some (24, true)⟩, ⟨some 26, .ld none (.tmp 25), some (24, true)⟩, ⟨some 27, .bin .neq (.tmp 26) (.cst (.int .i64 0)), some (24, true)⟩, ⟨some 28, .mov (.tmp 27), some (24, true)⟩, ⟨some 29, .fad 3 (.tmp 1), some (28, false)⟩, ⟨some 30, .ld none (.tmp 29), some (28, false)⟩, ⟨some 31, .bin .neq (.tmp 30) (.cst (.int .i64 0)), some (28, false)⟩, ⟨some 32, .pick (.tmp 28) (.cst (.bool true)) (.tmp 31), some (24, true)⟩, ⟨some 33, .pick (.tmp 24) (.tmp 32) (.cst (.bool false)), some (21, false)⟩, ii 34 (.pick (.tmp 21) (.cst (.bool true)) (.tmp 33))] [] (sr [1, 3, 34] [(200000010, 200000010)]))
def c13_u2 : Vc := (.region [ii 35 (.fad 1 (.tmp 1)), ii 36 (.ld none (.tmp 35)), ii 37 (.call (.cst (.fn 34 [])) [(.tmp 36), (ci 0), (ci 6)]), ii 38 (.un .not (.tmp 37)), mm 39 38, ⟨some 40, .mov (.tmp 3), some (39, false)⟩, ⟨some 41, .mov (.tmp 40), some (39, false)⟩, ⟨some 42, .fad 2 (.tmp 1), some (41, true)⟩, ⟨some 43, .ld none (.tmp 42), some (41, true)⟩, ⟨some 44, .call (.cst (.fn 34 [])) [(.tmp 43), (.cst (.int .i64 0)), (.cst (.int .i64 1279))], some (41, true)⟩, ⟨some 45, .un .not (.tmp 44), some (41, true)⟩, ⟨some 46, .mov (.tmp 45), some (41, true)⟩, ⟨some 47, .fad 3 (.tmp 1), some (46, false)⟩, ⟨some 48, .ld none (.tmp 47), some (46, false)⟩, ⟨some 49, .call (.cst (.fn 34 [])) [(.tmp 48), (.cst (.int .i64 1)), (.cst (.int .i64 65535))], some (46, false)⟩, ⟨some 50, .un .not (.tmp 49), some (46, false)⟩, ⟨some 51, .pick (.tmp 46) (.cst (.bool true)) (.tmp 50), some (41, true)⟩, ⟨some 52, .pick (.tmp 41) (.tmp 51) (.cst (.bool false)), some (39, false)⟩, ii 53 (.pick (.tmp 39) (.cst (.bool true)) (.tmp 52))] [] (sk [53]))
def c13 : Vc := (.seq (.region [ii 1 (.box (some 4) (.tmp 0)), ii 2 (.mov (ci 0))] [] (sr [1] [(2000, 200000010)])) (.seq (.region [ii 4 (.fad 0 (.tmp 1)), ii 5 (.ld none (.tmp 4)), ii 6 (.bin .eql (.tmp 5) (ci 3)), mm 3 6] [] (sr [1, 3] [(200000010, 200000010)])) (.seq (.seq c13_u1 (.cond (.tmp 34) s0 (sr [1, 3] [(200000010, 200000010)]) (.seq (.region [ii 2 (.mov (ci 1))] [] (sk [2])) .ret) .skip)) (.seq (.seq c13_u2 (.cond (.tmp 53) s0 s0 (.seq (.region [ii 2 (.mov (ci 3))] [] (sk [2])) .ret) .skip)) (.seq (.region [ii 2 (.mov (ci 0))] [] (sk [2])) .ret)))))
def c49_u4 : Vc := (.region [mm 15 7, mm 16 0, ii 17 (.lens (.tmp 16)), ii 18 (.bin .eql (.tmp 15) (.tmp 17)), mm 19 18, ⟨some 20, .mov (.tmp 0), some (19, false)⟩, ⟨some 21, .mov (.tmp 7), some (19, false)⟩, ⟨some 22, .sidx (.tmp 20) (.tmp 21), some (19, false)⟩, ⟨some 23, .mov (.tmp 1), some (19, false)⟩, ⟨some 24, .bin .eql (.tmp 22) (.tmp 23), some (19, false)⟩, ii 25 (.pick (.tmp 19) (.cst (.bool true)) (.tmp 24))] [] (sr [0, 1, 5, 6, 7, 25] [(200000050, 200000050)]))
def c49_u5 : Vc := (.cond (.tmp 25) (sr [0, 1, 5, 6, 7] [(200000050, 200000050)]) (sr [0, 1, 5, 6, 7] [(200000050, 200000050)]) (.seq (.region [mm 26 5, mm 27 0, mm 28 6, mm 29 7, ii 30 (.ssl (.tmp 27) (some (.tmp 28)) (some (.tmp 29))), ii 31 (.bsl 1 [.str ([])] 1 [⟨0, none, (.tmp 30)⟩]), ii 32 (.app 1 16 (.tmp 26) (.tmp 31)), mm 5 32] [] (sr [0, 1, 5, 7] [(33000, 200000050)])) (.region [mm 33 7, ii 34 (.bin .add (.tmp 33) (ci 1)), mm 6 34] [] (sr [0, 1, 5, 6, 7] [(200000050, 200000050)]))) .skip)
def c49_u6 : Vc := (.block 1 (.seq c49_u4 c49_u5))
def c49_u7 : Vc := (.seq (.seq (.region [mm 9 7, mm 10 0, ii 11 (.lens (.tmp 10)), ii 12 (.bin .leq (.tmp 9) (.tmp 11))] [] (sr [0, 1, 5, 6, 7, 12] [(200000050, 200000050)])) (.cond (.tmp 12) (sr [0, 1, 5, 6, 7] [(200000050, 200000050)]) (sr [5] [(200000050, 200000050)]) .skip (.exit 0))) (.seq c49_u6 (.region [mm 13 7, ii 14 (.bin .add (.tmp 13) (ci 1)), mm 7 14] [] (sr [0, 1, 5, 6, 7] [(200000050, 200000050)]))))
def c49 : Vc := (.seq (.region [ii 4 (.mov (.emp 1))] [] (sk [0, 1])) (.seq (.region [ii 8 (.bsl 1 [.str ([])] 0 []), mm 5 8] [] (sr [0, 1, 5] [(9000, 200000050)])) (.seq (.region [ii 6 (.mov (ci 0))] [] (sr [0, 1, 5, 6] [(200000050, 200000050)])) (.seq (.seq (.region [ii 7 (.mov (ci 0))] [] (sr [0, 1, 5, 6, 7] [(200000050, 200000050)])) (.block 0 (.loop c49_u7))) (.seq (.region [mm 35 5, mm 4 35] [] (sr [4] [(200000050, 200000040)])) .ret)))))
def c15_u1 : Vc := (.region [mm 8 0, ii 9 (.lens (.tmp 8)), ii 10 (.bin .gtr (.tmp 9) (ci 0)), mm 11 10, ⟨some 12, .mov (.tmp 0), some (11, true)⟩, ⟨some 13, .sidx (.tmp 12) (.cst (.int .i64 0)), some (11, true)⟩, ⟨some 14, .bin .eql (.tmp 13) (.cst (.int .u8 45)), some (11, true)⟩, ii 15 (.pick (.tmp 11) (.tmp 14) (.cst (.bool false)))] [] (sr [0, 2, 3, 4, 15] [(200000020, 200000020), (200000030, 200000030)]))
def c15_u2 : Vc := (.cond (.tmp 15) (sr [0, 2, 3] [(200000020, 200000020), (200000030, 200000030)]) (sr [0, 2, 3, 4] [(200000020, 200000020), (200000030, 200000030)]) (.region [ii 4 (.mov (ci 1))] [] (sr [0, 2, 3, 4] [(200000020, 200000020), (200000030, 200000030)])) .skip)
def c15_u3 : Vc := (.region [mm 16 0, ii 17 (.lens (.tmp 16)), mm 18 4, ii 19 (.bin .sub (.tmp 17) (.tmp 18)), ii 20 (.bin .lss (.tmp 19) (ci 1)), mm 21 20, ⟨some 22, .mov (.tmp 0), some (21, false)⟩, ⟨some 23, .lens (.tmp 22), some (21, false)⟩, ⟨some 24, .mov (.tmp 4), some (21, false)⟩, ⟨some 25, .bin .sub (.tmp 23) (.tmp 24), some (21, false)⟩, ⟨some 26, .bin .gtr (.tmp 25) (.cst (.int .i64 7)), some (21, false)⟩, ii 27 (.pick (.tmp 21) (.cst (.bool true)) (.tmp 26))] [] (sr [0, 2, 3, 4, 27] [(200000020, 200000020), (200000030, 200000030)]))
def c15_u5 : Vc := (.region [mm 36 0, mm 37 6, ii 38 (.sidx (.tmp 36) (.tmp 37)), ii 39 (.bin .lss (.tmp 38) (.cst (.int .u8 48))), mm 40 39, ⟨some 41, .mov (.tmp 0), some (40, false)⟩, ⟨some 42, .mov (.tmp 6), some (40, false)⟩, ⟨some 43, .sidx (.tmp 41) (.tmp 42), some (40, false)⟩, ⟨some 44, .bin .gtr (.tmp 43) (.cst (.int .u8 57)), some (40, false)⟩, ii 45 (.pick (.tmp 40) (.cst (.bool true)) (.tmp 44))] [] (sr [0, 2, 3, 4, 5, 6, 45] [(200000020, 200000020), (200000030, 200000030)]))
def c15_u6 : Vc := (.seq (.seq (.region [mm 30 6, mm 31 0, ii 32 (.lens (.tmp 31)), ii 33 (.bin .lss (.tmp 30) (.tmp 32))] [] (sr [0, 2, 3, 4, 5, 6, 33] [(200000020, 200000020), (200000030, 200000030)])) (.cond (.tmp 33) (sr [0, 2, 3, 4, 5, 6] [(200000020, 200000020), (200000030, 200000030)]) (sr [0, 2, 3, 4, 5] [(200000020, 200000020), (200000030, 200000030)]) .skip (.exit 0))) (.seq (.block 1 (.seq (.seq c15_u5 (.cond (.tmp 45) (sr [2, 3] [(200000020, 200000020), (200000030, 200000030)]) (sr [0, 2, 3, 4, 5, 6] [(200000020, 200000020), (200000030, 200000030)]) (.seq (.region [ii 46 (.ld (some 2) (.tmp 3)), ⟨none, .st (some 2) (.tmp 2) (.tmp 46), none⟩] [] (sr [2] [(200000020, 200000020)])) .ret) .skip)) (.region [mm 47 5, ii 48 (.bin .mul (.tmp 47) (ci 10)), mm 49 0, mm 50 6, ii 51 (.sidx (.tmp 49) (.tmp 50)), ii 52 (.bin .sub (.tmp 51) (.cst (.int .u8 48))), ii 53 (.cvi .i64 (.tmp 52)), ii 54 (.bin .add (.tmp 48) (.tmp 53)), mm 5 54] [] (sr [0, 2, 3, 4, 5, 6] [(200000020, 200000020), (200000030, 200000030)])))) (.region [mm 34 6, ii 35 (.bin .add (.tmp 34) (ci 1)), mm 6 35] [] (sr [0, 2, 3, 4, 5, 6] [(200000020, 200000020), (200000030, 200000030)]))))
def c15_u7 : Vc := (.cond (.tmp 56) (sr [0, 2, 3, 5] [(200000020, 200000020), (200000030, 200000030)]) (sr [0, 2, 3, 5] [(200000020, 200000020), (200000030, 200000030)]) (.region [mm 57 5, ii 58 (.un .neg (.tmp 57)), mm 5 58] [] (sr [0, 2, 3, 5] [(200000020, 200000020), (200000030, 200000030)])) .skip)
def c15 : Vc := (.seq (.region [ii 2 (.alc [.val (.int .i64 0), .val (.int .i64 0)])] [] (sr [0, 2] [(3000, 200000020)])) (.seq (.region [ii 7 (.bld [.val (.int .i64 0), .val (.int .i64 0)] [⟨0, none, (ci 5)⟩]), ii 3 (.alc [.val (.int .i64 0), .val (.int .i64 0)]), ⟨none, .st (some 2) (.tmp 3) (.tmp 7), none⟩] [] (sr [0, 2, 3] [(200000020, 200000020), (4000, 200000030)])) (.seq (.region [ii 4 (.mov (ci 0))] [] (sr [0, 2, 3, 4] [(200000020, 200000020), (200000030, 200000030)])) (.seq (.seq c15_u1 c15_u2) (.seq (.seq c15_u3 (.cond (.tmp 27) (sr [2, 3] [(200000020, 200000020), (200000030, 200000030)]) (sr [0, 2, 3, 4] [(200000020, 200000020), (200000030, 200000030)]) (.seq (.region [ii 28 (.ld (some 2) (.tmp 3)), ⟨none, .st (some 2) (.tmp 2) (.tmp 28), none⟩] [] (sr [2] [(200000020, 200000020)])) .ret) .skip)) (.seq (.region [ii 5 (.mov (ci 0))] [] (sr [0, 2, 3, 4, 5] [(200000020, 200000020), (200000030, 200000030)])) (.seq (.seq (.region [mm 29 4, mm 6 29] [] (sr [0, 2, 3, 4, 5, 6] [(200000020, 200000020), (200000030, 200000030)])) (.block 0 (.loop c15_u6))) (.seq (.seq (.region [mm 55 4, ii 56 (.bin .eql (.tmp 55) (ci 1))] [] (sr [0, 2, 3, 5, 56] [(200000020, 200000020), (200000030, 200000030)])) c15_u7) (.seq (.seq (.region [mm 59 5, ii 60 (.call (.cst (.fn 28 [])) [(.tmp 59)]), mm 61 0, ii 62 (.bin .neq (.tmp 60) (.tmp 61))] [] (sr [2, 3, 5, 62] [(200000020, 200000020), (200000030, 200000030)])) (.cond (.tmp 62) (sr [2, 3] [(200000020, 200000020), (200000030, 200000030)]) (sr [2, 5] [(200000020, 200000020)]) (.seq (.region [ii 63 (.ld (some 2) (.tmp 3)), ⟨none, .st (some 2) (.tmp 2) (.tmp 63), none⟩] [] (sr [2] [(200000020, 200000020)])) .ret) .skip)) (.seq (.region [mm 64 5, ii 65 (.bld [.val (.int .i64 0), .val (.int .i64 0)] [⟨1, none, (.tmp 64)⟩]), ⟨none, .st (some 2) (.tmp 2) (.tmp 65), none⟩] [] (sr [2] [(200000020, 200000020)])) .ret))))))))))
def c35_u1 : Vc := (.seq (.seq (.region [mm 17 7, mm 18 5, ii 19 (.len (.tmp 18)), ii 20 (.bin .lss (.tmp 17) (.tmp 19))] [] (sr [2, 4, 5, 6, 7, 20] [(200000020, 200000020), (200000040, 200000040), (200000050, 200000050), (200000060, 200000060)])) (.cond (.tmp 20) (sr [2, 4, 5, 6, 7] [(200000020, 200000020), (200000040, 200000040), (200000050, 200000050), (200000060, 200000060)]) (sr [2, 4, 5, 6] [(200000020, 200000020), (200000040, 200000040), (200000050, 200000050), (200000060, 200000060)]) .skip (.exit 0))) (.seq (.block 1 (.seq (.region [mm 23 5, mm 24 7, ii 25 (.iad 1 (.tmp 23) (.tmp 24)), ii 26 (.ld none (.tmp 25)), ii 27 (.call (.cst (.fn 15 [])) [(.tmp 26)]), ii 8 (.alc [.val (.int .i64 0), .val (.int .i64 0)]), ⟨none, .st (some 2) (.tmp 8) (.tmp 27), none⟩] [] (sr [2, 4, 5, 6, 7, 8] [(200000020, 200000020), (200000040, 200000040), (200000050, 200000050), (200000060, 200000060), (9000, 200000080)])) (.seq (.seq (.region [ii 28 (.fad 0 (.tmp 8)), ii 29 (.ld none (.tmp 28)), ii 30 (.bin .neq (.tmp 29) (ci 0))] [] (sr [2, 4, 5, 6, 7, 8, 30] [(200000020, 200000020), (200000040, 200000040), (200000050, 200000050), (200000060, 200000060), (200000080, 200000080)])) (.cond (.tmp 30) (sr [2, 4] [(200000020, 200000020), (200000040, 200000040)]) (sr [2, 4, 5, 6, 7, 8] [(200000020, 200000020), (200000040, 200000040), (200000050, 200000050), (200000060, 200000060), (200000080, 200000080)]) (.seq (.region [ii 31 (.ld (some 4) (.tmp 4)), ⟨none, .st (some 4) (.tmp 2) (.tmp 31), none⟩, ii 3 (.mov (.cst (.bool false)))] [] (sr [2, 3] [(200000020, 200000020)])) .ret) .skip)) (.region [mm 32 6, ii 33 (.fad 1 (.tmp 8)), ii 34 (.ld none (.tmp 33)), ii 35 (.bsl 1 [.int .i64 0] 1 [⟨0, none, (.tmp 34)⟩]), ii 36 (.app 1 8 (.tmp 32) (.tmp 35)), mm 6 36] [] (sr [2, 4, 5, 6, 7] [(200000020, 200000020), (200000040, 200000040), (200000050, 200000050), (37000, 200000060)]))))) (.region [mm 21 7, ii 22 (.bin .add (.tmp 21) (ci 1)), mm 7 22] [] (sr [2, 4, 5, 6, 7] [(200000020, 200000020), (200000040, 200000040), (200000050, 200000050), (200000060, 200000060)]))))
def c35_u2 : Vc := (.region [mm 38 5, ii 39 (.iad 1 (.tmp 38) (ci 0)), ii 40 (.ld none (.tmp 39)), ii 41 (.bin .eql (.tmp 40) (.cst (.str ([99, 111, 109, 101, 115])))), mm 42 41, ⟨some 43, .mov (.tmp 6), some (42, true)⟩, ⟨some 44, .len (.tmp 43), some (42, true)⟩, ⟨some 45, .bin .eql (.tmp 44) (.cst (.int .i64 1)), some (42, true)⟩, ii 46 (.pick (.tmp 42) (.tmp 45) (.cst (.bool false))), mm 37 46] [] (sr [2, 4, 5, 6, 37] [(200000020, 200000020), (200000040, 200000040), (200000050, 200000050), (200000060, 200000060)]))
def c35_u3 : Vc := (.region [mm 52 5, ii 53 (.iad 1 (.tmp 52) (ci 0)), ii 54 (.ld none (.tmp 53)), ii 55 (.bin .eql (.tmp 54) (.cst (.str ([116, 119, 105, 99, 101])))), mm 56 55, ⟨some 57, .mov (.tmp 6), some (56, true)⟩, ⟨some 58, .len (.tmp 57), some (56, true)⟩, ⟨some 59, .bin .eql (.tmp 58) (.cst (.int .i64 1)), some (56, true)⟩, ii 60 (.pick (.tmp 56) (.tmp 59) (.cst (.bool false))), mm 51 60] [] (sr [2, 4, 5, 6, 51] [(200000020, 200000020), (200000040, 200000040), (200000050, 200000050), (200000060, 200000060)]))
def c35_u4 : Vc := (.region [mm 66 5, ii 67 (.iad 1 (.tmp 66) (ci 0)), ii 68 (.ld none (.tmp 67)), ii 69 (.bin .eql (.tmp 68) (.cst (.str ([116, 117, 114, 110, 101, 100])))), mm 70 69, ⟨some 71, .mov (.tmp 6), some (70, true)⟩, ⟨some 72, .len (.tmp 71), some (70, true)⟩, ⟨some 73, .bin .eql (.tmp 72) (.cst (.int .i64 3)), some (70, true)⟩, ii 74 (.pick (.tmp 70) (.tmp 73) (.cst (.bool false))), mm 65 74] [] (sr [2, 4, 5, 6, 65] [(200000020, 200000020), (200000040, 200000040), (200000050, 200000050), (200000060, 200000060)]))
def c35_u5 : Vc := (.region [mm 86 5, ii 87 (.iad 1 (.tmp 86) (ci 0)), ii 88 (.ld none (.tmp 87)), ii 89 (.bin .neq (.tmp 88) (.cst (.str ([108, 111, 115, 116])))), mm 90 89, ⟨some 91, .mov (.tmp 6), some (90, false)⟩, ⟨some 92, .len (.tmp 91), some (90, false)⟩, ⟨some 93, .bin .gtr (.tmp 92) (.cst (.int .i64 0)), some (90, false)⟩, ii 94 (.pick (.tmp 90) (.cst (.bool true)) (.tmp 93)), mm 85 94] [] (sr [2, 4, 85] [(200000020, 200000020), (200000040, 200000040)]))
def c35_u6 : Vc := (.cond (.tmp 37) (sr [2, 4, 6] [(200000020, 200000020), (200000040, 200000040), (200000060, 200000060)]) (sr [2, 4, 5, 6] [(200000020, 200000020), (200000040, 200000040), (200000050, 200000050), (200000060, 200000060)]) (.region [mm 47 6, ii 48 (.iad 1 (.tmp 47) (ci 0)), ii 49 (.ld none (.tmp 48)), ii 50 (.bld [.val (.int .i64 0), .val (.int .i64 0), .val (.int .i64 0), .val (.int .i64 0)] [⟨0, none, (ci 1)⟩, ⟨1, none, (.tmp 49)⟩]), ⟨none, .st (some 4) (.tmp 4) (.tmp 50), none⟩] [] (sr [2, 4] [(200000020, 200000020), (200000040, 200000040)])) (.seq c35_u3 (.cond (.tmp 51) (sr [2, 4, 6] [(200000020, 200000020), (200000040, 200000040), (200000060, 200000060)]) (sr [2, 4, 5, 6] [(200000020, 200000020), (200000040, 200000040), (200000050, 200000050), (200000060, 200000060)]) (.region [mm 61 6, ii 62 (.iad 1 (.tmp 61) (ci 0)), ii 63 (.ld none (.tmp 62)), ii 64 (.bld [.val (.int .i64 0), .val (.int .i64 0), .val (.int .i64 0), .val (.int .i64 0)] [⟨0, none, (ci 2)⟩, ⟨1, none, (.tmp 63)⟩]), ⟨none, .st (some 4) (.tmp 4) (.tmp 64), none⟩] [] (sr [2, 4] [(200000020, 200000020), (200000040, 200000040)])) (.seq c35_u4 (.cond (.tmp 65) (sr [2, 4, 6] [(200000020, 200000020), (200000040, 200000040), (200000060, 200000060)]) (sr [2, 4, 5, 6] [(200000020, 200000020), (200000040, 200000040), (200000050, 200000050), (200000060, 200000060)]) (.region [mm 75 6, ii 76 (.iad 1 (.tmp 75) (ci 0)), ii 77 (.ld none (.tmp 76)), mm 78 6, ii 79 (.iad 1 (.tmp 78) (ci 1)), ii 80 (.ld none (.tmp 79)), mm 81 6, ii 82 (.iad 1 (.tmp 81) (ci 2)), ii 83 (.ld none (.tmp 82)), ii 84 (.bld [.val (.int .i64 0), .val (.int .i64 0), .val (.int .i64 0), .val (.int .i64 0)] [⟨0, none, (ci 3)⟩, ⟨1, none, (.tmp 77)⟩, ⟨2, none, (.tmp 80)⟩, ⟨3, none, (.tmp 83)⟩]), ⟨none, .st (some 4) (.tmp 4) (.tmp 84), none⟩] [] (sr [2, 4] [(200000020, 200000020), (200000040, 200000040)])) (.seq c35_u5 (.cond (.tmp 85) (sr [2, 4] [(200000020, 200000020), (200000040, 200000040)]) (sr [2, 4] [(200000020, 200000020), (200000040, 200000040)]) (.seq (.region [ii 95 (.ld (some 4) (.tmp 4)), ⟨none, .st (some 4) (.tmp 2) (.tmp 95), none⟩, ii 3 (.mov (.cst (.bool false)))] [] (sr [2, 3] [(200000020, 200000020)])) .ret) .skip)))))))
def c35_u7 : Vc := (.block 2 (.seq c35_u2 c35_u6))
def c35 : Vc := (.seq (.region [ii 2 (.alc [.val (.int .i64 0), .val (.int .i64 0), .val (.int .i64 0), .val (.int .i64 0)]), ii 3 (.mov (.cst (.bool false)))] [] (sr [0, 2] [(3000, 200000020)])) (.seq (.region [ii 9 (.bld [.val (.int .i64 0), .val (.int .i64 0), .val (.int .i64 0), .val (.int .i64 0)] []), ii 4 (.alc [.val (.int .i64 0), .val (.int .i64 0), .val (.int .i64 0), .val (.int .i64 0)]), ⟨none, .st (some 4) (.tmp 4) (.tmp 9), none⟩] [] (sr [0, 2, 4] [(200000020, 200000020), (5000, 200000040)])) (.seq (.seq (.region [mm 10 0, ii 11 (.lens (.tmp 10)), ii 12 (.bin .gtr (.tmp 11) (ci 30))] [] (sr [0, 2, 4, 12] [(200000020, 200000020), (200000040, 200000040)])) (.cond (.tmp 12) (sr [2, 4] [(200000020, 200000020), (200000040, 200000040)]) (sr [0, 2, 4] [(200000020, 200000020), (200000040, 200000040)]) (.seq (.region [ii 13 (.ld (some 4) (.tmp 4)), ⟨none, .st (some 4) (.tmp 2) (.tmp 13), none⟩, ii 3 (.mov (.cst (.bool false)))] [] (sr [2, 3] [(200000020, 200000020)])) .ret) .skip)) (.seq (.region [mm 14 0, ii 15 (.call (.cst (.fn 49 [])) [(.tmp 14), (.cst (.int .u8 58))]), mm 5 15] [] (sr [2, 4, 5] [(200000020, 200000020), (200000040, 200000040), (16000, 200000050)])) (.seq (.region [ii 16 (.bsl 1 [.int .i64 0] 0 []), mm 6 16] [] (sr [2, 4, 5, 6] [(200000020, 200000020), (200000040, 200000040), (200000050, 200000050), (17000, 200000060)])) (.seq (.seq (.region [ii 7 (.mov (ci 1))] [] (sr [2, 4, 5, 6, 7] [(200000020, 200000020), (200000040, 200000040), (200000050, 200000050), (200000060, 200000060)])) (.block 0 (.loop c35_u1))) (.seq c35_u7 (.seq (.region [ii 96 (.ld (some 4) (.tmp 4)), ii 97 (.ld (some 4) (.tmp 4)), ii 98 (.call (.cst (.fn 13 [])) [(.tmp 97)]), ii 99 (.bin .eql (.tmp 98) (ci 0)), ⟨none, .st (some 4) (.tmp 2) (.tmp 96), none⟩, mm 3 99] [] (sr [2, 3] [(200000020, 200000020)])) .ret))))))))
def c14 : Vc := (.seq (.region [ii 2 (.alc [.val (.int .i64 0), .val (.int .i64 0), .val (.int .i64 0), .val (.int .i64 0), .val (.int .i64 0)])] [] (sr [0, 2] [(3000, 200000020)])) (.seq (.region [mm 6 0, ii 7 (.call (.cst (.fn 35 [])) [(.tmp 6)]), mm 5 7, ii 8 (.ext 0 (.tmp 5)), ii 9 (.ext 1 (.tmp 5)), ii 3 (.alc [.val (.int .i64 0), .val (.int .i64 0), .val (.int .i64 0), .val (.int .i64 0)]), ⟨none, .st (some 4) (.tmp 3) (.tmp 8), none⟩, mm 4 9] [] (sr [2, 3, 4] [(200000020, 200000020), (4000, 200000030)])) (.seq (.seq (.region [mm 10 4, ii 11 (.un .not (.tmp 10))] [] (sr [2, 3, 11] [(200000020, 200000020), (200000030, 200000030)])) (.cond (.tmp 11) (sr [2] [(200000020, 200000020)]) (sr [2, 3] [(200000020, 200000020), (200000030, 200000030)]) (.seq (.region [ii 12 (.bld [.val (.int .i64 0), .val (.int .i64 0), .val (.int .i64 0), .val (.int .i64 0), .val (.int .i64 0)] [⟨0, none, (ci 5)⟩]), ⟨none, .st (some 5) (.tmp 2) (.tmp 12), none⟩] [] (sr [2] [(200000020, 200000020)])) .ret) .skip)) (.seq (.region [ii 13 (.ld (some 4) (.tmp 3)), ii 14 (.bld [.val (.int .i64 0), .val (.int .i64 0), .val (.int .i64 0), .val (.int .i64 0), .val (.int .i64 0)] [⟨1, some 4, (.tmp 13)⟩]), ⟨none, .st (some 5) (.tmp 2) (.tmp 14), none⟩] [] (sr [2] [(200000020, 200000020)])) .ret))))
def c36_u3 : Vc := (.cond (.tmp 20) (sr [3, 4, 5] [(200000030, 200000030), (200000040, 200000040)]) (sr [3, 4, 5] [(200000030, 200000030), (200000040, 200000040)]) (.region [mm 21 3, mm 22 4, mm 23 5, ii 24 (.iad 1 (.tmp 22) (.tmp 23)), ii 25 (.ld none (.tmp 24)), ii 26 (.bsl 1 [.str ([])] 1 [⟨0, none, (.tmp 25)⟩]), ii 27 (.app 1 16 (.tmp 21) (.tmp 26)), mm 3 27] [] (sr [3, 4, 5] [(28000, 200000030), (200000040, 200000040)])) .skip)
def c36_u4 : Vc := (.block 1 (.seq (.region [mm 15 4, mm 16 5, ii 17 (.iad 1 (.tmp 15) (.tmp 16)), ii 18 (.ld none (.tmp 17)), ii 19 (.lens (.tmp 18)), ii 20 (.bin .gtr (.tmp 19) (ci 0))] [] (sr [3, 4, 5, 20] [(200000030, 200000030), (200000040, 200000040)])) c36_u3))
def c36_u5 : Vc := (.seq (.seq (.region [mm 9 5, mm 10 4, ii 11 (.len (.tmp 10)), ii 12 (.bin .lss (.tmp 9) (.tmp 11))] [] (sr [3, 4, 5, 12] [(200000030, 200000030), (200000040, 200000040)])) (.cond (.tmp 12) (sr [3, 4, 5] [(200000030, 200000030), (200000040, 200000040)]) (sr [3] [(200000030, 200000030)]) .skip (.exit 0))) (.seq c36_u4 (.region [mm 13 5, ii 14 (.bin .add (.tmp 13) (ci 1)), mm 5 14] [] (sr [3, 4, 5] [(200000030, 200000030), (200000040, 200000040)]))))
def c36 : Vc := (.seq (.region [ii 2 (.mov (.emp 1))] [] (sk [0])) (.seq (.region [ii 6 (.bsl 1 [.str ([])] 0 []), mm 3 6] [] (sr [0, 3] [(7000, 200000030)])) (.seq (.region [mm 7 0, ii 8 (.call (.cst (.fn 49 [])) [(.tmp 7), (.cst (.int .u8 32))]), mm 4 8] [] (sr [3, 4] [(200000030, 200000030), (9000, 200000040)])) (.seq (.seq (.region [ii 5 (.mov (ci 0))] [] (sr [3, 4, 5] [(200000030, 200000030), (200000040, 200000040)])) (.block 0 (.loop c36_u5))) (.seq (.region [mm 28 3, mm 2 28] [] (sr [2] [(200000030, 200000020)])) .ret)))))
def c16 : Vc := (.seq (.region [ii 2 (.alc [.val (.int .i64 0), .emp 1])] [] (sr [0, 2] [(3000, 200000020)])) (.seq (.seq (.region [mm 3 0, ii 4 (.lens (.tmp 3)), ii 5 (.bin .gtr (.tmp 4) (ci 2000))] [] (sr [0, 2, 5] [(200000020, 200000020)])) (.cond (.tmp 5) (sr [2] [(200000020, 200000020)]) (sr [0, 2] [(200000020, 200000020)]) (.seq (.region [ii 6 (.bld [.val (.int .i64 0), .emp 1] [⟨0, none, (ci 2)⟩]), ⟨none, .st (some 2) (.tmp 2) (.tmp 6), none⟩] [] (sr [2] [(200000020, 200000020)])) .ret) .skip)) (.seq (.region [mm 7 0, ii 8 (.call (.cst (.fn 36 [])) [(.tmp 7)]), ii 9 (.bld [.val (.int .i64 0), .emp 1] [⟨1, none, (.tmp 8)⟩]), ⟨none, .st (some 2) (.tmp 2) (.tmp 9), none⟩] [] (sr [2] [(200000020, 200000020), (9000, 200000021)])) .ret)))
def c3_u1 : Vc := (.region [ii 29 (.fad 0 (.tmp 4)), ii 30 (.ld none (.tmp 29)), ii 31 (.ld (some 4) (.tmp 3)), ii 32 (.call (.cst (.fn 13 [])) [(.tmp 31)]), ii 33 (.bin .neq (.tmp 30) (.tmp 32)), mm 34 33, ⟨some 35, .fad 0 (.tmp 6), some (34, false)⟩, ⟨some 36, .ld none (.tmp 35), some (34, false)⟩, ⟨some 37, .mov (.tmp 5), some (34, false)⟩, ⟨some 38, .call (.cst (.fn 14 [])) [(.tmp 37)], some (34, false)⟩, ⟨some 39, .fld 0 none (.tmp 38), some (34, false)⟩, ⟨some 40, .bin .neq (.tmp 36) (.tmp 39), some (34, false)⟩, ii 41 (.pick (.tmp 34) (.cst (.bool true)) (.tmp 40)), mm 42 41, ⟨some 43, .ld (some 2) (.tmp 8), some (42, false)⟩, ⟨some 44, .mov (.tmp 7), some (42, false)⟩, ⟨some 45, .call (.cst (.fn 15 [])) [(.tmp 44)], some (42, false)⟩, ⟨some 46, .bina .neq [.int, .int] (.tmp 43) (.tmp 45), some (42, false)⟩, ii 47 (.pick (.tmp 42) (.cst (.bool true)) (.tmp 46)), mm 48 47, ⟨some 49, .fad 0 (.tmp 10), some (48, false)⟩, ⟨some 50, .ld none (.tmp 49), some (48, false)⟩, ⟨some 51, .mov (.tmp 9), some (48, false)⟩, ⟨some 52, .call (.cst (.fn 16 [])) [(.tmp 51)], some (48, false)⟩, ⟨some 53, .fld 0 none (.tmp 52), some (48, false)⟩, ⟨some 54, .bin .neq (.tmp 50) (.tmp 53), some (48, false)⟩, ii 55 (.pick (.tmp 48) (.cst (.bool true)) (.tmp 54)), mm 56 55, ⟨some 57, .fad 1 (.tmp 10), some (56, false)⟩, ⟨some 58, .ld none (.tmp 57), some (56, false)⟩, ⟨some 59, .len (.tmp 58), some (56, false)⟩, ⟨some 60, .mov (.tmp 9), some (56, false)⟩, ⟨some 61, .call (.cst (.fn 16 [])) [(.tmp 60)], some (56, false)⟩, ⟨some 62, .fld 1 none (.tmp 61), some (56, false)⟩, ⟨some 63, .len (.tmp 62), some (56, false)⟩, ⟨some 64, .bin .neq (.tmp 59) (.tmp 63), some (56, false)⟩, ii 65 (.pick (.tmp 56) (.cst (.bool true)) (.tmp 64))] [] (sr [3, 4, 5, 6, 65] [(200000030, 200000030), (200000040, 200000040), (200000060, 200000060)]))
def c3_u2 : Vc := (.region [ii 66 (.fad 0 (.tmp 6)), ii 67 (.ld none (.tmp 66)), ii 68 (.bin .eql (.tmp 67) (ci 0)), mm 69 68, ⟨some 70, .fad 1 (.tmp 6), some (69, true)⟩, ⟨some 71, .ld (some 4) (.tmp 70), some (69, true)⟩, ⟨some 72, .call (.cst (.fn 6 [])) [(.tmp 71)], some (69, true)⟩, ⟨some 73, .fld 1 none (.tmp 72), some (69, true)⟩, ⟨some 74, .mov (.tmp 5), some (69, true)⟩, ⟨some 75, .bin .neq (.tmp 73) (.tmp 74), some (69, true)⟩, ii 76 (.pick (.tmp 69) (.tmp 75) (.cst (.bool false)))] [] (sr [3, 4, 76] [(200000030, 200000030), (200000040, 200000040)]))
def c3_u3 : Vc := (.region [ii 77 (.fad 0 (.tmp 4)), ii 78 (.ld none (.tmp 77)), ii 79 (.bin .neq (.tmp 78) (ci 0)), mm 80 79, ⟨some 81, .fad 1 (.tmp 4), some (80, false)⟩, ⟨some 82, .ld none (.tmp 81), some (80, false)⟩, ⟨some 84, .ld (some 4) (.tmp 3), some (80, false)⟩, ⟨some 85, .bld [.val (.int .i64 0), .val (.int .i64 0), .val (.int .i64 0), .val (.int .i64 0), .val (.int .i64 0)] [⟨1, some 4, (.tmp 84)⟩], some (80, false)⟩, ⟨some 83, .call (.cst (.fn 8 [])) [(.tmp 82)], some (80, false)⟩, ⟨some 86, .bina .eql [.int, .int, .int, .int, .int] (.tmp 83) (.tmp 85), some (80, false)⟩, ii 87 (.pick (.tmp 80) (.cst (.bool true)) (.tmp 86)), mm 2 87] [] (sk [2]))
def c3 : Vc := (.seq (.region [ii 2 (.mov (.cst (.bool false)))] [] (sk [0])) (.seq (.seq (.region [mm 11 0, ii 12 (.call (.cst (.fn 4 [])) [(.tmp 11)])] [] (sk [0, 12])) (.cond (.tmp 12) s0 (sk [0]) (.seq (.region [ii 2 (.mov (.cst (.bool true)))] [] (sk [2])) .ret) .skip)) (.seq (.region [mm 13 0, ii 14 (.call (.cst (.fn 5 [])) [(.tmp 13)]), ii 3 (.alc [.val (.int .i64 0), .val (.int .i64 0), .val (.int .i64 0), .val (.int .i64 0)]), ⟨none, .st (some 4) (.tmp 3) (.tmp 14), none⟩] [] (sr [0, 3] [(4000, 200000030)])) (.seq (.region [ii 15 (.ld (some 4) (.tmp 3)), ii 16 (.call (.cst (.fn 6 [])) [(.tmp 15)]), ii 4 (.alc [.val (.int .i64 0), .val (.str ([]))]), ⟨none, .st (some 2) (.tmp 4) (.tmp 16), none⟩] [] (sr [0, 3, 4] [(200000030, 200000030), (5000, 200000040)])) (.seq (.region [mm 17 0, ii 18 (.call (.cst (.fn 7 [])) [(.tmp 17)]), mm 5 18] [] (sr [0, 3, 4, 5] [(200000030, 200000030), (200000040, 200000040)])) (.seq (.region [mm 19 5, ii 20 (.call (.cst (.fn 8 [])) [(.tmp 19)]), ii 6 (.alc [.val (.int .i64 0), .val (.int .i64 0), .val (.int .i64 0), .val (.int .i64 0), .val (.int .i64 0)]), ⟨none, .st (some 5) (.tmp 6) (.tmp 20), none⟩] [] (sr [0, 3, 4, 5, 6] [(200000030, 200000030), (200000040, 200000040), (7000, 200000060)])) (.seq (.region [mm 21 0, ii 22 (.call (.cst (.fn 9 [])) [(.tmp 21)]), mm 7 22] [] (sr [0, 3, 4, 5, 6, 7] [(200000030, 200000030), (200000040, 200000040), (200000060, 200000060)])) (.seq (.region [mm 23 7, ii 24 (.call (.cst (.fn 10 [])) [(.tmp 23)]), ii 8 (.alc [.val (.int .i64 0), .val (.int .i64 0)]), ⟨none, .st (some 2) (.tmp 8) (.tmp 24), none⟩] [] (sr [0, 3, 4, 5, 6, 7, 8] [(200000030, 200000030), (200000040, 200000040), (200000060, 200000060), (9000, 200000080)])) (.seq (.region [mm 25 0, ii 26 (.call (.cst (.fn 11 [])) [(.tmp 25)]), mm 9 26] [] (sr [3, 4, 5, 6, 7, 8, 9] [(200000030, 200000030), (200000040, 200000040), (200000060, 200000060), (200000080, 200000080)])) (.seq (.region [mm 27 9, ii 28 (.call (.cst (.fn 12 [])) [(.tmp 27)]), ii 10 (.alc [.val (.int .i64 0), .emp 1]), ⟨none, .st (some 2) (.tmp 10) (.tmp 28), none⟩] [] (sr [3, 4, 5, 6, 7, 8, 9, 10] [(200000030, 200000030), (200000040, 200000040), (200000060, 200000060), (200000080, 200000080), (11000, 200000100), (29000, 200000101)])) (.seq (.seq c3_u1 (.cond (.tmp 65) s0 (sr [3, 4, 5, 6] [(200000030, 200000030), (200000040, 200000040), (200000060, 200000060)]) (.seq (.region [ii 2 (.mov (.cst (.bool false)))] [] (sk [2])) .ret) .skip)) (.seq (.seq c3_u2 (.cond (.tmp 76) s0 (sr [3, 4] [(200000030, 200000030), (200000040, 200000040)]) (.seq (.region [ii 2 (.mov (.cst (.bool false)))] [] (sk [2])) .ret) .skip)) (.seq c3_u3 .ret)))))))))))))
def tabO : List (Nat × List Nat) := [(4, [0]), (20, [0]), (41, [1, 0]), (29, [1, 3]), (24, [1, 0]), (23, [1, 0]), (17, [0]), (5, [0]), (37, [0, 0, 0]), (39, [0, 0]), (38, [0]), (18, [0]), (50, [0, 0]), (40, [0]), (19, [0]), (6, [0]), (28, [0]), (22, [0]), (32, [1, 0]), (21, [1, 0]), (7, [0]), (25, [0, 0]), (26, [0, 0]), (43, [0, 0, 0]), (70, [0, 0]), (56, [0, 0]), (44, [0, 0]), (27, [0]), (8, [0]), (30, [1, 0]), (9, [0]), (10, [0]), (71, [0]), (57, [1, 0]), (58, [1]), (45, [1, 0, 0]), (46, [0]), (31, [1, 0]), (11, [0]), (47, [1, 0]), (33, [0]), (12, [0]), (34, [0, 0, 0]), (13, [0]), (49, [0, 0]), (15, [0]), (35, [0]), (14, [0]), (36, [0]), (16, [0]), (3, [0])]
def tabL : List (Nat × Vc × Nat × List (Nat × Option (Option Nat))) := [(4, c4, 6, [(2, none)]), (20, c20, 6, [(2, none)]), (41, c41, 87, [(4, none)]), (29, c29, 12, [(4, none)]), (24, c24, 45, [(4, some (some 4))]), (23, c23, 32, [(4, some (some 4))]), (17, c17, 10, [(2, some (some 4))]), (5, c5, 5, [(2, some (some 4))]), (37, c37, 15, [(6, none)]), (39, c39, 7, [(4, none)]), (38, c38, 15, [(2, none)]), (18, c18, 61, [(2, none)]), (40, c40, 5, [(2, none)]), (19, c19, 38, [(2, none)]), (6, c6, 13, [(2, some (some 2))]), (28, c28, 28, [(2, none)]), (22, c22, 33, [(2, none)]), (32, c32, 9, [(4, none)]), (21, c21, 43, [(4, none)]), (7, c7, 13, [(2, none)]), (26, c26, 19, [(4, none)]), (70, c70, 18, [(4, none)]), (56, c56, 13, [(4, none)]), (44, c44, 8, [(4, none)]), (27, c27, 26, [(2, none), (3, none)]), (8, c8, 56, [(2, some (some 5))]), (30, c30, 12, [(4, none)]), (9, c9, 16, [(2, none)]), (10, c10, 15, [(2, some (some 2))]), (71, c71, 10, [(2, none)]), (57, c57, 53, [(4, none)]), (58, c58, 10, [(2, some (some 4))]), (45, c45, 19, [(6, some (some 13))]), (46, c46, 23, [(2, none)]), (31, c31, 44, [(4, none)]), (11, c11, 21, [(2, none)]), (33, c33, 6, [(2, none)]), (12, c12, 10, [(2, some (some 2))]), (34, c34, 15, [(6, none)]), (13, c13, 54, [(2, none)]), (49, c49, 36, [(4, none)]), (15, c15, 66, [(2, some (some 2))]), (35, c35, 100, [(2, some (some 4)), (3, none)]), (14, c14, 15, [(2, some (some 5))]), (36, c36, 29, [(2, none)]), (16, c16, 10, [(2, some (some 2))]), (3, c3, 88, [(2, none)])]
def tabX : List (Nat × (List D → Option (D × List D))) := [(50, itoaF), (25, splitF), (43, parseF), (47, (deleteF 48 fun x => x == []))]
def tabG : List (Nat × List D) := [(0, [.str [108, 111, 115, 116], .str [99, 111, 109, 101, 115], .str [116, 119, 105, 99, 101], .str [116, 117, 114, 110, 101, 100]]), (1, [.int .i64 MX.mx]), (2, [.err false]), (3, [.err false]), (4, (Lib.pow10Tab.map fun z => D.int .u64 z))]
def tab0 : Tab := ⟨fun f => (look f tabO).getD [], fun f => look f tabL, fun f => look f tabX, fun g => look g tabG⟩
def recR (f : Nat) : Option Nat := look f [(28, 1)]
def tab (fu : Nat) : Tab := recTab tab0 recR fu
theorem tab_ext (fu f : Nat) (h : recR f = none) : (tab fu).ext f = tab0.ext f := by cases fu <;> simp [tab, recTab, recExt, h]
@[go_sem] theorem gl_0 (fu : Nat) : (tab fu).gl 0 = some [.str [108, 111, 115, 116], .str [99, 111, 109, 101, 115], .str [116, 119, 105, 99, 101], .str [116, 117, 114, 110, 101, 100]] := rfl
@[go_sem] theorem own_4 (fu : Nat) : (tab fu).own 4 = [0] := rfl
@[go_sem] theorem own_20 (fu : Nat) : (tab fu).own 20 = [0] := rfl
@[go_sem] theorem own_41 (fu : Nat) : (tab fu).own 41 = [1, 0] := rfl
@[go_sem] theorem own_29 (fu : Nat) : (tab fu).own 29 = [1, 3] := rfl
@[go_sem] theorem own_24 (fu : Nat) : (tab fu).own 24 = [1, 0] := rfl
@[go_sem] theorem own_23 (fu : Nat) : (tab fu).own 23 = [1, 0] := rfl
@[go_sem] theorem own_17 (fu : Nat) : (tab fu).own 17 = [0] := rfl
@[go_sem] theorem own_5 (fu : Nat) : (tab fu).own 5 = [0] := rfl
@[go_sem] theorem own_37 (fu : Nat) : (tab fu).own 37 = [0, 0, 0] := rfl
@[go_sem] theorem own_39 (fu : Nat) : (tab fu).own 39 = [0, 0] := rfl
@[go_sem] theorem own_38 (fu : Nat) : (tab fu).own 38 = [0] := rfl
@[go_sem] theorem own_18 (fu : Nat) : (tab fu).own 18 = [0] := rfl
@[go_sem] theorem own_50 (fu : Nat) : (tab fu).own 50 = [0, 0] := rfl
@[go_sem] theorem own_40 (fu : Nat) : (tab fu).own 40 = [0] := rfl
@[go_sem] theorem own_19 (fu : Nat) : (tab fu).own 19 = [0] := rfl
@[go_sem] theorem own_6 (fu : Nat) : (tab fu).own 6 = [0] := rfl
@[go_sem] theorem own_28 (fu : Nat) : (tab fu).own 28 = [0] := rfl
@[go_sem] theorem own_22 (fu : Nat) : (tab fu).own 22 = [0] := rfl
@[go_sem] theorem own_32 (fu : Nat) : (tab fu).own 32 = [1, 0] := rfl
@[go_sem] theorem own_21 (fu : Nat) : (tab fu).own 21 = [1, 0] := rfl
@[go_sem] theorem own_7 (fu : Nat) : (tab fu).own 7 = [0] := rfl
@[go_sem] theorem own_25 (fu : Nat) : (tab fu).own 25 = [0, 0] := rfl
@[go_sem] theorem own_26 (fu : Nat) : (tab fu).own 26 = [0, 0] := rfl
@[go_sem] theorem own_43 (fu : Nat) : (tab fu).own 43 = [0, 0, 0] := rfl
@[go_sem] theorem own_70 (fu : Nat) : (tab fu).own 70 = [0, 0] := rfl
@[go_sem] theorem own_56 (fu : Nat) : (tab fu).own 56 = [0, 0] := rfl
@[go_sem] theorem own_44 (fu : Nat) : (tab fu).own 44 = [0, 0] := rfl
@[go_sem] theorem own_27 (fu : Nat) : (tab fu).own 27 = [0] := rfl
@[go_sem] theorem own_8 (fu : Nat) : (tab fu).own 8 = [0] := rfl
@[go_sem] theorem own_30 (fu : Nat) : (tab fu).own 30 = [1, 0] := rfl
@[go_sem] theorem own_9 (fu : Nat) : (tab fu).own 9 = [0] := rfl
@[go_sem] theorem own_10 (fu : Nat) : (tab fu).own 10 = [0] := rfl
@[go_sem] theorem own_71 (fu : Nat) : (tab fu).own 71 = [0] := rfl
@[go_sem] theorem own_57 (fu : Nat) : (tab fu).own 57 = [1, 0] := rfl
@[go_sem] theorem own_58 (fu : Nat) : (tab fu).own 58 = [1] := rfl
@[go_sem] theorem own_45 (fu : Nat) : (tab fu).own 45 = [1, 0, 0] := rfl
@[go_sem] theorem own_46 (fu : Nat) : (tab fu).own 46 = [0] := rfl
@[go_sem] theorem own_31 (fu : Nat) : (tab fu).own 31 = [1, 0] := rfl
@[go_sem] theorem own_11 (fu : Nat) : (tab fu).own 11 = [0] := rfl
@[go_sem] theorem own_47 (fu : Nat) : (tab fu).own 47 = [1, 0] := rfl
@[go_sem] theorem own_33 (fu : Nat) : (tab fu).own 33 = [0] := rfl
@[go_sem] theorem own_12 (fu : Nat) : (tab fu).own 12 = [0] := rfl
@[go_sem] theorem own_34 (fu : Nat) : (tab fu).own 34 = [0, 0, 0] := rfl
@[go_sem] theorem own_13 (fu : Nat) : (tab fu).own 13 = [0] := rfl
@[go_sem] theorem own_49 (fu : Nat) : (tab fu).own 49 = [0, 0] := rfl
@[go_sem] theorem own_15 (fu : Nat) : (tab fu).own 15 = [0] := rfl
@[go_sem] theorem own_35 (fu : Nat) : (tab fu).own 35 = [0] := rfl
@[go_sem] theorem own_14 (fu : Nat) : (tab fu).own 14 = [0] := rfl
@[go_sem] theorem own_36 (fu : Nat) : (tab fu).own 36 = [0] := rfl
@[go_sem] theorem own_16 (fu : Nat) : (tab fu).own 16 = [0] := rfl
@[go_sem] theorem own_3 (fu : Nat) : (tab fu).own 3 = [0] := rfl
theorem is4 : IsFn Tryd.prog tab0.own 4 c4 6 [(2, none)] := isF [(0, hk [0]), (1, hk [2])] [] [] [] Tryd.func4 (by kernel_rfl)
theorem is20 : IsFn Tryd.prog tab0.own 20 c20 6 [(2, none)] := isF [(0, hk [0]), (1, hr [2] [(6000, 200000020)])] [] [] [] Tryd.func20 (by kernel_rfl)
theorem is41 : IsFn Tryd.prog tab0.own 41 c41 87 [(4, none)] := isF [(0, hk [0, 1]), (1, hk [0, 1]), (2, hk [0, 1, 17]), (3, hk [4]), (4, hk [0, 1, 5]), (5, hk [0, 1, 5, 6]), (6, hk [0, 1, 5, 6, 29]), (7, hk [4]), (8, hk [0, 1, 5, 6, 7]), (9, hk [0, 1, 5, 6, 7, 50]), (10, hk [0, 1, 5, 6, 7]), (11, hk [0, 1, 5, 6, 7, 69]), (12, hk [1, 7]), (13, hk [4])] [(17, hk []), (29, hk [1, 5]), (50, hk [0, 1, 5, 6, 7]), (69, hk [0, 1, 5, 6, 7])] [(17, hk [0, 1]), (29, hk [0, 1, 5, 6]), (50, hk [0, 1, 5, 6, 7]), (69, hk [1, 7])] [(8, (.take 0 (.take 1 (.take 2 (.take 3 (.take 4 (.take 5 (.take 6 (.take 7 (.take 8 (.take 9 (.take 10 (.take 11 (.take 12 (.take 13 (.take 14 (.take 15 .done))))))))))))))))), (10, (.take 0 (.take 1 (.take 2 (.take 3 (.take 4 (.take 5 (.take 6 (.take 7 (.take 8 (.take 9 (.take 10 (.take 11 (.take 12 (.take 13 (.take 14 (.take 15 (.take 16 (.take 17 .done))))))))))))))))))), (12, (.take 0 (.take 1 (.take 2 (.take 3 (.take 4 (.take 5 (.take 6 (.take 7 (.take 8 (.take 9 (.take 10 (.take 11 (.take 12 (.take 13 (.take 14 .done))))))))))))))))] Tryd.func41 (by kernel_rfl)
theorem is29 : IsFn Tryd.prog tab0.own 29 c29 12 [(4, none)] := isF [(0, hk [0, 1]), (1, hk [4])] [] [] [] Tryd.func29 (by kernel_rfl)
theorem is24 : IsFn Tryd.prog tab0.own 24 c24 45 [(4, some (some 4))] := isF [(0, hr [0, 1, 4] [(5000, 200000040)]), (1, hr [0, 4, 8] [(200000040, 200000040)]), (2, hr [4] [(200000040, 200000040)]), (3, hr [0, 4, 14] [(200000040, 200000040)]), (4, hr [0, 4, 14, 15] [(200000040, 200000040)]), (5, hr [0, 4, 14, 15] [(200000040, 200000040)]), (6, hr [4] [(200000040, 200000040)]), (7, hr [0, 4, 14, 19] [(200000040, 200000040)]), (8, hr [4] [(200000040, 200000040)]), (9, hr [0, 4, 24] [(200000040, 200000040)]), (10, hr [4] [(200000040, 200000040)]), (11, hr [4] [(200000040, 200000040)])] [(8, hr [0, 4] [(200000040, 200000040)]), (15, hr [0, 4, 14, 15] [(200000040, 200000040)]), (19, hr [0, 4] [(200000040, 200000040)]), (24, hr [0, 4] [(200000040, 200000040)])] [(8, hr [0, 4] [(200000040, 200000040)]), (15, hr [0, 4, 14] [(200000040, 200000040)]), (19, hr [0, 4, 14] [(200000040, 200000040)]), (24, hr [0, 4] [(200000040, 200000040)])] [] Tryd.func24 (by kernel_rfl)
theorem is23 : IsFn Tryd.prog tab0.own 23 c23 32 [(4, some (some 4))] := isF [(0, hr [0, 3, 4] [(4000, 200000030), (5000, 200000040)]), (1, hr [0, 3, 4, 6] [(200000030, 200000030), (200000040, 200000040)]), (2, hr [0, 3, 4, 6, 7] [(200000030, 200000030), (200000040, 200000040)]), (3, hr [3, 4] [(200000030, 200000030), (200000040, 200000040)]), (4, hr [0, 3, 4, 6, 13] [(200000030, 200000030), (200000040, 200000040)]), (5, hr [3, 4] [(200000030, 200000030), (200000040, 200000040)]), (6, hr [0, 3, 4, 6, 19] [(200000030, 200000030), (200000040, 200000040)]), (7, hr [3, 4] [(200000030, 200000030), (200000040, 200000040)]), (8, hr [0, 3, 4, 25] [(200000030, 200000030), (200000040, 200000040)]), (9, hr [3, 4] [(200000030, 200000030), (200000040, 200000040)]), (10, hr [4] [(200000040, 200000040)])] [(7, hr [0, 3, 4] [(200000030, 200000030), (200000040, 200000040)]), (13, hr [0, 3, 4] [(200000030, 200000030), (200000040, 200000040)]), (19, hr [0, 3, 4] [(200000030, 200000030), (200000040, 200000040)]), (25, hr [0, 3, 4] [(200000030, 200000030), (200000040, 200000040)])] [(7, hr [0, 3, 4, 6] [(200000030, 200000030), (200000040, 200000040)]), (13, hr [0, 3, 4, 6] [(200000030, 200000030), (200000040, 200000040)]), (19, hr [0, 3, 4, 6] [(200000030, 200000030), (200000040, 200000040)]), (25, hr [3, 4] [(200000030, 200000030), (200000040, 200000040)])] [] Tryd.func23 (by kernel_rfl)
theorem is17 : IsFn Tryd.prog tab0.own 17 c17 10 [(2, some (some 4))] := isF [(0, hr [0, 2] [(3000, 200000020)]), (1, hr [2, 3] [(200000020, 200000020), (6000, 200000030)]), (2, hr [2] [(200000020, 200000020)])] [] [] [] Tryd.func17 (by kernel_rfl)
theorem is5 : IsFn Tryd.prog tab0.own 5 c5 5 [(2, some (some 4))] := isF [(0, hr [0, 2] [(3000, 200000020)]), (1, hr [2] [(200000020, 200000020)])] [] [] [] Tryd.func5 (by kernel_rfl)
theorem is37 : IsFn Tryd.prog tab0.own 37 c37 15 [(6, none)] := isF [(0, hk [0, 1, 2]), (1, hk [6])] [] [] [] Tryd.func37 (by kernel_rfl)
theorem is39 : IsFn Tryd.prog tab0.own 39 c39 7 [(4, none)] := isF [(0, hk [0, 1]), (1, hk [1, 5]), (2, hk [4]), (3, hk [4])] [(5, hk [1])] [(5, hk [])] [] Tryd.func39 (by kernel_rfl)
theorem is38 : IsFn Tryd.prog tab0.own 38 c38 15 [(2, none)] := isF [(0, hk [0]), (1, hk [5, 6, 7]), (2, hk [5, 6, 7, 8]), (3, hk [4, 5, 6, 7]), (4, hk [4, 5, 6, 7, 12]), (5, hk [2]), (6, hk [5, 6, 7]), (7, hk [2])] [(8, hk [5, 6, 7]), (12, hk [4])] [(12, hk [5, 6, 7]), (8, hk [])] [] Tryd.func38 (by kernel_rfl)
theorem is18 : IsFn Tryd.prog tab0.own 18 c18 61 [(2, none)] := isF [(0, hr [1] [(2000, 200000010)]), (1, hr [1, 3] [(200000010, 200000010)]), (2, hr [1, 3, 4] [(200000010, 200000010)]), (3, hk [2])] [] [] [] Tryd.func18 (by kernel_rfl)
theorem is40 : IsFn Tryd.prog tab0.own 40 c40 5 [(2, none)] := isF [(0, hk [0]), (1, hk [2])] [] [] [] Tryd.func40 (by kernel_rfl)
theorem is19 : IsFn Tryd.prog tab0.own 19 c19 38 [(2, none)] := isF [(0, hr [1] [(2000, 200000010)]), (1, hr [1, 3] [(200000010, 200000010)]), (2, hr [1, 3, 9] [(200000010, 200000010)]), (3, hr [1, 3, 9, 10] [(200000010, 200000010)]), (4, hr [1, 3, 9, 10] [(200000010, 200000010)]), (5, hk [3]), (6, hr [1, 3, 19] [(200000010, 200000010)]), (7, hk [3]), (8, hk [2])] [(10, hr [1, 3, 9, 10] [(200000010, 200000010)]), (19, hr [1, 3] [(200000010, 200000010)])] [(10, hr [1, 3, 9] [(200000010, 200000010)]), (19, hk [3])] [(7, (.take 0 (.take 1 (.take 2 (.take 6 (.take 7 (.take 11 (.take 12 (.take 3 (.take 4 (.take 5 (.take 8 (.take 9 (.take 10 (.take 13 (.take 14 (.take 15 (.take 16 .done))))))))))))))))))] Tryd.func19 (by kernel_rfl)
theorem is6 : IsFn Tryd.prog tab0.own 6 c6 13 [(2, some (some 2))] := isF [(0, hr [1, 2] [(2000, 200000010), (3000, 200000020)]), (1, hr [1, 2, 3] [(200000010, 200000010), (200000020, 200000020)]), (2, hr [1, 2, 3, 7] [(200000010, 200000010), (200000020, 200000020)]), (3, hr [2] [(200000020, 200000020)]), (4, hr [2] [(200000020, 200000020)])] [(7, hr [2, 3] [(200000020, 200000020)])] [(7, hr [1, 2] [(200000010, 200000010), (200000020, 200000020)])] [] Tryd.func6 (by kernel_rfl)
theorem is28 : IsFn Tryd.prog tab0.own 28 c28 28 [(2, none)] := isF [(0, hk [0]), (1, hk [0, 3]), (2, hk [2]), (3, hk [0, 10]), (4, hk [2]), (5, hk [2])] [(3, hk [0]), (10, hk [0])] [(3, hk [0]), (10, hk [0])] [(5, (.take 0 (.take 1 (.take 3 (.take 4 (.take 5 (.take 6 (.fork (.alt 2 (.take 7 (.take 8 (.take 9 (.take 10 .done)))) (.alt 7 (.take 8 (.take 2 (.take 9 (.take 10 .done)))) .nil))))))))))] Tryd.func28 (by kernel_rfl)
theorem is22 : IsFn Tryd.prog tab0.own 22 c22 33 [(2, none)] := isF [(0, hr [1] [(2000, 200000010)]), (1, hr [1, 4] [(200000010, 200000010)]), (2, hr [1, 4, 5] [(200000010, 200000010)]), (3, hk [2]), (4, hr [1, 4, 11] [(200000010, 200000010)]), (5, hk [2]), (6, hr [1, 17] [(200000010, 200000010)]), (7, hk [2]), (8, hk [2])] [(5, hr [1] [(200000010, 200000010)]), (11, hr [1] [(200000010, 200000010)]), (17, hr [1] [(200000010, 200000010)])] [(5, hr [1, 4] [(200000010, 200000010)]), (11, hr [1, 4] [(200000010, 200000010)]), (17, hk [])] [(7, (.take 0 (.take 1 (.take 5 (.take 6 (.take 10 (.take 11 (.take 2 (.take 3 (.take 4 (.take 7 (.take 8 (.take 9 (.take 12 (.take 13 (.take 14 .done))))))))))))))))] Tryd.func22 (by kernel_rfl)
theorem is32 : IsFn Tryd.prog tab0.own 32 c32 9 [(4, none)] := isF [(0, hk [0, 1]), (1, hk [4])] [] [] [] Tryd.func32 (by kernel_rfl)
theorem is21 : IsFn Tryd.prog tab0.own 21 c21 43 [(4, none)] := isF [(0, hk [0, 1]), (1, hk [0, 1, 13]), (2, hk [4]), (3, hk [0, 1, 5]), (4, hk [0, 1, 5, 20]), (5, hk [4]), (6, hk [4])] [(13, hk [1]), (20, hk [1, 5])] [(13, hk [0, 1]), (20, hk [0, 1, 5])] [(5, (.take 0 (.take 1 (.take 2 (.take 3 (.take 4 (.take 5 (.take 6 (.take 7 (.take 8 .done)))))))))), (6, (.take 0 (.take 1 (.take 2 (.take 3 (.take 10 (.take 11 (.take 12 (.take 4 (.take 5 (.take 6 (.take 7 (.take 8 (.take 9 (.take 13 (.take 14 .done))))))))))))))))] Tryd.func21 (by kernel_rfl)
theorem is7 : IsFn Tryd.prog tab0.own 7 c7 13 [(2, none)] := isF [(0, hk [0]), (1, hr [3] [(6000, 200000030)]), (2, hk [2])] [] [] [] Tryd.func7 (by kernel_rfl)
theorem is26 : IsFn Tryd.prog tab0.own 26 c26 19 [(4, none)] := isF [(0, hk [0, 1]), (1, hk [0, 1, 7, 8]), (2, hk [0, 1, 7, 8, 9]), (3, hk [0, 1, 5, 7, 8]), (4, hk [0, 1, 5, 7, 8, 16]), (5, hk [4]), (6, hk [0, 1, 7, 8]), (7, hk [4])] [(9, hk [0, 1, 7, 8]), (16, hk [5])] [(16, hk [0, 1, 7, 8]), (9, hk [])] [] Tryd.func26 (by kernel_rfl)
theorem is70 : IsFn Tryd.prog tab0.own 70 c70 18 [(4, none)] := isF [(0, hk [0, 1]), (1, hk [4])] [] [] [] Tryd.func70 (by kernel_rfl)
theorem is56 : IsFn Tryd.prog tab0.own 56 c56 13 [(4, none)] := isF [(0, hk [0, 1]), (1, hk [0, 1, 7]), (2, hk [4]), (3, hk [4])] [(7, hk [0, 1])] [(7, hk [0])] [] Tryd.func56 (by kernel_rfl)
theorem is44 : IsFn Tryd.prog tab0.own 44 c44 8 [(4, none)] := isF [(0, hk [0, 1]), (1, hk [4])] [] [] [] Tryd.func44 (by kernel_rfl)
theorem is27 : IsFn Tryd.prog tab0.own 27 c27 26 [(2, none), (3, none)] := isF [(0, hk [0]), (1, hk [0, 4, 5]), (2, hk [2, 3])] [] [] [] Tryd.func27 (by kernel_rfl)
theorem is8 : IsFn Tryd.prog tab0.own 8 c8 56 [(2, some (some 5))] := isF [(0, hr [0, 2] [(3000, 200000020)]), (1, hr [0, 2, 3] [(200000020, 200000020), (10000, 200000030)]), (2, hr [0, 2, 3, 4, 5] [(200000020, 200000020), (200000030, 200000030), (5000, 200000040), (6000, 200000050)]), (3, hr [0, 2, 4, 5, 18, 19, 20] [(200000020, 200000020), (200000040, 200000040), (200000050, 200000050), (200000030, 200000180)]), (4, hr [0, 2, 4, 5, 18, 19, 20, 21] [(200000020, 200000020), (200000040, 200000040), (200000050, 200000050), (200000180, 200000180)]), (5, hr [0, 2, 4, 5, 6, 7, 18, 19, 20] [(200000020, 200000020), (200000040, 200000040), (200000050, 200000050), (200000180, 200000180)]), (6, hr [0, 2, 4, 5, 6, 7, 18, 19, 20, 26] [(200000020, 200000020), (200000040, 200000040), (200000050, 200000050), (200000180, 200000180)]), (7, hr [0, 2, 4, 5, 18, 19, 20] [(200000020, 200000020), (200000040, 200000040), (200000050, 200000050), (200000180, 200000180)]), (8, hr [0, 2, 4, 5, 18, 19, 20] [(200000020, 200000020), (200000040, 200000040), (200000050, 200000050), (200000180, 200000180)]), (9, hr [0, 2, 4] [(200000020, 200000020), (200000040, 200000040)]), (10, hr [2, 4, 52] [(200000020, 200000020), (200000040, 200000040)]), (11, hr [2] [(200000020, 200000020)]), (12, hr [2] [(200000020, 200000020)])] [(21, hr [0, 2, 4, 5, 18, 19, 20] [(200000020, 200000020), (200000040, 200000040), (200000050, 200000050), (200000180, 200000180)]), (26, hr [0, 2, 4, 5, 6, 7, 18, 19, 20] [(200000020, 200000020), (200000040, 200000040), (200000050, 200000050), (200000180, 200000180)]), (52, hr [2] [(200000020, 200000020)])] [(26, hr [0, 2, 4, 5, 18, 19, 20] [(200000020, 200000020), (200000040, 200000040), (200000050, 200000050), (200000180, 200000180)]), (21, hr [0, 2, 4, 5] [(200000020, 200000020), (200000040, 200000040), (200000050, 200000050)]), (52, hr [2, 4] [(200000020, 200000020), (200000040, 200000040)])] [(2, (.take 0 (.take 1 (.take 2 (.take 3 (.take 6 (.fork (.alt 4 (.take 5 (.fork (.alt 7 (.take 8 (.take 9 (.take 10 .done))) (.alt 8 (.take 7 (.take 9 (.take 10 .done))) .nil)))) (.alt 7 (.fork (.alt 4 (.take 5 (.take 8 (.take 9 (.take 10 .done)))) (.alt 8 (.take 4 (.take 5 (.take 9 (.take 10 .done)))) .nil))) (.alt 8 (.fork (.alt 4 (.take 5 (.take 7 (.take 9 (.take 10 .done)))) (.alt 7 (.take 4 (.take 5 (.take 9 (.take 10 .done)))) .nil))) .nil)))))))))), (9, (.take 0 (.take 1 (.take 2 (.take 4 (.take 6 (.fork (.alt 3 (.fork (.alt 5 (.take 7 (.take 8 (.take 9 (.take 10 (.take 11 .done))))) (.alt 7 (.take 8 (.fork (.alt 5 (.take 9 (.take 10 (.take 11 .done))) (.alt 9 (.take 5 (.take 10 (.take 11 .done))) .nil)))) .nil))) (.alt 5 (.fork (.alt 3 (.take 7 (.take 8 (.take 9 (.take 10 (.take 11 .done))))) (.alt 7 (.take 3 (.take 8 (.take 9 (.take 10 (.take 11 .done))))) .nil))) (.alt 7 (.take 3 (.take 8 (.fork (.alt 5 (.take 9 (.take 10 (.take 11 .done))) (.alt 9 (.take 5 (.take 10 (.take 11 .done))) .nil))))) .nil))))))))))] Tryd.func8 (by kernel_rfl)
theorem is30 : IsFn Tryd.prog tab0.own 30 c30 12 [(4, none)] := isF [(0, hk [0, 1]), (1, hk [4])] [] [] [] Tryd.func30 (by kernel_rfl)
theorem is9 : IsFn Tryd.prog tab0.own 9 c9 16 [(2, none)] := isF [(0, hk [0]), (1, hr [3] [(6000, 200000030)]), (2, hk [2])] [] [] [] Tryd.func9 (by kernel_rfl)
theorem is10 : IsFn Tryd.prog tab0.own 10 c10 15 [(2, some (some 2))] := isF [(0, hr [0, 2] [(3000, 200000020)]), (1, hr [2, 3, 4] [(200000020, 200000020)]), (2, hr [2, 3, 11] [(200000020, 200000020)]), (4, hr [2] [(200000020, 200000020)]), (3, hr [2] [(200000020, 200000020)])] [(11, hr [2] [(200000020, 200000020)])] [(11, hr [2, 3] [(200000020, 200000020)])] [] Tryd.func10 (by kernel_rfl)
theorem is71 : IsFn Tryd.prog tab0.own 71 c71 10 [(2, none)] := isF [(0, hk [0]), (1, hk [0, 3]), (2, hk [2]), (3, hk [0, 6]), (4, hk [2]), (5, hk [2])] [(3, hk []), (6, hk [])] [(3, hk [0]), (6, hk [0])] [] Tryd.func71 (by kernel_rfl)
theorem is57 : IsFn Tryd.prog tab0.own 57 c57 53 [(4, none)] := isF [(0, hk [0, 1]), (1, hr [0, 1, 5] [(12000, 200000050)]), (2, hr [0, 1, 5, 6] [(200000050, 200000050)]), (3, hr [0, 1, 5, 6, 7] [(200000050, 200000050)]), (4, hr [0, 1, 5, 6, 7, 8] [(200000050, 200000050)]), (5, hr [0, 1, 5, 6, 7, 8, 9] [(200000050, 200000050)]), (6, hr [0, 1, 5, 6, 7, 8, 9, 21] [(200000050, 200000050)]), (8, hr [0, 1, 5, 6, 7, 8, 9, 10] [(200000050, 200000050)]), (9, hr [0, 1, 5, 6, 7, 8, 9, 10, 29] [(200000050, 200000050)]), (10, hr [0, 1, 5, 6, 7, 8, 9, 10, 29, 30] [(200000050, 200000050)]), (11, hr [0, 1, 5, 6, 7, 8, 9, 10] [(200000050, 200000050)]), (12, hr [0, 1, 5, 6, 7, 8, 9, 10, 29, 32] [(200000050, 200000050)]), (13, hr [0, 1, 5, 6, 7, 8, 9, 10] [(200000050, 200000050)]), (14, hr [0, 1, 5, 6, 7, 8, 9, 10, 29, 36] [(200000050, 200000050)]), (15, hr [0, 1, 5, 6, 7, 8, 9, 10] [(200000050, 200000050)]), (16, hr [0, 1, 5, 6, 7, 8, 9, 10, 41] [(200000050, 200000050)]), (17, hr [0, 1, 5, 6, 7, 8, 9, 10] [(200000050, 200000050)]), (18, hr [0, 1, 5, 6, 7, 8, 9] [(52000, 200000050)]), (7, hr [0, 1, 5, 6, 7, 8, 9] [(200000050, 200000050)]), (19, hr [4] [(200000050, 200000040)])] [(21, hr [0, 1, 5, 6, 7, 8, 9] [(200000050, 200000050)]), (30, hr [0, 1, 5, 6, 7, 8, 9] [(200000050, 200000050)]), (32, hr [0, 1, 5, 6, 7, 8, 9] [(200000050, 200000050)]), (36, hr [0, 1, 5, 6, 7, 8, 9] [(200000050, 200000050)]), (41, hr [0, 1, 5, 6, 7, 8, 9, 10] [(200000050, 200000050)])] [(30, hr [0, 1, 5, 6, 7, 8, 9, 10, 29] [(200000050, 200000050)]), (32, hr [0, 1, 5, 6, 7, 8, 9, 10, 29] [(200000050, 200000050)]), (36, hr [0, 1, 5, 6, 7, 8, 9, 10, 29] [(200000050, 200000050)]), (41, hr [0, 1, 5, 6, 7, 8, 9, 10] [(200000050, 200000050)]), (21, hr [5] [(200000050, 200000050)])] [] Tryd.func57 (by kernel_rfl)
theorem is58 : IsFn Tryd.prog tab0.own 58 c58 10 [(2, some (some 4))] := isF [(0, hr [0, 2] [(3000, 200000020)]), (1, hr [0, 2, 4] [(200000020, 200000020)]), (2, hr [2] [(200000020, 200000020)]), (3, hr [2] [(200000020, 200000020)])] [(4, hr [2] [(200000020, 200000020)])] [(4, hr [0, 2] [(200000020, 200000020)])] [] Tryd.func58 (by kernel_rfl)
theorem is45 : IsFn Tryd.prog tab0.own 45 c45 19 [(6, some (some 13))] := isF [(0, hr [0, 1, 2, 6] [(7000, 200000060)]), (1, hr [6] [(200000060, 200000060), (10000, 200000061)])] [] [] [] Tryd.func45 (by kernel_rfl)
theorem is46 : IsFn Tryd.prog tab0.own 46 c46 23 [(2, none)] := isF [(0, hk [0]), (1, hk [0, 3]), (2, hk [0, 3, 4]), (3, hk [0, 3, 4, 8]), (5, hk [0, 3, 4, 12]), (6, hk [0, 3, 4]), (7, hk [0, 3, 4]), (4, hk [0, 3, 4]), (8, hk [2])] [(8, hk [0, 3, 4]), (12, hk [0, 3, 4])] [(12, hk [0, 3, 4]), (8, hk [3])] [] Tryd.func46 (by kernel_rfl)
theorem is31 : IsFn Tryd.prog tab0.own 31 c31 44 [(4, none)] := isF [(0, hk [0, 1]), (1, hr [0, 5] [(6000, 200000050), (14000, 200000051)]), (2, hr [0, 5, 6] [(200000050, 200000050), (200000051, 200000051), (15000, 200000060)]), (3, hr [0, 5, 6, 16] [(200000050, 200000050), (200000051, 200000051), (200000060, 200000060)]), (4, hk [4]), (5, hk [0, 7]), (6, hk [4])] [(16, hr [0, 6] [(200000060, 200000060)])] [(16, hr [0, 5] [(200000050, 200000050), (200000051, 200000051)])] [(5, (.take 0 (.take 1 (.take 5 (.take 6 (.take 10 (.take 11 (.take 15 (.take 16 (.take 2 (.take 3 (.take 4 (.take 7 (.take 8 (.take 9 (.take 12 (.take 13 (.take 14 (.take 17 (.take 18 (.take 19 .done)))))))))))))))))))))] Tryd.func31 (by kernel_rfl)
theorem is11 : IsFn Tryd.prog tab0.own 11 c11 21 [(2, none)] := isF [(0, hk [0]), (1, hr [3] [(7000, 200000030)]), (2, hr [3, 4] [(200000030, 200000030)]), (3, hr [3, 4, 11] [(200000030, 200000030)]), (4, hr [3, 4, 17] [(200000030, 200000030)]), (5, hr [3, 4] [(200000030, 200000030)]), (6, hk [2])] [(11, hr [3, 4] [(200000030, 200000030)]), (17, hr [3, 4] [(200000030, 200000030)])] [(17, hk [4]), (11, hk [4])] [] Tryd.func11 (by kernel_rfl)
theorem is33 : IsFn Tryd.prog tab0.own 33 c33 6 [(2, none)] := isF [(0, hk [0]), (1, hr [2] [(6000, 200000020)])] [] [] [] Tryd.func33 (by kernel_rfl)
theorem is12 : IsFn Tryd.prog tab0.own 12 c12 10 [(2, some (some 2))] := isF [(0, hr [0, 2] [(3000, 200000020)]), (1, hr [0, 2, 5] [(200000020, 200000020)]), (2, hr [2] [(200000020, 200000020)]), (3, hr [2] [(200000020, 200000020), (9000, 200000021)])] [(5, hr [2] [(200000020, 200000020)])] [(5, hr [0, 2] [(200000020, 200000020)])] [] Tryd.func12 (by kernel_rfl)
theorem is34 : IsFn Tryd.prog tab0.own 34 c34 15 [(6, none)] := isF [(0, hk [0, 1, 2]), (1, hk [6])] [] [] [] Tryd.func34 (by kernel_rfl)
theorem is13 : IsFn Tryd.prog tab0.own 13 c13 54 [(2, none)] := isF [(0, hr [1] [(2000, 200000010)]), (1, hr [1, 3] [(200000010, 200000010)]), (2, hr [1, 3, 34] [(200000010, 200000010)]), (3, hk [2]), (4, hk [53]), (5, hk [2]), (6, hk [2])] [(34, hk []), (53, hk [])] [(34, hr [1, 3] [(200000010, 200000010)]), (53, hk [])] [] Tryd.func13 (by kernel_rfl)
theorem is49 : IsFn Tryd.prog tab0.own 49 c49 36 [(4, none)] := isF [(0, hk [0, 1]), (1, hr [0, 1, 5] [(9000, 200000050)]), (2, hr [0, 1, 5, 6] [(200000050, 200000050)]), (3, hr [0, 1, 5, 6, 7] [(200000050, 200000050)]), (4, hr [0, 1, 5, 6, 7, 12] [(200000050, 200000050)]), (6, hr [0, 1, 5, 6, 7, 25] [(200000050, 200000050)]), (7, hr [0, 1, 5, 7] [(33000, 200000050)]), (8, hr [0, 1, 5, 6, 7] [(200000050, 200000050)]), (5, hr [0, 1, 5, 6, 7] [(200000050, 200000050)]), (9, hr [4] [(200000050, 200000040)])] [(12, hr [0, 1, 5, 6, 7] [(200000050, 200000050)]), (25, hr [0, 1, 5, 6, 7] [(200000050, 200000050)])] [(25, hr [0, 1, 5, 6, 7] [(200000050, 200000050)]), (12, hr [5] [(200000050, 200000050)])] [] Tryd.func49 (by kernel_rfl)
theorem is15 : IsFn Tryd.prog tab0.own 15 c15 66 [(2, some (some 2))] := isF [(0, hr [0, 2] [(3000, 200000020)]), (1, hr [0, 2, 3] [(200000020, 200000020), (4000, 200000030)]), (2, hr [0, 2, 3, 4] [(200000020, 200000020), (200000030, 200000030)]), (3, hr [0, 2, 3, 4, 15] [(200000020, 200000020), (200000030, 200000030)]), (4, hr [0, 2, 3, 4] [(200000020, 200000020), (200000030, 200000030)]), (5, hr [0, 2, 3, 4, 27] [(200000020, 200000020), (200000030, 200000030)]), (6, hr [2] [(200000020, 200000020)]), (7, hr [0, 2, 3, 4, 5] [(200000020, 200000020), (200000030, 200000030)]), (8, hr [0, 2, 3, 4, 5, 6] [(200000020, 200000020), (200000030, 200000030)]), (9, hr [0, 2, 3, 4, 5, 6, 33] [(200000020, 200000020), (200000030, 200000030)]), (11, hr [0, 2, 3, 4, 5, 6, 45] [(200000020, 200000020), (200000030, 200000030)]), (12, hr [2] [(200000020, 200000020)]), (13, hr [0, 2, 3, 4, 5, 6] [(200000020, 200000020), (200000030, 200000030)]), (10, hr [0, 2, 3, 4, 5, 6] [(200000020, 200000020), (200000030, 200000030)]), (14, hr [0, 2, 3, 5, 56] [(200000020, 200000020), (200000030, 200000030)]), (15, hr [0, 2, 3, 5] [(200000020, 200000020), (200000030, 200000030)]), (16, hr [2, 3, 5, 62] [(200000020, 200000020), (200000030, 200000030)]), (18, hr [2] [(200000020, 200000020)]), (17, hr [2] [(200000020, 200000020)])] [(15, hr [0, 2, 3] [(200000020, 200000020), (200000030, 200000030)]), (27, hr [2, 3] [(200000020, 200000020), (200000030, 200000030)]), (33, hr [0, 2, 3, 4, 5, 6] [(200000020, 200000020), (200000030, 200000030)]), (45, hr [2, 3] [(200000020, 200000020), (200000030, 200000030)]), (56, hr [0, 2, 3, 5] [(200000020, 200000020), (200000030, 200000030)]), (62, hr [2, 3] [(200000020, 200000020), (200000030, 200000030)])] [(15, hr [0, 2, 3, 4] [(200000020, 200000020), (200000030, 200000030)]), (27, hr [0, 2, 3, 4] [(200000020, 200000020), (200000030, 200000030)]), (45, hr [0, 2, 3, 4, 5, 6] [(200000020, 200000020), (200000030, 200000030)]), (33, hr [0, 2, 3, 4, 5] [(200000020, 200000020), (200000030, 200000030)]), (56, hr [0, 2, 3, 5] [(200000020, 200000020), (200000030, 200000030)]), (62, hr [2, 5] [(200000020, 200000020)])] [] Tryd.func15 (by kernel_rfl)
theorem is35 : IsFn Tryd.prog tab0.own 35 c35 100 [(2, some (some 4)), (3, none)] := isF [(0, hr [0, 2] [(3000, 200000020)]), (1, hr [0, 2, 4] [(200000020, 200000020), (5000, 200000040)]), (2, hr [0, 2, 4, 12] [(200000020, 200000020), (200000040, 200000040)]), (3, hr [2, 3] [(200000020, 200000020)]), (4, hr [2, 4, 5] [(200000020, 200000020), (200000040, 200000040), (16000, 200000050)]), (5, hr [2, 4, 5, 6] [(200000020, 200000020), (200000040, 200000040), (200000050, 200000050), (17000, 200000060)]), (6, hr [2, 4, 5, 6, 7] [(200000020, 200000020), (200000040, 200000040), (200000050, 200000050), (200000060, 200000060)]), (7, hr [2, 4, 5, 6, 7, 20] [(200000020, 200000020), (200000040, 200000040), (200000050, 200000050), (200000060, 200000060)]), (9, hr [2, 4, 5, 6, 7, 8] [(200000020, 200000020), (200000040, 200000040), (200000050, 200000050), (200000060, 200000060), (9000, 200000080)]), (10, hr [2, 4, 5, 6, 7, 8, 30] [(200000020, 200000020), (200000040, 200000040), (200000050, 200000050), (200000060, 200000060), (200000080, 200000080)]), (11, hr [2, 3] [(200000020, 200000020)]), (12, hr [2, 4, 5, 6, 7] [(200000020, 200000020), (200000040, 200000040), (200000050, 200000050), (37000, 200000060)]), (8, hr [2, 4, 5, 6, 7] [(200000020, 200000020), (200000040, 200000040), (200000050, 200000050), (200000060, 200000060)]), (13, hr [2, 4, 5, 6, 37] [(200000020, 200000020), (200000040, 200000040), (200000050, 200000050), (200000060, 200000060)]), (14, hr [2, 4] [(200000020, 200000020), (200000040, 200000040)]), (15, hr [2, 4, 5, 6, 51] [(200000020, 200000020), (200000040, 200000040), (200000050, 200000050), (200000060, 200000060)]), (16, hr [2, 4] [(200000020, 200000020), (200000040, 200000040)]), (17, hr [2, 4, 5, 6, 65] [(200000020, 200000020), (200000040, 200000040), (200000050, 200000050), (200000060, 200000060)]), (18, hr [2, 4] [(200000020, 200000020), (200000040, 200000040)]), (19, hr [2, 4, 85] [(200000020, 200000020), (200000040, 200000040)]), (20, hr [2, 3] [(200000020, 200000020)]), (21, hr [2, 3] [(200000020, 200000020)])] [(12, hr [2, 4] [(200000020, 200000020), (200000040, 200000040)]), (20, hr [2, 4, 5, 6, 7] [(200000020, 200000020), (200000040, 200000040), (200000050, 200000050), (200000060, 200000060)]), (30, hr [2, 4] [(200000020, 200000020), (200000040, 200000040)]), (37, hr [2, 4, 6] [(200000020, 200000020), (200000040, 200000040), (200000060, 200000060)]), (51, hr [2, 4, 6] [(200000020, 200000020), (200000040, 200000040), (200000060, 200000060)]), (65, hr [2, 4, 6] [(200000020, 200000020), (200000040, 200000040), (200000060, 200000060)]), (85, hr [2, 4] [(200000020, 200000020), (200000040, 200000040)])] [(12, hr [0, 2, 4] [(200000020, 200000020), (200000040, 200000040)]), (30, hr [2, 4, 5, 6, 7, 8] [(200000020, 200000020), (200000040, 200000040), (200000050, 200000050), (200000060, 200000060), (200000080, 200000080)]), (20, hr [2, 4, 5, 6] [(200000020, 200000020), (200000040, 200000040), (200000050, 200000050), (200000060, 200000060)]), (37, hr [2, 4, 5, 6] [(200000020, 200000020), (200000040, 200000040), (200000050, 200000050), (200000060, 200000060)]), (51, hr [2, 4, 5, 6] [(200000020, 200000020), (200000040, 200000040), (200000050, 200000050), (200000060, 200000060)]), (65, hr [2, 4, 5, 6] [(200000020, 200000020), (200000040, 200000040), (200000050, 200000050), (200000060, 200000060)]), (85, hr [2, 4] [(200000020, 200000020), (200000040, 200000040)])] [(18, (.take 0 (.take 1 (.take 2 (.take 3 (.take 4 (.take 5 (.take 6 (.take 7 (.take 8 (.take 9 (.take 10 .done)))))))))))), (21, (.take 0 (.take 1 (.take 2 (.take 3 (.take 4 (.take 5 .done)))))))] Tryd.func35 (by kernel_rfl)
theorem is14 : IsFn Tryd.prog tab0.own 14 c14 15 [(2, some (some 5))] := isF [(0, hr [0, 2] [(3000, 200000020)]), (1, hr [2, 3, 4] [(200000020, 200000020), (4000, 200000030)]), (2, hr [2, 3, 11] [(200000020, 200000020), (200000030, 200000030)]), (4, hr [2] [(200000020, 200000020)]), (3, hr [2] [(200000020, 200000020)])] [(11, hr [2] [(200000020, 200000020)])] [(11, hr [2, 3] [(200000020, 200000020), (200000030, 200000030)])] [] Tryd.func14 (by kernel_rfl)
theorem is36 : IsFn Tryd.prog tab0.own 36 c36 29 [(2, none)] := isF [(0, hk [0]), (1, hr [0, 3] [(7000, 200000030)]), (2, hr [3, 4] [(200000030, 200000030), (9000, 200000040)]), (3, hr [3, 4, 5] [(200000030, 200000030), (200000040, 200000040)]), (4, hr [3, 4, 5, 12] [(200000030, 200000030), (200000040, 200000040)]), (6, hr [3, 4, 5, 20] [(200000030, 200000030), (200000040, 200000040)]), (7, hr [3, 4, 5] [(28000, 200000030), (200000040, 200000040)]), (5, hr [3, 4, 5] [(200000030, 200000030), (200000040, 200000040)]), (8, hr [2] [(200000030, 200000020)])] [(12, hr [3, 4, 5] [(200000030, 200000030), (200000040, 200000040)]), (20, hr [3, 4, 5] [(200000030, 200000030), (200000040, 200000040)])] [(20, hr [3, 4, 5] [(200000030, 200000030), (200000040, 200000040)]), (12, hr [3] [(200000030, 200000030)])] [] Tryd.func36 (by kernel_rfl)
theorem is16 : IsFn Tryd.prog tab0.own 16 c16 10 [(2, some (some 2))] := isF [(0, hr [0, 2] [(3000, 200000020)]), (1, hr [0, 2, 5] [(200000020, 200000020)]), (2, hr [2] [(200000020, 200000020)]), (3, hr [2] [(200000020, 200000020), (9000, 200000021)])] [(5, hr [2] [(200000020, 200000020)])] [(5, hr [0, 2] [(200000020, 200000020)])] [] Tryd.func16 (by kernel_rfl)
theorem is3 : IsFn Tryd.prog tab0.own 3 c3 88 [(2, none)] := isF [(0, hk [0]), (1, hk [0, 12]), (2, hk [2]), (3, hr [0, 3] [(4000, 200000030)]), (4, hr [0, 3, 4] [(200000030, 200000030), (5000, 200000040)]), (5, hr [0, 3, 4, 5] [(200000030, 200000030), (200000040, 200000040)]), (6, hr [0, 3, 4, 5, 6] [(200000030, 200000030), (200000040, 200000040), (7000, 200000060)]), (7, hr [0, 3, 4, 5, 6, 7] [(200000030, 200000030), (200000040, 200000040), (200000060, 200000060)]), (8, hr [0, 3, 4, 5, 6, 7, 8] [(200000030, 200000030), (200000040, 200000040), (200000060, 200000060), (9000, 200000080)]), (9, hr [3, 4, 5, 6, 7, 8, 9] [(200000030, 200000030), (200000040, 200000040), (200000060, 200000060), (200000080, 200000080)]), (10, hr [3, 4, 5, 6, 7, 8, 9, 10] [(200000030, 200000030), (200000040, 200000040), (200000060, 200000060), (200000080, 200000080), (11000, 200000100), (29000, 200000101)]), (11, hr [3, 4, 5, 6, 65] [(200000030, 200000030), (200000040, 200000040), (200000060, 200000060)]), (12, hk [2]), (13, hr [3, 4, 76] [(200000030, 200000030), (200000040, 200000040)]), (14, hk [2]), (15, hk [2])] [(12, hk []), (65, hk []), (76, hk [])] [(12, hk [0]), (65, hr [3, 4, 5, 6] [(200000030, 200000030), (200000040, 200000040), (200000060, 200000060)]), (76, hr [3, 4] [(200000030, 200000030), (200000040, 200000040)])] [(11, (.take 0 (.take 1 (.take 2 (.take 3 (.take 4 (.take 5 (.take 6 (.take 7 (.take 8 (.take 9 (.take 10 (.take 11 (.take 12 (.take 13 (.take 14 (.take 15 (.take 16 (.take 17 (.take 18 (.take 19 (.take 20 (.take 21 (.take 22 (.take 23 (.take 24 (.take 25 (.take 26 (.take 27 (.take 28 (.take 29 (.take 30 (.take 31 (.take 32 (.take 33 (.take 34 (.take 35 (.take 36 .done)))))))))))))))))))))))))))))))))))))), (15, (.take 0 (.take 1 (.take 2 (.take 3 (.take 4 (.take 5 (.take 7 (.take 8 (.take 6 (.take 9 (.take 10 (.take 11 .done)))))))))))))] Tryd.func3 (by kernel_rfl)
theorem recR_fn : ∀ f N, recR f = some N → ∃ p, tab0.fn f = some p := by
  intro f N h
  simp only [recR, look] at h
  repeat (split at h; (rename_i e; subst e; exact ⟨_, rfl⟩))
  simp at h
def x50_ren : Go.Shelf.Ren := ⟨fun | 129 => 87 | 173 => 50 | 246 => 60 | 283 => 72 | 284 => 73 | 285 => 74 | 286 => 75 | 317 => 86 | 318 => 88 | 319 => 89 | 320 => 90 | 337 => 94 | 338 => 95 | n => n, fun | 0 => 0 | 2 => 2 | 3 => 3 | 4 => 4 | 5 => 5 | 9 => 9 | 20 => 20 | 37 => 22 | 46 => 96 | 51 => 116 | 53 => 93 | 171 => 103 | 173 => 106 | 212 => 115 | 213 => 117 | 232 => 131 | 233 => 132 | n => n, fun | 17 => 4 | 18 => 7 | 19 => 8 | n => n⟩
theorem x50_lay : LaysM.n173 Tryd.prog x50_ren where
  mixed := by kernel_rfl
  f129 := Tryd.func87.trans (congrArg some (by kernel_rfl))
  f173 := Tryd.func50.trans (congrArg some (by kernel_rfl))
  f246 := Tryd.func60.trans (congrArg some (by kernel_rfl))
  f283 := Tryd.func72.trans (congrArg some (by kernel_rfl))
  f284 := Tryd.func73.trans (congrArg some (by kernel_rfl))
  f285 := Tryd.func74.trans (congrArg some (by kernel_rfl))
  f286 := Tryd.func75.trans (congrArg some (by kernel_rfl))
  f317 := Tryd.func86.trans (congrArg some (by kernel_rfl))
  f318 := Tryd.func88.trans (congrArg some (by kernel_rfl))
  f319 := Tryd.func89.trans (congrArg some (by kernel_rfl))
  f320 := Tryd.func90.trans (congrArg some (by kernel_rfl))
  f337 := Tryd.func94.trans (congrArg some (by kernel_rfl))
  f338 := Tryd.func95.trans (congrArg some (by kernel_rfl))
  t0 := Tryd.underlying0
  a0 := Tryd.isAgg0
  z0 := Tryd.sizeOf0
  v0 := Tryd.zeroValue0
  t2 := Tryd.underlying2
  a2 := Tryd.isAgg2
  z2 := Tryd.sizeOf2
  v2 := Tryd.zeroValue2
  t3 := Tryd.underlying3
  a3 := Tryd.isAgg3
  z3 := Tryd.sizeOf3
  v3 := Tryd.zeroValue3
  t4 := Tryd.underlying4
  a4 := Tryd.isAgg4
  z4 := Tryd.sizeOf4
  v4 := Tryd.zeroValue4
  t5 := Tryd.underlying5
  a5 := Tryd.isAgg5
  z5 := Tryd.sizeOf5
  v5 := Tryd.zeroValue5
  t9 := Tryd.underlying9
  a9 := Tryd.isAgg9
  z9 := Tryd.sizeOf9
  v9 := Tryd.zeroValue9
  t20 := Tryd.underlying20
  a20 := Tryd.isAgg20
  z20 := Tryd.sizeOf20
  v20 := Tryd.zeroValue20
  t37 := Tryd.underlying22
  a37 := Tryd.isAgg22
  z37 := Tryd.sizeOf22
  v37 := Tryd.zeroValue22
  t46 := Tryd.underlying96
  a46 := Tryd.isAgg96
  z46 := Tryd.sizeOf96
  v46 := Tryd.zeroValue96
  t51 := Tryd.underlying116
  a51 := Tryd.isAgg116
  z51 := Tryd.sizeOf116
  v51 := Tryd.zeroValue116
  t53 := Tryd.underlying93
  a53 := Tryd.isAgg93
  z53 := Tryd.sizeOf93
  v53 := Tryd.zeroValue93
  t171 := Tryd.underlying103
  a171 := Tryd.isAgg103
  z171 := Tryd.sizeOf103
  v171 := Tryd.zeroValue103
  t173 := Tryd.underlying106
  a173 := Tryd.isAgg106
  z173 := Tryd.sizeOf106
  v173 := Tryd.zeroValue106
  t212 := Tryd.underlying115
  a212 := Tryd.isAgg115
  z212 := Tryd.sizeOf115
  v212 := Tryd.zeroValue115
  t213 := Tryd.underlying117
  a213 := Tryd.isAgg117
  z213 := Tryd.sizeOf117
  t232 := Tryd.underlying131
  a232 := Tryd.isAgg131
  z232 := Tryd.sizeOf131
  v232 := Tryd.zeroValue131
  t233 := Tryd.underlying132
  a233 := Tryd.isAgg132
  z233 := Tryd.sizeOf132
  v233 := Tryd.zeroValue132
  g17 := by kernel_rfl
  g18 := by kernel_rfl
  g19 := by kernel_rfl
  i0 := by kernel_rfl
  i2 := by kernel_rfl
  i3 := by kernel_rfl
  i4 := by kernel_rfl
  i5 := by kernel_rfl
  i9 := by kernel_rfl
  i20 := by kernel_rfl
  i37 := by kernel_rfl
  i46 := by kernel_rfl
  i51 := by kernel_rfl
  i53 := by kernel_rfl
  i171 := by kernel_rfl
  i173 := by kernel_rfl
  i212 := by kernel_rfl
  i232 := by kernel_rfl
  i233 := by kernel_rfl
  m17 := by kernel_rfl
  m18 := by kernel_rfl
  m19 := by kernel_rfl
theorem xs50 : SoundFn Tryd.prog (fun g => look g tabG) (tab0.own 50) 50 itoaF ∧ okFn Tryd.prog 50 := ⟨itoa_sound x50_lay (g := 4) (by kernel_rfl) rfl, ⟨Tryd.f50, Tryd.func50, by kernel_rfl, by kernel_rfl⟩⟩
def x25_ren : Go.Shelf.Ren := ⟨fun | 138 => 52 | 143 => 53 | 146 => 25 | 195 => 61 | 197 => 62 | 217 => 77 | 218 => 63 | 219 => 64 | 221 => 42 | 224 => 79 | 225 => 78 | 260 => 76 | 266 => 91 | 267 => 80 | 268 => 51 | 314 => 92 | n => n, fun | 0 => 0 | 3 => 3 | 4 => 4 | 5 => 5 | 9 => 9 | 21 => 21 | 31 => 37 | 46 => 96 | 51 => 116 | 105 => 89 | 119 => 120 | 137 => 121 | 138 => 122 | 139 => 123 | 146 => 124 | n => n, fun | 1 => 1 | 3 => 5 | 4 => 6 | n => n⟩
theorem x25_lay : Lays.n146 Tryd.prog x25_ren where
  mixed := by kernel_rfl
  f138 := Tryd.func52.trans (congrArg some (by kernel_rfl))
  f143 := Tryd.func53.trans (congrArg some (by kernel_rfl))
  f146 := Tryd.func25.trans (congrArg some (by kernel_rfl))
  f195 := Tryd.func61.trans (congrArg some (by kernel_rfl))
  f197 := Tryd.func62.trans (congrArg some (by kernel_rfl))
  f217 := Tryd.func77.trans (congrArg some (by kernel_rfl))
  f218 := Tryd.func63.trans (congrArg some (by kernel_rfl))
  f219 := Tryd.func64.trans (congrArg some (by kernel_rfl))
  f221 := Tryd.func42.trans (congrArg some (by kernel_rfl))
  f224 := Tryd.func79.trans (congrArg some (by kernel_rfl))
  f225 := Tryd.func78.trans (congrArg some (by kernel_rfl))
  f260 := Tryd.func76.trans (congrArg some (by kernel_rfl))
  f266 := Tryd.func91.trans (congrArg some (by kernel_rfl))
  f267 := Tryd.func80.trans (congrArg some (by kernel_rfl))
  f268 := Tryd.func51.trans (congrArg some (by kernel_rfl))
  f314 := Tryd.func92.trans (congrArg some (by kernel_rfl))
  t0 := Tryd.underlying0
  a0 := Tryd.isAgg0
  z0 := Tryd.sizeOf0
  v0 := Tryd.zeroValue0
  t3 := Tryd.underlying3
  a3 := Tryd.isAgg3
  z3 := Tryd.sizeOf3
  v3 := Tryd.zeroValue3
  t4 := Tryd.underlying4
  a4 := Tryd.isAgg4
  z4 := Tryd.sizeOf4
  v4 := Tryd.zeroValue4
  t5 := Tryd.underlying5
  a5 := Tryd.isAgg5
  z5 := Tryd.sizeOf5
  v5 := Tryd.zeroValue5
  t9 := Tryd.underlying9
  a9 := Tryd.isAgg9
  z9 := Tryd.sizeOf9
  v9 := Tryd.zeroValue9
  t21 := Tryd.underlying21
  a21 := Tryd.isAgg21
  z21 := Tryd.sizeOf21
  v21 := Tryd.zeroValue21
  t31 := Tryd.underlying37
  a31 := Tryd.isAgg37
  z31 := Tryd.sizeOf37
  v31 := Tryd.zeroValue37
  t46 := Tryd.underlying96
  a46 := Tryd.isAgg96
  z46 := Tryd.sizeOf96
  v46 := Tryd.zeroValue96
  t51 := Tryd.underlying116
  a51 := Tryd.isAgg116
  z51 := Tryd.sizeOf116
  v51 := Tryd.zeroValue116
  t105 := Tryd.underlying89
  a105 := Tryd.isAgg89
  z105 := Tryd.sizeOf89
  v105 := Tryd.zeroValue89
  t119 := Tryd.underlying120
  a119 := Tryd.isAgg120
  z119 := Tryd.sizeOf120
  t138 := Tryd.underlying122
  a138 := Tryd.isAgg122
  z138 := Tryd.sizeOf122
  v138 := Tryd.zeroValue122
  t139 := Tryd.underlying123
  a139 := Tryd.isAgg123
  z139 := Tryd.sizeOf123
  v139 := Tryd.zeroValue123
  t146 := Tryd.underlying124
  a146 := Tryd.isAgg124
  z146 := Tryd.sizeOf124
  v146 := Tryd.zeroValue124
  g1 := by kernel_rfl
  g3 := by kernel_rfl
  g4 := by kernel_rfl
theorem xs25 : SoundFn Tryd.prog (fun g => look g tabG) (tab0.own 25) 25 splitF ∧ okFn Tryd.prog 25 := ⟨split_sound x25_lay (by kernel_rfl) (m := MX.mx) rfl, ⟨Tryd.f25, Tryd.func25, by kernel_rfl, by kernel_rfl⟩⟩
def x43_ren : Go.Shelf.Ren := ⟨fun | 129 => 87 | 171 => 85 | 174 => 43 | 205 => 84 | 243 => 93 | 245 => 55 | 246 => 60 | 247 => 54 | 279 => 66 | 280 => 67 | 281 => 68 | 282 => 69 | 283 => 72 | 284 => 73 | 285 => 74 | 286 => 75 | 287 => 65 | 316 => 83 | 317 => 86 | 318 => 88 | 319 => 89 | 320 => 90 | 321 => 81 | 322 => 82 | 337 => 94 | 338 => 95 | n => n, fun | 0 => 0 | 2 => 2 | 3 => 3 | 4 => 4 | 5 => 5 | 9 => 9 | 20 => 20 | 21 => 21 | 37 => 22 | 46 => 96 | 51 => 116 | 53 => 93 | 74 => 68 | 75 => 69 | 80 => 133 | 85 => 70 | 127 => 126 | 143 => 127 | 144 => 128 | 145 => 129 | 167 => 92 | 168 => 97 | 171 => 103 | 173 => 106 | 175 => 94 | 209 => 111 | 210 => 112 | 212 => 115 | 213 => 117 | 232 => 131 | 233 => 132 | n => n, fun | 15 => 2 | 16 => 3 | 17 => 4 | 18 => 7 | 19 => 8 | n => n⟩
theorem x43_lay : LaysC.n174 Tryd.prog x43_ren where
  mixed := by kernel_rfl
  f129 := Tryd.func87.trans (congrArg some (by kernel_rfl))
  f171 := Tryd.func85.trans (congrArg some (by kernel_rfl))
  f174 := Tryd.func43.trans (congrArg some (by kernel_rfl))
  f205 := Tryd.func84.trans (congrArg some (by kernel_rfl))
  f243 := Tryd.func93.trans (congrArg some (by kernel_rfl))
  f245 := Tryd.func55.trans (congrArg some (by kernel_rfl))
  f246 := Tryd.func60.trans (congrArg some (by kernel_rfl))
  f247 := Tryd.func54.trans (congrArg some (by kernel_rfl))
  f279 := Tryd.func66.trans (congrArg some (by kernel_rfl))
  f280 := Tryd.func67.trans (congrArg some (by kernel_rfl))
  f281 := Tryd.func68.trans (congrArg some (by kernel_rfl))
  f282 := Tryd.func69.trans (congrArg some (by kernel_rfl))
  f283 := Tryd.func72.trans (congrArg some (by kernel_rfl))
  f284 := Tryd.func73.trans (congrArg some (by kernel_rfl))
  f285 := Tryd.func74.trans (congrArg some (by kernel_rfl))
  f286 := Tryd.func75.trans (congrArg some (by kernel_rfl))
  f287 := Tryd.func65.trans (congrArg some (by kernel_rfl))
  f316 := Tryd.func83.trans (congrArg some (by kernel_rfl))
  f317 := Tryd.func86.trans (congrArg some (by kernel_rfl))
  f318 := Tryd.func88.trans (congrArg some (by kernel_rfl))
  f319 := Tryd.func89.trans (congrArg some (by kernel_rfl))
  f320 := Tryd.func90.trans (congrArg some (by kernel_rfl))
  f321 := Tryd.func81.trans (congrArg some (by kernel_rfl))
  f322 := Tryd.func82.trans (congrArg some (by kernel_rfl))
  f337 := Tryd.func94.trans (congrArg some (by kernel_rfl))
  f338 := Tryd.func95.trans (congrArg some (by kernel_rfl))
  t0 := Tryd.underlying0
  a0 := Tryd.isAgg0
  z0 := Tryd.sizeOf0
  v0 := Tryd.zeroValue0
  t2 := Tryd.underlying2
  a2 := Tryd.isAgg2
  z2 := Tryd.sizeOf2
  v2 := Tryd.zeroValue2
  t3 := Tryd.underlying3
  a3 := Tryd.isAgg3
  z3 := Tryd.sizeOf3
  v3 := Tryd.zeroValue3
  t4 := Tryd.underlying4
  a4 := Tryd.isAgg4
  z4 := Tryd.sizeOf4
  v4 := Tryd.zeroValue4
  t5 := Tryd.underlying5
  a5 := Tryd.isAgg5
  z5 := Tryd.sizeOf5
  v5 := Tryd.zeroValue5
  t9 := Tryd.underlying9
  a9 := Tryd.isAgg9
  z9 := Tryd.sizeOf9
  v9 := Tryd.zeroValue9
  t20 := Tryd.underlying20
  a20 := Tryd.isAgg20
  z20 := Tryd.sizeOf20
  v20 := Tryd.zeroValue20
  t21 := Tryd.underlying21
  a21 := Tryd.isAgg21
  z21 := Tryd.sizeOf21
  v21 := Tryd.zeroValue21
  t37 := Tryd.underlying22
  a37 := Tryd.isAgg22
  z37 := Tryd.sizeOf22
  v37 := Tryd.zeroValue22
  t46 := Tryd.underlying96
  a46 := Tryd.isAgg96
  z46 := Tryd.sizeOf96
  v46 := Tryd.zeroValue96
  t51 := Tryd.underlying116
  a51 := Tryd.isAgg116
  z51 := Tryd.sizeOf116
  v51 := Tryd.zeroValue116
  t53 := Tryd.underlying93
  a53 := Tryd.isAgg93
  z53 := Tryd.sizeOf93
  v53 := Tryd.zeroValue93
  t75 := Tryd.underlying69
  a75 := Tryd.isAgg69
  z75 := Tryd.sizeOf69
  v75 := Tryd.zeroValue69
  t85 := Tryd.underlying70
  a85 := Tryd.isAgg70
  z85 := Tryd.sizeOf70
  v85 := Tryd.zeroValue70
  t127 := Tryd.underlying126
  a127 := Tryd.isAgg126
  z127 := Tryd.sizeOf126
  v127 := Tryd.zeroValue126
  t143 := Tryd.underlying127
  a143 := Tryd.isAgg127
  z143 := Tryd.sizeOf127
  v143 := Tryd.zeroValue127
  t145 := Tryd.underlying129
  a145 := Tryd.isAgg129
  z145 := Tryd.sizeOf129
  v145 := Tryd.zeroValue129
  t167 := Tryd.underlying92
  a167 := Tryd.isAgg92
  z167 := Tryd.sizeOf92
  v167 := Tryd.zeroValue92
  t168 := Tryd.underlying97
  a168 := Tryd.isAgg97
  z168 := Tryd.sizeOf97
  v168 := Tryd.zeroValue97
  t171 := Tryd.underlying103
  a171 := Tryd.isAgg103
  z171 := Tryd.sizeOf103
  v171 := Tryd.zeroValue103
  t173 := Tryd.underlying106
  a173 := Tryd.isAgg106
  z173 := Tryd.sizeOf106
  v173 := Tryd.zeroValue106
  t175 := Tryd.underlying94
  a175 := Tryd.isAgg94
  z175 := Tryd.sizeOf94
  v175 := Tryd.zeroValue94
  t210 := Tryd.underlying112
  a210 := Tryd.isAgg112
  z210 := Tryd.sizeOf112
  v210 := Tryd.zeroValue112
  t212 := Tryd.underlying115
  a212 := Tryd.isAgg115
  z212 := Tryd.sizeOf115
  v212 := Tryd.zeroValue115
  t213 := Tryd.underlying117
  a213 := Tryd.isAgg117
  z213 := Tryd.sizeOf117
  t232 := Tryd.underlying131
  a232 := Tryd.isAgg131
  z232 := Tryd.sizeOf131
  v232 := Tryd.zeroValue131
  t233 := Tryd.underlying132
  a233 := Tryd.isAgg132
  z233 := Tryd.sizeOf132
  v233 := Tryd.zeroValue132
  g15 := by kernel_rfl
  g16 := by kernel_rfl
  g17 := by kernel_rfl
  g18 := by kernel_rfl
  g19 := by kernel_rfl
  t80 := Tryd.underlying133
  a80 := Tryd.isAgg133
  z80 := Tryd.sizeOf133
  v80 := Tryd.zeroValue133
  i0 := by kernel_rfl
  i2 := by kernel_rfl
  i3 := by kernel_rfl
  i4 := by kernel_rfl
  i5 := by kernel_rfl
  i9 := by kernel_rfl
  i20 := by kernel_rfl
  i21 := by kernel_rfl
  i37 := by kernel_rfl
  i46 := by kernel_rfl
  i51 := by kernel_rfl
  i53 := by kernel_rfl
  i75 := by kernel_rfl
  i80 := by kernel_rfl
  i85 := by kernel_rfl
  i127 := by kernel_rfl
  i143 := by kernel_rfl
  i145 := by kernel_rfl
  i167 := by kernel_rfl
  i168 := by kernel_rfl
  i171 := by kernel_rfl
  i173 := by kernel_rfl
  i175 := by kernel_rfl
  i210 := by kernel_rfl
  i212 := by kernel_rfl
  i232 := by kernel_rfl
  i233 := by kernel_rfl
  m15 := by kernel_rfl
  m16 := by kernel_rfl
  m17 := by kernel_rfl
  m18 := by kernel_rfl
  m19 := by kernel_rfl
  c0 := by kernel_rfl
  c2 := by kernel_rfl
  c3 := by kernel_rfl
  c4 := by kernel_rfl
  c5 := by kernel_rfl
  c9 := by kernel_rfl
  c20 := by kernel_rfl
  c21 := by kernel_rfl
  c37 := by kernel_rfl
  c46 := by kernel_rfl
  c51 := by kernel_rfl
  c53 := by kernel_rfl
  c75 := by kernel_rfl
  c80 := by kernel_rfl
  c85 := by kernel_rfl
  c127 := by kernel_rfl
  c143 := by kernel_rfl
  c145 := by kernel_rfl
  c167 := by kernel_rfl
  c168 := by kernel_rfl
  c171 := by kernel_rfl
  c173 := by kernel_rfl
  c175 := by kernel_rfl
  c210 := by kernel_rfl
  c212 := by kernel_rfl
  c213 := by kernel_rfl
  c232 := by kernel_rfl
  c233 := by kernel_rfl
theorem xs43 : SoundFn Tryd.prog (fun g => look g tabG) (tab0.own 43) 43 parseF ∧ okFn Tryd.prog 43 := ⟨parse_sound x43_lay rfl rfl, ⟨Tryd.f43, Tryd.func43, by kernel_rfl, by kernel_rfl⟩⟩
def x47_ren : Go.Shelf.Ren := ⟨fun | 6 => 59 | 10 => 47 | n => n, fun | 0 => 0 | 3 => 3 | 4 => 4 | 22 => 37 | 23 => 9 | 25 => 79 | n => n, fun | n => n⟩
theorem x47_lay : SlLaysH.n10 Tryd.prog x47_ren where
  mixed := by kernel_rfl
  f6 := ⟨"slices.IndexFunc[[]string,string]", by decide, Tryd.func59.trans (congrArg some (by kernel_rfl))⟩
  f10 := ⟨"slices.DeleteFunc[[]string,string]", by decide, Tryd.func47.trans (congrArg some (by kernel_rfl))⟩
  t0 := Tryd.underlying0
  a0 := Tryd.isAgg0
  z0 := Tryd.sizeOf0
  v0 := Tryd.zeroValue0
  t3 := Tryd.underlying3
  a3 := Tryd.isAgg3
  z3 := Tryd.sizeOf3
  v3 := Tryd.zeroValue3
  t4 := Tryd.underlying4
  a4 := Tryd.isAgg4
  z4 := Tryd.sizeOf4
  v4 := Tryd.zeroValue4
  t22 := Tryd.underlying37
  a22 := Tryd.isAgg37
  z22 := Tryd.sizeOf37
  v22 := Tryd.zeroValue37
  a23 := Tryd.isAgg9
  z23 := Tryd.sizeOf9
  t25 := Tryd.underlying79
  a25 := Tryd.isAgg79
  z25 := Tryd.sizeOf79
  v25 := Tryd.zeroValue79
theorem giv48 (x : ByteArray) (W : World) : FnGives Tryd.prog 48 #[] #[.string x] (.bool (x.data.toList == [])) W := by
  show Calls Tryd.prog 48 #[.string x] W _
  go_enter Tryd.func48, Tryd.ntmps48
  go_wp2
  all_goals (go_ret; exact ⟨by rw [Go.ByteArray.toList_eq]; cases x.data.toList <;> rfl, 0, rfl⟩)
theorem xs47 : SoundFn Tryd.prog (fun g => look g tabG) (tab0.own 47) 47 (deleteF 48 fun x => x == []) ∧ okFn Tryd.prog 47 := ⟨delete_sound x47_lay (g := 48) giv48 (enters_of Tryd.func48 (by kernel_rfl) rfl) Tryd.zeroValue9, ⟨Tryd.f47, Tryd.func47, by kernel_rfl, by kernel_rfl⟩⟩
theorem tabOk (fu : Nat) : TabOk Tryd.prog (tab fu) := recTab_ok (tabOk_ofG (l := tabL) (x := tabX) (by kernel_rfl) ⟨is4, is20, is41, is29, is24, is23, is17, is5, is37, is39, is38, is18, is40, is19, is6, is28, is22, is32, is21, is7, is26, is70, is56, is44, is27, is8, is30, is9, is10, is71, is57, is58, is45, is46, is31, is11, is33, is12, is34, is13, is49, is15, is35, is14, is36, is16, is3, trivial⟩ ⟨xs50, xs25, xs43, xs47, trivial⟩ (gs := tabG) (by rfl)) recR_fn fu
attribute [local congr] ite_cong2 run_cg runR_cg plug_cg contV_cg contH_cg contT_cg contF_cg guardR_cg condX_cg evcA_cg evcB_cg evcC_cg evcE_cg evcH_cg levA_cg condJX_cg
def laws_lwBig (p0 : List Int) : Bool :=
  (decide ((p0.length : Int) > 1048576))
@[go_sem] theorem laws_lwBig_ok (fu n : Nat) (q0_0 : List Int) : lev (tab fu) (n + 1) 4 [.sh .lent 1 (rowE (eI .u8) q0_0)] = (some (laws_lwBig q0_0)).map fun r => (.bool r, [.gone]) := by
  rw [lev_st (vc := c4) (nt := 6) (rs := [(2, none)]) ((tab_ext _ _ rfl).trans rfl) rfl (Nat.le_of_ble_eq_true rfl)]
  unfold c4
  simp +contextual -implicitDefEqProofs (maxSteps := 99999999) only [laws_lwBig, subI, go_sem] <;> rfl
def spec_l1Source (p0 : List Int) : Sl1Src :=
  (Sl1Src.mk p0 0)
@[go_sem] theorem spec_l1Source_ok (fu n : Nat) (q0_0 : List Int) : lev (tab fu) (n + 1) 20 [.sh .lent 1 (rowE (eI .u8) q0_0)] = (some (spec_l1Source q0_0)).map fun r => (.op 0 [.sh .lent 1 (rowE (eI .u8) r.Code), .int .i64 r.At], [.gone]) := by
  rw [lev_st (vc := c20) (nt := 6) (rs := [(2, none)]) ((tab_ext _ _ rfl).trans rfl) rfl (Nat.le_of_ble_eq_true rfl)]
  unfold c20
  simp +contextual -implicitDefEqProofs (maxSteps := 99999999) only [spec_l1Source, subI, go_sem] <;> rfl
def spec_l1Next_u1 (a2 : List Int) (a3 a4 : Int) (a5 a6 a7 : Int) (a8 : Bool) : Option (Int) :=
  if a8 = true then if a6 = 0 then none
    else (getI a2 (((IntKind.i64.wrap (a5 + 1))).tmod a6)).bind fun x9 =>
      some ((IntKind.i64.wrap ((IntKind.i64.wrap ((IntKind.i64.wrap (a7 * 251)) + (IntKind.i64.wrap ((IntKind.i64.wrap x9) * 13)))) + a5)))
  else some a7
def spec_l1Next_u2 (a11 : List Int) (a12 a13 : Int) (a14 a15 a16 : Int) (a17 : Bool) : Option (Int) :=
  if a17 = true then if a15 = 0 then none
    else (getI a11 (((IntKind.i64.wrap (a14 + 2))).tmod a15)).bind fun x18 =>
      some ((IntKind.i64.wrap ((IntKind.i64.wrap (a16 * 257)) + (IntKind.i64.wrap x18))))
  else some a16
def spec_l1Next (p0 : Sl1Src) (p1 : Int) : Option (Int × Sl1Src) :=
  if (decide (p1 < 1)) = true then some ((0, (Sl1Src.mk p0.Code ((IntKind.i64.wrap (p0.At + 1))))))
  else if ((p0.Code.length : Int) == 0) = true then if p1 = 0 then none
      else some (((((IntKind.i64.wrap ((IntKind.i64.wrap ((IntKind.i64.wrap (p0.At + 1)) - 1)) * 7))).tmod p1), (Sl1Src.mk p0.Code ((IntKind.i64.wrap (p0.At + 1))))))
    else if (p0.Code.length : Int) = 0 then none
      else (getI p0.Code (((IntKind.i64.wrap ((IntKind.i64.wrap (p0.At + 1)) - 1))).tmod ((p0.Code.length : Int)))).bind fun x1 =>
        if (p0.Code.length : Int) = 0 then none
        else (spec_l1Next_u1 p0.Code ((IntKind.i64.wrap (p0.At + 1))) p1 ((IntKind.i64.wrap ((IntKind.i64.wrap (p0.At + 1)) - 1))) ((p0.Code.length : Int)) ((IntKind.i64.wrap ((IntKind.i64.wrap x1) + (IntKind.i64.wrap ((IntKind.i64.wrap (((IntKind.i64.wrap ((IntKind.i64.wrap (p0.At + 1)) - 1))).tdiv ((p0.Code.length : Int)))) * 37))))) ((decide (p1 > 200)))).bind fun y10 =>
          (spec_l1Next_u2 p0.Code (((IntKind.i64.wrap (p0.At + 1)))) p1 (((IntKind.i64.wrap ((IntKind.i64.wrap (p0.At + 1)) - 1)))) (((p0.Code.length : Int))) y10 ((decide (p1 > 60000)))).bind fun y19 =>
          if p1 = 0 then none
          else some (((y19.tmod p1), (Sl1Src.mk p0.Code ((((IntKind.i64.wrap (p0.At + 1))))))))
@[go_sem] theorem spec_l1Next_u1_ok {β : Type} (fu n : Nat) (K : List (Kont β)) (a2 : List Int) (a3 a4 : Int) (a5 a6 a7 : Int) (a8 : Bool) : run ⟨(tab fu).own, lev (tab fu) n, (tab fu).gl⟩ K c41_u1 ⟨[(0, .pt 1000000000 0), (1, .val (.int .i64 a4)), (5, .val (.int .i64 a5)), (6, .val (.int .i64 a6)), (7, .val (.int .i64 a7)), (50, .val (.bool a8))], [(1000000000, .var true [.val (.sh .lent 1 (rowE (eI .u8) a2)), .val (.int .i64 a3)])], 87⟩ = (spec_l1Next_u1 a2 a3 a4 a5 a6 a7 a8).bind (fun t => plug ⟨(tab fu).own, lev (tab fu) n, (tab fu).gl⟩ K .normal ⟨[(0, .pt 1000000000 0), (1, .val (.int .i64 a4)), (5, .val (.int .i64 a5)), (6, .val (.int .i64 a6)), (7, .val (.int .i64 t))], [(1000000000, .var true [.val (.sh .lent 1 (rowE (eI .u8) a2)), .val (.int .i64 a3)])], 87⟩) := by
  unfold c41_u1
  simp +contextual -implicitDefEqProofs (maxSteps := 99999999) only [spec_l1Next_u1, subI, go_sem] <;> rfl
@[go_sem] theorem spec_l1Next_u2_ok {β : Type} (fu n : Nat) (K : List (Kont β)) (a11 : List Int) (a12 a13 : Int) (a14 a15 a16 : Int) (a17 : Bool) : run ⟨(tab fu).own, lev (tab fu) n, (tab fu).gl⟩ K c41_u2 ⟨[(0, .pt 1000000000 0), (1, .val (.int .i64 a13)), (5, .val (.int .i64 a14)), (6, .val (.int .i64 a15)), (7, .val (.int .i64 a16)), (69, .val (.bool a17))], [(1000000000, .var true [.val (.sh .lent 1 (rowE (eI .u8) a11)), .val (.int .i64 a12)])], 87⟩ = (spec_l1Next_u2 a11 a12 a13 a14 a15 a16 a17).bind (fun t => plug ⟨(tab fu).own, lev (tab fu) n, (tab fu).gl⟩ K .normal ⟨[(1, .val (.int .i64 a13)), (7, .val (.int .i64 t))], [(1000000000, .var true [.val (.sh .lent 1 (rowE (eI .u8) a11)), .val (.int .i64 a12)])], 87⟩) := by
  unfold c41_u2
  simp +contextual -implicitDefEqProofs (maxSteps := 99999999) only [spec_l1Next_u2, subI, go_sem] <;> rfl
@[go_sem] theorem spec_l1Next_ok (fu n : Nat) (q0_0 : List Int) (q0_1 q1_0 : Int) : lev (tab fu) (n + 1) 41 [.op 0 [.sh .lent 1 (rowE (eI .u8) q0_0), .int .i64 q0_1], .int .i64 q1_0] = (spec_l1Next (Sl1Src.mk q0_0 q0_1) q1_0).map fun r => (.int .i64 r.1, [.op 0 [.sh .lent 1 (rowE (eI .u8) r.2.Code), .int .i64 r.2.At], .gone]) := by
  rw [lev_st (vc := c41) (nt := 87) (rs := [(4, none)]) ((tab_ext _ _ rfl).trans rfl) rfl (Nat.le_of_ble_eq_true rfl)]
  unfold c41
  simp +contextual -implicitDefEqProofs (maxSteps := 99999999) only [spec_l1Next, subI, go_sem] <;> rfl
def spec_l1Pick (p0 : Sl1Src) (p1 : List Int) : Option (Int × Sl1Src) :=
  (spec_l1Next p0 ((p1.length : Int))).bind fun r1 =>
  (getI p1 r1.1).bind fun x2 =>
  some ((x2, r1.2))
@[go_sem] theorem spec_l1Pick_ok (fu n : Nat) (q0_0 : List Int) (q0_1 : Int) (q1_0 : List Int) : lev (tab fu) (n + 2) 29 [.op 0 [.sh .lent 1 (rowE (eI .u8) q0_0), .int .i64 q0_1], .sh .lent 1 (rowE (eI .i64) q1_0)] = (spec_l1Pick (Sl1Src.mk q0_0 q0_1) q1_0).map fun r => (.int .i64 r.1, [.op 0 [.sh .lent 1 (rowE (eI .u8) r.2.Code), .int .i64 r.2.At], .gone]) := by
  rw [lev_st (vc := c29) (nt := 12) (rs := [(4, none)]) ((tab_ext _ _ rfl).trans rfl) rfl (Nat.le_of_ble_eq_true rfl)]
  unfold c29
  simp +contextual -implicitDefEqProofs (maxSteps := 99999999) only [spec_l1Pick, subI, go_sem] <;> rfl
def spec_l20Fate_u1 (a4 : List Int) (a5 a6 : Int) (a7 : Bool) : Bool :=
  if a7 = true then true
  else (a6 == 1)
def spec_l20Fate (p0 : Sl1Src) (p1 : Int) : Option (SFate × Sl1Src) :=
  (spec_l1Next p0 10).bind fun r1 =>
  if (decide (r1.1 < p1)) = true then (spec_l1Pick r1.2 ([0, 0, 0, 1])).bind fun r2 =>
    some (((SFate.mk 1 r2.1 0 0), r2.2))
  else (spec_l1Next r1.2 5).bind fun r3 =>
    let y8 := spec_l20Fate_u1 r3.2.Code r3.2.At r3.1 ((r3.1 == 0))
    if y8 = true then some (((SFate.mk 0 0 0 0), r3.2))
    else if (r3.1 == 2) = true then (spec_l1Next r3.2 7).bind fun r9 =>
        some (((SFate.mk 2 r9.1 0 0), r9.2))
      else if (r3.1 == 3) = true then (spec_l1Next r3.2 3).bind fun r10 =>
          (spec_l1Next r10.2 90).bind fun r11 =>
          (spec_l1Next r11.2 300).bind fun r12 =>
          (spec_l1Pick r12.2 ([r11.1, r12.1, 0])).bind fun r13 =>
          (spec_l1Next r13.2 65535).bind fun r14 =>
          (spec_l1Pick r14.2 ([1, 3, 65535, (IntKind.i64.wrap (1 + r14.1))])).bind fun r15 =>
          some (((SFate.mk 3 r10.1 r13.1 r15.1), r15.2))
        else (spec_l1Next r3.2 7).bind fun r16 =>
          some (((SFate.mk 1 r16.1 0 0), r16.2))
@[go_sem] theorem spec_l20Fate_u1_ok {β : Type} (fu n : Nat) (K : List (Kont β)) (a4 : List Int) (a5 a6 : Int) (a7 : Bool) : run ⟨(tab fu).own, lev (tab fu) (n + 2), (tab fu).gl⟩ K c24_u1 ⟨[(0, .pt 1000000000 0), (4, .pt 200000040 0), (14, .val (.int .i64 a6)), (15, .val (.bool a7))], [(200000040, .var false [.val (.int .i64 0), .val (.int .i64 0), .val (.int .i64 0), .val (.int .i64 0)]), (1000000000, .var true [.val (.sh .lent 1 (rowE (eI .u8) a4)), .val (.int .i64 a5)])], 45⟩ = (some (spec_l20Fate_u1 a4 a5 a6 a7)).bind (fun t => plug ⟨(tab fu).own, lev (tab fu) (n + 2), (tab fu).gl⟩ K .normal ⟨[(0, .pt 1000000000 0), (4, .pt 200000040 0), (14, .val (.int .i64 a6)), (15, .val (.bool t))], [(200000040, .var false [.val (.int .i64 0), .val (.int .i64 0), .val (.int .i64 0), .val (.int .i64 0)]), (1000000000, .var true [.val (.sh .lent 1 (rowE (eI .u8) a4)), .val (.int .i64 a5)])], 45⟩) := by
  unfold c24_u1
  simp +contextual -implicitDefEqProofs (maxSteps := 99999999) only [spec_l20Fate_u1, subI, go_sem] <;> rfl
@[go_sem] theorem spec_l20Fate_ok (fu n : Nat) (q0_0 : List Int) (q0_1 q1_0 : Int) : lev (tab fu) (n + 3) 24 [.op 0 [.sh .lent 1 (rowE (eI .u8) q0_0), .int .i64 q0_1], .int .i64 q1_0] = (spec_l20Fate (Sl1Src.mk q0_0 q0_1) q1_0).map fun r => (.agg [.int .i64 r.1.Kind, .int .i64 r.1.Delay, .int .i64 r.1.At, .int .i64 r.1.Bits], [.op 0 [.sh .lent 1 (rowE (eI .u8) r.2.Code), .int .i64 r.2.At], .gone]) := by
  rw [lev_st (vc := c24) (nt := 45) (rs := [(4, some (some 4))]) ((tab_ext _ _ rfl).trans rfl) rfl (Nat.le_of_ble_eq_true rfl)]
  unfold c24
  simp +contextual -implicitDefEqProofs (maxSteps := 99999999) only [spec_l20Fate, subI, go_sem] <;> rfl
def spec_l20Bend_u1 (a9 a10 : Int) (a11 a12 : Int) (a13 : List Int) (a14 a15 : Int) (a16 : Bool) : Option (Int × Int × Int × Int × (List Int) × Int) :=
  if a16 = true then (spec_l1Pick ((Sl1Src.mk a13 a14)) ([(-1), 4, 0, 3])).bind fun r17 =>
    some ((r17.1, a10, a11, a12, r17.2.Code, r17.2.At))
  else if (a15 == 1) = true then (spec_l1Pick ((Sl1Src.mk a13 a14)) ([(-1), 7])).bind fun r18 =>
      some ((a9, r18.1, a11, a12, r18.2.Code, r18.2.At))
    else if (a15 == 2) = true then (spec_l1Pick ((Sl1Src.mk a13 a14)) ([65536, 1])).bind fun r19 =>
        some ((a9, a10, a11, r19.1, r19.2.Code, r19.2.At))
      else if (a15 == 3) = true then (spec_l1Pick ((Sl1Src.mk a13 a14)) ([1280, (-1)])).bind fun r20 =>
          some ((a9, a10, r20.1, a12, r20.2.Code, r20.2.At))
        else some ((a9, a10, a11, a12, a13, a14))
def spec_l20Bend_u2 (a2 a3 : Int) (a4 a5 : Int) (a6 : List Int) (a7 a8 : Int) : Option (Int × Int × Int × Int × (List Int) × Int) :=
  (spec_l20Bend_u1 a2 a3 a4 a5 a6 a7 a8 ((a8 == 0))).bind fun y21 =>
  some ((y21.1, y21.2.1, y21.2.2.1, y21.2.2.2.1, y21.2.2.2.2.1, y21.2.2.2.2.2))
def spec_l20Bend (p0 : Sl1Src) (p1 : SFate) : Option (SFate × Sl1Src) :=
  (spec_l1Next p0 30).bind fun r1 =>
  (spec_l20Bend_u2 p1.Kind p1.Delay p1.At p1.Bits r1.2.Code r1.2.At r1.1).bind fun y22 =>
  some (((SFate.mk y22.1 y22.2.1 y22.2.2.1 y22.2.2.2.1), (Sl1Src.mk y22.2.2.2.2.1 y22.2.2.2.2.2)))
@[go_sem] theorem spec_l20Bend_u1_ok {β : Type} (fu n : Nat) (K : List (Kont β)) (a9 a10 : Int) (a11 a12 : Int) (a13 : List Int) (a14 a15 : Int) (a16 : Bool) : run ⟨(tab fu).own, lev (tab fu) (n + 2), (tab fu).gl⟩ K c23_u1 ⟨[(0, .pt 1000000000 0), (3, .pt 200000030 0), (4, .pt 200000040 0), (6, .val (.int .i64 a15)), (7, .val (.bool a16))], [(200000030, .var false [.val (.int .i64 a9), .val (.int .i64 a10), .val (.int .i64 a11), .val (.int .i64 a12)]), (200000040, .var false [.val (.int .i64 0), .val (.int .i64 0), .val (.int .i64 0), .val (.int .i64 0)]), (1000000000, .var true [.val (.sh .lent 1 (rowE (eI .u8) a13)), .val (.int .i64 a14)])], 32⟩ = (spec_l20Bend_u1 a9 a10 a11 a12 a13 a14 a15 a16).bind (fun t => plug ⟨(tab fu).own, lev (tab fu) (n + 2), (tab fu).gl⟩ K .normal ⟨[(3, .pt 200000030 0), (4, .pt 200000040 0)], [(200000030, .var false [.val (.int .i64 t.1), .val (.int .i64 t.2.1), .val (.int .i64 t.2.2.1), .val (.int .i64 t.2.2.2.1)]), (200000040, .var false [.val (.int .i64 0), .val (.int .i64 0), .val (.int .i64 0), .val (.int .i64 0)]), (1000000000, .var true [.val (.sh .lent 1 (rowE (eI .u8) t.2.2.2.2.1)), .val (.int .i64 t.2.2.2.2.2)])], 32⟩) := by
  unfold c23_u1
  simp +contextual -implicitDefEqProofs (maxSteps := 99999999) only [spec_l20Bend_u1, subI, go_sem] <;> rfl
@[go_sem] theorem spec_l20Bend_u2_ok {β : Type} (fu n : Nat) (K : List (Kont β)) (a2 a3 : Int) (a4 a5 : Int) (a6 : List Int) (a7 a8 : Int) : run ⟨(tab fu).own, lev (tab fu) (n + 2), (tab fu).gl⟩ K c23_u2 ⟨[(0, .pt 1000000000 0), (3, .pt 200000030 0), (4, .pt 200000040 0), (6, .val (.int .i64 a8))], [(200000030, .var false [.val (.int .i64 a2), .val (.int .i64 a3), .val (.int .i64 a4), .val (.int .i64 a5)]), (200000040, .var false [.val (.int .i64 0), .val (.int .i64 0), .val (.int .i64 0), .val (.int .i64 0)]), (1000000000, .var true [.val (.sh .lent 1 (rowE (eI .u8) a6)), .val (.int .i64 a7)])], 32⟩ = (spec_l20Bend_u2 a2 a3 a4 a5 a6 a7 a8).bind (fun t => plug ⟨(tab fu).own, lev (tab fu) (n + 2), (tab fu).gl⟩ K .normal ⟨[(3, .pt 200000030 0), (4, .pt 200000040 0)], [(200000030, .var false [.val (.int .i64 t.1), .val (.int .i64 t.2.1), .val (.int .i64 t.2.2.1), .val (.int .i64 t.2.2.2.1)]), (200000040, .var false [.val (.int .i64 0), .val (.int .i64 0), .val (.int .i64 0), .val (.int .i64 0)]), (1000000000, .var true [.val (.sh .lent 1 (rowE (eI .u8) t.2.2.2.2.1)), .val (.int .i64 t.2.2.2.2.2)])], 32⟩) := by
  unfold c23_u2
  simp +contextual -implicitDefEqProofs (maxSteps := 99999999) only [spec_l20Bend_u2, subI, go_sem] <;> rfl
@[go_sem] theorem spec_l20Bend_ok (fu n : Nat) (q0_0 : List Int) (q0_1 q1_0 : Int) (q1_1 q1_2 q1_3 : Int) : lev (tab fu) (n + 3) 23 [.op 0 [.sh .lent 1 (rowE (eI .u8) q0_0), .int .i64 q0_1], .agg [.int .i64 q1_0, .int .i64 q1_1, .int .i64 q1_2, .int .i64 q1_3]] = (spec_l20Bend (Sl1Src.mk q0_0 q0_1) (SFate.mk q1_0 q1_1 q1_2 q1_3)).map fun r => (.agg [.int .i64 r.1.Kind, .int .i64 r.1.Delay, .int .i64 r.1.At, .int .i64 r.1.Bits], [.op 0 [.sh .lent 1 (rowE (eI .u8) r.2.Code), .int .i64 r.2.At], .gone]) := by
  rw [lev_st (vc := c23) (nt := 32) (rs := [(4, some (some 4))]) ((tab_ext _ _ rfl).trans rfl) rfl (Nat.le_of_ble_eq_true rfl)]
  unfold c23
  simp +contextual -implicitDefEqProofs (maxSteps := 99999999) only [spec_l20Bend, subI, go_sem] <;> rfl
def spec_DrawFateFault (p0 : List Int) : Option (SFate) :=
  (spec_l20Fate (((spec_l1Source p0))) 4).bind fun r1 =>
  (spec_l20Bend r1.2 r1.1).bind fun r2 =>
  some r2.1
@[go_sem] theorem spec_DrawFateFault_ok (fu n : Nat) (q0_0 : List Int) : lev (tab fu) (n + 4) 17 [.sh .lent 1 (rowE (eI .u8) q0_0)] = (spec_DrawFateFault q0_0).map fun r => (.agg [.int .i64 r.Kind, .int .i64 r.Delay, .int .i64 r.At, .int .i64 r.Bits], [.gone]) := by
  rw [lev_st (vc := c17) (nt := 10) (rs := [(2, some (some 4))]) ((tab_ext _ _ rfl).trans rfl) rfl (Nat.le_of_ble_eq_true rfl)]
  unfold c17
  simp +contextual -implicitDefEqProofs (maxSteps := 99999999) only [spec_DrawFateFault, subI, go_sem] <;> rfl
def spec_DrawFateText (p0 : List Int) : Option (SFate) :=
  (spec_DrawFateFault p0).bind fun r1 =>
  some r1
@[go_sem] theorem spec_DrawFateText_ok (fu n : Nat) (q0_0 : List Int) : lev (tab fu) (n + 5) 5 [.sh .lent 1 (rowE (eI .u8) q0_0)] = (spec_DrawFateText q0_0).map fun r => (.agg [.int .i64 r.Kind, .int .i64 r.Delay, .int .i64 r.At, .int .i64 r.Bits], [.gone]) := by
  rw [lev_st (vc := c5) (nt := 5) (rs := [(2, some (some 4))]) ((tab_ext _ _ rfl).trans rfl) rfl (Nat.le_of_ble_eq_true rfl)]
  unfold c5
  simp +contextual -implicitDefEqProofs (maxSteps := 99999999) only [spec_DrawFateText, subI, go_sem] <;> rfl
def impl_inRange_u1 (a1 a2 a3 : Int) : Bool :=
  if (decide (a2 ≤ a1)) = true then (decide (a1 ≤ a3))
  else false
def impl_inRange (p0 p1 p2 : Int) : Bool :=
  let y4 := impl_inRange_u1 p0 p1 p2
  y4
@[go_sem] theorem impl_inRange_u1_ok {β : Type} (fu n : Nat) (K : List (Kont β)) (a1 a2 a3 : Int) : run ⟨(tab fu).own, lev (tab fu) n, (tab fu).gl⟩ K c37_u1 ⟨[(0, .val (.int .i64 a1)), (1, .val (.int .i64 a2)), (2, .val (.int .i64 a3))], [], 15⟩ = (some (impl_inRange_u1 a1 a2 a3)).bind (fun t => plug ⟨(tab fu).own, lev (tab fu) n, (tab fu).gl⟩ K .normal ⟨[(6, .val (.bool t))], [], 15⟩) := by
  unfold c37_u1
  simp +contextual -implicitDefEqProofs (maxSteps := 99999999) only [impl_inRange_u1, subI, go_sem] <;> rfl
@[go_sem] theorem impl_inRange_ok (fu n : Nat) (q0_0 q1_0 q2_0 : Int) : lev (tab fu) (n + 1) 37 [.int .i64 q0_0, .int .i64 q1_0, .int .i64 q2_0] = (some (impl_inRange q0_0 q1_0 q2_0)).map fun r => (.bool r, [.gone, .gone, .gone]) := by
  rw [lev_st (vc := c37) (nt := 15) (rs := [(6, none)]) ((tab_ext _ _ rfl).trans rfl) rfl (Nat.le_of_ble_eq_true rfl)]
  unfold c37
  simp +contextual -implicitDefEqProofs (maxSteps := 99999999) only [impl_inRange, subI, go_sem] <;> rfl
def impl_codeIf (p0 : Bool) (p1 : Int) : Int :=
  if p0 = true then p1
  else 0
@[go_sem] theorem impl_codeIf_ok (fu n : Nat) (q0_0 : Bool) (q1_0 : Int) : lev (tab fu) (n + 1) 39 [.bool q0_0, .int .i64 q1_0] = (some (impl_codeIf q0_0 q1_0)).map fun r => (.int .i64 r, [.gone, .gone]) := by
  rw [lev_st (vc := c39) (nt := 7) (rs := [(4, none)]) ((tab_ext _ _ rfl).trans rfl) rfl (Nat.le_of_ble_eq_true rfl)]
  unfold c39
  simp +contextual -implicitDefEqProofs (maxSteps := 99999999) only [impl_codeIf, subI, go_sem] <;> rfl
def impl_first_s1 (a5 : List Int) (a6 : Int) : Int → Option ((Int) ⊕ (Unit ⊕ Int)) := fun a7 =>
  if (decide (a7 < a6)) = true then (getI a5 a7).bind fun x8 =>
    if (x8 != 0) = true then some ((.inr ((.inr x8))))
    else some ((.inl ((IntKind.i64.wrap (a7 + 1)))))
  else some ((.inr ((.inl (())))))
def impl_first (p0 : List Int) : Option (Int) :=
  (loopO (impl_first_s1 p0 ((p0.length : Int))) 0).bind fun t => (Sum.elim (fun y9 => some 0)
   (fun y10 => some y10)) t
@[go_sem] theorem impl_first_s1_ok {β : Type} (fu n : Nat) (K : List (Kont β)) (a5 : List Int) (a6 a7 : Int) : run ⟨(tab fu).own, lev (tab fu) n, (tab fu).gl⟩ K (.loop c38_u1) ⟨[(5, .val (.sh .lent 1 (rowE (eI .i64) a5))), (6, .val (.int .i64 a6)), (7, .val (.int .i64 a7))], [], 15⟩ = (loopO (impl_first_s1 a5 a6) a7).bind (fun t => (Sum.elim (fun t => plug ⟨(tab fu).own, lev (tab fu) n, (tab fu).gl⟩ K (.exit 0) ⟨[], [], 15⟩) (fun t => plug ⟨(tab fu).own, lev (tab fu) n, (tab fu).gl⟩ K .ret ⟨[(2, .val (.int .i64 t))], [], 15⟩)) t) := by
  refine loop_run (C := ⟨(tab fu).own, lev (tab fu) n, (tab fu).gl⟩) (K := K) (c := c38_u1) (impl_first_s1 a5 a6) (fun s => ⟨[(5, .val (.sh .lent 1 (rowE (eI .i64) a5))), (6, .val (.int .i64 a6)), (7, .val (.int .i64 s))], [], 15⟩) (fun t => (Sum.elim (fun t => plug ⟨(tab fu).own, lev (tab fu) n, (tab fu).gl⟩ K (.exit 0) ⟨[], [], 15⟩) (fun t => plug ⟨(tab fu).own, lev (tab fu) n, (tab fu).gl⟩ K .ret ⟨[(2, .val (.int .i64 t))], [], 15⟩)) t) (fun k s => ?_) a7
  unfold c38_u1
  simp +contextual -implicitDefEqProofs (maxSteps := 99999999) only [impl_first_s1, subI, go_sem] <;> rfl
@[go_sem] theorem impl_first_ok (fu n : Nat) (q0_0 : List Int) : lev (tab fu) (n + 1) 38 [.sh .lent 1 (rowE (eI .i64) q0_0)] = (impl_first q0_0).map fun r => (.int .i64 r, [.gone]) := by
  rw [lev_st (vc := c38) (nt := 15) (rs := [(2, none)]) ((tab_ext _ _ rfl).trans rfl) rfl (Nat.le_of_ble_eq_true rfl)]
  unfold c38
  simp +contextual -implicitDefEqProofs (maxSteps := 99999999) only [impl_first, subI, go_sem] <;> rfl
def impl_FateFault_u1 (a1 a2 : Int) (a3 a4 : Int) : Bool :=
  if (a1 != 3) = true then if (a3 != 0) = true then true
    else if (a4 != 0) = true then true
      else if (a1 == 0) = true then (a2 != 0)
        else false
  else if (a1 == 0) = true then (a2 != 0)
    else false
def impl_FateFault_u2 (a6 a7 : Int) (a8 a9 : Int) (a10 : Bool) : Bool :=
  if (impl_inRange a7 0 6) = true then if (a6 == 3) = true then if (impl_inRange a8 0 1279) = true then (!(impl_inRange a9 1 65535))
      else true
    else false
  else true
def impl_FateFault_u3 (a12 a13 : Int) (a14 a15 : Int) (a16 a17 : Bool) : Option (Int) :=
  if (impl_inRange a12 0 3) = true then (impl_first ([(impl_codeIf a16 1), (impl_codeIf a17 3)])).bind fun r18 =>
    some r18
  else (impl_first ([(impl_codeIf true 1), (impl_codeIf a17 3)])).bind fun r19 =>
    some r19
def impl_FateFault (p0 : SFate) : Option (Int) :=
  let y5 := impl_FateFault_u1 p0.Kind p0.Delay p0.At p0.Bits
  let y11 := impl_FateFault_u2 p0.Kind p0.Delay p0.At p0.Bits y5
  (impl_FateFault_u3 p0.Kind p0.Delay p0.At p0.Bits y5 y11).bind fun y20 =>
  some y20
@[go_sem] theorem impl_FateFault_u1_ok {β : Type} (fu n : Nat) (K : List (Kont β)) (a1 a2 : Int) (a3 a4 : Int) : run ⟨(tab fu).own, lev (tab fu) (n + 1), (tab fu).gl⟩ K c18_u1 ⟨[(1, .pt 200000010 0)], [(200000010, .var false [.val (.int .i64 a1), .val (.int .i64 a2), .val (.int .i64 a3), .val (.int .i64 a4)])], 61⟩ = (some (impl_FateFault_u1 a1 a2 a3 a4)).bind (fun t => plug ⟨(tab fu).own, lev (tab fu) (n + 1), (tab fu).gl⟩ K .normal ⟨[(1, .pt 200000010 0), (3, .val (.bool t))], [(200000010, .var false [.val (.int .i64 a1), .val (.int .i64 a2), .val (.int .i64 a3), .val (.int .i64 a4)])], 61⟩) := by
  unfold c18_u1
  simp +contextual -implicitDefEqProofs (maxSteps := 99999999) only [impl_FateFault_u1, subI, go_sem] <;> rfl
@[go_sem] theorem impl_FateFault_u2_ok {β : Type} (fu n : Nat) (K : List (Kont β)) (a6 a7 : Int) (a8 a9 : Int) (a10 : Bool) : run ⟨(tab fu).own, lev (tab fu) (n + 1), (tab fu).gl⟩ K c18_u2 ⟨[(1, .pt 200000010 0), (3, .val (.bool a10))], [(200000010, .var false [.val (.int .i64 a6), .val (.int .i64 a7), .val (.int .i64 a8), .val (.int .i64 a9)])], 61⟩ = (some (impl_FateFault_u2 a6 a7 a8 a9 a10)).bind (fun t => plug ⟨(tab fu).own, lev (tab fu) (n + 1), (tab fu).gl⟩ K .normal ⟨[(1, .pt 200000010 0), (3, .val (.bool a10)), (4, .val (.bool t))], [(200000010, .var false [.val (.int .i64 a6), .val (.int .i64 a7), .val (.int .i64 a8), .val (.int .i64 a9)])], 61⟩) := by
  unfold c18_u2
  simp +contextual -implicitDefEqProofs (maxSteps := 99999999) only [impl_FateFault_u2, subI, go_sem] <;> rfl
@[go_sem] theorem impl_FateFault_u3_ok {β : Type} (fu n : Nat) (K : List (Kont β)) (a12 a13 : Int) (a14 a15 : Int) (a16 a17 : Bool) : run ⟨(tab fu).own, lev (tab fu) (n + 1), (tab fu).gl⟩ K c18_u3 ⟨[(1, .pt 200000010 0), (3, .val (.bool a16)), (4, .val (.bool a17))], [(200000010, .var false [.val (.int .i64 a12), .val (.int .i64 a13), .val (.int .i64 a14), .val (.int .i64 a15)])], 61⟩ = (impl_FateFault_u3 a12 a13 a14 a15 a16 a17).bind (fun t => plug ⟨(tab fu).own, lev (tab fu) (n + 1), (tab fu).gl⟩ K .normal ⟨[(2, .val (.int .i64 t))], [], 61⟩) := by
  unfold c18_u3
  simp +contextual -implicitDefEqProofs (maxSteps := 99999999) only [impl_FateFault_u3, subI, go_sem] <;> rfl
@[go_sem] theorem impl_FateFault_ok (fu n : Nat) (q0_0 q0_1 : Int) (q0_2 q0_3 : Int) : lev (tab fu) (n + 2) 18 [.agg [.int .i64 q0_0, .int .i64 q0_1, .int .i64 q0_2, .int .i64 q0_3]] = (impl_FateFault (SFate.mk q0_0 q0_1 q0_2 q0_3)).map fun r => (.int .i64 r, [.gone]) := by
  rw [lev_st (vc := c18) (nt := 61) (rs := [(2, none)]) ((tab_ext _ _ rfl).trans rfl) rfl (Nat.le_of_ble_eq_true rfl)]
  unfold c18
  simp +contextual -implicitDefEqProofs (maxSteps := 99999999) only [impl_FateFault, subI, go_sem] <;> rfl
def strconv_FormatInt (p0 p1 : Int) : Option (List UInt8) := if okI64 p0 = true ∧ p1 = 10 then some (Lib.itoa p0) else none
@[go_sem] theorem strconv_FormatInt_ok (fu n : Nat) (q : Int) : lev (tab fu) (n + 1) 50 [.int .i64 q, .int .i64 10] = (strconv_FormatInt q 10).map fun r => (.str r, [.gone, .gone]) := by
  rw [lev_ext (F := itoaF) ((tab_ext _ _ rfl).trans rfl)]
  unfold itoaF strconv_FormatInt
  simp only []
  split <;> rfl
def impl_decimal (p0 : Int) : Option ((List UInt8)) :=
  (strconv_FormatInt p0 10).bind fun r1 =>
  some r1
@[go_sem] theorem impl_decimal_ok (fu n : Nat) (q0_0 : Int) : lev (tab fu) (n + 2) 40 [.int .i64 q0_0] = (impl_decimal q0_0).map fun r => (.str r, [.gone]) := by
  rw [lev_st (vc := c40) (nt := 5) (rs := [(2, none)]) ((tab_ext _ _ rfl).trans rfl) rfl (Nat.le_of_ble_eq_true rfl)]
  unfold c40
  simp +contextual -implicitDefEqProofs (maxSteps := 99999999) only [impl_decimal, subI, go_sem] <;> rfl
def impl_fateText_u1 (a1 a2 : Int) (a3 a4 : Int) : Option ((List UInt8)) :=
  if (a1 == 0) = true then some ([108, 111, 115, 116])
  else if (a1 == 1) = true then some ([99, 111, 109, 101, 115])
    else if (a1 == 2) = true then some ([116, 119, 105, 99, 101])
      else if (a1 == 3) = true then some ([116, 117, 114, 110, 101, 100])
        else none
def impl_fateText_u2 (a11 a12 : Int) (a13 a14 : Int) (a15 : List UInt8) (a16 : Bool) : Bool :=
  if a16 = true then true
  else (a11 == 2)
def impl_fateText_u3 (a18 a19 : Int) (a20 a21 : Int) (a22 : List UInt8) (a23 : Bool) : Option ((List UInt8)) :=
  if a23 = true then (impl_decimal a19).bind fun r24 =>
    if ([58] : List UInt8).length + r24.length ≤ 9223372036854775807 then if a22.length + ((([58] : List UInt8) ++ r24)).length ≤ 9223372036854775807 then some ((a22 ++ ((([58] : List UInt8) ++ r24))))
      else none
    else none
  else if (a18 == 3) = true then (impl_decimal a19).bind fun r25 =>
      if ([58] : List UInt8).length + r25.length ≤ 9223372036854775807 then if ((([58] : List UInt8) ++ r25)).length + ([58] : List UInt8).length ≤ 9223372036854775807 then (impl_decimal a20).bind fun r26 =>
          if ((((([58] : List UInt8) ++ r25)) ++ ([58] : List UInt8))).length + r26.length ≤ 9223372036854775807 then if ((((((([58] : List UInt8) ++ r25)) ++ ([58] : List UInt8))) ++ r26)).length + ([58] : List UInt8).length ≤ 9223372036854775807 then (impl_decimal a21).bind fun r27 =>
              if ((((((((([58] : List UInt8) ++ r25)) ++ ([58] : List UInt8))) ++ r26)) ++ ([58] : List UInt8))).length + r27.length ≤ 9223372036854775807 then if a22.length + ((((((((((([58] : List UInt8) ++ r25)) ++ ([58] : List UInt8))) ++ r26)) ++ ([58] : List UInt8))) ++ r27)).length ≤ 9223372036854775807 then some ((a22 ++ ((((((((((([58] : List UInt8) ++ r25)) ++ ([58] : List UInt8))) ++ r26)) ++ ([58] : List UInt8))) ++ r27))))
                else none
              else none
            else none
          else none
        else none
      else none
    else some a22
def impl_fateText_u4 (a6 a7 : Int) (a8 a9 : Int) (a10 : List UInt8) : Option ((List UInt8)) :=
  let y17 := impl_fateText_u2 a6 a7 a8 a9 a10 ((a6 == 1))
  (impl_fateText_u3 a6 a7 a8 a9 a10 y17).bind fun y28 =>
  some y28
def impl_fateText (p0 : SFate) : Option ((List UInt8)) :=
  (impl_fateText_u1 p0.Kind p0.Delay p0.At p0.Bits).bind fun y5 =>
  (impl_fateText_u4 p0.Kind p0.Delay p0.At p0.Bits y5).bind fun y29 =>
  some y29
@[go_sem] theorem impl_fateText_u1_ok {β : Type} (fu n : Nat) (K : List (Kont β)) (a1 a2 : Int) (a3 a4 : Int) : run ⟨(tab fu).own, lev (tab fu) (n + 2), (tab fu).gl⟩ K c19_u1 ⟨[(1, .pt 200000010 0)], [(200000010, .var false [.val (.int .i64 a1), .val (.int .i64 a2), .val (.int .i64 a3), .val (.int .i64 a4)])], 38⟩ = (impl_fateText_u1 a1 a2 a3 a4).bind (fun t => plug ⟨(tab fu).own, lev (tab fu) (n + 2), (tab fu).gl⟩ K .normal ⟨[(1, .pt 200000010 0), (3, .val (.str t))], [(200000010, .var false [.val (.int .i64 a1), .val (.int .i64 a2), .val (.int .i64 a3), .val (.int .i64 a4)])], 38⟩) := by
  unfold c19_u1
  simp +contextual -implicitDefEqProofs (maxSteps := 99999999) only [impl_fateText_u1, subI, go_sem] <;> rfl
@[go_sem] theorem impl_fateText_u2_ok {β : Type} (fu n : Nat) (K : List (Kont β)) (a11 a12 : Int) (a13 a14 : Int) (a15 : List UInt8) (a16 : Bool) : run ⟨(tab fu).own, lev (tab fu) (n + 2), (tab fu).gl⟩ K c19_u2 ⟨[(1, .pt 200000010 0), (3, .val (.str a15)), (9, .val (.int .i64 a11)), (10, .val (.bool a16))], [(200000010, .var false [.val (.int .i64 a11), .val (.int .i64 a12), .val (.int .i64 a13), .val (.int .i64 a14)])], 38⟩ = (some (impl_fateText_u2 a11 a12 a13 a14 a15 a16)).bind (fun t => plug ⟨(tab fu).own, lev (tab fu) (n + 2), (tab fu).gl⟩ K .normal ⟨[(1, .pt 200000010 0), (3, .val (.str a15)), (9, .val (.int .i64 a11)), (10, .val (.bool t))], [(200000010, .var false [.val (.int .i64 a11), .val (.int .i64 a12), .val (.int .i64 a13), .val (.int .i64 a14)])], 38⟩) := by
  unfold c19_u2
  simp +contextual -implicitDefEqProofs (maxSteps := 99999999) only [impl_fateText_u2, subI, go_sem] <;> rfl
@[go_sem] theorem impl_fateText_u3_ok {β : Type} (fu n : Nat) (K : List (Kont β)) (a18 a19 : Int) (a20 a21 : Int) (a22 : List UInt8) (a23 : Bool) : run ⟨(tab fu).own, lev (tab fu) (n + 2), (tab fu).gl⟩ K c19_u3 ⟨[(1, .pt 200000010 0), (3, .val (.str a22)), (9, .val (.int .i64 a18)), (10, .val (.bool a23))], [(200000010, .var false [.val (.int .i64 a18), .val (.int .i64 a19), .val (.int .i64 a20), .val (.int .i64 a21)])], 38⟩ = (impl_fateText_u3 a18 a19 a20 a21 a22 a23).bind (fun t => plug ⟨(tab fu).own, lev (tab fu) (n + 2), (tab fu).gl⟩ K .normal ⟨[(3, .val (.str t))], [], 38⟩) := by
  unfold c19_u3
  simp +contextual -implicitDefEqProofs (maxSteps := 99999999) only [impl_fateText_u3, subI, go_sem] <;> rfl
@[go_sem] theorem impl_fateText_u4_ok {β : Type} (fu n : Nat) (K : List (Kont β)) (a6 a7 : Int) (a8 a9 : Int) (a10 : List UInt8) : run ⟨(tab fu).own, lev (tab fu) (n + 2), (tab fu).gl⟩ K c19_u4 ⟨[(1, .pt 200000010 0), (3, .val (.str a10)), (9, .val (.int .i64 a6))], [(200000010, .var false [.val (.int .i64 a6), .val (.int .i64 a7), .val (.int .i64 a8), .val (.int .i64 a9)])], 38⟩ = (impl_fateText_u4 a6 a7 a8 a9 a10).bind (fun t => plug ⟨(tab fu).own, lev (tab fu) (n + 2), (tab fu).gl⟩ K .normal ⟨[(3, .val (.str t))], [], 38⟩) := by
  unfold c19_u4
  simp +contextual -implicitDefEqProofs (maxSteps := 99999999) only [impl_fateText_u4, subI, go_sem] <;> rfl
@[go_sem] theorem impl_fateText_ok (fu n : Nat) (q0_0 q0_1 : Int) (q0_2 q0_3 : Int) : lev (tab fu) (n + 3) 19 [.agg [.int .i64 q0_0, .int .i64 q0_1, .int .i64 q0_2, .int .i64 q0_3]] = (impl_fateText (SFate.mk q0_0 q0_1 q0_2 q0_3)).map fun r => (.str r, [.gone]) := by
  rw [lev_st (vc := c19) (nt := 38) (rs := [(2, none)]) ((tab_ext _ _ rfl).trans rfl) rfl (Nat.le_of_ble_eq_true rfl)]
  unfold c19
  simp +contextual -implicitDefEqProofs (maxSteps := 99999999) only [impl_fateText, subI, go_sem] <;> rfl
def impl_FateText (p0 : SFate) : Option (STextResult) :=
  (impl_FateFault p0).bind fun r1 =>
  if (r1 != 0) = true then some ((STextResult.mk r1 ([])))
  else (impl_fateText p0).bind fun r2 =>
    some ((STextResult.mk 0 r2))
@[go_sem] theorem impl_FateText_ok (fu n : Nat) (q0_0 q0_1 : Int) (q0_2 q0_3 : Int) : lev (tab fu) (n + 4) 6 [.agg [.int .i64 q0_0, .int .i64 q0_1, .int .i64 q0_2, .int .i64 q0_3]] = (impl_FateText (SFate.mk q0_0 q0_1 q0_2 q0_3)).map fun r => (.agg [.int .i64 r.Code, .str r.Text], [.gone]) := by
  rw [lev_st (vc := c6) (nt := 13) (rs := [(2, some (some 2))]) ((tab_ext _ _ rfl).trans rfl) rfl (Nat.le_of_ble_eq_true rfl)]
  unfold c6
  simp +contextual -implicitDefEqProofs (maxSteps := 99999999) only [impl_FateText, subI, go_sem] <;> rfl
def spec_l1Digits_u1 (fu : Nat) (rec_ : Int → Option ((List UInt8))) (a3 : Int) : Option ((List UInt8)) :=
  (rec_ ((IntKind.i64.wrap (a3.tdiv (10 : Int))))).bind fun r4 =>
  (bytesI ([(IntKind.u8.wrap (IntKind.i64.wrap (48 + (a3.tmod (10 : Int)))))])).bind fun x5 =>
  if r4.length + x5.length ≤ 9223372036854775807 then some ((r4 ++ x5))
  else none
def spec_l1Digits_b (fu : Nat) (rec_ : Int → Option ((List UInt8))) (p0 : Int) : Option ((List UInt8)) :=
  if (decide (p0 < 0)) = true then (rec_ ((IntKind.i64.wrap (0 - p0)))).bind fun r1 =>
    if ([45] : List UInt8).length + r1.length ≤ 9223372036854775807 then some ((([45] : List UInt8) ++ r1))
    else none
  else if (decide (p0 < 10)) = true then (bytesI ([(IntKind.u8.wrap (IntKind.i64.wrap (48 + p0)))])).bind fun x2 =>
      some x2
    else (spec_l1Digits_u1 fu rec_ p0).bind fun y6 =>
      some y6
def spec_l1Digits : Nat → Int → Option ((List UInt8))
  | 0, _ => none
  | fu + 1, p0 => spec_l1Digits_b fu (spec_l1Digits fu) p0
class spec_l1DigitsRec (fu : Nat) : Prop where
  h : ∀ (n : Nat) (q0_0 : Int), lev (tab fu) (n + 1) 28 [.int .i64 q0_0] = (spec_l1Digits fu q0_0).map fun r => (.str r, [.gone])
@[go_sem] theorem spec_l1Digits_rec (fu n : Nat) [q : spec_l1DigitsRec fu] (q0_0 : Int) : lev (tab fu) (n + 1) 28 [.int .i64 q0_0] = (spec_l1Digits fu q0_0).map fun r => (.str r, [.gone]) := spec_l1DigitsRec.h n q0_0
@[go_sem] theorem spec_l1Digits_u1_ok {β : Type} (fu n : Nat) [spec_l1DigitsRec fu] (K : List (Kont β)) (a3 : Int) : run ⟨(tab fu).own, lev (tab fu) (n + 1), (tab fu).gl⟩ K c28_u1 ⟨[(0, .val (.int .i64 a3))], [], 28⟩ = (spec_l1Digits_u1 fu (spec_l1Digits fu) a3).bind (fun t => plug ⟨(tab fu).own, lev (tab fu) (n + 1), (tab fu).gl⟩ K .normal ⟨[(2, .val (.str t))], [], 28⟩) := by
  unfold c28_u1
  rw [run_alts]
  · simp +contextual -implicitDefEqProofs (maxSteps := 99999999) only [spec_l1Digits_u1, subI, go_sem] <;> (repeat first | rfl | refine bind_ext fun _ _ => ?_ | refine bind_swap fun _ _ _ _ => ?_)
  · refine ⟨?_, trivial⟩
    · simp +contextual -implicitDefEqProofs (maxSteps := 99999999) only [spec_l1Digits_u1, subI, go_sem] <;> (repeat first | rfl | refine bind_ext fun _ _ => ?_ | refine bind_swap fun _ _ _ _ => ?_)
theorem spec_l1Digits_st (fu n : Nat) (ds : List D) : lev (tab (fu + 1)) (n + 1) 28 ds = levA (tab fu) (0 + 1) c28 [(2, none)] (idsOf 0 ((tab fu).own 28) ds) ds (argsFr 0 ((tab fu).own 28) ds ⟨[], [], 28⟩) := lev_rec_st (T := tab0) (R := recR) rfl rfl (Nat.le_of_ble_eq_true rfl)
theorem spec_l1Digits_all (fu : Nat) : spec_l1DigitsRec fu := by
  induction fu with
  | zero => exact ⟨fun n q0_0 => lev_rec0 (T := tab0) (R := recR) (N := 0 + 1) rfl⟩
  | succ fu ih =>
    refine ⟨fun n q0_0 => ?_⟩
    rw [spec_l1Digits_st]
    unfold spec_l1Digits c28
    simp +contextual -implicitDefEqProofs (maxSteps := 99999999) only [spec_l1Digits_b, subI, go_sem] <;> rfl
instance (fu : Nat) : spec_l1DigitsRec fu := spec_l1Digits_all fu
theorem spec_l1Digits_ok (fu n : Nat) (q0_0 : Int) : lev (tab fu) (n + 1) 28 [.int .i64 q0_0] = (spec_l1Digits fu q0_0).map fun r => (.str r, [.gone]) := spec_l1Digits_rec fu n q0_0
def spec_l22Fate (fu : Nat) (p0 : SFate) : Option ((List UInt8)) :=
  if (p0.Kind == 1) = true then (spec_l1Digits fu p0.Delay).bind fun r1 =>
    if ([99, 111, 109, 101, 115, 58] : List UInt8).length + r1.length ≤ 9223372036854775807 then some ((([99, 111, 109, 101, 115, 58] : List UInt8) ++ r1))
    else none
  else if (p0.Kind == 2) = true then (spec_l1Digits fu p0.Delay).bind fun r2 =>
      if ([116, 119, 105, 99, 101, 58] : List UInt8).length + r2.length ≤ 9223372036854775807 then some ((([116, 119, 105, 99, 101, 58] : List UInt8) ++ r2))
      else none
    else if (p0.Kind == 3) = true then (spec_l1Digits fu p0.Delay).bind fun r3 =>
        if ([116, 117, 114, 110, 101, 100, 58] : List UInt8).length + r3.length ≤ 9223372036854775807 then if ((([116, 117, 114, 110, 101, 100, 58] : List UInt8) ++ r3)).length + ([58] : List UInt8).length ≤ 9223372036854775807 then (spec_l1Digits fu p0.At).bind fun r4 =>
            if ((((([116, 117, 114, 110, 101, 100, 58] : List UInt8) ++ r3)) ++ ([58] : List UInt8))).length + r4.length ≤ 9223372036854775807 then if ((((((([116, 117, 114, 110, 101, 100, 58] : List UInt8) ++ r3)) ++ ([58] : List UInt8))) ++ r4)).length + ([58] : List UInt8).length ≤ 9223372036854775807 then (spec_l1Digits fu p0.Bits).bind fun r5 =>
                if ((((((((([116, 117, 114, 110, 101, 100, 58] : List UInt8) ++ r3)) ++ ([58] : List UInt8))) ++ r4)) ++ ([58] : List UInt8))).length + r5.length ≤ 9223372036854775807 then some ((((((((((([116, 117, 114, 110, 101, 100, 58] : List UInt8) ++ r3)) ++ ([58] : List UInt8))) ++ r4)) ++ ([58] : List UInt8))) ++ r5))
                else none
              else none
            else none
          else none
        else none
      else some ([108, 111, 115, 116])
@[go_sem] theorem spec_l22Fate_ok (fu n : Nat) (q0_0 q0_1 : Int) (q0_2 q0_3 : Int) : lev (tab fu) (n + 2) 22 [.agg [.int .i64 q0_0, .int .i64 q0_1, .int .i64 q0_2, .int .i64 q0_3]] = (spec_l22Fate fu (SFate.mk q0_0 q0_1 q0_2 q0_3)).map fun r => (.str r, [.gone]) := by
  rw [lev_st (vc := c22) (nt := 33) (rs := [(2, none)]) ((tab_ext _ _ rfl).trans rfl) rfl (Nat.le_of_ble_eq_true rfl)]
  unfold c22
  simp +contextual -implicitDefEqProofs (maxSteps := 99999999) only [spec_l22Fate, subI, go_sem] <;> rfl
def spec_l1Chance (p0 : Sl1Src) (p1 : Int) : Option (Bool × Sl1Src) :=
  (spec_l1Next p0 p1).bind fun r1 =>
  some (((r1.1 == 0), r1.2))
@[go_sem] theorem spec_l1Chance_ok (fu n : Nat) (q0_0 : List Int) (q0_1 q1_0 : Int) : lev (tab fu) (n + 2) 32 [.op 0 [.sh .lent 1 (rowE (eI .u8) q0_0), .int .i64 q0_1], .int .i64 q1_0] = (spec_l1Chance (Sl1Src.mk q0_0 q0_1) q1_0).map fun r => (.bool r.1, [.op 0 [.sh .lent 1 (rowE (eI .u8) r.2.Code), .int .i64 r.2.At], .gone]) := by
  rw [lev_st (vc := c32) (nt := 9) (rs := [(4, none)]) ((tab_ext _ _ rfl).trans rfl) rfl (Nat.le_of_ble_eq_true rfl)]
  unfold c32
  simp +contextual -implicitDefEqProofs (maxSteps := 99999999) only [spec_l1Chance, subI, go_sem] <;> rfl
def spec_l22Spoil_u1 (a1 : List Int) (a2 : Int) (a3 : List UInt8) : Option ((List Int) × Int × Bool) :=
  if (decide ((a3.length : Int) < 1)) = true then some ((a1, a2, true))
  else (spec_l1Chance ((Sl1Src.mk a1 a2)) 5).bind fun r4 =>
    some ((r4.2.Code, r4.2.At, (!r4.1)))
def spec_l22Spoil (p0 : Sl1Src) (p1 : List UInt8) : Option ((List UInt8) × Sl1Src) :=
  (spec_l22Spoil_u1 p0.Code p0.At p1).bind fun y5 =>
  if y5.2.2 = true then some ((p1, (Sl1Src.mk y5.1 y5.2.1)))
  else (spec_l1Next ((Sl1Src.mk y5.1 y5.2.1)) ((p1.length : Int))).bind fun r6 =>
    (spec_l1Chance r6.2 2).bind fun r7 =>
    if r7.1 = true then (subI p1 0 r6.1).bind fun x8 =>
      (subI p1 ((IntKind.i64.wrap (r6.1 + 1))) (p1.length : Int)).bind fun x9 =>
      if x8.length + x9.length ≤ 9223372036854775807 then some (((x8 ++ x9), r7.2))
      else none
    else (subI p1 0 r6.1).bind fun x10 =>
      (subI p1 r6.1 (p1.length : Int)).bind fun x11 =>
      (spec_l1Pick r7.2 ([58, 48, 45, 32, 120])).bind fun r12 =>
      (bytesI ([(IntKind.u8.wrap r12.1)])).bind fun x13 =>
      if x10.length + x13.length ≤ 9223372036854775807 then if ((x10 ++ x13)).length + x11.length ≤ 9223372036854775807 then some (((((x10 ++ x13)) ++ x11), r12.2))
        else none
      else none
@[go_sem] theorem spec_l22Spoil_u1_ok {β : Type} (fu n : Nat) (K : List (Kont β)) (a1 : List Int) (a2 : Int) (a3 : List UInt8) : run ⟨(tab fu).own, lev (tab fu) (n + 2), (tab fu).gl⟩ K c21_u1 ⟨[(0, .pt 1000000000 0), (1, .val (.str a3))], [(1000000000, .var true [.val (.sh .lent 1 (rowE (eI .u8) a1)), .val (.int .i64 a2)])], 43⟩ = (spec_l22Spoil_u1 a1 a2 a3).bind (fun t => plug ⟨(tab fu).own, lev (tab fu) (n + 2), (tab fu).gl⟩ K .normal ⟨[(0, .pt 1000000000 0), (1, .val (.str a3)), (13, .val (.bool t.2.2))], [(1000000000, .var true [.val (.sh .lent 1 (rowE (eI .u8) t.1)), .val (.int .i64 t.2.1)])], 43⟩) := by
  unfold c21_u1
  simp +contextual -implicitDefEqProofs (maxSteps := 99999999) only [spec_l22Spoil_u1, subI, go_sem] <;> rfl
@[go_sem] theorem spec_l22Spoil_ok (fu n : Nat) (q0_0 : List Int) (q0_1 : Int) (q1_0 : List UInt8) : lev (tab fu) (n + 3) 21 [.op 0 [.sh .lent 1 (rowE (eI .u8) q0_0), .int .i64 q0_1], .str q1_0] = (spec_l22Spoil (Sl1Src.mk q0_0 q0_1) q1_0).map fun r => (.str r.1, [.op 0 [.sh .lent 1 (rowE (eI .u8) r.2.Code), .int .i64 r.2.At], .gone]) := by
  rw [lev_st (vc := c21) (nt := 43) (rs := [(4, none)]) ((tab_ext _ _ rfl).trans rfl) rfl (Nat.le_of_ble_eq_true rfl)]
  unfold c21
  simp +contextual -implicitDefEqProofs (maxSteps := 99999999) only [spec_l22Spoil, subI, go_sem] <;> rfl
def spec_DrawReadFate (fu : Nat) (p0 : List Int) : Option ((List UInt8)) :=
  (spec_l20Fate (((spec_l1Source p0))) 4).bind fun r1 =>
  (spec_l20Bend r1.2 r1.1).bind fun r2 =>
  (spec_l22Fate fu r2.1).bind fun r3 =>
  (spec_l22Spoil r2.2 r3).bind fun r4 =>
  some r4.1
@[go_sem] theorem spec_DrawReadFate_ok (fu n : Nat) (q0_0 : List Int) : lev (tab fu) (n + 4) 7 [.sh .lent 1 (rowE (eI .u8) q0_0)] = (spec_DrawReadFate fu q0_0).map fun r => (.str r, [.gone]) := by
  rw [lev_st (vc := c7) (nt := 13) (rs := [(2, none)]) ((tab_ext _ _ rfl).trans rfl) rfl (Nat.le_of_ble_eq_true rfl)]
  unfold c7
  simp +contextual -implicitDefEqProofs (maxSteps := 99999999) only [spec_DrawReadFate, subI, go_sem] <;> rfl
def strings_Split (p0 p1 : List UInt8) : Option (List (List UInt8)) := if okSplit p0 p1 = true then some (splitL p0 p1) else none
@[go_sem] theorem strings_Split_ok (fu n : Nat) (p q : List UInt8) : lev (tab fu) (n + 1) 25 [.str p, .str q] = (strings_Split p q).map fun r => (.ow 1 (rowE eS r), [.gone, .gone]) := by
  rw [lev_ext (F := splitF) ((tab_ext _ _ rfl).trans rfl)]
  unfold splitF strings_Split
  simp only []
  split <;> rfl
def slices_Index_string_s1 (a6 : List (List UInt8)) (a7 : List UInt8) (a8 : Int) : Int → Option ((Int) ⊕ (Unit ⊕ Int)) := fun a9 =>
  if (decide (a9 < a8)) = true then (getI a6 a9).bind fun x10 =>
    if (a7 == x10) = true then some ((.inr ((.inr a9))))
    else some ((.inl ((IntKind.i64.wrap (a9 + 1)))))
  else some ((.inr ((.inl (())))))
def slices_Index_string (p0 : List (List UInt8)) (p1 : List UInt8) : Option (Int) :=
  (loopO (slices_Index_string_s1 p0 p1 ((p0.length : Int))) 0).bind fun t => (Sum.elim (fun y11 => some ((-1)))
   (fun y12 => some y12)) t
@[go_sem] theorem slices_Index_string_s1_ok {β : Type} (fu n : Nat) (K : List (Kont β)) (a6 : List (List UInt8)) (a7 : List UInt8) (a8 a9 : Int) : run ⟨(tab fu).own, lev (tab fu) n, (tab fu).gl⟩ K (.loop c26_u1) ⟨[(0, .val (.sh .lent 1 (rowE eS a6))), (1, .val (.str a7)), (7, .val (.int .i64 a8)), (8, .val (.int .i64 a9))], [], 19⟩ = (loopO (slices_Index_string_s1 a6 a7 a8) a9).bind (fun t => (Sum.elim (fun t => plug ⟨(tab fu).own, lev (tab fu) n, (tab fu).gl⟩ K (.exit 0) ⟨[], [], 19⟩) (fun t => plug ⟨(tab fu).own, lev (tab fu) n, (tab fu).gl⟩ K .ret ⟨[(4, .val (.int .i64 t))], [], 19⟩)) t) := by
  refine loop_run (C := ⟨(tab fu).own, lev (tab fu) n, (tab fu).gl⟩) (K := K) (c := c26_u1) (slices_Index_string_s1 a6 a7 a8) (fun s => ⟨[(0, .val (.sh .lent 1 (rowE eS a6))), (1, .val (.str a7)), (7, .val (.int .i64 a8)), (8, .val (.int .i64 s))], [], 19⟩) (fun t => (Sum.elim (fun t => plug ⟨(tab fu).own, lev (tab fu) n, (tab fu).gl⟩ K (.exit 0) ⟨[], [], 19⟩) (fun t => plug ⟨(tab fu).own, lev (tab fu) n, (tab fu).gl⟩ K .ret ⟨[(4, .val (.int .i64 t))], [], 19⟩)) t) (fun k s => ?_) a9
  unfold c26_u1
  simp +contextual -implicitDefEqProofs (maxSteps := 99999999) only [slices_Index_string_s1, subI, go_sem] <;> rfl
@[go_sem] theorem slices_Index_string_ok (fu n : Nat) (q0_0 : List (List UInt8)) (q1_0 : List UInt8) : lev (tab fu) (n + 1) 26 [.sh .lent 1 (rowE eS q0_0), .str q1_0] = (slices_Index_string q0_0 q1_0).map fun r => (.int .i64 r, [.gone, .gone]) := by
  rw [lev_st (vc := c26) (nt := 19) (rs := [(4, none)]) ((tab_ext _ _ rfl).trans rfl) rfl (Nat.le_of_ble_eq_true rfl)]
  unfold c26
  simp +contextual -implicitDefEqProofs (maxSteps := 99999999) only [slices_Index_string, subI, go_sem] <;> rfl
def strconv_ParseInt (p0 : List UInt8) (p1 p2 : Int) : Option (Int × Bool) := if okParse p0 p1 p2 = true then some (parseI p0) else none
@[go_sem] theorem strconv_ParseInt_ok (fu n : Nat) (q : List UInt8) : lev (tab fu) (n + 1) 43 [.str q, .int .i64 10, .int .i64 64] = (strconv_ParseInt q 10 64).map fun r => (.tup [.int .i64 r.1, .err r.2], [.gone, .gone, .gone]) := by
  rw [lev_ext (F := parseF) ((tab_ext _ _ rfl).trans rfl)]
  unfold parseF strconv_ParseInt
  simp only []
  split <;> rfl
def internal_stringslite_HasPrefix_u1 (a1 a2 : List UInt8) : Option (Bool) :=
  if (decide ((a1.length : Int) ≥ (a2.length : Int))) = true then (subI a1 0 ((a2.length : Int))).bind fun x3 =>
    some ((x3 == a2))
  else some false
def internal_stringslite_HasPrefix (p0 p1 : List UInt8) : Option (Bool) :=
  (internal_stringslite_HasPrefix_u1 p0 p1).bind fun y4 =>
  some y4
@[go_sem] theorem internal_stringslite_HasPrefix_u1_ok {β : Type} (fu n : Nat) (K : List (Kont β)) (a1 a2 : List UInt8) : run ⟨(tab fu).own, lev (tab fu) n, (tab fu).gl⟩ K c70_u1 ⟨[(0, .val (.str a1)), (1, .val (.str a2))], [], 18⟩ = (internal_stringslite_HasPrefix_u1 a1 a2).bind (fun t => plug ⟨(tab fu).own, lev (tab fu) n, (tab fu).gl⟩ K .normal ⟨[(4, .val (.bool t))], [], 18⟩) := by
  unfold c70_u1
  simp +contextual -implicitDefEqProofs (maxSteps := 99999999) only [internal_stringslite_HasPrefix_u1, subI, go_sem] <;> rfl
@[go_sem] theorem internal_stringslite_HasPrefix_ok (fu n : Nat) (q0_0 q1_0 : List UInt8) : lev (tab fu) (n + 1) 70 [.str q0_0, .str q1_0] = (internal_stringslite_HasPrefix q0_0 q1_0).map fun r => (.bool r, [.gone, .gone]) := by
  rw [lev_st (vc := c70) (nt := 18) (rs := [(4, none)]) ((tab_ext _ _ rfl).trans rfl) rfl (Nat.le_of_ble_eq_true rfl)]
  unfold c70
  simp +contextual -implicitDefEqProofs (maxSteps := 99999999) only [internal_stringslite_HasPrefix, subI, go_sem] <;> rfl
def internal_stringslite_TrimPrefix (p0 p1 : List UInt8) : Option ((List UInt8)) :=
  (internal_stringslite_HasPrefix p0 p1).bind fun r1 =>
  if r1 = true then (subI p0 ((p1.length : Int)) (p0.length : Int)).bind fun x2 =>
    some x2
  else some p0
@[go_sem] theorem internal_stringslite_TrimPrefix_ok (fu n : Nat) (q0_0 q1_0 : List UInt8) : lev (tab fu) (n + 2) 56 [.str q0_0, .str q1_0] = (internal_stringslite_TrimPrefix q0_0 q1_0).map fun r => (.str r, [.gone, .gone]) := by
  rw [lev_st (vc := c56) (nt := 13) (rs := [(4, none)]) ((tab_ext _ _ rfl).trans rfl) rfl (Nat.le_of_ble_eq_true rfl)]
  unfold c56
  simp +contextual -implicitDefEqProofs (maxSteps := 99999999) only [internal_stringslite_TrimPrefix, subI, go_sem] <;> rfl
def strings_TrimPrefix (p0 p1 : List UInt8) : Option ((List UInt8)) :=
  (internal_stringslite_TrimPrefix p0 p1).bind fun r1 =>
  some r1
@[go_sem] theorem strings_TrimPrefix_ok (fu n : Nat) (q0_0 q1_0 : List UInt8) : lev (tab fu) (n + 3) 44 [.str q0_0, .str q1_0] = (strings_TrimPrefix q0_0 q1_0).map fun r => (.str r, [.gone, .gone]) := by
  rw [lev_st (vc := c44) (nt := 8) (rs := [(4, none)]) ((tab_ext _ _ rfl).trans rfl) rfl (Nat.le_of_ble_eq_true rfl)]
  unfold c44
  simp +contextual -implicitDefEqProofs (maxSteps := 99999999) only [strings_TrimPrefix, subI, go_sem] <;> rfl
def impl_number_u1 (a2 : List UInt8) (a3 : Int) (a4 : Bool) : Option (Bool) :=
  if a4 = true then (impl_decimal a3).bind fun r5 =>
    if (r5 == a2) = true then (strings_TrimPrefix a2 ([45])).bind fun r6 =>
      some ((decide ((r6.length : Int) ≤ 7)))
    else some false
  else some false
def impl_number (p0 : List UInt8) : Option (Int × Bool) :=
  (strconv_ParseInt p0 10 64).bind fun r1 =>
  (impl_number_u1 p0 r1.1 r1.2).bind fun y7 =>
  some ((r1.1, y7))
@[go_sem] theorem impl_number_u1_ok {β : Type} (fu n : Nat) (K : List (Kont β)) (a2 : List UInt8) (a3 : Int) (a4 : Bool) : run ⟨(tab fu).own, lev (tab fu) (n + 3), (tab fu).gl⟩ K c27_u1 ⟨[(0, .val (.str a2)), (4, .val (.int .i64 a3)), (5, .val (.err a4))], [], 26⟩ = (impl_number_u1 a2 a3 a4).bind (fun t => plug ⟨(tab fu).own, lev (tab fu) (n + 3), (tab fu).gl⟩ K .normal ⟨[(2, .val (.int .i64 a3)), (3, .val (.bool t))], [], 26⟩) := by
  unfold c27_u1
  simp +contextual -implicitDefEqProofs (maxSteps := 99999999) only [impl_number_u1, subI, go_sem] <;> rfl
@[go_sem] theorem impl_number_ok (fu n : Nat) (q0_0 : List UInt8) : lev (tab fu) (n + 4) 27 [.str q0_0] = (impl_number q0_0).map fun r => (.tup [.int .i64 r.1, .bool r.2], [.gone]) := by
  rw [lev_st (vc := c27) (nt := 26) (rs := [(2, none), (3, none)]) ((tab_ext _ _ rfl).trans rfl) rfl (Nat.le_of_ble_eq_true rfl)]
  unfold c27
  simp +contextual -implicitDefEqProofs (maxSteps := 99999999) only [impl_number, subI, go_sem] <;> rfl
def impl_ReadFate_u1 (a2 : List (List UInt8)) (a3 : List UInt8) : Option (Int) :=
  (getI a2 0).bind fun _ =>
  (a2[(0 : Int).toNat]?).bind fun x4 =>
  (slices_Index_string ([[108, 111, 115, 116], [99, 111, 109, 101, 115], [116, 119, 105, 99, 101], [116, 117, 114, 110, 101, 100]] : List (List UInt8)) x4).bind fun r5 =>
  some r5
def impl_ReadFate_u4 (a89 a90 : Int) (a91 a92 : Int) (a93 : List (List UInt8)) (a94 : List UInt8) (a95 : Int) (a96 : List UInt8) (a97 a98 : Nat) (a99 : Int) (a100 : Bool) : Option (Int × Int × Int) :=
  if a100 = true then (impl_number a96).bind fun r101 =>
    if (a95 == 0) = true then some ((r101.1, a91, a92))
    else if (a95 == 1) = true then some ((a90, r101.1, a92))
      else if (a95 == 2) = true then some ((a90, a91, r101.1))
        else none
  else some ((a90, a91, a92))
def impl_ReadFate_u5 (a78 a79 : Int) (a80 a81 : Int) (a82 : List (List UInt8)) (a83 : List UInt8) (a84 a85 : Nat) (a86 a87 : Int) : Option (Int × Int × Int) :=
  (getI ((((a82.drop a84)).take a85)) a87).bind fun _ =>
  (a82[(a84 + a87.toNat)]?).bind fun x88 =>
  (impl_ReadFate_u4 a78 a79 a80 a81 a82 a83 a87 x88 a84 a85 a86 ((decide (a87 < 3)))).bind fun y102 =>
  some ((y102.1, y102.2.1, y102.2.2))
def impl_ReadFate_s6 (a68 : Int) (a72 : List (List UInt8)) (a73 : List UInt8) (a74 a75 : Nat) (a76 : Int) : (Int × Int × Int × Int) → Option ((Int × Int × Int × Int) ⊕ (Int × Int × Int)) := fun ⟨a69, a70, a71, a77⟩ =>
  if (decide (a77 < a76)) = true then (impl_ReadFate_u5 a68 a69 a70 a71 a72 a73 a74 a75 a76 a77).bind fun y103 =>
    some ((.inl ((y103.1, y103.2.1, y103.2.2, (IntKind.i64.wrap (a77 + 1))))))
  else some ((.inr ((a69, a70, a71))))
def impl_ReadFate_u7 (a105 a106 : Int) (a107 a108 : Int) (a109 : List UInt8) : Unit :=
  ()
def impl_ReadFate_u8 (a111 a112 : Int) (a113 a114 : Int) (a115 : List UInt8) : Option (Bool) :=
  (impl_FateFault ((SFate.mk a111 a112 a113 a114))).bind fun r116 =>
  if (r116 != 0) = true then some true
  else (impl_fateText ((SFate.mk a111 a112 a113 a114))).bind fun r117 =>
    some ((!(r117 == a115)))
def impl_ReadFate (p0 : List UInt8) : Option (SFateResult) :=
  (strings_Split p0 ([58])).bind fun r1 =>
  (impl_ReadFate_u1 r1 p0).bind fun y6 =>
  (cutI r1.length 1 (r1.length : Int)).bind fun w7 =>
  (loopO (impl_ReadFate_s6 y6 r1 p0 w7.1 ((w7.2 - w7.1)) ((((w7.2 - w7.1) : Nat) : Int))) ((0, 0, 0, 0))).bind fun y104 =>
  let y110 := impl_ReadFate_u7 y6 y104.1 y104.2.1 y104.2.2 p0
  (impl_ReadFate_u8 y6 y104.1 y104.2.1 y104.2.2 p0).bind fun y118 =>
  if y118 = true then some ((SFateResult.mk 5 ((SFate.mk 0 0 0 0))))
  else some ((SFateResult.mk 0 ((SFate.mk y6 y104.1 y104.2.1 y104.2.2))))
@[go_sem] theorem impl_ReadFate_u1_ok {β : Type} (fu n : Nat) (K : List (Kont β)) (a2 : List (List UInt8)) (a3 : List UInt8) : run ⟨(tab fu).own, lev (tab fu) (n + 4), (tab fu).gl⟩ K c8_u1 ⟨[(0, .val (.str a3)), (2, .pt 200000020 0), (3, .sl 200000030 0 a2.length)], [(200000020, .var false [.val (.int .i64 0), .val (.int .i64 0), .val (.int .i64 0), .val (.int .i64 0), .val (.int .i64 0)]), (200000030, .row false 1 (rowE eS a2))], 56⟩ = (impl_ReadFate_u1 a2 a3).bind (fun t => plug ⟨(tab fu).own, lev (tab fu) (n + 4), (tab fu).gl⟩ K .normal ⟨[(0, .val (.str a3)), (2, .pt 200000020 0), (3, .sl 200000030 0 a2.length), (4, .pt 200000040 0), (5, .pt 200000050 0)], [(200000020, .var false [.val (.int .i64 0), .val (.int .i64 0), .val (.int .i64 0), .val (.int .i64 0), .val (.int .i64 0)]), (200000030, .row false 1 (rowE eS a2)), (200000040, .var false [.val (.int .i64 t), .val (.int .i64 0), .val (.int .i64 0), .val (.int .i64 0)]), (200000050, .var false [.val (.int .i64 0), .val (.int .i64 0), .val (.int .i64 0)])], 56⟩) := by
  unfold c8_u1
  rw [run_alts]
  · simp +contextual -implicitDefEqProofs (maxSteps := 99999999) only [impl_ReadFate_u1, subI, go_sem] <;> (repeat first | rfl | refine bind_ext fun _ _ => ?_ | refine bind_swap fun _ _ _ _ => ?_)
  · refine ⟨?_, ?_, ?_, ?_, ?_, trivial⟩
    · simp +contextual -implicitDefEqProofs (maxSteps := 99999999) only [impl_ReadFate_u1, subI, go_sem] <;> (repeat first | rfl | refine bind_ext fun _ _ => ?_ | refine bind_swap fun _ _ _ _ => ?_)
    · simp +contextual -implicitDefEqProofs (maxSteps := 99999999) only [impl_ReadFate_u1, subI, go_sem] <;> (repeat first | rfl | refine bind_ext fun _ _ => ?_ | refine bind_swap fun _ _ _ _ => ?_)
    · simp +contextual -implicitDefEqProofs (maxSteps := 99999999) only [impl_ReadFate_u1, subI, go_sem] <;> (repeat first | rfl | refine bind_ext fun _ _ => ?_ | refine bind_swap fun _ _ _ _ => ?_)
    · simp +contextual -implicitDefEqProofs (maxSteps := 99999999) only [impl_ReadFate_u1, subI, go_sem] <;> (repeat first | rfl | refine bind_ext fun _ _ => ?_ | refine bind_swap fun _ _ _ _ => ?_)
    · simp +contextual -implicitDefEqProofs (maxSteps := 99999999) only [impl_ReadFate_u1, subI, go_sem] <;> (repeat first | rfl | refine bind_ext fun _ _ => ?_ | refine bind_swap fun _ _ _ _ => ?_)
@[go_sem] theorem impl_ReadFate_u4_ok {β : Type} (fu n : Nat) (K : List (Kont β)) (a89 a90 : Int) (a91 a92 : Int) (a93 : List (List UInt8)) (a94 : List UInt8) (a95 : Int) (a96 : List UInt8) (a97 a98 : Nat) (a99 : Int) (a100 : Bool) : run ⟨(tab fu).own, lev (tab fu) (n + 4), (tab fu).gl⟩ K c8_u4 ⟨[(0, .val (.str a94)), (2, .pt 200000020 0), (4, .pt 200000040 0), (5, .pt 200000050 0), (6, .val (.int .i64 a95)), (7, .val (.str a96)), (18, .sl 200000180 a97 a98), (19, .val (.int .i64 a99)), (20, .val (.int .i64 a95)), (26, .val (.bool a100))], [(200000020, .var false [.val (.int .i64 0), .val (.int .i64 0), .val (.int .i64 0), .val (.int .i64 0), .val (.int .i64 0)]), (200000040, .var false [.val (.int .i64 a89), .val (.int .i64 0), .val (.int .i64 0), .val (.int .i64 0)]), (200000050, .var false [.val (.int .i64 a90), .val (.int .i64 a91), .val (.int .i64 a92)]), (200000180, .row false 1 (rowE eS a93))], 56⟩ = (impl_ReadFate_u4 a89 a90 a91 a92 a93 a94 a95 a96 a97 a98 a99 a100).bind (fun t => plug ⟨(tab fu).own, lev (tab fu) (n + 4), (tab fu).gl⟩ K .normal ⟨[(0, .val (.str a94)), (2, .pt 200000020 0), (4, .pt 200000040 0), (5, .pt 200000050 0), (18, .sl 200000180 a97 a98), (19, .val (.int .i64 a99)), (20, .val (.int .i64 a95))], [(200000020, .var false [.val (.int .i64 0), .val (.int .i64 0), .val (.int .i64 0), .val (.int .i64 0), .val (.int .i64 0)]), (200000040, .var false [.val (.int .i64 a89), .val (.int .i64 0), .val (.int .i64 0), .val (.int .i64 0)]), (200000050, .var false [.val (.int .i64 t.1), .val (.int .i64 t.2.1), .val (.int .i64 t.2.2)]), (200000180, .row false 1 (rowE eS a93))], 56⟩) := by
  unfold c8_u4
  simp +contextual -implicitDefEqProofs (maxSteps := 99999999) only [impl_ReadFate_u4, subI, go_sem] <;> rfl
@[go_sem] theorem impl_ReadFate_u5_ok {β : Type} (fu n : Nat) (K : List (Kont β)) (a78 a79 : Int) (a80 a81 : Int) (a82 : List (List UInt8)) (a83 : List UInt8) (a84 a85 : Nat) (a86 a87 : Int) : run ⟨(tab fu).own, lev (tab fu) (n + 4), (tab fu).gl⟩ K c8_u5 ⟨[(0, .val (.str a83)), (2, .pt 200000020 0), (4, .pt 200000040 0), (5, .pt 200000050 0), (18, .sl 200000180 a84 a85), (19, .val (.int .i64 a86)), (20, .val (.int .i64 a87))], [(200000020, .var false [.val (.int .i64 0), .val (.int .i64 0), .val (.int .i64 0), .val (.int .i64 0), .val (.int .i64 0)]), (200000040, .var false [.val (.int .i64 a78), .val (.int .i64 0), .val (.int .i64 0), .val (.int .i64 0)]), (200000050, .var false [.val (.int .i64 a79), .val (.int .i64 a80), .val (.int .i64 a81)]), (200000180, .row false 1 (rowE eS a82))], 56⟩ = (impl_ReadFate_u5 a78 a79 a80 a81 a82 a83 a84 a85 a86 a87).bind (fun t => plug ⟨(tab fu).own, lev (tab fu) (n + 4), (tab fu).gl⟩ K .normal ⟨[(0, .val (.str a83)), (2, .pt 200000020 0), (4, .pt 200000040 0), (5, .pt 200000050 0), (18, .sl 200000180 a84 a85), (19, .val (.int .i64 a86)), (20, .val (.int .i64 a87))], [(200000020, .var false [.val (.int .i64 0), .val (.int .i64 0), .val (.int .i64 0), .val (.int .i64 0), .val (.int .i64 0)]), (200000040, .var false [.val (.int .i64 a78), .val (.int .i64 0), .val (.int .i64 0), .val (.int .i64 0)]), (200000050, .var false [.val (.int .i64 t.1), .val (.int .i64 t.2.1), .val (.int .i64 t.2.2)]), (200000180, .row false 1 (rowE eS a82))], 56⟩) := by
  unfold c8_u5
  simp +contextual -implicitDefEqProofs (maxSteps := 99999999) only [impl_ReadFate_u5, subI, go_sem] <;> rfl
@[go_sem] theorem impl_ReadFate_s6_ok {β : Type} (fu n : Nat) (K : List (Kont β)) (a68 a69 : Int) (a70 a71 : Int) (a72 : List (List UInt8)) (a73 : List UInt8) (a74 a75 : Nat) (a76 a77 : Int) : run ⟨(tab fu).own, lev (tab fu) (n + 4), (tab fu).gl⟩ K (.loop c8_u6) ⟨[(0, .val (.str a73)), (2, .pt 200000020 0), (4, .pt 200000040 0), (5, .pt 200000050 0), (18, .sl 200000180 a74 a75), (19, .val (.int .i64 a76)), (20, .val (.int .i64 a77))], [(200000020, .var false [.val (.int .i64 0), .val (.int .i64 0), .val (.int .i64 0), .val (.int .i64 0), .val (.int .i64 0)]), (200000040, .var false [.val (.int .i64 a68), .val (.int .i64 0), .val (.int .i64 0), .val (.int .i64 0)]), (200000050, .var false [.val (.int .i64 a69), .val (.int .i64 a70), .val (.int .i64 a71)]), (200000180, .row false 1 (rowE eS a72))], 56⟩ = (loopO (impl_ReadFate_s6 a68 a72 a73 a74 a75 a76) ((a69, a70, a71, a77))).bind (fun t => plug ⟨(tab fu).own, lev (tab fu) (n + 4), (tab fu).gl⟩ K (.exit 0) ⟨[(0, .val (.str a73)), (2, .pt 200000020 0), (4, .pt 200000040 0), (5, .pt 200000050 0)], [(200000020, .var false [.val (.int .i64 0), .val (.int .i64 0), .val (.int .i64 0), .val (.int .i64 0), .val (.int .i64 0)]), (200000040, .var false [.val (.int .i64 a68), .val (.int .i64 0), .val (.int .i64 0), .val (.int .i64 0)]), (200000050, .var false [.val (.int .i64 t.1), .val (.int .i64 t.2.1), .val (.int .i64 t.2.2)])], 56⟩) := by
  refine loop_run (C := ⟨(tab fu).own, lev (tab fu) (n + 4), (tab fu).gl⟩) (K := K) (c := c8_u6) (impl_ReadFate_s6 a68 a72 a73 a74 a75 a76) (fun s => ⟨[(0, .val (.str a73)), (2, .pt 200000020 0), (4, .pt 200000040 0), (5, .pt 200000050 0), (18, .sl 200000180 a74 a75), (19, .val (.int .i64 a76)), (20, .val (.int .i64 s.2.2.2))], [(200000020, .var false [.val (.int .i64 0), .val (.int .i64 0), .val (.int .i64 0), .val (.int .i64 0), .val (.int .i64 0)]), (200000040, .var false [.val (.int .i64 a68), .val (.int .i64 0), .val (.int .i64 0), .val (.int .i64 0)]), (200000050, .var false [.val (.int .i64 s.1), .val (.int .i64 s.2.1), .val (.int .i64 s.2.2.1)]), (200000180, .row false 1 (rowE eS a72))], 56⟩) (fun t => plug ⟨(tab fu).own, lev (tab fu) (n + 4), (tab fu).gl⟩ K (.exit 0) ⟨[(0, .val (.str a73)), (2, .pt 200000020 0), (4, .pt 200000040 0), (5, .pt 200000050 0)], [(200000020, .var false [.val (.int .i64 0), .val (.int .i64 0), .val (.int .i64 0), .val (.int .i64 0), .val (.int .i64 0)]), (200000040, .var false [.val (.int .i64 a68), .val (.int .i64 0), .val (.int .i64 0), .val (.int .i64 0)]), (200000050, .var false [.val (.int .i64 t.1), .val (.int .i64 t.2.1), .val (.int .i64 t.2.2)])], 56⟩) (fun k s => ?_) ((a69, a70, a71, a77))
  obtain ⟨a69, a70, a71, a77⟩ := s
  unfold c8_u6
  simp +contextual -implicitDefEqProofs (maxSteps := 99999999) only [impl_ReadFate_s6, subI, go_sem] <;> rfl
@[go_sem] theorem impl_ReadFate_u7_ok {β : Type} (fu n : Nat) (K : List (Kont β)) (a105 a106 : Int) (a107 a108 : Int) (a109 : List UInt8) : run ⟨(tab fu).own, lev (tab fu) (n + 4), (tab fu).gl⟩ K c8_u7 ⟨[(0, .val (.str a109)), (2, .pt 200000020 0), (4, .pt 200000040 0), (5, .pt 200000050 0)], [(200000020, .var false [.val (.int .i64 0), .val (.int .i64 0), .val (.int .i64 0), .val (.int .i64 0), .val (.int .i64 0)]), (200000040, .var false [.val (.int .i64 a105), .val (.int .i64 0), .val (.int .i64 0), .val (.int .i64 0)]), (200000050, .var false [.val (.int .i64 a106), .val (.int .i64 a107), .val (.int .i64 a108)])], 56⟩ = (some (impl_ReadFate_u7 a105 a106 a107 a108 a109)).bind (fun t => plug ⟨(tab fu).own, lev (tab fu) (n + 4), (tab fu).gl⟩ K .normal ⟨[(0, .val (.str a109)), (2, .pt 200000020 0), (4, .pt 200000040 0)], [(200000020, .var false [.val (.int .i64 0), .val (.int .i64 0), .val (.int .i64 0), .val (.int .i64 0), .val (.int .i64 0)]), (200000040, .var false [.val (.int .i64 a105), .val (.int .i64 a106), .val (.int .i64 a107), .val (.int .i64 a108)])], 56⟩) := by
  unfold c8_u7
  rw [run_alts]
  · simp +contextual -implicitDefEqProofs (maxSteps := 99999999) only [impl_ReadFate_u7, subI, go_sem] <;> (repeat first | rfl | refine bind_ext fun _ _ => ?_ | refine bind_swap fun _ _ _ _ => ?_)
  · refine ⟨?_, ?_, ?_, ?_, ?_, ?_, trivial⟩
    · simp +contextual -implicitDefEqProofs (maxSteps := 99999999) only [impl_ReadFate_u7, subI, go_sem] <;> (repeat first | rfl | refine bind_ext fun _ _ => ?_ | refine bind_swap fun _ _ _ _ => ?_)
    · simp +contextual -implicitDefEqProofs (maxSteps := 99999999) only [impl_ReadFate_u7, subI, go_sem] <;> (repeat first | rfl | refine bind_ext fun _ _ => ?_ | refine bind_swap fun _ _ _ _ => ?_)
    · simp +contextual -implicitDefEqProofs (maxSteps := 99999999) only [impl_ReadFate_u7, subI, go_sem] <;> (repeat first | rfl | refine bind_ext fun _ _ => ?_ | refine bind_swap fun _ _ _ _ => ?_)
    · simp +contextual -implicitDefEqProofs (maxSteps := 99999999) only [impl_ReadFate_u7, subI, go_sem] <;> (repeat first | rfl | refine bind_ext fun _ _ => ?_ | refine bind_swap fun _ _ _ _ => ?_)
    · simp +contextual -implicitDefEqProofs (maxSteps := 99999999) only [impl_ReadFate_u7, subI, go_sem] <;> (repeat first | rfl | refine bind_ext fun _ _ => ?_ | refine bind_swap fun _ _ _ _ => ?_)
    · simp +contextual -implicitDefEqProofs (maxSteps := 99999999) only [impl_ReadFate_u7, subI, go_sem] <;> (repeat first | rfl | refine bind_ext fun _ _ => ?_ | refine bind_swap fun _ _ _ _ => ?_)
@[go_sem] theorem impl_ReadFate_u8_ok {β : Type} (fu n : Nat) (K : List (Kont β)) (a111 a112 : Int) (a113 a114 : Int) (a115 : List UInt8) : run ⟨(tab fu).own, lev (tab fu) (n + 4), (tab fu).gl⟩ K c8_u8 ⟨[(0, .val (.str a115)), (2, .pt 200000020 0), (4, .pt 200000040 0)], [(200000020, .var false [.val (.int .i64 0), .val (.int .i64 0), .val (.int .i64 0), .val (.int .i64 0), .val (.int .i64 0)]), (200000040, .var false [.val (.int .i64 a111), .val (.int .i64 a112), .val (.int .i64 a113), .val (.int .i64 a114)])], 56⟩ = (impl_ReadFate_u8 a111 a112 a113 a114 a115).bind (fun t => plug ⟨(tab fu).own, lev (tab fu) (n + 4), (tab fu).gl⟩ K .normal ⟨[(2, .pt 200000020 0), (4, .pt 200000040 0), (52, .val (.bool t))], [(200000020, .var false [.val (.int .i64 0), .val (.int .i64 0), .val (.int .i64 0), .val (.int .i64 0), .val (.int .i64 0)]), (200000040, .var false [.val (.int .i64 a111), .val (.int .i64 a112), .val (.int .i64 a113), .val (.int .i64 a114)])], 56⟩) := by
  unfold c8_u8
  simp +contextual -implicitDefEqProofs (maxSteps := 99999999) only [impl_ReadFate_u8, subI, go_sem] <;> rfl
@[go_sem] theorem impl_ReadFate_ok (fu n : Nat) (q0_0 : List UInt8) : lev (tab fu) (n + 5) 8 [.str q0_0] = (impl_ReadFate q0_0).map fun r => (.agg [.int .i64 r.Code, .int .i64 r.Fate.Kind, .int .i64 r.Fate.Delay, .int .i64 r.Fate.At, .int .i64 r.Fate.Bits], [.gone]) := by
  rw [lev_st (vc := c8) (nt := 56) (rs := [(2, some (some 5))]) ((tab_ext _ _ rfl).trans rfl) rfl (Nat.le_of_ble_eq_true rfl)]
  unfold c8
  simp +contextual -implicitDefEqProofs (maxSteps := 99999999) only [impl_ReadFate, subI, go_sem] <;> rfl
def spec_l1Signed (p0 : Sl1Src) (p1 : Int) : Option (Int × Sl1Src) :=
  (spec_l1Next p0 ((IntKind.i64.wrap ((IntKind.i64.wrap (2 * p1)) + 1)))).bind fun r1 =>
  some (((IntKind.i64.wrap (r1.1 - p1)), r1.2))
@[go_sem] theorem spec_l1Signed_ok (fu n : Nat) (q0_0 : List Int) (q0_1 q1_0 : Int) : lev (tab fu) (n + 2) 30 [.op 0 [.sh .lent 1 (rowE (eI .u8) q0_0), .int .i64 q0_1], .int .i64 q1_0] = (spec_l1Signed (Sl1Src.mk q0_0 q0_1) q1_0).map fun r => (.int .i64 r.1, [.op 0 [.sh .lent 1 (rowE (eI .u8) r.2.Code), .int .i64 r.2.At], .gone]) := by
  rw [lev_st (vc := c30) (nt := 12) (rs := [(4, none)]) ((tab_ext _ _ rfl).trans rfl) rfl (Nat.le_of_ble_eq_true rfl)]
  unfold c30
  simp +contextual -implicitDefEqProofs (maxSteps := 99999999) only [spec_l1Signed, subI, go_sem] <;> rfl
def spec_DrawReadNumber (fu : Nat) (p0 : List Int) : Option ((List UInt8)) :=
  (spec_l1Signed (((spec_l1Source p0))) 40000).bind fun r1 =>
  (spec_l1Signed r1.2 40000).bind fun r2 =>
  (spec_l1Pick r2.2 ([0, 7, (-7), 9999999, (-9999999), 10000000, r1.1, r2.1])).bind fun r3 =>
  (spec_l1Digits fu r3.1).bind fun r4 =>
  (spec_l22Spoil r3.2 r4).bind fun r5 =>
  some r5.1
@[go_sem] theorem spec_DrawReadNumber_ok (fu n : Nat) (q0_0 : List Int) : lev (tab fu) (n + 4) 9 [.sh .lent 1 (rowE (eI .u8) q0_0)] = (spec_DrawReadNumber fu q0_0).map fun r => (.str r, [.gone]) := by
  rw [lev_st (vc := c9) (nt := 16) (rs := [(2, none)]) ((tab_ext _ _ rfl).trans rfl) rfl (Nat.le_of_ble_eq_true rfl)]
  unfold c9
  simp +contextual -implicitDefEqProofs (maxSteps := 99999999) only [spec_DrawReadNumber, subI, go_sem] <;> rfl
def impl_ReadNumber (p0 : List UInt8) : Option (SIntResult) :=
  (impl_number p0).bind fun r1 =>
  if r1.2 = true then some ((SIntResult.mk 0 r1.1))
  else some ((SIntResult.mk 5 0))
@[go_sem] theorem impl_ReadNumber_ok (fu n : Nat) (q0_0 : List UInt8) : lev (tab fu) (n + 5) 10 [.str q0_0] = (impl_ReadNumber q0_0).map fun r => (.agg [.int .i64 r.Code, .int .i64 r.Value], [.gone]) := by
  rw [lev_st (vc := c10) (nt := 15) (rs := [(2, some (some 2))]) ((tab_ext _ _ rfl).trans rfl) rfl (Nat.le_of_ble_eq_true rfl)]
  unfold c10
  simp +contextual -implicitDefEqProofs (maxSteps := 99999999) only [impl_ReadNumber, subI, go_sem] <;> rfl
def spec_Clamp16 (p0 : Int) : Int :=
  if (decide (p0 < (-32768))) = true then (-32768)
  else if (decide (p0 > 32767)) = true then 32767
    else p0
@[go_sem] theorem spec_Clamp16_ok (fu n : Nat) (q0_0 : Int) : lev (tab fu) (n + 1) 71 [.int .i64 q0_0] = (some (spec_Clamp16 q0_0)).map fun r => (.int .i64 r, [.gone]) := by
  rw [lev_st (vc := c71) (nt := 10) (rs := [(2, none)]) ((tab_ext _ _ rfl).trans rfl) rfl (Nat.le_of_ble_eq_true rfl)]
  unfold c71
  simp +contextual -implicitDefEqProofs (maxSteps := 99999999) only [spec_Clamp16, subI, go_sem] <;> rfl
def spec_l1Samples_u3 (a53 a54 : List Int) (a55 a56 : Int) (a57 a58 : Int) (a59 a60 a61 : Int) (a62 : Bool) : Option ((List Int) × Int × Int) :=
  if a62 = true then some ((a54, a55, 0))
  else if (a59 == 1) = true then (spec_l1Signed ((Sl1Src.mk a54 a55)) 32767).bind fun r63 =>
      some ((r63.2.Code, r63.2.At, r63.1))
    else if (a59 == 2) = true then (spec_l1Pick ((Sl1Src.mk a54 a55)) ([32767, (-32768), 0])).bind fun r64 =>
        some ((r64.2.Code, r64.2.At, r64.1))
      else if (a59 == 3) = true then (spec_l1Signed ((Sl1Src.mk a54 a55)) 20).bind fun r65 =>
          some ((r65.2.Code, r65.2.At, (IntKind.i64.wrap (a61 + r65.1))))
        else some ((a54, a55, a61))
def spec_l1Samples_u4 (a44 a45 : List Int) (a46 a47 : Int) (a48 a49 : Int) (a50 a51 a52 : Int) : Option ((List Int) × Int × Int) :=
  (spec_l1Samples_u3 a44 a45 a46 a47 a48 a49 a50 a51 a52 ((a50 == 0))).bind fun y66 =>
  some ((y66.1, y66.2.1, y66.2.2))
def spec_l1Samples_s5 (a39 a40 : Int) (a41 a42 : Int) : ((List Int) × (List Int) × Int × Int) → Option (((List Int) × (List Int) × Int × Int) ⊕ ((List Int) × (List Int) × Int)) := fun ⟨a36, a37, a38, a43⟩ =>
  if (decide (a43 < a39)) = true then (spec_l1Samples_u4 a36 a37 a38 a39 a40 a41 a42 a43 ((IntKind.i64.wrap (a40 + (IntKind.i64.wrap (a41 * a43)))))).bind fun y67 =>
    if (okApp 8 ((a36 ++ ([(spec_Clamp16 y67.2.2)]))).length) = true then some ((.inl (((a36 ++ ([(spec_Clamp16 y67.2.2)])), y67.1, y67.2.1, (IntKind.i64.wrap (a43 + 1))))))
    else none
  else some ((.inr ((a36, a37, a38))))
def spec_l1Samples (p0 : Sl1Src) (p1 : Int) : Option ((List Int) × Sl1Src) :=
  (spec_l1Signed p0 20000).bind fun r1 =>
  (spec_l1Pick r1.2 ([0, 1, 50, 700, (-300)])).bind fun r2 =>
  (spec_l1Next r2.2 5).bind fun r3 =>
  (loopO (spec_l1Samples_s5 p1 r1.1 r2.1 r3.1) (([], r3.2.Code, r3.2.At, 0))).bind fun y68 =>
  some ((y68.1, (Sl1Src.mk y68.2.1 y68.2.2)))
@[go_sem] theorem spec_l1Samples_u3_ok {β : Type} (fu n : Nat) (K : List (Kont β)) (a53 a54 : List Int) (a55 a56 : Int) (a57 a58 : Int) (a59 a60 a61 : Int) (a62 : Bool) : run ⟨(tab fu).own, lev (tab fu) (n + 2), (tab fu).gl⟩ K c57_u3 ⟨[(0, .pt 1000000000 0), (1, .val (.int .i64 a56)), (5, .sl 200000050 0 a53.length), (6, .val (.int .i64 a57)), (7, .val (.int .i64 a58)), (8, .val (.int .i64 a59)), (9, .val (.int .i64 a60)), (10, .val (.int .i64 a61)), (29, .val (.int .i64 a59)), (30, .val (.bool a62))], [(200000050, .row false 1 (rowE (eI .i64) a53)), (1000000000, .var true [.val (.sh .lent 1 (rowE (eI .u8) a54)), .val (.int .i64 a55)])], 53⟩ = (spec_l1Samples_u3 a53 a54 a55 a56 a57 a58 a59 a60 a61 a62).bind (fun t => plug ⟨(tab fu).own, lev (tab fu) (n + 2), (tab fu).gl⟩ K .normal ⟨[(0, .pt 1000000000 0), (1, .val (.int .i64 a56)), (5, .sl 200000050 0 a53.length), (6, .val (.int .i64 a57)), (7, .val (.int .i64 a58)), (8, .val (.int .i64 a59)), (9, .val (.int .i64 a60)), (10, .val (.int .i64 t.2.2))], [(200000050, .row false 1 (rowE (eI .i64) a53)), (1000000000, .var true [.val (.sh .lent 1 (rowE (eI .u8) t.1)), .val (.int .i64 t.2.1)])], 53⟩) := by
  unfold c57_u3
  simp +contextual -implicitDefEqProofs (maxSteps := 99999999) only [spec_l1Samples_u3, subI, go_sem] <;> rfl
@[go_sem] theorem spec_l1Samples_u4_ok {β : Type} (fu n : Nat) (K : List (Kont β)) (a44 a45 : List Int) (a46 a47 : Int) (a48 a49 : Int) (a50 a51 a52 : Int) : run ⟨(tab fu).own, lev (tab fu) (n + 2), (tab fu).gl⟩ K c57_u4 ⟨[(0, .pt 1000000000 0), (1, .val (.int .i64 a47)), (5, .sl 200000050 0 a44.length), (6, .val (.int .i64 a48)), (7, .val (.int .i64 a49)), (8, .val (.int .i64 a50)), (9, .val (.int .i64 a51)), (10, .val (.int .i64 a52)), (29, .val (.int .i64 a50))], [(200000050, .row false 1 (rowE (eI .i64) a44)), (1000000000, .var true [.val (.sh .lent 1 (rowE (eI .u8) a45)), .val (.int .i64 a46)])], 53⟩ = (spec_l1Samples_u4 a44 a45 a46 a47 a48 a49 a50 a51 a52).bind (fun t => plug ⟨(tab fu).own, lev (tab fu) (n + 2), (tab fu).gl⟩ K .normal ⟨[(0, .pt 1000000000 0), (1, .val (.int .i64 a47)), (5, .sl 200000050 0 a44.length), (6, .val (.int .i64 a48)), (7, .val (.int .i64 a49)), (8, .val (.int .i64 a50)), (9, .val (.int .i64 a51)), (10, .val (.int .i64 t.2.2))], [(200000050, .row false 1 (rowE (eI .i64) a44)), (1000000000, .var true [.val (.sh .lent 1 (rowE (eI .u8) t.1)), .val (.int .i64 t.2.1)])], 53⟩) := by
  unfold c57_u4
  simp +contextual -implicitDefEqProofs (maxSteps := 99999999) only [spec_l1Samples_u4, subI, go_sem] <;> rfl
@[go_sem] theorem spec_l1Samples_s5_ok {β : Type} (fu n : Nat) (K : List (Kont β)) (a36 a37 : List Int) (a38 a39 : Int) (a40 a41 : Int) (a42 a43 : Int) : run ⟨(tab fu).own, lev (tab fu) (n + 2), (tab fu).gl⟩ K (.loop c57_u5) ⟨[(0, .pt 1000000000 0), (1, .val (.int .i64 a39)), (5, .sl 200000050 0 a36.length), (6, .val (.int .i64 a40)), (7, .val (.int .i64 a41)), (8, .val (.int .i64 a42)), (9, .val (.int .i64 a43))], [(200000050, .row false 1 (rowE (eI .i64) a36)), (1000000000, .var true [.val (.sh .lent 1 (rowE (eI .u8) a37)), .val (.int .i64 a38)])], 53⟩ = (loopO (spec_l1Samples_s5 a39 a40 a41 a42) ((a36, a37, a38, a43))).bind (fun t => plug ⟨(tab fu).own, lev (tab fu) (n + 2), (tab fu).gl⟩ K (.exit 0) ⟨[(5, .sl 200000050 0 t.1.length)], [(200000050, .row false 1 (rowE (eI .i64) t.1)), (1000000000, .var true [.val (.sh .lent 1 (rowE (eI .u8) t.2.1)), .val (.int .i64 t.2.2)])], 53⟩) := by
  refine loop_run (C := ⟨(tab fu).own, lev (tab fu) (n + 2), (tab fu).gl⟩) (K := K) (c := c57_u5) (spec_l1Samples_s5 a39 a40 a41 a42) (fun s => ⟨[(0, .pt 1000000000 0), (1, .val (.int .i64 a39)), (5, .sl 200000050 0 s.1.length), (6, .val (.int .i64 a40)), (7, .val (.int .i64 a41)), (8, .val (.int .i64 a42)), (9, .val (.int .i64 s.2.2.2))], [(200000050, .row false 1 (rowE (eI .i64) s.1)), (1000000000, .var true [.val (.sh .lent 1 (rowE (eI .u8) s.2.1)), .val (.int .i64 s.2.2.1)])], 53⟩) (fun t => plug ⟨(tab fu).own, lev (tab fu) (n + 2), (tab fu).gl⟩ K (.exit 0) ⟨[(5, .sl 200000050 0 t.1.length)], [(200000050, .row false 1 (rowE (eI .i64) t.1)), (1000000000, .var true [.val (.sh .lent 1 (rowE (eI .u8) t.2.1)), .val (.int .i64 t.2.2)])], 53⟩) (fun k s => ?_) ((a36, a37, a38, a43))
  obtain ⟨a36, a37, a38, a43⟩ := s
  unfold c57_u5
  simp +contextual -implicitDefEqProofs (maxSteps := 99999999) only [spec_l1Samples_s5, subI, go_sem] <;> rfl
@[go_sem] theorem spec_l1Samples_s5_ok_e {β : Type} (fu n : Nat) (K : List (Kont β)) (a37 : List Int) (a38 a39 : Int) (a40 a41 : Int) (a42 a43 : Int) : run ⟨(tab fu).own, lev (tab fu) (n + 2), (tab fu).gl⟩ K (.loop c57_u5) ⟨[(0, .pt 1000000000 0), (1, .val (.int .i64 a39)), (5, .sl 200000050 0 0), (6, .val (.int .i64 a40)), (7, .val (.int .i64 a41)), (8, .val (.int .i64 a42)), (9, .val (.int .i64 a43))], [(200000050, .row false 1 []), (1000000000, .var true [.val (.sh .lent 1 (rowE (eI .u8) a37)), .val (.int .i64 a38)])], 53⟩ = (loopO (spec_l1Samples_s5 a39 a40 a41 a42) (([], a37, a38, a43))).bind (fun t => plug ⟨(tab fu).own, lev (tab fu) (n + 2), (tab fu).gl⟩ K (.exit 0) ⟨[(5, .sl 200000050 0 t.1.length)], [(200000050, .row false 1 (rowE (eI .i64) t.1)), (1000000000, .var true [.val (.sh .lent 1 (rowE (eI .u8) t.2.1)), .val (.int .i64 t.2.2)])], 53⟩) := spec_l1Samples_s5_ok fu n K [] a37 a38 a39 a40 a41 a42 a43
@[go_sem] theorem spec_l1Samples_ok (fu n : Nat) (q0_0 : List Int) (q0_1 q1_0 : Int) : lev (tab fu) (n + 3) 57 [.op 0 [.sh .lent 1 (rowE (eI .u8) q0_0), .int .i64 q0_1], .int .i64 q1_0] = (spec_l1Samples (Sl1Src.mk q0_0 q0_1) q1_0).map fun r => (.ow 1 (rowE (eI .i64) r.1), [.op 0 [.sh .lent 1 (rowE (eI .u8) r.2.Code), .int .i64 r.2.At], .gone]) := by
  rw [lev_st (vc := c57) (nt := 53) (rs := [(4, none)]) ((tab_ext _ _ rfl).trans rfl) rfl (Nat.le_of_ble_eq_true rfl)]
  unfold c57
  simp +contextual -implicitDefEqProofs (maxSteps := 99999999) only [spec_l1Samples, subI, go_sem] <;> rfl
def spec_l20Back (p0 : Sl1Src) : Option (SFate × Sl1Src) :=
  (spec_l1Chance p0 4).bind fun r1 =>
  if r1.1 = true then some (((SFate.mk 0 0 0 0), r1.2))
  else (spec_l1Pick r1.2 ([0, 0, 1, 3])).bind fun r2 =>
    some (((SFate.mk 1 r2.1 0 0), r2.2))
@[go_sem] theorem spec_l20Back_ok (fu n : Nat) (q0_0 : List Int) (q0_1 : Int) : lev (tab fu) (n + 3) 58 [.op 0 [.sh .lent 1 (rowE (eI .u8) q0_0), .int .i64 q0_1]] = (spec_l20Back (Sl1Src.mk q0_0 q0_1)).map fun r => (.agg [.int .i64 r.1.Kind, .int .i64 r.1.Delay, .int .i64 r.1.At, .int .i64 r.1.Bits], [.op 0 [.sh .lent 1 (rowE (eI .u8) r.2.Code), .int .i64 r.2.At]]) := by
  rw [lev_st (vc := c58) (nt := 10) (rs := [(2, some (some 4))]) ((tab_ext _ _ rfl).trans rfl) rfl (Nat.le_of_ble_eq_true rfl)]
  unfold c58
  simp +contextual -implicitDefEqProofs (maxSteps := 99999999) only [spec_l20Back, subI, go_sem] <;> rfl
def spec_l20Step (p0 : Sl1Src) (p1 p2 : Int) : Option (SStep × Sl1Src) :=
  (spec_l1Samples p0 p1).bind fun r1 =>
  (spec_l20Fate r1.2 p2).bind fun r2 =>
  (spec_l20Fate r2.2 p2).bind fun r3 =>
  (spec_l20Back r3.2).bind fun r4 =>
  some (((SStep.mk r1.1 r2.1 r3.1 r4.1), r4.2))
@[go_sem] theorem spec_l20Step_ok (fu n : Nat) (q0_0 : List Int) (q0_1 q1_0 q2_0 : Int) : lev (tab fu) (n + 4) 45 [.op 0 [.sh .lent 1 (rowE (eI .u8) q0_0), .int .i64 q0_1], .int .i64 q1_0, .int .i64 q2_0] = (spec_l20Step (Sl1Src.mk q0_0 q0_1) q1_0 q2_0).map fun r => (.agg [.ow 1 (rowE (eI .i64) r.1.Frame), .int .i64 r.1.A.Kind, .int .i64 r.1.A.Delay, .int .i64 r.1.A.At, .int .i64 r.1.A.Bits, .int .i64 r.1.B.Kind, .int .i64 r.1.B.Delay, .int .i64 r.1.B.At, .int .i64 r.1.B.Bits, .int .i64 r.1.R.Kind, .int .i64 r.1.R.Delay, .int .i64 r.1.R.At, .int .i64 r.1.R.Bits], [.op 0 [.sh .lent 1 (rowE (eI .u8) r.2.Code), .int .i64 r.2.At], .gone, .gone]) := by
  rw [lev_st (vc := c45) (nt := 19) (rs := [(6, some (some 13))]) ((tab_ext _ _ rfl).trans rfl) rfl (Nat.le_of_ble_eq_true rfl)]
  unfold c45
  simp +contextual -implicitDefEqProofs (maxSteps := 99999999) only [spec_l20Step, subI, go_sem] <;> rfl
def spec_l22Numbers_u2 (fu : Nat) (a14 : List Int) (a15 : List UInt8) (a16 : Int) (a17 : Bool) : Option ((List UInt8)) :=
  if a17 = true then if a15.length + ([32] : List UInt8).length ≤ 9223372036854775807 then some ((a15 ++ ([32] : List UInt8)))
    else none
  else some a15
def spec_l22Numbers_s3 (fu : Nat) (a11 : List Int) : ((List UInt8) × Int) → Option (((List UInt8) × Int) ⊕ ((List UInt8))) := fun ⟨a12, a13⟩ =>
  if (decide (a13 < (a11.length : Int))) = true then (spec_l22Numbers_u2 fu a11 a12 a13 ((decide (a13 > 0)))).bind fun y18 =>
    (getI a11 a13).bind fun x19 =>
    (spec_l1Digits fu x19).bind fun r20 =>
    if y18.length + r20.length ≤ 9223372036854775807 then some ((.inl (((y18 ++ r20), (IntKind.i64.wrap (a13 + 1))))))
    else none
  else some ((.inr a12))
def spec_l22Numbers (fu : Nat) (p0 : List Int) : Option ((List UInt8)) :=
  (loopO (spec_l22Numbers_s3 fu p0) (([], 0))).bind fun y21 =>
  some y21
@[go_sem] theorem spec_l22Numbers_u2_ok {β : Type} (fu n : Nat) (K : List (Kont β)) (a14 : List Int) (a15 : List UInt8) (a16 : Int) (a17 : Bool) : run ⟨(tab fu).own, lev (tab fu) (n + 1), (tab fu).gl⟩ K c46_u2 ⟨[(0, .val (.sh .lent 1 (rowE (eI .i64) a14))), (3, .val (.str a15)), (4, .val (.int .i64 a16)), (12, .val (.bool a17))], [], 23⟩ = (spec_l22Numbers_u2 fu a14 a15 a16 a17).bind (fun t => plug ⟨(tab fu).own, lev (tab fu) (n + 1), (tab fu).gl⟩ K .normal ⟨[(0, .val (.sh .lent 1 (rowE (eI .i64) a14))), (3, .val (.str t)), (4, .val (.int .i64 a16))], [], 23⟩) := by
  unfold c46_u2
  simp +contextual -implicitDefEqProofs (maxSteps := 99999999) only [spec_l22Numbers_u2, subI, go_sem] <;> rfl
@[go_sem] theorem spec_l22Numbers_s3_ok {β : Type} (fu n : Nat) (K : List (Kont β)) (a11 : List Int) (a12 : List UInt8) (a13 : Int) : run ⟨(tab fu).own, lev (tab fu) (n + 1), (tab fu).gl⟩ K (.loop c46_u3) ⟨[(0, .val (.sh .lent 1 (rowE (eI .i64) a11))), (3, .val (.str a12)), (4, .val (.int .i64 a13))], [], 23⟩ = (loopO (spec_l22Numbers_s3 fu a11) ((a12, a13))).bind (fun t => plug ⟨(tab fu).own, lev (tab fu) (n + 1), (tab fu).gl⟩ K (.exit 0) ⟨[(3, .val (.str t))], [], 23⟩) := by
  refine loop_run (C := ⟨(tab fu).own, lev (tab fu) (n + 1), (tab fu).gl⟩) (K := K) (c := c46_u3) (spec_l22Numbers_s3 fu a11) (fun s => ⟨[(0, .val (.sh .lent 1 (rowE (eI .i64) a11))), (3, .val (.str s.1)), (4, .val (.int .i64 s.2))], [], 23⟩) (fun t => plug ⟨(tab fu).own, lev (tab fu) (n + 1), (tab fu).gl⟩ K (.exit 0) ⟨[(3, .val (.str t))], [], 23⟩) (fun k s => ?_) ((a12, a13))
  obtain ⟨a12, a13⟩ := s
  unfold c46_u3
  simp +contextual -implicitDefEqProofs (maxSteps := 99999999) only [spec_l22Numbers_s3, subI, go_sem] <;> rfl
@[go_sem] theorem spec_l22Numbers_s3_ok_e {β : Type} (fu n : Nat) (K : List (Kont β)) (a11 : List Int) (a13 : Int) : run ⟨(tab fu).own, lev (tab fu) (n + 1), (tab fu).gl⟩ K (.loop c46_u3) ⟨[(0, .val (.sh .lent 1 (rowE (eI .i64) a11))), (3, .val (.str ([]))), (4, .val (.int .i64 a13))], [], 23⟩ = (loopO (spec_l22Numbers_s3 fu a11) (([], a13))).bind (fun t => plug ⟨(tab fu).own, lev (tab fu) (n + 1), (tab fu).gl⟩ K (.exit 0) ⟨[(3, .val (.str t))], [], 23⟩) := spec_l22Numbers_s3_ok fu n K a11 [] a13
@[go_sem] theorem spec_l22Numbers_ok (fu n : Nat) (q0_0 : List Int) : lev (tab fu) (n + 2) 46 [.sh .lent 1 (rowE (eI .i64) q0_0)] = (spec_l22Numbers fu q0_0).map fun r => (.str r, [.gone]) := by
  rw [lev_st (vc := c46) (nt := 23) (rs := [(2, none)]) ((tab_ext _ _ rfl).trans rfl) rfl (Nat.le_of_ble_eq_true rfl)]
  unfold c46
  simp +contextual -implicitDefEqProofs (maxSteps := 99999999) only [spec_l22Numbers, subI, go_sem] <;> rfl
def spec_l22Line (fu : Nat) (p0 : Sl1Src) (p1 : Int) : Option ((List UInt8) × Sl1Src) :=
  (spec_l1Pick p0 ([4, 9])).bind fun r1 =>
  (spec_l20Step r1.2 p1 r1.1).bind fun r2 =>
  (spec_l1Chance r2.2 3).bind fun r3 =>
  if r3.1 = true then (spec_l1Next r3.2 12).bind fun r4 =>
    (getI ([[116, 105, 99, 107], [110, 101, 120, 116], [110, 117, 109, 98, 101, 114], [102, 108, 121, 105, 110, 103], [108, 111, 115, 115, 101, 115], [112, 108, 97, 110], [], [32, 32], [115, 97, 121], [102, 111, 111], [116, 105, 99, 107, 32, 116, 105, 99, 107], [112, 108, 97, 110, 32, 120]] : List (List UInt8)) r4.1).bind fun _ =>
    (([[116, 105, 99, 107], [110, 101, 120, 116], [110, 117, 109, 98, 101, 114], [102, 108, 121, 105, 110, 103], [108, 111, 115, 115, 101, 115], [112, 108, 97, 110], [], [32, 32], [115, 97, 121], [102, 111, 111], [116, 105, 99, 107, 32, 116, 105, 99, 107], [112, 108, 97, 110, 32, 120]] : List (List UInt8))[r4.1.toNat]?).bind fun x5 =>
    some ((x5, r4.2))
  else (spec_l22Numbers fu r2.1.Frame).bind fun r6 =>
    if ([115, 97, 121, 32] : List UInt8).length + r6.length ≤ 9223372036854775807 then if ((([115, 97, 121, 32] : List UInt8) ++ r6)).length + ([32] : List UInt8).length ≤ 9223372036854775807 then (spec_l22Fate fu r2.1.A).bind fun r7 =>
        if ((((([115, 97, 121, 32] : List UInt8) ++ r6)) ++ ([32] : List UInt8))).length + r7.length ≤ 9223372036854775807 then if ((((((([115, 97, 121, 32] : List UInt8) ++ r6)) ++ ([32] : List UInt8))) ++ r7)).length + ([32] : List UInt8).length ≤ 9223372036854775807 then (spec_l22Fate fu r2.1.B).bind fun r8 =>
            if ((((((((([115, 97, 121, 32] : List UInt8) ++ r6)) ++ ([32] : List UInt8))) ++ r7)) ++ ([32] : List UInt8))).length + r8.length ≤ 9223372036854775807 then if ((((((((((([115, 97, 121, 32] : List UInt8) ++ r6)) ++ ([32] : List UInt8))) ++ r7)) ++ ([32] : List UInt8))) ++ r8)).length + ([32] : List UInt8).length ≤ 9223372036854775807 then (spec_l22Fate fu r2.1.R).bind fun r9 =>
                if ((((((((((((([115, 97, 121, 32] : List UInt8) ++ r6)) ++ ([32] : List UInt8))) ++ r7)) ++ ([32] : List UInt8))) ++ r8)) ++ ([32] : List UInt8))).length + r9.length ≤ 9223372036854775807 then (spec_l22Spoil r3.2 ((((((((((((((([115, 97, 121, 32] : List UInt8) ++ r6)) ++ ([32] : List UInt8))) ++ r7)) ++ ([32] : List UInt8))) ++ r8)) ++ ([32] : List UInt8))) ++ r9))).bind fun r10 =>
                  some ((r10.1, r10.2))
                else none
              else none
            else none
          else none
        else none
      else none
    else none
@[go_sem] theorem spec_l22Line_ok (fu n : Nat) (q0_0 : List Int) (q0_1 q1_0 : Int) : lev (tab fu) (n + 5) 31 [.op 0 [.sh .lent 1 (rowE (eI .u8) q0_0), .int .i64 q0_1], .int .i64 q1_0] = (spec_l22Line fu (Sl1Src.mk q0_0 q0_1) q1_0).map fun r => (.str r.1, [.op 0 [.sh .lent 1 (rowE (eI .u8) r.2.Code), .int .i64 r.2.At], .gone]) := by
  rw [lev_st (vc := c31) (nt := 44) (rs := [(4, none)]) ((tab_ext _ _ rfl).trans rfl) rfl (Nat.le_of_ble_eq_true rfl)]
  unfold c31
  simp +contextual -implicitDefEqProofs (maxSteps := 99999999) only [spec_l22Line, subI, go_sem] <;> rfl
def spec_DrawWordsOf_s1 (fu : Nat) : ((List Int) × Int × (List UInt8)) → Option (((List Int) × Int × (List UInt8)) ⊕ ((List UInt8))) := fun ⟨a7, a8, a9⟩ =>
  (spec_l1Pick ((Sl1Src.mk a7 a8)) ([2000, 2001])).bind fun r10 =>
  if (decide ((a9.length : Int) < r10.1)) = true then if a9.length + ([97] : List UInt8).length ≤ 9223372036854775807 then some ((.inl ((r10.2.Code, r10.2.At, (a9 ++ ([97] : List UInt8))))))
    else none
  else some ((.inr a9))
def spec_DrawWordsOf_u2 (fu : Nat) (a3 : List Int) (a4 : Int) (a5 : List UInt8) (a6 : Bool) : Option ((List UInt8)) :=
  if a6 = true then (loopO (spec_DrawWordsOf_s1 fu) ((a3, a4, a5))).bind fun y11 =>
    some y11
  else some a5
def spec_DrawWordsOf (fu : Nat) (p0 : List Int) : Option ((List UInt8)) :=
  (spec_l22Line fu (((spec_l1Source p0))) 4).bind fun r1 =>
  if ([32] : List UInt8).length + r1.1.length ≤ 9223372036854775807 then (spec_l1Chance r1.2 20).bind fun r2 =>
    (spec_DrawWordsOf_u2 fu r2.2.Code r2.2.At ((([32] : List UInt8) ++ r1.1)) r2.1).bind fun y12 =>
    some y12
  else none
@[go_sem] theorem spec_DrawWordsOf_s1_ok {β : Type} (fu n : Nat) (K : List (Kont β)) (a7 : List Int) (a8 : Int) (a9 : List UInt8) : run ⟨(tab fu).own, lev (tab fu) (n + 5), (tab fu).gl⟩ K (.loop c11_u1) ⟨[(3, .pt 200000030 0), (4, .val (.str a9))], [(200000030, .var false [.val (.sh .lent 1 (rowE (eI .u8) a7)), .val (.int .i64 a8)])], 21⟩ = (loopO (spec_DrawWordsOf_s1 fu) ((a7, a8, a9))).bind (fun t => plug ⟨(tab fu).own, lev (tab fu) (n + 5), (tab fu).gl⟩ K (.exit 0) ⟨[(4, .val (.str t))], [], 21⟩) := by
  refine loop_run (C := ⟨(tab fu).own, lev (tab fu) (n + 5), (tab fu).gl⟩) (K := K) (c := c11_u1) (spec_DrawWordsOf_s1 fu) (fun s => ⟨[(3, .pt 200000030 0), (4, .val (.str s.2.2))], [(200000030, .var false [.val (.sh .lent 1 (rowE (eI .u8) s.1)), .val (.int .i64 s.2.1)])], 21⟩) (fun t => plug ⟨(tab fu).own, lev (tab fu) (n + 5), (tab fu).gl⟩ K (.exit 0) ⟨[(4, .val (.str t))], [], 21⟩) (fun k s => ?_) ((a7, a8, a9))
  obtain ⟨a7, a8, a9⟩ := s
  unfold c11_u1
  simp +contextual -implicitDefEqProofs (maxSteps := 99999999) only [spec_DrawWordsOf_s1, subI, go_sem] <;> rfl
@[go_sem] theorem spec_DrawWordsOf_u2_ok {β : Type} (fu n : Nat) (K : List (Kont β)) (a3 : List Int) (a4 : Int) (a5 : List UInt8) (a6 : Bool) : run ⟨(tab fu).own, lev (tab fu) (n + 5), (tab fu).gl⟩ K c11_u2 ⟨[(3, .pt 200000030 0), (4, .val (.str a5)), (11, .val (.bool a6))], [(200000030, .var false [.val (.sh .lent 1 (rowE (eI .u8) a3)), .val (.int .i64 a4)])], 21⟩ = (spec_DrawWordsOf_u2 fu a3 a4 a5 a6).bind (fun t => plug ⟨(tab fu).own, lev (tab fu) (n + 5), (tab fu).gl⟩ K .normal ⟨[(4, .val (.str t))], [], 21⟩) := by
  unfold c11_u2
  simp +contextual -implicitDefEqProofs (maxSteps := 99999999) only [spec_DrawWordsOf_u2, subI, go_sem] <;> rfl
@[go_sem] theorem spec_DrawWordsOf_ok (fu n : Nat) (q0_0 : List Int) : lev (tab fu) (n + 6) 11 [.sh .lent 1 (rowE (eI .u8) q0_0)] = (spec_DrawWordsOf fu q0_0).map fun r => (.str r, [.gone]) := by
  rw [lev_st (vc := c11) (nt := 21) (rs := [(2, none)]) ((tab_ext _ _ rfl).trans rfl) rfl (Nat.le_of_ble_eq_true rfl)]
  unfold c11
  simp +contextual -implicitDefEqProofs (maxSteps := 99999999) only [spec_DrawWordsOf, subI, go_sem] <;> rfl
def slices_DeleteFunc_string (p0 : List (List UInt8)) : Option (List (List UInt8)) := if okDel p0 = true then some (p0.filter fun x => !(x == [])) else none
@[go_sem] theorem slices_DeleteFunc_string_ok (fu n : Nat) (q : List (List UInt8)) : lev (tab fu) (n + 1) 47 [.ow 1 (rowE eS q), .fn 48 []] = (slices_DeleteFunc_string q).map fun r => (.ow 1 (rowE eS r), [.gone, .gone]) := by
  rw [lev_ext (F := (deleteF 48 fun x => x == [])) ((tab_ext _ _ rfl).trans rfl)]
  unfold deleteF slices_DeleteFunc_string
  simp only [strsOf_row, true_and]
  split <;> rfl
def impl_wordsOf (p0 : List UInt8) : Option ((List (List UInt8))) :=
  (strings_Split p0 ([32])).bind fun r1 =>
  (slices_DeleteFunc_string r1).bind fun r2 =>
  some r2
@[go_sem] theorem impl_wordsOf_ok (fu n : Nat) (q0_0 : List UInt8) : lev (tab fu) (n + 2) 33 [.str q0_0] = (impl_wordsOf q0_0).map fun r => (.ow 1 (rowE eS r), [.gone]) := by
  rw [lev_st (vc := c33) (nt := 6) (rs := [(2, none)]) ((tab_ext _ _ rfl).trans rfl) rfl (Nat.le_of_ble_eq_true rfl)]
  unfold c33
  simp +contextual -implicitDefEqProofs (maxSteps := 99999999) only [impl_wordsOf, subI, go_sem] <;> rfl
def impl_WordsOf (p0 : List UInt8) : Option (SWordsResult) :=
  if (decide ((p0.length : Int) > 2000)) = true then some ((SWordsResult.mk 2 ([])))
  else (impl_wordsOf p0).bind fun r1 =>
    some ((SWordsResult.mk 0 r1))
@[go_sem] theorem impl_WordsOf_ok (fu n : Nat) (q0_0 : List UInt8) : lev (tab fu) (n + 3) 12 [.str q0_0] = (impl_WordsOf q0_0).map fun r => (.agg [.int .i64 r.Code, .ow 1 (rowE eS r.Words)], [.gone]) := by
  rw [lev_st (vc := c12) (nt := 10) (rs := [(2, some (some 2))]) ((tab_ext _ _ rfl).trans rfl) rfl (Nat.le_of_ble_eq_true rfl)]
  unfold c12
  simp +contextual -implicitDefEqProofs (maxSteps := 99999999) only [impl_WordsOf, subI, go_sem] <;> rfl
def spec_l1In_u1 (a1 a2 a3 : Int) : Bool :=
  if (decide (a1 ≥ a2)) = true then (decide (a1 ≤ a3))
  else false
def spec_l1In (p0 p1 p2 : Int) : Bool :=
  let y4 := spec_l1In_u1 p0 p1 p2
  y4
@[go_sem] theorem spec_l1In_u1_ok {β : Type} (fu n : Nat) (K : List (Kont β)) (a1 a2 a3 : Int) : run ⟨(tab fu).own, lev (tab fu) n, (tab fu).gl⟩ K c34_u1 ⟨[(0, .val (.int .i64 a1)), (1, .val (.int .i64 a2)), (2, .val (.int .i64 a3))], [], 15⟩ = (some (spec_l1In_u1 a1 a2 a3)).bind (fun t => plug ⟨(tab fu).own, lev (tab fu) n, (tab fu).gl⟩ K .normal ⟨[(6, .val (.bool t))], [], 15⟩) := by
  unfold c34_u1
  simp +contextual -implicitDefEqProofs (maxSteps := 99999999) only [spec_l1In_u1, subI, go_sem] <;> rfl
@[go_sem] theorem spec_l1In_ok (fu n : Nat) (q0_0 q1_0 q2_0 : Int) : lev (tab fu) (n + 1) 34 [.int .i64 q0_0, .int .i64 q1_0, .int .i64 q2_0] = (some (spec_l1In q0_0 q1_0 q2_0)).map fun r => (.bool r, [.gone, .gone, .gone]) := by
  rw [lev_st (vc := c34) (nt := 15) (rs := [(6, none)]) ((tab_ext _ _ rfl).trans rfl) rfl (Nat.le_of_ble_eq_true rfl)]
  unfold c34
  simp +contextual -implicitDefEqProofs (maxSteps := 99999999) only [spec_l1In, subI, go_sem] <;> rfl
def spec_FateFault_u1 (a1 a2 : Int) (a3 a4 : Int) (a5 : Bool) : Bool × Bool :=
  if (spec_l1In a1 0 3) = true then if (a1 == 0) = true then if (a2 != 0) = true then (a5, true)
      else if a5 = true then (true, false)
        else if (a3 != 0) = true then (false, true)
          else (false, (a4 != 0))
    else if a5 = true then (true, false)
      else if (a3 != 0) = true then (false, true)
        else (false, (a4 != 0))
  else (a5, true)
def spec_FateFault_u2 (a7 a8 : Int) (a9 a10 : Int) (a11 : Bool) : Bool :=
  if (spec_l1In a8 0 6) = true then if a11 = true then if (spec_l1In a9 0 1279) = true then (!(spec_l1In a10 1 65535))
      else true
    else false
  else true
def spec_FateFault (p0 : SFate) : Int :=
  let y6 := spec_FateFault_u1 p0.Kind p0.Delay p0.At p0.Bits ((p0.Kind == 3))
  if y6.2 = true then 1
  else let y12 := spec_FateFault_u2 p0.Kind p0.Delay p0.At p0.Bits y6.1
    if y12 = true then 3
    else 0
@[go_sem] theorem spec_FateFault_u1_ok {β : Type} (fu n : Nat) (K : List (Kont β)) (a1 a2 : Int) (a3 a4 : Int) (a5 : Bool) : run ⟨(tab fu).own, lev (tab fu) (n + 1), (tab fu).gl⟩ K c13_u1 ⟨[(1, .pt 200000010 0), (3, .val (.bool a5))], [(200000010, .var false [.val (.int .i64 a1), .val (.int .i64 a2), .val (.int .i64 a3), .val (.int .i64 a4)])], 54⟩ = (some (spec_FateFault_u1 a1 a2 a3 a4 a5)).bind (fun t => plug ⟨(tab fu).own, lev (tab fu) (n + 1), (tab fu).gl⟩ K .normal ⟨[(1, .pt 200000010 0), (3, .val (.bool t.1)), (34, .val (.bool t.2))], [(200000010, .var false [.val (.int .i64 a1), .val (.int .i64 a2), .val (.int .i64 a3), .val (.int .i64 a4)])], 54⟩) := by
  unfold c13_u1
  simp +contextual -implicitDefEqProofs (maxSteps := 99999999) only [spec_FateFault_u1, subI, go_sem] <;> rfl
@[go_sem] theorem spec_FateFault_u2_ok {β : Type} (fu n : Nat) (K : List (Kont β)) (a7 a8 : Int) (a9 a10 : Int) (a11 : Bool) : run ⟨(tab fu).own, lev (tab fu) (n + 1), (tab fu).gl⟩ K c13_u2 ⟨[(1, .pt 200000010 0), (3, .val (.bool a11))], [(200000010, .var false [.val (.int .i64 a7), .val (.int .i64 a8), .val (.int .i64 a9), .val (.int .i64 a10)])], 54⟩ = (some (spec_FateFault_u2 a7 a8 a9 a10 a11)).bind (fun t => plug ⟨(tab fu).own, lev (tab fu) (n + 1), (tab fu).gl⟩ K .normal ⟨[(53, .val (.bool t))], [], 54⟩) := by
  unfold c13_u2
  simp +contextual -implicitDefEqProofs (maxSteps := 99999999) only [spec_FateFault_u2, subI, go_sem] <;> rfl
@[go_sem] theorem spec_FateFault_ok (fu n : Nat) (q0_0 q0_1 : Int) (q0_2 q0_3 : Int) : lev (tab fu) (n + 2) 13 [.agg [.int .i64 q0_0, .int .i64 q0_1, .int .i64 q0_2, .int .i64 q0_3]] = (some (spec_FateFault (SFate.mk q0_0 q0_1 q0_2 q0_3))).map fun r => (.int .i64 r, [.gone]) := by
  rw [lev_st (vc := c13) (nt := 54) (rs := [(2, none)]) ((tab_ext _ _ rfl).trans rfl) rfl (Nat.le_of_ble_eq_true rfl)]
  unfold c13
  simp +contextual -implicitDefEqProofs (maxSteps := 99999999) only [spec_FateFault, subI, go_sem] <;> rfl
def spec_l1Cut_u4 (a37 : List (List UInt8)) (a38 : List UInt8) (a39 a40 a41 : Int) : Option (Bool) :=
  if (a41 == (a38.length : Int)) = true then some true
  else (getI a38 a41).bind fun x42 =>
    some (((x42.toNat : Int) == a39))
def spec_l1Cut_u5 (a44 : List (List UInt8)) (a45 : List UInt8) (a46 a47 a48 : Int) (a49 : Bool) : Option ((List (List UInt8)) × Int) :=
  if a49 = true then (subI a45 a47 a48).bind fun x50 =>
    if (okApp 16 ((a44 ++ ([x50]))).length) = true then some (((a44 ++ ([x50])), (IntKind.i64.wrap (a48 + 1))))
    else none
  else some ((a44, a47))
def spec_l1Cut_u6 (a32 : List (List UInt8)) (a33 : List UInt8) (a34 a35 a36 : Int) : Option ((List (List UInt8)) × Int) :=
  (spec_l1Cut_u4 a32 a33 a34 a35 a36).bind fun y43 =>
  (spec_l1Cut_u5 a32 a33 a34 a35 a36 y43).bind fun y51 =>
  some ((y51.1, y51.2))
def spec_l1Cut_s7 (a28 : List UInt8) (a29 : Int) : ((List (List UInt8)) × Int × Int) → Option (((List (List UInt8)) × Int × Int) ⊕ ((List (List UInt8)))) := fun ⟨a27, a30, a31⟩ =>
  if (decide (a31 ≤ (a28.length : Int))) = true then (spec_l1Cut_u6 a27 a28 a29 a30 a31).bind fun y52 =>
    some ((.inl ((y52.1, y52.2, (IntKind.i64.wrap (a31 + 1))))))
  else some ((.inr a27))
def spec_l1Cut (p0 : List UInt8) (p1 : Int) : Option ((List (List UInt8))) :=
  (loopO (spec_l1Cut_s7 p0 p1) (([], 0, 0))).bind fun y53 =>
  some y53
@[go_sem] theorem spec_l1Cut_u4_ok {β : Type} (fu n : Nat) (K : List (Kont β)) (a37 : List (List UInt8)) (a38 : List UInt8) (a39 a40 a41 : Int) : run ⟨(tab fu).own, lev (tab fu) n, (tab fu).gl⟩ K c49_u4 ⟨[(0, .val (.str a38)), (1, .val (.int .u8 a39)), (5, .sl 200000050 0 a37.length), (6, .val (.int .i64 a40)), (7, .val (.int .i64 a41))], [(200000050, .row false 1 (rowE eS a37))], 36⟩ = (spec_l1Cut_u4 a37 a38 a39 a40 a41).bind (fun t => plug ⟨(tab fu).own, lev (tab fu) n, (tab fu).gl⟩ K .normal ⟨[(0, .val (.str a38)), (1, .val (.int .u8 a39)), (5, .sl 200000050 0 a37.length), (6, .val (.int .i64 a40)), (7, .val (.int .i64 a41)), (25, .val (.bool t))], [(200000050, .row false 1 (rowE eS a37))], 36⟩) := by
  unfold c49_u4
  simp +contextual -implicitDefEqProofs (maxSteps := 99999999) only [spec_l1Cut_u4, subI, go_sem] <;> rfl
@[go_sem] theorem spec_l1Cut_u5_ok {β : Type} (fu n : Nat) (K : List (Kont β)) (a44 : List (List UInt8)) (a45 : List UInt8) (a46 a47 a48 : Int) (a49 : Bool) : run ⟨(tab fu).own, lev (tab fu) n, (tab fu).gl⟩ K c49_u5 ⟨[(0, .val (.str a45)), (1, .val (.int .u8 a46)), (5, .sl 200000050 0 a44.length), (6, .val (.int .i64 a47)), (7, .val (.int .i64 a48)), (25, .val (.bool a49))], [(200000050, .row false 1 (rowE eS a44))], 36⟩ = (spec_l1Cut_u5 a44 a45 a46 a47 a48 a49).bind (fun t => plug ⟨(tab fu).own, lev (tab fu) n, (tab fu).gl⟩ K .normal ⟨[(0, .val (.str a45)), (1, .val (.int .u8 a46)), (5, .sl 200000050 0 t.1.length), (6, .val (.int .i64 t.2)), (7, .val (.int .i64 a48))], [(200000050, .row false 1 (rowE eS t.1))], 36⟩) := by
  unfold c49_u5
  simp +contextual -implicitDefEqProofs (maxSteps := 99999999) only [spec_l1Cut_u5, subI, go_sem] <;> rfl
@[go_sem] theorem spec_l1Cut_u6_ok {β : Type} (fu n : Nat) (K : List (Kont β)) (a32 : List (List UInt8)) (a33 : List UInt8) (a34 a35 a36 : Int) : run ⟨(tab fu).own, lev (tab fu) n, (tab fu).gl⟩ K c49_u6 ⟨[(0, .val (.str a33)), (1, .val (.int .u8 a34)), (5, .sl 200000050 0 a32.length), (6, .val (.int .i64 a35)), (7, .val (.int .i64 a36))], [(200000050, .row false 1 (rowE eS a32))], 36⟩ = (spec_l1Cut_u6 a32 a33 a34 a35 a36).bind (fun t => plug ⟨(tab fu).own, lev (tab fu) n, (tab fu).gl⟩ K .normal ⟨[(0, .val (.str a33)), (1, .val (.int .u8 a34)), (5, .sl 200000050 0 t.1.length), (6, .val (.int .i64 t.2)), (7, .val (.int .i64 a36))], [(200000050, .row false 1 (rowE eS t.1))], 36⟩) := by
  unfold c49_u6
  simp +contextual -implicitDefEqProofs (maxSteps := 99999999) only [spec_l1Cut_u6, subI, go_sem] <;> rfl
@[go_sem] theorem spec_l1Cut_s7_ok {β : Type} (fu n : Nat) (K : List (Kont β)) (a27 : List (List UInt8)) (a28 : List UInt8) (a29 a30 a31 : Int) : run ⟨(tab fu).own, lev (tab fu) n, (tab fu).gl⟩ K (.loop c49_u7) ⟨[(0, .val (.str a28)), (1, .val (.int .u8 a29)), (5, .sl 200000050 0 a27.length), (6, .val (.int .i64 a30)), (7, .val (.int .i64 a31))], [(200000050, .row false 1 (rowE eS a27))], 36⟩ = (loopO (spec_l1Cut_s7 a28 a29) ((a27, a30, a31))).bind (fun t => plug ⟨(tab fu).own, lev (tab fu) n, (tab fu).gl⟩ K (.exit 0) ⟨[(5, .sl 200000050 0 t.length)], [(200000050, .row false 1 (rowE eS t))], 36⟩) := by
  refine loop_run (C := ⟨(tab fu).own, lev (tab fu) n, (tab fu).gl⟩) (K := K) (c := c49_u7) (spec_l1Cut_s7 a28 a29) (fun s => ⟨[(0, .val (.str a28)), (1, .val (.int .u8 a29)), (5, .sl 200000050 0 s.1.length), (6, .val (.int .i64 s.2.1)), (7, .val (.int .i64 s.2.2))], [(200000050, .row false 1 (rowE eS s.1))], 36⟩) (fun t => plug ⟨(tab fu).own, lev (tab fu) n, (tab fu).gl⟩ K (.exit 0) ⟨[(5, .sl 200000050 0 t.length)], [(200000050, .row false 1 (rowE eS t))], 36⟩) (fun k s => ?_) ((a27, a30, a31))
  obtain ⟨a27, a30, a31⟩ := s
  unfold c49_u7
  simp +contextual -implicitDefEqProofs (maxSteps := 99999999) only [spec_l1Cut_s7, subI, go_sem] <;> rfl
@[go_sem] theorem spec_l1Cut_s7_ok_e {β : Type} (fu n : Nat) (K : List (Kont β)) (a28 : List UInt8) (a29 a30 a31 : Int) : run ⟨(tab fu).own, lev (tab fu) n, (tab fu).gl⟩ K (.loop c49_u7) ⟨[(0, .val (.str a28)), (1, .val (.int .u8 a29)), (5, .sl 200000050 0 0), (6, .val (.int .i64 a30)), (7, .val (.int .i64 a31))], [(200000050, .row false 1 [])], 36⟩ = (loopO (spec_l1Cut_s7 a28 a29) (([], a30, a31))).bind (fun t => plug ⟨(tab fu).own, lev (tab fu) n, (tab fu).gl⟩ K (.exit 0) ⟨[(5, .sl 200000050 0 t.length)], [(200000050, .row false 1 (rowE eS t))], 36⟩) := spec_l1Cut_s7_ok fu n K [] a28 a29 a30 a31
@[go_sem] theorem spec_l1Cut_ok (fu n : Nat) (q0_0 : List UInt8) (q1_0 : Int) : lev (tab fu) (n + 1) 49 [.str q0_0, .int .u8 q1_0] = (spec_l1Cut q0_0 q1_0).map fun r => (.ow 1 (rowE eS r), [.gone, .gone]) := by
  rw [lev_st (vc := c49) (nt := 36) (rs := [(4, none)]) ((tab_ext _ _ rfl).trans rfl) rfl (Nat.le_of_ble_eq_true rfl)]
  unfold c49
  simp +contextual -implicitDefEqProofs (maxSteps := 99999999) only [spec_l1Cut, subI, go_sem] <;> rfl
def spec_ReadNumber_u1 (fu : Nat) (a1 : List UInt8) : Option (Bool) :=
  if (decide ((a1.length : Int) > 0)) = true then (getI a1 0).bind fun x2 =>
    some (((x2.toNat : Int) == 45))
  else some false
def spec_ReadNumber_u2 (fu : Nat) (a4 : List UInt8) (a5 : Bool) : Int :=
  if a5 = true then 1
  else 0
def spec_ReadNumber_u3 (fu : Nat) (a7 : List UInt8) (a8 : Int) : Bool :=
  if (decide ((IntKind.i64.wrap ((a7.length : Int) - a8)) < 1)) = true then true
  else (decide ((IntKind.i64.wrap ((a7.length : Int) - a8)) > 7))
def spec_ReadNumber_u5 (fu : Nat) (a34 : List UInt8) (a35 a36 a37 : Int) : Option (Bool) :=
  (getI a34 a37).bind fun x38 =>
  if (decide ((x38.toNat : Int) < 48)) = true then some true
  else (getI a34 a37).bind fun x39 =>
    some ((decide ((x39.toNat : Int) > 57)))
def spec_ReadNumber_s6 (fu : Nat) (a30 : List UInt8) (a31 : Int) : (Int × Int) → Option ((Int × Int) ⊕ (Int ⊕ Unit)) := fun ⟨a32, a33⟩ =>
  if (decide (a33 < (a30.length : Int))) = true then (spec_ReadNumber_u5 fu a30 a31 a32 a33).bind fun y40 =>
    if y40 = true then some ((.inr ((.inr (())))))
    else (getI a30 a33).bind fun x41 =>
      some ((.inl (((IntKind.i64.wrap ((IntKind.i64.wrap (a32 * 10)) + (IntKind.i64.wrap (IntKind.u8.wrap ((x41.toNat : Int) - 48))))), (IntKind.i64.wrap (a33 + 1))))))
  else some ((.inr ((.inl a32))))
def spec_ReadNumber_u7 (fu : Nat) (a43 : List UInt8) (a44 : Int) (a45 : Bool) : Int :=
  if a45 = true then (IntKind.i64.wrap (0 - a44))
  else a44
def spec_ReadNumber (fu : Nat) (p0 : List UInt8) : Option (SIntResult) :=
  (spec_ReadNumber_u1 fu p0).bind fun y3 =>
  let y6 := spec_ReadNumber_u2 fu p0 y3
  let y9 := spec_ReadNumber_u3 fu p0 y6
  if y9 = true then some ((SIntResult.mk 5 0))
  else (loopO (spec_ReadNumber_s6 fu p0 y6) ((0, y6))).bind fun t => (Sum.elim (fun y42 => let y46 := spec_ReadNumber_u7 fu p0 y42 ((y6 == 1))
      (spec_l1Digits fu y46).bind fun r47 =>
      if (r47 == p0) = true then some ((SIntResult.mk 0 y46))
      else some ((SIntResult.mk 5 0)))
     (fun y48 => some ((SIntResult.mk 5 0)))) t
@[go_sem] theorem spec_ReadNumber_u1_ok {β : Type} (fu n : Nat) (K : List (Kont β)) (a1 : List UInt8) : run ⟨(tab fu).own, lev (tab fu) (n + 1), (tab fu).gl⟩ K c15_u1 ⟨[(0, .val (.str a1)), (2, .pt 200000020 0), (3, .pt 200000030 0), (4, .val (.int .i64 0))], [(200000020, .var false [.val (.int .i64 0), .val (.int .i64 0)]), (200000030, .var false [.val (.int .i64 5), .val (.int .i64 0)])], 66⟩ = (spec_ReadNumber_u1 fu a1).bind (fun t => plug ⟨(tab fu).own, lev (tab fu) (n + 1), (tab fu).gl⟩ K .normal ⟨[(0, .val (.str a1)), (2, .pt 200000020 0), (3, .pt 200000030 0), (4, .val (.int .i64 0)), (15, .val (.bool t))], [(200000020, .var false [.val (.int .i64 0), .val (.int .i64 0)]), (200000030, .var false [.val (.int .i64 5), .val (.int .i64 0)])], 66⟩) := by
  unfold c15_u1
  simp +contextual -implicitDefEqProofs (maxSteps := 99999999) only [spec_ReadNumber_u1, subI, go_sem] <;> rfl
@[go_sem] theorem spec_ReadNumber_u2_ok {β : Type} (fu n : Nat) (K : List (Kont β)) (a4 : List UInt8) (a5 : Bool) : run ⟨(tab fu).own, lev (tab fu) (n + 1), (tab fu).gl⟩ K c15_u2 ⟨[(0, .val (.str a4)), (2, .pt 200000020 0), (3, .pt 200000030 0), (4, .val (.int .i64 0)), (15, .val (.bool a5))], [(200000020, .var false [.val (.int .i64 0), .val (.int .i64 0)]), (200000030, .var false [.val (.int .i64 5), .val (.int .i64 0)])], 66⟩ = (some (spec_ReadNumber_u2 fu a4 a5)).bind (fun t => plug ⟨(tab fu).own, lev (tab fu) (n + 1), (tab fu).gl⟩ K .normal ⟨[(0, .val (.str a4)), (2, .pt 200000020 0), (3, .pt 200000030 0), (4, .val (.int .i64 t))], [(200000020, .var false [.val (.int .i64 0), .val (.int .i64 0)]), (200000030, .var false [.val (.int .i64 5), .val (.int .i64 0)])], 66⟩) := by
  unfold c15_u2
  simp +contextual -implicitDefEqProofs (maxSteps := 99999999) only [spec_ReadNumber_u2, subI, go_sem] <;> rfl
@[go_sem] theorem spec_ReadNumber_u3_ok {β : Type} (fu n : Nat) (K : List (Kont β)) (a7 : List UInt8) (a8 : Int) : run ⟨(tab fu).own, lev (tab fu) (n + 1), (tab fu).gl⟩ K c15_u3 ⟨[(0, .val (.str a7)), (2, .pt 200000020 0), (3, .pt 200000030 0), (4, .val (.int .i64 a8))], [(200000020, .var false [.val (.int .i64 0), .val (.int .i64 0)]), (200000030, .var false [.val (.int .i64 5), .val (.int .i64 0)])], 66⟩ = (some (spec_ReadNumber_u3 fu a7 a8)).bind (fun t => plug ⟨(tab fu).own, lev (tab fu) (n + 1), (tab fu).gl⟩ K .normal ⟨[(0, .val (.str a7)), (2, .pt 200000020 0), (3, .pt 200000030 0), (4, .val (.int .i64 a8)), (27, .val (.bool t))], [(200000020, .var false [.val (.int .i64 0), .val (.int .i64 0)]), (200000030, .var false [.val (.int .i64 5), .val (.int .i64 0)])], 66⟩) := by
  unfold c15_u3
  simp +contextual -implicitDefEqProofs (maxSteps := 99999999) only [spec_ReadNumber_u3, subI, go_sem] <;> rfl
@[go_sem] theorem spec_ReadNumber_u5_ok {β : Type} (fu n : Nat) (K : List (Kont β)) (a34 : List UInt8) (a35 a36 a37 : Int) : run ⟨(tab fu).own, lev (tab fu) (n + 1), (tab fu).gl⟩ K c15_u5 ⟨[(0, .val (.str a34)), (2, .pt 200000020 0), (3, .pt 200000030 0), (4, .val (.int .i64 a35)), (5, .val (.int .i64 a36)), (6, .val (.int .i64 a37))], [(200000020, .var false [.val (.int .i64 0), .val (.int .i64 0)]), (200000030, .var false [.val (.int .i64 5), .val (.int .i64 0)])], 66⟩ = (spec_ReadNumber_u5 fu a34 a35 a36 a37).bind (fun t => plug ⟨(tab fu).own, lev (tab fu) (n + 1), (tab fu).gl⟩ K .normal ⟨[(0, .val (.str a34)), (2, .pt 200000020 0), (3, .pt 200000030 0), (4, .val (.int .i64 a35)), (5, .val (.int .i64 a36)), (6, .val (.int .i64 a37)), (45, .val (.bool t))], [(200000020, .var false [.val (.int .i64 0), .val (.int .i64 0)]), (200000030, .var false [.val (.int .i64 5), .val (.int .i64 0)])], 66⟩) := by
  unfold c15_u5
  simp +contextual -implicitDefEqProofs (maxSteps := 99999999) only [spec_ReadNumber_u5, subI, go_sem] <;> rfl
@[go_sem] theorem spec_ReadNumber_s6_ok {β : Type} (fu n : Nat) (K : List (Kont β)) (a30 : List UInt8) (a31 a32 a33 : Int) : run ⟨(tab fu).own, lev (tab fu) (n + 1), (tab fu).gl⟩ K (.loop c15_u6) ⟨[(0, .val (.str a30)), (2, .pt 200000020 0), (3, .pt 200000030 0), (4, .val (.int .i64 a31)), (5, .val (.int .i64 a32)), (6, .val (.int .i64 a33))], [(200000020, .var false [.val (.int .i64 0), .val (.int .i64 0)]), (200000030, .var false [.val (.int .i64 5), .val (.int .i64 0)])], 66⟩ = (loopO (spec_ReadNumber_s6 fu a30 a31) ((a32, a33))).bind (fun t => (Sum.elim (fun t => plug ⟨(tab fu).own, lev (tab fu) (n + 1), (tab fu).gl⟩ K (.exit 0) ⟨[(0, .val (.str a30)), (2, .pt 200000020 0), (3, .pt 200000030 0), (4, .val (.int .i64 a31)), (5, .val (.int .i64 t))], [(200000020, .var false [.val (.int .i64 0), .val (.int .i64 0)]), (200000030, .var false [.val (.int .i64 5), .val (.int .i64 0)])], 66⟩) (fun t => plug ⟨(tab fu).own, lev (tab fu) (n + 1), (tab fu).gl⟩ K .ret ⟨[(2, .pt 200000020 0)], [(200000020, .var false [.val (.int .i64 5), .val (.int .i64 0)])], 66⟩)) t) := by
  refine loop_run (C := ⟨(tab fu).own, lev (tab fu) (n + 1), (tab fu).gl⟩) (K := K) (c := c15_u6) (spec_ReadNumber_s6 fu a30 a31) (fun s => ⟨[(0, .val (.str a30)), (2, .pt 200000020 0), (3, .pt 200000030 0), (4, .val (.int .i64 a31)), (5, .val (.int .i64 s.1)), (6, .val (.int .i64 s.2))], [(200000020, .var false [.val (.int .i64 0), .val (.int .i64 0)]), (200000030, .var false [.val (.int .i64 5), .val (.int .i64 0)])], 66⟩) (fun t => (Sum.elim (fun t => plug ⟨(tab fu).own, lev (tab fu) (n + 1), (tab fu).gl⟩ K (.exit 0) ⟨[(0, .val (.str a30)), (2, .pt 200000020 0), (3, .pt 200000030 0), (4, .val (.int .i64 a31)), (5, .val (.int .i64 t))], [(200000020, .var false [.val (.int .i64 0), .val (.int .i64 0)]), (200000030, .var false [.val (.int .i64 5), .val (.int .i64 0)])], 66⟩) (fun t => plug ⟨(tab fu).own, lev (tab fu) (n + 1), (tab fu).gl⟩ K .ret ⟨[(2, .pt 200000020 0)], [(200000020, .var false [.val (.int .i64 5), .val (.int .i64 0)])], 66⟩)) t) (fun k s => ?_) ((a32, a33))
  obtain ⟨a32, a33⟩ := s
  unfold c15_u6
  simp +contextual -implicitDefEqProofs (maxSteps := 99999999) only [spec_ReadNumber_s6, subI, go_sem] <;> rfl
@[go_sem] theorem spec_ReadNumber_u7_ok {β : Type} (fu n : Nat) (K : List (Kont β)) (a43 : List UInt8) (a44 : Int) (a45 : Bool) : run ⟨(tab fu).own, lev (tab fu) (n + 1), (tab fu).gl⟩ K c15_u7 ⟨[(0, .val (.str a43)), (2, .pt 200000020 0), (3, .pt 200000030 0), (5, .val (.int .i64 a44)), (56, .val (.bool a45))], [(200000020, .var false [.val (.int .i64 0), .val (.int .i64 0)]), (200000030, .var false [.val (.int .i64 5), .val (.int .i64 0)])], 66⟩ = (some (spec_ReadNumber_u7 fu a43 a44 a45)).bind (fun t => plug ⟨(tab fu).own, lev (tab fu) (n + 1), (tab fu).gl⟩ K .normal ⟨[(0, .val (.str a43)), (2, .pt 200000020 0), (3, .pt 200000030 0), (5, .val (.int .i64 t))], [(200000020, .var false [.val (.int .i64 0), .val (.int .i64 0)]), (200000030, .var false [.val (.int .i64 5), .val (.int .i64 0)])], 66⟩) := by
  unfold c15_u7
  simp +contextual -implicitDefEqProofs (maxSteps := 99999999) only [spec_ReadNumber_u7, subI, go_sem] <;> rfl
@[go_sem] theorem spec_ReadNumber_ok (fu n : Nat) (q0_0 : List UInt8) : lev (tab fu) (n + 2) 15 [.str q0_0] = (spec_ReadNumber fu q0_0).map fun r => (.agg [.int .i64 r.Code, .int .i64 r.Value], [.gone]) := by
  rw [lev_st (vc := c15) (nt := 66) (rs := [(2, some (some 2))]) ((tab_ext _ _ rfl).trans rfl) rfl (Nat.le_of_ble_eq_true rfl)]
  unfold c15
  simp +contextual -implicitDefEqProofs (maxSteps := 99999999) only [spec_ReadNumber, subI, go_sem] <;> rfl
def spec_l22Read_s1 (fu : Nat) (a15 : List (List UInt8)) : ((List Int) × Int) → Option (((List Int) × Int) ⊕ (((List Int)) ⊕ Unit)) := fun ⟨a16, a17⟩ =>
  if (decide (a17 < (a15.length : Int))) = true then (getI a15 a17).bind fun _ =>
    (a15[a17.toNat]?).bind fun x18 =>
    (spec_ReadNumber fu x18).bind fun r19 =>
    if (r19.Code != 0) = true then some ((.inr ((.inr (())))))
    else if (okApp 8 ((a16 ++ ([r19.Value]))).length) = true then some ((.inl (((a16 ++ ([r19.Value])), (IntKind.i64.wrap (a17 + 1))))))
      else none
  else some ((.inr ((.inl a16))))
def spec_l22Read_u2 (fu : Nat) (a23 : List (List UInt8)) (a24 : List Int) : Option (Bool) :=
  (getI a23 0).bind fun _ =>
  (a23[(0 : Int).toNat]?).bind fun x25 =>
  if (x25 == [99, 111, 109, 101, 115]) = true then some (((a24.length : Int) == 1))
  else some false
def spec_l22Read_u3 (fu : Nat) (a31 : List (List UInt8)) (a32 : List Int) : Option (Bool) :=
  (getI a31 0).bind fun _ =>
  (a31[(0 : Int).toNat]?).bind fun x33 =>
  if (x33 == [116, 119, 105, 99, 101]) = true then some (((a32.length : Int) == 1))
  else some false
def spec_l22Read_u4 (fu : Nat) (a36 : List (List UInt8)) (a37 : List Int) : Option (Bool) :=
  (getI a36 0).bind fun _ =>
  (a36[(0 : Int).toNat]?).bind fun x38 =>
  if (x38 == [116, 117, 114, 110, 101, 100]) = true then some (((a37.length : Int) == 3))
  else some false
def spec_l22Read_u5 (fu : Nat) (a43 : List (List UInt8)) (a44 : List Int) : Option (Bool) :=
  (getI a43 0).bind fun _ =>
  (a43[(0 : Int).toNat]?).bind fun x45 =>
  if (x45 == [108, 111, 115, 116]) = true then some ((decide ((a44.length : Int) > 0)))
  else some true
def spec_l22Read_u6 (fu : Nat) (a27 : List (List UInt8)) (a28 : List Int) (a29 : Bool) : Option ((Int × Int × Int × Int) ⊕ Unit) :=
  if a29 = true then (getI a28 0).bind fun _ =>
    (a28[(0 : Int).toNat]?).bind fun x30 =>
    some ((.inl ((1, x30, 0, 0))))
  else (spec_l22Read_u3 fu a27 a28).bind fun y34 =>
    if y34 = true then (getI a28 0).bind fun _ =>
      (a28[(0 : Int).toNat]?).bind fun x35 =>
      some ((.inl ((2, x35, 0, 0))))
    else (spec_l22Read_u4 fu a27 a28).bind fun y39 =>
      if y39 = true then (getI a28 0).bind fun _ =>
        (a28[(0 : Int).toNat]?).bind fun x40 =>
        (getI a28 1).bind fun _ =>
        (a28[(1 : Int).toNat]?).bind fun x41 =>
        (getI a28 2).bind fun _ =>
        (a28[(2 : Int).toNat]?).bind fun x42 =>
        some ((.inl ((3, x40, x41, x42))))
      else (spec_l22Read_u5 fu a27 a28).bind fun y46 =>
        if y46 = true then some ((.inr (())))
        else some ((.inl ((0, 0, 0, 0))))
def spec_l22Read_u7 (fu : Nat) (a21 : List (List UInt8)) (a22 : List Int) : Option ((Int × Int × Int × Int) ⊕ Unit) :=
  (spec_l22Read_u2 fu a21 a22).bind fun y26 =>
  (spec_l22Read_u6 fu a21 a22 y26).bind fun t => (Sum.elim (fun y47 => some ((.inl ((y47.1, y47.2.1, y47.2.2.1, y47.2.2.2)))))
   (fun y48 => some ((.inr (()))))) t
def spec_l22Read (fu : Nat) (p0 : List UInt8) : Option (SFate × Bool) :=
  if (decide ((p0.length : Int) > 30)) = true then some (((SFate.mk 0 0 0 0), false))
  else (spec_l1Cut p0 58).bind fun r1 =>
    (loopO (spec_l22Read_s1 fu r1) (([], 1))).bind fun t => (Sum.elim (fun y20 => (spec_l22Read_u7 fu r1 y20).bind fun t => (Sum.elim (fun y49 => some (((SFate.mk y49.1 y49.2.1 y49.2.2.1 y49.2.2.2), ((spec_FateFault ((SFate.mk y49.1 y49.2.1 y49.2.2.1 y49.2.2.2))) == 0))))
       (fun y50 => some (((SFate.mk 0 0 0 0), false)))) t)
     (fun y51 => some (((SFate.mk 0 0 0 0), false)))) t
@[go_sem] theorem spec_l22Read_s1_ok {β : Type} (fu n : Nat) (K : List (Kont β)) (a15 : List (List UInt8)) (a16 : List Int) (a17 : Int) : run ⟨(tab fu).own, lev (tab fu) (n + 2), (tab fu).gl⟩ K (.loop c35_u1) ⟨[(2, .pt 200000020 0), (4, .pt 200000040 0), (5, .sl 200000050 0 a15.length), (6, .sl 200000060 0 a16.length), (7, .val (.int .i64 a17))], [(200000020, .var false [.val (.int .i64 0), .val (.int .i64 0), .val (.int .i64 0), .val (.int .i64 0)]), (200000040, .var false [.val (.int .i64 0), .val (.int .i64 0), .val (.int .i64 0), .val (.int .i64 0)]), (200000050, .row false 1 (rowE eS a15)), (200000060, .row false 1 (rowE (eI .i64) a16))], 100⟩ = (loopO (spec_l22Read_s1 fu a15) ((a16, a17))).bind (fun t => (Sum.elim (fun t => plug ⟨(tab fu).own, lev (tab fu) (n + 2), (tab fu).gl⟩ K (.exit 0) ⟨[(2, .pt 200000020 0), (4, .pt 200000040 0), (5, .sl 200000050 0 a15.length), (6, .sl 200000060 0 t.length)], [(200000020, .var false [.val (.int .i64 0), .val (.int .i64 0), .val (.int .i64 0), .val (.int .i64 0)]), (200000040, .var false [.val (.int .i64 0), .val (.int .i64 0), .val (.int .i64 0), .val (.int .i64 0)]), (200000050, .row false 1 (rowE eS a15)), (200000060, .row false 1 (rowE (eI .i64) t))], 100⟩) (fun t => plug ⟨(tab fu).own, lev (tab fu) (n + 2), (tab fu).gl⟩ K .ret ⟨[(2, .pt 200000020 0), (3, .val (.bool false))], [(200000020, .var false [.val (.int .i64 0), .val (.int .i64 0), .val (.int .i64 0), .val (.int .i64 0)])], 100⟩)) t) := by
  refine loop_run (C := ⟨(tab fu).own, lev (tab fu) (n + 2), (tab fu).gl⟩) (K := K) (c := c35_u1) (spec_l22Read_s1 fu a15) (fun s => ⟨[(2, .pt 200000020 0), (4, .pt 200000040 0), (5, .sl 200000050 0 a15.length), (6, .sl 200000060 0 s.1.length), (7, .val (.int .i64 s.2))], [(200000020, .var false [.val (.int .i64 0), .val (.int .i64 0), .val (.int .i64 0), .val (.int .i64 0)]), (200000040, .var false [.val (.int .i64 0), .val (.int .i64 0), .val (.int .i64 0), .val (.int .i64 0)]), (200000050, .row false 1 (rowE eS a15)), (200000060, .row false 1 (rowE (eI .i64) s.1))], 100⟩) (fun t => (Sum.elim (fun t => plug ⟨(tab fu).own, lev (tab fu) (n + 2), (tab fu).gl⟩ K (.exit 0) ⟨[(2, .pt 200000020 0), (4, .pt 200000040 0), (5, .sl 200000050 0 a15.length), (6, .sl 200000060 0 t.length)], [(200000020, .var false [.val (.int .i64 0), .val (.int .i64 0), .val (.int .i64 0), .val (.int .i64 0)]), (200000040, .var false [.val (.int .i64 0), .val (.int .i64 0), .val (.int .i64 0), .val (.int .i64 0)]), (200000050, .row false 1 (rowE eS a15)), (200000060, .row false 1 (rowE (eI .i64) t))], 100⟩) (fun t => plug ⟨(tab fu).own, lev (tab fu) (n + 2), (tab fu).gl⟩ K .ret ⟨[(2, .pt 200000020 0), (3, .val (.bool false))], [(200000020, .var false [.val (.int .i64 0), .val (.int .i64 0), .val (.int .i64 0), .val (.int .i64 0)])], 100⟩)) t) (fun k s => ?_) ((a16, a17))
  obtain ⟨a16, a17⟩ := s
  unfold c35_u1
  simp +contextual -implicitDefEqProofs (maxSteps := 99999999) only [spec_l22Read_s1, subI, go_sem] <;> rfl
@[go_sem] theorem spec_l22Read_s1_ok_e {β : Type} (fu n : Nat) (K : List (Kont β)) (a15 : List (List UInt8)) (a17 : Int) : run ⟨(tab fu).own, lev (tab fu) (n + 2), (tab fu).gl⟩ K (.loop c35_u1) ⟨[(2, .pt 200000020 0), (4, .pt 200000040 0), (5, .sl 200000050 0 a15.length), (6, .sl 200000060 0 0), (7, .val (.int .i64 a17))], [(200000020, .var false [.val (.int .i64 0), .val (.int .i64 0), .val (.int .i64 0), .val (.int .i64 0)]), (200000040, .var false [.val (.int .i64 0), .val (.int .i64 0), .val (.int .i64 0), .val (.int .i64 0)]), (200000050, .row false 1 (rowE eS a15)), (200000060, .row false 1 [])], 100⟩ = (loopO (spec_l22Read_s1 fu a15) (([], a17))).bind (fun t => (Sum.elim (fun t => plug ⟨(tab fu).own, lev (tab fu) (n + 2), (tab fu).gl⟩ K (.exit 0) ⟨[(2, .pt 200000020 0), (4, .pt 200000040 0), (5, .sl 200000050 0 a15.length), (6, .sl 200000060 0 t.length)], [(200000020, .var false [.val (.int .i64 0), .val (.int .i64 0), .val (.int .i64 0), .val (.int .i64 0)]), (200000040, .var false [.val (.int .i64 0), .val (.int .i64 0), .val (.int .i64 0), .val (.int .i64 0)]), (200000050, .row false 1 (rowE eS a15)), (200000060, .row false 1 (rowE (eI .i64) t))], 100⟩) (fun t => plug ⟨(tab fu).own, lev (tab fu) (n + 2), (tab fu).gl⟩ K .ret ⟨[(2, .pt 200000020 0), (3, .val (.bool false))], [(200000020, .var false [.val (.int .i64 0), .val (.int .i64 0), .val (.int .i64 0), .val (.int .i64 0)])], 100⟩)) t) := spec_l22Read_s1_ok fu n K a15 [] a17
@[go_sem] theorem spec_l22Read_u2_ok {β : Type} (fu n : Nat) (K : List (Kont β)) (a23 : List (List UInt8)) (a24 : List Int) : run ⟨(tab fu).own, lev (tab fu) (n + 2), (tab fu).gl⟩ K c35_u2 ⟨[(2, .pt 200000020 0), (4, .pt 200000040 0), (5, .sl 200000050 0 a23.length), (6, .sl 200000060 0 a24.length)], [(200000020, .var false [.val (.int .i64 0), .val (.int .i64 0), .val (.int .i64 0), .val (.int .i64 0)]), (200000040, .var false [.val (.int .i64 0), .val (.int .i64 0), .val (.int .i64 0), .val (.int .i64 0)]), (200000050, .row false 1 (rowE eS a23)), (200000060, .row false 1 (rowE (eI .i64) a24))], 100⟩ = (spec_l22Read_u2 fu a23 a24).bind (fun t => plug ⟨(tab fu).own, lev (tab fu) (n + 2), (tab fu).gl⟩ K .normal ⟨[(2, .pt 200000020 0), (4, .pt 200000040 0), (5, .sl 200000050 0 a23.length), (6, .sl 200000060 0 a24.length), (37, .val (.bool t))], [(200000020, .var false [.val (.int .i64 0), .val (.int .i64 0), .val (.int .i64 0), .val (.int .i64 0)]), (200000040, .var false [.val (.int .i64 0), .val (.int .i64 0), .val (.int .i64 0), .val (.int .i64 0)]), (200000050, .row false 1 (rowE eS a23)), (200000060, .row false 1 (rowE (eI .i64) a24))], 100⟩) := by
  unfold c35_u2
  simp +contextual -implicitDefEqProofs (maxSteps := 99999999) only [spec_l22Read_u2, subI, go_sem] <;> rfl
@[go_sem] theorem spec_l22Read_u3_ok {β : Type} (fu n : Nat) (K : List (Kont β)) (a31 : List (List UInt8)) (a32 : List Int) : run ⟨(tab fu).own, lev (tab fu) (n + 2), (tab fu).gl⟩ K c35_u3 ⟨[(2, .pt 200000020 0), (4, .pt 200000040 0), (5, .sl 200000050 0 a31.length), (6, .sl 200000060 0 a32.length)], [(200000020, .var false [.val (.int .i64 0), .val (.int .i64 0), .val (.int .i64 0), .val (.int .i64 0)]), (200000040, .var false [.val (.int .i64 0), .val (.int .i64 0), .val (.int .i64 0), .val (.int .i64 0)]), (200000050, .row false 1 (rowE eS a31)), (200000060, .row false 1 (rowE (eI .i64) a32))], 100⟩ = (spec_l22Read_u3 fu a31 a32).bind (fun t => plug ⟨(tab fu).own, lev (tab fu) (n + 2), (tab fu).gl⟩ K .normal ⟨[(2, .pt 200000020 0), (4, .pt 200000040 0), (5, .sl 200000050 0 a31.length), (6, .sl 200000060 0 a32.length), (51, .val (.bool t))], [(200000020, .var false [.val (.int .i64 0), .val (.int .i64 0), .val (.int .i64 0), .val (.int .i64 0)]), (200000040, .var false [.val (.int .i64 0), .val (.int .i64 0), .val (.int .i64 0), .val (.int .i64 0)]), (200000050, .row false 1 (rowE eS a31)), (200000060, .row false 1 (rowE (eI .i64) a32))], 100⟩) := by
  unfold c35_u3
  simp +contextual -implicitDefEqProofs (maxSteps := 99999999) only [spec_l22Read_u3, subI, go_sem] <;> rfl
@[go_sem] theorem spec_l22Read_u4_ok {β : Type} (fu n : Nat) (K : List (Kont β)) (a36 : List (List UInt8)) (a37 : List Int) : run ⟨(tab fu).own, lev (tab fu) (n + 2), (tab fu).gl⟩ K c35_u4 ⟨[(2, .pt 200000020 0), (4, .pt 200000040 0), (5, .sl 200000050 0 a36.length), (6, .sl 200000060 0 a37.length)], [(200000020, .var false [.val (.int .i64 0), .val (.int .i64 0), .val (.int .i64 0), .val (.int .i64 0)]), (200000040, .var false [.val (.int .i64 0), .val (.int .i64 0), .val (.int .i64 0), .val (.int .i64 0)]), (200000050, .row false 1 (rowE eS a36)), (200000060, .row false 1 (rowE (eI .i64) a37))], 100⟩ = (spec_l22Read_u4 fu a36 a37).bind (fun t => plug ⟨(tab fu).own, lev (tab fu) (n + 2), (tab fu).gl⟩ K .normal ⟨[(2, .pt 200000020 0), (4, .pt 200000040 0), (5, .sl 200000050 0 a36.length), (6, .sl 200000060 0 a37.length), (65, .val (.bool t))], [(200000020, .var false [.val (.int .i64 0), .val (.int .i64 0), .val (.int .i64 0), .val (.int .i64 0)]), (200000040, .var false [.val (.int .i64 0), .val (.int .i64 0), .val (.int .i64 0), .val (.int .i64 0)]), (200000050, .row false 1 (rowE eS a36)), (200000060, .row false 1 (rowE (eI .i64) a37))], 100⟩) := by
  unfold c35_u4
  simp +contextual -implicitDefEqProofs (maxSteps := 99999999) only [spec_l22Read_u4, subI, go_sem] <;> rfl
@[go_sem] theorem spec_l22Read_u5_ok {β : Type} (fu n : Nat) (K : List (Kont β)) (a43 : List (List UInt8)) (a44 : List Int) : run ⟨(tab fu).own, lev (tab fu) (n + 2), (tab fu).gl⟩ K c35_u5 ⟨[(2, .pt 200000020 0), (4, .pt 200000040 0), (5, .sl 200000050 0 a43.length), (6, .sl 200000060 0 a44.length)], [(200000020, .var false [.val (.int .i64 0), .val (.int .i64 0), .val (.int .i64 0), .val (.int .i64 0)]), (200000040, .var false [.val (.int .i64 0), .val (.int .i64 0), .val (.int .i64 0), .val (.int .i64 0)]), (200000050, .row false 1 (rowE eS a43)), (200000060, .row false 1 (rowE (eI .i64) a44))], 100⟩ = (spec_l22Read_u5 fu a43 a44).bind (fun t => plug ⟨(tab fu).own, lev (tab fu) (n + 2), (tab fu).gl⟩ K .normal ⟨[(2, .pt 200000020 0), (4, .pt 200000040 0), (85, .val (.bool t))], [(200000020, .var false [.val (.int .i64 0), .val (.int .i64 0), .val (.int .i64 0), .val (.int .i64 0)]), (200000040, .var false [.val (.int .i64 0), .val (.int .i64 0), .val (.int .i64 0), .val (.int .i64 0)])], 100⟩) := by
  unfold c35_u5
  simp +contextual -implicitDefEqProofs (maxSteps := 99999999) only [spec_l22Read_u5, subI, go_sem] <;> rfl
@[go_sem] theorem spec_l22Read_u6_ok {β : Type} (fu n : Nat) (K : List (Kont β)) (a27 : List (List UInt8)) (a28 : List Int) (a29 : Bool) : run ⟨(tab fu).own, lev (tab fu) (n + 2), (tab fu).gl⟩ K c35_u6 ⟨[(2, .pt 200000020 0), (4, .pt 200000040 0), (5, .sl 200000050 0 a27.length), (6, .sl 200000060 0 a28.length), (37, .val (.bool a29))], [(200000020, .var false [.val (.int .i64 0), .val (.int .i64 0), .val (.int .i64 0), .val (.int .i64 0)]), (200000040, .var false [.val (.int .i64 0), .val (.int .i64 0), .val (.int .i64 0), .val (.int .i64 0)]), (200000050, .row false 1 (rowE eS a27)), (200000060, .row false 1 (rowE (eI .i64) a28))], 100⟩ = (spec_l22Read_u6 fu a27 a28 a29).bind (fun t => (Sum.elim (fun t => plug ⟨(tab fu).own, lev (tab fu) (n + 2), (tab fu).gl⟩ K .normal ⟨[(2, .pt 200000020 0), (4, .pt 200000040 0)], [(200000020, .var false [.val (.int .i64 0), .val (.int .i64 0), .val (.int .i64 0), .val (.int .i64 0)]), (200000040, .var false [.val (.int .i64 t.1), .val (.int .i64 t.2.1), .val (.int .i64 t.2.2.1), .val (.int .i64 t.2.2.2)])], 100⟩) (fun t => plug ⟨(tab fu).own, lev (tab fu) (n + 2), (tab fu).gl⟩ K .ret ⟨[(2, .pt 200000020 0), (3, .val (.bool false))], [(200000020, .var false [.val (.int .i64 0), .val (.int .i64 0), .val (.int .i64 0), .val (.int .i64 0)])], 100⟩)) t) := by
  unfold c35_u6
  simp +contextual -implicitDefEqProofs (maxSteps := 99999999) only [spec_l22Read_u6, subI, go_sem] <;> rfl
@[go_sem] theorem spec_l22Read_u7_ok {β : Type} (fu n : Nat) (K : List (Kont β)) (a21 : List (List UInt8)) (a22 : List Int) : run ⟨(tab fu).own, lev (tab fu) (n + 2), (tab fu).gl⟩ K c35_u7 ⟨[(2, .pt 200000020 0), (4, .pt 200000040 0), (5, .sl 200000050 0 a21.length), (6, .sl 200000060 0 a22.length)], [(200000020, .var false [.val (.int .i64 0), .val (.int .i64 0), .val (.int .i64 0), .val (.int .i64 0)]), (200000040, .var false [.val (.int .i64 0), .val (.int .i64 0), .val (.int .i64 0), .val (.int .i64 0)]), (200000050, .row false 1 (rowE eS a21)), (200000060, .row false 1 (rowE (eI .i64) a22))], 100⟩ = (spec_l22Read_u7 fu a21 a22).bind (fun t => (Sum.elim (fun t => plug ⟨(tab fu).own, lev (tab fu) (n + 2), (tab fu).gl⟩ K .normal ⟨[(2, .pt 200000020 0), (4, .pt 200000040 0)], [(200000020, .var false [.val (.int .i64 0), .val (.int .i64 0), .val (.int .i64 0), .val (.int .i64 0)]), (200000040, .var false [.val (.int .i64 t.1), .val (.int .i64 t.2.1), .val (.int .i64 t.2.2.1), .val (.int .i64 t.2.2.2)])], 100⟩) (fun t => plug ⟨(tab fu).own, lev (tab fu) (n + 2), (tab fu).gl⟩ K .ret ⟨[(2, .pt 200000020 0), (3, .val (.bool false))], [(200000020, .var false [.val (.int .i64 0), .val (.int .i64 0), .val (.int .i64 0), .val (.int .i64 0)])], 100⟩)) t) := by
  unfold c35_u7
  simp +contextual -implicitDefEqProofs (maxSteps := 99999999) only [spec_l22Read_u7, subI, go_sem] <;> rfl
@[go_sem] theorem spec_l22Read_ok (fu n : Nat) (q0_0 : List UInt8) : lev (tab fu) (n + 3) 35 [.str q0_0] = (spec_l22Read fu q0_0).map fun r => (.tup [.agg [.int .i64 r.1.Kind, .int .i64 r.1.Delay, .int .i64 r.1.At, .int .i64 r.1.Bits], .bool r.2], [.gone]) := by
  rw [lev_st (vc := c35) (nt := 100) (rs := [(2, some (some 4)), (3, none)]) ((tab_ext _ _ rfl).trans rfl) rfl (Nat.le_of_ble_eq_true rfl)]
  unfold c35
  simp +contextual -implicitDefEqProofs (maxSteps := 99999999) only [spec_l22Read, subI, go_sem] <;> rfl
def spec_ReadFate (fu : Nat) (p0 : List UInt8) : Option (SFateResult) :=
  (spec_l22Read fu p0).bind fun r1 =>
  if r1.2 = true then some ((SFateResult.mk 0 r1.1))
  else some ((SFateResult.mk 5 ((SFate.mk 0 0 0 0))))
@[go_sem] theorem spec_ReadFate_ok (fu n : Nat) (q0_0 : List UInt8) : lev (tab fu) (n + 4) 14 [.str q0_0] = (spec_ReadFate fu q0_0).map fun r => (.agg [.int .i64 r.Code, .int .i64 r.Fate.Kind, .int .i64 r.Fate.Delay, .int .i64 r.Fate.At, .int .i64 r.Fate.Bits], [.gone]) := by
  rw [lev_st (vc := c14) (nt := 15) (rs := [(2, some (some 5))]) ((tab_ext _ _ rfl).trans rfl) rfl (Nat.le_of_ble_eq_true rfl)]
  unfold c14
  simp +contextual -implicitDefEqProofs (maxSteps := 99999999) only [spec_ReadFate, subI, go_sem] <;> rfl
def spec_l22Words_u3 (a23 : List (List UInt8)) (a24 : List (List UInt8)) (a25 : Int) (a26 : Bool) : Option ((List (List UInt8))) :=
  if a26 = true then (getI a24 a25).bind fun _ =>
    (a24[a25.toNat]?).bind fun x27 =>
    if (okApp 16 ((a23 ++ ([x27]))).length) = true then some ((a23 ++ ([x27])))
    else none
  else some a23
def spec_l22Words_u4 (a19 : List (List UInt8)) (a20 : List (List UInt8)) (a21 : Int) : Option ((List (List UInt8))) :=
  (getI a20 a21).bind fun _ =>
  (a20[a21.toNat]?).bind fun x22 =>
  (spec_l22Words_u3 a19 a20 a21 ((decide ((x22.length : Int) > 0)))).bind fun y28 =>
  some y28
def spec_l22Words_s5 (a17 : List (List UInt8)) : ((List (List UInt8)) × Int) → Option (((List (List UInt8)) × Int) ⊕ ((List (List UInt8)))) := fun ⟨a16, a18⟩ =>
  if (decide (a18 < (a17.length : Int))) = true then (spec_l22Words_u4 a16 a17 a18).bind fun y29 =>
    some ((.inl ((y29, (IntKind.i64.wrap (a18 + 1))))))
  else some ((.inr a16))
def spec_l22Words (p0 : List UInt8) : Option ((List (List UInt8))) :=
  (spec_l1Cut p0 32).bind fun r1 =>
  (loopO (spec_l22Words_s5 r1) (([], 0))).bind fun y30 =>
  some y30
@[go_sem] theorem spec_l22Words_u3_ok {β : Type} (fu n : Nat) (K : List (Kont β)) (a23 : List (List UInt8)) (a24 : List (List UInt8)) (a25 : Int) (a26 : Bool) : run ⟨(tab fu).own, lev (tab fu) (n + 1), (tab fu).gl⟩ K c36_u3 ⟨[(3, .sl 200000030 0 a23.length), (4, .sl 200000040 0 a24.length), (5, .val (.int .i64 a25)), (20, .val (.bool a26))], [(200000030, .row false 1 (rowE eS a23)), (200000040, .row false 1 (rowE eS a24))], 29⟩ = (spec_l22Words_u3 a23 a24 a25 a26).bind (fun t => plug ⟨(tab fu).own, lev (tab fu) (n + 1), (tab fu).gl⟩ K .normal ⟨[(3, .sl 200000030 0 t.length), (4, .sl 200000040 0 a24.length), (5, .val (.int .i64 a25))], [(200000030, .row false 1 (rowE eS t)), (200000040, .row false 1 (rowE eS a24))], 29⟩) := by
  unfold c36_u3
  simp +contextual -implicitDefEqProofs (maxSteps := 99999999) only [spec_l22Words_u3, subI, go_sem] <;> rfl
@[go_sem] theorem spec_l22Words_u4_ok {β : Type} (fu n : Nat) (K : List (Kont β)) (a19 : List (List UInt8)) (a20 : List (List UInt8)) (a21 : Int) : run ⟨(tab fu).own, lev (tab fu) (n + 1), (tab fu).gl⟩ K c36_u4 ⟨[(3, .sl 200000030 0 a19.length), (4, .sl 200000040 0 a20.length), (5, .val (.int .i64 a21))], [(200000030, .row false 1 (rowE eS a19)), (200000040, .row false 1 (rowE eS a20))], 29⟩ = (spec_l22Words_u4 a19 a20 a21).bind (fun t => plug ⟨(tab fu).own, lev (tab fu) (n + 1), (tab fu).gl⟩ K .normal ⟨[(3, .sl 200000030 0 t.length), (4, .sl 200000040 0 a20.length), (5, .val (.int .i64 a21))], [(200000030, .row false 1 (rowE eS t)), (200000040, .row false 1 (rowE eS a20))], 29⟩) := by
  unfold c36_u4
  simp +contextual -implicitDefEqProofs (maxSteps := 99999999) only [spec_l22Words_u4, subI, go_sem] <;> rfl
@[go_sem] theorem spec_l22Words_s5_ok {β : Type} (fu n : Nat) (K : List (Kont β)) (a16 : List (List UInt8)) (a17 : List (List UInt8)) (a18 : Int) : run ⟨(tab fu).own, lev (tab fu) (n + 1), (tab fu).gl⟩ K (.loop c36_u5) ⟨[(3, .sl 200000030 0 a16.length), (4, .sl 200000040 0 a17.length), (5, .val (.int .i64 a18))], [(200000030, .row false 1 (rowE eS a16)), (200000040, .row false 1 (rowE eS a17))], 29⟩ = (loopO (spec_l22Words_s5 a17) ((a16, a18))).bind (fun t => plug ⟨(tab fu).own, lev (tab fu) (n + 1), (tab fu).gl⟩ K (.exit 0) ⟨[(3, .sl 200000030 0 t.length)], [(200000030, .row false 1 (rowE eS t))], 29⟩) := by
  refine loop_run (C := ⟨(tab fu).own, lev (tab fu) (n + 1), (tab fu).gl⟩) (K := K) (c := c36_u5) (spec_l22Words_s5 a17) (fun s => ⟨[(3, .sl 200000030 0 s.1.length), (4, .sl 200000040 0 a17.length), (5, .val (.int .i64 s.2))], [(200000030, .row false 1 (rowE eS s.1)), (200000040, .row false 1 (rowE eS a17))], 29⟩) (fun t => plug ⟨(tab fu).own, lev (tab fu) (n + 1), (tab fu).gl⟩ K (.exit 0) ⟨[(3, .sl 200000030 0 t.length)], [(200000030, .row false 1 (rowE eS t))], 29⟩) (fun k s => ?_) ((a16, a18))
  obtain ⟨a16, a18⟩ := s
  unfold c36_u5
  simp +contextual -implicitDefEqProofs (maxSteps := 99999999) only [spec_l22Words_s5, subI, go_sem] <;> rfl
@[go_sem] theorem spec_l22Words_s5_ok_e {β : Type} (fu n : Nat) (K : List (Kont β)) (a17 : List (List UInt8)) (a18 : Int) : run ⟨(tab fu).own, lev (tab fu) (n + 1), (tab fu).gl⟩ K (.loop c36_u5) ⟨[(3, .sl 200000030 0 0), (4, .sl 200000040 0 a17.length), (5, .val (.int .i64 a18))], [(200000030, .row false 1 []), (200000040, .row false 1 (rowE eS a17))], 29⟩ = (loopO (spec_l22Words_s5 a17) (([], a18))).bind (fun t => plug ⟨(tab fu).own, lev (tab fu) (n + 1), (tab fu).gl⟩ K (.exit 0) ⟨[(3, .sl 200000030 0 t.length)], [(200000030, .row false 1 (rowE eS t))], 29⟩) := spec_l22Words_s5_ok fu n K [] a17 a18
@[go_sem] theorem spec_l22Words_ok (fu n : Nat) (q0_0 : List UInt8) : lev (tab fu) (n + 2) 36 [.str q0_0] = (spec_l22Words q0_0).map fun r => (.ow 1 (rowE eS r), [.gone]) := by
  rw [lev_st (vc := c36) (nt := 29) (rs := [(2, none)]) ((tab_ext _ _ rfl).trans rfl) rfl (Nat.le_of_ble_eq_true rfl)]
  unfold c36
  simp +contextual -implicitDefEqProofs (maxSteps := 99999999) only [spec_l22Words, subI, go_sem] <;> rfl
def spec_WordsOf (p0 : List UInt8) : Option (SWordsResult) :=
  if (decide ((p0.length : Int) > 2000)) = true then some ((SWordsResult.mk 2 ([])))
  else (spec_l22Words p0).bind fun r1 =>
    some ((SWordsResult.mk 0 r1))
@[go_sem] theorem spec_WordsOf_ok (fu n : Nat) (q0_0 : List UInt8) : lev (tab fu) (n + 3) 16 [.str q0_0] = (spec_WordsOf q0_0).map fun r => (.agg [.int .i64 r.Code, .ow 1 (rowE eS r.Words)], [.gone]) := by
  rw [lev_st (vc := c16) (nt := 10) (rs := [(2, some (some 2))]) ((tab_ext _ _ rfl).trans rfl) rfl (Nat.le_of_ble_eq_true rfl)]
  unfold c16
  simp +contextual -implicitDefEqProofs (maxSteps := 99999999) only [spec_WordsOf, subI, go_sem] <;> rfl
def laws_FnTellings_u1 (fu : Nat) (a9 a10 : Int) (a11 a12 a13 : Int) (a14 : List UInt8) (a15 a16 : Int) (a17 a18 : Int) (a19 a20 : Int) (a21 a22 : Int) (a23 : List (List UInt8)) (a24 a25 a26 : List UInt8) : Option (Bool) :=
  if (a13 != (spec_FateFault ((SFate.mk a9 a10 a11 a12)))) = true then some true
  else (spec_ReadFate fu a24).bind fun r27 =>
    if (a15 != r27.Code) = true then some true
    else (spec_ReadNumber fu a25).bind fun r28 =>
      if ((a20 == r28.Code) && (a21 == r28.Value)) = true then (spec_WordsOf a26).bind fun r29 =>
        if (a22 != r29.Code) = true then some true
        else (spec_WordsOf a26).bind fun r30 =>
          some (((a23.length : Int) != (r30.Words.length : Int)))
      else some true
def laws_FnTellings_u2 (fu : Nat) (a32 a33 : Int) (a34 a35 a36 : Int) (a37 : List UInt8) (a38 a39 : Int) (a40 a41 a42 : Int) (a43 : List UInt8) : Option (Bool) :=
  if (a38 == 0) = true then (impl_FateText ((SFate.mk a39 a40 a41 a42))).bind fun r44 =>
    some ((!(r44.Text == a43)))
  else some false
def laws_FnTellings_u3 (fu : Nat) (a46 a47 : Int) (a48 a49 a50 : Int) (a51 : List UInt8) : Option (Bool) :=
  if (a50 != 0) = true then some true
  else (impl_ReadFate a51).bind fun r52 =>
    some (((r52.Code == 0) && ((r52.Fate.Kind == a46) && ((r52.Fate.Delay == a47) && ((r52.Fate.At == a48) && (r52.Fate.Bits == a49))))))
def laws_FnTellings (fu : Nat) (p0 : List Int) : Option (Bool) :=
  if (laws_lwBig p0) = true then some true
  else (spec_DrawFateText p0).bind fun r1 =>
    (impl_FateText r1).bind fun r2 =>
    (spec_DrawReadFate fu p0).bind fun r3 =>
    (impl_ReadFate r3).bind fun r4 =>
    (spec_DrawReadNumber fu p0).bind fun r5 =>
    (impl_ReadNumber r5).bind fun r6 =>
    (spec_DrawWordsOf fu p0).bind fun r7 =>
    (impl_WordsOf r7).bind fun r8 =>
    (laws_FnTellings_u1 fu r1.Kind r1.Delay r1.At r1.Bits r2.Code r2.Text r4.Code r4.Fate.Kind r4.Fate.Delay r4.Fate.At r4.Fate.Bits r6.Code r6.Value r8.Code r8.Words r3 r5 r7).bind fun y31 =>
    if y31 = true then some false
    else (laws_FnTellings_u2 fu r1.Kind r1.Delay r1.At r1.Bits r2.Code r2.Text r4.Code r4.Fate.Kind r4.Fate.Delay r4.Fate.At r4.Fate.Bits r3).bind fun y45 =>
      if y45 = true then some false
      else (laws_FnTellings_u3 fu r1.Kind r1.Delay r1.At r1.Bits r2.Code r2.Text).bind fun y53 =>
        some y53
@[go_sem] theorem laws_FnTellings_u1_ok {β : Type} (fu n : Nat) (K : List (Kont β)) (a9 a10 : Int) (a11 a12 a13 : Int) (a14 : List UInt8) (a15 a16 : Int) (a17 a18 : Int) (a19 a20 : Int) (a21 a22 : Int) (a23 : List (List UInt8)) (a24 a25 a26 : List UInt8) : run ⟨(tab fu).own, lev (tab fu) (n + 6), (tab fu).gl⟩ K c3_u1 ⟨[(3, .pt 200000030 0), (4, .pt 200000040 0), (5, .val (.str a24)), (6, .pt 200000060 0), (7, .val (.str a25)), (8, .pt 200000080 0), (9, .val (.str a26)), (10, .pt 200000100 0)], [(200000030, .var false [.val (.int .i64 a9), .val (.int .i64 a10), .val (.int .i64 a11), .val (.int .i64 a12)]), (200000040, .var false [.val (.int .i64 a13), .val (.str a14)]), (200000060, .var false [.val (.int .i64 a15), .val (.int .i64 a16), .val (.int .i64 a17), .val (.int .i64 a18), .val (.int .i64 a19)]), (200000080, .var false [.val (.int .i64 a20), .val (.int .i64 a21)]), (200000100, .var false [.val (.int .i64 a22), .sl 200000101 0 a23.length]), (200000101, .row false 1 (rowE eS a23))], 88⟩ = (laws_FnTellings_u1 fu a9 a10 a11 a12 a13 a14 a15 a16 a17 a18 a19 a20 a21 a22 a23 a24 a25 a26).bind (fun t => plug ⟨(tab fu).own, lev (tab fu) (n + 6), (tab fu).gl⟩ K .normal ⟨[(3, .pt 200000030 0), (4, .pt 200000040 0), (5, .val (.str a24)), (6, .pt 200000060 0), (65, .val (.bool t))], [(200000030, .var false [.val (.int .i64 a9), .val (.int .i64 a10), .val (.int .i64 a11), .val (.int .i64 a12)]), (200000040, .var false [.val (.int .i64 a13), .val (.str a14)]), (200000060, .var false [.val (.int .i64 a15), .val (.int .i64 a16), .val (.int .i64 a17), .val (.int .i64 a18), .val (.int .i64 a19)])], 88⟩) := by
  unfold c3_u1
  simp +contextual -implicitDefEqProofs (maxSteps := 99999999) only [laws_FnTellings_u1, subI, go_sem] <;> rfl
@[go_sem] theorem laws_FnTellings_u2_ok {β : Type} (fu n : Nat) (K : List (Kont β)) (a32 a33 : Int) (a34 a35 a36 : Int) (a37 : List UInt8) (a38 a39 : Int) (a40 a41 a42 : Int) (a43 : List UInt8) : run ⟨(tab fu).own, lev (tab fu) (n + 6), (tab fu).gl⟩ K c3_u2 ⟨[(3, .pt 200000030 0), (4, .pt 200000040 0), (5, .val (.str a43)), (6, .pt 200000060 0)], [(200000030, .var false [.val (.int .i64 a32), .val (.int .i64 a33), .val (.int .i64 a34), .val (.int .i64 a35)]), (200000040, .var false [.val (.int .i64 a36), .val (.str a37)]), (200000060, .var false [.val (.int .i64 a38), .val (.int .i64 a39), .val (.int .i64 a40), .val (.int .i64 a41), .val (.int .i64 a42)])], 88⟩ = (laws_FnTellings_u2 fu a32 a33 a34 a35 a36 a37 a38 a39 a40 a41 a42 a43).bind (fun t => plug ⟨(tab fu).own, lev (tab fu) (n + 6), (tab fu).gl⟩ K .normal ⟨[(3, .pt 200000030 0), (4, .pt 200000040 0), (76, .val (.bool t))], [(200000030, .var false [.val (.int .i64 a32), .val (.int .i64 a33), .val (.int .i64 a34), .val (.int .i64 a35)]), (200000040, .var false [.val (.int .i64 a36), .val (.str a37)])], 88⟩) := by
  unfold c3_u2
  simp +contextual -implicitDefEqProofs (maxSteps := 99999999) only [laws_FnTellings_u2, subI, go_sem] <;> rfl
@[go_sem] theorem laws_FnTellings_u3_ok {β : Type} (fu n : Nat) (K : List (Kont β)) (a46 a47 : Int) (a48 a49 a50 : Int) (a51 : List UInt8) : run ⟨(tab fu).own, lev (tab fu) (n + 6), (tab fu).gl⟩ K c3_u3 ⟨[(3, .pt 200000030 0), (4, .pt 200000040 0)], [(200000030, .var false [.val (.int .i64 a46), .val (.int .i64 a47), .val (.int .i64 a48), .val (.int .i64 a49)]), (200000040, .var false [.val (.int .i64 a50), .val (.str a51)])], 88⟩ = (laws_FnTellings_u3 fu a46 a47 a48 a49 a50 a51).bind (fun t => plug ⟨(tab fu).own, lev (tab fu) (n + 6), (tab fu).gl⟩ K .normal ⟨[(2, .val (.bool t))], [], 88⟩) := by
  unfold c3_u3
  simp +contextual -implicitDefEqProofs (maxSteps := 99999999) only [laws_FnTellings_u3, subI, go_sem] <;> rfl
@[go_sem] theorem laws_FnTellings_ok (fu n : Nat) (q0_0 : List Int) : lev (tab fu) (n + 7) 3 [.sh .lent 1 (rowE (eI .u8) q0_0)] = (laws_FnTellings fu q0_0).map fun r => (.bool r, [.gone]) := by
  rw [lev_st (vc := c3) (nt := 88) (rs := [(2, none)]) ((tab_ext _ _ rfl).trans rfl) rfl (Nat.le_of_ble_eq_true rfl)]
  unfold c3
  simp +contextual -implicitDefEqProofs (maxSteps := 99999999) only [laws_FnTellings, subI, go_sem] <;> rfl
end
end FnTellings
end Go.Proofs.YtimgmahlbodfiaaDoor.Wm
