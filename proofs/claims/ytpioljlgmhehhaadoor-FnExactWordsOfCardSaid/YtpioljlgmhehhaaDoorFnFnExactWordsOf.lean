/- What the functions behind FnExactWordsOf come to, on plain values: written by a program. -/
import Derived.Test.YtpioljlgmhehhaaDoorWmC
import Derived.Test.YtpioljlgmhehhaaDoorRows
set_option linter.unusedSimpArgs false
set_option linter.unusedVariables false
set_option maxRecDepth 100000
set_option maxHeartbeats 20000000
namespace Go.Proofs.YtpioljlgmhehhaaDoor.Wm
open Go Go.Proofs
namespace FnExactWordsOf
noncomputable section
structure SWordsResult where
  Code : Int
  Words : List (List UInt8)
def SWordsResult.cells (k : K) (s : SWordsResult) : List D := [.int .i64 s.Code, .sh k 1 (rowE eS s.Words)]
attribute [go_sem] SWordsResult.cells
def c53_u4 : Vc := (.region [mm 15 7, mm 16 0, ii 17 (.lens (.tmp 16)), ii 18 (.bin .eql (.tmp 15) (.tmp 17)), mm 19 18, ⟨some 20, .mov (.tmp 0), some (19, false)⟩, ⟨some 21, .mov (.tmp 7), some (19, false)⟩, ⟨some 22, .sidx (.tmp 20) (.tmp 21), some (19, false)⟩, ⟨some 23, .mov (.tmp 1), some (19, false)⟩, ⟨some 24, .bin .eql (.tmp 22) (.tmp 23), some (19, false)⟩, ii 25 (.pick (.tmp 19) (.cst (.bool true)) (.tmp 24))] [] (sr [0, 1, 5, 6, 7, 25] [(200000050, 200000050)]))
def c53_u5 : Vc := (.cond (.tmp 25) (sr [0, 1, 5, 6, 7] [(200000050, 200000050)]) (sr [0, 1, 5, 6, 7] [(200000050, 200000050)]) (.seq (.region [mm 26 5, mm 27 0, mm 28 6, mm 29 7, ii 30 (.ssl (.tmp 27) (some (.tmp 28)) (some (.tmp 29))), ii 31 (.bsl 1 [.str ([])] 1 [⟨0, none, (.tmp 30)⟩]), ii 32 (.app 1 16 (.tmp 26) (.tmp 31)), mm 5 32] [] (sr [0, 1, 5, 7] [(33000, 200000050)])) (.region [mm 33 7, ii 34 (.bin .add (.tmp 33) (ci 1)), mm 6 34] [] (sr [0, 1, 5, 6, 7] [(200000050, 200000050)]))) .skip)
def c53_u6 : Vc := (.block 1 (.seq c53_u4 c53_u5))
def c53_u7 : Vc := (.seq (.seq (.region [mm 9 7, mm 10 0, ii 11 (.lens (.tmp 10)), ii 12 (.bin .leq (.tmp 9) (.tmp 11))] [] (sr [0, 1, 5, 6, 7, 12] [(200000050, 200000050)])) (.cond (.tmp 12) (sr [0, 1, 5, 6, 7] [(200000050, 200000050)]) (sr [5] [(200000050, 200000050)]) .skip (.exit 0))) (.seq c53_u6 (.region [mm 13 7, ii 14 (.bin .add (.tmp 13) (ci 1)), mm 7 14] [] (sr [0, 1, 5, 6, 7] [(200000050, 200000050)]))))
def c53 : Vc := (.seq (.region [ii 4 (.mov (.emp 1))] [] (sk [0, 1])) (.seq (.region [ii 8 (.bsl 1 [.str ([])] 0 []), mm 5 8] [] (sr [0, 1, 5] [(9000, 200000050)])) (.seq (.region [ii 6 (.mov (ci 0))] [] (sr [0, 1, 5, 6] [(200000050, 200000050)])) (.seq (.seq (.region [ii 7 (.mov (ci 0))] [] (sr [0, 1, 5, 6, 7] [(200000050, 200000050)])) (.block 0 (.loop c53_u7))) (.seq (.region [mm 35 5, mm 4 35] [] (sr [4] [(200000050, 200000040)])) .ret)))))
def c29_u3 : Vc := (.cond (.tmp 20) (sr [3, 4, 5] [(200000030, 200000030), (200000040, 200000040)]) (sr [3, 4, 5] [(200000030, 200000030), (200000040, 200000040)]) (.region [mm 21 3, mm 22 4, mm 23 5, ii 24 (.iad 1 (.tmp 22) (.tmp 23)), ii 25 (.ld none (.tmp 24)), ii 26 (.bsl 1 [.str ([])] 1 [⟨0, none, (.tmp 25)⟩]), ii 27 (.app 1 16 (.tmp 21) (.tmp 26)), mm 3 27] [] (sr [3, 4, 5] [(28000, 200000030), (200000040, 200000040)])) .skip)
def c29_u4 : Vc := (.block 1 (.seq (.region [mm 15 4, mm 16 5, ii 17 (.iad 1 (.tmp 15) (.tmp 16)), ii 18 (.ld none (.tmp 17)), ii 19 (.lens (.tmp 18)), ii 20 (.bin .gtr (.tmp 19) (ci 0))] [] (sr [3, 4, 5, 20] [(200000030, 200000030), (200000040, 200000040)])) c29_u3))
def c29_u5 : Vc := (.seq (.seq (.region [mm 9 5, mm 10 4, ii 11 (.len (.tmp 10)), ii 12 (.bin .lss (.tmp 9) (.tmp 11))] [] (sr [3, 4, 5, 12] [(200000030, 200000030), (200000040, 200000040)])) (.cond (.tmp 12) (sr [3, 4, 5] [(200000030, 200000030), (200000040, 200000040)]) (sr [3] [(200000030, 200000030)]) .skip (.exit 0))) (.seq c29_u4 (.region [mm 13 5, ii 14 (.bin .add (.tmp 13) (ci 1)), mm 5 14] [] (sr [3, 4, 5] [(200000030, 200000030), (200000040, 200000040)]))))
def c29 : Vc := (.seq (.region [ii 2 (.mov (.emp 1))] [] (sk [0])) (.seq (.region [ii 6 (.bsl 1 [.str ([])] 0 []), mm 3 6] [] (sr [0, 3] [(7000, 200000030)])) (.seq (.region [mm 7 0, ii 8 (.call (.cst (.fn 53 [])) [(.tmp 7), (.cst (.int .u8 32))]), mm 4 8] [] (sr [3, 4] [(200000030, 200000030), (9000, 200000040)])) (.seq (.seq (.region [ii 5 (.mov (ci 0))] [] (sr [3, 4, 5] [(200000030, 200000030), (200000040, 200000040)])) (.block 0 (.loop c29_u5))) (.seq (.region [mm 28 3, mm 2 28] [] (sr [2] [(200000030, 200000020)])) .ret)))))
def c8 : Vc := (.seq (.region [ii 2 (.alc [.val (.int .i64 0), .emp 1])] [] (sr [0, 2] [(3000, 200000020)])) (.seq (.seq (.region [mm 3 0, ii 4 (.lens (.tmp 3)), ii 5 (.bin .gtr (.tmp 4) (ci 2000))] [] (sr [0, 2, 5] [(200000020, 200000020)])) (.cond (.tmp 5) (sr [2] [(200000020, 200000020)]) (sr [0, 2] [(200000020, 200000020)]) (.seq (.region [ii 6 (.bld [.val (.int .i64 0), .emp 1] [⟨0, none, (ci 2)⟩]), ⟨none, .st (some 2) (.tmp 2) (.tmp 6), none⟩] [] (sr [2] [(200000020, 200000020)])) .ret) .skip)) (.seq (.region [mm 7 0, ii 8 (.call (.cst (.fn 29 [])) [(.tmp 7)]), ii 9 (.bld [.val (.int .i64 0), .emp 1] [⟨1, none, (.tmp 8)⟩]), ⟨none, .st (some 2) (.tmp 2) (.tmp 9), none⟩] [] (sr [2] [(200000020, 200000020), (9000, 200000021)])) .ret)))
def c30 : Vc := (.seq (.region [ii 2 (.mov (.emp 1))] [] (sk [0])) (.seq (.region [mm 3 0, ii 4 (.call (.cst (.fn 40 [])) [(.tmp 3), (.cst (.str ([32])))]), ii 5 (.call (.cst (.fn 54 [])) [(.tmp 4), (.cst (.fn 55 []))]), mm 2 5] [] (sr [2] [(6000, 200000020)])) .ret))
def c9 : Vc := (.seq (.region [ii 2 (.alc [.val (.int .i64 0), .emp 1])] [] (sr [0, 2] [(3000, 200000020)])) (.seq (.seq (.region [mm 3 0, ii 4 (.lens (.tmp 3)), ii 5 (.bin .gtr (.tmp 4) (ci 2000))] [] (sr [0, 2, 5] [(200000020, 200000020)])) (.cond (.tmp 5) (sr [2] [(200000020, 200000020)]) (sr [0, 2] [(200000020, 200000020)]) (.seq (.region [ii 6 (.bld [.val (.int .i64 0), .emp 1] [⟨0, none, (ci 2)⟩]), ⟨none, .st (some 2) (.tmp 2) (.tmp 6), none⟩] [] (sr [2] [(200000020, 200000020)])) .ret) .skip)) (.seq (.region [mm 7 0, ii 8 (.call (.cst (.fn 30 [])) [(.tmp 7)]), ii 9 (.bld [.val (.int .i64 0), .emp 1] [⟨1, none, (.tmp 8)⟩]), ⟨none, .st (some 2) (.tmp 2) (.tmp 9), none⟩] [] (sr [2] [(200000020, 200000020), (9000, 200000021)])) .ret)))
def c31_u1 : Vc := (.seq (.seq (.region [mm 11 5, mm 12 0, ii 13 (.len (.tmp 12)), ii 14 (.bin .lss (.tmp 11) (.tmp 13))] [] (sk [0, 1, 5, 14])) (.cond (.tmp 14) (sk [0, 1, 5]) s0 .skip (.exit 0))) (.seq (.block 1 (.seq (.region [mm 17 0, mm 18 5, ii 19 (.iad 1 (.tmp 17) (.tmp 18)), ii 20 (.ld none (.tmp 19)), mm 21 1, mm 22 5, ii 23 (.iad 1 (.tmp 21) (.tmp 22)), ii 24 (.ld none (.tmp 23)), ii 25 (.bin .neq (.tmp 20) (.tmp 24))] [] (sk [0, 1, 5, 25])) (.cond (.tmp 25) s0 (sk [0, 1, 5]) (.seq (.region [ii 4 (.mov (.cst (.bool false)))] [] (sk [4])) .ret) .skip))) (.region [mm 15 5, ii 16 (.bin .add (.tmp 15) (ci 1)), mm 5 16] [] (sk [0, 1, 5]))))
def c31 : Vc := (.seq (.region [ii 4 (.mov (.cst (.bool false)))] [] (sk [0, 1])) (.seq (.seq (.region [mm 6 0, ii 7 (.len (.tmp 6)), mm 8 1, ii 9 (.len (.tmp 8)), ii 10 (.bin .neq (.tmp 7) (.tmp 9))] [] (sk [0, 1, 10])) (.cond (.tmp 10) s0 (sk [0, 1]) (.seq (.region [ii 4 (.mov (.cst (.bool false)))] [] (sk [4])) .ret) .skip)) (.seq (.seq (.region [ii 5 (.mov (ci 0))] [] (sk [0, 1, 5])) (.block 0 (.loop c31_u1))) (.seq (.region [ii 4 (.mov (.cst (.bool true)))] [] (sk [4])) .ret))))
def c10 : Vc := (.seq (.region [ii 2 (.box (some 2) (.tmp 0)), ii 3 (.box (some 2) (.tmp 1)), ii 4 (.mov (.cst (.bool false)))] [] (sr [2, 3] [(3000, 200000020), (4000, 200000030)])) (.seq (.seq (.region [ii 5 (.fad 0 (.tmp 2)), ii 6 (.ld none (.tmp 5)), ii 7 (.fad 0 (.tmp 3)), ii 8 (.ld none (.tmp 7)), ii 9 (.bin .neq (.tmp 6) (.tmp 8))] [] (sr [2, 3, 9] [(200000020, 200000020), (200000030, 200000030)])) (.cond (.tmp 9) s0 (sr [2, 3] [(200000020, 200000020), (200000030, 200000030)]) (.seq (.region [ii 4 (.mov (.cst (.bool false)))] [] (sk [4])) .ret) .skip)) (.seq (.seq (.region [ii 10 (.fad 1 (.tmp 2)), ii 11 (.ld none (.tmp 10)), ii 12 (.fad 1 (.tmp 3)), ii 13 (.ld none (.tmp 12)), ii 14 (.call (.cst (.fn 31 [])) [(.tmp 11), (.tmp 13)]), ii 15 (.un .not (.tmp 14))] [] (sk [15])) (.cond (.tmp 15) s0 s0 (.seq (.region [ii 4 (.mov (.cst (.bool false)))] [] (sk [4])) .ret) .skip)) (.seq (.region [ii 4 (.mov (.cst (.bool true)))] [] (sk [4])) .ret))))
def c56_u1 : Vc := (.seq (.seq (.region [mm 6 0, ii 7 (.bin .gtr (.tmp 6) (ci 0))] [] (sk [0, 3, 7])) (.cond (.tmp 7) (sk [0, 3]) (sk [3]) .skip (.exit 0))) (.block 1 (.seq (.region [mm 8 0, ii 9 (.bin .rem (.tmp 8) (ci 10)), ii 10 (.bin .add (ci 48) (.tmp 9)), ii 11 (.cvi .u8 (.tmp 10)), ii 12 (.bsl 1 [.int .u8 0] 1 [⟨0, none, (.tmp 11)⟩]), ii 13 (.cvs (.tmp 12)), mm 14 3, ii 15 (.bin .add (.tmp 13) (.tmp 14)), mm 3 15] [] (sk [0, 3])) (.region [mm 16 0, ii 17 (.bin .quo (.tmp 16) (ci 10)), mm 0 17] [] (sk [0, 3])))))
def c56 : Vc := (.seq (.region [ii 2 (.mov (.cst (.str ([]))))] [] (sk [0])) (.seq (.seq (.region [mm 4 0, ii 5 (.bin .leq (.tmp 4) (ci 0))] [] (sk [0, 5])) (.cond (.tmp 5) s0 (sk [0]) (.seq (.region [ii 2 (.mov (.cst (.str ([109, 48]))))] [] (sk [2])) .ret) .skip)) (.seq (.region [ii 3 (.mov (.cst (.str ([]))))] [] (sk [0, 3])) (.seq (.block 0 (.loop c56_u1)) (.seq (.region [mm 18 3, ii 19 (.bin .add (.cst (.str ([109]))) (.tmp 18)), mm 2 19] [] (sk [2])) .ret)))))
def c32_u1 : Vc := (.seq (.seq (.region [mm 6 5, mm 7 0, ii 8 (.len (.tmp 7)), ii 9 (.bin .lss (.tmp 6) (.tmp 8))] [] (sk [0, 1, 5, 9])) (.cond (.tmp 9) (sk [0, 1, 5]) (sk [1]) .skip (.exit 0))) (.seq (.block 1 (.seq (.region [mm 12 0, mm 13 5, mm 14 1, ii 15 (.call (.cst (.fn 56 [])) [(.tmp 14)]), ii 16 (.iad 1 (.tmp 12) (.tmp 13)), ⟨none, .st none (.tmp 16) (.tmp 15), none⟩] [] (sk [0, 1, 5])) (.region [mm 17 1, ii 18 (.bin .add (.tmp 17) (ci 1)), mm 1 18] [] (sk [0, 1, 5])))) (.region [mm 10 5, ii 11 (.bin .add (.tmp 10) (ci 1)), mm 5 11] [] (sk [0, 1, 5]))))
def c32 : Vc := (.seq (.region [ii 4 (.mov (ci 0))] [] (sk [0, 1])) (.seq (.seq (.region [ii 5 (.mov (ci 0))] [] (sk [0, 1, 5])) (.block 0 (.loop c32_u1))) (.seq (.region [mm 19 1, mm 4 19] [] (sk [4])) .ret)))
def c11 : Vc := (.seq (.region [ii 2 (.box (some 2) (.tmp 0)), ii 4 (.mov (ci 0))] [] (sr [1, 2] [(3000, 200000020)])) (.seq (.region [ii 5 (.fad 1 (.tmp 2)), ii 6 (.ld none (.tmp 5)), mm 7 1, ii 8 (.call (.cst (.fn 32 [])) [(.tmp 6), (.tmp 7)]), mm 1 8] [] (sk [1])) (.seq (.region [mm 9 1, mm 4 9] [] (sk [4])) .ret)))
def c33_u1 : Vc := (.seq (.seq (.region [mm 6 5, mm 7 0, ii 8 (.len (.tmp 7)), ii 9 (.bin .lss (.tmp 6) (.tmp 8))] [] (sk [0, 1, 5, 9])) (.cond (.tmp 9) (sk [0, 1, 5]) (sk [1]) .skip (.exit 0))) (.seq (.block 1 (.seq (.seq (.region [mm 12 0, mm 13 5, ii 14 (.iad 1 (.tmp 12) (.tmp 13)), ii 15 (.ld none (.tmp 14)), mm 16 1, ii 17 (.call (.cst (.fn 56 [])) [(.tmp 16)]), ii 18 (.bin .neq (.tmp 15) (.tmp 17))] [] (sk [0, 1, 5, 18])) (.cond (.tmp 18) s0 (sk [0, 1, 5]) (.seq (.region [ii 4 (.mov (.cst (.int .i64 ((-1)))))] [] (sk [4])) .ret) .skip)) (.region [mm 19 1, ii 20 (.bin .add (.tmp 19) (ci 1)), mm 1 20] [] (sk [0, 1, 5])))) (.region [mm 10 5, ii 11 (.bin .add (.tmp 10) (ci 1)), mm 5 11] [] (sk [0, 1, 5]))))
def c33 : Vc := (.seq (.region [ii 4 (.mov (ci 0))] [] (sk [0, 1])) (.seq (.seq (.region [ii 5 (.mov (ci 0))] [] (sk [0, 1, 5])) (.block 0 (.loop c33_u1))) (.seq (.region [mm 21 1, mm 4 21] [] (sk [4])) .ret)))
def c12 : Vc := (.seq (.region [ii 2 (.box (some 2) (.tmp 0)), ii 4 (.mov (ci 0))] [] (sr [1, 2] [(3000, 200000020)])) (.seq (.region [ii 5 (.fad 1 (.tmp 2)), ii 6 (.ld none (.tmp 5)), mm 7 1, ii 8 (.call (.cst (.fn 33 [])) [(.tmp 6), (.tmp 7)]), mm 1 8] [] (sk [1])) (.seq (.seq (.region [mm 9 1, ii 10 (.bin .lss (.tmp 9) (ci 0))] [] (sk [1, 10])) (.cond (.tmp 10) s0 (sk [1]) (.seq (.region [ii 4 (.mov (.cst (.int .i64 ((-1)))))] [] (sk [4])) .ret) .skip)) (.seq (.region [mm 11 1, mm 4 11] [] (sk [4])) .ret))))
def c3_u1 : Vc := (.seq (.region [ii 6 (.mov (ci 1))] [] (sr [4, 5, 6] [(200000040, 200000040), (200000041, 200000041)])) (.seq (.region [ii 36 (.ld (some 2) (.tmp 4)), mm 37 6, ii 38 (.call (.cst (.fn 12 [])) [(.tmp 36), (.tmp 37)]), mm 6 38] [] (sk [5, 6])) (.seq (.seq (.region [mm 39 6, ii 40 (.bin .lss (.tmp 39) (ci 0))] [] (sk [5, 6, 40])) (.cond (.tmp 40) s0 (sk [5, 6]) (.seq (.region [ii 2 (.mov (.cst (.bool false)))] [] (sk [2])) .ret) .skip)) (.seq (.seq (.region [mm 41 6, mm 42 5, ii 43 (.bin .neq (.tmp 41) (.tmp 42))] [] (sk [43])) (.cond (.tmp 43) s0 s0 (.seq (.region [ii 2 (.mov (.cst (.bool false)))] [] (sk [2])) .ret) .skip)) (.seq (.region [ii 2 (.mov (.cst (.bool true)))] [] (sk [2])) .ret)))))
def c3_u2 : Vc := (.seq (.region [ii 6 (.mov (ci 1))] [] (sr [0, 3, 4, 5, 6] [(200000030, 200000030), (200000031, 200000031), (200000040, 200000040), (200000041, 200000041)])) (.seq (.region [ii 22 (.ld (some 2) (.tmp 4)), mm 23 6, ii 24 (.call (.cst (.fn 12 [])) [(.tmp 22), (.tmp 23)]), mm 6 24] [] (sr [0, 3, 4, 5, 6] [(200000030, 200000030), (200000031, 200000031), (200000040, 200000040), (200000041, 200000041)])) (.seq (.seq (.region [mm 25 6, ii 26 (.bin .lss (.tmp 25) (ci 0))] [] (sr [0, 3, 4, 5, 6, 26] [(200000030, 200000030), (200000031, 200000031), (200000040, 200000040), (200000041, 200000041)])) (.cond (.tmp 26) s0 (sr [0, 3, 4, 5, 6] [(200000030, 200000030), (200000031, 200000031), (200000040, 200000040), (200000041, 200000041)]) (.seq (.region [ii 2 (.mov (.cst (.bool false)))] [] (sk [2])) .ret) .skip)) (.seq (.seq (.region [mm 27 6, mm 28 5, ii 29 (.bin .neq (.tmp 27) (.tmp 28))] [] (sr [0, 3, 4, 5, 29] [(200000030, 200000030), (200000031, 200000031), (200000040, 200000040), (200000041, 200000041)])) (.cond (.tmp 29) s0 (sr [0, 3, 4, 5] [(200000030, 200000030), (200000031, 200000031), (200000040, 200000040), (200000041, 200000041)]) (.seq (.region [ii 2 (.mov (.cst (.bool false)))] [] (sk [2])) .ret) .skip)) (.seq (.region [mm 30 0, ii 31 (.call (.cst (.fn 9 [])) [(.tmp 30)]), ii 7 (.alc [.val (.int .i64 0), .emp 1]), ⟨none, .st (some 2) (.tmp 7) (.tmp 31), none⟩] [] (sr [3, 4, 5, 7] [(200000030, 200000030), (200000031, 200000031), (200000040, 200000040), (200000041, 200000041), (8000, 200000070), (32000, 200000071)])) (.seq (.seq (.region [ii 32 (.ld (some 2) (.tmp 7)), ii 33 (.ld (some 2) (.tmp 3)), ii 34 (.call (.cst (.fn 10 [])) [(.tmp 32), (.tmp 33)]), ii 35 (.un .not (.tmp 34))] [] (sr [4, 5, 35] [(200000040, 200000040), (200000041, 200000041)])) (.cond (.tmp 35) s0 (sr [4, 5] [(200000040, 200000040), (200000041, 200000041)]) (.seq (.region [ii 2 (.mov (.cst (.bool false)))] [] (sk [2])) .ret) .skip)) c3_u1))))))
def c3 : Vc := (.seq (.region [ii 2 (.mov (.cst (.bool false)))] [] (sk [0])) (.seq (.seq (.region [mm 8 0, ii 9 (.lens (.tmp 8)), ii 10 (.bin .gtr (.tmp 9) (ci 1048576))] [] (sk [0, 10])) (.cond (.tmp 10) s0 (sk [0]) (.seq (.region [ii 2 (.mov (.cst (.bool true)))] [] (sk [2])) .ret) .skip)) (.seq (.region [mm 11 0, ii 12 (.call (.cst (.fn 8 [])) [(.tmp 11)]), ii 3 (.alc [.val (.int .i64 0), .emp 1]), ⟨none, .st (some 2) (.tmp 3) (.tmp 12), none⟩] [] (sr [0, 3] [(4000, 200000030), (13000, 200000031)])) (.seq (.region [mm 13 0, ii 14 (.call (.cst (.fn 9 [])) [(.tmp 13)]), ii 4 (.alc [.val (.int .i64 0), .emp 1]), ⟨none, .st (some 2) (.tmp 4) (.tmp 14), none⟩] [] (sr [0, 3, 4] [(200000030, 200000030), (200000031, 200000031), (5000, 200000040), (15000, 200000041)])) (.seq (.seq (.region [ii 15 (.ld (some 2) (.tmp 4)), ii 16 (.ld (some 2) (.tmp 3)), ii 17 (.call (.cst (.fn 10 [])) [(.tmp 15), (.tmp 16)]), ii 18 (.un .not (.tmp 17))] [] (sr [0, 3, 4, 18] [(200000030, 200000030), (200000031, 200000031), (200000040, 200000040), (200000041, 200000041)])) (.cond (.tmp 18) s0 (sr [0, 3, 4] [(200000030, 200000030), (200000031, 200000031), (200000040, 200000040), (200000041, 200000041)]) (.seq (.region [ii 2 (.mov (.cst (.bool false)))] [] (sk [2])) .ret) .skip)) (.seq (.region [ii 5 (.mov (ci 1))] [] (sr [0, 3, 4, 5] [(200000030, 200000030), (200000031, 200000031), (200000040, 200000040), (200000041, 200000041)])) (.seq (.region [ii 19 (.ld (some 2) (.tmp 4)), mm 20 5, ii 21 (.call (.cst (.fn 11 [])) [(.tmp 19), (.tmp 20)]), mm 5 21] [] (sr [0, 3, 4, 5] [(200000030, 200000030), (200000031, 200000031), (200000040, 200000040), (200000041, 200000041)])) c3_u2)))))))
def tabO : List (Nat × List Nat) := [(53, [0, 0]), (29, [0]), (8, [0]), (40, [0, 0]), (54, [1, 0]), (30, [0]), (9, [0]), (31, [0, 0]), (10, [0, 0]), (56, [0]), (32, [1, 0]), (11, [102, 0]), (33, [0, 0]), (12, [0, 0]), (3, [0])]
def tabL : List (Nat × Vc × Nat × List (Nat × Option (Option Nat))) := [(53, c53, 36, [(4, none)]), (29, c29, 29, [(2, none)]), (8, c8, 10, [(2, some (some 2))]), (30, c30, 6, [(2, none)]), (9, c9, 10, [(2, some (some 2))]), (31, c31, 26, [(4, none)]), (10, c10, 16, [(4, none)]), (56, c56, 20, [(2, none)]), (32, c32, 20, [(4, none)]), (11, c11, 10, [(4, none)]), (33, c33, 22, [(4, none)]), (12, c12, 12, [(4, none)]), (3, c3, 44, [(2, none)])]
def tabX : List (Nat × (List D → Option (D × List D))) := [(40, splitF), (54, (deleteF 55 fun x => x == []))]
def tabOwn (f : FuncId) : List Nat := (look f tabO).getD []
def tabG (fu : Nat) : List (Nat × List D) := [(3, [.int .i64 (decZ fu)])]
def tab0 (fu : Nat) : Tab := ⟨tabOwn, fun f => look f tabL, fun f => look f tabX, fun g => look g (tabG fu)⟩
def recR (f : Nat) : Option Nat := look f []
def tab (fu : Nat) : Tab := recTab (tab0 fu) recR fu
theorem tab_ext (fu f : Nat) (h : recR f = none) : (tab fu).ext f = (tab0 fu).ext f := by cases fu <;> simp [tab, recTab, recExt, h]
@[go_sem] theorem own_53 (fu : Nat) : (tab fu).own 53 = [0, 0] := rfl
@[go_sem] theorem own_29 (fu : Nat) : (tab fu).own 29 = [0] := rfl
@[go_sem] theorem own_8 (fu : Nat) : (tab fu).own 8 = [0] := rfl
@[go_sem] theorem own_40 (fu : Nat) : (tab fu).own 40 = [0, 0] := rfl
@[go_sem] theorem own_54 (fu : Nat) : (tab fu).own 54 = [1, 0] := rfl
@[go_sem] theorem own_30 (fu : Nat) : (tab fu).own 30 = [0] := rfl
@[go_sem] theorem own_9 (fu : Nat) : (tab fu).own 9 = [0] := rfl
@[go_sem] theorem own_31 (fu : Nat) : (tab fu).own 31 = [0, 0] := rfl
@[go_sem] theorem own_10 (fu : Nat) : (tab fu).own 10 = [0, 0] := rfl
@[go_sem] theorem own_56 (fu : Nat) : (tab fu).own 56 = [0] := rfl
@[go_sem] theorem own_32 (fu : Nat) : (tab fu).own 32 = [1, 0] := rfl
@[go_sem] theorem own_11 (fu : Nat) : (tab fu).own 11 = [102, 0] := rfl
@[go_sem] theorem own_33 (fu : Nat) : (tab fu).own 33 = [0, 0] := rfl
@[go_sem] theorem own_12 (fu : Nat) : (tab fu).own 12 = [0, 0] := rfl
@[go_sem] theorem own_3 (fu : Nat) : (tab fu).own 3 = [0] := rfl
theorem is53 : IsFn Tryd.prog tabOwn 53 c53 36 [(4, none)] := isF [(0, hk [0, 1]), (1, hr [0, 1, 5] [(9000, 200000050)]), (2, hr [0, 1, 5, 6] [(200000050, 200000050)]), (3, hr [0, 1, 5, 6, 7] [(200000050, 200000050)]), (4, hr [0, 1, 5, 6, 7, 12] [(200000050, 200000050)]), (6, hr [0, 1, 5, 6, 7, 25] [(200000050, 200000050)]), (7, hr [0, 1, 5, 7] [(33000, 200000050)]), (8, hr [0, 1, 5, 6, 7] [(200000050, 200000050)]), (5, hr [0, 1, 5, 6, 7] [(200000050, 200000050)]), (9, hr [4] [(200000050, 200000040)])] [(12, hr [0, 1, 5, 6, 7] [(200000050, 200000050)]), (25, hr [0, 1, 5, 6, 7] [(200000050, 200000050)])] [(25, hr [0, 1, 5, 6, 7] [(200000050, 200000050)]), (12, hr [5] [(200000050, 200000050)])] [] Tryd.func53 (by kernel_rfl)
theorem is29 : IsFn Tryd.prog tabOwn 29 c29 29 [(2, none)] := isF [(0, hk [0]), (1, hr [0, 3] [(7000, 200000030)]), (2, hr [3, 4] [(200000030, 200000030), (9000, 200000040)]), (3, hr [3, 4, 5] [(200000030, 200000030), (200000040, 200000040)]), (4, hr [3, 4, 5, 12] [(200000030, 200000030), (200000040, 200000040)]), (6, hr [3, 4, 5, 20] [(200000030, 200000030), (200000040, 200000040)]), (7, hr [3, 4, 5] [(28000, 200000030), (200000040, 200000040)]), (5, hr [3, 4, 5] [(200000030, 200000030), (200000040, 200000040)]), (8, hr [2] [(200000030, 200000020)])] [(12, hr [3, 4, 5] [(200000030, 200000030), (200000040, 200000040)]), (20, hr [3, 4, 5] [(200000030, 200000030), (200000040, 200000040)])] [(20, hr [3, 4, 5] [(200000030, 200000030), (200000040, 200000040)]), (12, hr [3] [(200000030, 200000030)])] [] Tryd.func29 (by kernel_rfl)
theorem is8 : IsFn Tryd.prog tabOwn 8 c8 10 [(2, some (some 2))] := isF [(0, hr [0, 2] [(3000, 200000020)]), (1, hr [0, 2, 5] [(200000020, 200000020)]), (2, hr [2] [(200000020, 200000020)]), (3, hr [2] [(200000020, 200000020), (9000, 200000021)])] [(5, hr [2] [(200000020, 200000020)])] [(5, hr [0, 2] [(200000020, 200000020)])] [] Tryd.func8 (by kernel_rfl)
theorem is30 : IsFn Tryd.prog tabOwn 30 c30 6 [(2, none)] := isF [(0, hk [0]), (1, hr [2] [(6000, 200000020)])] [] [] [] Tryd.func30 (by kernel_rfl)
theorem is9 : IsFn Tryd.prog tabOwn 9 c9 10 [(2, some (some 2))] := isF [(0, hr [0, 2] [(3000, 200000020)]), (1, hr [0, 2, 5] [(200000020, 200000020)]), (2, hr [2] [(200000020, 200000020)]), (3, hr [2] [(200000020, 200000020), (9000, 200000021)])] [(5, hr [2] [(200000020, 200000020)])] [(5, hr [0, 2] [(200000020, 200000020)])] [] Tryd.func9 (by kernel_rfl)
theorem is31 : IsFn Tryd.prog tabOwn 31 c31 26 [(4, none)] := isF [(0, hk [0, 1]), (1, hk [0, 1, 10]), (2, hk [4]), (3, hk [0, 1, 5]), (4, hk [0, 1, 5, 14]), (6, hk [0, 1, 5, 25]), (5, hk [0, 1, 5]), (7, hk [4]), (8, hk [4])] [(10, hk []), (14, hk [0, 1, 5]), (25, hk [])] [(10, hk [0, 1]), (25, hk [0, 1, 5]), (14, hk [])] [(6, (.take 0 (.take 1 (.take 2 (.take 3 (.take 4 (.take 5 (.take 6 (.take 7 (.take 8 .done))))))))))] Tryd.func31 (by kernel_rfl)
theorem is10 : IsFn Tryd.prog tabOwn 10 c10 16 [(4, none)] := isF [(0, hr [2, 3] [(3000, 200000020), (4000, 200000030)]), (1, hr [2, 3, 9] [(200000020, 200000020), (200000030, 200000030)]), (2, hk [4]), (3, hk [15]), (5, hk [4]), (4, hk [4])] [(9, hk []), (15, hk [])] [(9, hr [2, 3] [(200000020, 200000020), (200000030, 200000030)]), (15, hk [])] [] Tryd.func10 (by kernel_rfl)
theorem is56 : IsFn Tryd.prog tabOwn 56 c56 20 [(2, none)] := isF [(0, hk [0]), (1, hk [0, 5]), (2, hk [2]), (3, hk [0, 3]), (4, hk [0, 3, 7]), (5, hk [0, 3]), (6, hk [0, 3]), (7, hk [2])] [(5, hk []), (7, hk [0, 3])] [(5, hk [0]), (7, hk [3])] [] Tryd.func56 (by kernel_rfl)
theorem is32 : IsFn Tryd.prog tabOwn 32 c32 20 [(4, none)] := isF [(0, hk [0, 1]), (1, hk [0, 1, 5]), (2, hk [0, 1, 5, 9]), (4, hk [0, 1, 5]), (5, hk [0, 1, 5]), (3, hk [0, 1, 5]), (6, hk [4])] [(9, hk [0, 1, 5])] [(9, hk [1])] [] Tryd.func32 (by kernel_rfl)
theorem is11 : IsFn Tryd.prog tabOwn 11 c11 10 [(4, none)] := isF [(0, hr [1, 2] [(3000, 200000020)]), (1, hk [1]), (2, hk [4])] [] [] [] Tryd.func11 (by kernel_rfl)
theorem is33 : IsFn Tryd.prog tabOwn 33 c33 22 [(4, none)] := isF [(0, hk [0, 1]), (1, hk [0, 1, 5]), (2, hk [0, 1, 5, 9]), (4, hk [0, 1, 5, 18]), (6, hk [0, 1, 5]), (3, hk [0, 1, 5]), (5, hk [4]), (7, hk [4])] [(9, hk [0, 1, 5]), (18, hk [])] [(18, hk [0, 1, 5]), (9, hk [1])] [(4, (.take 0 (.take 1 (.take 2 (.take 3 (.take 4 (.take 5 (.take 6 .done))))))))] Tryd.func33 (by kernel_rfl)
theorem is12 : IsFn Tryd.prog tabOwn 12 c12 12 [(4, none)] := isF [(0, hr [1, 2] [(3000, 200000020)]), (1, hk [1]), (2, hk [1, 10]), (3, hk [4]), (4, hk [4])] [(10, hk [])] [(10, hk [1])] [] Tryd.func12 (by kernel_rfl)
theorem is3 : IsFn Tryd.prog tabOwn 3 c3 44 [(2, none)] := isF [(0, hk [0]), (1, hk [0, 10]), (2, hk [2]), (3, hr [0, 3] [(4000, 200000030), (13000, 200000031)]), (4, hr [0, 3, 4] [(200000030, 200000030), (200000031, 200000031), (5000, 200000040), (15000, 200000041)]), (5, hr [0, 3, 4, 18] [(200000030, 200000030), (200000031, 200000031), (200000040, 200000040), (200000041, 200000041)]), (7, hr [0, 3, 4, 5] [(200000030, 200000030), (200000031, 200000031), (200000040, 200000040), (200000041, 200000041)]), (8, hr [0, 3, 4, 5] [(200000030, 200000030), (200000031, 200000031), (200000040, 200000040), (200000041, 200000041)]), (9, hr [0, 3, 4, 5, 6] [(200000030, 200000030), (200000031, 200000031), (200000040, 200000040), (200000041, 200000041)]), (10, hr [0, 3, 4, 5, 6] [(200000030, 200000030), (200000031, 200000031), (200000040, 200000040), (200000041, 200000041)]), (11, hr [0, 3, 4, 5, 6, 26] [(200000030, 200000030), (200000031, 200000031), (200000040, 200000040), (200000041, 200000041)]), (12, hk [2]), (13, hr [0, 3, 4, 5, 29] [(200000030, 200000030), (200000031, 200000031), (200000040, 200000040), (200000041, 200000041)]), (14, hk [2]), (15, hr [3, 4, 5, 7] [(200000030, 200000030), (200000031, 200000031), (200000040, 200000040), (200000041, 200000041), (8000, 200000070), (32000, 200000071)]), (16, hr [4, 5, 35] [(200000040, 200000040), (200000041, 200000041)]), (18, hr [4, 5, 6] [(200000040, 200000040), (200000041, 200000041)]), (19, hk [5, 6]), (20, hk [5, 6, 40]), (21, hk [2]), (22, hk [43]), (23, hk [2]), (24, hk [2]), (17, hk [2]), (6, hk [2])] [(10, hk []), (26, hk []), (29, hk []), (40, hk []), (43, hk []), (35, hk []), (18, hk [])] [(10, hk [0]), (18, hr [0, 3, 4] [(200000030, 200000030), (200000031, 200000031), (200000040, 200000040), (200000041, 200000041)]), (26, hr [0, 3, 4, 5, 6] [(200000030, 200000030), (200000031, 200000031), (200000040, 200000040), (200000041, 200000041)]), (29, hr [0, 3, 4, 5] [(200000030, 200000030), (200000031, 200000031), (200000040, 200000040), (200000041, 200000041)]), (35, hr [4, 5] [(200000040, 200000040), (200000041, 200000041)]), (40, hk [5, 6]), (43, hk [])] [] Tryd.func3 (by kernel_rfl)
theorem recR_fn (fu : Nat) : ∀ f N, recR f = some N → ∃ p, (tab0 fu).fn f = some p := by
  intro f N h
  simp only [recR, look] at h
  repeat (split at h; (rename_i e; subst e; exact ⟨_, rfl⟩))
  simp at h
def x40_ren : Go.Shelf.Ren := ⟨fun | 138 => 73 | 143 => 74 | 146 => 40 | 195 => 84 | 197 => 85 | 217 => 99 | 218 => 86 | 219 => 87 | 221 => 63 | 224 => 101 | 225 => 100 | 260 => 98 | 266 => 109 | 267 => 102 | 268 => 72 | 314 => 110 | n => n, fun | 0 => 0 | 3 => 3 | 4 => 4 | 5 => 5 | 9 => 9 | 21 => 21 | 31 => 22 | 46 => 104 | 51 => 127 | 105 => 110 | 119 => 135 | 137 => 136 | 138 => 137 | 139 => 138 | 146 => 139 | n => n, fun | 1 => 3 | 3 => 5 | 4 => 6 | n => n⟩
theorem x40_lay : Lays.n146 Tryd.prog x40_ren where
  mixed := by kernel_rfl
  f138 := Tryd.func73.trans (congrArg some (by kernel_rfl))
  f143 := Tryd.func74.trans (congrArg some (by kernel_rfl))
  f146 := Tryd.func40.trans (congrArg some (by kernel_rfl))
  f195 := Tryd.func84.trans (congrArg some (by kernel_rfl))
  f197 := Tryd.func85.trans (congrArg some (by kernel_rfl))
  f217 := Tryd.func99.trans (congrArg some (by kernel_rfl))
  f218 := Tryd.func86.trans (congrArg some (by kernel_rfl))
  f219 := Tryd.func87.trans (congrArg some (by kernel_rfl))
  f221 := Tryd.func63.trans (congrArg some (by kernel_rfl))
  f224 := Tryd.func101.trans (congrArg some (by kernel_rfl))
  f225 := Tryd.func100.trans (congrArg some (by kernel_rfl))
  f260 := Tryd.func98.trans (congrArg some (by kernel_rfl))
  f266 := Tryd.func109.trans (congrArg some (by kernel_rfl))
  f267 := Tryd.func102.trans (congrArg some (by kernel_rfl))
  f268 := Tryd.func72.trans (congrArg some (by kernel_rfl))
  f314 := Tryd.func110.trans (congrArg some (by kernel_rfl))
  t0 := Tryd.underlying0
  a0 := Tryd.isAgg0
  z0 := Tryd.sizeOf0
  v0 := Tryd.zeroValue0
  t3 := Tryd.underlying3
  a3 := Tryd.isAgg3
  z3 := Tryd.sizeOf3
  v3 := Tryd.zeroValue3
  t4 := Tryd.underlying4
  a4 := Tryd.isAgg4
  z4 := Tryd.sizeOf4
  v4 := Tryd.zeroValue4
  t5 := Tryd.underlying5
  a5 := Tryd.isAgg5
  z5 := Tryd.sizeOf5
  v5 := Tryd.zeroValue5
  t9 := Tryd.underlying9
  a9 := Tryd.isAgg9
  z9 := Tryd.sizeOf9
  v9 := Tryd.zeroValue9
  t21 := Tryd.underlying21
  a21 := Tryd.isAgg21
  z21 := Tryd.sizeOf21
  v21 := Tryd.zeroValue21
  t31 := Tryd.underlying22
  a31 := Tryd.isAgg22
  z31 := Tryd.sizeOf22
  v31 := Tryd.zeroValue22
  t46 := Tryd.underlying104
  a46 := Tryd.isAgg104
  z46 := Tryd.sizeOf104
  v46 := Tryd.zeroValue104
  t51 := Tryd.underlying127
  a51 := Tryd.isAgg127
  z51 := Tryd.sizeOf127
  v51 := Tryd.zeroValue127
  t105 := Tryd.underlying110
  a105 := Tryd.isAgg110
  z105 := Tryd.sizeOf110
  v105 := Tryd.zeroValue110
  t119 := Tryd.underlying135
  a119 := Tryd.isAgg135
  z119 := Tryd.sizeOf135
  t138 := Tryd.underlying137
  a138 := Tryd.isAgg137
  z138 := Tryd.sizeOf137
  v138 := Tryd.zeroValue137
  t139 := Tryd.underlying138
  a139 := Tryd.isAgg138
  z139 := Tryd.sizeOf138
  v139 := Tryd.zeroValue138
  t146 := Tryd.underlying139
  a146 := Tryd.isAgg139
  z146 := Tryd.sizeOf139
  v146 := Tryd.zeroValue139
  g1 := by kernel_rfl
  g3 := by kernel_rfl
  g4 := by kernel_rfl
theorem xs40 (fu : Nat) : SoundFn Tryd.prog (fun g => look g (tabG fu)) (tabOwn 40) 40 splitF ∧ okFn Tryd.prog 40 := ⟨split_sound x40_lay (by kernel_rfl) (m := decZ fu) rfl, ⟨Tryd.f40, Tryd.func40, by kernel_rfl, by kernel_rfl⟩⟩
def x54_ren : Go.Shelf.Ren := ⟨fun | 6 => 67 | 10 => 54 | n => n, fun | 0 => 0 | 3 => 3 | 4 => 4 | 22 => 22 | 23 => 9 | 25 => 28 | n => n, fun | n => n⟩
theorem x54_lay : SlLaysH.n10 Tryd.prog x54_ren where
  mixed := by kernel_rfl
  f6 := ⟨"slices.IndexFunc[[]string,string]", by decide, Tryd.func67.trans (congrArg some (by kernel_rfl))⟩
  f10 := ⟨"slices.DeleteFunc[[]string,string]", by decide, Tryd.func54.trans (congrArg some (by kernel_rfl))⟩
  t0 := Tryd.underlying0
  a0 := Tryd.isAgg0
  z0 := Tryd.sizeOf0
  v0 := Tryd.zeroValue0
  t3 := Tryd.underlying3
  a3 := Tryd.isAgg3
  z3 := Tryd.sizeOf3
  v3 := Tryd.zeroValue3
  t4 := Tryd.underlying4
  a4 := Tryd.isAgg4
  z4 := Tryd.sizeOf4
  v4 := Tryd.zeroValue4
  t22 := Tryd.underlying22
  a22 := Tryd.isAgg22
  z22 := Tryd.sizeOf22
  v22 := Tryd.zeroValue22
  a23 := Tryd.isAgg9
  z23 := Tryd.sizeOf9
  t25 := Tryd.underlying28
  a25 := Tryd.isAgg28
  z25 := Tryd.sizeOf28
  v25 := Tryd.zeroValue28
theorem giv55 (x : ByteArray) (W : World) : FnGives Tryd.prog 55 #[] #[.string x] (.bool (x.data.toList == [])) W := by
  show Calls Tryd.prog 55 #[.string x] W _
  go_enter Tryd.func55, Tryd.ntmps55
  go_wp2
  all_goals (go_ret; exact ⟨by rw [Go.ByteArray.toList_eq]; cases x.data.toList <;> rfl, 0, rfl⟩)
theorem xs54 (fu : Nat) : SoundFn Tryd.prog (fun g => look g (tabG fu)) (tabOwn 54) 54 (deleteF 55 fun x => x == []) ∧ okFn Tryd.prog 54 := ⟨delete_sound x54_lay (g := 55) giv55 (enters_of Tryd.func55 (by kernel_rfl) rfl) Tryd.zeroValue9, ⟨Tryd.f54, Tryd.func54, by kernel_rfl, by kernel_rfl⟩⟩
theorem tabOk (fu : Nat) : TabOk Tryd.prog (tab fu) := recTab_ok (tabOk_ofG (l := tabL) (x := tabX) (by kernel_rfl) ⟨is53, is29, is8, is30, is9, is31, is10, is56, is32, is11, is33, is12, is3, trivial⟩ ⟨xs40 fu, xs54 fu, trivial⟩ (gs := tabG fu) (by rfl)) (recR_fn fu) fu
attribute [local congr] ite_cong2 run_cg runR_cg plug_cg contV_cg contH_cg contT_cg contF_cg guardR_cg condX_cg evcA_cg evcB_cg evcC_cg evcE_cg evcH_cg levA_cg condJX_cg
def spec_l1Cut_u4 (a37 : List (List UInt8)) (a38 : List UInt8) (a39 a40 a41 : Int) : Option (Bool) :=
  if (a41 == (a38.length : Int)) = true then some true
  else (getI a38 a41).bind fun x42 =>
    some (((x42.toNat : Int) == a39))
def spec_l1Cut_u5 (a44 : List (List UInt8)) (a45 : List UInt8) (a46 a47 a48 : Int) (a49 : Bool) : Option ((List (List UInt8)) × Int) :=
  if a49 = true then (subI a45 a47 a48).bind fun x50 =>
    if (okApp 16 ((a44 ++ ([x50]))).length) = true then some (((a44 ++ ([x50])), (IntKind.i64.wrap (a48 + 1))))
    else none
  else some ((a44, a47))
def spec_l1Cut_u6 (a32 : List (List UInt8)) (a33 : List UInt8) (a34 a35 a36 : Int) : Option ((List (List UInt8)) × Int) :=
  (spec_l1Cut_u4 a32 a33 a34 a35 a36).bind fun y43 =>
  (spec_l1Cut_u5 a32 a33 a34 a35 a36 y43).bind fun y51 =>
  some ((y51.1, y51.2))
def spec_l1Cut_s7 (a28 : List UInt8) (a29 : Int) : ((List (List UInt8)) × Int × Int) → Option (((List (List UInt8)) × Int × Int) ⊕ ((List (List UInt8)))) := fun ⟨a27, a30, a31⟩ =>
  if (decide (a31 ≤ (a28.length : Int))) = true then (spec_l1Cut_u6 a27 a28 a29 a30 a31).bind fun y52 =>
    some ((.inl ((y52.1, y52.2, (IntKind.i64.wrap (a31 + 1))))))
  else some ((.inr a27))
def spec_l1Cut (p0 : List UInt8) (p1 : Int) : Option ((List (List UInt8))) :=
  (loopO (spec_l1Cut_s7 p0 p1) (([], 0, 0))).bind fun y53 =>
  some y53
@[go_sem] theorem spec_l1Cut_u4_ok {β : Type} (fu n : Nat) (K : List (Kont β)) (a37 : List (List UInt8)) (a38 : List UInt8) (a39 a40 a41 : Int) : run ⟨(tab fu).own, lev (tab fu) n, (tab fu).gl⟩ K c53_u4 ⟨[(0, .val (.str a38)), (1, .val (.int .u8 a39)), (5, .sl 200000050 0 a37.length), (6, .val (.int .i64 a40)), (7, .val (.int .i64 a41))], [(200000050, .row false 1 (rowE eS a37))], 36⟩ = (spec_l1Cut_u4 a37 a38 a39 a40 a41).bind (fun t => plug ⟨(tab fu).own, lev (tab fu) n, (tab fu).gl⟩ K .normal ⟨[(0, .val (.str a38)), (1, .val (.int .u8 a39)), (5, .sl 200000050 0 a37.length), (6, .val (.int .i64 a40)), (7, .val (.int .i64 a41)), (25, .val (.bool t))], [(200000050, .row false 1 (rowE eS a37))], 36⟩) := by
  unfold c53_u4
  simp +contextual -implicitDefEqProofs (maxSteps := 99999999) only [spec_l1Cut_u4, subI, go_sem] <;> rfl
@[go_sem] theorem spec_l1Cut_u5_ok {β : Type} (fu n : Nat) (K : List (Kont β)) (a44 : List (List UInt8)) (a45 : List UInt8) (a46 a47 a48 : Int) (a49 : Bool) : run ⟨(tab fu).own, lev (tab fu) n, (tab fu).gl⟩ K c53_u5 ⟨[(0, .val (.str a45)), (1, .val (.int .u8 a46)), (5, .sl 200000050 0 a44.length), (6, .val (.int .i64 a47)), (7, .val (.int .i64 a48)), (25, .val (.bool a49))], [(200000050, .row false 1 (rowE eS a44))], 36⟩ = (spec_l1Cut_u5 a44 a45 a46 a47 a48 a49).bind (fun t => plug ⟨(tab fu).own, lev (tab fu) n, (tab fu).gl⟩ K .normal ⟨[(0, .val (.str a45)), (1, .val (.int .u8 a46)), (5, .sl 200000050 0 t.1.length), (6, .val (.int .i64 t.2)), (7, .val (.int .i64 a48))], [(200000050, .row false 1 (rowE eS t.1))], 36⟩) := by
  unfold c53_u5
  simp +contextual -implicitDefEqProofs (maxSteps := 99999999) only [spec_l1Cut_u5, subI, go_sem] <;> rfl
@[go_sem] theorem spec_l1Cut_u6_ok {β : Type} (fu n : Nat) (K : List (Kont β)) (a32 : List (List UInt8)) (a33 : List UInt8) (a34 a35 a36 : Int) : run ⟨(tab fu).own, lev (tab fu) n, (tab fu).gl⟩ K c53_u6 ⟨[(0, .val (.str a33)), (1, .val (.int .u8 a34)), (5, .sl 200000050 0 a32.length), (6, .val (.int .i64 a35)), (7, .val (.int .i64 a36))], [(200000050, .row false 1 (rowE eS a32))], 36⟩ = (spec_l1Cut_u6 a32 a33 a34 a35 a36).bind (fun t => plug ⟨(tab fu).own, lev (tab fu) n, (tab fu).gl⟩ K .normal ⟨[(0, .val (.str a33)), (1, .val (.int .u8 a34)), (5, .sl 200000050 0 t.1.length), (6, .val (.int .i64 t.2)), (7, .val (.int .i64 a36))], [(200000050, .row false 1 (rowE eS t.1))], 36⟩) := by
  unfold c53_u6
  simp +contextual -implicitDefEqProofs (maxSteps := 99999999) only [spec_l1Cut_u6, subI, go_sem] <;> rfl
@[go_sem] theorem spec_l1Cut_s7_ok {β : Type} (fu n : Nat) (K : List (Kont β)) (a27 : List (List UInt8)) (a28 : List UInt8) (a29 a30 a31 : Int) : run ⟨(tab fu).own, lev (tab fu) n, (tab fu).gl⟩ K (.loop c53_u7) ⟨[(0, .val (.str a28)), (1, .val (.int .u8 a29)), (5, .sl 200000050 0 a27.length), (6, .val (.int .i64 a30)), (7, .val (.int .i64 a31))], [(200000050, .row false 1 (rowE eS a27))], 36⟩ = (loopO (spec_l1Cut_s7 a28 a29) ((a27, a30, a31))).bind (fun t => plug ⟨(tab fu).own, lev (tab fu) n, (tab fu).gl⟩ K (.exit 0) ⟨[(5, .sl 200000050 0 t.length)], [(200000050, .row false 1 (rowE eS t))], 36⟩) := by
  refine loop_run (C := ⟨(tab fu).own, lev (tab fu) n, (tab fu).gl⟩) (K := K) (c := c53_u7) (spec_l1Cut_s7 a28 a29) (fun s => ⟨[(0, .val (.str a28)), (1, .val (.int .u8 a29)), (5, .sl 200000050 0 s.1.length), (6, .val (.int .i64 s.2.1)), (7, .val (.int .i64 s.2.2))], [(200000050, .row false 1 (rowE eS s.1))], 36⟩) (fun t => plug ⟨(tab fu).own, lev (tab fu) n, (tab fu).gl⟩ K (.exit 0) ⟨[(5, .sl 200000050 0 t.length)], [(200000050, .row false 1 (rowE eS t))], 36⟩) (fun k s => ?_) ((a27, a30, a31))
  obtain ⟨a27, a30, a31⟩ := s
  unfold c53_u7
  simp +contextual -implicitDefEqProofs (maxSteps := 99999999) only [spec_l1Cut_s7, subI, go_sem] <;> rfl
@[go_sem] theorem spec_l1Cut_s7_ok_e {β : Type} (fu n : Nat) (K : List (Kont β)) (a28 : List UInt8) (a29 a30 a31 : Int) : run ⟨(tab fu).own, lev (tab fu) n, (tab fu).gl⟩ K (.loop c53_u7) ⟨[(0, .val (.str a28)), (1, .val (.int .u8 a29)), (5, .sl 200000050 0 0), (6, .val (.int .i64 a30)), (7, .val (.int .i64 a31))], [(200000050, .row false 1 [])], 36⟩ = (loopO (spec_l1Cut_s7 a28 a29) (([], a30, a31))).bind (fun t => plug ⟨(tab fu).own, lev (tab fu) n, (tab fu).gl⟩ K (.exit 0) ⟨[(5, .sl 200000050 0 t.length)], [(200000050, .row false 1 (rowE eS t))], 36⟩) := spec_l1Cut_s7_ok fu n K [] a28 a29 a30 a31
@[go_sem] theorem spec_l1Cut_ok (fu n : Nat) (q0_0 : List UInt8) (q1_0 : Int) : lev (tab fu) (n + 1) 53 [.str q0_0, .int .u8 q1_0] = (spec_l1Cut q0_0 q1_0).map fun r => (.ow 1 (rowE eS r), [.gone, .gone]) := by
  rw [lev_st (vc := c53) (nt := 36) (rs := [(4, none)]) ((tab_ext _ _ rfl).trans rfl) rfl (Nat.le_of_ble_eq_true rfl)]
  unfold c53
  simp +contextual -implicitDefEqProofs (maxSteps := 99999999) only [spec_l1Cut, subI, go_sem] <;> rfl
def spec_l22Words_u3 (a23 : List (List UInt8)) (a24 : List (List UInt8)) (a25 : Int) (a26 : Bool) : Option ((List (List UInt8))) :=
  if a26 = true then (getI a24 a25).bind fun _ =>
    (a24[a25.toNat]?).bind fun x27 =>
    if (okApp 16 ((a23 ++ ([x27]))).length) = true then some ((a23 ++ ([x27])))
    else none
  else some a23
def spec_l22Words_u4 (a19 : List (List UInt8)) (a20 : List (List UInt8)) (a21 : Int) : Option ((List (List UInt8))) :=
  (getI a20 a21).bind fun _ =>
  (a20[a21.toNat]?).bind fun x22 =>
  (spec_l22Words_u3 a19 a20 a21 ((decide ((x22.length : Int) > 0)))).bind fun y28 =>
  some y28
def spec_l22Words_s5 (a17 : List (List UInt8)) : ((List (List UInt8)) × Int) → Option (((List (List UInt8)) × Int) ⊕ ((List (List UInt8)))) := fun ⟨a16, a18⟩ =>
  if (decide (a18 < (a17.length : Int))) = true then (spec_l22Words_u4 a16 a17 a18).bind fun y29 =>
    some ((.inl ((y29, (IntKind.i64.wrap (a18 + 1))))))
  else some ((.inr a16))
def spec_l22Words (p0 : List UInt8) : Option ((List (List UInt8))) :=
  (spec_l1Cut p0 32).bind fun r1 =>
  (loopO (spec_l22Words_s5 r1) (([], 0))).bind fun y30 =>
  some y30
@[go_sem] theorem spec_l22Words_u3_ok {β : Type} (fu n : Nat) (K : List (Kont β)) (a23 : List (List UInt8)) (a24 : List (List UInt8)) (a25 : Int) (a26 : Bool) : run ⟨(tab fu).own, lev (tab fu) (n + 1), (tab fu).gl⟩ K c29_u3 ⟨[(3, .sl 200000030 0 a23.length), (4, .sl 200000040 0 a24.length), (5, .val (.int .i64 a25)), (20, .val (.bool a26))], [(200000030, .row false 1 (rowE eS a23)), (200000040, .row false 1 (rowE eS a24))], 29⟩ = (spec_l22Words_u3 a23 a24 a25 a26).bind (fun t => plug ⟨(tab fu).own, lev (tab fu) (n + 1), (tab fu).gl⟩ K .normal ⟨[(3, .sl 200000030 0 t.length), (4, .sl 200000040 0 a24.length), (5, .val (.int .i64 a25))], [(200000030, .row false 1 (rowE eS t)), (200000040, .row false 1 (rowE eS a24))], 29⟩) := by
  unfold c29_u3
  simp +contextual -implicitDefEqProofs (maxSteps := 99999999) only [spec_l22Words_u3, subI, go_sem] <;> rfl
@[go_sem] theorem spec_l22Words_u4_ok {β : Type} (fu n : Nat) (K : List (Kont β)) (a19 : List (List UInt8)) (a20 : List (List UInt8)) (a21 : Int) : run ⟨(tab fu).own, lev (tab fu) (n + 1), (tab fu).gl⟩ K c29_u4 ⟨[(3, .sl 200000030 0 a19.length), (4, .sl 200000040 0 a20.length), (5, .val (.int .i64 a21))], [(200000030, .row false 1 (rowE eS a19)), (200000040, .row false 1 (rowE eS a20))], 29⟩ = (spec_l22Words_u4 a19 a20 a21).bind (fun t => plug ⟨(tab fu).own, lev (tab fu) (n + 1), (tab fu).gl⟩ K .normal ⟨[(3, .sl 200000030 0 t.length), (4, .sl 200000040 0 a20.length), (5, .val (.int .i64 a21))], [(200000030, .row false 1 (rowE eS t)), (200000040, .row false 1 (rowE eS a20))], 29⟩) := by
  unfold c29_u4
  simp +contextual -implicitDefEqProofs (maxSteps := 99999999) only [spec_l22Words_u4, subI, go_sem] <;> rfl
@[go_sem] theorem spec_l22Words_s5_ok {β : Type} (fu n : Nat) (K : List (Kont β)) (a16 : List (List UInt8)) (a17 : List (List UInt8)) (a18 : Int) : run ⟨(tab fu).own, lev (tab fu) (n + 1), (tab fu).gl⟩ K (.loop c29_u5) ⟨[(3, .sl 200000030 0 a16.length), (4, .sl 200000040 0 a17.length), (5, .val (.int .i64 a18))], [(200000030, .row false 1 (rowE eS a16)), (200000040, .row false 1 (rowE eS a17))], 29⟩ = (loopO (spec_l22Words_s5 a17) ((a16, a18))).bind (fun t => plug ⟨(tab fu).own, lev (tab fu) (n + 1), (tab fu).gl⟩ K (.exit 0) ⟨[(3, .sl 200000030 0 t.length)], [(200000030, .row false 1 (rowE eS t))], 29⟩) := by
  refine loop_run (C := ⟨(tab fu).own, lev (tab fu) (n + 1), (tab fu).gl⟩) (K := K) (c := c29_u5) (spec_l22Words_s5 a17) (fun s => ⟨[(3, .sl 200000030 0 s.1.length), (4, .sl 200000040 0 a17.length), (5, .val (.int .i64 s.2))], [(200000030, .row false 1 (rowE eS s.1)), (200000040, .row false 1 (rowE eS a17))], 29⟩) (fun t => plug ⟨(tab fu).own, lev (tab fu) (n + 1), (tab fu).gl⟩ K (.exit 0) ⟨[(3, .sl 200000030 0 t.length)], [(200000030, .row false 1 (rowE eS t))], 29⟩) (fun k s => ?_) ((a16, a18))
  obtain ⟨a16, a18⟩ := s
  unfold c29_u5
  simp +contextual -implicitDefEqProofs (maxSteps := 99999999) only [spec_l22Words_s5, subI, go_sem] <;> rfl
@[go_sem] theorem spec_l22Words_s5_ok_e {β : Type} (fu n : Nat) (K : List (Kont β)) (a17 : List (List UInt8)) (a18 : Int) : run ⟨(tab fu).own, lev (tab fu) (n + 1), (tab fu).gl⟩ K (.loop c29_u5) ⟨[(3, .sl 200000030 0 0), (4, .sl 200000040 0 a17.length), (5, .val (.int .i64 a18))], [(200000030, .row false 1 []), (200000040, .row false 1 (rowE eS a17))], 29⟩ = (loopO (spec_l22Words_s5 a17) (([], a18))).bind (fun t => plug ⟨(tab fu).own, lev (tab fu) (n + 1), (tab fu).gl⟩ K (.exit 0) ⟨[(3, .sl 200000030 0 t.length)], [(200000030, .row false 1 (rowE eS t))], 29⟩) := spec_l22Words_s5_ok fu n K [] a17 a18
@[go_sem] theorem spec_l22Words_ok (fu n : Nat) (q0_0 : List UInt8) : lev (tab fu) (n + 2) 29 [.str q0_0] = (spec_l22Words q0_0).map fun r => (.ow 1 (rowE eS r), [.gone]) := by
  rw [lev_st (vc := c29) (nt := 29) (rs := [(2, none)]) ((tab_ext _ _ rfl).trans rfl) rfl (Nat.le_of_ble_eq_true rfl)]
  unfold c29
  simp +contextual -implicitDefEqProofs (maxSteps := 99999999) only [spec_l22Words, subI, go_sem] <;> rfl
def spec_WordsOf (p0 : List UInt8) : Option (SWordsResult) :=
  if (decide ((p0.length : Int) > 2000)) = true then some ((SWordsResult.mk 2 ([])))
  else (spec_l22Words p0).bind fun r1 =>
    some ((SWordsResult.mk 0 r1))
@[go_sem] theorem spec_WordsOf_ok (fu n : Nat) (q0_0 : List UInt8) : lev (tab fu) (n + 3) 8 [.str q0_0] = (spec_WordsOf q0_0).map fun r => (.agg [.int .i64 r.Code, .ow 1 (rowE eS r.Words)], [.gone]) := by
  rw [lev_st (vc := c8) (nt := 10) (rs := [(2, some (some 2))]) ((tab_ext _ _ rfl).trans rfl) rfl (Nat.le_of_ble_eq_true rfl)]
  unfold c8
  simp +contextual -implicitDefEqProofs (maxSteps := 99999999) only [spec_WordsOf, subI, go_sem] <;> rfl
def strings_Split (p0 p1 : List UInt8) : Option (List (List UInt8)) := if okSplit p0 p1 = true then some (splitL p0 p1) else none
@[go_sem] theorem strings_Split_ok (fu n : Nat) (p q : List UInt8) : lev (tab fu) (n + 1) 40 [.str p, .str q] = (strings_Split p q).map fun r => (.ow 1 (rowE eS r), [.gone, .gone]) := by
  rw [lev_ext (F := splitF) ((tab_ext _ _ rfl).trans rfl)]
  unfold splitF strings_Split
  simp only []
  split <;> rfl
def slices_DeleteFunc_string (p0 : List (List UInt8)) : Option (List (List UInt8)) := if okDel p0 = true then some (p0.filter fun x => !(x == [])) else none
@[go_sem] theorem slices_DeleteFunc_string_ok (fu n : Nat) (q : List (List UInt8)) : lev (tab fu) (n + 1) 54 [.ow 1 (rowE eS q), .fn 55 []] = (slices_DeleteFunc_string q).map fun r => (.ow 1 (rowE eS r), [.gone, .gone]) := by
  rw [lev_ext (F := (deleteF 55 fun x => x == [])) ((tab_ext _ _ rfl).trans rfl)]
  unfold deleteF slices_DeleteFunc_string
  simp only [strsOf_row, true_and]
  split <;> rfl
def impl_wordsOf (p0 : List UInt8) : Option ((List (List UInt8))) :=
  (strings_Split p0 ([32])).bind fun r1 =>
  (slices_DeleteFunc_string r1).bind fun r2 =>
  some r2
@[go_sem] theorem impl_wordsOf_ok (fu n : Nat) (q0_0 : List UInt8) : lev (tab fu) (n + 2) 30 [.str q0_0] = (impl_wordsOf q0_0).map fun r => (.ow 1 (rowE eS r), [.gone]) := by
  rw [lev_st (vc := c30) (nt := 6) (rs := [(2, none)]) ((tab_ext _ _ rfl).trans rfl) rfl (Nat.le_of_ble_eq_true rfl)]
  unfold c30
  simp +contextual -implicitDefEqProofs (maxSteps := 99999999) only [impl_wordsOf, subI, go_sem] <;> rfl
def impl_WordsOf (p0 : List UInt8) : Option (SWordsResult) :=
  if (decide ((p0.length : Int) > 2000)) = true then some ((SWordsResult.mk 2 ([])))
  else (impl_wordsOf p0).bind fun r1 =>
    some ((SWordsResult.mk 0 r1))
@[go_sem] theorem impl_WordsOf_ok (fu n : Nat) (q0_0 : List UInt8) : lev (tab fu) (n + 3) 9 [.str q0_0] = (impl_WordsOf q0_0).map fun r => (.agg [.int .i64 r.Code, .ow 1 (rowE eS r.Words)], [.gone]) := by
  rw [lev_st (vc := c9) (nt := 10) (rs := [(2, some (some 2))]) ((tab_ext _ _ rfl).trans rfl) rfl (Nat.le_of_ble_eq_true rfl)]
  unfold c9
  simp +contextual -implicitDefEqProofs (maxSteps := 99999999) only [impl_WordsOf, subI, go_sem] <;> rfl
def laws_eqStringS_s1 (a6 : List (List UInt8)) (a7 : List (List UInt8)) : Int → Option ((Int) ⊕ (Unit ⊕ Unit)) := fun a8 =>
  if (decide (a8 < (a6.length : Int))) = true then (getI a6 a8).bind fun x9 =>
    (getI a7 a8).bind fun x10 =>
    if (x9 == x10) = true then some ((.inl ((IntKind.i64.wrap (a8 + 1)))))
    else some ((.inr ((.inr (())))))
  else some ((.inr ((.inl (())))))
def laws_eqStringS (p0 : List (List UInt8)) (p1 : List (List UInt8)) : Option (Bool) :=
  if ((p0.length : Int) != (p1.length : Int)) = true then some false
  else (loopO (laws_eqStringS_s1 p0 p1) 0).bind fun t => (Sum.elim (fun y11 => some true)
     (fun y12 => some false)) t
@[go_sem] theorem laws_eqStringS_s1_ok {β : Type} (fu n : Nat) (K : List (Kont β)) (a6 : List (List UInt8)) (a7 : List (List UInt8)) (a8 : Int) : run ⟨(tab fu).own, lev (tab fu) n, (tab fu).gl⟩ K (.loop c31_u1) ⟨[(0, .val (.sh .lent 1 (rowE eS a6))), (1, .val (.sh .lent 1 (rowE eS a7))), (5, .val (.int .i64 a8))], [], 26⟩ = (loopO (laws_eqStringS_s1 a6 a7) a8).bind (fun t => (Sum.elim (fun t => plug ⟨(tab fu).own, lev (tab fu) n, (tab fu).gl⟩ K (.exit 0) ⟨[], [], 26⟩) (fun t => plug ⟨(tab fu).own, lev (tab fu) n, (tab fu).gl⟩ K .ret ⟨[(4, .val (.bool false))], [], 26⟩)) t) := by
  refine loop_run (C := ⟨(tab fu).own, lev (tab fu) n, (tab fu).gl⟩) (K := K) (c := c31_u1) (laws_eqStringS_s1 a6 a7) (fun s => ⟨[(0, .val (.sh .lent 1 (rowE eS a6))), (1, .val (.sh .lent 1 (rowE eS a7))), (5, .val (.int .i64 s))], [], 26⟩) (fun t => (Sum.elim (fun t => plug ⟨(tab fu).own, lev (tab fu) n, (tab fu).gl⟩ K (.exit 0) ⟨[], [], 26⟩) (fun t => plug ⟨(tab fu).own, lev (tab fu) n, (tab fu).gl⟩ K .ret ⟨[(4, .val (.bool false))], [], 26⟩)) t) (fun k s => ?_) a8
  unfold c31_u1
  simp +contextual -implicitDefEqProofs (maxSteps := 99999999) only [laws_eqStringS_s1, subI, go_sem] <;> rfl
@[go_sem] theorem laws_eqStringS_ok (fu n : Nat) (q0_0 : List (List UInt8)) (q1_0 : List (List UInt8)) : lev (tab fu) (n + 1) 31 [.sh .lent 1 (rowE eS q0_0), .sh .lent 1 (rowE eS q1_0)] = (laws_eqStringS q0_0 q1_0).map fun r => (.bool r, [.gone, .gone]) := by
  rw [lev_st (vc := c31) (nt := 26) (rs := [(4, none)]) ((tab_ext _ _ rfl).trans rfl) rfl (Nat.le_of_ble_eq_true rfl)]
  unfold c31
  simp +contextual -implicitDefEqProofs (maxSteps := 99999999) only [laws_eqStringS, subI, go_sem] <;> rfl
def laws_eqWordsResult (p0 p1 : SWordsResult) : Option (Bool) :=
  if (p0.Code != p1.Code) = true then some false
  else (laws_eqStringS p0.Words p1.Words).bind fun r1 =>
    if r1 = true then some true
    else some false
@[go_sem] theorem laws_eqWordsResult_ok (fu n : Nat) (q0_0 : Int) (q0_1 : List (List UInt8)) (q1_0 : Int) (q1_1 : List (List UInt8)) : lev (tab fu) (n + 2) 10 [.agg [.int .i64 q0_0, .sh .lent 1 (rowE eS q0_1)], .agg [.int .i64 q1_0, .sh .lent 1 (rowE eS q1_1)]] = (laws_eqWordsResult (SWordsResult.mk q0_0 q0_1) (SWordsResult.mk q1_0 q1_1)).map fun r => (.bool r, [.gone, .gone]) := by
  rw [lev_st (vc := c10) (nt := 16) (rs := [(4, none)]) ((tab_ext _ _ rfl).trans rfl) rfl (Nat.le_of_ble_eq_true rfl)]
  unfold c10
  simp +contextual -implicitDefEqProofs (maxSteps := 99999999) only [laws_eqWordsResult, subI, go_sem] <;> rfl
def laws_markText_s1 : (Int × (List UInt8)) → Option ((Int × (List UInt8)) ⊕ ((List UInt8))) := fun ⟨a1, a2⟩ =>
  if (decide (a1 > 0)) = true then (bytesI ([(IntKind.u8.wrap (IntKind.i64.wrap (48 + (a1.tmod (10 : Int)))))])).bind fun x3 =>
    if x3.length + a2.length ≤ 9223372036854775807 then some ((.inl (((IntKind.i64.wrap (a1.tdiv (10 : Int))), (x3 ++ a2)))))
    else none
  else some ((.inr a2))
def laws_markText (p0 : Int) : Option ((List UInt8)) :=
  if (decide (p0 ≤ 0)) = true then some ([109, 48])
  else (loopO laws_markText_s1 ((p0, []))).bind fun y4 =>
    if ([109] : List UInt8).length + y4.length ≤ 9223372036854775807 then some ((([109] : List UInt8) ++ y4))
    else none
@[go_sem] theorem laws_markText_s1_ok {β : Type} (fu n : Nat) (K : List (Kont β)) (a1 : Int) (a2 : List UInt8) : run ⟨(tab fu).own, lev (tab fu) n, (tab fu).gl⟩ K (.loop c56_u1) ⟨[(0, .val (.int .i64 a1)), (3, .val (.str a2))], [], 20⟩ = (loopO laws_markText_s1 ((a1, a2))).bind (fun t => plug ⟨(tab fu).own, lev (tab fu) n, (tab fu).gl⟩ K (.exit 0) ⟨[(3, .val (.str t))], [], 20⟩) := by
  refine loop_run (C := ⟨(tab fu).own, lev (tab fu) n, (tab fu).gl⟩) (K := K) (c := c56_u1) (laws_markText_s1) (fun s => ⟨[(0, .val (.int .i64 s.1)), (3, .val (.str s.2))], [], 20⟩) (fun t => plug ⟨(tab fu).own, lev (tab fu) n, (tab fu).gl⟩ K (.exit 0) ⟨[(3, .val (.str t))], [], 20⟩) (fun k s => ?_) ((a1, a2))
  obtain ⟨a1, a2⟩ := s
  unfold c56_u1
  simp +contextual -implicitDefEqProofs (maxSteps := 99999999) only [laws_markText_s1, subI, go_sem] <;> rfl
@[go_sem] theorem laws_markText_s1_ok_e {β : Type} (fu n : Nat) (K : List (Kont β)) (a1 : Int) : run ⟨(tab fu).own, lev (tab fu) n, (tab fu).gl⟩ K (.loop c56_u1) ⟨[(0, .val (.int .i64 a1)), (3, .val (.str ([])))], [], 20⟩ = (loopO laws_markText_s1 ((a1, []))).bind (fun t => plug ⟨(tab fu).own, lev (tab fu) n, (tab fu).gl⟩ K (.exit 0) ⟨[(3, .val (.str t))], [], 20⟩) := laws_markText_s1_ok fu n K a1 []
@[go_sem] theorem laws_markText_ok (fu n : Nat) (q0_0 : Int) : lev (tab fu) (n + 1) 56 [.int .i64 q0_0] = (laws_markText q0_0).map fun r => (.str r, [.gone]) := by
  rw [lev_st (vc := c56) (nt := 20) (rs := [(2, none)]) ((tab_ext _ _ rfl).trans rfl) rfl (Nat.le_of_ble_eq_true rfl)]
  unfold c56
  simp +contextual -implicitDefEqProofs (maxSteps := 99999999) only [laws_markText, subI, go_sem] <;> rfl
def laws_markStringS_s1 : ((List (List UInt8)) × Int × Int) → Option (((List (List UInt8)) × Int × Int) ⊕ ((List (List UInt8)) × Int)) := fun ⟨a1, a2, a3⟩ =>
  if (decide (a3 < (a1.length : Int))) = true then (laws_markText a2).bind fun r4 =>
    (getI a1 a3).bind fun _ =>
    (a1[a3.toNat]?).bind fun _ =>
    some ((.inl (((a1.set a3.toNat r4), (IntKind.i64.wrap (a2 + 1)), (IntKind.i64.wrap (a3 + 1))))))
  else some ((.inr ((a1, a2))))
def laws_markStringS (p0 : List (List UInt8)) (p1 : Int) : Option (Int × (List (List UInt8))) :=
  (loopO laws_markStringS_s1 ((p0, p1, 0))).bind fun y6 =>
  some ((y6.2, y6.1))
@[go_sem] theorem laws_markStringS_s1_ok {β : Type} (fu n : Nat) (K : List (Kont β)) (a1 : List (List UInt8)) (a2 a3 : Int) : run ⟨(tab fu).own, lev (tab fu) (n + 1), (tab fu).gl⟩ K (.loop c32_u1) ⟨[(0, .sl 1000000000 0 a1.length), (1, .val (.int .i64 a2)), (5, .val (.int .i64 a3))], [(1000000000, .row true 1 (rowE eS a1))], 20⟩ = (loopO laws_markStringS_s1 ((a1, a2, a3))).bind (fun t => plug ⟨(tab fu).own, lev (tab fu) (n + 1), (tab fu).gl⟩ K (.exit 0) ⟨[(1, .val (.int .i64 t.2))], [(1000000000, .row true 1 (rowE eS t.1))], 20⟩) := by
  refine loop_run (C := ⟨(tab fu).own, lev (tab fu) (n + 1), (tab fu).gl⟩) (K := K) (c := c32_u1) (laws_markStringS_s1) (fun s => ⟨[(0, .sl 1000000000 0 s.1.length), (1, .val (.int .i64 s.2.1)), (5, .val (.int .i64 s.2.2))], [(1000000000, .row true 1 (rowE eS s.1))], 20⟩) (fun t => plug ⟨(tab fu).own, lev (tab fu) (n + 1), (tab fu).gl⟩ K (.exit 0) ⟨[(1, .val (.int .i64 t.2))], [(1000000000, .row true 1 (rowE eS t.1))], 20⟩) (fun k s => ?_) ((a1, a2, a3))
  obtain ⟨a1, a2, a3⟩ := s
  unfold c32_u1
  simp +contextual -implicitDefEqProofs (maxSteps := 99999999) only [laws_markStringS_s1, subI, go_sem] <;> rfl
@[go_sem] theorem laws_markStringS_ok (fu n : Nat) (q0_0 : List (List UInt8)) (q1_0 : Int) : lev (tab fu) (n + 2) 32 [.ow 1 (rowE eS q0_0), .int .i64 q1_0] = (laws_markStringS q0_0 q1_0).map fun r => (.int .i64 r.1, [.ow 1 (rowE eS r.2), .gone]) := by
  rw [lev_st (vc := c32) (nt := 20) (rs := [(4, none)]) ((tab_ext _ _ rfl).trans rfl) rfl (Nat.le_of_ble_eq_true rfl)]
  unfold c32
  simp +contextual -implicitDefEqProofs (maxSteps := 99999999) only [laws_markStringS, subI, go_sem] <;> rfl
def laws_markWordsResult_o (p0 : SWordsResult) (p1 : Int) : Option (Int × SWordsResult) :=
  (laws_markStringS p0.Words p1).bind fun r1 =>
  if p0.Words.length = r1.2.length then some ((r1.1, (SWordsResult.mk p0.Code r1.2)))
  else none
@[go_sem] theorem laws_markWordsResult_o_ok (fu n : Nat) (q0_0 : Int) (q0_1 : List (List UInt8)) (q1_0 : Int) : lev (tab fu) (n + 3) 11 [.int .i64 q0_0, .ow 1 (rowE eS q0_1), .int .i64 q1_0] = (laws_markWordsResult_o (SWordsResult.mk q0_0 q0_1) q1_0).map fun r => (.int .i64 r.1, [.gone, .ow 1 (rowE eS r.2.Words), .gone]) := by
  rw [lev_st (vc := c11) (nt := 10) (rs := [(4, none)]) ((tab_ext _ _ rfl).trans rfl) rfl (Nat.le_of_ble_eq_true rfl)]
  unfold c11
  simp +contextual -implicitDefEqProofs (maxSteps := 99999999) only [laws_markWordsResult_o, subI, go_sem] <;> rfl
def laws_heldStringS_s1 (a6 : List (List UInt8)) : (Int × Int) → Option ((Int × Int) ⊕ (Int ⊕ Unit)) := fun ⟨a7, a8⟩ =>
  if (decide (a8 < (a6.length : Int))) = true then (getI a6 a8).bind fun x9 =>
    (laws_markText a7).bind fun r10 =>
    if (x9 == r10) = true then some ((.inl (((IntKind.i64.wrap (a7 + 1)), (IntKind.i64.wrap (a8 + 1))))))
    else some ((.inr ((.inr (())))))
  else some ((.inr ((.inl a7))))
def laws_heldStringS (p0 : List (List UInt8)) (p1 : Int) : Option (Int) :=
  (loopO (laws_heldStringS_s1 p0) ((p1, 0))).bind fun t => (Sum.elim (fun y11 => some y11)
   (fun y12 => some ((-1)))) t
@[go_sem] theorem laws_heldStringS_s1_ok {β : Type} (fu n : Nat) (K : List (Kont β)) (a6 : List (List UInt8)) (a7 a8 : Int) : run ⟨(tab fu).own, lev (tab fu) (n + 1), (tab fu).gl⟩ K (.loop c33_u1) ⟨[(0, .val (.sh .lent 1 (rowE eS a6))), (1, .val (.int .i64 a7)), (5, .val (.int .i64 a8))], [], 22⟩ = (loopO (laws_heldStringS_s1 a6) ((a7, a8))).bind (fun t => (Sum.elim (fun t => plug ⟨(tab fu).own, lev (tab fu) (n + 1), (tab fu).gl⟩ K (.exit 0) ⟨[(1, .val (.int .i64 t))], [], 22⟩) (fun t => plug ⟨(tab fu).own, lev (tab fu) (n + 1), (tab fu).gl⟩ K .ret ⟨[(4, .val (.int .i64 ((-1))))], [], 22⟩)) t) := by
  refine loop_run (C := ⟨(tab fu).own, lev (tab fu) (n + 1), (tab fu).gl⟩) (K := K) (c := c33_u1) (laws_heldStringS_s1 a6) (fun s => ⟨[(0, .val (.sh .lent 1 (rowE eS a6))), (1, .val (.int .i64 s.1)), (5, .val (.int .i64 s.2))], [], 22⟩) (fun t => (Sum.elim (fun t => plug ⟨(tab fu).own, lev (tab fu) (n + 1), (tab fu).gl⟩ K (.exit 0) ⟨[(1, .val (.int .i64 t))], [], 22⟩) (fun t => plug ⟨(tab fu).own, lev (tab fu) (n + 1), (tab fu).gl⟩ K .ret ⟨[(4, .val (.int .i64 ((-1))))], [], 22⟩)) t) (fun k s => ?_) ((a7, a8))
  obtain ⟨a7, a8⟩ := s
  unfold c33_u1
  simp +contextual -implicitDefEqProofs (maxSteps := 99999999) only [laws_heldStringS_s1, subI, go_sem] <;> rfl
@[go_sem] theorem laws_heldStringS_ok (fu n : Nat) (q0_0 : List (List UInt8)) (q1_0 : Int) : lev (tab fu) (n + 2) 33 [.sh .lent 1 (rowE eS q0_0), .int .i64 q1_0] = (laws_heldStringS q0_0 q1_0).map fun r => (.int .i64 r, [.gone, .gone]) := by
  rw [lev_st (vc := c33) (nt := 22) (rs := [(4, none)]) ((tab_ext _ _ rfl).trans rfl) rfl (Nat.le_of_ble_eq_true rfl)]
  unfold c33
  simp +contextual -implicitDefEqProofs (maxSteps := 99999999) only [laws_heldStringS, subI, go_sem] <;> rfl
def laws_heldWordsResult (p0 : SWordsResult) (p1 : Int) : Option (Int) :=
  (laws_heldStringS p0.Words p1).bind fun r1 =>
  if (decide (r1 < 0)) = true then some ((-1))
  else some r1
@[go_sem] theorem laws_heldWordsResult_ok (fu n : Nat) (q0_0 : Int) (q0_1 : List (List UInt8)) (q1_0 : Int) : lev (tab fu) (n + 3) 12 [.agg [.int .i64 q0_0, .sh .lent 1 (rowE eS q0_1)], .int .i64 q1_0] = (laws_heldWordsResult (SWordsResult.mk q0_0 q0_1) q1_0).map fun r => (.int .i64 r, [.gone, .gone]) := by
  rw [lev_st (vc := c12) (nt := 12) (rs := [(4, none)]) ((tab_ext _ _ rfl).trans rfl) rfl (Nat.le_of_ble_eq_true rfl)]
  unfold c12
  simp +contextual -implicitDefEqProofs (maxSteps := 99999999) only [laws_heldWordsResult, subI, go_sem] <;> rfl
def laws_FnExactWordsOf_u1 (a14 : Int) (a15 : List (List UInt8)) (a16 : Int) : Option (Bool) :=
  (laws_heldWordsResult ((SWordsResult.mk a14 a15)) 1).bind fun r17 =>
  if (decide (r17 < 0)) = true then some false
  else if (r17 != a16) = true then some false
    else some true
def laws_FnExactWordsOf_u2 (a5 : Int) (a6 : List (List UInt8)) (a7 : Int) (a8 : List (List UInt8)) (a9 : List UInt8) (a10 : Int) : Option (Bool) :=
  (laws_heldWordsResult ((SWordsResult.mk a7 a8)) 1).bind fun r11 =>
  if (decide (r11 < 0)) = true then some false
  else if (r11 != a10) = true then some false
    else (impl_WordsOf a9).bind fun r12 =>
      (laws_eqWordsResult r12 ((SWordsResult.mk a5 a6))).bind fun r13 =>
      if r13 = true then (laws_FnExactWordsOf_u1 a7 a8 a10).bind fun y18 =>
        some y18
      else some false
def laws_FnExactWordsOf (p0 : List UInt8) : Option (Bool) :=
  if (decide ((p0.length : Int) > 1048576)) = true then some true
  else (spec_WordsOf p0).bind fun r1 =>
    (impl_WordsOf p0).bind fun r2 =>
    (laws_eqWordsResult r2 r1).bind fun r3 =>
    if r3 = true then (laws_markWordsResult_o r2 1).bind fun r4 =>
      if r2.Words.length = r4.2.Words.length then (laws_FnExactWordsOf_u2 r1.Code r1.Words r2.Code r4.2.Words p0 r4.1).bind fun y19 =>
        some y19
      else none
    else some false
@[go_sem] theorem laws_FnExactWordsOf_u1_ok {β : Type} (fu n : Nat) (K : List (Kont β)) (a14 : Int) (a15 : List (List UInt8)) (a16 : Int) : run ⟨(tab fu).own, lev (tab fu) (n + 3), (tab fu).gl⟩ K c3_u1 ⟨[(4, .pt 200000040 0), (5, .val (.int .i64 a16))], [(200000040, .var false [.val (.int .i64 a14), .sl 200000041 0 a15.length]), (200000041, .row false 1 (rowE eS a15))], 44⟩ = (laws_FnExactWordsOf_u1 a14 a15 a16).bind (fun t => plug ⟨(tab fu).own, lev (tab fu) (n + 3), (tab fu).gl⟩ K .ret ⟨[(2, .val (.bool t))], [], 44⟩) := by
  unfold c3_u1
  simp +contextual -implicitDefEqProofs (maxSteps := 99999999) only [laws_FnExactWordsOf_u1, subI, go_sem] <;> rfl
@[go_sem] theorem laws_FnExactWordsOf_u2_ok {β : Type} (fu n : Nat) (K : List (Kont β)) (a5 : Int) (a6 : List (List UInt8)) (a7 : Int) (a8 : List (List UInt8)) (a9 : List UInt8) (a10 : Int) : run ⟨(tab fu).own, lev (tab fu) (n + 3), (tab fu).gl⟩ K c3_u2 ⟨[(0, .val (.str a9)), (3, .pt 200000030 0), (4, .pt 200000040 0), (5, .val (.int .i64 a10))], [(200000030, .var false [.val (.int .i64 a5), .sl 200000031 0 a6.length]), (200000031, .row false 1 (rowE eS a6)), (200000040, .var false [.val (.int .i64 a7), .sl 200000041 0 a8.length]), (200000041, .row false 1 (rowE eS a8))], 44⟩ = (laws_FnExactWordsOf_u2 a5 a6 a7 a8 a9 a10).bind (fun t => plug ⟨(tab fu).own, lev (tab fu) (n + 3), (tab fu).gl⟩ K .ret ⟨[(2, .val (.bool t))], [], 44⟩) := by
  unfold c3_u2
  simp +contextual -implicitDefEqProofs (maxSteps := 99999999) only [laws_FnExactWordsOf_u2, subI, go_sem] <;> rfl
@[go_sem] theorem laws_FnExactWordsOf_ok (fu n : Nat) (q0_0 : List UInt8) : lev (tab fu) (n + 4) 3 [.str q0_0] = (laws_FnExactWordsOf q0_0).map fun r => (.bool r, [.gone]) := by
  rw [lev_st (vc := c3) (nt := 44) (rs := [(2, none)]) ((tab_ext _ _ rfl).trans rfl) rfl (Nat.le_of_ble_eq_true rfl)]
  unfold c3
  simp +contextual -implicitDefEqProofs (maxSteps := 99999999) only [laws_FnExactWordsOf, subI, go_sem] <;> rfl
end
end FnExactWordsOf
end Go.Proofs.YtpioljlgmhehhaaDoor.Wm
