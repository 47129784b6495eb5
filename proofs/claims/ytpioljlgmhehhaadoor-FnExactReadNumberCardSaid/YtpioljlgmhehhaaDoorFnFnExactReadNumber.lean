/- What the functions behind FnExactReadNumber come to, on plain values: written by a program. -/
import Derived.Test.YtpioljlgmhehhaaDoorWmC
import Derived.Test.YtpioljlgmhehhaaDoorRows
set_option linter.unusedSimpArgs false
set_option linter.unusedVariables false
set_option maxRecDepth 100000
set_option maxHeartbeats 20000000
namespace Go.Proofs.YtpioljlgmhehhaaDoor.Wm
open Go Go.Proofs
namespace FnExactReadNumber
noncomputable section
structure SIntResult where
  Code : Int
  Value : Int
def SIntResult.cells (k : K) (s : SIntResult) : List D := [.int .i64 s.Code, .int .i64 s.Value]
attribute [go_sem] SIntResult.cells
def c37_u1 : Vc := (.region [mm 18 0, ii 19 (.bin .quo (.tmp 18) (ci 10)), mm 21 0, ii 22 (.bin .rem (.tmp 21) (ci 10)), ii 23 (.bin .add (ci 48) (.tmp 22)), ii 24 (.cvi .u8 (.tmp 23)), ii 20 (.call (.cst (.fn 37 [])) [(.tmp 19)]), ii 25 (.bsl 1 [.int .u8 0] 1 [⟨0, none, (.tmp 24)⟩]), ii 26 (.cvs (.tmp 25)), ii 27 (.bin .add (.tmp 20) (.tmp 26)), mm 2 27] [[mm 18 0, ii 19 (.bin .quo (.tmp 18) (ci 10)), mm 21 0, ii 22 (.bin .rem (.tmp 21) (ci 10)), ii 23 (.bin .add (ci 48) (.tmp 22)), ii 24 (.cvi .u8 (.tmp 23)), ii 25 (.bsl 1 [.int .u8 0] 1 [⟨0, none, (.tmp 24)⟩]), ii 26 (.cvs (.tmp 25)), ii 20 (.call (.cst (.fn 37 [])) [(.tmp 19)]), ii 27 (.bin .add (.tmp 20) (.tmp 26)), mm 2 27]] (sk [2]))
def c37 : Vc := (.seq (.region [ii 2 (.mov (.cst (.str ([]))))] [] (sk [0])) (.seq (.block 0 (.seq (.region [mm 4 0, ii 5 (.bin .lss (.tmp 4) (ci 0)), mm 3 5] [] (sk [0, 3])) (.cond (.tmp 3) (sk [0]) (sk [0]) (.seq (.region [mm 6 0, ii 7 (.un .neg (.tmp 6)), ii 8 (.call (.cst (.fn 37 [])) [(.tmp 7)]), ii 9 (.bin .add (.cst (.str ([45]))) (.tmp 8)), mm 2 9] [] (sk [2])) .ret) (.seq (.region [mm 11 0, ii 12 (.bin .lss (.tmp 11) (ci 10)), mm 10 12] [] (sk [0, 10])) (.cond (.tmp 10) (sk [0]) (sk [0]) (.seq (.region [mm 13 0, ii 14 (.bin .add (ci 48) (.tmp 13)), ii 15 (.cvi .u8 (.tmp 14)), ii 16 (.bsl 1 [.int .u8 0] 1 [⟨0, none, (.tmp 15)⟩]), ii 17 (.cvs (.tmp 16)), mm 2 17] [] (sk [2])) .ret) .skip))))) (.seq c37_u1 .ret)))
def c17_u1 : Vc := (.region [mm 8 0, ii 9 (.lens (.tmp 8)), ii 10 (.bin .gtr (.tmp 9) (ci 0)), mm 11 10, ⟨some 12, .mov (.tmp 0), some (11, true)⟩, ⟨some 13, .sidx (.tmp 12) (.cst (.int .i64 0)), some (11, true)⟩, ⟨some 14, .bin .eql (.tmp 13) (.cst (.int .u8 45)), some (11, true)⟩, ii 15 (.pick (.tmp 11) (.tmp 14) (.cst (.bool false)))] [] (sr [0, 2, 3, 4, 15] [(200000020, 200000020), (200000030, 200000030)]))
def c17_u2 : Vc := (.cond (.tmp 15) (sr [0, 2, 3] [(200000020, 200000020), (200000030, 200000030)]) (sr [0, 2, 3, 4] [(200000020, 200000020), (200000030, 200000030)]) (.region [ii 4 (.mov (ci 1))] [] (sr [0, 2, 3, 4] [(200000020, 200000020), (200000030, 200000030)])) .skip)
def c17_u3 : Vc := (.region [mm 16 0, ii 17 (.lens (.tmp 16)), mm 18 4, ii 19 (.bin .sub (.tmp 17) (.tmp 18)), ii 20 (.bin .lss (.tmp 19) (ci 1)), mm 21 20, ⟨some 22, .mov (.tmp 0), some (21, false)⟩, ⟨some 23, .lens (.tmp 22), some (21, false)⟩, ⟨some 24, .mov (.tmp 4), some (21, false)⟩, ⟨some 25, .bin .sub (.tmp 23) (.tmp 24), some (21, false)⟩, ⟨some 26, .bin .gtr (.tmp 25) (.cst (.int .i64 7)), some (21, false)⟩, ii 27 (.pick (.tmp 21) (.cst (.bool true)) (.tmp 26))] [] (sr [0, 2, 3, 4, 27] [(200000020, 200000020), (200000030, 200000030)]))
def c17_u5 : Vc := (.region [mm 36 0, mm 37 6, ii 38 (.sidx (.tmp 36) (.tmp 37)), ii 39 (.bin .lss (.tmp 38) (.cst (.int .u8 48))), mm 40 39, ⟨some 41, .mov (.tmp 0), some (40, false)⟩, ⟨some 42, .mov (.tmp 6), some (40, false)⟩, ⟨some 43, .sidx (.tmp 41) (.tmp 42), some (40, false)⟩, ⟨some 44, .bin .gtr (.tmp 43) (.cst (.int .u8 57)), some (40, false)⟩, ii 45 (.pick (.tmp 40) (.cst (.bool true)) (.tmp 44))] [] (sr [0, 2, 3, 4, 5, 6, 45] [(200000020, 200000020), (200000030, 200000030)]))
def c17_u6 : Vc := (.seq (.seq (.region [mm 30 6, mm 31 0, ii 32 (.lens (.tmp 31)), ii 33 (.bin .lss (.tmp 30) (.tmp 32))] [] (sr [0, 2, 3, 4, 5, 6, 33] [(200000020, 200000020), (200000030, 200000030)])) (.cond (.tmp 33) (sr [0, 2, 3, 4, 5, 6] [(200000020, 200000020), (200000030, 200000030)]) (sr [0, 2, 3, 4, 5] [(200000020, 200000020), (200000030, 200000030)]) .skip (.exit 0))) (.seq (.block 1 (.seq (.seq c17_u5 (.cond (.tmp 45) (sr [2, 3] [(200000020, 200000020), (200000030, 200000030)]) (sr [0, 2, 3, 4, 5, 6] [(200000020, 200000020), (200000030, 200000030)]) (.seq (.region [ii 46 (.ld (some 2) (.tmp 3)), ⟨none, .st (some 2) (.tmp 2) (.tmp 46), none⟩] [] (sr [2] [(200000020, 200000020)])) .ret) .skip)) (.region [mm 47 5, ii 48 (.bin .mul (.tmp 47) (ci 10)), mm 49 0, mm 50 6, ii 51 (.sidx (.tmp 49) (.tmp 50)), ii 52 (.bin .sub (.tmp 51) (.cst (.int .u8 48))), ii 53 (.cvi .i64 (.tmp 52)), ii 54 (.bin .add (.tmp 48) (.tmp 53)), mm 5 54] [] (sr [0, 2, 3, 4, 5, 6] [(200000020, 200000020), (200000030, 200000030)])))) (.region [mm 34 6, ii 35 (.bin .add (.tmp 34) (ci 1)), mm 6 35] [] (sr [0, 2, 3, 4, 5, 6] [(200000020, 200000020), (200000030, 200000030)]))))
def c17_u7 : Vc := (.cond (.tmp 56) (sr [0, 2, 3, 5] [(200000020, 200000020), (200000030, 200000030)]) (sr [0, 2, 3, 5] [(200000020, 200000020), (200000030, 200000030)]) (.region [mm 57 5, ii 58 (.un .neg (.tmp 57)), mm 5 58] [] (sr [0, 2, 3, 5] [(200000020, 200000020), (200000030, 200000030)])) .skip)
def c17 : Vc := (.seq (.region [ii 2 (.alc [.val (.int .i64 0), .val (.int .i64 0)])] [] (sr [0, 2] [(3000, 200000020)])) (.seq (.region [ii 7 (.bld [.val (.int .i64 0), .val (.int .i64 0)] [⟨0, none, (ci 5)⟩]), ii 3 (.alc [.val (.int .i64 0), .val (.int .i64 0)]), ⟨none, .st (some 2) (.tmp 3) (.tmp 7), none⟩] [] (sr [0, 2, 3] [(200000020, 200000020), (4000, 200000030)])) (.seq (.region [ii 4 (.mov (ci 0))] [] (sr [0, 2, 3, 4] [(200000020, 200000020), (200000030, 200000030)])) (.seq (.seq c17_u1 c17_u2) (.seq (.seq c17_u3 (.cond (.tmp 27) (sr [2, 3] [(200000020, 200000020), (200000030, 200000030)]) (sr [0, 2, 3, 4] [(200000020, 200000020), (200000030, 200000030)]) (.seq (.region [ii 28 (.ld (some 2) (.tmp 3)), ⟨none, .st (some 2) (.tmp 2) (.tmp 28), none⟩] [] (sr [2] [(200000020, 200000020)])) .ret) .skip)) (.seq (.region [ii 5 (.mov (ci 0))] [] (sr [0, 2, 3, 4, 5] [(200000020, 200000020), (200000030, 200000030)])) (.seq (.seq (.region [mm 29 4, mm 6 29] [] (sr [0, 2, 3, 4, 5, 6] [(200000020, 200000020), (200000030, 200000030)])) (.block 0 (.loop c17_u6))) (.seq (.seq (.region [mm 55 4, ii 56 (.bin .eql (.tmp 55) (ci 1))] [] (sr [0, 2, 3, 5, 56] [(200000020, 200000020), (200000030, 200000030)])) c17_u7) (.seq (.seq (.region [mm 59 5, ii 60 (.call (.cst (.fn 37 [])) [(.tmp 59)]), mm 61 0, ii 62 (.bin .neq (.tmp 60) (.tmp 61))] [] (sr [2, 3, 5, 62] [(200000020, 200000020), (200000030, 200000030)])) (.cond (.tmp 62) (sr [2, 3] [(200000020, 200000020), (200000030, 200000030)]) (sr [2, 5] [(200000020, 200000020)]) (.seq (.region [ii 63 (.ld (some 2) (.tmp 3)), ⟨none, .st (some 2) (.tmp 2) (.tmp 63), none⟩] [] (sr [2] [(200000020, 200000020)])) .ret) .skip)) (.seq (.region [mm 64 5, ii 65 (.bld [.val (.int .i64 0), .val (.int .i64 0)] [⟨1, none, (.tmp 64)⟩]), ⟨none, .st (some 2) (.tmp 2) (.tmp 65), none⟩] [] (sr [2] [(200000020, 200000020)])) .ret))))))))))
def c60 : Vc := (.seq (.region [ii 2 (.mov (.cst (.str ([]))))] [] (sk [0])) (.seq (.region [mm 3 0, ii 4 (.call (.cst (.fn 68 [])) [(.tmp 3), (ci 10)]), mm 2 4] [] (sk [2])) .ret))
def c83_u1 : Vc := (.region [mm 5 0, ii 6 (.lens (.tmp 5)), mm 7 1, ii 8 (.lens (.tmp 7)), ii 9 (.bin .geq (.tmp 6) (.tmp 8)), mm 10 9, ⟨some 11, .mov (.tmp 0), some (10, true)⟩, ⟨some 12, .mov (.tmp 1), some (10, true)⟩, ⟨some 13, .lens (.tmp 12), some (10, true)⟩, ⟨some 14, .ssl (.tmp 11) none (some (.tmp 13)), some (10, true)⟩, ⟨some 15, .mov (.tmp 1), some (10, true)⟩, ⟨some 16, .bin .eql (.tmp 14) (.tmp 15), some (10, true)⟩, ii 17 (.pick (.tmp 10) (.tmp 16) (.cst (.bool false))), mm 4 17] [] (sk [4]))
def c83 : Vc := (.seq (.region [ii 4 (.mov (.cst (.bool false)))] [] (sk [0, 1])) (.seq c83_u1 .ret))
def c71 : Vc := (.seq (.region [ii 4 (.mov (.cst (.str ([]))))] [] (sk [0, 1])) (.seq (.seq (.region [mm 5 0, mm 6 1, ii 7 (.call (.cst (.fn 83 [])) [(.tmp 5), (.tmp 6)])] [] (sk [0, 1, 7])) (.cond (.tmp 7) (sk [0, 1]) (sk [0]) (.seq (.region [mm 8 0, mm 9 1, ii 10 (.lens (.tmp 9)), ii 11 (.ssl (.tmp 8) (some (.tmp 10)) none), mm 4 11] [] (sk [4])) .ret) .skip)) (.seq (.region [mm 12 0, mm 4 12] [] (sk [4])) .ret)))
def c62 : Vc := (.seq (.region [ii 4 (.mov (.cst (.str ([]))))] [] (sk [0, 1])) (.seq (.region [mm 5 0, mm 6 1, ii 7 (.call (.cst (.fn 71 [])) [(.tmp 5), (.tmp 6)]), mm 4 7] [] (sk [4])) .ret))
def c38_u1 : Vc := (.region [mm 11 4, mm 12 5, ii 13 (.bine .eql (.tmp 12) (.cst (.err true))), mm 14 13, ⟨some 15, .mov (.tmp 4), some (14, true)⟩, ⟨some 16, .call (.cst (.fn 60 [])) [(.tmp 15)], some (14, true)⟩, ⟨some 17, .mov (.tmp 0), some (14, true)⟩, ⟨some 18, .bin .eql (.tmp 16) (.tmp 17), some (14, true)⟩, ii 19 (.pick (.tmp 14) (.tmp 18) (.cst (.bool false))), mm 20 19, ⟨some 21, .mov (.tmp 0), some (20, true)⟩, ⟨some 22, .call (.cst (.fn 62 [])) [(.tmp 21), (.cst (.str ([45])))], some (20, true)⟩, ⟨some 23, .lens (.tmp 22), some (20, true)⟩, ⟨some 24, .bin .leq (.tmp 23) (.cst (.int .i64 7)), some (20, true)⟩, ii 25 (.pick (.tmp 20) (.tmp 24) (.cst (.bool false))), mm 2 11, mm 3 25] [] (sk [2, 3]))
def c38 : Vc := (.seq (.region [ii 2 (.mov (ci 0)), ii 3 (.mov (.cst (.bool false)))] [] (sk [0])) (.seq (.region [mm 7 0, ii 8 (.call (.cst (.fn 61 [])) [(.tmp 7), (ci 10), (ci 64)]), mm 6 8, ii 9 (.ext 0 (.tmp 6)), ii 10 (.ext 1 (.tmp 6)), mm 4 9, mm 5 10] [] (sk [0, 4, 5])) (.seq c38_u1 .ret)))
def c18 : Vc := (.seq (.region [ii 2 (.alc [.val (.int .i64 0), .val (.int .i64 0)])] [] (sr [0, 2] [(3000, 200000020)])) (.seq (.region [mm 6 0, ii 7 (.call (.cst (.fn 38 [])) [(.tmp 6)]), mm 5 7, ii 8 (.ext 0 (.tmp 5)), ii 9 (.ext 1 (.tmp 5)), mm 3 8, mm 4 9] [] (sr [2, 3, 4] [(200000020, 200000020)])) (.seq (.seq (.region [mm 10 4, ii 11 (.un .not (.tmp 10))] [] (sr [2, 3, 11] [(200000020, 200000020)])) (.cond (.tmp 11) (sr [2] [(200000020, 200000020)]) (sr [2, 3] [(200000020, 200000020)]) (.seq (.region [ii 12 (.bld [.val (.int .i64 0), .val (.int .i64 0)] [⟨0, none, (ci 5)⟩]), ⟨none, .st (some 2) (.tmp 2) (.tmp 12), none⟩] [] (sr [2] [(200000020, 200000020)])) .ret) .skip)) (.seq (.region [mm 13 3, ii 14 (.bld [.val (.int .i64 0), .val (.int .i64 0)] [⟨1, none, (.tmp 13)⟩]), ⟨none, .st (some 2) (.tmp 2) (.tmp 14), none⟩] [] (sr [2] [(200000020, 200000020)])) .ret))))
def c19 : Vc := (.seq (.region [ii 2 (.box (some 2) (.tmp 0)), ii 3 (.box (some 2) (.tmp 1)), ii 4 (.mov (.cst (.bool false)))] [] (sr [2, 3] [(3000, 200000020), (4000, 200000030)])) (.seq (.seq (.region [ii 5 (.fad 0 (.tmp 2)), ii 6 (.ld none (.tmp 5)), ii 7 (.fad 0 (.tmp 3)), ii 8 (.ld none (.tmp 7)), ii 9 (.bin .neq (.tmp 6) (.tmp 8))] [] (sr [2, 3, 9] [(200000020, 200000020), (200000030, 200000030)])) (.cond (.tmp 9) s0 (sr [2, 3] [(200000020, 200000020), (200000030, 200000030)]) (.seq (.region [ii 4 (.mov (.cst (.bool false)))] [] (sk [4])) .ret) .skip)) (.seq (.seq (.region [ii 10 (.fad 1 (.tmp 2)), ii 11 (.ld none (.tmp 10)), ii 12 (.fad 1 (.tmp 3)), ii 13 (.ld none (.tmp 12)), ii 14 (.bin .neq (.tmp 11) (.tmp 13))] [] (sk [14])) (.cond (.tmp 14) s0 s0 (.seq (.region [ii 4 (.mov (.cst (.bool false)))] [] (sk [4])) .ret) .skip)) (.seq (.region [ii 4 (.mov (.cst (.bool true)))] [] (sk [4])) .ret))))
def c5 : Vc := (.seq (.region [ii 2 (.mov (.cst (.bool false)))] [] (sk [0])) (.seq (.seq (.region [mm 5 0, ii 6 (.lens (.tmp 5)), ii 7 (.bin .gtr (.tmp 6) (ci 1048576))] [] (sk [0, 7])) (.cond (.tmp 7) s0 (sk [0]) (.seq (.region [ii 2 (.mov (.cst (.bool true)))] [] (sk [2])) .ret) .skip)) (.seq (.region [mm 8 0, ii 9 (.call (.cst (.fn 17 [])) [(.tmp 8)]), ii 3 (.alc [.val (.int .i64 0), .val (.int .i64 0)]), ⟨none, .st (some 2) (.tmp 3) (.tmp 9), none⟩] [] (sr [0, 3] [(4000, 200000030)])) (.seq (.region [mm 10 0, ii 11 (.call (.cst (.fn 18 [])) [(.tmp 10)]), ii 4 (.alc [.val (.int .i64 0), .val (.int .i64 0)]), ⟨none, .st (some 2) (.tmp 4) (.tmp 11), none⟩] [] (sr [3, 4] [(200000030, 200000030), (5000, 200000040)])) (.seq (.seq (.region [ii 12 (.ld (some 2) (.tmp 4)), ii 13 (.ld (some 2) (.tmp 3)), ii 14 (.call (.cst (.fn 19 [])) [(.tmp 12), (.tmp 13)]), ii 15 (.un .not (.tmp 14))] [] (sk [15])) (.cond (.tmp 15) s0 s0 (.seq (.region [ii 2 (.mov (.cst (.bool false)))] [] (sk [2])) .ret) .skip)) (.seq (.region [ii 2 (.mov (.cst (.bool true)))] [] (sk [2])) .ret))))))
def tabO : List (Nat × List Nat) := [(37, [0]), (17, [0]), (61, [0, 0, 0]), (68, [0, 0]), (60, [0]), (83, [0, 0]), (71, [0, 0]), (62, [0, 0]), (38, [0]), (18, [0]), (19, [0, 0]), (5, [0])]
def tabL : List (Nat × Vc × Nat × List (Nat × Option (Option Nat))) := [(37, c37, 28, [(2, none)]), (17, c17, 66, [(2, some (some 2))]), (60, c60, 5, [(2, none)]), (83, c83, 18, [(4, none)]), (71, c71, 13, [(4, none)]), (62, c62, 8, [(4, none)]), (38, c38, 26, [(2, none), (3, none)]), (18, c18, 15, [(2, some (some 2))]), (19, c19, 15, [(4, none)]), (5, c5, 16, [(2, none)])]
def tabX : List (Nat × (List D → Option (D × List D))) := [(61, parseF), (68, itoaF)]
def tabG : List (Nat × List D) := [(1, [.err false]), (2, [.err false]), (4, (Lib.pow10Tab.map fun z => D.int .u64 z))]
def tab0 : Tab := ⟨fun f => (look f tabO).getD [], fun f => look f tabL, fun f => look f tabX, fun g => look g tabG⟩
def recR (f : Nat) : Option Nat := look f [(37, 1)]
def tab (fu : Nat) : Tab := recTab tab0 recR fu
theorem tab_ext (fu f : Nat) (h : recR f = none) : (tab fu).ext f = tab0.ext f := by cases fu <;> simp [tab, recTab, recExt, h]
@[go_sem] theorem own_37 (fu : Nat) : (tab fu).own 37 = [0] := rfl
@[go_sem] theorem own_17 (fu : Nat) : (tab fu).own 17 = [0] := rfl
@[go_sem] theorem own_61 (fu : Nat) : (tab fu).own 61 = [0, 0, 0] := rfl
@[go_sem] theorem own_68 (fu : Nat) : (tab fu).own 68 = [0, 0] := rfl
@[go_sem] theorem own_60 (fu : Nat) : (tab fu).own 60 = [0] := rfl
@[go_sem] theorem own_83 (fu : Nat) : (tab fu).own 83 = [0, 0] := rfl
@[go_sem] theorem own_71 (fu : Nat) : (tab fu).own 71 = [0, 0] := rfl
@[go_sem] theorem own_62 (fu : Nat) : (tab fu).own 62 = [0, 0] := rfl
@[go_sem] theorem own_38 (fu : Nat) : (tab fu).own 38 = [0] := rfl
@[go_sem] theorem own_18 (fu : Nat) : (tab fu).own 18 = [0] := rfl
@[go_sem] theorem own_19 (fu : Nat) : (tab fu).own 19 = [0, 0] := rfl
@[go_sem] theorem own_5 (fu : Nat) : (tab fu).own 5 = [0] := rfl
theorem is37 : IsFn Tryd.prog tab0.own 37 c37 28 [(2, none)] := isF [(0, hk [0]), (1, hk [0, 3]), (2, hk [2]), (3, hk [0, 10]), (4, hk [2]), (5, hk [2])] [(3, hk [0]), (10, hk [0])] [(3, hk [0]), (10, hk [0])] [(5, (.take 0 (.take 1 (.take 3 (.take 4 (.take 5 (.take 6 (.fork (.alt 2 (.take 7 (.take 8 (.take 9 (.take 10 .done)))) (.alt 7 (.take 8 (.take 2 (.take 9 (.take 10 .done)))) .nil))))))))))] Tryd.func37 (by kernel_rfl)
theorem is17 : IsFn Tryd.prog tab0.own 17 c17 66 [(2, some (some 2))] := isF [(0, hr [0, 2] [(3000, 200000020)]), (1, hr [0, 2, 3] [(200000020, 200000020), (4000, 200000030)]), (2, hr [0, 2, 3, 4] [(200000020, 200000020), (200000030, 200000030)]), (3, hr [0, 2, 3, 4, 15] [(200000020, 200000020), (200000030, 200000030)]), (4, hr [0, 2, 3, 4] [(200000020, 200000020), (200000030, 200000030)]), (5, hr [0, 2, 3, 4, 27] [(200000020, 200000020), (200000030, 200000030)]), (6, hr [2] [(200000020, 200000020)]), (7, hr [0, 2, 3, 4, 5] [(200000020, 200000020), (200000030, 200000030)]), (8, hr [0, 2, 3, 4, 5, 6] [(200000020, 200000020), (200000030, 200000030)]), (9, hr [0, 2, 3, 4, 5, 6, 33] [(200000020, 200000020), (200000030, 200000030)]), (11, hr [0, 2, 3, 4, 5, 6, 45] [(200000020, 200000020), (200000030, 200000030)]), (12, hr [2] [(200000020, 200000020)]), (13, hr [0, 2, 3, 4, 5, 6] [(200000020, 200000020), (200000030, 200000030)]), (10, hr [0, 2, 3, 4, 5, 6] [(200000020, 200000020), (200000030, 200000030)]), (14, hr [0, 2, 3, 5, 56] [(200000020, 200000020), (200000030, 200000030)]), (15, hr [0, 2, 3, 5] [(200000020, 200000020), (200000030, 200000030)]), (16, hr [2, 3, 5, 62] [(200000020, 200000020), (200000030, 200000030)]), (18, hr [2] [(200000020, 200000020)]), (17, hr [2] [(200000020, 200000020)])] [(15, hr [0, 2, 3] [(200000020, 200000020), (200000030, 200000030)]), (27, hr [2, 3] [(200000020, 200000020), (200000030, 200000030)]), (33, hr [0, 2, 3, 4, 5, 6] [(200000020, 200000020), (200000030, 200000030)]), (45, hr [2, 3] [(200000020, 200000020), (200000030, 200000030)]), (56, hr [0, 2, 3, 5] [(200000020, 200000020), (200000030, 200000030)]), (62, hr [2, 3] [(200000020, 200000020), (200000030, 200000030)])] [(15, hr [0, 2, 3, 4] [(200000020, 200000020), (200000030, 200000030)]), (27, hr [0, 2, 3, 4] [(200000020, 200000020), (200000030, 200000030)]), (45, hr [0, 2, 3, 4, 5, 6] [(200000020, 200000020), (200000030, 200000030)]), (33, hr [0, 2, 3, 4, 5] [(200000020, 200000020), (200000030, 200000030)]), (56, hr [0, 2, 3, 5] [(200000020, 200000020), (200000030, 200000030)]), (62, hr [2, 5] [(200000020, 200000020)])] [] Tryd.func17 (by kernel_rfl)
theorem is60 : IsFn Tryd.prog tab0.own 60 c60 5 [(2, none)] := isF [(0, hk [0]), (1, hk [2])] [] [] [] Tryd.func60 (by kernel_rfl)
theorem is83 : IsFn Tryd.prog tab0.own 83 c83 18 [(4, none)] := isF [(0, hk [0, 1]), (1, hk [4])] [] [] [] Tryd.func83 (by kernel_rfl)
theorem is71 : IsFn Tryd.prog tab0.own 71 c71 13 [(4, none)] := isF [(0, hk [0, 1]), (1, hk [0, 1, 7]), (2, hk [4]), (3, hk [4])] [(7, hk [0, 1])] [(7, hk [0])] [] Tryd.func71 (by kernel_rfl)
theorem is62 : IsFn Tryd.prog tab0.own 62 c62 8 [(4, none)] := isF [(0, hk [0, 1]), (1, hk [4])] [] [] [] Tryd.func62 (by kernel_rfl)
theorem is38 : IsFn Tryd.prog tab0.own 38 c38 26 [(2, none), (3, none)] := isF [(0, hk [0]), (1, hk [0, 4, 5]), (2, hk [2, 3])] [] [] [] Tryd.func38 (by kernel_rfl)
theorem is18 : IsFn Tryd.prog tab0.own 18 c18 15 [(2, some (some 2))] := isF [(0, hr [0, 2] [(3000, 200000020)]), (1, hr [2, 3, 4] [(200000020, 200000020)]), (2, hr [2, 3, 11] [(200000020, 200000020)]), (4, hr [2] [(200000020, 200000020)]), (3, hr [2] [(200000020, 200000020)])] [(11, hr [2] [(200000020, 200000020)])] [(11, hr [2, 3] [(200000020, 200000020)])] [] Tryd.func18 (by kernel_rfl)
theorem is19 : IsFn Tryd.prog tab0.own 19 c19 15 [(4, none)] := isF [(0, hr [2, 3] [(3000, 200000020), (4000, 200000030)]), (1, hr [2, 3, 9] [(200000020, 200000020), (200000030, 200000030)]), (2, hk [4]), (3, hk [14]), (4, hk [4]), (5, hk [4])] [(9, hk []), (14, hk [])] [(9, hr [2, 3] [(200000020, 200000020), (200000030, 200000030)]), (14, hk [])] [] Tryd.func19 (by kernel_rfl)
theorem is5 : IsFn Tryd.prog tab0.own 5 c5 16 [(2, none)] := isF [(0, hk [0]), (1, hk [0, 7]), (2, hk [2]), (3, hr [0, 3] [(4000, 200000030)]), (4, hr [3, 4] [(200000030, 200000030), (5000, 200000040)]), (5, hk [15]), (7, hk [2]), (6, hk [2])] [(7, hk []), (15, hk [])] [(7, hk [0]), (15, hk [])] [] Tryd.func5 (by kernel_rfl)
theorem recR_fn : ∀ f N, recR f = some N → ∃ p, tab0.fn f = some p := by
  intro f N h
  simp only [recR, look] at h
  repeat (split at h; (rename_i e; subst e; exact ⟨_, rfl⟩))
  simp at h
def x61_ren : Go.Shelf.Ren := ⟨fun | 129 => 104 | 171 => 97 | 174 => 61 | 205 => 96 | 243 => 108 | 245 => 70 | 246 => 77 | 247 => 69 | 279 => 79 | 280 => 80 | 281 => 81 | 282 => 82 | 283 => 89 | 284 => 90 | 285 => 91 | 286 => 92 | 287 => 78 | 316 => 95 | 317 => 103 | 318 => 105 | 319 => 106 | 320 => 107 | 321 => 93 | 322 => 94 | 337 => 111 | 338 => 112 | n => n, fun | 0 => 0 | 2 => 2 | 3 => 3 | 4 => 4 | 5 => 5 | 9 => 9 | 20 => 20 | 21 => 21 | 37 => 46 | 46 => 104 | 51 => 127 | 53 => 101 | 74 => 80 | 75 => 81 | 80 => 144 | 85 => 82 | 127 => 131 | 143 => 132 | 144 => 133 | 145 => 134 | 167 => 100 | 168 => 105 | 171 => 114 | 173 => 117 | 175 => 102 | 209 => 121 | 210 => 122 | 212 => 126 | 213 => 128 | 232 => 142 | 233 => 143 | n => n, fun | 15 => 1 | 16 => 2 | 17 => 4 | 18 => 7 | 19 => 8 | n => n⟩
theorem x61_lay : LaysC.n174 Tryd.prog x61_ren where
  mixed := by kernel_rfl
  f129 := Tryd.func104.trans (congrArg some (by kernel_rfl))
  f171 := Tryd.func97.trans (congrArg some (by kernel_rfl))
  f174 := Tryd.func61.trans (congrArg some (by kernel_rfl))
  f205 := Tryd.func96.trans (congrArg some (by kernel_rfl))
  f243 := Tryd.func108.trans (congrArg some (by kernel_rfl))
  f245 := Tryd.func70.trans (congrArg some (by kernel_rfl))
  f246 := Tryd.func77.trans (congrArg some (by kernel_rfl))
  f247 := Tryd.func69.trans (congrArg some (by kernel_rfl))
  f279 := Tryd.func79.trans (congrArg some (by kernel_rfl))
  f280 := Tryd.func80.trans (congrArg some (by kernel_rfl))
  f281 := Tryd.func81.trans (congrArg some (by kernel_rfl))
  f282 := Tryd.func82.trans (congrArg some (by kernel_rfl))
  f283 := Tryd.func89.trans (congrArg some (by kernel_rfl))
  f284 := Tryd.func90.trans (congrArg some (by kernel_rfl))
  f285 := Tryd.func91.trans (congrArg some (by kernel_rfl))
  f286 := Tryd.func92.trans (congrArg some (by kernel_rfl))
  f287 := Tryd.func78.trans (congrArg some (by kernel_rfl))
  f316 := Tryd.func95.trans (congrArg some (by kernel_rfl))
  f317 := Tryd.func103.trans (congrArg some (by kernel_rfl))
  f318 := Tryd.func105.trans (congrArg some (by kernel_rfl))
  f319 := Tryd.func106.trans (congrArg some (by kernel_rfl))
  f320 := Tryd.func107.trans (congrArg some (by kernel_rfl))
  f321 := Tryd.func93.trans (congrArg some (by kernel_rfl))
  f322 := Tryd.func94.trans (congrArg some (by kernel_rfl))
  f337 := Tryd.func111.trans (congrArg some (by kernel_rfl))
  f338 := Tryd.func112.trans (congrArg some (by kernel_rfl))
  t0 := Tryd.underlying0
  a0 := Tryd.isAgg0
  z0 := Tryd.sizeOf0
  v0 := Tryd.zeroValue0
  t2 := Tryd.underlying2
  a2 := Tryd.isAgg2
  z2 := Tryd.sizeOf2
  v2 := Tryd.zeroValue2
  t3 := Tryd.underlying3
  a3 := Tryd.isAgg3
  z3 := Tryd.sizeOf3
  v3 := Tryd.zeroValue3
  t4 := Tryd.underlying4
  a4 := Tryd.isAgg4
  z4 := Tryd.sizeOf4
  v4 := Tryd.zeroValue4
  t5 := Tryd.underlying5
  a5 := Tryd.isAgg5
  z5 := Tryd.sizeOf5
  v5 := Tryd.zeroValue5
  t9 := Tryd.underlying9
  a9 := Tryd.isAgg9
  z9 := Tryd.sizeOf9
  v9 := Tryd.zeroValue9
  t20 := Tryd.underlying20
  a20 := Tryd.isAgg20
  z20 := Tryd.sizeOf20
  v20 := Tryd.zeroValue20
  t21 := Tryd.underlying21
  a21 := Tryd.isAgg21
  z21 := Tryd.sizeOf21
  v21 := Tryd.zeroValue21
  t37 := Tryd.underlying46
  a37 := Tryd.isAgg46
  z37 := Tryd.sizeOf46
  v37 := Tryd.zeroValue46
  t46 := Tryd.underlying104
  a46 := Tryd.isAgg104
  z46 := Tryd.sizeOf104
  v46 := Tryd.zeroValue104
  t51 := Tryd.underlying127
  a51 := Tryd.isAgg127
  z51 := Tryd.sizeOf127
  v51 := Tryd.zeroValue127
  t53 := Tryd.underlying101
  a53 := Tryd.isAgg101
  z53 := Tryd.sizeOf101
  v53 := Tryd.zeroValue101
  t75 := Tryd.underlying81
  a75 := Tryd.isAgg81
  z75 := Tryd.sizeOf81
  v75 := Tryd.zeroValue81
  t85 := Tryd.underlying82
  a85 := Tryd.isAgg82
  z85 := Tryd.sizeOf82
  v85 := Tryd.zeroValue82
  t127 := Tryd.underlying131
  a127 := Tryd.isAgg131
  z127 := Tryd.sizeOf131
  v127 := Tryd.zeroValue131
  t143 := Tryd.underlying132
  a143 := Tryd.isAgg132
  z143 := Tryd.sizeOf132
  v143 := Tryd.zeroValue132
  t145 := Tryd.underlying134
  a145 := Tryd.isAgg134
  z145 := Tryd.sizeOf134
  v145 := Tryd.zeroValue134
  t167 := Tryd.underlying100
  a167 := Tryd.isAgg100
  z167 := Tryd.sizeOf100
  v167 := Tryd.zeroValue100
  t168 := Tryd.underlying105
  a168 := Tryd.isAgg105
  z168 := Tryd.sizeOf105
  v168 := Tryd.zeroValue105
  t171 := Tryd.underlying114
  a171 := Tryd.isAgg114
  z171 := Tryd.sizeOf114
  v171 := Tryd.zeroValue114
  t173 := Tryd.underlying117
  a173 := Tryd.isAgg117
  z173 := Tryd.sizeOf117
  v173 := Tryd.zeroValue117
  t175 := Tryd.underlying102
  a175 := Tryd.isAgg102
  z175 := Tryd.sizeOf102
  v175 := Tryd.zeroValue102
  t210 := Tryd.underlying122
  a210 := Tryd.isAgg122
  z210 := Tryd.sizeOf122
  v210 := Tryd.zeroValue122
  t212 := Tryd.underlying126
  a212 := Tryd.isAgg126
  z212 := Tryd.sizeOf126
  v212 := Tryd.zeroValue126
  t213 := Tryd.underlying128
  a213 := Tryd.isAgg128
  z213 := Tryd.sizeOf128
  t232 := Tryd.underlying142
  a232 := Tryd.isAgg142
  z232 := Tryd.sizeOf142
  v232 := Tryd.zeroValue142
  t233 := Tryd.underlying143
  a233 := Tryd.isAgg143
  z233 := Tryd.sizeOf143
  v233 := Tryd.zeroValue143
  g15 := by kernel_rfl
  g16 := by kernel_rfl
  g17 := by kernel_rfl
  g18 := by kernel_rfl
  g19 := by kernel_rfl
  t80 := Tryd.underlying144
  a80 := Tryd.isAgg144
  z80 := Tryd.sizeOf144
  v80 := Tryd.zeroValue144
  i0 := by kernel_rfl
  i2 := by kernel_rfl
  i3 := by kernel_rfl
  i4 := by kernel_rfl
  i5 := by kernel_rfl
  i9 := by kernel_rfl
  i20 := by kernel_rfl
  i21 := by kernel_rfl
  i37 := by kernel_rfl
  i46 := by kernel_rfl
  i51 := by kernel_rfl
  i53 := by kernel_rfl
  i75 := by kernel_rfl
  i80 := by kernel_rfl
  i85 := by kernel_rfl
  i127 := by kernel_rfl
  i143 := by kernel_rfl
  i145 := by kernel_rfl
  i167 := by kernel_rfl
  i168 := by kernel_rfl
  i171 := by kernel_rfl
  i173 := by kernel_rfl
  i175 := by kernel_rfl
  i210 := by kernel_rfl
  i212 := by kernel_rfl
  i232 := by kernel_rfl
  i233 := by kernel_rfl
  m15 := by kernel_rfl
  m16 := by kernel_rfl
  m17 := by kernel_rfl
  m18 := by kernel_rfl
  m19 := by kernel_rfl
  c0 := by kernel_rfl
  c2 := by kernel_rfl
  c3 := by kernel_rfl
  c4 := by kernel_rfl
  c5 := by kernel_rfl
  c9 := by kernel_rfl
  c20 := by kernel_rfl
  c21 := by kernel_rfl
  c37 := by kernel_rfl
  c46 := by kernel_rfl
  c51 := by kernel_rfl
  c53 := by kernel_rfl
  c75 := by kernel_rfl
  c80 := by kernel_rfl
  c85 := by kernel_rfl
  c127 := by kernel_rfl
  c143 := by kernel_rfl
  c145 := by kernel_rfl
  c167 := by kernel_rfl
  c168 := by kernel_rfl
  c171 := by kernel_rfl
  c173 := by kernel_rfl
  c175 := by kernel_rfl
  c210 := by kernel_rfl
  c212 := by kernel_rfl
  c213 := by kernel_rfl
  c232 := by kernel_rfl
  c233 := by kernel_rfl
theorem xs61 : SoundFn Tryd.prog (fun g => look g tabG) (tab0.own 61) 61 parseF ∧ okFn Tryd.prog 61 := ⟨parse_sound x61_lay rfl rfl, ⟨Tryd.f61, Tryd.func61, by kernel_rfl, by kernel_rfl⟩⟩
def x68_ren : Go.Shelf.Ren := ⟨fun | 129 => 104 | 173 => 68 | 246 => 77 | 283 => 89 | 284 => 90 | 285 => 91 | 286 => 92 | 317 => 103 | 318 => 105 | 319 => 106 | 320 => 107 | 337 => 111 | 338 => 112 | n => n, fun | 0 => 0 | 2 => 2 | 3 => 3 | 4 => 4 | 5 => 5 | 9 => 9 | 20 => 20 | 37 => 46 | 46 => 104 | 51 => 127 | 53 => 101 | 171 => 114 | 173 => 117 | 212 => 126 | 213 => 128 | 232 => 142 | 233 => 143 | n => n, fun | 17 => 4 | 18 => 7 | 19 => 8 | n => n⟩
theorem x68_lay : LaysM.n173 Tryd.prog x68_ren where
  mixed := by kernel_rfl
  f129 := Tryd.func104.trans (congrArg some (by kernel_rfl))
  f173 := Tryd.func68.trans (congrArg some (by kernel_rfl))
  f246 := Tryd.func77.trans (congrArg some (by kernel_rfl))
  f283 := Tryd.func89.trans (congrArg some (by kernel_rfl))
  f284 := Tryd.func90.trans (congrArg some (by kernel_rfl))
  f285 := Tryd.func91.trans (congrArg some (by kernel_rfl))
  f286 := Tryd.func92.trans (congrArg some (by kernel_rfl))
  f317 := Tryd.func103.trans (congrArg some (by kernel_rfl))
  f318 := Tryd.func105.trans (congrArg some (by kernel_rfl))
  f319 := Tryd.func106.trans (congrArg some (by kernel_rfl))
  f320 := Tryd.func107.trans (congrArg some (by kernel_rfl))
  f337 := Tryd.func111.trans (congrArg some (by kernel_rfl))
  f338 := Tryd.func112.trans (congrArg some (by kernel_rfl))
  t0 := Tryd.underlying0
  a0 := Tryd.isAgg0
  z0 := Tryd.sizeOf0
  v0 := Tryd.zeroValue0
  t2 := Tryd.underlying2
  a2 := Tryd.isAgg2
  z2 := Tryd.sizeOf2
  v2 := Tryd.zeroValue2
  t3 := Tryd.underlying3
  a3 := Tryd.isAgg3
  z3 := Tryd.sizeOf3
  v3 := Tryd.zeroValue3
  t4 := Tryd.underlying4
  a4 := Tryd.isAgg4
  z4 := Tryd.sizeOf4
  v4 := Tryd.zeroValue4
  t5 := Tryd.underlying5
  a5 := Tryd.isAgg5
  z5 := Tryd.sizeOf5
  v5 := Tryd.zeroValue5
  t9 := Tryd.underlying9
  a9 := Tryd.isAgg9
  z9 := Tryd.sizeOf9
  v9 := Tryd.zeroValue9
  t20 := Tryd.underlying20
  a20 := Tryd.isAgg20
  z20 := Tryd.sizeOf20
  v20 := Tryd.zeroValue20
  t37 := Tryd.underlying46
  a37 := Tryd.isAgg46
  z37 := Tryd.sizeOf46
  v37 := Tryd.zeroValue46
  t46 := Tryd.underlying104
  a46 := Tryd.isAgg104
  z46 := Tryd.sizeOf104
  v46 := Tryd.zeroValue104
  t51 := Tryd.underlying127
  a51 := Tryd.isAgg127
  z51 := Tryd.sizeOf127
  v51 := Tryd.zeroValue127
  t53 := Tryd.underlying101
  a53 := Tryd.isAgg101
  z53 := Tryd.sizeOf101
  v53 := Tryd.zeroValue101
  t171 := Tryd.underlying114
  a171 := Tryd.isAgg114
  z171 := Tryd.sizeOf114
  v171 := Tryd.zeroValue114
  t173 := Tryd.underlying117
  a173 := Tryd.isAgg117
  z173 := Tryd.sizeOf117
  v173 := Tryd.zeroValue117
  t212 := Tryd.underlying126
  a212 := Tryd.isAgg126
  z212 := Tryd.sizeOf126
  v212 := Tryd.zeroValue126
  t213 := Tryd.underlying128
  a213 := Tryd.isAgg128
  z213 := Tryd.sizeOf128
  t232 := Tryd.underlying142
  a232 := Tryd.isAgg142
  z232 := Tryd.sizeOf142
  v232 := Tryd.zeroValue142
  t233 := Tryd.underlying143
  a233 := Tryd.isAgg143
  z233 := Tryd.sizeOf143
  v233 := Tryd.zeroValue143
  g17 := by kernel_rfl
  g18 := by kernel_rfl
  g19 := by kernel_rfl
  i0 := by kernel_rfl
  i2 := by kernel_rfl
  i3 := by kernel_rfl
  i4 := by kernel_rfl
  i5 := by kernel_rfl
  i9 := by kernel_rfl
  i20 := by kernel_rfl
  i37 := by kernel_rfl
  i46 := by kernel_rfl
  i51 := by kernel_rfl
  i53 := by kernel_rfl
  i171 := by kernel_rfl
  i173 := by kernel_rfl
  i212 := by kernel_rfl
  i232 := by kernel_rfl
  i233 := by kernel_rfl
  m17 := by kernel_rfl
  m18 := by kernel_rfl
  m19 := by kernel_rfl
theorem xs68 : SoundFn Tryd.prog (fun g => look g tabG) (tab0.own 68) 68 itoaF ∧ okFn Tryd.prog 68 := ⟨itoa_sound x68_lay (g := 4) (by kernel_rfl) rfl, ⟨Tryd.f68, Tryd.func68, by kernel_rfl, by kernel_rfl⟩⟩
theorem tabOk (fu : Nat) : TabOk Tryd.prog (tab fu) := recTab_ok (tabOk_ofG (l := tabL) (x := tabX) (by kernel_rfl) ⟨is37, is17, is60, is83, is71, is62, is38, is18, is19, is5, trivial⟩ ⟨xs61, xs68, trivial⟩ (gs := tabG) (by decide)) recR_fn fu
attribute [local congr] ite_cong2 run_cg runR_cg plug_cg contV_cg contH_cg contT_cg contF_cg guardR_cg condX_cg evcA_cg evcB_cg evcC_cg evcE_cg evcH_cg levA_cg condJX_cg
def spec_l1Digits_u1 (fu : Nat) (rec_ : Int → Option ((List UInt8))) (a3 : Int) : Option ((List UInt8)) :=
  (rec_ ((IntKind.i64.wrap (a3.tdiv (10 : Int))))).bind fun r4 =>
  (bytesI ([(IntKind.u8.wrap (IntKind.i64.wrap (48 + (a3.tmod (10 : Int)))))])).bind fun x5 =>
  if r4.length + x5.length ≤ 9223372036854775807 then some ((r4 ++ x5))
  else none
def spec_l1Digits_b (fu : Nat) (rec_ : Int → Option ((List UInt8))) (p0 : Int) : Option ((List UInt8)) :=
  if (decide (p0 < 0)) = true then (rec_ ((IntKind.i64.wrap (0 - p0)))).bind fun r1 =>
    if ([45] : List UInt8).length + r1.length ≤ 9223372036854775807 then some ((([45] : List UInt8) ++ r1))
    else none
  else if (decide (p0 < 10)) = true then (bytesI ([(IntKind.u8.wrap (IntKind.i64.wrap (48 + p0)))])).bind fun x2 =>
      some x2
    else (spec_l1Digits_u1 fu rec_ p0).bind fun y6 =>
      some y6
def spec_l1Digits : Nat → Int → Option ((List UInt8))
  | 0, _ => none
  | fu + 1, p0 => spec_l1Digits_b fu (spec_l1Digits fu) p0
class spec_l1DigitsRec (fu : Nat) : Prop where
  h : ∀ (n : Nat) (q0_0 : Int), lev (tab fu) (n + 1) 37 [.int .i64 q0_0] = (spec_l1Digits fu q0_0).map fun r => (.str r, [.gone])
@[go_sem] theorem spec_l1Digits_rec (fu n : Nat) [q : spec_l1DigitsRec fu] (q0_0 : Int) : lev (tab fu) (n + 1) 37 [.int .i64 q0_0] = (spec_l1Digits fu q0_0).map fun r => (.str r, [.gone]) := spec_l1DigitsRec.h n q0_0
@[go_sem] theorem spec_l1Digits_u1_ok {β : Type} (fu n : Nat) [spec_l1DigitsRec fu] (K : List (Kont β)) (a3 : Int) : run ⟨(tab fu).own, lev (tab fu) (n + 1), (tab fu).gl⟩ K c37_u1 ⟨[(0, .val (.int .i64 a3))], [], 28⟩ = (spec_l1Digits_u1 fu (spec_l1Digits fu) a3).bind (fun t => plug ⟨(tab fu).own, lev (tab fu) (n + 1), (tab fu).gl⟩ K .normal ⟨[(2, .val (.str t))], [], 28⟩) := by
  unfold c37_u1
  rw [run_alts]
  · simp +contextual -implicitDefEqProofs (maxSteps := 99999999) only [spec_l1Digits_u1, subI, go_sem] <;> (repeat first | rfl | refine bind_ext fun _ _ => ?_ | refine bind_swap fun _ _ _ _ => ?_)
  · refine ⟨?_, trivial⟩
    · simp +contextual -implicitDefEqProofs (maxSteps := 99999999) only [spec_l1Digits_u1, subI, go_sem] <;> (repeat first | rfl | refine bind_ext fun _ _ => ?_ | refine bind_swap fun _ _ _ _ => ?_)
theorem spec_l1Digits_st (fu n : Nat) (ds : List D) : lev (tab (fu + 1)) (n + 1) 37 ds = levA (tab fu) (0 + 1) c37 [(2, none)] (idsOf 0 ((tab fu).own 37) ds) ds (argsFr 0 ((tab fu).own 37) ds ⟨[], [], 28⟩) := lev_rec_st (T := tab0) (R := recR) rfl rfl (Nat.le_of_ble_eq_true rfl)
theorem spec_l1Digits_all (fu : Nat) : spec_l1DigitsRec fu := by
  induction fu with
  | zero => exact ⟨fun n q0_0 => lev_rec0 (T := tab0) (R := recR) (N := 0 + 1) rfl⟩
  | succ fu ih =>
    refine ⟨fun n q0_0 => ?_⟩
    rw [spec_l1Digits_st]
    unfold spec_l1Digits c37
    simp +contextual -implicitDefEqProofs (maxSteps := 99999999) only [spec_l1Digits_b, subI, go_sem] <;> rfl
instance (fu : Nat) : spec_l1DigitsRec fu := spec_l1Digits_all fu
theorem spec_l1Digits_ok (fu n : Nat) (q0_0 : Int) : lev (tab fu) (n + 1) 37 [.int .i64 q0_0] = (spec_l1Digits fu q0_0).map fun r => (.str r, [.gone]) := spec_l1Digits_rec fu n q0_0
def spec_ReadNumber_u1 (fu : Nat) (a1 : List UInt8) : Option (Bool) :=
  if (decide ((a1.length : Int) > 0)) = true then (getI a1 0).bind fun x2 =>
    some (((x2.toNat : Int) == 45))
  else some false
def spec_ReadNumber_u2 (fu : Nat) (a4 : List UInt8) (a5 : Bool) : Int :=
  if a5 = true then 1
  else 0
def spec_ReadNumber_u3 (fu : Nat) (a7 : List UInt8) (a8 : Int) : Bool :=
  if (decide ((IntKind.i64.wrap ((a7.length : Int) - a8)) < 1)) = true then true
  else (decide ((IntKind.i64.wrap ((a7.length : Int) - a8)) > 7))
def spec_ReadNumber_u5 (fu : Nat) (a34 : List UInt8) (a35 a36 a37 : Int) : Option (Bool) :=
  (getI a34 a37).bind fun x38 =>
  if (decide ((x38.toNat : Int) < 48)) = true then some true
  else (getI a34 a37).bind fun x39 =>
    some ((decide ((x39.toNat : Int) > 57)))
def spec_ReadNumber_s6 (fu : Nat) (a30 : List UInt8) (a31 : Int) : (Int × Int) → Option ((Int × Int) ⊕ (Int ⊕ Unit)) := fun ⟨a32, a33⟩ =>
  if (decide (a33 < (a30.length : Int))) = true then (spec_ReadNumber_u5 fu a30 a31 a32 a33).bind fun y40 =>
    if y40 = true then some ((.inr ((.inr (())))))
    else (getI a30 a33).bind fun x41 =>
      some ((.inl (((IntKind.i64.wrap ((IntKind.i64.wrap (a32 * 10)) + (IntKind.i64.wrap (IntKind.u8.wrap ((x41.toNat : Int) - 48))))), (IntKind.i64.wrap (a33 + 1))))))
  else some ((.inr ((.inl a32))))
def spec_ReadNumber_u7 (fu : Nat) (a43 : List UInt8) (a44 : Int) (a45 : Bool) : Int :=
  if a45 = true then (IntKind.i64.wrap (0 - a44))
  else a44
def spec_ReadNumber (fu : Nat) (p0 : List UInt8) : Option (SIntResult) :=
  (spec_ReadNumber_u1 fu p0).bind fun y3 =>
  let y6 := spec_ReadNumber_u2 fu p0 y3
  let y9 := spec_ReadNumber_u3 fu p0 y6
  if y9 = true then some ((SIntResult.mk 5 0))
  else (loopO (spec_ReadNumber_s6 fu p0 y6) ((0, y6))).bind fun t => (Sum.elim (fun y42 => let y46 := spec_ReadNumber_u7 fu p0 y42 ((y6 == 1))
      (spec_l1Digits fu y46).bind fun r47 =>
      if (r47 == p0) = true then some ((SIntResult.mk 0 y46))
      else some ((SIntResult.mk 5 0)))
     (fun y48 => some ((SIntResult.mk 5 0)))) t
@[go_sem] theorem spec_ReadNumber_u1_ok {β : Type} (fu n : Nat) (K : List (Kont β)) (a1 : List UInt8) : run ⟨(tab fu).own, lev (tab fu) (n + 1), (tab fu).gl⟩ K c17_u1 ⟨[(0, .val (.str a1)), (2, .pt 200000020 0), (3, .pt 200000030 0), (4, .val (.int .i64 0))], [(200000020, .var false [.val (.int .i64 0), .val (.int .i64 0)]), (200000030, .var false [.val (.int .i64 5), .val (.int .i64 0)])], 66⟩ = (spec_ReadNumber_u1 fu a1).bind (fun t => plug ⟨(tab fu).own, lev (tab fu) (n + 1), (tab fu).gl⟩ K .normal ⟨[(0, .val (.str a1)), (2, .pt 200000020 0), (3, .pt 200000030 0), (4, .val (.int .i64 0)), (15, .val (.bool t))], [(200000020, .var false [.val (.int .i64 0), .val (.int .i64 0)]), (200000030, .var false [.val (.int .i64 5), .val (.int .i64 0)])], 66⟩) := by
  unfold c17_u1
  simp +contextual -implicitDefEqProofs (maxSteps := 99999999) only [spec_ReadNumber_u1, subI, go_sem] <;> rfl
@[go_sem] theorem spec_ReadNumber_u2_ok {β : Type} (fu n : Nat) (K : List (Kont β)) (a4 : List UInt8) (a5 : Bool) : run ⟨(tab fu).own, lev (tab fu) (n + 1), (tab fu).gl⟩ K c17_u2 ⟨[(0, .val (.str a4)), (2, .pt 200000020 0), (3, .pt 200000030 0), (4, .val (.int .i64 0)), (15, .val (.bool a5))], [(200000020, .var false [.val (.int .i64 0), .val (.int .i64 0)]), (200000030, .var false [.val (.int .i64 5), .val (.int .i64 0)])], 66⟩ = (some (spec_ReadNumber_u2 fu a4 a5)).bind (fun t => plug ⟨(tab fu).own, lev (tab fu) (n + 1), (tab fu).gl⟩ K .normal ⟨[(0, .val (.str a4)), (2, .pt 200000020 0), (3, .pt 200000030 0), (4, .val (.int .i64 t))], [(200000020, .var false [.val (.int .i64 0), .val (.int .i64 0)]), (200000030, .var false [.val (.int .i64 5), .val (.int .i64 0)])], 66⟩) := by
  unfold c17_u2
  simp +contextual -implicitDefEqProofs (maxSteps := 99999999) only [spec_ReadNumber_u2, subI, go_sem] <;> rfl
@[go_sem] theorem spec_ReadNumber_u3_ok {β : Type} (fu n : Nat) (K : List (Kont β)) (a7 : List UInt8) (a8 : Int) : run ⟨(tab fu).own, lev (tab fu) (n + 1), (tab fu).gl⟩ K c17_u3 ⟨[(0, .val (.str a7)), (2, .pt 200000020 0), (3, .pt 200000030 0), (4, .val (.int .i64 a8))], [(200000020, .var false [.val (.int .i64 0), .val (.int .i64 0)]), (200000030, .var false [.val (.int .i64 5), .val (.int .i64 0)])], 66⟩ = (some (spec_ReadNumber_u3 fu a7 a8)).bind (fun t => plug ⟨(tab fu).own, lev (tab fu) (n + 1), (tab fu).gl⟩ K .normal ⟨[(0, .val (.str a7)), (2, .pt 200000020 0), (3, .pt 200000030 0), (4, .val (.int .i64 a8)), (27, .val (.bool t))], [(200000020, .var false [.val (.int .i64 0), .val (.int .i64 0)]), (200000030, .var false [.val (.int .i64 5), .val (.int .i64 0)])], 66⟩) := by
  unfold c17_u3
  simp +contextual -implicitDefEqProofs (maxSteps := 99999999) only [spec_ReadNumber_u3, subI, go_sem] <;> rfl
@[go_sem] theorem spec_ReadNumber_u5_ok {β : Type} (fu n : Nat) (K : List (Kont β)) (a34 : List UInt8) (a35 a36 a37 : Int) : run ⟨(tab fu).own, lev (tab fu) (n + 1), (tab fu).gl⟩ K c17_u5 ⟨[(0, .val (.str a34)), (2, .pt 200000020 0), (3, .pt 200000030 0), (4, .val (.int .i64 a35)), (5, .val (.int .i64 a36)), (6, .val (.int .i64 a37))], [(200000020, .var false [.val (.int .i64 0), .val (.int .i64 0)]), (200000030, .var false [.val (.int .i64 5), .val (.int .i64 0)])], 66⟩ = (spec_ReadNumber_u5 fu a34 a35 a36 a37).bind (fun t => plug ⟨(tab fu).own, lev (tab fu) (n + 1), (tab fu).gl⟩ K .normal ⟨[(0, .val (.str a34)), (2, .pt 200000020 0), (3, .pt 200000030 0), (4, .val (.int .i64 a35)), (5, .val (.int .i64 a36)), (6, .val (.int .i64 a37)), (45, .val (.bool t))], [(200000020, .var false [.val (.int .i64 0), .val (.int .i64 0)]), (200000030, .var false [.val (.int .i64 5), .val (.int .i64 0)])], 66⟩) := by
  unfold c17_u5
  simp +contextual -implicitDefEqProofs (maxSteps := 99999999) only [spec_ReadNumber_u5, subI, go_sem] <;> rfl
@[go_sem] theorem spec_ReadNumber_s6_ok {β : Type} (fu n : Nat) (K : List (Kont β)) (a30 : List UInt8) (a31 a32 a33 : Int) : run ⟨(tab fu).own, lev (tab fu) (n + 1), (tab fu).gl⟩ K (.loop c17_u6) ⟨[(0, .val (.str a30)), (2, .pt 200000020 0), (3, .pt 200000030 0), (4, .val (.int .i64 a31)), (5, .val (.int .i64 a32)), (6, .val (.int .i64 a33))], [(200000020, .var false [.val (.int .i64 0), .val (.int .i64 0)]), (200000030, .var false [.val (.int .i64 5), .val (.int .i64 0)])], 66⟩ = (loopO (spec_ReadNumber_s6 fu a30 a31) ((a32, a33))).bind (fun t => (Sum.elim (fun t => plug ⟨(tab fu).own, lev (tab fu) (n + 1), (tab fu).gl⟩ K (.exit 0) ⟨[(0, .val (.str a30)), (2, .pt 200000020 0), (3, .pt 200000030 0), (4, .val (.int .i64 a31)), (5, .val (.int .i64 t))], [(200000020, .var false [.val (.int .i64 0), .val (.int .i64 0)]), (200000030, .var false [.val (.int .i64 5), .val (.int .i64 0)])], 66⟩) (fun t => plug ⟨(tab fu).own, lev (tab fu) (n + 1), (tab fu).gl⟩ K .ret ⟨[(2, .pt 200000020 0)], [(200000020, .var false [.val (.int .i64 5), .val (.int .i64 0)])], 66⟩)) t) := by
  refine loop_run (C := ⟨(tab fu).own, lev (tab fu) (n + 1), (tab fu).gl⟩) (K := K) (c := c17_u6) (spec_ReadNumber_s6 fu a30 a31) (fun s => ⟨[(0, .val (.str a30)), (2, .pt 200000020 0), (3, .pt 200000030 0), (4, .val (.int .i64 a31)), (5, .val (.int .i64 s.1)), (6, .val (.int .i64 s.2))], [(200000020, .var false [.val (.int .i64 0), .val (.int .i64 0)]), (200000030, .var false [.val (.int .i64 5), .val (.int .i64 0)])], 66⟩) (fun t => (Sum.elim (fun t => plug ⟨(tab fu).own, lev (tab fu) (n + 1), (tab fu).gl⟩ K (.exit 0) ⟨[(0, .val (.str a30)), (2, .pt 200000020 0), (3, .pt 200000030 0), (4, .val (.int .i64 a31)), (5, .val (.int .i64 t))], [(200000020, .var false [.val (.int .i64 0), .val (.int .i64 0)]), (200000030, .var false [.val (.int .i64 5), .val (.int .i64 0)])], 66⟩) (fun t => plug ⟨(tab fu).own, lev (tab fu) (n + 1), (tab fu).gl⟩ K .ret ⟨[(2, .pt 200000020 0)], [(200000020, .var false [.val (.int .i64 5), .val (.int .i64 0)])], 66⟩)) t) (fun k s => ?_) ((a32, a33))
  obtain ⟨a32, a33⟩ := s
  unfold c17_u6
  simp +contextual -implicitDefEqProofs (maxSteps := 99999999) only [spec_ReadNumber_s6, subI, go_sem] <;> rfl
@[go_sem] theorem spec_ReadNumber_u7_ok {β : Type} (fu n : Nat) (K : List (Kont β)) (a43 : List UInt8) (a44 : Int) (a45 : Bool) : run ⟨(tab fu).own, lev (tab fu) (n + 1), (tab fu).gl⟩ K c17_u7 ⟨[(0, .val (.str a43)), (2, .pt 200000020 0), (3, .pt 200000030 0), (5, .val (.int .i64 a44)), (56, .val (.bool a45))], [(200000020, .var false [.val (.int .i64 0), .val (.int .i64 0)]), (200000030, .var false [.val (.int .i64 5), .val (.int .i64 0)])], 66⟩ = (some (spec_ReadNumber_u7 fu a43 a44 a45)).bind (fun t => plug ⟨(tab fu).own, lev (tab fu) (n + 1), (tab fu).gl⟩ K .normal ⟨[(0, .val (.str a43)), (2, .pt 200000020 0), (3, .pt 200000030 0), (5, .val (.int .i64 t))], [(200000020, .var false [.val (.int .i64 0), .val (.int .i64 0)]), (200000030, .var false [.val (.int .i64 5), .val (.int .i64 0)])], 66⟩) := by
  unfold c17_u7
  simp +contextual -implicitDefEqProofs (maxSteps := 99999999) only [spec_ReadNumber_u7, subI, go_sem] <;> rfl
@[go_sem] theorem spec_ReadNumber_ok (fu n : Nat) (q0_0 : List UInt8) : lev (tab fu) (n + 2) 17 [.str q0_0] = (spec_ReadNumber fu q0_0).map fun r => (.agg [.int .i64 r.Code, .int .i64 r.Value], [.gone]) := by
  rw [lev_st (vc := c17) (nt := 66) (rs := [(2, some (some 2))]) ((tab_ext _ _ rfl).trans rfl) rfl (Nat.le_of_ble_eq_true rfl)]
  unfold c17
  simp +contextual -implicitDefEqProofs (maxSteps := 99999999) only [spec_ReadNumber, subI, go_sem] <;> rfl
def strconv_ParseInt (p0 : List UInt8) (p1 p2 : Int) : Option (Int × Bool) := if okParse p0 p1 p2 = true then some (parseI p0) else none
@[go_sem] theorem strconv_ParseInt_ok (fu n : Nat) (q : List UInt8) : lev (tab fu) (n + 1) 61 [.str q, .int .i64 10, .int .i64 64] = (strconv_ParseInt q 10 64).map fun r => (.tup [.int .i64 r.1, .err r.2], [.gone, .gone, .gone]) := by
  rw [lev_ext (F := parseF) ((tab_ext _ _ rfl).trans rfl)]
  unfold parseF strconv_ParseInt
  simp only []
  split <;> rfl
def strconv_FormatInt (p0 p1 : Int) : Option (List UInt8) := if okI64 p0 = true ∧ p1 = 10 then some (Lib.itoa p0) else none
@[go_sem] theorem strconv_FormatInt_ok (fu n : Nat) (q : Int) : lev (tab fu) (n + 1) 68 [.int .i64 q, .int .i64 10] = (strconv_FormatInt q 10).map fun r => (.str r, [.gone, .gone]) := by
  rw [lev_ext (F := itoaF) ((tab_ext _ _ rfl).trans rfl)]
  unfold itoaF strconv_FormatInt
  simp only []
  split <;> rfl
def impl_decimal (p0 : Int) : Option ((List UInt8)) :=
  (strconv_FormatInt p0 10).bind fun r1 =>
  some r1
@[go_sem] theorem impl_decimal_ok (fu n : Nat) (q0_0 : Int) : lev (tab fu) (n + 2) 60 [.int .i64 q0_0] = (impl_decimal q0_0).map fun r => (.str r, [.gone]) := by
  rw [lev_st (vc := c60) (nt := 5) (rs := [(2, none)]) ((tab_ext _ _ rfl).trans rfl) rfl (Nat.le_of_ble_eq_true rfl)]
  unfold c60
  simp +contextual -implicitDefEqProofs (maxSteps := 99999999) only [impl_decimal, subI, go_sem] <;> rfl
def internal_stringslite_HasPrefix_u1 (a1 a2 : List UInt8) : Option (Bool) :=
  if (decide ((a1.length : Int) ≥ (a2.length : Int))) = true then (subI a1 0 ((a2.length : Int))).bind fun x3 =>
    some ((x3 == a2))
  else some false
def internal_stringslite_HasPrefix (p0 p1 : List UInt8) : Option (Bool) :=
  (internal_stringslite_HasPrefix_u1 p0 p1).bind fun y4 =>
  some y4
@[go_sem] theorem internal_stringslite_HasPrefix_u1_ok {β : Type} (fu n : Nat) (K : List (Kont β)) (a1 a2 : List UInt8) : run ⟨(tab fu).own, lev (tab fu) n, (tab fu).gl⟩ K c83_u1 ⟨[(0, .val (.str a1)), (1, .val (.str a2))], [], 18⟩ = (internal_stringslite_HasPrefix_u1 a1 a2).bind (fun t => plug ⟨(tab fu).own, lev (tab fu) n, (tab fu).gl⟩ K .normal ⟨[(4, .val (.bool t))], [], 18⟩) := by
  unfold c83_u1
  simp +contextual -implicitDefEqProofs (maxSteps := 99999999) only [internal_stringslite_HasPrefix_u1, subI, go_sem] <;> rfl
@[go_sem] theorem internal_stringslite_HasPrefix_ok (fu n : Nat) (q0_0 q1_0 : List UInt8) : lev (tab fu) (n + 1) 83 [.str q0_0, .str q1_0] = (internal_stringslite_HasPrefix q0_0 q1_0).map fun r => (.bool r, [.gone, .gone]) := by
  rw [lev_st (vc := c83) (nt := 18) (rs := [(4, none)]) ((tab_ext _ _ rfl).trans rfl) rfl (Nat.le_of_ble_eq_true rfl)]
  unfold c83
  simp +contextual -implicitDefEqProofs (maxSteps := 99999999) only [internal_stringslite_HasPrefix, subI, go_sem] <;> rfl
def internal_stringslite_TrimPrefix (p0 p1 : List UInt8) : Option ((List UInt8)) :=
  (internal_stringslite_HasPrefix p0 p1).bind fun r1 =>
  if r1 = true then (subI p0 ((p1.length : Int)) (p0.length : Int)).bind fun x2 =>
    some x2
  else some p0
@[go_sem] theorem internal_stringslite_TrimPrefix_ok (fu n : Nat) (q0_0 q1_0 : List UInt8) : lev (tab fu) (n + 2) 71 [.str q0_0, .str q1_0] = (internal_stringslite_TrimPrefix q0_0 q1_0).map fun r => (.str r, [.gone, .gone]) := by
  rw [lev_st (vc := c71) (nt := 13) (rs := [(4, none)]) ((tab_ext _ _ rfl).trans rfl) rfl (Nat.le_of_ble_eq_true rfl)]
  unfold c71
  simp +contextual -implicitDefEqProofs (maxSteps := 99999999) only [internal_stringslite_TrimPrefix, subI, go_sem] <;> rfl
def strings_TrimPrefix (p0 p1 : List UInt8) : Option ((List UInt8)) :=
  (internal_stringslite_TrimPrefix p0 p1).bind fun r1 =>
  some r1
@[go_sem] theorem strings_TrimPrefix_ok (fu n : Nat) (q0_0 q1_0 : List UInt8) : lev (tab fu) (n + 3) 62 [.str q0_0, .str q1_0] = (strings_TrimPrefix q0_0 q1_0).map fun r => (.str r, [.gone, .gone]) := by
  rw [lev_st (vc := c62) (nt := 8) (rs := [(4, none)]) ((tab_ext _ _ rfl).trans rfl) rfl (Nat.le_of_ble_eq_true rfl)]
  unfold c62
  simp +contextual -implicitDefEqProofs (maxSteps := 99999999) only [strings_TrimPrefix, subI, go_sem] <;> rfl
def impl_number_u1 (a2 : List UInt8) (a3 : Int) (a4 : Bool) : Option (Bool) :=
  if a4 = true then (impl_decimal a3).bind fun r5 =>
    if (r5 == a2) = true then (strings_TrimPrefix a2 ([45])).bind fun r6 =>
      some ((decide ((r6.length : Int) ≤ 7)))
    else some false
  else some false
def impl_number (p0 : List UInt8) : Option (Int × Bool) :=
  (strconv_ParseInt p0 10 64).bind fun r1 =>
  (impl_number_u1 p0 r1.1 r1.2).bind fun y7 =>
  some ((r1.1, y7))
@[go_sem] theorem impl_number_u1_ok {β : Type} (fu n : Nat) (K : List (Kont β)) (a2 : List UInt8) (a3 : Int) (a4 : Bool) : run ⟨(tab fu).own, lev (tab fu) (n + 3), (tab fu).gl⟩ K c38_u1 ⟨[(0, .val (.str a2)), (4, .val (.int .i64 a3)), (5, .val (.err a4))], [], 26⟩ = (impl_number_u1 a2 a3 a4).bind (fun t => plug ⟨(tab fu).own, lev (tab fu) (n + 3), (tab fu).gl⟩ K .normal ⟨[(2, .val (.int .i64 a3)), (3, .val (.bool t))], [], 26⟩) := by
  unfold c38_u1
  simp +contextual -implicitDefEqProofs (maxSteps := 99999999) only [impl_number_u1, subI, go_sem] <;> rfl
@[go_sem] theorem impl_number_ok (fu n : Nat) (q0_0 : List UInt8) : lev (tab fu) (n + 4) 38 [.str q0_0] = (impl_number q0_0).map fun r => (.tup [.int .i64 r.1, .bool r.2], [.gone]) := by
  rw [lev_st (vc := c38) (nt := 26) (rs := [(2, none), (3, none)]) ((tab_ext _ _ rfl).trans rfl) rfl (Nat.le_of_ble_eq_true rfl)]
  unfold c38
  simp +contextual -implicitDefEqProofs (maxSteps := 99999999) only [impl_number, subI, go_sem] <;> rfl
def impl_ReadNumber (p0 : List UInt8) : Option (SIntResult) :=
  (impl_number p0).bind fun r1 =>
  if r1.2 = true then some ((SIntResult.mk 0 r1.1))
  else some ((SIntResult.mk 5 0))
@[go_sem] theorem impl_ReadNumber_ok (fu n : Nat) (q0_0 : List UInt8) : lev (tab fu) (n + 5) 18 [.str q0_0] = (impl_ReadNumber q0_0).map fun r => (.agg [.int .i64 r.Code, .int .i64 r.Value], [.gone]) := by
  rw [lev_st (vc := c18) (nt := 15) (rs := [(2, some (some 2))]) ((tab_ext _ _ rfl).trans rfl) rfl (Nat.le_of_ble_eq_true rfl)]
  unfold c18
  simp +contextual -implicitDefEqProofs (maxSteps := 99999999) only [impl_ReadNumber, subI, go_sem] <;> rfl
def laws_eqIntResult (p0 p1 : SIntResult) : Bool :=
  if (p0.Code != p1.Code) = true then false
  else if (p0.Value != p1.Value) = true then false
    else true
@[go_sem] theorem laws_eqIntResult_ok (fu n : Nat) (q0_0 q0_1 : Int) (q1_0 q1_1 : Int) : lev (tab fu) (n + 1) 19 [.agg [.int .i64 q0_0, .int .i64 q0_1], .agg [.int .i64 q1_0, .int .i64 q1_1]] = (some (laws_eqIntResult (SIntResult.mk q0_0 q0_1) (SIntResult.mk q1_0 q1_1))).map fun r => (.bool r, [.gone, .gone]) := by
  rw [lev_st (vc := c19) (nt := 15) (rs := [(4, none)]) ((tab_ext _ _ rfl).trans rfl) rfl (Nat.le_of_ble_eq_true rfl)]
  unfold c19
  simp +contextual -implicitDefEqProofs (maxSteps := 99999999) only [laws_eqIntResult, subI, go_sem] <;> rfl
def laws_FnExactReadNumber (fu : Nat) (p0 : List UInt8) : Option (Bool) :=
  if (decide ((p0.length : Int) > 1048576)) = true then some true
  else (spec_ReadNumber fu p0).bind fun r1 =>
    (impl_ReadNumber p0).bind fun r2 =>
    if (laws_eqIntResult r2 r1) = true then some true
    else some false
@[go_sem] theorem laws_FnExactReadNumber_ok (fu n : Nat) (q0_0 : List UInt8) : lev (tab fu) (n + 6) 5 [.str q0_0] = (laws_FnExactReadNumber fu q0_0).map fun r => (.bool r, [.gone]) := by
  rw [lev_st (vc := c5) (nt := 16) (rs := [(2, none)]) ((tab_ext _ _ rfl).trans rfl) rfl (Nat.le_of_ble_eq_true rfl)]
  unfold c5
  simp +contextual -implicitDefEqProofs (maxSteps := 99999999) only [laws_FnExactReadNumber, subI, go_sem] <;> rfl
end
end FnExactReadNumber
end Go.Proofs.YtpioljlgmhehhaaDoor.Wm
