/-
  Walks of functions of the program over an abstract layer, and the laws that they use: each contract says what the function computes, for every input that its conditions let by. No other condition.
-/
import Derived.Test.YtjnagiaooecklabGreatDoorProg
import Derived.Test.YtjnagiaooecklabGreatDoorG11
import Derived.Test.YtjnagiaooecklabGreatDoorG10
set_option linter.all false
section
/-
 The abstract code of functions of the program, printed by gen.py; each stands for the given one. No condition.
-/
namespace Go.Hx
open Go.Proofs
variable [Glob]
abbrev zFI:Nat:=179
abbrev zE3:Nat:=32
abbrev zBM:Nat:=140
abbrev zDZ:Nat:=141
abbrev zEB:Nat:=82
abbrev zE4:Nat:=81
abbrev zBZ:Nat:=21
abbrev zAG:Nat:=80
abbrev zE5:Nat:=73
abbrev zKv:Nat:=53
abbrev zAr:Nat:=3
abbrev zId:Nat:=9
abbrev zYu:HCode:=oN [oV 6 (.mv (.c (bv false)))]
abbrev zYv:HCode:=oR [oV 7 (.mv (.t 0)),
  oV 8 (.mv (.t 1)),
  oV 9 (.ints .geq (.t 7) (.t 8)),
  oV 10 (.mv (.t 9)),
  oG 10 true 11 (.mv (.t 0)),
  oG 10 true 12 (.mv (.t 2)),
  oG 10 true 13 (.ints .leq (.t 11) (.t 12)),
  oV 14 (.pick (.t 10) (.t 13) (.c (bv false))),
  oV 6 (.mv (.t 14))] [7,8,9,10,11,12,13,14]
abbrev yHI:HCode:=(.seq zYu (.seq zYv .ret))
abbrev zIe:Env:={N:=15,Γ:=[],L:=15,nfix:=0}
abbrev ref_within_R:List RSrc:=[.tmp 6]
theorem zL5:zBs Tryz.prog zAG yHI zIe ref_within_R:=by kernel_rfl
abbrev zYw:HCode:=oN [oV 2 (.mv (.c (bv false)))]
abbrev zYx:HCode:=oR [oV 5 (.mv (.t 0)),
  oV 6 (.len true (.t 5)),
  oC 7 zAG [(.t 6,.v),(.c (iv 1),.v),(.c (iv 12),.v)],
  oV 8 (.not (.t 7)),
  oV 9 (.mv (.t 8)),
  oG 9 false 10 (.mv (.t 0)),
  oG 9 false 11 (.idxS (.t 10) (.c (iv 0))),
  oG 9 false 12 (.ints .lss (.t 11) (.c (.one (.v (.int .u8 97))))),
  oV 13 (.pick (.t 9) (.c (bv true)) (.t 12)),
  oV 14 (.mv (.t 13)),
  oG 14 false 15 (.mv (.t 0)),
  oG 14 false 16 (.idxS (.t 15) (.c (iv 0))),
  oG 14 false 17 (.ints .gtr (.t 16) (.c (.one (.v (.int .u8 122))))),
  oV 18 (.pick (.t 14) (.c (bv true)) (.t 17))] [5,6,7,8,9,10,11,12,13,14,15,16,17]
abbrev zYy:HCode:=oN [oV 2 (.mv (.c (bv false)))]
abbrev zYz:HCode:=oN [oV 3 (.mv (.c (iv 0)))]
abbrev zYA:HCode:=oR [oV 19 (.mv (.t 3)),
  oV 20 (.mv (.t 0)),
  oV 21 (.len true (.t 20)),
  oV 22 (.ints .lss (.t 19) (.t 21))] [19,20,21]
abbrev zYB:HCode:=oR [oV 25 (.mv (.t 0)),
  oV 26 (.mv (.t 3)),
  oV 27 (.idxS (.t 25) (.t 26)),
  oV 4 (.mv (.t 27))] [25,26,27]
abbrev zYC:HCode:=oR [oV 28 (.mv (.t 4)),
  oV 29 (.ints .geq (.t 28) (.c (.one (.v (.int .u8 97))))),
  oV 30 (.mv (.t 29)),
  oG 30 true 31 (.mv (.t 4)),
  oG 30 true 32 (.ints .leq (.t 31) (.c (.one (.v (.int .u8 122))))),
  oV 33 (.pick (.t 30) (.t 32) (.c (bv false))),
  oV 34 (.mv (.t 33)),
  oG 34 false 35 (.mv (.t 4)),
  oG 34 false 36 (.ints .geq (.t 35) (.c (.one (.v (.int .u8 48))))),
  oG 34 false 37 (.mv (.t 36)),
  oG 37 true 38 (.mv (.t 4)),
  oG 37 true 39 (.ints .leq (.t 38) (.c (.one (.v (.int .u8 57))))),
  oG 34 false 40 (.pick (.t 37) (.t 39) (.c (bv false))),
  oV 41 (.pick (.t 34) (.c (bv true)) (.t 40)),
  oV 42 (.mv (.t 41)),
  oG 42 false 43 (.mv (.t 4)),
  oG 42 false 44 (.ints .eql (.t 43) (.c (.one (.v (.int .u8 45))))),
  oV 45 (.pick (.t 42) (.c (bv true)) (.t 44)),
  oV 46 (.not (.t 45))] [28,29,30,31,32,33,34,35,36,37,38,39,40,41,42,43,44,45]
abbrev zYD:HCode:=oN [oV 2 (.mv (.c (bv false)))]
abbrev zYE:HCode:=oR [oV 23 (.mv (.t 3)),
  oV 24 (.ints .add (.t 23) (.c (iv 1))),
  oV 3 (.mv (.t 24))] [23,24]
abbrev zYF:HCode:=oN [oV 2 (.mv (.c (bv true)))]
abbrev yHJ:HCode:=(.seq zYw (.seq (.seq zYx (.cond (.t 18) (.seq zYy .ret) .skip)) (.seq (.seq zYz (.block 0 (.loop (.seq (.seq zYA (.cond (.t 22) .skip (.exit 0))) (.seq (.block 1 (.seq zYB (.seq zYC (.cond (.t 46) (.seq zYD .ret) .skip)))) zYE))))) (.seq zYF .ret))))
abbrev zO5:Env:={N:=47,Γ:=[],L:=47,nfix:=0}
abbrev ref_IsName_R:List RSrc:=[.tmp 2]
theorem zYG:zBs Tryz.prog zBM yHJ zO5 ref_IsName_R:=by kernel_rfl
abbrev zUt:HCode:=oN [oV 2 (.mv (.c (bv false)))]
abbrev zUu:HCode:=oR [oV 4 (.mv (.t 0)),
  oV 5 (.len true (.t 4)),
  oV 6 (.ints .gtr (.t 5) (.c (iv 16)))] [4,5]
abbrev zUv:HCode:=oN [oV 2 (.mv (.c (bv false)))]
abbrev zUw:HCode:=oN [oV 3 (.mv (.c (iv 0)))]
abbrev zUx:HCode:=oR [oV 7 (.mv (.t 3)),
  oV 8 (.mv (.t 0)),
  oV 9 (.len true (.t 8)),
  oV 10 (.ints .lss (.t 7) (.t 9))] [7,8,9]
abbrev zUy:HCode:=oR [oV 13 (.mv (.t 0)),
  oV 14 (.mv (.t 3)),
  oV 15 (.idxS (.t 13) (.t 14)),
  oV 16 (.ints .lss (.t 15) (.c (.one (.v (.int .u8 32))))),
  oV 17 (.mv (.t 16)),
  oG 17 false 18 (.mv (.t 0)),
  oG 17 false 19 (.mv (.t 3)),
  oG 17 false 20 (.idxS (.t 18) (.t 19)),
  oG 17 false 21 (.ints .gtr (.t 20) (.c (.one (.v (.int .u8 126))))),
  oV 22 (.pick (.t 17) (.c (bv true)) (.t 21)),
  oV 23 (.mv (.t 22)),
  oG 23 false 24 (.mv (.t 0)),
  oG 23 false 25 (.mv (.t 3)),
  oG 23 false 26 (.idxS (.t 24) (.t 25)),
  oG 23 false 27 (.ints .eql (.t 26) (.c (.one (.v (.int .u8 34))))),
  oV 28 (.pick (.t 23) (.c (bv true)) (.t 27))] [13,14,15,16,17,18,19,20,21,22,23,24,25,26,27]
abbrev zUz:HCode:=oN [oV 2 (.mv (.c (bv false)))]
abbrev zUA:HCode:=oR [oV 11 (.mv (.t 3)),
  oV 12 (.ints .add (.t 11) (.c (iv 1))),
  oV 3 (.mv (.t 12))] [11,12]
abbrev zUB:HCode:=oN [oV 2 (.mv (.c (bv true)))]
abbrev yEA:HCode:=(.seq zUt (.seq (.seq zUu (.cond (.t 6) (.seq zUv .ret) .skip)) (.seq (.seq zUw (.block 0 (.loop (.seq (.seq zUx (.cond (.t 10) .skip (.exit 0))) (.seq (.block 1 (.seq zUy (.cond (.t 28) (.seq zUz .ret) .skip))) zUA))))) (.seq zUB .ret))))
abbrev zL6:Env:={N:=29,Γ:=[],L:=29,nfix:=0}
abbrev ref_IsValue_R:List RSrc:=[.tmp 2]
theorem zUC:zBs Tryz.prog zDZ yEA zL6 ref_IsValue_R:=by kernel_rfl
abbrev zRE:HCode:=oN [oV 1 (.boxF (.t 0)),
  oV 2 (.mv (.c (bv false)))]
abbrev zRF:HCode:=oR [oV 5 (.fldR (.t 1) 1 1),
  oV 6 (.ldR (.t 5) 1 false),
  oC 7 zBM [(.t 6,.v)],
  oV 8 (.not (.t 7)),
  oV 9 (.mv (.t 8)),
  oG 9 false 10 (.fldR (.t 1) 2 1),
  oG 9 false 11 (.ldR (.t 10) 1 false),
  oG 9 false 12 (.strs .neq (.t 11) (.c (sv []))),
  oG 9 false 13 (.mv (.t 12)),
  oG 13 true 14 (.fldR (.t 1) 2 1),
  oG 13 true 15 (.ldR (.t 14) 1 false),
  ⟨some (13,true),.call (some 16) zBM [(.t 15,.v)]⟩,
  oG 13 true 17 (.not (.t 16)),
  oG 9 false 18 (.pick (.t 13) (.t 17) (.c (bv false))),
  oV 19 (.pick (.t 9) (.c (bv true)) (.t 18)),
  oV 20 (.mv (.t 19)),
  oG 20 false 21 (.fldR (.t 1) 3 1),
  oG 20 false 22 (.ldR (.t 21) 1 false),
  oG 20 false 23 (.len false (.t 22)),
  oG 20 false 24 (.ints .gtr (.t 23) (.c (iv 6))),
  oV 25 (.pick (.t 20) (.c (bv true)) (.t 24)),
  oV 26 (.mv (.t 25)),
  oG 26 false 27 (.fldR (.t 1) 4 1),
  oG 26 false 28 (.ldR (.t 27) 1 false),
  oG 26 false 29 (.len false (.t 28)),
  oG 26 false 30 (.ints .gtr (.t 29) (.c (iv 4))),
  oV 31 (.pick (.t 26) (.c (bv true)) (.t 30))] [5,6,7,8,9,10,11,12,13,14,15,16,17,18,19,20,21,22,23,24,25,26,27,28,29,30]
abbrev zRG:HCode:=oN [oV 2 (.mv (.c (bv false)))]
abbrev zRH:HCode:=oN [oV 3 (.mv (.c (iv 0)))]
abbrev zRI:HCode:=oR [oV 32 (.mv (.t 3)),
  oV 33 (.fldR (.t 1) 3 1),
  oV 34 (.ldR (.t 33) 1 false),
  oV 35 (.len false (.t 34)),
  oV 36 (.ints .lss (.t 32) (.t 35))] [32,33,34,35]
abbrev zRJ:HCode:=oQ [oD 0 false (oV 39 (.fldR (.t 1) 3 1)),
  oD 1 false (oV 40 (.ldR (.t 39) 1 false)),
  oD 2 false (oV 41 (.mv (.t 3))),
  oD 3 false (oV 42 (.idxA 1 (.t 40) (.t 41))),
  oD 4 false (oV 43 (.ldR (.t 42) 1 false)),
  oD 5 true (oC 44 zBM [(.t 43,.v)]),
  oD 6 false (oV 45 (.not (.t 44))),
  oD 7 false (oV 46 (.mv (.t 45))),
  oD 8 false (oG 46 false 47 (.mv (.t 3))),
  oD 9 false (oG 46 false 48 (.ints .gtr (.t 47) (.c (iv 0)))),
  oD 10 false (oG 46 false 49 (.mv (.t 48))),
  oD 11 false (oG 49 true 50 (.fldR (.t 1) 3 1)),
  oD 12 false (oG 49 true 51 (.ldR (.t 50) 1 false)),
  oD 13 false (oG 49 true 52 (.mv (.t 3))),
  oD 14 false (oG 49 true 53 (.ints .sub (.t 52) (.c (iv 1)))),
  oD 15 false (oG 49 true 54 (.idxA 1 (.t 51) (.t 53))),
  oD 16 false (oG 49 true 55 (.ldR (.t 54) 1 false)),
  oD 17 false (oG 49 true 56 (.fldR (.t 1) 3 1)),
  oD 18 false (oG 49 true 57 (.ldR (.t 56) 1 false)),
  oD 19 false (oG 49 true 58 (.mv (.t 3))),
  oD 20 false (oG 49 true 59 (.idxA 1 (.t 57) (.t 58))),
  oD 21 false (oG 49 true 60 (.ldR (.t 59) 1 false)),
  oD 22 false (oG 49 true 61 (.strs .geq (.t 55) (.t 60))),
  oD 23 false (oG 46 false 62 (.pick (.t 49) (.t 61) (.c (bv false)))),
  oD 24 false (oV 63 (.pick (.t 46) (.c (bv true)) (.t 62)))] [39,40,41,42,43,44,45,46,47,48,49,50,51,52,53,54,55,56,57,58,59,60,61,62]
abbrev zRK:HCode:=oN [oV 2 (.mv (.c (bv false)))]
abbrev zRL:HCode:=oR [oV 37 (.mv (.t 3)),
  oV 38 (.ints .add (.t 37) (.c (iv 1))),
  oV 3 (.mv (.t 38))] [37,38]
abbrev zRM:HCode:=oN [oV 4 (.mv (.c (iv 0)))]
abbrev zRN:HCode:=oR [oV 64 (.mv (.t 4)),
  oV 65 (.fldR (.t 1) 4 1),
  oV 66 (.ldR (.t 65) 1 false),
  oV 67 (.len false (.t 66)),
  oV 68 (.ints .lss (.t 64) (.t 67))] [64,65,66,67]
abbrev zPA:HCode:=oQ [oD 0 false (oV 71 (.fldR (.t 1) 4 1)),
  oD 1 false (oV 72 (.ldR (.t 71) 1 false)),
  oD 2 false (oV 73 (.mv (.t 4))),
  oD 3 false (oV 74 (.idxA 2 (.t 72) (.t 73))),
  oD 4 false (oV 75 (.fldR (.t 74) 0 1)),
  oD 5 false (oV 76 (.ldR (.t 75) 1 false)),
  oD 6 true (oC 77 zBM [(.t 76,.v)]),
  oD 7 false (oV 78 (.not (.t 77))),
  oD 8 false (oV 79 (.mv (.t 78))),
  oD 9 false (oG 79 false 80 (.fldR (.t 1) 4 1)),
  oD 10 false (oG 79 false 81 (.ldR (.t 80) 1 false)),
  oD 11 false (oG 79 false 82 (.mv (.t 4))),
  oD 12 false (oG 79 false 83 (.idxA 2 (.t 81) (.t 82))),
  oD 13 false (oG 79 false 84 (.fldR (.t 83) 1 1)),
  oD 14 false (oG 79 false 85 (.ldR (.t 84) 1 false)),
  oD 15 true ⟨some (79,false),.call (some 86) zDZ [(.t 85,.v)]⟩,
  oD 16 false (oG 79 false 87 (.not (.t 86))),
  oD 17 false (oV 88 (.pick (.t 79) (.c (bv true)) (.t 87))),
  oD 18 false (oV 89 (.mv (.t 88))),
  oD 19 false (oG 89 false 90 (.mv (.t 4))),
  oD 20 false (oG 89 false 91 (.ints .gtr (.t 90) (.c (iv 0)))),
  oD 21 false (oG 89 false 92 (.mv (.t 91))),
  oD 22 false (oG 92 true 93 (.fldR (.t 1) 4 1)),
  oD 23 false (oG 92 true 94 (.ldR (.t 93) 1 false)),
  oD 24 false (oG 92 true 95 (.mv (.t 4))),
  oD 25 false (oG 92 true 96 (.ints .sub (.t 95) (.c (iv 1)))),
  oD 26 false (oG 92 true 97 (.idxA 2 (.t 94) (.t 96))),
  oD 27 false (oG 92 true 98 (.fldR (.t 97) 0 1)),
  oD 28 false (oG 92 true 99 (.ldR (.t 98) 1 false)),
  oD 29 false (oG 92 true 100 (.fldR (.t 1) 4 1)),
  oD 30 false (oG 92 true 101 (.ldR (.t 100) 1 false)),
  oD 31 false (oG 92 true 102 (.mv (.t 4))),
  oD 32 false (oG 92 true 103 (.idxA 2 (.t 101) (.t 102))),
  oD 33 false (oG 92 true 104 (.fldR (.t 103) 0 1)),
  oD 34 false (oG 92 true 105 (.ldR (.t 104) 1 false)),
  oD 35 false (oG 92 true 106 (.strs .geq (.t 99) (.t 105))),
  oD 36 false (oG 89 false 107 (.pick (.t 92) (.t 106) (.c (bv false)))),
  oD 37 false (oV 108 (.pick (.t 89) (.c (bv true)) (.t 107)))] [71,72,73,74,75,76,77,78,79,80,81,82,83,84,85,86,87,88,89,90,91,92,93,94,95,96,97,98,99,100,101,102,103,104,105,106,107]
abbrev zPB:HCode:=oN [oV 2 (.mv (.c (bv false)))]
abbrev zPC:HCode:=oR [oV 69 (.mv (.t 4)),
  oV 70 (.ints .add (.t 69) (.c (iv 1))),
  oV 4 (.mv (.t 70))] [69,70]
abbrev zPD:HCode:=oN [oV 2 (.mv (.c (bv true)))]
abbrev yBS:HCode:=(.seq zRE (.seq (.seq zRF (.cond (.t 31) (.seq zRG .ret) .skip)) (.seq (.seq zRH (.block 0 (.loop (.seq (.seq zRI (.cond (.t 36) .skip (.exit 0))) (.seq (.block 1 (.seq zRJ (.cond (.t 63) (.seq zRK .ret) .skip))) zRL))))) (.seq (.seq zRM (.block 2 (.loop (.seq (.seq zRN (.cond (.t 68) .skip (.exit 2))) (.seq (.block 3 (.seq zPA (.cond (.t 108) (.seq zPB .ret) .skip))) zPC))))) (.seq zPD .ret)))))
abbrev zKd:Env:={N:=109,Γ:=[],L:=109,nfix:=0}
abbrev ref_NodeFine_R:List RSrc:=[.tmp 2]
theorem zRO:zBs Tryz.prog zE4 yBS zKd ref_NodeFine_R:=by kernel_rfl
abbrev zRP:HCode:=oN [oV 1 (.boxF (.t 0)),
  oV 2 (.mv (.c (iv 0)))]
abbrev zRQ:HCode:=oR [oV 6 (.fldR (.t 1) 0 1),
  oV 7 (.ldR (.t 6) 1 false),
  oV 8 (.len false (.t 7)),
  oC 9 zAG [(.t 8,.v),(.c (iv 1),.v),(.c (iv 64),.v)],
  oV 10 (.not (.t 9))] [6,7,8,9]
abbrev zRR:HCode:=oN [oV 2 (.mv (.c (iv 2)))]
abbrev zRS:HCode:=oN [oV 3 (.mv (.c (iv 0)))]
abbrev zRT:HCode:=oR [oV 11 (.mv (.t 3)),
  oV 12 (.fldR (.t 1) 0 1),
  oV 13 (.ldR (.t 12) 1 false),
  oV 14 (.len false (.t 13)),
  oV 15 (.ints .lss (.t 11) (.t 14))] [11,12,13,14]
abbrev zRU:HCode:=oR [oV 18 (.fldR (.t 1) 0 1),
  oV 19 (.ldR (.t 18) 1 false),
  oV 20 (.mv (.t 3)),
  oV 21 (.idxA 5 (.t 19) (.t 20)),
  oV 22 (.ldR (.t 21) 5 true),
  oC 23 zE4 [(.t 22,.v)],
  oV 24 (.not (.t 23)),
  oV 25 (.mv (.t 24)),
  oG 25 false 26 (.mv (.t 3)),
  oG 25 false 27 (.ints .eql (.t 26) (.c (iv 0))),
  oG 25 false 28 (.mv (.t 27)),
  oG 28 true 29 (.fldR (.t 1) 0 1),
  oG 28 true 30 (.ldR (.t 29) 1 false),
  oG 28 true 31 (.mv (.t 3)),
  oG 28 true 32 (.idxA 5 (.t 30) (.t 31)),
  oG 28 true 33 (.fldR (.t 32) 0 1),
  oG 28 true 34 (.ldR (.t 33) 1 false),
  oG 28 true 35 (.ints .neq (.t 34) (.c (iv (-1)))),
  oG 25 false 36 (.pick (.t 28) (.t 35) (.c (bv false))),
  oV 37 (.pick (.t 25) (.c (bv true)) (.t 36))] [18,19,20,21,22,23,24,25,26,27,28,29,30,31,32,33,34,35,36]
abbrev zRV:HCode:=oN [oV 2 (.mv (.c (iv 1)))]
abbrev zRW:HCode:=oR [oV 38 (.mv (.t 3)),
  oV 39 (.ints .eql (.t 38) (.c (iv 0))),
  oV 4 (.mv (.t 39))] [38,39]
abbrev zRX:HCode:=oR [oV 40 (.mv (.t 3)),
  oV 41 (.ints .sub (.t 40) (.c (iv 1))),
  oV 5 (.mv (.t 41))] [40,41]
abbrev zRY:HCode:=oR [oV 42 (.mv (.t 5)),
  oV 43 (.ints .geq (.t 42) (.c (iv 0))),
  oV 44 (.mv (.t 43)),
  oG 44 true 45 (.mv (.t 4)),
  oG 44 true 46 (.not (.t 45)),
  oV 47 (.pick (.t 44) (.t 46) (.c (bv false)))] [42,43,44,45,46]
abbrev zPE:HCode:=oR [oV 54 (.mv (.t 5)),
  oV 55 (.fldR (.t 1) 0 1),
  oV 56 (.ldR (.t 55) 1 false),
  oV 57 (.mv (.t 3)),
  oV 58 (.idxA 5 (.t 56) (.t 57)),
  oV 59 (.fldR (.t 58) 0 1),
  oV 60 (.ldR (.t 59) 1 false),
  oV 61 (.ints .eql (.t 54) (.t 60)),
  oV 4 (.mv (.t 61))] [54,55,56,57,58,59,60,61]
abbrev zPF:HCode:=oR [oV 48 (.fldR (.t 1) 0 1),
  oV 49 (.ldR (.t 48) 1 false),
  oV 50 (.mv (.t 5)),
  oV 51 (.idxA 5 (.t 49) (.t 50)),
  oV 52 (.fldR (.t 51) 0 1),
  oV 53 (.ldR (.t 52) 1 false),
  oV 5 (.mv (.t 53))] [48,49,50,51,52,53]
abbrev zPG:HCode:=oR [oV 62 (.mv (.t 4)),
  oV 63 (.not (.t 62))] [62]
abbrev zPH:HCode:=oN [oV 2 (.mv (.c (iv 1)))]
abbrev zPI:HCode:=oR [oV 16 (.mv (.t 3)),
  oV 17 (.ints .add (.t 16) (.c (iv 1))),
  oV 3 (.mv (.t 17))] [16,17]
abbrev zPJ:HCode:=oN [oV 2 (.mv (.c (iv 0)))]
abbrev yBT:HCode:=(.seq zRP (.seq (.seq zRQ (.cond (.t 10) (.seq zRR .ret) .skip)) (.seq (.seq zRS (.block 0 (.loop (.seq (.seq zRT (.cond (.t 15) .skip (.exit 0))) (.seq (.block 1 (.seq (.seq zRU (.cond (.t 37) (.seq zRV .ret) .skip)) (.seq zRW (.seq (.seq zRX (.block 2 (.loop (.seq (.seq zRY (.cond (.t 47) .skip (.exit 2))) (.seq (.block 3 zPE) zPF))))) (.seq zPG (.cond (.t 63) (.seq zPH .ret) .skip)))))) zPI))))) (.seq zPJ .ret))))
abbrev zKe:Env:={N:=64,Γ:=[],L:=64,nfix:=0}
abbrev ref_CheckDoc_R:List RSrc:=[.tmp 2]
theorem zRZ:zBs Tryz.prog zE3 yBT zKe ref_CheckDoc_R:=by kernel_rfl
abbrev zYH:HCode:=oN [oV 2 (.boxF (.t 0)),
  ⟨none,.nlo 4 zAr 1⟩]
abbrev zYI:HCode:=oN [⟨none,.nlo 5 zAr 1⟩]
abbrev zYJ:HCode:=oN [oV 6 (.mv (.c (iv 0)))]
abbrev zYK:HCode:=oR [oV 7 (.mv (.t 6)),
  oV 8 (.fldR (.t 2) 0 1),
  oV 9 (.ldR (.t 8) 1 false),
  oV 10 (.len false (.t 9)),
  oV 11 (.ints .lss (.t 7) (.t 10))] [7,8,9,10]
abbrev zYL:HCode:=oR [oV 14 (.fldR (.t 2) 0 1),
  oV 15 (.ldR (.t 14) 1 false),
  oV 16 (.mv (.t 6)),
  oV 17 (.idxA 5 (.t 15) (.t 16)),
  oV 18 (.fldR (.t 17) 0 1),
  oV 19 (.ldR (.t 18) 1 false),
  oV 20 (.mv (.t 1)),
  oV 21 (.ints .eql (.t 19) (.t 20))] [14,15,16,17,18,19,20]
abbrev zYM:HCode:=oR [⟨none,.mvo 22 5⟩,
  oV 23 (.mv (.t 6)),
  oV 24 (.bslF 1 [.t 23]),
  ⟨none,.app 25 zAr 1 (.t 22) (.t 24)⟩,
  ⟨none,.mvo 5 25⟩] [22,23,24,25]
abbrev zYN:HCode:=oR [oV 12 (.mv (.t 6)),
  oV 13 (.ints .add (.t 12) (.c (iv 1))),
  oV 6 (.mv (.t 13))] [12,13]
abbrev zYO:HCode:=oR [⟨none,.mvo 26 5⟩,
  ⟨none,.mvo 4 26⟩] [26]
abbrev yHK:HCode:=(.seq zYH (.seq zYI (.seq (.seq zYJ (.block 0 (.loop (.seq (.seq zYK (.cond (.t 11) .skip (.exit 0))) (.seq (.block 1 (.seq zYL (.cond (.t 21) zYM .skip))) zYN))))) (.seq zYO .ret))))
abbrev zO6:Env:={N:=27,Γ:=[],L:=27,nfix:=0}
abbrev ref_KidsOf_R:List RSrc:=[.tmp 4]
theorem zYP:zBs Tryz.prog zEB yHK zO6 ref_KidsOf_R:=by kernel_rfl
abbrev yBU:HCode:=oN [oV 3 (.boxF (.t 0)),
  oV 6 (.mv (.c (bv false)))]
abbrev yBV:HCode:=oR [oV 8 (.fldR (.t 3) 0 1),
  oV 9 (.ldR (.t 8) 1 false),
  oV 10 (.mv (.t 2)),
  oV 11 (.idxA 5 (.t 9) (.t 10)),
  oV 12 (.fldR (.t 11) 0 1),
  oV 13 (.ldR (.t 12) 1 false),
  oV 7 (.mv (.t 13))] [8,9,10,11,12,13]
abbrev yBW:HCode:=oR [oV 14 (.mv (.t 7)),
  oV 15 (.ints .geq (.t 14) (.c (iv 0)))] [14]
abbrev yBX:HCode:=oR [oV 22 (.mv (.t 7)),
  oV 23 (.mv (.t 1)),
  oV 24 (.ints .eql (.t 22) (.t 23))] [22,23]
abbrev yBY:HCode:=oN [oV 6 (.mv (.c (bv true)))]
abbrev yBZ:HCode:=oR [oV 16 (.fldR (.t 3) 0 1),
  oV 17 (.ldR (.t 16) 1 false),
  oV 18 (.mv (.t 7)),
  oV 19 (.idxA 5 (.t 17) (.t 18)),
  oV 20 (.fldR (.t 19) 0 1),
  oV 21 (.ldR (.t 20) 1 false),
  oV 7 (.mv (.t 21))] [16,17,18,19,20,21]
abbrev yB0:HCode:=oN [oV 6 (.mv (.c (bv false)))]
abbrev yJt:HCode:=(.seq yBU (.seq (.seq yBV (.block 0 (.loop (.seq (.seq yBW (.cond (.t 15) .skip (.exit 0))) (.seq (.block 1 (.seq yBX (.cond (.t 24) (.seq yBY .ret) .skip))) yBZ))))) (.seq yB0 .ret)))
abbrev zR0:Env:={N:=25,Γ:=[],L:=25,nfix:=0}
abbrev ref_Above_R:List RSrc:=[.tmp 6]
theorem yB1:zBs Tryz.prog zFI yJt zR0 ref_Above_R:=by kernel_rfl
abbrev zR1:HCode:=oN [oV 4 (.mv (.c (bv false)))]
abbrev zR2:HCode:=oR [oV 6 (.mv (.t 0)),
  oV 7 (.len false (.t 6)),
  oV 8 (.mv (.t 1)),
  oV 9 (.len false (.t 8)),
  oV 10 (.ints .neq (.t 7) (.t 9))] [6,7,8,9]
abbrev zR3:HCode:=oN [oV 4 (.mv (.c (bv false)))]
abbrev zR4:HCode:=oN [oV 5 (.mv (.c (iv 0)))]
abbrev zR5:HCode:=oR [oV 11 (.mv (.t 5)),
  oV 12 (.mv (.t 0)),
  oV 13 (.len false (.t 12)),
  oV 14 (.ints .lss (.t 11) (.t 13))] [11,12,13]
abbrev zR6:HCode:=oQ [oD 0 false (oV 17 (.mv (.t 0))),
  oD 1 false (oV 18 (.mv (.t 5))),
  oD 2 false (oV 19 (.idxA 1 (.t 17) (.t 18))),
  oD 3 false (oV 20 (.ldR (.t 19) 1 false)),
  oD 4 false (oV 21 (.mv (.t 1))),
  oD 5 false (oV 22 (.mv (.t 5))),
  oD 6 false (oV 23 (.idxA 1 (.t 21) (.t 22))),
  oD 7 false (oV 24 (.ldR (.t 23) 1 false)),
  oD 8 false (oV 25 (.ints .neq (.t 20) (.t 24)))] [17,18,19,20,21,22,23,24]
abbrev zR7:HCode:=oN [oV 4 (.mv (.c (bv false)))]
abbrev zR8:HCode:=oR [oV 15 (.mv (.t 5)),
  oV 16 (.ints .add (.t 15) (.c (iv 1))),
  oV 5 (.mv (.t 16))] [15,16]
abbrev zR9:HCode:=oN [oV 4 (.mv (.c (bv true)))]
abbrev yB2:HCode:=(.seq zR1 (.seq (.seq zR2 (.cond (.t 10) (.seq zR3 .ret) .skip)) (.seq (.seq zR4 (.block 0 (.loop (.seq (.seq zR5 (.cond (.t 14) .skip (.exit 0))) (.seq (.block 1 (.seq zR6 (.cond (.t 25) (.seq zR7 .ret) .skip))) zR8))))) (.seq zR9 .ret))))
abbrev zKf:Env:={N:=26,Γ:=[],L:=26,nfix:=0}
abbrev ref_SameInts_R:List RSrc:=[.tmp 4]
theorem zSa:zBs Tryz.prog zBZ yB2 zKf ref_SameInts_R:=by kernel_rfl
end Go.Hx
end

section
/-
 The abstract code of functions of the program, printed by gen.py; each stands for the given one. No condition.
-/
namespace Go.Hx
open Go.Proofs
variable [Glob]
abbrev zFJ:Nat:=99
abbrev zKw:Nat:=138
abbrev zEC:Nat:=187
abbrev zED:Nat:=189
abbrev zDr:Nat:=191
abbrev zCs:Nat:=185
abbrev zFK:Nat:=192
abbrev zCt:Nat:=188
abbrev zC0:Nat:=186
abbrev zFL:Nat:=61
abbrev zCJ:Nat:=72
abbrev zCl:Nat:=71
abbrev zBE:Nat:=190
abbrev zAZ:Nat:=228
abbrev zHE:HCode:=oN [⟨none,.nlo 2 zId 1⟩]
abbrev zHF:HCode:=oR [oV 3 (.mv (.t 0)),
  ⟨none,.isn 4 false (.t 3)⟩] [3]
abbrev zHG:HCode:=oN [⟨none,.nlo 2 zId 1⟩]
abbrev zHH:HCode:=oR [⟨none,.bsl 5 zId 1 []⟩,
  oV 6 (.mv (.t 0)),
  ⟨none,.app 7 zId 1 (.t 5) (.t 6)⟩,
  ⟨none,.mvo 2 7⟩] [5,6,7]
abbrev zKx:HCode:=(.seq zHE (.seq (.seq zHF (.cond (.t 4) (.seq zHG .ret) .skip)) (.seq zHH .ret)))
abbrev zD6:Env:={N:=8,Γ:=[],L:=8,nfix:=0}
abbrev slices_Clone_string_R:List RSrc:=[.tmp 2]
theorem zHI:zBs Tryz.prog zCl zKx zD6 slices_Clone_string_R:=by kernel_rfl
abbrev zJz:HCode:=oN [⟨none,.nlo 2 zE5 2⟩]
abbrev zJA:HCode:=oR [oV 3 (.mv (.t 0)),
  ⟨none,.isn 4 false (.t 3)⟩] [3]
abbrev zJB:HCode:=oN [⟨none,.nlo 2 zE5 2⟩]
abbrev zJC:HCode:=oR [⟨none,.bsl 5 zE5 2 []⟩,
  oV 6 (.mv (.t 0)),
  ⟨none,.app 7 zE5 2 (.t 5) (.t 6)⟩,
  ⟨none,.mvo 2 7⟩] [5,6,7]
abbrev zNY:HCode:=(.seq zJz (.seq (.seq zJA (.cond (.t 4) (.seq zJB .ret) .skip)) (.seq zJC .ret)))
abbrev zE6:Env:={N:=8,Γ:=[],L:=8,nfix:=0}
abbrev slices_Clone_Attr_R:List RSrc:=[.tmp 2]
theorem zJD:zBs Tryz.prog zCJ zNY zE6 slices_Clone_Attr_R:=by kernel_rfl
abbrev zGx:HCode:=oN [oV 4 (.mv (.c (iv 0)))]
abbrev zGy:HCode:=oR [oV 6 (.mv (.t 0)),
  oV 7 (.len false (.t 6)),
  oV 8 (.mv (.c (iv 0)))] [6]
abbrev zGz:HCode:=oN [oV 9 (.ints .lss (.t 8) (.t 7))]
abbrev zGA:HCode:=oR [oV 10 (.mv (.t 8)),
  oV 5 (.mv (.t 10))] [10]
abbrev zGB:HCode:=oR [oV 11 (.mv (.t 1)),
  oV 12 (.mv (.t 0)),
  oV 13 (.mv (.t 5)),
  oV 14 (.idxA 2 (.t 12) (.t 13)),
  oV 15 (.ldR (.t 14) 2 true),
  ⟨none,.callv (some 16) (.t 11) [(.t 15,.v)]⟩] [11,12,13,14,15]
abbrev zGC:HCode:=oR [oV 17 (.mv (.t 5)),
  oV 4 (.mv (.t 17))] [17]
abbrev zGD:HCode:=oR [oV 18 (.ints .add (.t 8) (.c (iv 1))),
  oV 8 (.mv (.t 18))] [18]
abbrev zGE:HCode:=oN [oV 4 (.mv (.c (iv (-1))))]
abbrev zIf:HCode:=(.seq zGx (.seq (.seq zGy (.block 0 (.loop (.seq zGz (.seq (.cond (.t 9) .skip (.exit 0)) (.seq (.block 1 (.seq zGA (.seq zGB (.cond (.t 16) (.seq zGC .ret) .skip)))) zGD)))))) (.seq zGE .ret)))
abbrev zB8:Env:={N:=19,Γ:=[],L:=19,nfix:=0}
abbrev slices_IndexFunc_Attr_R:List RSrc:=[.tmp 4]
theorem zDa:zBs Tryz.prog zAZ zIf zB8 slices_IndexFunc_Attr_R:=by kernel_rfl
abbrev zE7:HCode:=oN [oV 4 (.mv (.c (bv false)))]
abbrev zE8:HCode:=oR [oV 5 (.mv (.t 0)),
  oV 6 (.mv (.t 1)),
  oC 7 zAZ [(.t 5,.v),(.t 6,.v)],
  oV 8 (.ints .geq (.t 7) (.c (iv 0))),
  oV 4 (.mv (.t 8))] [5,6,7,8]
abbrev zGF:HCode:=(.seq zE7 (.seq zE8 .ret))
abbrev zCD:Env:={N:=9,Γ:=[],L:=9,nfix:=0}
abbrev slices_ContainsFunc_Attr_R:List RSrc:=[.tmp 4]
theorem zE9:zBs Tryz.prog zBE zGF zCD slices_ContainsFunc_Attr_R:=by kernel_rfl
abbrev zKy:HCode:=oN [oV 4 (.mv (.c (bv false)))]
abbrev zKz:HCode:=oN [oV 5 (.mv (.c (sv [])))]
abbrev zKA:HCode:=oN [oV 8 (.mv (.t 0)),
  oV 9 (.len false (.t 8)),
  oV 10 (.mv (.c (iv 0)))]
abbrev zKB:HCode:=oN [oV 11 (.ints .lss (.t 10) (.t 9))]
abbrev zKC:HCode:=oR [oV 12 (.idxA 1 (.t 8) (.t 10)),
  oV 13 (.ldR (.t 12) 1 false),
  oV 7 (.mv (.t 13))] [12,13]
abbrev zKD:HCode:=oR [oV 14 (.mv (.t 1)),
  oV 15 (.mv (.t 7)),
  ⟨none,.callv (some 16) (.t 14) [(.t 15,.v)]⟩,
  oC 17 zCs [(.t 16,.v)],
  oV 18 (.not (.t 17)),
  oV 19 (.mv (.t 18)),
  oG 19 false 20 (.mv (.t 1)),
  oG 19 false 21 (.mv (.t 7)),
  ⟨some (19,false),.callv (some 22) (.t 20) [(.t 21,.v)]⟩,
  oG 19 false 23 (.mv (.t 5)),
  oG 19 false 24 (.strs .leq (.t 22) (.t 23)),
  oV 25 (.pick (.t 19) (.c (bv true)) (.t 24))] [14,15,16,17,18,19,20,21,22,23,24]
abbrev zKE:HCode:=oN [oV 4 (.mv (.c (bv false)))]
abbrev zKF:HCode:=oR [oV 26 (.mv (.t 1)),
  oV 27 (.mv (.t 7)),
  ⟨none,.callv (some 28) (.t 26) [(.t 27,.v)]⟩,
  oV 5 (.mv (.t 28))] [26,27,28]
abbrev zKG:HCode:=oR [oV 29 (.ints .add (.t 10) (.c (iv 1))),
  oV 10 (.mv (.t 29))] [29]
abbrev zKH:HCode:=oN [oV 4 (.mv (.c (bv true)))]
abbrev zPK:HCode:=(.seq zKy (.seq zKz (.seq (.seq zKA (.block 0 (.loop (.seq zKB (.seq (.cond (.t 11) .skip (.exit 0)) (.seq (.block 1 (.seq zKC (.seq (.seq zKD (.cond (.t 25) (.seq zKE .ret) .skip)) zKF))) zKG)))))) (.seq zKH .ret))))
abbrev zFM:Env:={N:=30,Γ:=[],L:=30,nfix:=0}
abbrev doc_rises_string_R:List RSrc:=[.tmp 4]
theorem zKI:zBs Tryz.prog zC0 zPK zFM doc_rises_string_R:=by kernel_rfl
abbrev zIg:HCode:=oN [oV 4 (.mv (.c (bv false)))]
abbrev zIh:HCode:=oN [oV 5 (.mv (.c (sv [])))]
abbrev zIi:HCode:=oN [oV 8 (.mv (.t 0)),
  oV 9 (.len false (.t 8)),
  oV 10 (.mv (.c (iv 0)))]
abbrev zIj:HCode:=oN [oV 11 (.ints .lss (.t 10) (.t 9))]
abbrev zIk:HCode:=oR [oV 12 (.idxA 2 (.t 8) (.t 10)),
  oV 13 (.ldR (.t 12) 2 true),
  ⟨none,.alloc 7 0 30 [.v (mkS []),.v (mkS [])]⟩,
  ⟨none,.sto (.t 7) 0 30 0 2 (.t 13)⟩] [12,13]
abbrev zIl:HCode:=oR [oV 14 (.mv (.t 1)),
  oV 15 (.ldB (.t 7) 0 30 0 2 true),
  ⟨none,.callv (some 16) (.t 14) [(.t 15,.v)]⟩,
  oC 17 zCs [(.t 16,.v)],
  oV 18 (.not (.t 17)),
  oV 19 (.mv (.t 18)),
  oG 19 false 20 (.mv (.t 1)),
  oG 19 false 21 (.ldB (.t 7) 0 30 0 2 true),
  ⟨some (19,false),.callv (some 22) (.t 20) [(.t 21,.v)]⟩,
  oG 19 false 23 (.mv (.t 5)),
  oG 19 false 24 (.strs .leq (.t 22) (.t 23)),
  oV 25 (.pick (.t 19) (.c (bv true)) (.t 24))] [14,15,16,17,18,19,20,21,22,23,24]
abbrev zIm:HCode:=oN [oV 4 (.mv (.c (bv false)))]
abbrev zIn:HCode:=oR [oV 26 (.mv (.t 1)),
  oV 27 (.ldB (.t 7) 0 30 0 2 true),
  ⟨none,.callv (some 28) (.t 26) [(.t 27,.v)]⟩,
  oV 5 (.mv (.t 28))] [26,27,28]
abbrev zIo:HCode:=oR [oV 29 (.ints .add (.t 10) (.c (iv 1))),
  oV 10 (.mv (.t 29))] [29]
abbrev zIp:HCode:=oN [oV 4 (.mv (.c (bv true)))]
abbrev zL7:HCode:=(.seq zIg (.seq zIh (.seq (.seq zIi (.block 0 (.loop (.seq zIj (.seq (.cond (.t 11) .skip (.exit 0)) (.seq (.block 1 (.seq zIk (.seq (.seq zIl (.cond (.t 25) (.seq zIm .ret) .skip)) zIn))) zIo)))))) (.seq zIp .ret))))
abbrev zEr:Env:={N:=30,Γ:=[(30,2)],L:=32,nfix:=0}
abbrev doc_rises_api_Attr_R:List RSrc:=[.tmp 4]
theorem zIq:zBs Tryz.prog zCt zL7 zEr doc_rises_api_Attr_R:=by kernel_rfl
abbrev yEB:HCode:=oN [oV 1 (.boxF (.t 0)),
  oV 2 (.mv (.c (bv false)))]
abbrev yEC:HCode:=oR [oV 3 (.fldR (.t 1) 1 1),
  oV 4 (.ldR (.t 3) 1 false),
  oC 5 zCs [(.t 4,.v)],
  oV 6 (.mv (.t 5)),
  oG 6 true 7 (.fldR (.t 1) 2 1),
  oG 6 true 8 (.ldR (.t 7) 1 false),
  oG 6 true 9 (.strs .eql (.t 8) (.c (sv []))),
  oG 6 true 10 (.mv (.t 9)),
  oG 10 false 11 (.fldR (.t 1) 2 1),
  oG 10 false 12 (.ldR (.t 11) 1 false),
  ⟨some (10,false),.call (some 13) zCs [(.t 12,.v)]⟩,
  oG 6 true 14 (.pick (.t 10) (.c (bv true)) (.t 13)),
  oV 15 (.pick (.t 6) (.t 14) (.c (bv false))),
  oV 16 (.mv (.t 15)),
  oG 16 true 17 (.fldR (.t 1) 3 1),
  oG 16 true 18 (.ldR (.t 17) 1 false),
  oG 16 true 19 (.len false (.t 18)),
  oG 16 true 20 (.ints .leq (.t 19) (.c (iv 6))),
  oV 21 (.pick (.t 16) (.t 20) (.c (bv false))),
  oV 22 (.mv (.t 21)),
  oG 22 true 23 (.fldR (.t 1) 4 1),
  oG 22 true 24 (.ldR (.t 23) 1 false),
  oG 22 true 25 (.len false (.t 24)),
  oG 22 true 26 (.ints .leq (.t 25) (.c (iv 4))),
  oV 27 (.pick (.t 22) (.t 26) (.c (bv false))),
  oV 28 (.mv (.t 27)),
  oG 28 true 29 (.fldR (.t 1) 3 1),
  oG 28 true 30 (.ldR (.t 29) 1 false),
  ⟨some (28,true),.call (some 31) zC0 [(.t 30,.v),(.f zEC,.v)]⟩,
  oV 32 (.pick (.t 28) (.t 31) (.c (bv false))),
  oV 33 (.mv (.t 32)),
  oG 33 true 34 (.fldR (.t 1) 4 1),
  oG 33 true 35 (.ldR (.t 34) 1 false),
  ⟨some (33,true),.call (some 36) zCt [(.t 35,.v),(.f zED,.v)]⟩,
  oV 37 (.pick (.t 33) (.t 36) (.c (bv false))),
  oV 38 (.mv (.t 37)),
  oG 38 true 39 (.fldR (.t 1) 4 1),
  oG 38 true 40 (.ldR (.t 39) 1 false),
  ⟨some (38,true),.call (some 41) zBE [(.t 40,.v),(.f zDr,.v)]⟩,
  oG 38 true 42 (.not (.t 41)),
  oV 43 (.pick (.t 38) (.t 42) (.c (bv false))),
  oV 2 (.mv (.t 43))] [3,4,5,6,7,8,9,10,11,12,13,14,15,16,17,18,19,20,21,22,23,24,25,26,27,28,29,30,31,32,33,34,35,36,37,38,39,40,41,42,43]
abbrev yLl:HCode:=(.seq yEB (.seq yEC .ret))
abbrev zXv:Env:={N:=44,Γ:=[],L:=44,nfix:=0}
abbrev doc_Fine_R:List RSrc:=[.tmp 2]
theorem yED:zBs Tryz.prog zKw yLl zXv doc_Fine_R:=by kernel_rfl
abbrev zYQ:HCode:=oN [oV 2 (.mv (.c (sv [])))]
abbrev zYR:HCode:=oR [oV 3 (.mv (.t 0)),
  oV 2 (.mv (.t 3))] [3]
abbrev yHL:HCode:=(.seq zYQ (.seq zYR .ret))
abbrev zO7:Env:={N:=4,Γ:=[],L:=4,nfix:=0}
abbrev doc_Fine_1_R:List RSrc:=[.tmp 2]
theorem zYS:zBs Tryz.prog zEC yHL zO7 doc_Fine_1_R:=by kernel_rfl
abbrev zYT:HCode:=oN [oV 1 (.boxF (.t 0)),
  oV 2 (.mv (.c (sv [])))]
abbrev zYU:HCode:=oR [oV 3 (.fldR (.t 1) 0 1),
  oV 4 (.ldR (.t 3) 1 false),
  oV 2 (.mv (.t 4))] [3,4]
abbrev yHM:HCode:=(.seq zYT (.seq zYU .ret))
abbrev zO8:Env:={N:=5,Γ:=[],L:=5,nfix:=0}
abbrev doc_Fine_2_R:List RSrc:=[.tmp 2]
theorem zYV:zBs Tryz.prog zED yHM zO8 doc_Fine_2_R:=by kernel_rfl
abbrev zYW:HCode:=oN [oV 1 (.boxF (.t 0)),
  oV 2 (.mv (.c (bv false)))]
abbrev zYX:HCode:=oR [oV 3 (.fldR (.t 1) 1 1),
  oV 4 (.ldR (.t 3) 1 false),
  oC 5 zFK [(.t 4,.v)],
  oV 6 (.not (.t 5)),
  oV 2 (.mv (.t 6))] [3,4,5,6]
abbrev yHN:HCode:=(.seq zYW (.seq zYX .ret))
abbrev zO9:Env:={N:=7,Γ:=[],L:=7,nfix:=0}
abbrev doc_Fine_3_R:List RSrc:=[.tmp 2]
theorem zYY:zBs Tryz.prog zDr yHN zO9 doc_Fine_3_R:=by kernel_rfl
abbrev yB3:HCode:=oN [oV 1 (.boxF (.t 0)),
  oV 2 (.mv (.c (iv 0)))]
abbrev yB4:HCode:=oR [oV 6 (.fldR (.t 1) 0 1),
  oV 7 (.ldR (.t 6) 1 false),
  oV 8 (.len false (.t 7)),
  oV 9 (.ints .lss (.t 8) (.c (iv 1))),
  oV 10 (.mv (.t 9)),
  oG 10 false 11 (.fldR (.t 1) 0 1),
  oG 10 false 12 (.ldR (.t 11) 1 false),
  oG 10 false 13 (.len false (.t 12)),
  oG 10 false 14 (.ints .gtr (.t 13) (.c (iv 64))),
  oV 15 (.pick (.t 10) (.c (bv true)) (.t 14))] [6,7,8,9,10,11,12,13,14]
abbrev yB5:HCode:=oN [oV 2 (.mv (.c (iv 2)))]
abbrev yB6:HCode:=oN [⟨none,.nlk 3 zAr 1⟩]
abbrev yB7:HCode:=oR [oV 16 (.fldR (.t 1) 0 1),
  oV 17 (.ldR (.t 16) 1 false),
  oV 18 (.len false (.t 17)),
  oV 19 (.mv (.c (iv 0)))] [16]
abbrev yB8:HCode:=oN [oV 20 (.ints .lss (.t 19) (.t 18))]
abbrev yB9:HCode:=.reg [oV 21 (.mv (.t 19)),
  oV 22 (.idxA 5 (.t 17) (.t 19)),
  oV 23 (.ldR (.t 22) 5 true),
  ⟨none,.alloc 5 0 69 [.v (.int .i64 0),.v (mkS []),.v (mkS []),.nl 1,.nl 2]⟩,
  oV 4 (.mv (.t 21)),
  ⟨none,.sto (.t 5) 0 69 0 5 (.t 23)⟩] false [.frz 0 69 5,.forget [21,22,23]]
abbrev yCa:HCode:=.rdr 3 [oV 24 (.mv (.t 3)),
  oV 25 (.len false (.t 24)),
  oV 26 (.ints .gtr (.t 25) (.c (iv 0))),
  oV 27 (.mv (.t 26)),
  oG 27 true 28 (.mv (.t 3)),
  oG 27 true 29 (.mv (.t 3)),
  oG 27 true 30 (.len false (.t 29)),
  oG 27 true 31 (.ints .sub (.t 30) (.c (iv 1))),
  oG 27 true 32 (.idxA 1 (.t 28) (.t 31)),
  oG 27 true 33 (.ldR (.t 32) 1 false),
  oG 27 true 34 (.fldR (.t 5) 0 1),
  oG 27 true 35 (.ldR (.t 34) 1 false),
  oG 27 true 36 (.ints .neq (.t 33) (.t 35)),
  oV 37 (.pick (.t 27) (.t 36) (.c (bv false)))] true [.forget [24,25,26,27,28,29,30,31,32,33,34,35,36]]
abbrev yCb:HCode:=oR [⟨none,.mvk 38 3⟩,
  oV 39 (.mv (.t 3)),
  oV 40 (.len false (.t 39)),
  oV 41 (.ints .sub (.t 40) (.c (iv 1))),
  ⟨none,.trk 42 38 (.t 41)⟩,
  ⟨none,.mvk 3 42⟩] [38,39,40,41,42]
abbrev yCc:HCode:=.rdr 3 [oV 43 (.ldR (.t 5) 5 true),
  oC 44 zKw [(.t 43,.v)],
  oV 45 (.not (.t 44)),
  oV 46 (.mv (.t 45)),
  oG 46 false 47 (.mv (.t 4)),
  oG 46 false 48 (.ints .eql (.t 47) (.c (iv 0))),
  oG 46 false 49 (.mv (.t 48)),
  oG 49 true 50 (.fldR (.t 5) 0 1),
  oG 49 true 51 (.ldR (.t 50) 1 false),
  oG 49 true 52 (.ints .neq (.t 51) (.c (iv (-1)))),
  oG 46 false 53 (.pick (.t 49) (.t 52) (.c (bv false))),
  oV 54 (.pick (.t 46) (.c (bv true)) (.t 53)),
  oV 55 (.mv (.t 54)),
  oG 55 false 56 (.mv (.t 4)),
  oG 55 false 57 (.ints .gtr (.t 56) (.c (iv 0))),
  oG 55 false 58 (.mv (.t 57)),
  oG 58 true 59 (.mv (.t 3)),
  oG 58 true 60 (.len false (.t 59)),
  oG 58 true 61 (.ints .eql (.t 60) (.c (iv 0))),
  oG 55 false 62 (.pick (.t 58) (.t 61) (.c (bv false))),
  oV 63 (.pick (.t 55) (.c (bv true)) (.t 62))] false [.forget [43,44,45,46,47,48,49,50,51,52,53,54,55,56,57,58,59,60,61,62]]
abbrev zYZ:HCode:=oN [oV 2 (.mv (.c (iv 1)))]
abbrev zY0:HCode:=oR [⟨none,.mvk 64 3⟩,
  oV 65 (.mv (.t 4)),
  oV 66 (.bslF 1 [.t 65]),
  ⟨none,.apk 67 zAr 1 64 (.t 66)⟩,
  ⟨none,.mvk 3 67⟩] [64,65,66,67]
abbrev zY1:HCode:=oR [oV 68 (.ints .add (.t 19) (.c (iv 1))),
  oV 19 (.mv (.t 68))] [68]
abbrev zY2:HCode:=oN [oV 2 (.mv (.c (iv 0)))]
abbrev yJu:HCode:=(.seq yB3 (.seq (.seq yB4 (.cond (.t 15) (.seq yB5 .ret) .skip)) (.seq yB6 (.seq (.seq yB7 (.block 0 (.loop (.seq yB8 (.seq (.cond (.t 20) .skip (.exit 0)) (.seq (.block 1 (.seq yB9 (.seq (.block 2 (.loop (.seq (.seq yCa (.cond (.t 37) .skip (.exit 2))) (.block 3 yCb)))) (.seq (.seq yCc (.cond (.t 63) (.seq zYZ .ret) .skip)) zY0)))) zY1)))))) (.seq zY2 .ret)))))
abbrev zSb:Env:={N:=69,Γ:=[(69,5)],L:=74,nfix:=0}
abbrev doc_Check_R:List RSrc:=[.tmp 2]
theorem yCd:zBs Tryz.prog zFJ yJu zSb doc_Check_R:=by kernel_rfl
abbrev yCe:HCode:=oN [⟨none,.alloc 0 0 13 [.nl 5]⟩]
abbrev yCf:HCode:=oR [oV 1 (.bld [.v (.int .i64 0),.v (mkS []),.v (mkS []),.nl 1,.nl 2] [(0,1,.c (iv (-1))),(1,1,.c (sv [108,105,115,116])),(2,1,.c (sv [116,111,112]))]),
  oV 2 (.bslF 1 [.c (sv [97])]),
  oV 3 (.bld [.v (.int .i64 0),.v (mkS []),.v (mkS []),.nl 1,.nl 2] [(0,1,.c (iv 0)),(1,1,.c (sv [105,116,101,109])),(3,1,.t 2)]),
  oV 4 (.bslF 1 [.c (sv [98])]),
  oV 5 (.bld [.v (.int .i64 0),.v (mkS []),.v (mkS []),.nl 1,.nl 2] [(0,1,.c (iv 0)),(1,1,.c (sv [105,116,101,109])),(3,1,.t 4)]),
  oV 6 (.bld [.v (mkS []),.v (mkS [])] [(0,1,.c (sv [116,111])),(1,1,.c (sv [111,110,101,32,116,119,111]))]),
  oV 7 (.bslF 2 [.t 6]),
  oV 8 (.bld [.v (.int .i64 0),.v (mkS []),.v (mkS []),.nl 1,.nl 2] [(0,1,.c (iv 2)),(1,1,.c (sv [108,105,110,107])),(4,1,.t 7)]),
  oV 9 (.bslF 1 [.c (sv [97])]),
  oV 10 (.bld [.v (.int .i64 0),.v (mkS []),.v (mkS []),.nl 1,.nl 2] [(0,1,.c (iv 0)),(1,1,.c (sv [105,116,101,109])),(3,1,.t 9)]),
  oV 11 (.bslF 5 [.t 1,.t 3,.t 5,.t 8,.t 10]),
  oV 12 (.bld [.nl 5] [(0,1,.t 11)]),
  ⟨none,.sto (.t 0) 0 13 0 1 (.t 12)⟩] [1,2,3,4,5,6,7,8,9,10,11,12]
abbrev yJv:HCode:=(.seq yCe (.seq yCf .ret))
abbrev zSc:Env:={N:=13,Γ:=[(13,1)],L:=14,nfix:=0}
abbrev law_small_R:List RSrc:=[.cellB 0 0 13 0 1 true]
theorem yCg:zBs Tryz.prog zFL yJv zSc law_small_R:=by kernel_rfl
end Go.Hx
end

section
/-
 The abstract code of functions of the program, printed by gen.py; each stands for the given one. No condition.
-/
namespace Go.Hx
open Go.Proofs
variable [Glob]
abbrev zCz:Nat:=239
abbrev zCh:Nat:=240
abbrev zBy:Nat:=238
abbrev zFa:Nat:=237
abbrev yEE:HCode:=oN [oV 2 (.mv (.c (bv false)))]
abbrev yEF:HCode:=oR [oV 3 (.mv (.t 0)),
  oV 4 (.len true (.t 3)),
  oV 5 (.ints .gtr (.t 4) (.c (iv 0))),
  oV 6 (.mv (.t 5)),
  oG 6 true 7 (.mv (.t 0)),
  oG 6 true 8 (.len true (.t 7)),
  oG 6 true 9 (.ints .leq (.t 8) (.c (iv 12))),
  oV 10 (.pick (.t 6) (.t 9) (.c (bv false))),
  oV 11 (.mv (.t 10)),
  oG 11 true 12 (.mv (.t 0)),
  oG 11 true 13 (.idxS (.t 12) (.c (iv 0))),
  oG 11 true 14 (.ints .geq (.t 13) (.c (.one (.v (.int .u8 97))))),
  oV 15 (.pick (.t 11) (.t 14) (.c (bv false))),
  oV 16 (.mv (.t 15)),
  oG 16 true 17 (.mv (.t 0)),
  oG 16 true 18 (.idxS (.t 17) (.c (iv 0))),
  oG 16 true 19 (.ints .leq (.t 18) (.c (.one (.v (.int .u8 122))))),
  oV 20 (.pick (.t 16) (.t 19) (.c (bv false))),
  oV 21 (.mv (.t 20)),
  oG 21 true 22 (.mv (.t 0)),
  ⟨some (21,true),.call (some 23) zFa [(.t 22,.v),(.c (sv [97,98,99,100,101,102,103,104,105,106,107,108,109,110,111,112,113,114,115,116,117,118,119,120,121,122,48,49,50,51,52,53,54,55,56,57,45]),.v)]⟩,
  oG 21 true 24 (.strs .eql (.t 23) (.c (sv []))),
  oV 25 (.pick (.t 21) (.t 24) (.c (bv false))),
  oV 26 (.mv (.t 25)),
  oG 26 true 27 (.mv (.t 0)),
  ⟨some (26,true),.call (some 28) zBy [(.t 27,.v),(.f zCz,.v)]⟩,
  oG 26 true 29 (.not (.t 28)),
  oV 30 (.pick (.t 26) (.t 29) (.c (bv false))),
  oV 2 (.mv (.t 30))] [3,4,5,6,7,8,9,10,11,12,13,14,15,16,17,18,19,20,21,22,23,24,25,26,27,28,29,30]
abbrev yLm:HCode:=(.seq yEE (.seq yEF .ret))
abbrev zXw:Env:={N:=31,Γ:=[],L:=31,nfix:=0}
abbrev doc_Name_R:List RSrc:=[.tmp 2]
theorem yEG:zBs Tryz.prog zCs yLm zXw doc_Name_R:=by kernel_rfl
abbrev zY3:HCode:=oN [oV 2 (.mv (.c (bv false)))]
abbrev zY4:HCode:=oR [oV 3 (.mv (.t 0)),
  oV 4 (.ints .lss (.t 3) (.c (.one (.v (.int .i32 97))))),
  oV 5 (.mv (.t 4)),
  oG 5 false 6 (.mv (.t 0)),
  oG 5 false 7 (.ints .gtr (.t 6) (.c (.one (.v (.int .i32 122))))),
  oV 8 (.pick (.t 5) (.c (bv true)) (.t 7)),
  oV 9 (.mv (.t 8)),
  oG 9 true 10 (.mv (.t 0)),
  oG 9 true 11 (.ints .lss (.t 10) (.c (.one (.v (.int .i32 48))))),
  oG 9 true 12 (.mv (.t 11)),
  oG 12 false 13 (.mv (.t 0)),
  oG 12 false 14 (.ints .gtr (.t 13) (.c (.one (.v (.int .i32 57))))),
  oG 9 true 15 (.pick (.t 12) (.c (bv true)) (.t 14)),
  oV 16 (.pick (.t 9) (.t 15) (.c (bv false))),
  oV 17 (.mv (.t 16)),
  oG 17 true 18 (.mv (.t 0)),
  oG 17 true 19 (.ints .neq (.t 18) (.c (.one (.v (.int .i32 45))))),
  oV 20 (.pick (.t 17) (.t 19) (.c (bv false))),
  oV 2 (.mv (.t 20))] [3,4,5,6,7,8,9,10,11,12,13,14,15,16,17,18,19,20]
abbrev yHO:HCode:=(.seq zY3 (.seq zY4 .ret))
abbrev zPa:Env:={N:=21,Γ:=[],L:=21,nfix:=0}
abbrev doc_Name_1_R:List RSrc:=[.tmp 2]
theorem zY5:zBs Tryz.prog zCz yHO zPa doc_Name_1_R:=by kernel_rfl
abbrev yCh:HCode:=oN [oV 2 (.mv (.c (bv false)))]
abbrev yCi:HCode:=oR [oV 3 (.mv (.t 0)),
  oV 4 (.len true (.t 3)),
  oV 5 (.ints .leq (.t 4) (.c (iv 16))),
  oV 6 (.mv (.t 5)),
  oG 6 true 7 (.mv (.t 0)),
  ⟨some (6,true),.call (some 8) zBy [(.t 7,.v),(.f zCh,.v)]⟩,
  oG 6 true 9 (.not (.t 8)),
  oV 10 (.pick (.t 6) (.t 9) (.c (bv false))),
  oV 2 (.mv (.t 10))] [3,4,5,6,7,8,9,10]
abbrev yJw:HCode:=(.seq yCh (.seq yCi .ret))
abbrev zSd:Env:={N:=11,Γ:=[],L:=11,nfix:=0}
abbrev doc_Value_R:List RSrc:=[.tmp 2]
theorem yCj:zBs Tryz.prog zFK yJw zSd doc_Value_R:=by kernel_rfl
abbrev zUD:HCode:=oN [oV 2 (.mv (.c (bv false)))]
abbrev zUE:HCode:=oR [oV 3 (.mv (.t 0)),
  oV 4 (.ints .lss (.t 3) (.c (.one (.v (.int .i32 32))))),
  oV 5 (.mv (.t 4)),
  oG 5 false 6 (.mv (.t 0)),
  oG 5 false 7 (.ints .gtr (.t 6) (.c (.one (.v (.int .i32 126))))),
  oV 8 (.pick (.t 5) (.c (bv true)) (.t 7)),
  oV 9 (.mv (.t 8)),
  oG 9 false 10 (.mv (.t 0)),
  oG 9 false 11 (.ints .eql (.t 10) (.c (.one (.v (.int .i32 34))))),
  oV 12 (.pick (.t 9) (.c (bv true)) (.t 11)),
  oV 2 (.mv (.t 12))] [3,4,5,6,7,8,9,10,11,12]
abbrev yEH:HCode:=(.seq zUD (.seq zUE .ret))
abbrev zL8:Env:={N:=13,Γ:=[],L:=13,nfix:=0}
abbrev doc_Value_1_R:List RSrc:=[.tmp 2]
theorem zUF:zBs Tryz.prog zCh yEH zL8 doc_Value_1_R:=by kernel_rfl
end Go.Hx
end

section
/-
 The abstract code of functions of the program, printed by gen.py; each stands for the given one. No condition.
-/
namespace Go.Hx
open Go.Proofs
variable [Glob]
abbrev zFN:Nat:=221
abbrev zFO:Nat:=171
abbrev zDs:Nat:=144
abbrev zDt:Nat:=177
abbrev yCk:HCode:=oN [oV 1 (.boxF (.t 0)),
  oV 2 (.mv (.c (iv 0)))]
abbrev yCl:HCode:=oR [oV 5 (.fldR (.t 1) 0 1),
  oV 6 (.ldR (.t 5) 1 false),
  oV 7 (.fldR (.t 1) 1 1),
  oV 8 (.ldR (.t 7) 1 false),
  oV 9 (.bld [.v (.int .i64 0),.v (.int .i64 0)] [(0,1,.t 6),(1,1,.t 8)]),
  oV 10 (.mv (.c (iv 0)))] [5,6,7,8]
abbrev yCm:HCode:=oN [oV 11 (.ints .lss (.t 10) (.c (iv 2)))]
abbrev yCn:HCode:=oR [oV 12 (.idxV 2 (.t 9) (.t 10)),
  oV 4 (.mv (.t 12))] [12]
abbrev yCo:HCode:=oR [oV 13 (.mv (.t 4)),
  oV 14 (.ints .lss (.t 13) (.c (iv (-1048576)))),
  oV 15 (.mv (.t 14)),
  oG 15 false 16 (.mv (.t 4)),
  oG 15 false 17 (.ints .gtr (.t 16) (.c (iv 1048576))),
  oV 18 (.pick (.t 15) (.c (bv true)) (.t 17))] [13,14,15,16,17]
abbrev yCp:HCode:=oN [oV 2 (.mv (.c (iv 3)))]
abbrev yCq:HCode:=oR [oV 19 (.ints .add (.t 10) (.c (iv 1))),
  oV 10 (.mv (.t 19))] [19]
abbrev yCr:HCode:=oN [oV 2 (.mv (.c (iv 0)))]
abbrev yJx:HCode:=(.seq yCk (.seq (.seq yCl (.block 0 (.loop (.seq yCm (.seq (.cond (.t 11) .skip (.exit 0)) (.seq (.block 1 (.seq yCn (.seq yCo (.cond (.t 18) (.seq yCp .ret) .skip)))) yCq)))))) (.seq yCr .ret)))
abbrev zSe:Env:={N:=20,Γ:=[],L:=20,nfix:=0}
abbrev nth_Check_R:List RSrc:=[.tmp 2]
theorem yCs:zBs Tryz.prog zFN yJx zSe nth_Check_R:=by kernel_rfl
abbrev yCt:HCode:=oN [oV 2 (.boxF (.t 0)),
  oV 4 (.mv (.c (bv false)))]
abbrev yCu:HCode:=oR [oV 6 (.ldR (.t 2) 2 true),
  oC 7 zFN [(.t 6,.v)],
  oV 8 (.ints .neq (.t 7) (.c (iv 0))),
  oV 9 (.mv (.t 8)),
  oG 9 false 10 (.mv (.t 1)),
  oG 9 false 11 (.ints .lss (.t 10) (.c (iv 1))),
  oV 12 (.pick (.t 9) (.c (bv true)) (.t 11)),
  oV 13 (.mv (.t 12)),
  oG 13 false 14 (.mv (.t 1)),
  oG 13 false 15 (.ints .gtr (.t 14) (.c (iv 1073741824))),
  oV 16 (.pick (.t 13) (.c (bv true)) (.t 15))] [6,7,8,9,10,11,12,13,14,15]
abbrev yCv:HCode:=oN [oV 4 (.mv (.c (bv false)))]
abbrev yCw:HCode:=oR [oV 17 (.mv (.t 1)),
  oV 18 (.fldR (.t 2) 1 1),
  oV 19 (.ldR (.t 18) 1 false),
  oV 20 (.ints .sub (.t 17) (.t 19)),
  oV 5 (.mv (.t 20))] [17,18,19,20]
abbrev yCx:HCode:=oR [oV 21 (.fldR (.t 2) 0 1),
  oV 22 (.ldR (.t 21) 1 false),
  oV 23 (.ints .eql (.t 22) (.c (iv 0)))] [21,22]
abbrev yCy:HCode:=oR [oV 24 (.mv (.t 5)),
  oV 25 (.ints .eql (.t 24) (.c (iv 0))),
  oV 4 (.mv (.t 25))] [24,25]
abbrev yCz:HCode:=oR [oV 26 (.mv (.t 5)),
  oV 27 (.fldR (.t 2) 0 1),
  oV 28 (.ldR (.t 27) 1 false),
  oV 29 (.ints .rem (.t 26) (.t 28)),
  oV 30 (.ints .eql (.t 29) (.c (iv 0))),
  oV 31 (.mv (.t 30)),
  oG 31 true 32 (.mv (.t 5)),
  oG 31 true 33 (.fldR (.t 2) 0 1),
  oG 31 true 34 (.ldR (.t 33) 1 false),
  oG 31 true 35 (.ints .quo (.t 32) (.t 34)),
  oG 31 true 36 (.ints .geq (.t 35) (.c (iv 0))),
  oV 37 (.pick (.t 31) (.t 36) (.c (bv false))),
  oV 4 (.mv (.t 37))] [26,27,28,29,30,31,32,33,34,35,36,37]
abbrev yJy:HCode:=(.seq yCt (.seq (.seq yCu (.cond (.t 16) (.seq yCv .ret) .skip)) (.seq yCw (.seq (.seq yCx (.cond (.t 23) (.seq yCy .ret) .skip)) (.seq yCz .ret)))))
abbrev zSf:Env:={N:=38,Γ:=[],L:=38,nfix:=0}
abbrev nth_Holds_R:List RSrc:=[.tmp 4]
theorem yCA:zBs Tryz.prog zFO yJy zSf nth_Holds_R:=by kernel_rfl
abbrev zSg:HCode:=oN [oV 1 (.boxF (.t 0)),
  oV 2 (.mv (.c (iv 0)))]
abbrev zSh:HCode:=oR [oV 3 (.fldR (.t 1) 0 1),
  oV 4 (.ldR (.t 3) 1 false),
  oC 5 zAG [(.t 4,.v),(.c (iv (-1048576)),.v),(.c (iv 1048576),.v)],
  oV 6 (.not (.t 5)),
  oV 7 (.mv (.t 6)),
  oG 7 false 8 (.fldR (.t 1) 1 1),
  oG 7 false 9 (.ldR (.t 8) 1 false),
  ⟨some (7,false),.call (some 10) zAG [(.t 9,.v),(.c (iv (-1048576)),.v),(.c (iv 1048576),.v)]⟩,
  oG 7 false 11 (.not (.t 10)),
  oV 12 (.pick (.t 7) (.c (bv true)) (.t 11))] [3,4,5,6,7,8,9,10,11]
abbrev zSi:HCode:=oN [oV 2 (.mv (.c (iv 3)))]
abbrev zSj:HCode:=oN [oV 2 (.mv (.c (iv 0)))]
abbrev yCB:HCode:=(.seq zSg (.seq (.seq zSh (.cond (.t 12) (.seq zSi .ret) .skip)) (.seq zSj .ret)))
abbrev zKg:Env:={N:=13,Γ:=[],L:=13,nfix:=0}
abbrev ref_CheckNth_R:List RSrc:=[.tmp 2]
theorem zSk:zBs Tryz.prog zDs yCB zKg ref_CheckNth_R:=by kernel_rfl
abbrev zSl:HCode:=oN [oV 2 (.boxF (.t 0)),
  oV 4 (.mv (.c (bv false)))]
abbrev zSm:HCode:=oR [oV 5 (.ldR (.t 2) 2 true),
  oC 6 zDs [(.t 5,.v)],
  oV 7 (.ints .neq (.t 6) (.c (iv 0))),
  oV 8 (.mv (.t 7)),
  oG 8 false 9 (.mv (.t 1)),
  oG 8 false 10 (.ints .lss (.t 9) (.c (iv 1))),
  oV 11 (.pick (.t 8) (.c (bv true)) (.t 10)),
  oV 12 (.mv (.t 11)),
  oG 12 false 13 (.mv (.t 1)),
  oG 12 false 14 (.ints .gtr (.t 13) (.c (iv 1073741824))),
  oV 15 (.pick (.t 12) (.c (bv true)) (.t 14))] [5,6,7,8,9,10,11,12,13,14]
abbrev zSn:HCode:=oN [oV 4 (.mv (.c (bv false)))]
abbrev zSo:HCode:=oR [oV 16 (.fldR (.t 2) 0 1),
  oV 17 (.ldR (.t 16) 1 false),
  oV 18 (.ints .eql (.t 17) (.c (iv 0))),
  oV 19 (.mv (.t 18)),
  oG 19 false 20 (.mv (.t 1)),
  oG 19 false 21 (.fldR (.t 2) 1 1),
  oG 19 false 22 (.ldR (.t 21) 1 false),
  oG 19 false 23 (.ints .eql (.t 20) (.t 22)),
  oV 24 (.pick (.t 19) (.c (bv true)) (.t 23))] [16,17,18,19,20,21,22,23]
abbrev zSp:HCode:=oR [oV 25 (.mv (.t 1)),
  oV 26 (.fldR (.t 2) 1 1),
  oV 27 (.ldR (.t 26) 1 false),
  oV 28 (.ints .eql (.t 25) (.t 27)),
  oV 4 (.mv (.t 28))] [25,26,27,28]
abbrev zSq:HCode:=oR [oV 29 (.fldR (.t 2) 0 1),
  oV 30 (.ldR (.t 29) 1 false),
  oV 31 (.ints .gtr (.t 30) (.c (iv 0)))] [29,30]
abbrev zSr:HCode:=oR [oV 32 (.mv (.t 1)),
  oV 33 (.fldR (.t 2) 1 1),
  oV 34 (.ldR (.t 33) 1 false),
  oV 35 (.ints .gtr (.t 32) (.t 34)),
  oV 36 (.mv (.t 35)),
  oG 36 true 37 (.mv (.t 1)),
  oG 36 true 38 (.fldR (.t 2) 1 1),
  oG 36 true 39 (.ldR (.t 38) 1 false),
  oG 36 true 40 (.ints .sub (.t 37) (.t 39)),
  oG 36 true 41 (.fldR (.t 2) 0 1),
  oG 36 true 42 (.ldR (.t 41) 1 false),
  oG 36 true 43 (.ints .rem (.t 40) (.t 42)),
  oG 36 true 44 (.ints .eql (.t 43) (.c (iv 0))),
  oV 45 (.pick (.t 36) (.t 44) (.c (bv false))),
  oV 4 (.mv (.t 45))] [32,33,34,35,36,37,38,39,40,41,42,43,44,45]
abbrev zSs:HCode:=oR [oV 46 (.mv (.t 1)),
  oV 47 (.fldR (.t 2) 1 1),
  oV 48 (.ldR (.t 47) 1 false),
  oV 49 (.ints .lss (.t 46) (.t 48)),
  oV 50 (.mv (.t 49)),
  oG 50 true 51 (.fldR (.t 2) 1 1),
  oG 50 true 52 (.ldR (.t 51) 1 false),
  oG 50 true 53 (.mv (.t 1)),
  oG 50 true 54 (.ints .sub (.t 52) (.t 53)),
  oG 50 true 55 (.fldR (.t 2) 0 1),
  oG 50 true 56 (.ldR (.t 55) 1 false),
  oG 50 true 57 (.neg (.t 56)),
  oG 50 true 58 (.ints .rem (.t 54) (.t 57)),
  oG 50 true 59 (.ints .eql (.t 58) (.c (iv 0))),
  oV 60 (.pick (.t 50) (.t 59) (.c (bv false))),
  oV 4 (.mv (.t 60))] [46,47,48,49,50,51,52,53,54,55,56,57,58,59,60]
abbrev yCC:HCode:=(.seq zSl (.seq (.seq zSm (.cond (.t 15) (.seq zSn .ret) .skip)) (.seq (.seq zSo (.cond (.t 24) (.seq zSp .ret) .skip)) (.seq (.seq zSq (.cond (.t 31) (.seq zSr .ret) .skip)) (.seq zSs .ret)))))
abbrev zKh:Env:={N:=61,Γ:=[],L:=61,nfix:=0}
abbrev ref_NthHolds_R:List RSrc:=[.tmp 4]
theorem zSt:zBs Tryz.prog zDt yCC zKh ref_NthHolds_R:=by kernel_rfl
end Go.Hx
end

section
/-
 The abstract code of functions of the program, printed by gen.py; each stands for the given one. No condition.
-/
namespace Go.Hx
open Go.Proofs
variable [Glob]
end Go.Hx
end

section
/-
 The abstract code of functions of the program, printed by gen.py; each stands for the given one. No condition.
-/
namespace Go.Hx
open Go.Proofs
variable [Glob]
abbrev zEE:Nat:=54
abbrev zBB:Nat:=110
abbrev zAs:Nat:=163
abbrev zCA:Nat:=164
abbrev zNZ:Nat:=220
abbrev zHl:Nat:=111
abbrev zEi:Nat:=39
abbrev zD0:Nat:=94
abbrev zD1:Nat:=93
abbrev zEF:Nat:=95
abbrev zGG:Nat:=143
abbrev zD2:Nat:=92
abbrev yHP:HCode:=oN [⟨none,.alloc 2 0 31 [.v (.bool false),.v (.bool false),.v (.bool false),.v (.bool false)]⟩,
  oV 3 (.mv (.c (bv false)))]
abbrev yHQ:HCode:=oN [oV 4 (.mv (.t 0))]
abbrev yHR:HCode:=oR [oV 6 (.ints .eql (.t 4) (.c (iv 1))),
  oV 5 (.mv (.t 6))] [6]
abbrev yHS:HCode:=oR [oV 7 (.ints .eql (.t 4) (.c (iv 2))),
  oV 5 (.mv (.t 7))] [7]
abbrev yHT:HCode:=oR [oV 8 (.ints .eql (.t 4) (.c (iv 3))),
  oV 5 (.mv (.t 8))] [8]
abbrev yHU:HCode:=oR [oV 9 (.bld [.v (.bool false),.v (.bool false),.v (.bool false),.v (.bool false)] [(0,1,.c (bv true))]),
  ⟨none,.sto (.t 2) 0 31 0 4 (.t 9)⟩,
  oV 3 (.mv (.c (bv true)))] [9]
abbrev yHV:HCode:=oR [oV 11 (.ints .eql (.t 4) (.c (iv 4))),
  oV 10 (.mv (.t 11))] [11]
abbrev yHW:HCode:=oR [oV 12 (.ints .eql (.t 4) (.c (iv 5))),
  oV 10 (.mv (.t 12))] [12]
abbrev yHX:HCode:=oR [oV 13 (.ints .eql (.t 4) (.c (iv 6))),
  oV 10 (.mv (.t 13))] [13]
abbrev yHY:HCode:=oR [oV 14 (.ints .eql (.t 4) (.c (iv 7))),
  oV 10 (.mv (.t 14))] [14]
abbrev yEI:HCode:=oR [oV 15 (.ints .eql (.t 4) (.c (iv 8))),
  oV 10 (.mv (.t 15))] [15]
abbrev yEJ:HCode:=oR [oV 16 (.bld [.v (.bool false),.v (.bool false),.v (.bool false),.v (.bool false)] [(0,1,.c (bv true)),(1,1,.c (bv true))]),
  ⟨none,.sto (.t 2) 0 31 0 4 (.t 16)⟩,
  oV 3 (.mv (.c (bv true)))] [16]
abbrev yEK:HCode:=oR [oV 18 (.ints .eql (.t 4) (.c (iv 9))),
  oV 17 (.mv (.t 18))] [18]
abbrev yEL:HCode:=oR [oV 19 (.ints .eql (.t 4) (.c (iv 10))),
  oV 17 (.mv (.t 19))] [19]
abbrev yEM:HCode:=oR [oV 20 (.bld [.v (.bool false),.v (.bool false),.v (.bool false),.v (.bool false)] [(2,1,.c (bv true))]),
  ⟨none,.sto (.t 2) 0 31 0 4 (.t 20)⟩,
  oV 3 (.mv (.c (bv true)))] [20]
abbrev yEN:HCode:=oR [oV 22 (.ints .eql (.t 4) (.c (iv 11))),
  oV 21 (.mv (.t 22))] [22]
abbrev yEO:HCode:=oR [oV 23 (.ints .eql (.t 4) (.c (iv 12))),
  oV 21 (.mv (.t 23))] [23]
abbrev yEP:HCode:=oR [oV 24 (.bld [.v (.bool false),.v (.bool false),.v (.bool false),.v (.bool false)] []),
  ⟨none,.sto (.t 2) 0 31 0 4 (.t 24)⟩,
  oV 3 (.mv (.c (bv true)))] [24]
abbrev yEQ:HCode:=oR [oV 26 (.ints .eql (.t 4) (.c (iv 13))),
  oV 25 (.mv (.t 26))] [26]
abbrev yER:HCode:=oR [oV 27 (.ints .eql (.t 4) (.c (iv 14))),
  oV 25 (.mv (.t 27))] [27]
abbrev yES:HCode:=oR [oV 28 (.ints .eql (.t 4) (.c (iv 15))),
  oV 25 (.mv (.t 28))] [28]
abbrev yET:HCode:=oR [oV 29 (.bld [.v (.bool false),.v (.bool false),.v (.bool false),.v (.bool false)] [(3,1,.c (bv true))]),
  ⟨none,.sto (.t 2) 0 31 0 4 (.t 29)⟩,
  oV 3 (.mv (.c (bv true)))] [29]
abbrev yEU:HCode:=oR [oV 30 (.bld [.v (.bool false),.v (.bool false),.v (.bool false),.v (.bool false)] []),
  ⟨none,.sto (.t 2) 0 31 0 4 (.t 30)⟩,
  oV 3 (.mv (.c (bv false)))] [30]
abbrev yNB:HCode:=(.seq yHP (.seq (.seq yHQ (.block 0 (.seq (.seq yHR (.cond (.t 5) .skip (.seq yHS (.cond (.t 5) .skip yHT)))) (.cond (.t 5) (.seq yHU .ret) (.seq (.seq yHV (.cond (.t 10) .skip (.seq yHW (.cond (.t 10) .skip (.seq yHX (.cond (.t 10) .skip (.seq yHY (.cond (.t 10) .skip yEI)))))))) (.cond (.t 10) (.seq yEJ .ret) (.seq (.seq yEK (.cond (.t 17) .skip yEL)) (.cond (.t 17) (.seq yEM .ret) (.seq (.seq yEN (.cond (.t 21) .skip yEO)) (.cond (.t 21) (.seq yEP .ret) (.seq (.seq yEQ (.cond (.t 25) .skip (.seq yER (.cond (.t 25) .skip yES)))) (.cond (.t 25) (.seq yET .ret) .skip)))))))))))) (.seq yEU .ret)))
abbrev yCD:Env:={N:=31,Γ:=[(31,4)],L:=35,nfix:=0}
abbrev path_of_R:List RSrc:=[.cellB 2 0 31 0 4 true,.tmp 3]
theorem yHZ:zBs Tryz.prog zNZ yNB yCD path_of_R:=by kernel_rfl
abbrev zY6:HCode:=oN [⟨none,.alloc 0 0 2 [.v (.int .i64 0),.v (.int .i64 0),.v (.int .i64 0),.v (.int .i64 0)]⟩]
abbrev zY7:HCode:=oR [oV 1 (.bld [.v (.int .i64 0),.v (.int .i64 0),.v (.int .i64 0),.v (.int .i64 0)] [(0,1,.c (iv 2)),(1,1,.c (iv 4)),(2,1,.c (iv 1)),(3,1,.c (iv 3))]),
  ⟨none,.sto (.t 0) 0 2 0 4 (.t 1)⟩] [1]
abbrev yH0:HCode:=(.seq zY6 (.seq zY7 .ret))
abbrev zPb:Env:={N:=2,Γ:=[(2,4)],L:=6,nfix:=0}
abbrev path_order_R:List RSrc:=[.cellB 0 0 2 0 4 true]
theorem zY8:zBs Tryz.prog zHl yH0 zPb path_order_R:=by kernel_rfl
abbrev zN0:HCode:=oN [oV 6 (.mv (.t 1))]
abbrev zN1:HCode:=oQ [oD 0 false (oV 7 (.mv (.t 0))),
  oD 1 false (oV 8 (.mv (.t 2))),
  oD 2 false (oV 9 (.nilck (.t 7))),
  oD 3 false (oV 10 (.fldP (.t 9) 0)),
  oD 4 false (oV 11 (.ixB 5 (.t 10) (.t 8))),
  oD 5 false (oV 12 (.ldD (.t 11) 0 17 5)),
  oD 6 false (oV 13 (.ints .add (.t 12) (.c (iv 1)))),
  oD 7 false (oV 14 (.nilck (.t 7))),
  oD 8 false (oV 15 (.fldP (.t 14) 0)),
  oD 9 false (oV 16 (.ixB 5 (.t 15) (.t 8))),
  oD 10 false ⟨none,.std (.t 16) 0 17 5 (.t 13)⟩] [7,8,9,10,11,12,13,14,15,16]
abbrev zUG:HCode:=(.seq zN0 (.cond (.t 6) zN1 .skip))
abbrev zCe:Env:={N:=17,Γ:=[(17,5)],L:=22,nfix:=1}
abbrev path_look_note_R:List RSrc:=[]
theorem zCB:zBs Tryz.prog zAs zUG zCe path_look_note_R:=by kernel_rfl
abbrev zN2:HCode:=oR [oV 12 (.mv (.t 2)),
  oV 13 (.ints .gtr (.t 12) (.c (iv 3))),
  oV 14 (.mv (.t 13)),
  oG 14 false 15 (.mv (.t 1)),
  oG 14 false 16 (.len false (.t 15)),
  oG 14 false 17 (.ints .lss (.t 16) (.c (iv 1))),
  oV 18 (.pick (.t 14) (.c (bv true)) (.t 17)),
  oV 19 (.mv (.t 18)),
  oG 19 false 20 (.mv (.t 1)),
  oG 19 false 21 (.len false (.t 20)),
  oG 19 false 22 (.ints .gtr (.t 21) (.c (iv 5))),
  oV 23 (.pick (.t 19) (.c (bv true)) (.t 22))] [12,13,14,15,16,17,18,19,20,21,22]
abbrev zN3:HCode:=oR [oV 24 (.mv (.t 0)),
  oC 25 zAs [(.t 24,.i 0 83 5),(.c (bv true),.v),(.c (iv 2),.v)]] [24,25]
abbrev zN4:HCode:=oN [oV 26 (.mv (.t 1)),
  oV 27 (.len false (.t 26)),
  oV 28 (.mv (.c (iv 0)))]
abbrev zN5:HCode:=oN [oV 29 (.ints .lss (.t 28) (.t 27))]
abbrev zN6:HCode:=.reg [oV 30 (.idxA 2 (.t 26) (.t 28)),
  oV 31 (.ldR (.t 30) 2 true),
  ⟨none,.alloc 7 1 88 [.nl 2,.nl 1]⟩,
  ⟨none,.sto (.t 7) 1 88 0 2 (.t 31)⟩] false [.frz 1 88 2,.forget [30,31]]
abbrev zN7:HCode:=oR [oV 32 (.fldR (.t 7) 0 1),
  oV 33 (.ldR (.t 32) 1 false),
  oV 34 (.len false (.t 33)),
  oV 35 (.ints .lss (.t 34) (.c (iv 1))),
  oV 36 (.mv (.t 35)),
  oG 36 false 37 (.fldR (.t 7) 0 1),
  oG 36 false 38 (.ldR (.t 37) 1 false),
  oG 36 false 39 (.len false (.t 38)),
  oG 36 false 40 (.ints .gtr (.t 39) (.c (iv 5))),
  oV 41 (.pick (.t 36) (.c (bv true)) (.t 40)),
  oV 42 (.mv (.t 41)),
  oG 42 false 43 (.fldR (.t 7) 1 1),
  oG 42 false 44 (.ldR (.t 43) 1 false),
  oG 42 false 45 (.len false (.t 44)),
  oG 42 false 46 (.fldR (.t 7) 0 1),
  oG 42 false 47 (.ldR (.t 46) 1 false),
  oG 42 false 48 (.len false (.t 47)),
  oG 42 false 49 (.ints .sub (.t 48) (.c (iv 1))),
  oG 42 false 50 (.ints .neq (.t 45) (.t 49)),
  oV 51 (.pick (.t 42) (.c (bv true)) (.t 50))] [32,33,34,35,36,37,38,39,40,41,42,43,44,45,46,47,48,49,50]
abbrev zN8:HCode:=oR [oV 52 (.mv (.t 0)),
  oC 53 zAs [(.t 52,.i 0 83 5),(.c (bv true),.v),(.c (iv 2),.v)]] [52,53]
abbrev zN9:HCode:=oR [oV 54 (.fldR (.t 7) 1 1),
  oV 55 (.ldR (.t 54) 1 false),
  oV 56 (.len false (.t 55)),
  oV 57 (.mv (.c (iv 0)))] [54]
abbrev zOa:HCode:=oN [oV 58 (.ints .lss (.t 57) (.t 56))]
abbrev zOb:HCode:=oR [oV 59 (.idxA 1 (.t 55) (.t 57)),
  oV 60 (.ldR (.t 59) 1 false),
  oV 9 (.mv (.t 60))] [59,60]
abbrev zL9:HCode:=oR [oV 61 (.mv (.t 0)),
  oV 62 (.mv (.t 9)),
  oV 63 (.ints .lss (.t 62) (.c (iv 1))),
  oV 64 (.mv (.t 63)),
  oG 64 false 65 (.mv (.t 9)),
  oG 64 false 66 (.ints .gtr (.t 65) (.c (iv 4))),
  oV 67 (.pick (.t 64) (.c (bv true)) (.t 66)),
  oC 68 zAs [(.t 61,.i 0 83 5),(.t 67,.v),(.c (iv 4),.v)]] [61,62,63,64,65,66,67,68]
abbrev zMa:HCode:=oR [oV 69 (.ints .add (.t 57) (.c (iv 1))),
  oV 57 (.mv (.t 69))] [69]
abbrev zMb:HCode:=oR [oV 70 (.fldR (.t 7) 0 1),
  oV 71 (.ldR (.t 70) 1 false),
  oV 72 (.len false (.t 71)),
  oV 73 (.mv (.c (iv 0)))] [70]
abbrev zMc:HCode:=oN [oV 74 (.ints .lss (.t 73) (.t 72))]
abbrev zMd:HCode:=oR [oV 75 (.idxA 2 (.t 71) (.t 73)),
  oV 76 (.ldR (.t 75) 2 true),
  ⟨none,.alloc 11 2 90 [.v (mkS []),.nl 6]⟩,
  ⟨none,.sto (.t 11) 2 90 0 2 (.t 76)⟩] [75,76]
abbrev zMe:HCode:=oR [oV 77 (.mv (.t 0)),
  oV 78 (.ldB (.t 11) 2 90 0 2 true),
  oV 79 (.mv (.t 2)),
  oC 80 zCA [(.t 77,.i 0 83 5),(.t 78,.v),(.t 79,.v)]] [77,78,79,80]
abbrev zMf:HCode:=oR [oV 81 (.ints .add (.t 73) (.c (iv 1))),
  oV 73 (.mv (.t 81))] [81]
abbrev zMg:HCode:=oR [oV 82 (.ints .add (.t 28) (.c (iv 1))),
  oV 28 (.mv (.t 82))] [82]
abbrev zUH:HCode:=(.seq (.seq zN2 (.cond (.t 23) (.seq zN3 .ret) .skip)) (.seq zN4 (.block 0 (.loop (.seq zN5 (.seq (.cond (.t 29) .skip (.exit 0)) (.seq (.block 1 (.seq zN6 (.seq (.seq zN7 (.cond (.t 51) (.seq zN8 .ret) .skip)) (.seq (.seq zN9 (.block 2 (.loop (.seq zOa (.seq (.cond (.t 58) .skip (.exit 2)) (.seq (.block 3 (.seq zOb zL9)) zMa)))))) (.seq zMb (.block 4 (.loop (.seq zMc (.seq (.cond (.t 74) .skip (.exit 4)) (.seq (.block 5 (.seq zMd zMe)) zMf)))))))))) zMg)))))))
abbrev zHx:Env:={N:=83,Γ:=[(83,5),(88,2),(90,2)],L:=92,nfix:=1}
abbrev path_look_list_R:List RSrc:=[]
theorem zOc:zBs Tryz.prog zBB zUH zHx path_look_list_R:=by kernel_rfl
abbrev zOd:HCode:=oN [oV 4 (.boxF (.t 1))]
abbrev zOe:HCode:=oR [oV 10 (.fldR (.t 4) 1 1),
  oV 11 (.ldR (.t 10) 1 false),
  oV 12 (.len false (.t 11)),
  oV 13 (.ints .gtr (.t 12) (.c (iv 6)))] [10,11,12]
abbrev zOf:HCode:=oR [oV 14 (.mv (.t 0)),
  oC 15 zAs [(.t 14,.i 0 121 5),(.c (bv true),.v),(.c (iv 2),.v)]] [14,15]
abbrev zOg:HCode:=oR [oV 16 (.mv (.t 0)),
  oV 17 (.fldR (.t 4) 0 1),
  oV 18 (.ldR (.t 17) 1 false),
  oV 19 (.strs .neq (.t 18) (.c (sv []))),
  oV 20 (.mv (.t 19)),
  oG 20 true 21 (.fldR (.t 4) 0 1),
  oG 20 true 22 (.ldR (.t 21) 1 false),
  ⟨some (20,true),.call (some 23) zCs [(.t 22,.v)]⟩,
  oG 20 true 24 (.not (.t 23)),
  oV 25 (.pick (.t 20) (.t 24) (.c (bv false))),
  oC 26 zAs [(.t 16,.i 0 121 5),(.t 25,.v),(.c (iv 1),.v)]] [16,17,18,19,20,21,22,23,24,25,26]
abbrev zOh:HCode:=oR [oV 27 (.fldR (.t 4) 1 1),
  oV 28 (.ldR (.t 27) 1 false),
  oV 29 (.len false (.t 28)),
  oV 30 (.mv (.c (iv 0)))] [27]
abbrev zOi:HCode:=oN [oV 31 (.ints .lss (.t 30) (.t 29))]
abbrev zOj:HCode:=.reg [oV 32 (.idxA 6 (.t 28) (.t 30)),
  oV 33 (.ldR (.t 32) 6 true),
  ⟨none,.alloc 7 1 126 [.v (.int .i64 0),.v (mkS []),.v (mkS []),.v (.int .i64 0),.v (.int .i64 0),.nl 2]⟩,
  ⟨none,.sto (.t 7) 1 126 0 6 (.t 33)⟩] false [.frz 1 126 6,.forget [32,33]]
abbrev zOk:HCode:=.reg [oV 35 (.fldR (.t 7) 0 1),
  oV 36 (.ldR (.t 35) 1 false),
  oC 37 zNZ [(.t 36,.v)],
  oV 34 (.mv (.t 37)),
  oV 38 (.ext 34 0),
  oV 39 (.ext 34 1),
  ⟨none,.alloc 8 2 132 [.v (.bool false),.v (.bool false),.v (.bool false),.v (.bool false)]⟩,
  ⟨none,.sto (.t 8) 2 132 0 4 (.t 38)⟩,
  oV 9 (.mv (.t 39))] false [.frz 2 132 4,.forget [34,35,36,37,38,39]]
abbrev zOl:HCode:=oR [oV 40 (.mv (.t 0)),
  oV 41 (.mv (.t 9)),
  oV 42 (.not (.t 41)),
  oC 43 zAs [(.t 40,.i 0 121 5),(.t 42,.v),(.c (iv 4),.v)]] [40,41,42,43]
abbrev zOm:HCode:=oR [oV 44 (.mv (.t 0)),
  oV 45 (.fldR (.t 8) 0 1),
  oV 46 (.ldR (.t 45) 1 false),
  oV 47 (.mv (.t 46)),
  oG 47 true 48 (.fldR (.t 7) 1 1),
  oG 47 true 49 (.ldR (.t 48) 1 false),
  ⟨some (47,true),.call (some 50) zCs [(.t 49,.v)]⟩,
  oG 47 true 51 (.not (.t 50)),
  oV 52 (.pick (.t 47) (.t 51) (.c (bv false))),
  oV 53 (.mv (.t 52)),
  oG 53 false 54 (.fldR (.t 8) 0 1),
  oG 53 false 55 (.ldR (.t 54) 1 false),
  oG 53 false 56 (.not (.t 55)),
  oG 53 false 57 (.mv (.t 56)),
  oG 57 true 58 (.fldR (.t 7) 1 1),
  oG 57 true 59 (.ldR (.t 58) 1 false),
  oG 57 true 60 (.strs .neq (.t 59) (.c (sv []))),
  oG 53 false 61 (.pick (.t 57) (.t 60) (.c (bv false))),
  oV 62 (.pick (.t 53) (.c (bv true)) (.t 61)),
  oC 63 zAs [(.t 44,.i 0 121 5),(.t 62,.v),(.c (iv 1),.v)]] [44,45,46,47,48,49,50,51,52,53,54,55,56,57,58,59,60,61,62,63]
abbrev zMh:HCode:=oR [oV 64 (.mv (.t 0)),
  oV 65 (.fldR (.t 8) 1 1),
  oV 66 (.ldR (.t 65) 1 false),
  oV 67 (.mv (.t 66)),
  oG 67 true 68 (.fldR (.t 7) 2 1),
  oG 67 true 69 (.ldR (.t 68) 1 false),
  ⟨some (67,true),.call (some 70) zFK [(.t 69,.v)]⟩,
  oG 67 true 71 (.not (.t 70)),
  oV 72 (.pick (.t 67) (.t 71) (.c (bv false))),
  oV 73 (.mv (.t 72)),
  oG 73 false 74 (.fldR (.t 8) 1 1),
  oG 73 false 75 (.ldR (.t 74) 1 false),
  oG 73 false 76 (.not (.t 75)),
  oG 73 false 77 (.mv (.t 76)),
  oG 77 true 78 (.fldR (.t 7) 2 1),
  oG 77 true 79 (.ldR (.t 78) 1 false),
  oG 77 true 80 (.strs .neq (.t 79) (.c (sv []))),
  oG 73 false 81 (.pick (.t 77) (.t 80) (.c (bv false))),
  oV 82 (.pick (.t 73) (.c (bv true)) (.t 81)),
  oC 83 zAs [(.t 64,.i 0 121 5),(.t 82,.v),(.c (iv 1),.v)]] [64,65,66,67,68,69,70,71,72,73,74,75,76,77,78,79,80,81,82,83]
abbrev zMi:HCode:=oR [oV 84 (.mv (.t 0)),
  oV 85 (.fldR (.t 8) 2 1),
  oV 86 (.ldR (.t 85) 1 false),
  oV 87 (.not (.t 86)),
  oV 88 (.mv (.t 87)),
  oG 88 true 89 (.fldR (.t 7) 3 2),
  oG 88 true 90 (.ldR (.t 89) 2 true),
  oG 88 true 91 (.bld [.v (.int .i64 0),.v (.int .i64 0)] []),
  oG 88 true 92 (.steq true [0,0] (.t 90) (.t 91)),
  oV 93 (.pick (.t 88) (.t 92) (.c (bv false))),
  oV 94 (.mv (.t 93)),
  oG 94 false 95 (.fldR (.t 8) 3 1),
  oG 94 false 96 (.ldR (.t 95) 1 false),
  oG 94 false 97 (.not (.t 96)),
  oG 94 false 98 (.mv (.t 97)),
  oG 98 true 99 (.fldR (.t 7) 5 1),
  oG 98 true 100 (.ldR (.t 99) 1 false),
  oG 98 true 101 (.len false (.t 100)),
  oG 98 true 102 (.ints .gtr (.t 101) (.c (iv 0))),
  oG 94 false 103 (.pick (.t 98) (.t 102) (.c (bv false))),
  oV 104 (.pick (.t 94) (.c (bv true)) (.t 103)),
  oC 105 zAs [(.t 84,.i 0 121 5),(.t 104,.v),(.c (iv 1),.v)]] [84,85,86,87,88,89,90,91,92,93,94,95,96,97,98,99,100,101,102,103,104,105]
abbrev zMj:HCode:=oR [oV 106 (.mv (.t 0)),
  oV 107 (.fldR (.t 7) 3 2),
  oV 108 (.ldR (.t 107) 2 true),
  oC 109 zFN [(.t 108,.v)],
  oV 110 (.ints .neq (.t 109) (.c (iv 0))),
  oC 111 zAs [(.t 106,.i 0 121 5),(.t 110,.v),(.c (iv 3),.v)]] [106,107,108,109,110,111]
abbrev zMk:HCode:=oR [oV 112 (.fldR (.t 8) 3 1),
  oV 113 (.ldR (.t 112) 1 false)] [112]
abbrev zMl:HCode:=oR [oV 114 (.mv (.t 0)),
  oV 115 (.fldR (.t 7) 5 1),
  oV 116 (.ldR (.t 115) 1 false),
  oV 117 (.mv (.t 2)),
  oV 118 (.ints .add (.t 117) (.c (iv 1))),
  oC 119 zBB [(.t 114,.i 0 121 5),(.t 116,.v),(.t 118,.v)]] [114,115,116,117,118,119]
abbrev zMm:HCode:=oR [oV 120 (.ints .add (.t 30) (.c (iv 1))),
  oV 30 (.mv (.t 120))] [120]
abbrev zUI:HCode:=(.seq zOd (.seq (.seq zOe (.cond (.t 13) (.seq zOf .ret) .skip)) (.seq zOg (.seq zOh (.block 0 (.loop (.seq zOi (.seq (.cond (.t 31) .skip (.exit 0)) (.seq (.block 1 (.seq zOj (.seq zOk (.seq zOl (.seq zOm (.seq zMh (.seq zMi (.seq zMj (.seq zMk (.cond (.t 113) zMl .skip)))))))))) zMm)))))))))
abbrev zHy:Env:={N:=121,Γ:=[(121,5),(126,6),(132,4)],L:=136,nfix:=1}
abbrev path_look_step_R:List RSrc:=[]
theorem zOn:zBs Tryz.prog zCA zUI zHy path_look_step_R:=by kernel_rfl
abbrev zY9:HCode:=oN [oV 2 (.mv (.c (iv 0)))]
abbrev zZa:HCode:=oR [oV 6 (.bld [.v (.int .i64 0),.v (.int .i64 0),.v (.int .i64 0),.v (.int .i64 0),.v (.int .i64 0)] []),
  ⟨none,.box 7 0 24 5 (.t 6)⟩,
  oV 3 (.mv (.t 7))] [6,7]
abbrev zZb:HCode:=oR [oV 8 (.mv (.t 3)),
  oV 9 (.mv (.t 0)),
  oC 10 zBB [(.t 8,.i 0 24 5),(.t 9,.v),(.c (iv 1),.v)]] [8,9,10]
abbrev zZc:HCode:=oN [oC 11 zHl [],
  oV 12 (.mv (.c (iv 0)))]
abbrev zZd:HCode:=oN [oV 13 (.ints .lss (.t 12) (.c (iv 4)))]
abbrev zZe:HCode:=oR [oV 14 (.idxV 4 (.t 11) (.t 12)),
  oV 5 (.mv (.t 14))] [14]
abbrev zZf:HCode:=oR [oV 15 (.mv (.t 3)),
  oV 16 (.mv (.t 5)),
  oV 17 (.nilck (.t 15)),
  oV 18 (.fldP (.t 17) 0),
  oV 19 (.ixB 5 (.t 18) (.t 16)),
  oV 20 (.ldD (.t 19) 0 24 5),
  oV 21 (.ints .gtr (.t 20) (.c (iv 0)))] [15,16,17,18,19,20]
abbrev zZg:HCode:=oR [oV 22 (.mv (.t 5)),
  oV 2 (.mv (.t 22))] [22]
abbrev zZh:HCode:=oR [oV 23 (.ints .add (.t 12) (.c (iv 1))),
  oV 12 (.mv (.t 23))] [23]
abbrev zZi:HCode:=oN [oV 2 (.mv (.c (iv 0)))]
abbrev yH1:HCode:=(.seq zY9 (.seq zZa (.seq zZb (.seq (.seq zZc (.block 0 (.loop (.seq zZd (.seq (.cond (.t 13) .skip (.exit 0)) (.seq (.block 1 (.seq zZe (.seq zZf (.cond (.t 21) (.seq zZg .ret) .skip)))) zZh)))))) (.seq zZi .ret)))))
abbrev zPc:Env:={N:=24,Γ:=[(24,5)],L:=29,nfix:=0}
abbrev path_Check_R:List RSrc:=[.tmp 2]
theorem zZj:zBs Tryz.prog zEE yH1 zPc path_Check_R:=by kernel_rfl
abbrev yH2:HCode:=oN [oV 2 (.mv (.c (bv false))),
  oV 3 (.mv (.c (bv false))),
  oV 4 (.mv (.c (bv false))),
  oV 5 (.mv (.c (bv false)))]
abbrev yH3:HCode:=oR [oV 6 (.mv (.t 0)),
  oC 7 zAG [(.t 6,.v),(.c (iv 1),.v),(.c (iv 8),.v)],
  oV 8 (.mv (.t 0)),
  oC 9 zAG [(.t 8,.v),(.c (iv 4),.v),(.c (iv 8),.v)],
  oV 10 (.mv (.t 0)),
  oV 11 (.ints .eql (.t 10) (.c (iv 9))),
  oV 12 (.mv (.t 11)),
  oG 12 false 13 (.mv (.t 0)),
  oG 12 false 14 (.ints .eql (.t 13) (.c (iv 10))),
  oV 15 (.pick (.t 12) (.c (bv true)) (.t 14)),
  oV 16 (.mv (.t 0)),
  oC 17 zAG [(.t 16,.v),(.c (iv 13),.v),(.c (iv 15),.v)],
  oV 2 (.mv (.t 7)),
  oV 3 (.mv (.t 9)),
  oV 4 (.mv (.t 15)),
  oV 5 (.mv (.t 17))] [6,7,8,9,10,11,12,13,14,15,16,17]
abbrev yNC:HCode:=(.seq yH2 (.seq yH3 .ret))
abbrev yCE:Env:={N:=18,Γ:=[],L:=18,nfix:=0}
abbrev ref_has_R:List RSrc:=[.tmp 2,.tmp 3,.tmp 4,.tmp 5]
theorem yH4:zBs Tryz.prog zGG yNC yCE ref_has_R:=by kernel_rfl
abbrev zUJ:HCode:=oN [oV 4 (.mv (.c (bv false)))]
abbrev zUK:HCode:=oR [oV 14 (.mv (.t 1)),
  oV 15 (.ints .gtr (.t 14) (.c (iv 3))),
  oV 16 (.mv (.t 15)),
  oG 16 false 17 (.mv (.t 0)),
  oG 16 false 18 (.len false (.t 17)),
  ⟨some (16,false),.call (some 19) zAG [(.t 18,.v),(.c (iv 1),.v),(.c (iv 5),.v)]⟩,
  oG 16 false 20 (.not (.t 19)),
  oV 21 (.pick (.t 16) (.c (bv true)) (.t 20))] [14,15,16,17,18,19,20]
abbrev zUL:HCode:=oN [oV 4 (.mv (.c (bv true)))]
abbrev zUM:HCode:=oN [oV 5 (.mv (.c (iv 0)))]
abbrev zUN:HCode:=oR [oV 22 (.mv (.t 5)),
  oV 23 (.mv (.t 0)),
  oV 24 (.len false (.t 23)),
  oV 25 (.ints .lss (.t 22) (.t 24))] [22,23,24]
abbrev zUO:HCode:=.reg [oV 28 (.mv (.t 0)),
  oV 29 (.mv (.t 5)),
  oV 30 (.idxA 2 (.t 28) (.t 29)),
  oV 31 (.ldR (.t 30) 2 true),
  ⟨none,.alloc 6 0 98 [.nl 2,.nl 1]⟩,
  ⟨none,.sto (.t 6) 0 98 0 2 (.t 31)⟩] false [.frz 0 98 2,.forget [28,29,30,31]]
abbrev zUP:HCode:=oR [oV 32 (.fldR (.t 6) 0 1),
  oV 33 (.ldR (.t 32) 1 false),
  oV 34 (.len false (.t 33)),
  oC 35 zAG [(.t 34,.v),(.c (iv 1),.v),(.c (iv 5),.v)],
  oV 36 (.not (.t 35)),
  oV 37 (.mv (.t 36)),
  oG 37 false 38 (.fldR (.t 6) 1 1),
  oG 37 false 39 (.ldR (.t 38) 1 false),
  oG 37 false 40 (.len false (.t 39)),
  oG 37 false 41 (.fldR (.t 6) 0 1),
  oG 37 false 42 (.ldR (.t 41) 1 false),
  oG 37 false 43 (.len false (.t 42)),
  oG 37 false 44 (.ints .sub (.t 43) (.c (iv 1))),
  oG 37 false 45 (.ints .neq (.t 40) (.t 44)),
  oV 46 (.pick (.t 37) (.c (bv true)) (.t 45))] [32,33,34,35,36,37,38,39,40,41,42,43,44,45]
abbrev zUQ:HCode:=oN [oV 4 (.mv (.c (bv true)))]
abbrev zUR:HCode:=oN [oV 7 (.mv (.c (iv 0)))]
abbrev zUS:HCode:=oR [oV 47 (.mv (.t 7)),
  oV 48 (.fldR (.t 6) 0 1),
  oV 49 (.ldR (.t 48) 1 false),
  oV 50 (.len false (.t 49)),
  oV 51 (.ints .lss (.t 47) (.t 50))] [47,48,49,50]
abbrev zSu:HCode:=oR [oV 54 (.fldR (.t 6) 0 1),
  oV 55 (.ldR (.t 54) 1 false),
  oV 56 (.mv (.t 7)),
  oV 57 (.idxA 2 (.t 55) (.t 56)),
  oV 58 (.fldR (.t 57) 1 1),
  oV 59 (.ldR (.t 58) 1 false),
  oV 60 (.len false (.t 59)),
  oV 61 (.ints .gtr (.t 60) (.c (iv 6)))] [54,55,56,57,58,59,60]
abbrev zSv:HCode:=oN [oV 4 (.mv (.c (bv true)))]
abbrev zSw:HCode:=oN [oV 8 (.mv (.c (iv 0)))]
abbrev zSx:HCode:=oR [oV 62 (.mv (.t 8)),
  oV 63 (.fldR (.t 6) 0 1),
  oV 64 (.ldR (.t 63) 1 false),
  oV 65 (.mv (.t 7)),
  oV 66 (.idxA 2 (.t 64) (.t 65)),
  oV 67 (.fldR (.t 66) 1 1),
  oV 68 (.ldR (.t 67) 1 false),
  oV 69 (.len false (.t 68)),
  oV 70 (.ints .lss (.t 62) (.t 69))] [62,63,64,65,66,67,68,69]
abbrev zSy:HCode:=.reg [oV 73 (.fldR (.t 6) 0 1),
  oV 74 (.ldR (.t 73) 1 false),
  oV 75 (.mv (.t 7)),
  oV 76 (.idxA 2 (.t 74) (.t 75)),
  oV 77 (.fldR (.t 76) 1 1),
  oV 78 (.ldR (.t 77) 1 false),
  oV 79 (.mv (.t 8)),
  oV 80 (.idxA 6 (.t 78) (.t 79)),
  oV 81 (.ldR (.t 80) 6 true),
  ⟨none,.alloc 9 1 100 [.v (.int .i64 0),.v (mkS []),.v (mkS []),.v (.int .i64 0),.v (.int .i64 0),.nl 2]⟩,
  ⟨none,.sto (.t 9) 1 100 0 6 (.t 81)⟩] false [.frz 1 100 6,.forget [73,74,75,76,77,78,79,80,81]]
abbrev zSz:HCode:=oR [oV 83 (.fldR (.t 9) 0 1),
  oV 84 (.ldR (.t 83) 1 false),
  oC 85 zGG [(.t 84,.v)],
  oV 82 (.mv (.t 85)),
  oV 86 (.ext 82 0),
  oV 87 (.ext 82 1),
  oV 88 (.ext 82 2),
  oV 89 (.ext 82 3),
  oV 10 (.mv (.t 86)),
  oV 11 (.mv (.t 87)),
  oV 12 (.mv (.t 88)),
  oV 13 (.mv (.t 89))] [10,11,12,82,83,84,85,86,87,88,89]
abbrev zSA:HCode:=oR [oV 90 (.mv (.t 13)),
  oV 91 (.mv (.t 90)),
  oG 91 true 92 (.fldR (.t 9) 5 1),
  oG 91 true 93 (.ldR (.t 92) 1 false),
  oG 91 true 94 (.mv (.t 1)),
  oG 91 true 95 (.ints .add (.t 94) (.c (iv 1))),
  ⟨some (91,true),.call (some 96) zD2 [(.t 93,.v),(.t 95,.v)]⟩,
  oV 97 (.pick (.t 91) (.t 96) (.c (bv false)))] [90,91,92,93,94,95,96]
abbrev zSB:HCode:=oN [oV 4 (.mv (.c (bv true)))]
abbrev zSC:HCode:=oR [oV 71 (.mv (.t 8)),
  oV 72 (.ints .add (.t 71) (.c (iv 1))),
  oV 8 (.mv (.t 72))] [71,72]
abbrev zSD:HCode:=oR [oV 52 (.mv (.t 7)),
  oV 53 (.ints .add (.t 52) (.c (iv 1))),
  oV 7 (.mv (.t 53))] [52,53]
abbrev zSE:HCode:=oR [oV 26 (.mv (.t 5)),
  oV 27 (.ints .add (.t 26) (.c (iv 1))),
  oV 5 (.mv (.t 27))] [26,27]
abbrev zSF:HCode:=oN [oV 4 (.mv (.c (bv false)))]
abbrev yEV:HCode:=(.seq zUJ (.seq (.seq zUK (.cond (.t 21) (.seq zUL .ret) .skip)) (.seq (.seq zUM (.block 0 (.loop (.seq (.seq zUN (.cond (.t 25) .skip (.exit 0))) (.seq (.block 1 (.seq zUO (.seq (.seq zUP (.cond (.t 46) (.seq zUQ .ret) .skip)) (.seq zUR (.block 2 (.loop (.seq (.seq zUS (.cond (.t 51) .skip (.exit 2))) (.seq (.block 3 (.seq (.seq zSu (.cond (.t 61) (.seq zSv .ret) .skip)) (.seq zSw (.block 4 (.loop (.seq (.seq zSx (.cond (.t 70) .skip (.exit 4))) (.seq (.block 5 (.seq zSy (.seq zSz (.seq zSA (.cond (.t 97) (.seq zSB .ret) .skip))))) zSC))))))) zSD)))))))) zSE))))) (.seq zSF .ret))))
abbrev zMn:Env:={N:=98,Γ:=[(98,2),(100,6)],L:=106,nfix:=0}
abbrev ref_tooMany_R:List RSrc:=[.tmp 4]
theorem zUT:zBs Tryz.prog zD2 yEV zMn ref_tooMany_R:=by kernel_rfl
abbrev zUU:HCode:=oN [oV 2 (.mv (.c (bv false)))]
abbrev zUV:HCode:=oN [oV 3 (.mv (.c (iv 0)))]
abbrev zUW:HCode:=oR [oV 12 (.mv (.t 3)),
  oV 13 (.mv (.t 0)),
  oV 14 (.len false (.t 13)),
  oV 15 (.ints .lss (.t 12) (.t 14))] [12,13,14]
abbrev zUX:HCode:=oN [oV 4 (.mv (.c (iv 0)))]
abbrev zUY:HCode:=oR [oV 18 (.mv (.t 4)),
  oV 19 (.mv (.t 0)),
  oV 20 (.mv (.t 3)),
  oV 21 (.idxA 2 (.t 19) (.t 20)),
  oV 22 (.fldR (.t 21) 1 1),
  oV 23 (.ldR (.t 22) 1 false),
  oV 24 (.len false (.t 23)),
  oV 25 (.ints .lss (.t 18) (.t 24))] [18,19,20,21,22,23,24]
abbrev zUZ:HCode:=oR [oV 28 (.mv (.t 0)),
  oV 29 (.mv (.t 3)),
  oV 30 (.idxA 2 (.t 28) (.t 29)),
  oV 31 (.fldR (.t 30) 1 1),
  oV 32 (.ldR (.t 31) 1 false),
  oV 33 (.mv (.t 4)),
  oV 34 (.idxA 1 (.t 32) (.t 33)),
  oV 35 (.ldR (.t 34) 1 false),
  oC 36 zAG [(.t 35,.v),(.c (iv 1),.v),(.c (iv 4),.v)],
  oV 37 (.not (.t 36))] [28,29,30,31,32,33,34,35,36]
abbrev zU0:HCode:=oN [oV 2 (.mv (.c (bv true)))]
abbrev zU1:HCode:=oR [oV 26 (.mv (.t 4)),
  oV 27 (.ints .add (.t 26) (.c (iv 1))),
  oV 4 (.mv (.t 27))] [26,27]
abbrev zU2:HCode:=oN [oV 5 (.mv (.c (iv 0)))]
abbrev zU3:HCode:=oR [oV 38 (.mv (.t 5)),
  oV 39 (.mv (.t 0)),
  oV 40 (.mv (.t 3)),
  oV 41 (.idxA 2 (.t 39) (.t 40)),
  oV 42 (.fldR (.t 41) 0 1),
  oV 43 (.ldR (.t 42) 1 false),
  oV 44 (.len false (.t 43)),
  oV 45 (.ints .lss (.t 38) (.t 44))] [38,39,40,41,42,43,44]
abbrev zSG:HCode:=oN [oV 6 (.mv (.c (iv 0)))]
abbrev zSH:HCode:=oR [oV 48 (.mv (.t 6)),
  oV 49 (.mv (.t 0)),
  oV 50 (.mv (.t 3)),
  oV 51 (.idxA 2 (.t 49) (.t 50)),
  oV 52 (.fldR (.t 51) 0 1),
  oV 53 (.ldR (.t 52) 1 false),
  oV 54 (.mv (.t 5)),
  oV 55 (.idxA 2 (.t 53) (.t 54)),
  oV 56 (.fldR (.t 55) 1 1),
  oV 57 (.ldR (.t 56) 1 false),
  oV 58 (.len false (.t 57)),
  oV 59 (.ints .lss (.t 48) (.t 58))] [48,49,50,51,52,53,54,55,56,57,58]
abbrev zSI:HCode:=.reg [oV 62 (.mv (.t 0)),
  oV 63 (.mv (.t 3)),
  oV 64 (.idxA 2 (.t 62) (.t 63)),
  oV 65 (.fldR (.t 64) 0 1),
  oV 66 (.ldR (.t 65) 1 false),
  oV 67 (.mv (.t 5)),
  oV 68 (.idxA 2 (.t 66) (.t 67)),
  oV 69 (.fldR (.t 68) 1 1),
  oV 70 (.ldR (.t 69) 1 false),
  oV 71 (.mv (.t 6)),
  oV 72 (.idxA 6 (.t 70) (.t 71)),
  oV 73 (.ldR (.t 72) 6 true),
  ⟨none,.alloc 7 0 94 [.v (.int .i64 0),.v (mkS []),.v (mkS []),.v (.int .i64 0),.v (.int .i64 0),.nl 2]⟩,
  ⟨none,.sto (.t 7) 0 94 0 6 (.t 73)⟩] false [.frz 0 94 6,.forget [62,63,64,65,66,67,68,69,70,71,72,73]]
abbrev zSJ:HCode:=oR [oV 75 (.fldR (.t 7) 0 1),
  oV 76 (.ldR (.t 75) 1 false),
  oC 77 zGG [(.t 76,.v)],
  oV 74 (.mv (.t 77)),
  oV 78 (.ext 74 0),
  oV 79 (.ext 74 1),
  oV 80 (.ext 74 2),
  oV 81 (.ext 74 3),
  oV 8 (.mv (.t 78)),
  oV 9 (.mv (.t 79)),
  oV 10 (.mv (.t 80)),
  oV 11 (.mv (.t 81))] [8,9,10,74,75,76,77,78,79,80,81]
abbrev zSK:HCode:=oR [oV 82 (.fldR (.t 7) 0 1),
  oV 83 (.ldR (.t 82) 1 false),
  oC 84 zAG [(.t 83,.v),(.c (iv 1),.v),(.c (iv 15),.v)],
  oV 85 (.not (.t 84)),
  oV 86 (.mv (.t 85)),
  oG 86 false 87 (.mv (.t 11)),
  oG 86 false 88 (.mv (.t 87)),
  oG 88 true 89 (.fldR (.t 7) 5 1),
  oG 88 true 90 (.ldR (.t 89) 1 false),
  ⟨some (88,true),.call (some 91) zD1 [(.t 90,.v)]⟩,
  oG 86 false 92 (.pick (.t 88) (.t 91) (.c (bv false))),
  oV 93 (.pick (.t 86) (.c (bv true)) (.t 92))] [82,83,84,85,86,87,88,89,90,91,92]
abbrev zSL:HCode:=oN [oV 2 (.mv (.c (bv true)))]
abbrev zSM:HCode:=oR [oV 60 (.mv (.t 6)),
  oV 61 (.ints .add (.t 60) (.c (iv 1))),
  oV 6 (.mv (.t 61))] [60,61]
abbrev zSN:HCode:=oR [oV 46 (.mv (.t 5)),
  oV 47 (.ints .add (.t 46) (.c (iv 1))),
  oV 5 (.mv (.t 47))] [46,47]
abbrev zSO:HCode:=oR [oV 16 (.mv (.t 3)),
  oV 17 (.ints .add (.t 16) (.c (iv 1))),
  oV 3 (.mv (.t 17))] [16,17]
abbrev zSP:HCode:=oN [oV 2 (.mv (.c (bv false)))]
abbrev yEW:HCode:=(.seq zUU (.seq (.seq zUV (.block 0 (.loop (.seq (.seq zUW (.cond (.t 15) .skip (.exit 0))) (.seq (.block 1 (.seq (.seq zUX (.block 2 (.loop (.seq (.seq zUY (.cond (.t 25) .skip (.exit 2))) (.seq (.block 3 (.seq zUZ (.cond (.t 37) (.seq zU0 .ret) .skip))) zU1))))) (.seq zU2 (.block 4 (.loop (.seq (.seq zU3 (.cond (.t 45) .skip (.exit 4))) (.seq (.block 5 (.seq zSG (.block 6 (.loop (.seq (.seq zSH (.cond (.t 59) .skip (.exit 6))) (.seq (.block 7 (.seq zSI (.seq zSJ (.seq zSK (.cond (.t 93) (.seq zSL .ret) .skip))))) zSM)))))) zSN))))))) zSO))))) (.seq zSP .ret)))
abbrev zMo:Env:={N:=94,Γ:=[(94,6)],L:=100,nfix:=0}
abbrev ref_badKind_R:List RSrc:=[.tmp 2]
theorem zU4:zBs Tryz.prog zD1 yEW zMo ref_badKind_R:=by kernel_rfl
abbrev zU5:HCode:=oN [oV 2 (.mv (.c (bv false)))]
abbrev zU6:HCode:=oN [oV 3 (.mv (.c (iv 0)))]
abbrev zU7:HCode:=oR [oV 12 (.mv (.t 3)),
  oV 13 (.mv (.t 0)),
  oV 14 (.len false (.t 13)),
  oV 15 (.ints .lss (.t 12) (.t 14))] [12,13,14]
abbrev zU8:HCode:=oN [oV 4 (.mv (.c (iv 0)))]
abbrev zU9:HCode:=oR [oV 18 (.mv (.t 4)),
  oV 19 (.mv (.t 0)),
  oV 20 (.mv (.t 3)),
  oV 21 (.idxA 2 (.t 19) (.t 20)),
  oV 22 (.fldR (.t 21) 0 1),
  oV 23 (.ldR (.t 22) 1 false),
  oV 24 (.len false (.t 23)),
  oV 25 (.ints .lss (.t 18) (.t 24))] [18,19,20,21,22,23,24]
abbrev zVa:HCode:=.reg [oV 28 (.mv (.t 0)),
  oV 29 (.mv (.t 3)),
  oV 30 (.idxA 2 (.t 28) (.t 29)),
  oV 31 (.fldR (.t 30) 0 1),
  oV 32 (.ldR (.t 31) 1 false),
  oV 33 (.mv (.t 4)),
  oV 34 (.idxA 2 (.t 32) (.t 33)),
  oV 35 (.ldR (.t 34) 2 true),
  ⟨none,.alloc 5 0 127 [.v (mkS []),.nl 6]⟩,
  ⟨none,.sto (.t 5) 0 127 0 2 (.t 35)⟩] false [.frz 0 127 2,.forget [28,29,30,31,32,33,34,35]]
abbrev zVb:HCode:=oR [oV 36 (.fldR (.t 5) 0 1),
  oV 37 (.ldR (.t 36) 1 false),
  oV 38 (.strs .neq (.t 37) (.c (sv []))),
  oV 39 (.mv (.t 38)),
  oG 39 true 40 (.fldR (.t 5) 0 1),
  oG 39 true 41 (.ldR (.t 40) 1 false),
  ⟨some (39,true),.call (some 42) zBM [(.t 41,.v)]⟩,
  oG 39 true 43 (.not (.t 42)),
  oV 44 (.pick (.t 39) (.t 43) (.c (bv false)))] [36,37,38,39,40,41,42,43]
abbrev zVc:HCode:=oN [oV 2 (.mv (.c (bv true)))]
abbrev zVd:HCode:=oN [oV 6 (.mv (.c (iv 0)))]
abbrev zVe:HCode:=oR [oV 45 (.mv (.t 6)),
  oV 46 (.fldR (.t 5) 1 1),
  oV 47 (.ldR (.t 46) 1 false),
  oV 48 (.len false (.t 47)),
  oV 49 (.ints .lss (.t 45) (.t 48))] [45,46,47,48]
abbrev zSQ:HCode:=.reg [oV 52 (.fldR (.t 5) 1 1),
  oV 53 (.ldR (.t 52) 1 false),
  oV 54 (.mv (.t 6)),
  oV 55 (.idxA 6 (.t 53) (.t 54)),
  oV 56 (.ldR (.t 55) 6 true),
  ⟨none,.alloc 7 1 129 [.v (.int .i64 0),.v (mkS []),.v (mkS []),.v (.int .i64 0),.v (.int .i64 0),.nl 2]⟩,
  ⟨none,.sto (.t 7) 1 129 0 6 (.t 56)⟩] false [.frz 1 129 6,.forget [52,53,54,55,56]]
abbrev zSR:HCode:=oR [oV 58 (.fldR (.t 7) 0 1),
  oV 59 (.ldR (.t 58) 1 false),
  oC 60 zGG [(.t 59,.v)],
  oV 57 (.mv (.t 60)),
  oV 61 (.ext 57 0),
  oV 62 (.ext 57 1),
  oV 63 (.ext 57 2),
  oV 64 (.ext 57 3),
  oV 8 (.mv (.t 61)),
  oV 9 (.mv (.t 62)),
  oV 10 (.mv (.t 63)),
  oV 11 (.mv (.t 64))] [57,58,59,60,61,62,63,64]
abbrev zSS:HCode:=oR [oV 65 (.mv (.t 8)),
  oV 66 (.mv (.t 65)),
  oG 66 true 67 (.fldR (.t 7) 1 1),
  oG 66 true 68 (.ldR (.t 67) 1 false),
  ⟨some (66,true),.call (some 69) zBM [(.t 68,.v)]⟩,
  oG 66 true 70 (.not (.t 69)),
  oV 71 (.pick (.t 66) (.t 70) (.c (bv false))),
  oV 72 (.mv (.t 71)),
  oG 72 false 73 (.mv (.t 8)),
  oG 72 false 74 (.not (.t 73)),
  oG 72 false 75 (.mv (.t 74)),
  oG 75 true 76 (.fldR (.t 7) 1 1),
  oG 75 true 77 (.ldR (.t 76) 1 false),
  oG 75 true 78 (.strs .neq (.t 77) (.c (sv []))),
  oG 72 false 79 (.pick (.t 75) (.t 78) (.c (bv false))),
  oV 80 (.pick (.t 72) (.c (bv true)) (.t 79)),
  oV 81 (.mv (.t 80)),
  oG 81 false 82 (.mv (.t 9)),
  oG 81 false 83 (.mv (.t 82)),
  oG 83 true 84 (.fldR (.t 7) 2 1),
  oG 83 true 85 (.ldR (.t 84) 1 false),
  ⟨some (83,true),.call (some 86) zDZ [(.t 85,.v)]⟩,
  oG 83 true 87 (.not (.t 86)),
  oG 81 false 88 (.pick (.t 83) (.t 87) (.c (bv false))),
  oV 89 (.pick (.t 81) (.c (bv true)) (.t 88)),
  oV 90 (.mv (.t 89)),
  oG 90 false 91 (.mv (.t 9)),
  oG 90 false 92 (.not (.t 91)),
  oG 90 false 93 (.mv (.t 92)),
  oG 93 true 94 (.fldR (.t 7) 2 1),
  oG 93 true 95 (.ldR (.t 94) 1 false),
  oG 93 true 96 (.strs .neq (.t 95) (.c (sv []))),
  oG 90 false 97 (.pick (.t 93) (.t 96) (.c (bv false))),
  oV 98 (.pick (.t 90) (.c (bv true)) (.t 97)),
  oV 99 (.mv (.t 98)),
  oG 99 false 100 (.mv (.t 10)),
  oG 99 false 101 (.not (.t 100)),
  oG 99 false 102 (.mv (.t 101)),
  oG 102 true 103 (.fldR (.t 7) 3 2),
  oG 102 true 104 (.ldR (.t 103) 2 true),
  oG 102 true 105 (.bld [.v (.int .i64 0),.v (.int .i64 0)] []),
  oG 102 true 106 (.steq true [0,0] (.t 104) (.t 105)),
  oG 99 false 107 (.pick (.t 102) (.t 106) (.c (bv false))),
  oV 108 (.pick (.t 99) (.c (bv true)) (.t 107)),
  oV 109 (.mv (.t 108)),
  oG 109 false 110 (.mv (.t 11)),
  oG 109 false 111 (.not (.t 110)),
  oG 109 false 112 (.mv (.t 111)),
  oG 112 true 113 (.fldR (.t 7) 5 1),
  oG 112 true 114 (.ldR (.t 113) 1 false),
  oG 112 true 115 (.len false (.t 114)),
  oG 112 true 116 (.ints .gtr (.t 115) (.c (iv 0))),
  oG 109 false 117 (.pick (.t 112) (.t 116) (.c (bv false))),
  oV 118 (.pick (.t 109) (.c (bv true)) (.t 117)),
  oV 119 (.mv (.t 118)),
  oG 119 false 120 (.mv (.t 11)),
  oG 119 false 121 (.mv (.t 120)),
  oG 121 true 122 (.fldR (.t 7) 5 1),
  oG 121 true 123 (.ldR (.t 122) 1 false),
  ⟨some (121,true),.call (some 124) zD0 [(.t 123,.v)]⟩,
  oG 119 false 125 (.pick (.t 121) (.t 124) (.c (bv false))),
  oV 126 (.pick (.t 119) (.c (bv true)) (.t 125))] [65,66,67,68,69,70,71,72,73,74,75,76,77,78,79,80,81,82,83,84,85,86,87,88,89,90,91,92,93,94,95,96,97,98,99,100,101,102,103,104,105,106,107,108,109,110,111,112,113,114,115,116,117,118,119,120,121,122,123,124,125]
abbrev zST:HCode:=oN [oV 2 (.mv (.c (bv true)))]
abbrev zSU:HCode:=oR [oV 50 (.mv (.t 6)),
  oV 51 (.ints .add (.t 50) (.c (iv 1))),
  oV 6 (.mv (.t 51))] [50,51]
abbrev zSV:HCode:=oR [oV 26 (.mv (.t 4)),
  oV 27 (.ints .add (.t 26) (.c (iv 1))),
  oV 4 (.mv (.t 27))] [26,27]
abbrev zSW:HCode:=oR [oV 16 (.mv (.t 3)),
  oV 17 (.ints .add (.t 16) (.c (iv 1))),
  oV 3 (.mv (.t 17))] [16,17]
abbrev zSX:HCode:=oN [oV 2 (.mv (.c (bv false)))]
abbrev yEX:HCode:=(.seq zU5 (.seq (.seq zU6 (.block 0 (.loop (.seq (.seq zU7 (.cond (.t 15) .skip (.exit 0))) (.seq (.block 1 (.seq zU8 (.block 2 (.loop (.seq (.seq zU9 (.cond (.t 25) .skip (.exit 2))) (.seq (.block 3 (.seq zVa (.seq (.seq zVb (.cond (.t 44) (.seq zVc .ret) .skip)) (.seq zVd (.block 4 (.loop (.seq (.seq zVe (.cond (.t 49) .skip (.exit 4))) (.seq (.block 5 (.seq zSQ (.seq zSR (.seq zSS (.cond (.t 126) (.seq zST .ret) .skip))))) zSU)))))))) zSV)))))) zSW))))) (.seq zSX .ret)))
abbrev zMp:Env:={N:=127,Γ:=[(127,2),(129,6)],L:=135,nfix:=0}
abbrev ref_badForm_R:List RSrc:=[.tmp 2]
theorem zVf:zBs Tryz.prog zD0 yEX zMp ref_badForm_R:=by kernel_rfl
abbrev zZk:HCode:=oN [oV 2 (.mv (.c (bv false)))]
abbrev zZl:HCode:=oN [oV 3 (.mv (.c (iv 0)))]
abbrev zZm:HCode:=oR [oV 7 (.mv (.t 3)),
  oV 8 (.mv (.t 0)),
  oV 9 (.len false (.t 8)),
  oV 10 (.ints .lss (.t 7) (.t 9))] [7,8,9]
abbrev zZn:HCode:=oN [oV 4 (.mv (.c (iv 0)))]
abbrev zZo:HCode:=oR [oV 13 (.mv (.t 4)),
  oV 14 (.mv (.t 0)),
  oV 15 (.mv (.t 3)),
  oV 16 (.idxA 2 (.t 14) (.t 15)),
  oV 17 (.fldR (.t 16) 0 1),
  oV 18 (.ldR (.t 17) 1 false),
  oV 19 (.len false (.t 18)),
  oV 20 (.ints .lss (.t 13) (.t 19))] [13,14,15,16,17,18,19]
abbrev zZp:HCode:=oN [oV 5 (.mv (.c (iv 0)))]
abbrev zZq:HCode:=oR [oV 23 (.mv (.t 5)),
  oV 24 (.mv (.t 0)),
  oV 25 (.mv (.t 3)),
  oV 26 (.idxA 2 (.t 24) (.t 25)),
  oV 27 (.fldR (.t 26) 0 1),
  oV 28 (.ldR (.t 27) 1 false),
  oV 29 (.mv (.t 4)),
  oV 30 (.idxA 2 (.t 28) (.t 29)),
  oV 31 (.fldR (.t 30) 1 1),
  oV 32 (.ldR (.t 31) 1 false),
  oV 33 (.len false (.t 32)),
  oV 34 (.ints .lss (.t 23) (.t 33))] [23,24,25,26,27,28,29,30,31,32,33]
abbrev zZr:HCode:=.reg [oV 37 (.mv (.t 0)),
  oV 38 (.mv (.t 3)),
  oV 39 (.idxA 2 (.t 37) (.t 38)),
  oV 40 (.fldR (.t 39) 0 1),
  oV 41 (.ldR (.t 40) 1 false),
  oV 42 (.mv (.t 4)),
  oV 43 (.idxA 2 (.t 41) (.t 42)),
  oV 44 (.fldR (.t 43) 1 1),
  oV 45 (.ldR (.t 44) 1 false),
  oV 46 (.mv (.t 5)),
  oV 47 (.idxA 6 (.t 45) (.t 46)),
  oV 48 (.ldR (.t 47) 6 true),
  ⟨none,.alloc 6 0 58 [.v (.int .i64 0),.v (mkS []),.v (mkS []),.v (.int .i64 0),.v (.int .i64 0),.nl 2]⟩,
  ⟨none,.sto (.t 6) 0 58 0 6 (.t 48)⟩] false [.frz 0 58 6,.forget [37,38,39,40,41,42,43,44,45,46,47,48]]
abbrev zZs:HCode:=oR [oV 49 (.fldR (.t 6) 3 2),
  oV 50 (.ldR (.t 49) 2 true),
  oC 51 zDs [(.t 50,.v)],
  oV 52 (.ints .neq (.t 51) (.c (iv 0))),
  oV 53 (.mv (.t 52)),
  oG 53 false 54 (.fldR (.t 6) 5 1),
  oG 53 false 55 (.ldR (.t 54) 1 false),
  ⟨some (53,false),.call (some 56) zEF [(.t 55,.v)]⟩,
  oV 57 (.pick (.t 53) (.c (bv true)) (.t 56))] [49,50,51,52,53,54,55,56]
abbrev zZt:HCode:=oN [oV 2 (.mv (.c (bv true)))]
abbrev zVg:HCode:=oR [oV 35 (.mv (.t 5)),
  oV 36 (.ints .add (.t 35) (.c (iv 1))),
  oV 5 (.mv (.t 36))] [35,36]
abbrev zVh:HCode:=oR [oV 21 (.mv (.t 4)),
  oV 22 (.ints .add (.t 21) (.c (iv 1))),
  oV 4 (.mv (.t 22))] [21,22]
abbrev zVi:HCode:=oR [oV 11 (.mv (.t 3)),
  oV 12 (.ints .add (.t 11) (.c (iv 1))),
  oV 3 (.mv (.t 12))] [11,12]
abbrev zVj:HCode:=oN [oV 2 (.mv (.c (bv false)))]
abbrev yH5:HCode:=(.seq zZk (.seq (.seq zZl (.block 0 (.loop (.seq (.seq zZm (.cond (.t 10) .skip (.exit 0))) (.seq (.block 1 (.seq zZn (.block 2 (.loop (.seq (.seq zZo (.cond (.t 20) .skip (.exit 2))) (.seq (.block 3 (.seq zZp (.block 4 (.loop (.seq (.seq zZq (.cond (.t 34) .skip (.exit 4))) (.seq (.block 5 (.seq zZr (.seq zZs (.cond (.t 57) (.seq zZt .ret) .skip)))) zVg)))))) zVh)))))) zVi))))) (.seq zVj .ret)))
abbrev zPd:Env:={N:=58,Γ:=[(58,6)],L:=64,nfix:=0}
abbrev ref_badNth_R:List RSrc:=[.tmp 2]
theorem zZu:zBs Tryz.prog zEF yH5 zPd ref_badNth_R:=by kernel_rfl
abbrev zPL:HCode:=oN [oV 2 (.mv (.c (iv 0)))]
abbrev zPM:HCode:=oR [oV 4 (.mv (.t 0)),
  oC 5 zD2 [(.t 4,.v),(.c (iv 1),.v)],
  oV 3 (.mv (.t 5))] [4,5]
abbrev zPN:HCode:=oN [oV 2 (.mv (.c (iv 2)))]
abbrev zPO:HCode:=oR [oV 7 (.mv (.t 0)),
  oC 8 zD1 [(.t 7,.v)],
  oV 6 (.mv (.t 8))] [7,8]
abbrev zPP:HCode:=oN [oV 2 (.mv (.c (iv 4)))]
abbrev zPQ:HCode:=oR [oV 10 (.mv (.t 0)),
  oC 11 zD0 [(.t 10,.v)],
  oV 9 (.mv (.t 11))] [10,11]
abbrev zPR:HCode:=oN [oV 2 (.mv (.c (iv 1)))]
abbrev zPS:HCode:=oR [oV 13 (.mv (.t 0)),
  oC 14 zEF [(.t 13,.v)],
  oV 12 (.mv (.t 14))] [13,14]
abbrev zPT:HCode:=oN [oV 2 (.mv (.c (iv 3)))]
abbrev zPU:HCode:=oN [oV 2 (.mv (.c (iv 0)))]
abbrev zZv:HCode:=(.seq zPL (.seq (.block 0 (.seq zPM (.cond (.t 3) (.seq zPN .ret) (.seq zPO (.cond (.t 6) (.seq zPP .ret) (.seq zPQ (.cond (.t 9) (.seq zPR .ret) (.seq zPS (.cond (.t 12) (.seq zPT .ret) .skip))))))))) (.seq zPU .ret)))
abbrev zIr:Env:={N:=15,Γ:=[],L:=15,nfix:=0}
abbrev ref_CheckList_R:List RSrc:=[.tmp 2]
theorem zPV:zBs Tryz.prog zEi zZv zIr ref_CheckList_R:=by kernel_rfl
end Go.Hx
end

section
/-
 The abstract code of functions of the program, printed by gen.py; each stands for the given one. No condition.
-/
namespace Go.Hx
open Go.Proofs
variable [Glob]
abbrev zIs:Nat:=17
abbrev zAP:Nat:=20
abbrev zEG:Nat:=119
abbrev zHm:Nat:=175
abbrev zEH:Nat:=174
abbrev zBN:Nat:=64
abbrev zCi:Nat:=178
abbrev zF3:Nat:=120
abbrev zB0:Nat:=235
abbrev zDu:Nat:=176
abbrev zKJ:Nat:=234
abbrev zZw:HCode:=oN [oV 2 (.boxF (.t 0)),
  oV 4 (.mv (.c (sv []))),
  oV 5 (.mv (.c (bv false)))]
abbrev zZx:HCode:=oN [oV 6 (.mv (.c (iv 0)))]
abbrev zZy:HCode:=oR [oV 7 (.mv (.t 6)),
  oV 8 (.fldR (.t 2) 4 1),
  oV 9 (.ldR (.t 8) 1 false),
  oV 10 (.len false (.t 9)),
  oV 11 (.ints .lss (.t 7) (.t 10))] [7,8,9,10]
abbrev zZz:HCode:=oR [oV 14 (.fldR (.t 2) 4 1),
  oV 15 (.ldR (.t 14) 1 false),
  oV 16 (.mv (.t 6)),
  oV 17 (.idxA 2 (.t 15) (.t 16)),
  oV 18 (.fldR (.t 17) 0 1),
  oV 19 (.ldR (.t 18) 1 false),
  oV 20 (.mv (.t 1)),
  oV 21 (.strs .eql (.t 19) (.t 20))] [14,15,16,17,18,19,20]
abbrev zZA:HCode:=oR [oV 22 (.fldR (.t 2) 4 1),
  oV 23 (.ldR (.t 22) 1 false),
  oV 24 (.mv (.t 6)),
  oV 25 (.idxA 2 (.t 23) (.t 24)),
  oV 26 (.fldR (.t 25) 1 1),
  oV 27 (.ldR (.t 26) 1 false),
  oV 4 (.mv (.t 27)),
  oV 5 (.mv (.c (bv true)))] [22,23,24,25,26,27]
abbrev zZB:HCode:=oR [oV 12 (.mv (.t 6)),
  oV 13 (.ints .add (.t 12) (.c (iv 1))),
  oV 6 (.mv (.t 13))] [12,13]
abbrev zZC:HCode:=oN [oV 4 (.mv (.c (sv []))),
  oV 5 (.mv (.c (bv false)))]
abbrev yH6:HCode:=(.seq zZw (.seq (.seq zZx (.block 0 (.loop (.seq (.seq zZy (.cond (.t 11) .skip (.exit 0))) (.seq (.block 1 (.seq zZz (.cond (.t 21) (.seq zZA .ret) .skip))) zZB))))) (.seq zZC .ret)))
abbrev zPe:Env:={N:=28,Γ:=[],L:=28,nfix:=0}
abbrev ref_attrOf_R:List RSrc:=[.tmp 4,.tmp 5]
theorem zZD:zBs Tryz.prog zHm yH6 zPe ref_attrOf_R:=by kernel_rfl
abbrev zSY:HCode:=oN [oV 6 (.mv (.c (bv false)))]
abbrev zSZ:HCode:=oR [oV 7 (.mv (.t 2)),
  oV 8 (.ints .geq (.t 7) (.c (iv 0))),
  oV 9 (.mv (.t 8)),
  oG 9 true 10 (.mv (.t 2)),
  oG 9 true 11 (.mv (.t 1)),
  oG 9 true 12 (.len true (.t 11)),
  oG 9 true 13 (.ints .add (.t 10) (.t 12)),
  oG 9 true 14 (.mv (.t 0)),
  oG 9 true 15 (.len true (.t 14)),
  oG 9 true 16 (.ints .leq (.t 13) (.t 15)),
  oV 17 (.pick (.t 9) (.t 16) (.c (bv false))),
  oV 18 (.mv (.t 17)),
  oG 18 true 19 (.mv (.t 0)),
  oG 18 true 20 (.mv (.t 2)),
  oG 18 true 21 (.mv (.t 2)),
  oG 18 true 22 (.mv (.t 1)),
  oG 18 true 23 (.len true (.t 22)),
  oG 18 true 24 (.ints .add (.t 21) (.t 23)),
  oG 18 true 25 (.sls (.t 19) (some (.t 20)) (some (.t 24))),
  oG 18 true 26 (.mv (.t 1)),
  oG 18 true 27 (.strs .eql (.t 25) (.t 26)),
  oV 28 (.pick (.t 18) (.t 27) (.c (bv false))),
  oV 6 (.mv (.t 28))] [7,8,9,10,11,12,13,14,15,16,17,18,19,20,21,22,23,24,25,26,27,28]
abbrev yCF:HCode:=(.seq zSY (.seq zSZ .ret))
abbrev zD3:Env:={N:=29,Γ:=[],L:=29,nfix:=0}
abbrev ref_standsAt_R:List RSrc:=[.tmp 6]
theorem zFb:zBs Tryz.prog zB0 yCF zD3 ref_standsAt_R:=by kernel_rfl
abbrev yEY:HCode:=oN [oV 4 (.mv (.c (bv false)))]
abbrev yEZ:HCode:=oR [oV 7 (.mv (.t 1)),
  oV 8 (.strs .eql (.t 7) (.c (sv [])))] [7]
abbrev yE0:HCode:=oN [oV 4 (.mv (.c (bv false)))]
abbrev yE1:HCode:=oN [oV 5 (.mv (.c (iv 0)))]
abbrev yE2:HCode:=oR [oV 9 (.mv (.t 5)),
  oV 10 (.mv (.t 1)),
  oV 11 (.len true (.t 10)),
  oV 12 (.ints .lss (.t 9) (.t 11))] [9,10,11]
abbrev yE3:HCode:=oR [oV 15 (.mv (.t 1)),
  oV 16 (.mv (.t 5)),
  oV 17 (.idxS (.t 15) (.t 16)),
  oV 18 (.ints .eql (.t 17) (.c (.one (.v (.int .u8 32)))))] [15,16,17]
abbrev yE4:HCode:=oN [oV 4 (.mv (.c (bv false)))]
abbrev yE5:HCode:=oR [oV 13 (.mv (.t 5)),
  oV 14 (.ints .add (.t 13) (.c (iv 1))),
  oV 5 (.mv (.t 14))] [13,14]
abbrev yE6:HCode:=oN [oV 6 (.mv (.c (iv 0)))]
abbrev yE7:HCode:=oR [oV 19 (.mv (.t 6)),
  oV 20 (.mv (.t 0)),
  oV 21 (.len true (.t 20)),
  oV 22 (.ints .leq (.t 19) (.t 21))] [19,20,21]
abbrev yCG:HCode:=oR [oV 25 (.mv (.t 0)),
  oV 26 (.mv (.t 1)),
  oV 27 (.mv (.t 6)),
  oC 28 zB0 [(.t 25,.v),(.t 26,.v),(.t 27,.v)],
  oV 29 (.mv (.t 28)),
  oG 29 true 30 (.mv (.t 6)),
  oG 29 true 31 (.ints .eql (.t 30) (.c (iv 0))),
  oG 29 true 32 (.mv (.t 31)),
  oG 32 false 33 (.mv (.t 0)),
  oG 32 false 34 (.mv (.t 6)),
  oG 32 false 35 (.ints .sub (.t 34) (.c (iv 1))),
  oG 32 false 36 (.idxS (.t 33) (.t 35)),
  oG 32 false 37 (.ints .eql (.t 36) (.c (.one (.v (.int .u8 32))))),
  oG 29 true 38 (.pick (.t 32) (.c (bv true)) (.t 37)),
  oV 39 (.pick (.t 29) (.t 38) (.c (bv false))),
  oV 40 (.mv (.t 39)),
  oG 40 true 41 (.mv (.t 6)),
  oG 40 true 42 (.mv (.t 1)),
  oG 40 true 43 (.len true (.t 42)),
  oG 40 true 44 (.ints .add (.t 41) (.t 43)),
  oG 40 true 45 (.mv (.t 0)),
  oG 40 true 46 (.len true (.t 45)),
  oG 40 true 47 (.ints .eql (.t 44) (.t 46)),
  oG 40 true 48 (.mv (.t 47)),
  oG 48 false 49 (.mv (.t 0)),
  oG 48 false 50 (.mv (.t 6)),
  oG 48 false 51 (.mv (.t 1)),
  oG 48 false 52 (.len true (.t 51)),
  oG 48 false 53 (.ints .add (.t 50) (.t 52)),
  oG 48 false 54 (.idxS (.t 49) (.t 53)),
  oG 48 false 55 (.ints .eql (.t 54) (.c (.one (.v (.int .u8 32))))),
  oG 40 true 56 (.pick (.t 48) (.c (bv true)) (.t 55)),
  oV 57 (.pick (.t 40) (.t 56) (.c (bv false)))] [25,26,27,28,29,30,31,32,33,34,35,36,37,38,39,40,41,42,43,44,45,46,47,48,49,50,51,52,53,54,55,56]
abbrev yCH:HCode:=oN [oV 4 (.mv (.c (bv true)))]
abbrev yCI:HCode:=oR [oV 23 (.mv (.t 6)),
  oV 24 (.ints .add (.t 23) (.c (iv 1))),
  oV 6 (.mv (.t 24))] [23,24]
abbrev yCJ:HCode:=oN [oV 4 (.mv (.c (bv false)))]
abbrev yLn:HCode:=(.seq yEY (.seq (.seq yEZ (.cond (.t 8) (.seq yE0 .ret) .skip)) (.seq (.seq yE1 (.block 0 (.loop (.seq (.seq yE2 (.cond (.t 12) .skip (.exit 0))) (.seq (.block 1 (.seq yE3 (.cond (.t 18) (.seq yE4 .ret) .skip))) yE5))))) (.seq (.seq yE6 (.block 2 (.loop (.seq (.seq yE7 (.cond (.t 22) .skip (.exit 2))) (.seq (.block 3 (.seq yCG (.cond (.t 57) (.seq yCH .ret) .skip))) yCI))))) (.seq yCJ .ret)))))
abbrev zXx:Env:={N:=58,Γ:=[],L:=58,nfix:=0}
abbrev ref_word_R:List RSrc:=[.tmp 4]
theorem yE8:zBs Tryz.prog zKJ yLn zXx ref_word_R:=by kernel_rfl
abbrev zMq:HCode:=oN [oV 6 (.mv (.c (bv false)))]
abbrev zMr:HCode:=oN [oV 8 (.mv (.t 0))]
abbrev zMs:HCode:=oR [oV 10 (.ints .eql (.t 8) (.c (iv 3))),
  oV 9 (.mv (.t 10))] [10]
abbrev zMt:HCode:=oN [oV 6 (.mv (.c (bv true)))]
abbrev zMu:HCode:=oR [oV 12 (.ints .eql (.t 8) (.c (iv 4))),
  oV 11 (.mv (.t 12))] [12]
abbrev zMv:HCode:=oR [oV 13 (.mv (.t 1)),
  oV 14 (.mv (.t 2)),
  oV 15 (.strs .eql (.t 13) (.t 14)),
  oV 6 (.mv (.t 15))] [13,14,15]
abbrev zMw:HCode:=oR [oV 17 (.ints .eql (.t 8) (.c (iv 8))),
  oV 16 (.mv (.t 17))] [17]
abbrev zMx:HCode:=oR [oV 18 (.mv (.t 1)),
  oV 19 (.mv (.t 2)),
  oC 20 zKJ [(.t 18,.v),(.t 19,.v)],
  oV 6 (.mv (.t 20))] [18,19,20]
abbrev zMy:HCode:=oR [oV 21 (.mv (.t 2)),
  oV 22 (.strs .eql (.t 21) (.c (sv [])))] [21]
abbrev zMz:HCode:=oN [oV 6 (.mv (.c (bv false)))]
abbrev zKK:HCode:=oN [oV 23 (.mv (.t 0))]
abbrev zKL:HCode:=oR [oV 25 (.ints .eql (.t 23) (.c (iv 5))),
  oV 24 (.mv (.t 25))] [25]
abbrev zKM:HCode:=oR [oV 26 (.mv (.t 1)),
  oV 27 (.mv (.t 2)),
  oC 28 zB0 [(.t 26,.v),(.t 27,.v),(.c (iv 0),.v)],
  oV 6 (.mv (.t 28))] [26,27,28]
abbrev zKN:HCode:=oR [oV 30 (.ints .eql (.t 23) (.c (iv 6))),
  oV 29 (.mv (.t 30))] [30]
abbrev zKO:HCode:=oR [oV 31 (.mv (.t 1)),
  oV 32 (.mv (.t 2)),
  oV 33 (.mv (.t 1)),
  oV 34 (.len true (.t 33)),
  oV 35 (.mv (.t 2)),
  oV 36 (.len true (.t 35)),
  oV 37 (.ints .sub (.t 34) (.t 36)),
  oC 38 zB0 [(.t 31,.v),(.t 32,.v),(.t 37,.v)],
  oV 6 (.mv (.t 38))] [31,32,33,34,35,36,37,38]
abbrev zKP:HCode:=oN [oV 7 (.mv (.c (iv 0)))]
abbrev zKQ:HCode:=oR [oV 39 (.mv (.t 7)),
  oV 40 (.mv (.t 1)),
  oV 41 (.len true (.t 40)),
  oV 42 (.ints .lss (.t 39) (.t 41))] [39,40,41]
abbrev zKR:HCode:=oR [oV 45 (.mv (.t 1)),
  oV 46 (.mv (.t 2)),
  oV 47 (.mv (.t 7)),
  oC 48 zB0 [(.t 45,.v),(.t 46,.v),(.t 47,.v)]] [45,46,47]
abbrev zKS:HCode:=oN [oV 6 (.mv (.c (bv true)))]
abbrev zKT:HCode:=oR [oV 43 (.mv (.t 7)),
  oV 44 (.ints .add (.t 43) (.c (iv 1))),
  oV 7 (.mv (.t 44))] [43,44]
abbrev zKU:HCode:=oN [oV 6 (.mv (.c (bv false)))]
abbrev zS0:HCode:=(.seq zMq (.seq (.seq zMr (.block 0 (.seq zMs (.cond (.t 9) (.seq zMt .ret) (.seq zMu (.cond (.t 11) (.seq zMv .ret) (.seq zMw (.cond (.t 16) (.seq zMx .ret) .skip)))))))) (.seq (.seq zMy (.cond (.t 22) (.seq zMz .ret) .skip)) (.seq (.seq zKK (.block 1 (.seq zKL (.cond (.t 24) (.seq zKM .ret) (.seq zKN (.cond (.t 29) (.seq zKO .ret) .skip)))))) (.seq (.seq zKP (.block 2 (.loop (.seq (.seq zKQ (.cond (.t 42) .skip (.exit 2))) (.seq (.block 3 (.seq zKR (.cond (.t 48) (.seq zKS .ret) .skip))) zKT))))) (.seq zKU .ret))))))
abbrev zGH:Env:={N:=49,Γ:=[],L:=49,nfix:=0}
abbrev ref_valuePasses_R:List RSrc:=[.tmp 6]
theorem zMA:zBs Tryz.prog zDu zS0 zGH ref_valuePasses_R:=by kernel_rfl
abbrev zZE:HCode:=oN [oV 2 (.boxF (.t 0)),
  ⟨none,.nlo 4 zAr 1⟩]
abbrev zZF:HCode:=oR [oV 5 (.mv (.t 1)),
  oV 6 (.ints .eql (.t 5) (.c (iv 0)))] [5]
abbrev zZG:HCode:=oR [⟨none,.bsl 7 zAr 1 [.c (iv 0)]⟩,
  ⟨none,.mvo 4 7⟩] [7]
abbrev zZH:HCode:=oQ [oD 0 false (oV 8 (.ldR (.t 2) 1 true)),
  oD 1 false (oV 9 (.fldR (.t 2) 0 1)),
  oD 2 false (oV 10 (.ldR (.t 9) 1 false)),
  oD 3 false (oV 11 (.mv (.t 1))),
  oD 4 false (oV 12 (.idxA 5 (.t 10) (.t 11))),
  oD 5 false (oV 13 (.fldR (.t 12) 0 1)),
  oD 6 false (oV 14 (.ldR (.t 13) 1 false)),
  oD 7 true (oC 15 zEB [(.t 8,.v),(.t 14,.v)]),
  oD 8 false ⟨none,.mvo 4 15⟩] [8,9,10,11,12,13,14,15]
abbrev yH7:HCode:=(.seq zZE (.seq (.seq zZF (.cond (.t 6) (.seq zZG .ret) .skip)) (.seq zZH .ret)))
abbrev zPf:Env:={N:=16,Γ:=[],L:=16,nfix:=0}
abbrev ref_family_R:List RSrc:=[.tmp 4]
theorem zZI:zBs Tryz.prog zEH yH7 zPf ref_family_R:=by kernel_rfl
abbrev zVk:HCode:=oN [oV 4 (.mv (.c (iv 0)))]
abbrev zVl:HCode:=oN [oV 5 (.mv (.c (iv 0)))]
abbrev zVm:HCode:=oR [oV 6 (.mv (.t 5)),
  oV 7 (.mv (.t 0)),
  oV 8 (.len false (.t 7)),
  oV 9 (.ints .lss (.t 6) (.t 8))] [6,7,8]
abbrev zVn:HCode:=oR [oV 12 (.mv (.t 0)),
  oV 13 (.mv (.t 5)),
  oV 14 (.idxA 1 (.t 12) (.t 13)),
  oV 15 (.ldR (.t 14) 1 false),
  oV 16 (.mv (.t 1)),
  oV 17 (.ints .eql (.t 15) (.t 16))] [12,13,14,15,16]
abbrev zVo:HCode:=oR [oV 18 (.mv (.t 5)),
  oV 4 (.mv (.t 18))] [18]
abbrev zVp:HCode:=oR [oV 10 (.mv (.t 5)),
  oV 11 (.ints .add (.t 10) (.c (iv 1))),
  oV 5 (.mv (.t 11))] [10,11]
abbrev zVq:HCode:=oN [oV 4 (.mv (.c (iv (-1))))]
abbrev yE9:HCode:=(.seq zVk (.seq (.seq zVl (.block 0 (.loop (.seq (.seq zVm (.cond (.t 9) .skip (.exit 0))) (.seq (.block 1 (.seq zVn (.cond (.t 17) (.seq zVo .ret) .skip))) zVp))))) (.seq zVq .ret)))
abbrev zMB:Env:={N:=19,Γ:=[],L:=19,nfix:=0}
abbrev ref_placeIn_R:List RSrc:=[.tmp 4]
theorem zVr:zBs Tryz.prog zCi yE9 zMB ref_placeIn_R:=by kernel_rfl
abbrev zZJ:HCode:=oN [oV 3 (.boxF (.t 0)),
  oV 4 (.boxF (.t 1)),
  oV 6 (.mv (.c (bv false)))]
abbrev zZK:HCode:=oR [oV 13 (.fldR (.t 3) 0 1),
  oV 14 (.ldR (.t 13) 1 false),
  oV 15 (.mv (.t 2)),
  oV 16 (.idxA 5 (.t 14) (.t 15)),
  oV 17 (.ldR (.t 16) 5 true),
  ⟨none,.alloc 7 0 145 [.v (.int .i64 0),.v (mkS []),.v (mkS []),.nl 1,.nl 2]⟩,
  ⟨none,.sto (.t 7) 0 145 0 5 (.t 17)⟩] [13,14,15,16,17]
abbrev zZL:HCode:=oR [oV 18 (.ldR (.t 3) 1 true),
  oV 19 (.mv (.t 2)),
  oC 20 zEH [(.t 18,.v),(.t 19,.v)],
  oV 8 (.mv (.t 20))] [18,19,20]
abbrev zZM:HCode:=oR [oV 22 (.fldR (.t 4) 0 1),
  oV 23 (.ldR (.t 22) 1 false),
  oV 24 (.ints .eql (.t 23) (.c (iv 1))),
  oV 21 (.mv (.t 24))] [22,23,24]
abbrev zZN:HCode:=oN [oV 9 (.mv (.c (iv 0)))]
abbrev zZO:HCode:=oR [oV 25 (.mv (.t 9)),
  oV 26 (.fldP (.t 7) 3),
  oV 27 (.ldB (.t 26) 0 145 3 1 false),
  oV 28 (.len false (.t 27)),
  oV 29 (.ints .lss (.t 25) (.t 28))] [25,26,27,28]
abbrev zZP:HCode:=oQ [oD 0 false (oV 32 (.fldP (.t 7) 3)),
  oD 1 false (oV 33 (.ldB (.t 32) 0 145 3 1 false)),
  oD 2 false (oV 34 (.mv (.t 9))),
  oD 3 false (oV 35 (.idxA 1 (.t 33) (.t 34))),
  oD 4 false (oV 36 (.ldR (.t 35) 1 false)),
  oD 5 false (oV 37 (.fldR (.t 4) 1 1)),
  oD 6 false (oV 38 (.ldR (.t 37) 1 false)),
  oD 7 false (oV 39 (.strs .eql (.t 36) (.t 38)))] [32,33,34,35,36,37,38]
abbrev zZQ:HCode:=oN [oV 6 (.mv (.c (bv true)))]
abbrev zZR:HCode:=oR [oV 30 (.mv (.t 9)),
  oV 31 (.ints .add (.t 30) (.c (iv 1))),
  oV 9 (.mv (.t 31))] [30,31]
abbrev zZS:HCode:=oN [oV 6 (.mv (.c (bv false)))]
abbrev zVs:HCode:=oR [oV 41 (.fldR (.t 4) 0 1),
  oV 42 (.ldR (.t 41) 1 false),
  oV 43 (.ints .eql (.t 42) (.c (iv 2))),
  oV 40 (.mv (.t 43))] [41,42,43]
abbrev zVt:HCode:=oR [oV 44 (.fldP (.t 7) 2),
  oV 45 (.ldB (.t 44) 0 145 2 1 false),
  oV 46 (.fldR (.t 4) 1 1),
  oV 47 (.ldR (.t 46) 1 false),
  oV 48 (.strs .eql (.t 45) (.t 47)),
  oV 6 (.mv (.t 48))] [44,45,46,47,48]
abbrev zVu:HCode:=oR [oV 50 (.fldR (.t 4) 0 1),
  oV 51 (.ldR (.t 50) 1 false),
  oC 52 zAG [(.t 51,.v),(.c (iv 3),.v),(.c (iv 8),.v)],
  oV 49 (.mv (.t 52))] [50,51,52]
abbrev zVv:HCode:=oR [oV 54 (.ldB (.t 7) 0 145 0 5 true),
  oV 55 (.fldR (.t 4) 1 1),
  oV 56 (.ldR (.t 55) 1 false),
  oC 57 zHm [(.t 54,.v),(.t 56,.v)],
  oV 53 (.mv (.t 57)),
  oV 58 (.ext 53 0),
  oV 59 (.ext 53 1),
  oV 10 (.mv (.t 58)),
  oV 11 (.mv (.t 59))] [53,54,55,56,57,58,59]
abbrev zVw:HCode:=oR [oV 60 (.mv (.t 11)),
  oV 61 (.mv (.t 60)),
  oG 61 true 62 (.fldR (.t 4) 0 1),
  oG 61 true 63 (.ldR (.t 62) 1 false),
  oG 61 true 64 (.mv (.t 10)),
  oG 61 true 65 (.fldR (.t 4) 2 1),
  oG 61 true 66 (.ldR (.t 65) 1 false),
  ⟨some (61,true),.call (some 67) zDu [(.t 63,.v),(.t 64,.v),(.t 66,.v)]⟩,
  oV 68 (.pick (.t 61) (.t 67) (.c (bv false))),
  oV 6 (.mv (.t 68))] [60,61,62,63,64,65,66,67,68]
abbrev zVx:HCode:=oR [oV 70 (.fldR (.t 4) 0 1),
  oV 71 (.ldR (.t 70) 1 false),
  oV 72 (.ints .eql (.t 71) (.c (iv 9))),
  oV 69 (.mv (.t 72))] [70,71,72]
abbrev zVy:HCode:=oQ [oD 0 false (oV 73 (.fldR (.t 4) 3 2)),
  oD 1 false (oV 74 (.ldR (.t 73) 2 true)),
  oD 2 false (oV 75 (.mv (.t 8))),
  oD 3 false (oV 76 (.mv (.t 2))),
  oD 4 true (oC 77 zCi [(.t 75,.v),(.t 76,.v)]),
  oD 5 false (oV 78 (.ints .add (.t 77) (.c (iv 1)))),
  oD 6 true (oC 79 zDt [(.t 74,.v),(.t 78,.v)]),
  oD 7 false (oV 6 (.mv (.t 79)))] [73,74,75,76,77,78,79]
abbrev zVz:HCode:=oR [oV 81 (.fldR (.t 4) 0 1),
  oV 82 (.ldR (.t 81) 1 false),
  oV 83 (.ints .eql (.t 82) (.c (iv 10))),
  oV 80 (.mv (.t 83))] [81,82,83]
abbrev zVA:HCode:=oQ [oD 0 false (oV 84 (.fldR (.t 4) 3 2)),
  oD 1 false (oV 85 (.ldR (.t 84) 2 true)),
  oD 2 false (oV 86 (.mv (.t 8))),
  oD 3 false (oV 87 (.len false (.t 86))),
  oD 4 false (oV 88 (.mv (.t 8))),
  oD 5 false (oV 89 (.mv (.t 2))),
  oD 6 true (oC 90 zCi [(.t 88,.v),(.t 89,.v)]),
  oD 7 false (oV 91 (.ints .sub (.t 87) (.t 90))),
  oD 8 true (oC 92 zDt [(.t 85,.v),(.t 91,.v)]),
  oD 9 false (oV 6 (.mv (.t 92)))] [84,85,86,87,88,89,90,91,92]
abbrev zVB:HCode:=oR [oV 94 (.fldR (.t 4) 0 1),
  oV 95 (.ldR (.t 94) 1 false),
  oV 96 (.ints .eql (.t 95) (.c (iv 11))),
  oV 93 (.mv (.t 96))] [94,95,96]
abbrev zVC:HCode:=oR [oV 97 (.ldR (.t 3) 1 true),
  oV 98 (.mv (.t 2)),
  oC 99 zEB [(.t 97,.v),(.t 98,.v)],
  oV 100 (.len false (.t 99)),
  oV 101 (.ints .eql (.t 100) (.c (iv 0))),
  oV 6 (.mv (.t 101))] [97,98,99,100,101]
abbrev zVD:HCode:=oR [oV 103 (.fldR (.t 4) 0 1),
  oV 104 (.ldR (.t 103) 1 false),
  oV 105 (.ints .eql (.t 104) (.c (iv 12))),
  oV 102 (.mv (.t 105))] [103,104,105]
abbrev zVE:HCode:=oR [oV 106 (.mv (.t 2)),
  oV 107 (.ints .eql (.t 106) (.c (iv 0))),
  oV 6 (.mv (.t 107))] [106,107]
abbrev zVF:HCode:=oR [oV 109 (.fldR (.t 4) 0 1),
  oV 110 (.ldR (.t 109) 1 false),
  oV 111 (.ints .eql (.t 110) (.c (iv 13))),
  oV 108 (.mv (.t 111))] [109,110,111]
abbrev zVG:HCode:=oR [oV 112 (.ldR (.t 3) 1 true),
  oV 113 (.fldR (.t 4) 5 1),
  oV 114 (.ldR (.t 113) 1 false),
  oV 115 (.mv (.t 2)),
  oC 116 zAP [(.t 112,.v),(.t 114,.v),(.t 115,.v)],
  oV 117 (.not (.t 116)),
  oV 6 (.mv (.t 117))] [112,113,114,115,116,117]
abbrev zVH:HCode:=oR [oV 119 (.fldR (.t 4) 0 1),
  oV 120 (.ldR (.t 119) 1 false),
  oV 121 (.ints .eql (.t 120) (.c (iv 14))),
  oV 118 (.mv (.t 121))] [119,120,121]
abbrev zVI:HCode:=oR [oV 122 (.ldR (.t 3) 1 true),
  oV 123 (.fldR (.t 4) 5 1),
  oV 124 (.ldR (.t 123) 1 false),
  oV 125 (.mv (.t 2)),
  oC 126 zAP [(.t 122,.v),(.t 124,.v),(.t 125,.v)],
  oV 6 (.mv (.t 126))] [122,123,124,125,126]
abbrev zVJ:HCode:=oN [oV 12 (.mv (.c (iv 0)))]
abbrev zVK:HCode:=oR [oV 127 (.mv (.t 12)),
  oV 128 (.fldR (.t 3) 0 1),
  oV 129 (.ldR (.t 128) 1 false),
  oV 130 (.len false (.t 129)),
  oV 131 (.ints .lss (.t 127) (.t 130))] [127,128,129,130]
abbrev zVL:HCode:=oR [oV 134 (.ldR (.t 3) 1 true),
  oV 135 (.mv (.t 2)),
  oV 136 (.mv (.t 12)),
  oC 137 zFI [(.t 134,.v),(.t 135,.v),(.t 136,.v)],
  oV 138 (.mv (.t 137)),
  oG 138 true 139 (.ldR (.t 3) 1 true),
  oG 138 true 140 (.fldR (.t 4) 5 1),
  oG 138 true 141 (.ldR (.t 140) 1 false),
  oG 138 true 142 (.mv (.t 12)),
  ⟨some (138,true),.call (some 143) zAP [(.t 139,.v),(.t 141,.v),(.t 142,.v)]⟩,
  oV 144 (.pick (.t 138) (.t 143) (.c (bv false)))] [134,135,136,137,138,139,140,141,142,143]
abbrev zVM:HCode:=oN [oV 6 (.mv (.c (bv true)))]
abbrev zVN:HCode:=oR [oV 132 (.mv (.t 12)),
  oV 133 (.ints .add (.t 132) (.c (iv 1))),
  oV 12 (.mv (.t 133))] [132,133]
abbrev zVO:HCode:=oN [oV 6 (.mv (.c (bv false)))]
abbrev yH8:HCode:=(.seq zZJ (.seq zZK (.seq zZL (.seq (.block 0 (.seq zZM (.cond (.t 21) (.seq (.seq zZN (.block 1 (.loop (.seq (.seq zZO (.cond (.t 29) .skip (.exit 1))) (.seq (.block 2 (.seq zZP (.cond (.t 39) (.seq zZQ .ret) .skip))) zZR))))) (.seq zZS .ret)) (.seq zVs (.cond (.t 40) (.seq zVt .ret) (.seq zVu (.cond (.t 49) (.seq zVv (.seq zVw .ret)) (.seq zVx (.cond (.t 69) (.seq zVy .ret) (.seq zVz (.cond (.t 80) (.seq zVA .ret) (.seq zVB (.cond (.t 93) (.seq zVC .ret) (.seq zVD (.cond (.t 102) (.seq zVE .ret) (.seq zVF (.cond (.t 108) (.seq zVG .ret) (.seq zVH (.cond (.t 118) (.seq zVI .ret) .skip))))))))))))))))))) (.seq (.seq zVJ (.block 3 (.loop (.seq (.seq zVK (.cond (.t 131) .skip (.exit 3))) (.seq (.block 4 (.seq zVL (.cond (.t 144) (.seq zVM .ret) .skip))) zVN))))) (.seq zVO .ret))))))
abbrev zPg:Env:={N:=145,Γ:=[(145,5)],L:=150,nfix:=0}
abbrev ref_Passes_R:List RSrc:=[.tmp 6]
theorem zZT:zBs Tryz.prog zEG yH8 zPg ref_Passes_R:=by kernel_rfl
abbrev zVP:HCode:=oN [oV 4 (.boxF (.t 0)),
  oV 8 (.mv (.c (bv false)))]
abbrev zVQ:HCode:=oN [oV 12 (.mv (.t 1))]
abbrev zVR:HCode:=oR [oV 14 (.ints .eql (.t 12) (.c (iv 1))),
  oV 13 (.mv (.t 14))] [14]
abbrev zVS:HCode:=oR [oV 15 (.ldR (.t 4) 1 true),
  oV 16 (.mv (.t 2)),
  oV 17 (.mv (.t 3)),
  oC 18 zFI [(.t 15,.v),(.t 16,.v),(.t 17,.v)],
  oV 8 (.mv (.t 18))] [15,16,17,18]
abbrev zVT:HCode:=oR [oV 20 (.ints .eql (.t 12) (.c (iv 2))),
  oV 19 (.mv (.t 20))] [20]
abbrev zVU:HCode:=oR [oV 21 (.fldR (.t 4) 0 1),
  oV 22 (.ldR (.t 21) 1 false),
  oV 23 (.mv (.t 3)),
  oV 24 (.idxA 5 (.t 22) (.t 23)),
  oV 25 (.fldR (.t 24) 0 1),
  oV 26 (.ldR (.t 25) 1 false),
  oV 27 (.mv (.t 2)),
  oV 28 (.ints .eql (.t 26) (.t 27)),
  oV 8 (.mv (.t 28))] [21,22,23,24,25,26,27,28]
abbrev zVV:HCode:=oR [oV 29 (.ldR (.t 4) 1 true),
  oV 30 (.mv (.t 3)),
  oC 31 zEH [(.t 29,.v),(.t 30,.v)],
  oV 9 (.mv (.t 31))] [29,30,31]
abbrev zVW:HCode:=oR [oV 32 (.mv (.t 9)),
  oV 33 (.mv (.t 2)),
  oC 34 zCi [(.t 32,.v),(.t 33,.v)],
  oV 35 (.mv (.t 9)),
  oV 36 (.mv (.t 3)),
  oC 37 zCi [(.t 35,.v),(.t 36,.v)],
  oV 10 (.mv (.t 34)),
  oV 11 (.mv (.t 37))] [32,33,34,35,36,37]
abbrev zVX:HCode:=oR [oV 38 (.mv (.t 1)),
  oV 39 (.ints .eql (.t 38) (.c (iv 3)))] [38]
abbrev zVY:HCode:=oR [oV 40 (.mv (.t 10)),
  oV 41 (.ints .geq (.t 40) (.c (iv 0))),
  oV 42 (.mv (.t 41)),
  oG 42 true 43 (.mv (.t 10)),
  oG 42 true 44 (.ints .add (.t 43) (.c (iv 1))),
  oG 42 true 45 (.mv (.t 11)),
  oG 42 true 46 (.ints .eql (.t 44) (.t 45)),
  oV 47 (.pick (.t 42) (.t 46) (.c (bv false))),
  oV 8 (.mv (.t 47))] [40,41,42,43,44,45,46,47]
abbrev zS1:HCode:=oR [oV 48 (.mv (.t 10)),
  oV 49 (.ints .geq (.t 48) (.c (iv 0))),
  oV 50 (.mv (.t 49)),
  oG 50 true 51 (.mv (.t 10)),
  oG 50 true 52 (.mv (.t 11)),
  oG 50 true 53 (.ints .lss (.t 51) (.t 52)),
  oV 54 (.pick (.t 50) (.t 53) (.c (bv false))),
  oV 8 (.mv (.t 54))] [48,49,50,51,52,53,54]
abbrev yFa:HCode:=(.seq zVP (.seq (.seq zVQ (.block 0 (.seq zVR (.cond (.t 13) (.seq zVS .ret) (.seq zVT (.cond (.t 19) (.seq zVU .ret) .skip)))))) (.seq zVV (.seq zVW (.seq (.seq zVX (.cond (.t 39) (.seq zVY .ret) .skip)) (.seq zS1 .ret))))))
abbrev zMC:Env:={N:=55,Γ:=[],L:=55,nfix:=0}
abbrev ref_reaches_R:List RSrc:=[.tmp 8]
theorem zVZ:zBs Tryz.prog zF3 yFa zMC ref_reaches_R:=by kernel_rfl
abbrev zMD:HCode:=oN [oV 3 (.boxF (.t 0)),
  oV 4 (.boxF (.t 1)),
  oV 6 (.mv (.c (bv false)))]
abbrev zME:HCode:=oR [oV 12 (.fldR (.t 4) 0 1),
  oV 13 (.ldR (.t 12) 1 false),
  oV 14 (.len false (.t 13)),
  oV 15 (.ints .sub (.t 14) (.c (iv 1))),
  oV 7 (.mv (.t 15))] [12,13,14,15]
abbrev zMF:HCode:=.reg [oV 16 (.fldR (.t 4) 0 1),
  oV 17 (.ldR (.t 16) 1 false),
  oV 18 (.mv (.t 7)),
  oV 19 (.idxA 2 (.t 17) (.t 18)),
  oV 20 (.ldR (.t 19) 2 true),
  ⟨none,.alloc 8 0 84 [.v (mkS []),.nl 6]⟩,
  ⟨none,.sto (.t 8) 0 84 0 2 (.t 20)⟩] false [.frz 0 84 2,.forget [16,17,18,19,20]]
abbrev zMG:HCode:=oQ [oD 0 false (oV 21 (.fldR (.t 8) 0 1)),
  oD 1 false (oV 22 (.ldR (.t 21) 1 false)),
  oD 2 false (oV 23 (.strs .neq (.t 22) (.c (sv [])))),
  oD 3 false (oV 24 (.mv (.t 23))),
  oD 4 false (oG 24 true 25 (.fldR (.t 8) 0 1)),
  oD 5 false (oG 24 true 26 (.ldR (.t 25) 1 false)),
  oD 6 false (oG 24 true 27 (.fldR (.t 3) 0 1)),
  oD 7 false (oG 24 true 28 (.ldR (.t 27) 1 false)),
  oD 8 false (oG 24 true 29 (.mv (.t 2))),
  oD 9 false (oG 24 true 30 (.idxA 5 (.t 28) (.t 29))),
  oD 10 false (oG 24 true 31 (.fldR (.t 30) 1 1)),
  oD 11 false (oG 24 true 32 (.ldR (.t 31) 1 false)),
  oD 12 false (oG 24 true 33 (.strs .neq (.t 26) (.t 32))),
  oD 13 false (oV 34 (.pick (.t 24) (.t 33) (.c (bv false))))] [21,22,23,24,25,26,27,28,29,30,31,32,33]
abbrev zMH:HCode:=oN [oV 6 (.mv (.c (bv false)))]
abbrev zMI:HCode:=oN [oV 9 (.mv (.c (iv 0)))]
abbrev zMJ:HCode:=oR [oV 35 (.mv (.t 9)),
  oV 36 (.fldR (.t 8) 1 1),
  oV 37 (.ldR (.t 36) 1 false),
  oV 38 (.len false (.t 37)),
  oV 39 (.ints .lss (.t 35) (.t 38))] [35,36,37,38]
abbrev zMK:HCode:=oQ [oD 0 false (oV 42 (.ldR (.t 3) 1 true)),
  oD 1 false (oV 43 (.fldR (.t 8) 1 1)),
  oD 2 false (oV 44 (.ldR (.t 43) 1 false)),
  oD 3 false (oV 45 (.mv (.t 9))),
  oD 4 false (oV 46 (.idxA 6 (.t 44) (.t 45))),
  oD 5 false (oV 47 (.ldR (.t 46) 6 true)),
  oD 6 false (oV 48 (.mv (.t 2))),
  oD 7 true (oC 49 zEG [(.t 42,.v),(.t 47,.v),(.t 48,.v)]),
  oD 8 false (oV 50 (.not (.t 49)))] [42,43,44,45,46,47,48,49]
abbrev zML:HCode:=oN [oV 6 (.mv (.c (bv false)))]
abbrev zMM:HCode:=oR [oV 40 (.mv (.t 9)),
  oV 41 (.ints .add (.t 40) (.c (iv 1))),
  oV 9 (.mv (.t 41))] [40,41]
abbrev zKV:HCode:=oR [oV 51 (.mv (.t 7)),
  oV 52 (.ints .eql (.t 51) (.c (iv 0)))] [51]
abbrev zKW:HCode:=oN [oV 6 (.mv (.c (bv true)))]
abbrev zKX:HCode:=oQ [oD 0 false (oV 53 (.fldR (.t 4) 0 1)),
  oD 1 false (oV 54 (.ldR (.t 53) 1 false)),
  oD 2 false (oV 55 (.mv (.t 7))),
  oD 3 false (oV 56 (.slr 2 (.t 54) none (some (.t 55)))),
  oD 4 false (oV 57 (.fldR (.t 4) 1 1)),
  oD 5 false (oV 58 (.ldR (.t 57) 1 false)),
  oD 6 false (oV 59 (.mv (.t 7))),
  oD 7 false (oV 60 (.ints .sub (.t 59) (.c (iv 1)))),
  oD 8 false (oV 61 (.slr 1 (.t 58) none (some (.t 60)))),
  oD 9 false (oV 62 (.bld [.nl 2,.nl 1] [(0,1,.t 56),(1,1,.t 61)])),
  oD 10 false ⟨none,.alo 10 1 86 [.nl 2,.nl 1]⟩,
  oD 11 false ⟨none,.sto (.t 10) 1 86 0 2 (.t 62)⟩] [53,54,55,56,57,58,59,60,61,62]
abbrev zKY:HCode:=oN [oV 11 (.mv (.c (iv 0)))]
abbrev zKZ:HCode:=oR [oV 63 (.mv (.t 11)),
  oV 64 (.mv (.t 2)),
  oV 65 (.ints .lss (.t 63) (.t 64))] [63,64]
abbrev zK0:HCode:=oQ [oD 0 false (oV 68 (.ldR (.t 3) 1 true)),
  oD 1 false (oV 69 (.fldR (.t 4) 1 1)),
  oD 2 false (oV 70 (.ldR (.t 69) 1 false)),
  oD 3 false (oV 71 (.mv (.t 7))),
  oD 4 false (oV 72 (.ints .sub (.t 71) (.c (iv 1)))),
  oD 5 false (oV 73 (.idxA 1 (.t 70) (.t 72))),
  oD 6 false (oV 74 (.ldR (.t 73) 1 false)),
  oD 7 false (oV 75 (.mv (.t 11))),
  oD 8 false (oV 76 (.mv (.t 2))),
  oD 9 true (oC 77 zF3 [(.t 68,.v),(.t 74,.v),(.t 75,.v),(.t 76,.v)]),
  oD 10 false (oV 78 (.mv (.t 77))),
  oD 11 false (oG 78 true 79 (.ldR (.t 3) 1 true)),
  oD 12 false (oG 78 true 80 (.ldB (.t 10) 1 86 0 2 true)),
  oD 13 false (oG 78 true 81 (.mv (.t 11))),
  oD 14 true ⟨some (78,true),.call (some 82) zBN [(.t 79,.v),(.t 80,.v),(.t 81,.v)]⟩,
  oD 15 false (oV 83 (.pick (.t 78) (.t 82) (.c (bv false))))] [68,69,70,71,72,73,74,75,76,77,78,79,80,81,82]
abbrev zK1:HCode:=oN [oV 6 (.mv (.c (bv true)))]
abbrev zK2:HCode:=oR [oV 66 (.mv (.t 11)),
  oV 67 (.ints .add (.t 66) (.c (iv 1))),
  oV 11 (.mv (.t 67))] [66,67]
abbrev zK3:HCode:=oN [oV 6 (.mv (.c (bv false)))]
abbrev zS2:HCode:=(.seq zMD (.seq zME (.seq zMF (.seq (.seq zMG (.cond (.t 34) (.seq zMH .ret) .skip)) (.seq (.seq zMI (.block 0 (.loop (.seq (.seq zMJ (.cond (.t 39) .skip (.exit 0))) (.seq (.block 1 (.seq zMK (.cond (.t 50) (.seq zML .ret) .skip))) zMM))))) (.seq (.seq zKV (.cond (.t 52) (.seq zKW .ret) .skip)) (.seq zKX (.seq (.seq zKY (.block 2 (.loop (.seq (.seq zKZ (.cond (.t 65) .skip (.exit 2))) (.seq (.block 3 (.seq zK0 (.cond (.t 83) (.seq zK1 .ret) .skip))) zK2))))) (.seq zK3 .ret)))))))))
abbrev zB1:Env:={N:=84,Γ:=[(84,2),(86,2)],L:=88,nfix:=0,una:=[86]}
abbrev ref_pathMatches_R:List RSrc:=[.tmp 6]
theorem zCo:zBs Tryz.prog zBN zS2 zB1 ref_pathMatches_R:=by kernel_rfl
abbrev zPW:HCode:=oN [oV 3 (.boxF (.t 0)),
  oV 6 (.mv (.c (bv false)))]
abbrev zPX:HCode:=oN [oV 7 (.mv (.c (iv 0)))]
abbrev zPY:HCode:=oR [oV 8 (.mv (.t 7)),
  oV 9 (.mv (.t 1)),
  oV 10 (.len false (.t 9)),
  oV 11 (.ints .lss (.t 8) (.t 10))] [8,9,10]
abbrev zPZ:HCode:=oQ [oD 0 false (oV 14 (.ldR (.t 3) 1 true)),
  oD 1 false (oV 15 (.mv (.t 1))),
  oD 2 false (oV 16 (.mv (.t 7))),
  oD 3 false (oV 17 (.idxA 2 (.t 15) (.t 16))),
  oD 4 false (oV 18 (.ldR (.t 17) 2 true)),
  oD 5 false (oV 19 (.mv (.t 2))),
  oD 6 true (oC 20 zBN [(.t 14,.v),(.t 18,.v),(.t 19,.v)])] [14,15,16,17,18,19]
abbrev zP0:HCode:=oN [oV 6 (.mv (.c (bv true)))]
abbrev zP1:HCode:=oR [oV 12 (.mv (.t 7)),
  oV 13 (.ints .add (.t 12) (.c (iv 1))),
  oV 7 (.mv (.t 13))] [12,13]
abbrev zP2:HCode:=oN [oV 6 (.mv (.c (bv false)))]
abbrev zZU:HCode:=(.seq zPW (.seq (.seq zPX (.block 0 (.loop (.seq (.seq zPY (.cond (.t 11) .skip (.exit 0))) (.seq (.block 1 (.seq zPZ (.cond (.t 20) (.seq zP0 .ret) .skip))) zP1))))) (.seq zP2 .ret)))
abbrev zIt:Env:={N:=21,Γ:=[],L:=21,nfix:=0}
abbrev ref_MatchesOf_R:List RSrc:=[.tmp 6]
theorem zP3:zBs Tryz.prog zAP zZU zIt ref_MatchesOf_R:=by kernel_rfl
abbrev yCK:HCode:=oN [oV 2 (.boxF (.t 0)),
  ⟨none,.nlo 4 zAr 1⟩]
abbrev yCL:HCode:=oN [⟨none,.nlo 5 zAr 1⟩]
abbrev yCM:HCode:=oN [oV 6 (.mv (.c (iv 0)))]
abbrev yCN:HCode:=oR [oV 7 (.mv (.t 6)),
  oV 8 (.fldR (.t 2) 0 1),
  oV 9 (.ldR (.t 8) 1 false),
  oV 10 (.len false (.t 9)),
  oV 11 (.ints .lss (.t 7) (.t 10))] [7,8,9,10]
abbrev yCO:HCode:=oR [oV 14 (.ldR (.t 2) 1 true),
  oV 15 (.mv (.t 1)),
  oV 16 (.mv (.t 6)),
  oC 17 zAP [(.t 14,.v),(.t 15,.v),(.t 16,.v)]] [14,15,16]
abbrev yCP:HCode:=oR [⟨none,.mvo 18 5⟩,
  oV 19 (.mv (.t 6)),
  oV 20 (.bslF 1 [.t 19]),
  ⟨none,.app 21 zAr 1 (.t 18) (.t 20)⟩,
  ⟨none,.mvo 5 21⟩] [18,19,20,21]
abbrev yCQ:HCode:=oR [oV 12 (.mv (.t 6)),
  oV 13 (.ints .add (.t 12) (.c (iv 1))),
  oV 6 (.mv (.t 13))] [12,13]
abbrev yCR:HCode:=oR [⟨none,.mvo 22 5⟩,
  ⟨none,.mvo 4 22⟩] [22]
abbrev yJz:HCode:=(.seq yCK (.seq yCL (.seq (.seq yCM (.block 0 (.loop (.seq (.seq yCN (.cond (.t 11) .skip (.exit 0))) (.seq (.block 1 (.seq yCO (.cond (.t 17) yCP .skip))) yCQ))))) (.seq yCR .ret))))
abbrev zS3:Env:={N:=23,Γ:=[],L:=23,nfix:=0}
abbrev ref_AllOf_R:List RSrc:=[.tmp 4]
theorem yCS:zBs Tryz.prog zIs yJz zS3 ref_AllOf_R:=by kernel_rfl
end Go.Hx
end
