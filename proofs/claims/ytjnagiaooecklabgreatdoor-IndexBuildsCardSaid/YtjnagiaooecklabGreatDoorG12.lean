/-
  Walks of functions of the program over an abstract layer, and the laws that they use: each contract says what the function computes, for every input that its conditions let by. No other condition.
-/
import Derived.Test.YtjnagiaooecklabGreatDoorProg
import Derived.Test.YtjnagiaooecklabGreatDoorG11
import Derived.Test.YtjnagiaooecklabGreatDoorG10
set_option linter.all false
section
/-
 The abstract code of functions of the program, printed by gen.py; each stands for the given one. No condition.
-/
namespace Go.Hx
open Go.Proofs
variable [Glob]
abbrev zEy:Nat:=32
abbrev zCt:Nat:=140
abbrev zFu:Nat:=141
abbrev zEz:Nat:=81
abbrev zBX:Nat:=21
abbrev zEd:Nat:=80
abbrev zEA:Nat:=73
abbrev zJK:Nat:=53
abbrev zAC:Nat:=3
abbrev zHE:Nat:=9
abbrev zUg:HCode:=oN [oV 6 (.mv (.c (bv false)))]
abbrev zUh:HCode:=oR [oV 7 (.mv (.t 0)),
  oV 8 (.mv (.t 1)),
  oV 9 (.ints .geq (.t 7) (.t 8)),
  oV 10 (.mv (.t 9)),
  oG 10 true 11 (.mv (.t 0)),
  oG 10 true 12 (.mv (.t 2)),
  oG 10 true 13 (.ints .leq (.t 11) (.t 12)),
  oV 14 (.pick (.t 10) (.t 13) (.c (bv false))),
  oV 6 (.mv (.t 14))] [7,8,9,10,11,12,13,14]
abbrev yBH:HCode:=(.seq zUg (.seq zUh .ret))
abbrev zNE:Env:={N:=15,Γ:=[],L:=15,nfix:=0}
abbrev ref_within_R:List RSrc:=[.tmp 6]
theorem zUi:zB1 Tryz.prog zEd yBH zNE ref_within_R:=by kernel_rfl
abbrev zUj:HCode:=oN [oV 2 (.mv (.c (bv false)))]
abbrev zUk:HCode:=oR [oV 5 (.mv (.t 0)),
  oV 6 (.len true (.t 5)),
  oC 7 zEd [(.t 6,.v),(.c (iv 1),.v),(.c (iv 12),.v)],
  oV 8 (.not (.t 7)),
  oV 9 (.mv (.t 8)),
  oG 9 false 10 (.mv (.t 0)),
  oG 9 false 11 (.idxS (.t 10) (.c (iv 0))),
  oG 9 false 12 (.ints .lss (.t 11) (.c (.one (.v (.int .u8 97))))),
  oV 13 (.pick (.t 9) (.c (bv true)) (.t 12)),
  oV 14 (.mv (.t 13)),
  oG 14 false 15 (.mv (.t 0)),
  oG 14 false 16 (.idxS (.t 15) (.c (iv 0))),
  oG 14 false 17 (.ints .gtr (.t 16) (.c (.one (.v (.int .u8 122))))),
  oV 18 (.pick (.t 14) (.c (bv true)) (.t 17))] [5,6,7,8,9,10,11,12,13,14,15,16,17]
abbrev zUl:HCode:=oN [oV 2 (.mv (.c (bv false)))]
abbrev zUm:HCode:=oN [oV 3 (.mv (.c (iv 0)))]
abbrev zUn:HCode:=oR [oV 19 (.mv (.t 3)),
  oV 20 (.mv (.t 0)),
  oV 21 (.len true (.t 20)),
  oV 22 (.ints .lss (.t 19) (.t 21))] [19,20,21]
abbrev zUo:HCode:=oR [oV 25 (.mv (.t 0)),
  oV 26 (.mv (.t 3)),
  oV 27 (.idxS (.t 25) (.t 26)),
  oV 4 (.mv (.t 27))] [25,26,27]
abbrev zUp:HCode:=oR [oV 28 (.mv (.t 4)),
  oV 29 (.ints .geq (.t 28) (.c (.one (.v (.int .u8 97))))),
  oV 30 (.mv (.t 29)),
  oG 30 true 31 (.mv (.t 4)),
  oG 30 true 32 (.ints .leq (.t 31) (.c (.one (.v (.int .u8 122))))),
  oV 33 (.pick (.t 30) (.t 32) (.c (bv false))),
  oV 34 (.mv (.t 33)),
  oG 34 false 35 (.mv (.t 4)),
  oG 34 false 36 (.ints .geq (.t 35) (.c (.one (.v (.int .u8 48))))),
  oG 34 false 37 (.mv (.t 36)),
  oG 37 true 38 (.mv (.t 4)),
  oG 37 true 39 (.ints .leq (.t 38) (.c (.one (.v (.int .u8 57))))),
  oG 34 false 40 (.pick (.t 37) (.t 39) (.c (bv false))),
  oV 41 (.pick (.t 34) (.c (bv true)) (.t 40)),
  oV 42 (.mv (.t 41)),
  oG 42 false 43 (.mv (.t 4)),
  oG 42 false 44 (.ints .eql (.t 43) (.c (.one (.v (.int .u8 45))))),
  oV 45 (.pick (.t 42) (.c (bv true)) (.t 44)),
  oV 46 (.not (.t 45))] [28,29,30,31,32,33,34,35,36,37,38,39,40,41,42,43,44,45]
abbrev zUq:HCode:=oN [oV 2 (.mv (.c (bv false)))]
abbrev zUr:HCode:=oR [oV 23 (.mv (.t 3)),
  oV 24 (.ints .add (.t 23) (.c (iv 1))),
  oV 3 (.mv (.t 24))] [23,24]
abbrev zUs:HCode:=oN [oV 2 (.mv (.c (bv true)))]
abbrev yBI:HCode:=(.seq zUj (.seq (.seq zUk (.cond (.t 18) (.seq zUl .ret) .skip)) (.seq (.seq zUm (.block 0 (.loop (.seq (.seq zUn (.cond (.t 22) .skip (.exit 0))) (.seq (.block 1 (.seq zUo (.seq zUp (.cond (.t 46) (.seq zUq .ret) .skip)))) zUr))))) (.seq zUs .ret))))
abbrev zNF:Env:={N:=47,Γ:=[],L:=47,nfix:=0}
abbrev ref_IsName_R:List RSrc:=[.tmp 2]
theorem zUt:zB1 Tryz.prog zCt yBI zNF ref_IsName_R:=by kernel_rfl
abbrev zRl:HCode:=oN [oV 2 (.mv (.c (bv false)))]
abbrev zRm:HCode:=oR [oV 4 (.mv (.t 0)),
  oV 5 (.len true (.t 4)),
  oV 6 (.ints .gtr (.t 5) (.c (iv 16)))] [4,5]
abbrev zRn:HCode:=oN [oV 2 (.mv (.c (bv false)))]
abbrev zRo:HCode:=oN [oV 3 (.mv (.c (iv 0)))]
abbrev zRp:HCode:=oR [oV 7 (.mv (.t 3)),
  oV 8 (.mv (.t 0)),
  oV 9 (.len true (.t 8)),
  oV 10 (.ints .lss (.t 7) (.t 9))] [7,8,9]
abbrev zRq:HCode:=oR [oV 13 (.mv (.t 0)),
  oV 14 (.mv (.t 3)),
  oV 15 (.idxS (.t 13) (.t 14)),
  oV 16 (.ints .lss (.t 15) (.c (.one (.v (.int .u8 32))))),
  oV 17 (.mv (.t 16)),
  oG 17 false 18 (.mv (.t 0)),
  oG 17 false 19 (.mv (.t 3)),
  oG 17 false 20 (.idxS (.t 18) (.t 19)),
  oG 17 false 21 (.ints .gtr (.t 20) (.c (.one (.v (.int .u8 126))))),
  oV 22 (.pick (.t 17) (.c (bv true)) (.t 21)),
  oV 23 (.mv (.t 22)),
  oG 23 false 24 (.mv (.t 0)),
  oG 23 false 25 (.mv (.t 3)),
  oG 23 false 26 (.idxS (.t 24) (.t 25)),
  oG 23 false 27 (.ints .eql (.t 26) (.c (.one (.v (.int .u8 34))))),
  oV 28 (.pick (.t 23) (.c (bv true)) (.t 27))] [13,14,15,16,17,18,19,20,21,22,23,24,25,26,27]
abbrev zRr:HCode:=oN [oV 2 (.mv (.c (bv false)))]
abbrev zRs:HCode:=oR [oV 11 (.mv (.t 3)),
  oV 12 (.ints .add (.t 11) (.c (iv 1))),
  oV 3 (.mv (.t 12))] [11,12]
abbrev zRt:HCode:=oN [oV 2 (.mv (.c (bv true)))]
abbrev zY2:HCode:=(.seq zRl (.seq (.seq zRm (.cond (.t 6) (.seq zRn .ret) .skip)) (.seq (.seq zRo (.block 0 (.loop (.seq (.seq zRp (.cond (.t 10) .skip (.exit 0))) (.seq (.block 1 (.seq zRq (.cond (.t 28) (.seq zRr .ret) .skip))) zRs))))) (.seq zRt .ret))))
abbrev zK9:Env:={N:=29,Γ:=[],L:=29,nfix:=0}
abbrev ref_IsValue_R:List RSrc:=[.tmp 2]
theorem zRu:zB1 Tryz.prog zFu zY2 zK9 ref_IsValue_R:=by kernel_rfl
abbrev zPx:HCode:=oN [oV 1 (.boxF (.t 0)),
  oV 2 (.mv (.c (bv false)))]
abbrev zPy:HCode:=oR [oV 5 (.fldR (.t 1) 1 1),
  oV 6 (.ldR (.t 5) 1 false),
  oC 7 zCt [(.t 6,.v)],
  oV 8 (.not (.t 7)),
  oV 9 (.mv (.t 8)),
  oG 9 false 10 (.fldR (.t 1) 2 1),
  oG 9 false 11 (.ldR (.t 10) 1 false),
  oG 9 false 12 (.strs .neq (.t 11) (.c (sv []))),
  oG 9 false 13 (.mv (.t 12)),
  oG 13 true 14 (.fldR (.t 1) 2 1),
  oG 13 true 15 (.ldR (.t 14) 1 false),
  ⟨some (13,true),.call (some 16) zCt [(.t 15,.v)]⟩,
  oG 13 true 17 (.not (.t 16)),
  oG 9 false 18 (.pick (.t 13) (.t 17) (.c (bv false))),
  oV 19 (.pick (.t 9) (.c (bv true)) (.t 18)),
  oV 20 (.mv (.t 19)),
  oG 20 false 21 (.fldR (.t 1) 3 1),
  oG 20 false 22 (.ldR (.t 21) 1 false),
  oG 20 false 23 (.len false (.t 22)),
  oG 20 false 24 (.ints .gtr (.t 23) (.c (iv 6))),
  oV 25 (.pick (.t 20) (.c (bv true)) (.t 24)),
  oV 26 (.mv (.t 25)),
  oG 26 false 27 (.fldR (.t 1) 4 1),
  oG 26 false 28 (.ldR (.t 27) 1 false),
  oG 26 false 29 (.len false (.t 28)),
  oG 26 false 30 (.ints .gtr (.t 29) (.c (iv 4))),
  oV 31 (.pick (.t 26) (.c (bv true)) (.t 30))] [5,6,7,8,9,10,11,12,13,14,15,16,17,18,19,20,21,22,23,24,25,26,27,28,29,30]
abbrev zPz:HCode:=oN [oV 2 (.mv (.c (bv false)))]
abbrev zPA:HCode:=oN [oV 3 (.mv (.c (iv 0)))]
abbrev zPB:HCode:=oR [oV 32 (.mv (.t 3)),
  oV 33 (.fldR (.t 1) 3 1),
  oV 34 (.ldR (.t 33) 1 false),
  oV 35 (.len false (.t 34)),
  oV 36 (.ints .lss (.t 32) (.t 35))] [32,33,34,35]
abbrev zPC:HCode:=oQ [oD 0 false (oV 39 (.fldR (.t 1) 3 1)),
  oD 1 false (oV 40 (.ldR (.t 39) 1 false)),
  oD 2 false (oV 41 (.mv (.t 3))),
  oD 3 false (oV 42 (.idxA 1 (.t 40) (.t 41))),
  oD 4 false (oV 43 (.ldR (.t 42) 1 false)),
  oD 5 true (oC 44 zCt [(.t 43,.v)]),
  oD 6 false (oV 45 (.not (.t 44))),
  oD 7 false (oV 46 (.mv (.t 45))),
  oD 8 false (oG 46 false 47 (.mv (.t 3))),
  oD 9 false (oG 46 false 48 (.ints .gtr (.t 47) (.c (iv 0)))),
  oD 10 false (oG 46 false 49 (.mv (.t 48))),
  oD 11 false (oG 49 true 50 (.fldR (.t 1) 3 1)),
  oD 12 false (oG 49 true 51 (.ldR (.t 50) 1 false)),
  oD 13 false (oG 49 true 52 (.mv (.t 3))),
  oD 14 false (oG 49 true 53 (.ints .sub (.t 52) (.c (iv 1)))),
  oD 15 false (oG 49 true 54 (.idxA 1 (.t 51) (.t 53))),
  oD 16 false (oG 49 true 55 (.ldR (.t 54) 1 false)),
  oD 17 false (oG 49 true 56 (.fldR (.t 1) 3 1)),
  oD 18 false (oG 49 true 57 (.ldR (.t 56) 1 false)),
  oD 19 false (oG 49 true 58 (.mv (.t 3))),
  oD 20 false (oG 49 true 59 (.idxA 1 (.t 57) (.t 58))),
  oD 21 false (oG 49 true 60 (.ldR (.t 59) 1 false)),
  oD 22 false (oG 49 true 61 (.strs .geq (.t 55) (.t 60))),
  oD 23 false (oG 46 false 62 (.pick (.t 49) (.t 61) (.c (bv false)))),
  oD 24 false (oV 63 (.pick (.t 46) (.c (bv true)) (.t 62)))] [39,40,41,42,43,44,45,46,47,48,49,50,51,52,53,54,55,56,57,58,59,60,61,62]
abbrev zPD:HCode:=oN [oV 2 (.mv (.c (bv false)))]
abbrev zPE:HCode:=oR [oV 37 (.mv (.t 3)),
  oV 38 (.ints .add (.t 37) (.c (iv 1))),
  oV 3 (.mv (.t 38))] [37,38]
abbrev zPF:HCode:=oN [oV 4 (.mv (.c (iv 0)))]
abbrev zPG:HCode:=oR [oV 64 (.mv (.t 4)),
  oV 65 (.fldR (.t 1) 4 1),
  oV 66 (.ldR (.t 65) 1 false),
  oV 67 (.len false (.t 66)),
  oV 68 (.ints .lss (.t 64) (.t 67))] [64,65,66,67]
abbrev zN0:HCode:=oQ [oD 0 false (oV 71 (.fldR (.t 1) 4 1)),
  oD 1 false (oV 72 (.ldR (.t 71) 1 false)),
  oD 2 false (oV 73 (.mv (.t 4))),
  oD 3 false (oV 74 (.idxA 2 (.t 72) (.t 73))),
  oD 4 false (oV 75 (.fldR (.t 74) 0 1)),
  oD 5 false (oV 76 (.ldR (.t 75) 1 false)),
  oD 6 true (oC 77 zCt [(.t 76,.v)]),
  oD 7 false (oV 78 (.not (.t 77))),
  oD 8 false (oV 79 (.mv (.t 78))),
  oD 9 false (oG 79 false 80 (.fldR (.t 1) 4 1)),
  oD 10 false (oG 79 false 81 (.ldR (.t 80) 1 false)),
  oD 11 false (oG 79 false 82 (.mv (.t 4))),
  oD 12 false (oG 79 false 83 (.idxA 2 (.t 81) (.t 82))),
  oD 13 false (oG 79 false 84 (.fldR (.t 83) 1 1)),
  oD 14 false (oG 79 false 85 (.ldR (.t 84) 1 false)),
  oD 15 true ⟨some (79,false),.call (some 86) zFu [(.t 85,.v)]⟩,
  oD 16 false (oG 79 false 87 (.not (.t 86))),
  oD 17 false (oV 88 (.pick (.t 79) (.c (bv true)) (.t 87))),
  oD 18 false (oV 89 (.mv (.t 88))),
  oD 19 false (oG 89 false 90 (.mv (.t 4))),
  oD 20 false (oG 89 false 91 (.ints .gtr (.t 90) (.c (iv 0)))),
  oD 21 false (oG 89 false 92 (.mv (.t 91))),
  oD 22 false (oG 92 true 93 (.fldR (.t 1) 4 1)),
  oD 23 false (oG 92 true 94 (.ldR (.t 93) 1 false)),
  oD 24 false (oG 92 true 95 (.mv (.t 4))),
  oD 25 false (oG 92 true 96 (.ints .sub (.t 95) (.c (iv 1)))),
  oD 26 false (oG 92 true 97 (.idxA 2 (.t 94) (.t 96))),
  oD 27 false (oG 92 true 98 (.fldR (.t 97) 0 1)),
  oD 28 false (oG 92 true 99 (.ldR (.t 98) 1 false)),
  oD 29 false (oG 92 true 100 (.fldR (.t 1) 4 1)),
  oD 30 false (oG 92 true 101 (.ldR (.t 100) 1 false)),
  oD 31 false (oG 92 true 102 (.mv (.t 4))),
  oD 32 false (oG 92 true 103 (.idxA 2 (.t 101) (.t 102))),
  oD 33 false (oG 92 true 104 (.fldR (.t 103) 0 1)),
  oD 34 false (oG 92 true 105 (.ldR (.t 104) 1 false)),
  oD 35 false (oG 92 true 106 (.strs .geq (.t 99) (.t 105))),
  oD 36 false (oG 89 false 107 (.pick (.t 92) (.t 106) (.c (bv false)))),
  oD 37 false (oV 108 (.pick (.t 89) (.c (bv true)) (.t 107)))] [71,72,73,74,75,76,77,78,79,80,81,82,83,84,85,86,87,88,89,90,91,92,93,94,95,96,97,98,99,100,101,102,103,104,105,106,107]
abbrev zN1:HCode:=oN [oV 2 (.mv (.c (bv false)))]
abbrev zN2:HCode:=oR [oV 69 (.mv (.t 4)),
  oV 70 (.ints .add (.t 69) (.c (iv 1))),
  oV 4 (.mv (.t 70))] [69,70]
abbrev zN3:HCode:=oN [oV 2 (.mv (.c (bv true)))]
abbrev zWQ:HCode:=(.seq zPx (.seq (.seq zPy (.cond (.t 31) (.seq zPz .ret) .skip)) (.seq (.seq zPA (.block 0 (.loop (.seq (.seq zPB (.cond (.t 36) .skip (.exit 0))) (.seq (.block 1 (.seq zPC (.cond (.t 63) (.seq zPD .ret) .skip))) zPE))))) (.seq (.seq zPF (.block 2 (.loop (.seq (.seq zPG (.cond (.t 68) .skip (.exit 2))) (.seq (.block 3 (.seq zN0 (.cond (.t 108) (.seq zN1 .ret) .skip))) zN2))))) (.seq zN3 .ret)))))
abbrev zJu:Env:={N:=109,Γ:=[],L:=109,nfix:=0}
abbrev ref_NodeFine_R:List RSrc:=[.tmp 2]
theorem zPH:zB1 Tryz.prog zEz zWQ zJu ref_NodeFine_R:=by kernel_rfl
abbrev zPI:HCode:=oN [oV 1 (.boxF (.t 0)),
  oV 2 (.mv (.c (iv 0)))]
abbrev zPJ:HCode:=oR [oV 6 (.fldR (.t 1) 0 1),
  oV 7 (.ldR (.t 6) 1 false),
  oV 8 (.len false (.t 7)),
  oC 9 zEd [(.t 8,.v),(.c (iv 1),.v),(.c (iv 64),.v)],
  oV 10 (.not (.t 9))] [6,7,8,9]
abbrev zPK:HCode:=oN [oV 2 (.mv (.c (iv 2)))]
abbrev zPL:HCode:=oN [oV 3 (.mv (.c (iv 0)))]
abbrev zPM:HCode:=oR [oV 11 (.mv (.t 3)),
  oV 12 (.fldR (.t 1) 0 1),
  oV 13 (.ldR (.t 12) 1 false),
  oV 14 (.len false (.t 13)),
  oV 15 (.ints .lss (.t 11) (.t 14))] [11,12,13,14]
abbrev zPN:HCode:=oR [oV 18 (.fldR (.t 1) 0 1),
  oV 19 (.ldR (.t 18) 1 false),
  oV 20 (.mv (.t 3)),
  oV 21 (.idxA 5 (.t 19) (.t 20)),
  oV 22 (.ldR (.t 21) 5 true),
  oC 23 zEz [(.t 22,.v)],
  oV 24 (.not (.t 23)),
  oV 25 (.mv (.t 24)),
  oG 25 false 26 (.mv (.t 3)),
  oG 25 false 27 (.ints .eql (.t 26) (.c (iv 0))),
  oG 25 false 28 (.mv (.t 27)),
  oG 28 true 29 (.fldR (.t 1) 0 1),
  oG 28 true 30 (.ldR (.t 29) 1 false),
  oG 28 true 31 (.mv (.t 3)),
  oG 28 true 32 (.idxA 5 (.t 30) (.t 31)),
  oG 28 true 33 (.fldR (.t 32) 0 1),
  oG 28 true 34 (.ldR (.t 33) 1 false),
  oG 28 true 35 (.ints .neq (.t 34) (.c (iv (-1)))),
  oG 25 false 36 (.pick (.t 28) (.t 35) (.c (bv false))),
  oV 37 (.pick (.t 25) (.c (bv true)) (.t 36))] [18,19,20,21,22,23,24,25,26,27,28,29,30,31,32,33,34,35,36]
abbrev zPO:HCode:=oN [oV 2 (.mv (.c (iv 1)))]
abbrev zPP:HCode:=oR [oV 38 (.mv (.t 3)),
  oV 39 (.ints .eql (.t 38) (.c (iv 0))),
  oV 4 (.mv (.t 39))] [38,39]
abbrev zPQ:HCode:=oR [oV 40 (.mv (.t 3)),
  oV 41 (.ints .sub (.t 40) (.c (iv 1))),
  oV 5 (.mv (.t 41))] [40,41]
abbrev zPR:HCode:=oR [oV 42 (.mv (.t 5)),
  oV 43 (.ints .geq (.t 42) (.c (iv 0))),
  oV 44 (.mv (.t 43)),
  oG 44 true 45 (.mv (.t 4)),
  oG 44 true 46 (.not (.t 45)),
  oV 47 (.pick (.t 44) (.t 46) (.c (bv false)))] [42,43,44,45,46]
abbrev zN4:HCode:=oR [oV 54 (.mv (.t 5)),
  oV 55 (.fldR (.t 1) 0 1),
  oV 56 (.ldR (.t 55) 1 false),
  oV 57 (.mv (.t 3)),
  oV 58 (.idxA 5 (.t 56) (.t 57)),
  oV 59 (.fldR (.t 58) 0 1),
  oV 60 (.ldR (.t 59) 1 false),
  oV 61 (.ints .eql (.t 54) (.t 60)),
  oV 4 (.mv (.t 61))] [54,55,56,57,58,59,60,61]
abbrev zN5:HCode:=oR [oV 48 (.fldR (.t 1) 0 1),
  oV 49 (.ldR (.t 48) 1 false),
  oV 50 (.mv (.t 5)),
  oV 51 (.idxA 5 (.t 49) (.t 50)),
  oV 52 (.fldR (.t 51) 0 1),
  oV 53 (.ldR (.t 52) 1 false),
  oV 5 (.mv (.t 53))] [48,49,50,51,52,53]
abbrev zN6:HCode:=oR [oV 62 (.mv (.t 4)),
  oV 63 (.not (.t 62))] [62]
abbrev zN7:HCode:=oN [oV 2 (.mv (.c (iv 1)))]
abbrev zN8:HCode:=oR [oV 16 (.mv (.t 3)),
  oV 17 (.ints .add (.t 16) (.c (iv 1))),
  oV 3 (.mv (.t 17))] [16,17]
abbrev zN9:HCode:=oN [oV 2 (.mv (.c (iv 0)))]
abbrev zWR:HCode:=(.seq zPI (.seq (.seq zPJ (.cond (.t 10) (.seq zPK .ret) .skip)) (.seq (.seq zPL (.block 0 (.loop (.seq (.seq zPM (.cond (.t 15) .skip (.exit 0))) (.seq (.block 1 (.seq (.seq zPN (.cond (.t 37) (.seq zPO .ret) .skip)) (.seq zPP (.seq (.seq zPQ (.block 2 (.loop (.seq (.seq zPR (.cond (.t 47) .skip (.exit 2))) (.seq (.block 3 zN4) zN5))))) (.seq zN6 (.cond (.t 63) (.seq zN7 .ret) .skip)))))) zN8))))) (.seq zN9 .ret))))
abbrev zJv:Env:={N:=64,Γ:=[],L:=64,nfix:=0}
abbrev ref_CheckDoc_R:List RSrc:=[.tmp 2]
theorem zPS:zB1 Tryz.prog zEy zWR zJv ref_CheckDoc_R:=by kernel_rfl
abbrev zPT:HCode:=oN [oV 4 (.mv (.c (bv false)))]
abbrev zPU:HCode:=oR [oV 6 (.mv (.t 0)),
  oV 7 (.len false (.t 6)),
  oV 8 (.mv (.t 1)),
  oV 9 (.len false (.t 8)),
  oV 10 (.ints .neq (.t 7) (.t 9))] [6,7,8,9]
abbrev zPV:HCode:=oN [oV 4 (.mv (.c (bv false)))]
abbrev zPW:HCode:=oN [oV 5 (.mv (.c (iv 0)))]
abbrev zPX:HCode:=oR [oV 11 (.mv (.t 5)),
  oV 12 (.mv (.t 0)),
  oV 13 (.len false (.t 12)),
  oV 14 (.ints .lss (.t 11) (.t 13))] [11,12,13]
abbrev zPY:HCode:=oQ [oD 0 false (oV 17 (.mv (.t 0))),
  oD 1 false (oV 18 (.mv (.t 5))),
  oD 2 false (oV 19 (.idxA 1 (.t 17) (.t 18))),
  oD 3 false (oV 20 (.ldR (.t 19) 1 false)),
  oD 4 false (oV 21 (.mv (.t 1))),
  oD 5 false (oV 22 (.mv (.t 5))),
  oD 6 false (oV 23 (.idxA 1 (.t 21) (.t 22))),
  oD 7 false (oV 24 (.ldR (.t 23) 1 false)),
  oD 8 false (oV 25 (.ints .neq (.t 20) (.t 24)))] [17,18,19,20,21,22,23,24]
abbrev zPZ:HCode:=oN [oV 4 (.mv (.c (bv false)))]
abbrev zP0:HCode:=oR [oV 15 (.mv (.t 5)),
  oV 16 (.ints .add (.t 15) (.c (iv 1))),
  oV 5 (.mv (.t 16))] [15,16]
abbrev zP1:HCode:=oN [oV 4 (.mv (.c (bv true)))]
abbrev zWS:HCode:=(.seq zPT (.seq (.seq zPU (.cond (.t 10) (.seq zPV .ret) .skip)) (.seq (.seq zPW (.block 0 (.loop (.seq (.seq zPX (.cond (.t 14) .skip (.exit 0))) (.seq (.block 1 (.seq zPY (.cond (.t 25) (.seq zPZ .ret) .skip))) zP0))))) (.seq zP1 .ret))))
abbrev zJw:Env:={N:=26,Γ:=[],L:=26,nfix:=0}
abbrev ref_SameInts_R:List RSrc:=[.tmp 4]
theorem zP2:zB1 Tryz.prog zBX zWS zJw ref_SameInts_R:=by kernel_rfl
end Go.Hx
end

section
/-
 The abstract code of functions of the program, printed by gen.py; each stands for the given one. No condition.
-/
namespace Go.Hx
open Go.Proofs
variable [Glob]
abbrev zFa:Nat:=99
abbrev zJL:Nat:=138
abbrev zEe:Nat:=187
abbrev zEf:Nat:=189
abbrev zDi:Nat:=191
abbrev zCo:Nat:=185
abbrev zFb:Nat:=192
abbrev zCp:Nat:=188
abbrev zCT:Nat:=186
abbrev zFc:Nat:=61
abbrev zCD:Nat:=72
abbrev zCe:Nat:=71
abbrev zBz:Nat:=190
abbrev zA2:Nat:=228
abbrev zG4:HCode:=oN [⟨none,.nlo 2 zHE 1⟩]
abbrev zG5:HCode:=oR [oV 3 (.mv (.t 0)),
  ⟨none,.isn 4 false (.t 3)⟩] [3]
abbrev zG6:HCode:=oN [⟨none,.nlo 2 zHE 1⟩]
abbrev zG7:HCode:=oR [⟨none,.bsl 5 zHE 1 []⟩,
  oV 6 (.mv (.t 0)),
  ⟨none,.app 7 zHE 1 (.t 5) (.t 6)⟩,
  ⟨none,.mvo 2 7⟩] [5,6,7]
abbrev zJM:HCode:=(.seq zG4 (.seq (.seq zG5 (.cond (.t 4) (.seq zG6 .ret) .skip)) (.seq zG7 .ret)))
abbrev zDR:Env:={N:=8,Γ:=[],L:=8,nfix:=0}
abbrev slices_Clone_string_R:List RSrc:=[.tmp 2]
theorem zG8:zB1 Tryz.prog zCe zJM zDR slices_Clone_string_R:=by kernel_rfl
abbrev zIR:HCode:=oN [⟨none,.nlo 2 zEA 2⟩]
abbrev zIS:HCode:=oR [oV 3 (.mv (.t 0)),
  ⟨none,.isn 4 false (.t 3)⟩] [3]
abbrev zIT:HCode:=oN [⟨none,.nlo 2 zEA 2⟩]
abbrev zIU:HCode:=oR [⟨none,.bsl 5 zEA 2 []⟩,
  oV 6 (.mv (.t 0)),
  ⟨none,.app 7 zEA 2 (.t 5) (.t 6)⟩,
  ⟨none,.mvo 2 7⟩] [5,6,7]
abbrev zMH:HCode:=(.seq zIR (.seq (.seq zIS (.cond (.t 4) (.seq zIT .ret) .skip)) (.seq zIU .ret)))
abbrev zEB:Env:={N:=8,Γ:=[],L:=8,nfix:=0}
abbrev slices_Clone_Attr_R:List RSrc:=[.tmp 2]
theorem zIV:zB1 Tryz.prog zCD zMH zEB slices_Clone_Attr_R:=by kernel_rfl
abbrev zFY:HCode:=oN [oV 4 (.mv (.c (iv 0)))]
abbrev zFZ:HCode:=oR [oV 6 (.mv (.t 0)),
  oV 7 (.len false (.t 6)),
  oV 8 (.mv (.c (iv 0)))] [6]
abbrev zF0:HCode:=oN [oV 9 (.ints .lss (.t 8) (.t 7))]
abbrev zF1:HCode:=oR [oV 10 (.mv (.t 8)),
  oV 5 (.mv (.t 10))] [10]
abbrev zF2:HCode:=oR [oV 11 (.mv (.t 1)),
  oV 12 (.mv (.t 0)),
  oV 13 (.mv (.t 5)),
  oV 14 (.idxA 2 (.t 12) (.t 13)),
  oV 15 (.ldR (.t 14) 2 true),
  ⟨none,.callv (some 16) (.t 11) [(.t 15,.v)]⟩] [11,12,13,14,15]
abbrev zF3:HCode:=oR [oV 17 (.mv (.t 5)),
  oV 4 (.mv (.t 17))] [17]
abbrev zF4:HCode:=oR [oV 18 (.ints .add (.t 8) (.c (iv 1))),
  oV 8 (.mv (.t 18))] [18]
abbrev zF5:HCode:=oN [oV 4 (.mv (.c (iv (-1))))]
abbrev zHF:HCode:=(.seq zFY (.seq (.seq zFZ (.block 0 (.loop (.seq zF0 (.seq (.cond (.t 9) .skip (.exit 0)) (.seq (.block 1 (.seq zF1 (.seq zF2 (.cond (.t 16) (.seq zF3 .ret) .skip)))) zF4)))))) (.seq zF5 .ret)))
abbrev zB3:Env:={N:=19,Γ:=[],L:=19,nfix:=0}
abbrev slices_IndexFunc_Attr_R:List RSrc:=[.tmp 4]
theorem zC1:zB1 Tryz.prog zA2 zHF zB3 slices_IndexFunc_Attr_R:=by kernel_rfl
abbrev zEC:HCode:=oN [oV 4 (.mv (.c (bv false)))]
abbrev zED:HCode:=oR [oV 5 (.mv (.t 0)),
  oV 6 (.mv (.t 1)),
  oC 7 zA2 [(.t 5,.v),(.t 6,.v)],
  oV 8 (.ints .geq (.t 7) (.c (iv 0))),
  oV 4 (.mv (.t 8))] [5,6,7,8]
abbrev zF6:HCode:=(.seq zEC (.seq zED .ret))
abbrev zCy:Env:={N:=9,Γ:=[],L:=9,nfix:=0}
abbrev slices_ContainsFunc_Attr_R:List RSrc:=[.tmp 4]
theorem zEE:zB1 Tryz.prog zBz zF6 zCy slices_ContainsFunc_Attr_R:=by kernel_rfl
abbrev zJN:HCode:=oN [oV 4 (.mv (.c (bv false)))]
abbrev zJO:HCode:=oN [oV 5 (.mv (.c (sv [])))]
abbrev zJP:HCode:=oN [oV 8 (.mv (.t 0)),
  oV 9 (.len false (.t 8)),
  oV 10 (.mv (.c (iv 0)))]
abbrev zJQ:HCode:=oN [oV 11 (.ints .lss (.t 10) (.t 9))]
abbrev zJR:HCode:=oR [oV 12 (.idxA 1 (.t 8) (.t 10)),
  oV 13 (.ldR (.t 12) 1 false),
  oV 7 (.mv (.t 13))] [12,13]
abbrev zJS:HCode:=oR [oV 14 (.mv (.t 1)),
  oV 15 (.mv (.t 7)),
  ⟨none,.callv (some 16) (.t 14) [(.t 15,.v)]⟩,
  oC 17 zCo [(.t 16,.v)],
  oV 18 (.not (.t 17)),
  oV 19 (.mv (.t 18)),
  oG 19 false 20 (.mv (.t 1)),
  oG 19 false 21 (.mv (.t 7)),
  ⟨some (19,false),.callv (some 22) (.t 20) [(.t 21,.v)]⟩,
  oG 19 false 23 (.mv (.t 5)),
  oG 19 false 24 (.strs .leq (.t 22) (.t 23)),
  oV 25 (.pick (.t 19) (.c (bv true)) (.t 24))] [14,15,16,17,18,19,20,21,22,23,24]
abbrev zJT:HCode:=oN [oV 4 (.mv (.c (bv false)))]
abbrev zJU:HCode:=oR [oV 26 (.mv (.t 1)),
  oV 27 (.mv (.t 7)),
  ⟨none,.callv (some 28) (.t 26) [(.t 27,.v)]⟩,
  oV 5 (.mv (.t 28))] [26,27,28]
abbrev zJV:HCode:=oR [oV 29 (.ints .add (.t 10) (.c (iv 1))),
  oV 10 (.mv (.t 29))] [29]
abbrev zJW:HCode:=oN [oV 4 (.mv (.c (bv true)))]
abbrev zOa:HCode:=(.seq zJN (.seq zJO (.seq (.seq zJP (.block 0 (.loop (.seq zJQ (.seq (.cond (.t 11) .skip (.exit 0)) (.seq (.block 1 (.seq zJR (.seq (.seq zJS (.cond (.t 25) (.seq zJT .ret) .skip)) zJU))) zJV)))))) (.seq zJW .ret))))
abbrev zFd:Env:={N:=30,Γ:=[],L:=30,nfix:=0}
abbrev doc_rises_string_R:List RSrc:=[.tmp 4]
theorem zJX:zB1 Tryz.prog zCT zOa zFd doc_rises_string_R:=by kernel_rfl
abbrev zHG:HCode:=oN [oV 4 (.mv (.c (bv false)))]
abbrev zHH:HCode:=oN [oV 5 (.mv (.c (sv [])))]
abbrev zHI:HCode:=oN [oV 8 (.mv (.t 0)),
  oV 9 (.len false (.t 8)),
  oV 10 (.mv (.c (iv 0)))]
abbrev zHJ:HCode:=oN [oV 11 (.ints .lss (.t 10) (.t 9))]
abbrev zHK:HCode:=oR [oV 12 (.idxA 2 (.t 8) (.t 10)),
  oV 13 (.ldR (.t 12) 2 true),
  ⟨none,.alloc 7 0 30 [.v (mkS []),.v (mkS [])]⟩,
  ⟨none,.sto (.t 7) 0 30 0 2 (.t 13)⟩] [12,13]
abbrev zHL:HCode:=oR [oV 14 (.mv (.t 1)),
  oV 15 (.ldB (.t 7) 0 30 0 2 true),
  ⟨none,.callv (some 16) (.t 14) [(.t 15,.v)]⟩,
  oC 17 zCo [(.t 16,.v)],
  oV 18 (.not (.t 17)),
  oV 19 (.mv (.t 18)),
  oG 19 false 20 (.mv (.t 1)),
  oG 19 false 21 (.ldB (.t 7) 0 30 0 2 true),
  ⟨some (19,false),.callv (some 22) (.t 20) [(.t 21,.v)]⟩,
  oG 19 false 23 (.mv (.t 5)),
  oG 19 false 24 (.strs .leq (.t 22) (.t 23)),
  oV 25 (.pick (.t 19) (.c (bv true)) (.t 24))] [14,15,16,17,18,19,20,21,22,23,24]
abbrev zHM:HCode:=oN [oV 4 (.mv (.c (bv false)))]
abbrev zHN:HCode:=oR [oV 26 (.mv (.t 1)),
  oV 27 (.ldB (.t 7) 0 30 0 2 true),
  ⟨none,.callv (some 28) (.t 26) [(.t 27,.v)]⟩,
  oV 5 (.mv (.t 28))] [26,27,28]
abbrev zHO:HCode:=oR [oV 29 (.ints .add (.t 10) (.c (iv 1))),
  oV 10 (.mv (.t 29))] [29]
abbrev zHP:HCode:=oN [oV 4 (.mv (.c (bv true)))]
abbrev zLa:HCode:=(.seq zHG (.seq zHH (.seq (.seq zHI (.block 0 (.loop (.seq zHJ (.seq (.cond (.t 11) .skip (.exit 0)) (.seq (.block 1 (.seq zHK (.seq (.seq zHL (.cond (.t 25) (.seq zHM .ret) .skip)) zHN))) zHO)))))) (.seq zHP .ret))))
abbrev zD6:Env:={N:=30,Γ:=[(30,2)],L:=32,nfix:=0}
abbrev doc_rises_api_Attr_R:List RSrc:=[.tmp 4]
theorem zHQ:zB1 Tryz.prog zCp zLa zD6 doc_rises_api_Attr_R:=by kernel_rfl
abbrev zY3:HCode:=oN [oV 1 (.boxF (.t 0)),
  oV 2 (.mv (.c (bv false)))]
abbrev zY4:HCode:=oR [oV 3 (.fldR (.t 1) 1 1),
  oV 4 (.ldR (.t 3) 1 false),
  oC 5 zCo [(.t 4,.v)],
  oV 6 (.mv (.t 5)),
  oG 6 true 7 (.fldR (.t 1) 2 1),
  oG 6 true 8 (.ldR (.t 7) 1 false),
  oG 6 true 9 (.strs .eql (.t 8) (.c (sv []))),
  oG 6 true 10 (.mv (.t 9)),
  oG 10 false 11 (.fldR (.t 1) 2 1),
  oG 10 false 12 (.ldR (.t 11) 1 false),
  ⟨some (10,false),.call (some 13) zCo [(.t 12,.v)]⟩,
  oG 6 true 14 (.pick (.t 10) (.c (bv true)) (.t 13)),
  oV 15 (.pick (.t 6) (.t 14) (.c (bv false))),
  oV 16 (.mv (.t 15)),
  oG 16 true 17 (.fldR (.t 1) 3 1),
  oG 16 true 18 (.ldR (.t 17) 1 false),
  oG 16 true 19 (.len false (.t 18)),
  oG 16 true 20 (.ints .leq (.t 19) (.c (iv 6))),
  oV 21 (.pick (.t 16) (.t 20) (.c (bv false))),
  oV 22 (.mv (.t 21)),
  oG 22 true 23 (.fldR (.t 1) 4 1),
  oG 22 true 24 (.ldR (.t 23) 1 false),
  oG 22 true 25 (.len false (.t 24)),
  oG 22 true 26 (.ints .leq (.t 25) (.c (iv 4))),
  oV 27 (.pick (.t 22) (.t 26) (.c (bv false))),
  oV 28 (.mv (.t 27)),
  oG 28 true 29 (.fldR (.t 1) 3 1),
  oG 28 true 30 (.ldR (.t 29) 1 false),
  ⟨some (28,true),.call (some 31) zCT [(.t 30,.v),(.f zEe,.v)]⟩,
  oV 32 (.pick (.t 28) (.t 31) (.c (bv false))),
  oV 33 (.mv (.t 32)),
  oG 33 true 34 (.fldR (.t 1) 4 1),
  oG 33 true 35 (.ldR (.t 34) 1 false),
  ⟨some (33,true),.call (some 36) zCp [(.t 35,.v),(.f zEf,.v)]⟩,
  oV 37 (.pick (.t 33) (.t 36) (.c (bv false))),
  oV 38 (.mv (.t 37)),
  oG 38 true 39 (.fldR (.t 1) 4 1),
  oG 38 true 40 (.ldR (.t 39) 1 false),
  ⟨some (38,true),.call (some 41) zBz [(.t 40,.v),(.f zDi,.v)]⟩,
  oG 38 true 42 (.not (.t 41)),
  oV 43 (.pick (.t 38) (.t 42) (.c (bv false))),
  oV 2 (.mv (.t 43))] [3,4,5,6,7,8,9,10,11,12,13,14,15,16,17,18,19,20,21,22,23,24,25,26,27,28,29,30,31,32,33,34,35,36,37,38,39,40,41,42,43]
abbrev yE1:HCode:=(.seq zY3 (.seq zY4 .ret))
abbrev zS6:Env:={N:=44,Γ:=[],L:=44,nfix:=0}
abbrev doc_Fine_R:List RSrc:=[.tmp 2]
theorem zY5:zB1 Tryz.prog zJL yE1 zS6 doc_Fine_R:=by kernel_rfl
abbrev zUu:HCode:=oN [oV 2 (.mv (.c (sv [])))]
abbrev zUv:HCode:=oR [oV 3 (.mv (.t 0)),
  oV 2 (.mv (.t 3))] [3]
abbrev yBJ:HCode:=(.seq zUu (.seq zUv .ret))
abbrev zNG:Env:={N:=4,Γ:=[],L:=4,nfix:=0}
abbrev doc_Fine_1_R:List RSrc:=[.tmp 2]
theorem zUw:zB1 Tryz.prog zEe yBJ zNG doc_Fine_1_R:=by kernel_rfl
abbrev zUx:HCode:=oN [oV 1 (.boxF (.t 0)),
  oV 2 (.mv (.c (sv [])))]
abbrev zUy:HCode:=oR [oV 3 (.fldR (.t 1) 0 1),
  oV 4 (.ldR (.t 3) 1 false),
  oV 2 (.mv (.t 4))] [3,4]
abbrev yBK:HCode:=(.seq zUx (.seq zUy .ret))
abbrev zNH:Env:={N:=5,Γ:=[],L:=5,nfix:=0}
abbrev doc_Fine_2_R:List RSrc:=[.tmp 2]
theorem zUz:zB1 Tryz.prog zEf yBK zNH doc_Fine_2_R:=by kernel_rfl
abbrev zUA:HCode:=oN [oV 1 (.boxF (.t 0)),
  oV 2 (.mv (.c (bv false)))]
abbrev zUB:HCode:=oR [oV 3 (.fldR (.t 1) 1 1),
  oV 4 (.ldR (.t 3) 1 false),
  oC 5 zFb [(.t 4,.v)],
  oV 6 (.not (.t 5)),
  oV 2 (.mv (.t 6))] [3,4,5,6]
abbrev yBL:HCode:=(.seq zUA (.seq zUB .ret))
abbrev zNI:Env:={N:=7,Γ:=[],L:=7,nfix:=0}
abbrev doc_Fine_3_R:List RSrc:=[.tmp 2]
theorem zUC:zB1 Tryz.prog zDi yBL zNI doc_Fine_3_R:=by kernel_rfl
abbrev zWT:HCode:=oN [oV 1 (.boxF (.t 0)),
  oV 2 (.mv (.c (iv 0)))]
abbrev zWU:HCode:=oR [oV 6 (.fldR (.t 1) 0 1),
  oV 7 (.ldR (.t 6) 1 false),
  oV 8 (.len false (.t 7)),
  oV 9 (.ints .lss (.t 8) (.c (iv 1))),
  oV 10 (.mv (.t 9)),
  oG 10 false 11 (.fldR (.t 1) 0 1),
  oG 10 false 12 (.ldR (.t 11) 1 false),
  oG 10 false 13 (.len false (.t 12)),
  oG 10 false 14 (.ints .gtr (.t 13) (.c (iv 64))),
  oV 15 (.pick (.t 10) (.c (bv true)) (.t 14))] [6,7,8,9,10,11,12,13,14]
abbrev zWV:HCode:=oN [oV 2 (.mv (.c (iv 2)))]
abbrev zWW:HCode:=oN [⟨none,.nlk 3 zAC 1⟩]
abbrev zWX:HCode:=oR [oV 16 (.fldR (.t 1) 0 1),
  oV 17 (.ldR (.t 16) 1 false),
  oV 18 (.len false (.t 17)),
  oV 19 (.mv (.c (iv 0)))] [16]
abbrev zWY:HCode:=oN [oV 20 (.ints .lss (.t 19) (.t 18))]
abbrev zWZ:HCode:=.reg [oV 21 (.mv (.t 19)),
  oV 22 (.idxA 5 (.t 17) (.t 19)),
  oV 23 (.ldR (.t 22) 5 true),
  ⟨none,.alloc 5 0 69 [.v (.int .i64 0),.v (mkS []),.v (mkS []),.nl 1,.nl 2]⟩,
  oV 4 (.mv (.t 21)),
  ⟨none,.sto (.t 5) 0 69 0 5 (.t 23)⟩] false [.frz 0 69 5,.forget [21,22,23]]
abbrev zW0:HCode:=.rdr 3 [oV 24 (.mv (.t 3)),
  oV 25 (.len false (.t 24)),
  oV 26 (.ints .gtr (.t 25) (.c (iv 0))),
  oV 27 (.mv (.t 26)),
  oG 27 true 28 (.mv (.t 3)),
  oG 27 true 29 (.mv (.t 3)),
  oG 27 true 30 (.len false (.t 29)),
  oG 27 true 31 (.ints .sub (.t 30) (.c (iv 1))),
  oG 27 true 32 (.idxA 1 (.t 28) (.t 31)),
  oG 27 true 33 (.ldR (.t 32) 1 false),
  oG 27 true 34 (.fldR (.t 5) 0 1),
  oG 27 true 35 (.ldR (.t 34) 1 false),
  oG 27 true 36 (.ints .neq (.t 33) (.t 35)),
  oV 37 (.pick (.t 27) (.t 36) (.c (bv false)))] true [.forget [24,25,26,27,28,29,30,31,32,33,34,35,36]]
abbrev zW1:HCode:=oR [⟨none,.mvk 38 3⟩,
  oV 39 (.mv (.t 3)),
  oV 40 (.len false (.t 39)),
  oV 41 (.ints .sub (.t 40) (.c (iv 1))),
  ⟨none,.trk 42 38 (.t 41)⟩,
  ⟨none,.mvk 3 42⟩] [38,39,40,41,42]
abbrev zW2:HCode:=.rdr 3 [oV 43 (.ldR (.t 5) 5 true),
  oC 44 zJL [(.t 43,.v)],
  oV 45 (.not (.t 44)),
  oV 46 (.mv (.t 45)),
  oG 46 false 47 (.mv (.t 4)),
  oG 46 false 48 (.ints .eql (.t 47) (.c (iv 0))),
  oG 46 false 49 (.mv (.t 48)),
  oG 49 true 50 (.fldR (.t 5) 0 1),
  oG 49 true 51 (.ldR (.t 50) 1 false),
  oG 49 true 52 (.ints .neq (.t 51) (.c (iv (-1)))),
  oG 46 false 53 (.pick (.t 49) (.t 52) (.c (bv false))),
  oV 54 (.pick (.t 46) (.c (bv true)) (.t 53)),
  oV 55 (.mv (.t 54)),
  oG 55 false 56 (.mv (.t 4)),
  oG 55 false 57 (.ints .gtr (.t 56) (.c (iv 0))),
  oG 55 false 58 (.mv (.t 57)),
  oG 58 true 59 (.mv (.t 3)),
  oG 58 true 60 (.len false (.t 59)),
  oG 58 true 61 (.ints .eql (.t 60) (.c (iv 0))),
  oG 55 false 62 (.pick (.t 58) (.t 61) (.c (bv false))),
  oV 63 (.pick (.t 55) (.c (bv true)) (.t 62))] false [.forget [43,44,45,46,47,48,49,50,51,52,53,54,55,56,57,58,59,60,61,62]]
abbrev zUD:HCode:=oN [oV 2 (.mv (.c (iv 1)))]
abbrev zUE:HCode:=oR [⟨none,.mvk 64 3⟩,
  oV 65 (.mv (.t 4)),
  oV 66 (.bslF 1 [.t 65]),
  ⟨none,.apk 67 zAC 1 64 (.t 66)⟩,
  ⟨none,.mvk 3 67⟩] [64,65,66,67]
abbrev zUF:HCode:=oR [oV 68 (.ints .add (.t 19) (.c (iv 1))),
  oV 19 (.mv (.t 68))] [68]
abbrev zUG:HCode:=oN [oV 2 (.mv (.c (iv 0)))]
abbrev yDd:HCode:=(.seq zWT (.seq (.seq zWU (.cond (.t 15) (.seq zWV .ret) .skip)) (.seq zWW (.seq (.seq zWX (.block 0 (.loop (.seq zWY (.seq (.cond (.t 20) .skip (.exit 0)) (.seq (.block 1 (.seq zWZ (.seq (.block 2 (.loop (.seq (.seq zW0 (.cond (.t 37) .skip (.exit 2))) (.block 3 zW1)))) (.seq (.seq zW2 (.cond (.t 63) (.seq zUD .ret) .skip)) zUE)))) zUF)))))) (.seq zUG .ret)))))
abbrev zP3:Env:={N:=69,Γ:=[(69,5)],L:=74,nfix:=0}
abbrev doc_Check_R:List RSrc:=[.tmp 2]
theorem zW3:zB1 Tryz.prog zFa yDd zP3 doc_Check_R:=by kernel_rfl
abbrev zW4:HCode:=oN [⟨none,.alloc 0 0 13 [.nl 5]⟩]
abbrev zW5:HCode:=oR [oV 1 (.bld [.v (.int .i64 0),.v (mkS []),.v (mkS []),.nl 1,.nl 2] [(0,1,.c (iv (-1))),(1,1,.c (sv [108,105,115,116])),(2,1,.c (sv [116,111,112]))]),
  oV 2 (.bslF 1 [.c (sv [97])]),
  oV 3 (.bld [.v (.int .i64 0),.v (mkS []),.v (mkS []),.nl 1,.nl 2] [(0,1,.c (iv 0)),(1,1,.c (sv [105,116,101,109])),(3,1,.t 2)]),
  oV 4 (.bslF 1 [.c (sv [98])]),
  oV 5 (.bld [.v (.int .i64 0),.v (mkS []),.v (mkS []),.nl 1,.nl 2] [(0,1,.c (iv 0)),(1,1,.c (sv [105,116,101,109])),(3,1,.t 4)]),
  oV 6 (.bld [.v (mkS []),.v (mkS [])] [(0,1,.c (sv [116,111])),(1,1,.c (sv [111,110,101,32,116,119,111]))]),
  oV 7 (.bslF 2 [.t 6]),
  oV 8 (.bld [.v (.int .i64 0),.v (mkS []),.v (mkS []),.nl 1,.nl 2] [(0,1,.c (iv 2)),(1,1,.c (sv [108,105,110,107])),(4,1,.t 7)]),
  oV 9 (.bslF 1 [.c (sv [97])]),
  oV 10 (.bld [.v (.int .i64 0),.v (mkS []),.v (mkS []),.nl 1,.nl 2] [(0,1,.c (iv 0)),(1,1,.c (sv [105,116,101,109])),(3,1,.t 9)]),
  oV 11 (.bslF 5 [.t 1,.t 3,.t 5,.t 8,.t 10]),
  oV 12 (.bld [.nl 5] [(0,1,.t 11)]),
  ⟨none,.sto (.t 0) 0 13 0 1 (.t 12)⟩] [1,2,3,4,5,6,7,8,9,10,11,12]
abbrev yDe:HCode:=(.seq zW4 (.seq zW5 .ret))
abbrev zP4:Env:={N:=13,Γ:=[(13,1)],L:=14,nfix:=0}
abbrev law_small_R:List RSrc:=[.cellB 0 0 13 0 1 true]
theorem zW6:zB1 Tryz.prog zFc yDe zP4 law_small_R:=by kernel_rfl
end Go.Hx
end

section
/-
 The abstract code of functions of the program, printed by gen.py; each stands for the given one. No condition.
-/
namespace Go.Hx
open Go.Proofs
variable [Glob]
abbrev zCu:Nat:=239
abbrev zCb:Nat:=240
abbrev zBv:Nat:=238
abbrev zEF:Nat:=237
abbrev zY6:HCode:=oN [oV 2 (.mv (.c (bv false)))]
abbrev zY7:HCode:=oR [oV 3 (.mv (.t 0)),
  oV 4 (.len true (.t 3)),
  oV 5 (.ints .gtr (.t 4) (.c (iv 0))),
  oV 6 (.mv (.t 5)),
  oG 6 true 7 (.mv (.t 0)),
  oG 6 true 8 (.len true (.t 7)),
  oG 6 true 9 (.ints .leq (.t 8) (.c (iv 12))),
  oV 10 (.pick (.t 6) (.t 9) (.c (bv false))),
  oV 11 (.mv (.t 10)),
  oG 11 true 12 (.mv (.t 0)),
  oG 11 true 13 (.idxS (.t 12) (.c (iv 0))),
  oG 11 true 14 (.ints .geq (.t 13) (.c (.one (.v (.int .u8 97))))),
  oV 15 (.pick (.t 11) (.t 14) (.c (bv false))),
  oV 16 (.mv (.t 15)),
  oG 16 true 17 (.mv (.t 0)),
  oG 16 true 18 (.idxS (.t 17) (.c (iv 0))),
  oG 16 true 19 (.ints .leq (.t 18) (.c (.one (.v (.int .u8 122))))),
  oV 20 (.pick (.t 16) (.t 19) (.c (bv false))),
  oV 21 (.mv (.t 20)),
  oG 21 true 22 (.mv (.t 0)),
  ⟨some (21,true),.call (some 23) zEF [(.t 22,.v),(.c (sv [97,98,99,100,101,102,103,104,105,106,107,108,109,110,111,112,113,114,115,116,117,118,119,120,121,122,48,49,50,51,52,53,54,55,56,57,45]),.v)]⟩,
  oG 21 true 24 (.strs .eql (.t 23) (.c (sv []))),
  oV 25 (.pick (.t 21) (.t 24) (.c (bv false))),
  oV 26 (.mv (.t 25)),
  oG 26 true 27 (.mv (.t 0)),
  ⟨some (26,true),.call (some 28) zBv [(.t 27,.v),(.f zCu,.v)]⟩,
  oG 26 true 29 (.not (.t 28)),
  oV 30 (.pick (.t 26) (.t 29) (.c (bv false))),
  oV 2 (.mv (.t 30))] [3,4,5,6,7,8,9,10,11,12,13,14,15,16,17,18,19,20,21,22,23,24,25,26,27,28,29,30]
abbrev yE2:HCode:=(.seq zY6 (.seq zY7 .ret))
abbrev zS7:Env:={N:=31,Γ:=[],L:=31,nfix:=0}
abbrev doc_Name_R:List RSrc:=[.tmp 2]
theorem zY8:zB1 Tryz.prog zCo yE2 zS7 doc_Name_R:=by kernel_rfl
abbrev zUH:HCode:=oN [oV 2 (.mv (.c (bv false)))]
abbrev zUI:HCode:=oR [oV 3 (.mv (.t 0)),
  oV 4 (.ints .lss (.t 3) (.c (.one (.v (.int .i32 97))))),
  oV 5 (.mv (.t 4)),
  oG 5 false 6 (.mv (.t 0)),
  oG 5 false 7 (.ints .gtr (.t 6) (.c (.one (.v (.int .i32 122))))),
  oV 8 (.pick (.t 5) (.c (bv true)) (.t 7)),
  oV 9 (.mv (.t 8)),
  oG 9 true 10 (.mv (.t 0)),
  oG 9 true 11 (.ints .lss (.t 10) (.c (.one (.v (.int .i32 48))))),
  oG 9 true 12 (.mv (.t 11)),
  oG 12 false 13 (.mv (.t 0)),
  oG 12 false 14 (.ints .gtr (.t 13) (.c (.one (.v (.int .i32 57))))),
  oG 9 true 15 (.pick (.t 12) (.c (bv true)) (.t 14)),
  oV 16 (.pick (.t 9) (.t 15) (.c (bv false))),
  oV 17 (.mv (.t 16)),
  oG 17 true 18 (.mv (.t 0)),
  oG 17 true 19 (.ints .neq (.t 18) (.c (.one (.v (.int .i32 45))))),
  oV 20 (.pick (.t 17) (.t 19) (.c (bv false))),
  oV 2 (.mv (.t 20))] [3,4,5,6,7,8,9,10,11,12,13,14,15,16,17,18,19,20]
abbrev yBM:HCode:=(.seq zUH (.seq zUI .ret))
abbrev zNJ:Env:={N:=21,Γ:=[],L:=21,nfix:=0}
abbrev doc_Name_1_R:List RSrc:=[.tmp 2]
theorem zUJ:zB1 Tryz.prog zCu yBM zNJ doc_Name_1_R:=by kernel_rfl
abbrev zW7:HCode:=oN [oV 2 (.mv (.c (bv false)))]
abbrev zW8:HCode:=oR [oV 3 (.mv (.t 0)),
  oV 4 (.len true (.t 3)),
  oV 5 (.ints .leq (.t 4) (.c (iv 16))),
  oV 6 (.mv (.t 5)),
  oG 6 true 7 (.mv (.t 0)),
  ⟨some (6,true),.call (some 8) zBv [(.t 7,.v),(.f zCb,.v)]⟩,
  oG 6 true 9 (.not (.t 8)),
  oV 10 (.pick (.t 6) (.t 9) (.c (bv false))),
  oV 2 (.mv (.t 10))] [3,4,5,6,7,8,9,10]
abbrev yDf:HCode:=(.seq zW7 (.seq zW8 .ret))
abbrev zP5:Env:={N:=11,Γ:=[],L:=11,nfix:=0}
abbrev doc_Value_R:List RSrc:=[.tmp 2]
theorem zW9:zB1 Tryz.prog zFb yDf zP5 doc_Value_R:=by kernel_rfl
abbrev zRv:HCode:=oN [oV 2 (.mv (.c (bv false)))]
abbrev zRw:HCode:=oR [oV 3 (.mv (.t 0)),
  oV 4 (.ints .lss (.t 3) (.c (.one (.v (.int .i32 32))))),
  oV 5 (.mv (.t 4)),
  oG 5 false 6 (.mv (.t 0)),
  oG 5 false 7 (.ints .gtr (.t 6) (.c (.one (.v (.int .i32 126))))),
  oV 8 (.pick (.t 5) (.c (bv true)) (.t 7)),
  oV 9 (.mv (.t 8)),
  oG 9 false 10 (.mv (.t 0)),
  oG 9 false 11 (.ints .eql (.t 10) (.c (.one (.v (.int .i32 34))))),
  oV 12 (.pick (.t 9) (.c (bv true)) (.t 11)),
  oV 2 (.mv (.t 12))] [3,4,5,6,7,8,9,10,11,12]
abbrev zY9:HCode:=(.seq zRv (.seq zRw .ret))
abbrev zLb:Env:={N:=13,Γ:=[],L:=13,nfix:=0}
abbrev doc_Value_1_R:List RSrc:=[.tmp 2]
theorem zRx:zB1 Tryz.prog zCb zY9 zLb doc_Value_1_R:=by kernel_rfl
end Go.Hx
end

section
/-
 The abstract code of functions of the program, printed by gen.py; each stands for the given one. No condition.
-/
namespace Go.Hx
open Go.Proofs
variable [Glob]
abbrev zFe:Nat:=221
abbrev zFf:Nat:=171
abbrev zXa:HCode:=oN [oV 1 (.boxF (.t 0)),
  oV 2 (.mv (.c (iv 0)))]
abbrev zXb:HCode:=oR [oV 5 (.fldR (.t 1) 0 1),
  oV 6 (.ldR (.t 5) 1 false),
  oV 7 (.fldR (.t 1) 1 1),
  oV 8 (.ldR (.t 7) 1 false),
  oV 9 (.bld [.v (.int .i64 0),.v (.int .i64 0)] [(0,1,.t 6),(1,1,.t 8)]),
  oV 10 (.mv (.c (iv 0)))] [5,6,7,8]
abbrev zXc:HCode:=oN [oV 11 (.ints .lss (.t 10) (.c (iv 2)))]
abbrev zXd:HCode:=oR [oV 12 (.idxV 2 (.t 9) (.t 10)),
  oV 4 (.mv (.t 12))] [12]
abbrev zXe:HCode:=oR [oV 13 (.mv (.t 4)),
  oV 14 (.ints .lss (.t 13) (.c (iv (-1048576)))),
  oV 15 (.mv (.t 14)),
  oG 15 false 16 (.mv (.t 4)),
  oG 15 false 17 (.ints .gtr (.t 16) (.c (iv 1048576))),
  oV 18 (.pick (.t 15) (.c (bv true)) (.t 17))] [13,14,15,16,17]
abbrev zXf:HCode:=oN [oV 2 (.mv (.c (iv 3)))]
abbrev zXg:HCode:=oR [oV 19 (.ints .add (.t 10) (.c (iv 1))),
  oV 10 (.mv (.t 19))] [19]
abbrev zXh:HCode:=oN [oV 2 (.mv (.c (iv 0)))]
abbrev yDg:HCode:=(.seq zXa (.seq (.seq zXb (.block 0 (.loop (.seq zXc (.seq (.cond (.t 11) .skip (.exit 0)) (.seq (.block 1 (.seq zXd (.seq zXe (.cond (.t 18) (.seq zXf .ret) .skip)))) zXg)))))) (.seq zXh .ret)))
abbrev zP6:Env:={N:=20,Γ:=[],L:=20,nfix:=0}
abbrev nth_Check_R:List RSrc:=[.tmp 2]
theorem zXi:zB1 Tryz.prog zFe yDg zP6 nth_Check_R:=by kernel_rfl
abbrev zXj:HCode:=oN [oV 2 (.boxF (.t 0)),
  oV 4 (.mv (.c (bv false)))]
abbrev zXk:HCode:=oR [oV 6 (.ldR (.t 2) 2 true),
  oC 7 zFe [(.t 6,.v)],
  oV 8 (.ints .neq (.t 7) (.c (iv 0))),
  oV 9 (.mv (.t 8)),
  oG 9 false 10 (.mv (.t 1)),
  oG 9 false 11 (.ints .lss (.t 10) (.c (iv 1))),
  oV 12 (.pick (.t 9) (.c (bv true)) (.t 11)),
  oV 13 (.mv (.t 12)),
  oG 13 false 14 (.mv (.t 1)),
  oG 13 false 15 (.ints .gtr (.t 14) (.c (iv 1073741824))),
  oV 16 (.pick (.t 13) (.c (bv true)) (.t 15))] [6,7,8,9,10,11,12,13,14,15]
abbrev zXl:HCode:=oN [oV 4 (.mv (.c (bv false)))]
abbrev zXm:HCode:=oR [oV 17 (.mv (.t 1)),
  oV 18 (.fldR (.t 2) 1 1),
  oV 19 (.ldR (.t 18) 1 false),
  oV 20 (.ints .sub (.t 17) (.t 19)),
  oV 5 (.mv (.t 20))] [17,18,19,20]
abbrev zXn:HCode:=oR [oV 21 (.fldR (.t 2) 0 1),
  oV 22 (.ldR (.t 21) 1 false),
  oV 23 (.ints .eql (.t 22) (.c (iv 0)))] [21,22]
abbrev zXo:HCode:=oR [oV 24 (.mv (.t 5)),
  oV 25 (.ints .eql (.t 24) (.c (iv 0))),
  oV 4 (.mv (.t 25))] [24,25]
abbrev zXp:HCode:=oR [oV 26 (.mv (.t 5)),
  oV 27 (.fldR (.t 2) 0 1),
  oV 28 (.ldR (.t 27) 1 false),
  oV 29 (.ints .rem (.t 26) (.t 28)),
  oV 30 (.ints .eql (.t 29) (.c (iv 0))),
  oV 31 (.mv (.t 30)),
  oG 31 true 32 (.mv (.t 5)),
  oG 31 true 33 (.fldR (.t 2) 0 1),
  oG 31 true 34 (.ldR (.t 33) 1 false),
  oG 31 true 35 (.ints .quo (.t 32) (.t 34)),
  oG 31 true 36 (.ints .geq (.t 35) (.c (iv 0))),
  oV 37 (.pick (.t 31) (.t 36) (.c (bv false))),
  oV 4 (.mv (.t 37))] [26,27,28,29,30,31,32,33,34,35,36,37]
abbrev yDh:HCode:=(.seq zXj (.seq (.seq zXk (.cond (.t 16) (.seq zXl .ret) .skip)) (.seq zXm (.seq (.seq zXn (.cond (.t 23) (.seq zXo .ret) .skip)) (.seq zXp .ret)))))
abbrev zP7:Env:={N:=38,Γ:=[],L:=38,nfix:=0}
abbrev nth_Holds_R:List RSrc:=[.tmp 4]
theorem zXq:zB1 Tryz.prog zFf yDh zP7 nth_Holds_R:=by kernel_rfl
end Go.Hx
end

section
/-
 The abstract code of functions of the program, printed by gen.py; each stands for the given one. No condition.
-/
namespace Go.Hx
open Go.Proofs
variable [Glob]
end Go.Hx
end

section
/-
 The abstract code of functions of the program, printed by gen.py; each stands for the given one. No condition.
-/
namespace Go.Hx
open Go.Proofs
variable [Glob]
abbrev zEg:Nat:=54
abbrev zBw:Nat:=110
abbrev zAA:Nat:=163
abbrev zCv:Nat:=164
abbrev zMI:Nat:=220
abbrev zGN:Nat:=111
abbrev yBN:HCode:=oN [⟨none,.alloc 2 0 31 [.v (.bool false),.v (.bool false),.v (.bool false),.v (.bool false)]⟩,
  oV 3 (.mv (.c (bv false)))]
abbrev yBO:HCode:=oN [oV 4 (.mv (.t 0))]
abbrev yBP:HCode:=oR [oV 6 (.ints .eql (.t 4) (.c (iv 1))),
  oV 5 (.mv (.t 6))] [6]
abbrev yBQ:HCode:=oR [oV 7 (.ints .eql (.t 4) (.c (iv 2))),
  oV 5 (.mv (.t 7))] [7]
abbrev yBR:HCode:=oR [oV 8 (.ints .eql (.t 4) (.c (iv 3))),
  oV 5 (.mv (.t 8))] [8]
abbrev yBS:HCode:=oR [oV 9 (.bld [.v (.bool false),.v (.bool false),.v (.bool false),.v (.bool false)] [(0,1,.c (bv true))]),
  ⟨none,.sto (.t 2) 0 31 0 4 (.t 9)⟩,
  oV 3 (.mv (.c (bv true)))] [9]
abbrev yBT:HCode:=oR [oV 11 (.ints .eql (.t 4) (.c (iv 4))),
  oV 10 (.mv (.t 11))] [11]
abbrev yBU:HCode:=oR [oV 12 (.ints .eql (.t 4) (.c (iv 5))),
  oV 10 (.mv (.t 12))] [12]
abbrev yBV:HCode:=oR [oV 13 (.ints .eql (.t 4) (.c (iv 6))),
  oV 10 (.mv (.t 13))] [13]
abbrev yBW:HCode:=oR [oV 14 (.ints .eql (.t 4) (.c (iv 7))),
  oV 10 (.mv (.t 14))] [14]
abbrev zZa:HCode:=oR [oV 15 (.ints .eql (.t 4) (.c (iv 8))),
  oV 10 (.mv (.t 15))] [15]
abbrev zZb:HCode:=oR [oV 16 (.bld [.v (.bool false),.v (.bool false),.v (.bool false),.v (.bool false)] [(0,1,.c (bv true)),(1,1,.c (bv true))]),
  ⟨none,.sto (.t 2) 0 31 0 4 (.t 16)⟩,
  oV 3 (.mv (.c (bv true)))] [16]
abbrev zZc:HCode:=oR [oV 18 (.ints .eql (.t 4) (.c (iv 9))),
  oV 17 (.mv (.t 18))] [18]
abbrev zZd:HCode:=oR [oV 19 (.ints .eql (.t 4) (.c (iv 10))),
  oV 17 (.mv (.t 19))] [19]
abbrev zZe:HCode:=oR [oV 20 (.bld [.v (.bool false),.v (.bool false),.v (.bool false),.v (.bool false)] [(2,1,.c (bv true))]),
  ⟨none,.sto (.t 2) 0 31 0 4 (.t 20)⟩,
  oV 3 (.mv (.c (bv true)))] [20]
abbrev zZf:HCode:=oR [oV 22 (.ints .eql (.t 4) (.c (iv 11))),
  oV 21 (.mv (.t 22))] [22]
abbrev zZg:HCode:=oR [oV 23 (.ints .eql (.t 4) (.c (iv 12))),
  oV 21 (.mv (.t 23))] [23]
abbrev zZh:HCode:=oR [oV 24 (.bld [.v (.bool false),.v (.bool false),.v (.bool false),.v (.bool false)] []),
  ⟨none,.sto (.t 2) 0 31 0 4 (.t 24)⟩,
  oV 3 (.mv (.c (bv true)))] [24]
abbrev zZi:HCode:=oR [oV 26 (.ints .eql (.t 4) (.c (iv 13))),
  oV 25 (.mv (.t 26))] [26]
abbrev zZj:HCode:=oR [oV 27 (.ints .eql (.t 4) (.c (iv 14))),
  oV 25 (.mv (.t 27))] [27]
abbrev zZk:HCode:=oR [oV 28 (.ints .eql (.t 4) (.c (iv 15))),
  oV 25 (.mv (.t 28))] [28]
abbrev zZl:HCode:=oR [oV 29 (.bld [.v (.bool false),.v (.bool false),.v (.bool false),.v (.bool false)] [(3,1,.c (bv true))]),
  ⟨none,.sto (.t 2) 0 31 0 4 (.t 29)⟩,
  oV 3 (.mv (.c (bv true)))] [29]
abbrev zZm:HCode:=oR [oV 30 (.bld [.v (.bool false),.v (.bool false),.v (.bool false),.v (.bool false)] []),
  ⟨none,.sto (.t 2) 0 31 0 4 (.t 30)⟩,
  oV 3 (.mv (.c (bv false)))] [30]
abbrev yHl:HCode:=(.seq yBN (.seq (.seq yBO (.block 0 (.seq (.seq yBP (.cond (.t 5) .skip (.seq yBQ (.cond (.t 5) .skip yBR)))) (.cond (.t 5) (.seq yBS .ret) (.seq (.seq yBT (.cond (.t 10) .skip (.seq yBU (.cond (.t 10) .skip (.seq yBV (.cond (.t 10) .skip (.seq yBW (.cond (.t 10) .skip zZa)))))))) (.cond (.t 10) (.seq zZb .ret) (.seq (.seq zZc (.cond (.t 17) .skip zZd)) (.cond (.t 17) (.seq zZe .ret) (.seq (.seq zZf (.cond (.t 21) .skip zZg)) (.cond (.t 21) (.seq zZh .ret) (.seq (.seq zZi (.cond (.t 25) .skip (.seq zZj (.cond (.t 25) .skip zZk)))) (.cond (.t 25) (.seq zZl .ret) .skip)))))))))))) (.seq zZm .ret)))
abbrev zXr:Env:={N:=31,Γ:=[(31,4)],L:=35,nfix:=0}
abbrev path_of_R:List RSrc:=[.cellB 2 0 31 0 4 true,.tmp 3]
theorem yBX:zB1 Tryz.prog zMI yHl zXr path_of_R:=by kernel_rfl
abbrev zUK:HCode:=oN [⟨none,.alloc 0 0 2 [.v (.int .i64 0),.v (.int .i64 0),.v (.int .i64 0),.v (.int .i64 0)]⟩]
abbrev zUL:HCode:=oR [oV 1 (.bld [.v (.int .i64 0),.v (.int .i64 0),.v (.int .i64 0),.v (.int .i64 0)] [(0,1,.c (iv 2)),(1,1,.c (iv 4)),(2,1,.c (iv 1)),(3,1,.c (iv 3))]),
  ⟨none,.sto (.t 0) 0 2 0 4 (.t 1)⟩] [1]
abbrev yBY:HCode:=(.seq zUK (.seq zUL .ret))
abbrev zNK:Env:={N:=2,Γ:=[(2,4)],L:=6,nfix:=0}
abbrev path_order_R:List RSrc:=[.cellB 0 0 2 0 4 true]
theorem zUM:zB1 Tryz.prog zGN yBY zNK path_order_R:=by kernel_rfl
abbrev zMJ:HCode:=oN [oV 6 (.mv (.t 1))]
abbrev zMK:HCode:=oQ [oD 0 false (oV 7 (.mv (.t 0))),
  oD 1 false (oV 8 (.mv (.t 2))),
  oD 2 false (oV 9 (.nilck (.t 7))),
  oD 3 false (oV 10 (.fldP (.t 9) 0)),
  oD 4 false (oV 11 (.ixB 5 (.t 10) (.t 8))),
  oD 5 false (oV 12 (.ldD (.t 11) 0 17 5)),
  oD 6 false (oV 13 (.ints .add (.t 12) (.c (iv 1)))),
  oD 7 false (oV 14 (.nilck (.t 7))),
  oD 8 false (oV 15 (.fldP (.t 14) 0)),
  oD 9 false (oV 16 (.ixB 5 (.t 15) (.t 8))),
  oD 10 false ⟨none,.std (.t 16) 0 17 5 (.t 13)⟩] [7,8,9,10,11,12,13,14,15,16]
abbrev zRy:HCode:=(.seq zMJ (.cond (.t 6) zMK .skip))
abbrev zB7:Env:={N:=17,Γ:=[(17,5)],L:=22,nfix:=1}
abbrev path_look_note_R:List RSrc:=[]
theorem zCw:zB1 Tryz.prog zAA zRy zB7 path_look_note_R:=by kernel_rfl
abbrev zML:HCode:=oR [oV 12 (.mv (.t 2)),
  oV 13 (.ints .gtr (.t 12) (.c (iv 3))),
  oV 14 (.mv (.t 13)),
  oG 14 false 15 (.mv (.t 1)),
  oG 14 false 16 (.len false (.t 15)),
  oG 14 false 17 (.ints .lss (.t 16) (.c (iv 1))),
  oV 18 (.pick (.t 14) (.c (bv true)) (.t 17)),
  oV 19 (.mv (.t 18)),
  oG 19 false 20 (.mv (.t 1)),
  oG 19 false 21 (.len false (.t 20)),
  oG 19 false 22 (.ints .gtr (.t 21) (.c (iv 5))),
  oV 23 (.pick (.t 19) (.c (bv true)) (.t 22))] [12,13,14,15,16,17,18,19,20,21,22]
abbrev zMM:HCode:=oR [oV 24 (.mv (.t 0)),
  oC 25 zAA [(.t 24,.i 0 83 5),(.c (bv true),.v),(.c (iv 2),.v)]] [24,25]
abbrev zMN:HCode:=oN [oV 26 (.mv (.t 1)),
  oV 27 (.len false (.t 26)),
  oV 28 (.mv (.c (iv 0)))]
abbrev zMO:HCode:=oN [oV 29 (.ints .lss (.t 28) (.t 27))]
abbrev zMP:HCode:=.reg [oV 30 (.idxA 2 (.t 26) (.t 28)),
  oV 31 (.ldR (.t 30) 2 true),
  ⟨none,.alloc 7 1 88 [.nl 2,.nl 1]⟩,
  ⟨none,.sto (.t 7) 1 88 0 2 (.t 31)⟩] false [.frz 1 88 2,.forget [30,31]]
abbrev zMQ:HCode:=oR [oV 32 (.fldR (.t 7) 0 1),
  oV 33 (.ldR (.t 32) 1 false),
  oV 34 (.len false (.t 33)),
  oV 35 (.ints .lss (.t 34) (.c (iv 1))),
  oV 36 (.mv (.t 35)),
  oG 36 false 37 (.fldR (.t 7) 0 1),
  oG 36 false 38 (.ldR (.t 37) 1 false),
  oG 36 false 39 (.len false (.t 38)),
  oG 36 false 40 (.ints .gtr (.t 39) (.c (iv 5))),
  oV 41 (.pick (.t 36) (.c (bv true)) (.t 40)),
  oV 42 (.mv (.t 41)),
  oG 42 false 43 (.fldR (.t 7) 1 1),
  oG 42 false 44 (.ldR (.t 43) 1 false),
  oG 42 false 45 (.len false (.t 44)),
  oG 42 false 46 (.fldR (.t 7) 0 1),
  oG 42 false 47 (.ldR (.t 46) 1 false),
  oG 42 false 48 (.len false (.t 47)),
  oG 42 false 49 (.ints .sub (.t 48) (.c (iv 1))),
  oG 42 false 50 (.ints .neq (.t 45) (.t 49)),
  oV 51 (.pick (.t 42) (.c (bv true)) (.t 50))] [32,33,34,35,36,37,38,39,40,41,42,43,44,45,46,47,48,49,50]
abbrev zMR:HCode:=oR [oV 52 (.mv (.t 0)),
  oC 53 zAA [(.t 52,.i 0 83 5),(.c (bv true),.v),(.c (iv 2),.v)]] [52,53]
abbrev zMS:HCode:=oR [oV 54 (.fldR (.t 7) 1 1),
  oV 55 (.ldR (.t 54) 1 false),
  oV 56 (.len false (.t 55)),
  oV 57 (.mv (.c (iv 0)))] [54]
abbrev zMT:HCode:=oN [oV 58 (.ints .lss (.t 57) (.t 56))]
abbrev zMU:HCode:=oR [oV 59 (.idxA 1 (.t 55) (.t 57)),
  oV 60 (.ldR (.t 59) 1 false),
  oV 9 (.mv (.t 60))] [59,60]
abbrev zLc:HCode:=oR [oV 61 (.mv (.t 0)),
  oV 62 (.mv (.t 9)),
  oV 63 (.ints .lss (.t 62) (.c (iv 1))),
  oV 64 (.mv (.t 63)),
  oG 64 false 65 (.mv (.t 9)),
  oG 64 false 66 (.ints .gtr (.t 65) (.c (iv 4))),
  oV 67 (.pick (.t 64) (.c (bv true)) (.t 66)),
  oC 68 zAA [(.t 61,.i 0 83 5),(.t 67,.v),(.c (iv 4),.v)]] [61,62,63,64,65,66,67,68]
abbrev zLd:HCode:=oR [oV 69 (.ints .add (.t 57) (.c (iv 1))),
  oV 57 (.mv (.t 69))] [69]
abbrev zLe:HCode:=oR [oV 70 (.fldR (.t 7) 0 1),
  oV 71 (.ldR (.t 70) 1 false),
  oV 72 (.len false (.t 71)),
  oV 73 (.mv (.c (iv 0)))] [70]
abbrev zLf:HCode:=oN [oV 74 (.ints .lss (.t 73) (.t 72))]
abbrev zLg:HCode:=oR [oV 75 (.idxA 2 (.t 71) (.t 73)),
  oV 76 (.ldR (.t 75) 2 true),
  ⟨none,.alloc 11 2 90 [.v (mkS []),.nl 6]⟩,
  ⟨none,.sto (.t 11) 2 90 0 2 (.t 76)⟩] [75,76]
abbrev zLh:HCode:=oR [oV 77 (.mv (.t 0)),
  oV 78 (.ldB (.t 11) 2 90 0 2 true),
  oV 79 (.mv (.t 2)),
  oC 80 zCv [(.t 77,.i 0 83 5),(.t 78,.v),(.t 79,.v)]] [77,78,79,80]
abbrev zLi:HCode:=oR [oV 81 (.ints .add (.t 73) (.c (iv 1))),
  oV 73 (.mv (.t 81))] [81]
abbrev zLj:HCode:=oR [oV 82 (.ints .add (.t 28) (.c (iv 1))),
  oV 28 (.mv (.t 82))] [82]
abbrev zRz:HCode:=(.seq (.seq zML (.cond (.t 23) (.seq zMM .ret) .skip)) (.seq zMN (.block 0 (.loop (.seq zMO (.seq (.cond (.t 29) .skip (.exit 0)) (.seq (.block 1 (.seq zMP (.seq (.seq zMQ (.cond (.t 51) (.seq zMR .ret) .skip)) (.seq (.seq zMS (.block 2 (.loop (.seq zMT (.seq (.cond (.t 58) .skip (.exit 2)) (.seq (.block 3 (.seq zMU zLc)) zLd)))))) (.seq zLe (.block 4 (.loop (.seq zLf (.seq (.cond (.t 74) .skip (.exit 4)) (.seq (.block 5 (.seq zLg zLh)) zLi)))))))))) zLj)))))))
abbrev zGY:Env:={N:=83,Γ:=[(83,5),(88,2),(90,2)],L:=92,nfix:=1}
abbrev path_look_list_R:List RSrc:=[]
theorem zMV:zB1 Tryz.prog zBw zRz zGY path_look_list_R:=by kernel_rfl
abbrev zMW:HCode:=oN [oV 4 (.boxF (.t 1))]
abbrev zMX:HCode:=oR [oV 10 (.fldR (.t 4) 1 1),
  oV 11 (.ldR (.t 10) 1 false),
  oV 12 (.len false (.t 11)),
  oV 13 (.ints .gtr (.t 12) (.c (iv 6)))] [10,11,12]
abbrev zMY:HCode:=oR [oV 14 (.mv (.t 0)),
  oC 15 zAA [(.t 14,.i 0 121 5),(.c (bv true),.v),(.c (iv 2),.v)]] [14,15]
abbrev zMZ:HCode:=oR [oV 16 (.mv (.t 0)),
  oV 17 (.fldR (.t 4) 0 1),
  oV 18 (.ldR (.t 17) 1 false),
  oV 19 (.strs .neq (.t 18) (.c (sv []))),
  oV 20 (.mv (.t 19)),
  oG 20 true 21 (.fldR (.t 4) 0 1),
  oG 20 true 22 (.ldR (.t 21) 1 false),
  ⟨some (20,true),.call (some 23) zCo [(.t 22,.v)]⟩,
  oG 20 true 24 (.not (.t 23)),
  oV 25 (.pick (.t 20) (.t 24) (.c (bv false))),
  oC 26 zAA [(.t 16,.i 0 121 5),(.t 25,.v),(.c (iv 1),.v)]] [16,17,18,19,20,21,22,23,24,25,26]
abbrev zM0:HCode:=oR [oV 27 (.fldR (.t 4) 1 1),
  oV 28 (.ldR (.t 27) 1 false),
  oV 29 (.len false (.t 28)),
  oV 30 (.mv (.c (iv 0)))] [27]
abbrev zM1:HCode:=oN [oV 31 (.ints .lss (.t 30) (.t 29))]
abbrev zM2:HCode:=.reg [oV 32 (.idxA 6 (.t 28) (.t 30)),
  oV 33 (.ldR (.t 32) 6 true),
  ⟨none,.alloc 7 1 126 [.v (.int .i64 0),.v (mkS []),.v (mkS []),.v (.int .i64 0),.v (.int .i64 0),.nl 2]⟩,
  ⟨none,.sto (.t 7) 1 126 0 6 (.t 33)⟩] false [.frz 1 126 6,.forget [32,33]]
abbrev zM3:HCode:=.reg [oV 35 (.fldR (.t 7) 0 1),
  oV 36 (.ldR (.t 35) 1 false),
  oC 37 zMI [(.t 36,.v)],
  oV 34 (.mv (.t 37)),
  oV 38 (.ext 34 0),
  oV 39 (.ext 34 1),
  ⟨none,.alloc 8 2 132 [.v (.bool false),.v (.bool false),.v (.bool false),.v (.bool false)]⟩,
  ⟨none,.sto (.t 8) 2 132 0 4 (.t 38)⟩,
  oV 9 (.mv (.t 39))] false [.frz 2 132 4,.forget [34,35,36,37,38,39]]
abbrev zM4:HCode:=oR [oV 40 (.mv (.t 0)),
  oV 41 (.mv (.t 9)),
  oV 42 (.not (.t 41)),
  oC 43 zAA [(.t 40,.i 0 121 5),(.t 42,.v),(.c (iv 4),.v)]] [40,41,42,43]
abbrev zM5:HCode:=oR [oV 44 (.mv (.t 0)),
  oV 45 (.fldR (.t 8) 0 1),
  oV 46 (.ldR (.t 45) 1 false),
  oV 47 (.mv (.t 46)),
  oG 47 true 48 (.fldR (.t 7) 1 1),
  oG 47 true 49 (.ldR (.t 48) 1 false),
  ⟨some (47,true),.call (some 50) zCo [(.t 49,.v)]⟩,
  oG 47 true 51 (.not (.t 50)),
  oV 52 (.pick (.t 47) (.t 51) (.c (bv false))),
  oV 53 (.mv (.t 52)),
  oG 53 false 54 (.fldR (.t 8) 0 1),
  oG 53 false 55 (.ldR (.t 54) 1 false),
  oG 53 false 56 (.not (.t 55)),
  oG 53 false 57 (.mv (.t 56)),
  oG 57 true 58 (.fldR (.t 7) 1 1),
  oG 57 true 59 (.ldR (.t 58) 1 false),
  oG 57 true 60 (.strs .neq (.t 59) (.c (sv []))),
  oG 53 false 61 (.pick (.t 57) (.t 60) (.c (bv false))),
  oV 62 (.pick (.t 53) (.c (bv true)) (.t 61)),
  oC 63 zAA [(.t 44,.i 0 121 5),(.t 62,.v),(.c (iv 1),.v)]] [44,45,46,47,48,49,50,51,52,53,54,55,56,57,58,59,60,61,62,63]
abbrev zLk:HCode:=oR [oV 64 (.mv (.t 0)),
  oV 65 (.fldR (.t 8) 1 1),
  oV 66 (.ldR (.t 65) 1 false),
  oV 67 (.mv (.t 66)),
  oG 67 true 68 (.fldR (.t 7) 2 1),
  oG 67 true 69 (.ldR (.t 68) 1 false),
  ⟨some (67,true),.call (some 70) zFb [(.t 69,.v)]⟩,
  oG 67 true 71 (.not (.t 70)),
  oV 72 (.pick (.t 67) (.t 71) (.c (bv false))),
  oV 73 (.mv (.t 72)),
  oG 73 false 74 (.fldR (.t 8) 1 1),
  oG 73 false 75 (.ldR (.t 74) 1 false),
  oG 73 false 76 (.not (.t 75)),
  oG 73 false 77 (.mv (.t 76)),
  oG 77 true 78 (.fldR (.t 7) 2 1),
  oG 77 true 79 (.ldR (.t 78) 1 false),
  oG 77 true 80 (.strs .neq (.t 79) (.c (sv []))),
  oG 73 false 81 (.pick (.t 77) (.t 80) (.c (bv false))),
  oV 82 (.pick (.t 73) (.c (bv true)) (.t 81)),
  oC 83 zAA [(.t 64,.i 0 121 5),(.t 82,.v),(.c (iv 1),.v)]] [64,65,66,67,68,69,70,71,72,73,74,75,76,77,78,79,80,81,82,83]
abbrev zLl:HCode:=oR [oV 84 (.mv (.t 0)),
  oV 85 (.fldR (.t 8) 2 1),
  oV 86 (.ldR (.t 85) 1 false),
  oV 87 (.not (.t 86)),
  oV 88 (.mv (.t 87)),
  oG 88 true 89 (.fldR (.t 7) 3 2),
  oG 88 true 90 (.ldR (.t 89) 2 true),
  oG 88 true 91 (.bld [.v (.int .i64 0),.v (.int .i64 0)] []),
  oG 88 true 92 (.steq true [0,0] (.t 90) (.t 91)),
  oV 93 (.pick (.t 88) (.t 92) (.c (bv false))),
  oV 94 (.mv (.t 93)),
  oG 94 false 95 (.fldR (.t 8) 3 1),
  oG 94 false 96 (.ldR (.t 95) 1 false),
  oG 94 false 97 (.not (.t 96)),
  oG 94 false 98 (.mv (.t 97)),
  oG 98 true 99 (.fldR (.t 7) 5 1),
  oG 98 true 100 (.ldR (.t 99) 1 false),
  oG 98 true 101 (.len false (.t 100)),
  oG 98 true 102 (.ints .gtr (.t 101) (.c (iv 0))),
  oG 94 false 103 (.pick (.t 98) (.t 102) (.c (bv false))),
  oV 104 (.pick (.t 94) (.c (bv true)) (.t 103)),
  oC 105 zAA [(.t 84,.i 0 121 5),(.t 104,.v),(.c (iv 1),.v)]] [84,85,86,87,88,89,90,91,92,93,94,95,96,97,98,99,100,101,102,103,104,105]
abbrev zLm:HCode:=oR [oV 106 (.mv (.t 0)),
  oV 107 (.fldR (.t 7) 3 2),
  oV 108 (.ldR (.t 107) 2 true),
  oC 109 zFe [(.t 108,.v)],
  oV 110 (.ints .neq (.t 109) (.c (iv 0))),
  oC 111 zAA [(.t 106,.i 0 121 5),(.t 110,.v),(.c (iv 3),.v)]] [106,107,108,109,110,111]
abbrev zLn:HCode:=oR [oV 112 (.fldR (.t 8) 3 1),
  oV 113 (.ldR (.t 112) 1 false)] [112]
abbrev zLo:HCode:=oR [oV 114 (.mv (.t 0)),
  oV 115 (.fldR (.t 7) 5 1),
  oV 116 (.ldR (.t 115) 1 false),
  oV 117 (.mv (.t 2)),
  oV 118 (.ints .add (.t 117) (.c (iv 1))),
  oC 119 zBw [(.t 114,.i 0 121 5),(.t 116,.v),(.t 118,.v)]] [114,115,116,117,118,119]
abbrev zLp:HCode:=oR [oV 120 (.ints .add (.t 30) (.c (iv 1))),
  oV 30 (.mv (.t 120))] [120]
abbrev zRA:HCode:=(.seq zMW (.seq (.seq zMX (.cond (.t 13) (.seq zMY .ret) .skip)) (.seq zMZ (.seq zM0 (.block 0 (.loop (.seq zM1 (.seq (.cond (.t 31) .skip (.exit 0)) (.seq (.block 1 (.seq zM2 (.seq zM3 (.seq zM4 (.seq zM5 (.seq zLk (.seq zLl (.seq zLm (.seq zLn (.cond (.t 113) zLo .skip)))))))))) zLp)))))))))
abbrev zGZ:Env:={N:=121,Γ:=[(121,5),(126,6),(132,4)],L:=136,nfix:=1}
abbrev path_look_step_R:List RSrc:=[]
theorem zM6:zB1 Tryz.prog zCv zRA zGZ path_look_step_R:=by kernel_rfl
abbrev zUN:HCode:=oN [oV 2 (.mv (.c (iv 0)))]
abbrev zUO:HCode:=oR [oV 6 (.bld [.v (.int .i64 0),.v (.int .i64 0),.v (.int .i64 0),.v (.int .i64 0),.v (.int .i64 0)] []),
  ⟨none,.box 7 0 24 5 (.t 6)⟩,
  oV 3 (.mv (.t 7))] [6,7]
abbrev zUP:HCode:=oR [oV 8 (.mv (.t 3)),
  oV 9 (.mv (.t 0)),
  oC 10 zBw [(.t 8,.i 0 24 5),(.t 9,.v),(.c (iv 1),.v)]] [8,9,10]
abbrev zUQ:HCode:=oN [oC 11 zGN [],
  oV 12 (.mv (.c (iv 0)))]
abbrev zUR:HCode:=oN [oV 13 (.ints .lss (.t 12) (.c (iv 4)))]
abbrev zUS:HCode:=oR [oV 14 (.idxV 4 (.t 11) (.t 12)),
  oV 5 (.mv (.t 14))] [14]
abbrev zUT:HCode:=oR [oV 15 (.mv (.t 3)),
  oV 16 (.mv (.t 5)),
  oV 17 (.nilck (.t 15)),
  oV 18 (.fldP (.t 17) 0),
  oV 19 (.ixB 5 (.t 18) (.t 16)),
  oV 20 (.ldD (.t 19) 0 24 5),
  oV 21 (.ints .gtr (.t 20) (.c (iv 0)))] [15,16,17,18,19,20]
abbrev zUU:HCode:=oR [oV 22 (.mv (.t 5)),
  oV 2 (.mv (.t 22))] [22]
abbrev zUV:HCode:=oR [oV 23 (.ints .add (.t 12) (.c (iv 1))),
  oV 12 (.mv (.t 23))] [23]
abbrev zUW:HCode:=oN [oV 2 (.mv (.c (iv 0)))]
abbrev yBZ:HCode:=(.seq zUN (.seq zUO (.seq zUP (.seq (.seq zUQ (.block 0 (.loop (.seq zUR (.seq (.cond (.t 13) .skip (.exit 0)) (.seq (.block 1 (.seq zUS (.seq zUT (.cond (.t 21) (.seq zUU .ret) .skip)))) zUV)))))) (.seq zUW .ret)))))
abbrev zNL:Env:={N:=24,Γ:=[(24,5)],L:=29,nfix:=0}
abbrev path_Check_R:List RSrc:=[.tmp 2]
theorem zUX:zB1 Tryz.prog zEg yBZ zNL path_Check_R:=by kernel_rfl
end Go.Hx
end

section
/-
 The abstract code of functions of the program, printed by gen.py; each stands for the given one. No condition.
-/
namespace Go.Hx
open Go.Proofs
variable [Glob]
end Go.Hx
end

section
/-
 The abstract code of functions of the program, printed by gen.py; each stands for the given one. No condition.
-/
namespace Go.Hx
open Go.Proofs
variable [Glob]
abbrev zA8:Nat:=257
abbrev zA9:Nat:=258
abbrev zD2:Nat:=13
abbrev zJY:Nat:=57
abbrev zGO:Nat:=173
abbrev zFv:Nat:=59
abbrev zAK:Nat:=58
abbrev zBU:Nat:=115
abbrev zBb:Nat:=118
abbrev zBa:Nat:=116
abbrev zCU:Nat:=169
abbrev zBM:Nat:=224
abbrev zBN:Nat:=225
abbrev zDS:Nat:=226
abbrev zBn:Nat:=168
abbrev zBV:Nat:=223
abbrev zCV:Nat:=172
abbrev zBO:Nat:=229
abbrev zJZ:Nat:=117
abbrev zBA:Nat:=114
abbrev zBB:Nat:=222
abbrev zBi:Nat:=170
abbrev zBY:Nat:=167
abbrev zBZ:Nat:=256
abbrev zCf:Nat:=227
abbrev zCW:Nat:=232
abbrev zCE:Nat:=230
abbrev zCF:Nat:=231
abbrev zD3:Nat:=233
abbrev zB4:Nat:=217
abbrev zIW:HCode:=oN [oV 4 (.mv (.c (bv false)))]
abbrev zIX:HCode:=oR [oV 5 (.mv (.t 0)),
  oV 6 (.mv (.t 1)),
  oC 7 zA8 [(.t 5,.v),(.t 6,.v)],
  oV 4 (.mv (.t 7))] [5,6,7]
abbrev zM7:HCode:=(.seq zIW (.seq zIX .ret))
abbrev zEG:Env:={N:=8,Γ:=[],L:=8,nfix:=0}
abbrev strings_HasPrefix_R:List RSrc:=[.tmp 4]
theorem zIY:zB1 Tryz.prog zCE zM7 zEG strings_HasPrefix_R:=by kernel_rfl
abbrev zDj:HCode:=oN [oV 4 (.mv (.c (bv false)))]
abbrev zDk:HCode:=oR [oV 5 (.mv (.t 0)),
  oV 6 (.len true (.t 5)),
  oV 7 (.mv (.t 1)),
  oV 8 (.len true (.t 7)),
  oV 9 (.ints .geq (.t 6) (.t 8)),
  oV 10 (.mv (.t 9)),
  oG 10 true 11 (.mv (.t 0)),
  oG 10 true 12 (.mv (.t 1)),
  oG 10 true 13 (.len true (.t 12)),
  oG 10 true 14 (.sls (.t 11) none (some (.t 13))),
  oG 10 true 15 (.mv (.t 1)),
  oG 10 true 16 (.strs .eql (.t 14) (.t 15)),
  oV 17 (.pick (.t 10) (.t 16) (.c (bv false))),
  oV 4 (.mv (.t 17))] [5,6,7,8,9,10,11,12,13,14,15,16,17]
abbrev zDT:HCode:=(.seq zDj (.seq zDk .ret))
abbrev zBQ:Env:={N:=18,Γ:=[],L:=18,nfix:=0}
abbrev internal_stringslite_HasPrefix_R:List RSrc:=[.tmp 4]
theorem zDl:zB1 Tryz.prog zA8 zDT zBQ internal_stringslite_HasPrefix_R:=by kernel_rfl
abbrev zIZ:HCode:=oN [oV 4 (.mv (.c (bv false)))]
abbrev zI0:HCode:=oR [oV 5 (.mv (.t 0)),
  oV 6 (.mv (.t 1)),
  oC 7 zA9 [(.t 5,.v),(.t 6,.v)],
  oV 4 (.mv (.t 7))] [5,6,7]
abbrev zM8:HCode:=(.seq zIZ (.seq zI0 .ret))
abbrev zEH:Env:={N:=8,Γ:=[],L:=8,nfix:=0}
abbrev strings_HasSuffix_R:List RSrc:=[.tmp 4]
theorem zI1:zB1 Tryz.prog zCF zM8 zEH strings_HasSuffix_R:=by kernel_rfl
abbrev zDm:HCode:=oN [oV 4 (.mv (.c (bv false)))]
abbrev zDn:HCode:=oR [oV 5 (.mv (.t 0)),
  oV 6 (.len true (.t 5)),
  oV 7 (.mv (.t 1)),
  oV 8 (.len true (.t 7)),
  oV 9 (.ints .geq (.t 6) (.t 8)),
  oV 10 (.mv (.t 9)),
  oG 10 true 11 (.mv (.t 0)),
  oG 10 true 12 (.mv (.t 0)),
  oG 10 true 13 (.len true (.t 12)),
  oG 10 true 14 (.mv (.t 1)),
  oG 10 true 15 (.len true (.t 14)),
  oG 10 true 16 (.ints .sub (.t 13) (.t 15)),
  oG 10 true 17 (.sls (.t 11) (some (.t 16)) none),
  oG 10 true 18 (.mv (.t 1)),
  oG 10 true 19 (.strs .eql (.t 17) (.t 18)),
  oV 20 (.pick (.t 10) (.t 19) (.c (bv false))),
  oV 4 (.mv (.t 20))] [5,6,7,8,9,10,11,12,13,14,15,16,17,18,19,20]
abbrev zDU:HCode:=(.seq zDm (.seq zDn .ret))
abbrev zBR:Env:={N:=21,Γ:=[],L:=21,nfix:=0}
abbrev internal_stringslite_HasSuffix_R:List RSrc:=[.tmp 4]
theorem zDo:zB1 Tryz.prog zA9 zDU zBR internal_stringslite_HasSuffix_R:=by kernel_rfl
abbrev zFw:HCode:=oN [oV 4 (.mv (.c (bv false)))]
abbrev zFx:HCode:=oR [oV 5 (.mv (.t 0)),
  oV 6 (.mv (.t 1)),
  oC 7 zCf [(.t 5,.v),(.t 6,.v)],
  oV 8 (.ints .geq (.t 7) (.c (iv 0))),
  oV 4 (.mv (.t 8))] [5,6,7,8]
abbrev zG9:HCode:=(.seq zFw (.seq zFx .ret))
abbrev zC2:Env:={N:=9,Γ:=[],L:=9,nfix:=0}
abbrev slices_Contains_string_R:List RSrc:=[.tmp 4]
theorem zFy:zB1 Tryz.prog zBi zG9 zC2 slices_Contains_string_R:=by kernel_rfl
abbrev zHa:HCode:=oN [oV 4 (.mv (.c (iv 0)))]
abbrev zHb:HCode:=oR [oV 6 (.mv (.t 0)),
  oV 7 (.len false (.t 6)),
  oV 8 (.mv (.c (iv 0)))] [6]
abbrev zHc:HCode:=oN [oV 9 (.ints .lss (.t 8) (.t 7))]
abbrev zHd:HCode:=oR [oV 10 (.mv (.t 8)),
  oV 5 (.mv (.t 10))] [10]
abbrev zHe:HCode:=oR [oV 11 (.mv (.t 1)),
  oV 12 (.mv (.t 0)),
  oV 13 (.mv (.t 5)),
  oV 14 (.idxA 1 (.t 12) (.t 13)),
  oV 15 (.ldR (.t 14) 1 false),
  oV 16 (.strs .eql (.t 11) (.t 15))] [11,12,13,14,15]
abbrev zHf:HCode:=oR [oV 17 (.mv (.t 5)),
  oV 4 (.mv (.t 17))] [17]
abbrev zHg:HCode:=oR [oV 18 (.ints .add (.t 8) (.c (iv 1))),
  oV 8 (.mv (.t 18))] [18]
abbrev zHh:HCode:=oN [oV 4 (.mv (.c (iv (-1))))]
abbrev zJ0:HCode:=(.seq zHa (.seq (.seq zHb (.block 0 (.loop (.seq zHc (.seq (.cond (.t 9) .skip (.exit 0)) (.seq (.block 1 (.seq zHd (.seq zHe (.cond (.t 16) (.seq zHf .ret) .skip)))) zHg)))))) (.seq zHh .ret)))
abbrev zDV:Env:={N:=19,Γ:=[],L:=19,nfix:=0}
abbrev slices_Index_string_R:List RSrc:=[.tmp 4]
theorem zHi:zB1 Tryz.prog zCf zJ0 zDV slices_Index_string_R:=by kernel_rfl
abbrev zEI:HCode:=oN [oV 4 (.mv (.c (bv false)))]
abbrev zEJ:HCode:=oR [oV 5 (.mv (.t 0)),
  oV 6 (.mv (.t 1)),
  oC 7 zBY [(.t 5,.v),(.t 6,.v)],
  oV 8 (.ints .geq (.t 7) (.c (iv 0))),
  oV 4 (.mv (.t 8))] [5,6,7,8]
abbrev zF7:HCode:=(.seq zEI (.seq zEJ .ret))
abbrev zCz:Env:={N:=9,Γ:=[],L:=9,nfix:=0}
abbrev slices_ContainsFunc_Path_R:List RSrc:=[.tmp 4]
theorem zEK:zB1 Tryz.prog zBA zF7 zCz slices_ContainsFunc_Path_R:=by kernel_rfl
abbrev zF8:HCode:=oN [oV 4 (.mv (.c (iv 0)))]
abbrev zF9:HCode:=oR [oV 6 (.mv (.t 0)),
  oV 7 (.len false (.t 6)),
  oV 8 (.mv (.c (iv 0)))] [6]
abbrev zGa:HCode:=oN [oV 9 (.ints .lss (.t 8) (.t 7))]
abbrev zGb:HCode:=oR [oV 10 (.mv (.t 8)),
  oV 5 (.mv (.t 10))] [10]
abbrev zGc:HCode:=oR [oV 11 (.mv (.t 1)),
  oV 12 (.mv (.t 0)),
  oV 13 (.mv (.t 5)),
  oV 14 (.idxA 2 (.t 12) (.t 13)),
  oV 15 (.ldR (.t 14) 2 true),
  ⟨none,.callv (some 16) (.t 11) [(.t 15,.v)]⟩] [11,12,13,14,15]
abbrev zGd:HCode:=oR [oV 17 (.mv (.t 5)),
  oV 4 (.mv (.t 17))] [17]
abbrev zGe:HCode:=oR [oV 18 (.ints .add (.t 8) (.c (iv 1))),
  oV 8 (.mv (.t 18))] [18]
abbrev zGf:HCode:=oN [oV 4 (.mv (.c (iv (-1))))]
abbrev zHR:HCode:=(.seq zF8 (.seq (.seq zF9 (.block 0 (.loop (.seq zGa (.seq (.cond (.t 9) .skip (.exit 0)) (.seq (.block 1 (.seq zGb (.seq zGc (.cond (.t 16) (.seq zGd .ret) .skip)))) zGe)))))) (.seq zGf .ret)))
abbrev zDp:Env:={N:=19,Γ:=[],L:=19,nfix:=0}
abbrev slices_IndexFunc_Path_R:List RSrc:=[.tmp 4]
theorem zGg:zB1 Tryz.prog zBY zHR zDp slices_IndexFunc_Path_R:=by kernel_rfl
abbrev zEL:HCode:=oN [oV 4 (.mv (.c (bv false)))]
abbrev zEM:HCode:=oR [oV 5 (.mv (.t 0)),
  oV 6 (.mv (.t 1)),
  oC 7 zBZ [(.t 5,.v),(.t 6,.v)],
  oV 8 (.ints .geq (.t 7) (.c (iv 0))),
  oV 4 (.mv (.t 8))] [5,6,7,8]
abbrev zGh:HCode:=(.seq zEL (.seq zEM .ret))
abbrev zCA:Env:={N:=9,Γ:=[],L:=9,nfix:=0}
abbrev slices_ContainsFunc_Test_R:List RSrc:=[.tmp 4]
theorem zEN:zB1 Tryz.prog zBB zGh zCA slices_ContainsFunc_Test_R:=by kernel_rfl
abbrev zGi:HCode:=oN [oV 4 (.mv (.c (iv 0)))]
abbrev zGj:HCode:=oR [oV 6 (.mv (.t 0)),
  oV 7 (.len false (.t 6)),
  oV 8 (.mv (.c (iv 0)))] [6]
abbrev zGk:HCode:=oN [oV 9 (.ints .lss (.t 8) (.t 7))]
abbrev zGl:HCode:=oR [oV 10 (.mv (.t 8)),
  oV 5 (.mv (.t 10))] [10]
abbrev zGm:HCode:=oR [oV 11 (.mv (.t 1)),
  oV 12 (.mv (.t 0)),
  oV 13 (.mv (.t 5)),
  oV 14 (.idxA 6 (.t 12) (.t 13)),
  oV 15 (.ldR (.t 14) 6 true),
  ⟨none,.callv (some 16) (.t 11) [(.t 15,.v)]⟩] [11,12,13,14,15]
abbrev zGn:HCode:=oR [oV 17 (.mv (.t 5)),
  oV 4 (.mv (.t 17))] [17]
abbrev zGo:HCode:=oR [oV 18 (.ints .add (.t 8) (.c (iv 1))),
  oV 8 (.mv (.t 18))] [18]
abbrev zGp:HCode:=oN [oV 4 (.mv (.c (iv (-1))))]
abbrev zHS:HCode:=(.seq zGi (.seq (.seq zGj (.block 0 (.loop (.seq zGk (.seq (.cond (.t 9) .skip (.exit 0)) (.seq (.block 1 (.seq zGl (.seq zGm (.cond (.t 16) (.seq zGn .ret) .skip)))) zGo)))))) (.seq zGp .ret)))
abbrev zDq:Env:={N:=19,Γ:=[],L:=19,nfix:=0}
abbrev slices_IndexFunc_Test_R:List RSrc:=[.tmp 4]
theorem zGq:zB1 Tryz.prog zBZ zHS zDq slices_IndexFunc_Test_R:=by kernel_rfl
abbrev zZn:HCode:=oN [oV 1 (.boxF (.t 0)),
  oV 2 (.mv (.c (.one (.v (.pointer none)))))]
abbrev zZo:HCode:=.drg [oD 0 false (oV 13 (.ldR (.t 1) 1 true)),
  oD 1 false (oV 14 (.fldR (.t 1) 0 1)),
  oD 2 false (oV 15 (.ldR (.t 14) 1 false)),
  oD 3 false (oV 16 (.len false (.t 15))),
  oD 4 false ⟨none,.vmk 17 zB4 5 [.v (.int .i64 0),.v (.int .i64 0),.v (.int .i64 0),.v (.int .i64 0),.v (.int .i64 0)] (.t 16)⟩,
  oD 5 false ⟨none,.vbe 18 [.nl 5,.nl 5] [(0,1,.t 13)] 1 1 (.t 17)⟩,
  oD 6 false ⟨none,.vby 19 0 162 2 18⟩,
  oD 7 false (oV 3 (.mv (.t 19)))] [.forget [13,14,15,16,17,18,19],.pin 163 0 162 []]
abbrev zZp:HCode:=oN [⟨none,.mmk 20⟩,
  oV 4 (.mv (.t 20))]
abbrev zZq:HCode:=oR [oV 21 (.fldR (.t 1) 0 1),
  oV 22 (.ldR (.t 21) 1 false),
  oV 23 (.len false (.t 22)),
  oV 24 (.mv (.c (iv 0)))] [21]
abbrev zZr:HCode:=oN [oV 25 (.ints .lss (.t 24) (.t 23))]
abbrev zZs:HCode:=oR [oV 26 (.mv (.t 24)),
  oV 27 (.idxA 5 (.t 22) (.t 24)),
  oV 28 (.ldR (.t 27) 5 true),
  ⟨none,.alloc 6 1 164 [.v (.int .i64 0),.v (mkS []),.v (mkS []),.nl 1,.nl 2]⟩,
  oV 5 (.mv (.t 26)),
  ⟨none,.sto (.t 6) 1 164 0 5 (.t 28)⟩] [26,27,28]
abbrev zZt:HCode:=oR [oV 29 (.mv (.t 3)),
  oV 30 (.nilck (.t 29)),
  oV 31 (.fldP (.t 30) 1),
  oV 32 (.ldh (.t 31) 0 162 1),
  oV 33 (.mv (.t 5)),
  oV 34 (.idxA 5 (.t 32) (.t 33)),
  oV 35 (.fldP (.t 34) 2),
  ⟨none,.vse (.t 35) 163 0 162 [] 1 (.c (iv (-1)))⟩] [29,30,31,32,33,34,35]
abbrev zZu:HCode:=oR [oV 37 (.mv (.t 4)),
  oV 38 (.fldP (.t 6) 0),
  oV 39 (.ldB (.t 38) 1 164 0 1 false),
  ⟨none,.mpl 40 (.t 37) 20 1 (.t 39) (.v (.int .i64 0)) true⟩,
  oV 36 (.mv (.t 40)),
  oV 41 (.ext 36 0),
  oV 42 (.ext 36 1),
  oV 7 (.mv (.t 41)),
  oV 8 (.mv (.t 42))] [36,37,38,39,40,41,42]
abbrev zZv:HCode:=oN [oV 43 (.mv (.t 8))]
abbrev zZw:HCode:=oR [oV 44 (.mv (.t 3)),
  oV 45 (.nilck (.t 44)),
  oV 46 (.fldP (.t 45) 1),
  oV 47 (.ldh (.t 46) 0 162 1),
  oV 48 (.mv (.t 5)),
  oV 49 (.mv (.t 7)),
  oV 50 (.idxA 5 (.t 47) (.t 48)),
  oV 51 (.fldP (.t 50) 2),
  ⟨none,.vse (.t 51) 163 0 162 [] 1 (.t 49)⟩] [44,45,46,47,48,49,50,51]
abbrev zXs:HCode:=oR [oV 52 (.mv (.t 4)),
  oV 53 (.fldP (.t 6) 0),
  oV 54 (.ldB (.t 53) 1 164 0 1 false),
  oV 55 (.mv (.t 5)),
  ⟨none,.mps (.t 52) 20 1 (.t 54) (.t 55)⟩] [52,53,54,55]
abbrev zXt:HCode:=oR [oV 56 (.mv (.t 3)),
  oV 57 (.nilck (.t 56)),
  oV 58 (.fldP (.t 57) 1),
  oV 59 (.ldh (.t 58) 0 162 1),
  oV 60 (.mv (.t 5)),
  oV 61 (.idxA 5 (.t 59) (.t 60)),
  oV 62 (.fldP (.t 61) 0),
  ⟨none,.vse (.t 62) 163 0 162 [] 1 (.c (iv 1))⟩] [56,57,58,59,60,61,62]
abbrev zXu:HCode:=oR [oV 63 (.mv (.t 3)),
  oV 64 (.nilck (.t 63)),
  oV 65 (.fldP (.t 64) 1),
  oV 66 (.ldh (.t 65) 0 162 1),
  oV 67 (.mv (.t 5)),
  oV 68 (.idxA 5 (.t 66) (.t 67)),
  oV 69 (.fldP (.t 68) 2),
  ⟨none,.vlp 70 (.t 69) 163 0 162 [] 1 false⟩,
  oV 9 (.mv (.t 70))] [63,64,65,66,67,68,69,70]
abbrev zXv:HCode:=oR [oV 71 (.mv (.t 9)),
  oV 72 (.ints .geq (.t 71) (.c (iv 0)))] [71]
abbrev zXw:HCode:=oQ [oD 0 false (oV 73 (.mv (.t 3))),
  oD 1 false (oV 74 (.nilck (.t 73))),
  oD 2 false (oV 75 (.fldP (.t 74) 1)),
  oD 3 false (oV 76 (.ldh (.t 75) 0 162 1)),
  oD 4 false (oV 77 (.mv (.t 5))),
  oD 5 false (oV 78 (.mv (.t 3))),
  oD 6 false (oV 79 (.nilck (.t 78))),
  oD 7 false (oV 80 (.fldP (.t 79) 1)),
  oD 8 false (oV 81 (.ldh (.t 80) 0 162 1)),
  oD 9 false (oV 82 (.mv (.t 9))),
  oD 10 false (oV 83 (.idxA 5 (.t 81) (.t 82))),
  oD 11 false (oV 84 (.fldP (.t 83) 0)),
  oD 12 false ⟨none,.vlp 85 (.t 84) 163 0 162 [] 1 false⟩,
  oD 13 false (oV 86 (.ints .add (.t 85) (.c (iv 1)))),
  oD 14 false (oV 87 (.idxA 5 (.t 76) (.t 77))),
  oD 15 false (oV 88 (.fldP (.t 87) 0)),
  oD 16 false ⟨none,.vse (.t 88) 163 0 162 [] 1 (.t 86)⟩] [73,74,75,76,77,78,79,80,81,82,83,84,85,86,87,88]
abbrev zXx:HCode:=oR [oV 89 (.fldP (.t 6) 0),
  oV 90 (.ldB (.t 89) 1 164 0 1 false),
  oV 91 (.ints .geq (.t 90) (.c (iv 0)))] [89,90]
abbrev zXy:HCode:=oQ [oD 0 false (oV 92 (.mv (.t 3))),
  oD 1 false (oV 93 (.nilck (.t 92))),
  oD 2 false (oV 94 (.fldP (.t 93) 1)),
  oD 3 false (oV 95 (.ldh (.t 94) 0 162 1)),
  oD 4 false (oV 96 (.fldP (.t 6) 0)),
  oD 5 false (oV 97 (.ldB (.t 96) 1 164 0 1 false)),
  oD 6 false (oV 98 (.idxA 5 (.t 95) (.t 97))),
  oD 7 false (oV 99 (.fldP (.t 98) 4)),
  oD 8 false ⟨none,.vlp 100 (.t 99) 163 0 162 [] 1 false⟩,
  oD 9 false (oV 101 (.ints .add (.t 100) (.c (iv 1)))),
  oD 10 false (oV 102 (.idxA 5 (.t 95) (.t 97))),
  oD 11 false (oV 103 (.fldP (.t 102) 4)),
  oD 12 false ⟨none,.vse (.t 103) 163 0 162 [] 1 (.t 101)⟩] [92,93,94,95,96,97,98,99,100,101,102,103]
abbrev zXz:HCode:=oR [oV 104 (.fldP (.t 6) 0),
  oV 105 (.ldB (.t 104) 1 164 0 1 false),
  oV 10 (.mv (.t 105))] [104,105]
abbrev zXA:HCode:=oR [oV 106 (.mv (.t 10)),
  oV 107 (.ints .geq (.t 106) (.c (iv 0)))] [106]
abbrev zXB:HCode:=oR [oV 114 (.mv (.t 3)),
  oV 115 (.nilck (.t 114)),
  oV 116 (.fldP (.t 115) 1),
  oV 117 (.ldh (.t 116) 0 162 1),
  oV 118 (.mv (.t 10)),
  oV 119 (.idxA 5 (.t 117) (.t 118)),
  oV 120 (.fldP (.t 119) 3),
  ⟨none,.vlp 121 (.t 120) 163 0 162 [] 1 false⟩,
  oV 122 (.ints .add (.t 121) (.c (iv 1))),
  oV 123 (.idxA 5 (.t 117) (.t 118)),
  oV 124 (.fldP (.t 123) 3),
  ⟨none,.vse (.t 124) 163 0 162 [] 1 (.t 122)⟩] [114,115,116,117,118,119,120,121,122,123,124]
abbrev zXC:HCode:=oR [oV 108 (.fldR (.t 1) 0 1),
  oV 109 (.ldR (.t 108) 1 false),
  oV 110 (.mv (.t 10)),
  oV 111 (.idxA 5 (.t 109) (.t 110)),
  oV 112 (.fldR (.t 111) 0 1),
  oV 113 (.ldR (.t 112) 1 false),
  oV 10 (.mv (.t 113))] [108,109,110,111,112,113]
abbrev zXD:HCode:=oR [oV 125 (.ints .add (.t 24) (.c (iv 1))),
  oV 24 (.mv (.t 125))] [125]
abbrev zXE:HCode:=oR [oV 126 (.fldR (.t 1) 0 1),
  oV 127 (.ldR (.t 126) 1 false),
  oV 128 (.len false (.t 127)),
  oV 129 (.mv (.c (iv 0)))] [126]
abbrev zXF:HCode:=oN [oV 130 (.ints .lss (.t 129) (.t 128))]
abbrev zXG:HCode:=oR [oV 131 (.mv (.t 129)),
  oV 132 (.idxA 5 (.t 127) (.t 129)),
  oV 133 (.ldR (.t 132) 5 true),
  ⟨none,.alloc 12 2 169 [.v (.int .i64 0),.v (mkS []),.v (mkS []),.nl 1,.nl 2]⟩,
  oV 11 (.mv (.t 131)),
  ⟨none,.sto (.t 12) 2 169 0 5 (.t 133)⟩] [131,132,133]
abbrev zXH:HCode:=oR [oV 134 (.mv (.t 3)),
  oV 135 (.nilck (.t 134)),
  oV 136 (.fldP (.t 135) 1),
  oV 137 (.ldh (.t 136) 0 162 1),
  oV 138 (.mv (.t 11)),
  oV 139 (.idxA 5 (.t 137) (.t 138)),
  oV 140 (.fldP (.t 139) 1),
  ⟨none,.vse (.t 140) 163 0 162 [] 1 (.c (iv 1))⟩] [134,135,136,137,138,139,140]
abbrev zXI:HCode:=oR [oV 141 (.fldP (.t 12) 0),
  oV 142 (.ldB (.t 141) 2 169 0 1 false),
  oV 143 (.ints .geq (.t 142) (.c (iv 0)))] [141,142]
abbrev zXJ:HCode:=oQ [oD 0 false (oV 144 (.mv (.t 3))),
  oD 1 false (oV 145 (.nilck (.t 144))),
  oD 2 false (oV 146 (.fldP (.t 145) 1)),
  oD 3 false (oV 147 (.ldh (.t 146) 0 162 1)),
  oD 4 false (oV 148 (.mv (.t 11))),
  oD 5 false (oV 149 (.mv (.t 3))),
  oD 6 false (oV 150 (.nilck (.t 149))),
  oD 7 false (oV 151 (.fldP (.t 150) 1)),
  oD 8 false (oV 152 (.ldh (.t 151) 0 162 1)),
  oD 9 false (oV 153 (.fldP (.t 12) 0)),
  oD 10 false (oV 154 (.ldB (.t 153) 2 169 0 1 false)),
  oD 11 false (oV 155 (.idxA 5 (.t 152) (.t 154))),
  oD 12 false (oV 156 (.fldP (.t 155) 4)),
  oD 13 false ⟨none,.vlp 157 (.t 156) 163 0 162 [] 1 false⟩,
  oD 14 false (oV 158 (.idxA 5 (.t 147) (.t 148))),
  oD 15 false (oV 159 (.fldP (.t 158) 1)),
  oD 16 false ⟨none,.vse (.t 159) 163 0 162 [] 1 (.t 157)⟩] [144,145,146,147,148,149,150,151,152,153,154,155,156,157,158,159]
abbrev zXK:HCode:=oR [oV 160 (.ints .add (.t 129) (.c (iv 1))),
  oV 129 (.mv (.t 160))] [160]
abbrev zXL:HCode:=.regG [.vfr 163 0 162,.frz 0 162 2] [oV 161 (.mv (.t 3)),
  oV 2 (.mv (.t 161))] [.forget [161]]
abbrev yE3:HCode:=(.seq zZn (.seq zZo (.seq zZp (.seq (.seq zZq (.block 0 (.loop (.seq zZr (.seq (.cond (.t 25) .skip (.exit 0)) (.seq (.block 1 (.seq zZs (.seq zZt (.seq (.seq zZu (.seq zZv (.cond (.t 43) zZw .skip))) (.seq zXs (.seq zXt (.seq (.seq zXu (.seq zXv (.cond (.t 72) zXw .skip))) (.seq (.seq zXx (.cond (.t 91) zXy .skip)) (.seq zXz (.block 2 (.loop (.seq (.seq zXA (.cond (.t 107) .skip (.exit 2))) (.seq (.block 3 zXB) zXC))))))))))))) zXD)))))) (.seq (.seq zXE (.block 4 (.loop (.seq zXF (.seq (.cond (.t 130) .skip (.exit 4)) (.seq (.block 5 (.seq zXG (.seq zXH (.seq zXI (.cond (.t 143) zXJ .skip))))) zXK)))))) (.seq zXL .ret))))))
abbrev zS8:Env:={N:=162,Γ:=[(162,2),(164,5),(169,5)],L:=174,nfix:=0,una:=[162]}
abbrev match_of_R:List RSrc:=[.tmp 2]
theorem zZx:zB1 Tryz.prog zJZ yE3 zS8 match_of_R:=by kernel_rfl
abbrev zJ1:HCode:=oN [oV 5 (.boxF (.t 2)),
  oV 6 (.mv (.c (sv []))),
  oV 7 (.mv (.c (bv false)))]
abbrev zJ2:HCode:=oR [oV 9 (.mv (.t 0)),
  oV 10 (.nilck (.t 9)),
  oV 11 (.fldR (.t 10) 0 1),
  oV 12 (.fldR (.t 11) 0 1),
  oV 13 (.ldR (.t 12) 1 false),
  oV 14 (.mv (.t 1)),
  oV 15 (.idxA 5 (.t 13) (.t 14)),
  oV 16 (.fldR (.t 15) 4 1),
  oV 17 (.ldR (.t 16) 1 false),
  oV 18 (.mkf zBO [.t 5]),
  oC 19 zA2 [(.t 17,.v),(.t 18,.v)],
  oV 8 (.mv (.t 19))] [9,10,11,12,13,14,15,16,17,18,19]
abbrev zJ3:HCode:=oR [oV 20 (.mv (.t 8)),
  oV 21 (.ints .lss (.t 20) (.c (iv 0)))] [20]
abbrev zJ4:HCode:=oN [oV 6 (.mv (.c (sv []))),
  oV 7 (.mv (.c (bv false)))]
abbrev zJ5:HCode:=oR [oV 22 (.mv (.t 0)),
  oV 23 (.nilck (.t 22)),
  oV 24 (.fldR (.t 23) 0 1),
  oV 25 (.fldR (.t 24) 0 1),
  oV 26 (.ldR (.t 25) 1 false),
  oV 27 (.mv (.t 1)),
  oV 28 (.idxA 5 (.t 26) (.t 27)),
  oV 29 (.fldR (.t 28) 4 1),
  oV 30 (.ldR (.t 29) 1 false),
  oV 31 (.mv (.t 8)),
  oV 32 (.idxA 2 (.t 30) (.t 31)),
  oV 33 (.fldR (.t 32) 1 1),
  oV 34 (.ldR (.t 33) 1 false),
  oV 6 (.mv (.t 34)),
  oV 7 (.mv (.c (bv true)))] [22,23,24,25,26,27,28,29,30,31,32,33,34]
abbrev zOb:HCode:=(.seq zJ1 (.seq zJ2 (.seq (.seq zJ3 (.cond (.t 21) (.seq zJ4 .ret) .skip)) (.seq zJ5 .ret))))
abbrev zFg:Env:={N:=35,Γ:=[],L:=35,nfix:=0}
abbrev match_look_value_R:List RSrc:=[.tmp 6,.tmp 7]
theorem zJ6:zB1 Tryz.prog zCV zOb zFg match_look_value_R:=by kernel_rfl
abbrev zHT:HCode:=oN [oV 2 (.boxF (.t 0)),
  oV 3 (.mv (.c (bv false)))]
abbrev zHU:HCode:=oR [oV 4 (.fldR (.t 2) 0 1),
  oV 5 (.ldR (.t 4) 1 false),
  oV 6 (.ldR (.t 1) 1 false),
  oV 7 (.strs .eql (.t 5) (.t 6)),
  oV 3 (.mv (.t 7))] [4,5,6,7]
abbrev zLq:HCode:=(.seq zHT (.seq zHU .ret))
abbrev zD7:Env:={N:=8,Γ:=[],L:=8,nfix:=0}
abbrev match_look_value_1_R:List RSrc:=[.tmp 3]
theorem zHV:zB1 Tryz.prog zBO zLq zD7 match_look_value_1_R:=by kernel_rfl
abbrev zUY:HCode:=oN [oV 2 (.boxF (.t 0)),
  oV 4 (.mv (.c (bv false)))]
abbrev zUZ:HCode:=oR [oV 6 (.fldR (.t 2) 2 1),
  oV 7 (.ldR (.t 6) 1 false),
  oV 5 (.mv (.t 7))] [6,7]
abbrev zU0:HCode:=oR [oV 8 (.fldR (.t 2) 0 1),
  oV 9 (.ldR (.t 8) 1 false)] [8]
abbrev zU1:HCode:=oR [oV 11 (.ints .eql (.t 9) (.c (iv 4))),
  oV 10 (.mv (.t 11))] [11]
abbrev zU2:HCode:=oR [oV 12 (.mv (.t 1)),
  oV 13 (.mv (.t 5)),
  oV 14 (.strs .eql (.t 12) (.t 13)),
  oV 4 (.mv (.t 14))] [12,13,14]
abbrev zU3:HCode:=oR [oV 16 (.ints .eql (.t 9) (.c (iv 5))),
  oV 15 (.mv (.t 16))] [16]
abbrev zU4:HCode:=oR [oV 17 (.mv (.t 5)),
  oV 18 (.strs .neq (.t 17) (.c (sv []))),
  oV 19 (.mv (.t 18)),
  oG 19 true 20 (.mv (.t 1)),
  oG 19 true 21 (.mv (.t 5)),
  ⟨some (19,true),.call (some 22) zCE [(.t 20,.v),(.t 21,.v)]⟩,
  oV 23 (.pick (.t 19) (.t 22) (.c (bv false))),
  oV 4 (.mv (.t 23))] [17,18,19,20,21,22,23]
abbrev zU5:HCode:=oR [oV 25 (.ints .eql (.t 9) (.c (iv 6))),
  oV 24 (.mv (.t 25))] [25]
abbrev zU6:HCode:=oR [oV 26 (.mv (.t 5)),
  oV 27 (.strs .neq (.t 26) (.c (sv []))),
  oV 28 (.mv (.t 27)),
  oG 28 true 29 (.mv (.t 1)),
  oG 28 true 30 (.mv (.t 5)),
  ⟨some (28,true),.call (some 31) zCF [(.t 29,.v),(.t 30,.v)]⟩,
  oV 32 (.pick (.t 28) (.t 31) (.c (bv false))),
  oV 4 (.mv (.t 32))] [26,27,28,29,30,31,32]
abbrev zU7:HCode:=oR [oV 34 (.ints .eql (.t 9) (.c (iv 7))),
  oV 33 (.mv (.t 34))] [34]
abbrev zRB:HCode:=oR [oV 35 (.mv (.t 5)),
  oV 36 (.strs .neq (.t 35) (.c (sv []))),
  oV 37 (.mv (.t 36)),
  oG 37 true 38 (.mv (.t 1)),
  oG 37 true 39 (.mv (.t 5)),
  ⟨some (37,true),.call (some 40) zCW [(.t 38,.v),(.t 39,.v)]⟩,
  oV 41 (.pick (.t 37) (.t 40) (.c (bv false))),
  oV 4 (.mv (.t 41))] [35,36,37,38,39,40,41]
abbrev zRC:HCode:=oR [oV 43 (.ints .eql (.t 9) (.c (iv 8))),
  oV 42 (.mv (.t 43))] [43]
abbrev zRD:HCode:=oR [oV 44 (.mv (.t 5)),
  oV 45 (.strs .neq (.t 44) (.c (sv []))),
  oV 46 (.mv (.t 45)),
  oG 46 true 47 (.mv (.t 1)),
  ⟨some (46,true),.call (some 48) zD3 [(.t 47,.v),(.c (sv [32]),.v)]⟩,
  oG 46 true 49 (.mv (.t 5)),
  ⟨some (46,true),.call (some 50) zBi [(.t 48,.v),(.t 49,.v)]⟩,
  oV 51 (.pick (.t 46) (.t 50) (.c (bv false))),
  oV 4 (.mv (.t 51))] [44,45,46,47,48,49,50,51]
abbrev zRE:HCode:=oN [oV 4 (.mv (.c (bv true)))]
abbrev yB0:HCode:=(.seq zUY (.seq zUZ (.seq (.seq zU0 (.block 0 (.seq zU1 (.cond (.t 10) (.seq zU2 .ret) (.seq zU3 (.cond (.t 15) (.seq zU4 .ret) (.seq zU5 (.cond (.t 24) (.seq zU6 .ret) (.seq zU7 (.cond (.t 33) (.seq zRB .ret) (.seq zRC (.cond (.t 42) (.seq zRD .ret) .skip)))))))))))) (.seq zRE .ret))))
abbrev zNM:Env:={N:=52,Γ:=[],L:=52,nfix:=0}
abbrev match_attr_R:List RSrc:=[.tmp 4]
theorem zU8:zB1 Tryz.prog zGO yB0 zNM match_attr_R:=by kernel_rfl
abbrev zI2:HCode:=oN [oV 4 (.boxF (.t 1)),
  oV 6 (.mv (.c (bv false)))]
abbrev zI3:HCode:=oR [oV 11 (.mv (.t 0)),
  oV 12 (.nilck (.t 11)),
  oV 13 (.fldR (.t 12) 0 1),
  oV 14 (.fldR (.t 13) 0 1),
  oV 15 (.ldR (.t 14) 1 false),
  oV 16 (.mv (.t 2)),
  oV 17 (.idxA 5 (.t 15) (.t 16)),
  oV 18 (.ldR (.t 17) 5 true),
  ⟨none,.alloc 7 0 138 [.v (.int .i64 0),.v (mkS []),.v (mkS []),.nl 1,.nl 2]⟩,
  ⟨none,.sto (.t 7) 0 138 0 5 (.t 18)⟩] [11,12,13,14,15,16,17,18]
abbrev zI4:HCode:=oR [oV 19 (.fldR (.t 4) 0 1),
  oV 20 (.ldR (.t 19) 1 false)] [19]
abbrev zI5:HCode:=oR [oV 22 (.ints .eql (.t 20) (.c (iv 1))),
  oV 21 (.mv (.t 22))] [22]
abbrev zI6:HCode:=oR [oV 23 (.fldP (.t 7) 3),
  oV 24 (.ldB (.t 23) 0 138 3 1 false),
  oV 25 (.fldR (.t 4) 1 1),
  oV 26 (.ldR (.t 25) 1 false),
  oC 27 zBi [(.t 24,.v),(.t 26,.v)],
  oV 6 (.mv (.t 27))] [23,24,25,26,27]
abbrev zI7:HCode:=oR [oV 29 (.ints .eql (.t 20) (.c (iv 2))),
  oV 28 (.mv (.t 29))] [29]
abbrev zI8:HCode:=oR [oV 30 (.fldP (.t 7) 2),
  oV 31 (.ldB (.t 30) 0 138 2 1 false),
  oV 32 (.fldR (.t 4) 1 1),
  oV 33 (.ldR (.t 32) 1 false),
  oV 34 (.strs .eql (.t 31) (.t 33)),
  oV 6 (.mv (.t 34))] [30,31,32,33,34]
abbrev zI9:HCode:=oR [oV 36 (.ints .eql (.t 20) (.c (iv 9))),
  oV 35 (.mv (.t 36))] [36]
abbrev zJa:HCode:=oQ [oD 0 false (oV 37 (.fldR (.t 4) 3 2)),
  oD 1 false (oV 38 (.ldR (.t 37) 2 true)),
  oD 2 false (oV 39 (.mv (.t 0))),
  oD 3 false (oV 40 (.nilck (.t 39))),
  oD 4 false (oV 41 (.fldR (.t 40) 1 1)),
  oD 5 false (oV 42 (.ldR (.t 41) 1 false)),
  oD 6 false (oV 43 (.mv (.t 2))),
  oD 7 false (oV 44 (.idxA 5 (.t 42) (.t 43))),
  oD 8 false (oV 45 (.fldR (.t 44) 0 1)),
  oD 9 false (oV 46 (.ldR (.t 45) 1 false)),
  oD 10 true (oC 47 zFf [(.t 38,.v),(.t 46,.v)]),
  oD 11 false (oV 6 (.mv (.t 47)))] [37,38,39,40,41,42,43,44,45,46,47]
abbrev zJb:HCode:=oR [oV 49 (.ints .eql (.t 20) (.c (iv 10))),
  oV 48 (.mv (.t 49))] [49]
abbrev zHW:HCode:=oQ [oD 0 false (oV 50 (.fldR (.t 4) 3 2)),
  oD 1 false (oV 51 (.ldR (.t 50) 2 true)),
  oD 2 false (oV 52 (.mv (.t 0))),
  oD 3 false (oV 53 (.nilck (.t 52))),
  oD 4 false (oV 54 (.fldR (.t 53) 1 1)),
  oD 5 false (oV 55 (.ldR (.t 54) 1 false)),
  oD 6 false (oV 56 (.mv (.t 2))),
  oD 7 false (oV 57 (.idxA 5 (.t 55) (.t 56))),
  oD 8 false (oV 58 (.fldR (.t 57) 1 1)),
  oD 9 false (oV 59 (.ldR (.t 58) 1 false)),
  oD 10 false (oV 60 (.mv (.t 0))),
  oD 11 false (oV 61 (.nilck (.t 60))),
  oD 12 false (oV 62 (.fldR (.t 61) 1 1)),
  oD 13 false (oV 63 (.ldR (.t 62) 1 false)),
  oD 14 false (oV 64 (.mv (.t 2))),
  oD 15 false (oV 65 (.idxA 5 (.t 63) (.t 64))),
  oD 16 false (oV 66 (.fldR (.t 65) 0 1)),
  oD 17 false (oV 67 (.ldR (.t 66) 1 false)),
  oD 18 false (oV 68 (.ints .sub (.t 59) (.t 67))),
  oD 19 false (oV 69 (.ints .add (.t 68) (.c (iv 1)))),
  oD 20 true (oC 70 zFf [(.t 51,.v),(.t 69,.v)]),
  oD 21 false (oV 6 (.mv (.t 70)))] [50,51,52,53,54,55,56,57,58,59,60,61,62,63,64,65,66,67,68,69,70]
abbrev zHX:HCode:=oR [oV 72 (.ints .eql (.t 20) (.c (iv 11))),
  oV 71 (.mv (.t 72))] [72]
abbrev zHY:HCode:=oR [oV 73 (.mv (.t 0)),
  oV 74 (.nilck (.t 73)),
  oV 75 (.fldR (.t 74) 1 1),
  oV 76 (.ldR (.t 75) 1 false),
  oV 77 (.mv (.t 2)),
  oV 78 (.idxA 5 (.t 76) (.t 77)),
  oV 79 (.fldR (.t 78) 4 1),
  oV 80 (.ldR (.t 79) 1 false),
  oV 81 (.ints .eql (.t 80) (.c (iv 0))),
  oV 6 (.mv (.t 81))] [73,74,75,76,77,78,79,80,81]
abbrev zHZ:HCode:=oR [oV 83 (.ints .eql (.t 20) (.c (iv 12))),
  oV 82 (.mv (.t 83))] [83]
abbrev zH0:HCode:=oR [oV 84 (.mv (.t 2)),
  oV 85 (.ints .eql (.t 84) (.c (iv 0))),
  oV 6 (.mv (.t 85))] [84,85]
abbrev zH1:HCode:=oR [oV 87 (.ints .eql (.t 20) (.c (iv 13))),
  oV 86 (.mv (.t 87))] [87]
abbrev zH2:HCode:=oR [oV 88 (.mv (.t 0)),
  oV 89 (.fldR (.t 4) 5 1),
  oV 90 (.ldR (.t 89) 1 false),
  oV 91 (.mv (.t 2)),
  oC 92 zAK [(.t 88,.v),(.t 90,.v),(.t 91,.v)],
  oV 93 (.not (.t 92)),
  oV 6 (.mv (.t 93))] [88,89,90,91,92,93]
abbrev zH3:HCode:=oR [oV 95 (.ints .eql (.t 20) (.c (iv 14))),
  oV 94 (.mv (.t 95))] [95]
abbrev zH4:HCode:=oR [oV 96 (.mv (.t 0)),
  oV 97 (.fldR (.t 4) 5 1),
  oV 98 (.ldR (.t 97) 1 false),
  oV 99 (.mv (.t 2)),
  oC 100 zAK [(.t 96,.v),(.t 98,.v),(.t 99,.v)],
  oV 6 (.mv (.t 100))] [96,97,98,99,100]
abbrev zH5:HCode:=oR [oV 102 (.ints .eql (.t 20) (.c (iv 15))),
  oV 101 (.mv (.t 102))] [102]
abbrev zH6:HCode:=oR [oV 103 (.mv (.t 2)),
  oV 104 (.ints .add (.t 103) (.c (iv 1))),
  oV 8 (.mv (.t 104))] [103,104]
abbrev zH7:HCode:=oR [oV 105 (.mv (.t 8)),
  oV 106 (.mv (.t 2)),
  oV 107 (.mv (.t 0)),
  oV 108 (.nilck (.t 107)),
  oV 109 (.fldR (.t 108) 1 1),
  oV 110 (.ldR (.t 109) 1 false),
  oV 111 (.mv (.t 2)),
  oV 112 (.idxA 5 (.t 110) (.t 111)),
  oV 113 (.fldR (.t 112) 3 1),
  oV 114 (.ldR (.t 113) 1 false),
  oV 115 (.ints .add (.t 106) (.t 114)),
  oV 116 (.ints .leq (.t 105) (.t 115))] [105,106,107,108,109,110,111,112,113,114,115]
abbrev zH8:HCode:=oR [oV 119 (.mv (.t 0)),
  oV 120 (.fldR (.t 4) 5 1),
  oV 121 (.ldR (.t 120) 1 false),
  oV 122 (.mv (.t 8)),
  oC 123 zAK [(.t 119,.v),(.t 121,.v),(.t 122,.v)]] [119,120,121,122]
abbrev zH9:HCode:=oN [oV 6 (.mv (.c (bv true)))]
abbrev zIa:HCode:=oR [oV 117 (.mv (.t 8)),
  oV 118 (.ints .add (.t 117) (.c (iv 1))),
  oV 8 (.mv (.t 118))] [117,118]
abbrev zIb:HCode:=oN [oV 6 (.mv (.c (bv false)))]
abbrev zIc:HCode:=oR [oV 125 (.mv (.t 0)),
  oV 126 (.mv (.t 2)),
  oV 127 (.fldR (.t 4) 1 1),
  oV 128 (.ldR (.t 127) 1 false),
  oC 129 zCV [(.t 125,.v),(.t 126,.v),(.t 128,.v)],
  oV 124 (.mv (.t 129)),
  oV 130 (.ext 124 0),
  oV 131 (.ext 124 1),
  oV 9 (.mv (.t 130)),
  oV 10 (.mv (.t 131))] [124,125,126,127,128,129,130,131]
abbrev zId:HCode:=oR [oV 132 (.mv (.t 10)),
  oV 133 (.mv (.t 132)),
  oG 133 true 134 (.ldR (.t 4) 6 true),
  oG 133 true 135 (.mv (.t 9)),
  ⟨some (133,true),.call (some 136) zGO [(.t 134,.v),(.t 135,.v)]⟩,
  oV 137 (.pick (.t 133) (.t 136) (.c (bv false))),
  oV 6 (.mv (.t 137))] [132,133,134,135,136,137]
abbrev zM9:HCode:=(.seq zI2 (.seq zI3 (.seq (.seq zI4 (.block 0 (.seq zI5 (.cond (.t 21) (.seq zI6 .ret) (.seq zI7 (.cond (.t 28) (.seq zI8 .ret) (.seq zI9 (.cond (.t 35) (.seq zJa .ret) (.seq zJb (.cond (.t 48) (.seq zHW .ret) (.seq zHX (.cond (.t 71) (.seq zHY .ret) (.seq zHZ (.cond (.t 82) (.seq zH0 .ret) (.seq zH1 (.cond (.t 86) (.seq zH2 .ret) (.seq zH3 (.cond (.t 94) (.seq zH4 .ret) (.seq zH5 (.cond (.t 101) (.seq (.seq zH6 (.block 1 (.loop (.seq (.seq zH7 (.cond (.t 116) .skip (.exit 1))) (.seq (.block 2 (.seq zH8 (.cond (.t 123) (.seq zH9 .ret) .skip))) zIa))))) (.seq zIb .ret)) .skip)))))))))))))))))))) (.seq zIc (.seq zId .ret)))))
abbrev zEO:Env:={N:=138,Γ:=[(138,5)],L:=143,nfix:=0}
abbrev match_look_passes_R:List RSrc:=[.tmp 6]
theorem zJc:zB1 Tryz.prog zBb zM9 zEO match_look_passes_R:=by kernel_rfl
abbrev zLr:HCode:=oN [oV 3 (.boxF (.t 0)),
  oV 4 (.boxF (.t 1)),
  oV 5 (.boxF (.t 2)),
  oV 6 (.mv (.c (bv false)))]
abbrev zLs:HCode:=oQ [oD 0 false (oV 7 (.fldR (.t 4) 0 1)),
  oD 1 false (oV 8 (.ldR (.t 7) 1 false)),
  oD 2 false (oV 9 (.strs .eql (.t 8) (.c (sv [])))),
  oD 3 false (oV 10 (.mv (.t 9))),
  oD 4 false (oG 10 false 11 (.fldR (.t 4) 0 1)),
  oD 5 false (oG 10 false 12 (.ldR (.t 11) 1 false)),
  oD 6 false (oG 10 false 13 (.ldR (.t 3) 1 false)),
  oD 7 false (oG 10 false 14 (.nilck (.t 13))),
  oD 8 false (oG 10 false 15 (.fldR (.t 14) 0 1)),
  oD 9 false (oG 10 false 16 (.fldR (.t 15) 0 1)),
  oD 10 false (oG 10 false 17 (.ldR (.t 16) 1 false)),
  oD 11 false (oG 10 false 18 (.ldR (.t 5) 1 false)),
  oD 12 false (oG 10 false 19 (.idxA 5 (.t 17) (.t 18))),
  oD 13 false (oG 10 false 20 (.fldR (.t 19) 1 1)),
  oD 14 false (oG 10 false 21 (.ldR (.t 20) 1 false)),
  oD 15 false (oG 10 false 22 (.strs .eql (.t 12) (.t 21))),
  oD 16 false (oV 23 (.pick (.t 10) (.c (bv true)) (.t 22))),
  oD 17 false (oV 24 (.mv (.t 23))),
  oD 18 false (oG 24 true 25 (.fldR (.t 4) 1 1)),
  oD 19 false (oG 24 true 26 (.ldR (.t 25) 1 false)),
  oD 20 false (oG 24 true 27 (.mkf zBV [.t 3,.t 5])),
  oD 21 true ⟨some (24,true),.call (some 28) zBB [(.t 26,.v),(.t 27,.v)]⟩,
  oD 22 false (oG 24 true 29 (.not (.t 28))),
  oD 23 false (oV 30 (.pick (.t 24) (.t 29) (.c (bv false)))),
  oD 24 false (oV 6 (.mv (.t 30)))] [7,8,9,10,11,12,13,14,15,16,17,18,19,20,21,22,23,24,25,26,27,28,29,30]
abbrev zP8:HCode:=(.seq zLr (.seq zLs .ret))
abbrev zGr:Env:={N:=31,Γ:=[],L:=31,nfix:=0}
abbrev match_look_step_R:List RSrc:=[.tmp 6]
theorem zLt:zB1 Tryz.prog zBn zP8 zGr match_look_step_R:=by kernel_rfl
abbrev zJd:HCode:=oN [oV 3 (.boxF (.t 0)),
  oV 4 (.mv (.c (bv false)))]
abbrev zJe:HCode:=oR [oV 5 (.ldR (.t 1) 1 false),
  oV 6 (.ldR (.t 3) 6 true),
  oV 7 (.ldR (.t 2) 1 false),
  oC 8 zBb [(.t 5,.v),(.t 6,.v),(.t 7,.v)],
  oV 9 (.not (.t 8)),
  oV 4 (.mv (.t 9))] [5,6,7,8,9]
abbrev zNa:HCode:=(.seq zJd (.seq zJe .ret))
abbrev zEP:Env:={N:=10,Γ:=[],L:=10,nfix:=0}
abbrev match_look_step_1_R:List RSrc:=[.tmp 4]
theorem zJf:zB1 Tryz.prog zBV zNa zEP match_look_step_1_R:=by kernel_rfl
abbrev zJ7:HCode:=oN [oV 3 (.boxF (.t 0)),
  oV 4 (.boxF (.t 1)),
  oV 5 (.boxF (.t 2)),
  oV 6 (.mv (.c (.one (.v .nilFunc))))]
abbrev zJ8:HCode:=oR [oV 8 (.mkf zBM [.t 3]),
  ⟨none,.alloc 7 0 17 [.v .nilFunc]⟩,
  ⟨none,.sto (.t 7) 0 17 0 1 (.t 8)⟩] [8]
abbrev zJ9:HCode:=oR [oV 9 (.ldR (.t 4) 1 false),
  oV 10 (.ints .eql (.t 9) (.c (iv 3))),
  oV 11 (.mv (.t 10)),
  oG 11 false 12 (.ldR (.t 4) 1 false),
  oG 11 false 13 (.ints .eql (.t 12) (.c (iv 4))),
  oV 14 (.pick (.t 11) (.c (bv true)) (.t 13))] [9,10,11,12,13]
abbrev zKa:HCode:=oR [oV 15 (.mkf zBN [.t 3]),
  ⟨none,.sto (.t 7) 0 17 0 1 (.t 15)⟩] [15]
abbrev zKb:HCode:=.regG [.frz 0 17 1] [oV 16 (.mkf zDS [.t 7,.t 5,.t 4]),
  oV 6 (.mv (.t 16))] [.forget [16]]
abbrev zOc:HCode:=(.seq zJ7 (.seq zJ8 (.seq (.seq zJ9 (.cond (.t 14) zKa .skip)) (.seq zKb .ret))))
abbrev zFh:Env:={N:=17,Γ:=[(17,1)],L:=18,nfix:=0}
abbrev match_look_roads_R:List RSrc:=[.tmp 6]
theorem zKc:zB1 Tryz.prog zCU zOc zFh match_look_roads_R:=by kernel_rfl
abbrev zIe:HCode:=oN [oV 3 (.mv (.c (iv 0)))]
abbrev zIf:HCode:=oR [oV 4 (.ldR (.t 1) 1 false),
  oV 5 (.nilck (.t 4)),
  oV 6 (.fldR (.t 5) 0 1),
  oV 7 (.fldR (.t 6) 0 1),
  oV 8 (.ldR (.t 7) 1 false),
  oV 9 (.mv (.t 0)),
  oV 10 (.idxA 5 (.t 8) (.t 9)),
  oV 11 (.fldR (.t 10) 0 1),
  oV 12 (.ldR (.t 11) 1 false),
  oV 3 (.mv (.t 12))] [4,5,6,7,8,9,10,11,12]
abbrev zLu:HCode:=(.seq zIe (.seq zIf .ret))
abbrev zD8:Env:={N:=13,Γ:=[],L:=13,nfix:=0}
abbrev match_look_roads_1_R:List RSrc:=[.tmp 3]
theorem zIg:zB1 Tryz.prog zBM zLu zD8 match_look_roads_1_R:=by kernel_rfl
abbrev zIh:HCode:=oN [oV 3 (.mv (.c (iv 0)))]
abbrev zIi:HCode:=oR [oV 4 (.ldR (.t 1) 1 false),
  oV 5 (.nilck (.t 4)),
  oV 6 (.fldR (.t 5) 1 1),
  oV 7 (.ldR (.t 6) 1 false),
  oV 8 (.mv (.t 0)),
  oV 9 (.idxA 5 (.t 7) (.t 8)),
  oV 10 (.fldR (.t 9) 2 1),
  oV 11 (.ldR (.t 10) 1 false),
  oV 3 (.mv (.t 11))] [4,5,6,7,8,9,10,11]
abbrev zLv:HCode:=(.seq zIh (.seq zIi .ret))
abbrev zD9:Env:={N:=12,Γ:=[],L:=12,nfix:=0}
abbrev match_look_roads_2_R:List RSrc:=[.tmp 3]
theorem zIj:zB1 Tryz.prog zBN zLv zD9 match_look_roads_2_R:=by kernel_rfl
abbrev zLw:HCode:=oN [oV 3 (.boxF (.t 0)),
  oV 5 (.boxF (.t 2)),
  oV 6 (.mv (.c (bv false)))]
abbrev zLx:HCode:=oR [oV 7 (.mv (.t 1)),
  oV 8 (.mkf zBU [.t 3,.t 5]),
  oC 9 zBA [(.t 7,.v),(.t 8,.v)],
  oV 6 (.mv (.t 9))] [7,8,9]
abbrev zP9:HCode:=(.seq zLw (.seq zLx .ret))
abbrev zGs:Env:={N:=10,Γ:=[],L:=10,nfix:=0}
abbrev match_look_list_R:List RSrc:=[.tmp 6]
theorem zLy:zB1 Tryz.prog zAK zP9 zGs match_look_list_R:=by kernel_rfl
abbrev zJg:HCode:=oN [oV 3 (.boxF (.t 0)),
  oV 4 (.mv (.c (bv false)))]
abbrev zJh:HCode:=oR [oV 5 (.ldR (.t 1) 1 false),
  oV 6 (.ldR (.t 3) 2 true),
  oV 7 (.fldR (.t 3) 0 1),
  oV 8 (.ldR (.t 7) 1 false),
  oV 9 (.len false (.t 8)),
  oV 10 (.ldR (.t 2) 1 false),
  oC 11 zBa [(.t 5,.v),(.t 6,.v),(.t 9,.v),(.t 10,.v)],
  oV 4 (.mv (.t 11))] [5,6,7,8,9,10,11]
abbrev zNb:HCode:=(.seq zJg (.seq zJh .ret))
abbrev zEQ:Env:={N:=12,Γ:=[],L:=12,nfix:=0}
abbrev match_look_list_1_R:List RSrc:=[.tmp 4]
theorem zJi:zB1 Tryz.prog zBU zNb zEQ match_look_list_1_R:=by kernel_rfl
abbrev zRF:HCode:=oN [oV 2 (.boxF (.t 0)),
  oV 4 (.mv (.c (.one (.v (.pointer none))))),
  oV 5 (.mv (.c (iv 0)))]
abbrev zRG:HCode:=oR [oV 8 (.ldR (.t 2) 1 true),
  oC 9 zFa [(.t 8,.v)],
  oV 6 (.mv (.t 9))] [8,9]
abbrev zRH:HCode:=oR [oV 10 (.mv (.t 6)),
  oV 11 (.ints .neq (.t 10) (.c (iv 0)))] [10]
abbrev zRI:HCode:=oR [oV 12 (.mv (.t 6)),
  oV 4 (.mv (.c (.one (.v (.pointer none))))),
  oV 5 (.mv (.t 12))] [12]
abbrev zRJ:HCode:=oR [oV 13 (.mv (.t 1)),
  oC 14 zEg [(.t 13,.v)],
  oV 7 (.mv (.t 14))] [13,14]
abbrev zRK:HCode:=oR [oV 15 (.mv (.t 7)),
  oV 16 (.ints .neq (.t 15) (.c (iv 0)))] [15]
abbrev zRL:HCode:=oR [oV 17 (.mv (.t 7)),
  oV 4 (.mv (.c (.one (.v (.pointer none))))),
  oV 5 (.mv (.t 17))] [17]
abbrev zRM:HCode:=oR [oV 18 (.ldR (.t 2) 1 true),
  oC 19 zJZ [(.t 18,.v)],
  oV 4 (.mv (.t 19)),
  oV 5 (.mv (.c (iv 0)))] [18,19]
abbrev zZy:HCode:=(.seq zRF (.seq (.seq zRG (.seq zRH (.cond (.t 11) (.seq zRI .ret) .skip))) (.seq (.seq zRJ (.seq zRK (.cond (.t 16) (.seq zRL .ret) .skip))) (.seq zRM .ret))))
abbrev zLz:Env:={N:=20,Γ:=[],L:=20,nfix:=0}
abbrev match_begin_R:List RSrc:=[.tmp 4,.tmp 5]
theorem zRN:zB1 Tryz.prog zFv zZy zLz match_begin_R:=by kernel_rfl
abbrev zZz:HCode:=oN [oV 3 (.boxF (.t 0)),
  oV 6 (.mv (.c (.one (.v (.pointer none))))),
  oV 7 (.mv (.c (iv 0)))]
abbrev zZA:HCode:=oR [oV 11 (.ldR (.t 3) 1 true),
  oV 12 (.mv (.t 1)),
  oC 13 zFv [(.t 11,.v),(.t 12,.v)],
  oV 10 (.mv (.t 13)),
  oV 14 (.ext 10 0),
  oV 15 (.ext 10 1),
  oV 8 (.mv (.t 14)),
  oV 9 (.mv (.t 15))] [10,11,12,13,14,15]
abbrev zZB:HCode:=oR [oV 16 (.mv (.t 9)),
  oV 17 (.ints .eql (.t 16) (.c (iv 0))),
  oV 18 (.mv (.t 17)),
  oG 18 true 19 (.mv (.t 2)),
  oG 18 true 20 (.ints .lss (.t 19) (.c (iv 0))),
  oG 18 true 21 (.mv (.t 20)),
  oG 21 false 22 (.mv (.t 2)),
  oG 21 false 23 (.fldR (.t 3) 0 1),
  oG 21 false 24 (.ldR (.t 23) 1 false),
  oG 21 false 25 (.len false (.t 24)),
  oG 21 false 26 (.ints .geq (.t 22) (.t 25)),
  oG 18 true 27 (.pick (.t 21) (.c (bv true)) (.t 26)),
  oV 28 (.pick (.t 18) (.t 27) (.c (bv false)))] [16,17,18,19,20,21,22,23,24,25,26,27]
abbrev zZC:HCode:=oN [oV 9 (.mv (.c (iv 5)))]
abbrev zZD:HCode:=oR [oV 29 (.mv (.t 8)),
  oV 30 (.mv (.t 9)),
  oV 6 (.mv (.t 29)),
  oV 7 (.mv (.t 30))] [29,30]
abbrev yE4:HCode:=(.seq zZz (.seq zZA (.seq (.seq zZB (.cond (.t 28) zZC .skip)) (.seq zZD .ret))))
abbrev zS9:Env:={N:=31,Γ:=[],L:=31,nfix:=0}
abbrev match_at_R:List RSrc:=[.tmp 6,.tmp 7]
theorem zZE:zB1 Tryz.prog zJY yE4 zS9 match_at_R:=by kernel_rfl
abbrev zOd:HCode:=oN [oV 3 (.boxF (.t 0)),
  oV 6 (.mv (.c (bv false))),
  oV 7 (.mv (.c (iv 0)))]
abbrev zOe:HCode:=oR [oV 11 (.ldR (.t 3) 1 true),
  oV 12 (.mv (.t 1)),
  oV 13 (.mv (.t 2)),
  oC 14 zJY [(.t 11,.v),(.t 12,.v),(.t 13,.v)],
  oV 10 (.mv (.t 14)),
  oV 15 (.ext 10 0),
  oV 16 (.ext 10 1),
  oV 8 (.mv (.t 15)),
  oV 9 (.mv (.t 16))] [10,11,12,13,14,15,16]
abbrev zOf:HCode:=oR [oV 17 (.mv (.t 9)),
  oV 18 (.ints .eql (.t 17) (.c (iv 0))),
  oV 19 (.mv (.t 18)),
  oG 19 true 20 (.mv (.t 8)),
  oG 19 true 21 (.mv (.t 1)),
  oG 19 true 22 (.mv (.t 2)),
  ⟨some (19,true),.call (some 23) zAK [(.t 20,.v),(.t 21,.v),(.t 22,.v)]⟩,
  oV 24 (.pick (.t 19) (.t 23) (.c (bv false))),
  oV 25 (.mv (.t 9)),
  oV 6 (.mv (.t 24)),
  oV 7 (.mv (.t 25))] [17,18,19,20,21,22,23,24,25]
abbrev zU9:HCode:=(.seq zOd (.seq zOe (.seq zOf .ret)))
abbrev zIk:Env:={N:=26,Γ:=[],L:=26,nfix:=0}
abbrev match_Matches_R:List RSrc:=[.tmp 6,.tmp 7]
theorem zOg:zB1 Tryz.prog zD2 zU9 zIk match_Matches_R:=by kernel_rfl
end Go.Hx
end
