/-
  Walks of functions of the program over an abstract layer, and the laws that they use: each contract says what the function computes, for every input that its conditions let by. No other condition.
-/
import Derived.Test.YtjnagiaooecklabGreatDoorProg
import Derived.Test.YtjnagiaooecklabGreatDoorG10
import Derived.Test.YtjnagiaooecklabGreatDoorG11
set_option linter.all false
section
/-
 The abstract code of functions of the program, printed by gen.py; each stands for the given one. No condition.
-/
namespace Go.Hx
open Go.Proofs
variable [Glob]
abbrev zBy:Nat:=32
abbrev zCz:Nat:=140
abbrev zE7:Nat:=141
abbrev zCA:Nat:=82
abbrev zDn:Nat:=81
abbrev zCB:Nat:=40
abbrev zBQ:Nat:=89
abbrev zCT:Nat:=35
abbrev zEr:Nat:=91
abbrev zEs:Nat:=21
abbrev zD3:Nat:=142
abbrev zD4:Nat:=193
abbrev zFz:Nat:=83
abbrev zDo:Nat:=85
abbrev zEQ:Nat:=60
abbrev zBL:Nat:=87
abbrev zFY:Nat:=84
abbrev zB0:Nat:=80
abbrev zDL:Nat:=88
abbrev zCZ:Nat:=73
abbrev zAz:Nat:=53
abbrev zAD:Nat:=3
abbrev zAl:Nat:=130
abbrev zDU:Nat:=9
abbrev zTa:HCode:=oN [oV 6 (.mv (.c (bv false)))]
abbrev zTb:HCode:=oR [oV 7 (.mv (.t 0)),
  oV 8 (.mv (.t 1)),
  oV 9 (.ints .geq (.t 7) (.t 8)),
  oV 10 (.mv (.t 9)),
  oG 10 true 11 (.mv (.t 0)),
  oG 10 true 12 (.mv (.t 2)),
  oG 10 true 13 (.ints .leq (.t 11) (.t 12)),
  oV 14 (.pick (.t 10) (.t 13) (.c (bv false))),
  oV 6 (.mv (.t 14))] [7,8,9,10,11,12,13,14]
abbrev yAW:HCode:=(.seq zTa (.seq zTb .ret))
abbrev zLj:Env:={N:=15,Γ:=[],L:=15,nfix:=0}
abbrev ref_within_R:List RSrc:=[.tmp 6]
theorem zTc:zBV Tryz.prog zB0 yAW zLj ref_within_R:=by kernel_rfl
abbrev zTd:HCode:=oN [oV 2 (.mv (.c (bv false)))]
abbrev zTe:HCode:=oR [oV 5 (.mv (.t 0)),
  oV 6 (.len true (.t 5)),
  oC 7 zB0 [(.t 6,.v),(.c (iv 1),.v),(.c (iv 12),.v)],
  oV 8 (.not (.t 7)),
  oV 9 (.mv (.t 8)),
  oG 9 false 10 (.mv (.t 0)),
  oG 9 false 11 (.idxS (.t 10) (.c (iv 0))),
  oG 9 false 12 (.ints .lss (.t 11) (.c (.one (.v (.int .u8 97))))),
  oV 13 (.pick (.t 9) (.c (bv true)) (.t 12)),
  oV 14 (.mv (.t 13)),
  oG 14 false 15 (.mv (.t 0)),
  oG 14 false 16 (.idxS (.t 15) (.c (iv 0))),
  oG 14 false 17 (.ints .gtr (.t 16) (.c (.one (.v (.int .u8 122))))),
  oV 18 (.pick (.t 14) (.c (bv true)) (.t 17))] [5,6,7,8,9,10,11,12,13,14,15,16,17]
abbrev zTf:HCode:=oN [oV 2 (.mv (.c (bv false)))]
abbrev zTg:HCode:=oN [oV 3 (.mv (.c (iv 0)))]
abbrev zTh:HCode:=oR [oV 19 (.mv (.t 3)),
  oV 20 (.mv (.t 0)),
  oV 21 (.len true (.t 20)),
  oV 22 (.ints .lss (.t 19) (.t 21))] [19,20,21]
abbrev zTi:HCode:=oR [oV 25 (.mv (.t 0)),
  oV 26 (.mv (.t 3)),
  oV 27 (.idxS (.t 25) (.t 26)),
  oV 4 (.mv (.t 27))] [25,26,27]
abbrev zTj:HCode:=oR [oV 28 (.mv (.t 4)),
  oV 29 (.ints .geq (.t 28) (.c (.one (.v (.int .u8 97))))),
  oV 30 (.mv (.t 29)),
  oG 30 true 31 (.mv (.t 4)),
  oG 30 true 32 (.ints .leq (.t 31) (.c (.one (.v (.int .u8 122))))),
  oV 33 (.pick (.t 30) (.t 32) (.c (bv false))),
  oV 34 (.mv (.t 33)),
  oG 34 false 35 (.mv (.t 4)),
  oG 34 false 36 (.ints .geq (.t 35) (.c (.one (.v (.int .u8 48))))),
  oG 34 false 37 (.mv (.t 36)),
  oG 37 true 38 (.mv (.t 4)),
  oG 37 true 39 (.ints .leq (.t 38) (.c (.one (.v (.int .u8 57))))),
  oG 34 false 40 (.pick (.t 37) (.t 39) (.c (bv false))),
  oV 41 (.pick (.t 34) (.c (bv true)) (.t 40)),
  oV 42 (.mv (.t 41)),
  oG 42 false 43 (.mv (.t 4)),
  oG 42 false 44 (.ints .eql (.t 43) (.c (.one (.v (.int .u8 45))))),
  oV 45 (.pick (.t 42) (.c (bv true)) (.t 44)),
  oV 46 (.not (.t 45))] [28,29,30,31,32,33,34,35,36,37,38,39,40,41,42,43,44,45]
abbrev zTk:HCode:=oN [oV 2 (.mv (.c (bv false)))]
abbrev zTl:HCode:=oR [oV 23 (.mv (.t 3)),
  oV 24 (.ints .add (.t 23) (.c (iv 1))),
  oV 3 (.mv (.t 24))] [23,24]
abbrev zTm:HCode:=oN [oV 2 (.mv (.c (bv true)))]
abbrev yAX:HCode:=(.seq zTd (.seq (.seq zTe (.cond (.t 18) (.seq zTf .ret) .skip)) (.seq (.seq zTg (.block 0 (.loop (.seq (.seq zTh (.cond (.t 22) .skip (.exit 0))) (.seq (.block 1 (.seq zTi (.seq zTj (.cond (.t 46) (.seq zTk .ret) .skip)))) zTl))))) (.seq zTm .ret))))
abbrev zLk:Env:={N:=47,Γ:=[],L:=47,nfix:=0}
abbrev ref_IsName_R:List RSrc:=[.tmp 2]
theorem zTn:zBV Tryz.prog zCz yAX zLk ref_IsName_R:=by kernel_rfl
abbrev zQd:HCode:=oN [oV 2 (.mv (.c (bv false)))]
abbrev zQe:HCode:=oR [oV 4 (.mv (.t 0)),
  oV 5 (.len true (.t 4)),
  oV 6 (.ints .gtr (.t 5) (.c (iv 16)))] [4,5]
abbrev zQf:HCode:=oN [oV 2 (.mv (.c (bv false)))]
abbrev zQg:HCode:=oN [oV 3 (.mv (.c (iv 0)))]
abbrev zQh:HCode:=oR [oV 7 (.mv (.t 3)),
  oV 8 (.mv (.t 0)),
  oV 9 (.len true (.t 8)),
  oV 10 (.ints .lss (.t 7) (.t 9))] [7,8,9]
abbrev zQi:HCode:=oR [oV 13 (.mv (.t 0)),
  oV 14 (.mv (.t 3)),
  oV 15 (.idxS (.t 13) (.t 14)),
  oV 16 (.ints .lss (.t 15) (.c (.one (.v (.int .u8 32))))),
  oV 17 (.mv (.t 16)),
  oG 17 false 18 (.mv (.t 0)),
  oG 17 false 19 (.mv (.t 3)),
  oG 17 false 20 (.idxS (.t 18) (.t 19)),
  oG 17 false 21 (.ints .gtr (.t 20) (.c (.one (.v (.int .u8 126))))),
  oV 22 (.pick (.t 17) (.c (bv true)) (.t 21)),
  oV 23 (.mv (.t 22)),
  oG 23 false 24 (.mv (.t 0)),
  oG 23 false 25 (.mv (.t 3)),
  oG 23 false 26 (.idxS (.t 24) (.t 25)),
  oG 23 false 27 (.ints .eql (.t 26) (.c (.one (.v (.int .u8 34))))),
  oV 28 (.pick (.t 23) (.c (bv true)) (.t 27))] [13,14,15,16,17,18,19,20,21,22,23,24,25,26,27]
abbrev zQj:HCode:=oN [oV 2 (.mv (.c (bv false)))]
abbrev zQk:HCode:=oR [oV 11 (.mv (.t 3)),
  oV 12 (.ints .add (.t 11) (.c (iv 1))),
  oV 3 (.mv (.t 12))] [11,12]
abbrev zQl:HCode:=oN [oV 2 (.mv (.c (bv true)))]
abbrev zXY:HCode:=(.seq zQd (.seq (.seq zQe (.cond (.t 6) (.seq zQf .ret) .skip)) (.seq (.seq zQg (.block 0 (.loop (.seq (.seq zQh (.cond (.t 10) .skip (.exit 0))) (.seq (.block 1 (.seq zQi (.cond (.t 28) (.seq zQj .ret) .skip))) zQk))))) (.seq zQl .ret))))
abbrev zJv:Env:={N:=29,Γ:=[],L:=29,nfix:=0}
abbrev ref_IsValue_R:List RSrc:=[.tmp 2]
theorem zQm:zBV Tryz.prog zE7 zXY zJv ref_IsValue_R:=by kernel_rfl
abbrev zNK:HCode:=oN [oV 1 (.boxF (.t 0)),
  oV 2 (.mv (.c (bv false)))]
abbrev zNL:HCode:=oR [oV 5 (.fldR (.t 1) 1 1),
  oV 6 (.ldR (.t 5) 1 false),
  oC 7 zCz [(.t 6,.v)],
  oV 8 (.not (.t 7)),
  oV 9 (.mv (.t 8)),
  oG 9 false 10 (.fldR (.t 1) 2 1),
  oG 9 false 11 (.ldR (.t 10) 1 false),
  oG 9 false 12 (.strs .neq (.t 11) (.c (sv []))),
  oG 9 false 13 (.mv (.t 12)),
  oG 13 true 14 (.fldR (.t 1) 2 1),
  oG 13 true 15 (.ldR (.t 14) 1 false),
  ⟨some (13,true),.call (some 16) zCz [(.t 15,.v)]⟩,
  oG 13 true 17 (.not (.t 16)),
  oG 9 false 18 (.pick (.t 13) (.t 17) (.c (bv false))),
  oV 19 (.pick (.t 9) (.c (bv true)) (.t 18)),
  oV 20 (.mv (.t 19)),
  oG 20 false 21 (.fldR (.t 1) 3 1),
  oG 20 false 22 (.ldR (.t 21) 1 false),
  oG 20 false 23 (.len false (.t 22)),
  oG 20 false 24 (.ints .gtr (.t 23) (.c (iv 6))),
  oV 25 (.pick (.t 20) (.c (bv true)) (.t 24)),
  oV 26 (.mv (.t 25)),
  oG 26 false 27 (.fldR (.t 1) 4 1),
  oG 26 false 28 (.ldR (.t 27) 1 false),
  oG 26 false 29 (.len false (.t 28)),
  oG 26 false 30 (.ints .gtr (.t 29) (.c (iv 4))),
  oV 31 (.pick (.t 26) (.c (bv true)) (.t 30))] [5,6,7,8,9,10,11,12,13,14,15,16,17,18,19,20,21,22,23,24,25,26,27,28,29,30]
abbrev zNM:HCode:=oN [oV 2 (.mv (.c (bv false)))]
abbrev zNN:HCode:=oN [oV 3 (.mv (.c (iv 0)))]
abbrev zNO:HCode:=oR [oV 32 (.mv (.t 3)),
  oV 33 (.fldR (.t 1) 3 1),
  oV 34 (.ldR (.t 33) 1 false),
  oV 35 (.len false (.t 34)),
  oV 36 (.ints .lss (.t 32) (.t 35))] [32,33,34,35]
abbrev zNP:HCode:=oQ [oD 0 false (oV 39 (.fldR (.t 1) 3 1)),
  oD 1 false (oV 40 (.ldR (.t 39) 1 false)),
  oD 2 false (oV 41 (.mv (.t 3))),
  oD 3 false (oV 42 (.idxA 1 (.t 40) (.t 41))),
  oD 4 false (oV 43 (.ldR (.t 42) 1 false)),
  oD 5 true (oC 44 zCz [(.t 43,.v)]),
  oD 6 false (oV 45 (.not (.t 44))),
  oD 7 false (oV 46 (.mv (.t 45))),
  oD 8 false (oG 46 false 47 (.mv (.t 3))),
  oD 9 false (oG 46 false 48 (.ints .gtr (.t 47) (.c (iv 0)))),
  oD 10 false (oG 46 false 49 (.mv (.t 48))),
  oD 11 false (oG 49 true 50 (.fldR (.t 1) 3 1)),
  oD 12 false (oG 49 true 51 (.ldR (.t 50) 1 false)),
  oD 13 false (oG 49 true 52 (.mv (.t 3))),
  oD 14 false (oG 49 true 53 (.ints .sub (.t 52) (.c (iv 1)))),
  oD 15 false (oG 49 true 54 (.idxA 1 (.t 51) (.t 53))),
  oD 16 false (oG 49 true 55 (.ldR (.t 54) 1 false)),
  oD 17 false (oG 49 true 56 (.fldR (.t 1) 3 1)),
  oD 18 false (oG 49 true 57 (.ldR (.t 56) 1 false)),
  oD 19 false (oG 49 true 58 (.mv (.t 3))),
  oD 20 false (oG 49 true 59 (.idxA 1 (.t 57) (.t 58))),
  oD 21 false (oG 49 true 60 (.ldR (.t 59) 1 false)),
  oD 22 false (oG 49 true 61 (.strs .geq (.t 55) (.t 60))),
  oD 23 false (oG 46 false 62 (.pick (.t 49) (.t 61) (.c (bv false)))),
  oD 24 false (oV 63 (.pick (.t 46) (.c (bv true)) (.t 62)))] [39,40,41,42,43,44,45,46,47,48,49,50,51,52,53,54,55,56,57,58,59,60,61,62]
abbrev zNQ:HCode:=oN [oV 2 (.mv (.c (bv false)))]
abbrev zNR:HCode:=oR [oV 37 (.mv (.t 3)),
  oV 38 (.ints .add (.t 37) (.c (iv 1))),
  oV 3 (.mv (.t 38))] [37,38]
abbrev zNS:HCode:=oN [oV 4 (.mv (.c (iv 0)))]
abbrev zNT:HCode:=oR [oV 64 (.mv (.t 4)),
  oV 65 (.fldR (.t 1) 4 1),
  oV 66 (.ldR (.t 65) 1 false),
  oV 67 (.len false (.t 66)),
  oV 68 (.ints .lss (.t 64) (.t 67))] [64,65,66,67]
abbrev zLE:HCode:=oQ [oD 0 false (oV 71 (.fldR (.t 1) 4 1)),
  oD 1 false (oV 72 (.ldR (.t 71) 1 false)),
  oD 2 false (oV 73 (.mv (.t 4))),
  oD 3 false (oV 74 (.idxA 2 (.t 72) (.t 73))),
  oD 4 false (oV 75 (.fldR (.t 74) 0 1)),
  oD 5 false (oV 76 (.ldR (.t 75) 1 false)),
  oD 6 true (oC 77 zCz [(.t 76,.v)]),
  oD 7 false (oV 78 (.not (.t 77))),
  oD 8 false (oV 79 (.mv (.t 78))),
  oD 9 false (oG 79 false 80 (.fldR (.t 1) 4 1)),
  oD 10 false (oG 79 false 81 (.ldR (.t 80) 1 false)),
  oD 11 false (oG 79 false 82 (.mv (.t 4))),
  oD 12 false (oG 79 false 83 (.idxA 2 (.t 81) (.t 82))),
  oD 13 false (oG 79 false 84 (.fldR (.t 83) 1 1)),
  oD 14 false (oG 79 false 85 (.ldR (.t 84) 1 false)),
  oD 15 true ⟨some (79,false),.call (some 86) zE7 [(.t 85,.v)]⟩,
  oD 16 false (oG 79 false 87 (.not (.t 86))),
  oD 17 false (oV 88 (.pick (.t 79) (.c (bv true)) (.t 87))),
  oD 18 false (oV 89 (.mv (.t 88))),
  oD 19 false (oG 89 false 90 (.mv (.t 4))),
  oD 20 false (oG 89 false 91 (.ints .gtr (.t 90) (.c (iv 0)))),
  oD 21 false (oG 89 false 92 (.mv (.t 91))),
  oD 22 false (oG 92 true 93 (.fldR (.t 1) 4 1)),
  oD 23 false (oG 92 true 94 (.ldR (.t 93) 1 false)),
  oD 24 false (oG 92 true 95 (.mv (.t 4))),
  oD 25 false (oG 92 true 96 (.ints .sub (.t 95) (.c (iv 1)))),
  oD 26 false (oG 92 true 97 (.idxA 2 (.t 94) (.t 96))),
  oD 27 false (oG 92 true 98 (.fldR (.t 97) 0 1)),
  oD 28 false (oG 92 true 99 (.ldR (.t 98) 1 false)),
  oD 29 false (oG 92 true 100 (.fldR (.t 1) 4 1)),
  oD 30 false (oG 92 true 101 (.ldR (.t 100) 1 false)),
  oD 31 false (oG 92 true 102 (.mv (.t 4))),
  oD 32 false (oG 92 true 103 (.idxA 2 (.t 101) (.t 102))),
  oD 33 false (oG 92 true 104 (.fldR (.t 103) 0 1)),
  oD 34 false (oG 92 true 105 (.ldR (.t 104) 1 false)),
  oD 35 false (oG 92 true 106 (.strs .geq (.t 99) (.t 105))),
  oD 36 false (oG 89 false 107 (.pick (.t 92) (.t 106) (.c (bv false)))),
  oD 37 false (oV 108 (.pick (.t 89) (.c (bv true)) (.t 107)))] [71,72,73,74,75,76,77,78,79,80,81,82,83,84,85,86,87,88,89,90,91,92,93,94,95,96,97,98,99,100,101,102,103,104,105,106,107]
abbrev zLF:HCode:=oN [oV 2 (.mv (.c (bv false)))]
abbrev zLG:HCode:=oR [oV 69 (.mv (.t 4)),
  oV 70 (.ints .add (.t 69) (.c (iv 1))),
  oV 4 (.mv (.t 70))] [69,70]
abbrev zLH:HCode:=oN [oV 2 (.mv (.c (bv true)))]
abbrev zV6:HCode:=(.seq zNK (.seq (.seq zNL (.cond (.t 31) (.seq zNM .ret) .skip)) (.seq (.seq zNN (.block 0 (.loop (.seq (.seq zNO (.cond (.t 36) .skip (.exit 0))) (.seq (.block 1 (.seq zNP (.cond (.t 63) (.seq zNQ .ret) .skip))) zNR))))) (.seq (.seq zNS (.block 2 (.loop (.seq (.seq zNT (.cond (.t 68) .skip (.exit 2))) (.seq (.block 3 (.seq zLE (.cond (.t 108) (.seq zLF .ret) .skip))) zLG))))) (.seq zLH .ret)))))
abbrev zH8:Env:={N:=109,Γ:=[],L:=109,nfix:=0}
abbrev ref_NodeFine_R:List RSrc:=[.tmp 2]
theorem zNU:zBV Tryz.prog zDn zV6 zH8 ref_NodeFine_R:=by kernel_rfl
abbrev zNV:HCode:=oN [oV 1 (.boxF (.t 0)),
  oV 2 (.mv (.c (iv 0)))]
abbrev zNW:HCode:=oR [oV 6 (.fldR (.t 1) 0 1),
  oV 7 (.ldR (.t 6) 1 false),
  oV 8 (.len false (.t 7)),
  oC 9 zB0 [(.t 8,.v),(.c (iv 1),.v),(.c (iv 64),.v)],
  oV 10 (.not (.t 9))] [6,7,8,9]
abbrev zNX:HCode:=oN [oV 2 (.mv (.c (iv 2)))]
abbrev zNY:HCode:=oN [oV 3 (.mv (.c (iv 0)))]
abbrev zNZ:HCode:=oR [oV 11 (.mv (.t 3)),
  oV 12 (.fldR (.t 1) 0 1),
  oV 13 (.ldR (.t 12) 1 false),
  oV 14 (.len false (.t 13)),
  oV 15 (.ints .lss (.t 11) (.t 14))] [11,12,13,14]
abbrev zN0:HCode:=oR [oV 18 (.fldR (.t 1) 0 1),
  oV 19 (.ldR (.t 18) 1 false),
  oV 20 (.mv (.t 3)),
  oV 21 (.idxA 5 (.t 19) (.t 20)),
  oV 22 (.ldR (.t 21) 5 true),
  oC 23 zDn [(.t 22,.v)],
  oV 24 (.not (.t 23)),
  oV 25 (.mv (.t 24)),
  oG 25 false 26 (.mv (.t 3)),
  oG 25 false 27 (.ints .eql (.t 26) (.c (iv 0))),
  oG 25 false 28 (.mv (.t 27)),
  oG 28 true 29 (.fldR (.t 1) 0 1),
  oG 28 true 30 (.ldR (.t 29) 1 false),
  oG 28 true 31 (.mv (.t 3)),
  oG 28 true 32 (.idxA 5 (.t 30) (.t 31)),
  oG 28 true 33 (.fldR (.t 32) 0 1),
  oG 28 true 34 (.ldR (.t 33) 1 false),
  oG 28 true 35 (.ints .neq (.t 34) (.c (iv (-1)))),
  oG 25 false 36 (.pick (.t 28) (.t 35) (.c (bv false))),
  oV 37 (.pick (.t 25) (.c (bv true)) (.t 36))] [18,19,20,21,22,23,24,25,26,27,28,29,30,31,32,33,34,35,36]
abbrev zN1:HCode:=oN [oV 2 (.mv (.c (iv 1)))]
abbrev zN2:HCode:=oR [oV 38 (.mv (.t 3)),
  oV 39 (.ints .eql (.t 38) (.c (iv 0))),
  oV 4 (.mv (.t 39))] [38,39]
abbrev zN3:HCode:=oR [oV 40 (.mv (.t 3)),
  oV 41 (.ints .sub (.t 40) (.c (iv 1))),
  oV 5 (.mv (.t 41))] [40,41]
abbrev zN4:HCode:=oR [oV 42 (.mv (.t 5)),
  oV 43 (.ints .geq (.t 42) (.c (iv 0))),
  oV 44 (.mv (.t 43)),
  oG 44 true 45 (.mv (.t 4)),
  oG 44 true 46 (.not (.t 45)),
  oV 47 (.pick (.t 44) (.t 46) (.c (bv false)))] [42,43,44,45,46]
abbrev zLI:HCode:=oR [oV 54 (.mv (.t 5)),
  oV 55 (.fldR (.t 1) 0 1),
  oV 56 (.ldR (.t 55) 1 false),
  oV 57 (.mv (.t 3)),
  oV 58 (.idxA 5 (.t 56) (.t 57)),
  oV 59 (.fldR (.t 58) 0 1),
  oV 60 (.ldR (.t 59) 1 false),
  oV 61 (.ints .eql (.t 54) (.t 60)),
  oV 4 (.mv (.t 61))] [54,55,56,57,58,59,60,61]
abbrev zLJ:HCode:=oR [oV 48 (.fldR (.t 1) 0 1),
  oV 49 (.ldR (.t 48) 1 false),
  oV 50 (.mv (.t 5)),
  oV 51 (.idxA 5 (.t 49) (.t 50)),
  oV 52 (.fldR (.t 51) 0 1),
  oV 53 (.ldR (.t 52) 1 false),
  oV 5 (.mv (.t 53))] [48,49,50,51,52,53]
abbrev zLK:HCode:=oR [oV 62 (.mv (.t 4)),
  oV 63 (.not (.t 62))] [62]
abbrev zLL:HCode:=oN [oV 2 (.mv (.c (iv 1)))]
abbrev zLM:HCode:=oR [oV 16 (.mv (.t 3)),
  oV 17 (.ints .add (.t 16) (.c (iv 1))),
  oV 3 (.mv (.t 17))] [16,17]
abbrev zLN:HCode:=oN [oV 2 (.mv (.c (iv 0)))]
abbrev zV7:HCode:=(.seq zNV (.seq (.seq zNW (.cond (.t 10) (.seq zNX .ret) .skip)) (.seq (.seq zNY (.block 0 (.loop (.seq (.seq zNZ (.cond (.t 15) .skip (.exit 0))) (.seq (.block 1 (.seq (.seq zN0 (.cond (.t 37) (.seq zN1 .ret) .skip)) (.seq zN2 (.seq (.seq zN3 (.block 2 (.loop (.seq (.seq zN4 (.cond (.t 47) .skip (.exit 2))) (.seq (.block 3 zLI) zLJ))))) (.seq zLK (.cond (.t 63) (.seq zLL .ret) .skip)))))) zLM))))) (.seq zLN .ret))))
abbrev zH9:Env:={N:=64,Γ:=[],L:=64,nfix:=0}
abbrev ref_CheckDoc_R:List RSrc:=[.tmp 2]
theorem zN5:zBV Tryz.prog zBy zV7 zH9 ref_CheckDoc_R:=by kernel_rfl
abbrev zTo:HCode:=oN [oV 2 (.boxF (.t 0)),
  ⟨none,.nlo 4 zAD 1⟩]
abbrev zTp:HCode:=oN [⟨none,.nlo 5 zAD 1⟩]
abbrev zTq:HCode:=oN [oV 6 (.mv (.c (iv 0)))]
abbrev zTr:HCode:=oR [oV 7 (.mv (.t 6)),
  oV 8 (.fldR (.t 2) 0 1),
  oV 9 (.ldR (.t 8) 1 false),
  oV 10 (.len false (.t 9)),
  oV 11 (.ints .lss (.t 7) (.t 10))] [7,8,9,10]
abbrev zTs:HCode:=oR [oV 14 (.fldR (.t 2) 0 1),
  oV 15 (.ldR (.t 14) 1 false),
  oV 16 (.mv (.t 6)),
  oV 17 (.idxA 5 (.t 15) (.t 16)),
  oV 18 (.fldR (.t 17) 0 1),
  oV 19 (.ldR (.t 18) 1 false),
  oV 20 (.mv (.t 1)),
  oV 21 (.ints .eql (.t 19) (.t 20))] [14,15,16,17,18,19,20]
abbrev zTt:HCode:=oR [⟨none,.mvo 22 5⟩,
  oV 23 (.mv (.t 6)),
  oV 24 (.bslF 1 [.t 23]),
  ⟨none,.app 25 zAD 1 (.t 22) (.t 24)⟩,
  ⟨none,.mvo 5 25⟩] [22,23,24,25]
abbrev zTu:HCode:=oR [oV 12 (.mv (.t 6)),
  oV 13 (.ints .add (.t 12) (.c (iv 1))),
  oV 6 (.mv (.t 13))] [12,13]
abbrev zTv:HCode:=oR [⟨none,.mvo 26 5⟩,
  ⟨none,.mvo 4 26⟩] [26]
abbrev yAY:HCode:=(.seq zTo (.seq zTp (.seq (.seq zTq (.block 0 (.loop (.seq (.seq zTr (.cond (.t 11) .skip (.exit 0))) (.seq (.block 1 (.seq zTs (.cond (.t 21) zTt .skip))) zTu))))) (.seq zTv .ret))))
abbrev zLl:Env:={N:=27,Γ:=[],L:=27,nfix:=0}
abbrev ref_KidsOf_R:List RSrc:=[.tmp 4]
theorem zTw:zBV Tryz.prog zCA yAY zLl ref_KidsOf_R:=by kernel_rfl
abbrev zQn:HCode:=oN [⟨none,.box 1 0 14 5 (.t 0)⟩,
  ⟨none,.alloc 2 1 19 [.v (.int .i64 0),.v (mkS []),.v (mkS []),.nl 1,.nl 2]⟩]
abbrev zQo:HCode:=oR [⟨none,.bsl 3 zDU 1 []⟩,
  oV 4 (.fldP (.t 1) 3),
  oV 5 (.ldB (.t 4) 0 14 3 1 false),
  ⟨none,.app 6 zDU 1 (.t 3) (.t 5)⟩,
  oV 7 (.fldP (.t 1) 3),
  ⟨none,.sto (.t 7) 0 14 3 1 (.t 6)⟩] [3,4,5,6,7]
abbrev zQp:HCode:=oR [⟨none,.bsl 8 zCZ 2 []⟩,
  oV 9 (.fldP (.t 1) 4),
  oV 10 (.ldB (.t 9) 0 14 4 1 false),
  ⟨none,.app 11 zCZ 2 (.t 8) (.t 10)⟩,
  oV 12 (.fldP (.t 1) 4),
  ⟨none,.sto (.t 12) 0 14 4 1 (.t 11)⟩] [8,9,10,11,12]
abbrev zQq:HCode:=oR [oV 13 (.ldB (.t 1) 0 14 0 5 true),
  ⟨none,.sto (.t 2) 1 19 0 5 (.t 13)⟩] [13]
abbrev zXZ:HCode:=(.seq zQn (.seq zQo (.seq zQp (.seq zQq .ret))))
abbrev zJw:Env:={N:=14,Γ:=[(14,5),(19,5)],L:=24,nfix:=0}
abbrev ref_OwnNode_R:List RSrc:=[.cellB 2 1 19 0 5 true]
theorem zQr:zBV Tryz.prog zBQ zXZ zJw ref_OwnNode_R:=by kernel_rfl
abbrev zV8:HCode:=oN [oV 2 (.boxF (.t 0)),
  oV 4 (.mv (.c (iv 0)))]
abbrev zV9:HCode:=oR [oV 6 (.ldR (.t 2) 1 true),
  oC 7 zBy [(.t 6,.v)],
  oV 5 (.mv (.t 7))] [6,7]
abbrev zWa:HCode:=oR [oV 8 (.mv (.t 5)),
  oV 9 (.ints .neq (.t 8) (.c (iv 0)))] [8]
abbrev zWb:HCode:=oR [oV 10 (.mv (.t 5)),
  oV 4 (.mv (.t 10))] [10]
abbrev zWc:HCode:=oR [oV 11 (.mv (.t 1)),
  oV 12 (.fldR (.t 2) 0 1),
  oV 13 (.ldR (.t 12) 1 false),
  oV 14 (.len false (.t 13)),
  oV 15 (.ints .sub (.t 14) (.c (iv 1))),
  oC 16 zB0 [(.t 11,.v),(.c (iv 0),.v),(.t 15,.v)],
  oV 17 (.not (.t 16))] [11,12,13,14,15,16]
abbrev zWd:HCode:=oN [oV 4 (.mv (.c (iv 5)))]
abbrev zWe:HCode:=oN [oV 4 (.mv (.c (iv 0)))]
abbrev yCu:HCode:=(.seq zV8 (.seq (.seq zV9 (.seq zWa (.cond (.t 9) (.seq zWb .ret) .skip))) (.seq (.seq zWc (.cond (.t 17) (.seq zWd .ret) .skip)) (.seq zWe .ret))))
abbrev zN6:Env:={N:=18,Γ:=[],L:=18,nfix:=0}
abbrev ref_there_R:List RSrc:=[.tmp 4]
theorem zWf:zBV Tryz.prog zEQ yCu zN6 ref_there_R:=by kernel_rfl
abbrev yAZ:HCode:=oN [⟨none,.box 4 0 35 6 (.t 1)⟩,
  ⟨none,.nlo 6 zAz 5⟩]
abbrev yA0:HCode:=oR [oV 9 (.mv (.t 0)),
  oV 10 (.len false (.t 9)),
  oV 7 (.mv (.t 10))] [9,10]
abbrev yA1:HCode:=oR [oV 11 (.mv (.t 2)),
  oV 12 (.fldP (.t 4) 0),
  oV 13 (.fldP (.t 12) 0),
  ⟨none,.sto (.t 13) 0 35 0 1 (.t 11)⟩] [11,12,13]
abbrev yA2:HCode:=oR [⟨none,.mvo 14 0⟩,
  oV 15 (.fldP (.t 4) 0),
  oV 16 (.ldB (.t 15) 0 35 0 5 true),
  oV 17 (.bslF 5 [.t 16]),
  ⟨none,.app 18 zAz 5 (.t 14) (.t 17)⟩,
  ⟨none,.mvo 0 18⟩] [14,15,16,17,18]
abbrev yA3:HCode:=oN [oV 8 (.mv (.c (iv 0)))]
abbrev yA4:HCode:=oR [oV 19 (.mv (.t 8)),
  oV 20 (.fldP (.t 4) 5),
  oV 21 (.ldB (.t 20) 0 35 5 1 false),
  oV 22 (.len false (.t 21)),
  oV 23 (.ints .lss (.t 19) (.t 22))] [19,20,21,22]
abbrev yA5:HCode:=oR [⟨none,.mvo 26 0⟩,
  oV 27 (.fldP (.t 4) 5),
  oV 28 (.ldB (.t 27) 0 35 5 1 false),
  oV 29 (.mv (.t 8)),
  oV 30 (.idxA 6 (.t 28) (.t 29)),
  oV 31 (.ldR (.t 30) 6 true),
  oV 32 (.mv (.t 7)),
  oC 33 zFz [(.t 26,.o),(.t 31,.v),(.t 32,.v)],
  ⟨none,.mvo 0 33⟩] [26,27,28,29,30,31,32,33]
abbrev yA6:HCode:=oR [oV 24 (.mv (.t 8)),
  oV 25 (.ints .add (.t 24) (.c (iv 1))),
  oV 8 (.mv (.t 25))] [24,25]
abbrev yA7:HCode:=oR [⟨none,.mvo 34 0⟩,
  ⟨none,.mvo 6 34⟩] [34]
abbrev yF8:HCode:=(.seq yAZ (.seq yA0 (.seq yA1 (.seq yA2 (.seq (.seq yA3 (.block 0 (.loop (.seq (.seq yA4 (.cond (.t 23) .skip (.exit 0))) (.seq (.block 1 yA5) yA6))))) (.seq yA7 .ret))))))
abbrev zWg:Env:={N:=35,Γ:=[(35,6)],L:=41,nfix:=0}
abbrev ref_lay_R:List RSrc:=[.tmp 6]
theorem yA8:zBV Tryz.prog zFz yF8 zWg ref_lay_R:=by kernel_rfl
abbrev zTx:HCode:=oN [oV 2 (.boxF (.t 0)),
  ⟨none,.alloc 4 0 36 [.v (.int .i64 0),.v (mkS []),.v (mkS []),.nl 1,.nl 2,.nl 6]⟩]
abbrev zTy:HCode:=oR [oV 8 (.fldR (.t 2) 0 1),
  oV 9 (.ldR (.t 8) 1 false),
  oV 10 (.mv (.t 1)),
  oV 11 (.idxA 5 (.t 9) (.t 10)),
  oV 12 (.ldR (.t 11) 5 true),
  oC 13 zBQ [(.t 12,.v)],
  oV 14 (.bld [.v (.int .i64 0),.v (mkS []),.v (mkS []),.nl 1,.nl 2,.nl 6] [(0,5,.t 13)]),
  ⟨none,.alloc 5 1 42 [.v (.int .i64 0),.v (mkS []),.v (mkS []),.nl 1,.nl 2,.nl 6]⟩,
  ⟨none,.sto (.t 5) 1 42 0 6 (.t 14)⟩] [8,9,10,11,12,13,14]
abbrev zTz:HCode:=oR [oV 15 (.ldR (.t 2) 1 true),
  oV 16 (.mv (.t 1)),
  oC 17 zCA [(.t 15,.v),(.t 16,.v)],
  oV 6 (.mv (.t 17))] [15,16,17]
abbrev zTA:HCode:=oN [oV 7 (.mv (.c (iv 0)))]
abbrev zTB:HCode:=oR [oV 18 (.mv (.t 7)),
  oV 19 (.mv (.t 6)),
  oV 20 (.len false (.t 19)),
  oV 21 (.ints .lss (.t 18) (.t 20))] [18,19,20]
abbrev zTC:HCode:=oQ [oD 0 false (oV 24 (.fldP (.t 5) 5)),
  oD 1 false ⟨none,.ldo 25 (.t 24) 1 42 5 zAl 6⟩,
  oD 2 false (oV 26 (.ldR (.t 2) 1 true)),
  oD 3 false (oV 27 (.mv (.t 6))),
  oD 4 false (oV 28 (.mv (.t 7))),
  oD 5 false (oV 29 (.idxA 1 (.t 27) (.t 28))),
  oD 6 false (oV 30 (.ldR (.t 29) 1 false)),
  oD 7 true (oC 31 zBL [(.t 26,.v),(.t 30,.v)]),
  oD 8 false (oV 32 (.bslF 6 [.t 31])),
  oD 9 false ⟨none,.app 33 zAl 6 (.t 25) (.t 32)⟩,
  oD 10 false (oV 34 (.fldP (.t 5) 5)),
  oD 11 false ⟨none,.stw (.t 34) 1 42 5 33⟩] [24,25,26,27,28,29,30,31,32,33,34]
abbrev zTD:HCode:=oR [oV 22 (.mv (.t 7)),
  oV 23 (.ints .add (.t 22) (.c (iv 1))),
  oV 7 (.mv (.t 23))] [22,23]
abbrev zTE:HCode:=oR [oV 35 (.ldB (.t 5) 1 42 0 6 true),
  ⟨none,.sto (.t 4) 0 36 0 6 (.t 35)⟩] [35]
abbrev yA9:HCode:=(.seq zTx (.seq zTy (.seq zTz (.seq (.seq zTA (.block 0 (.loop (.seq (.seq zTB (.cond (.t 21) .skip (.exit 0))) (.seq (.block 1 zTC) zTD))))) (.seq zTE .ret)))))
abbrev zLm:Env:={N:=36,Γ:=[(36,6),(42,6)],L:=48,nfix:=0}
abbrev ref_treeOf_R:List RSrc:=[.cellB 4 0 36 0 6 true]
theorem zTF:zBV Tryz.prog zBL yA9 zLm ref_treeOf_R:=by kernel_rfl
abbrev zTG:HCode:=oN [oV 2 (.boxF (.t 0)),
  ⟨none,.alloc 4 0 36 [.v (.int .i64 0),.v (mkS []),.v (mkS []),.nl 1,.nl 2,.nl 6]⟩]
abbrev zTH:HCode:=oR [oV 8 (.ldR (.t 2) 1 true),
  oV 9 (.mv (.t 1)),
  oC 10 zBL [(.t 8,.v),(.t 9,.v)],
  ⟨none,.alloc 5 1 42 [.v (.int .i64 0),.v (mkS []),.v (mkS []),.nl 1,.nl 2,.nl 6]⟩,
  ⟨none,.sto (.t 5) 1 42 0 6 (.t 10)⟩] [8,9,10]
abbrev zTI:HCode:=oR [oV 11 (.mv (.t 1)),
  oV 12 (.fldP (.t 5) 0),
  oV 13 (.fldP (.t 12) 0),
  ⟨none,.sto (.t 13) 1 42 0 1 (.t 11)⟩] [11,12,13]
abbrev zTJ:HCode:=oR [oV 14 (.ldR (.t 2) 1 true),
  oV 15 (.mv (.t 1)),
  oC 16 zCA [(.t 14,.v),(.t 15,.v)],
  oV 6 (.mv (.t 16))] [14,15,16]
abbrev zTK:HCode:=oR [oV 17 (.fldP (.t 5) 5),
  ⟨none,.sto (.t 17) 1 42 5 1 (.c (.one (.nl 0)))⟩] [17]
abbrev zTL:HCode:=oN [oV 7 (.mv (.c (iv 0)))]
abbrev zTM:HCode:=oR [oV 18 (.mv (.t 7)),
  oV 19 (.mv (.t 6)),
  oV 20 (.len false (.t 19)),
  oV 21 (.ints .lss (.t 18) (.t 20))] [18,19,20]
abbrev zTN:HCode:=oQ [oD 0 false (oV 24 (.fldP (.t 5) 5)),
  oD 1 false ⟨none,.ldo 25 (.t 24) 1 42 5 zAl 6⟩,
  oD 2 false (oV 26 (.ldR (.t 2) 1 true)),
  oD 3 false (oV 27 (.mv (.t 6))),
  oD 4 false (oV 28 (.mv (.t 7))),
  oD 5 false (oV 29 (.idxA 1 (.t 27) (.t 28))),
  oD 6 false (oV 30 (.ldR (.t 29) 1 false)),
  oD 7 true (oC 31 zDo [(.t 26,.v),(.t 30,.v)]),
  oD 8 false (oV 32 (.bslF 6 [.t 31])),
  oD 9 false ⟨none,.app 33 zAl 6 (.t 25) (.t 32)⟩,
  oD 10 false (oV 34 (.fldP (.t 5) 5)),
  oD 11 false ⟨none,.stw (.t 34) 1 42 5 33⟩] [24,25,26,27,28,29,30,31,32,33,34]
abbrev zTO:HCode:=oR [oV 22 (.mv (.t 7)),
  oV 23 (.ints .add (.t 22) (.c (iv 1))),
  oV 7 (.mv (.t 23))] [22,23]
abbrev zTP:HCode:=oR [oV 35 (.ldB (.t 5) 1 42 0 6 true),
  ⟨none,.sto (.t 4) 0 36 0 6 (.t 35)⟩] [35]
abbrev yBa:HCode:=(.seq zTG (.seq zTH (.seq zTI (.seq zTJ (.seq zTK (.seq (.seq zTL (.block 0 (.loop (.seq (.seq zTM (.cond (.t 21) .skip (.exit 0))) (.seq (.block 1 zTN) zTO))))) (.seq zTP .ret)))))))
abbrev zLn:Env:={N:=36,Γ:=[(36,6),(42,6)],L:=48,nfix:=0}
abbrev ref_marked_R:List RSrc:=[.cellB 4 0 36 0 6 true]
theorem zTQ:zBV Tryz.prog zDo yBa zLn ref_marked_R:=by kernel_rfl
abbrev zX0:HCode:=oN [⟨none,.box 4 0 63 6 (.t 0)⟩,
  oV 7 (.boxF (.t 3)),
  ⟨none,.alloc 8 1 69 [.v (.int .i64 0),.v (mkS []),.v (mkS []),.nl 1,.nl 2,.nl 6]⟩]
abbrev zX1:HCode:=oN [⟨none,.nlo 9 zAl 6⟩]
abbrev zX2:HCode:=oN [oV 10 (.mv (.c (iv 0)))]
abbrev zX3:HCode:=oR [oV 11 (.mv (.t 10)),
  oV 12 (.fldP (.t 4) 5),
  oV 13 (.ldB (.t 12) 0 63 5 1 false),
  oV 14 (.len false (.t 13)),
  oV 15 (.ints .lss (.t 11) (.t 14))] [11,12,13,14]
abbrev zX4:HCode:=oR [oV 18 (.fldP (.t 4) 0),
  oV 19 (.fldP (.t 18) 0),
  oV 20 (.ldB (.t 19) 0 63 0 1 false),
  oV 21 (.mv (.t 1)),
  oV 22 (.ints .eql (.t 20) (.t 21)),
  oV 23 (.mv (.t 22)),
  oG 23 true 24 (.mv (.t 10)),
  oG 23 true 25 (.mv (.t 2)),
  oG 23 true 26 (.ints .eql (.t 24) (.t 25)),
  oV 27 (.pick (.t 23) (.t 26) (.c (bv false)))] [18,19,20,21,22,23,24,25,26]
abbrev zX5:HCode:=oR [⟨none,.mvo 28 9⟩,
  oV 29 (.ldR (.t 7) 6 true),
  oV 30 (.bslF 6 [.t 29]),
  ⟨none,.app 31 zAl 6 (.t 28) (.t 30)⟩,
  ⟨none,.mvo 9 31⟩] [28,29,30,31]
abbrev zX6:HCode:=oQ [oD 0 false ⟨none,.mvo 32 9⟩,
  oD 1 false (oV 33 (.fldP (.t 4) 5)),
  oD 2 false (oV 34 (.ldB (.t 33) 0 63 5 1 false)),
  oD 3 false (oV 35 (.mv (.t 10))),
  oD 4 false (oV 36 (.idxA 6 (.t 34) (.t 35))),
  oD 5 false (oV 37 (.ldR (.t 36) 6 true)),
  oD 6 false (oV 38 (.mv (.t 1))),
  oD 7 false (oV 39 (.mv (.t 2))),
  oD 8 false (oV 40 (.ldR (.t 7) 6 true)),
  oD 9 true (oC 41 zFY [(.t 37,.v),(.t 38,.v),(.t 39,.v),(.t 40,.v)]),
  oD 10 false (oV 42 (.bslF 6 [.t 41])),
  oD 11 false ⟨none,.app 43 zAl 6 (.t 32) (.t 42)⟩,
  oD 12 false ⟨none,.mvo 9 43⟩] [32,33,34,35,36,37,38,39,40,41,42,43]
abbrev zX7:HCode:=oR [oV 16 (.mv (.t 10)),
  oV 17 (.ints .add (.t 16) (.c (iv 1))),
  oV 10 (.mv (.t 17))] [16,17]
abbrev zX8:HCode:=oR [oV 44 (.fldP (.t 4) 0),
  oV 45 (.fldP (.t 44) 0),
  oV 46 (.ldB (.t 45) 0 63 0 1 false),
  oV 47 (.mv (.t 1)),
  oV 48 (.ints .eql (.t 46) (.t 47)),
  oV 49 (.mv (.t 48)),
  oG 49 true 50 (.mv (.t 2)),
  oG 49 true 51 (.fldP (.t 4) 5),
  oG 49 true 52 (.ldB (.t 51) 0 63 5 1 false),
  oG 49 true 53 (.len false (.t 52)),
  oG 49 true 54 (.ints .eql (.t 50) (.t 53)),
  oV 55 (.pick (.t 49) (.t 54) (.c (bv false)))] [44,45,46,47,48,49,50,51,52,53,54]
abbrev zX9:HCode:=oR [⟨none,.mvo 56 9⟩,
  oV 57 (.ldR (.t 7) 6 true),
  oV 58 (.bslF 6 [.t 57]),
  ⟨none,.app 59 zAl 6 (.t 56) (.t 58)⟩,
  ⟨none,.mvo 9 59⟩] [56,57,58,59]
abbrev zWh:HCode:=.reg [oV 60 (.mv (.t 9)),
  oV 61 (.fldP (.t 4) 5),
  ⟨none,.sto (.t 61) 0 63 5 1 (.t 60)⟩] false [.frz 0 63 6,.forget [60,61]]
abbrev zWi:HCode:=oR [oV 62 (.ldR (.t 4) 6 true),
  ⟨none,.sto (.t 8) 1 69 0 6 (.t 62)⟩] [62]
abbrev yDT:HCode:=(.seq zX0 (.seq zX1 (.seq (.seq zX2 (.block 0 (.loop (.seq (.seq zX3 (.cond (.t 15) .skip (.exit 0))) (.seq (.block 1 (.seq (.seq zX4 (.cond (.t 27) zX5 .skip)) zX6)) zX7))))) (.seq (.seq zX8 (.cond (.t 55) zX9 .skip)) (.seq zWh (.seq zWi .ret))))))
abbrev zR9:Env:={N:=63,Γ:=[(63,6),(69,6)],L:=75,nfix:=0}
abbrev ref_with_R:List RSrc:=[.cellB 8 1 69 0 6 true]
theorem zYa:zBV Tryz.prog zFY yDT zR9 ref_with_R:=by kernel_rfl
abbrev zQs:HCode:=oN [⟨none,.box 2 0 36 6 (.t 0)⟩,
  ⟨none,.alloc 4 1 42 [.v (.int .i64 0),.v (mkS []),.v (mkS []),.nl 1,.nl 2,.nl 6]⟩]
abbrev zQt:HCode:=oN [⟨none,.nlo 5 zAl 6⟩]
abbrev zQu:HCode:=oN [oV 6 (.mv (.c (iv 0)))]
abbrev zQv:HCode:=oR [oV 7 (.mv (.t 6)),
  oV 8 (.fldP (.t 2) 5),
  oV 9 (.ldB (.t 8) 0 36 5 1 false),
  oV 10 (.len false (.t 9)),
  oV 11 (.ints .lss (.t 7) (.t 10))] [7,8,9,10]
abbrev zQw:HCode:=oR [oV 14 (.fldP (.t 2) 5),
  oV 15 (.ldB (.t 14) 0 36 5 1 false),
  oV 16 (.mv (.t 6)),
  oV 17 (.idxA 6 (.t 15) (.t 16)),
  oV 18 (.fldR (.t 17) 0 5),
  oV 19 (.fldR (.t 18) 0 1),
  oV 20 (.ldR (.t 19) 1 false),
  oV 21 (.mv (.t 1)),
  oV 22 (.ints .neq (.t 20) (.t 21))] [14,15,16,17,18,19,20,21]
abbrev zQx:HCode:=oR [⟨none,.mvo 23 5⟩,
  oV 24 (.fldP (.t 2) 5),
  oV 25 (.ldB (.t 24) 0 36 5 1 false),
  oV 26 (.mv (.t 6)),
  oV 27 (.idxA 6 (.t 25) (.t 26)),
  oV 28 (.ldR (.t 27) 6 true),
  oV 29 (.mv (.t 1)),
  oC 30 zDL [(.t 28,.v),(.t 29,.v)],
  oV 31 (.bslF 6 [.t 30]),
  ⟨none,.app 32 zAl 6 (.t 23) (.t 31)⟩,
  ⟨none,.mvo 5 32⟩] [23,24,25,26,27,28,29,30,31,32]
abbrev zQy:HCode:=oR [oV 12 (.mv (.t 6)),
  oV 13 (.ints .add (.t 12) (.c (iv 1))),
  oV 6 (.mv (.t 13))] [12,13]
abbrev zQz:HCode:=oR [oV 33 (.mv (.t 5)),
  oV 34 (.fldP (.t 2) 5),
  ⟨none,.sto (.t 34) 0 36 5 1 (.t 33)⟩] [33,34]
abbrev zQA:HCode:=oR [oV 35 (.ldB (.t 2) 0 36 0 6 true),
  ⟨none,.sto (.t 4) 1 42 0 6 (.t 35)⟩] [35]
abbrev zYb:HCode:=(.seq zQs (.seq zQt (.seq (.seq zQu (.block 0 (.loop (.seq (.seq zQv (.cond (.t 11) .skip (.exit 0))) (.seq (.block 1 (.seq zQw (.cond (.t 22) zQx .skip))) zQy))))) (.seq zQz (.seq zQA .ret)))))
abbrev zJx:Env:={N:=36,Γ:=[(36,6),(42,6)],L:=48,nfix:=0}
abbrev ref_without_R:List RSrc:=[.cellB 4 1 42 0 6 true]
theorem zQB:zBV Tryz.prog zDL zYb zJx ref_without_R:=by kernel_rfl
abbrev zLO:HCode:=oN [oV 2 (.boxF (.t 0)),
  ⟨none,.alloc 4 0 23 [.nl 5]⟩,
  oV 5 (.mv (.c (iv 0)))]
abbrev zLP:HCode:=oR [oV 7 (.ldR (.t 2) 1 true),
  oV 8 (.mv (.t 1)),
  oC 9 zEQ [(.t 7,.v),(.t 8,.v)],
  oV 6 (.mv (.t 9))] [7,8,9]
abbrev zLQ:HCode:=oR [oV 10 (.mv (.t 6)),
  oV 11 (.ints .neq (.t 10) (.c (iv 0)))] [10]
abbrev zLR:HCode:=oR [oV 12 (.bld [.nl 5] []),
  oV 13 (.mv (.t 6)),
  ⟨none,.sto (.t 4) 0 23 0 1 (.t 12)⟩,
  oV 5 (.mv (.t 13))] [12,13]
abbrev zLS:HCode:=oR [oV 14 (.mv (.t 1)),
  oV 15 (.ints .eql (.t 14) (.c (iv 0)))] [14]
abbrev zLT:HCode:=oR [oV 16 (.bld [.nl 5] []),
  ⟨none,.sto (.t 4) 0 23 0 1 (.t 16)⟩,
  oV 5 (.mv (.c (iv 3)))] [16]
abbrev zLU:HCode:=oR [oV 17 (.ldR (.t 2) 1 true),
  oC 18 zDo [(.t 17,.v),(.c (iv 0),.v)],
  oV 19 (.mv (.t 1)),
  oC 20 zDL [(.t 18,.v),(.t 19,.v)],
  oC 21 zFz [(.c (.one (.nl 0)),.n zAz 5),(.t 20,.v),(.c (iv (-1)),.v)],
  oV 22 (.bld [.nl 5] [(0,1,.t 21)]),
  ⟨none,.sto (.t 4) 0 23 0 1 (.t 22)⟩,
  oV 5 (.mv (.c (iv 0)))] [17,18,19,20,21,22]
abbrev zTR:HCode:=(.seq zLO (.seq (.seq zLP (.seq zLQ (.cond (.t 11) (.seq zLR .ret) .skip))) (.seq (.seq zLS (.cond (.t 15) (.seq zLT .ret) .skip)) (.seq zLU .ret))))
abbrev zGI:Env:={N:=23,Γ:=[(23,1)],L:=24,nfix:=0}
abbrev ref_RemoveDoc_R:List RSrc:=[.cellB 4 0 23 0 1 true,.tmp 5]
theorem zLV:zBV Tryz.prog zCT zTR zGI ref_RemoveDoc_R:=by kernel_rfl
abbrev zTS:HCode:=oN [oV 1 (.boxF (.t 0)),
  ⟨none,.alloc 2 0 24 [.nl 5]⟩]
abbrev zTT:HCode:=oN [⟨none,.alloc 3 1 25 [.nl 5]⟩]
abbrev zTU:HCode:=oN [oV 4 (.mv (.c (iv 0)))]
abbrev zTV:HCode:=oR [oV 5 (.mv (.t 4)),
  oV 6 (.fldR (.t 1) 0 1),
  oV 7 (.ldR (.t 6) 1 false),
  oV 8 (.len false (.t 7)),
  oV 9 (.ints .lss (.t 5) (.t 8))] [5,6,7,8]
abbrev zTW:HCode:=oQ [oD 0 false (oV 12 (.fldP (.t 3) 0)),
  oD 1 false ⟨none,.ldo 13 (.t 12) 1 25 0 zAz 5⟩,
  oD 2 false (oV 14 (.fldR (.t 1) 0 1)),
  oD 3 false (oV 15 (.ldR (.t 14) 1 false)),
  oD 4 false (oV 16 (.mv (.t 4))),
  oD 5 false (oV 17 (.idxA 5 (.t 15) (.t 16))),
  oD 6 false (oV 18 (.ldR (.t 17) 5 true)),
  oD 7 true (oC 19 zBQ [(.t 18,.v)]),
  oD 8 false (oV 20 (.bslF 5 [.t 19])),
  oD 9 false ⟨none,.app 21 zAz 5 (.t 13) (.t 20)⟩,
  oD 10 false (oV 22 (.fldP (.t 3) 0)),
  oD 11 false ⟨none,.stw (.t 22) 1 25 0 21⟩] [12,13,14,15,16,17,18,19,20,21,22]
abbrev zTX:HCode:=oR [oV 10 (.mv (.t 4)),
  oV 11 (.ints .add (.t 10) (.c (iv 1))),
  oV 4 (.mv (.t 11))] [10,11]
abbrev zTY:HCode:=oR [oV 23 (.ldB (.t 3) 1 25 0 1 true),
  ⟨none,.sto (.t 2) 0 24 0 1 (.t 23)⟩] [23]
abbrev yBb:HCode:=(.seq zTS (.seq zTT (.seq (.seq zTU (.block 0 (.loop (.seq (.seq zTV (.cond (.t 9) .skip (.exit 0))) (.seq (.block 1 zTW) zTX))))) (.seq zTY .ret))))
abbrev zLo:Env:={N:=24,Γ:=[(24,1),(25,1)],L:=26,nfix:=0}
abbrev ref_OwnDoc_R:List RSrc:=[.cellB 2 0 24 0 1 true]
theorem zTZ:zBV Tryz.prog zCB yBb zLo ref_OwnDoc_R:=by kernel_rfl
abbrev zLW:HCode:=oN [oV 4 (.mv (.c (bv false)))]
abbrev zLX:HCode:=oR [oV 6 (.mv (.t 0)),
  oV 7 (.len false (.t 6)),
  oV 8 (.mv (.t 1)),
  oV 9 (.len false (.t 8)),
  oV 10 (.ints .neq (.t 7) (.t 9))] [6,7,8,9]
abbrev zLY:HCode:=oN [oV 4 (.mv (.c (bv false)))]
abbrev zLZ:HCode:=oN [oV 5 (.mv (.c (iv 0)))]
abbrev zL0:HCode:=oR [oV 11 (.mv (.t 5)),
  oV 12 (.mv (.t 0)),
  oV 13 (.len false (.t 12)),
  oV 14 (.ints .lss (.t 11) (.t 13))] [11,12,13]
abbrev zL1:HCode:=oQ [oD 0 false (oV 17 (.mv (.t 0))),
  oD 1 false (oV 18 (.mv (.t 5))),
  oD 2 false (oV 19 (.idxA 1 (.t 17) (.t 18))),
  oD 3 false (oV 20 (.ldR (.t 19) 1 false)),
  oD 4 false (oV 21 (.mv (.t 1))),
  oD 5 false (oV 22 (.mv (.t 5))),
  oD 6 false (oV 23 (.idxA 1 (.t 21) (.t 22))),
  oD 7 false (oV 24 (.ldR (.t 23) 1 false)),
  oD 8 false (oV 25 (.strs .neq (.t 20) (.t 24)))] [17,18,19,20,21,22,23,24]
abbrev zL2:HCode:=oN [oV 4 (.mv (.c (bv false)))]
abbrev zL3:HCode:=oR [oV 15 (.mv (.t 5)),
  oV 16 (.ints .add (.t 15) (.c (iv 1))),
  oV 5 (.mv (.t 16))] [15,16]
abbrev zL4:HCode:=oN [oV 4 (.mv (.c (bv true)))]
abbrev zT0:HCode:=(.seq zLW (.seq (.seq zLX (.cond (.t 10) (.seq zLY .ret) .skip)) (.seq (.seq zLZ (.block 0 (.loop (.seq (.seq zL0 (.cond (.t 14) .skip (.exit 0))) (.seq (.block 1 (.seq zL1 (.cond (.t 25) (.seq zL2 .ret) .skip))) zL3))))) (.seq zL4 .ret))))
abbrev zGJ:Env:={N:=26,Γ:=[],L:=26,nfix:=0}
abbrev ref_SameTexts_R:List RSrc:=[.tmp 4]
theorem zL5:zBV Tryz.prog zD4 zT0 zGJ ref_SameTexts_R:=by kernel_rfl
abbrev zN7:HCode:=oN [oV 4 (.mv (.c (bv false)))]
abbrev zN8:HCode:=oR [oV 6 (.mv (.t 0)),
  oV 7 (.len false (.t 6)),
  oV 8 (.mv (.t 1)),
  oV 9 (.len false (.t 8)),
  oV 10 (.ints .neq (.t 7) (.t 9))] [6,7,8,9]
abbrev zN9:HCode:=oN [oV 4 (.mv (.c (bv false)))]
abbrev zOa:HCode:=oN [oV 5 (.mv (.c (iv 0)))]
abbrev zOb:HCode:=oR [oV 11 (.mv (.t 5)),
  oV 12 (.mv (.t 0)),
  oV 13 (.len false (.t 12)),
  oV 14 (.ints .lss (.t 11) (.t 13))] [11,12,13]
abbrev zOc:HCode:=oQ [oD 0 false (oV 17 (.mv (.t 0))),
  oD 1 false (oV 18 (.mv (.t 5))),
  oD 2 false (oV 19 (.idxA 1 (.t 17) (.t 18))),
  oD 3 false (oV 20 (.ldR (.t 19) 1 false)),
  oD 4 false (oV 21 (.mv (.t 1))),
  oD 5 false (oV 22 (.mv (.t 5))),
  oD 6 false (oV 23 (.idxA 1 (.t 21) (.t 22))),
  oD 7 false (oV 24 (.ldR (.t 23) 1 false)),
  oD 8 false (oV 25 (.ints .neq (.t 20) (.t 24)))] [17,18,19,20,21,22,23,24]
abbrev zOd:HCode:=oN [oV 4 (.mv (.c (bv false)))]
abbrev zOe:HCode:=oR [oV 15 (.mv (.t 5)),
  oV 16 (.ints .add (.t 15) (.c (iv 1))),
  oV 5 (.mv (.t 16))] [15,16]
abbrev zOf:HCode:=oN [oV 4 (.mv (.c (bv true)))]
abbrev zWj:HCode:=(.seq zN7 (.seq (.seq zN8 (.cond (.t 10) (.seq zN9 .ret) .skip)) (.seq (.seq zOa (.block 0 (.loop (.seq (.seq zOb (.cond (.t 14) .skip (.exit 0))) (.seq (.block 1 (.seq zOc (.cond (.t 25) (.seq zOd .ret) .skip))) zOe))))) (.seq zOf .ret))))
abbrev zIa:Env:={N:=26,Γ:=[],L:=26,nfix:=0}
abbrev ref_SameInts_R:List RSrc:=[.tmp 4]
theorem zOg:zBV Tryz.prog zEs zWj zIa ref_SameInts_R:=by kernel_rfl
abbrev zL6:HCode:=oN [oV 2 (.boxF (.t 0)),
  oV 3 (.boxF (.t 1)),
  oV 4 (.mv (.c (bv false)))]
abbrev zL7:HCode:=oR [oV 6 (.fldR (.t 2) 0 1),
  oV 7 (.ldR (.t 6) 1 false),
  oV 8 (.fldR (.t 3) 0 1),
  oV 9 (.ldR (.t 8) 1 false),
  oV 10 (.ints .neq (.t 7) (.t 9)),
  oV 11 (.mv (.t 10)),
  oG 11 false 12 (.fldR (.t 2) 1 1),
  oG 11 false 13 (.ldR (.t 12) 1 false),
  oG 11 false 14 (.fldR (.t 3) 1 1),
  oG 11 false 15 (.ldR (.t 14) 1 false),
  oG 11 false 16 (.strs .neq (.t 13) (.t 15)),
  oV 17 (.pick (.t 11) (.c (bv true)) (.t 16)),
  oV 18 (.mv (.t 17)),
  oG 18 false 19 (.fldR (.t 2) 2 1),
  oG 18 false 20 (.ldR (.t 19) 1 false),
  oG 18 false 21 (.fldR (.t 3) 2 1),
  oG 18 false 22 (.ldR (.t 21) 1 false),
  oG 18 false 23 (.strs .neq (.t 20) (.t 22)),
  oV 24 (.pick (.t 18) (.c (bv true)) (.t 23)),
  oV 25 (.mv (.t 24)),
  oG 25 false 26 (.fldR (.t 2) 3 1),
  oG 25 false 27 (.ldR (.t 26) 1 false),
  oG 25 false 28 (.fldR (.t 3) 3 1),
  oG 25 false 29 (.ldR (.t 28) 1 false),
  ⟨some (25,false),.call (some 30) zD4 [(.t 27,.v),(.t 29,.v)]⟩,
  oG 25 false 31 (.not (.t 30)),
  oV 32 (.pick (.t 25) (.c (bv true)) (.t 31)),
  oV 33 (.mv (.t 32)),
  oG 33 false 34 (.fldR (.t 2) 4 1),
  oG 33 false 35 (.ldR (.t 34) 1 false),
  oG 33 false 36 (.len false (.t 35)),
  oG 33 false 37 (.fldR (.t 3) 4 1),
  oG 33 false 38 (.ldR (.t 37) 1 false),
  oG 33 false 39 (.len false (.t 38)),
  oG 33 false 40 (.ints .neq (.t 36) (.t 39)),
  oV 41 (.pick (.t 33) (.c (bv true)) (.t 40))] [6,7,8,9,10,11,12,13,14,15,16,17,18,19,20,21,22,23,24,25,26,27,28,29,30,31,32,33,34,35,36,37,38,39,40]
abbrev zL8:HCode:=oN [oV 4 (.mv (.c (bv false)))]
abbrev zL9:HCode:=oN [oV 5 (.mv (.c (iv 0)))]
abbrev zMa:HCode:=oR [oV 42 (.mv (.t 5)),
  oV 43 (.fldR (.t 2) 4 1),
  oV 44 (.ldR (.t 43) 1 false),
  oV 45 (.len false (.t 44)),
  oV 46 (.ints .lss (.t 42) (.t 45))] [42,43,44,45]
abbrev zMb:HCode:=oQ [oD 0 false (oV 49 (.fldR (.t 2) 4 1)),
  oD 1 false (oV 50 (.ldR (.t 49) 1 false)),
  oD 2 false (oV 51 (.mv (.t 5))),
  oD 3 false (oV 52 (.idxA 2 (.t 50) (.t 51))),
  oD 4 false (oV 53 (.ldR (.t 52) 2 true)),
  oD 5 false (oV 54 (.fldR (.t 3) 4 1)),
  oD 6 false (oV 55 (.ldR (.t 54) 1 false)),
  oD 7 false (oV 56 (.mv (.t 5))),
  oD 8 false (oV 57 (.idxA 2 (.t 55) (.t 56))),
  oD 9 false (oV 58 (.ldR (.t 57) 2 true)),
  oD 10 false (oV 59 (.steq true [2,2] (.t 53) (.t 58)))] [49,50,51,52,53,54,55,56,57,58]
abbrev zMc:HCode:=oN [oV 4 (.mv (.c (bv false)))]
abbrev zMd:HCode:=oR [oV 47 (.mv (.t 5)),
  oV 48 (.ints .add (.t 47) (.c (iv 1))),
  oV 5 (.mv (.t 48))] [47,48]
abbrev zMe:HCode:=oN [oV 4 (.mv (.c (bv true)))]
abbrev zT1:HCode:=(.seq zL6 (.seq (.seq zL7 (.cond (.t 41) (.seq zL8 .ret) .skip)) (.seq (.seq zL9 (.block 0 (.loop (.seq (.seq zMa (.cond (.t 46) .skip (.exit 0))) (.seq (.block 1 (.seq zMb (.cond (.t 59) (.seq zMc .ret) .skip))) zMd))))) (.seq zMe .ret))))
abbrev zGK:Env:={N:=60,Γ:=[],L:=60,nfix:=0}
abbrev ref_SameNodes_R:List RSrc:=[.tmp 4]
theorem zMf:zBV Tryz.prog zD3 zT1 zGK ref_SameNodes_R:=by kernel_rfl
abbrev zOh:HCode:=oN [oV 2 (.boxF (.t 0)),
  oV 3 (.boxF (.t 1)),
  oV 4 (.mv (.c (bv false)))]
abbrev zOi:HCode:=oR [oV 6 (.fldR (.t 2) 0 1),
  oV 7 (.ldR (.t 6) 1 false),
  oV 8 (.len false (.t 7)),
  oV 9 (.fldR (.t 3) 0 1),
  oV 10 (.ldR (.t 9) 1 false),
  oV 11 (.len false (.t 10)),
  oV 12 (.ints .neq (.t 8) (.t 11))] [6,7,8,9,10,11]
abbrev zOj:HCode:=oN [oV 4 (.mv (.c (bv false)))]
abbrev zOk:HCode:=oN [oV 5 (.mv (.c (iv 0)))]
abbrev zOl:HCode:=oR [oV 13 (.mv (.t 5)),
  oV 14 (.fldR (.t 2) 0 1),
  oV 15 (.ldR (.t 14) 1 false),
  oV 16 (.len false (.t 15)),
  oV 17 (.ints .lss (.t 13) (.t 16))] [13,14,15,16]
abbrev zOm:HCode:=oQ [oD 0 false (oV 20 (.fldR (.t 2) 0 1)),
  oD 1 false (oV 21 (.ldR (.t 20) 1 false)),
  oD 2 false (oV 22 (.mv (.t 5))),
  oD 3 false (oV 23 (.idxA 5 (.t 21) (.t 22))),
  oD 4 false (oV 24 (.ldR (.t 23) 5 true)),
  oD 5 false (oV 25 (.fldR (.t 3) 0 1)),
  oD 6 false (oV 26 (.ldR (.t 25) 1 false)),
  oD 7 false (oV 27 (.mv (.t 5))),
  oD 8 false (oV 28 (.idxA 5 (.t 26) (.t 27))),
  oD 9 false (oV 29 (.ldR (.t 28) 5 true)),
  oD 10 true (oC 30 zD3 [(.t 24,.v),(.t 29,.v)]),
  oD 11 false (oV 31 (.not (.t 30)))] [20,21,22,23,24,25,26,27,28,29,30]
abbrev zOn:HCode:=oN [oV 4 (.mv (.c (bv false)))]
abbrev zOo:HCode:=oR [oV 18 (.mv (.t 5)),
  oV 19 (.ints .add (.t 18) (.c (iv 1))),
  oV 5 (.mv (.t 19))] [18,19]
abbrev zOp:HCode:=oN [oV 4 (.mv (.c (bv true)))]
abbrev zWk:HCode:=(.seq zOh (.seq (.seq zOi (.cond (.t 12) (.seq zOj .ret) .skip)) (.seq (.seq zOk (.block 0 (.loop (.seq (.seq zOl (.cond (.t 17) .skip (.exit 0))) (.seq (.block 1 (.seq zOm (.cond (.t 31) (.seq zOn .ret) .skip))) zOo))))) (.seq zOp .ret))))
abbrev zIb:Env:={N:=32,Γ:=[],L:=32,nfix:=0}
abbrev ref_SameDocs_R:List RSrc:=[.tmp 4]
theorem zOq:zBV Tryz.prog zEr zWk zIb ref_SameDocs_R:=by kernel_rfl
end Go.Hx
end

section
/-
 The abstract code of functions of the program, printed by gen.py; each stands for the given one. No condition.
-/
namespace Go.Hx
open Go.Proofs
variable [Glob]
abbrev zC6:Nat:=99
abbrev zFZ:Nat:=138
abbrev zEh:Nat:=187
abbrev zEi:Nat:=189
abbrev zDp:Nat:=191
abbrev zF0:Nat:=75
abbrev zCp:Nat:=132
abbrev zDq:Nat:=133
abbrev zDH:Nat:=185
abbrev zER:Nat:=139
abbrev zF1:Nat:=77
abbrev zCq:Nat:=137
abbrev zGL:Nat:=192
abbrev zCC:Nat:=131
abbrev zIw:Nat:=130
abbrev zCb:Nat:=135
abbrev zCr:Nat:=188
abbrev zC0:Nat:=186
abbrev zES:Nat:=136
abbrev zGM:Nat:=61
abbrev zBg:Nat:=72
abbrev zA1:Nat:=71
abbrev zBM:Nat:=134
abbrev zBz:Nat:=190
abbrev zEt:Nat:=184
abbrev zBW:Nat:=228
abbrev zGf:HCode:=oN [⟨none,.nlo 2 zDU 1⟩]
abbrev zGg:HCode:=oR [oV 3 (.mv (.t 0)),
  ⟨none,.isn 4 false (.t 3)⟩] [3]
abbrev zGh:HCode:=oN [⟨none,.nlo 2 zDU 1⟩]
abbrev zGi:HCode:=oR [⟨none,.bsl 5 zDU 1 []⟩,
  oV 6 (.mv (.t 0)),
  ⟨none,.app 7 zDU 1 (.t 5) (.t 6)⟩,
  ⟨none,.mvo 2 7⟩] [5,6,7]
abbrev zIx:HCode:=(.seq zGf (.seq (.seq zGg (.cond (.t 4) (.seq zGh .ret) .skip)) (.seq zGi .ret)))
abbrev zDV:Env:={N:=8,Γ:=[],L:=8,nfix:=0}
abbrev slices_Clone_string_R:List RSrc:=[.tmp 2]
theorem zGj:zBV Tryz.prog zA1 zIx zDV slices_Clone_string_R:=by kernel_rfl
abbrev zHU:HCode:=oN [⟨none,.nlo 2 zCZ 2⟩]
abbrev zHV:HCode:=oR [oV 3 (.mv (.t 0)),
  ⟨none,.isn 4 false (.t 3)⟩] [3]
abbrev zHW:HCode:=oN [⟨none,.nlo 2 zCZ 2⟩]
abbrev zHX:HCode:=oR [⟨none,.bsl 5 zCZ 2 []⟩,
  oV 6 (.mv (.t 0)),
  ⟨none,.app 7 zCZ 2 (.t 5) (.t 6)⟩,
  ⟨none,.mvo 2 7⟩] [5,6,7]
abbrev zKK:HCode:=(.seq zHU (.seq (.seq zHV (.cond (.t 4) (.seq zHW .ret) .skip)) (.seq zHX .ret)))
abbrev zEu:Env:={N:=8,Γ:=[],L:=8,nfix:=0}
abbrev slices_Clone_Attr_R:List RSrc:=[.tmp 2]
theorem zHY:zBV Tryz.prog zBg zKK zEu slices_Clone_Attr_R:=by kernel_rfl
abbrev zFA:HCode:=oN [oV 4 (.mv (.c (iv 0)))]
abbrev zFB:HCode:=oR [oV 6 (.mv (.t 0)),
  oV 7 (.len false (.t 6)),
  oV 8 (.mv (.c (iv 0)))] [6]
abbrev zFC:HCode:=oN [oV 9 (.ints .lss (.t 8) (.t 7))]
abbrev zFD:HCode:=oR [oV 10 (.mv (.t 8)),
  oV 5 (.mv (.t 10))] [10]
abbrev zFE:HCode:=oR [oV 11 (.mv (.t 1)),
  oV 12 (.mv (.t 0)),
  oV 13 (.mv (.t 5)),
  oV 14 (.idxA 2 (.t 12) (.t 13)),
  oV 15 (.ldR (.t 14) 2 true),
  ⟨none,.callv (some 16) (.t 11) [(.t 15,.v)]⟩] [11,12,13,14,15]
abbrev zFF:HCode:=oR [oV 17 (.mv (.t 5)),
  oV 4 (.mv (.t 17))] [17]
abbrev zFG:HCode:=oR [oV 18 (.ints .add (.t 8) (.c (iv 1))),
  oV 8 (.mv (.t 18))] [18]
abbrev zFH:HCode:=oN [oV 4 (.mv (.c (iv (-1))))]
abbrev zGN:HCode:=(.seq zFA (.seq (.seq zFB (.block 0 (.loop (.seq zFC (.seq (.cond (.t 9) .skip (.exit 0)) (.seq (.block 1 (.seq zFD (.seq zFE (.cond (.t 16) (.seq zFF .ret) .skip)))) zFG)))))) (.seq zFH .ret)))
abbrev zDr:Env:={N:=19,Γ:=[],L:=19,nfix:=0}
abbrev slices_IndexFunc_Attr_R:List RSrc:=[.tmp 4]
theorem zFI:zBV Tryz.prog zBW zGN zDr slices_IndexFunc_Attr_R:=by kernel_rfl
abbrev zEv:HCode:=oN [oV 4 (.mv (.c (bv false)))]
abbrev zEw:HCode:=oR [oV 5 (.mv (.t 0)),
  oV 6 (.mv (.t 1)),
  oC 7 zBW [(.t 5,.v),(.t 6,.v)],
  oV 8 (.ints .geq (.t 7) (.c (iv 0))),
  oV 4 (.mv (.t 8))] [5,6,7,8]
abbrev zFJ:HCode:=(.seq zEv (.seq zEw .ret))
abbrev zCH:Env:={N:=9,Γ:=[],L:=9,nfix:=0}
abbrev slices_ContainsFunc_Attr_R:List RSrc:=[.tmp 4]
theorem zEx:zBV Tryz.prog zBz zFJ zCH slices_ContainsFunc_Attr_R:=by kernel_rfl
abbrev zIy:HCode:=oN [oV 4 (.mv (.c (bv false)))]
abbrev zIz:HCode:=oN [oV 5 (.mv (.c (sv [])))]
abbrev zIA:HCode:=oN [oV 8 (.mv (.t 0)),
  oV 9 (.len false (.t 8)),
  oV 10 (.mv (.c (iv 0)))]
abbrev zIB:HCode:=oN [oV 11 (.ints .lss (.t 10) (.t 9))]
abbrev zIC:HCode:=oR [oV 12 (.idxA 1 (.t 8) (.t 10)),
  oV 13 (.ldR (.t 12) 1 false),
  oV 7 (.mv (.t 13))] [12,13]
abbrev zID:HCode:=oR [oV 14 (.mv (.t 1)),
  oV 15 (.mv (.t 7)),
  ⟨none,.callv (some 16) (.t 14) [(.t 15,.v)]⟩,
  oC 17 zDH [(.t 16,.v)],
  oV 18 (.not (.t 17)),
  oV 19 (.mv (.t 18)),
  oG 19 false 20 (.mv (.t 1)),
  oG 19 false 21 (.mv (.t 7)),
  ⟨some (19,false),.callv (some 22) (.t 20) [(.t 21,.v)]⟩,
  oG 19 false 23 (.mv (.t 5)),
  oG 19 false 24 (.strs .leq (.t 22) (.t 23)),
  oV 25 (.pick (.t 19) (.c (bv true)) (.t 24))] [14,15,16,17,18,19,20,21,22,23,24]
abbrev zIE:HCode:=oN [oV 4 (.mv (.c (bv false)))]
abbrev zIF:HCode:=oR [oV 26 (.mv (.t 1)),
  oV 27 (.mv (.t 7)),
  ⟨none,.callv (some 28) (.t 26) [(.t 27,.v)]⟩,
  oV 5 (.mv (.t 28))] [26,27,28]
abbrev zIG:HCode:=oR [oV 29 (.ints .add (.t 10) (.c (iv 1))),
  oV 10 (.mv (.t 29))] [29]
abbrev zIH:HCode:=oN [oV 4 (.mv (.c (bv true)))]
abbrev zMg:HCode:=(.seq zIy (.seq zIz (.seq (.seq zIA (.block 0 (.loop (.seq zIB (.seq (.cond (.t 11) .skip (.exit 0)) (.seq (.block 1 (.seq zIC (.seq (.seq zID (.cond (.t 25) (.seq zIE .ret) .skip)) zIF))) zIG)))))) (.seq zIH .ret))))
abbrev zET:Env:={N:=30,Γ:=[],L:=30,nfix:=0}
abbrev doc_rises_string_R:List RSrc:=[.tmp 4]
theorem zII:zBV Tryz.prog zC0 zMg zET doc_rises_string_R:=by kernel_rfl
abbrev zGO:HCode:=oN [oV 4 (.mv (.c (bv false)))]
abbrev zGP:HCode:=oN [oV 5 (.mv (.c (sv [])))]
abbrev zGQ:HCode:=oN [oV 8 (.mv (.t 0)),
  oV 9 (.len false (.t 8)),
  oV 10 (.mv (.c (iv 0)))]
abbrev zGR:HCode:=oN [oV 11 (.ints .lss (.t 10) (.t 9))]
abbrev zGS:HCode:=oR [oV 12 (.idxA 2 (.t 8) (.t 10)),
  oV 13 (.ldR (.t 12) 2 true),
  ⟨none,.alloc 7 0 30 [.v (mkS []),.v (mkS [])]⟩,
  ⟨none,.sto (.t 7) 0 30 0 2 (.t 13)⟩] [12,13]
abbrev zGT:HCode:=oR [oV 14 (.mv (.t 1)),
  oV 15 (.ldB (.t 7) 0 30 0 2 true),
  ⟨none,.callv (some 16) (.t 14) [(.t 15,.v)]⟩,
  oC 17 zDH [(.t 16,.v)],
  oV 18 (.not (.t 17)),
  oV 19 (.mv (.t 18)),
  oG 19 false 20 (.mv (.t 1)),
  oG 19 false 21 (.ldB (.t 7) 0 30 0 2 true),
  ⟨some (19,false),.callv (some 22) (.t 20) [(.t 21,.v)]⟩,
  oG 19 false 23 (.mv (.t 5)),
  oG 19 false 24 (.strs .leq (.t 22) (.t 23)),
  oV 25 (.pick (.t 19) (.c (bv true)) (.t 24))] [14,15,16,17,18,19,20,21,22,23,24]
abbrev zGU:HCode:=oN [oV 4 (.mv (.c (bv false)))]
abbrev zGV:HCode:=oR [oV 26 (.mv (.t 1)),
  oV 27 (.ldB (.t 7) 0 30 0 2 true),
  ⟨none,.callv (some 28) (.t 26) [(.t 27,.v)]⟩,
  oV 5 (.mv (.t 28))] [26,27,28]
abbrev zGW:HCode:=oR [oV 29 (.ints .add (.t 10) (.c (iv 1))),
  oV 10 (.mv (.t 29))] [29]
abbrev zGX:HCode:=oN [oV 4 (.mv (.c (bv true)))]
abbrev zJy:HCode:=(.seq zGO (.seq zGP (.seq (.seq zGQ (.block 0 (.loop (.seq zGR (.seq (.cond (.t 11) .skip (.exit 0)) (.seq (.block 1 (.seq zGS (.seq (.seq zGT (.cond (.t 25) (.seq zGU .ret) .skip)) zGV))) zGW)))))) (.seq zGX .ret))))
abbrev zEb:Env:={N:=30,Γ:=[(30,2)],L:=32,nfix:=0}
abbrev doc_rises_api_Attr_R:List RSrc:=[.tmp 4]
theorem zGY:zBV Tryz.prog zCr zJy zEb doc_rises_api_Attr_R:=by kernel_rfl
abbrev zYc:HCode:=oN [oV 1 (.boxF (.t 0)),
  oV 2 (.mv (.c (bv false)))]
abbrev zYd:HCode:=oR [oV 3 (.fldR (.t 1) 1 1),
  oV 4 (.ldR (.t 3) 1 false),
  oC 5 zDH [(.t 4,.v)],
  oV 6 (.mv (.t 5)),
  oG 6 true 7 (.fldR (.t 1) 2 1),
  oG 6 true 8 (.ldR (.t 7) 1 false),
  oG 6 true 9 (.strs .eql (.t 8) (.c (sv []))),
  oG 6 true 10 (.mv (.t 9)),
  oG 10 false 11 (.fldR (.t 1) 2 1),
  oG 10 false 12 (.ldR (.t 11) 1 false),
  ⟨some (10,false),.call (some 13) zDH [(.t 12,.v)]⟩,
  oG 6 true 14 (.pick (.t 10) (.c (bv true)) (.t 13)),
  oV 15 (.pick (.t 6) (.t 14) (.c (bv false))),
  oV 16 (.mv (.t 15)),
  oG 16 true 17 (.fldR (.t 1) 3 1),
  oG 16 true 18 (.ldR (.t 17) 1 false),
  oG 16 true 19 (.len false (.t 18)),
  oG 16 true 20 (.ints .leq (.t 19) (.c (iv 6))),
  oV 21 (.pick (.t 16) (.t 20) (.c (bv false))),
  oV 22 (.mv (.t 21)),
  oG 22 true 23 (.fldR (.t 1) 4 1),
  oG 22 true 24 (.ldR (.t 23) 1 false),
  oG 22 true 25 (.len false (.t 24)),
  oG 22 true 26 (.ints .leq (.t 25) (.c (iv 4))),
  oV 27 (.pick (.t 22) (.t 26) (.c (bv false))),
  oV 28 (.mv (.t 27)),
  oG 28 true 29 (.fldR (.t 1) 3 1),
  oG 28 true 30 (.ldR (.t 29) 1 false),
  ⟨some (28,true),.call (some 31) zC0 [(.t 30,.v),(.f zEh,.v)]⟩,
  oV 32 (.pick (.t 28) (.t 31) (.c (bv false))),
  oV 33 (.mv (.t 32)),
  oG 33 true 34 (.fldR (.t 1) 4 1),
  oG 33 true 35 (.ldR (.t 34) 1 false),
  ⟨some (33,true),.call (some 36) zCr [(.t 35,.v),(.f zEi,.v)]⟩,
  oV 37 (.pick (.t 33) (.t 36) (.c (bv false))),
  oV 38 (.mv (.t 37)),
  oG 38 true 39 (.fldR (.t 1) 4 1),
  oG 38 true 40 (.ldR (.t 39) 1 false),
  ⟨some (38,true),.call (some 41) zBz [(.t 40,.v),(.f zDp,.v)]⟩,
  oG 38 true 42 (.not (.t 41)),
  oV 43 (.pick (.t 38) (.t 42) (.c (bv false))),
  oV 2 (.mv (.t 43))] [3,4,5,6,7,8,9,10,11,12,13,14,15,16,17,18,19,20,21,22,23,24,25,26,27,28,29,30,31,32,33,34,35,36,37,38,39,40,41,42,43]
abbrev yDU:HCode:=(.seq zYc (.seq zYd .ret))
abbrev zSa:Env:={N:=44,Γ:=[],L:=44,nfix:=0}
abbrev doc_Fine_R:List RSrc:=[.tmp 2]
theorem zYe:zBV Tryz.prog zFZ yDU zSa doc_Fine_R:=by kernel_rfl
abbrev zT2:HCode:=oN [oV 2 (.mv (.c (sv [])))]
abbrev zT3:HCode:=oR [oV 3 (.mv (.t 0)),
  oV 2 (.mv (.t 3))] [3]
abbrev yBc:HCode:=(.seq zT2 (.seq zT3 .ret))
abbrev zLp:Env:={N:=4,Γ:=[],L:=4,nfix:=0}
abbrev doc_Fine_1_R:List RSrc:=[.tmp 2]
theorem zT4:zBV Tryz.prog zEh yBc zLp doc_Fine_1_R:=by kernel_rfl
abbrev zT5:HCode:=oN [oV 1 (.boxF (.t 0)),
  oV 2 (.mv (.c (sv [])))]
abbrev zT6:HCode:=oR [oV 3 (.fldR (.t 1) 0 1),
  oV 4 (.ldR (.t 3) 1 false),
  oV 2 (.mv (.t 4))] [3,4]
abbrev yBd:HCode:=(.seq zT5 (.seq zT6 .ret))
abbrev zLq:Env:={N:=5,Γ:=[],L:=5,nfix:=0}
abbrev doc_Fine_2_R:List RSrc:=[.tmp 2]
theorem zT7:zBV Tryz.prog zEi yBd zLq doc_Fine_2_R:=by kernel_rfl
abbrev zT8:HCode:=oN [oV 1 (.boxF (.t 0)),
  oV 2 (.mv (.c (bv false)))]
abbrev zT9:HCode:=oR [oV 3 (.fldR (.t 1) 1 1),
  oV 4 (.ldR (.t 3) 1 false),
  oC 5 zGL [(.t 4,.v)],
  oV 6 (.not (.t 5)),
  oV 2 (.mv (.t 6))] [3,4,5,6]
abbrev yBe:HCode:=(.seq zT8 (.seq zT9 .ret))
abbrev zLr:Env:={N:=7,Γ:=[],L:=7,nfix:=0}
abbrev doc_Fine_3_R:List RSrc:=[.tmp 2]
theorem zUa:zBV Tryz.prog zDp yBe zLr doc_Fine_3_R:=by kernel_rfl
abbrev zWl:HCode:=oN [oV 1 (.boxF (.t 0)),
  oV 2 (.mv (.c (iv 0)))]
abbrev zWm:HCode:=oR [oV 6 (.fldR (.t 1) 0 1),
  oV 7 (.ldR (.t 6) 1 false),
  oV 8 (.len false (.t 7)),
  oV 9 (.ints .lss (.t 8) (.c (iv 1))),
  oV 10 (.mv (.t 9)),
  oG 10 false 11 (.fldR (.t 1) 0 1),
  oG 10 false 12 (.ldR (.t 11) 1 false),
  oG 10 false 13 (.len false (.t 12)),
  oG 10 false 14 (.ints .gtr (.t 13) (.c (iv 64))),
  oV 15 (.pick (.t 10) (.c (bv true)) (.t 14))] [6,7,8,9,10,11,12,13,14]
abbrev zWn:HCode:=oN [oV 2 (.mv (.c (iv 2)))]
abbrev zWo:HCode:=oN [⟨none,.nlk 3 zAD 1⟩]
abbrev zWp:HCode:=oR [oV 16 (.fldR (.t 1) 0 1),
  oV 17 (.ldR (.t 16) 1 false),
  oV 18 (.len false (.t 17)),
  oV 19 (.mv (.c (iv 0)))] [16]
abbrev zWq:HCode:=oN [oV 20 (.ints .lss (.t 19) (.t 18))]
abbrev zWr:HCode:=.reg [oV 21 (.mv (.t 19)),
  oV 22 (.idxA 5 (.t 17) (.t 19)),
  oV 23 (.ldR (.t 22) 5 true),
  ⟨none,.alloc 5 0 69 [.v (.int .i64 0),.v (mkS []),.v (mkS []),.nl 1,.nl 2]⟩,
  oV 4 (.mv (.t 21)),
  ⟨none,.sto (.t 5) 0 69 0 5 (.t 23)⟩] false [.frz 0 69 5,.forget [21,22,23]]
abbrev zWs:HCode:=.rdr 3 [oV 24 (.mv (.t 3)),
  oV 25 (.len false (.t 24)),
  oV 26 (.ints .gtr (.t 25) (.c (iv 0))),
  oV 27 (.mv (.t 26)),
  oG 27 true 28 (.mv (.t 3)),
  oG 27 true 29 (.mv (.t 3)),
  oG 27 true 30 (.len false (.t 29)),
  oG 27 true 31 (.ints .sub (.t 30) (.c (iv 1))),
  oG 27 true 32 (.idxA 1 (.t 28) (.t 31)),
  oG 27 true 33 (.ldR (.t 32) 1 false),
  oG 27 true 34 (.fldR (.t 5) 0 1),
  oG 27 true 35 (.ldR (.t 34) 1 false),
  oG 27 true 36 (.ints .neq (.t 33) (.t 35)),
  oV 37 (.pick (.t 27) (.t 36) (.c (bv false)))] true [.forget [24,25,26,27,28,29,30,31,32,33,34,35,36]]
abbrev zWt:HCode:=oR [⟨none,.mvk 38 3⟩,
  oV 39 (.mv (.t 3)),
  oV 40 (.len false (.t 39)),
  oV 41 (.ints .sub (.t 40) (.c (iv 1))),
  ⟨none,.trk 42 38 (.t 41)⟩,
  ⟨none,.mvk 3 42⟩] [38,39,40,41,42]
abbrev zWu:HCode:=.rdr 3 [oV 43 (.ldR (.t 5) 5 true),
  oC 44 zFZ [(.t 43,.v)],
  oV 45 (.not (.t 44)),
  oV 46 (.mv (.t 45)),
  oG 46 false 47 (.mv (.t 4)),
  oG 46 false 48 (.ints .eql (.t 47) (.c (iv 0))),
  oG 46 false 49 (.mv (.t 48)),
  oG 49 true 50 (.fldR (.t 5) 0 1),
  oG 49 true 51 (.ldR (.t 50) 1 false),
  oG 49 true 52 (.ints .neq (.t 51) (.c (iv (-1)))),
  oG 46 false 53 (.pick (.t 49) (.t 52) (.c (bv false))),
  oV 54 (.pick (.t 46) (.c (bv true)) (.t 53)),
  oV 55 (.mv (.t 54)),
  oG 55 false 56 (.mv (.t 4)),
  oG 55 false 57 (.ints .gtr (.t 56) (.c (iv 0))),
  oG 55 false 58 (.mv (.t 57)),
  oG 58 true 59 (.mv (.t 3)),
  oG 58 true 60 (.len false (.t 59)),
  oG 58 true 61 (.ints .eql (.t 60) (.c (iv 0))),
  oG 55 false 62 (.pick (.t 58) (.t 61) (.c (bv false))),
  oV 63 (.pick (.t 55) (.c (bv true)) (.t 62))] false [.forget [43,44,45,46,47,48,49,50,51,52,53,54,55,56,57,58,59,60,61,62]]
abbrev zUb:HCode:=oN [oV 2 (.mv (.c (iv 1)))]
abbrev zUc:HCode:=oR [⟨none,.mvk 64 3⟩,
  oV 65 (.mv (.t 4)),
  oV 66 (.bslF 1 [.t 65]),
  ⟨none,.apk 67 zAD 1 64 (.t 66)⟩,
  ⟨none,.mvk 3 67⟩] [64,65,66,67]
abbrev zUd:HCode:=oR [oV 68 (.ints .add (.t 19) (.c (iv 1))),
  oV 19 (.mv (.t 68))] [68]
abbrev zUe:HCode:=oN [oV 2 (.mv (.c (iv 0)))]
abbrev yCv:HCode:=(.seq zWl (.seq (.seq zWm (.cond (.t 15) (.seq zWn .ret) .skip)) (.seq zWo (.seq (.seq zWp (.block 0 (.loop (.seq zWq (.seq (.cond (.t 20) .skip (.exit 0)) (.seq (.block 1 (.seq zWr (.seq (.block 2 (.loop (.seq (.seq zWs (.cond (.t 37) .skip (.exit 2))) (.block 3 zWt)))) (.seq (.seq zWu (.cond (.t 63) (.seq zUb .ret) .skip)) zUc)))) zUd)))))) (.seq zUe .ret)))))
abbrev zOr:Env:={N:=69,Γ:=[(69,5)],L:=74,nfix:=0}
abbrev doc_Check_R:List RSrc:=[.tmp 2]
theorem zWv:zBV Tryz.prog zC6 yCv zOr doc_Check_R:=by kernel_rfl
abbrev zUf:HCode:=oN [oV 2 (.boxF (.t 0)),
  oV 4 (.mv (.c (iv 0)))]
abbrev zUg:HCode:=oR [oV 6 (.mv (.t 1)),
  oV 7 (.ints .add (.t 6) (.c (iv 1))),
  oV 5 (.mv (.t 7))] [6,7]
abbrev zUh:HCode:=oR [oV 8 (.mv (.t 5)),
  oV 9 (.fldR (.t 2) 0 1),
  oV 10 (.ldR (.t 9) 1 false),
  oV 11 (.len false (.t 10)),
  oV 12 (.ints .lss (.t 8) (.t 11)),
  oV 13 (.mv (.t 12)),
  oG 13 true 14 (.fldR (.t 2) 0 1),
  oG 13 true 15 (.ldR (.t 14) 1 false),
  oG 13 true 16 (.mv (.t 5)),
  oG 13 true 17 (.idxA 5 (.t 15) (.t 16)),
  oG 13 true 18 (.fldR (.t 17) 0 1),
  oG 13 true 19 (.ldR (.t 18) 1 false),
  oG 13 true 20 (.mv (.t 1)),
  oG 13 true 21 (.ints .geq (.t 19) (.t 20)),
  oV 22 (.pick (.t 13) (.t 21) (.c (bv false)))] [8,9,10,11,12,13,14,15,16,17,18,19,20,21]
abbrev zUi:HCode:=oR [oV 23 (.mv (.t 5)),
  oV 24 (.ints .add (.t 23) (.c (iv 1))),
  oV 5 (.mv (.t 24))] [23,24]
abbrev zUj:HCode:=oR [oV 25 (.mv (.t 5)),
  oV 4 (.mv (.t 25))] [25]
abbrev yBf:HCode:=(.seq zUf (.seq zUg (.seq (.block 0 (.loop (.seq (.seq zUh (.cond (.t 22) .skip (.exit 0))) (.block 1 zUi)))) (.seq zUj .ret))))
abbrev zLs:Env:={N:=26,Γ:=[],L:=26,nfix:=0}
abbrev doc_behind_R:List RSrc:=[.tmp 4]
theorem zUk:zBV Tryz.prog zCC yBf zLs doc_behind_R:=by kernel_rfl
abbrev zWw:HCode:=oN [oV 2 (.boxF (.t 0)),
  oV 4 (.mv (.c (iv 0)))]
abbrev zWx:HCode:=oR [oV 6 (.ldR (.t 2) 1 true),
  oC 7 zC6 [(.t 6,.v)],
  oV 5 (.mv (.t 7))] [6,7]
abbrev zWy:HCode:=oR [oV 8 (.mv (.t 5)),
  oV 9 (.ints .neq (.t 8) (.c (iv 0)))] [8]
abbrev zWz:HCode:=oR [oV 10 (.mv (.t 5)),
  oV 4 (.mv (.t 10))] [10]
abbrev zWA:HCode:=oR [oV 11 (.mv (.t 1)),
  oV 12 (.ints .lss (.t 11) (.c (iv 0))),
  oV 13 (.mv (.t 12)),
  oG 13 false 14 (.mv (.t 1)),
  oG 13 false 15 (.fldR (.t 2) 0 1),
  oG 13 false 16 (.ldR (.t 15) 1 false),
  oG 13 false 17 (.len false (.t 16)),
  oG 13 false 18 (.ints .geq (.t 14) (.t 17)),
  oV 19 (.pick (.t 13) (.c (bv true)) (.t 18))] [11,12,13,14,15,16,17,18]
abbrev zWB:HCode:=oN [oV 4 (.mv (.c (iv 5)))]
abbrev zWC:HCode:=oN [oV 4 (.mv (.c (iv 0)))]
abbrev yCw:HCode:=(.seq zWw (.seq (.seq zWx (.seq zWy (.cond (.t 9) (.seq zWz .ret) .skip))) (.seq (.seq zWA (.cond (.t 19) (.seq zWB .ret) .skip)) (.seq zWC .ret))))
abbrev zOs:Env:={N:=20,Γ:=[],L:=20,nfix:=0}
abbrev doc_there_R:List RSrc:=[.tmp 4]
theorem zWD:zBV Tryz.prog zES yCw zOs doc_there_R:=by kernel_rfl
abbrev zYf:HCode:=oN [oV 2 (.boxF (.t 0)),
  ⟨none,.nlo 4 zAD 1⟩]
abbrev zYg:HCode:=oN [⟨none,.nlo 5 zAD 1⟩]
abbrev zYh:HCode:=oR [oV 7 (.mv (.t 1)),
  oV 8 (.ints .add (.t 7) (.c (iv 1))),
  oV 6 (.mv (.t 8))] [7,8]
abbrev zYi:HCode:=oR [oV 9 (.mv (.t 6)),
  oV 10 (.ldR (.t 2) 1 true),
  oV 11 (.mv (.t 1)),
  oC 12 zCC [(.t 10,.v),(.t 11,.v)],
  oV 13 (.ints .lss (.t 9) (.t 12))] [9,10,11,12]
abbrev zYj:HCode:=oR [⟨none,.mvo 17 5⟩,
  oV 18 (.mv (.t 6)),
  oV 19 (.bslF 1 [.t 18]),
  ⟨none,.app 20 zAD 1 (.t 17) (.t 19)⟩,
  ⟨none,.mvo 5 20⟩] [17,18,19,20]
abbrev zYk:HCode:=oR [oV 14 (.ldR (.t 2) 1 true),
  oV 15 (.mv (.t 6)),
  oC 16 zCC [(.t 14,.v),(.t 15,.v)],
  oV 6 (.mv (.t 16))] [14,15,16]
abbrev zYl:HCode:=oR [⟨none,.mvo 21 5⟩,
  ⟨none,.mvo 4 21⟩] [21]
abbrev yDV:HCode:=(.seq zYf (.seq zYg (.seq (.seq zYh (.block 0 (.loop (.seq (.seq zYi (.cond (.t 13) .skip (.exit 0))) (.seq (.block 1 zYj) zYk))))) (.seq zYl .ret))))
abbrev zSb:Env:={N:=22,Γ:=[],L:=22,nfix:=0}
abbrev doc_kids_R:List RSrc:=[.tmp 4]
theorem zYm:zBV Tryz.prog zIw yDV zSb doc_kids_R:=by kernel_rfl
abbrev yBg:HCode:=oN [⟨none,.nlo 4 zAz 5⟩]
abbrev yBh:HCode:=oN [⟨none,.nlo 5 zAz 5⟩]
abbrev yBi:HCode:=oN [oV 8 (.mv (.t 0)),
  oV 9 (.len false (.t 8)),
  oV 10 (.mv (.c (iv 0)))]
abbrev yBj:HCode:=oN [oV 11 (.ints .lss (.t 10) (.t 9))]
abbrev yBk:HCode:=oR [oV 12 (.idxA 5 (.t 8) (.t 10)),
  oV 13 (.ldR (.t 12) 5 true),
  ⟨none,.alloc 7 0 33 [.v (.int .i64 0),.v (mkS []),.v (mkS []),.nl 1,.nl 2]⟩,
  ⟨none,.sto (.t 7) 0 33 0 5 (.t 13)⟩] [12,13]
abbrev yBl:HCode:=oQ [oD 0 false (oV 14 (.mv (.t 1))),
  oD 1 false (oV 15 (.fldP (.t 7) 0)),
  oD 2 false (oV 16 (.ldB (.t 15) 0 33 0 1 false)),
  oD 3 false ⟨none,.callv (some 17) (.t 14) [(.t 16,.v)]⟩,
  oD 4 false (oV 18 (.fldP (.t 7) 3)),
  oD 5 false (oV 19 (.ldB (.t 18) 0 33 3 1 false)),
  oD 6 false (oC 20 zA1 [(.t 19,.v)]),
  oD 7 false (oV 21 (.fldP (.t 7) 4)),
  oD 8 false (oV 22 (.ldB (.t 21) 0 33 4 1 false)),
  oD 9 false (oC 23 zBg [(.t 22,.v)]),
  oD 10 false (oV 24 (.fldP (.t 7) 0)),
  oD 11 false ⟨none,.sto (.t 24) 0 33 0 1 (.t 17)⟩,
  oD 12 false (oV 25 (.fldP (.t 7) 3)),
  oD 13 false ⟨none,.sto (.t 25) 0 33 3 1 (.t 20)⟩,
  oD 14 false (oV 26 (.fldP (.t 7) 4)),
  oD 15 false ⟨none,.sto (.t 26) 0 33 4 1 (.t 23)⟩] [14,15,16,17,18,19,20,21,22,23,24,25,26]
abbrev yBm:HCode:=oR [⟨none,.mvo 27 5⟩,
  oV 28 (.ldB (.t 7) 0 33 0 5 true),
  oV 29 (.bslF 5 [.t 28]),
  ⟨none,.app 30 zAz 5 (.t 27) (.t 29)⟩,
  ⟨none,.mvo 5 30⟩] [27,28,29,30]
abbrev yBn:HCode:=oR [oV 31 (.ints .add (.t 10) (.c (iv 1))),
  oV 10 (.mv (.t 31))] [31]
abbrev yBo:HCode:=oR [⟨none,.mvo 32 5⟩,
  ⟨none,.mvo 4 32⟩] [32]
abbrev yF9:HCode:=(.seq yBg (.seq yBh (.seq (.seq yBi (.block 0 (.loop (.seq yBj (.seq (.cond (.t 11) .skip (.exit 0)) (.seq (.block 1 (.seq yBk (.seq yBl yBm))) yBn)))))) (.seq yBo .ret))))
abbrev zWE:Env:={N:=33,Γ:=[(33,5)],L:=38,nfix:=0}
abbrev doc_own_R:List RSrc:=[.tmp 4]
theorem yBp:zBV Tryz.prog zCb yF9 zWE doc_own_R:=by kernel_rfl
abbrev zUl:HCode:=oN [oV 4 (.boxF (.t 0)),
  oV 5 (.boxF (.t 1)),
  oV 7 (.boxF (.t 3)),
  ⟨none,.alloc 8 0 89 [.nl 5]⟩,
  oV 9 (.mv (.c (iv 0)))]
abbrev zUm:HCode:=oR [oV 16 (.ldR (.t 4) 1 true),
  oC 17 zC6 [(.t 16,.v)],
  oV 10 (.mv (.t 17))] [16,17]
abbrev zUn:HCode:=oR [oV 18 (.mv (.t 10)),
  oV 19 (.ints .neq (.t 18) (.c (iv 0)))] [18]
abbrev zUo:HCode:=oR [oV 20 (.bld [.nl 5] []),
  oV 21 (.mv (.t 10)),
  ⟨none,.sto (.t 8) 0 89 0 1 (.t 20)⟩,
  oV 9 (.mv (.t 21))] [20,21]
abbrev zUp:HCode:=oR [oV 22 (.ldR (.t 7) 1 true),
  oC 23 zC6 [(.t 22,.v)],
  oV 11 (.mv (.t 23))] [22,23]
abbrev zUq:HCode:=oR [oV 24 (.mv (.t 11)),
  oV 25 (.ints .neq (.t 24) (.c (iv 0)))] [24]
abbrev zUr:HCode:=oR [oV 26 (.bld [.nl 5] []),
  oV 27 (.mv (.t 11)),
  ⟨none,.sto (.t 8) 0 89 0 1 (.t 26)⟩,
  oV 9 (.mv (.t 27))] [26,27]
abbrev zUs:HCode:=oR [oV 28 (.ldR (.t 5) 1 false),
  oV 29 (.ints .lss (.t 28) (.c (iv 0))),
  oV 30 (.mv (.t 29)),
  oG 30 false 31 (.ldR (.t 5) 1 false),
  oG 30 false 32 (.fldR (.t 4) 0 1),
  oG 30 false 33 (.ldR (.t 32) 1 false),
  oG 30 false 34 (.len false (.t 33)),
  oG 30 false 35 (.ints .geq (.t 31) (.t 34)),
  oV 36 (.pick (.t 30) (.c (bv true)) (.t 35))] [28,29,30,31,32,33,34,35]
abbrev zUt:HCode:=oR [oV 37 (.bld [.nl 5] []),
  ⟨none,.sto (.t 8) 0 89 0 1 (.t 37)⟩,
  oV 9 (.mv (.c (iv 5)))] [37]
abbrev zUu:HCode:=oQ [oD 0 false (oV 38 (.ldR (.t 4) 1 true)),
  oD 1 false (oV 39 (.ldR (.t 5) 1 false)),
  oD 2 false (oC 40 zIw [(.t 38,.v),(.t 39,.v)]),
  oD 3 false (oV 41 (.ldR (.t 4) 1 true)),
  oD 4 false (oV 42 (.ldR (.t 5) 1 false)),
  oD 5 true (oC 43 zCC [(.t 41,.v),(.t 42,.v)]),
  oD 6 false (oV 44 (.bslF 1 [.t 43])),
  oD 7 false ⟨none,.app 45 zAD 1 (.t 40) (.t 44)⟩,
  oD 8 false (oV 12 (.mv (.t 45)))] [38,39,40,41,42,43,44,45]
abbrev zQC:HCode:=oR [oV 46 (.mv (.t 2)),
  oV 47 (.ints .lss (.t 46) (.c (iv 0))),
  oV 48 (.mv (.t 47)),
  oG 48 false 49 (.mv (.t 2)),
  oG 48 false 50 (.mv (.t 12)),
  oG 48 false 51 (.len false (.t 50)),
  oG 48 false 52 (.ints .geq (.t 49) (.t 51)),
  oV 53 (.pick (.t 48) (.c (bv true)) (.t 52))] [46,47,48,49,50,51,52]
abbrev zQD:HCode:=oR [oV 54 (.bld [.nl 5] []),
  ⟨none,.sto (.t 8) 0 89 0 1 (.t 54)⟩,
  oV 9 (.mv (.c (iv 3)))] [54]
abbrev zQE:HCode:=oR [oV 55 (.fldR (.t 4) 0 1),
  oV 56 (.ldR (.t 55) 1 false),
  oV 57 (.len false (.t 56)),
  oV 58 (.fldR (.t 7) 0 1),
  oV 59 (.ldR (.t 58) 1 false),
  oV 60 (.len false (.t 59)),
  oV 61 (.ints .add (.t 57) (.t 60)),
  oV 62 (.ints .gtr (.t 61) (.c (iv 64)))] [55,56,57,58,59,60,61]
abbrev zQF:HCode:=oR [oV 63 (.bld [.nl 5] []),
  ⟨none,.sto (.t 8) 0 89 0 1 (.t 63)⟩,
  oV 9 (.mv (.c (iv 2)))] [63]
abbrev zQG:HCode:=.reg [oV 64 (.mv (.t 12)),
  oV 65 (.mv (.t 2)),
  oV 66 (.idxA 1 (.t 64) (.t 65)),
  oV 67 (.ldR (.t 66) 1 false),
  ⟨none,.alloc 13 1 90 [.v (.int .i64 0)]⟩,
  ⟨none,.sto (.t 13) 1 90 0 1 (.t 67)⟩] false [.frz 1 90 1,.forget [64,65,66,67]]
abbrev zQH:HCode:=oR [oV 68 (.mkf zCp [.t 13,.t 7]),
  oV 14 (.mv (.t 68))] [68]
abbrev zQI:HCode:=oR [oV 69 (.mkf zDq [.t 5,.t 13]),
  oV 15 (.mv (.t 69))] [69]
abbrev zQJ:HCode:=oQ [oD 0 false (oV 70 (.fldR (.t 4) 0 1)),
  oD 1 false (oV 71 (.ldR (.t 70) 1 false)),
  oD 2 false (oV 72 (.ldR (.t 13) 1 false)),
  oD 3 false (oV 73 (.slr 5 (.t 71) none (some (.t 72)))),
  oD 4 false (oV 74 (.mv (.t 14))),
  oD 5 false (oC 75 zCb [(.t 73,.v),(.t 74,.v)]),
  oD 6 false (oV 76 (.fldR (.t 7) 0 1)),
  oD 7 false (oV 77 (.ldR (.t 76) 1 false)),
  oD 8 false (oV 78 (.mv (.t 15))),
  oD 9 false (oC 79 zCb [(.t 77,.v),(.t 78,.v)]),
  oD 10 false (oV 80 (.fldR (.t 4) 0 1)),
  oD 11 false (oV 81 (.ldR (.t 80) 1 false)),
  oD 12 false (oV 82 (.ldR (.t 13) 1 false)),
  oD 13 false (oV 83 (.slr 5 (.t 81) (some (.t 82)) none)),
  oD 14 false (oV 84 (.mv (.t 14))),
  oD 15 true (oC 85 zCb [(.t 83,.v),(.t 84,.v)]),
  oD 16 false (oV 86 (.bslF 1 [.t 75,.t 79,.t 85])),
  oD 17 true (oC 87 zBM [(.t 86,.v)]),
  oD 18 false (oV 88 (.bld [.nl 5] [(0,1,.t 87)])),
  oD 19 false ⟨none,.sto (.t 8) 0 89 0 1 (.t 88)⟩,
  oD 20 false (oV 9 (.mv (.c (iv 0))))] [70,71,72,73,74,75,76,77,78,79,80,81,82,83,84,85,86,87,88]
abbrev yBq:HCode:=(.seq zUl (.seq (.seq zUm (.seq zUn (.cond (.t 19) (.seq zUo .ret) .skip))) (.seq (.seq zUp (.seq zUq (.cond (.t 25) (.seq zUr .ret) .skip))) (.seq (.seq zUs (.cond (.t 36) (.seq zUt .ret) .skip)) (.seq zUu (.seq (.seq zQC (.cond (.t 53) (.seq zQD .ret) .skip)) (.seq (.seq zQE (.cond (.t 62) (.seq zQF .ret) .skip)) (.seq zQG (.seq zQH (.seq zQI (.seq zQJ .ret)))))))))))
abbrev zLt:Env:={N:=89,Γ:=[(89,1),(90,1)],L:=91,nfix:=0}
abbrev doc_Insert_R:List RSrc:=[.cellB 8 0 89 0 1 true,.tmp 9]
theorem zUv:zBV Tryz.prog zF0 yBq zLt doc_Insert_R:=by kernel_rfl
abbrev zOt:HCode:=oN [oV 4 (.mv (.c (iv 0)))]
abbrev zOu:HCode:=oR [oV 5 (.mv (.t 0)),
  oV 6 (.ldR (.t 1) 1 false),
  oV 7 (.ints .geq (.t 5) (.t 6))] [5,6]
abbrev zOv:HCode:=oR [oV 8 (.mv (.t 0)),
  oV 9 (.fldR (.t 2) 0 1),
  oV 10 (.ldR (.t 9) 1 false),
  oV 11 (.len false (.t 10)),
  oV 12 (.ints .add (.t 8) (.t 11)),
  oV 4 (.mv (.t 12))] [8,9,10,11,12]
abbrev zOw:HCode:=oR [oV 13 (.mv (.t 0)),
  oV 4 (.mv (.t 13))] [13]
abbrev zWF:HCode:=(.seq zOt (.seq (.seq zOu (.cond (.t 7) (.seq zOv .ret) .skip)) (.seq zOw .ret)))
abbrev zIc:Env:={N:=14,Γ:=[],L:=14,nfix:=0}
abbrev doc_Insert_1_R:List RSrc:=[.tmp 4]
theorem zOx:zBV Tryz.prog zCp zWF zIc doc_Insert_1_R:=by kernel_rfl
abbrev zOy:HCode:=oN [oV 4 (.mv (.c (iv 0)))]
abbrev zOz:HCode:=oR [oV 5 (.mv (.t 0)),
  oV 6 (.ints .lss (.t 5) (.c (iv 0)))] [5]
abbrev zOA:HCode:=oR [oV 7 (.ldR (.t 1) 1 false),
  oV 4 (.mv (.t 7))] [7]
abbrev zOB:HCode:=oR [oV 8 (.mv (.t 0)),
  oV 9 (.ldR (.t 2) 1 false),
  oV 10 (.ints .add (.t 8) (.t 9)),
  oV 4 (.mv (.t 10))] [8,9,10]
abbrev zWG:HCode:=(.seq zOy (.seq (.seq zOz (.cond (.t 6) (.seq zOA .ret) .skip)) (.seq zOB .ret)))
abbrev zId:Env:={N:=11,Γ:=[],L:=11,nfix:=0}
abbrev doc_Insert_2_R:List RSrc:=[.tmp 4]
theorem zOC:zBV Tryz.prog zDq zWG zId doc_Insert_2_R:=by kernel_rfl
abbrev zUw:HCode:=oN [oV 2 (.boxF (.t 0)),
  oV 3 (.boxF (.t 1)),
  ⟨none,.alloc 4 0 38 [.nl 5]⟩,
  oV 5 (.mv (.c (iv 0)))]
abbrev zUx:HCode:=oR [oV 9 (.ldR (.t 2) 1 true),
  oV 10 (.ldR (.t 3) 1 false),
  oC 11 zES [(.t 9,.v),(.t 10,.v)],
  oV 6 (.mv (.t 11))] [9,10,11]
abbrev zUy:HCode:=oR [oV 12 (.mv (.t 6)),
  oV 13 (.ints .neq (.t 12) (.c (iv 0)))] [12]
abbrev zUz:HCode:=oR [oV 14 (.bld [.nl 5] []),
  oV 15 (.mv (.t 6)),
  ⟨none,.sto (.t 4) 0 38 0 1 (.t 14)⟩,
  oV 5 (.mv (.t 15))] [14,15]
abbrev zUA:HCode:=oR [oV 16 (.ldR (.t 3) 1 false),
  oV 17 (.ints .eql (.t 16) (.c (iv 0)))] [16]
abbrev zUB:HCode:=oR [oV 18 (.bld [.nl 5] []),
  ⟨none,.sto (.t 4) 0 38 0 1 (.t 18)⟩,
  oV 5 (.mv (.c (iv 3)))] [18]
abbrev zUC:HCode:=.reg [oV 19 (.ldR (.t 2) 1 true),
  oV 20 (.ldR (.t 3) 1 false),
  oC 21 zCC [(.t 19,.v),(.t 20,.v)],
  ⟨none,.alloc 7 1 39 [.v (.int .i64 0)]⟩,
  ⟨none,.sto (.t 7) 1 39 0 1 (.t 21)⟩] false [.frz 1 39 1,.forget [19,20,21]]
abbrev zUD:HCode:=oR [oV 22 (.mkf zCq [.t 7,.t 3]),
  oV 8 (.mv (.t 22))] [22]
abbrev zUE:HCode:=oQ [oD 0 false (oV 23 (.fldR (.t 2) 0 1)),
  oD 1 false (oV 24 (.ldR (.t 23) 1 false)),
  oD 2 false (oV 25 (.ldR (.t 3) 1 false)),
  oD 3 false (oV 26 (.slr 5 (.t 24) none (some (.t 25)))),
  oD 4 false (oV 27 (.mv (.t 8))),
  oD 5 false (oC 28 zCb [(.t 26,.v),(.t 27,.v)]),
  oD 6 false (oV 29 (.fldR (.t 2) 0 1)),
  oD 7 false (oV 30 (.ldR (.t 29) 1 false)),
  oD 8 false (oV 31 (.ldR (.t 7) 1 false)),
  oD 9 false (oV 32 (.slr 5 (.t 30) (some (.t 31)) none)),
  oD 10 false (oV 33 (.mv (.t 8))),
  oD 11 true (oC 34 zCb [(.t 32,.v),(.t 33,.v)]),
  oD 12 false (oV 35 (.bslF 1 [.t 28,.t 34])),
  oD 13 true (oC 36 zBM [(.t 35,.v)]),
  oD 14 false (oV 37 (.bld [.nl 5] [(0,1,.t 36)])),
  oD 15 false ⟨none,.sto (.t 4) 0 38 0 1 (.t 37)⟩,
  oD 16 false (oV 5 (.mv (.c (iv 0))))] [23,24,25,26,27,28,29,30,31,32,33,34,35,36,37]
abbrev yBr:HCode:=(.seq zUw (.seq (.seq zUx (.seq zUy (.cond (.t 13) (.seq zUz .ret) .skip))) (.seq (.seq zUA (.cond (.t 17) (.seq zUB .ret) .skip)) (.seq zUC (.seq zUD (.seq zUE .ret))))))
abbrev zLu:Env:={N:=38,Γ:=[(38,1),(39,1)],L:=40,nfix:=0}
abbrev doc_Remove_R:List RSrc:=[.cellB 4 0 38 0 1 true,.tmp 5]
theorem zUF:zBV Tryz.prog zF1 yBr zLu doc_Remove_R:=by kernel_rfl
abbrev zOD:HCode:=oN [oV 4 (.mv (.c (iv 0)))]
abbrev zOE:HCode:=oR [oV 5 (.mv (.t 0)),
  oV 6 (.ldR (.t 1) 1 false),
  oV 7 (.ints .geq (.t 5) (.t 6))] [5,6]
abbrev zOF:HCode:=oR [oV 8 (.mv (.t 0)),
  oV 9 (.ldR (.t 1) 1 false),
  oV 10 (.ints .sub (.t 8) (.t 9)),
  oV 11 (.ldR (.t 2) 1 false),
  oV 12 (.ints .add (.t 10) (.t 11)),
  oV 4 (.mv (.t 12))] [8,9,10,11,12]
abbrev zOG:HCode:=oR [oV 13 (.mv (.t 0)),
  oV 4 (.mv (.t 13))] [13]
abbrev zWH:HCode:=(.seq zOD (.seq (.seq zOE (.cond (.t 7) (.seq zOF .ret) .skip)) (.seq zOG .ret)))
abbrev zIe:Env:={N:=14,Γ:=[],L:=14,nfix:=0}
abbrev doc_Remove_1_R:List RSrc:=[.tmp 4]
theorem zOH:zBV Tryz.prog zCq zWH zIe doc_Remove_1_R:=by kernel_rfl
abbrev zWI:HCode:=oN [oV 2 (.mv (.c (iv 0)))]
abbrev zWJ:HCode:=oR [oV 3 (.mv (.t 0)),
  oV 2 (.mv (.t 3))] [3]
abbrev yCx:HCode:=(.seq zWI (.seq zWJ .ret))
abbrev zOI:Env:={N:=4,Γ:=[],L:=4,nfix:=0}
abbrev doc_Put_1_R:List RSrc:=[.tmp 2]
theorem zWK:zBV Tryz.prog zER yCx zOI doc_Put_1_R:=by kernel_rfl
abbrev zGZ:HCode:=oN [⟨none,.nlo 2 zAz 5⟩]
abbrev zG0:HCode:=oN [oV 3 (.mv (.c (iv 0)))]
abbrev zG1:HCode:=oN [oV 9 (.mv (.t 0)),
  oV 10 (.len false (.t 9)),
  oV 11 (.mv (.c (iv 0)))]
abbrev zG2:HCode:=oN [oV 12 (.ints .lss (.t 11) (.t 10))]
abbrev zG3:HCode:=oR [oV 13 (.idxA 1 (.t 9) (.t 11)),
  oV 14 (.ldR (.t 13) 1 false),
  oV 5 (.mv (.t 14))] [13,14]
abbrev zG4:HCode:=oR [oV 15 (.mv (.t 3)),
  oV 16 (.mv (.t 5)),
  oV 17 (.len false (.t 16)),
  oV 18 (.ints .add (.t 15) (.t 17)),
  oV 3 (.mv (.t 18))] [15,16,17,18]
abbrev zG5:HCode:=oR [oV 19 (.mv (.t 3)),
  oV 20 (.ints .lss (.t 19) (.c (iv 0)))] [19]
abbrev zG6:HCode:=oR [oV 21 (.mki zDU (.c (sv [108,101,110,32,111,117,116,32,111,102,32,114,97,110,103,101]))),
  ⟨none,.pan (.t 21)⟩] [21]
abbrev zG7:HCode:=oR [oV 22 (.ints .add (.t 11) (.c (iv 1))),
  oV 11 (.mv (.t 22))] [22]
abbrev zG8:HCode:=oR [oV 23 (.mv (.t 3)),
  oC 24 zEt [(.c (.one (.nl 5)),.r),(.t 23,.v)],
  ⟨none,.mvo 6 24⟩] [23,24]
abbrev zGk:HCode:=oN [oV 25 (.mv (.t 0)),
  oV 26 (.len false (.t 25)),
  oV 27 (.mv (.c (iv 0)))]
abbrev zGl:HCode:=oN [oV 28 (.ints .lss (.t 27) (.t 26))]
abbrev zGm:HCode:=oR [oV 29 (.idxA 1 (.t 25) (.t 27)),
  oV 30 (.ldR (.t 29) 1 false),
  oV 8 (.mv (.t 30))] [29,30]
abbrev zGn:HCode:=oR [⟨none,.mvo 31 6⟩,
  oV 32 (.mv (.t 8)),
  ⟨none,.app 33 zAz 5 (.t 31) (.t 32)⟩,
  ⟨none,.mvo 6 33⟩] [31,32,33]
abbrev zGo:HCode:=oR [oV 34 (.ints .add (.t 27) (.c (iv 1))),
  oV 27 (.mv (.t 34))] [34]
abbrev zGp:HCode:=oR [⟨none,.mvo 35 6⟩,
  ⟨none,.mvo 2 35⟩] [35]
abbrev zJz:HCode:=(.seq zGZ (.seq zG0 (.seq (.seq zG1 (.block 0 (.loop (.seq zG2 (.seq (.cond (.t 12) .skip (.exit 0)) (.seq (.block 1 (.seq zG3 (.seq zG4 (.seq zG5 (.cond (.t 20) zG6 .skip))))) zG7)))))) (.seq zG8 (.seq (.seq zGk (.block 2 (.loop (.seq zGl (.seq (.cond (.t 28) .skip (.exit 2)) (.seq (.block 3 (.seq zGm zGn)) zGo)))))) (.seq zGp .ret))))))
abbrev zEc:Env:={N:=36,Γ:=[],L:=36,nfix:=0}
abbrev slices_Concat_Node_R:List RSrc:=[.tmp 2]
theorem zG9:zBV Tryz.prog zBM zJz zEc slices_Concat_Node_R:=by kernel_rfl
abbrev zWL:HCode:=oN [⟨none,.alloc 0 0 13 [.nl 5]⟩]
abbrev zWM:HCode:=oR [oV 1 (.bld [.v (.int .i64 0),.v (mkS []),.v (mkS []),.nl 1,.nl 2] [(0,1,.c (iv (-1))),(1,1,.c (sv [108,105,115,116])),(2,1,.c (sv [116,111,112]))]),
  oV 2 (.bslF 1 [.c (sv [97])]),
  oV 3 (.bld [.v (.int .i64 0),.v (mkS []),.v (mkS []),.nl 1,.nl 2] [(0,1,.c (iv 0)),(1,1,.c (sv [105,116,101,109])),(3,1,.t 2)]),
  oV 4 (.bslF 1 [.c (sv [98])]),
  oV 5 (.bld [.v (.int .i64 0),.v (mkS []),.v (mkS []),.nl 1,.nl 2] [(0,1,.c (iv 0)),(1,1,.c (sv [105,116,101,109])),(3,1,.t 4)]),
  oV 6 (.bld [.v (mkS []),.v (mkS [])] [(0,1,.c (sv [116,111])),(1,1,.c (sv [111,110,101,32,116,119,111]))]),
  oV 7 (.bslF 2 [.t 6]),
  oV 8 (.bld [.v (.int .i64 0),.v (mkS []),.v (mkS []),.nl 1,.nl 2] [(0,1,.c (iv 2)),(1,1,.c (sv [108,105,110,107])),(4,1,.t 7)]),
  oV 9 (.bslF 1 [.c (sv [97])]),
  oV 10 (.bld [.v (.int .i64 0),.v (mkS []),.v (mkS []),.nl 1,.nl 2] [(0,1,.c (iv 0)),(1,1,.c (sv [105,116,101,109])),(3,1,.t 9)]),
  oV 11 (.bslF 5 [.t 1,.t 3,.t 5,.t 8,.t 10]),
  oV 12 (.bld [.nl 5] [(0,1,.t 11)]),
  ⟨none,.sto (.t 0) 0 13 0 1 (.t 12)⟩] [1,2,3,4,5,6,7,8,9,10,11,12]
abbrev yCy:HCode:=(.seq zWL (.seq zWM .ret))
abbrev zOJ:Env:={N:=13,Γ:=[(13,1)],L:=14,nfix:=0}
abbrev law_small_R:List RSrc:=[.cellB 0 0 13 0 1 true]
theorem zWN:zBV Tryz.prog zGM yCy zOJ law_small_R:=by kernel_rfl
end Go.Hx
end

section
/-
 The abstract code of functions of the program, printed by gen.py; each stands for the given one. No condition.
-/
namespace Go.Hx
open Go.Proofs
variable [Glob]
abbrev zCD:Nat:=239
abbrev zCc:Nat:=240
abbrev zBt:Nat:=238
abbrev zEy:Nat:=237
abbrev zYn:HCode:=oN [oV 2 (.mv (.c (bv false)))]
abbrev zYo:HCode:=oR [oV 3 (.mv (.t 0)),
  oV 4 (.len true (.t 3)),
  oV 5 (.ints .gtr (.t 4) (.c (iv 0))),
  oV 6 (.mv (.t 5)),
  oG 6 true 7 (.mv (.t 0)),
  oG 6 true 8 (.len true (.t 7)),
  oG 6 true 9 (.ints .leq (.t 8) (.c (iv 12))),
  oV 10 (.pick (.t 6) (.t 9) (.c (bv false))),
  oV 11 (.mv (.t 10)),
  oG 11 true 12 (.mv (.t 0)),
  oG 11 true 13 (.idxS (.t 12) (.c (iv 0))),
  oG 11 true 14 (.ints .geq (.t 13) (.c (.one (.v (.int .u8 97))))),
  oV 15 (.pick (.t 11) (.t 14) (.c (bv false))),
  oV 16 (.mv (.t 15)),
  oG 16 true 17 (.mv (.t 0)),
  oG 16 true 18 (.idxS (.t 17) (.c (iv 0))),
  oG 16 true 19 (.ints .leq (.t 18) (.c (.one (.v (.int .u8 122))))),
  oV 20 (.pick (.t 16) (.t 19) (.c (bv false))),
  oV 21 (.mv (.t 20)),
  oG 21 true 22 (.mv (.t 0)),
  ⟨some (21,true),.call (some 23) zEy [(.t 22,.v),(.c (sv [97,98,99,100,101,102,103,104,105,106,107,108,109,110,111,112,113,114,115,116,117,118,119,120,121,122,48,49,50,51,52,53,54,55,56,57,45]),.v)]⟩,
  oG 21 true 24 (.strs .eql (.t 23) (.c (sv []))),
  oV 25 (.pick (.t 21) (.t 24) (.c (bv false))),
  oV 26 (.mv (.t 25)),
  oG 26 true 27 (.mv (.t 0)),
  ⟨some (26,true),.call (some 28) zBt [(.t 27,.v),(.f zCD,.v)]⟩,
  oG 26 true 29 (.not (.t 28)),
  oV 30 (.pick (.t 26) (.t 29) (.c (bv false))),
  oV 2 (.mv (.t 30))] [3,4,5,6,7,8,9,10,11,12,13,14,15,16,17,18,19,20,21,22,23,24,25,26,27,28,29,30]
abbrev yDW:HCode:=(.seq zYn (.seq zYo .ret))
abbrev zSc:Env:={N:=31,Γ:=[],L:=31,nfix:=0}
abbrev doc_Name_R:List RSrc:=[.tmp 2]
theorem zYp:zBV Tryz.prog zDH yDW zSc doc_Name_R:=by kernel_rfl
abbrev zUG:HCode:=oN [oV 2 (.mv (.c (bv false)))]
abbrev zUH:HCode:=oR [oV 3 (.mv (.t 0)),
  oV 4 (.ints .lss (.t 3) (.c (.one (.v (.int .i32 97))))),
  oV 5 (.mv (.t 4)),
  oG 5 false 6 (.mv (.t 0)),
  oG 5 false 7 (.ints .gtr (.t 6) (.c (.one (.v (.int .i32 122))))),
  oV 8 (.pick (.t 5) (.c (bv true)) (.t 7)),
  oV 9 (.mv (.t 8)),
  oG 9 true 10 (.mv (.t 0)),
  oG 9 true 11 (.ints .lss (.t 10) (.c (.one (.v (.int .i32 48))))),
  oG 9 true 12 (.mv (.t 11)),
  oG 12 false 13 (.mv (.t 0)),
  oG 12 false 14 (.ints .gtr (.t 13) (.c (.one (.v (.int .i32 57))))),
  oG 9 true 15 (.pick (.t 12) (.c (bv true)) (.t 14)),
  oV 16 (.pick (.t 9) (.t 15) (.c (bv false))),
  oV 17 (.mv (.t 16)),
  oG 17 true 18 (.mv (.t 0)),
  oG 17 true 19 (.ints .neq (.t 18) (.c (.one (.v (.int .i32 45))))),
  oV 20 (.pick (.t 17) (.t 19) (.c (bv false))),
  oV 2 (.mv (.t 20))] [3,4,5,6,7,8,9,10,11,12,13,14,15,16,17,18,19,20]
abbrev yBs:HCode:=(.seq zUG (.seq zUH .ret))
abbrev zLv:Env:={N:=21,Γ:=[],L:=21,nfix:=0}
abbrev doc_Name_1_R:List RSrc:=[.tmp 2]
theorem zUI:zBV Tryz.prog zCD yBs zLv doc_Name_1_R:=by kernel_rfl
abbrev zWO:HCode:=oN [oV 2 (.mv (.c (bv false)))]
abbrev zWP:HCode:=oR [oV 3 (.mv (.t 0)),
  oV 4 (.len true (.t 3)),
  oV 5 (.ints .leq (.t 4) (.c (iv 16))),
  oV 6 (.mv (.t 5)),
  oG 6 true 7 (.mv (.t 0)),
  ⟨some (6,true),.call (some 8) zBt [(.t 7,.v),(.f zCc,.v)]⟩,
  oG 6 true 9 (.not (.t 8)),
  oV 10 (.pick (.t 6) (.t 9) (.c (bv false))),
  oV 2 (.mv (.t 10))] [3,4,5,6,7,8,9,10]
abbrev yCz:HCode:=(.seq zWO (.seq zWP .ret))
abbrev zOK:Env:={N:=11,Γ:=[],L:=11,nfix:=0}
abbrev doc_Value_R:List RSrc:=[.tmp 2]
theorem zWQ:zBV Tryz.prog zGL yCz zOK doc_Value_R:=by kernel_rfl
abbrev zQK:HCode:=oN [oV 2 (.mv (.c (bv false)))]
abbrev zQL:HCode:=oR [oV 3 (.mv (.t 0)),
  oV 4 (.ints .lss (.t 3) (.c (.one (.v (.int .i32 32))))),
  oV 5 (.mv (.t 4)),
  oG 5 false 6 (.mv (.t 0)),
  oG 5 false 7 (.ints .gtr (.t 6) (.c (.one (.v (.int .i32 126))))),
  oV 8 (.pick (.t 5) (.c (bv true)) (.t 7)),
  oV 9 (.mv (.t 8)),
  oG 9 false 10 (.mv (.t 0)),
  oG 9 false 11 (.ints .eql (.t 10) (.c (.one (.v (.int .i32 34))))),
  oV 12 (.pick (.t 9) (.c (bv true)) (.t 11)),
  oV 2 (.mv (.t 12))] [3,4,5,6,7,8,9,10,11,12]
abbrev zYq:HCode:=(.seq zQK (.seq zQL .ret))
abbrev zJA:Env:={N:=13,Γ:=[],L:=13,nfix:=0}
abbrev doc_Value_1_R:List RSrc:=[.tmp 2]
theorem zQM:zBV Tryz.prog zCc zYq zJA doc_Value_1_R:=by kernel_rfl
end Go.Hx
end

section
/-
 The abstract code of functions of the program, printed by gen.py; each stands for the given one. No condition.
-/
namespace Go.Hx
open Go.Proofs
variable [Glob]
end Go.Hx
end

section
/-
 The abstract code of functions of the program, printed by gen.py; each stands for the given one. No condition.
-/
namespace Go.Hx
open Go.Proofs
variable [Glob]
end Go.Hx
end

section
/-
 The abstract code of functions of the program, printed by gen.py; each stands for the given one. No condition.
-/
namespace Go.Hx
open Go.Proofs
variable [Glob]
end Go.Hx
end

section
/-
 The abstract code of functions of the program, printed by gen.py; each stands for the given one. No condition.
-/
namespace Go.Hx
open Go.Proofs
variable [Glob]
end Go.Hx
end

section
/-
 The abstract code of functions of the program, printed by gen.py; each stands for the given one. No condition.
-/
namespace Go.Hx
open Go.Proofs
variable [Glob]
end Go.Hx
end

section
/-
 The abstract code of functions of the program, printed by gen.py; each stands for the given one. No condition.
-/
namespace Go.Hx
open Go.Proofs
variable [Glob]
abbrev zDs:Nat:=149
abbrev zCs:Nat:=150
abbrev zF2:Nat:=148
abbrev zCU:Nat:=205
abbrev zB1:Nat:=206
abbrev zDM:Nat:=44
abbrev zF3:Nat:=103
abbrev zDt:Nat:=152
abbrev zBl:Nat:=101
abbrev zCQ:Nat:=41
abbrev zD5:Nat:=33
abbrev zBN:Nat:=47
abbrev zBG:Nat:=97
abbrev zIJ:Nat:=96
abbrev zBR:Nat:=151
abbrev zC1:Nat:=123
abbrev zAE:Nat:=75
abbrev zYr:HCode:=oN [oV 1 (.boxF (.t 0)),
  ⟨none,.vnl 2 zAE 3⟩]
abbrev zYs:HCode:=oR [oV 5 (.fldR (.t 1) 1 1),
  oV 6 (.ldR (.t 5) 1 false),
  ⟨none,.vow 7 (.bld [.v (.int .i64 0),.v (mkS []),.nl 1] [(0,1,.c (iv 1)),(1,1,.t 6)]) 2 zAD 1⟩,
  ⟨none,.vbs 8 zAE 3 7⟩,
  ⟨none,.vmv 3 8⟩] [5,6,7,8]
abbrev zYt:HCode:=oR [oV 9 (.fldR (.t 1) 2 1),
  oV 10 (.ldR (.t 9) 1 false),
  oV 11 (.strs .neq (.t 10) (.c (sv [])))] [9,10]
abbrev zYu:HCode:=oR [⟨none,.vmv 12 3⟩,
  oV 13 (.fldR (.t 1) 2 1),
  oV 14 (.ldR (.t 13) 1 false),
  ⟨none,.vow 15 (.bld [.v (.int .i64 0),.v (mkS []),.nl 1] [(0,1,.c (iv 2)),(1,1,.t 14)]) 2 zAD 1⟩,
  ⟨none,.vbs 16 zAE 3 15⟩,
  ⟨none,.vap 17 zAE 3 12 (.t 16)⟩,
  ⟨none,.vmv 3 17⟩] [12,13,14,15,16,17]
abbrev zYv:HCode:=oN [oV 4 (.mv (.c (iv 0)))]
abbrev zYw:HCode:=oR [oV 18 (.mv (.t 4)),
  oV 19 (.fldR (.t 1) 3 1),
  oV 20 (.ldR (.t 19) 1 false),
  oV 21 (.len false (.t 20)),
  oV 22 (.ints .lss (.t 18) (.t 21))] [18,19,20,21]
abbrev zYx:HCode:=oR [⟨none,.vmv 25 3⟩,
  oV 26 (.fldR (.t 1) 3 1),
  oV 27 (.ldR (.t 26) 1 false),
  oV 28 (.mv (.t 4)),
  oV 29 (.idxA 1 (.t 27) (.t 28)),
  oV 30 (.ldR (.t 29) 1 false),
  ⟨none,.vow 31 (.bld [.v (.int .i64 0),.v (mkS []),.nl 1] [(0,1,.c (iv 3)),(1,1,.t 30)]) 2 zAD 1⟩,
  ⟨none,.vbs 32 zAE 3 31⟩,
  ⟨none,.vap 33 zAE 3 25 (.t 32)⟩,
  ⟨none,.vmv 3 33⟩] [25,26,27,28,29,30,31,32,33]
abbrev zYy:HCode:=oR [oV 23 (.mv (.t 4)),
  oV 24 (.ints .add (.t 23) (.c (iv 1))),
  oV 4 (.mv (.t 24))] [23,24]
abbrev zYz:HCode:=oR [⟨none,.vmv 34 3⟩,
  ⟨none,.vmv 2 34⟩] [34]
abbrev yDX:HCode:=(.seq zYr (.seq zYs (.seq (.seq zYt (.cond (.t 11) zYu .skip)) (.seq (.seq zYv (.block 0 (.loop (.seq (.seq zYw (.cond (.t 22) .skip (.exit 0))) (.seq (.block 1 zYx) zYy))))) (.seq zYz .ret)))))
abbrev zSd:Env:={N:=35,Γ:=[],L:=35,nfix:=0}
abbrev ref_keys_R:List RSrc:=[.tmp 2]
theorem zYA:zBV Tryz.prog zIJ yDX zSd ref_keys_R:=by kernel_rfl
abbrev zMh:HCode:=oN [oV 2 (.boxF (.t 0)),
  oV 3 (.boxF (.t 1)),
  oV 4 (.mv (.c (bv false)))]
abbrev zMi:HCode:=oR [oV 5 (.fldR (.t 2) 0 1),
  oV 6 (.ldR (.t 5) 1 false),
  oV 7 (.fldR (.t 3) 0 1),
  oV 8 (.ldR (.t 7) 1 false),
  oV 9 (.ints .neq (.t 6) (.t 8))] [5,6,7,8]
abbrev zMj:HCode:=oR [oV 10 (.fldR (.t 2) 0 1),
  oV 11 (.ldR (.t 10) 1 false),
  oV 12 (.fldR (.t 3) 0 1),
  oV 13 (.ldR (.t 12) 1 false),
  oV 14 (.ints .gtr (.t 11) (.t 13)),
  oV 4 (.mv (.t 14))] [10,11,12,13,14]
abbrev zMk:HCode:=oR [oV 15 (.fldR (.t 2) 1 1),
  oV 16 (.ldR (.t 15) 1 false),
  oV 17 (.fldR (.t 3) 1 1),
  oV 18 (.ldR (.t 17) 1 false),
  oV 19 (.strs .gtr (.t 16) (.t 18)),
  oV 4 (.mv (.t 19))] [15,16,17,18,19]
abbrev zUJ:HCode:=(.seq zMh (.seq (.seq zMi (.cond (.t 9) (.seq zMj .ret) .skip)) (.seq zMk .ret)))
abbrev zHa:Env:={N:=20,Γ:=[],L:=20,nfix:=0}
abbrev ref_behindKey_R:List RSrc:=[.tmp 4]
theorem zMl:zBV Tryz.prog zBG zUJ zHa ref_behindKey_R:=by kernel_rfl
abbrev zUK:HCode:=oN [oV 2 (.mv (.c (iv 0)))]
abbrev zUL:HCode:=oN [oV 3 (.mv (.c (iv 0)))]
abbrev zUM:HCode:=oN [oV 6 (.mv (.t 0)),
  oV 7 (.len false (.t 6)),
  oV 8 (.mv (.c (iv 0)))]
abbrev zUN:HCode:=oN [oV 9 (.ints .lss (.t 8) (.t 7))]
abbrev zUO:HCode:=oR [oV 10 (.idxA 1 (.t 6) (.t 8)),
  oV 11 (.ldR (.t 10) 1 false),
  oV 5 (.mv (.t 11))] [10,11]
abbrev zUP:HCode:=oR [oV 12 (.mv (.t 5)),
  oV 13 (.mv (.t 3)),
  oV 14 (.ints .neq (.t 12) (.t 13))] [12,13]
abbrev zUQ:HCode:=oR [oV 15 (.mv (.t 5)),
  oV 2 (.mv (.t 15))] [15]
abbrev zUR:HCode:=oR [oV 16 (.ints .add (.t 8) (.c (iv 1))),
  oV 8 (.mv (.t 16))] [16]
abbrev zUS:HCode:=oR [oV 17 (.mv (.t 3)),
  oV 2 (.mv (.t 17))] [17]
abbrev yBt:HCode:=(.seq zUK (.seq zUL (.seq (.seq zUM (.block 0 (.loop (.seq zUN (.seq (.cond (.t 9) .skip (.exit 0)) (.seq (.block 1 (.seq zUO (.seq zUP (.cond (.t 14) (.seq zUQ .ret) .skip)))) zUR)))))) (.seq zUS .ret))))
abbrev zLw:Env:={N:=18,Γ:=[],L:=18,nfix:=0}
abbrev cmp_Or_int_R:List RSrc:=[.tmp 2]
theorem zUT:zBV Tryz.prog zF2 yBt zLw cmp_Or_int_R:=by kernel_rfl
abbrev zJB:HCode:=oN [oV 4 (.mv (.c (iv 0)))]
abbrev zJC:HCode:=oR [oV 7 (.mv (.t 0)),
  oC 8 zCU [(.t 7,.v)],
  oV 5 (.mv (.t 8))] [7,8]
abbrev zJD:HCode:=oR [oV 9 (.mv (.t 1)),
  oC 10 zCU [(.t 9,.v)],
  oV 6 (.mv (.t 10))] [9,10]
abbrev zJE:HCode:=oN [oV 11 (.mv (.t 5))]
abbrev zJF:HCode:=oN [oV 12 (.mv (.t 6))]
abbrev zJG:HCode:=oN [oV 4 (.mv (.c (iv 0)))]
abbrev zJH:HCode:=oN [oV 4 (.mv (.c (iv (-1))))]
abbrev zJI:HCode:=oN [oV 13 (.mv (.t 6))]
abbrev zJJ:HCode:=oN [oV 4 (.mv (.c (iv 1)))]
abbrev zJK:HCode:=oR [oV 14 (.mv (.t 0)),
  oV 15 (.mv (.t 1)),
  oV 16 (.ints .lss (.t 14) (.t 15))] [14,15]
abbrev zIK:HCode:=oN [oV 4 (.mv (.c (iv (-1))))]
abbrev zIL:HCode:=oR [oV 17 (.mv (.t 0)),
  oV 18 (.mv (.t 1)),
  oV 19 (.ints .gtr (.t 17) (.t 18))] [17,18]
abbrev zIM:HCode:=oN [oV 4 (.mv (.c (iv 1)))]
abbrev zIN:HCode:=oN [oV 4 (.mv (.c (iv 0)))]
abbrev zOL:HCode:=(.seq zJB (.seq zJC (.seq zJD (.seq (.seq zJE (.cond (.t 11) (.seq (.seq zJF (.cond (.t 12) (.seq zJG .ret) .skip)) (.seq zJH .ret)) .skip)) (.seq (.seq zJI (.cond (.t 13) (.seq zJJ .ret) .skip)) (.seq (.seq zJK (.cond (.t 16) (.seq zIK .ret) .skip)) (.seq (.seq zIL (.cond (.t 19) (.seq zIM .ret) .skip)) (.seq zIN .ret))))))))
abbrev zFK:Env:={N:=20,Γ:=[],L:=20,nfix:=0}
abbrev cmp_Compare_int_R:List RSrc:=[.tmp 4]
theorem zJL:zBV Tryz.prog zDs zOL zFK cmp_Compare_int_R:=by kernel_rfl
abbrev zMm:HCode:=oN [oV 2 (.mv (.c (bv false)))]
abbrev zMn:HCode:=oR [oV 3 (.mv (.t 0)),
  oV 4 (.mv (.t 0)),
  oV 5 (.ints .neq (.t 3) (.t 4)),
  oV 2 (.mv (.t 5))] [3,4,5]
abbrev zUU:HCode:=(.seq zMm (.seq zMn .ret))
abbrev zHb:Env:={N:=6,Γ:=[],L:=6,nfix:=0}
abbrev cmp_isNaN_int_R:List RSrc:=[.tmp 2]
theorem zMo:zBV Tryz.prog zCU zUU zHb cmp_isNaN_int_R:=by kernel_rfl
abbrev zHc:HCode:=oN [oV 4 (.mv (.c (iv 0)))]
abbrev zHd:HCode:=oR [oV 7 (.mv (.t 0)),
  oC 8 zB1 [(.t 7,.v)],
  oV 5 (.mv (.t 8))] [7,8]
abbrev zHe:HCode:=oR [oV 9 (.mv (.t 1)),
  oC 10 zB1 [(.t 9,.v)],
  oV 6 (.mv (.t 10))] [9,10]
abbrev zHf:HCode:=oN [oV 11 (.mv (.t 5))]
abbrev zHg:HCode:=oN [oV 12 (.mv (.t 6))]
abbrev zHh:HCode:=oN [oV 4 (.mv (.c (iv 0)))]
abbrev zHi:HCode:=oN [oV 4 (.mv (.c (iv (-1))))]
abbrev zHj:HCode:=oN [oV 13 (.mv (.t 6))]
abbrev zHk:HCode:=oN [oV 4 (.mv (.c (iv 1)))]
abbrev zHl:HCode:=oR [oV 14 (.mv (.t 0)),
  oV 15 (.mv (.t 1)),
  oV 16 (.strs .lss (.t 14) (.t 15))] [14,15]
abbrev zGq:HCode:=oN [oV 4 (.mv (.c (iv (-1))))]
abbrev zGr:HCode:=oR [oV 17 (.mv (.t 0)),
  oV 18 (.mv (.t 1)),
  oV 19 (.strs .gtr (.t 17) (.t 18))] [17,18]
abbrev zGs:HCode:=oN [oV 4 (.mv (.c (iv 1)))]
abbrev zGt:HCode:=oN [oV 4 (.mv (.c (iv 0)))]
abbrev zJM:HCode:=(.seq zHc (.seq zHd (.seq zHe (.seq (.seq zHf (.cond (.t 11) (.seq (.seq zHg (.cond (.t 12) (.seq zHh .ret) .skip)) (.seq zHi .ret)) .skip)) (.seq (.seq zHj (.cond (.t 13) (.seq zHk .ret) .skip)) (.seq (.seq zHl (.cond (.t 16) (.seq zGq .ret) .skip)) (.seq (.seq zGr (.cond (.t 19) (.seq zGs .ret) .skip)) (.seq zGt .ret))))))))
abbrev zEd:Env:={N:=20,Γ:=[],L:=20,nfix:=0}
abbrev cmp_Compare_string_R:List RSrc:=[.tmp 4]
theorem zHm:zBV Tryz.prog zCs zJM zEd cmp_Compare_string_R:=by kernel_rfl
abbrev zIO:HCode:=oN [oV 2 (.mv (.c (bv false)))]
abbrev zIP:HCode:=oR [oV 3 (.mv (.t 0)),
  oV 4 (.mv (.t 0)),
  oV 5 (.strs .neq (.t 3) (.t 4)),
  oV 2 (.mv (.t 5))] [3,4,5]
abbrev zMp:HCode:=(.seq zIO (.seq zIP .ret))
abbrev zEU:Env:={N:=6,Γ:=[],L:=6,nfix:=0}
abbrev cmp_isNaN_string_R:List RSrc:=[.tmp 2]
theorem zIQ:zBV Tryz.prog zB1 zMp zEU cmp_isNaN_string_R:=by kernel_rfl
abbrev zQN:HCode:=oN [oV 2 (.boxF (.t 0)),
  oV 3 (.boxF (.t 1)),
  oV 4 (.mv (.c (iv 0)))]
abbrev zQO:HCode:=oQ [oD 0 false (oV 5 (.fldR (.t 2) 0 1)),
  oD 1 false (oV 6 (.ldR (.t 5) 1 false)),
  oD 2 false (oV 7 (.fldR (.t 3) 0 1)),
  oD 3 false (oV 8 (.ldR (.t 7) 1 false)),
  oD 4 false (oC 9 zDs [(.t 6,.v),(.t 8,.v)]),
  oD 5 false (oV 10 (.fldR (.t 2) 1 1)),
  oD 6 false (oV 11 (.ldR (.t 10) 1 false)),
  oD 7 false (oV 12 (.fldR (.t 3) 1 1)),
  oD 8 false (oV 13 (.ldR (.t 12) 1 false)),
  oD 9 true (oC 14 zCs [(.t 11,.v),(.t 13,.v)]),
  oD 10 false (oV 15 (.bslF 1 [.t 9,.t 14])),
  oD 11 true (oC 16 zF2 [(.t 15,.v)]),
  oD 12 false (oV 4 (.mv (.t 16)))] [5,6,7,8,9,10,11,12,13,14,15,16]
abbrev zYB:HCode:=(.seq zQN (.seq zQO .ret))
abbrev zJN:Env:={N:=17,Γ:=[],L:=17,nfix:=0}
abbrev index_order_R:List RSrc:=[.tmp 4]
theorem zQP:zBV Tryz.prog zBl zYB zJN index_order_R:=by kernel_rfl
abbrev zIR:HCode:=oN [oV 4 (.mv (.c (bv false)))]
abbrev zIS:HCode:=oR [oV 6 (.mv (.t 0)),
  oV 7 (.len false (.t 6)),
  oV 8 (.mv (.t 1)),
  oV 9 (.len false (.t 8)),
  oV 10 (.ints .neq (.t 7) (.t 9))] [6,7,8,9]
abbrev zIT:HCode:=oN [oV 4 (.mv (.c (bv false)))]
abbrev zIU:HCode:=oR [oV 11 (.mv (.t 0)),
  oV 12 (.len false (.t 11)),
  oV 13 (.mv (.c (iv 0)))] [11]
abbrev zIV:HCode:=oN [oV 14 (.ints .lss (.t 13) (.t 12))]
abbrev zIW:HCode:=oR [oV 15 (.mv (.t 13)),
  oV 5 (.mv (.t 15))] [15]
abbrev zIX:HCode:=oQ [oD 0 false (oV 16 (.mv (.t 0))),
  oD 1 false (oV 17 (.mv (.t 5))),
  oD 2 false (oV 18 (.idxA 1 (.t 16) (.t 17))),
  oD 3 false (oV 19 (.ldR (.t 18) 1 false)),
  oD 4 false (oV 20 (.mv (.t 1))),
  oD 5 false (oV 21 (.mv (.t 5))),
  oD 6 false (oV 22 (.idxA 1 (.t 20) (.t 21))),
  oD 7 false (oV 23 (.ldR (.t 22) 1 false)),
  oD 8 false (oV 24 (.ints .neq (.t 19) (.t 23)))] [16,17,18,19,20,21,22,23]
abbrev zIY:HCode:=oN [oV 4 (.mv (.c (bv false)))]
abbrev zIZ:HCode:=oR [oV 25 (.ints .add (.t 13) (.c (iv 1))),
  oV 13 (.mv (.t 25))] [25]
abbrev zI0:HCode:=oN [oV 4 (.mv (.c (bv true)))]
abbrev zMq:HCode:=(.seq zIR (.seq (.seq zIS (.cond (.t 10) (.seq zIT .ret) .skip)) (.seq (.seq zIU (.block 0 (.loop (.seq zIV (.seq (.cond (.t 14) .skip (.exit 0)) (.seq (.block 1 (.seq zIW (.seq zIX (.cond (.t 24) (.seq zIY .ret) .skip)))) zIZ)))))) (.seq zI0 .ret))))
abbrev zEV:Env:={N:=26,Γ:=[],L:=26,nfix:=0}
abbrev slices_Equal_int_R:List RSrc:=[.tmp 4]
theorem zI1:zBV Tryz.prog zC1 zMq zEV slices_Equal_int_R:=by kernel_rfl
abbrev zOM:HCode:=oN [oV 2 (.boxF (.t 0)),
  oV 3 (.boxF (.t 1)),
  oV 4 (.mv (.c (bv false)))]
abbrev zON:HCode:=oR [oV 5 (.ldR (.t 2) 3 true),
  oV 6 (.ldR (.t 3) 3 true),
  oC 7 zBl [(.t 5,.v),(.t 6,.v)],
  oV 8 (.ints .eql (.t 7) (.c (iv 0))),
  oV 9 (.mv (.t 8)),
  oG 9 true 10 (.fldR (.t 2) 2 1),
  oG 9 true 11 (.ldR (.t 10) 1 false),
  oG 9 true 12 (.fldR (.t 3) 2 1),
  oG 9 true 13 (.ldR (.t 12) 1 false),
  ⟨some (9,true),.call (some 14) zC1 [(.t 11,.v),(.t 13,.v)]⟩,
  oV 15 (.pick (.t 9) (.t 14) (.c (bv false))),
  oV 4 (.mv (.t 15))] [5,6,7,8,9,10,11,12,13,14,15]
abbrev zWR:HCode:=(.seq zOM (.seq zON .ret))
abbrev zIf:Env:={N:=16,Γ:=[],L:=16,nfix:=0}
abbrev index_Fits_1_R:List RSrc:=[.tmp 4]
theorem zOO:zBV Tryz.prog zDt zWR zIf index_Fits_1_R:=by kernel_rfl
abbrev zE8:HCode:=oN [oV 6 (.mv (.c (bv false)))]
abbrev zE9:HCode:=oR [oV 10 (.mv (.t 0)),
  oV 11 (.len false (.t 10)),
  oV 12 (.mv (.t 1)),
  oV 13 (.len false (.t 12)),
  oV 14 (.ints .neq (.t 11) (.t 13))] [10,11,12,13]
abbrev zFa:HCode:=oN [oV 6 (.mv (.c (bv false)))]
abbrev zFb:HCode:=oN [oV 15 (.mv (.t 0)),
  oV 16 (.len false (.t 15)),
  oV 17 (.mv (.c (iv 0)))]
abbrev zFc:HCode:=oN [oV 18 (.ints .lss (.t 17) (.t 16))]
abbrev zFd:HCode:=oR [oV 19 (.mv (.t 17)),
  oV 20 (.idxA 3 (.t 15) (.t 17)),
  oV 21 (.ldR (.t 20) 3 true),
  ⟨none,.alloc 8 0 32 [.v (.int .i64 0),.v (mkS []),.nl 1]⟩,
  oV 7 (.mv (.t 19)),
  ⟨none,.sto (.t 8) 0 32 0 3 (.t 21)⟩] [19,20,21]
abbrev zFe:HCode:=oR [oV 22 (.mv (.t 1)),
  oV 23 (.mv (.t 7)),
  oV 24 (.idxA 3 (.t 22) (.t 23)),
  oV 25 (.ldR (.t 24) 3 true),
  ⟨none,.alloc 9 1 35 [.v (.int .i64 0),.v (mkS []),.nl 1]⟩,
  ⟨none,.sto (.t 9) 1 35 0 3 (.t 25)⟩] [22,23,24,25]
abbrev zFf:HCode:=oR [oV 26 (.mv (.t 2)),
  oV 27 (.ldB (.t 8) 0 32 0 3 true),
  oV 28 (.ldB (.t 9) 1 35 0 3 true),
  ⟨none,.callv (some 29) (.t 26) [(.t 27,.v),(.t 28,.v)]⟩,
  oV 30 (.not (.t 29))] [26,27,28,29]
abbrev zFg:HCode:=oN [oV 6 (.mv (.c (bv false)))]
abbrev zFh:HCode:=oR [oV 31 (.ints .add (.t 17) (.c (iv 1))),
  oV 17 (.mv (.t 31))] [31]
abbrev zEC:HCode:=oN [oV 6 (.mv (.c (bv true)))]
abbrev zGu:HCode:=(.seq zE8 (.seq (.seq zE9 (.cond (.t 14) (.seq zFa .ret) .skip)) (.seq (.seq zFb (.block 0 (.loop (.seq zFc (.seq (.cond (.t 18) .skip (.exit 0)) (.seq (.block 1 (.seq zFd (.seq zFe (.seq zFf (.cond (.t 30) (.seq zFg .ret) .skip))))) zFh)))))) (.seq zEC .ret))))
abbrev zC7:Env:={N:=32,Γ:=[(32,3),(35,3)],L:=38,nfix:=0}
abbrev slices_EqualFunc_Entry_R:List RSrc:=[.tmp 6]
theorem zFi:zBV Tryz.prog zBR zGu zC7 slices_EqualFunc_Entry_R:=by kernel_rfl
abbrev zUV:HCode:=oN [oV 1 (.boxF (.t 0)),
  oV 2 (.mv (.c (iv 0)))]
abbrev zUW:HCode:=oR [oV 6 (.fldR (.t 1) 0 1),
  oV 7 (.ldR (.t 6) 1 true),
  oC 8 zDM [(.t 7,.v)],
  oV 5 (.mv (.t 8)),
  oV 9 (.ext 5 0),
  oV 10 (.ext 5 1),
  oV 3 (.mv (.t 9)),
  oV 4 (.mv (.t 10))] [5,6,7,8,9,10]
abbrev zUX:HCode:=oR [oV 11 (.mv (.t 4)),
  oV 12 (.ints .neq (.t 11) (.c (iv 0)))] [11]
abbrev zUY:HCode:=oR [oV 13 (.mv (.t 4)),
  oV 2 (.mv (.t 13))] [13]
abbrev zUZ:HCode:=oR [oV 14 (.mv (.t 3)),
  oV 15 (.fldR (.t 1) 1 1),
  oV 16 (.ldR (.t 15) 1 false),
  oC 17 zBR [(.t 14,.v),(.t 16,.v),(.f zDt,.v)],
  oV 18 (.not (.t 17))] [14,15,16,17]
abbrev zU0:HCode:=oN [oV 2 (.mv (.c (iv 1)))]
abbrev zU1:HCode:=oN [oV 2 (.mv (.c (iv 0)))]
abbrev yBu:HCode:=(.seq zUV (.seq zUW (.seq (.seq zUX (.cond (.t 12) (.seq zUY .ret) .skip)) (.seq (.seq zUZ (.cond (.t 18) (.seq zU0 .ret) .skip)) (.seq zU1 .ret)))))
abbrev zLx:Env:={N:=19,Γ:=[],L:=19,nfix:=0}
abbrev index_Fits_R:List RSrc:=[.tmp 2]
theorem zU2:zBV Tryz.prog zF3 yBu zLx index_Fits_R:=by kernel_rfl
abbrev zJO:HCode:=oN [oV 4 (.mv (.c (bv false)))]
abbrev zJP:HCode:=oR [oV 6 (.mv (.t 0)),
  oV 7 (.len false (.t 6)),
  oV 8 (.mv (.t 1)),
  oV 9 (.len false (.t 8)),
  oV 10 (.ints .neq (.t 7) (.t 9))] [6,7,8,9]
abbrev zJQ:HCode:=oN [oV 4 (.mv (.c (bv false)))]
abbrev zJR:HCode:=oN [oV 5 (.mv (.c (iv 0)))]
abbrev zJS:HCode:=oR [oV 11 (.mv (.t 5)),
  oV 12 (.mv (.t 0)),
  oV 13 (.len false (.t 12)),
  oV 14 (.ints .lss (.t 11) (.t 13))] [11,12,13]
abbrev zJT:HCode:=oQ [oD 0 false (oV 17 (.mv (.t 0))),
  oD 1 false (oV 18 (.mv (.t 5))),
  oD 2 false (oV 19 (.idxA 3 (.t 17) (.t 18))),
  oD 3 false (oV 20 (.fldR (.t 19) 0 1)),
  oD 4 false (oV 21 (.ldR (.t 20) 1 false)),
  oD 5 false (oV 22 (.mv (.t 1))),
  oD 6 false (oV 23 (.mv (.t 5))),
  oD 7 false (oV 24 (.idxA 3 (.t 22) (.t 23))),
  oD 8 false (oV 25 (.fldR (.t 24) 0 1)),
  oD 9 false (oV 26 (.ldR (.t 25) 1 false)),
  oD 10 false (oV 27 (.ints .neq (.t 21) (.t 26))),
  oD 11 false (oV 28 (.mv (.t 27))),
  oD 12 false (oG 28 false 29 (.mv (.t 0))),
  oD 13 false (oG 28 false 30 (.mv (.t 5))),
  oD 14 false (oG 28 false 31 (.idxA 3 (.t 29) (.t 30))),
  oD 15 false (oG 28 false 32 (.fldR (.t 31) 1 1)),
  oD 16 false (oG 28 false 33 (.ldR (.t 32) 1 false)),
  oD 17 false (oG 28 false 34 (.mv (.t 1))),
  oD 18 false (oG 28 false 35 (.mv (.t 5))),
  oD 19 false (oG 28 false 36 (.idxA 3 (.t 34) (.t 35))),
  oD 20 false (oG 28 false 37 (.fldR (.t 36) 1 1)),
  oD 21 false (oG 28 false 38 (.ldR (.t 37) 1 false)),
  oD 22 false (oG 28 false 39 (.strs .neq (.t 33) (.t 38))),
  oD 23 false (oV 40 (.pick (.t 28) (.c (bv true)) (.t 39))),
  oD 24 false (oV 41 (.mv (.t 40))),
  oD 25 false (oG 41 false 42 (.mv (.t 0))),
  oD 26 false (oG 41 false 43 (.mv (.t 5))),
  oD 27 false (oG 41 false 44 (.idxA 3 (.t 42) (.t 43))),
  oD 28 false (oG 41 false 45 (.fldR (.t 44) 2 1)),
  oD 29 false (oG 41 false 46 (.ldR (.t 45) 1 false)),
  oD 30 false (oG 41 false 47 (.mv (.t 1))),
  oD 31 false (oG 41 false 48 (.mv (.t 5))),
  oD 32 false (oG 41 false 49 (.idxA 3 (.t 47) (.t 48))),
  oD 33 false (oG 41 false 50 (.fldR (.t 49) 2 1)),
  oD 34 false (oG 41 false 51 (.ldR (.t 50) 1 false)),
  oD 35 true ⟨some (41,false),.call (some 52) zEs [(.t 46,.v),(.t 51,.v)]⟩,
  oD 36 false (oG 41 false 53 (.not (.t 52))),
  oD 37 false (oV 54 (.pick (.t 41) (.c (bv true)) (.t 53)))] [17,18,19,20,21,22,23,24,25,26,27,28,29,30,31,32,33,34,35,36,37,38,39,40,41,42,43,44,45,46,47,48,49,50,51,52,53]
abbrev zJU:HCode:=oN [oV 4 (.mv (.c (bv false)))]
abbrev zJV:HCode:=oR [oV 15 (.mv (.t 5)),
  oV 16 (.ints .add (.t 15) (.c (iv 1))),
  oV 5 (.mv (.t 16))] [15,16]
abbrev zJW:HCode:=oN [oV 4 (.mv (.c (bv true)))]
abbrev zOP:HCode:=(.seq zJO (.seq (.seq zJP (.cond (.t 10) (.seq zJQ .ret) .skip)) (.seq (.seq zJR (.block 0 (.loop (.seq (.seq zJS (.cond (.t 14) .skip (.exit 0))) (.seq (.block 1 (.seq zJT (.cond (.t 54) (.seq zJU .ret) .skip))) zJV))))) (.seq zJW .ret))))
abbrev zFL:Env:={N:=55,Γ:=[],L:=55,nfix:=0}
abbrev ref_SameIndexes_R:List RSrc:=[.tmp 4]
theorem zJX:zBV Tryz.prog zBN zOP zFL ref_SameIndexes_R:=by kernel_rfl
abbrev zMr:HCode:=oN [oV 1 (.boxF (.t 0)),
  oV 2 (.mv (.c (iv 0)))]
abbrev zMs:HCode:=oR [oV 4 (.fldR (.t 1) 0 1),
  oV 5 (.ldR (.t 4) 1 true),
  oC 6 zBy [(.t 5,.v)],
  oV 3 (.mv (.t 6))] [4,5,6]
abbrev zMt:HCode:=oR [oV 7 (.mv (.t 3)),
  oV 8 (.ints .neq (.t 7) (.c (iv 0)))] [7]
abbrev zMu:HCode:=oR [oV 9 (.mv (.t 3)),
  oV 2 (.mv (.t 9))] [9]
abbrev zMv:HCode:=oQ [oD 0 false (oV 10 (.fldR (.t 1) 1 1)),
  oD 1 false (oV 11 (.ldR (.t 10) 1 false)),
  oD 2 false (oV 12 (.fldR (.t 1) 0 1)),
  oD 3 false (oV 13 (.ldR (.t 12) 1 true)),
  oD 4 true (oC 14 zCQ [(.t 13,.v)]),
  oD 5 true (oC 15 zBN [(.t 11,.v),(.t 14,.v)]),
  oD 6 false (oV 16 (.not (.t 15)))] [10,11,12,13,14,15]
abbrev zMw:HCode:=oN [oV 2 (.mv (.c (iv 1)))]
abbrev zMx:HCode:=oN [oV 2 (.mv (.c (iv 0)))]
abbrev zU3:HCode:=(.seq zMr (.seq (.seq zMs (.seq zMt (.cond (.t 8) (.seq zMu .ret) .skip))) (.seq (.seq zMv (.cond (.t 16) (.seq zMw .ret) .skip)) (.seq zMx .ret))))
abbrev zHn:Env:={N:=17,Γ:=[],L:=17,nfix:=0}
abbrev ref_PageError_R:List RSrc:=[.tmp 2]
theorem zMy:zBV Tryz.prog zD5 zU3 zHn ref_PageError_R:=by kernel_rfl
end Go.Hx
end

section
namespace Go.Hx
open Go.Proofs
variable [Glob]
attribute [local go_sem] zAh zAm zAk zAg ndV zAr
attribute [local go_sem] reduceCtorEq Nat.reduceAdd Nat.reduceEqDiff reduceIte Nat.reduceLeDiff Nat.reduceLT Nat.reduceSub
theorem zDW (n lo hi:Int):Contract Tryz.prog zB0 [.val (iv n),.val (iv lo),.val (iv hi)] {res:=.val (bv (decide (lo≤n∧n≤hi)))}:=by
 refine mkA zTc (base:=0) (fo rfl) (fun hfit=>?_)
 unfold F0 zLj
 simp (maxSteps:=2000000) only [zAM,List.set_cons_succ,List.set_cons_zero,List.map_cons,List.map_nil,zAL,zAa,ioOf,List.length_cons,List.length_nil,Nat.reduceAdd,Nat.reduceSub,List.replicate,List.cons_append,List.nil_append]
 try simp (maxSteps:=2000000) only [go_sem]
 repeat with_reducible refine zAb ?_
 refine zAj rfl trivial (.inl ?_)
 congr 3
 by_cases h1:lo≤n<;>by_cases h2:n≤hi<;>simp [h1,h2]
theorem zEW (s:Bys):Contract Tryz.prog zCz [.val (sv s)] {res:=.val (bv (zCl s))}:=by
 refine mkA zTn (base:=0) (fo rfl) (fun hfit=>?_)
 unfold F0 zLk
 simp (maxSteps:=2000000) only [zAM,List.set_cons_succ,List.set_cons_zero,List.map_cons,List.map_nil,zAL,zAa,ioOf,List.length_cons,List.length_nil,Nat.reduceAdd,Nat.reduceSub,List.replicate,List.cons_append,List.nil_append]
 try simp (maxSteps:=2000000) only [go_sem]
 repeat with_reducible refine zAb ?_
 refine zAq (by repeat' constructor) (zDW _ _ _) ?_
 try simp (maxSteps:=2000000) only [go_sem]
 repeat with_reducible refine zAb ?_
 refine zAd (by rfl) trivial (fun h=>?_) (fun h=>?_)
 ·try simp (maxSteps:=2000000) only [go_sem]
  repeat with_reducible refine zAb ?_
  refine zAj rfl trivial (.inl ?_)
  congr 3
  cases hn:zCl s with
  |false=>rfl
  |true=>exfalso;simp [zCl] at hn h;omega
 have hl:s.length≤12:=by simp at h;omega
 try simp (maxSteps:=2000000) only [go_sem]
 repeat with_reducible refine zAb ?_
 refine zAx (fun i:Nat=>[(3,.pv (iv i)),(4,.un),(22,.un),(46,.un)]) (fun i=>s.length-i) (fun i=>i≤s.length∧(s.take i).all zLf=true) 0 ?_ ⟨Nat.zero_le _,rfl⟩ ?_
 ·simp (maxSteps:=2000000) only [go_sem,zAn,zAw,zAJ,zAo]
 intro i ⟨hi,hall⟩
 try simp (maxSteps:=2000000) only [go_sem]
 repeat with_reducible refine zAb ?_
 refine zAd (by rfl) trivial (fun h2=>?_) (fun h2=>?_)
 ·have hlt:i < s.length:=by simpa using h2
  try simp (maxSteps:=2000000) only [go_sem]
  repeat with_reducible refine zAb ?_
  refine zAd (by rfl) trivial (fun h3=>?_) (fun h3=>?_)
  ·try simp (maxSteps:=2000000) only [go_sem]
   repeat with_reducible refine zAb ?_
   refine zAj rfl trivial (.inl ?_)
   congr 3
   cases hn:zCl s with
   |false=>rfl
   |true=>
    exfalso
    simp only [zCl,Bool.and_eq_true,List.all_eq_true] at hn
    have h4:=hn.2 (s.getD i 0) (by simp [hlt])
    simp [zLf,hlt] at h3 h4
    omega
  ·try simp (maxSteps:=2000000) only [go_sem]
   repeat with_reducible refine zAb ?_
   refine ⟨i+1,by omega,⟨hlt,?_⟩,?_⟩
   ·rw [zJs hlt (d:=0),hall]
    simp [zLf,hlt] at h3 ⊢
    omega
   ·simp (maxSteps:=2000000) only [go_sem,zAn,zAw,zAJ,zAo]
    exact zAy (by omega)
 ·try simp (maxSteps:=2000000) only [go_sem]
  repeat with_reducible refine zAb ?_
  refine zAj rfl trivial (.inl ?_)
  congr 3
  have hi2:i=s.length:=by simp at h2;omega
  subst hi2
  simp [zCl] at hall h ⊢
  exact ⟨by omega,hall⟩
theorem zU4 (s:Bys):Contract Tryz.prog zE7 [.val (sv s)] {res:=.val (bv (zD2 s))}:=by
 refine mkA zQm (base:=0) (fo rfl) (fun hfit=>?_)
 unfold F0 zJv
 simp (maxSteps:=2000000) only [zAM,List.set_cons_succ,List.set_cons_zero,List.map_cons,List.map_nil,zAL,zAa,ioOf,List.length_cons,List.length_nil,Nat.reduceAdd,Nat.reduceSub,List.replicate,List.cons_append,List.nil_append]
 try simp (maxSteps:=2000000) only [go_sem]
 repeat with_reducible refine zAb ?_
 refine zAd (by rfl) trivial (fun h=>?_) (fun h=>?_)
 ·try simp (maxSteps:=2000000) only [go_sem]
  repeat with_reducible refine zAb ?_
  refine zAj rfl trivial (.inl ?_)
  simp [zD2] at h ⊢
  intro h';omega
 have hl:s.length≤16:=by simp at h;omega
 try simp (maxSteps:=2000000) only [go_sem]
 repeat with_reducible refine zAb ?_
 refine zAx (fun i:Nat=>[(3,.pv (iv i)),(10,.un),(28,.un)]) (fun i=>s.length-i) (fun i=>i≤s.length∧(s.take i).all yAT=true) 0 ?_ ⟨Nat.zero_le _,rfl⟩ ?_
 ·simp (maxSteps:=2000000) only [go_sem,zAn,zAw,zAJ,zAo]
 intro i ⟨hi,hall⟩
 try simp (maxSteps:=2000000) only [go_sem]
 repeat with_reducible refine zAb ?_
 refine zAd (by rfl) trivial (fun h=>?_) (fun h=>?_)
 ·have hlt:i < s.length:=by simpa using h
  try simp (maxSteps:=2000000) only [go_sem]
  repeat with_reducible refine zAb ?_
  refine zAd (by rfl) trivial (fun h2=>?_) (fun h2=>?_)
  ·try simp (maxSteps:=2000000) only [go_sem]
   repeat with_reducible refine zAb ?_
   refine zAj rfl trivial (.inl ?_)
   congr 3
   cases hn:zD2 s with
   |false=>rfl
   |true=>
    exfalso
    simp only [zD2,Bool.and_eq_true,List.all_eq_true] at hn
    have h4:=hn.2 (s.getD i 0) (by simp [hlt])
    simp [yAT,hlt] at h2 h4
    omega
  ·try simp (maxSteps:=2000000) only [go_sem]
   repeat with_reducible refine zAb ?_
   refine ⟨i+1,by omega,⟨hlt,?_⟩,?_⟩
   ·rw [zJs hlt (d:=0),hall]
    simp [yAT,hlt] at h2 ⊢
    omega
   ·simp (maxSteps:=2000000) only [go_sem,zAn,zAw,zAJ,zAo]
    exact zAy (by omega)
 ·try simp (maxSteps:=2000000) only [go_sem]
  repeat with_reducible refine zAb ?_
  refine zAj rfl trivial (.inl ?_)
  have hi2:i=s.length:=by simp at h;omega
  subst hi2
  simp [zD2,hl] at hall ⊢
  exact hall
end Go.Hx
end

section
set_option maxRecDepth 100000
set_option linter.unusedSimpArgs false
namespace Go.Hx
open Go.Proofs
variable [Glob]
attribute [local go_sem] zAh zAm zAk zAg ndV zAr
attribute [local go_sem] reduceCtorEq Nat.reduceAdd Nat.reduceEqDiff reduceIte Nat.reduceLeDiff Nat.reduceLT Nat.reduceSub
theorem zQQ (a b:List Int):Contract Tryz.prog zEs [.val (.one (.sl 1 (zBi a))),.val (.one (.sl 1 (zBi b)))] {res:=.val (bv (decide (a=b)))}:=by
 refine mkA zOg (base:=0) (fo rfl) (fun hfit=>?_)
 unfold F0 zIa
 simp (maxSteps:=2000000) only [zAM,List.set_cons_succ,List.set_cons_zero,List.map_cons,List.map_nil,zAL,zAa,ioOf,List.length_cons,List.length_nil,Nat.reduceAdd,Nat.reduceSub,List.replicate,List.cons_append,List.nil_append]
 try simp (maxSteps:=2000000) only [go_sem]
 repeat with_reducible refine zAb ?_
 have hm:=zDl (k:=1) hfit.1
 rw [zAg] at hm
 refine zAd (by rfl) trivial (fun h=>?_) (fun h=>?_)
 ·try simp (maxSteps:=2000000) only [go_sem]
  repeat with_reducible refine zAb ?_
  refine zAj rfl trivial (.inl ?_)
  congr 3
  simp [zAg] at h
  exact decide_eq_false (fun e=>h (by subst e;rfl))
 have hl:a.length=b.length:=by simp [zAg] at h;omega
 try simp (maxSteps:=2000000) only [go_sem]
 repeat with_reducible refine zAb ?_
 refine zAx (fun i:Nat=>[(5,.pv (iv i)),(14,.un),(25,.un)]) (fun i=>a.length-i) (fun i=>i≤a.length∧a.take i=b.take i) 0 ?_ ⟨Nat.zero_le _,rfl⟩ ?_
 ·simp (maxSteps:=2000000) only [go_sem,zAn,zAw,zAJ,zAo]
 intro i ⟨hi,heq⟩
 try simp (maxSteps:=2000000) only [go_sem,zAg]
 repeat with_reducible refine zAb ?_
 refine zAd (by rfl) trivial (fun h2=>?_) (fun h2=>?_)
 ·have hlt:i < a.length:=by simpa using h2
  have hltb:i < b.length:=by omega
  try simp (maxSteps:=2000000) only [go_sem,zDT _ _ hlt,zDT _ _ hltb,zAg]
  repeat with_reducible refine zAb ?_
  refine zAd (by rfl) trivial (fun h3=>?_) (fun h3=>?_)
  ·try simp (maxSteps:=2000000) only [go_sem]
   repeat with_reducible refine zAb ?_
   refine zAj rfl trivial (.inl ?_)
   congr 3
   simp only [bne_iff_ne,ne_eq] at h3
   exact (decide_eq_false (zKJ 0 h3))
  ·try simp (maxSteps:=2000000) only [go_sem]
   repeat with_reducible refine zAb ?_
   refine ⟨i+1,by omega,⟨hlt,zEP 0 heq hlt hltb ?_⟩,?_⟩
   ·simpa only [bne_eq_false_iff_eq] using h3
   ·simp (maxSteps:=2000000) only [go_sem,zAn,zAw,zAJ,zAo]
    exact zAy (by omega)
 ·try simp (maxSteps:=2000000) only [go_sem]
  repeat with_reducible refine zAb ?_
  refine zAj rfl trivial (.inl ?_)
  congr 3
  have hi2:i=a.length:=by simp at h2;omega
  subst hi2
  exact decide_eq_true (zHJ hl heq)
end Go.Hx
end

section
set_option maxRecDepth 100000
set_option linter.unusedSimpArgs false
namespace Go.Hx
open Go.Proofs
variable [Glob]
attribute [local go_sem] zAh zAm zAk zAg ndV zAr
attribute [local go_sem] reduceCtorEq Nat.reduceAdd Nat.reduceEqDiff reduceIte Nat.reduceLeDiff Nat.reduceLT Nat.reduceSub
theorem zIg (x:Nd):Contract Tryz.prog zDn [.val (.agg (ndV x))] {res:=.val (bv (zA0 x))}:=by
 unfold ndV
 refine mkA zNU (base:=0) (fo rfl) (fun hfit=>?_)
 unfold F0 zH8
 simp (maxSteps:=2000000) only [zAM,List.set_cons_succ,List.set_cons_zero,List.map_cons,List.map_nil,zAL,zAa,ioOf,List.length_cons,List.length_nil,Nat.reduceAdd,Nat.reduceSub,List.replicate,List.cons_append,List.nil_append]
 try simp (maxSteps:=2000000) only [go_sem]
 repeat with_reducible refine zAb ?_
 refine zAq (by repeat' constructor) (zEW _) ?_
 try simp (maxSteps:=2000000) only [go_sem]
 repeat with_reducible refine zAb ?_
 apply zAB (h2:=fun _=>zEW _)
 ·(simp (maxSteps:=2000000) only [go_sem];rfl)
 ·intro h;repeat' (first|exact trivial|exact h|refine And.intro ?_ ?_)
 try simp (maxSteps:=2000000) only [go_sem,zAm,zAk]
 repeat with_reducible refine zAb ?_
 refine zAd (by rfl) trivial (fun h=>?_) (fun h=>?_)
 ·try simp (maxSteps:=2000000) only [go_sem]
  repeat with_reducible refine zAb ?_
  refine zAj rfl trivial (.inl ?_)
  congr 3
  cases hn:zA0 x with
  |false=>rfl
  |true=>
   exfalso
   simp only [zA0,Bool.and_eq_true,Bool.or_eq_true,decide_eq_true_eq,beq_iff_eq] at hn
   obtain ⟨⟨⟨⟨⟨h1,h2⟩,h3⟩,h4⟩,_⟩,_⟩:=hn
   rcases h2 with h2|h2
   ·simp [h1,h2] at h;omega
   ·simp [h1,h2] at h;omega
 have hh:zCl x.tag=true∧(x.id=[]∨zCl x.id=true)∧x.cls.length≤6∧x.att.length≤4:=by
  simp at h
  refine ⟨h.1.1.1,?_,by omega,by omega⟩
  by_cases h0:x.id=[]
  ·exact .inl h0
  ·exact .inr (h.1.1.2 h0)
 obtain ⟨hh1,hh2,hh3,hh4⟩:=hh
 try simp (maxSteps:=2000000) only [go_sem]
 repeat with_reducible refine zAb ?_
 refine zAx (fun i:Nat=>[(3,.pv (iv i)),(36,.un),(63,.un)]) (fun i=>x.cls.length-i) (fun i=>i≤x.cls.length∧okC x.cls i=true) 0 ?_ ⟨Nat.zero_le _,rfl⟩ ?_
 ·simp (maxSteps:=2000000) only [go_sem,zAn,zAw,zAJ,zAo]
 intro i ⟨hi,hok⟩
 try simp (maxSteps:=2000000) only [go_sem,zAm]
 repeat with_reducible refine zAb ?_
 refine zAd (by rfl) trivial (fun h2=>?_) (fun h2=>?_)
 ·have hlt:i < x.cls.length:=by simpa using h2
  have e1:((i:Int)-1).toNat=i-1:=by omega
  try simp (maxSteps:=2000000) only [go_sem,zEN _ _ hlt,zAm]
  repeat with_reducible refine zAb ?_
  refine zAq (by repeat' constructor) (zEW _) ?_
  try simp (maxSteps:=2000000) only [go_sem,zEN _ _ hlt,zAm,e1,zEN _ _ (show i-1 < x.cls.length by omega)]
  repeat with_reducible refine zAb ?_
  refine zAd (by rfl) trivial (fun h3=>?_) (fun h3=>?_)
  ·try simp (maxSteps:=2000000) only [go_sem]
   repeat with_reducible refine zAb ?_
   refine zAj rfl trivial (.inl ?_)
   congr 3
   cases hn:zA0 x with
   |false=>rfl
   |true=>
    exfalso
    simp only [zA0,Bool.and_eq_true] at hn
    have h4:=zA5 hn.1.2 hlt
    simp [cOk,hlt] at h3 h4
    grind
  ·try simp (maxSteps:=2000000) only [go_sem]
   repeat with_reducible refine zAb ?_
   refine ⟨i+1,by omega,⟨hlt,?_⟩,?_⟩
   ·show (List.range (i+1)).all (cOk x.cls)=true
    rw [zCP]
    have hok':(List.range i).all (cOk x.cls)=true:=hok
    rw [hok']
    simp [cOk,hlt] at h3 ⊢
    refine ⟨h3.1,?_⟩
    rcases Nat.eq_zero_or_pos i with h5|h5
    ·exact .inl h5
    ·exact .inr (h3.2 h5)
   ·simp (maxSteps:=2000000) only [go_sem,zAn,zAw,zAJ,zAo]
    exact zAy (by omega)
 try simp (maxSteps:=2000000) only [go_sem]
 repeat with_reducible refine zAb ?_
 have hi2:i=x.cls.length:=by simp at h2;omega
 refine zAx (fun i:Nat=>[(4,.pv (iv i)),(68,.un),(108,.un)]) (fun i=>x.att.length-i) (fun i=>i≤x.att.length∧okA x.att i=true) 0 ?_ ⟨Nat.zero_le _,rfl⟩ ?_
 ·simp (maxSteps:=2000000) only [go_sem,zAn,zAw,zAJ,zAo]
 intro k ⟨hk,hokA⟩
 try simp (maxSteps:=2000000) only [go_sem,zAk]
 repeat with_reducible refine zAb ?_
 refine zAd (by rfl) trivial (fun h3=>?_) (fun h3=>?_)
 ·have hlt:k < x.att.length:=by simpa using h3
  have e1:((k:Int)-1).toNat=k-1:=by omega
  try simp (maxSteps:=2000000) only [go_sem,zEO _ _ hlt,zAk]
  repeat with_reducible refine zAb ?_
  refine zAq (by repeat' constructor) (zEW _) ?_
  try simp (maxSteps:=2000000) only [go_sem,zEO _ _ hlt,zAk]
  repeat with_reducible refine zAb ?_
  apply zAB (h2:=fun _=>zU4 _)
  ·(simp (maxSteps:=2000000) only [go_sem];rfl)
  ·intro h;repeat' (first|exact trivial|exact h|refine And.intro ?_ ?_)
  try simp (maxSteps:=2000000) only [go_sem,zEO _ _ hlt,zAk,e1,zEO _ _ (show k-1 < x.att.length by omega)]
  repeat with_reducible refine zAb ?_
  refine zAd (by rfl) trivial (fun h4=>?_) (fun h4=>?_)
  ·try simp (maxSteps:=2000000) only [go_sem]
   repeat with_reducible refine zAb ?_
   refine zAj rfl trivial (.inl ?_)
   congr 3
   cases hn:zA0 x with
   |false=>rfl
   |true=>
    exfalso
    simp only [zA0,Bool.and_eq_true] at hn
    have h5:=zA5 hn.2 hlt
    simp [aOk,hlt] at h4 h5
    grind
  ·try simp (maxSteps:=2000000) only [go_sem]
   repeat with_reducible refine zAb ?_
   refine ⟨k+1,by omega,⟨hlt,?_⟩,?_⟩
   ·show (List.range (k+1)).all (aOk x.att)=true
    rw [zCP]
    have hok':(List.range k).all (aOk x.att)=true:=hokA
    rw [hok']
    simp [aOk,hlt] at h4 ⊢
    refine ⟨h4.1,?_⟩
    rcases Nat.eq_zero_or_pos k with h5|h5
    ·exact .inl h5
    ·exact .inr (h4.2 h5)
   ·simp (maxSteps:=2000000) only [go_sem,zAn,zAw,zAJ,zAo]
    exact zAy (by omega)
 ·try simp (maxSteps:=2000000) only [go_sem]
  repeat with_reducible refine zAb ?_
  refine zAj rfl trivial (.inl ?_)
  congr 3
  have hk2:k=x.att.length:=by simp at h3;omega
  subst hk2 hi2
  simp only [zA0,hh1,hok,hokA,hh3,hh4,decide_true,Bool.and_true,Bool.true_and]
  rcases hh2 with h|h<;>simp [h]
theorem zDu (x:Nd) (h1:x.cls.length≤64) (h2:x.att.length≤64):Contract Tryz.prog zBQ [.val (.agg (ndV x))] {res:=.val (.agg (ndV x))}:=by
 unfold ndV
 refine mkA zQr (base:=0) (fo rfl) (fun hfit=>?_)
 unfold F0 zJw
 simp (maxSteps:=2000000) only [zAM,List.set_cons_succ,List.set_cons_zero,List.map_cons,List.map_nil,zAL,zAa,ioOf,List.length_cons,List.length_nil,Nat.reduceAdd,Nat.reduceSub,List.replicate,List.cons_append,List.nil_append]
 try simp (maxSteps:=2000000) only [go_sem]
 repeat with_reducible refine zAb ?_
 try simp (maxSteps:=2000000) only [go_sem,zAm,zAk]
 repeat with_reducible refine zAb ?_
 exact zCO rfl rfl rfl
end Go.Hx
end
