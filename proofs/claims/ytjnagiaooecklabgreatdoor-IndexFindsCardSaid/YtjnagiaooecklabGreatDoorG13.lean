/-
  Walks of functions of the program over an abstract layer, and the laws that they use: each contract says what the function computes, for every input that its conditions let by. No other condition.
-/
import Derived.Test.YtjnagiaooecklabGreatDoorProg
import Derived.Test.YtjnagiaooecklabGreatDoorG11
import Derived.Test.YtjnagiaooecklabGreatDoorG12
import Derived.Test.YtjnagiaooecklabGreatDoorG10
set_option linter.all false
section
/-
 The abstract code of functions of the program, printed by gen.py; each stands for the given one. No condition.
-/
namespace Go.Hx
open Go.Proofs
variable [Glob]
abbrev zA6:Nat:=257
abbrev zA7:Nat:=258
abbrev zEj:Nat:=13
abbrev zK4:Nat:=57
abbrev zHn:Nat:=173
abbrev zF4:Nat:=59
abbrev zAA:Nat:=58
abbrev zBV:Nat:=115
abbrev zA9:Nat:=118
abbrev zA8:Nat:=116
abbrev zC1:Nat:=169
abbrev zBO:Nat:=224
abbrev zBP:Nat:=225
abbrev zD7:Nat:=226
abbrev zBq:Nat:=168
abbrev zBW:Nat:=223
abbrev zC2:Nat:=172
abbrev zBQ:Nat:=229
abbrev zK5:Nat:=117
abbrev zBF:Nat:=114
abbrev zBG:Nat:=222
abbrev zBi:Nat:=170
abbrev zB2:Nat:=167
abbrev zB3:Nat:=256
abbrev zCm:Nat:=227
abbrev zC3:Nat:=232
abbrev zCK:Nat:=230
abbrev zCL:Nat:=231
abbrev zEk:Nat:=233
abbrev zB9:Nat:=217
abbrev zJE:HCode:=oN [oV 4 (.mv (.c (bv false)))]
abbrev zJF:HCode:=oR [oV 5 (.mv (.t 0)),
  oV 6 (.mv (.t 1)),
  oC 7 zA6 [(.t 5,.v),(.t 6,.v)],
  oV 4 (.mv (.t 7))] [5,6,7]
abbrev zOo:HCode:=(.seq zJE (.seq zJF .ret))
abbrev zFc:Env:={N:=8,Γ:=[],L:=8,nfix:=0}
abbrev strings_HasPrefix_R:List RSrc:=[.tmp 4]
theorem zJG:zBs Tryz.prog zCK zOo zFc strings_HasPrefix_R:=by kernel_rfl
abbrev zDv:HCode:=oN [oV 4 (.mv (.c (bv false)))]
abbrev zDw:HCode:=oR [oV 5 (.mv (.t 0)),
  oV 6 (.len true (.t 5)),
  oV 7 (.mv (.t 1)),
  oV 8 (.len true (.t 7)),
  oV 9 (.ints .geq (.t 6) (.t 8)),
  oV 10 (.mv (.t 9)),
  oG 10 true 11 (.mv (.t 0)),
  oG 10 true 12 (.mv (.t 1)),
  oG 10 true 13 (.len true (.t 12)),
  oG 10 true 14 (.sls (.t 11) none (some (.t 13))),
  oG 10 true 15 (.mv (.t 1)),
  oG 10 true 16 (.strs .eql (.t 14) (.t 15)),
  oV 17 (.pick (.t 10) (.t 16) (.c (bv false))),
  oV 4 (.mv (.t 17))] [5,6,7,8,9,10,11,12,13,14,15,16,17]
abbrev zD8:HCode:=(.seq zDv (.seq zDw .ret))
abbrev zBS:Env:={N:=18,Γ:=[],L:=18,nfix:=0}
abbrev internal_stringslite_HasPrefix_R:List RSrc:=[.tmp 4]
theorem zDx:zBs Tryz.prog zA6 zD8 zBS internal_stringslite_HasPrefix_R:=by kernel_rfl
abbrev zJH:HCode:=oN [oV 4 (.mv (.c (bv false)))]
abbrev zJI:HCode:=oR [oV 5 (.mv (.t 0)),
  oV 6 (.mv (.t 1)),
  oC 7 zA7 [(.t 5,.v),(.t 6,.v)],
  oV 4 (.mv (.t 7))] [5,6,7]
abbrev zOp:HCode:=(.seq zJH (.seq zJI .ret))
abbrev zFd:Env:={N:=8,Γ:=[],L:=8,nfix:=0}
abbrev strings_HasSuffix_R:List RSrc:=[.tmp 4]
theorem zJJ:zBs Tryz.prog zCL zOp zFd strings_HasSuffix_R:=by kernel_rfl
abbrev zDy:HCode:=oN [oV 4 (.mv (.c (bv false)))]
abbrev zDz:HCode:=oR [oV 5 (.mv (.t 0)),
  oV 6 (.len true (.t 5)),
  oV 7 (.mv (.t 1)),
  oV 8 (.len true (.t 7)),
  oV 9 (.ints .geq (.t 6) (.t 8)),
  oV 10 (.mv (.t 9)),
  oG 10 true 11 (.mv (.t 0)),
  oG 10 true 12 (.mv (.t 0)),
  oG 10 true 13 (.len true (.t 12)),
  oG 10 true 14 (.mv (.t 1)),
  oG 10 true 15 (.len true (.t 14)),
  oG 10 true 16 (.ints .sub (.t 13) (.t 15)),
  oG 10 true 17 (.sls (.t 11) (some (.t 16)) none),
  oG 10 true 18 (.mv (.t 1)),
  oG 10 true 19 (.strs .eql (.t 17) (.t 18)),
  oV 20 (.pick (.t 10) (.t 19) (.c (bv false))),
  oV 4 (.mv (.t 20))] [5,6,7,8,9,10,11,12,13,14,15,16,17,18,19,20]
abbrev zD9:HCode:=(.seq zDy (.seq zDz .ret))
abbrev zBT:Env:={N:=21,Γ:=[],L:=21,nfix:=0}
abbrev internal_stringslite_HasSuffix_R:List RSrc:=[.tmp 4]
theorem zDA:zBs Tryz.prog zA7 zD9 zBT internal_stringslite_HasSuffix_R:=by kernel_rfl
abbrev zF5:HCode:=oN [oV 4 (.mv (.c (bv false)))]
abbrev zF6:HCode:=oR [oV 5 (.mv (.t 0)),
  oV 6 (.mv (.t 1)),
  oC 7 zCm [(.t 5,.v),(.t 6,.v)],
  oV 8 (.ints .geq (.t 7) (.c (iv 0))),
  oV 4 (.mv (.t 8))] [5,6,7,8]
abbrev zHJ:HCode:=(.seq zF5 (.seq zF6 .ret))
abbrev zDb:Env:={N:=9,Γ:=[],L:=9,nfix:=0}
abbrev slices_Contains_string_R:List RSrc:=[.tmp 4]
theorem zF7:zBs Tryz.prog zBi zHJ zDb slices_Contains_string_R:=by kernel_rfl
abbrev zHK:HCode:=oN [oV 4 (.mv (.c (iv 0)))]
abbrev zHL:HCode:=oR [oV 6 (.mv (.t 0)),
  oV 7 (.len false (.t 6)),
  oV 8 (.mv (.c (iv 0)))] [6]
abbrev zHM:HCode:=oN [oV 9 (.ints .lss (.t 8) (.t 7))]
abbrev zHN:HCode:=oR [oV 10 (.mv (.t 8)),
  oV 5 (.mv (.t 10))] [10]
abbrev zHO:HCode:=oR [oV 11 (.mv (.t 1)),
  oV 12 (.mv (.t 0)),
  oV 13 (.mv (.t 5)),
  oV 14 (.idxA 1 (.t 12) (.t 13)),
  oV 15 (.ldR (.t 14) 1 false),
  oV 16 (.strs .eql (.t 11) (.t 15))] [11,12,13,14,15]
abbrev zHP:HCode:=oR [oV 17 (.mv (.t 5)),
  oV 4 (.mv (.t 17))] [17]
abbrev zHQ:HCode:=oR [oV 18 (.ints .add (.t 8) (.c (iv 1))),
  oV 8 (.mv (.t 18))] [18]
abbrev zHR:HCode:=oN [oV 4 (.mv (.c (iv (-1))))]
abbrev zK6:HCode:=(.seq zHK (.seq (.seq zHL (.block 0 (.loop (.seq zHM (.seq (.cond (.t 9) .skip (.exit 0)) (.seq (.block 1 (.seq zHN (.seq zHO (.cond (.t 16) (.seq zHP .ret) .skip)))) zHQ)))))) (.seq zHR .ret)))
abbrev zEa:Env:={N:=19,Γ:=[],L:=19,nfix:=0}
abbrev slices_Index_string_R:List RSrc:=[.tmp 4]
theorem zHS:zBs Tryz.prog zCm zK6 zEa slices_Index_string_R:=by kernel_rfl
abbrev zFe:HCode:=oN [oV 4 (.mv (.c (bv false)))]
abbrev zFf:HCode:=oR [oV 5 (.mv (.t 0)),
  oV 6 (.mv (.t 1)),
  oC 7 zB2 [(.t 5,.v),(.t 6,.v)],
  oV 8 (.ints .geq (.t 7) (.c (iv 0))),
  oV 4 (.mv (.t 8))] [5,6,7,8]
abbrev zGI:HCode:=(.seq zFe (.seq zFf .ret))
abbrev zCE:Env:={N:=9,Γ:=[],L:=9,nfix:=0}
abbrev slices_ContainsFunc_Path_R:List RSrc:=[.tmp 4]
theorem zFg:zBs Tryz.prog zBF zGI zCE slices_ContainsFunc_Path_R:=by kernel_rfl
abbrev zGJ:HCode:=oN [oV 4 (.mv (.c (iv 0)))]
abbrev zGK:HCode:=oR [oV 6 (.mv (.t 0)),
  oV 7 (.len false (.t 6)),
  oV 8 (.mv (.c (iv 0)))] [6]
abbrev zGL:HCode:=oN [oV 9 (.ints .lss (.t 8) (.t 7))]
abbrev zGM:HCode:=oR [oV 10 (.mv (.t 8)),
  oV 5 (.mv (.t 10))] [10]
abbrev zGN:HCode:=oR [oV 11 (.mv (.t 1)),
  oV 12 (.mv (.t 0)),
  oV 13 (.mv (.t 5)),
  oV 14 (.idxA 2 (.t 12) (.t 13)),
  oV 15 (.ldR (.t 14) 2 true),
  ⟨none,.callv (some 16) (.t 11) [(.t 15,.v)]⟩] [11,12,13,14,15]
abbrev zGO:HCode:=oR [oV 17 (.mv (.t 5)),
  oV 4 (.mv (.t 17))] [17]
abbrev zGP:HCode:=oR [oV 18 (.ints .add (.t 8) (.c (iv 1))),
  oV 8 (.mv (.t 18))] [18]
abbrev zGQ:HCode:=oN [oV 4 (.mv (.c (iv (-1))))]
abbrev zIu:HCode:=(.seq zGJ (.seq (.seq zGK (.block 0 (.loop (.seq zGL (.seq (.cond (.t 9) .skip (.exit 0)) (.seq (.block 1 (.seq zGM (.seq zGN (.cond (.t 16) (.seq zGO .ret) .skip)))) zGP)))))) (.seq zGQ .ret)))
abbrev zDB:Env:={N:=19,Γ:=[],L:=19,nfix:=0}
abbrev slices_IndexFunc_Path_R:List RSrc:=[.tmp 4]
theorem zGR:zBs Tryz.prog zB2 zIu zDB slices_IndexFunc_Path_R:=by kernel_rfl
abbrev zFh:HCode:=oN [oV 4 (.mv (.c (bv false)))]
abbrev zFi:HCode:=oR [oV 5 (.mv (.t 0)),
  oV 6 (.mv (.t 1)),
  oC 7 zB3 [(.t 5,.v),(.t 6,.v)],
  oV 8 (.ints .geq (.t 7) (.c (iv 0))),
  oV 4 (.mv (.t 8))] [5,6,7,8]
abbrev zGS:HCode:=(.seq zFh (.seq zFi .ret))
abbrev zCF:Env:={N:=9,Γ:=[],L:=9,nfix:=0}
abbrev slices_ContainsFunc_Test_R:List RSrc:=[.tmp 4]
theorem zFj:zBs Tryz.prog zBG zGS zCF slices_ContainsFunc_Test_R:=by kernel_rfl
abbrev zGT:HCode:=oN [oV 4 (.mv (.c (iv 0)))]
abbrev zGU:HCode:=oR [oV 6 (.mv (.t 0)),
  oV 7 (.len false (.t 6)),
  oV 8 (.mv (.c (iv 0)))] [6]
abbrev zGV:HCode:=oN [oV 9 (.ints .lss (.t 8) (.t 7))]
abbrev zGW:HCode:=oR [oV 10 (.mv (.t 8)),
  oV 5 (.mv (.t 10))] [10]
abbrev zGX:HCode:=oR [oV 11 (.mv (.t 1)),
  oV 12 (.mv (.t 0)),
  oV 13 (.mv (.t 5)),
  oV 14 (.idxA 6 (.t 12) (.t 13)),
  oV 15 (.ldR (.t 14) 6 true),
  ⟨none,.callv (some 16) (.t 11) [(.t 15,.v)]⟩] [11,12,13,14,15]
abbrev zGY:HCode:=oR [oV 17 (.mv (.t 5)),
  oV 4 (.mv (.t 17))] [17]
abbrev zGZ:HCode:=oR [oV 18 (.ints .add (.t 8) (.c (iv 1))),
  oV 8 (.mv (.t 18))] [18]
abbrev zG0:HCode:=oN [oV 4 (.mv (.c (iv (-1))))]
abbrev zIv:HCode:=(.seq zGT (.seq (.seq zGU (.block 0 (.loop (.seq zGV (.seq (.cond (.t 9) .skip (.exit 0)) (.seq (.block 1 (.seq zGW (.seq zGX (.cond (.t 16) (.seq zGY .ret) .skip)))) zGZ)))))) (.seq zG0 .ret)))
abbrev zDC:Env:={N:=19,Γ:=[],L:=19,nfix:=0}
abbrev slices_IndexFunc_Test_R:List RSrc:=[.tmp 4]
theorem zG1:zBs Tryz.prog zB3 zIv zDC slices_IndexFunc_Test_R:=by kernel_rfl
abbrev yFb:HCode:=oN [oV 1 (.boxF (.t 0)),
  oV 2 (.mv (.c (.one (.v (.pointer none)))))]
abbrev yFc:HCode:=.drg [oD 0 false (oV 13 (.ldR (.t 1) 1 true)),
  oD 1 false (oV 14 (.fldR (.t 1) 0 1)),
  oD 2 false (oV 15 (.ldR (.t 14) 1 false)),
  oD 3 false (oV 16 (.len false (.t 15))),
  oD 4 false ⟨none,.vmk 17 zB9 5 [.v (.int .i64 0),.v (.int .i64 0),.v (.int .i64 0),.v (.int .i64 0),.v (.int .i64 0)] (.t 16)⟩,
  oD 5 false ⟨none,.vbe 18 [.nl 5,.nl 5] [(0,1,.t 13)] 1 1 (.t 17)⟩,
  oD 6 false ⟨none,.vby 19 0 162 2 18⟩,
  oD 7 false (oV 3 (.mv (.t 19)))] [.forget [13,14,15,16,17,18,19],.pin 163 0 162 []]
abbrev yFd:HCode:=oN [⟨none,.mmk 20⟩,
  oV 4 (.mv (.t 20))]
abbrev yFe:HCode:=oR [oV 21 (.fldR (.t 1) 0 1),
  oV 22 (.ldR (.t 21) 1 false),
  oV 23 (.len false (.t 22)),
  oV 24 (.mv (.c (iv 0)))] [21]
abbrev yFf:HCode:=oN [oV 25 (.ints .lss (.t 24) (.t 23))]
abbrev yFg:HCode:=oR [oV 26 (.mv (.t 24)),
  oV 27 (.idxA 5 (.t 22) (.t 24)),
  oV 28 (.ldR (.t 27) 5 true),
  ⟨none,.alloc 6 1 164 [.v (.int .i64 0),.v (mkS []),.v (mkS []),.nl 1,.nl 2]⟩,
  oV 5 (.mv (.t 26)),
  ⟨none,.sto (.t 6) 1 164 0 5 (.t 28)⟩] [26,27,28]
abbrev yFh:HCode:=oR [oV 29 (.mv (.t 3)),
  oV 30 (.nilck (.t 29)),
  oV 31 (.fldP (.t 30) 1),
  oV 32 (.ldh (.t 31) 0 162 1),
  oV 33 (.mv (.t 5)),
  oV 34 (.idxA 5 (.t 32) (.t 33)),
  oV 35 (.fldP (.t 34) 2),
  ⟨none,.vse (.t 35) 163 0 162 [] 1 (.c (iv (-1)))⟩] [29,30,31,32,33,34,35]
abbrev yFi:HCode:=oR [oV 37 (.mv (.t 4)),
  oV 38 (.fldP (.t 6) 0),
  oV 39 (.ldB (.t 38) 1 164 0 1 false),
  ⟨none,.mpl 40 (.t 37) 20 1 (.t 39) (.v (.int .i64 0)) true⟩,
  oV 36 (.mv (.t 40)),
  oV 41 (.ext 36 0),
  oV 42 (.ext 36 1),
  oV 7 (.mv (.t 41)),
  oV 8 (.mv (.t 42))] [36,37,38,39,40,41,42]
abbrev yFj:HCode:=oN [oV 43 (.mv (.t 8))]
abbrev yFk:HCode:=oR [oV 44 (.mv (.t 3)),
  oV 45 (.nilck (.t 44)),
  oV 46 (.fldP (.t 45) 1),
  oV 47 (.ldh (.t 46) 0 162 1),
  oV 48 (.mv (.t 5)),
  oV 49 (.mv (.t 7)),
  oV 50 (.idxA 5 (.t 47) (.t 48)),
  oV 51 (.fldP (.t 50) 2),
  ⟨none,.vse (.t 51) 163 0 162 [] 1 (.t 49)⟩] [44,45,46,47,48,49,50,51]
abbrev yCT:HCode:=oR [oV 52 (.mv (.t 4)),
  oV 53 (.fldP (.t 6) 0),
  oV 54 (.ldB (.t 53) 1 164 0 1 false),
  oV 55 (.mv (.t 5)),
  ⟨none,.mps (.t 52) 20 1 (.t 54) (.t 55)⟩] [52,53,54,55]
abbrev yCU:HCode:=oR [oV 56 (.mv (.t 3)),
  oV 57 (.nilck (.t 56)),
  oV 58 (.fldP (.t 57) 1),
  oV 59 (.ldh (.t 58) 0 162 1),
  oV 60 (.mv (.t 5)),
  oV 61 (.idxA 5 (.t 59) (.t 60)),
  oV 62 (.fldP (.t 61) 0),
  ⟨none,.vse (.t 62) 163 0 162 [] 1 (.c (iv 1))⟩] [56,57,58,59,60,61,62]
abbrev yCV:HCode:=oR [oV 63 (.mv (.t 3)),
  oV 64 (.nilck (.t 63)),
  oV 65 (.fldP (.t 64) 1),
  oV 66 (.ldh (.t 65) 0 162 1),
  oV 67 (.mv (.t 5)),
  oV 68 (.idxA 5 (.t 66) (.t 67)),
  oV 69 (.fldP (.t 68) 2),
  ⟨none,.vlp 70 (.t 69) 163 0 162 [] 1 false⟩,
  oV 9 (.mv (.t 70))] [63,64,65,66,67,68,69,70]
abbrev yCW:HCode:=oR [oV 71 (.mv (.t 9)),
  oV 72 (.ints .geq (.t 71) (.c (iv 0)))] [71]
abbrev yCX:HCode:=oQ [oD 0 false (oV 73 (.mv (.t 3))),
  oD 1 false (oV 74 (.nilck (.t 73))),
  oD 2 false (oV 75 (.fldP (.t 74) 1)),
  oD 3 false (oV 76 (.ldh (.t 75) 0 162 1)),
  oD 4 false (oV 77 (.mv (.t 5))),
  oD 5 false (oV 78 (.mv (.t 3))),
  oD 6 false (oV 79 (.nilck (.t 78))),
  oD 7 false (oV 80 (.fldP (.t 79) 1)),
  oD 8 false (oV 81 (.ldh (.t 80) 0 162 1)),
  oD 9 false (oV 82 (.mv (.t 9))),
  oD 10 false (oV 83 (.idxA 5 (.t 81) (.t 82))),
  oD 11 false (oV 84 (.fldP (.t 83) 0)),
  oD 12 false ⟨none,.vlp 85 (.t 84) 163 0 162 [] 1 false⟩,
  oD 13 false (oV 86 (.ints .add (.t 85) (.c (iv 1)))),
  oD 14 false (oV 87 (.idxA 5 (.t 76) (.t 77))),
  oD 15 false (oV 88 (.fldP (.t 87) 0)),
  oD 16 false ⟨none,.vse (.t 88) 163 0 162 [] 1 (.t 86)⟩] [73,74,75,76,77,78,79,80,81,82,83,84,85,86,87,88]
abbrev yCY:HCode:=oR [oV 89 (.fldP (.t 6) 0),
  oV 90 (.ldB (.t 89) 1 164 0 1 false),
  oV 91 (.ints .geq (.t 90) (.c (iv 0)))] [89,90]
abbrev yCZ:HCode:=oQ [oD 0 false (oV 92 (.mv (.t 3))),
  oD 1 false (oV 93 (.nilck (.t 92))),
  oD 2 false (oV 94 (.fldP (.t 93) 1)),
  oD 3 false (oV 95 (.ldh (.t 94) 0 162 1)),
  oD 4 false (oV 96 (.fldP (.t 6) 0)),
  oD 5 false (oV 97 (.ldB (.t 96) 1 164 0 1 false)),
  oD 6 false (oV 98 (.idxA 5 (.t 95) (.t 97))),
  oD 7 false (oV 99 (.fldP (.t 98) 4)),
  oD 8 false ⟨none,.vlp 100 (.t 99) 163 0 162 [] 1 false⟩,
  oD 9 false (oV 101 (.ints .add (.t 100) (.c (iv 1)))),
  oD 10 false (oV 102 (.idxA 5 (.t 95) (.t 97))),
  oD 11 false (oV 103 (.fldP (.t 102) 4)),
  oD 12 false ⟨none,.vse (.t 103) 163 0 162 [] 1 (.t 101)⟩] [92,93,94,95,96,97,98,99,100,101,102,103]
abbrev yC0:HCode:=oR [oV 104 (.fldP (.t 6) 0),
  oV 105 (.ldB (.t 104) 1 164 0 1 false),
  oV 10 (.mv (.t 105))] [104,105]
abbrev yC1:HCode:=oR [oV 106 (.mv (.t 10)),
  oV 107 (.ints .geq (.t 106) (.c (iv 0)))] [106]
abbrev yC2:HCode:=oR [oV 114 (.mv (.t 3)),
  oV 115 (.nilck (.t 114)),
  oV 116 (.fldP (.t 115) 1),
  oV 117 (.ldh (.t 116) 0 162 1),
  oV 118 (.mv (.t 10)),
  oV 119 (.idxA 5 (.t 117) (.t 118)),
  oV 120 (.fldP (.t 119) 3),
  ⟨none,.vlp 121 (.t 120) 163 0 162 [] 1 false⟩,
  oV 122 (.ints .add (.t 121) (.c (iv 1))),
  oV 123 (.idxA 5 (.t 117) (.t 118)),
  oV 124 (.fldP (.t 123) 3),
  ⟨none,.vse (.t 124) 163 0 162 [] 1 (.t 122)⟩] [114,115,116,117,118,119,120,121,122,123,124]
abbrev yC3:HCode:=oR [oV 108 (.fldR (.t 1) 0 1),
  oV 109 (.ldR (.t 108) 1 false),
  oV 110 (.mv (.t 10)),
  oV 111 (.idxA 5 (.t 109) (.t 110)),
  oV 112 (.fldR (.t 111) 0 1),
  oV 113 (.ldR (.t 112) 1 false),
  oV 10 (.mv (.t 113))] [108,109,110,111,112,113]
abbrev yC4:HCode:=oR [oV 125 (.ints .add (.t 24) (.c (iv 1))),
  oV 24 (.mv (.t 125))] [125]
abbrev yC5:HCode:=oR [oV 126 (.fldR (.t 1) 0 1),
  oV 127 (.ldR (.t 126) 1 false),
  oV 128 (.len false (.t 127)),
  oV 129 (.mv (.c (iv 0)))] [126]
abbrev yC6:HCode:=oN [oV 130 (.ints .lss (.t 129) (.t 128))]
abbrev yC7:HCode:=oR [oV 131 (.mv (.t 129)),
  oV 132 (.idxA 5 (.t 127) (.t 129)),
  oV 133 (.ldR (.t 132) 5 true),
  ⟨none,.alloc 12 2 169 [.v (.int .i64 0),.v (mkS []),.v (mkS []),.nl 1,.nl 2]⟩,
  oV 11 (.mv (.t 131)),
  ⟨none,.sto (.t 12) 2 169 0 5 (.t 133)⟩] [131,132,133]
abbrev yC8:HCode:=oR [oV 134 (.mv (.t 3)),
  oV 135 (.nilck (.t 134)),
  oV 136 (.fldP (.t 135) 1),
  oV 137 (.ldh (.t 136) 0 162 1),
  oV 138 (.mv (.t 11)),
  oV 139 (.idxA 5 (.t 137) (.t 138)),
  oV 140 (.fldP (.t 139) 1),
  ⟨none,.vse (.t 140) 163 0 162 [] 1 (.c (iv 1))⟩] [134,135,136,137,138,139,140]
abbrev yC9:HCode:=oR [oV 141 (.fldP (.t 12) 0),
  oV 142 (.ldB (.t 141) 2 169 0 1 false),
  oV 143 (.ints .geq (.t 142) (.c (iv 0)))] [141,142]
abbrev yDa:HCode:=oQ [oD 0 false (oV 144 (.mv (.t 3))),
  oD 1 false (oV 145 (.nilck (.t 144))),
  oD 2 false (oV 146 (.fldP (.t 145) 1)),
  oD 3 false (oV 147 (.ldh (.t 146) 0 162 1)),
  oD 4 false (oV 148 (.mv (.t 11))),
  oD 5 false (oV 149 (.mv (.t 3))),
  oD 6 false (oV 150 (.nilck (.t 149))),
  oD 7 false (oV 151 (.fldP (.t 150) 1)),
  oD 8 false (oV 152 (.ldh (.t 151) 0 162 1)),
  oD 9 false (oV 153 (.fldP (.t 12) 0)),
  oD 10 false (oV 154 (.ldB (.t 153) 2 169 0 1 false)),
  oD 11 false (oV 155 (.idxA 5 (.t 152) (.t 154))),
  oD 12 false (oV 156 (.fldP (.t 155) 4)),
  oD 13 false ⟨none,.vlp 157 (.t 156) 163 0 162 [] 1 false⟩,
  oD 14 false (oV 158 (.idxA 5 (.t 147) (.t 148))),
  oD 15 false (oV 159 (.fldP (.t 158) 1)),
  oD 16 false ⟨none,.vse (.t 159) 163 0 162 [] 1 (.t 157)⟩] [144,145,146,147,148,149,150,151,152,153,154,155,156,157,158,159]
abbrev yDb:HCode:=oR [oV 160 (.ints .add (.t 129) (.c (iv 1))),
  oV 129 (.mv (.t 160))] [160]
abbrev yDc:HCode:=.regG [.vfr 163 0 162,.frz 0 162 2] [oV 161 (.mv (.t 3)),
  oV 2 (.mv (.t 161))] [.forget [161]]
abbrev yLo:HCode:=(.seq yFb (.seq yFc (.seq yFd (.seq (.seq yFe (.block 0 (.loop (.seq yFf (.seq (.cond (.t 25) .skip (.exit 0)) (.seq (.block 1 (.seq yFg (.seq yFh (.seq (.seq yFi (.seq yFj (.cond (.t 43) yFk .skip))) (.seq yCT (.seq yCU (.seq (.seq yCV (.seq yCW (.cond (.t 72) yCX .skip))) (.seq (.seq yCY (.cond (.t 91) yCZ .skip)) (.seq yC0 (.block 2 (.loop (.seq (.seq yC1 (.cond (.t 107) .skip (.exit 2))) (.seq (.block 3 yC2) yC3))))))))))))) yC4)))))) (.seq (.seq yC5 (.block 4 (.loop (.seq yC6 (.seq (.cond (.t 130) .skip (.exit 4)) (.seq (.block 5 (.seq yC7 (.seq yC8 (.seq yC9 (.cond (.t 143) yDa .skip))))) yDb)))))) (.seq yDc .ret))))))
abbrev zXy:Env:={N:=162,Γ:=[(162,2),(164,5),(169,5)],L:=174,nfix:=0,una:=[162]}
abbrev match_of_R:List RSrc:=[.tmp 2]
theorem yFl:zBs Tryz.prog zK5 yLo zXy match_of_R:=by kernel_rfl
abbrev zK7:HCode:=oN [oV 5 (.boxF (.t 2)),
  oV 6 (.mv (.c (sv []))),
  oV 7 (.mv (.c (bv false)))]
abbrev zK8:HCode:=oR [oV 9 (.mv (.t 0)),
  oV 10 (.nilck (.t 9)),
  oV 11 (.fldR (.t 10) 0 1),
  oV 12 (.fldR (.t 11) 0 1),
  oV 13 (.ldR (.t 12) 1 false),
  oV 14 (.mv (.t 1)),
  oV 15 (.idxA 5 (.t 13) (.t 14)),
  oV 16 (.fldR (.t 15) 4 1),
  oV 17 (.ldR (.t 16) 1 false),
  oV 18 (.mkf zBQ [.t 5]),
  oC 19 zAZ [(.t 17,.v),(.t 18,.v)],
  oV 8 (.mv (.t 19))] [9,10,11,12,13,14,15,16,17,18,19]
abbrev zK9:HCode:=oR [oV 20 (.mv (.t 8)),
  oV 21 (.ints .lss (.t 20) (.c (iv 0)))] [20]
abbrev zLa:HCode:=oN [oV 6 (.mv (.c (sv []))),
  oV 7 (.mv (.c (bv false)))]
abbrev zLb:HCode:=oR [oV 22 (.mv (.t 0)),
  oV 23 (.nilck (.t 22)),
  oV 24 (.fldR (.t 23) 0 1),
  oV 25 (.fldR (.t 24) 0 1),
  oV 26 (.ldR (.t 25) 1 false),
  oV 27 (.mv (.t 1)),
  oV 28 (.idxA 5 (.t 26) (.t 27)),
  oV 29 (.fldR (.t 28) 4 1),
  oV 30 (.ldR (.t 29) 1 false),
  oV 31 (.mv (.t 8)),
  oV 32 (.idxA 2 (.t 30) (.t 31)),
  oV 33 (.fldR (.t 32) 1 1),
  oV 34 (.ldR (.t 33) 1 false),
  oV 6 (.mv (.t 34)),
  oV 7 (.mv (.c (bv true)))] [22,23,24,25,26,27,28,29,30,31,32,33,34]
abbrev zP4:HCode:=(.seq zK7 (.seq zK8 (.seq (.seq zK9 (.cond (.t 21) (.seq zLa .ret) .skip)) (.seq zLb .ret))))
abbrev zFP:Env:={N:=35,Γ:=[],L:=35,nfix:=0}
abbrev match_look_value_R:List RSrc:=[.tmp 6,.tmp 7]
theorem zLc:zBs Tryz.prog zC2 zP4 zFP match_look_value_R:=by kernel_rfl
abbrev zIw:HCode:=oN [oV 2 (.boxF (.t 0)),
  oV 3 (.mv (.c (bv false)))]
abbrev zIx:HCode:=oR [oV 4 (.fldR (.t 2) 0 1),
  oV 5 (.ldR (.t 4) 1 false),
  oV 6 (.ldR (.t 1) 1 false),
  oV 7 (.strs .eql (.t 5) (.t 6)),
  oV 3 (.mv (.t 7))] [4,5,6,7]
abbrev zMN:HCode:=(.seq zIw (.seq zIx .ret))
abbrev zEs:Env:={N:=8,Γ:=[],L:=8,nfix:=0}
abbrev match_look_value_1_R:List RSrc:=[.tmp 3]
theorem zIy:zBs Tryz.prog zBQ zMN zEs match_look_value_1_R:=by kernel_rfl
abbrev zZV:HCode:=oN [oV 2 (.boxF (.t 0)),
  oV 4 (.mv (.c (bv false)))]
abbrev zZW:HCode:=oR [oV 6 (.fldR (.t 2) 2 1),
  oV 7 (.ldR (.t 6) 1 false),
  oV 5 (.mv (.t 7))] [6,7]
abbrev zZX:HCode:=oR [oV 8 (.fldR (.t 2) 0 1),
  oV 9 (.ldR (.t 8) 1 false)] [8]
abbrev zZY:HCode:=oR [oV 11 (.ints .eql (.t 9) (.c (iv 4))),
  oV 10 (.mv (.t 11))] [11]
abbrev zZZ:HCode:=oR [oV 12 (.mv (.t 1)),
  oV 13 (.mv (.t 5)),
  oV 14 (.strs .eql (.t 12) (.t 13)),
  oV 4 (.mv (.t 14))] [12,13,14]
abbrev zZ0:HCode:=oR [oV 16 (.ints .eql (.t 9) (.c (iv 5))),
  oV 15 (.mv (.t 16))] [16]
abbrev zZ1:HCode:=oR [oV 17 (.mv (.t 5)),
  oV 18 (.strs .neq (.t 17) (.c (sv []))),
  oV 19 (.mv (.t 18)),
  oG 19 true 20 (.mv (.t 1)),
  oG 19 true 21 (.mv (.t 5)),
  ⟨some (19,true),.call (some 22) zCK [(.t 20,.v),(.t 21,.v)]⟩,
  oV 23 (.pick (.t 19) (.t 22) (.c (bv false))),
  oV 4 (.mv (.t 23))] [17,18,19,20,21,22,23]
abbrev zZ2:HCode:=oR [oV 25 (.ints .eql (.t 9) (.c (iv 6))),
  oV 24 (.mv (.t 25))] [25]
abbrev zZ3:HCode:=oR [oV 26 (.mv (.t 5)),
  oV 27 (.strs .neq (.t 26) (.c (sv []))),
  oV 28 (.mv (.t 27)),
  oG 28 true 29 (.mv (.t 1)),
  oG 28 true 30 (.mv (.t 5)),
  ⟨some (28,true),.call (some 31) zCL [(.t 29,.v),(.t 30,.v)]⟩,
  oV 32 (.pick (.t 28) (.t 31) (.c (bv false))),
  oV 4 (.mv (.t 32))] [26,27,28,29,30,31,32]
abbrev zZ4:HCode:=oR [oV 34 (.ints .eql (.t 9) (.c (iv 7))),
  oV 33 (.mv (.t 34))] [34]
abbrev zV0:HCode:=oR [oV 35 (.mv (.t 5)),
  oV 36 (.strs .neq (.t 35) (.c (sv []))),
  oV 37 (.mv (.t 36)),
  oG 37 true 38 (.mv (.t 1)),
  oG 37 true 39 (.mv (.t 5)),
  ⟨some (37,true),.call (some 40) zC3 [(.t 38,.v),(.t 39,.v)]⟩,
  oV 41 (.pick (.t 37) (.t 40) (.c (bv false))),
  oV 4 (.mv (.t 41))] [35,36,37,38,39,40,41]
abbrev zV1:HCode:=oR [oV 43 (.ints .eql (.t 9) (.c (iv 8))),
  oV 42 (.mv (.t 43))] [43]
abbrev zV2:HCode:=oR [oV 44 (.mv (.t 5)),
  oV 45 (.strs .neq (.t 44) (.c (sv []))),
  oV 46 (.mv (.t 45)),
  oG 46 true 47 (.mv (.t 1)),
  ⟨some (46,true),.call (some 48) zEk [(.t 47,.v),(.c (sv [32]),.v)]⟩,
  oG 46 true 49 (.mv (.t 5)),
  ⟨some (46,true),.call (some 50) zBi [(.t 48,.v),(.t 49,.v)]⟩,
  oV 51 (.pick (.t 46) (.t 50) (.c (bv false))),
  oV 4 (.mv (.t 51))] [44,45,46,47,48,49,50,51]
abbrev zV3:HCode:=oN [oV 4 (.mv (.c (bv true)))]
abbrev yH9:HCode:=(.seq zZV (.seq zZW (.seq (.seq zZX (.block 0 (.seq zZY (.cond (.t 10) (.seq zZZ .ret) (.seq zZ0 (.cond (.t 15) (.seq zZ1 .ret) (.seq zZ2 (.cond (.t 24) (.seq zZ3 .ret) (.seq zZ4 (.cond (.t 33) (.seq zV0 .ret) (.seq zV1 (.cond (.t 42) (.seq zV2 .ret) .skip)))))))))))) (.seq zV3 .ret))))
abbrev zPh:Env:={N:=52,Γ:=[],L:=52,nfix:=0}
abbrev match_attr_R:List RSrc:=[.tmp 4]
theorem zZ5:zBs Tryz.prog zHn yH9 zPh match_attr_R:=by kernel_rfl
abbrev zJK:HCode:=oN [oV 4 (.boxF (.t 1)),
  oV 6 (.mv (.c (bv false)))]
abbrev zJL:HCode:=oR [oV 11 (.mv (.t 0)),
  oV 12 (.nilck (.t 11)),
  oV 13 (.fldR (.t 12) 0 1),
  oV 14 (.fldR (.t 13) 0 1),
  oV 15 (.ldR (.t 14) 1 false),
  oV 16 (.mv (.t 2)),
  oV 17 (.idxA 5 (.t 15) (.t 16)),
  oV 18 (.ldR (.t 17) 5 true),
  ⟨none,.alloc 7 0 138 [.v (.int .i64 0),.v (mkS []),.v (mkS []),.nl 1,.nl 2]⟩,
  ⟨none,.sto (.t 7) 0 138 0 5 (.t 18)⟩] [11,12,13,14,15,16,17,18]
abbrev zJM:HCode:=oR [oV 19 (.fldR (.t 4) 0 1),
  oV 20 (.ldR (.t 19) 1 false)] [19]
abbrev zJN:HCode:=oR [oV 22 (.ints .eql (.t 20) (.c (iv 1))),
  oV 21 (.mv (.t 22))] [22]
abbrev zJO:HCode:=oR [oV 23 (.fldP (.t 7) 3),
  oV 24 (.ldB (.t 23) 0 138 3 1 false),
  oV 25 (.fldR (.t 4) 1 1),
  oV 26 (.ldR (.t 25) 1 false),
  oC 27 zBi [(.t 24,.v),(.t 26,.v)],
  oV 6 (.mv (.t 27))] [23,24,25,26,27]
abbrev zJP:HCode:=oR [oV 29 (.ints .eql (.t 20) (.c (iv 2))),
  oV 28 (.mv (.t 29))] [29]
abbrev zJQ:HCode:=oR [oV 30 (.fldP (.t 7) 2),
  oV 31 (.ldB (.t 30) 0 138 2 1 false),
  oV 32 (.fldR (.t 4) 1 1),
  oV 33 (.ldR (.t 32) 1 false),
  oV 34 (.strs .eql (.t 31) (.t 33)),
  oV 6 (.mv (.t 34))] [30,31,32,33,34]
abbrev zJR:HCode:=oR [oV 36 (.ints .eql (.t 20) (.c (iv 9))),
  oV 35 (.mv (.t 36))] [36]
abbrev zJS:HCode:=oQ [oD 0 false (oV 37 (.fldR (.t 4) 3 2)),
  oD 1 false (oV 38 (.ldR (.t 37) 2 true)),
  oD 2 false (oV 39 (.mv (.t 0))),
  oD 3 false (oV 40 (.nilck (.t 39))),
  oD 4 false (oV 41 (.fldR (.t 40) 1 1)),
  oD 5 false (oV 42 (.ldR (.t 41) 1 false)),
  oD 6 false (oV 43 (.mv (.t 2))),
  oD 7 false (oV 44 (.idxA 5 (.t 42) (.t 43))),
  oD 8 false (oV 45 (.fldR (.t 44) 0 1)),
  oD 9 false (oV 46 (.ldR (.t 45) 1 false)),
  oD 10 true (oC 47 zFO [(.t 38,.v),(.t 46,.v)]),
  oD 11 false (oV 6 (.mv (.t 47)))] [37,38,39,40,41,42,43,44,45,46,47]
abbrev zJT:HCode:=oR [oV 49 (.ints .eql (.t 20) (.c (iv 10))),
  oV 48 (.mv (.t 49))] [49]
abbrev zIz:HCode:=oQ [oD 0 false (oV 50 (.fldR (.t 4) 3 2)),
  oD 1 false (oV 51 (.ldR (.t 50) 2 true)),
  oD 2 false (oV 52 (.mv (.t 0))),
  oD 3 false (oV 53 (.nilck (.t 52))),
  oD 4 false (oV 54 (.fldR (.t 53) 1 1)),
  oD 5 false (oV 55 (.ldR (.t 54) 1 false)),
  oD 6 false (oV 56 (.mv (.t 2))),
  oD 7 false (oV 57 (.idxA 5 (.t 55) (.t 56))),
  oD 8 false (oV 58 (.fldR (.t 57) 1 1)),
  oD 9 false (oV 59 (.ldR (.t 58) 1 false)),
  oD 10 false (oV 60 (.mv (.t 0))),
  oD 11 false (oV 61 (.nilck (.t 60))),
  oD 12 false (oV 62 (.fldR (.t 61) 1 1)),
  oD 13 false (oV 63 (.ldR (.t 62) 1 false)),
  oD 14 false (oV 64 (.mv (.t 2))),
  oD 15 false (oV 65 (.idxA 5 (.t 63) (.t 64))),
  oD 16 false (oV 66 (.fldR (.t 65) 0 1)),
  oD 17 false (oV 67 (.ldR (.t 66) 1 false)),
  oD 18 false (oV 68 (.ints .sub (.t 59) (.t 67))),
  oD 19 false (oV 69 (.ints .add (.t 68) (.c (iv 1)))),
  oD 20 true (oC 70 zFO [(.t 51,.v),(.t 69,.v)]),
  oD 21 false (oV 6 (.mv (.t 70)))] [50,51,52,53,54,55,56,57,58,59,60,61,62,63,64,65,66,67,68,69,70]
abbrev zIA:HCode:=oR [oV 72 (.ints .eql (.t 20) (.c (iv 11))),
  oV 71 (.mv (.t 72))] [72]
abbrev zIB:HCode:=oR [oV 73 (.mv (.t 0)),
  oV 74 (.nilck (.t 73)),
  oV 75 (.fldR (.t 74) 1 1),
  oV 76 (.ldR (.t 75) 1 false),
  oV 77 (.mv (.t 2)),
  oV 78 (.idxA 5 (.t 76) (.t 77)),
  oV 79 (.fldR (.t 78) 4 1),
  oV 80 (.ldR (.t 79) 1 false),
  oV 81 (.ints .eql (.t 80) (.c (iv 0))),
  oV 6 (.mv (.t 81))] [73,74,75,76,77,78,79,80,81]
abbrev zIC:HCode:=oR [oV 83 (.ints .eql (.t 20) (.c (iv 12))),
  oV 82 (.mv (.t 83))] [83]
abbrev zID:HCode:=oR [oV 84 (.mv (.t 2)),
  oV 85 (.ints .eql (.t 84) (.c (iv 0))),
  oV 6 (.mv (.t 85))] [84,85]
abbrev zIE:HCode:=oR [oV 87 (.ints .eql (.t 20) (.c (iv 13))),
  oV 86 (.mv (.t 87))] [87]
abbrev zIF:HCode:=oR [oV 88 (.mv (.t 0)),
  oV 89 (.fldR (.t 4) 5 1),
  oV 90 (.ldR (.t 89) 1 false),
  oV 91 (.mv (.t 2)),
  oC 92 zAA [(.t 88,.v),(.t 90,.v),(.t 91,.v)],
  oV 93 (.not (.t 92)),
  oV 6 (.mv (.t 93))] [88,89,90,91,92,93]
abbrev zIG:HCode:=oR [oV 95 (.ints .eql (.t 20) (.c (iv 14))),
  oV 94 (.mv (.t 95))] [95]
abbrev zIH:HCode:=oR [oV 96 (.mv (.t 0)),
  oV 97 (.fldR (.t 4) 5 1),
  oV 98 (.ldR (.t 97) 1 false),
  oV 99 (.mv (.t 2)),
  oC 100 zAA [(.t 96,.v),(.t 98,.v),(.t 99,.v)],
  oV 6 (.mv (.t 100))] [96,97,98,99,100]
abbrev zII:HCode:=oR [oV 102 (.ints .eql (.t 20) (.c (iv 15))),
  oV 101 (.mv (.t 102))] [102]
abbrev zIJ:HCode:=oR [oV 103 (.mv (.t 2)),
  oV 104 (.ints .add (.t 103) (.c (iv 1))),
  oV 8 (.mv (.t 104))] [103,104]
abbrev zIK:HCode:=oR [oV 105 (.mv (.t 8)),
  oV 106 (.mv (.t 2)),
  oV 107 (.mv (.t 0)),
  oV 108 (.nilck (.t 107)),
  oV 109 (.fldR (.t 108) 1 1),
  oV 110 (.ldR (.t 109) 1 false),
  oV 111 (.mv (.t 2)),
  oV 112 (.idxA 5 (.t 110) (.t 111)),
  oV 113 (.fldR (.t 112) 3 1),
  oV 114 (.ldR (.t 113) 1 false),
  oV 115 (.ints .add (.t 106) (.t 114)),
  oV 116 (.ints .leq (.t 105) (.t 115))] [105,106,107,108,109,110,111,112,113,114,115]
abbrev zIL:HCode:=oR [oV 119 (.mv (.t 0)),
  oV 120 (.fldR (.t 4) 5 1),
  oV 121 (.ldR (.t 120) 1 false),
  oV 122 (.mv (.t 8)),
  oC 123 zAA [(.t 119,.v),(.t 121,.v),(.t 122,.v)]] [119,120,121,122]
abbrev zIM:HCode:=oN [oV 6 (.mv (.c (bv true)))]
abbrev zIN:HCode:=oR [oV 117 (.mv (.t 8)),
  oV 118 (.ints .add (.t 117) (.c (iv 1))),
  oV 8 (.mv (.t 118))] [117,118]
abbrev zIO:HCode:=oN [oV 6 (.mv (.c (bv false)))]
abbrev zIP:HCode:=oR [oV 125 (.mv (.t 0)),
  oV 126 (.mv (.t 2)),
  oV 127 (.fldR (.t 4) 1 1),
  oV 128 (.ldR (.t 127) 1 false),
  oC 129 zC2 [(.t 125,.v),(.t 126,.v),(.t 128,.v)],
  oV 124 (.mv (.t 129)),
  oV 130 (.ext 124 0),
  oV 131 (.ext 124 1),
  oV 9 (.mv (.t 130)),
  oV 10 (.mv (.t 131))] [124,125,126,127,128,129,130,131]
abbrev zIQ:HCode:=oR [oV 132 (.mv (.t 10)),
  oV 133 (.mv (.t 132)),
  oG 133 true 134 (.ldR (.t 4) 6 true),
  oG 133 true 135 (.mv (.t 9)),
  ⟨some (133,true),.call (some 136) zHn [(.t 134,.v),(.t 135,.v)]⟩,
  oV 137 (.pick (.t 133) (.t 136) (.c (bv false))),
  oV 6 (.mv (.t 137))] [132,133,134,135,136,137]
abbrev zOq:HCode:=(.seq zJK (.seq zJL (.seq (.seq zJM (.block 0 (.seq zJN (.cond (.t 21) (.seq zJO .ret) (.seq zJP (.cond (.t 28) (.seq zJQ .ret) (.seq zJR (.cond (.t 35) (.seq zJS .ret) (.seq zJT (.cond (.t 48) (.seq zIz .ret) (.seq zIA (.cond (.t 71) (.seq zIB .ret) (.seq zIC (.cond (.t 82) (.seq zID .ret) (.seq zIE (.cond (.t 86) (.seq zIF .ret) (.seq zIG (.cond (.t 94) (.seq zIH .ret) (.seq zII (.cond (.t 101) (.seq (.seq zIJ (.block 1 (.loop (.seq (.seq zIK (.cond (.t 116) .skip (.exit 1))) (.seq (.block 2 (.seq zIL (.cond (.t 123) (.seq zIM .ret) .skip))) zIN))))) (.seq zIO .ret)) .skip)))))))))))))))))))) (.seq zIP (.seq zIQ .ret)))))
abbrev zFk:Env:={N:=138,Γ:=[(138,5)],L:=143,nfix:=0}
abbrev match_look_passes_R:List RSrc:=[.tmp 6]
theorem zJU:zBs Tryz.prog zA9 zOq zFk match_look_passes_R:=by kernel_rfl
abbrev zMO:HCode:=oN [oV 3 (.boxF (.t 0)),
  oV 4 (.boxF (.t 1)),
  oV 5 (.boxF (.t 2)),
  oV 6 (.mv (.c (bv false)))]
abbrev zMP:HCode:=oQ [oD 0 false (oV 7 (.fldR (.t 4) 0 1)),
  oD 1 false (oV 8 (.ldR (.t 7) 1 false)),
  oD 2 false (oV 9 (.strs .eql (.t 8) (.c (sv [])))),
  oD 3 false (oV 10 (.mv (.t 9))),
  oD 4 false (oG 10 false 11 (.fldR (.t 4) 0 1)),
  oD 5 false (oG 10 false 12 (.ldR (.t 11) 1 false)),
  oD 6 false (oG 10 false 13 (.ldR (.t 3) 1 false)),
  oD 7 false (oG 10 false 14 (.nilck (.t 13))),
  oD 8 false (oG 10 false 15 (.fldR (.t 14) 0 1)),
  oD 9 false (oG 10 false 16 (.fldR (.t 15) 0 1)),
  oD 10 false (oG 10 false 17 (.ldR (.t 16) 1 false)),
  oD 11 false (oG 10 false 18 (.ldR (.t 5) 1 false)),
  oD 12 false (oG 10 false 19 (.idxA 5 (.t 17) (.t 18))),
  oD 13 false (oG 10 false 20 (.fldR (.t 19) 1 1)),
  oD 14 false (oG 10 false 21 (.ldR (.t 20) 1 false)),
  oD 15 false (oG 10 false 22 (.strs .eql (.t 12) (.t 21))),
  oD 16 false (oV 23 (.pick (.t 10) (.c (bv true)) (.t 22))),
  oD 17 false (oV 24 (.mv (.t 23))),
  oD 18 false (oG 24 true 25 (.fldR (.t 4) 1 1)),
  oD 19 false (oG 24 true 26 (.ldR (.t 25) 1 false)),
  oD 20 false (oG 24 true 27 (.mkf zBW [.t 3,.t 5])),
  oD 21 true ⟨some (24,true),.call (some 28) zBG [(.t 26,.v),(.t 27,.v)]⟩,
  oD 22 false (oG 24 true 29 (.not (.t 28))),
  oD 23 false (oV 30 (.pick (.t 24) (.t 29) (.c (bv false)))),
  oD 24 false (oV 6 (.mv (.t 30)))] [7,8,9,10,11,12,13,14,15,16,17,18,19,20,21,22,23,24,25,26,27,28,29,30]
abbrev zS4:HCode:=(.seq zMO (.seq zMP .ret))
abbrev zG2:Env:={N:=31,Γ:=[],L:=31,nfix:=0}
abbrev match_look_step_R:List RSrc:=[.tmp 6]
theorem zMQ:zBs Tryz.prog zBq zS4 zG2 match_look_step_R:=by kernel_rfl
abbrev zJV:HCode:=oN [oV 3 (.boxF (.t 0)),
  oV 4 (.mv (.c (bv false)))]
abbrev zJW:HCode:=oR [oV 5 (.ldR (.t 1) 1 false),
  oV 6 (.ldR (.t 3) 6 true),
  oV 7 (.ldR (.t 2) 1 false),
  oC 8 zA9 [(.t 5,.v),(.t 6,.v),(.t 7,.v)],
  oV 9 (.not (.t 8)),
  oV 4 (.mv (.t 9))] [5,6,7,8,9]
abbrev zOr:HCode:=(.seq zJV (.seq zJW .ret))
abbrev zFl:Env:={N:=10,Γ:=[],L:=10,nfix:=0}
abbrev match_look_step_1_R:List RSrc:=[.tmp 4]
theorem zJX:zBs Tryz.prog zBW zOr zFl match_look_step_1_R:=by kernel_rfl
abbrev zLd:HCode:=oN [oV 3 (.boxF (.t 0)),
  oV 4 (.boxF (.t 1)),
  oV 5 (.boxF (.t 2)),
  oV 6 (.mv (.c (.one (.v .nilFunc))))]
abbrev zLe:HCode:=oR [oV 8 (.mkf zBO [.t 3]),
  ⟨none,.alloc 7 0 17 [.v .nilFunc]⟩,
  ⟨none,.sto (.t 7) 0 17 0 1 (.t 8)⟩] [8]
abbrev zLf:HCode:=oR [oV 9 (.ldR (.t 4) 1 false),
  oV 10 (.ints .eql (.t 9) (.c (iv 3))),
  oV 11 (.mv (.t 10)),
  oG 11 false 12 (.ldR (.t 4) 1 false),
  oG 11 false 13 (.ints .eql (.t 12) (.c (iv 4))),
  oV 14 (.pick (.t 11) (.c (bv true)) (.t 13))] [9,10,11,12,13]
abbrev zLg:HCode:=oR [oV 15 (.mkf zBP [.t 3]),
  ⟨none,.sto (.t 7) 0 17 0 1 (.t 15)⟩] [15]
abbrev zLh:HCode:=.regG [.frz 0 17 1] [oV 16 (.mkf zD7 [.t 7,.t 5,.t 4]),
  oV 6 (.mv (.t 16))] [.forget [16]]
abbrev zP5:HCode:=(.seq zLd (.seq zLe (.seq (.seq zLf (.cond (.t 14) zLg .skip)) (.seq zLh .ret))))
abbrev zFQ:Env:={N:=17,Γ:=[(17,1)],L:=18,nfix:=0}
abbrev match_look_roads_R:List RSrc:=[.tmp 6]
theorem zLi:zBs Tryz.prog zC1 zP5 zFQ match_look_roads_R:=by kernel_rfl
abbrev zIR:HCode:=oN [oV 3 (.mv (.c (iv 0)))]
abbrev zIS:HCode:=oR [oV 4 (.ldR (.t 1) 1 false),
  oV 5 (.nilck (.t 4)),
  oV 6 (.fldR (.t 5) 0 1),
  oV 7 (.fldR (.t 6) 0 1),
  oV 8 (.ldR (.t 7) 1 false),
  oV 9 (.mv (.t 0)),
  oV 10 (.idxA 5 (.t 8) (.t 9)),
  oV 11 (.fldR (.t 10) 0 1),
  oV 12 (.ldR (.t 11) 1 false),
  oV 3 (.mv (.t 12))] [4,5,6,7,8,9,10,11,12]
abbrev zMR:HCode:=(.seq zIR (.seq zIS .ret))
abbrev zEt:Env:={N:=13,Γ:=[],L:=13,nfix:=0}
abbrev match_look_roads_1_R:List RSrc:=[.tmp 3]
theorem zIT:zBs Tryz.prog zBO zMR zEt match_look_roads_1_R:=by kernel_rfl
abbrev zIU:HCode:=oN [oV 3 (.mv (.c (iv 0)))]
abbrev zIV:HCode:=oR [oV 4 (.ldR (.t 1) 1 false),
  oV 5 (.nilck (.t 4)),
  oV 6 (.fldR (.t 5) 1 1),
  oV 7 (.ldR (.t 6) 1 false),
  oV 8 (.mv (.t 0)),
  oV 9 (.idxA 5 (.t 7) (.t 8)),
  oV 10 (.fldR (.t 9) 2 1),
  oV 11 (.ldR (.t 10) 1 false),
  oV 3 (.mv (.t 11))] [4,5,6,7,8,9,10,11]
abbrev zMS:HCode:=(.seq zIU (.seq zIV .ret))
abbrev zEu:Env:={N:=12,Γ:=[],L:=12,nfix:=0}
abbrev match_look_roads_2_R:List RSrc:=[.tmp 3]
theorem zIW:zBs Tryz.prog zBP zMS zEu match_look_roads_2_R:=by kernel_rfl
abbrev zMT:HCode:=oN [oV 3 (.boxF (.t 0)),
  oV 5 (.boxF (.t 2)),
  oV 6 (.mv (.c (bv false)))]
abbrev zMU:HCode:=oR [oV 7 (.mv (.t 1)),
  oV 8 (.mkf zBV [.t 3,.t 5]),
  oC 9 zBF [(.t 7,.v),(.t 8,.v)],
  oV 6 (.mv (.t 9))] [7,8,9]
abbrev zS5:HCode:=(.seq zMT (.seq zMU .ret))
abbrev zG3:Env:={N:=10,Γ:=[],L:=10,nfix:=0}
abbrev match_look_list_R:List RSrc:=[.tmp 6]
theorem zMV:zBs Tryz.prog zAA zS5 zG3 match_look_list_R:=by kernel_rfl
abbrev zJY:HCode:=oN [oV 3 (.boxF (.t 0)),
  oV 4 (.mv (.c (bv false)))]
abbrev zJZ:HCode:=oR [oV 5 (.ldR (.t 1) 1 false),
  oV 6 (.ldR (.t 3) 2 true),
  oV 7 (.fldR (.t 3) 0 1),
  oV 8 (.ldR (.t 7) 1 false),
  oV 9 (.len false (.t 8)),
  oV 10 (.ldR (.t 2) 1 false),
  oC 11 zA8 [(.t 5,.v),(.t 6,.v),(.t 9,.v),(.t 10,.v)],
  oV 4 (.mv (.t 11))] [5,6,7,8,9,10,11]
abbrev zOs:HCode:=(.seq zJY (.seq zJZ .ret))
abbrev zFm:Env:={N:=12,Γ:=[],L:=12,nfix:=0}
abbrev match_look_list_1_R:List RSrc:=[.tmp 4]
theorem zJ0:zBs Tryz.prog zBV zOs zFm match_look_list_1_R:=by kernel_rfl
abbrev zV4:HCode:=oN [oV 2 (.boxF (.t 0)),
  oV 4 (.mv (.c (.one (.v (.pointer none))))),
  oV 5 (.mv (.c (iv 0)))]
abbrev zV5:HCode:=oR [oV 8 (.ldR (.t 2) 1 true),
  oC 9 zFJ [(.t 8,.v)],
  oV 6 (.mv (.t 9))] [8,9]
abbrev zV6:HCode:=oR [oV 10 (.mv (.t 6)),
  oV 11 (.ints .neq (.t 10) (.c (iv 0)))] [10]
abbrev zV7:HCode:=oR [oV 12 (.mv (.t 6)),
  oV 4 (.mv (.c (.one (.v (.pointer none))))),
  oV 5 (.mv (.t 12))] [12]
abbrev zV8:HCode:=oR [oV 13 (.mv (.t 1)),
  oC 14 zEE [(.t 13,.v)],
  oV 7 (.mv (.t 14))] [13,14]
abbrev zV9:HCode:=oR [oV 15 (.mv (.t 7)),
  oV 16 (.ints .neq (.t 15) (.c (iv 0)))] [15]
abbrev zWa:HCode:=oR [oV 17 (.mv (.t 7)),
  oV 4 (.mv (.c (.one (.v (.pointer none))))),
  oV 5 (.mv (.t 17))] [17]
abbrev zWb:HCode:=oR [oV 18 (.ldR (.t 2) 1 true),
  oC 19 zK5 [(.t 18,.v)],
  oV 4 (.mv (.t 19)),
  oV 5 (.mv (.c (iv 0)))] [18,19]
abbrev yFm:HCode:=(.seq zV4 (.seq (.seq zV5 (.seq zV6 (.cond (.t 11) (.seq zV7 .ret) .skip))) (.seq (.seq zV8 (.seq zV9 (.cond (.t 16) (.seq zWa .ret) .skip))) (.seq zWb .ret))))
abbrev zMW:Env:={N:=20,Γ:=[],L:=20,nfix:=0}
abbrev match_begin_R:List RSrc:=[.tmp 4,.tmp 5]
theorem zWc:zBs Tryz.prog zF4 yFm zMW match_begin_R:=by kernel_rfl
abbrev yFn:HCode:=oN [oV 3 (.boxF (.t 0)),
  oV 6 (.mv (.c (.one (.v (.pointer none))))),
  oV 7 (.mv (.c (iv 0)))]
abbrev yFo:HCode:=oR [oV 11 (.ldR (.t 3) 1 true),
  oV 12 (.mv (.t 1)),
  oC 13 zF4 [(.t 11,.v),(.t 12,.v)],
  oV 10 (.mv (.t 13)),
  oV 14 (.ext 10 0),
  oV 15 (.ext 10 1),
  oV 8 (.mv (.t 14)),
  oV 9 (.mv (.t 15))] [10,11,12,13,14,15]
abbrev yFp:HCode:=oR [oV 16 (.mv (.t 9)),
  oV 17 (.ints .eql (.t 16) (.c (iv 0))),
  oV 18 (.mv (.t 17)),
  oG 18 true 19 (.mv (.t 2)),
  oG 18 true 20 (.ints .lss (.t 19) (.c (iv 0))),
  oG 18 true 21 (.mv (.t 20)),
  oG 21 false 22 (.mv (.t 2)),
  oG 21 false 23 (.fldR (.t 3) 0 1),
  oG 21 false 24 (.ldR (.t 23) 1 false),
  oG 21 false 25 (.len false (.t 24)),
  oG 21 false 26 (.ints .geq (.t 22) (.t 25)),
  oG 18 true 27 (.pick (.t 21) (.c (bv true)) (.t 26)),
  oV 28 (.pick (.t 18) (.t 27) (.c (bv false)))] [16,17,18,19,20,21,22,23,24,25,26,27]
abbrev yFq:HCode:=oN [oV 9 (.mv (.c (iv 5)))]
abbrev yFr:HCode:=oR [oV 29 (.mv (.t 8)),
  oV 30 (.mv (.t 9)),
  oV 6 (.mv (.t 29)),
  oV 7 (.mv (.t 30))] [29,30]
abbrev yLp:HCode:=(.seq yFn (.seq yFo (.seq (.seq yFp (.cond (.t 28) yFq .skip)) (.seq yFr .ret))))
abbrev zXz:Env:={N:=31,Γ:=[],L:=31,nfix:=0}
abbrev match_at_R:List RSrc:=[.tmp 6,.tmp 7]
theorem yFs:zBs Tryz.prog zK4 yLp zXz match_at_R:=by kernel_rfl
abbrev zP6:HCode:=oN [oV 3 (.boxF (.t 0)),
  oV 6 (.mv (.c (bv false))),
  oV 7 (.mv (.c (iv 0)))]
abbrev zP7:HCode:=oR [oV 11 (.ldR (.t 3) 1 true),
  oV 12 (.mv (.t 1)),
  oV 13 (.mv (.t 2)),
  oC 14 zK4 [(.t 11,.v),(.t 12,.v),(.t 13,.v)],
  oV 10 (.mv (.t 14)),
  oV 15 (.ext 10 0),
  oV 16 (.ext 10 1),
  oV 8 (.mv (.t 15)),
  oV 9 (.mv (.t 16))] [10,11,12,13,14,15,16]
abbrev zP8:HCode:=oR [oV 17 (.mv (.t 9)),
  oV 18 (.ints .eql (.t 17) (.c (iv 0))),
  oV 19 (.mv (.t 18)),
  oG 19 true 20 (.mv (.t 8)),
  oG 19 true 21 (.mv (.t 1)),
  oG 19 true 22 (.mv (.t 2)),
  ⟨some (19,true),.call (some 23) zAA [(.t 20,.v),(.t 21,.v),(.t 22,.v)]⟩,
  oV 24 (.pick (.t 19) (.t 23) (.c (bv false))),
  oV 25 (.mv (.t 9)),
  oV 6 (.mv (.t 24)),
  oV 7 (.mv (.t 25))] [17,18,19,20,21,22,23,24,25]
abbrev zZ6:HCode:=(.seq zP6 (.seq zP7 (.seq zP8 .ret)))
abbrev zIX:Env:={N:=26,Γ:=[],L:=26,nfix:=0}
abbrev match_Matches_R:List RSrc:=[.tmp 6,.tmp 7]
theorem zP9:zBs Tryz.prog zEj zZ6 zIX match_Matches_R:=by kernel_rfl
end Go.Hx
end

section
/-
 The abstract code of functions of the program, printed by gen.py; each stands for the given one. No condition.
-/
namespace Go.Hx
open Go.Proofs
variable [Glob]
abbrev zDD:Nat:=149
abbrev zCu:Nat:=150
abbrev zHo:Nat:=148
abbrev zCV:Nat:=205
abbrev zCa:Nat:=206
abbrev zCR:Nat:=44
abbrev zEI:Nat:=48
abbrev zHp:Nat:=103
abbrev zDE:Nat:=152
abbrev zEJ:Nat:=45
abbrev zBj:Nat:=101
abbrev zF8:Nat:=104
abbrev zCW:Nat:=153
abbrev zF9:Nat:=41
abbrev zEl:Nat:=33
abbrev zDF:Nat:=47
abbrev zBI:Nat:=97
abbrev zLj:Nat:=96
abbrev zC4:Nat:=102
abbrev zBR:Nat:=151
abbrev zC5:Nat:=123
abbrev zAu:Nat:=75
abbrev yFt:HCode:=oN [oV 1 (.boxF (.t 0)),
  ⟨none,.vnl 2 zAu 3⟩]
abbrev yFu:HCode:=oR [oV 5 (.fldR (.t 1) 1 1),
  oV 6 (.ldR (.t 5) 1 false),
  ⟨none,.vow 7 (.bld [.v (.int .i64 0),.v (mkS []),.nl 1] [(0,1,.c (iv 1)),(1,1,.t 6)]) 2 zAr 1⟩,
  ⟨none,.vbs 8 zAu 3 7⟩,
  ⟨none,.vmv 3 8⟩] [5,6,7,8]
abbrev yFv:HCode:=oR [oV 9 (.fldR (.t 1) 2 1),
  oV 10 (.ldR (.t 9) 1 false),
  oV 11 (.strs .neq (.t 10) (.c (sv [])))] [9,10]
abbrev yFw:HCode:=oR [⟨none,.vmv 12 3⟩,
  oV 13 (.fldR (.t 1) 2 1),
  oV 14 (.ldR (.t 13) 1 false),
  ⟨none,.vow 15 (.bld [.v (.int .i64 0),.v (mkS []),.nl 1] [(0,1,.c (iv 2)),(1,1,.t 14)]) 2 zAr 1⟩,
  ⟨none,.vbs 16 zAu 3 15⟩,
  ⟨none,.vap 17 zAu 3 12 (.t 16)⟩,
  ⟨none,.vmv 3 17⟩] [12,13,14,15,16,17]
abbrev yFx:HCode:=oN [oV 4 (.mv (.c (iv 0)))]
abbrev yFy:HCode:=oR [oV 18 (.mv (.t 4)),
  oV 19 (.fldR (.t 1) 3 1),
  oV 20 (.ldR (.t 19) 1 false),
  oV 21 (.len false (.t 20)),
  oV 22 (.ints .lss (.t 18) (.t 21))] [18,19,20,21]
abbrev yFz:HCode:=oR [⟨none,.vmv 25 3⟩,
  oV 26 (.fldR (.t 1) 3 1),
  oV 27 (.ldR (.t 26) 1 false),
  oV 28 (.mv (.t 4)),
  oV 29 (.idxA 1 (.t 27) (.t 28)),
  oV 30 (.ldR (.t 29) 1 false),
  ⟨none,.vow 31 (.bld [.v (.int .i64 0),.v (mkS []),.nl 1] [(0,1,.c (iv 3)),(1,1,.t 30)]) 2 zAr 1⟩,
  ⟨none,.vbs 32 zAu 3 31⟩,
  ⟨none,.vap 33 zAu 3 25 (.t 32)⟩,
  ⟨none,.vmv 3 33⟩] [25,26,27,28,29,30,31,32,33]
abbrev yFA:HCode:=oR [oV 23 (.mv (.t 4)),
  oV 24 (.ints .add (.t 23) (.c (iv 1))),
  oV 4 (.mv (.t 24))] [23,24]
abbrev yFB:HCode:=oR [⟨none,.vmv 34 3⟩,
  ⟨none,.vmv 2 34⟩] [34]
abbrev yLq:HCode:=(.seq yFt (.seq yFu (.seq (.seq yFv (.cond (.t 11) yFw .skip)) (.seq (.seq yFx (.block 0 (.loop (.seq (.seq yFy (.cond (.t 22) .skip (.exit 0))) (.seq (.block 1 yFz) yFA))))) (.seq yFB .ret)))))
abbrev zXA:Env:={N:=35,Γ:=[],L:=35,nfix:=0}
abbrev ref_keys_R:List RSrc:=[.tmp 2]
theorem yFC:zBs Tryz.prog zLj yLq zXA ref_keys_R:=by kernel_rfl
abbrev zQa:HCode:=oN [oV 2 (.boxF (.t 0)),
  oV 3 (.boxF (.t 1)),
  oV 4 (.mv (.c (bv false)))]
abbrev zQb:HCode:=oR [oV 5 (.fldR (.t 2) 0 1),
  oV 6 (.ldR (.t 5) 1 false),
  oV 7 (.fldR (.t 3) 0 1),
  oV 8 (.ldR (.t 7) 1 false),
  oV 9 (.ints .neq (.t 6) (.t 8))] [5,6,7,8]
abbrev zQc:HCode:=oR [oV 10 (.fldR (.t 2) 0 1),
  oV 11 (.ldR (.t 10) 1 false),
  oV 12 (.fldR (.t 3) 0 1),
  oV 13 (.ldR (.t 12) 1 false),
  oV 14 (.ints .gtr (.t 11) (.t 13)),
  oV 4 (.mv (.t 14))] [10,11,12,13,14]
abbrev zQd:HCode:=oR [oV 15 (.fldR (.t 2) 1 1),
  oV 16 (.ldR (.t 15) 1 false),
  oV 17 (.fldR (.t 3) 1 1),
  oV 18 (.ldR (.t 17) 1 false),
  oV 19 (.strs .gtr (.t 16) (.t 18)),
  oV 4 (.mv (.t 19))] [15,16,17,18,19]
abbrev zZ7:HCode:=(.seq zQa (.seq (.seq zQb (.cond (.t 9) (.seq zQc .ret) .skip)) (.seq zQd .ret)))
abbrev zIY:Env:={N:=20,Γ:=[],L:=20,nfix:=0}
abbrev ref_behindKey_R:List RSrc:=[.tmp 4]
theorem zQe:zBs Tryz.prog zBI zZ7 zIY ref_behindKey_R:=by kernel_rfl
abbrev zZ8:HCode:=oN [oV 2 (.mv (.c (iv 0)))]
abbrev zZ9:HCode:=oN [oV 3 (.mv (.c (iv 0)))]
abbrev yAa:HCode:=oN [oV 6 (.mv (.t 0)),
  oV 7 (.len false (.t 6)),
  oV 8 (.mv (.c (iv 0)))]
abbrev yAb:HCode:=oN [oV 9 (.ints .lss (.t 8) (.t 7))]
abbrev yAc:HCode:=oR [oV 10 (.idxA 1 (.t 6) (.t 8)),
  oV 11 (.ldR (.t 10) 1 false),
  oV 5 (.mv (.t 11))] [10,11]
abbrev yAd:HCode:=oR [oV 12 (.mv (.t 5)),
  oV 13 (.mv (.t 3)),
  oV 14 (.ints .neq (.t 12) (.t 13))] [12,13]
abbrev yAe:HCode:=oR [oV 15 (.mv (.t 5)),
  oV 2 (.mv (.t 15))] [15]
abbrev yAf:HCode:=oR [oV 16 (.ints .add (.t 8) (.c (iv 1))),
  oV 8 (.mv (.t 16))] [16]
abbrev yAg:HCode:=oR [oV 17 (.mv (.t 3)),
  oV 2 (.mv (.t 17))] [17]
abbrev yIa:HCode:=(.seq zZ8 (.seq zZ9 (.seq (.seq yAa (.block 0 (.loop (.seq yAb (.seq (.cond (.t 9) .skip (.exit 0)) (.seq (.block 1 (.seq yAc (.seq yAd (.cond (.t 14) (.seq yAe .ret) .skip)))) yAf)))))) (.seq yAg .ret))))
abbrev zPi:Env:={N:=18,Γ:=[],L:=18,nfix:=0}
abbrev cmp_Or_int_R:List RSrc:=[.tmp 2]
theorem yAh:zBs Tryz.prog zHo yIa zPi cmp_Or_int_R:=by kernel_rfl
abbrev zMX:HCode:=oN [oV 4 (.mv (.c (iv 0)))]
abbrev zMY:HCode:=oR [oV 7 (.mv (.t 0)),
  oC 8 zCV [(.t 7,.v)],
  oV 5 (.mv (.t 8))] [7,8]
abbrev zMZ:HCode:=oR [oV 9 (.mv (.t 1)),
  oC 10 zCV [(.t 9,.v)],
  oV 6 (.mv (.t 10))] [9,10]
abbrev zM0:HCode:=oN [oV 11 (.mv (.t 5))]
abbrev zM1:HCode:=oN [oV 12 (.mv (.t 6))]
abbrev zM2:HCode:=oN [oV 4 (.mv (.c (iv 0)))]
abbrev zM3:HCode:=oN [oV 4 (.mv (.c (iv (-1))))]
abbrev zM4:HCode:=oN [oV 13 (.mv (.t 6))]
abbrev zM5:HCode:=oN [oV 4 (.mv (.c (iv 1)))]
abbrev zM6:HCode:=oR [oV 14 (.mv (.t 0)),
  oV 15 (.mv (.t 1)),
  oV 16 (.ints .lss (.t 14) (.t 15))] [14,15]
abbrev zLk:HCode:=oN [oV 4 (.mv (.c (iv (-1))))]
abbrev zLl:HCode:=oR [oV 17 (.mv (.t 0)),
  oV 18 (.mv (.t 1)),
  oV 19 (.ints .gtr (.t 17) (.t 18))] [17,18]
abbrev zLm:HCode:=oN [oV 4 (.mv (.c (iv 1)))]
abbrev zLn:HCode:=oN [oV 4 (.mv (.c (iv 0)))]
abbrev zS6:HCode:=(.seq zMX (.seq zMY (.seq zMZ (.seq (.seq zM0 (.cond (.t 11) (.seq (.seq zM1 (.cond (.t 12) (.seq zM2 .ret) .skip)) (.seq zM3 .ret)) .skip)) (.seq (.seq zM4 (.cond (.t 13) (.seq zM5 .ret) .skip)) (.seq (.seq zM6 (.cond (.t 16) (.seq zLk .ret) .skip)) (.seq (.seq zLl (.cond (.t 19) (.seq zLm .ret) .skip)) (.seq zLn .ret))))))))
abbrev zG4:Env:={N:=20,Γ:=[],L:=20,nfix:=0}
abbrev cmp_Compare_int_R:List RSrc:=[.tmp 4]
theorem zM7:zBs Tryz.prog zDD zS6 zG4 cmp_Compare_int_R:=by kernel_rfl
abbrev zQf:HCode:=oN [oV 2 (.mv (.c (bv false)))]
abbrev zQg:HCode:=oR [oV 3 (.mv (.t 0)),
  oV 4 (.mv (.t 0)),
  oV 5 (.ints .neq (.t 3) (.t 4)),
  oV 2 (.mv (.t 5))] [3,4,5]
abbrev yAi:HCode:=(.seq zQf (.seq zQg .ret))
abbrev zIZ:Env:={N:=6,Γ:=[],L:=6,nfix:=0}
abbrev cmp_isNaN_int_R:List RSrc:=[.tmp 2]
theorem zQh:zBs Tryz.prog zCV yAi zIZ cmp_isNaN_int_R:=by kernel_rfl
abbrev zI0:HCode:=oN [oV 4 (.mv (.c (iv 0)))]
abbrev zI1:HCode:=oR [oV 7 (.mv (.t 0)),
  oC 8 zCa [(.t 7,.v)],
  oV 5 (.mv (.t 8))] [7,8]
abbrev zI2:HCode:=oR [oV 9 (.mv (.t 1)),
  oC 10 zCa [(.t 9,.v)],
  oV 6 (.mv (.t 10))] [9,10]
abbrev zI3:HCode:=oN [oV 11 (.mv (.t 5))]
abbrev zI4:HCode:=oN [oV 12 (.mv (.t 6))]
abbrev zI5:HCode:=oN [oV 4 (.mv (.c (iv 0)))]
abbrev zI6:HCode:=oN [oV 4 (.mv (.c (iv (-1))))]
abbrev zI7:HCode:=oN [oV 13 (.mv (.t 6))]
abbrev zI8:HCode:=oN [oV 4 (.mv (.c (iv 1)))]
abbrev zI9:HCode:=oR [oV 14 (.mv (.t 0)),
  oV 15 (.mv (.t 1)),
  oV 16 (.strs .lss (.t 14) (.t 15))] [14,15]
abbrev zHT:HCode:=oN [oV 4 (.mv (.c (iv (-1))))]
abbrev zHU:HCode:=oR [oV 17 (.mv (.t 0)),
  oV 18 (.mv (.t 1)),
  oV 19 (.strs .gtr (.t 17) (.t 18))] [17,18]
abbrev zHV:HCode:=oN [oV 4 (.mv (.c (iv 1)))]
abbrev zHW:HCode:=oN [oV 4 (.mv (.c (iv 0)))]
abbrev zM8:HCode:=(.seq zI0 (.seq zI1 (.seq zI2 (.seq (.seq zI3 (.cond (.t 11) (.seq (.seq zI4 (.cond (.t 12) (.seq zI5 .ret) .skip)) (.seq zI6 .ret)) .skip)) (.seq (.seq zI7 (.cond (.t 13) (.seq zI8 .ret) .skip)) (.seq (.seq zI9 (.cond (.t 16) (.seq zHT .ret) .skip)) (.seq (.seq zHU (.cond (.t 19) (.seq zHV .ret) .skip)) (.seq zHW .ret))))))))
abbrev zEv:Env:={N:=20,Γ:=[],L:=20,nfix:=0}
abbrev cmp_Compare_string_R:List RSrc:=[.tmp 4]
theorem zJa:zBs Tryz.prog zCu zM8 zEv cmp_Compare_string_R:=by kernel_rfl
abbrev zLo:HCode:=oN [oV 2 (.mv (.c (bv false)))]
abbrev zLp:HCode:=oR [oV 3 (.mv (.t 0)),
  oV 4 (.mv (.t 0)),
  oV 5 (.strs .neq (.t 3) (.t 4)),
  oV 2 (.mv (.t 5))] [3,4,5]
abbrev zQi:HCode:=(.seq zLo (.seq zLp .ret))
abbrev zFR:Env:={N:=6,Γ:=[],L:=6,nfix:=0}
abbrev cmp_isNaN_string_R:List RSrc:=[.tmp 2]
theorem zLq:zBs Tryz.prog zCa zQi zFR cmp_isNaN_string_R:=by kernel_rfl
abbrev zWd:HCode:=oN [oV 2 (.boxF (.t 0)),
  oV 3 (.boxF (.t 1)),
  oV 4 (.mv (.c (iv 0)))]
abbrev zWe:HCode:=oQ [oD 0 false (oV 5 (.fldR (.t 2) 0 1)),
  oD 1 false (oV 6 (.ldR (.t 5) 1 false)),
  oD 2 false (oV 7 (.fldR (.t 3) 0 1)),
  oD 3 false (oV 8 (.ldR (.t 7) 1 false)),
  oD 4 false (oC 9 zDD [(.t 6,.v),(.t 8,.v)]),
  oD 5 false (oV 10 (.fldR (.t 2) 1 1)),
  oD 6 false (oV 11 (.ldR (.t 10) 1 false)),
  oD 7 false (oV 12 (.fldR (.t 3) 1 1)),
  oD 8 false (oV 13 (.ldR (.t 12) 1 false)),
  oD 9 true (oC 14 zCu [(.t 11,.v),(.t 13,.v)]),
  oD 10 false (oV 15 (.bslF 1 [.t 9,.t 14])),
  oD 11 true (oC 16 zHo [(.t 15,.v)]),
  oD 12 false (oV 4 (.mv (.t 16)))] [5,6,7,8,9,10,11,12,13,14,15,16]
abbrev yFD:HCode:=(.seq zWd (.seq zWe .ret))
abbrev zM9:Env:={N:=17,Γ:=[],L:=17,nfix:=0}
abbrev index_order_R:List RSrc:=[.tmp 4]
theorem zWf:zBs Tryz.prog zBj yFD zM9 index_order_R:=by kernel_rfl
abbrev zLr:HCode:=oN [⟨none,.nlo 2 zAr 1⟩]
abbrev zLs:HCode:=oR [oV 3 (.mv (.t 0)),
  ⟨none,.isn 4 false (.t 3)⟩] [3]
abbrev zLt:HCode:=oN [⟨none,.nlo 2 zAr 1⟩]
abbrev zLu:HCode:=oR [⟨none,.bsl 5 zAr 1 []⟩,
  oV 6 (.mv (.t 0)),
  ⟨none,.app 7 zAr 1 (.t 5) (.t 6)⟩,
  ⟨none,.mvo 2 7⟩] [5,6,7]
abbrev zQj:HCode:=(.seq zLr (.seq (.seq zLs (.cond (.t 4) (.seq zLt .ret) .skip)) (.seq zLu .ret)))
abbrev zFS:Env:={N:=8,Γ:=[],L:=8,nfix:=0}
abbrev slices_Clone_int_R:List RSrc:=[.tmp 2]
theorem zLv:zBs Tryz.prog zC4 zQj zFS slices_Clone_int_R:=by kernel_rfl
abbrev zLw:HCode:=oN [oV 4 (.mv (.c (bv false)))]
abbrev zLx:HCode:=oR [oV 6 (.mv (.t 0)),
  oV 7 (.len false (.t 6)),
  oV 8 (.mv (.t 1)),
  oV 9 (.len false (.t 8)),
  oV 10 (.ints .neq (.t 7) (.t 9))] [6,7,8,9]
abbrev zLy:HCode:=oN [oV 4 (.mv (.c (bv false)))]
abbrev zLz:HCode:=oR [oV 11 (.mv (.t 0)),
  oV 12 (.len false (.t 11)),
  oV 13 (.mv (.c (iv 0)))] [11]
abbrev zLA:HCode:=oN [oV 14 (.ints .lss (.t 13) (.t 12))]
abbrev zLB:HCode:=oR [oV 15 (.mv (.t 13)),
  oV 5 (.mv (.t 15))] [15]
abbrev zLC:HCode:=oQ [oD 0 false (oV 16 (.mv (.t 0))),
  oD 1 false (oV 17 (.mv (.t 5))),
  oD 2 false (oV 18 (.idxA 1 (.t 16) (.t 17))),
  oD 3 false (oV 19 (.ldR (.t 18) 1 false)),
  oD 4 false (oV 20 (.mv (.t 1))),
  oD 5 false (oV 21 (.mv (.t 5))),
  oD 6 false (oV 22 (.idxA 1 (.t 20) (.t 21))),
  oD 7 false (oV 23 (.ldR (.t 22) 1 false)),
  oD 8 false (oV 24 (.ints .neq (.t 19) (.t 23)))] [16,17,18,19,20,21,22,23]
abbrev zLD:HCode:=oN [oV 4 (.mv (.c (bv false)))]
abbrev zLE:HCode:=oR [oV 25 (.ints .add (.t 13) (.c (iv 1))),
  oV 13 (.mv (.t 25))] [25]
abbrev zLF:HCode:=oN [oV 4 (.mv (.c (bv true)))]
abbrev zQk:HCode:=(.seq zLw (.seq (.seq zLx (.cond (.t 10) (.seq zLy .ret) .skip)) (.seq (.seq zLz (.block 0 (.loop (.seq zLA (.seq (.cond (.t 14) .skip (.exit 0)) (.seq (.block 1 (.seq zLB (.seq zLC (.cond (.t 24) (.seq zLD .ret) .skip)))) zLE)))))) (.seq zLF .ret))))
abbrev zFT:Env:={N:=26,Γ:=[],L:=26,nfix:=0}
abbrev slices_Equal_int_R:List RSrc:=[.tmp 4]
theorem zLG:zBs Tryz.prog zC5 zQk zFT slices_Equal_int_R:=by kernel_rfl
abbrev yAj:HCode:=oN [oV 6 (.mv (.c (.one (.nl 1)))),
  oV 7 (.mv (.c (iv 0)))]
abbrev yAk:HCode:=oR [oV 10 (.mv (.t 1)),
  oV 11 (.ints .lss (.t 10) (.c (iv 1))),
  oV 12 (.mv (.t 11)),
  oG 12 false 13 (.mv (.t 1)),
  oG 12 false 14 (.ints .gtr (.t 13) (.c (iv 3))),
  oV 15 (.pick (.t 12) (.c (bv true)) (.t 14))] [10,11,12,13,14]
abbrev yAl:HCode:=oN [oV 6 (.mv (.c (.one (.nl 1)))),
  oV 7 (.mv (.c (iv 4)))]
abbrev yAm:HCode:=oR [oV 16 (.mv (.t 0)),
  oV 17 (.len false (.t 16)),
  oV 18 (.ints .gtr (.t 17) (.c (iv 512)))] [16,17]
abbrev yAn:HCode:=oN [oV 6 (.mv (.c (.one (.nl 1)))),
  oV 7 (.mv (.c (iv 2)))]
abbrev yAo:HCode:=oN [oV 19 (.mv (.t 0)),
  oV 20 (.len false (.t 19)),
  oV 21 (.mv (.c (iv 0)))]
abbrev yAp:HCode:=oN [oV 22 (.ints .lss (.t 21) (.t 20))]
abbrev yAq:HCode:=.reg [oV 23 (.idxA 3 (.t 19) (.t 21)),
  oV 24 (.ldR (.t 23) 3 true),
  ⟨none,.alloc 9 0 39 [.v (.int .i64 0),.v (mkS []),.nl 1]⟩,
  ⟨none,.sto (.t 9) 0 39 0 3 (.t 24)⟩] false [.frz 0 39 3,.forget [23,24]]
abbrev yAr:HCode:=oR [oV 25 (.fldR (.t 9) 0 1),
  oV 26 (.ldR (.t 25) 1 false),
  oV 27 (.mv (.t 1)),
  oV 28 (.ints .eql (.t 26) (.t 27)),
  oV 29 (.mv (.t 28)),
  oG 29 true 30 (.fldR (.t 9) 1 1),
  oG 29 true 31 (.ldR (.t 30) 1 false),
  oG 29 true 32 (.mv (.t 2)),
  oG 29 true 33 (.strs .eql (.t 31) (.t 32)),
  oV 34 (.pick (.t 29) (.t 33) (.c (bv false)))] [25,26,27,28,29,30,31,32,33]
abbrev yAs:HCode:=oR [oV 35 (.fldR (.t 9) 2 1),
  oV 36 (.ldR (.t 35) 1 false),
  oC 37 zC4 [(.t 36,.v)],
  oV 6 (.mv (.t 37)),
  oV 7 (.mv (.c (iv 0)))] [35,36,37]
abbrev zWg:HCode:=oR [oV 38 (.ints .add (.t 21) (.c (iv 1))),
  oV 21 (.mv (.t 38))] [38]
abbrev zWh:HCode:=oN [oV 6 (.mv (.c (.one (.nl 1)))),
  oV 7 (.mv (.c (iv 0)))]
abbrev yIb:HCode:=(.seq yAj (.seq (.seq yAk (.cond (.t 15) (.seq yAl .ret) .skip)) (.seq (.seq yAm (.cond (.t 18) (.seq yAn .ret) .skip)) (.seq (.seq yAo (.block 0 (.loop (.seq yAp (.seq (.cond (.t 22) .skip (.exit 0)) (.seq (.block 1 (.seq yAq (.seq yAr (.cond (.t 34) (.seq yAs .ret) .skip)))) zWg)))))) (.seq zWh .ret)))))
abbrev zPj:Env:={N:=39,Γ:=[(39,3)],L:=42,nfix:=0}
abbrev index_Look_R:List RSrc:=[.tmp 6,.tmp 7]
theorem yAt:zBs Tryz.prog zEJ yIb zPj index_Look_R:=by kernel_rfl
abbrev zWi:HCode:=oN [oV 2 (.boxF (.t 0)),
  oV 3 (.boxF (.t 1)),
  oV 4 (.mv (.c (.one (.nl 1))))]
abbrev zWj:HCode:=oR [oV 12 (.fldR (.t 3) 0 1),
  oV 13 (.ldR (.t 12) 1 false),
  oV 14 (.fldR (.t 3) 0 1),
  oV 15 (.ldR (.t 14) 1 false),
  oV 16 (.len false (.t 15)),
  oV 17 (.ints .sub (.t 16) (.c (iv 1))),
  oV 18 (.idxA 2 (.t 13) (.t 17)),
  oV 19 (.ldR (.t 18) 2 true),
  ⟨none,.alloc 5 0 65 [.v (mkS []),.nl 6]⟩,
  ⟨none,.sto (.t 5) 0 65 0 2 (.t 19)⟩] [12,13,14,15,16,17,18,19]
abbrev zWk:HCode:=oN [⟨none,.alloc 6 1 67 [.nl 1]⟩]
abbrev zWl:HCode:=oN [⟨none,.alloc 7 2 68 [.v (.bool false)]⟩,
  ⟨none,.sto (.t 7) 2 68 0 1 (.c (bv false))⟩]
abbrev zWm:HCode:=oR [⟨none,.mkc 20 zCW [.t 2,.t 7,.t 6]⟩,
  oV 8 (.mv (.t 20))] [20]
abbrev zWn:HCode:=oR [oV 21 (.fldP (.t 5) 0),
  oV 22 (.ldB (.t 21) 0 65 0 1 false),
  oV 23 (.strs .neq (.t 22) (.c (sv [])))] [21,22]
abbrev zWo:HCode:=oR [oV 24 (.mv (.t 8)),
  oV 25 (.fldP (.t 5) 0),
  oV 26 (.ldB (.t 25) 0 65 0 1 false),
  ⟨none,.clc (some 27) (.t 24) [(2,68,1),(1,67,1)] [(.c (iv 1),.v),(.t 26,.v)]⟩] [24,25,26,27]
abbrev zWp:HCode:=oR [oV 28 (.fldP (.t 5) 1),
  oV 29 (.ldB (.t 28) 0 65 1 1 false),
  oV 30 (.len false (.t 29)),
  oV 31 (.mv (.c (iv 0)))] [28]
abbrev zWq:HCode:=oN [oV 32 (.ints .lss (.t 31) (.t 30))]
abbrev zWr:HCode:=oR [oV 33 (.idxA 6 (.t 29) (.t 31)),
  oV 34 (.ldR (.t 33) 6 true),
  ⟨none,.alloc 10 3 69 [.v (.int .i64 0),.v (mkS []),.v (mkS []),.v (.int .i64 0),.v (.int .i64 0),.nl 2]⟩,
  ⟨none,.sto (.t 10) 3 69 0 6 (.t 34)⟩] [33,34]
abbrev zS7:HCode:=oR [oV 35 (.fldP (.t 10) 0),
  oV 36 (.ldB (.t 35) 3 69 0 1 false)] [35]
abbrev zS8:HCode:=oR [oV 38 (.ints .eql (.t 36) (.c (iv 2))),
  oV 37 (.mv (.t 38))] [38]
abbrev zS9:HCode:=oR [oV 39 (.mv (.t 8)),
  oV 40 (.fldP (.t 10) 1),
  oV 41 (.ldB (.t 40) 3 69 1 1 false),
  ⟨none,.clc (some 42) (.t 39) [(2,68,1),(1,67,1)] [(.c (iv 2),.v),(.t 41,.v)]⟩] [39,40,41,42]
abbrev zTa:HCode:=oR [oV 44 (.ints .eql (.t 36) (.c (iv 1))),
  oV 43 (.mv (.t 44))] [44]
abbrev zTb:HCode:=oR [oV 45 (.mv (.t 8)),
  oV 46 (.fldP (.t 10) 1),
  oV 47 (.ldB (.t 46) 3 69 1 1 false),
  ⟨none,.clc (some 48) (.t 45) [(2,68,1),(1,67,1)] [(.c (iv 3),.v),(.t 47,.v)]⟩] [45,46,47,48]
abbrev zTc:HCode:=oR [oV 49 (.ints .add (.t 31) (.c (iv 1))),
  oV 31 (.mv (.t 49))] [49]
abbrev zTd:HCode:=oR [oV 50 (.ldB (.t 7) 2 68 0 1 false),
  oV 51 (.not (.t 50))] [50]
abbrev zTe:HCode:=oR [oV 52 (.fldR (.t 2) 0 1),
  oV 53 (.fldR (.t 52) 0 1),
  oV 54 (.ldR (.t 53) 1 false),
  oV 55 (.len false (.t 54)),
  oV 56 (.mv (.c (iv 0)))] [52,53,54]
abbrev zTf:HCode:=oN [oV 57 (.ints .lss (.t 56) (.t 55))]
abbrev zTg:HCode:=oR [oV 58 (.mv (.t 56)),
  oV 11 (.mv (.t 58))] [58]
abbrev zTh:HCode:=oR [⟨none,.ldo 59 (.t 6) 1 67 0 zAr 1⟩,
  oV 60 (.mv (.t 11)),
  oV 61 (.bslF 1 [.t 60]),
  ⟨none,.app 62 zAr 1 (.t 59) (.t 61)⟩,
  ⟨none,.stw (.t 6) 1 67 0 62⟩] [59,60,61,62]
abbrev zTi:HCode:=oR [oV 63 (.ints .add (.t 56) (.c (iv 1))),
  oV 56 (.mv (.t 63))] [63]
abbrev zTj:HCode:=oR [oV 64 (.ldB (.t 6) 1 67 0 1 false),
  oV 4 (.mv (.t 64))] [64]
abbrev yFE:HCode:=(.seq zWi (.seq zWj (.seq zWk (.seq zWl (.seq zWm (.seq (.seq zWn (.cond (.t 23) zWo .skip)) (.seq (.seq zWp (.block 0 (.loop (.seq zWq (.seq (.cond (.t 32) .skip (.exit 0)) (.seq (.block 1 (.seq zWr (.seq zS7 (.block 2 (.seq zS8 (.cond (.t 37) zS9 (.seq zTa (.cond (.t 43) zTb .skip)))))))) zTc)))))) (.seq (.seq zTd (.cond (.t 51) (.seq zTe (.block 3 (.loop (.seq zTf (.seq (.cond (.t 57) .skip (.exit 3)) (.seq (.block 4 (.seq zTg zTh)) zTi)))))) .skip)) (.seq zTj .ret)))))))))
abbrev zNa:Env:={N:=65,Γ:=[(65,2),(67,1),(68,1),(69,6)],L:=75,nfix:=0}
abbrev index_seeds_R:List RSrc:=[.tmp 4]
theorem zWs:zBs Tryz.prog zF8 yFE zNa index_seeds_R:=by kernel_rfl
abbrev zQl:HCode:=oR [oV 10 (.fldR (.t 2) 1 1),
  oV 11 (.ldR (.t 10) 1 false),
  oV 12 (.mv (.t 0)),
  oV 13 (.mv (.t 1)),
  oC 14 zEJ [(.t 11,.v),(.t 12,.v),(.t 13,.v)],
  oV 9 (.mv (.t 14)),
  oV 15 (.ext 9 0),
  oV 16 (.ext 9 1),
  oV 7 (.mv (.t 15)),
  oV 8 (.mv (.t 16))] [8,9,10,11,12,13,14,15,16]
abbrev zQm:HCode:=oR [oV 17 (.ldB (.t 3) 0 27 0 1 false),
  oV 18 (.not (.t 17)),
  oV 19 (.mv (.t 18)),
  oG 19 false 20 (.mv (.t 7)),
  oG 19 false 21 (.len false (.t 20)),
  oG 19 false 22 (.ldB (.t 4) 1 28 0 1 false),
  oG 19 false 23 (.len false (.t 22)),
  oG 19 false 24 (.ints .lss (.t 21) (.t 23)),
  oV 25 (.pick (.t 19) (.c (bv true)) (.t 24))] [17,18,19,20,21,22,23,24]
abbrev zQn:HCode:=oR [oV 26 (.mv (.t 7)),
  ⟨none,.sto (.t 4) 1 28 0 1 (.t 26)⟩,
  ⟨none,.sto (.t 3) 0 27 0 1 (.c (bv true))⟩] [26]
abbrev yAu:HCode:=(.seq zQl (.seq zQm (.cond (.t 25) zQn .skip)))
abbrev zFn:Env:={N:=27,Γ:=[(27,1),(28,1)],L:=29,nfix:=2}
abbrev zDG:List (Nat×Nat×Nat):=[(0,27,1),(1,28,1)]
theorem zQo {av:List AV} {cas:List CA} {io':List (List PV)} (hfo:yEz zFn zDG av cas) (hl:io'.map List.length=zQZ cas) (hW:hwp Tryz.prog yAu (yPP zDG io') (F0c zFn zDG av cas)):zEU Tryz.prog zCW av cas io':=
 zRD (fn:=Tryz.f153) (c:=Tryz.f153.body.getD .skip) (by kernel_rfl) (by kernel_rfl) (by kernel_rfl) (by kernel_rfl) (by kernel_rfl) (by kernel_rfl) (by kernel_rfl) (by kernel_rfl) hfo hl hW
abbrev zTk:HCode:=oN [oV 2 (.boxF (.t 0)),
  oV 3 (.boxF (.t 1)),
  oV 4 (.mv (.c (bv false)))]
abbrev zTl:HCode:=oR [oV 5 (.ldR (.t 2) 3 true),
  oV 6 (.ldR (.t 3) 3 true),
  oC 7 zBj [(.t 5,.v),(.t 6,.v)],
  oV 8 (.ints .eql (.t 7) (.c (iv 0))),
  oV 9 (.mv (.t 8)),
  oG 9 true 10 (.fldR (.t 2) 2 1),
  oG 9 true 11 (.ldR (.t 10) 1 false),
  oG 9 true 12 (.fldR (.t 3) 2 1),
  oG 9 true 13 (.ldR (.t 12) 1 false),
  ⟨some (9,true),.call (some 14) zC5 [(.t 11,.v),(.t 13,.v)]⟩,
  oV 15 (.pick (.t 9) (.t 14) (.c (bv false))),
  oV 4 (.mv (.t 15))] [5,6,7,8,9,10,11,12,13,14,15]
abbrev yDd:HCode:=(.seq zTk (.seq zTl .ret))
abbrev zKi:Env:={N:=16,Γ:=[],L:=16,nfix:=0}
abbrev index_Fits_1_R:List RSrc:=[.tmp 4]
theorem zTm:zBs Tryz.prog zDE yDd zKi index_Fits_1_R:=by kernel_rfl
abbrev zGa:HCode:=oN [oV 6 (.mv (.c (bv false)))]
abbrev zGb:HCode:=oR [oV 10 (.mv (.t 0)),
  oV 11 (.len false (.t 10)),
  oV 12 (.mv (.t 1)),
  oV 13 (.len false (.t 12)),
  oV 14 (.ints .neq (.t 11) (.t 13))] [10,11,12,13]
abbrev zGc:HCode:=oN [oV 6 (.mv (.c (bv false)))]
abbrev zGd:HCode:=oN [oV 15 (.mv (.t 0)),
  oV 16 (.len false (.t 15)),
  oV 17 (.mv (.c (iv 0)))]
abbrev zGe:HCode:=oN [oV 18 (.ints .lss (.t 17) (.t 16))]
abbrev zGf:HCode:=oR [oV 19 (.mv (.t 17)),
  oV 20 (.idxA 3 (.t 15) (.t 17)),
  oV 21 (.ldR (.t 20) 3 true),
  ⟨none,.alloc 8 0 32 [.v (.int .i64 0),.v (mkS []),.nl 1]⟩,
  oV 7 (.mv (.t 19)),
  ⟨none,.sto (.t 8) 0 32 0 3 (.t 21)⟩] [19,20,21]
abbrev zGg:HCode:=oR [oV 22 (.mv (.t 1)),
  oV 23 (.mv (.t 7)),
  oV 24 (.idxA 3 (.t 22) (.t 23)),
  oV 25 (.ldR (.t 24) 3 true),
  ⟨none,.alloc 9 1 35 [.v (.int .i64 0),.v (mkS []),.nl 1]⟩,
  ⟨none,.sto (.t 9) 1 35 0 3 (.t 25)⟩] [22,23,24,25]
abbrev zGh:HCode:=oR [oV 26 (.mv (.t 2)),
  oV 27 (.ldB (.t 8) 0 32 0 3 true),
  oV 28 (.ldB (.t 9) 1 35 0 3 true),
  ⟨none,.callv (some 29) (.t 26) [(.t 27,.v),(.t 28,.v)]⟩,
  oV 30 (.not (.t 29))] [26,27,28,29]
abbrev zGi:HCode:=oN [oV 6 (.mv (.c (bv false)))]
abbrev zGj:HCode:=oR [oV 31 (.ints .add (.t 17) (.c (iv 1))),
  oV 17 (.mv (.t 31))] [31]
abbrev zFr:HCode:=oN [oV 6 (.mv (.c (bv true)))]
abbrev zHX:HCode:=(.seq zGa (.seq (.seq zGb (.cond (.t 14) (.seq zGc .ret) .skip)) (.seq (.seq zGd (.block 0 (.loop (.seq zGe (.seq (.cond (.t 18) .skip (.exit 0)) (.seq (.block 1 (.seq zGf (.seq zGg (.seq zGh (.cond (.t 30) (.seq zGi .ret) .skip))))) zGj)))))) (.seq zFr .ret))))
abbrev zDc:Env:={N:=32,Γ:=[(32,3),(35,3)],L:=38,nfix:=0}
abbrev slices_EqualFunc_Entry_R:List RSrc:=[.tmp 6]
theorem zGk:zBs Tryz.prog zBR zHX zDc slices_EqualFunc_Entry_R:=by kernel_rfl
abbrev yAv:HCode:=oN [oV 1 (.boxF (.t 0)),
  oV 2 (.mv (.c (iv 0)))]
abbrev yAw:HCode:=oR [oV 6 (.fldR (.t 1) 0 1),
  oV 7 (.ldR (.t 6) 1 true),
  oC 8 zCR [(.t 7,.v)],
  oV 5 (.mv (.t 8)),
  oV 9 (.ext 5 0),
  oV 10 (.ext 5 1),
  oV 3 (.mv (.t 9)),
  oV 4 (.mv (.t 10))] [5,6,7,8,9,10]
abbrev yAx:HCode:=oR [oV 11 (.mv (.t 4)),
  oV 12 (.ints .neq (.t 11) (.c (iv 0)))] [11]
abbrev yAy:HCode:=oR [oV 13 (.mv (.t 4)),
  oV 2 (.mv (.t 13))] [13]
abbrev yAz:HCode:=oR [oV 14 (.mv (.t 3)),
  oV 15 (.fldR (.t 1) 1 1),
  oV 16 (.ldR (.t 15) 1 false),
  oC 17 zBR [(.t 14,.v),(.t 16,.v),(.f zDE,.v)],
  oV 18 (.not (.t 17))] [14,15,16,17]
abbrev yAA:HCode:=oN [oV 2 (.mv (.c (iv 1)))]
abbrev yAB:HCode:=oN [oV 2 (.mv (.c (iv 0)))]
abbrev yIc:HCode:=(.seq yAv (.seq yAw (.seq (.seq yAx (.cond (.t 12) (.seq yAy .ret) .skip)) (.seq (.seq yAz (.cond (.t 18) (.seq yAA .ret) .skip)) (.seq yAB .ret)))))
abbrev zPk:Env:={N:=19,Γ:=[],L:=19,nfix:=0}
abbrev index_Fits_R:List RSrc:=[.tmp 2]
theorem yAC:zBs Tryz.prog zHp yIc zPk index_Fits_R:=by kernel_rfl
abbrev yAD:HCode:=oN [oV 2 (.boxF (.t 0)),
  oV 4 (.mv (.c (.one (.nl 1)))),
  oV 5 (.mv (.c (iv 0)))]
abbrev yAE:HCode:=oR [oV 17 (.ldR (.t 2) 2 true),
  oC 18 zHp [(.t 17,.v)],
  oV 6 (.mv (.t 18))] [17,18]
abbrev yAF:HCode:=oR [oV 19 (.mv (.t 6)),
  oV 20 (.ints .neq (.t 19) (.c (iv 0)))] [19]
abbrev yAG:HCode:=oR [oV 21 (.mv (.t 6)),
  oV 4 (.mv (.c (.one (.nl 1)))),
  oV 5 (.mv (.t 21))] [21]
abbrev yAH:HCode:=oR [oV 22 (.mv (.t 1)),
  oC 23 zEE [(.t 22,.v)],
  oV 7 (.mv (.t 23))] [22,23]
abbrev yAI:HCode:=oR [oV 24 (.mv (.t 7)),
  oV 25 (.ints .neq (.t 24) (.c (iv 0)))] [24]
abbrev yAJ:HCode:=oR [oV 26 (.mv (.t 7)),
  oV 4 (.mv (.c (.one (.nl 1)))),
  oV 5 (.mv (.t 26))] [26]
abbrev yAK:HCode:=oN [⟨none,.mmk 27⟩,
  oV 8 (.mv (.t 27))]
abbrev yAL:HCode:=oN [oV 28 (.mv (.t 1)),
  oV 29 (.len false (.t 28)),
  oV 30 (.mv (.c (iv 0)))]
abbrev yAM:HCode:=oN [oV 31 (.ints .lss (.t 30) (.t 29))]
abbrev zWt:HCode:=oR [oV 32 (.idxA 2 (.t 28) (.t 30)),
  oV 33 (.ldR (.t 32) 2 true),
  ⟨none,.alloc 10 0 75 [.nl 2,.nl 1]⟩,
  ⟨none,.sto (.t 10) 0 75 0 2 (.t 33)⟩] [32,33]
abbrev zWu:HCode:=oR [oV 34 (.ldR (.t 2) 2 true),
  oV 35 (.ldB (.t 10) 0 75 0 2 true),
  oC 36 zF8 [(.t 34,.v),(.t 35,.v)],
  oV 37 (.len false (.t 36)),
  oV 38 (.mv (.c (iv 0)))] [34,35]
abbrev zWv:HCode:=oN [oV 39 (.ints .lss (.t 38) (.t 37))]
abbrev zWw:HCode:=oR [oV 40 (.idxA 1 (.t 36) (.t 38)),
  oV 41 (.ldR (.t 40) 1 false),
  oV 12 (.mv (.t 41))] [40,41]
abbrev zWx:HCode:=oR [oV 43 (.fldR (.t 2) 0 1),
  oV 44 (.ldR (.t 43) 1 true),
  oV 45 (.ldB (.t 10) 0 75 0 2 true),
  oV 46 (.bslF 2 [.t 45]),
  oV 47 (.mv (.t 12)),
  oC 48 zEj [(.t 44,.v),(.t 46,.v),(.t 47,.v)],
  oV 42 (.mv (.t 48)),
  oV 49 (.ext 42 0),
  oV 50 (.ext 42 1),
  oV 13 (.mv (.t 49)),
  oV 14 (.mv (.t 50))] [14,42,43,44,45,46,47,48,49,50]
abbrev zWy:HCode:=oN [oV 51 (.mv (.t 13))]
abbrev zWz:HCode:=oR [oV 52 (.mv (.t 8)),
  oV 53 (.mv (.t 12)),
  ⟨none,.mpl 54 (.t 52) 27 1 (.t 53) (.v (.int .i64 0)) false⟩,
  oV 55 (.ints .add (.t 54) (.c (iv 1))),
  ⟨none,.mps (.t 52) 27 1 (.t 53) (.t 55)⟩] [52,53,54,55]
abbrev zWA:HCode:=oR [oV 56 (.ints .add (.t 38) (.c (iv 1))),
  oV 38 (.mv (.t 56))] [56]
abbrev zWB:HCode:=oR [oV 57 (.ints .add (.t 30) (.c (iv 1))),
  oV 30 (.mv (.t 57))] [57]
abbrev zWC:HCode:=oN [⟨none,.nlo 15 zAr 1⟩]
abbrev zWD:HCode:=oR [oV 58 (.fldR (.t 2) 0 1),
  oV 59 (.fldR (.t 58) 0 1),
  oV 60 (.ldR (.t 59) 1 false),
  oV 61 (.len false (.t 60)),
  oV 62 (.mv (.c (iv 0)))] [58,59,60]
abbrev zWE:HCode:=oN [oV 63 (.ints .lss (.t 62) (.t 61))]
abbrev zWF:HCode:=oR [oV 64 (.mv (.t 62)),
  oV 16 (.mv (.t 64))] [64]
abbrev zWG:HCode:=oR [oV 65 (.mv (.t 8)),
  oV 66 (.mv (.t 16)),
  ⟨none,.mpl 67 (.t 65) 27 1 (.t 66) (.v (.int .i64 0)) false⟩,
  oV 68 (.ints .gtr (.t 67) (.c (iv 0)))] [65,66,67]
abbrev zWH:HCode:=oR [⟨none,.mvo 69 15⟩,
  oV 70 (.mv (.t 16)),
  oV 71 (.bslF 1 [.t 70]),
  ⟨none,.app 72 zAr 1 (.t 69) (.t 71)⟩,
  ⟨none,.mvo 15 72⟩] [69,70,71,72]
abbrev zWI:HCode:=oR [oV 73 (.ints .add (.t 62) (.c (iv 1))),
  oV 62 (.mv (.t 73))] [73]
abbrev zWJ:HCode:=oR [oV 74 (.mv (.t 15)),
  oV 4 (.mv (.t 74)),
  oV 5 (.mv (.c (iv 0)))] [74]
abbrev yId:HCode:=(.seq yAD (.seq (.seq yAE (.seq yAF (.cond (.t 20) (.seq yAG .ret) .skip))) (.seq (.seq yAH (.seq yAI (.cond (.t 25) (.seq yAJ .ret) .skip))) (.seq yAK (.seq (.seq yAL (.block 0 (.loop (.seq yAM (.seq (.cond (.t 31) .skip (.exit 0)) (.seq (.block 1 (.seq zWt (.seq zWu (.block 2 (.loop (.seq zWv (.seq (.cond (.t 39) .skip (.exit 2)) (.seq (.block 3 (.seq zWw (.seq zWx (.seq zWy (.cond (.t 51) zWz .skip))))) zWA)))))))) zWB)))))) (.seq zWC (.seq (.seq zWD (.block 4 (.loop (.seq zWE (.seq (.cond (.t 63) .skip (.exit 4)) (.seq (.block 5 (.seq zWF (.seq zWG (.cond (.t 68) zWH .skip)))) zWI)))))) (.seq zWJ .ret))))))))
abbrev zPl:Env:={N:=75,Γ:=[(75,2)],L:=77,nfix:=0}
abbrev index_Find_R:List RSrc:=[.tmp 4,.tmp 5]
theorem yAN:zBs Tryz.prog zEI yId zPl index_Find_R:=by kernel_rfl
abbrev zNb:HCode:=oN [oV 4 (.mv (.c (bv false)))]
abbrev zNc:HCode:=oR [oV 6 (.mv (.t 0)),
  oV 7 (.len false (.t 6)),
  oV 8 (.mv (.t 1)),
  oV 9 (.len false (.t 8)),
  oV 10 (.ints .neq (.t 7) (.t 9))] [6,7,8,9]
abbrev zNd:HCode:=oN [oV 4 (.mv (.c (bv false)))]
abbrev zNe:HCode:=oN [oV 5 (.mv (.c (iv 0)))]
abbrev zNf:HCode:=oR [oV 11 (.mv (.t 5)),
  oV 12 (.mv (.t 0)),
  oV 13 (.len false (.t 12)),
  oV 14 (.ints .lss (.t 11) (.t 13))] [11,12,13]
abbrev zNg:HCode:=oQ [oD 0 false (oV 17 (.mv (.t 0))),
  oD 1 false (oV 18 (.mv (.t 5))),
  oD 2 false (oV 19 (.idxA 3 (.t 17) (.t 18))),
  oD 3 false (oV 20 (.fldR (.t 19) 0 1)),
  oD 4 false (oV 21 (.ldR (.t 20) 1 false)),
  oD 5 false (oV 22 (.mv (.t 1))),
  oD 6 false (oV 23 (.mv (.t 5))),
  oD 7 false (oV 24 (.idxA 3 (.t 22) (.t 23))),
  oD 8 false (oV 25 (.fldR (.t 24) 0 1)),
  oD 9 false (oV 26 (.ldR (.t 25) 1 false)),
  oD 10 false (oV 27 (.ints .neq (.t 21) (.t 26))),
  oD 11 false (oV 28 (.mv (.t 27))),
  oD 12 false (oG 28 false 29 (.mv (.t 0))),
  oD 13 false (oG 28 false 30 (.mv (.t 5))),
  oD 14 false (oG 28 false 31 (.idxA 3 (.t 29) (.t 30))),
  oD 15 false (oG 28 false 32 (.fldR (.t 31) 1 1)),
  oD 16 false (oG 28 false 33 (.ldR (.t 32) 1 false)),
  oD 17 false (oG 28 false 34 (.mv (.t 1))),
  oD 18 false (oG 28 false 35 (.mv (.t 5))),
  oD 19 false (oG 28 false 36 (.idxA 3 (.t 34) (.t 35))),
  oD 20 false (oG 28 false 37 (.fldR (.t 36) 1 1)),
  oD 21 false (oG 28 false 38 (.ldR (.t 37) 1 false)),
  oD 22 false (oG 28 false 39 (.strs .neq (.t 33) (.t 38))),
  oD 23 false (oV 40 (.pick (.t 28) (.c (bv true)) (.t 39))),
  oD 24 false (oV 41 (.mv (.t 40))),
  oD 25 false (oG 41 false 42 (.mv (.t 0))),
  oD 26 false (oG 41 false 43 (.mv (.t 5))),
  oD 27 false (oG 41 false 44 (.idxA 3 (.t 42) (.t 43))),
  oD 28 false (oG 41 false 45 (.fldR (.t 44) 2 1)),
  oD 29 false (oG 41 false 46 (.ldR (.t 45) 1 false)),
  oD 30 false (oG 41 false 47 (.mv (.t 1))),
  oD 31 false (oG 41 false 48 (.mv (.t 5))),
  oD 32 false (oG 41 false 49 (.idxA 3 (.t 47) (.t 48))),
  oD 33 false (oG 41 false 50 (.fldR (.t 49) 2 1)),
  oD 34 false (oG 41 false 51 (.ldR (.t 50) 1 false)),
  oD 35 true ⟨some (41,false),.call (some 52) zBZ [(.t 46,.v),(.t 51,.v)]⟩,
  oD 36 false (oG 41 false 53 (.not (.t 52))),
  oD 37 false (oV 54 (.pick (.t 41) (.c (bv true)) (.t 53)))] [17,18,19,20,21,22,23,24,25,26,27,28,29,30,31,32,33,34,35,36,37,38,39,40,41,42,43,44,45,46,47,48,49,50,51,52,53]
abbrev zNh:HCode:=oN [oV 4 (.mv (.c (bv false)))]
abbrev zNi:HCode:=oR [oV 15 (.mv (.t 5)),
  oV 16 (.ints .add (.t 15) (.c (iv 1))),
  oV 5 (.mv (.t 16))] [15,16]
abbrev zNj:HCode:=oN [oV 4 (.mv (.c (bv true)))]
abbrev zTn:HCode:=(.seq zNb (.seq (.seq zNc (.cond (.t 10) (.seq zNd .ret) .skip)) (.seq (.seq zNe (.block 0 (.loop (.seq (.seq zNf (.cond (.t 14) .skip (.exit 0))) (.seq (.block 1 (.seq zNg (.cond (.t 54) (.seq zNh .ret) .skip))) zNi))))) (.seq zNj .ret))))
abbrev zG5:Env:={N:=55,Γ:=[],L:=55,nfix:=0}
abbrev ref_SameIndexes_R:List RSrc:=[.tmp 4]
theorem zNk:zBs Tryz.prog zDF zTn zG5 ref_SameIndexes_R:=by kernel_rfl
abbrev zQp:HCode:=oN [oV 1 (.boxF (.t 0)),
  oV 2 (.mv (.c (iv 0)))]
abbrev zQq:HCode:=oR [oV 4 (.fldR (.t 1) 0 1),
  oV 5 (.ldR (.t 4) 1 true),
  oC 6 zE3 [(.t 5,.v)],
  oV 3 (.mv (.t 6))] [4,5,6]
abbrev zQr:HCode:=oR [oV 7 (.mv (.t 3)),
  oV 8 (.ints .neq (.t 7) (.c (iv 0)))] [7]
abbrev zQs:HCode:=oR [oV 9 (.mv (.t 3)),
  oV 2 (.mv (.t 9))] [9]
abbrev zQt:HCode:=oQ [oD 0 false (oV 10 (.fldR (.t 1) 1 1)),
  oD 1 false (oV 11 (.ldR (.t 10) 1 false)),
  oD 2 false (oV 12 (.fldR (.t 1) 0 1)),
  oD 3 false (oV 13 (.ldR (.t 12) 1 true)),
  oD 4 true (oC 14 zF9 [(.t 13,.v)]),
  oD 5 true (oC 15 zDF [(.t 11,.v),(.t 14,.v)]),
  oD 6 false (oV 16 (.not (.t 15)))] [10,11,12,13,14,15]
abbrev zQu:HCode:=oN [oV 2 (.mv (.c (iv 1)))]
abbrev zQv:HCode:=oN [oV 2 (.mv (.c (iv 0)))]
abbrev yAO:HCode:=(.seq zQp (.seq (.seq zQq (.seq zQr (.cond (.t 8) (.seq zQs .ret) .skip))) (.seq (.seq zQt (.cond (.t 16) (.seq zQu .ret) .skip)) (.seq zQv .ret))))
abbrev zJb:Env:={N:=17,Γ:=[],L:=17,nfix:=0}
abbrev ref_PageError_R:List RSrc:=[.tmp 2]
theorem zQw:zBs Tryz.prog zEl yAO zJb ref_PageError_R:=by kernel_rfl
end Go.Hx
end

section
namespace Go.Hx
open Go.Proofs
variable [Glob]
attribute [local go_sem] zAk zAl zAj zAf ndV zAm
attribute [local go_sem] reduceCtorEq Nat.reduceAdd Nat.reduceEqDiff reduceIte Nat.reduceLeDiff Nat.reduceLT Nat.reduceSub
theorem zBz (n lo hi:Int):Contract Tryz.prog zAG [.val (iv n),.val (iv lo),.val (iv hi)] {res:=.val (bv (decide (lo≤n∧n≤hi)))}:=by
 refine mkA zL5 (base:=0) (fo rfl) (fun hfit=>?_)
 unfold F0 zIe
 refine goU ?_
 refine zAb rfl trivial (.inl ?_)
 congr 3
 by_cases h1:lo≤n<;>by_cases h2:n≤hi<;>simp [h1,h2]
theorem zDd (s:Bys):Contract Tryz.prog zBM [.val (sv s)] {res:=.val (bv (zBC s))}:=by
 refine mkA zYG (base:=0) (fo rfl) (fun hfit=>?_)
 unfold F0 zO5
 refine goU ?_
 refine zAc (by repeat' constructor) (zBz _ _ _) ?_
 refine goW ?_
 refine zAa (by rfl) trivial (fun h=>?_) (fun h=>?_)
 ·refine goW ?_
  refine zAb rfl trivial (.inl ?_)
  congr 3
  cases hn:zBC s with
  |false=>rfl
  |true=>exfalso;simp [zBC] at hn h;omega
 have hl:s.length≤12:=by simp at h;omega
 refine goW ?_
 refine zAd (fun i:Nat=>[(3,.pv (iv i)),(4,.un),(22,.un),(46,.un)]) (fun i=>s.length-i) (fun i=>i≤s.length∧(s.take i).all zO1=true) 0 ?_ ⟨Nat.zero_le _,rfl⟩ ?_
 ·simp (maxSteps:=2000000) only [go_sem,zAC,zA1,zB5,zAD]
 intro i ⟨hi,hall⟩
 refine goW ?_
 refine zAa (by rfl) trivial (fun h2=>?_) (fun h2=>?_)
 ·have hlt:i < s.length:=by simpa using h2
  refine goW ?_
  refine zAa (by rfl) trivial (fun h3=>?_) (fun h3=>?_)
  ·refine goW ?_
   refine zAb rfl trivial (.inl ?_)
   congr 3
   cases hn:zBC s with
   |false=>rfl
   |true=>
    exfalso
    simp only [zBC,Bool.and_eq_true,List.all_eq_true] at hn
    have h4:=hn.2 (s.getD i 0) (by simp [hlt])
    simp [zO1,hlt] at h3 h4
    omega
  ·refine goW ?_
   refine ⟨i+1,by omega,⟨hlt,?_⟩,?_⟩
   ·rw [zHi hlt (d:=0),hall]
    simp [zO1,hlt] at h3 ⊢
    omega
   ·simp (maxSteps:=2000000) only [go_sem,zAC,zA1,zB5,zAD]
    exact zA2 (by omega)
 ·refine goW ?_
  refine zAb rfl trivial (.inl ?_)
  congr 3
  have hi2:i=s.length:=by simp at h2;omega
  subst hi2
  simp [zBC] at hall h ⊢
  exact ⟨by omega,hall⟩
theorem zNl (s:Bys):Contract Tryz.prog zDZ [.val (sv s)] {res:=.val (bv (zCq s))}:=by
 refine mkA zUC (base:=0) (fo rfl) (fun hfit=>?_)
 unfold F0 zL6
 refine goU ?_
 refine zAa (by rfl) trivial (fun h=>?_) (fun h=>?_)
 ·refine goW ?_
  refine zAb rfl trivial (.inl ?_)
  simp [zCq] at h ⊢
  intro h';omega
 have hl:s.length≤16:=by simp at h;omega
 refine goW ?_
 refine zAd (fun i:Nat=>[(3,.pv (iv i)),(10,.un),(28,.un)]) (fun i=>s.length-i) (fun i=>i≤s.length∧(s.take i).all yHD=true) 0 ?_ ⟨Nat.zero_le _,rfl⟩ ?_
 ·simp (maxSteps:=2000000) only [go_sem,zAC,zA1,zB5,zAD]
 intro i ⟨hi,hall⟩
 refine goW ?_
 refine zAa (by rfl) trivial (fun h=>?_) (fun h=>?_)
 ·have hlt:i < s.length:=by simpa using h
  refine goW ?_
  refine zAa (by rfl) trivial (fun h2=>?_) (fun h2=>?_)
  ·refine goW ?_
   refine zAb rfl trivial (.inl ?_)
   congr 3
   cases hn:zCq s with
   |false=>rfl
   |true=>
    exfalso
    simp only [zCq,Bool.and_eq_true,List.all_eq_true] at hn
    have h4:=hn.2 (s.getD i 0) (by simp [hlt])
    simp [yHD,hlt] at h2 h4
    omega
  ·refine goW ?_
   refine ⟨i+1,by omega,⟨hlt,?_⟩,?_⟩
   ·rw [zHi hlt (d:=0),hall]
    simp [yHD,hlt] at h2 ⊢
    omega
   ·simp (maxSteps:=2000000) only [go_sem,zAC,zA1,zB5,zAD]
    exact zA2 (by omega)
 ·refine goW ?_
  refine zAb rfl trivial (.inl ?_)
  have hi2:i=s.length:=by simp at h;omega
  subst hi2
  simp [zCq,hl] at hall ⊢
  exact hall
end Go.Hx
end

section
set_option maxRecDepth 100000
set_option linter.unusedSimpArgs false
namespace Go.Hx
open Go.Proofs
variable [Glob]
attribute [local go_sem] zAk zAl zAj zAf ndV zAm
attribute [local go_sem] reduceCtorEq Nat.reduceAdd Nat.reduceEqDiff reduceIte Nat.reduceLeDiff Nat.reduceLT Nat.reduceSub
theorem zCS (a b:List Int):Contract Tryz.prog zBZ [.val (.one (.sl 1 (zAy a))),.val (.one (.sl 1 (zAy b)))] {res:=.val (bv (decide (a=b)))}:=by
 refine mkA zSa (base:=0) (fo rfl) (fun hfit=>?_)
 unfold F0 zKf
 refine goU ?_
 have hm:=zDn (k:=1) hfit.1
 rw [zAf] at hm
 refine zAa (by rfl) trivial (fun h=>?_) (fun h=>?_)
 ·refine goW ?_
  refine zAb rfl trivial (.inl ?_)
  congr 3
  simp [zAf] at h
  exact decide_eq_false (fun e=>h (by subst e;rfl))
 have hl:a.length=b.length:=by simp [zAf] at h;omega
 refine goW ?_
 refine zAd (fun i:Nat=>[(5,.pv (iv i)),(14,.un),(25,.un)]) (fun i=>a.length-i) (fun i=>i≤a.length∧a.take i=b.take i) 0 ?_ ⟨Nat.zero_le _,rfl⟩ ?_
 ·simp (maxSteps:=2000000) only [go_sem,zAC,zA1,zB5,zAD]
 intro i ⟨hi,heq⟩
 try simp (maxSteps:=2000000) only [go_sem,zAf]
 repeat with_reducible refine zAt ?_
 refine zAa (by rfl) trivial (fun h2=>?_) (fun h2=>?_)
 ·have hlt:i < a.length:=by simpa using h2
  have hltb:i < b.length:=by omega
  try simp (maxSteps:=2000000) only [go_sem,zCO _ _ hlt,zCO _ _ hltb,zAf]
  repeat with_reducible refine zAt ?_
  refine zAa (by rfl) trivial (fun h3=>?_) (fun h3=>?_)
  ·refine goW ?_
   refine zAb rfl trivial (.inl ?_)
   congr 3
   simp only [bne_iff_ne,ne_eq] at h3
   exact (decide_eq_false (yHB 0 h3))
  ·refine goW ?_
   refine ⟨i+1,by omega,⟨hlt,yBF 0 heq hlt hltb ?_⟩,?_⟩
   ·simpa only [bne_eq_false_iff_eq] using h3
   ·simp (maxSteps:=2000000) only [go_sem,zAC,zA1,zB5,zAD]
    exact zA2 (by omega)
 ·refine goW ?_
  refine zAb rfl trivial (.inl ?_)
  congr 3
  have hi2:i=a.length:=by simp at h2;omega
  subst hi2
  exact decide_eq_true (yHC hl heq)
end Go.Hx
end

section
set_option maxRecDepth 100000
set_option linter.unusedSimpArgs false
namespace Go.Hx
open Go.Proofs
variable [Glob]
attribute [local go_sem] zAk zAl zAj zAf ndV zAm
attribute [local go_sem] reduceCtorEq Nat.reduceAdd Nat.reduceEqDiff reduceIte Nat.reduceLeDiff Nat.reduceLT Nat.reduceSub
theorem zWK (x:Nd):Contract Tryz.prog zE4 [.val (.agg (ndV x))] {res:=.val (bv (zBo x))}:=by
 unfold ndV
 refine mkA zRO (base:=0) (fo rfl) (fun hfit=>?_)
 unfold F0 zKd
 refine goU ?_
 refine zAc (by repeat' constructor) (zDd _) ?_
 refine goW ?_
 apply zAg (h2:=fun _=>zDd _)
 ·(simp (maxSteps:=2000000) only [go_sem];rfl)
 ·intro h;repeat' (first|exact trivial|exact h|refine And.intro ?_ ?_)
 try simp (maxSteps:=2000000) only [go_sem,zAl,zAj]
 repeat with_reducible refine zAt ?_
 refine zAa (by rfl) trivial (fun h=>?_) (fun h=>?_)
 ·refine goW ?_
  refine zAb rfl trivial (.inl ?_)
  congr 3
  cases hn:zBo x with
  |false=>rfl
  |true=>
   exfalso
   simp only [zBo,Bool.and_eq_true,Bool.or_eq_true,decide_eq_true_eq,beq_iff_eq] at hn
   obtain ⟨⟨⟨⟨⟨h1,h2⟩,h3⟩,h4⟩,_⟩,_⟩:=hn
   rcases h2 with h2|h2
   ·simp [h1,h2] at h;omega
   ·simp [h1,h2] at h;omega
 have hh:zBC x.tag=true∧(x.id=[]∨zBC x.id=true)∧x.cls.length≤6∧x.att.length≤4:=by
  simp at h
  refine ⟨h.1.1.1,?_,by omega,by omega⟩
  by_cases h0:x.id=[]
  ·exact .inl h0
  ·exact .inr (h.1.1.2 h0)
 obtain ⟨hh1,hh2,hh3,hh4⟩:=hh
 refine goW ?_
 refine zAd (fun i:Nat=>[(3,.pv (iv i)),(36,.un),(63,.un)]) (fun i=>x.cls.length-i) (fun i=>i≤x.cls.length∧okC x.cls i=true) 0 ?_ ⟨Nat.zero_le _,rfl⟩ ?_
 ·simp (maxSteps:=2000000) only [go_sem,zAC,zA1,zB5,zAD]
 intro i ⟨hi,hok⟩
 try simp (maxSteps:=2000000) only [go_sem,zAl]
 repeat with_reducible refine zAt ?_
 refine zAa (by rfl) trivial (fun h2=>?_) (fun h2=>?_)
 ·have hlt:i < x.cls.length:=by simpa using h2
  have e1:((i:Int)-1).toNat=i-1:=by omega
  try simp (maxSteps:=2000000) only [go_sem,zFE _ _ hlt,zAl]
  repeat with_reducible refine zAt ?_
  refine zAc (by repeat' constructor) (zDd _) ?_
  try simp (maxSteps:=2000000) only [go_sem,zFE _ _ hlt,zAl,e1,zFE _ _ (show i-1 < x.cls.length by omega)]
  repeat with_reducible refine zAt ?_
  refine zAa (by rfl) trivial (fun h3=>?_) (fun h3=>?_)
  ·refine goW ?_
   refine zAb rfl trivial (.inl ?_)
   congr 3
   cases hn:zBo x with
   |false=>rfl
   |true=>
    exfalso
    simp only [zBo,Bool.and_eq_true] at hn
    have h4:=zAF hn.1.2 hlt
    simp [cOk,hlt] at h3 h4
    grind
  ·refine goW ?_
   refine ⟨i+1,by omega,⟨hlt,?_⟩,?_⟩
   ·show (List.range (i+1)).all (cOk x.cls)=true
    rw [zCP]
    have hok':(List.range i).all (cOk x.cls)=true:=hok
    rw [hok']
    simp [cOk,hlt] at h3 ⊢
    refine ⟨h3.1,?_⟩
    rcases Nat.eq_zero_or_pos i with h5|h5
    ·exact .inl h5
    ·exact .inr (h3.2 h5)
   ·simp (maxSteps:=2000000) only [go_sem,zAC,zA1,zB5,zAD]
    exact zA2 (by omega)
 refine goW ?_
 have hi2:i=x.cls.length:=by simp at h2;omega
 refine zAd (fun i:Nat=>[(4,.pv (iv i)),(68,.un),(108,.un)]) (fun i=>x.att.length-i) (fun i=>i≤x.att.length∧okA x.att i=true) 0 ?_ ⟨Nat.zero_le _,rfl⟩ ?_
 ·simp (maxSteps:=2000000) only [go_sem,zAC,zA1,zB5,zAD]
 intro k ⟨hk,hokA⟩
 try simp (maxSteps:=2000000) only [go_sem,zAj]
 repeat with_reducible refine zAt ?_
 refine zAa (by rfl) trivial (fun h3=>?_) (fun h3=>?_)
 ·have hlt:k < x.att.length:=by simpa using h3
  have e1:((k:Int)-1).toNat=k-1:=by omega
  try simp (maxSteps:=2000000) only [go_sem,zEz _ _ hlt,zAj]
  repeat with_reducible refine zAt ?_
  refine zAc (by repeat' constructor) (zDd _) ?_
  try simp (maxSteps:=2000000) only [go_sem,zEz _ _ hlt,zAj]
  repeat with_reducible refine zAt ?_
  apply zAg (h2:=fun _=>zNl _)
  ·(simp (maxSteps:=2000000) only [go_sem];rfl)
  ·intro h;repeat' (first|exact trivial|exact h|refine And.intro ?_ ?_)
  try simp (maxSteps:=2000000) only [go_sem,zEz _ _ hlt,zAj,e1,zEz _ _ (show k-1 < x.att.length by omega)]
  repeat with_reducible refine zAt ?_
  refine zAa (by rfl) trivial (fun h4=>?_) (fun h4=>?_)
  ·refine goW ?_
   refine zAb rfl trivial (.inl ?_)
   congr 3
   cases hn:zBo x with
   |false=>rfl
   |true=>
    exfalso
    simp only [zBo,Bool.and_eq_true] at hn
    have h5:=zAF hn.2 hlt
    simp [aOk,hlt] at h4 h5
    grind
  ·refine goW ?_
   refine ⟨k+1,by omega,⟨hlt,?_⟩,?_⟩
   ·show (List.range (k+1)).all (aOk x.att)=true
    rw [zCP]
    have hok':(List.range k).all (aOk x.att)=true:=hokA
    rw [hok']
    simp [aOk,hlt] at h4 ⊢
    refine ⟨h4.1,?_⟩
    rcases Nat.eq_zero_or_pos k with h5|h5
    ·exact .inl h5
    ·exact .inr (h4.2 h5)
   ·simp (maxSteps:=2000000) only [go_sem,zAC,zA1,zB5,zAD]
    exact zA2 (by omega)
 ·refine goW ?_
  refine zAb rfl trivial (.inl ?_)
  congr 3
  have hk2:k=x.att.length:=by simp at h3;omega
  subst hk2 hi2
  simp only [zBo,hh1,hok,hokA,hh3,hh4,decide_true,Bool.and_true,Bool.true_and]
  rcases hh2 with h|h<;>simp [h]
theorem zTo (d:List Nd) (hd:zCd d d.length=true) (a:Int) (n:Nat) (hn:n < d.length):Contract Tryz.prog zFI [.val (zC9 d),.val (iv a),.val (iv n)] {res:=.val (bv ((zA5 d d.length (zAX d n)).contains a))}:=by
 unfold zC9
 refine mkA yB1 (base:=0) (fo rfl) (fun hfit=>?_)
 unfold F0 zR0
 refine goU ?_
 try simp (maxSteps:=2000000) only [go_sem,zAk,zAW _ _ hn,ndV]
 repeat with_reducible refine zAt ?_
 have hup:=zBb hd
 refine zAd (fun k:Int=>[(7,.pv (iv k)),(15,.un),(24,.un)]) (fun k=>(k+1).toNat) (fun k=>-1≤k∧k < d.length∧(zA5 d d.length (zAX d n)).contains a=(zA5 d d.length k).contains a) (zAX d n) ?_ ⟨(hup n hn).1,by have:=(hup n hn).2;omega,rfl⟩ ?_
 ·simp (maxSteps:=2000000) only [go_sem,zAC,zA1,zB5,zAD]
  exact zA2 rfl
 intro k ⟨h1,h2,h3⟩
 refine goW ?_
 refine zAa (by rfl) trivial (fun h4=>?_) (fun h4=>?_)
 ·have hk:0≤k:=by simpa using h4
  have hkn:k.toNat < d.length:=by omega
  have hk2:k=(k.toNat:Int):=by omega
  refine goW ?_
  refine zAa (by rfl) trivial (fun h5=>?_) (fun h5=>?_)
  ·refine goW ?_
   refine zAb rfl trivial (.inl ?_)
   congr 3
   rw [h3]
   have h6:k=a:=by simpa using h5
   subst h6
   cases hl:d.length with
   |zero=>omega
   |succ f=>simp [zA5,show ¬ k < 0 by omega]
  ·have h6:¬ k=a:=by simpa using h5
   try simp (maxSteps:=2000000) only [go_sem,zAk,zAW _ _ hkn,ndV]
   repeat with_reducible refine zAt ?_
   refine ⟨zAX d k.toNat,?_,⟨(hup _ hkn).1,?_,?_⟩,?_⟩
   ·have:=(hup _ hkn);omega
   ·have:=(hup _ hkn);omega
   ·rw [h3]
    cases hl:d.length with
    |zero=>omega
    |succ f=>
     have e:zA5 d (f+1) k=k::zA5 d f (zAX d k.toNat):=by simp [zA5,show ¬ k < 0 by omega]
     rw [e,zEO f (f+1) (zAX d k.toNat) (fun j hj=>(hup j (by have:=hup _ hkn;omega)).2) (by have:=hup _ hkn;omega) (by have:=hup _ hkn;omega)]
     rw [List.contains_cons]
     simp [Ne.symm h6]
   ·simp (maxSteps:=2000000) only [go_sem,zAC,zA1,zB5,zAD]
    exact zA2 rfl
 ·refine goW ?_
  refine zAb rfl trivial (.inl ?_)
  congr 3
  rw [h3]
  have:k < 0:=by simp at h4;omega
  cases hl:d.length with
  |zero=>simp [zA5]
  |succ f=>simp [zA5,this]
end Go.Hx
end

section
set_option maxRecDepth 100000
set_option linter.unusedSimpArgs false
set_option maxHeartbeats 4000000
namespace Go.Hx
open Go.Proofs
variable [Glob]
attribute [local go_sem] zAk zAl zAj zAf ndV zAm zAh
attribute [local go_sem] reduceCtorEq Nat.reduceAdd Nat.reduceEqDiff reduceIte Nat.reduceLeDiff Nat.reduceLT Nat.reduceSub
def entV (e:Ent):List PV:=[bI e.kind,bS e.name,.sl 1 (zAy e.nodes)]
def zCv (l:List Ent):List (List PV):=l.map entV
theorem zCw (l:List Ent):(zCv l).length=l.length:=by simp [zCv]
theorem zJc (l:List Ent) (i:Nat) (h:i < l.length):(zCv l).getD i []=entV (l.getD i default):=by simp [zCv,h]
theorem yJA (a:Int):Contract Tryz.prog zCV [.val (iv a)] {res:=.val (bv false)}:=by
 refine mkA zQh (base:=0) (fo rfl) (fun hfit=>?_)
 unfold F0 zIZ
 refine goU ?_
 have e:(a != a)=false:=by simp
 try simp (maxSteps:=2000000) only [go_sem,e]
 repeat with_reducible refine zAt ?_
 exact zAb rfl trivial (.inl rfl)
theorem yDe (a:Bys):Contract Tryz.prog zCa [.val (sv a)] {res:=.val (bv false)}:=by
 refine mkA zLq (base:=0) (fo rfl) (fun hfit=>?_)
 unfold F0 zFR
 refine goU ?_
 have e:(a==a)=true:=by simp
 try simp (maxSteps:=2000000) only [go_sem,e,Bool.not_true]
 repeat with_reducible refine zAt ?_
 exact zAb rfl trivial (.inl rfl)
def yLr (a b:Int):Int:=if a < b then -1 else if a > b then 1 else 0
theorem yJB (a b:Int):Contract Tryz.prog zDD [.val (iv a),.val (iv b)] {res:=.val (iv (yLr a b))}:=by
 unfold yLr
 refine mkA zM7 (base:=0) (fo rfl) (fun hfit=>?_)
 unfold F0 zG4
 refine goU ?_
 refine zAc (by repeat' constructor) (yJA a) ?_
 refine goW ?_
 refine zAc (by repeat' constructor) (yJA b) ?_
 refine goW ?_
 refine zAa (by rfl) trivial (fun h1=>?_) (fun h1=>?_)
 ·cases h1
 ·refine goW ?_
  refine zAa (by rfl) trivial (fun h2=>?_) (fun h2=>?_)
  ·cases h2
  ·refine goW ?_
   refine zAa (by rfl) trivial (fun h3=>?_) (fun h3=>?_)
   ·rw [if_pos (by simpa using h3)]
    refine goW ?_
    exact zAb rfl trivial (.inl rfl)
   ·rw [if_neg (by simpa using h3)]
    refine goW ?_
    refine zAa (by rfl) trivial (fun h4=>?_) (fun h4=>?_)
    ·rw [if_pos (by simpa using h4)]
     refine goW ?_
     exact zAb rfl trivial (.inl rfl)
    ·rw [if_neg (by simpa using h4)]
     refine goW ?_
     exact zAb rfl trivial (.inl rfl)
def yOa (a b:Bys):Int:=if Op.bytesLess a b then -1 else if a=b then 0 else 1
theorem yFF (a b:Bys):Contract Tryz.prog zCu [.val (sv a),.val (sv b)] {res:=.val (iv (yOa a b))}:=by
 unfold yOa
 refine mkA zJa (base:=0) (fo rfl) (fun hfit=>?_)
 unfold F0 zEv
 refine goU ?_
 refine zAc (by repeat' constructor) (yDe a) ?_
 refine goW ?_
 refine zAc (by repeat' constructor) (yDe b) ?_
 refine goW ?_
 refine zAa (by rfl) trivial (fun h1=>?_) (fun h1=>?_)
 ·cases h1
 ·refine goW ?_
  refine zAa (by rfl) trivial (fun h2=>?_) (fun h2=>?_)
  ·cases h2
  ·refine goW ?_
   refine zAa (by rfl) trivial (fun h3=>?_) (fun h3=>?_)
   ·rw [if_pos h3]
    refine goW ?_
    exact zAb rfl trivial (.inl rfl)
   ·rw [if_neg (by rw [h3];decide)]
    refine goW ?_
    refine zAa (by rfl) trivial (fun h4=>?_) (fun h4=>?_)
    ·rw [if_neg (by rintro rfl;simp at h4)]
     refine goW ?_
     exact zAb rfl trivial (.inl rfl)
    ·rw [if_pos (by simp [h3] at h4;exact h4)]
     refine goW ?_
     exact zAb rfl trivial (.inl rfl)
theorem yRd (x y:Int):Contract Tryz.prog zHo [.val (.one (.sl 1 [[bI x],[bI y]]))] {res:=.val (iv (if x≠0 then x else y))}:=by
 refine mkA yAh (base:=0) (fo rfl) (fun hfit=>?_)
 unfold F0 zPi
 refine goU ?_
 refine zAd (fun i:Nat=>[(8,.pv (iv i)),(2,.un),(5,.un),(9,.un),(14,.un)]) (fun i:Nat=>2-i) (fun i:Nat=>i≤2∧(1≤i→x=0)∧(2≤i→y=0)) (0) ?_ ⟨Nat.zero_le _,fun h=>(by omega),fun h=>(by omega)⟩ ?_
 focus (exact leA)
 rintro i ⟨hi,hx,hy⟩
 rcases (by omega:i=0∨i=1∨i=2) with rfl|rfl|rfl
 ·try simp (maxSteps:=2000000) only [go_sem,List.getD_cons_zero,List.length_cons,List.length_nil]
  repeat with_reducible refine zAt ?_
  refine zAa (by rfl) trivial (fun g1=>?_) (fun g1=>?_)
  ·try simp (maxSteps:=2000000) only [go_sem,List.getD_cons_zero,List.length_cons,List.length_nil]
   repeat with_reducible refine zAt ?_
   refine zAa (by rfl) trivial (fun g2=>?_) (fun g2=>?_)
   ·rw [if_pos (by simpa using g2)]
    refine goW ?_
    exact zAb rfl trivial (.inl rfl)
   ·have h0:x=0:=by simpa using g2
    refine goW ?_
    refine ⟨1,by omega,⟨by omega,fun _=>h0,fun h=>(by omega)⟩,?_⟩
    exact leA
  ·simp at g1
 ·try simp (maxSteps:=2000000) only [go_sem,List.getD_cons_zero,List.getD_cons_succ,List.length_cons,List.length_nil]
  repeat with_reducible refine zAt ?_
  refine zAa (by rfl) trivial (fun g1=>?_) (fun g1=>?_)
  ·try simp (maxSteps:=2000000) only [go_sem,List.getD_cons_zero,List.getD_cons_succ,List.length_cons,List.length_nil]
   repeat with_reducible refine zAt ?_
   refine zAa (by rfl) trivial (fun g2=>?_) (fun g2=>?_)
   ·rw [if_neg (by simpa using hx (by omega))]
    refine goW ?_
    exact zAb rfl trivial (.inl rfl)
   ·have h0:y=0:=by simpa using g2
    refine goW ?_
    refine ⟨2,by omega,⟨by omega,fun _=>hx (by omega),fun _=>h0⟩,?_⟩
    exact leA
  ·simp at g1
 ·try simp (maxSteps:=2000000) only [go_sem,List.length_cons,List.length_nil]
  repeat with_reducible refine zAt ?_
  refine zAa (by rfl) trivial (fun g1=>?_) (fun g1=>?_)
  ·simp at g1
  ·refine goW ?_
   rw [if_neg (by simpa using hx (by omega)),hy (by omega)]
   exact zAb rfl trivial (.inl rfl)
def yKC (a b:Key):Int:=if yLr a.1 b.1≠0 then yLr a.1 b.1 else yOa a.2 b.2
theorem yGV (k k':Int) (n n':Bys) (z z':PV):Contract Tryz.prog zBj [.val (.agg [bI k,bS n,z]),.val (.agg [bI k',bS n',z'])] {res:=.val (iv (yKC (k,n) (k',n')))}:=by
 have h1:=yJB k k'
 have h2:=yFF n n'
 have h3:=yRd (yLr k k') (yOa n n')
 refine mkA zWf (base:=0) (fo rfl) (fun hfit=>?_)
 unfold F0 zM9
 refine goU ?_
 refine zAc (by repeat' constructor) (h1) ?_
 refine goW ?_
 refine zAc (by repeat' constructor) (h2) ?_
 refine goW ?_
 refine zAc (by repeat' constructor) (h3) ?_
 refine goW ?_
 exact zAb rfl trivial (.inl rfl)
theorem yND (a b:Ent):Contract Tryz.prog zBj [.val (.agg (entV a)),.val (.agg (entV b))] {res:=.val (iv (yKC a.key b.key))}:=yGV a.kind b.kind a.name b.name _ _
theorem zXB (a b:Int):(a < b∧yLr a b=-1)∨(a=b∧yLr a b=0)∨(b < a∧yLr a b=1):=by
 unfold yLr
 rcases Int.lt_trichotomy a b with h|h|h
 ·exact .inl ⟨h,by rw [if_pos h]⟩
 ·exact .inr (.inl ⟨h,by rw [if_neg (by omega),if_neg (by omega)]⟩)
 ·exact .inr (.inr ⟨h,by rw [if_neg (by omega),if_pos h]⟩)
theorem yLs (a b:Key):yKC a b < 0↔zAx a b=true:=by
 unfold yKC zAx
 rcases zXB a.1 b.1 with ⟨h,e⟩|⟨h,e⟩|⟨h,e⟩
 ·rw [e,if_pos (by decide),if_neg (by omega)]
  simp [h]
 ·rw [e,if_neg (by decide),if_pos h]
  unfold yOa
  cases hb:Op.bytesLess a.2 b.2 with
  |true=>simp
  |false=>
   rw [if_neg (by decide)]
   split<;>simp
 ·rw [e,if_pos (by decide),if_neg (by omega)]
  simp;omega
theorem yJC (a b:Key):yKC a b=0↔a=b:=by
 unfold yKC
 rcases zXB a.1 b.1 with ⟨h,e⟩|⟨h,e⟩|⟨h,e⟩
 ·rw [e,if_pos (by decide)]
  simp
  intro h2;rw [h2] at h;omega
 ·rw [e,if_neg (by decide)]
  unfold yOa
  constructor
  ·intro g
   split at g
   ·cases g
   ·split at g
    ·rename_i h2;exact Prod.ext h h2
    ·cases g
  ·rintro rfl
   rw [zIb,if_neg (by decide),if_pos rfl]
 ·rw [e,if_pos (by decide)]
  simp
  intro h2;rw [h2] at h;omega
end Go.Hx
end

section
set_option maxRecDepth 100000
set_option linter.unusedSimpArgs false
namespace Go.Hx
open Go.Proofs
variable [Glob]
attribute [local go_sem] zAk zAl zAj zAf ndV zAm zAh fdV Fd.add fM fF fR fK Nat.add_zero
attribute [local go_sem] reduceCtorEq Nat.reduceAdd Nat.reduceEqDiff reduceIte Nat.reduceLeDiff Nat.reduceLT Nat.reduceSub
theorem zCj {F:List Ct} {E:Env} {base:Nat} {av:List AV} {cells io:List PV} (hio:ioOf av=some cells) (hc:zAO F base cells.length=some io):yHx E base av [] {res:=.tup [],io:=io} .normal F:=
 ⟨rfl,fun cs h=>by rw [hio] at h;injection h with h;subst h;exact hc⟩
theorem yAP (c:Fd) (b:Bool) (h:c.m≤1000000000):Contract Tryz.prog zAs [.io (fdV c),.val (bv b),.val (iv 2)] {res:=.tup [],io:=fdV (c.add (fM b))}:=by
 unfold fdV
 refine mkA zCB (base:=17) ⟨Nat.le_of_ble_eq_true rfl,Nat.le_of_ble_eq_true rfl,Nat.le_of_ble_eq_true rfl,⟨rfl,rfl⟩⟩ (fun hfit=>?_)
 unfold F0 zCe
 refine goU ?_
 refine zAa (by rfl) trivial (fun hb=>?_) (fun hb=>?_)
 ·subst hb
  try simp (maxSteps:=2000000) only [go_sem,Int.reduceToNat]
  repeat with_reducible refine zAt ?_
  exact zCj rfl rfl
 ·subst hb
  refine goW ?_
  exact zCj rfl rfl
theorem zQL (c:Fd) (b:Bool) (h:c.f≤1000000000):Contract Tryz.prog zAs [.io (fdV c),.val (bv b),.val (iv 1)] {res:=.tup [],io:=fdV (c.add (fF b))}:=by
 unfold fdV
 refine mkA zCB (base:=17) ⟨Nat.le_of_ble_eq_true rfl,Nat.le_of_ble_eq_true rfl,Nat.le_of_ble_eq_true rfl,⟨rfl,rfl⟩⟩ (fun hfit=>?_)
 unfold F0 zCe
 refine goU ?_
 refine zAa (by rfl) trivial (fun hb=>?_) (fun hb=>?_)
 ·subst hb
  try simp (maxSteps:=2000000) only [go_sem,Int.reduceToNat]
  repeat with_reducible refine zAt ?_
  exact zCj rfl rfl
 ·subst hb
  refine goW ?_
  exact zCj rfl rfl
theorem yLt (c:Fd) (b:Bool) (h:c.r≤1000000000):Contract Tryz.prog zAs [.io (fdV c),.val (bv b),.val (iv 3)] {res:=.tup [],io:=fdV (c.add (fR b))}:=by
 unfold fdV
 refine mkA zCB (base:=17) ⟨Nat.le_of_ble_eq_true rfl,Nat.le_of_ble_eq_true rfl,Nat.le_of_ble_eq_true rfl,⟨rfl,rfl⟩⟩ (fun hfit=>?_)
 unfold F0 zCe
 refine goU ?_
 refine zAa (by rfl) trivial (fun hb=>?_) (fun hb=>?_)
 ·subst hb
  try simp (maxSteps:=2000000) only [go_sem,Int.reduceToNat]
  repeat with_reducible refine zAt ?_
  exact zCj rfl rfl
 ·subst hb
  refine goW ?_
  exact zCj rfl rfl
theorem yGW (c:Fd) (b:Bool) (h:c.k≤1000000000):Contract Tryz.prog zAs [.io (fdV c),.val (bv b),.val (iv 4)] {res:=.tup [],io:=fdV (c.add (fK b))}:=by
 unfold fdV
 refine mkA zCB (base:=17) ⟨Nat.le_of_ble_eq_true rfl,Nat.le_of_ble_eq_true rfl,Nat.le_of_ble_eq_true rfl,⟨rfl,rfl⟩⟩ (fun hfit=>?_)
 unfold F0 zCe
 refine goU ?_
 refine zAa (by rfl) trivial (fun hb=>?_) (fun hb=>?_)
 ·subst hb
  try simp (maxSteps:=2000000) only [go_sem,Int.reduceToNat]
  repeat with_reducible refine zAt ?_
  exact zCj rfl rfl
 ·subst hb
  refine goW ?_
  exact zCj rfl rfl
def shV (k:Int):PVal:=.agg [bB (yBM k),bB (zO4 k),bB (yMe k),bB (zHD k)]
def kOk (k:Int):Bool:=decide (1≤k∧k≤15)
theorem yJD (k:Int):Contract Tryz.prog zNZ [.val (iv k)] {res:=.tup [shV k,bv (kOk k)]}:=by
 refine mkA yHZ (base:=0) (fo rfl) (fun hfit=>?_)
 unfold F0 yCD
 refine goU ?_
 by_cases hk:1≤k∧k≤15
 ·have hn:k=1∨k=2∨k=3∨k=4∨k=5∨k=6∨k=7∨k=8∨k=9∨k=10∨k=11∨k=12∨k=13∨k=14∨k=15:=by omega
  rcases hn with rfl|rfl|rfl|rfl|rfl|rfl|rfl|rfl|rfl|rfl|rfl|rfl|rfl|rfl|rfl
  all_goals
   repeat (first|(refine zL0 (by rfl) trivial ?_;(try simp (maxSteps:=2000000) only [go_sem]))|(refine zH9 (by rfl) trivial ?_;(try simp (maxSteps:=2000000) only [go_sem])))
   exact zBd (by simp) ⟨zQH rfl rfl (.inl rfl),zAH rfl trivial (.inl rfl),rfl⟩
 ·have e:∀ n:Int,1≤n→n≤15→(k==n)=false:=by intro n h1 h2;simp;omega
  have hs:shV k=.agg [bB false,bB false,bB false,bB false]:=by
   unfold shV
   congr 2
   ·unfold yBM;congr 2;simp;omega
   ·congr 1
    ·unfold zO4;congr 2;simp;omega
    ·congr 1
     ·unfold yMe;congr 2;simp;omega
     ·congr 1
      unfold zHD;congr 2;simp;omega
  have ho:kOk k=false:=by unfold kOk;simp;omega
  rw [hs,ho]
  try simp (maxSteps:=2000000) only [go_sem,e 1 (by omega) (by omega),e 2 (by omega) (by omega),e 3 (by omega) (by omega),e 4 (by omega) (by omega),e 5 (by omega) (by omega),e 6 (by omega) (by omega),e 7 (by omega) (by omega),e 8 (by omega) (by omega),e 9 (by omega) (by omega),e 10 (by omega) (by omega),e 11 (by omega) (by omega),e 12 (by omega) (by omega),e 13 (by omega) (by omega),e 14 (by omega) (by omega),e 15 (by omega) (by omega)]
  repeat (refine zH9 (by rfl) trivial ?_;(try simp (maxSteps:=2000000) only [go_sem,e 1 (by omega) (by omega),e 2 (by omega) (by omega),e 3 (by omega) (by omega),e 4 (by omega) (by omega),e 5 (by omega) (by omega),e 6 (by omega) (by omega),e 7 (by omega) (by omega),e 8 (by omega) (by omega),e 9 (by omega) (by omega),e 10 (by omega) (by omega),e 11 (by omega) (by omega),e 12 (by omega) (by omega),e 13 (by omega) (by omega),e 14 (by omega) (by omega),e 15 (by omega) (by omega)]))
  exact zBd (by simp) ⟨zQH rfl rfl (.inl rfl),zAH rfl trivial (.inl rfl),rfl⟩
theorem yDf:Contract Tryz.prog zHl [] {res:=.val (.agg [bI 2,bI 4,bI 1,bI 3])}:=by
 refine mkA zY8 (base:=0) (fo rfl) (fun hfit=>?_)
 unfold F0 zPb
 refine goU ?_
 exact zRt rfl rfl rfl
end Go.Hx
end

section
set_option maxRecDepth 100000
set_option linter.unusedSimpArgs false
namespace Go.Hx
open Go.Proofs
variable [Glob]
attribute [local go_sem] zAk zAl zAj zAf ndV zAm zAh fdV zAQ zAY zBh zBp
attribute [local go_sem] reduceCtorEq Nat.reduceAdd Nat.reduceEqDiff reduceIte Nat.reduceLeDiff Nat.reduceLT Nat.reduceSub
theorem zA0 {α:Type} {d:α} {l:List α} {i:Nat} (h:i < l.length):l.drop i=l.getD i d::l.drop (i+1):=by
 rw [List.drop_eq_getElem_cons h]
 simp [h]
def yRe (P:Program) (N:Nat):Prop:=
 (∀ (l:List Pt) (d K:Nat) (c:Fd),SizeOf.sizeOf l≤N→d≤4→c.le K→K+bd d≤1000000000→Contract P zBB [.io (fdV c),.val (zAQ l),.val (iv d)] {res:=.tup [],io:=fdV (c.add (ntL l d))})∧
 (∀ (s:St) (d K:Nat) (c:Fd),SizeOf.sizeOf s≤N→d≤3→c.le K→K+bdS d≤1000000000→Contract P zCA [.io (fdV c),.val (.agg (stV s)),.val (iv d)] {res:=.tup [],io:=fdV (c.add (ntS s d))})
theorem yJE (N:Nat) (ih:yRe Tryz.prog N) (l:List Pt) (d K:Nat) (c:Fd) (hN:SizeOf.sizeOf l≤N+1) (hd:d≤4) (hc:c.le K) (hK:K+bd d≤1000000000):Contract Tryz.prog zBB [.io (fdV c),.val (zAQ l),.val (iv d)] {res:=.tup [],io:=fdV (c.add (ntL l d))}:=by
 unfold fdV zAQ
 refine mkA zOc (base:=83) ⟨Nat.le_of_ble_eq_true rfl,Nat.le_of_ble_eq_true rfl,Nat.le_of_ble_eq_true rfl,⟨rfl,rfl⟩⟩ (fun hfit=>?_)
 unfold F0 zHx
 refine goU ?_
 have hlb:(bif bif decide (3 < (d:Int)) then true else decide ((l.length:Int) < 1) then true else decide (5 < (l.length:Int)))=zIc l d:=by
  have e1:decide (3 < (d:Int))=decide (3 < d):=decide_eq_decide.2 (by omega)
  have e2:decide ((l.length:Int) < 1)=decide (l.length < 1):=decide_eq_decide.2 (by omega)
  have e3:decide (5 < (l.length:Int))=decide (5 < l.length):=decide_eq_decide.2 (by omega)
  unfold zIc
  rw [e1,e2,e3]
  cases decide (3 < d)<;>cases decide (l.length < 1)<;>rfl
 refine zAa (by rfl) trivial (fun h=>?_) (fun h=>?_)
 ·rw [hlb] at h
  have e:ntL l d=fM true:=by unfold ntL;rw [if_pos h]
  refine goW ?_
  have hb1:=zYs (4-d)
  have hb2:bd d=bdF (4-d):=rfl
  have hm:=hc.m
  refine zDR (by repeat' constructor) (yAP c true (by omega)) ?_
  refine goW ?_
  rw [e]
  exact zYp rfl rfl
 ·rw [hlb] at h
  have e:ntL l d=yD8 l d:=by unfold ntL;rw [if_neg (by rw [h];simp)]
  rw [e]
  have hd3:d≤3∧l.length≤5:=by
   simp only [zIc,Bool.or_eq_false_iff,decide_eq_false_iff_not] at h
   omega
  have hbd:=yNw hd3.1
  refine goW ?_
  have hK0:K+(1+(l.length-0) * bdP d)≤1000000000:=by
   have:(l.length-0) * bdP d≤5 * bdP d:=Nat.mul_le_mul_right _ (by omega)
   omega
  refine zAd (fun x:Nat×Fd=>[(7,.un),(9,.un),(11,.un),(28,.pv (iv x.1)),(29,.un),(51,.un),(55,.un),(56,.un),(57,.un),(58,.un),(71,.un),(72,.un),(73,.un),(74,.un),(84,.pv (.one (bI x.2.f))),(85,.pv (.one (bI x.2.m))),(86,.pv (.one (bI x.2.r))),(87,.pv (.one (bI x.2.k))),(90,.un),(91,.un)]) (fun x:Nat×Fd=>l.length-x.1) (fun x:Nat×Fd=>x.1≤l.length∧(∃ K',x.2.le K'∧K'+(1+(l.length-x.1) * bdP d)≤1000000000)∧x.2.add (yD8 (l.drop x.1) d)=c.add (yD8 l d)) ((0,c)) ?_ ⟨Nat.zero_le _,⟨K,hc,hK0⟩,by simp⟩ ?_
  focus (exact leA)
  rintro ⟨i,a⟩ ⟨hi,⟨K',ha,hK'⟩,hsum⟩
  simp only at hi ha hK' hsum
  refine goW ?_
  have hbx:bd d≤1000000000:=by omega
  refine zAa (by rfl) trivial (fun h2=>?_) (fun h2=>?_)
  ·have hil:i < l.length:=by simp at h2;omega
   rw [zA0 (d:=default) hil] at hsum
   obtain ⟨p,hp⟩:∃ p,p=l.getD i default:=⟨_,rfl⟩
   rw [←hp] at hsum
   have hg:(zL2 l).getD i []=[.sl 2 (zNJ p.steps),.sl 1 (zAy p.links)]:=by rw [zEA l i hil,←hp,zDM]
   have hsz:SizeOf.sizeOf p.steps≤N:=by
    have h3:=zL4 p
    have h4:=yJn hil
    rw [←hp] at h4
    omega
   have hmul:(l.length-i) * bdP d=bdP d+(l.length-(i+1)) * bdP d:=by
    have:l.length-i=(l.length-(i+1))+1:=by omega
    rw [this,Nat.add_mul];omega
   have hbp:bdP d=4+5 * bdS d:=rfl
   have hin:(bif decide ((p.steps.length:Int) < 1) then true else decide (5 < (p.steps.length:Int)))=false→inR .i64 ((p.steps.length:Int)-1):=by
    intro h5
    have:¬ 5 < (p.steps.length:Int):=by
     intro h6
     rw [decide_eq_true h6] at h5
     cases hq:decide ((p.steps.length:Int) < 1)<;>rw [hq] at h5<;>cases h5
    exact zGu (by omega) (by omega)
   try simp (maxSteps:=2000000) only [go_sem,hg]
   repeat with_reducible refine zAt ?_
   have hpb:(bif bif decide ((p.steps.length:Int) < 1) then true else decide (5 < (p.steps.length:Int)) then true else (p.links.length:Int) != (p.steps.length:Int)-1)=yEw p:=by
    have e2:decide ((p.steps.length:Int) < 1)=decide (p.steps.length < 1):=decide_eq_decide.2 (by omega)
    have e3:decide (5 < (p.steps.length:Int))=decide (5 < p.steps.length):=decide_eq_decide.2 (by omega)
    have e4:((p.links.length:Int) != (p.steps.length:Int)-1)=decide ((p.links.length:Int)≠p.steps.length-1):=by
     by_cases h5:(p.links.length:Int)=(p.steps.length:Int)-1<;>simp [h5]
    unfold yEw
    rw [e2,e3,e4]
    cases decide (p.steps.length < 1)<;>cases decide (5 < p.steps.length)<;>rfl
   simp only [yD8] at hsum
   refine zAa (by rfl) trivial (fun h3=>?_) (fun h3=>?_)
   ·rw [hpb] at h3
    rw [if_pos h3] at hsum
    rw [←hsum]
    refine goW ?_
    have hm:=ha.m
    refine zDR (by repeat' constructor) (yAP a true (by omega)) ?_
    refine goW ?_
    exact zYp rfl rfl
   ·rw [hpb] at h3
    rw [if_neg (by rw [h3];simp)] at hsum
    have hpl:p.steps.length≤5∧(p.links.length:Int)=p.steps.length-1:=by
     simp only [yEw,Bool.or_eq_false_iff,decide_eq_false_iff_not] at h3
     omega
    have hK1:K'+(p.links.length-0)≤K'+4:=by omega
    refine goW ?_
    refine zAd (fun x:Nat×Fd=>[(9,.un),(57,.pv (iv x.1)),(58,.un),(67,.un),(84,.pv (.one (bI x.2.f))),(85,.pv (.one (bI x.2.m))),(86,.pv (.one (bI x.2.r))),(87,.pv (.one (bI x.2.k)))]) (fun x:Nat×Fd=>p.links.length-x.1) (fun x:Nat×Fd=>x.1≤p.links.length∧(∃ K2,x.2.le K2∧K2+(p.links.length-x.1)≤K'+4)∧x.2.add (yGQ (p.links.drop x.1))=a.add (yGQ p.links)) ((0,a)) ?_ ⟨Nat.zero_le _,⟨K',ha,hK1⟩,by simp⟩ ?_
    focus (exact leA)
    rintro ⟨j,b⟩ ⟨hj,⟨K2,hb,hK2⟩,hsb⟩
    simp only at hj hb hK2 hsb
    refine goW ?_
    refine zAa (by rfl) trivial (fun h4=>?_) (fun h4=>?_)
    ·have hjl:j < p.links.length:=by simp at h4;omega
     rw [zA0 (d:=0) hjl] at hsb
     have hg2:=zCO p.links j hjl
     obtain ⟨v,hv⟩:∃ v,v=p.links.getD j 0:=⟨_,rfl⟩
     rw [←hv] at hg2 hsb
     have hvb:(bif decide (v < 1) then true else decide (4 < v))=zPz v:=by
      unfold zPz
      by_cases h5:v < 1<;>by_cases h6:4 < v<;>simp [h5,h6]<;>omega
     have hk:=hb.k
     try simp (maxSteps:=2000000) only [go_sem,hg2]
     repeat with_reducible refine zAt ?_
     refine zDR (by repeat' constructor) (yGW b (bif decide (v < 1) then true else decide (4 < v)) (by omega)) ?_
     try simp (maxSteps:=2000000) only [go_sem,hvb]
     repeat with_reducible refine zAt ?_
     refine ⟨(j+1,b.add (fK (zPz v))),by simp only;omega,⟨by simp only;omega,⟨K2+1,hb.le_add (yNx _),by simp only;omega⟩,?_⟩,?_⟩
     ·simp only
      rw [←hsb,Fd.add_assoc]
      congr 1
      simp only [yGQ,Fd.add,fK,List.countP_cons,nB]
      congr 1
      split<;>omega
     ·exact leA
    ·have hjl:j=p.links.length:=by simp at h4;omega
     subst hjl
     rw [List.drop_length] at hsb
     have e5:b=a.add (yGQ p.links):=by
      rw [←hsb]
      simp [yGQ,Fd.add]
     have hK3:K2≤K'+4:=by omega
     have hK4:K2+(p.steps.length-0) * bdS d≤K'+bdP d:=by
      have:(p.steps.length-0) * bdS d≤5 * bdS d:=Nat.mul_le_mul_right _ (by omega)
      omega
     refine goW ?_
     refine zAd (fun x:Nat×Fd=>[(11,.un),(73,.pv (iv x.1)),(74,.un),(84,.pv (.one (bI x.2.f))),(85,.pv (.one (bI x.2.m))),(86,.pv (.one (bI x.2.r))),(87,.pv (.one (bI x.2.k))),(90,.un),(91,.un)]) (fun x:Nat×Fd=>p.steps.length-x.1) (fun x:Nat×Fd=>x.1≤p.steps.length∧(∃ K3,x.2.le K3∧K3+(p.steps.length-x.1) * bdS d≤K'+bdP d)∧x.2.add (yGR (p.steps.drop x.1) d)=b.add (yGR p.steps d)) ((0,b)) ?_ ⟨Nat.zero_le _,⟨K2,hb,hK4⟩,by simp⟩ ?_
     focus (exact leA)
     rintro ⟨k,e6⟩ ⟨hk,⟨K3,he6,hK5⟩,hse⟩
     simp only at hk he6 hK5 hse
     refine goW ?_
     refine zAa (by rfl) trivial (fun h6=>?_) (fun h6=>?_)
     ·have hkl:k < p.steps.length:=by simp at h6;omega
      rw [zA0 (d:=default) hkl] at hse
      obtain ⟨q,hq⟩:∃ q,q=p.steps.getD k default:=⟨_,rfl⟩
      rw [←hq] at hse
      have hg3:(zNJ p.steps).getD k []=[bS q.tag,.sl 6 (yBL q.tests)]:=by rw [zDY _ k hkl,←hq,zGv]
      have hqs:SizeOf.sizeOf q≤N:=by
       have h7:=yJm hkl
       rw [←hq] at h7
       omega
      have hmul2:(p.steps.length-k) * bdS d=bdS d+(p.steps.length-(k+1)) * bdS d:=by
       have:p.steps.length-k=(p.steps.length-(k+1))+1:=by omega
       rw [this,Nat.add_mul];omega
      have hst:=ih.2 q d K3 e6 hqs hd3.1 he6 (by omega)
      rw [zGv] at hst
      unfold fdV at hst
      try simp (maxSteps:=2000000) only [go_sem,hg3]
      repeat with_reducible refine zAt ?_
      refine zDR (by repeat' constructor) (hst) ?_
      refine goW ?_
      refine ⟨(k+1,e6.add (ntS q d)),by simp only;omega,⟨by simp only;omega,⟨K3+bdS d,he6.le_add (b_S q d),by simp only;omega⟩,?_⟩,?_⟩
      ·simp only [yGR] at hse ⊢
       rw [←hse,Fd.add_assoc]
      ·exact leA
     ·have hkl:k=p.steps.length:=by simp at h6;omega
      subst hkl
      rw [List.drop_length] at hse
      have e7:e6=b.add (yGR p.steps d):=by rw [←hse];rfl
      refine goW ?_
      refine ⟨(i+1,e6),by simp only;omega,⟨by simp only;omega,⟨K3,he6,by simp only;omega⟩,?_⟩,?_⟩
      ·simp only
       rw [←hsum,e7,e5,yPK,Fd.add_assoc,Fd.add_assoc,Fd.add_assoc]
      ·exact leA
  ·have hil:i=l.length:=by simp at h2;omega
   subst hil
   rw [List.drop_length] at hsum
   refine goW ?_
   rw [←hsum]
   exact zCj rfl rfl
end Go.Hx
end

section
set_option maxRecDepth 100000
set_option linter.unusedSimpArgs false
set_option maxHeartbeats 4000000
namespace Go.Hx
open Go.Proofs
variable [Glob]
attribute [local go_sem] zAk zAl zAj zAf ndV zAm zAh zCw entV
attribute [local go_sem] reduceCtorEq Nat.reduceAdd Nat.reduceEqDiff reduceIte Nat.reduceLeDiff Nat.reduceLT Nat.reduceSub
theorem yLu {n:Nat} (h:n * 8≤140737488355328):zNQ Tryz.prog zAr n:=.inr ⟨8,by kernel_rfl,by simp only [maxLen];omega,h⟩
theorem yFG (l:List Int) (h:l.length * 8≤140737488355328):Contract Tryz.prog zC4 [.val (.one (.sl 1 (zAy l)))] {res:=.own zAr 1 (zAy l)}:=by
 have hr:=yLu h
 refine mkA zLv (base:=0) (fo rfl) (fun hfit=>?_)
 unfold F0 zFS
 refine goU ?_
 intro b hb
 refine zAa (by rfl) trivial (fun h1=>?_) (fun h1=>?_)
 ·refine goW ?_
  have:zAy l=[]:=by
   cases hl:zAy l with
   |nil=>rfl
   |cons x y=>have:=hb (by rw [hl];simp);rw [this] at h1;cases h1
  rw [this]
  exact zF0 rfl
 ·refine goW ?_
  exact zF0 rfl
theorem yFH (a b:List Int):Contract Tryz.prog zC5 [.val (.one (.sl 1 (zAy a))),.val (.one (.sl 1 (zAy b)))] {res:=.val (bv (a==b))}:=by
 refine mkA zLG (base:=0) (fo rfl) (fun hfit=>?_)
 unfold F0 zFT
 refine goU ?_
 have ha:=zDn (k:=1) hfit.1
 rw [zAf] at ha
 refine zAa (by rfl) trivial (fun h1=>?_) (fun h1=>?_)
 ·refine goW ?_
  refine zAb rfl trivial (.inl ?_)
  congr 3
  have:a≠b:=by rintro rfl;simp at h1
  simp [this]
 have hl:a.length=b.length:=by simp at h1;omega
 refine goW ?_
 refine zAd (fun i:Nat=>[(13,.pv (iv i)),(4,.un),(5,.un),(14,.un),(24,.un)]) (fun i:Nat=>a.length-i) (fun i:Nat=>i≤a.length∧(a.drop i==b.drop i)=(a==b)) (0) ?_ ⟨Nat.zero_le _,rfl⟩ ?_
 focus (exact leA)
 rintro i ⟨hi,hinv⟩
 refine goW ?_
 refine zAa (by rfl) trivial (fun h2=>?_) (fun h2=>?_)
 ·have hil:i < a.length:=by simp at h2;omega
  have hib:i < b.length:=by omega
  rw [zA0 (d:=0) hil,zA0 (d:=0) hib] at hinv
  have e1:=zCO a i hil
  have e2:=zCO b i hib
  try simp (maxSteps:=2000000) only [go_sem,e1,e2]
  repeat with_reducible refine zAt ?_
  refine zAa (by rfl) trivial (fun h3=>?_) (fun h3=>?_)
  ·refine goW ?_
   refine zAb rfl trivial (.inl ?_)
   congr 3
   rw [←hinv]
   have:(a.getD i 0==b.getD i 0)=false:=by
    have h4:a.getD i 0≠b.getD i 0:=by simpa using h3
    exact beq_false_of_ne h4
   simp only [List.cons_beq_cons,this,Bool.false_and]
  ·have h4:a.getD i 0=b.getD i 0:=by simpa using h3
   rw [h4] at hinv
   simp only [List.cons_beq_cons,beq_self_eq_true,Bool.true_and] at hinv
   refine goW ?_
   refine ⟨i+1,by omega,⟨by omega,hinv⟩,?_⟩
   exact leA
 ·have hil:i=a.length:=by simp at h2;omega
  refine goW ?_
  refine zAb rfl trivial (.inl ?_)
  congr 3
  rw [←hinv,hil,List.drop_length,hl,List.drop_length]
  rfl
theorem yNE (a b:Ent):(a==b)=(decide (yKC a.key b.key=0)&&(a.nodes==b.nodes)):=by
 rw [Bool.eq_iff_iff]
 simp only [beq_iff_eq,Bool.and_eq_true,decide_eq_true_eq,yJC]
 constructor
 ·rintro rfl;exact ⟨rfl,rfl⟩
 ·rintro ⟨h1,h2⟩;exact Ent.ext' h1 h2
theorem yLv (a b:Ent):Contract Tryz.prog zDE [.val (.agg (entV a)),.val (.agg (entV b))] {res:=.val (bv (a==b))}:=by
 have h1:=yND a b
 have h2:=yFH a.nodes b.nodes
 rw [yNE]
 unfold entV at h1 ⊢
 obtain ⟨o,ho⟩:∃ o,o=yKC a.key b.key:=⟨_,rfl⟩
 rw [←ho] at h1 ⊢
 refine mkA zTm (base:=0) (fo rfl) (fun hfit=>?_)
 unfold F0 zKi
 refine goU ?_
 refine zAc (by repeat' constructor) (h1) ?_
 refine goW ?_
 apply zAg (h2:=fun _=>h2)
 ·(simp (maxSteps:=2000000) only [go_sem];rfl)
 ·intro h;repeat' (first|exact trivial|exact h|refine And.intro ?_ ?_)
 refine goW ?_
 refine zAb rfl trivial (.inl ?_)
 congr 3
 by_cases h:o=0<;>simp [h]
theorem yFI (a b:List Ent):Contract Tryz.prog zBR [.val (.one (.sl 3 (zCv a))),.val (.one (.sl 3 (zCv b))),.val (.one (.clo zDE []))] {res:=.val (bv (a==b))}:=by
 refine mkA zGk (base:=0) (fo rfl) (fun hfit=>?_)
 unfold F0 zDc
 refine goU ?_
 have ha:=zDn (k:=3) hfit.1
 rw [zCw] at ha
 refine zAa (by rfl) trivial (fun h1=>?_) (fun h1=>?_)
 ·refine goW ?_
  refine zAb rfl trivial (.inl ?_)
  congr 3
  have:a≠b:=by rintro rfl;simp at h1
  simp [this]
 have hl:a.length=b.length:=by simp at h1;omega
 refine goW ?_
 refine zAd (fun i:Nat=>[(17,.pv (iv i)),(6,.un),(7,.un),(8,.un),(9,.un),(18,.un),(30,.un),(32,.un),(33,.un),(34,.un),(35,.un),(36,.un),(37,.un)]) (fun i:Nat=>a.length-i) (fun i:Nat=>i≤a.length∧(a.drop i==b.drop i)=(a==b)) (0) ?_ ⟨Nat.zero_le _,rfl⟩ ?_
 focus (exact leA)
 rintro i ⟨hi,hinv⟩
 refine goW ?_
 refine zAa (by rfl) trivial (fun h2=>?_) (fun h2=>?_)
 ·have hil:i < a.length:=by simp at h2;omega
  have hib:i < b.length:=by omega
  rw [zA0 (d:=default) hil,zA0 (d:=default) hib] at hinv
  have e1:=zJc a i hil
  have e2:=zJc b i hib
  have hc:=yLv (a.getD i default) (b.getD i default)
  unfold entV at e1 e2 hc
  try simp (maxSteps:=2000000) only [go_sem,e1,e2]
  repeat with_reducible refine zAt ?_
  refine zDm (by rfl) trivial (by repeat' constructor) (hc) ?_
  refine goW ?_
  refine zAa (by rfl) trivial (fun h3=>?_) (fun h3=>?_)
  ·refine goW ?_
   refine zAb rfl trivial (.inl ?_)
   congr 3
   rw [←hinv]
   have h4:(a.getD i default==b.getD i default)=false:=by simpa using h3
   simp only [List.cons_beq_cons,h4,Bool.false_and]
  ·have h4:(a.getD i default==b.getD i default)=true:=by simpa using h3
   simp only [List.cons_beq_cons,h4,Bool.true_and] at hinv
   refine goW ?_
   refine ⟨i+1,by omega,⟨by omega,hinv⟩,?_⟩
   exact leA
 ·have hil:i=a.length:=by simp at h2;omega
  refine goW ?_
  refine zAb rfl trivial (.inl ?_)
  congr 3
  rw [←hinv,hil,List.drop_length,hl,List.drop_length]
  rfl
theorem zHz (a b:Ent) (z z':PV):Contract Tryz.prog zBI [.val (.agg [bI a.kind,bS a.name,z]),.val (.agg [bI b.kind,bS b.name,z'])] {res:=.val (bv (zAx b.key a.key))}:=by
 unfold zAx
 show Contract Tryz.prog _ _ {res:=.val (bv (if b.kind=a.kind then Op.bytesLess b.name a.name else decide (b.kind < a.kind)))}
 refine mkA zQe (base:=0) (fo rfl) (fun hfit=>?_)
 unfold F0 zIY
 refine goU ?_
 refine zAa (by rfl) trivial (fun h1=>?_) (fun h1=>?_)
 ·refine goW ?_
  refine zAb rfl trivial (.inl ?_)
  have h2:b.kind≠a.kind:=by intro e;simp [e] at h1
  rw [if_neg h2]
 ·have h2:a.kind=b.kind:=by simpa using h1
  refine goW ?_
  refine zAb rfl trivial (.inl ?_)
  congr 3
  rw [if_pos h2.symm,Bool.eq_iff_iff]
  cases h3:Op.bytesLess b.name a.name with
  |true=>
   have h4:Op.bytesLess a.name b.name=false:=by
    cases h5:Op.bytesLess a.name b.name with
    |false=>rfl
    |true=>have:=zKu _ _ _ h3 h5;rw [zIb] at this;cases this
   rw [h4]
   have h6:a.name≠b.name:=by intro e;rw [e,zIb] at h3;cases h3
   simp [h6]
  |false=>
   cases h5:Op.bytesLess a.name b.name with
   |true=>simp
   |false=>simp [zRu _ _ h5 h3]
end Go.Hx
end

section
set_option maxRecDepth 100000
set_option linter.unusedSimpArgs false
set_option maxHeartbeats 4000000
namespace Go.Hx
open Go.Proofs
variable [Glob]
attribute [local go_sem] zAk zAl zAj zAf ndV zAm zAh zCw
attribute [local go_sem] reduceCtorEq Nat.reduceAdd Nat.reduceEqDiff reduceIte Nat.reduceLeDiff Nat.reduceLT Nat.reduceSub
theorem zOt (a b:List Ent):Contract Tryz.prog zDF [.val (.one (.sl 3 (zCv a))),.val (.one (.sl 3 (zCv b)))] {res:=.val (bv (a==b))}:=by
 refine mkA zNk (base:=0) (fo rfl) (fun hfit=>?_)
 unfold F0 zG5
 refine goU ?_
 have ha:=zDn (k:=3) hfit.1
 rw [zCw] at ha
 refine zAa (by rfl) trivial (fun h1=>?_) (fun h1=>?_)
 ·refine goW ?_
  refine zAb rfl trivial (.inl ?_)
  congr 3
  have:a≠b:=by rintro rfl;simp at h1
  simp [this]
 have hl:a.length=b.length:=by simp at h1;omega
 refine goW ?_
 refine zAd (fun i:Nat=>[(5,.pv (iv i)),(4,.un),(14,.un),(54,.un)]) (fun i:Nat=>a.length-i) (fun i:Nat=>i≤a.length∧(a.drop i==b.drop i)=(a==b)) (0) ?_ ⟨Nat.zero_le _,rfl⟩ ?_
 focus (exact leA)
 rintro i ⟨hi,hinv⟩
 refine goW ?_
 refine zAa (by rfl) trivial (fun h2=>?_) (fun h2=>?_)
 ·have hil:i < a.length:=by simp at h2;omega
  have hib:i < b.length:=by omega
  rw [zA0 (d:=default) hil,zA0 (d:=default) hib] at hinv
  have e1:=zJc a i hil
  have e2:=zJc b i hib
  obtain ⟨x,hx⟩:∃ x,x=a.getD i default:=⟨_,rfl⟩
  obtain ⟨y,hy⟩:∃ y,y=b.getD i default:=⟨_,rfl⟩
  rw [←hx,←hy] at hinv
  rw [←hx] at e1
  rw [←hy] at e2
  have hc:=zCS x.nodes y.nodes
  unfold entV at e1 e2
  have hxy:(x==y)=((x.kind==y.kind)&&(x.name==y.name)&&decide (x.nodes=y.nodes)):=by
   rw [Bool.eq_iff_iff]
   simp only [beq_iff_eq,Bool.and_eq_true,decide_eq_true_eq]
   constructor
   ·rintro rfl;exact ⟨⟨rfl,rfl⟩,rfl⟩
   ·rintro ⟨⟨h1,h2⟩,h3⟩;exact Ent.ext' (Prod.ext h1 h2) h3
  try simp (maxSteps:=2000000) only [go_sem,e1,e2]
  repeat with_reducible refine zAt ?_
  apply zAg (h2:=fun _=>hc)
  ·(simp (maxSteps:=2000000) only [go_sem];rfl)
  ·intro h;repeat' (first|exact trivial|exact h|refine And.intro ?_ ?_)
  refine goW ?_
  refine zAa (by rfl) trivial (fun g3=>?_) (fun g3=>?_)
  ·refine goW ?_
   refine zAb rfl trivial (.inl ?_)
   congr 3
   rw [←hinv]
   have:(x==y)=false:=by
    rw [hxy]
    revert g3
    cases h5:(x.kind==y.kind)<;>cases h6:(x.name==y.name)<;>cases h7:decide (x.nodes=y.nodes)<;>simp [bne,h5,h6,h7]
   simp only [List.cons_beq_cons,this,Bool.false_and]
  ·have:(x==y)=true:=by
    rw [hxy]
    revert g3
    cases h5:(x.kind==y.kind)<;>cases h6:(x.name==y.name)<;>cases h7:decide (x.nodes=y.nodes)<;>simp [bne,h5,h6,h7]
   simp only [List.cons_beq_cons,this,Bool.true_and] at hinv
   refine goW ?_
   refine ⟨i+1,by omega,⟨by omega,hinv⟩,?_⟩
   exact leA
 ·have hil:i=a.length:=by simp at h2;omega
  refine goW ?_
  refine zAb rfl trivial (.inl ?_)
  congr 3
  rw [←hinv,hil,List.drop_length,hl,List.drop_length]
  rfl
end Go.Hx
end
